/- The row and the card of CodecCut: whatever the input, the law returns true. -/
import Derived.Test.YtfpijjjmgggfkaaDoorCC4
import Derived.Recover
import Derived.Defers
import Derived.OwnWalk
import Derived.Test.YtfpijjjmgggfkaaDoorRows
import Derived.Test.YtfpijjjmgggfkaaDoorCards
import Derived.Test.YtfpijjjmgggfkaaDoorTie
import Derived.WalkKit
import Derived.ProofKit
import Derived.OpenShut
import Derived.ShutString
import Derived.ChangeOld
import Derived.Below
import Derived.SizedLaws
import Derived.LaidMore
import Derived.Stop.Joined
import Derived.SevenTiedAt
import Derived.MakeChecks
import Derived.Handed
import Derived.Lib.SmallJoins
import Derived.Carry

namespace Go.Proofs.YtfpijjjmgggfkaaDoorE
open Go Go.RowKit Go.Proofs.YtfpijjjmgggfkaaDoorW.PrintWords Go.Proofs.YtfpijjjmgggfkaaDoorW.PrintMore Go.Proofs.YtfpijjjmgggfkaaDoorW.PrintLast Go.Proofs.YtfpijjjmgggfkaaDoorX Go.Proofs.YtfpijjjmgggfkaaDoor.P26 Go.Proofs.YtfpijjjmgggfkaaDoor.L01
set_option linter.unusedVariables false
set_option linter.unusedSimpArgs false
theorem info_attr : (Tryd.prog.info? 44).map (fun i => (i.zero, i.size, i.bytes)) = some (some (.agg #[.string ⟨#[]⟩, .string ⟨#[]⟩]), k44.sz, 32) := by kernel_rfl
theorem cell_far {w : World} {a : Addr} {v u : Value} {b j : Nat} (h : w.cell? a = some v) (hne : ¬ a.block = b) : (w.setCell ⟨b, j, none⟩ u).cell? a = some v := by
  rw [World.cell?_setCell_other _ _ _ _ (fun e => hne (by rw [← e]))]; exact h
theorem InvO.drew {T : Nat} {W : World} {p : Nat} {ok : Nat → Prop} {b1 : Nat} {o1 : Obj} {b2 : Nat} {o2 : Obj} {b3 : Nat} {o3 : Obj} {s : St} {w : World} (h : InvO T W p ok b1 o1 b2 o2 b3 o3 s w) (L : Lie W p ok b1 b2 b3) : InvO T W p ok b1 o1 b2 o2 b3 o3 s w.drew := h.below L (below_drew (Below.refl _ _))
/-- A call in a drawn region that may end in a panic. -/
theorem goesD_ {P : Program} {ops : Array Oper} {Q : Exit → Act → World → Prop} {oi : Oper} {N : Option Tmp} {a : Act} {w : World} {K : Act → World → Prop} {f : FuncId} {fn : Func} {ag : Array Operand} {ts : Array TypeId} (hf : P.funcs[f]? = some fn) (hname : (fn.name == "runtime.NumGoroutine") = false) (hb : fn.body.isSome = true) (args : Array Value)
    (hw : Region.wanted oi (yielded ops a.tmps) = true) (hN : oi.dst = N) (hop : oi.op = .call { callee := .value (.func f), args := ag, argTypes := ts }) (hargs : ag.map a.eval = args)
    (h : Calls P f args w fun e w' => (∃ v, e = .returned v ∧ K (a.put N v) w') ∨ (∃ ps, e = .panicked ps ∧ Q (.panic ps) a w')) : if Region.wanted oi (yielded ops a.tmps) = true then Oper.wp P oi a w K Q else K (a.put N undef) w := by
  have he := enters_ hf hname hb args w
  have hrun : (execOp a.eval oi).run P w = .ok (.enter f args) w := by
    unfold execOp
    simp [hop, resolve, Deferred.ofValue, invoke, Act.eval, hargs, he]
  rw [if_pos hw]
  subst hN
  unfold Oper.wp
  rw [hrun, Oper.upon_enter]
  refine h.mono fun e w'' hh => ?_
  rcases hh with ⟨v, rfl, hk⟩ | ⟨ps, rfl, hk⟩
  · exact hk
  · exact hk
theorem InvO.textB {W : World} {p : Nat} {ok : Nat → Prop} {b1 : Nat} {o1 : Obj} {b2 : Nat} {o2 : Obj} {b3 : Nat} {o3 : Obj} {s : St} {w : World} (h : InvO 107 W p ok b1 o1 b2 o2 b3 o3 s w) (L : Lie W p ok b1 b2 b3) :
    Calls Tryd.prog 60 #[.agg #[.pointer (some ⟨p, 0, none⟩)]] w fun e w' => ((tS s).2.2 = 0 ∧ e = .returned (.string (tS s).1.1) ∧ (tS s).1.1.size ≤ 65536 ∧ (∀ j, j < w.heap.size → j ≠ p → w'.heap[j]? = w.heap[j]?) ∧ InvO 107 W p ok b1 o1 b2 o2 b3 o3 (tS s).2 w') ∨ ((tS s).2.2 ≠ 0 ∧ e = stopE (tS s).2.2 ∧ But (· = p) W w') := by
  have hv := tS_size s h.at_.2.1
  refine (text_d p ok s w h.at_).mono ?_
  rintro e w' ⟨⟨h0, he, ha⟩ | ⟨h0, he⟩, hb⟩
  · exact .inl ⟨h0, he, hv, fun j h1 h2 => hb.block j h1 h2, h.go L ha hb⟩
  · exact .inr ⟨h0, he, h.but.then_ hb⟩
theorem attrsR_bad1 (d : Nat) (s : St) (h : (tS s).2.2 ≠ 0) : (attrsR (d + 1) s).2 = (tS s).2 := by
  show (attrsR d (tS (tS s).2).2).2 = _
  rw [tS_stick _ h]
  exact attrsR_stick d _ h
theorem attrsR_bad2 (d : Nat) (s : St) (h : (tS (tS s).2).2.2 ≠ 0) : (attrsR (d + 1) s).2 = (tS (tS s).2).2 := attrsR_stick d _ h
/-- What holds behind k attributes. -/
def InvL (w : World) (p : Nat) (ok : Nat → Prop) (c n : Nat) (s5 : St) (t1 t2 t3 : ByteArray) (k : Nat) (wr : World) : Prop :=
  ∃ (l : List S44) (sk : St) (v8 : Value), l.length = k ∧ attrsR n s5 = (l ++ (attrsR (n - k) sk).1, (attrsR (n - k) sk).2) ∧ sk.2 = 0 ∧ (∀ x ∈ l, x.f0.size ≤ 65536 ∧ x.f1.size ≤ 65536) ∧
    InvO 107 w p ok w.heap.size (.cells #[.pointer (some ⟨p, 0, none⟩)] 87) (w.heap.size + 1) (.cells #[.int .i64 0, .int .i64 0, .int .i64 0, .int .i64 0, .string ⟨#[]⟩, .string ⟨#[]⟩, .string ⟨#[]⟩, .string ⟨#[]⟩, .slice none 0 0] 42) c (.cells #[.int .i64 1, .int .i64 0, .int .i64 0, .int .i64 0, .string t1, .string t2, .string ⟨#[]⟩, .string t3, v8] 42) sk wr ∧
    k44.R 44 wr w.heap.size (fun b => b ≠ p ∧ b ≠ w.heap.size ∧ b ≠ w.heap.size + 1 ∧ b ≠ c) v8 l
theorem InvO.grown {T : Nat} {W : World} {p : Nat} {ok : Nat → Prop} {b1 : Nat} {o1 : Obj} {b2 : Nat} {o2 : Obj} {b3 : Nat} {o3 : Obj} {s : St} {w w' : World} (h : InvO T W p ok b1 o1 b2 o2 b3 o3 s w) (L : Lie W p ok b1 b2 b3) {row : Option Nat} (g : w.grownBy w' row) (hr : ∀ k, row = some k → W.heap.size ≤ k ∧ k ≠ b1 ∧ k ≠ b2 ∧ k ≠ b3) : InvO T W p ok b1 o1 b2 o2 b3 o3 s w' := by
  have hp := L.p1
  refine ⟨h.but.grown g (fun k hk => .inr (hr k hk).1), h.at_.but ((But.refl (fun k => row = some k) w).grown g (fun k hk => .inl hk)) (fun k hk => ⟨by have := (hr k hk).1; omega, fun e => by have := L.okp _ e; have := (hr k hk).1; omega⟩), ?_, ?_, ?_⟩
  · exact (g.block b1 (blk_lt' h.k1) (fun e => (hr b1 e.symm).2.1 rfl)).trans h.k1
  · exact (g.block b2 (blk_lt' h.k2) (fun e => (hr b2 e.symm).2.2.1 rfl)).trans h.k2
  · exact (g.block b3 (blk_lt' h.k3) (fun e => (hr b3 e.symm).2.2.2 rfl)).trans h.k3
set_option maxHeartbeats 2000000 in
set_option maxRecDepth 100000 in
theorem op_1 (w0 : World) (hgl : GL w0) (p : Nat) (ok : Nat → Prop) (s : St) (w : World) (hok : ∀ k, ok k → k < p) (hw : Below w0.heap.size w0 w) (hw0 : w0.heap.size ≤ p) (h : AtR 107 p ok s.1 s.2 w) (hk : (nS s 7).1 = (1, 0)) :
    Calls Tryd.prog 41 #[.agg #[.pointer (some ⟨p, 0, none⟩)]] w fun e w' => opPost w p ok (opR s) e w' := by
  have hpw := h.lt
  have H := Aside0.mk h
  have he7 : (nS s 7).2.2 = 0 := by rw [← nS_err, hk]
  have HN : Aside0 (∀ W, AtR 107 p ok s.1 s.2 W → Calls Tryd.prog 40 #[.agg #[.pointer (some ⟨p, 0, none⟩)], .int .u64 7] W fun e w' => e = .returned (.int .i64 1) ∧ AtR 107 p ok (nS s 7).2.1 (nS s 7).2.2 w' ∧ But (· = p) W w') := ⟨fun W hW => (num_d 7 (by omega) p ok s W hW).mono (by
    rintro e w' ⟨⟨h0, he, ha⟩ | ⟨h0, he⟩, hb⟩
    · rw [hk] at he
      exact ⟨he, ha, hb⟩
    · exact absurd he7 h0)⟩
  obtain ⟨s1, hs1⟩ : ∃ s1, s1 = (nS s 7).2 := ⟨_, rfl⟩
  rw [← hs1] at HN
  have HG := Aside0.mk hgl
  have HWW := Aside0.mk hw
  have HS1 := Aside0.mk hs1
  clear h hgl he7 hs1 hw
  go_enter Tryd.func41, Tryd.ntmps41
  go_wp2_with (first
    | (go_at_call 40; (refine (HN.out _ (AtR.al (AtR.al H.out _) _)).mono ?_); rintro e w1 ⟨rfl, h2, h3⟩; have HI0 := Aside0.mk (inv_start 107 w p ok (.cells #[.pointer (some ⟨p, 0, none⟩)] 87) (.cells #[.int .i64 0, .int .i64 0, .int .i64 0, .int .i64 0, .string ⟨#[]⟩, .string ⟨#[]⟩, .string ⟨#[]⟩, .string ⟨#[]⟩, .slice none 0 0] 42) (.cells #[.int .i64 1, .int .i64 0, .int .i64 0, .int .i64 0, .string ⟨#[]⟩, .string ⟨#[]⟩, .string ⟨#[]⟩, .string ⟨#[]⟩, .slice none 0 0] 42) s1 w1 hpw h2 h3); have L := Aside0.mk (lie_start w p ok _ _ w1 hpw hok h3); obtain ⟨c, hc⟩ : ∃ c, c = w1.heap.size := ⟨_, rfl⟩; have hne : ¬ w.heap.size = w1.heap.size := L.out.n13; have hne2 : ¬ w.heap.size + 1 = w1.heap.size := L.out.n23; have q0 := cell_blk (j := 0) (v := .pointer (some ⟨p, 0, none⟩)) HI0.out.k1 rfl; clear h2 h3 hc))
  have HI0' := Aside0.mk (HI0.out.drew L.out)
  have hq0 := cell_drew q0
  clear q0
  refine start_ (n := 12) (S := fun w' => w'.cell? ⟨w.heap.size, 0, none⟩ = some (.pointer (some ⟨p, 0, none⟩))) (ds := []) #[false, false, false, false, false, false, false, false, false, false, false, false] (by kernel_rfl) rfl rfl hq0 (fun hHeld => ?_)
  refine take_ (i := 0) (N := some 14) (v := ?_) (a' := ?_) #[true, false, false, false, false, false, false, false, false, false, false, false] rfl rfl (by kernel_rfl) (fun _ _ _ h => h) (Or.inl ⟨by rfl, ?_⟩) hHeld ?_ ?_
  rotate_left
  · intro w' s0
    go_split_ands
    go_simp
    with_reducible rfl
  rotate_left
  · simp only [Act.put, List.setIfInBounds_toArray, List.set_cons_zero, List.set_cons_succ, i64_w, i32_w]
    rfl
  refine take_ (i := 2) (N := some 16) (v := ?_) (a' := ?_) #[true, false, true, false, false, false, false, false, false, false, false, false] rfl rfl (by kernel_rfl) (fun _ _ _ h => h) (Or.inl ⟨by rfl, ?_⟩) hHeld ?_ ?_
  rotate_left
  · intro w' s0
    go_split_ands
    go_simp
    with_reducible rfl
  rotate_left
  · simp only [Act.put, List.setIfInBounds_toArray, List.set_cons_zero, List.set_cons_succ, i64_w, i32_w]
    rfl
  refine take_ (i := 4) (N := some 18) (v := ?_) (a' := ?_) #[true, false, true, false, true, false, false, false, false, false, false, false] rfl rfl (by kernel_rfl) (fun _ _ _ h => h) (Or.inl ⟨by rfl, ?_⟩) hHeld ?_ ?_
  rotate_left
  · intro w' s0
    go_split_ands
    go_simp
    with_reducible rfl
  rotate_left
  · simp only [Act.put, List.setIfInBounds_toArray, List.set_cons_zero, List.set_cons_succ, i64_w, i32_w]
    rfl
  refine one_ (i := 1) (N := some 15) #[true, true, true, false, true, false, false, false, false, false, false, false] rfl rfl (by kernel_rfl) (by decide) (fun K hK => ?_)
  refine goesD_ Tryd.func60 (by kernel_rfl) rfl #[.agg #[.pointer (some ⟨p, 0, none⟩)]] (by rfl) rfl rfl (by (try simp only [List.map_toArray, List.map_cons, List.map_nil]); first | done | rfl) ?_
  refine (InvO.text HI0'.out L.out).mono ?_
  rintro e w' (⟨he1, rfl, hv1, hI⟩ | ⟨he, rfl, hb⟩)
  rotate_left
  · exact .inr ⟨_, rfl, ⟨rfl, opPost_stop hb he (opR_bad s HS1.out 1 _ hk (by decide) (by simp [bodyR, hS_stick (tS s1).2 he, tS_stick (tS s1).2 he, nS_stick (tS s1).2 64 he, attrsR]) he)⟩⟩
  refine .inl ⟨_, rfl, ?_⟩
  have HI1 := Aside0.mk hI
  have HE1 := Aside0.mk he1
  have HV1 := Aside0.mk hv1
  clear hI he1 hv1
  have q1 := cell_blk (j := 0) (v := (.pointer (some ⟨p, 0, none⟩))) HI1.out.k1 rfl
  refine hK.out _ _ q1 (fun hHeld => ?_)
  clear hK K
  refine norm_ (a' := ?_) ?_ ?_
  rotate_left
  · show Act.put _ (some 15) _ = _
    simp only [Act.put, List.setIfInBounds_toArray, List.set_cons_zero, List.set_cons_succ, i64_w, i32_w]
    rfl
  refine pure_ (i := 6) (N := some 20) (v := ?_) (a' := ?_) #[true, true, true, false, true, false, true, false, false, false, false, false] rfl rfl (by kernel_rfl) (fun _ _ _ h => h) (Or.inl ⟨by rfl, ?_⟩) ?_ ?_
  rotate_left
  · intro w'
    go_simp
    with_reducible rfl
  rotate_left
  · simp only [Act.put, List.setIfInBounds_toArray, List.set_cons_zero, List.set_cons_succ, i64_w, i32_w]
    rfl
  refine one_ (i := 3) (N := some 17) #[true, true, true, true, true, false, true, false, false, false, false, false] rfl rfl (by kernel_rfl) (by decide) (fun K hK => ?_)
  refine goesD_ Tryd.func60 (by kernel_rfl) rfl #[.agg #[.pointer (some ⟨p, 0, none⟩)]] (by rfl) rfl rfl (by (try simp only [List.map_toArray, List.map_cons, List.map_nil]); first | done | rfl) ?_
  refine (InvO.text HI1.out L.out).mono ?_
  rintro e w' (⟨he2, rfl, hv2, hI⟩ | ⟨he, rfl, hb⟩)
  rotate_left
  · exact .inr ⟨_, rfl, ⟨rfl, opPost_stop hb he (opR_bad s HS1.out 1 _ hk (by decide) (by simp [bodyR, hS_stick (tS (tS s1).2).2 he, tS_stick (tS (tS s1).2).2 he, nS_stick (tS (tS s1).2).2 64 he, attrsR]) he)⟩⟩
  refine .inl ⟨_, rfl, ?_⟩
  have HI2 := Aside0.mk hI
  have HE2 := Aside0.mk he2
  have HV2 := Aside0.mk hv2
  clear hI he2 hv2
  have q2 := cell_blk (j := 0) (v := (.pointer (some ⟨p, 0, none⟩))) HI2.out.k1 rfl
  refine hK.out _ _ q2 (fun hHeld => ?_)
  clear hK K
  refine norm_ (a' := ?_) ?_ ?_
  rotate_left
  · show Act.put _ (some 17) _ = _
    simp only [Act.put, List.setIfInBounds_toArray, List.set_cons_zero, List.set_cons_succ, i64_w, i32_w]
    rfl
  refine one_ (i := 5) (N := some 19) #[true, true, true, true, true, true, true, false, false, false, false, false] rfl rfl (by kernel_rfl) (by decide) (fun K hK => ?_)
  refine goesD_ Tryd.func60 (by kernel_rfl) rfl #[.agg #[.pointer (some ⟨p, 0, none⟩)]] (by rfl) rfl rfl (by (try simp only [List.map_toArray, List.map_cons, List.map_nil]); first | done | rfl) ?_
  refine (InvO.text HI2.out L.out).mono ?_
  rintro e w' (⟨he3, rfl, hv3, hI⟩ | ⟨he, rfl, hb⟩)
  rotate_left
  · exact .inr ⟨_, rfl, ⟨rfl, opPost_stop hb he (opR_bad s HS1.out 1 _ hk (by decide) (by simp [bodyR, hS_stick (tS (tS (tS s1).2).2).2 he, tS_stick (tS (tS (tS s1).2).2).2 he, nS_stick (tS (tS (tS s1).2).2).2 64 he, attrsR]) he)⟩⟩
  refine .inl ⟨_, rfl, ?_⟩
  have HI3 := Aside0.mk hI
  have HE3 := Aside0.mk he3
  have HV3 := Aside0.mk hv3
  clear hI he3 hv3
  have q3 := cell_blk (j := 0) (v := (.pointer (some ⟨p, 0, none⟩))) HI3.out.k1 rfl
  refine hK.out _ _ q3 (fun hHeld => ?_)
  clear hK K
  refine norm_ (a' := ?_) ?_ ?_
  rotate_left
  · show Act.put _ (some 19) _ = _
    simp only [Act.put, List.setIfInBounds_toArray, List.set_cons_zero, List.set_cons_succ, i64_w, i32_w]
    rfl
  have x4 := cell_blk (j := 4) (v := .string ⟨#[]⟩) HI3.out.k3 rfl
  have z4 := Lib.frozen_of_heap HI3.out.k3 4
  have x5 := cell_blk (j := 5) (v := .string ⟨#[]⟩) HI3.out.k3 rfl
  have z5 := Lib.frozen_of_heap HI3.out.k3 5
  have x7 := cell_blk (j := 7) (v := .string ⟨#[]⟩) HI3.out.k3 rfl
  have z7 := Lib.frozen_of_heap HI3.out.k3 7
  refine one_ (i := 7) (N := none) #[true, true, true, true, true, true, true, true, false, false, false, false] rfl rfl (by kernel_rfl) (by decide) (fun K hK => ?_)
  refine skip_ (w1 := ?_) (by rfl) rfl ?_ ?_
  rotate_left
  · go_simp
    rfl
  refine hK.out _ _ (cell_far q3 hne) (fun hHeld => ?_)
  clear hK K
  refine pure_ (i := 8) (N := some 21) (v := ?_) (a' := ?_) #[true, true, true, true, true, true, true, true, true, false, false, false] rfl rfl (by kernel_rfl) (fun _ _ _ h => h) (Or.inl ⟨by rfl, ?_⟩) ?_ ?_
  rotate_left
  · intro w'
    go_simp
    with_reducible rfl
  rotate_left
  · simp only [Act.put, List.setIfInBounds_toArray, List.set_cons_zero, List.set_cons_succ, i64_w, i32_w]
    rfl
  refine one_ (i := 9) (N := none) #[true, true, true, true, true, true, true, true, true, true, false, false] rfl rfl (by kernel_rfl) (by decide) (fun K hK => ?_)
  refine skip_ (w1 := ?_) (by rfl) rfl ?_ ?_
  rotate_left
  · go_simp
    rfl
  refine hK.out _ _ (cell_far (cell_far q3 hne) hne) (fun hHeld => ?_)
  clear hK K
  refine pure_ (i := 10) (N := some 22) (v := ?_) (a' := ?_) #[true, true, true, true, true, true, true, true, true, true, true, false] rfl rfl (by kernel_rfl) (fun _ _ _ h => h) (Or.inl ⟨by rfl, ?_⟩) ?_ ?_
  rotate_left
  · intro w'
    go_simp
    with_reducible rfl
  rotate_left
  · simp only [Act.put, List.setIfInBounds_toArray, List.set_cons_zero, List.set_cons_succ, i64_w, i32_w]
    rfl
  refine one_ (i := 11) (N := none) #[true, true, true, true, true, true, true, true, true, true, true, true] rfl rfl (by kernel_rfl) (by decide) (fun K hK => ?_)
  refine skip_ (w1 := ?_) (by rfl) rfl ?_ ?_
  rotate_left
  · go_simp
    rfl
  refine hK.out _ _ (cell_far (cell_far (cell_far q3 hne) hne) hne) (fun hHeld => ?_)
  clear hK K
  refine done_ (by kernel_rfl) ?_
  have HI4 := Aside0.mk (InvO.set (InvO.set (InvO.set HI3.out L.out 4 (.string (tS s1).1.1)) L.out 5 (.string (tS (tS s1).2).1.1)) L.out 7 (.string (tS (tS (tS s1).2).2).1.1))
  have q4 := cell_far (j := 7) (u := .string (tS (tS (tS s1).2).2).1.1) (cell_far (j := 5) (u := .string (tS (tS s1).2).1.1) (cell_far (j := 4) (u := .string (tS s1).1.1) q3 hne) hne) hne
  clear q1 q2 q3 x4 x5 x7 z4 z5 z7 hq0 hHeld
  try clear hHeld
  try clear hHeld
  obtain ⟨s4, hs4⟩ : ∃ s4, s4 = (tS (tS (tS s1).2).2).2 := ⟨_, rfl⟩
  rw [← hs4] at HI4
  have HB1 : Aside0 (bodyR 1 s1 = (⟨1, 0, 0, 0, (tS s1).1.1, (tS (tS s1).2).1.1, em, (tS (tS (tS s1).2).2).1.1, (attrsR (nS s4 64).1.1.toNat (nS s4 64).2).1⟩, (attrsR (nS s4 64).1.1.toNat (nS s4 64).2).2)) := ⟨by rw [hs4]; rfl⟩
  clear hs4
  obtain ⟨t1, ht1⟩ : ∃ t1, t1 = (tS s1).1.1 := ⟨_, rfl⟩
  obtain ⟨t2, ht2⟩ : ∃ t2, t2 = (tS (tS s1).2).1.1 := ⟨_, rfl⟩
  obtain ⟨t3, ht3⟩ : ∃ t3, t3 = (tS (tS (tS s1).2).2).1.1 := ⟨_, rfl⟩
  rw [← ht1] at HI4 HB1 HV1 q4 ⊢
  rw [← ht2] at HI4 HB1 HV2 q4 ⊢
  rw [← ht3] at HI4 HB1 HV3 q4 ⊢
  clear ht1 ht2 ht3
  go_wp2_with (go_at_call 40; (refine (InvO.num HI4.out L.out 64 (by omega)).mono ?_); rintro e w5 (⟨he4, rfl, hv4, hI⟩ | ⟨he, rfl, hb⟩); rotate_left; go_loud (focus (unfold stopE; go_wp2_with fail; exact ⟨rfl, opPost_stop hb he (opR_bad s HS1.out 1 _ hk (by decide) (by rw [HB1.out]; exact congrArg Prod.snd (attrsR_stick _ _ he)) he)⟩)); have HI5 := Aside0.mk hI; have HV4 := Aside0.mk hv4; have HE4 := Aside0.mk he4; clear hI hv4 he4)
  obtain ⟨n, hn⟩ : ∃ n : Nat, (nS s4 64).1.1 = (n : Int) := ⟨(nS s4 64).1.1.toNat, by have := HV4.out.1; omega⟩
  obtain ⟨s5, hs5⟩ : ∃ s5, s5 = (nS s4 64).2 := ⟨_, rfl⟩
  have hn64 : n ≤ 64 := by have := HV4.out.2; omega
  rw [hn] at HB1 ⊢
  rw [← hs5] at HB1 HI5 HE4
  simp only [Int.toNat_natCast] at HB1
  clear hn hs5 HV4
  have HL0 : Aside0 (InvL w p ok w1.heap.size n s5 t1 t2 t3 0 w5) := ⟨[], s5, .slice none 0 0, rfl, by simp, HE4.out, by simp, HI5.out, Kd.R_nil k44 44 _ _ _⟩
  clear HI5 q4
  go_loopw [25] (fun i wr => ∃ k : Nat, k ≤ n ∧ i = .int .i64 k ∧ Aside0 (InvL w p ok w1.heap.size n s5 t1 t2 t3 k wr)) (fun i _ => n - (intOf i).toNat)
  case atStart => exact ⟨0, Nat.zero_le _, rfl, HL0⟩
  case round =>
    obtain ⟨k, hkn, rfl, HR⟩ := hrel
    by_cases hlt : k < n
    · obtain ⟨l, sk, v8, hl, hat, hs0, hsz, hI, hR⟩ := HR.out
      obtain ⟨d, hd⟩ : ∃ d, n - k = d + 1 := ⟨n - k - 1, by omega⟩
      rw [hd] at hat
      have HAT := Aside0.mk hat
      have HSZ := Aside0.mk hsz
      have HL := Aside0.mk hl
      have HRR := Aside0.mk (Kd.R_drew hR)
      have HI6 := Aside0.mk (hI.drew L.out)
      have q6 := cell_blk (j := 0) (v := (.pointer (some ⟨p, 0, none⟩))) HI6.out.k1 rfl
      have y6 := cell_blk (j := 8) (v := v8) HI6.out.k3 rfl
      obtain ⟨A8, c8, rfl⟩ := Kd.R_slice hR
      clear hl hat hs0 hsz hI hR
      go_wp2_with fail
      refine start_ (n := 11) (S := fun w' => w'.cell? ⟨w.heap.size, 0, none⟩ = some (.pointer (some ⟨p, 0, none⟩)) ∧ w'.cell? ⟨w1.heap.size, 8, none⟩ = some (.slice A8 l.length c8)) (ds := [10]) #[false, false, false, false, false, false, false, false, false, false, false] (by kernel_rfl) rfl rfl ⟨q6, y6⟩ (fun hHeld => ?_)
      refine pure_ (i := 0) (N := some 27) (v := ?_) (a' := ?_) #[true, false, false, false, false, false, false, false, false, false, false] rfl rfl (by kernel_rfl) (fun _ _ _ h => h) (Or.inl ⟨by rfl, ?_⟩) ?_ ?_
      rotate_left
      · intro w'
        go_simp
        with_reducible rfl
      rotate_left
      · simp only [Act.put, List.setIfInBounds_toArray, List.set_cons_zero, List.set_cons_succ, i64_w, i32_w]
        rfl
      refine take_ (i := 2) (N := some 29) (v := ?_) (a' := ?_) #[true, false, true, false, false, false, false, false, false, false, false] rfl rfl (by kernel_rfl) (fun _ _ _ h => h) (Or.inl ⟨by rfl, ?_⟩) hHeld ?_ ?_
      rotate_left
      · intro w' s0
        go_split_ands
        go_simp
        with_reducible rfl
      rotate_left
      · simp only [Act.put, List.setIfInBounds_toArray, List.set_cons_zero, List.set_cons_succ, i64_w, i32_w]
        rfl
      refine take_ (i := 4) (N := some 31) (v := ?_) (a' := ?_) #[true, false, true, false, true, false, false, false, false, false, false] rfl rfl (by kernel_rfl) (fun _ _ _ h => h) (Or.inl ⟨by rfl, ?_⟩) hHeld ?_ ?_
      rotate_left
      · intro w' s0
        go_split_ands
        go_simp
        with_reducible rfl
      rotate_left
      · simp only [Act.put, List.setIfInBounds_toArray, List.set_cons_zero, List.set_cons_succ, i64_w, i32_w]
        rfl
      refine take_ (i := 1) (N := some 28) (v := ?_) (a' := ?_) #[true, true, true, false, true, false, false, false, false, false, false] rfl rfl (by kernel_rfl) (fun _ _ _ h => h) (Or.inl ⟨by rfl, ?_⟩) hHeld ?_ ?_
      rotate_left
      · intro w' s0
        go_split_ands
        go_simp
        with_reducible rfl
      rotate_left
      · simp only [Act.put, List.setIfInBounds_toArray, List.set_cons_zero, List.set_cons_succ, i64_w, i32_w]
        rfl
      refine one_ (i := 3) (N := some 30) #[true, true, true, true, true, false, false, false, false, false, false] rfl rfl (by kernel_rfl) (by decide) (fun K hK => ?_)
      refine goesD_ Tryd.func60 (by kernel_rfl) rfl #[.agg #[.pointer (some ⟨p, 0, none⟩)]] (by rfl) rfl rfl (by (try simp only [List.map_toArray, List.map_cons, List.map_nil]); first | done | rfl) ?_
      refine (InvO.textB HI6.out L.out).mono ?_
      rintro e w' (⟨he7, rfl, hv7, hblk, hI⟩ | ⟨he, rfl, hb⟩)
      rotate_left
      · exact .inr ⟨_, rfl, ⟨rfl, opPost_stop hb he (opR_bad s HS1.out 1 _ hk (by decide) (by rw [HB1.out, HAT.out]; exact congrArg Prod.snd (attrsR_bad1 d sk he)) he)⟩⟩
      refine .inl ⟨_, rfl, ?_⟩
      have HRR := Aside0.mk (Kd.R_step HRR.out (fun j hj hlt => hblk j hlt hj.1))
      have HI7 := Aside0.mk hI
      have HE7 := Aside0.mk he7
      have HV7 := Aside0.mk hv7
      clear hI he7 hv7 hblk
      have q7 := cell_blk (j := 0) (v := (.pointer (some ⟨p, 0, none⟩))) HI7.out.k1 rfl
      have y7 := cell_blk (j := 8) (v := .slice A8 l.length c8) HI7.out.k3 rfl
      refine hK.out _ _ ⟨q7, y7⟩ (fun hHeld => ?_)
      clear hK K
      refine norm_ (a' := ?_) ?_ ?_
      rotate_left
      · show Act.put _ (some 30) _ = _
        simp only [Act.put, List.setIfInBounds_toArray, List.set_cons_zero, List.set_cons_succ, i64_w, i32_w]
        rfl
      refine one_ (i := 5) (N := some 32) #[true, true, true, true, true, true, false, false, false, false, false] rfl rfl (by kernel_rfl) (by decide) (fun K hK => ?_)
      refine goesD_ Tryd.func60 (by kernel_rfl) rfl #[.agg #[.pointer (some ⟨p, 0, none⟩)]] (by rfl) rfl rfl (by (try simp only [List.map_toArray, List.map_cons, List.map_nil]); first | done | rfl) ?_
      refine (InvO.textB HI7.out L.out).mono ?_
      rintro e w' (⟨he8, rfl, hv8, hblk, hI⟩ | ⟨he, rfl, hb⟩)
      rotate_left
      · exact .inr ⟨_, rfl, ⟨rfl, opPost_stop hb he (opR_bad s HS1.out 1 _ hk (by decide) (by rw [HB1.out, HAT.out]; exact congrArg Prod.snd (attrsR_bad2 d sk he)) he)⟩⟩
      refine .inl ⟨_, rfl, ?_⟩
      have HRR := Aside0.mk (Kd.R_step HRR.out (fun j hj hlt => hblk j hlt hj.1))
      have HI8 := Aside0.mk hI
      have HE8 := Aside0.mk he8
      have HV8 := Aside0.mk hv8
      clear hI he8 hv8 hblk
      have q8 := cell_blk (j := 0) (v := (.pointer (some ⟨p, 0, none⟩))) HI8.out.k1 rfl
      have y8 := cell_blk (j := 8) (v := .slice A8 l.length c8) HI8.out.k3 rfl
      refine hK.out _ _ ⟨q8, y8⟩ (fun hHeld => ?_)
      clear hK K
      refine norm_ (a' := ?_) ?_ ?_
      rotate_left
      · show Act.put _ (some 32) _ = _
        simp only [Act.put, List.setIfInBounds_toArray, List.set_cons_zero, List.set_cons_succ, i64_w, i32_w]
        rfl
      refine pure_ (i := 6) (N := some 33) (v := ?_) (a' := ?_) #[true, true, true, true, true, true, true, false, false, false, false] rfl rfl (by kernel_rfl) (fun _ _ _ h => h) (Or.inl ⟨by rfl, ?_⟩) ?_ ?_
      rotate_left
      · intro w'
        go_simp
        with_reducible rfl
      rotate_left
      · simp only [Act.put, List.setIfInBounds_toArray, List.set_cons_zero, List.set_cons_succ, i64_w, i32_w]
        rfl
      refine one_ (i := 7) (N := some 34) #[true, true, true, true, true, true, true, true, false, false, false] rfl rfl (by kernel_rfl) (by decide) (fun K hK => ?_)
      refine value_ (w1 := World.alloc w' (.cells #[.string (tS sk).1.1, .string (tS (tS sk).2).1.1] 44)) (v := .slice (some ⟨w'.heap.size, 0, none⟩) 1 1) (by rfl) rfl ?_ ?_
      · go_simp
      refine hK.out _ _ ⟨pw_cell_below (below_alloc (Below.refl _ _) _) q8, pw_cell_below (below_alloc (Below.refl _ _) _) y8⟩ (fun hHeld => ?_)
      clear hK K
      refine norm_ (a' := ?_) ?_ ?_
      rotate_left
      · show Act.put _ (some 34) _ = _
        simp only [Act.put, List.setIfInBounds_toArray, List.set_cons_zero, List.set_cons_succ, i64_w, i32_w]
        rfl
      refine one_ (i := 8) (N := some 35) #[true, true, true, true, true, true, true, true, true, false, false] rfl rfl (by kernel_rfl) (by decide) (fun K hK => ?_)
      refine Kd.R_append_step (w0 := w') (W := w') k44 w.heap.size (by rfl) (.tmp 28) (.tmp 34) 40 44 (.agg #[.string ⟨#[]⟩, .string ⟨#[]⟩]) 32 rfl Tryd.underlying40 info_attr rfl (by decide) (by decide) (.slice A8 l.length c8) l ⟨(tS sk).1.1, (tS (tS sk).2).1.1⟩ [.string (tS sk).1.1, .string (tS (tS sk).2).1.1] (fun b => b ≠ p ∧ b ≠ w.heap.size ∧ b ≠ w.heap.size + 1 ∧ b ≠ w1.heap.size) (fun _ => False) rfl rfl (k44_mkM w' w.heap.size _ ⟨(tS sk).1.1, (tS (tS sk).2).1.1⟩) (fun _ h => h.elim) (fun j hj => ?_) HRR.out (Below.refl _ _) HI8.out.but.size ?_ ?_
      · have a1 := blk_lt' HI8.out.k1
        have a2 := blk_lt' HI8.out.k2
        have a3 := blk_lt' HI8.out.k3
        have a4 := L.out.p1
        exact ⟨by omega, by omega, by omega, by omega⟩
      · have := HL.out; omega
      intro v1 wa hR1 hb1 hg1 hat1
      obtain ⟨A9, c9, rfl⟩ := Kd.R_slice hR1
      have hown : ∀ j, (Value.slice A8 l.length c8).ownBlock = some j → w.heap.size ≤ j ∧ j ≠ w.heap.size ∧ j ≠ w.heap.size + 1 ∧ j ≠ w1.heap.size := fun j hj => ⟨Kd.R_base HRR.out j hj, (HRR.out.1 j hj).2⟩
      have HI9 := Aside0.mk (HI8.out.grown L.out hg1 hown)
      have HR9 := Aside0.mk hR1
      clear hR1 hb1 hg1 hat1 hown
      have q9 := cell_blk (j := 0) (v := (.pointer (some ⟨p, 0, none⟩))) HI9.out.k1 rfl
      have y9 := cell_blk (j := 8) (v := .slice A8 l.length c8) HI9.out.k3 rfl
      have z9 := Lib.frozen_of_heap HI9.out.k3 8
      refine hK.out _ _ ⟨q9, y9⟩ (fun hHeld => ?_)
      clear hK K
      refine norm_ (a' := ?_) ?_ ?_
      rotate_left
      · show Act.put _ (some 35) _ = _
        simp only [Act.put, List.setIfInBounds_toArray, List.set_cons_zero, List.set_cons_succ, i64_w, i32_w]
        rfl
      refine pure_ (i := 9) (N := some 36) (v := ?_) (a' := ?_) #[true, true, true, true, true, true, true, true, true, true, false] rfl rfl (by kernel_rfl) (fun _ _ _ h => h) (Or.inl ⟨by rfl, ?_⟩) ?_ ?_
      rotate_left
      · intro w'
        go_simp
        with_reducible rfl
      rotate_left
      · simp only [Act.put, List.setIfInBounds_toArray, List.set_cons_zero, List.set_cons_succ, i64_w, i32_w]
        rfl
      refine last_ (i := 10) (N := none) #[true, true, true, true, true, true, true, true, true, true, true] rfl rfl (by kernel_rfl) (by decide) (fun K hK => ?_)
      refine skip_ (w1 := ?_) (by rfl) rfl ?_ ?_
      rotate_left
      · go_simp
        rfl
      refine hK.out _ _ ?_
      clear hK K
      refine done_ (by kernel_rfl) ?_
      go_wp2_with fail
      go_roundw
      case rel =>
        refine ⟨k + 1, by omega, by go_num, ⟨l ++ [⟨(tS sk).1.1, (tS (tS sk).2).1.1⟩], (tS (tS sk).2).2, _, by rw [List.length_append, HL.out]; rfl, ?_, HE8.out, ?_, InvO.set HI9.out L.out 8 _, by have h9 := Kd.R_far HR9.out (p := ⟨w1.heap.size, 8, none⟩) (fun j hj => hj.2.2.2) (.slice A9 (l.length + 1) c9); rw [List.length_append] at h9; exact h9⟩⟩
        · rw [HAT.out, show n - (k + 1) = d by omega]
          show (l ++ _ :: _, _) = _
          rw [List.append_assoc]
          rfl
        · intro x hx
          rcases List.mem_append.1 hx with hx | hx
          · exact HSZ.out x hx
          · obtain rfl := List.mem_singleton.1 hx
            exact ⟨HV7.out, HV8.out⟩
      case measure => simp [intOf]; omega
    · obtain rfl : k = n := by omega
      obtain ⟨l, sk, v8, hl, hat, hs0, hsz, hI, hR⟩ := HR.out
      obtain ⟨A8, c8, rfl, hc8, hC8⟩ := Kd.R_reads hR
      rw [Nat.sub_self] at hat
      have hat' : attrsR k s5 = (l, sk) := by rw [hat]; simp [attrsR]
      rw [hat'] at HB1
      have HRR := Aside0.mk hR
      have HI6 := Aside0.mk hI
      have HS0 := Aside0.mk hs0
      have HCK : Aside0 (Calls Tryd.prog 28 #[.agg #[.int .i64 1, .int .i64 0, .int .i64 0, .int .i64 0, .string t1, .string t2, .string ⟨#[]⟩, .string t3, .slice A8 l.length c8]] wr fun e w' => e = .returned (.int .i64 (chk ⟨1, 0, 0, 0, t1, t2, em, t3, l⟩)) ∧ Below wr.heap.size wr w') := ⟨by
        have hw := HWW.out
        have hb : Below w0.heap.size w0 wr := ⟨hI.but.os.trans hw.os, hI.but.tape.trans hw.tape, hI.but.output.trans hw.output, Nat.le_trans hw.size hI.but.size, fun k hk => (hI.but.block k (Nat.lt_of_lt_of_le hk hw.size) (by omega)).trans (hw.block k hk)⟩
        refine Check_x ⟨1, 0, 0, 0, t1, t2, em, t3, l⟩ A8 c8 wr (HG.out.below hb) hC8 hc8 ⟨i64_k 1 (by omega), i64_k 0 (by omega), i64_k 0 (by omega), i64_k 0 (by omega), size_up HV1.out, size_up HV2.out, Nat.zero_le _, size_up HV3.out, by simp only [hl]; omega, fun i hi => ?_⟩
        have hm : rd_T44 l (i : Int) ∈ l := by
          simp only at hi
          unfold rd_T44
          rw [Int.toNat_natCast, List.getD_eq_getElem?_getD, List.getElem?_eq_getElem hi]
          exact List.getElem_mem hi
        exact ⟨size_up (hsz _ hm).1, size_up (hsz _ hm).2⟩⟩
      have HC := hI.k3
      have x0 := cell_blk (j := 0) (v := .int .i64 1) HC rfl; have x1 := cell_blk (j := 1) (v := .int .i64 0) HC rfl; have x2 := cell_blk (j := 2) (v := .int .i64 0) HC rfl; have x3 := cell_blk (j := 3) (v := .int .i64 0) HC rfl; have x4 := cell_blk (j := 4) (v := .string t1) HC rfl; have x5 := cell_blk (j := 5) (v := .string t2) HC rfl; have x6 := cell_blk (j := 6) (v := .string ⟨#[]⟩) HC rfl; have x7 := cell_blk (j := 7) (v := .string t3) HC rfl; have x8 := cell_blk (j := 8) (v := .slice A8 l.length c8) HC rfl; 
      clear hl hat hat' hs0 hsz hI hR hC8 HC
      go_wp2_with (first
        | (go_at_call 28; (refine (HCK.out).mono ?_); rintro e w6 ⟨rfl, hb⟩; have HIC := Aside0.mk (HI6.out.below L.out hb); have HRC := Aside0.mk (Kd.R_below HRR.out hb); clear hb x0 x1 x2 x3 x4 x5 x6 x7 x8; have HC := HIC.out.k3; have x0 := cell_blk (j := 0) (v := .int .i64 1) HC rfl; have x1 := cell_blk (j := 1) (v := .int .i64 0) HC rfl; have x2 := cell_blk (j := 2) (v := .int .i64 0) HC rfl; have x3 := cell_blk (j := 3) (v := .int .i64 0) HC rfl; have x4 := cell_blk (j := 4) (v := .string t1) HC rfl; have x5 := cell_blk (j := 5) (v := .string t2) HC rfl; have x6 := cell_blk (j := 6) (v := .string ⟨#[]⟩) HC rfl; have x7 := cell_blk (j := 7) (v := .string t3) HC rfl; have x8 := cell_blk (j := 8) (v := .slice A8 l.length c8) HC rfl;  have hY := InvO.k2 HIC.out; have HY := Aside0.mk hY; have y0 := cell_blk (j := 0) (v := .int .i64 0) hY rfl; have z0 := Lib.frozen_of_heap hY 0; have y1 := cell_blk (j := 1) (v := .int .i64 0) hY rfl; have z1 := Lib.frozen_of_heap hY 1; have y2 := cell_blk (j := 2) (v := .int .i64 0) hY rfl; have z2 := Lib.frozen_of_heap hY 2; have y3 := cell_blk (j := 3) (v := .int .i64 0) hY rfl; have z3 := Lib.frozen_of_heap hY 3; have y4 := cell_blk (j := 4) (v := .string ⟨#[]⟩) hY rfl; have z4 := Lib.frozen_of_heap hY 4; have y5 := cell_blk (j := 5) (v := .string ⟨#[]⟩) hY rfl; have z5 := Lib.frozen_of_heap hY 5; have y6 := cell_blk (j := 6) (v := .string ⟨#[]⟩) hY rfl; have z6 := Lib.frozen_of_heap hY 6; have y7 := cell_blk (j := 7) (v := .string ⟨#[]⟩) hY rfl; have z7 := Lib.frozen_of_heap hY 7; have y8 := cell_blk (j := 8) (v := .slice none 0 0) hY rfl; have z8 := Lib.frozen_of_heap hY 8; clear HC hY)
        | (go_at_call 42; (refine (must_d _ _).mono ?_); rintro e w7 ⟨⟨hc, rfl⟩ | ⟨hc, rfl⟩, rfl⟩; rotate_left; go_loud (focus (unfold stopE; go_wp2_with fail; exact ⟨rfl, opPost_stop HIC.out.but hc (by rw [opR_good s HS1.out 1 hk (by decide) (by rw [HB1.out]; exact HS0.out), HB1.out])⟩))))
      have hpz := L.out.h2
      have hgood := opR_good s HS1.out 1 hk (by decide) (by rw [HB1.out]; exact HS0.out)
      rw [HB1.out] at hgood
      refine bodyPost_ret (results_cell_row rfl _ _ (w.heap.size + 1) 42 _ (0, 0) _ rfl (set_blk (j := 8) (set_blk (j := 7) (set_blk (j := 6) (set_blk (j := 5) (set_blk (j := 4) (set_blk (j := 3) (set_blk (j := 2) (set_blk (j := 1) (set_blk (j := 0) (HY.out) _) _) _) _) _) _) _) _) _) Tryd.underlying42 rfl (by kernel_rfl)) rfl ?_
      rw [hgood]
      exact opPost_ok (AtB.set (AtB.set (AtB.set (AtB.set (AtB.set (AtB.set (AtB.set (AtB.set (AtB.set ⟨HIC.out.but, HIC.out.at_⟩ hpw hpz hok 0 _) hpw hpz hok 1 _) hpw hpz hok 2 _) hpw hpz hok 3 _) hpw hpz hok 4 _) hpw hpz hok 5 _) hpw hpz hok 6 _) hpw hpz hok 7 _) hpw hpz hok 8 _) hc (.slice A8 l.length c8) rfl (Kd.R_mono (Kd.R_far (Kd.R_far (Kd.R_far (Kd.R_far (Kd.R_far (Kd.R_far (Kd.R_far (Kd.R_far (Kd.R_far (HRC.out) (fun j hj => hj.2.2.1) _) (fun j hj => hj.2.2.1) _) (fun j hj => hj.2.2.1) _) (fun j hj => hj.2.2.1) _) (fun j hj => hj.2.2.1) _) (fun j hj => hj.2.2.1) _) (fun j hj => hj.2.2.1) _) (fun j hj => hj.2.2.1) _) (fun j hj => hj.2.2.1) _) (fun _ _ => trivial))
end Go.Proofs.YtfpijjjmgggfkaaDoorE

namespace Go.Proofs.YtfpijjjmgggfkaaDoorE
open Go Go.RowKit Go.Proofs.YtfpijjjmgggfkaaDoorW.PrintWords Go.Proofs.YtfpijjjmgggfkaaDoorW.PrintMore Go.Proofs.YtfpijjjmgggfkaaDoorX Go.Proofs.YtfpijjjmgggfkaaDoor.P26 Go.Proofs.YtfpijjjmgggfkaaDoor.L01
set_option linter.unusedVariables false
set_option linter.unusedSimpArgs false
section
variable {W : World} {p : Nat} {ok : Nat → Prop} {b1 : Nat} {o1 : Obj} {b2 : Nat} {o2 : Obj} {b3 : Nat} {o3 : Obj} {s : St} {w : World}
end
theorem AtB.drew {T : Nat} {W : World} {p : Nat} {ok : Nat → Prop} {s : St} {w : World} (h : AtB T W p ok s w) : AtB T W p ok s w.drew :=
  ⟨h.but.drew, h.at_.but ((But.refl (fun _ => False) w).below (below_drew (Below.refl _ _))) (fun _ h => h.elim)⟩
end Go.Proofs.YtfpijjjmgggfkaaDoorE

namespace Go.Proofs.YtfpijjjmgggfkaaDoorE
open Go Go.RowKit Go.Proofs.YtfpijjjmgggfkaaDoorW.PrintWords Go.Proofs.YtfpijjjmgggfkaaDoorW.PrintMore Go.Proofs.YtfpijjjmgggfkaaDoorW.PrintLast Go.Proofs.YtfpijjjmgggfkaaDoorX Go.Proofs.YtfpijjjmgggfkaaDoor.P26 Go.Proofs.YtfpijjjmgggfkaaDoor.L01
set_option linter.unusedVariables false
set_option linter.unusedSimpArgs false
set_option maxRecDepth 100000
theorem InvO.far {T : Nat} {W : World} {p : Nat} {ok : Nat → Prop} {b1 : Nat} {o1 : Obj} {b2 : Nat} {o2 : Obj} {b3 : Nat} {o3 : Obj} {s : St} {w : World} (h : InvO T W p ok b1 o1 b2 o2 b3 o3 s w) (L : Lie W p ok b1 b2 b3) {b : Nat} (hb : W.heap.size ≤ b ∧ b ≠ b1 ∧ b ≠ b2 ∧ b ≠ b3) (j : Nat) (v : Value) : InvO T W p ok b1 o1 b2 o2 b3 o3 s (w.setCell ⟨b, j, none⟩ v) := by
  have hp := L.p1
  have hB : But (· = b) w (w.setCell ⟨b, j, none⟩ v) := But.put (S := (· = b)) (But.refl _ w) (j := j) rfl v
  refine ⟨h.but.setCell (.inr hb.1) v, h.at_.but hB (fun k hk => by rw [hk]; exact ⟨by omega, fun e => by have := L.okp _ e; omega⟩), (hB.block b1 (blk_lt' h.k1) (fun e => hb.2.1 e.symm)).trans h.k1, (hB.block b2 (blk_lt' h.k2) (fun e => hb.2.2.1 e.symm)).trans h.k2, (hB.block b3 (blk_lt' h.k3) (fun e => hb.2.2.2 e.symm)).trans h.k3⟩
end Go.Proofs.YtfpijjjmgggfkaaDoorE

namespace Go.Proofs.YtfpijjjmgggfkaaDoorE
open Go Go.RowKit Go.Proofs.YtfpijjjmgggfkaaDoorW.PrintWords Go.Proofs.YtfpijjjmgggfkaaDoorW.PrintMore Go.Proofs.YtfpijjjmgggfkaaDoorX Go.Proofs.YtfpijjjmgggfkaaDoor.P26 Go.Proofs.YtfpijjjmgggfkaaDoor.L01
set_option linter.unusedVariables false
set_option linter.unusedSimpArgs false
set_option maxHeartbeats 2000000 in
set_option maxRecDepth 100000 in
theorem op_2 (w0 : World) (hgl : GL w0) (p : Nat) (ok : Nat → Prop) (s : St) (w : World) (hok : ∀ k, ok k → k < p) (hw : Below w0.heap.size w0 w) (hw0 : w0.heap.size ≤ p) (h : AtR 107 p ok s.1 s.2 w) (hk : (nS s 7).1 = (2, 0)) :
    Calls Tryd.prog 41 #[.agg #[.pointer (some ⟨p, 0, none⟩)]] w fun e w' => opPost w p ok (opR s) e w' := by
  have hpw := h.lt
  have H := Aside0.mk h
  have he7 : (nS s 7).2.2 = 0 := by rw [← nS_err, hk]
  have HN : Aside0 (∀ W, AtR 107 p ok s.1 s.2 W → Calls Tryd.prog 40 #[.agg #[.pointer (some ⟨p, 0, none⟩)], .int .u64 7] W fun e w' => e = .returned (.int .i64 2) ∧ AtR 107 p ok (nS s 7).2.1 (nS s 7).2.2 w' ∧ But (· = p) W w') := ⟨fun W hW => (num_d 7 (by omega) p ok s W hW).mono (by
    rintro e w' ⟨⟨h0, he, ha⟩ | ⟨h0, he⟩, hb⟩
    · rw [hk] at he
      exact ⟨he, ha, hb⟩
    · exact absurd he7 h0)⟩
  obtain ⟨s1, hs1⟩ : ∃ s1, s1 = (nS s 7).2 := ⟨_, rfl⟩
  rw [← hs1] at HN
  have hB0 := H.out.2.1
  have hB1 := (nS_bytes s 7 hB0).1
  rw [← hs1] at hB1
  have hn1 : num32 (hS s1).1.1 := nS_val s1 4294967295 hB1 (by omega)
  have hB2 := (nS_bytes s1 4294967295 hB1).1
  have hn2 : num32 (hS (hS s1).2).1.1 := nS_val (hS s1).2 4294967295 hB2 (by omega)
  have hB3 := (nS_bytes (hS s1).2 4294967295 hB2).1
  have hn3 : num32 (hS (hS (hS s1).2).2).1.1 := nS_val (hS (hS s1).2).2 4294967295 hB3 (by omega)
  have hB4 := (nS_bytes (hS (hS s1).2).2 4294967295 hB3).1
  have HCK : Aside0 (∀ {b1 b2 b3 : Nat} {o1 o2 o3 : Obj} W, InvO 107 w p ok b1 o1 b2 o2 b3 o3 (hS (hS (hS s1).2).2).2 W ∧ Lie w p ok b1 b2 b3 → Calls Tryd.prog 28 #[.agg #[.int .i64 2, .int .i64 (hS s1).1.1, .int .i64 (hS (hS s1).2).1.1, .int .i64 (hS (hS (hS s1).2).2).1.1, .string ⟨#[]⟩, .string ⟨#[]⟩, .string ⟨#[]⟩, .string ⟨#[]⟩, .slice none 0 0]] W fun e w' => e = .returned (.int .i64 (chk ⟨2, (hS s1).1.1, (hS (hS s1).2).1.1, (hS (hS (hS s1).2).2).1.1, em, em, em, em, []⟩)) ∧ InvO 107 w p ok b1 o1 b2 o2 b3 o3 (hS (hS (hS s1).2).2).2 w') := ⟨fun W hW => by
    have hb : Below w0.heap.size w0 W := ⟨hW.1.but.os.trans hw.os, hW.1.but.tape.trans hw.tape, hW.1.but.output.trans hw.output, Nat.le_trans hw.size hW.1.but.size, fun k hk => (hW.1.but.block k (Nat.lt_of_lt_of_le hk hw.size) (by omega)).trans (hw.block k hk)⟩
    have := Check_x ⟨2, (hS s1).1.1, (hS (hS s1).2).1.1, (hS (hS (hS s1).2).2).1.1, em, em, em, em, []⟩ none 0 W (hgl.below hb) (Kd.C_nil k44 W) (Nat.le_refl 0) ⟨i64_k 2 (by omega), i64_32 hn1, i64_32 hn2, i64_32 hn3, Nat.zero_le _, Nat.zero_le _, Nat.zero_le _, Nat.zero_le _, Nat.zero_le _, fun i hi => absurd hi (Nat.not_lt_zero i)⟩
    exact this.mono fun e w' h => ⟨h.1, hW.1.below hW.2 h.2⟩⟩
  have HG := Aside0.mk hgl
  have HS1 := Aside0.mk hs1
  clear h hgl hw he7 hs1 hB0 hB1 hB2 hB3 hB4 hn1 hn2 hn3
  go_enter Tryd.func41, Tryd.ntmps41
  go_wp2_with (first
    | (go_at_call 40; (refine (HN.out _ (AtR.al (AtR.al H.out _) _)).mono ?_); rintro e w1 ⟨rfl, h2, h3⟩; have HI0 := Aside0.mk (inv_start 107 w p ok (.cells #[.pointer (some ⟨p, 0, none⟩)] 87) (.cells #[.int .i64 0, .int .i64 0, .int .i64 0, .int .i64 0, .string ⟨#[]⟩, .string ⟨#[]⟩, .string ⟨#[]⟩, .string ⟨#[]⟩, .slice none 0 0] 42) (.cells #[.int .i64 2, .int .i64 0, .int .i64 0, .int .i64 0, .string ⟨#[]⟩, .string ⟨#[]⟩, .string ⟨#[]⟩, .string ⟨#[]⟩, .slice none 0 0] 42) s1 w1 hpw h2 h3); have L := Aside0.mk (lie_start w p ok _ _ w1 hpw hok h3); have hne : ¬ w.heap.size = w1.heap.size := L.out.n13; have hne2 : ¬ w.heap.size + 1 = w1.heap.size := L.out.n23; have q0 := cell_blk (j := 0) (v := .pointer (some ⟨p, 0, none⟩)) HI0.out.k1 rfl; clear h2 h3)
    | (go_at_call 61; (refine (InvO.handle HI0.out L.out).mono ?_); rintro e w2 (⟨he1, rfl, hv1, hI⟩ | ⟨he, rfl, hb⟩); rotate_left; go_loud (focus (unfold stopE; go_wp2_with fail; exact ⟨rfl, opPost_stop hb he (opR_bad s HS1.out 2 _ hk (by decide) (by simp [bodyR, hS_stick (hS s1).2 he, tS_stick (hS s1).2 he]) he)⟩)); have HI1 := Aside0.mk hI; clear hI; have HV1 := Aside0.mk hv1; have HE1 := Aside0.mk he1; clear hv1 he1 q0; have q0 := cell_blk (j := 0) (v := .pointer (some ⟨p, 0, none⟩)) HI1.out.k1 rfl; have fz := Lib.frozen_of_heap HI1.out.k3 1; have HC := InvO.k3 HI1.out; have x0 := cell_blk (j := 0) (v := .int .i64 2) HC rfl; have x1 := cell_blk (j := 1) (v := .int .i64 0) HC rfl; have x2 := cell_blk (j := 2) (v := .int .i64 0) HC rfl; have x3 := cell_blk (j := 3) (v := .int .i64 0) HC rfl; have x4 := cell_blk (j := 4) (v := .string ⟨#[]⟩) HC rfl; have x5 := cell_blk (j := 5) (v := .string ⟨#[]⟩) HC rfl; have x6 := cell_blk (j := 6) (v := .string ⟨#[]⟩) HC rfl; have x7 := cell_blk (j := 7) (v := .string ⟨#[]⟩) HC rfl; have x8 := cell_blk (j := 8) (v := .slice none 0 0) HC rfl; clear HC)
    | (go_at_call 61; (refine (InvO.handle (InvO.set HI1.out L.out 1 (.int .i64 (hS s1).1.1)) L.out).mono ?_); rintro e w3 (⟨he2, rfl, hv2, hI⟩ | ⟨he, rfl, hb⟩); rotate_left; go_loud (focus (unfold stopE; go_wp2_with fail; exact ⟨rfl, opPost_stop hb he (opR_bad s HS1.out 2 _ hk (by decide) (by simp [bodyR, hS_stick (hS (hS s1).2).2 he, tS_stick (hS (hS s1).2).2 he]) he)⟩)); have HI2 := Aside0.mk hI; clear hI; have HV2 := Aside0.mk hv2; have HE2 := Aside0.mk he2; clear hv2 he2 q0 fz; clear x0 x1 x2 x3 x4 x5 x6 x7 x8; have q0 := cell_blk (j := 0) (v := .pointer (some ⟨p, 0, none⟩)) HI2.out.k1 rfl; have fz := Lib.frozen_of_heap HI2.out.k3 2; have HC := InvO.k3 HI2.out; have x0 := cell_blk (j := 0) (v := .int .i64 2) HC rfl; have x1 := cell_blk (j := 1) (v := .int .i64 (hS s1).1.1) HC rfl; have x2 := cell_blk (j := 2) (v := .int .i64 0) HC rfl; have x3 := cell_blk (j := 3) (v := .int .i64 0) HC rfl; have x4 := cell_blk (j := 4) (v := .string ⟨#[]⟩) HC rfl; have x5 := cell_blk (j := 5) (v := .string ⟨#[]⟩) HC rfl; have x6 := cell_blk (j := 6) (v := .string ⟨#[]⟩) HC rfl; have x7 := cell_blk (j := 7) (v := .string ⟨#[]⟩) HC rfl; have x8 := cell_blk (j := 8) (v := .slice none 0 0) HC rfl; clear HC)
    | (go_at_call 61; (refine (InvO.handle (InvO.set HI2.out L.out 2 (.int .i64 (hS (hS s1).2).1.1)) L.out).mono ?_); rintro e w4 (⟨he3, rfl, hv3, hI⟩ | ⟨he, rfl, hb⟩); rotate_left; go_loud (focus (unfold stopE; go_wp2_with fail; exact ⟨rfl, opPost_stop hb he (opR_bad s HS1.out 2 _ hk (by decide) (by simp [bodyR, hS_stick (hS (hS (hS s1).2).2).2 he, tS_stick (hS (hS (hS s1).2).2).2 he]) he)⟩)); have HI3 := Aside0.mk hI; clear hI; have HV3 := Aside0.mk hv3; have HE3 := Aside0.mk he3; clear hv3 he3 q0 fz; clear x0 x1 x2 x3 x4 x5 x6 x7 x8; have q0 := cell_blk (j := 0) (v := .pointer (some ⟨p, 0, none⟩)) HI3.out.k1 rfl; have fz := Lib.frozen_of_heap HI3.out.k3 3; have HC := InvO.k3 HI3.out; have x0 := cell_blk (j := 0) (v := .int .i64 2) HC rfl; have x1 := cell_blk (j := 1) (v := .int .i64 (hS s1).1.1) HC rfl; have x2 := cell_blk (j := 2) (v := .int .i64 (hS (hS s1).2).1.1) HC rfl; have x3 := cell_blk (j := 3) (v := .int .i64 0) HC rfl; have x4 := cell_blk (j := 4) (v := .string ⟨#[]⟩) HC rfl; have x5 := cell_blk (j := 5) (v := .string ⟨#[]⟩) HC rfl; have x6 := cell_blk (j := 6) (v := .string ⟨#[]⟩) HC rfl; have x7 := cell_blk (j := 7) (v := .string ⟨#[]⟩) HC rfl; have x8 := cell_blk (j := 8) (v := .slice none 0 0) HC rfl; clear HC)
    | (go_at_call 28; (refine (HCK.out _ ⟨(InvO.set HI3.out L.out 3 (.int .i64 (hS (hS (hS s1).2).2).1.1)), L.out⟩).mono ?_); rintro e w5 ⟨rfl, hI⟩; have HIC := Aside0.mk hI; clear hI q0 fz x0 x1 x2 x3 x4 x5 x6 x7 x8; have HC := InvO.k3 HIC.out; have x0 := cell_blk (j := 0) (v := .int .i64 2) HC rfl; have x1 := cell_blk (j := 1) (v := .int .i64 (hS s1).1.1) HC rfl; have x2 := cell_blk (j := 2) (v := .int .i64 (hS (hS s1).2).1.1) HC rfl; have x3 := cell_blk (j := 3) (v := .int .i64 (hS (hS (hS s1).2).2).1.1) HC rfl; have x4 := cell_blk (j := 4) (v := .string ⟨#[]⟩) HC rfl; have x5 := cell_blk (j := 5) (v := .string ⟨#[]⟩) HC rfl; have x6 := cell_blk (j := 6) (v := .string ⟨#[]⟩) HC rfl; have x7 := cell_blk (j := 7) (v := .string ⟨#[]⟩) HC rfl; have x8 := cell_blk (j := 8) (v := .slice none 0 0) HC rfl; have hY := InvO.k2 HIC.out; have HY := Aside0.mk hY; have y0 := cell_blk (j := 0) (v := .int .i64 0) hY rfl; have z0 := Lib.frozen_of_heap hY 0; have y1 := cell_blk (j := 1) (v := .int .i64 0) hY rfl; have z1 := Lib.frozen_of_heap hY 1; have y2 := cell_blk (j := 2) (v := .int .i64 0) hY rfl; have z2 := Lib.frozen_of_heap hY 2; have y3 := cell_blk (j := 3) (v := .int .i64 0) hY rfl; have z3 := Lib.frozen_of_heap hY 3; have y4 := cell_blk (j := 4) (v := .string ⟨#[]⟩) hY rfl; have z4 := Lib.frozen_of_heap hY 4; have y5 := cell_blk (j := 5) (v := .string ⟨#[]⟩) hY rfl; have z5 := Lib.frozen_of_heap hY 5; have y6 := cell_blk (j := 6) (v := .string ⟨#[]⟩) hY rfl; have z6 := Lib.frozen_of_heap hY 6; have y7 := cell_blk (j := 7) (v := .string ⟨#[]⟩) hY rfl; have z7 := Lib.frozen_of_heap hY 7; have y8 := cell_blk (j := 8) (v := .slice none 0 0) hY rfl; have z8 := Lib.frozen_of_heap hY 8; clear HC hY)
    | (go_at_call 42; (refine (must_d _ _).mono ?_); rintro e w6 ⟨⟨hc, rfl⟩ | ⟨hc, rfl⟩, rfl⟩; rotate_left; focus (unfold stopE; go_wp2_with fail; exact ⟨rfl, opPost_stop HIC.out.but hc (by rw [opR_good s HS1.out 2 hk (by decide) (by simpa [bodyR] using HE3.out)]; simp [bodyR])⟩)))
  have hpz := L.out.h2
  have hgood := opR_good s HS1.out 2 hk (by decide) (by simpa [bodyR] using HE3.out)
  refine bodyPost_ret (results_cell_row rfl _ _ (w.heap.size + 1) 42 _ (0, 0) _ rfl (set_blk (j := 8) (set_blk (j := 7) (set_blk (j := 6) (set_blk (j := 5) (set_blk (j := 4) (set_blk (j := 3) (set_blk (j := 2) (set_blk (j := 1) (set_blk (j := 0) (HY.out) _) _) _) _) _) _) _) _) _) Tryd.underlying42 rfl (by kernel_rfl)) rfl ?_
  simp only [bodyR, Int.reduceEq, if_false, if_true] at hgood
  rw [hgood]
  exact opPost_ok (AtB.set (AtB.set (AtB.set (AtB.set (AtB.set (AtB.set (AtB.set (AtB.set (AtB.set ⟨HIC.out.but, HIC.out.at_⟩ hpw hpz hok 0 _) hpw hpz hok 1 _) hpw hpz hok 2 _) hpw hpz hok 3 _) hpw hpz hok 4 _) hpw hpz hok 5 _) hpw hpz hok 6 _) hpw hpz hok 7 _) hpw hpz hok 8 _) hc (.slice none 0 0) rfl (Kd.R_nil k44 44 _ _ _)
set_option maxHeartbeats 2000000 in
set_option maxRecDepth 100000 in
theorem op_3 (w0 : World) (hgl : GL w0) (p : Nat) (ok : Nat → Prop) (s : St) (w : World) (hok : ∀ k, ok k → k < p) (hw : Below w0.heap.size w0 w) (hw0 : w0.heap.size ≤ p) (h : AtR 107 p ok s.1 s.2 w) (hk : (nS s 7).1 = (3, 0)) :
    Calls Tryd.prog 41 #[.agg #[.pointer (some ⟨p, 0, none⟩)]] w fun e w' => opPost w p ok (opR s) e w' := by
  have hpw := h.lt
  have H := Aside0.mk h
  have he7 : (nS s 7).2.2 = 0 := by rw [← nS_err, hk]
  have HN : Aside0 (∀ W, AtR 107 p ok s.1 s.2 W → Calls Tryd.prog 40 #[.agg #[.pointer (some ⟨p, 0, none⟩)], .int .u64 7] W fun e w' => e = .returned (.int .i64 3) ∧ AtR 107 p ok (nS s 7).2.1 (nS s 7).2.2 w' ∧ But (· = p) W w') := ⟨fun W hW => (num_d 7 (by omega) p ok s W hW).mono (by
    rintro e w' ⟨⟨h0, he, ha⟩ | ⟨h0, he⟩, hb⟩
    · rw [hk] at he
      exact ⟨he, ha, hb⟩
    · exact absurd he7 h0)⟩
  obtain ⟨s1, hs1⟩ : ∃ s1, s1 = (nS s 7).2 := ⟨_, rfl⟩
  rw [← hs1] at HN
  have hB0 := H.out.2.1
  have hB1 := (nS_bytes s 7 hB0).1
  rw [← hs1] at hB1
  have hn1 : num32 (hS s1).1.1 := nS_val s1 4294967295 hB1 (by omega)
  have hB2 := (nS_bytes s1 4294967295 hB1).1
  have hn3 : num32 (hS (hS s1).2).1.1 := nS_val (hS s1).2 4294967295 hB2 (by omega)
  have hB3 := (nS_bytes (hS s1).2 4294967295 hB2).1
  have HCK : Aside0 (∀ {b1 b2 b3 : Nat} {o1 o2 o3 : Obj} W, InvO 107 w p ok b1 o1 b2 o2 b3 o3 (hS (hS s1).2).2 W ∧ Lie w p ok b1 b2 b3 → Calls Tryd.prog 28 #[.agg #[.int .i64 3, .int .i64 (hS s1).1.1, .int .i64 0, .int .i64 (hS (hS s1).2).1.1, .string ⟨#[]⟩, .string ⟨#[]⟩, .string ⟨#[]⟩, .string ⟨#[]⟩, .slice none 0 0]] W fun e w' => e = .returned (.int .i64 (chk ⟨3, (hS s1).1.1, 0, (hS (hS s1).2).1.1, em, em, em, em, []⟩)) ∧ InvO 107 w p ok b1 o1 b2 o2 b3 o3 (hS (hS s1).2).2 w') := ⟨fun W hW => by
    have hb : Below w0.heap.size w0 W := ⟨hW.1.but.os.trans hw.os, hW.1.but.tape.trans hw.tape, hW.1.but.output.trans hw.output, Nat.le_trans hw.size hW.1.but.size, fun k hk => (hW.1.but.block k (Nat.lt_of_lt_of_le hk hw.size) (by omega)).trans (hw.block k hk)⟩
    have := Check_x ⟨3, (hS s1).1.1, 0, (hS (hS s1).2).1.1, em, em, em, em, []⟩ none 0 W (hgl.below hb) (Kd.C_nil k44 W) (Nat.le_refl 0) ⟨i64_k 3 (by omega), i64_32 hn1, i64_k 0 (by omega), i64_32 hn3, Nat.zero_le _, Nat.zero_le _, Nat.zero_le _, Nat.zero_le _, Nat.zero_le _, fun i hi => absurd hi (Nat.not_lt_zero i)⟩
    exact this.mono fun e w' h => ⟨h.1, hW.1.below hW.2 h.2⟩⟩
  have HG := Aside0.mk hgl
  have HS1 := Aside0.mk hs1
  clear h hgl hw he7 hs1 hB0 hB1 hB2 hB3 hn1 hn3
  go_enter Tryd.func41, Tryd.ntmps41
  go_wp2_with (first
    | (go_at_call 40; (refine (HN.out _ (AtR.al (AtR.al H.out _) _)).mono ?_); rintro e w1 ⟨rfl, h2, h3⟩; have HI0 := Aside0.mk (inv_start 107 w p ok (.cells #[.pointer (some ⟨p, 0, none⟩)] 87) (.cells #[.int .i64 0, .int .i64 0, .int .i64 0, .int .i64 0, .string ⟨#[]⟩, .string ⟨#[]⟩, .string ⟨#[]⟩, .string ⟨#[]⟩, .slice none 0 0] 42) (.cells #[.int .i64 3, .int .i64 0, .int .i64 0, .int .i64 0, .string ⟨#[]⟩, .string ⟨#[]⟩, .string ⟨#[]⟩, .string ⟨#[]⟩, .slice none 0 0] 42) s1 w1 hpw h2 h3); have L := Aside0.mk (lie_start w p ok _ _ w1 hpw hok h3); have hne : ¬ w.heap.size = w1.heap.size := L.out.n13; have hne2 : ¬ w.heap.size + 1 = w1.heap.size := L.out.n23; have q0 := cell_blk (j := 0) (v := .pointer (some ⟨p, 0, none⟩)) HI0.out.k1 rfl; clear h2 h3)
    | (go_at_call 61; (refine (InvO.handle HI0.out L.out).mono ?_); rintro e w2 (⟨he1, rfl, hv1, hI⟩ | ⟨he, rfl, hb⟩); rotate_left; go_loud (focus (unfold stopE; go_wp2_with fail; exact ⟨rfl, opPost_stop hb he (opR_bad s HS1.out 3 _ hk (by decide) (by simp [bodyR, hS_stick (hS s1).2 he, tS_stick (hS s1).2 he]) he)⟩)); have HI1 := Aside0.mk hI; clear hI; have HV1 := Aside0.mk hv1; have HE1 := Aside0.mk he1; clear hv1 he1 q0; have q0 := cell_blk (j := 0) (v := .pointer (some ⟨p, 0, none⟩)) HI1.out.k1 rfl; have fz := Lib.frozen_of_heap HI1.out.k3 1; have HC := InvO.k3 HI1.out; have x0 := cell_blk (j := 0) (v := .int .i64 3) HC rfl; have x1 := cell_blk (j := 1) (v := .int .i64 0) HC rfl; have x2 := cell_blk (j := 2) (v := .int .i64 0) HC rfl; have x3 := cell_blk (j := 3) (v := .int .i64 0) HC rfl; have x4 := cell_blk (j := 4) (v := .string ⟨#[]⟩) HC rfl; have x5 := cell_blk (j := 5) (v := .string ⟨#[]⟩) HC rfl; have x6 := cell_blk (j := 6) (v := .string ⟨#[]⟩) HC rfl; have x7 := cell_blk (j := 7) (v := .string ⟨#[]⟩) HC rfl; have x8 := cell_blk (j := 8) (v := .slice none 0 0) HC rfl; clear HC)
    | (go_at_call 61; (refine (InvO.handle (InvO.set HI1.out L.out 1 (.int .i64 (hS s1).1.1)) L.out).mono ?_); rintro e w3 (⟨he2, rfl, hv2, hI⟩ | ⟨he, rfl, hb⟩); rotate_left; go_loud (focus (unfold stopE; go_wp2_with fail; exact ⟨rfl, opPost_stop hb he (opR_bad s HS1.out 3 _ hk (by decide) (by simp [bodyR, hS_stick (hS (hS s1).2).2 he, tS_stick (hS (hS s1).2).2 he]) he)⟩)); have HI2 := Aside0.mk hI; clear hI; have HV2 := Aside0.mk hv2; have HE2 := Aside0.mk he2; clear hv2 he2 q0 fz; clear x0 x1 x2 x3 x4 x5 x6 x7 x8; have q0 := cell_blk (j := 0) (v := .pointer (some ⟨p, 0, none⟩)) HI2.out.k1 rfl; have fz := Lib.frozen_of_heap HI2.out.k3 3; have HC := InvO.k3 HI2.out; have x0 := cell_blk (j := 0) (v := .int .i64 3) HC rfl; have x1 := cell_blk (j := 1) (v := .int .i64 (hS s1).1.1) HC rfl; have x2 := cell_blk (j := 2) (v := .int .i64 0) HC rfl; have x3 := cell_blk (j := 3) (v := .int .i64 0) HC rfl; have x4 := cell_blk (j := 4) (v := .string ⟨#[]⟩) HC rfl; have x5 := cell_blk (j := 5) (v := .string ⟨#[]⟩) HC rfl; have x6 := cell_blk (j := 6) (v := .string ⟨#[]⟩) HC rfl; have x7 := cell_blk (j := 7) (v := .string ⟨#[]⟩) HC rfl; have x8 := cell_blk (j := 8) (v := .slice none 0 0) HC rfl; clear HC)
    | (go_at_call 28; (refine (HCK.out _ ⟨(InvO.set HI2.out L.out 3 (.int .i64 (hS (hS s1).2).1.1)), L.out⟩).mono ?_); rintro e w4 ⟨rfl, hI⟩; have HIC := Aside0.mk hI; clear hI q0 fz x0 x1 x2 x3 x4 x5 x6 x7 x8; have HC := InvO.k3 HIC.out; have x0 := cell_blk (j := 0) (v := .int .i64 3) HC rfl; have x1 := cell_blk (j := 1) (v := .int .i64 (hS s1).1.1) HC rfl; have x2 := cell_blk (j := 2) (v := .int .i64 0) HC rfl; have x3 := cell_blk (j := 3) (v := .int .i64 (hS (hS s1).2).1.1) HC rfl; have x4 := cell_blk (j := 4) (v := .string ⟨#[]⟩) HC rfl; have x5 := cell_blk (j := 5) (v := .string ⟨#[]⟩) HC rfl; have x6 := cell_blk (j := 6) (v := .string ⟨#[]⟩) HC rfl; have x7 := cell_blk (j := 7) (v := .string ⟨#[]⟩) HC rfl; have x8 := cell_blk (j := 8) (v := .slice none 0 0) HC rfl; have hY := InvO.k2 HIC.out; have HY := Aside0.mk hY; have y0 := cell_blk (j := 0) (v := .int .i64 0) hY rfl; have z0 := Lib.frozen_of_heap hY 0; have y1 := cell_blk (j := 1) (v := .int .i64 0) hY rfl; have z1 := Lib.frozen_of_heap hY 1; have y2 := cell_blk (j := 2) (v := .int .i64 0) hY rfl; have z2 := Lib.frozen_of_heap hY 2; have y3 := cell_blk (j := 3) (v := .int .i64 0) hY rfl; have z3 := Lib.frozen_of_heap hY 3; have y4 := cell_blk (j := 4) (v := .string ⟨#[]⟩) hY rfl; have z4 := Lib.frozen_of_heap hY 4; have y5 := cell_blk (j := 5) (v := .string ⟨#[]⟩) hY rfl; have z5 := Lib.frozen_of_heap hY 5; have y6 := cell_blk (j := 6) (v := .string ⟨#[]⟩) hY rfl; have z6 := Lib.frozen_of_heap hY 6; have y7 := cell_blk (j := 7) (v := .string ⟨#[]⟩) hY rfl; have z7 := Lib.frozen_of_heap hY 7; have y8 := cell_blk (j := 8) (v := .slice none 0 0) hY rfl; have z8 := Lib.frozen_of_heap hY 8; clear HC hY)
    | (go_at_call 42; (refine (must_d _ _).mono ?_); rintro e w5 ⟨⟨hc, rfl⟩ | ⟨hc, rfl⟩, rfl⟩; rotate_left; focus (unfold stopE; go_wp2_with fail; exact ⟨rfl, opPost_stop HIC.out.but hc (by rw [opR_good s HS1.out 3 hk (by decide) (by simpa [bodyR] using HE2.out)]; simp [bodyR])⟩)))
  have hpz := L.out.h2
  have hgood := opR_good s HS1.out 3 hk (by decide) (by simpa [bodyR] using HE2.out)
  refine bodyPost_ret (results_cell_row rfl _ _ (w.heap.size + 1) 42 _ (0, 0) _ rfl (set_blk (j := 8) (set_blk (j := 7) (set_blk (j := 6) (set_blk (j := 5) (set_blk (j := 4) (set_blk (j := 3) (set_blk (j := 2) (set_blk (j := 1) (set_blk (j := 0) (HY.out) _) _) _) _) _) _) _) _) _) Tryd.underlying42 rfl (by kernel_rfl)) rfl ?_
  simp only [bodyR, Int.reduceEq, if_false, if_true] at hgood
  rw [hgood]
  exact opPost_ok (AtB.set (AtB.set (AtB.set (AtB.set (AtB.set (AtB.set (AtB.set (AtB.set (AtB.set ⟨HIC.out.but, HIC.out.at_⟩ hpw hpz hok 0 _) hpw hpz hok 1 _) hpw hpz hok 2 _) hpw hpz hok 3 _) hpw hpz hok 4 _) hpw hpz hok 5 _) hpw hpz hok 6 _) hpw hpz hok 7 _) hpw hpz hok 8 _) hc (.slice none 0 0) rfl (Kd.R_nil k44 44 _ _ _)
set_option maxHeartbeats 2000000 in
set_option maxRecDepth 100000 in
theorem op_4 (w0 : World) (hgl : GL w0) (p : Nat) (ok : Nat → Prop) (s : St) (w : World) (hok : ∀ k, ok k → k < p) (hw : Below w0.heap.size w0 w) (hw0 : w0.heap.size ≤ p) (h : AtR 107 p ok s.1 s.2 w) (hk : (nS s 7).1 = (4, 0)) :
    Calls Tryd.prog 41 #[.agg #[.pointer (some ⟨p, 0, none⟩)]] w fun e w' => opPost w p ok (opR s) e w' := by
  have hpw := h.lt
  have H := Aside0.mk h
  have he7 : (nS s 7).2.2 = 0 := by rw [← nS_err, hk]
  have HN : Aside0 (∀ W, AtR 107 p ok s.1 s.2 W → Calls Tryd.prog 40 #[.agg #[.pointer (some ⟨p, 0, none⟩)], .int .u64 7] W fun e w' => e = .returned (.int .i64 4) ∧ AtR 107 p ok (nS s 7).2.1 (nS s 7).2.2 w' ∧ But (· = p) W w') := ⟨fun W hW => (num_d 7 (by omega) p ok s W hW).mono (by
    rintro e w' ⟨⟨h0, he, ha⟩ | ⟨h0, he⟩, hb⟩
    · rw [hk] at he
      exact ⟨he, ha, hb⟩
    · exact absurd he7 h0)⟩
  obtain ⟨s1, hs1⟩ : ∃ s1, s1 = (nS s 7).2 := ⟨_, rfl⟩
  rw [← hs1] at HN
  have hB0 := H.out.2.1
  have hB1 := (nS_bytes s 7 hB0).1
  rw [← hs1] at hB1
  have hn1 : num32 (hS s1).1.1 := nS_val s1 4294967295 hB1 (by omega)
  have hB2 := (nS_bytes s1 4294967295 hB1).1
  have HCK : Aside0 (∀ {b1 b2 b3 : Nat} {o1 o2 o3 : Obj} W, InvO 107 w p ok b1 o1 b2 o2 b3 o3 (hS s1).2 W ∧ Lie w p ok b1 b2 b3 → Calls Tryd.prog 28 #[.agg #[.int .i64 4, .int .i64 (hS s1).1.1, .int .i64 0, .int .i64 0, .string ⟨#[]⟩, .string ⟨#[]⟩, .string ⟨#[]⟩, .string ⟨#[]⟩, .slice none 0 0]] W fun e w' => e = .returned (.int .i64 (chk ⟨4, (hS s1).1.1, 0, 0, em, em, em, em, []⟩)) ∧ InvO 107 w p ok b1 o1 b2 o2 b3 o3 (hS s1).2 w') := ⟨fun W hW => by
    have hb : Below w0.heap.size w0 W := ⟨hW.1.but.os.trans hw.os, hW.1.but.tape.trans hw.tape, hW.1.but.output.trans hw.output, Nat.le_trans hw.size hW.1.but.size, fun k hk => (hW.1.but.block k (Nat.lt_of_lt_of_le hk hw.size) (by omega)).trans (hw.block k hk)⟩
    have := Check_x ⟨4, (hS s1).1.1, 0, 0, em, em, em, em, []⟩ none 0 W (hgl.below hb) (Kd.C_nil k44 W) (Nat.le_refl 0) ⟨i64_k 4 (by omega), i64_32 hn1, i64_k 0 (by omega), i64_k 0 (by omega), Nat.zero_le _, Nat.zero_le _, Nat.zero_le _, Nat.zero_le _, Nat.zero_le _, fun i hi => absurd hi (Nat.not_lt_zero i)⟩
    exact this.mono fun e w' h => ⟨h.1, hW.1.below hW.2 h.2⟩⟩
  have HG := Aside0.mk hgl
  have HS1 := Aside0.mk hs1
  clear h hgl hw he7 hs1 hB0 hB1 hB2 hn1
  go_enter Tryd.func41, Tryd.ntmps41
  go_wp2_with (first
    | (go_at_call 40; (refine (HN.out _ (AtR.al (AtR.al H.out _) _)).mono ?_); rintro e w1 ⟨rfl, h2, h3⟩; have HI0 := Aside0.mk (inv_start 107 w p ok (.cells #[.pointer (some ⟨p, 0, none⟩)] 87) (.cells #[.int .i64 0, .int .i64 0, .int .i64 0, .int .i64 0, .string ⟨#[]⟩, .string ⟨#[]⟩, .string ⟨#[]⟩, .string ⟨#[]⟩, .slice none 0 0] 42) (.cells #[.int .i64 4, .int .i64 0, .int .i64 0, .int .i64 0, .string ⟨#[]⟩, .string ⟨#[]⟩, .string ⟨#[]⟩, .string ⟨#[]⟩, .slice none 0 0] 42) s1 w1 hpw h2 h3); have L := Aside0.mk (lie_start w p ok _ _ w1 hpw hok h3); have hne : ¬ w.heap.size = w1.heap.size := L.out.n13; have hne2 : ¬ w.heap.size + 1 = w1.heap.size := L.out.n23; have q0 := cell_blk (j := 0) (v := .pointer (some ⟨p, 0, none⟩)) HI0.out.k1 rfl; clear h2 h3)
    | (go_at_call 61; (refine (InvO.handle HI0.out L.out).mono ?_); rintro e w2 (⟨he1, rfl, hv1, hI⟩ | ⟨he, rfl, hb⟩); rotate_left; go_loud (focus (unfold stopE; go_wp2_with fail; exact ⟨rfl, opPost_stop hb he (opR_bad s HS1.out 4 _ hk (by decide) (by simp [bodyR, hS_stick (hS s1).2 he, tS_stick (hS s1).2 he]) he)⟩)); have HI1 := Aside0.mk hI; clear hI; have HV1 := Aside0.mk hv1; have HE1 := Aside0.mk he1; clear hv1 he1 q0; have q0 := cell_blk (j := 0) (v := .pointer (some ⟨p, 0, none⟩)) HI1.out.k1 rfl; have fz := Lib.frozen_of_heap HI1.out.k3 1; have HC := InvO.k3 HI1.out; have x0 := cell_blk (j := 0) (v := .int .i64 4) HC rfl; have x1 := cell_blk (j := 1) (v := .int .i64 0) HC rfl; have x2 := cell_blk (j := 2) (v := .int .i64 0) HC rfl; have x3 := cell_blk (j := 3) (v := .int .i64 0) HC rfl; have x4 := cell_blk (j := 4) (v := .string ⟨#[]⟩) HC rfl; have x5 := cell_blk (j := 5) (v := .string ⟨#[]⟩) HC rfl; have x6 := cell_blk (j := 6) (v := .string ⟨#[]⟩) HC rfl; have x7 := cell_blk (j := 7) (v := .string ⟨#[]⟩) HC rfl; have x8 := cell_blk (j := 8) (v := .slice none 0 0) HC rfl; clear HC)
    | (go_at_call 28; (refine (HCK.out _ ⟨(InvO.set HI1.out L.out 1 (.int .i64 (hS s1).1.1)), L.out⟩).mono ?_); rintro e w3 ⟨rfl, hI⟩; have HIC := Aside0.mk hI; clear hI q0 fz x0 x1 x2 x3 x4 x5 x6 x7 x8; have HC := InvO.k3 HIC.out; have x0 := cell_blk (j := 0) (v := .int .i64 4) HC rfl; have x1 := cell_blk (j := 1) (v := .int .i64 (hS s1).1.1) HC rfl; have x2 := cell_blk (j := 2) (v := .int .i64 0) HC rfl; have x3 := cell_blk (j := 3) (v := .int .i64 0) HC rfl; have x4 := cell_blk (j := 4) (v := .string ⟨#[]⟩) HC rfl; have x5 := cell_blk (j := 5) (v := .string ⟨#[]⟩) HC rfl; have x6 := cell_blk (j := 6) (v := .string ⟨#[]⟩) HC rfl; have x7 := cell_blk (j := 7) (v := .string ⟨#[]⟩) HC rfl; have x8 := cell_blk (j := 8) (v := .slice none 0 0) HC rfl; have hY := InvO.k2 HIC.out; have HY := Aside0.mk hY; have y0 := cell_blk (j := 0) (v := .int .i64 0) hY rfl; have z0 := Lib.frozen_of_heap hY 0; have y1 := cell_blk (j := 1) (v := .int .i64 0) hY rfl; have z1 := Lib.frozen_of_heap hY 1; have y2 := cell_blk (j := 2) (v := .int .i64 0) hY rfl; have z2 := Lib.frozen_of_heap hY 2; have y3 := cell_blk (j := 3) (v := .int .i64 0) hY rfl; have z3 := Lib.frozen_of_heap hY 3; have y4 := cell_blk (j := 4) (v := .string ⟨#[]⟩) hY rfl; have z4 := Lib.frozen_of_heap hY 4; have y5 := cell_blk (j := 5) (v := .string ⟨#[]⟩) hY rfl; have z5 := Lib.frozen_of_heap hY 5; have y6 := cell_blk (j := 6) (v := .string ⟨#[]⟩) hY rfl; have z6 := Lib.frozen_of_heap hY 6; have y7 := cell_blk (j := 7) (v := .string ⟨#[]⟩) hY rfl; have z7 := Lib.frozen_of_heap hY 7; have y8 := cell_blk (j := 8) (v := .slice none 0 0) hY rfl; have z8 := Lib.frozen_of_heap hY 8; clear HC hY)
    | (go_at_call 42; (refine (must_d _ _).mono ?_); rintro e w4 ⟨⟨hc, rfl⟩ | ⟨hc, rfl⟩, rfl⟩; rotate_left; focus (unfold stopE; go_wp2_with fail; exact ⟨rfl, opPost_stop HIC.out.but hc (by rw [opR_good s HS1.out 4 hk (by decide) (by simpa [bodyR] using HE1.out)]; simp [bodyR])⟩)))
  have hpz := L.out.h2
  have hgood := opR_good s HS1.out 4 hk (by decide) (by simpa [bodyR] using HE1.out)
  refine bodyPost_ret (results_cell_row rfl _ _ (w.heap.size + 1) 42 _ (0, 0) _ rfl (set_blk (j := 8) (set_blk (j := 7) (set_blk (j := 6) (set_blk (j := 5) (set_blk (j := 4) (set_blk (j := 3) (set_blk (j := 2) (set_blk (j := 1) (set_blk (j := 0) (HY.out) _) _) _) _) _) _) _) _) _) Tryd.underlying42 rfl (by kernel_rfl)) rfl ?_
  simp only [bodyR, Int.reduceEq, if_false, if_true] at hgood
  rw [hgood]
  exact opPost_ok (AtB.set (AtB.set (AtB.set (AtB.set (AtB.set (AtB.set (AtB.set (AtB.set (AtB.set ⟨HIC.out.but, HIC.out.at_⟩ hpw hpz hok 0 _) hpw hpz hok 1 _) hpw hpz hok 2 _) hpw hpz hok 3 _) hpw hpz hok 4 _) hpw hpz hok 5 _) hpw hpz hok 6 _) hpw hpz hok 7 _) hpw hpz hok 8 _) hc (.slice none 0 0) rfl (Kd.R_nil k44 44 _ _ _)
end Go.Proofs.YtfpijjjmgggfkaaDoorE

namespace Go.Proofs.YtfpijjjmgggfkaaDoorE
open Go Go.RowKit Go.Proofs.YtfpijjjmgggfkaaDoorW.PrintWords Go.Proofs.YtfpijjjmgggfkaaDoorW.PrintMore Go.Proofs.YtfpijjjmgggfkaaDoorX Go.Proofs.YtfpijjjmgggfkaaDoor.P26 Go.Proofs.YtfpijjjmgggfkaaDoor.L01
set_option linter.unusedVariables false
set_option linter.unusedSimpArgs false
set_option maxHeartbeats 2000000 in
set_option maxRecDepth 100000 in
theorem op_5 (w0 : World) (hgl : GL w0) (p : Nat) (ok : Nat → Prop) (s : St) (w : World) (hok : ∀ k, ok k → k < p) (hw : Below w0.heap.size w0 w) (hw0 : w0.heap.size ≤ p) (h : AtR 107 p ok s.1 s.2 w) (hk : (nS s 7).1 = (5, 0)) :
    Calls Tryd.prog 41 #[.agg #[.pointer (some ⟨p, 0, none⟩)]] w fun e w' => opPost w p ok (opR s) e w' := by
  have hpw := h.lt
  have H := Aside0.mk h
  have he7 : (nS s 7).2.2 = 0 := by rw [← nS_err, hk]
  have HN : Aside0 (∀ W, AtR 107 p ok s.1 s.2 W → Calls Tryd.prog 40 #[.agg #[.pointer (some ⟨p, 0, none⟩)], .int .u64 7] W fun e w' => e = .returned (.int .i64 5) ∧ AtR 107 p ok (nS s 7).2.1 (nS s 7).2.2 w' ∧ But (· = p) W w') := ⟨fun W hW => (num_d 7 (by omega) p ok s W hW).mono (by
    rintro e w' ⟨⟨h0, he, ha⟩ | ⟨h0, he⟩, hb⟩
    · rw [hk] at he
      exact ⟨he, ha, hb⟩
    · exact absurd he7 h0)⟩
  obtain ⟨s1, hs1⟩ : ∃ s1, s1 = (nS s 7).2 := ⟨_, rfl⟩
  rw [← hs1] at HN
  have hB0 := H.out.2.1
  have hB1 := (nS_bytes s 7 hB0).1
  rw [← hs1] at hB1
  have hn1 : num32 (hS s1).1.1 := nS_val s1 4294967295 hB1 (by omega)
  have hB2 := (nS_bytes s1 4294967295 hB1).1
  have hs6 : ((tS (hS s1).2).1.1).size ≤ 65536 := tS_size (hS s1).2 hB2
  have hB3 := (tS_bytes (hS s1).2 hB2).1
  have hs7 : ((tS (tS (hS s1).2).2).1.1).size ≤ 65536 := tS_size (tS (hS s1).2).2 hB3
  have hB4 := (tS_bytes (tS (hS s1).2).2 hB3).1
  have HCK : Aside0 (∀ {b1 b2 b3 : Nat} {o1 o2 o3 : Obj} W, InvO 107 w p ok b1 o1 b2 o2 b3 o3 (tS (tS (hS s1).2).2).2 W ∧ Lie w p ok b1 b2 b3 → Calls Tryd.prog 28 #[.agg #[.int .i64 5, .int .i64 (hS s1).1.1, .int .i64 0, .int .i64 0, .string ⟨#[]⟩, .string ⟨#[]⟩, .string (tS (hS s1).2).1.1, .string (tS (tS (hS s1).2).2).1.1, .slice none 0 0]] W fun e w' => e = .returned (.int .i64 (chk ⟨5, (hS s1).1.1, 0, 0, em, em, (tS (hS s1).2).1.1, (tS (tS (hS s1).2).2).1.1, []⟩)) ∧ InvO 107 w p ok b1 o1 b2 o2 b3 o3 (tS (tS (hS s1).2).2).2 w') := ⟨fun W hW => by
    have hb : Below w0.heap.size w0 W := ⟨hW.1.but.os.trans hw.os, hW.1.but.tape.trans hw.tape, hW.1.but.output.trans hw.output, Nat.le_trans hw.size hW.1.but.size, fun k hk => (hW.1.but.block k (Nat.lt_of_lt_of_le hk hw.size) (by omega)).trans (hw.block k hk)⟩
    have := Check_x ⟨5, (hS s1).1.1, 0, 0, em, em, (tS (hS s1).2).1.1, (tS (tS (hS s1).2).2).1.1, []⟩ none 0 W (hgl.below hb) (Kd.C_nil k44 W) (Nat.le_refl 0) ⟨i64_k 5 (by omega), i64_32 hn1, i64_k 0 (by omega), i64_k 0 (by omega), Nat.zero_le _, Nat.zero_le _, size_up hs6, size_up hs7, Nat.zero_le _, fun i hi => absurd hi (Nat.not_lt_zero i)⟩
    exact this.mono fun e w' h => ⟨h.1, hW.1.below hW.2 h.2⟩⟩
  have HG := Aside0.mk hgl
  have HS1 := Aside0.mk hs1
  clear h hgl hw he7 hs1 hB0 hB1 hB2 hB3 hB4 hn1 hs6 hs7
  go_enter Tryd.func41, Tryd.ntmps41
  go_wp2_with (first
    | (go_at_call 40; (refine (HN.out _ (AtR.al (AtR.al H.out _) _)).mono ?_); rintro e w1 ⟨rfl, h2, h3⟩; have HI0 := Aside0.mk (inv_start 107 w p ok (.cells #[.pointer (some ⟨p, 0, none⟩)] 87) (.cells #[.int .i64 0, .int .i64 0, .int .i64 0, .int .i64 0, .string ⟨#[]⟩, .string ⟨#[]⟩, .string ⟨#[]⟩, .string ⟨#[]⟩, .slice none 0 0] 42) (.cells #[.int .i64 5, .int .i64 0, .int .i64 0, .int .i64 0, .string ⟨#[]⟩, .string ⟨#[]⟩, .string ⟨#[]⟩, .string ⟨#[]⟩, .slice none 0 0] 42) s1 w1 hpw h2 h3); have L := Aside0.mk (lie_start w p ok _ _ w1 hpw hok h3); have hne : ¬ w.heap.size = w1.heap.size := L.out.n13; have hne2 : ¬ w.heap.size + 1 = w1.heap.size := L.out.n23; have q0 := cell_blk (j := 0) (v := .pointer (some ⟨p, 0, none⟩)) HI0.out.k1 rfl; clear h2 h3)
    | (go_at_call 61; (refine (InvO.handle HI0.out L.out).mono ?_); rintro e w2 (⟨he1, rfl, hv1, hI⟩ | ⟨he, rfl, hb⟩); rotate_left; go_loud (focus (unfold stopE; go_wp2_with fail; exact ⟨rfl, opPost_stop hb he (opR_bad s HS1.out 5 _ hk (by decide) (by simp [bodyR, hS_stick (hS s1).2 he, tS_stick (hS s1).2 he]) he)⟩)); have HI1 := Aside0.mk hI; clear hI; have HV1 := Aside0.mk hv1; have HE1 := Aside0.mk he1; clear hv1 he1 q0; have q0 := cell_blk (j := 0) (v := .pointer (some ⟨p, 0, none⟩)) HI1.out.k1 rfl; have fz := Lib.frozen_of_heap HI1.out.k3 1; have HC := InvO.k3 HI1.out; have x0 := cell_blk (j := 0) (v := .int .i64 5) HC rfl; have x1 := cell_blk (j := 1) (v := .int .i64 0) HC rfl; have x2 := cell_blk (j := 2) (v := .int .i64 0) HC rfl; have x3 := cell_blk (j := 3) (v := .int .i64 0) HC rfl; have x4 := cell_blk (j := 4) (v := .string ⟨#[]⟩) HC rfl; have x5 := cell_blk (j := 5) (v := .string ⟨#[]⟩) HC rfl; have x6 := cell_blk (j := 6) (v := .string ⟨#[]⟩) HC rfl; have x7 := cell_blk (j := 7) (v := .string ⟨#[]⟩) HC rfl; have x8 := cell_blk (j := 8) (v := .slice none 0 0) HC rfl; clear HC)
    | (go_at_call 60; (refine (InvO.text (InvO.set HI1.out L.out 1 (.int .i64 (hS s1).1.1)) L.out).mono ?_); rintro e w3 (⟨he2, rfl, hv2, hI⟩ | ⟨he, rfl, hb⟩); rotate_left; go_loud (focus (unfold stopE; go_wp2_with fail; exact ⟨rfl, opPost_stop hb he (opR_bad s HS1.out 5 _ hk (by decide) (by simp [bodyR, hS_stick (tS (hS s1).2).2 he, tS_stick (tS (hS s1).2).2 he]) he)⟩)); have HI2 := Aside0.mk hI; clear hI; have HV2 := Aside0.mk hv2; have HE2 := Aside0.mk he2; clear hv2 he2 q0 fz; clear x0 x1 x2 x3 x4 x5 x6 x7 x8; have q0 := cell_blk (j := 0) (v := .pointer (some ⟨p, 0, none⟩)) HI2.out.k1 rfl; have fz := Lib.frozen_of_heap HI2.out.k3 6; have HC := InvO.k3 HI2.out; have x0 := cell_blk (j := 0) (v := .int .i64 5) HC rfl; have x1 := cell_blk (j := 1) (v := .int .i64 (hS s1).1.1) HC rfl; have x2 := cell_blk (j := 2) (v := .int .i64 0) HC rfl; have x3 := cell_blk (j := 3) (v := .int .i64 0) HC rfl; have x4 := cell_blk (j := 4) (v := .string ⟨#[]⟩) HC rfl; have x5 := cell_blk (j := 5) (v := .string ⟨#[]⟩) HC rfl; have x6 := cell_blk (j := 6) (v := .string ⟨#[]⟩) HC rfl; have x7 := cell_blk (j := 7) (v := .string ⟨#[]⟩) HC rfl; have x8 := cell_blk (j := 8) (v := .slice none 0 0) HC rfl; clear HC)
    | (go_at_call 60; (refine (InvO.text (InvO.set HI2.out L.out 6 (.string (tS (hS s1).2).1.1)) L.out).mono ?_); rintro e w4 (⟨he3, rfl, hv3, hI⟩ | ⟨he, rfl, hb⟩); rotate_left; go_loud (focus (unfold stopE; go_wp2_with fail; exact ⟨rfl, opPost_stop hb he (opR_bad s HS1.out 5 _ hk (by decide) (by simp [bodyR, hS_stick (tS (tS (hS s1).2).2).2 he, tS_stick (tS (tS (hS s1).2).2).2 he]) he)⟩)); have HI3 := Aside0.mk hI; clear hI; have HV3 := Aside0.mk hv3; have HE3 := Aside0.mk he3; clear hv3 he3 q0 fz; clear x0 x1 x2 x3 x4 x5 x6 x7 x8; have q0 := cell_blk (j := 0) (v := .pointer (some ⟨p, 0, none⟩)) HI3.out.k1 rfl; have fz := Lib.frozen_of_heap HI3.out.k3 7; have HC := InvO.k3 HI3.out; have x0 := cell_blk (j := 0) (v := .int .i64 5) HC rfl; have x1 := cell_blk (j := 1) (v := .int .i64 (hS s1).1.1) HC rfl; have x2 := cell_blk (j := 2) (v := .int .i64 0) HC rfl; have x3 := cell_blk (j := 3) (v := .int .i64 0) HC rfl; have x4 := cell_blk (j := 4) (v := .string ⟨#[]⟩) HC rfl; have x5 := cell_blk (j := 5) (v := .string ⟨#[]⟩) HC rfl; have x6 := cell_blk (j := 6) (v := .string (tS (hS s1).2).1.1) HC rfl; have x7 := cell_blk (j := 7) (v := .string ⟨#[]⟩) HC rfl; have x8 := cell_blk (j := 8) (v := .slice none 0 0) HC rfl; clear HC)
    | (go_at_call 28; (refine (HCK.out _ ⟨(InvO.set HI3.out L.out 7 (.string (tS (tS (hS s1).2).2).1.1)), L.out⟩).mono ?_); rintro e w5 ⟨rfl, hI⟩; have HIC := Aside0.mk hI; clear hI q0 fz x0 x1 x2 x3 x4 x5 x6 x7 x8; have HC := InvO.k3 HIC.out; have x0 := cell_blk (j := 0) (v := .int .i64 5) HC rfl; have x1 := cell_blk (j := 1) (v := .int .i64 (hS s1).1.1) HC rfl; have x2 := cell_blk (j := 2) (v := .int .i64 0) HC rfl; have x3 := cell_blk (j := 3) (v := .int .i64 0) HC rfl; have x4 := cell_blk (j := 4) (v := .string ⟨#[]⟩) HC rfl; have x5 := cell_blk (j := 5) (v := .string ⟨#[]⟩) HC rfl; have x6 := cell_blk (j := 6) (v := .string (tS (hS s1).2).1.1) HC rfl; have x7 := cell_blk (j := 7) (v := .string (tS (tS (hS s1).2).2).1.1) HC rfl; have x8 := cell_blk (j := 8) (v := .slice none 0 0) HC rfl; have hY := InvO.k2 HIC.out; have HY := Aside0.mk hY; have y0 := cell_blk (j := 0) (v := .int .i64 0) hY rfl; have z0 := Lib.frozen_of_heap hY 0; have y1 := cell_blk (j := 1) (v := .int .i64 0) hY rfl; have z1 := Lib.frozen_of_heap hY 1; have y2 := cell_blk (j := 2) (v := .int .i64 0) hY rfl; have z2 := Lib.frozen_of_heap hY 2; have y3 := cell_blk (j := 3) (v := .int .i64 0) hY rfl; have z3 := Lib.frozen_of_heap hY 3; have y4 := cell_blk (j := 4) (v := .string ⟨#[]⟩) hY rfl; have z4 := Lib.frozen_of_heap hY 4; have y5 := cell_blk (j := 5) (v := .string ⟨#[]⟩) hY rfl; have z5 := Lib.frozen_of_heap hY 5; have y6 := cell_blk (j := 6) (v := .string ⟨#[]⟩) hY rfl; have z6 := Lib.frozen_of_heap hY 6; have y7 := cell_blk (j := 7) (v := .string ⟨#[]⟩) hY rfl; have z7 := Lib.frozen_of_heap hY 7; have y8 := cell_blk (j := 8) (v := .slice none 0 0) hY rfl; have z8 := Lib.frozen_of_heap hY 8; clear HC hY)
    | (go_at_call 42; (refine (must_d _ _).mono ?_); rintro e w6 ⟨⟨hc, rfl⟩ | ⟨hc, rfl⟩, rfl⟩; rotate_left; focus (unfold stopE; go_wp2_with fail; exact ⟨rfl, opPost_stop HIC.out.but hc (by rw [opR_good s HS1.out 5 hk (by decide) (by simpa [bodyR] using HE3.out)]; simp [bodyR])⟩)))
  have hpz := L.out.h2
  have hgood := opR_good s HS1.out 5 hk (by decide) (by simpa [bodyR] using HE3.out)
  refine bodyPost_ret (results_cell_row rfl _ _ (w.heap.size + 1) 42 _ (0, 0) _ rfl (set_blk (j := 8) (set_blk (j := 7) (set_blk (j := 6) (set_blk (j := 5) (set_blk (j := 4) (set_blk (j := 3) (set_blk (j := 2) (set_blk (j := 1) (set_blk (j := 0) (HY.out) _) _) _) _) _) _) _) _) _) Tryd.underlying42 rfl (by kernel_rfl)) rfl ?_
  simp only [bodyR, Int.reduceEq, if_false, if_true] at hgood
  rw [hgood]
  exact opPost_ok (AtB.set (AtB.set (AtB.set (AtB.set (AtB.set (AtB.set (AtB.set (AtB.set (AtB.set ⟨HIC.out.but, HIC.out.at_⟩ hpw hpz hok 0 _) hpw hpz hok 1 _) hpw hpz hok 2 _) hpw hpz hok 3 _) hpw hpz hok 4 _) hpw hpz hok 5 _) hpw hpz hok 6 _) hpw hpz hok 7 _) hpw hpz hok 8 _) hc (.slice none 0 0) rfl (Kd.R_nil k44 44 _ _ _)
set_option maxHeartbeats 2000000 in
set_option maxRecDepth 100000 in
theorem op_6 (w0 : World) (hgl : GL w0) (p : Nat) (ok : Nat → Prop) (s : St) (w : World) (hok : ∀ k, ok k → k < p) (hw : Below w0.heap.size w0 w) (hw0 : w0.heap.size ≤ p) (h : AtR 107 p ok s.1 s.2 w) (hk : (nS s 7).1 = (6, 0)) :
    Calls Tryd.prog 41 #[.agg #[.pointer (some ⟨p, 0, none⟩)]] w fun e w' => opPost w p ok (opR s) e w' := by
  have hpw := h.lt
  have H := Aside0.mk h
  have he7 : (nS s 7).2.2 = 0 := by rw [← nS_err, hk]
  have HN : Aside0 (∀ W, AtR 107 p ok s.1 s.2 W → Calls Tryd.prog 40 #[.agg #[.pointer (some ⟨p, 0, none⟩)], .int .u64 7] W fun e w' => e = .returned (.int .i64 6) ∧ AtR 107 p ok (nS s 7).2.1 (nS s 7).2.2 w' ∧ But (· = p) W w') := ⟨fun W hW => (num_d 7 (by omega) p ok s W hW).mono (by
    rintro e w' ⟨⟨h0, he, ha⟩ | ⟨h0, he⟩, hb⟩
    · rw [hk] at he
      exact ⟨he, ha, hb⟩
    · exact absurd he7 h0)⟩
  obtain ⟨s1, hs1⟩ : ∃ s1, s1 = (nS s 7).2 := ⟨_, rfl⟩
  rw [← hs1] at HN
  have hB0 := H.out.2.1
  have hB1 := (nS_bytes s 7 hB0).1
  rw [← hs1] at hB1
  have hn1 : num32 (hS s1).1.1 := nS_val s1 4294967295 hB1 (by omega)
  have hB2 := (nS_bytes s1 4294967295 hB1).1
  have hs6 : ((tS (hS s1).2).1.1).size ≤ 65536 := tS_size (hS s1).2 hB2
  have hB3 := (tS_bytes (hS s1).2 hB2).1
  have HCK : Aside0 (∀ {b1 b2 b3 : Nat} {o1 o2 o3 : Obj} W, InvO 107 w p ok b1 o1 b2 o2 b3 o3 (tS (hS s1).2).2 W ∧ Lie w p ok b1 b2 b3 → Calls Tryd.prog 28 #[.agg #[.int .i64 6, .int .i64 (hS s1).1.1, .int .i64 0, .int .i64 0, .string ⟨#[]⟩, .string ⟨#[]⟩, .string (tS (hS s1).2).1.1, .string ⟨#[]⟩, .slice none 0 0]] W fun e w' => e = .returned (.int .i64 (chk ⟨6, (hS s1).1.1, 0, 0, em, em, (tS (hS s1).2).1.1, em, []⟩)) ∧ InvO 107 w p ok b1 o1 b2 o2 b3 o3 (tS (hS s1).2).2 w') := ⟨fun W hW => by
    have hb : Below w0.heap.size w0 W := ⟨hW.1.but.os.trans hw.os, hW.1.but.tape.trans hw.tape, hW.1.but.output.trans hw.output, Nat.le_trans hw.size hW.1.but.size, fun k hk => (hW.1.but.block k (Nat.lt_of_lt_of_le hk hw.size) (by omega)).trans (hw.block k hk)⟩
    have := Check_x ⟨6, (hS s1).1.1, 0, 0, em, em, (tS (hS s1).2).1.1, em, []⟩ none 0 W (hgl.below hb) (Kd.C_nil k44 W) (Nat.le_refl 0) ⟨i64_k 6 (by omega), i64_32 hn1, i64_k 0 (by omega), i64_k 0 (by omega), Nat.zero_le _, Nat.zero_le _, size_up hs6, Nat.zero_le _, Nat.zero_le _, fun i hi => absurd hi (Nat.not_lt_zero i)⟩
    exact this.mono fun e w' h => ⟨h.1, hW.1.below hW.2 h.2⟩⟩
  have HG := Aside0.mk hgl
  have HS1 := Aside0.mk hs1
  clear h hgl hw he7 hs1 hB0 hB1 hB2 hB3 hn1 hs6
  go_enter Tryd.func41, Tryd.ntmps41
  go_wp2_with (first
    | (go_at_call 40; (refine (HN.out _ (AtR.al (AtR.al H.out _) _)).mono ?_); rintro e w1 ⟨rfl, h2, h3⟩; have HI0 := Aside0.mk (inv_start 107 w p ok (.cells #[.pointer (some ⟨p, 0, none⟩)] 87) (.cells #[.int .i64 0, .int .i64 0, .int .i64 0, .int .i64 0, .string ⟨#[]⟩, .string ⟨#[]⟩, .string ⟨#[]⟩, .string ⟨#[]⟩, .slice none 0 0] 42) (.cells #[.int .i64 6, .int .i64 0, .int .i64 0, .int .i64 0, .string ⟨#[]⟩, .string ⟨#[]⟩, .string ⟨#[]⟩, .string ⟨#[]⟩, .slice none 0 0] 42) s1 w1 hpw h2 h3); have L := Aside0.mk (lie_start w p ok _ _ w1 hpw hok h3); have hne : ¬ w.heap.size = w1.heap.size := L.out.n13; have hne2 : ¬ w.heap.size + 1 = w1.heap.size := L.out.n23; have q0 := cell_blk (j := 0) (v := .pointer (some ⟨p, 0, none⟩)) HI0.out.k1 rfl; clear h2 h3)
    | (go_at_call 61; (refine (InvO.handle HI0.out L.out).mono ?_); rintro e w2 (⟨he1, rfl, hv1, hI⟩ | ⟨he, rfl, hb⟩); rotate_left; go_loud (focus (unfold stopE; go_wp2_with fail; exact ⟨rfl, opPost_stop hb he (opR_bad s HS1.out 6 _ hk (by decide) (by simp [bodyR, hS_stick (hS s1).2 he, tS_stick (hS s1).2 he]) he)⟩)); have HI1 := Aside0.mk hI; clear hI; have HV1 := Aside0.mk hv1; have HE1 := Aside0.mk he1; clear hv1 he1 q0; have q0 := cell_blk (j := 0) (v := .pointer (some ⟨p, 0, none⟩)) HI1.out.k1 rfl; have fz := Lib.frozen_of_heap HI1.out.k3 1; have HC := InvO.k3 HI1.out; have x0 := cell_blk (j := 0) (v := .int .i64 6) HC rfl; have x1 := cell_blk (j := 1) (v := .int .i64 0) HC rfl; have x2 := cell_blk (j := 2) (v := .int .i64 0) HC rfl; have x3 := cell_blk (j := 3) (v := .int .i64 0) HC rfl; have x4 := cell_blk (j := 4) (v := .string ⟨#[]⟩) HC rfl; have x5 := cell_blk (j := 5) (v := .string ⟨#[]⟩) HC rfl; have x6 := cell_blk (j := 6) (v := .string ⟨#[]⟩) HC rfl; have x7 := cell_blk (j := 7) (v := .string ⟨#[]⟩) HC rfl; have x8 := cell_blk (j := 8) (v := .slice none 0 0) HC rfl; clear HC)
    | (go_at_call 60; (refine (InvO.text (InvO.set HI1.out L.out 1 (.int .i64 (hS s1).1.1)) L.out).mono ?_); rintro e w3 (⟨he2, rfl, hv2, hI⟩ | ⟨he, rfl, hb⟩); rotate_left; go_loud (focus (unfold stopE; go_wp2_with fail; exact ⟨rfl, opPost_stop hb he (opR_bad s HS1.out 6 _ hk (by decide) (by simp [bodyR, hS_stick (tS (hS s1).2).2 he, tS_stick (tS (hS s1).2).2 he]) he)⟩)); have HI2 := Aside0.mk hI; clear hI; have HV2 := Aside0.mk hv2; have HE2 := Aside0.mk he2; clear hv2 he2 q0 fz; clear x0 x1 x2 x3 x4 x5 x6 x7 x8; have q0 := cell_blk (j := 0) (v := .pointer (some ⟨p, 0, none⟩)) HI2.out.k1 rfl; have fz := Lib.frozen_of_heap HI2.out.k3 6; have HC := InvO.k3 HI2.out; have x0 := cell_blk (j := 0) (v := .int .i64 6) HC rfl; have x1 := cell_blk (j := 1) (v := .int .i64 (hS s1).1.1) HC rfl; have x2 := cell_blk (j := 2) (v := .int .i64 0) HC rfl; have x3 := cell_blk (j := 3) (v := .int .i64 0) HC rfl; have x4 := cell_blk (j := 4) (v := .string ⟨#[]⟩) HC rfl; have x5 := cell_blk (j := 5) (v := .string ⟨#[]⟩) HC rfl; have x6 := cell_blk (j := 6) (v := .string ⟨#[]⟩) HC rfl; have x7 := cell_blk (j := 7) (v := .string ⟨#[]⟩) HC rfl; have x8 := cell_blk (j := 8) (v := .slice none 0 0) HC rfl; clear HC)
    | (go_at_call 28; (refine (HCK.out _ ⟨(InvO.set HI2.out L.out 6 (.string (tS (hS s1).2).1.1)), L.out⟩).mono ?_); rintro e w4 ⟨rfl, hI⟩; have HIC := Aside0.mk hI; clear hI q0 fz x0 x1 x2 x3 x4 x5 x6 x7 x8; have HC := InvO.k3 HIC.out; have x0 := cell_blk (j := 0) (v := .int .i64 6) HC rfl; have x1 := cell_blk (j := 1) (v := .int .i64 (hS s1).1.1) HC rfl; have x2 := cell_blk (j := 2) (v := .int .i64 0) HC rfl; have x3 := cell_blk (j := 3) (v := .int .i64 0) HC rfl; have x4 := cell_blk (j := 4) (v := .string ⟨#[]⟩) HC rfl; have x5 := cell_blk (j := 5) (v := .string ⟨#[]⟩) HC rfl; have x6 := cell_blk (j := 6) (v := .string (tS (hS s1).2).1.1) HC rfl; have x7 := cell_blk (j := 7) (v := .string ⟨#[]⟩) HC rfl; have x8 := cell_blk (j := 8) (v := .slice none 0 0) HC rfl; have hY := InvO.k2 HIC.out; have HY := Aside0.mk hY; have y0 := cell_blk (j := 0) (v := .int .i64 0) hY rfl; have z0 := Lib.frozen_of_heap hY 0; have y1 := cell_blk (j := 1) (v := .int .i64 0) hY rfl; have z1 := Lib.frozen_of_heap hY 1; have y2 := cell_blk (j := 2) (v := .int .i64 0) hY rfl; have z2 := Lib.frozen_of_heap hY 2; have y3 := cell_blk (j := 3) (v := .int .i64 0) hY rfl; have z3 := Lib.frozen_of_heap hY 3; have y4 := cell_blk (j := 4) (v := .string ⟨#[]⟩) hY rfl; have z4 := Lib.frozen_of_heap hY 4; have y5 := cell_blk (j := 5) (v := .string ⟨#[]⟩) hY rfl; have z5 := Lib.frozen_of_heap hY 5; have y6 := cell_blk (j := 6) (v := .string ⟨#[]⟩) hY rfl; have z6 := Lib.frozen_of_heap hY 6; have y7 := cell_blk (j := 7) (v := .string ⟨#[]⟩) hY rfl; have z7 := Lib.frozen_of_heap hY 7; have y8 := cell_blk (j := 8) (v := .slice none 0 0) hY rfl; have z8 := Lib.frozen_of_heap hY 8; clear HC hY)
    | (go_at_call 42; (refine (must_d _ _).mono ?_); rintro e w5 ⟨⟨hc, rfl⟩ | ⟨hc, rfl⟩, rfl⟩; rotate_left; focus (unfold stopE; go_wp2_with fail; exact ⟨rfl, opPost_stop HIC.out.but hc (by rw [opR_good s HS1.out 6 hk (by decide) (by simpa [bodyR] using HE2.out)]; simp [bodyR])⟩)))
  have hpz := L.out.h2
  have hgood := opR_good s HS1.out 6 hk (by decide) (by simpa [bodyR] using HE2.out)
  refine bodyPost_ret (results_cell_row rfl _ _ (w.heap.size + 1) 42 _ (0, 0) _ rfl (set_blk (j := 8) (set_blk (j := 7) (set_blk (j := 6) (set_blk (j := 5) (set_blk (j := 4) (set_blk (j := 3) (set_blk (j := 2) (set_blk (j := 1) (set_blk (j := 0) (HY.out) _) _) _) _) _) _) _) _) _) Tryd.underlying42 rfl (by kernel_rfl)) rfl ?_
  simp only [bodyR, Int.reduceEq, if_false, if_true] at hgood
  rw [hgood]
  exact opPost_ok (AtB.set (AtB.set (AtB.set (AtB.set (AtB.set (AtB.set (AtB.set (AtB.set (AtB.set ⟨HIC.out.but, HIC.out.at_⟩ hpw hpz hok 0 _) hpw hpz hok 1 _) hpw hpz hok 2 _) hpw hpz hok 3 _) hpw hpz hok 4 _) hpw hpz hok 5 _) hpw hpz hok 6 _) hpw hpz hok 7 _) hpw hpz hok 8 _) hc (.slice none 0 0) rfl (Kd.R_nil k44 44 _ _ _)
set_option maxHeartbeats 2000000 in
set_option maxRecDepth 100000 in
theorem op_7 (w0 : World) (hgl : GL w0) (p : Nat) (ok : Nat → Prop) (s : St) (w : World) (hok : ∀ k, ok k → k < p) (hw : Below w0.heap.size w0 w) (hw0 : w0.heap.size ≤ p) (h : AtR 107 p ok s.1 s.2 w) (hk : (nS s 7).1 = (7, 0)) :
    Calls Tryd.prog 41 #[.agg #[.pointer (some ⟨p, 0, none⟩)]] w fun e w' => opPost w p ok (opR s) e w' := by
  have hpw := h.lt
  have H := Aside0.mk h
  have he7 : (nS s 7).2.2 = 0 := by rw [← nS_err, hk]
  have HN : Aside0 (∀ W, AtR 107 p ok s.1 s.2 W → Calls Tryd.prog 40 #[.agg #[.pointer (some ⟨p, 0, none⟩)], .int .u64 7] W fun e w' => e = .returned (.int .i64 7) ∧ AtR 107 p ok (nS s 7).2.1 (nS s 7).2.2 w' ∧ But (· = p) W w') := ⟨fun W hW => (num_d 7 (by omega) p ok s W hW).mono (by
    rintro e w' ⟨⟨h0, he, ha⟩ | ⟨h0, he⟩, hb⟩
    · rw [hk] at he
      exact ⟨he, ha, hb⟩
    · exact absurd he7 h0)⟩
  obtain ⟨s1, hs1⟩ : ∃ s1, s1 = (nS s 7).2 := ⟨_, rfl⟩
  rw [← hs1] at HN
  have hB0 := H.out.2.1
  have hB1 := (nS_bytes s 7 hB0).1
  rw [← hs1] at hB1
  have hn1 : num32 (hS s1).1.1 := nS_val s1 4294967295 hB1 (by omega)
  have hB2 := (nS_bytes s1 4294967295 hB1).1
  have hs7 : ((tS (hS s1).2).1.1).size ≤ 65536 := tS_size (hS s1).2 hB2
  have hB3 := (tS_bytes (hS s1).2 hB2).1
  have HCK : Aside0 (∀ {b1 b2 b3 : Nat} {o1 o2 o3 : Obj} W, InvO 107 w p ok b1 o1 b2 o2 b3 o3 (tS (hS s1).2).2 W ∧ Lie w p ok b1 b2 b3 → Calls Tryd.prog 28 #[.agg #[.int .i64 7, .int .i64 (hS s1).1.1, .int .i64 0, .int .i64 0, .string ⟨#[]⟩, .string ⟨#[]⟩, .string ⟨#[]⟩, .string (tS (hS s1).2).1.1, .slice none 0 0]] W fun e w' => e = .returned (.int .i64 (chk ⟨7, (hS s1).1.1, 0, 0, em, em, em, (tS (hS s1).2).1.1, []⟩)) ∧ InvO 107 w p ok b1 o1 b2 o2 b3 o3 (tS (hS s1).2).2 w') := ⟨fun W hW => by
    have hb : Below w0.heap.size w0 W := ⟨hW.1.but.os.trans hw.os, hW.1.but.tape.trans hw.tape, hW.1.but.output.trans hw.output, Nat.le_trans hw.size hW.1.but.size, fun k hk => (hW.1.but.block k (Nat.lt_of_lt_of_le hk hw.size) (by omega)).trans (hw.block k hk)⟩
    have := Check_x ⟨7, (hS s1).1.1, 0, 0, em, em, em, (tS (hS s1).2).1.1, []⟩ none 0 W (hgl.below hb) (Kd.C_nil k44 W) (Nat.le_refl 0) ⟨i64_k 7 (by omega), i64_32 hn1, i64_k 0 (by omega), i64_k 0 (by omega), Nat.zero_le _, Nat.zero_le _, Nat.zero_le _, size_up hs7, Nat.zero_le _, fun i hi => absurd hi (Nat.not_lt_zero i)⟩
    exact this.mono fun e w' h => ⟨h.1, hW.1.below hW.2 h.2⟩⟩
  have HG := Aside0.mk hgl
  have HS1 := Aside0.mk hs1
  clear h hgl hw he7 hs1 hB0 hB1 hB2 hB3 hn1 hs7
  go_enter Tryd.func41, Tryd.ntmps41
  go_wp2_with (first
    | (go_at_call 40; (refine (HN.out _ (AtR.al (AtR.al H.out _) _)).mono ?_); rintro e w1 ⟨rfl, h2, h3⟩; have HI0 := Aside0.mk (inv_start 107 w p ok (.cells #[.pointer (some ⟨p, 0, none⟩)] 87) (.cells #[.int .i64 0, .int .i64 0, .int .i64 0, .int .i64 0, .string ⟨#[]⟩, .string ⟨#[]⟩, .string ⟨#[]⟩, .string ⟨#[]⟩, .slice none 0 0] 42) (.cells #[.int .i64 7, .int .i64 0, .int .i64 0, .int .i64 0, .string ⟨#[]⟩, .string ⟨#[]⟩, .string ⟨#[]⟩, .string ⟨#[]⟩, .slice none 0 0] 42) s1 w1 hpw h2 h3); have L := Aside0.mk (lie_start w p ok _ _ w1 hpw hok h3); have hne : ¬ w.heap.size = w1.heap.size := L.out.n13; have hne2 : ¬ w.heap.size + 1 = w1.heap.size := L.out.n23; have q0 := cell_blk (j := 0) (v := .pointer (some ⟨p, 0, none⟩)) HI0.out.k1 rfl; clear h2 h3)
    | (go_at_call 61; (refine (InvO.handle HI0.out L.out).mono ?_); rintro e w2 (⟨he1, rfl, hv1, hI⟩ | ⟨he, rfl, hb⟩); rotate_left; go_loud (focus (unfold stopE; go_wp2_with fail; exact ⟨rfl, opPost_stop hb he (opR_bad s HS1.out 7 _ hk (by decide) (by simp [bodyR, hS_stick (hS s1).2 he, tS_stick (hS s1).2 he]) he)⟩)); have HI1 := Aside0.mk hI; clear hI; have HV1 := Aside0.mk hv1; have HE1 := Aside0.mk he1; clear hv1 he1 q0; have q0 := cell_blk (j := 0) (v := .pointer (some ⟨p, 0, none⟩)) HI1.out.k1 rfl; have fz := Lib.frozen_of_heap HI1.out.k3 1; have HC := InvO.k3 HI1.out; have x0 := cell_blk (j := 0) (v := .int .i64 7) HC rfl; have x1 := cell_blk (j := 1) (v := .int .i64 0) HC rfl; have x2 := cell_blk (j := 2) (v := .int .i64 0) HC rfl; have x3 := cell_blk (j := 3) (v := .int .i64 0) HC rfl; have x4 := cell_blk (j := 4) (v := .string ⟨#[]⟩) HC rfl; have x5 := cell_blk (j := 5) (v := .string ⟨#[]⟩) HC rfl; have x6 := cell_blk (j := 6) (v := .string ⟨#[]⟩) HC rfl; have x7 := cell_blk (j := 7) (v := .string ⟨#[]⟩) HC rfl; have x8 := cell_blk (j := 8) (v := .slice none 0 0) HC rfl; clear HC)
    | (go_at_call 60; (refine (InvO.text (InvO.set HI1.out L.out 1 (.int .i64 (hS s1).1.1)) L.out).mono ?_); rintro e w3 (⟨he2, rfl, hv2, hI⟩ | ⟨he, rfl, hb⟩); rotate_left; go_loud (focus (unfold stopE; go_wp2_with fail; exact ⟨rfl, opPost_stop hb he (opR_bad s HS1.out 7 _ hk (by decide) (by simp [bodyR, hS_stick (tS (hS s1).2).2 he, tS_stick (tS (hS s1).2).2 he]) he)⟩)); have HI2 := Aside0.mk hI; clear hI; have HV2 := Aside0.mk hv2; have HE2 := Aside0.mk he2; clear hv2 he2 q0 fz; clear x0 x1 x2 x3 x4 x5 x6 x7 x8; have q0 := cell_blk (j := 0) (v := .pointer (some ⟨p, 0, none⟩)) HI2.out.k1 rfl; have fz := Lib.frozen_of_heap HI2.out.k3 7; have HC := InvO.k3 HI2.out; have x0 := cell_blk (j := 0) (v := .int .i64 7) HC rfl; have x1 := cell_blk (j := 1) (v := .int .i64 (hS s1).1.1) HC rfl; have x2 := cell_blk (j := 2) (v := .int .i64 0) HC rfl; have x3 := cell_blk (j := 3) (v := .int .i64 0) HC rfl; have x4 := cell_blk (j := 4) (v := .string ⟨#[]⟩) HC rfl; have x5 := cell_blk (j := 5) (v := .string ⟨#[]⟩) HC rfl; have x6 := cell_blk (j := 6) (v := .string ⟨#[]⟩) HC rfl; have x7 := cell_blk (j := 7) (v := .string ⟨#[]⟩) HC rfl; have x8 := cell_blk (j := 8) (v := .slice none 0 0) HC rfl; clear HC)
    | (go_at_call 28; (refine (HCK.out _ ⟨(InvO.set HI2.out L.out 7 (.string (tS (hS s1).2).1.1)), L.out⟩).mono ?_); rintro e w4 ⟨rfl, hI⟩; have HIC := Aside0.mk hI; clear hI q0 fz x0 x1 x2 x3 x4 x5 x6 x7 x8; have HC := InvO.k3 HIC.out; have x0 := cell_blk (j := 0) (v := .int .i64 7) HC rfl; have x1 := cell_blk (j := 1) (v := .int .i64 (hS s1).1.1) HC rfl; have x2 := cell_blk (j := 2) (v := .int .i64 0) HC rfl; have x3 := cell_blk (j := 3) (v := .int .i64 0) HC rfl; have x4 := cell_blk (j := 4) (v := .string ⟨#[]⟩) HC rfl; have x5 := cell_blk (j := 5) (v := .string ⟨#[]⟩) HC rfl; have x6 := cell_blk (j := 6) (v := .string ⟨#[]⟩) HC rfl; have x7 := cell_blk (j := 7) (v := .string (tS (hS s1).2).1.1) HC rfl; have x8 := cell_blk (j := 8) (v := .slice none 0 0) HC rfl; have hY := InvO.k2 HIC.out; have HY := Aside0.mk hY; have y0 := cell_blk (j := 0) (v := .int .i64 0) hY rfl; have z0 := Lib.frozen_of_heap hY 0; have y1 := cell_blk (j := 1) (v := .int .i64 0) hY rfl; have z1 := Lib.frozen_of_heap hY 1; have y2 := cell_blk (j := 2) (v := .int .i64 0) hY rfl; have z2 := Lib.frozen_of_heap hY 2; have y3 := cell_blk (j := 3) (v := .int .i64 0) hY rfl; have z3 := Lib.frozen_of_heap hY 3; have y4 := cell_blk (j := 4) (v := .string ⟨#[]⟩) hY rfl; have z4 := Lib.frozen_of_heap hY 4; have y5 := cell_blk (j := 5) (v := .string ⟨#[]⟩) hY rfl; have z5 := Lib.frozen_of_heap hY 5; have y6 := cell_blk (j := 6) (v := .string ⟨#[]⟩) hY rfl; have z6 := Lib.frozen_of_heap hY 6; have y7 := cell_blk (j := 7) (v := .string ⟨#[]⟩) hY rfl; have z7 := Lib.frozen_of_heap hY 7; have y8 := cell_blk (j := 8) (v := .slice none 0 0) hY rfl; have z8 := Lib.frozen_of_heap hY 8; clear HC hY)
    | (go_at_call 42; (refine (must_d _ _).mono ?_); rintro e w5 ⟨⟨hc, rfl⟩ | ⟨hc, rfl⟩, rfl⟩; rotate_left; focus (unfold stopE; go_wp2_with fail; exact ⟨rfl, opPost_stop HIC.out.but hc (by rw [opR_good s HS1.out 7 hk (by decide) (by simpa [bodyR] using HE2.out)]; simp [bodyR])⟩)))
  have hpz := L.out.h2
  have hgood := opR_good s HS1.out 7 hk (by decide) (by simpa [bodyR] using HE2.out)
  refine bodyPost_ret (results_cell_row rfl _ _ (w.heap.size + 1) 42 _ (0, 0) _ rfl (set_blk (j := 8) (set_blk (j := 7) (set_blk (j := 6) (set_blk (j := 5) (set_blk (j := 4) (set_blk (j := 3) (set_blk (j := 2) (set_blk (j := 1) (set_blk (j := 0) (HY.out) _) _) _) _) _) _) _) _) _) Tryd.underlying42 rfl (by kernel_rfl)) rfl ?_
  simp only [bodyR, Int.reduceEq, if_false, if_true] at hgood
  rw [hgood]
  exact opPost_ok (AtB.set (AtB.set (AtB.set (AtB.set (AtB.set (AtB.set (AtB.set (AtB.set (AtB.set ⟨HIC.out.but, HIC.out.at_⟩ hpw hpz hok 0 _) hpw hpz hok 1 _) hpw hpz hok 2 _) hpw hpz hok 3 _) hpw hpz hok 4 _) hpw hpz hok 5 _) hpw hpz hok 6 _) hpw hpz hok 7 _) hpw hpz hok 8 _) hc (.slice none 0 0) rfl (Kd.R_nil k44 44 _ _ _)
end Go.Proofs.YtfpijjjmgggfkaaDoorE

namespace Go.Proofs.YtfpijjjmgggfkaaDoorE
open Go Go.RowKit Go.Proofs.YtfpijjjmgggfkaaDoorW.PrintWords Go.Proofs.YtfpijjjmgggfkaaDoorW.PrintMore Go.Proofs.YtfpijjjmgggfkaaDoorX Go.Proofs.YtfpijjjmgggfkaaDoor.P26 Go.Proofs.YtfpijjjmgggfkaaDoor.L01
set_option linter.unusedVariables false
set_option linter.unusedSimpArgs false
set_option maxHeartbeats 2000000 in
set_option maxRecDepth 100000 in
theorem op_bad (p : Nat) (ok : Nat → Prop) (s : St) (w : World) (h : AtR 107 p ok s.1 s.2 w) (hn : (nS s 7).2.2 ≠ 0) :
    Calls Tryd.prog 41 #[.agg #[.pointer (some ⟨p, 0, none⟩)]] w fun e w' => opPost w p ok (opR s) e w' := by
  have hpw := h.lt
  have HN := Aside0.mk (num_d 7 (by omega) p ok s _ (AtR.al (AtR.al h (.cells #[.pointer (some ⟨p, 0, none⟩)] 87)) (.cells #[.int .i64 0, .int .i64 0, .int .i64 0, .int .i64 0, .string ⟨#[]⟩, .string ⟨#[]⟩, .string ⟨#[]⟩, .string ⟨#[]⟩, .slice none 0 0] 42)))
  have he : (opR s).1.2 = (nS s 7).2.2 := by
    unfold opR
    rw [if_pos (by rw [nS_err]; exact hn), nS_err]
  have HE := Aside0.mk he
  obtain ⟨R, hR⟩ : ∃ R, R = opR s := ⟨_, rfl⟩
  rw [← hR] at HE ⊢
  obtain ⟨t, ht⟩ : ∃ t, t = (nS s 7) := ⟨_, rfl⟩
  rw [← ht] at HE HN hn
  have HN0 := Aside0.mk hn
  clear h he hR ht hn
  go_enter Tryd.func41, Tryd.ntmps41
  go_wp2_with (first
    | (go_at_call 40; (refine (HN.out).mono ?_); rintro e w1 ⟨⟨h0, rfl, ha⟩ | ⟨h0, rfl⟩, hb⟩; (exact absurd h0 HN0.out); unfold stopE; have HB := Aside0.mk hb; clear hb h0))
  exact ⟨rfl, opPost_stop ((((But.refl _ w).alloc _).alloc _).then_ HB.out) HN0.out HE.out⟩
set_option maxHeartbeats 2000000 in
set_option maxRecDepth 100000 in
theorem op_0 (p : Nat) (ok : Nat → Prop) (s : St) (w : World) (h : AtR 107 p ok s.1 s.2 w) (hk : (nS s 7).1 = (0, 0)) :
    Calls Tryd.prog 41 #[.agg #[.pointer (some ⟨p, 0, none⟩)]] w fun e w' => opPost w p ok (opR s) e w' := by
  have hpw := h.lt
  have he7 : (nS s 7).2.2 = 0 := by rw [← nS_err, hk]
  have HN : Aside0 (∀ W, AtR 107 p ok s.1 s.2 W → Calls Tryd.prog 40 #[.agg #[.pointer (some ⟨p, 0, none⟩)], .int .u64 7] W fun e w' => e = .returned (.int .i64 0) ∧ But (· = p) W w') := ⟨fun W hW => (num_d 7 (by omega) p ok s W hW).mono (by
    rintro e w' ⟨⟨h0, he, ha⟩ | ⟨h0, he⟩, hb⟩
    · rw [hk] at he
      exact ⟨he, hb⟩
    · exact absurd he7 h0)⟩
  have H := Aside0.mk h
  have he : (opR s).1.2 = 6 := by
    unfold opR
    rw [hk, if_neg (by simp), if_pos rfl]
  have HE := Aside0.mk he
  obtain ⟨R, hR⟩ : ∃ R, R = opR s := ⟨_, rfl⟩
  rw [← hR] at HE ⊢
  clear h he hR he7 hk
  go_enter Tryd.func41, Tryd.ntmps41
  go_wp2_with (first
    | (go_at_call 40; (refine (HN.out _ (AtR.al (AtR.al H.out _) _)).mono ?_); rintro e w1 ⟨rfl, hb⟩; have HB := Aside0.mk hb; clear hb)
    | (go_at_call 42; (refine (must_bad 6 (by decide) _).mono ?_); rintro e w2 ⟨rfl, rfl⟩; unfold stopE))
  exact ⟨rfl, opPost_stop (((((But.refl _ w).alloc _).alloc _).then_ HB.out).alloc _) (by decide) HE.out⟩
/-- codec.reader.op. -/
theorem op_c (w0 : World) (hgl : GL w0) (p : Nat) (ok : Nat → Prop) (s : St) (w : World) (hok : ∀ k, ok k → k < p) (hw : Below w0.heap.size w0 w) (hw0 : w0.heap.size ≤ p) (h : AtR 107 p ok s.1 s.2 w) :
    Calls Tryd.prog 41 #[.agg #[.pointer (some ⟨p, 0, none⟩)]] w fun e w' => opPost w p ok (opR s) e w' := by
  by_cases he : (nS s 7).2.2 = 0
  · obtain ⟨k, hk⟩ : ∃ k, (nS s 7).1 = (k, 0) := ⟨(nS s 7).1.1, by rw [← he, ← nS_err]⟩
    have hv := nS_val s 7 h.2.1 (by omega)
    rw [hk] at hv
    simp only at hv
    have hc : k = 0 ∨ k = 1 ∨ k = 2 ∨ k = 3 ∨ k = 4 ∨ k = 5 ∨ k = 6 ∨ k = 7 := by omega
    rcases hc with rfl | rfl | rfl | rfl | rfl | rfl | rfl | rfl
    · exact op_0 p ok s w h hk
    · exact op_1 w0 hgl p ok s w hok hw hw0 h hk
    · exact op_2 w0 hgl p ok s w hok hw hw0 h hk
    · exact op_3 w0 hgl p ok s w hok hw hw0 h hk
    · exact op_4 w0 hgl p ok s w hok hw hw0 h hk
    · exact op_5 w0 hgl p ok s w hok hw hw0 h hk
    · exact op_6 w0 hgl p ok s w hok hw hw0 h hk
    · exact op_7 w0 hgl p ok s w hok hw hw0 h hk
  · exact op_bad p ok s w h he
end Go.Proofs.YtfpijjjmgggfkaaDoorE

namespace Go.Proofs.YtfpijjjmgggfkaaDoorE
open Go Go.RowKit Go.Proofs.YtfpijjjmgggfkaaDoorW.PrintWords Go.Proofs.YtfpijjjmgggfkaaDoorW.PrintMore Go.Proofs.YtfpijjjmgggfkaaDoorX Go.Proofs.YtfpijjjmgggfkaaDoor.P26 Go.Proofs.YtfpijjjmgggfkaaDoor.L01
set_option linter.unusedVariables false
set_option linter.unusedSimpArgs false
set_option maxRecDepth 100000
theorem catch_stop (g : Nat) (x n : Int) (w : World) (hc : w.cell? ⟨g, 0, none⟩ = some (.int .i64 x)) (hz : w.frozen? ⟨g, 0, none⟩ = false) :
    CallsD Tryd.prog 38 #[.pointer (some ⟨g, 0, none⟩)] (.panicking ({ v := .iface 82 (.int .i64 n), recovered := false } :: [])) w fun e u' w' =>
      e = .returned (.tuple #[]) ∧ u' = .panicking ({ v := .iface 82 (.int .i64 n), recovered := true } :: []) ∧ w' = w.setCell ⟨g, 0, none⟩ (.int .i64 n) := by
  have hta : ∀ (v : Value) (w : World), (Instr.typeAssert (Value.iface 82 v) 20 82 true).run Tryd.prog w = .ok (.tuple #[v, .bool true]) w := fun _ _ => rfl
  refine callsD_of_wpS Tryd.func38 rfl fun c₀ cs hu => ?_
  apply wpS_seq
  apply wpS_region
  simp [wpOpsS, go_sem, recoverD, hu, Tryd.ntmps38, Exit.thenS]
  apply wpS_seq
  apply wpS_region
  simp [wpOpsS, go_sem, Exit.thenS]
  refine wpS_cond (t := true) (by simp [Act.eval, Array.replicate]) ?_
  simp only [if_true]
  apply wpS_seq
  apply wpS_region
  simp [wpOpsS, go_sem, Exit.thenS, hta]
  apply wpS_seq
  apply wpS_seq
  apply wpS_region
  simp [wpOpsS, go_sem, Exit.thenS]
  refine wpS_cond (t := false) (by simp [Act.eval, Array.replicate]) ?_
  simp only [Bool.false_eq_true, if_false]
  refine wpS_of_wp (wp_skip ?_)
  simp only [Exit.thenS]
  apply wpS_region
  simp [wpOpsS, go_sem, Exit.thenS, hc, hz, bodyPostS, results, Tryd.results38]
theorem catch_idle (g : Nat) (w : World) :
    CallsD Tryd.prog 38 #[.pointer (some ⟨g, 0, none⟩)] .returning w fun e u' w' => e = .returned (.tuple #[]) ∧ u' = .returning ∧ w' = w := by
  refine callsD_of_wpS Tryd.func38 rfl fun c₀ cs hu => ?_
  apply wpS_seq
  apply wpS_region
  simp [wpOpsS, go_sem, recoverD, hu, Tryd.ntmps38, Exit.thenS]
  apply wpS_seq
  apply wpS_region
  simp [wpOpsS, go_sem, Exit.thenS]
  refine wpS_cond (t := false) (by simp [Act.eval, Array.replicate]) ?_
  simp only [Bool.false_eq_true, if_false]
  refine wpS_of_wp (wp_skip ?_)
  cases c₀
  simp_all [bodyPostS, results, Tryd.results38]
end Go.Proofs.YtfpijjjmgggfkaaDoorE

namespace Go.Proofs.YtfpijjjmgggfkaaDoorE
open Go Go.RowKit Go.Proofs.YtfpijjjmgggfkaaDoorW.PrintWords Go.Proofs.YtfpijjjmgggfkaaDoorW.PrintMore Go.Proofs.YtfpijjjmgggfkaaDoorX Go.Proofs.YtfpijjjmgggfkaaDoor.P26 Go.Proofs.YtfpijjjmgggfkaaDoor.L01
set_option linter.unusedVariables false
set_option linter.unusedSimpArgs false
set_option maxRecDepth 100000
/-- What a script's bytes say: the operations read, and the error that ended it. -/
def readR (bs : List Int) : List S42 × Int :=
  if (nS (bs, 0) 1048576).2.2 ≠ 0 then ([], (nS (bs, 0) 1048576).2.2)
  else if (opsR (nS (bs, 0) 1048576).1.1.toNat (nS (bs, 0) 1048576).2).2.1 ≠ 0 then ((opsR (nS (bs, 0) 1048576).1.1.toNat (nS (bs, 0) 1048576).2).1, (opsR (nS (bs, 0) 1048576).1.1.toNat (nS (bs, 0) 1048576).2).2.1)
  else ((opsR (nS (bs, 0) 1048576).1.1.toNat (nS (bs, 0) 1048576).2).1, endR (opsR (nS (bs, 0) 1048576).1.1.toNat (nS (bs, 0) 1048576).2).2.2.1 (opsR (nS (bs, 0) 1048576).1.1.toNat (nS (bs, 0) 1048576).2).2.2.2)
theorem info_op : (Tryd.prog.info? 42).map (fun i => (i.zero, i.size, i.bytes)) = some (some (.agg #[.int .i64 0, .int .i64 0, .int .i64 0, .int .i64 0, .string ⟨#[]⟩, .string ⟨#[]⟩, .string ⟨#[]⟩, .string ⟨#[]⟩, .slice none 0 0]), k42.sz, 120) := by kernel_rfl
/-- What codec.read tells. -/
def readPost (w : World) (bs : List Int) (e : Ending) (w' : World) : Prop :=
  (∃ v, e = .returned (.tuple #[v, .int .i64 (readR bs).2]) ∧ k42.R 42 w' w.heap.size (fun _ => True) v (readR bs).1) ∧ Below w.heap.size w w'
/-- The door of codec.read, where a reading has been stopped. -/
theorem door_stop {Φ : Ending → World → Prop} {g : Nat} {v0 v1 v v4 v5 v6 v7 v8 v9 v10 v11 v12 v13 v14 v15 v16 v17 v18 v19 v20 v21 v22 v23 : Value} {n : Int} {w4 : World} (hc : w4.heap[g]? = some (.cells #[.int .i64 0] 26 (0, 0)))
    (h : Φ (.returned (.tuple #[v, .int .i64 n])) (w4.setCell ⟨g, 0, none⟩ (.int .i64 n))) :
    bodyPostD Tryd.prog Tryd.f21 Φ (Exit.panic [{ v := .iface 82 (.int .i64 n), recovered := false }]) { tmps := #[v0, v1, v, .pointer (some ⟨g, 0, none⟩), v4, v5, v6, v7, v8, v9, v10, v11, v12, v13, v14, v15, v16, v17, v18, v19, v20, v21, v22, v23], defers := [{ target := Target.fn (Fn.func 38) #[.pointer (some ⟨g, 0, none⟩)], args := #[] }] } w4 := by
  have c0 := cell_blk (j := 0) (v := .int .i64 0) hc rfl
  have hlt := blk_lt' hc
  refine leaves_cons (f := 38) (args := #[.pointer (some ⟨g, 0, none⟩)]) (by simp) (by simp [go_sem]) ?_
  refine (catch_stop g 0 n w4 c0 (Lib.frozen_of_heap hc 0)).mono ?_
  rintro e u' w'' ⟨rfl, rfl, rfl⟩
  have c1 : (w4.setCell ⟨g, 0, none⟩ (.int .i64 n)).cell? ⟨g, 0, none⟩ = some (.int .i64 n) := by rw [Lib.cell_of_heap (set_blk hc _)]; rfl
  simp [Leaves, settle, results, Tryd.results21, go_sem, c1]
  exact h
/-- The door of codec.read behind a return. -/
theorem door_ret {Φ : Ending → World → Prop} {g : Nat} {v0 v1 v v4 v5 v6 v7 v8 v9 v10 v11 v12 v13 v14 v15 v16 v17 v18 v19 v20 v21 v22 v23 : Value} {n : Int} {w4 : World} (hc : w4.heap[g]? = some (.cells #[.int .i64 n] 26 (0, 0)))
    (h : Φ (.returned (.tuple #[v, .int .i64 n])) w4) :
    bodyPostD Tryd.prog Tryd.f21 Φ Exit.ret { tmps := #[v0, v1, v, .pointer (some ⟨g, 0, none⟩), v4, v5, v6, v7, v8, v9, v10, v11, v12, v13, v14, v15, v16, v17, v18, v19, v20, v21, v22, v23], defers := [{ target := Target.fn (Fn.func 38) #[.pointer (some ⟨g, 0, none⟩)], args := #[] }] } w4 := by
  have c0 := cell_blk (j := 0) (v := .int .i64 n) hc rfl
  refine leaves_cons (f := 38) (args := #[.pointer (some ⟨g, 0, none⟩)]) (by simp) (by simp [go_sem]) ?_
  refine (catch_idle g w4).mono ?_
  rintro e u' w'' ⟨rfl, rfl, rfl⟩
  simp [Leaves, settle, results, Tryd.results21, go_sem, c0]
  exact h
theorem readPost_mk {w w' : World} {bs : List Int} {v : Value} {n : Int} (l : List S42) (hR : readR bs = (l, n)) (hrow : k42.R 42 w' w.heap.size (fun _ => True) v l) (hb : Below w.heap.size w w') : readPost w bs (.returned (.tuple #[v, .int .i64 n])) w' := by
  unfold readPost
  rw [hR]
  exact ⟨⟨v, rfl, hrow⟩, hb⟩
theorem below_but {w w3 w4 : World} {p : Nat} (h : Below w.heap.size w w3) (hb : But (· = p) w3 w4) (hp : w.heap.size ≤ p) : Below w.heap.size w w4 :=
  ⟨hb.os.trans h.os, hb.tape.trans h.tape, hb.output.trans h.output, Nat.le_trans h.size hb.size, fun k hk => (hb.block k (Nat.lt_of_lt_of_le hk h.size) (by omega)).trans (h.block k hk)⟩
theorem below_put {w w4 : World} (h : Below w.heap.size w w4) (v : Value) : Below w.heap.size w (w4.setCell ⟨w.heap.size, 0, none⟩ v) := by
  have hB : But (· = w.heap.size) w4 (w4.setCell ⟨w.heap.size, 0, none⟩ v) := But.put (S := (· = w.heap.size)) (But.refl _ w4) (j := 0) rfl v
  exact below_but h hB (Nat.le_refl _)
/-- The numbers of a script: what codec.read makes of it. -/
theorem readR_1 (bs : List Int) (h : (nS (bs, 0) 1048576).2.2 ≠ 0) : readR bs = ([], (nS (bs, 0) 1048576).2.2) := by
  unfold readR
  rw [if_pos h]
theorem readR_2 (bs : List Int) {n : Nat} {s1 : St} (hn : (nS (bs, 0) 1048576).1.1 = (n : Int)) (hs : s1 = (nS (bs, 0) 1048576).2) (h : s1.2 = 0) {l : List S42} {e : Int} {s' : St} (ho : opsR n s1 = (l, e, s')) (he : e ≠ 0) : readR bs = (l, e) := by
  subst hs
  unfold readR
  rw [if_neg (by simp [h]), hn, Int.toNat_natCast, ho, if_pos he]
theorem readR_3 (bs : List Int) {n : Nat} {s1 : St} (hn : (nS (bs, 0) 1048576).1.1 = (n : Int)) (hs : s1 = (nS (bs, 0) 1048576).2) (h : s1.2 = 0) {l : List S42} {s' : St} (ho : opsR n s1 = (l, 0, s')) : readR bs = (l, endR s'.1 s'.2) := by
  subst hs
  unfold readR
  rw [if_neg (by simp [h]), hn, Int.toNat_natCast, ho, if_neg (by simp)]
theorem opsR_stop (d : Nat) (s : St) (h : (opR s).1.2 ≠ 0) : opsR (d + 1) s = ([], (opR s).1.2, (opR s).2) := by
  show (if (opR s).1.2 ≠ 0 then _ else _) = _
  rw [if_pos h]
theorem opsR_go (d : Nat) (s : St) (h : (opR s).1.2 = 0) : opsR (d + 1) s = ((opR s).1.1 :: (opsR d (opR s).2).1, (opsR d (opR s).2).2) := by
  show (if (opR s).1.2 ≠ 0 then _ else _) = _
  rw [if_neg (by simp [h])]
theorem R_since {w w3 : World} {v : Value} {l : List S42} {n : Nat} (hn : n ≤ w3.heap.size) (h : k42.R 42 w w3.heap.size (fun j => w3.heap.size ≤ j) v l) : k42.R 42 w n (fun _ => True) v l := Kd.R_mono (Kd.R_lower h hn) (fun _ _ => trivial)
theorem AtB.grown {T : Nat} {W : World} {p : Nat} {ok : Nat → Prop} {s : St} {w w' : World} (h : AtB T W p ok s w) (hp : p < W.heap.size) (hok : ∀ k, ok k → k < p) {row : Option Nat} (g : w.grownBy w' row) (hr : ∀ k, row = some k → W.heap.size ≤ k) : AtB T W p ok s w' :=
  ⟨h.but.grown g (fun k hk => .inr (hr k hk)), h.at_.but ((But.refl (fun k => row = some k) w).grown g (fun k hk => .inl hk)) (fun k hk => ⟨by have := hr k hk; omega, fun e => by have := hok _ e; have := hr k hk; omega⟩)⟩
/-- What holds behind k operations. -/
def InvR (w3 : World) (p : Nat) (ok : Nat → Prop) (n : Nat) (s1 : St) (k : Nat) (v : Value) (wr : World) : Prop :=
  ∃ (l : List S42) (sk : St), l.length = k ∧ opsR n s1 = (l ++ (opsR (n - k) sk).1, (opsR (n - k) sk).2) ∧ AtB 107 w3 p ok sk wr ∧ k42.R 42 wr w3.heap.size (fun j => w3.heap.size ≤ j) v l
set_option maxHeartbeats 2000000 in
theorem cread_c (A : Option Addr) (c : Nat) (bs : List Int) (w : World) (hgl : GL w) (hC : Kd.C (Kd.int .u8) w A bs.length bs) (hc : bs.length ≤ c) (hB : Bytes bs) (hlen : bs.length ≤ 140737488355328) :
    Calls Tryd.prog 21 #[.slice A bs.length c] w fun e w' => readPost w bs e w' := by
  have hmf : ∀ (fn : Fn) (first cap : Array Value) (w : World), (Instr.makeFunc fn first cap).run Tryd.prog w = .ok (.func fn first cap) w := fun _ _ _ _ => rfl
  have HRD := Aside0.mk (read_c A c bs hB (w.alloc (.cells #[.int .i64 0] 26)) (Kd.C_below hC (below_alloc (Below.refl _ _) _)) hlen)
  have HG := Aside0.mk hgl
  obtain ⟨R, hR⟩ : ∃ R, R = readR bs := ⟨_, rfl⟩
  have HRS := Aside0.mk hR
  have HBY := Aside0.mk hB
  clear hC hB hgl hR
  go_enter_defers Tryd.func21, Tryd.ntmps21
  go_wp2_with (first
    | (go_at_call 39; (refine (HRD.out).mono ?_); rintro e w2 ⟨⟨p, rfl, hp, ha⟩, hb⟩; simp at hp; obtain ⟨ok, hok, ha⟩ : ∃ ok : Nat → Prop, (∀ k, ok k → k < p) ∧ AtR 107 p ok bs 0 w2 := ⟨_, fun k hk => hk.2, ha⟩; have HA := Aside0.mk (AtR.al ha (.cells #[.pointer (some ⟨p, 0, none⟩)] 87)); have hpw := ha.lt; have HB := Aside0.mk (below_then (below_alloc (Below.refl _ w) (.cells #[.int .i64 0] 26)) (by simp) hb); have hg2 := (hb.block w.heap.size (by simp)).trans (one_new_ w (.cells #[.int .i64 0] 26)); have hg3 := ((below_alloc (Below.refl _ w2) (.cells #[.pointer (some ⟨p, 0, none⟩)] 87)).block w.heap.size (blk_lt' hg2)).trans hg2; have hr3 := one_new_ w2 (.cells #[.pointer (some ⟨p, 0, none⟩)] 87); have HG3 := Aside0.mk hg3; have HR3 := Aside0.mk hr3; have q3 := cell_blk (j := 0) (v := .pointer (some ⟨p, 0, none⟩)) hr3 rfl; have hsz2 := HB.out.size; clear ha hb hg2 hg3 hr3)
    | (go_at_call 40; (refine (num_d 1048576 (by omega) p ok (bs, 0) _ HA.out).mono ?_); rintro e w4 ⟨⟨he, rfl, ha⟩ | ⟨he, rfl⟩, hb⟩; rotate_left; go_loud (focus (unfold stopE; go_wp2_with fail; refine door_stop ((hb.block _ (blk_lt' HG3.out) (by omega)).trans HG3.out) (readPost_mk [] (readR_1 bs he) (Kd.R_nil k42 42 _ _ _) (below_put (below_but (below_alloc HB.out _) hb (by omega)) _)))); have HAB := Aside0.mk (AtB.mk (T := 107) hb ha); have HE := Aside0.mk he; clear ha hb he))
  obtain ⟨n, hn⟩ : ∃ n : Nat, (nS (bs, 0) 1048576).1.1 = (n : Int) := ⟨(nS (bs, 0) 1048576).1.1.toNat, by have := (nS_val (bs, 0) 1048576 HBY.out (by omega)).1; omega⟩
  have hn1 : n ≤ 1048576 := by have := (nS_val (bs, 0) 1048576 HBY.out (by omega)).2; omega
  obtain ⟨s1, hs1⟩ : ∃ s1, s1 = (nS (bs, 0) 1048576).2 := ⟨_, rfl⟩
  rw [← hs1] at HAB HE
  have HNN := Aside0.mk hn
  have HS1 := Aside0.mk hs1
  rw [hn]
  clear hs1 hn
  obtain ⟨w3, hw3⟩ : ∃ w3, w3 = w2.alloc (.cells #[.pointer (some ⟨p, 0, none⟩)] 87) := ⟨_, rfl⟩
  have hs3 : w3.heap.size = w2.heap.size + 1 := by rw [hw3]; simp
  rw [← hw3] at HAB HG3 HR3
  have HB3 : Aside0 (Below w.heap.size w w3) := ⟨by rw [hw3]; exact below_alloc HB.out _⟩
  clear hw3 q3
  have HL0 : Aside0 (InvR w3 p ok n s1 0 (.slice none 0 0) w4) := ⟨[], s1, rfl, by simp, HAB.out, Kd.R_nil k42 42 _ _ _⟩
  go_loopw [2, 11] (fun v i wr => ∃ k : Nat, k ≤ n ∧ i = .int .i64 k ∧ Aside0 (InvR w3 p ok n s1 k v wr)) (fun _ i _ => n - (intOf i).toNat)
  case atStart => exact ⟨0, Nat.zero_le _, rfl, HL0⟩
  case round =>
    obtain ⟨k, hkn, rfl, HI⟩ := hrel
    obtain ⟨l, sk, hl, hop, hab, hR⟩ := HI.out
    obtain ⟨A8, c8, rfl⟩ := Kd.R_slice hR
    have hbw := below_but HB3.out hab.but (by omega)
    have hgr := (hab.but.block w.heap.size (blk_lt' HG3.out) (by omega)).trans HG3.out
    have hrr := (hab.but.block w2.heap.size (blk_lt' HR3.out) (by omega)).trans HR3.out
    have qr := cell_blk (j := 0) (v := .pointer (some ⟨p, 0, none⟩)) hrr rfl
    by_cases hlt : k < n
    · obtain ⟨d, hd⟩ : ∃ d, n - k = d + 1 := ⟨n - k - 1, by omega⟩
      rw [hd] at hop
      have HOP := Aside0.mk hop
      have HL := Aside0.mk hl
      have HAB2 := Aside0.mk hab
      have HRW := Aside0.mk hR
      have HBW := Aside0.mk hbw
      have HGR := Aside0.mk hgr
      clear hop hab hR hbw hgr hrr hl
      go_wp2_with (first
        | (go_at_call 41; (refine (op_c w HG.out p ok sk _ hok HBW.out (by omega) HAB2.out.at_).mono ?_); rintro e w5 ⟨hb, ⟨h0, v8, rfl, hr8, ha⟩ | ⟨h0, rfl⟩⟩; rotate_left; go_loud (focus (unfold stopE; go_wp2_with fail; exact door_stop ((hb.block _ (blk_lt' HGR.out) (by omega)).trans HGR.out) (readPost_mk l (readR_2 bs HNN.out HS1.out HE.out (by rw [HOP.out, opsR_stop d sk h0, List.append_nil]) h0) (R_since HB3.out.size (Kd.R_far (Kd.R_step HRW.out (fun j hj hlt => hb.block j hlt (by omega))) (fun j hj => by show j ≠ w.heap.size; omega) _)) (below_put (below_but HBW.out hb (by omega)) _)))); unfold opV; have HB5 := Aside0.mk hb; have HR8 := Aside0.mk (Kd.R_lower (Kd.R_mono (Kd.R_bound hr8) (fun j hj => hj.2.1)) HAB2.out.but.size); have HA5 := Aside0.mk ha; have H0 := Aside0.mk h0; clear hb hr8 ha h0)
        | (at_builtin; refine Kd.R_append (w0 := w5) (W := w5) k42 w3.heap.size rfl (.tmp 13) (.tmp 16) 22 42 (.agg #[.int .i64 0, .int .i64 0, .int .i64 0, .int .i64 0, .string ⟨#[]⟩, .string ⟨#[]⟩, .string ⟨#[]⟩, .string ⟨#[]⟩, .slice none 0 0]) 120 rfl Tryd.underlying22 info_op rfl (by decide) (by decide) (.slice A8 l.length c8) l (opR sk).1.1 [.int .i64 (opR sk).1.1.f0, .int .i64 (opR sk).1.1.f1, .int .i64 (opR sk).1.1.f2, .int .i64 (opR sk).1.1.f3, .string (opR sk).1.1.f4, .string (opR sk).1.1.f5, .string (opR sk).1.1.f6, .string (opR sk).1.1.f7, v8] (fun j => w3.heap.size ≤ j) (fun j => wr.heap.size ≤ j) rfl rfl (k42_mkM w5 w3.heap.size _ (opR sk).1.1 HR8.out) ?hokp ?hfr (Kd.R_step HRW.out (fun j hj hlt => HB5.out.block j hlt (by omega))) (Below.refl _ _) ?hbase ?hlen ?hk; (case hokp => intro j hj; exact ⟨Nat.le_trans HAB2.out.but.size hj, fun e => by have := Kd.R_lt HRW.out j e.symm; omega⟩); (case hfr => intro j hj; have := HAB2.out.but.size; have := HB5.out.size; omega); (case hbase => have := HAB2.out.but.size; have := HB5.out.size; omega); (case hlen => have := HL.out; omega); intro v1 w6 hR1 hb1 hg1 hat1; obtain ⟨A9, c9, rfl⟩ := Kd.R_slice hR1; have HR9 := Aside0.mk hR1; have HAB9 := Aside0.mk (AtB.grown ⟨HAB2.out.but.then_ HB5.out, HA5.out⟩ (by omega) hok hg1 (fun j hj => Kd.R_base HRW.out j hj)); clear hR1 hb1 hg1 hat1))
      go_roundw
      case rel =>
        refine ⟨k + 1, by omega, by go_num, ⟨l ++ [(opR sk).1.1], (opR sk).2, by rw [List.length_append, HL.out]; rfl, ?_, HAB9.out, by have h9 := HR9.out; rw [List.length_append] at h9; exact h9⟩⟩
        rw [HOP.out, opsR_go d sk H0.out, show n - (k + 1) = d by omega, List.append_assoc]
        rfl
      case measure => simp [intOf]; omega
    · obtain rfl : k = n := by omega
      rw [Nat.sub_self] at hop
      have hop' : opsR k s1 = (l, 0, sk) := by rw [hop]; simp [opsR]
      have HOP := Aside0.mk hop'
      have HL := Aside0.mk hl
      have HAB2 := Aside0.mk hab
      have HRW := Aside0.mk hR
      have HBW := Aside0.mk hbw
      have HGR := Aside0.mk hgr
      have g0 := cell_blk (j := 0) (v := .int .i64 0) hgr rfl
      have gz := Lib.frozen_of_heap hgr 0
      clear hop hop' hab hR hbw hgr hrr hl
      go_wp2_with (first
        | (go_at_call 43; (refine (r_end p ok sk.1 sk.2 _ HAB2.out.at_).mono ?_); rintro e w5 ⟨rfl, rfl⟩)
        | (go_at_call 42; (refine (must_d _ _).mono ?_); rintro e w7 ⟨⟨he, rfl⟩ | ⟨he, rfl⟩, rfl⟩; rotate_left; go_loud (focus (unfold stopE; go_wp2_with fail; exact door_stop HGR.out (readPost_mk l (readR_3 bs HNN.out HS1.out HE.out HOP.out) (R_since HB3.out.size (Kd.R_far HRW.out (fun j hj => by show j ≠ w.heap.size; omega) _)) (below_put HBW.out _)))); have HEE := Aside0.mk he; clear he))
      refine door_ret (set_blk HGR.out _) (readPost_mk l (by rw [readR_3 bs HNN.out HS1.out HE.out HOP.out, HEE.out]) (R_since HB3.out.size (Kd.R_far HRW.out (fun j hj => by show j ≠ w.heap.size; omega) _)) (below_put HBW.out _))
end Go.Proofs.YtfpijjjmgggfkaaDoorE

namespace Go.Proofs.YtfpijjjmgggfkaaDoorE
open Go Go.RowKit Go.Proofs.YtfpijjjmgggfkaaDoorW.PrintWords Go.Proofs.YtfpijjjmgggfkaaDoorW.PrintMore Go.Proofs.YtfpijjjmgggfkaaDoorX Go.Proofs.YtfpijjjmgggfkaaDoor.P26 Go.Proofs.YtfpijjjmgggfkaaDoor.L01
set_option linter.unusedVariables false
set_option linter.unusedSimpArgs false
set_option maxRecDepth 100000
/-- What Decode tells: the script, the place, the error. -/
def decS (bs : List Int) : List S42 × Int × Int := if (readR bs).2 ≠ 0 then ([], ((readR bs).1.length : Int), (readR bs).2) else ((readR bs).1, 0, 0)
theorem decS_bad {bs : List Int} (h : (readR bs).2 ≠ 0) : decS bs = ([], ((readR bs).1.length : Int), (readR bs).2) := by
  unfold decS
  rw [if_pos h]
theorem decS_ok {bs : List Int} (h : (readR bs).2 = 0) : decS bs = ((readR bs).1, 0, 0) := by
  unfold decS
  rw [if_neg (by simp [h])]
def decPost (D : List S42 × Int × Int) (w : World) (e : Ending) (w' : World) : Prop :=
  (∃ v, e = .returned (.tuple #[v, .int .i64 D.2.1, .int .i64 D.2.2]) ∧ k42.R 42 w' w.heap.size (fun _ => True) v D.1) ∧ Below w.heap.size w w'
set_option maxHeartbeats 2000000 in
theorem Decode_c (A : Option Addr) (c : Nat) (bs : List Int) (w : World) (hgl : GL w) (hC : Kd.C (Kd.int .u8) w A bs.length bs) (hc : bs.length ≤ c) (hB : Bytes bs) (hlen : bs.length ≤ 140737488355328) :
    Calls Tryd.prog 11 #[.slice A bs.length c] w fun e w' => decPost (decS bs) w e w' := by
  have HR := Aside0.mk (cread_c A c bs w hgl hC hc hB hlen)
  clear hC hB hgl hc hlen
  by_cases he : (readR bs).2 = 0
  · rw [decS_ok he]
    have HE := Aside0.mk he
    clear he
    go_enter Tryd.func11, Tryd.ntmps11
    go_wp2_with (go_at_call 21; (refine (HR.out).mono ?_); rintro e w1 ⟨⟨v, rfl, hv⟩, hb⟩; have HV := Aside0.mk hv; have HB := Aside0.mk hb; rw [HE.out]; obtain ⟨A1, c1, rfl⟩ := Kd.R_slice hv; clear hv hb)
    go_ret3
    exact ⟨⟨_, rfl, HV.out⟩, HB.out⟩
  · rw [decS_bad he]
    obtain ⟨R, hR⟩ : ∃ R, R = readR bs := ⟨_, rfl⟩
    have HR2 : Aside0 (Calls Tryd.prog 21 #[.slice A bs.length c] w fun e w' => (∃ v, e = .returned (.tuple #[v, .int .i64 R.2]) ∧ k42.R 42 w' w.heap.size (fun _ => True) v R.1) ∧ Below w.heap.size w w') := ⟨by rw [hR]; exact HR.out⟩
    rw [← hR] at he ⊢
    clear HR hR
    have h1 : (R.2 == 0) = false := by simpa using he
    have h2 : (R.2 != 0) = true := by simpa using he
    go_enter Tryd.func11, Tryd.ntmps11
    go_wp2_with (go_at_call 21; (refine (HR2.out).mono ?_); rintro e w1 ⟨⟨v, rfl, hv⟩, hb⟩; have HB := Aside0.mk hb; obtain ⟨A1, c1, rfl⟩ := Kd.R_slice hv; clear hv hb)
    go_ret3
    exact ⟨⟨_, rfl, Kd.R_nil k42 42 _ _ _⟩, HB.out⟩
end Go.Proofs.YtfpijjjmgggfkaaDoorE

namespace Go.Proofs.YtfpijjjmgggfkaaDoorE
open Go Go.RowKit Go.Proofs.YtfpijjjmgggfkaaDoorW.PrintWords Go.Proofs.YtfpijjjmgggfkaaDoorW.PrintMore Go.Proofs.YtfpijjjmgggfkaaDoorX Go.Proofs.YtfpijjjmgggfkaaDoor.P26 Go.Proofs.YtfpijjjmgggfkaaDoor.L01
set_option linter.unusedVariables false
set_option linter.unusedSimpArgs false
set_option maxRecDepth 100000
/-- A row of bytes of the call's own, since w1. -/
def InvE (w1 : World) (v : Value) (bs : List Int) (W : World) : Prop := own8 w1.heap.size v bs W ∧ Below w1.heap.size w1 W
theorem InvE.then {w1 W W' : World} {v : Value} {bs : List Int} (h : InvE w1 v bs W) (hb : Below W.heap.size W W') : InvE w1 v bs W' := ⟨Kd.R_below h.1 hb, below_then h.2 h.2.size hb⟩
end Go.Proofs.YtfpijjjmgggfkaaDoorE

namespace Go.Proofs.YtfpijjjmgggfkaaDoorE
open Go Go.RowKit Go.Proofs.YtfpijjjmgggfkaaDoorW.PrintWords Go.Proofs.YtfpijjjmgggfkaaDoorW.PrintMore Go.Proofs.YtfpijjjmgggfkaaDoorX Go.Proofs.YtfpijjjmgggfkaaDoor.P26 Go.Proofs.YtfpijjjmgggfkaaDoor.L01
set_option linter.unusedVariables false
set_option linter.unusedSimpArgs false
theorem nS_put (n : Nat) (m : Int) (hn : (n : Int) ≤ m) (hm : m ≤ 4294967295) (rest : List Int) : nS (enc n ++ rest, 0) m = (((n : Int), 0), (rest, 0)) := by
  unfold nS numR
  simp only
  rw [if_neg (by simp), takeS_put (by omega) rest, if_neg (by simp), if_neg (by simp; omega)]
  simp
theorem hS_put (n : Nat) (hn : n ≤ 4294967295) (rest : List Int) : hS (enc n ++ rest, 0) = (((n : Int), 0), (rest, 0)) := nS_put n 4294967295 (by omega) (by omega) rest
theorem tS_put (s : ByteArray) (hs : s.size ≤ 65536) (rest : List Int) : tS (encT s ++ rest, 0) = ((s, 0), (rest, 0)) := by
  have h1 : encT s ++ rest = enc s.size ++ (bytesI s ++ rest) := by simp [encT]
  have hl := bytesI_len s
  unfold tS textR
  simp only
  rw [h1, if_neg (by simp), takeS_put (by omega) _, if_neg (by simp), if_neg (by simp; omega), if_neg (by simp [hl]; omega)]
  simp only [Int.toNat_natCast]
  have h2 : ((enc s.size ++ (bytesI s ++ rest)).take ((enc s.size).length + s.size)).drop (enc s.size).length = bytesI s := by
    rw [List.drop_take, List.drop_left, show (enc s.size).length + s.size - (enc s.size).length = s.size by omega, ← hl, List.take_left]
  have h3 : (enc s.size ++ (bytesI s ++ rest)).drop ((enc s.size).length + s.size) = rest := by
    rw [← List.drop_drop, List.drop_left, ← hl, List.drop_left]
  rw [h2, h3, str_bytesI]
theorem nS_inv (s : St) (m : Int) (hB : Bytes s.1) (h : (nS s m).2.2 = 0) : ∃ n : Nat, s.1 = enc n ++ (nS s m).2.1 ∧ (nS s m).1 = ((n : Int), 0) ∧ s.2 = 0 ∧ (n : Int) ≤ m ∧ nS s m = (((n : Int), 0), ((nS s m).2.1, 0)) := by
  have h0 : s.2 = 0 := by
    by_cases h0 : s.2 = 0
    · exact h0
    · rw [nS_stick s m h0] at h; exact absurd h h0
  have he : nS s m = nS s m := rfl
  unfold nS numR at h he ⊢
  rw [if_neg (by simp [h0])] at h ⊢
  by_cases h1 : (takeS 0 s.1).2.2 ≠ 0
  · rw [if_pos h1] at h; exact absurd h h1
  · rw [if_neg h1] at h ⊢
    obtain ⟨n, j, e, -, hj, h3, h4⟩ := takeS_ok s.1 hB (by simpa using h1)
    rw [e] at h ⊢
    simp only at h ⊢
    by_cases h2 : m < (n : Int)
    · rw [if_pos h2] at h; simp at h
    · rw [if_neg h2] at h ⊢
      refine ⟨n, ?_, rfl, h0, by omega, rfl⟩
      simp only [Int.toNat_natCast]
      rw [hj, List.take_append_drop]
theorem bytesI_str (l : List Int) (h : Bytes l) : bytesI (strOfNums l) = l := by
  unfold bytesI strOfNums
  simp only [List.map_map]
  conv => rhs; rw [← List.map_id l]
  refine List.map_congr_left fun b hb => ?_
  have := h b hb
  simp
  omega
theorem size_str (l : List Int) : (strOfNums l).size = l.length := by
  unfold strOfNums
  show (List.map _ _).toArray.size = _
  rw [List.size_toArray, List.length_map]
theorem tS_inv (s : St) (hB : Bytes s.1) (h : (tS s).2.2 = 0) : s.1 = encT (tS s).1.1 ++ (tS s).2.1 ∧ (tS s).1.1.size ≤ 65536 ∧ s.2 = 0 := by
  have hz := tS_size s hB
  have h0 : s.2 = 0 := by
    by_cases h0 : s.2 = 0
    · exact h0
    · rw [tS_stick s h0] at h; exact absurd h h0
  refine ⟨?_, hz, h0⟩
  clear hz
  unfold tS textR at h ⊢
  rw [if_neg (by simp [h0])] at h ⊢
  by_cases h1 : (takeS 0 s.1).2.2 ≠ 0
  · rw [if_pos h1] at h; exact absurd h h1
  · rw [if_neg h1] at h ⊢
    obtain ⟨n, j, e, -, hj, h3, h4⟩ := takeS_ok s.1 hB (by simpa using h1)
    rw [e] at h ⊢
    simp only at h ⊢
    by_cases h2 : (65536 : Int) < 0 ∨ (65536 : Int) < (n : Int)
    · rw [if_pos h2] at h; simp at h
    · rw [if_neg h2] at h ⊢
      by_cases h5 : (s.1.length : Int) - (j : Int) < (n : Int)
      · rw [if_pos h5] at h; simp at h
      · rw [if_neg h5]
        simp only [Int.toNat_natCast]
        have hb : Bytes ((s.1.take (j + n)).drop j) := fun x hx => hB x (List.mem_of_mem_take (List.mem_of_mem_drop hx))
        have hn : ((s.1.take (j + n)).drop j).length = n := by rw [List.length_drop, List.length_take]; omega
        unfold encT
        rw [size_str, hn, bytesI_str _ hb, hj, List.append_assoc, List.drop_take, show j + n - j = n by omega]
        rw [show s.1.drop (j + n) = (s.1.drop j).drop n by rw [List.drop_drop], List.take_append_drop, List.take_append_drop]
theorem attrsR_put : ∀ (l : List S44) (h : ∀ a ∈ l, a.f0.size ≤ 65536 ∧ a.f1.size ≤ 65536) (rest : List Int), attrsR l.length (attrB l ++ rest, 0) = (l, (rest, 0)) := by
  intro l
  induction l with
  | nil => intro _ rest; rfl
  | cons a t ih =>
    intro h rest
    have ha := h a (List.mem_cons_self ..)
    have e1 : attrB (a :: t) ++ rest = encT a.f0 ++ (encT a.f1 ++ (attrB t ++ rest)) := by simp [attrB, encTs]
    rw [e1]
    show (_ :: _, _) = _
    simp only [tS_put _ ha.1, tS_put _ ha.2, ih (fun x hx => h x (List.mem_cons_of_mem _ hx)) rest]
theorem attrsR_inv : ∀ (d : Nat) (s : St) (hB : Bytes s.1) (h : (attrsR d s).2.2 = 0), s.1 = attrB (attrsR d s).1 ++ (attrsR d s).2.1 ∧ (attrsR d s).1.length = d ∧ s.2 = 0 ∧ Bytes (attrsR d s).2.1 := by
  intro d
  induction d with
  | zero => intro s hB h; exact ⟨by simp [attrsR, attrB], rfl, h, hB⟩
  | succ d ih =>
    intro s hB h
    have hB1 := (tS_bytes s hB).1
    have hB2 := (tS_bytes _ hB1).1
    obtain ⟨i1, i2, i3, i4⟩ := ih (tS (tS s).2).2 hB2 h
    obtain ⟨j1, -, j3⟩ := tS_inv (tS s).2 hB1 i3
    obtain ⟨k1, -, k3⟩ := tS_inv s hB j3
    refine ⟨?_, by show (_ :: _).length = _; rw [List.length_cons, i2], k3, i4⟩
    show s.1 = attrB (_ :: (attrsR d (tS (tS s).2).2).1) ++ (attrsR d (tS (tS s).2).2).2.1
    rw [k1, j1]
    conv => lhs; rw [i1]
    simp [attrB, encTs]
end Go.Proofs.YtfpijjjmgggfkaaDoorE

namespace Go.Proofs.YtfpijjjmgggfkaaDoorE
open Go Go.RowKit Go.Proofs.YtfpijjjmgggfkaaDoorW.PrintWords Go.Proofs.YtfpijjjmgggfkaaDoorW.PrintMore Go.Proofs.YtfpijjjmgggfkaaDoorX Go.Proofs.YtfpijjjmgggfkaaDoor.P26 Go.Proofs.YtfpijjjmgggfkaaDoor.L01
set_option linter.unusedVariables false
set_option linter.unusedSimpArgs false
theorem em_of (s : ByteArray) (h : s.size = 0) : s = em := by
  have h1 : s.data = #[] := by
    have : s.data.size = 0 := h
    exact Array.eq_empty_of_size_eq_zero this
  cases s
  simp only at h1
  rw [h1]
/-- What an operation that may be does not have. -/
theorem chk_none (x : S42) (h : chk x = 0) : noneO x = false := by
  unfold chk checkO at h
  by_cases h1 : x.f0 < 1 ∨ x.f0 > 7
  · rw [if_pos h1] at h; simp at h
  rw [if_neg h1] at h
  by_cases h2 : overO x.f1 = true ∨ overO x.f2 = true ∨ overO x.f3 = true
  · rw [if_pos h2] at h; simp at h
  rw [if_neg h2] at h
  by_cases h3 : noneO x = true
  · rw [if_pos h3] at h; simp at h
  simpa using h3
theorem oneB_body (x : S42) : oneB x = enc x.f0.toNat ++ (if x.f0 = 1 then encT x.f4 ++ (encT x.f5 ++ (encT x.f7 ++ (enc x.f8.length ++ attrB x.f8)))
  else if x.f0 = 2 then enc x.f1.toNat ++ (enc x.f2.toNat ++ enc x.f3.toNat)
  else if x.f0 = 3 then enc x.f1.toNat ++ enc x.f3.toNat
  else if x.f0 = 4 then enc x.f1.toNat
  else if x.f0 = 5 then enc x.f1.toNat ++ (encT x.f6 ++ encT x.f7)
  else if x.f0 = 6 then enc x.f1.toNat ++ encT x.f6
  else enc x.f1.toNat ++ encT x.f7) := by
  unfold oneB
  repeat' split
  all_goals simp [Go.Proofs.YtfpijjjmgggfkaaDoor.L01.encs, encTs]
theorem opR_put (x : S42) (hc : chk x = 0) (rest : List Int) : opR (oneB x ++ rest, 0) = ((x, 0), (rest, 0)) := by
  have hn := chk_none x hc
  obtain ⟨hk, h1, h2, h3, h4, h5, h6, h7, h8, h9⟩ := chk_okW x hc
  have e0 : x.f0 = ((x.f0.toNat : Nat) : Int) := by omega
  have e1 : x.f1 = ((x.f1.toNat : Nat) : Int) := by have := h1.1; omega
  have e2 : x.f2 = ((x.f2.toNat : Nat) : Int) := by have := h2.1; omega
  have e3 : x.f3 = ((x.f3.toNat : Nat) : Int) := by have := h3.1; omega
  have g1 : x.f1.toNat ≤ 4294967295 := by have := h1.2; omega
  have g2 : x.f2.toNat ≤ 4294967295 := by have := h2.2; omega
  have g3 : x.f3.toNat ≤ 4294967295 := by have := h3.2; omega
  have hat : ∀ a ∈ x.f8, a.f0.size ≤ 65536 ∧ a.f1.size ≤ 65536 := by
    intro a ha
    obtain ⟨i, hi, rfl⟩ := List.getElem_of_mem ha
    have := h9 i hi
    unfold rd_T44 at this
    rwa [Int.toNat_natCast, List.getD_eq_getElem?_getD, List.getElem?_eq_getElem hi] at this
  have hbody : bodyR x.f0 ((oneB x).drop (enc x.f0.toNat).length ++ rest, 0) = (x, (rest, 0)) := by
    rw [oneB_body, List.drop_left]
    unfold noneO at hn
    simp only [Bool.or_eq_false_iff, Bool.and_eq_false_iff, decide_eq_false_iff_not, ne_eq, Classical.not_not] at hn
    obtain ⟨f0, f1, f2, f3, f4, f5, f6, f7, f8⟩ := x
    simp only at *
    have hcs : f0 = 1 ∨ f0 = 2 ∨ f0 = 3 ∨ f0 = 4 ∨ f0 = 5 ∨ f0 = 6 ∨ f0 = 7 := by omega
    rcases hcs with rfl | rfl | rfl | rfl | rfl | rfl | rfl
    · have hz : f1 = 0 ∧ f2 = 0 ∧ f3 = 0 ∧ f6.size = 0 := by simp at hn; simp [hn]
      obtain ⟨z1, z2, z3, z6⟩ := hz
      have z6 := em_of f6 z6
      subst z1 z2 z3 z6
      simp only [bodyR, Int.reduceEq, if_false, if_true, List.append_assoc, tS_put _ h4, tS_put _ h5, tS_put _ h7, nS_put _ 64 (by omega : (f8.length : Int) ≤ 64) (by omega), attrsR_put f8 hat rest, Int.toNat_natCast]
    · have hz : f4.size = 0 ∧ f5.size = 0 ∧ f6.size = 0 ∧ f7.size = 0 ∧ f8 = [] := by simp at hn; simp [hn]
      obtain ⟨z4, z5, z6, z7, z8⟩ := hz
      have z4 := em_of f4 z4
      have z5 := em_of f5 z5
      have z6 := em_of f6 z6
      have z7 := em_of f7 z7
      subst z4 z5 z6 z7 z8
      simp only [bodyR, Int.reduceEq, if_false, if_true, List.append_assoc, hS_put _ g1, hS_put _ g2, hS_put _ g3, ← e1, ← e2, ← e3]
    · have hz : f2 = 0 ∧ f4.size = 0 ∧ f5.size = 0 ∧ f6.size = 0 ∧ f7.size = 0 ∧ f8 = [] := by simp at hn; simp [hn]
      obtain ⟨z2, z4, z5, z6, z7, z8⟩ := hz
      have z4 := em_of f4 z4
      have z5 := em_of f5 z5
      have z6 := em_of f6 z6
      have z7 := em_of f7 z7
      subst z2 z4 z5 z6 z7 z8
      simp only [bodyR, Int.reduceEq, if_false, if_true, List.append_assoc, hS_put _ g1, hS_put _ g3, ← e1, ← e3]
    · have hz : f2 = 0 ∧ f3 = 0 ∧ f4.size = 0 ∧ f5.size = 0 ∧ f6.size = 0 ∧ f7.size = 0 ∧ f8 = [] := by simp at hn; simp [hn]
      obtain ⟨z2, z3, z4, z5, z6, z7, z8⟩ := hz
      have z4 := em_of f4 z4
      have z5 := em_of f5 z5
      have z6 := em_of f6 z6
      have z7 := em_of f7 z7
      subst z2 z3 z4 z5 z6 z7 z8
      simp only [bodyR, Int.reduceEq, if_false, if_true, List.append_assoc, hS_put _ g1, ← e1]
    · have hz : f2 = 0 ∧ f3 = 0 ∧ f4.size = 0 ∧ f5.size = 0 ∧ f8 = [] := by simp at hn; simp [hn]
      obtain ⟨z2, z3, z4, z5, z8⟩ := hz
      have z4 := em_of f4 z4
      have z5 := em_of f5 z5
      subst z2 z3 z4 z5 z8
      simp only [bodyR, Int.reduceEq, if_false, if_true, List.append_assoc, hS_put _ g1, tS_put _ h6, tS_put _ h7, ← e1]
    · have hz : f2 = 0 ∧ f3 = 0 ∧ f4.size = 0 ∧ f5.size = 0 ∧ f7.size = 0 ∧ f8 = [] := by simp at hn; simp [hn]
      obtain ⟨z2, z3, z4, z5, z7, z8⟩ := hz
      have z4 := em_of f4 z4
      have z5 := em_of f5 z5
      have z7 := em_of f7 z7
      subst z2 z3 z4 z5 z7 z8
      simp only [bodyR, Int.reduceEq, if_false, if_true, List.append_assoc, hS_put _ g1, tS_put _ h6, ← e1]
    · have hz : f2 = 0 ∧ f3 = 0 ∧ f4.size = 0 ∧ f5.size = 0 ∧ f6.size = 0 ∧ f8 = [] := by simp at hn; simp [hn]
      obtain ⟨z2, z3, z4, z5, z6, z8⟩ := hz
      have z4 := em_of f4 z4
      have z5 := em_of f5 z5
      have z6 := em_of f6 z6
      subst z2 z3 z4 z5 z6 z8
      simp only [bodyR, Int.reduceEq, if_false, if_true, List.append_assoc, hS_put _ g1, tS_put _ h7, ← e1]
  have hnum : nS (oneB x ++ rest, 0) 7 = ((x.f0, 0), ((oneB x).drop (enc x.f0.toNat).length ++ rest, 0)) := by
    have e : oneB x = enc x.f0.toNat ++ (oneB x).drop (enc x.f0.toNat).length := by
      rw [oneB_body, List.drop_left]
    rw [e, List.append_assoc, nS_put _ 7 (by omega) (by omega), List.drop_left, ← e0]
  unfold opR
  rw [hnum]
  simp only
  rw [if_neg (by simp), if_neg (by omega), hbody]
  simp [hc]
theorem hS_inv (s : St) (hB : Bytes s.1) (h : (hS s).2.2 = 0) : s.1 = enc (hS s).1.1.toNat ++ (hS s).2.1 ∧ s.2 = 0 := by
  obtain ⟨n, h1, h2, h3, -⟩ := nS_inv s 4294967295 hB h
  refine ⟨?_, h3⟩
  show s.1 = enc (nS s 4294967295).1.1.toNat ++ (nS s 4294967295).2.1
  rw [h2]
  exact h1
theorem bodyR_inv (k : Int) (hk : 1 ≤ k ∧ k ≤ 7) (s : St) (hB : Bytes s.1) (h : (bodyR k s).2.2 = 0) : enc k.toNat ++ s.1 = oneB (bodyR k s).1 ++ (bodyR k s).2.1 ∧ s.2 = 0 ∧ Bytes (bodyR k s).2.1 := by
  rw [oneB_body]
  have hcs : k = 1 ∨ k = 2 ∨ k = 3 ∨ k = 4 ∨ k = 5 ∨ k = 6 ∨ k = 7 := by omega
  rcases hcs with rfl | rfl | rfl | rfl | rfl | rfl | rfl
  · simp only [bodyR, Int.reduceEq, if_false, if_true] at h ⊢
    have b0 := (tS_bytes s hB).1
    have b1 := (tS_bytes (tS s).2 b0).1
    have b2 := (tS_bytes (tS (tS s).2).2 b1).1
    have b3 := (nS_bytes (tS (tS (tS s).2).2).2 64 b2).1
    obtain ⟨i4, l4, j4, bz⟩ := attrsR_inv _ _ b3 h
    obtain ⟨n0, i3, m3, j3, -⟩ := nS_inv (tS (tS (tS s).2).2).2 64 b2 j4
    obtain ⟨i2, -, j2⟩ := tS_inv (tS (tS s).2).2 b1 j3
    obtain ⟨i1, -, j1⟩ := tS_inv (tS s).2 b0 j2
    obtain ⟨i0, -, j0⟩ := tS_inv s hB j1
    refine ⟨?_, j0, bz⟩
    rw [m3] at i4 l4 ⊢
    simp only [Int.toNat_natCast] at i4 l4 ⊢
    conv => lhs; rw [i0, i1, i2, i3, i4]
    simp only [l4, List.append_assoc]
  · simp only [bodyR, Int.reduceEq, if_false, if_true] at h ⊢
    have b0 := (nS_bytes s 4294967295 hB).1
    have b1 := (nS_bytes (hS s).2 4294967295 b0).1
    have b2 := (nS_bytes (hS (hS s).2).2 4294967295 b1).1
    obtain ⟨i2, j2⟩ := hS_inv (hS (hS s).2).2 b1 h
    obtain ⟨i1, j1⟩ := hS_inv (hS s).2 b0 j2
    obtain ⟨i0, j0⟩ := hS_inv s hB j1
    refine ⟨?_, j0, b2⟩
    conv => lhs; rw [i0, i1, i2]
    simp only [List.append_assoc]
  · simp only [bodyR, Int.reduceEq, if_false, if_true] at h ⊢
    have b0 := (nS_bytes s 4294967295 hB).1
    have b1 := (nS_bytes (hS s).2 4294967295 b0).1
    obtain ⟨i1, j1⟩ := hS_inv (hS s).2 b0 h
    obtain ⟨i0, j0⟩ := hS_inv s hB j1
    refine ⟨?_, j0, b1⟩
    conv => lhs; rw [i0, i1]
    simp only [List.append_assoc]
  · simp only [bodyR, Int.reduceEq, if_false, if_true] at h ⊢
    have b0 := (nS_bytes s 4294967295 hB).1
    obtain ⟨i0, j0⟩ := hS_inv s hB h
    refine ⟨?_, j0, b0⟩
    conv => lhs; rw [i0]
    simp only [List.append_assoc]
  · simp only [bodyR, Int.reduceEq, if_false, if_true] at h ⊢
    have b0 := (nS_bytes s 4294967295 hB).1
    have b1 := (tS_bytes (hS s).2 b0).1
    have b2 := (tS_bytes (tS (hS s).2).2 b1).1
    obtain ⟨i2, -, j2⟩ := tS_inv (tS (hS s).2).2 b1 h
    obtain ⟨i1, -, j1⟩ := tS_inv (hS s).2 b0 j2
    obtain ⟨i0, j0⟩ := hS_inv s hB j1
    refine ⟨?_, j0, b2⟩
    conv => lhs; rw [i0, i1, i2]
    simp only [List.append_assoc]
  · simp only [bodyR, Int.reduceEq, if_false, if_true] at h ⊢
    have b0 := (nS_bytes s 4294967295 hB).1
    have b1 := (tS_bytes (hS s).2 b0).1
    obtain ⟨i1, -, j1⟩ := tS_inv (hS s).2 b0 h
    obtain ⟨i0, j0⟩ := hS_inv s hB j1
    refine ⟨?_, j0, b1⟩
    conv => lhs; rw [i0, i1]
    simp only [List.append_assoc]
  · simp only [bodyR, Int.reduceEq, if_false, if_true] at h ⊢
    have b0 := (nS_bytes s 4294967295 hB).1
    have b1 := (tS_bytes (hS s).2 b0).1
    obtain ⟨i1, -, j1⟩ := tS_inv (hS s).2 b0 h
    obtain ⟨i0, j0⟩ := hS_inv s hB j1
    refine ⟨?_, j0, b1⟩
    conv => lhs; rw [i0, i1]
    simp only [List.append_assoc]
theorem opR_inv (s : St) (hB : Bytes s.1) (h : (opR s).1.2 = 0) : s.1 = oneB (opR s).1.1 ++ (opR s).2.1 ∧ chk (opR s).1.1 = 0 ∧ s.2 = 0 ∧ (opR s).2.2 = 0 ∧ Bytes (opR s).2.1 := by
  by_cases h1 : (nS s 7).1.2 ≠ 0
  · unfold opR at h
    rw [if_pos h1] at h
    exact absurd h h1
  · have h1' : (nS s 7).2.2 = 0 := by rw [← nS_err]; simpa using h1
    obtain ⟨n, i1, i2, i3, i4, -⟩ := nS_inv s 7 hB h1'
    by_cases h2 : (nS s 7).1.1 = 0
    · unfold opR at h
      rw [if_neg h1, if_pos h2] at h
      simp at h
    · by_cases h3 : (bodyR (nS s 7).1.1 (nS s 7).2).2.2 ≠ 0
      · unfold opR at h
        rw [if_neg h1, if_neg h2, if_pos h3] at h
        exact absurd h h3
      · have e : opR s = (((bodyR (nS s 7).1.1 (nS s 7).2).1, chk (bodyR (nS s 7).1.1 (nS s 7).2).1), (bodyR (nS s 7).1.1 (nS s 7).2).2) := by
          unfold opR
          rw [if_neg h1, if_neg h2, if_neg h3]
        rw [e] at h ⊢
        have hk : 1 ≤ (nS s 7).1.1 ∧ (nS s 7).1.1 ≤ 7 := by rw [i2] at h2 ⊢; simp only at h2 ⊢; omega
        obtain ⟨k1, -, k3⟩ := bodyR_inv _ hk (nS s 7).2 (nS_bytes s 7 hB).1 (by simpa using h3)
        refine ⟨?_, h, i3, by simpa using h3, k3⟩
        rw [← k1, i2]
        exact i1
theorem opsR_put : ∀ (l : List S42) (h : ∀ x ∈ l, chk x = 0) (rest : List Int), opsR l.length (opsB l ++ rest, 0) = (l, 0, (rest, 0)) := by
  intro l
  induction l with
  | nil => intro _ rest; rfl
  | cons a t ih =>
    intro h rest
    have e1 : opsB (a :: t) ++ rest = oneB a ++ (opsB t ++ rest) := by simp [opsB]
    have e2 := opR_put a (h a (List.mem_cons_self ..)) (opsB t ++ rest)
    rw [e1, List.length_cons, opsR_go _ _ (by rw [e2]), e2, ih (fun x hx => h x (List.mem_cons_of_mem _ hx)) rest]
theorem opsR_inv : ∀ (d : Nat) (s : St) (hB : Bytes s.1) (h : (opsR d s).2.1 = 0), s.1 = opsB (opsR d s).1 ++ (opsR d s).2.2.1 ∧ (opsR d s).1.length = d ∧ (∀ x ∈ (opsR d s).1, chk x = 0) ∧ ((opsR d s).2.2.2 = 0 → s.2 = 0) := by
  intro d
  induction d with
  | zero => intro s hB h; exact ⟨by simp [opsR, opsB], rfl, fun x hx => absurd hx (List.not_mem_nil), fun h => h⟩
  | succ d ih =>
    intro s hB h
    by_cases h0 : (opR s).1.2 = 0
    · rw [opsR_go d s h0] at h ⊢
      obtain ⟨k1, k2, k3, k4, k5⟩ := opR_inv s hB h0
      obtain ⟨i1, i2, i3, i4⟩ := ih (opR s).2 k5 h
      refine ⟨?_, by rw [List.length_cons, i2], ?_, fun _ => k3⟩
      · conv => lhs; rw [k1, i1]
        simp [opsB]
      · intro x hx
        rcases List.mem_cons.1 hx with rfl | hx
        · exact k2
        · exact i3 x hx
    · rw [opsR_stop d s h0] at h
      exact absurd h h0
theorem readR_put (l : List S42) (hn : l.length ≤ 1048576) (h : ∀ x ∈ l, chk x = 0) (rest : List Int) : readR (encB l ++ rest) = (l, if rest = [] then 0 else 2) := by
  have e1 : encB l ++ rest = enc l.length ++ (opsB l ++ rest) := by
    unfold encB
    rw [encs_one, Int.toNat_natCast, List.append_assoc]
  have e2 := nS_put l.length 1048576 (by omega) (by omega) (opsB l ++ rest)
  rw [e1]
  rw [readR_3 (enc l.length ++ (opsB l ++ rest)) (n := l.length) (s1 := (opsB l ++ rest, 0)) (by rw [e2]) (by rw [e2]) rfl (opsR_put l h rest)]
  unfold endR
  simp
theorem readR_inv (bs : List Int) (hB : Bytes bs) (h : (readR bs).2 = 0) : bs = encB (readR bs).1 ∧ (readR bs).1.length ≤ 1048576 ∧ ∀ x ∈ (readR bs).1, chk x = 0 := by
  by_cases h1 : (nS (bs, 0) 1048576).2.2 = 0
  · obtain ⟨n, i1, i2, -, i4, -⟩ := nS_inv (bs, 0) 1048576 hB h1
    have hB1 := (nS_bytes (bs, 0) 1048576 hB).1
    have hn : (nS (bs, 0) 1048576).1.1 = (n : Int) := by rw [i2]
    obtain ⟨l, e, s', ho⟩ : ∃ l e s', opsR n (nS (bs, 0) 1048576).2 = (l, e, s') := ⟨_, _, _, rfl⟩
    by_cases he : e = 0
    · subst he
      rw [readR_3 bs hn rfl h1 ho] at h ⊢
      obtain ⟨k1, k2, k3, k4⟩ := opsR_inv n (nS (bs, 0) 1048576).2 hB1 (by rw [ho])
      rw [ho] at k1 k2 k3
      simp only at k1 k2 k3 h ⊢
      have hs : s'.1 = [] := by
        unfold endR at h
        by_cases hq : s'.2 ≠ 0
        · rw [if_pos hq] at h; exact absurd h hq
        · rw [if_neg hq] at h
          by_cases hp : s'.1 = []
          · exact hp
          · rw [if_neg hp] at h; simp at h
      refine ⟨?_, by rw [k2]; omega, k3⟩
      have : bs = enc n ++ (nS (bs, 0) 1048576).2.1 := i1
      unfold encB
      rw [encs_one, Int.toNat_natCast, k2, this.trans (by rw [k1, hs, List.append_nil])]
    · rw [readR_2 bs hn rfl h1 ho he] at h
      exact absurd h he
  · rw [readR_1 bs h1] at h
    exact absurd h h1
end Go.Proofs.YtfpijjjmgggfkaaDoorE

namespace Go.Proofs.YtfpijjjmgggfkaaDoor.P26
open Go.RowKit Go.Proofs.YtfpijjjmgggfkaaDoorE Go.Proofs.YtfpijjjmgggfkaaDoorW.PrintWords Go.Proofs.YtfpijjjmgggfkaaDoorW.PrintLast Go.Proofs.YtfpijjjmgggfkaaDoorW.PrintMore
attribute [local go_sem] max2_int min2_int max_two min_two max_three min_three max_four min_four   -- for this text's walks alone
set_option linter.unusedVariables false
set_option linter.unusedSimpArgs false

def tendrilplain_Ops.l0 : Nat → List (S42) → List (S42) → Int → Int → Option (Bool)
  | 0, _, _, _, _ => none
  | k + 1, x0, x1, x12, x13 => if x13 < x12 then (if 0 ≤ x13 then (if x13 < (x0.length : Int) then (if x13 < (x1.length : Int) then ((tendrilplain_Op.f k ((rd_T42 x0 x13).f0) ((rd_T42 x0 x13).f1) ((rd_T42 x0 x13).f2) ((rd_T42 x0 x13).f3) ((rd_T42 x0 x13).f4) ((rd_T42 x0 x13).f5) ((rd_T42 x0 x13).f6) ((rd_T42 x0 x13).f7) ((rd_T42 x0 x13).f8) ((rd_T42 x1 x13).f0) ((rd_T42 x1 x13).f1) ((rd_T42 x1 x13).f2) ((rd_T42 x1 x13).f3) ((rd_T42 x1 x13).f4) ((rd_T42 x1 x13).f5) ((rd_T42 x1 x13).f6) ((rd_T42 x1 x13).f7) ((rd_T42 x1 x13).f8)).bind fun t142 => (if t142 = true then (tendrilplain_Ops.l0 k x0 x1 x12 (wrap64 (x13 + 1))) else (some false))) else (none)) else (none)) else (none)) else (some true)
def tendrilplain_Ops.f (k : Nat) (l0 : List (S42)) (l1 : List (S42)) : Option (Bool) := if (l0.length : Int) = (l1.length : Int) then (tendrilplain_Ops.l0 k l0 l1 (l0.length : Int) 0) else (some false)
theorem tendrilplain_Ops.mono_l : ∀ k, (∀ y0 y1 y2 y3, LeO (tendrilplain_Ops.l0 k y0 y1 y2 y3) (tendrilplain_Ops.l0 (k + 1) y0 y1 y2 y3))
  | 0 => fun _ _ _ _ r h => by simp [tendrilplain_Ops.l0] at h
  | k + 1 => by
    have ih0 := tendrilplain_Ops.mono_l k
    · intro y0 y1 y2 y3
      unfold tendrilplain_Ops.l0
      repeat' first
      | (with_reducible exact ih0 _ _ _ _)
      | (with_reducible exact tendrilplain_Op.mono _ _ _ _ _ _ _ _ _ _ _ _ _ _ _ _ _ _ _)
      | (with_reducible exact LeO.refl _)
      | (with_reducible exact LeO.none _)
      | (with_reducible refine LeO.ite ?_ ?_)
      | (with_reducible refine LeO.bind ?_ (fun _ => ?_))
      | exact ih0 _ _ _ _
      | exact tendrilplain_Op.mono _ _ _ _ _ _ _ _ _ _ _ _ _ _ _ _ _ _ _
      | exact LeO.none _
      | refine LeO.ite ?_ ?_
      | refine LeO.bind ?_ (fun _ => ?_)
theorem tendrilplain_Ops.mono : ∀ a0 a1 k, LeO (tendrilplain_Ops.f k a0 a1) (tendrilplain_Ops.f (k + 1) a0 a1) := by
  intro a0 a1 k
  have ih0 := tendrilplain_Ops.mono_l k
  unfold tendrilplain_Ops.f
  repeat' first
      | (with_reducible exact ih0 _ _ _ _)
      | (with_reducible exact tendrilplain_Op.mono _ _ _ _ _ _ _ _ _ _ _ _ _ _ _ _ _ _ _)
      | (with_reducible exact LeO.refl _)
      | (with_reducible exact LeO.none _)
      | (with_reducible refine LeO.ite ?_ ?_)
      | (with_reducible refine LeO.bind ?_ (fun _ => ?_))
      | exact ih0 _ _ _ _
      | exact tendrilplain_Op.mono _ _ _ _ _ _ _ _ _ _ _ _ _ _ _ _ _ _ _
      | exact LeO.none _
      | refine LeO.ite ?_ ?_
      | refine LeO.bind ?_ (fun _ => ?_)
def tendrilplain_Ops.T6 : Bool × List (List Nat × List Nat) := (true, [([], []), ([], []), ([0, 1], [0, 1]), ([2], [2]), ([], []), ([], []), ([4, 5], [4, 5]), ([6], [6]), ([3, 7], [3, 7]), ([8], [8])])
def tendrilplain_Ops.B6 : List Nat := [0, 0, 3, 7, 0, 0, 48, 112, 255, 511]
theorem tendrilplain_Ops.tab6 : rtab .any (opsOf Tryd.f13 6) = tendrilplain_Ops.T6 := by kernel_rfl
theorem tendrilplain_Ops.bits6 : waitsOk tendrilplain_Ops.T6.2 tendrilplain_Ops.B6 = true := by kernel_rfl
set_option maxHeartbeats 8000000 in
set_option maxRecDepth 100000 in
theorem tendrilplain_Ops.calls (k : Nat) (A0 : Option Addr) (c0 : Nat) (l0 : List (S42)) (A1 : Option Addr) (c1 : Nat) (l1 : List (S42)) (r : Bool) (w : World) (hgl : Go.Proofs.YtfpijjjmgggfkaaDoorX.GL w) (hr0 : Kd.C k42 w A0 l0.length l0) (hc0 : l0.length ≤ c0) (hr1 : Kd.C k42 w A1 l1.length l1) (hc1 : l1.length ≤ c1) (h : tendrilplain_Ops.f k l0 l1 = some r) :
    Calls Tryd.prog 13 #[.slice A0 l0.length c0, .slice A1 l1.length c1] w fun e w' => e = .returned (.bool r) ∧ Below w.heap.size w w' := by
  have hu42 := Tryd.underlying42
  have HR0 := Aside0.mk hr0
  have HC0 := Aside0.mk hc0
  clear hr0 hc0
  have HR1 := Aside0.mk hr1
  have HC1 := Aside0.mk hc1
  clear hr1 hc1
  have HGL := Aside0.mk hgl
  clear hgl
  have HB := Aside0.mk (Below.refl w.heap.size w)
  have H : (if (l0.length : Int) = (l1.length : Int) then (tendrilplain_Ops.l0 k l0 l1 (l0.length : Int) 0) else (some false)) = some r := h
  clear h
  by_cases c3 : (l0.length : Int) = (l1.length : Int)
  · rw [if_pos c3] at H
    have c3b0 : ((l0.length : Int) == (l1.length : Int)) = true := beq_iff_eq.mpr c3
    have c3b1 : ((l0.length : Int) != (l1.length : Int)) = false := bne_eq_false_iff_eq.mpr c3
    have c3b2 : (l0.length == l1.length) = true := by first | simpa using c3 | (simp at c3 ⊢; omega)
    clear c3
    have H' := Aside0.mk H
    clear H
    go_enter Tryd.func13, Tryd.ntmps13
    go_wp2
    go_loopg [13] k (fun kq v13 w' => ∃ (x13_1 : Int), v13 = .int .i64 x13_1 ∧ Aside0 (tendrilplain_Ops.l0 kq l0 l1 (l0.length : Int) x13_1 = some r) ∧ Aside0 (kq ≤ k) ∧ Aside0 (Below w.heap.size w w'))
    case atStart => exact ⟨(0), (by first | rfl | (simp; done) | (simp [*]; done)), H', ⟨Nat.le_refl _⟩, ⟨by repeat (first | (with_reducible first | exact HB.out | apply below_alloc | apply pw_below_drewN | apply below_drew1) | exact HB.out)⟩⟩
    case round =>
      clear H'
      try clear c1
      try clear p2
      try clear c3
      try clear c3b0
      try clear c3b1
      try clear c3b2
      obtain ⟨x13_1, rfl, HA, HK1, HB⟩ := hrel
      cases gk with
      | zero => exact absurd HA.out (by simp [tendrilplain_Ops.l0])
      | succ k1 =>
        have H := HA.out
        clear HA
        simp only [tendrilplain_Ops.l0] at H
        by_cases c4 : x13_1 < (l0.length : Int)
        · rw [if_pos c4] at H
          have c4b0 : decide (x13_1 < (l0.length : Int)) = true := decide_eq_true c4
          clear c4
          by_cases c5 : 0 ≤ x13_1
          · rw [if_pos c5] at H
            have c5b0 : decide (0 ≤ x13_1) = true := decide_eq_true c5
            clear c5
            by_cases c6 : x13_1 < (l0.length : Int)
            · rw [if_pos c6] at H
              have c6b0 : decide (x13_1 < (l0.length : Int)) = true := decide_eq_true c6
              clear c6
              by_cases c7 : x13_1 < (l1.length : Int)
              · rw [if_pos c7] at H
                have c7b0 : decide (x13_1 < (l1.length : Int)) = true := decide_eq_true c7
                clear c7
                replace H := Option.bind_eq_some_iff.mp H
                obtain ⟨t142, A80, H⟩ := H
                replace H : (if t142 = true then (tendrilplain_Ops.l0 k1 l0 l1 (l0.length : Int) (wrap64 (x13_1 + 1))) else (some false)) = some r := H
                have A8 := Aside0.mk A80
                clear A80
                by_cases c9 : t142 = true
                · subst c9
                  have H1 : (tendrilplain_Ops.l0 k1 l0 l1 (l0.length : Int) (wrap64 (x13_1 + 1))) = some r := by rw [if_pos rfl] at H; exact H
                  clear H
                  have H := H1
                  clear H1
                  have H' := Aside0.mk H
                  clear H
                  try go_wp2
                  have n0_ := Aside0.mk (below_drew1 HB.out)
                  clear HB
                  have HB := n0_
                  clear n0_
                  have p140 : 0 ≤ (x13_1 : Int) := of_decide_eq_true (by first | (with_reducible assumption) | assumption)
                  have q140 : x13_1 < (l0.length : Int) := of_decide_eq_true (by first | (with_reducible assumption) | assumption)
                  obtain ⟨ad140, A140_8, c140_8, e140, hx140_0, hx140_1, hx140_2, hx140_3, hx140_4, hx140_5, hx140_6, hx140_7, hx140_8, hl140_8, hi140_8⟩ := at_T42 HR0.out x13_1 p140 q140
                  have hw140_8 := hx140_8
                  have hw140_7 := hx140_7
                  have hw140_6 := hx140_6
                  have hw140_5 := hx140_5
                  have hw140_4 := hx140_4
                  have hw140_3 := hx140_3
                  have hw140_2 := hx140_2
                  have hw140_1 := hx140_1
                  have hw140_0 := hx140_0
                  cases e140
                  replace hx140_0 := (HB.out.cell (World.block_lt_of_cell? w _ hx140_0)).trans hx140_0
                  replace hx140_1 := (HB.out.cell (World.block_lt_of_cell? w _ hx140_1)).trans hx140_1
                  replace hx140_2 := (HB.out.cell (World.block_lt_of_cell? w _ hx140_2)).trans hx140_2
                  replace hx140_3 := (HB.out.cell (World.block_lt_of_cell? w _ hx140_3)).trans hx140_3
                  replace hx140_4 := (HB.out.cell (World.block_lt_of_cell? w _ hx140_4)).trans hx140_4
                  replace hx140_5 := (HB.out.cell (World.block_lt_of_cell? w _ hx140_5)).trans hx140_5
                  replace hx140_6 := (HB.out.cell (World.block_lt_of_cell? w _ hx140_6)).trans hx140_6
                  replace hx140_7 := (HB.out.cell (World.block_lt_of_cell? w _ hx140_7)).trans hx140_7
                  replace hx140_8 := (HB.out.cell (World.block_lt_of_cell? w _ hx140_8)).trans hx140_8
                  have HR140_8 := Aside0.mk hi140_8
                  have HC140_8 := Aside0.mk hl140_8
                  clear hi140_8 hl140_8
                  replace p140 := eq_true p140
                  replace q140 := eq_true q140
                  have p141 : 0 ≤ (x13_1 : Int) := of_decide_eq_true (by first | (with_reducible assumption) | assumption)
                  have q141 : x13_1 < (l1.length : Int) := of_decide_eq_true (by first | (with_reducible assumption) | assumption)
                  obtain ⟨ad141, A141_8, c141_8, e141, hx141_0, hx141_1, hx141_2, hx141_3, hx141_4, hx141_5, hx141_6, hx141_7, hx141_8, hl141_8, hi141_8⟩ := at_T42 HR1.out x13_1 p141 q141
                  have hw141_8 := hx141_8
                  have hw141_7 := hx141_7
                  have hw141_6 := hx141_6
                  have hw141_5 := hx141_5
                  have hw141_4 := hx141_4
                  have hw141_3 := hx141_3
                  have hw141_2 := hx141_2
                  have hw141_1 := hx141_1
                  have hw141_0 := hx141_0
                  cases e141
                  replace hx141_0 := (HB.out.cell (World.block_lt_of_cell? w _ hx141_0)).trans hx141_0
                  replace hx141_1 := (HB.out.cell (World.block_lt_of_cell? w _ hx141_1)).trans hx141_1
                  replace hx141_2 := (HB.out.cell (World.block_lt_of_cell? w _ hx141_2)).trans hx141_2
                  replace hx141_3 := (HB.out.cell (World.block_lt_of_cell? w _ hx141_3)).trans hx141_3
                  replace hx141_4 := (HB.out.cell (World.block_lt_of_cell? w _ hx141_4)).trans hx141_4
                  replace hx141_5 := (HB.out.cell (World.block_lt_of_cell? w _ hx141_5)).trans hx141_5
                  replace hx141_6 := (HB.out.cell (World.block_lt_of_cell? w _ hx141_6)).trans hx141_6
                  replace hx141_7 := (HB.out.cell (World.block_lt_of_cell? w _ hx141_7)).trans hx141_7
                  replace hx141_8 := (HB.out.cell (World.block_lt_of_cell? w _ hx141_8)).trans hx141_8
                  have HR141_8 := Aside0.mk hi141_8
                  have HC141_8 := Aside0.mk hl141_8
                  clear hi141_8 hl141_8
                  replace p141 := eq_true p141
                  replace q141 := eq_true q141
                  refine start_ (n := 10) (S := fun w' => w'.cell? (ad140.add ((x13_1).toNat * 9)) = some (.int .i64 ((rd_T42 l0 x13_1).f0)) ∧ w'.cell? ⟨(ad140.add ((x13_1).toNat * 9)).block, (ad140.add ((x13_1).toNat * 9)).off + 1, none⟩ = some (.int .i64 ((rd_T42 l0 x13_1).f1)) ∧ w'.cell? ⟨(ad140.add ((x13_1).toNat * 9)).block, (ad140.add ((x13_1).toNat * 9)).off + 2, none⟩ = some (.int .i64 ((rd_T42 l0 x13_1).f2)) ∧ w'.cell? ⟨(ad140.add ((x13_1).toNat * 9)).block, (ad140.add ((x13_1).toNat * 9)).off + 3, none⟩ = some (.int .i64 ((rd_T42 l0 x13_1).f3)) ∧ w'.cell? ⟨(ad140.add ((x13_1).toNat * 9)).block, (ad140.add ((x13_1).toNat * 9)).off + 4, none⟩ = some (.string ((rd_T42 l0 x13_1).f4)) ∧ w'.cell? ⟨(ad140.add ((x13_1).toNat * 9)).block, (ad140.add ((x13_1).toNat * 9)).off + 5, none⟩ = some (.string ((rd_T42 l0 x13_1).f5)) ∧ w'.cell? ⟨(ad140.add ((x13_1).toNat * 9)).block, (ad140.add ((x13_1).toNat * 9)).off + 6, none⟩ = some (.string ((rd_T42 l0 x13_1).f6)) ∧ w'.cell? ⟨(ad140.add ((x13_1).toNat * 9)).block, (ad140.add ((x13_1).toNat * 9)).off + 7, none⟩ = some (.string ((rd_T42 l0 x13_1).f7)) ∧ w'.cell? ⟨(ad140.add ((x13_1).toNat * 9)).block, (ad140.add ((x13_1).toNat * 9)).off + 8, none⟩ = some (.slice A140_8 ((rd_T42 l0 x13_1).f8).length c140_8) ∧ w'.cell? (ad141.add ((x13_1).toNat * 9)) = some (.int .i64 ((rd_T42 l1 x13_1).f0)) ∧ w'.cell? ⟨(ad141.add ((x13_1).toNat * 9)).block, (ad141.add ((x13_1).toNat * 9)).off + 1, none⟩ = some (.int .i64 ((rd_T42 l1 x13_1).f1)) ∧ w'.cell? ⟨(ad141.add ((x13_1).toNat * 9)).block, (ad141.add ((x13_1).toNat * 9)).off + 2, none⟩ = some (.int .i64 ((rd_T42 l1 x13_1).f2)) ∧ w'.cell? ⟨(ad141.add ((x13_1).toNat * 9)).block, (ad141.add ((x13_1).toNat * 9)).off + 3, none⟩ = some (.int .i64 ((rd_T42 l1 x13_1).f3)) ∧ w'.cell? ⟨(ad141.add ((x13_1).toNat * 9)).block, (ad141.add ((x13_1).toNat * 9)).off + 4, none⟩ = some (.string ((rd_T42 l1 x13_1).f4)) ∧ w'.cell? ⟨(ad141.add ((x13_1).toNat * 9)).block, (ad141.add ((x13_1).toNat * 9)).off + 5, none⟩ = some (.string ((rd_T42 l1 x13_1).f5)) ∧ w'.cell? ⟨(ad141.add ((x13_1).toNat * 9)).block, (ad141.add ((x13_1).toNat * 9)).off + 6, none⟩ = some (.string ((rd_T42 l1 x13_1).f6)) ∧ w'.cell? ⟨(ad141.add ((x13_1).toNat * 9)).block, (ad141.add ((x13_1).toNat * 9)).off + 7, none⟩ = some (.string ((rd_T42 l1 x13_1).f7)) ∧ w'.cell? ⟨(ad141.add ((x13_1).toNat * 9)).block, (ad141.add ((x13_1).toNat * 9)).off + 8, none⟩ = some (.slice A141_8 ((rd_T42 l1 x13_1).f8).length c141_8)) (ds := []) #[false, false, false, false, false, false, false, false, false, false] (by kernel_rfl) rfl rfl ⟨((HB.out.cell (World.block_lt_of_cell? w _ hw140_0)).trans hw140_0), ((HB.out.cell (World.block_lt_of_cell? w _ hw140_1)).trans hw140_1), ((HB.out.cell (World.block_lt_of_cell? w _ hw140_2)).trans hw140_2), ((HB.out.cell (World.block_lt_of_cell? w _ hw140_3)).trans hw140_3), ((HB.out.cell (World.block_lt_of_cell? w _ hw140_4)).trans hw140_4), ((HB.out.cell (World.block_lt_of_cell? w _ hw140_5)).trans hw140_5), ((HB.out.cell (World.block_lt_of_cell? w _ hw140_6)).trans hw140_6), ((HB.out.cell (World.block_lt_of_cell? w _ hw140_7)).trans hw140_7), ((HB.out.cell (World.block_lt_of_cell? w _ hw140_8)).trans hw140_8), ((HB.out.cell (World.block_lt_of_cell? w _ hw141_0)).trans hw141_0), ((HB.out.cell (World.block_lt_of_cell? w _ hw141_1)).trans hw141_1), ((HB.out.cell (World.block_lt_of_cell? w _ hw141_2)).trans hw141_2), ((HB.out.cell (World.block_lt_of_cell? w _ hw141_3)).trans hw141_3), ((HB.out.cell (World.block_lt_of_cell? w _ hw141_4)).trans hw141_4), ((HB.out.cell (World.block_lt_of_cell? w _ hw141_5)).trans hw141_5), ((HB.out.cell (World.block_lt_of_cell? w _ hw141_6)).trans hw141_6), ((HB.out.cell (World.block_lt_of_cell? w _ hw141_7)).trans hw141_7), ((HB.out.cell (World.block_lt_of_cell? w _ hw141_8)).trans hw141_8)⟩ (fun hHeld => ?_); refine with_tabW tendrilplain_Ops.tab6 tendrilplain_Ops.bits6 (fun HT_ HW_ => ?_)
                  generalize wr.drew = w10 at HB HR140_8 HR141_8 hx140_0 hx140_1 hx140_2 hx140_3 hx140_4 hx140_5 hx140_6 hx140_7 hx140_8 hx141_0 hx141_1 hx141_2 hx141_3 hx141_4 hx141_5 hx141_6 hx141_7 hx141_8 hHeld ⊢
                  refine pure_ (i := 0) (N := some 16) (v := ?_) (a' := ?_) #[true, false, false, false, false, false, false, false, false, false] rfl rfl (any_of HT_.out (by kernel_rfl)) (fun _ _ _ h => h) (Or.inl ⟨by rfl, ?_⟩) ?_ ?_
                  rotate_left
                  · intro w'
                    go_simp
                    with_reducible rfl
                  rotate_left
                  · simp only [Act.put, List.setIfInBounds_toArray, List.set_cons_zero, List.set_cons_succ, i64_w, i32_w]
                    rfl
                  refine pure_ (i := 1) (N := some 17) (v := ?_) (a' := ?_) #[true, true, false, false, false, false, false, false, false, false] rfl rfl (any_of HT_.out (by kernel_rfl)) (fun _ _ _ h => h) (Or.inl ⟨by rfl, ?_⟩) ?_ ?_
                  rotate_left
                  · intro w'
                    go_simp
                    with_reducible rfl
                  rotate_left
                  · simp only [Act.put, List.setIfInBounds_toArray, List.set_cons_zero, List.set_cons_succ, i64_w, i32_w]
                    rfl
                  refine pure_ (i := 2) (N := some 18) (v := ?_) (a' := ?_) #[true, true, true, false, false, false, false, false, false, false] rfl rfl (any_of HT_.out (by kernel_rfl)) (fun _ _ _ h => h) (Or.inl ⟨by rfl, ?_⟩) ?_ ?_
                  rotate_left
                  · intro w'
                    go_simp
                    with_reducible rfl
                  rotate_left
                  · simp only [Act.put, List.setIfInBounds_toArray, List.set_cons_zero, List.set_cons_succ, i64_w, i32_w]
                    rfl
                  refine pure_ (i := 4) (N := some 20) (v := ?_) (a' := ?_) #[true, true, true, false, true, false, false, false, false, false] rfl rfl (any_of HT_.out (by kernel_rfl)) (fun _ _ _ h => h) (Or.inl ⟨by rfl, ?_⟩) ?_ ?_
                  rotate_left
                  · intro w'
                    go_simp
                    with_reducible rfl
                  rotate_left
                  · simp only [Act.put, List.setIfInBounds_toArray, List.set_cons_zero, List.set_cons_succ, i64_w, i32_w]
                    rfl
                  refine pure_ (i := 5) (N := some 21) (v := ?_) (a' := ?_) #[true, true, true, false, true, true, false, false, false, false] rfl rfl (any_of HT_.out (by kernel_rfl)) (fun _ _ _ h => h) (Or.inl ⟨by rfl, ?_⟩) ?_ ?_
                  rotate_left
                  · intro w'
                    go_simp
                    with_reducible rfl
                  rotate_left
                  · simp only [Act.put, List.setIfInBounds_toArray, List.set_cons_zero, List.set_cons_succ, i64_w, i32_w]
                    rfl
                  refine pure_ (i := 6) (N := some 22) (v := ?_) (a' := ?_) #[true, true, true, false, true, true, true, false, false, false] rfl rfl (any_of HT_.out (by kernel_rfl)) (fun _ _ _ h => h) (Or.inl ⟨by rfl, ?_⟩) ?_ ?_
                  rotate_left
                  · intro w'
                    go_simp
                    with_reducible rfl
                  rotate_left
                  · simp only [Act.put, List.setIfInBounds_toArray, List.set_cons_zero, List.set_cons_succ, i64_w, i32_w]
                    rfl
                  refine take_ (i := 3) (N := some 19) (v := ?_) (a' := ?_) #[true, true, true, true, true, true, true, false, false, false] rfl rfl (take_ofW HT_.out HW_.out (by kernel_rfl)) (fun _ _ _ h => h) (Or.inl ⟨by rfl, ?_⟩) hHeld ?_ ?_
                  rotate_left
                  · rintro w' ⟨s0, s1, s2, s3, s4, s5, s6, s7, s8, s9, s10, s11, s12, s13, s14, s15, s16, s17⟩
                    go_simp
                    with_reducible rfl
                  rotate_left
                  · simp only [Act.put, List.setIfInBounds_toArray, List.set_cons_zero, List.set_cons_succ, i64_w, i32_w]
                    rfl
                  refine take_ (i := 7) (N := some 23) (v := ?_) (a' := ?_) #[true, true, true, true, true, true, true, true, false, false] rfl rfl (take_ofW HT_.out HW_.out (by kernel_rfl)) (fun _ _ _ h => h) (Or.inl ⟨by rfl, ?_⟩) hHeld ?_ ?_
                  rotate_left
                  · rintro w' ⟨s0, s1, s2, s3, s4, s5, s6, s7, s8, s9, s10, s11, s12, s13, s14, s15, s16, s17⟩
                    go_simp
                    with_reducible rfl
                  rotate_left
                  · simp only [Act.put, List.setIfInBounds_toArray, List.set_cons_zero, List.set_cons_succ, i64_w, i32_w]
                    rfl
                  refine one_ (i := 8) (N := some 24) #[true, true, true, true, true, true, true, true, true, false] rfl rfl (one_of HT_.out (by kernel_rfl)) (by decide) (fun K hK => ?_)
                  refine goes_ Tryd.func24 (by kernel_rfl) rfl #[.agg #[.int .i64 ((rd_T42 l0 x13_1).f0), .int .i64 ((rd_T42 l0 x13_1).f1), .int .i64 ((rd_T42 l0 x13_1).f2), .int .i64 ((rd_T42 l0 x13_1).f3), .string ((rd_T42 l0 x13_1).f4), .string ((rd_T42 l0 x13_1).f5), .string ((rd_T42 l0 x13_1).f6), .string ((rd_T42 l0 x13_1).f7), .slice A140_8 ((rd_T42 l0 x13_1).f8).length c140_8], .agg #[.int .i64 ((rd_T42 l1 x13_1).f0), .int .i64 ((rd_T42 l1 x13_1).f1), .int .i64 ((rd_T42 l1 x13_1).f2), .int .i64 ((rd_T42 l1 x13_1).f3), .string ((rd_T42 l1 x13_1).f4), .string ((rd_T42 l1 x13_1).f5), .string ((rd_T42 l1 x13_1).f6), .string ((rd_T42 l1 x13_1).f7), .slice A141_8 ((rd_T42 l1 x13_1).f8).length c141_8]] (by rfl) rfl rfl (by (try simp only [List.map_toArray, List.map_cons, List.map_nil]); first | done | rfl | (simp only [List.length_drop, List.length_take]; rfl)) ?_
                  with_reducible refine (tendrilplain_Op.calls k1 ((rd_T42 l0 x13_1).f0) ((rd_T42 l0 x13_1).f1) ((rd_T42 l0 x13_1).f2) ((rd_T42 l0 x13_1).f3) ((rd_T42 l0 x13_1).f4) ((rd_T42 l0 x13_1).f5) ((rd_T42 l0 x13_1).f6) ((rd_T42 l0 x13_1).f7) _ _ ((rd_T42 l0 x13_1).f8) ((rd_T42 l1 x13_1).f0) ((rd_T42 l1 x13_1).f1) ((rd_T42 l1 x13_1).f2) ((rd_T42 l1 x13_1).f3) ((rd_T42 l1 x13_1).f4) ((rd_T42 l1 x13_1).f5) ((rd_T42 l1 x13_1).f6) ((rd_T42 l1 x13_1).f7) _ _ ((rd_T42 l1 x13_1).f8) true _ ?side1 ?side2 ?side3 ?side4 ?side5 A8.out).mono ?_
                  (case side1 => first | exact HGL.out | exact (Go.Proofs.YtfpijjjmgggfkaaDoorX.GL.below HGL.out (by repeat (first | (with_reducible first | exact HB.out | apply below_alloc | apply pw_below_drewN | apply below_drew1) | exact HB.out))) | (repeat (first | exact HGL.out | (with_reducible refine Go.Proofs.YtfpijjjmgggfkaaDoorX.GL.drewN ?_ _) | (with_reducible refine Go.Proofs.YtfpijjjmgggfkaaDoorX.GL.drew ?_))))
                  (case side2 => repeat (first | exact (Kd.C_below HR140_8.out HB.out) | (with_reducible refine Kd.C_alloc ?_ _) | (with_reducible refine Kd.C_drewN ?_ _) | (with_reducible refine Kd.C_drew ?_)))
                  (case side3 => exact HC140_8.out)
                  (case side4 => repeat (first | exact (Kd.C_below HR141_8.out HB.out) | (with_reducible refine Kd.C_alloc ?_ _) | (with_reducible refine Kd.C_drewN ?_ _) | (with_reducible refine Kd.C_drew ?_)))
                  (case side5 => exact HC141_8.out)
                  rintro e w11 ⟨rfl, hb⟩
                  refine ⟨_, rfl, ?_⟩
                  have n0_ := Aside0.mk (below_step (by repeat (first | (with_reducible first | exact HB.out | apply below_alloc | apply pw_below_drewN | apply below_drew1) | exact HB.out)) hb)
                  clear HB
                  have HB := n0_
                  clear n0_
                  (try clear hb)
                  (try clear hb2)
                  (try clear hk)
                  (try clear hi)
                  refine hK.out _ _ ⟨((HB.out.cell (World.block_lt_of_cell? w _ hw140_0)).trans hw140_0), ((HB.out.cell (World.block_lt_of_cell? w _ hw140_1)).trans hw140_1), ((HB.out.cell (World.block_lt_of_cell? w _ hw140_2)).trans hw140_2), ((HB.out.cell (World.block_lt_of_cell? w _ hw140_3)).trans hw140_3), ((HB.out.cell (World.block_lt_of_cell? w _ hw140_4)).trans hw140_4), ((HB.out.cell (World.block_lt_of_cell? w _ hw140_5)).trans hw140_5), ((HB.out.cell (World.block_lt_of_cell? w _ hw140_6)).trans hw140_6), ((HB.out.cell (World.block_lt_of_cell? w _ hw140_7)).trans hw140_7), ((HB.out.cell (World.block_lt_of_cell? w _ hw140_8)).trans hw140_8), ((HB.out.cell (World.block_lt_of_cell? w _ hw141_0)).trans hw141_0), ((HB.out.cell (World.block_lt_of_cell? w _ hw141_1)).trans hw141_1), ((HB.out.cell (World.block_lt_of_cell? w _ hw141_2)).trans hw141_2), ((HB.out.cell (World.block_lt_of_cell? w _ hw141_3)).trans hw141_3), ((HB.out.cell (World.block_lt_of_cell? w _ hw141_4)).trans hw141_4), ((HB.out.cell (World.block_lt_of_cell? w _ hw141_5)).trans hw141_5), ((HB.out.cell (World.block_lt_of_cell? w _ hw141_6)).trans hw141_6), ((HB.out.cell (World.block_lt_of_cell? w _ hw141_7)).trans hw141_7), ((HB.out.cell (World.block_lt_of_cell? w _ hw141_8)).trans hw141_8)⟩ (fun hHeld => ?_)
                  clear hK K
                  refine norm_ (a' := ?_) ?_ ?_
                  rotate_left
                  · show Act.put _ (some 24) _ = _
                    simp only [Act.put, List.setIfInBounds_toArray, List.set_cons_zero, List.set_cons_succ, i64_w, i32_w]
                    rfl
                  refine pure_ (i := 9) (N := some 25) (v := ?_) (a' := ?_) #[true, true, true, true, true, true, true, true, true, true] rfl rfl (any_of HT_.out (by kernel_rfl)) (fun _ _ _ h => h) (Or.inl ⟨by rfl, ?_⟩) ?_ ?_
                  rotate_left
                  · intro w'
                    go_simp
                    with_reducible rfl
                  rotate_left
                  · simp only [Act.put, List.setIfInBounds_toArray, List.set_cons_zero, List.set_cons_succ, i64_w, i32_w]
                    rfl
                  refine done_ (done_of HT_.out (by kernel_rfl)) ?_
                  try go_wp2
                  go_roundg k1
                  case measure => have := HK1.out; omega
                  case rel => exact ⟨(wrap64 (x13_1 + 1)), (by first | rfl | (simp; done) | (simp [*]; done)), H', ⟨by have := HK1.out; omega⟩, ⟨by repeat (first | (with_reducible first | exact HB.out | apply below_alloc | apply pw_below_drewN | apply below_drew1) | exact HB.out)⟩⟩
                · replace c9 := Bool.eq_false_iff.mpr c9
                  subst c9
                  have H1 : (some false) = some r := by rw [if_neg (show ¬ (false = true) by decide)] at H; exact H
                  clear H
                  have H := H1
                  clear H1
                  obtain rfl := Option.some.inj H
                  try go_wp2
                  have n0_ := Aside0.mk (below_drew1 HB.out)
                  clear HB
                  have HB := n0_
                  clear n0_
                  have p140 : 0 ≤ (x13_1 : Int) := of_decide_eq_true (by first | (with_reducible assumption) | assumption)
                  have q140 : x13_1 < (l0.length : Int) := of_decide_eq_true (by first | (with_reducible assumption) | assumption)
                  obtain ⟨ad140, A140_8, c140_8, e140, hx140_0, hx140_1, hx140_2, hx140_3, hx140_4, hx140_5, hx140_6, hx140_7, hx140_8, hl140_8, hi140_8⟩ := at_T42 HR0.out x13_1 p140 q140
                  have hw140_8 := hx140_8
                  have hw140_7 := hx140_7
                  have hw140_6 := hx140_6
                  have hw140_5 := hx140_5
                  have hw140_4 := hx140_4
                  have hw140_3 := hx140_3
                  have hw140_2 := hx140_2
                  have hw140_1 := hx140_1
                  have hw140_0 := hx140_0
                  cases e140
                  replace hx140_0 := (HB.out.cell (World.block_lt_of_cell? w _ hx140_0)).trans hx140_0
                  replace hx140_1 := (HB.out.cell (World.block_lt_of_cell? w _ hx140_1)).trans hx140_1
                  replace hx140_2 := (HB.out.cell (World.block_lt_of_cell? w _ hx140_2)).trans hx140_2
                  replace hx140_3 := (HB.out.cell (World.block_lt_of_cell? w _ hx140_3)).trans hx140_3
                  replace hx140_4 := (HB.out.cell (World.block_lt_of_cell? w _ hx140_4)).trans hx140_4
                  replace hx140_5 := (HB.out.cell (World.block_lt_of_cell? w _ hx140_5)).trans hx140_5
                  replace hx140_6 := (HB.out.cell (World.block_lt_of_cell? w _ hx140_6)).trans hx140_6
                  replace hx140_7 := (HB.out.cell (World.block_lt_of_cell? w _ hx140_7)).trans hx140_7
                  replace hx140_8 := (HB.out.cell (World.block_lt_of_cell? w _ hx140_8)).trans hx140_8
                  have HR140_8 := Aside0.mk hi140_8
                  have HC140_8 := Aside0.mk hl140_8
                  clear hi140_8 hl140_8
                  replace p140 := eq_true p140
                  replace q140 := eq_true q140
                  have p141 : 0 ≤ (x13_1 : Int) := of_decide_eq_true (by first | (with_reducible assumption) | assumption)
                  have q141 : x13_1 < (l1.length : Int) := of_decide_eq_true (by first | (with_reducible assumption) | assumption)
                  obtain ⟨ad141, A141_8, c141_8, e141, hx141_0, hx141_1, hx141_2, hx141_3, hx141_4, hx141_5, hx141_6, hx141_7, hx141_8, hl141_8, hi141_8⟩ := at_T42 HR1.out x13_1 p141 q141
                  have hw141_8 := hx141_8
                  have hw141_7 := hx141_7
                  have hw141_6 := hx141_6
                  have hw141_5 := hx141_5
                  have hw141_4 := hx141_4
                  have hw141_3 := hx141_3
                  have hw141_2 := hx141_2
                  have hw141_1 := hx141_1
                  have hw141_0 := hx141_0
                  cases e141
                  replace hx141_0 := (HB.out.cell (World.block_lt_of_cell? w _ hx141_0)).trans hx141_0
                  replace hx141_1 := (HB.out.cell (World.block_lt_of_cell? w _ hx141_1)).trans hx141_1
                  replace hx141_2 := (HB.out.cell (World.block_lt_of_cell? w _ hx141_2)).trans hx141_2
                  replace hx141_3 := (HB.out.cell (World.block_lt_of_cell? w _ hx141_3)).trans hx141_3
                  replace hx141_4 := (HB.out.cell (World.block_lt_of_cell? w _ hx141_4)).trans hx141_4
                  replace hx141_5 := (HB.out.cell (World.block_lt_of_cell? w _ hx141_5)).trans hx141_5
                  replace hx141_6 := (HB.out.cell (World.block_lt_of_cell? w _ hx141_6)).trans hx141_6
                  replace hx141_7 := (HB.out.cell (World.block_lt_of_cell? w _ hx141_7)).trans hx141_7
                  replace hx141_8 := (HB.out.cell (World.block_lt_of_cell? w _ hx141_8)).trans hx141_8
                  have HR141_8 := Aside0.mk hi141_8
                  have HC141_8 := Aside0.mk hl141_8
                  clear hi141_8 hl141_8
                  replace p141 := eq_true p141
                  replace q141 := eq_true q141
                  refine start_ (n := 10) (S := fun w' => w'.cell? (ad140.add ((x13_1).toNat * 9)) = some (.int .i64 ((rd_T42 l0 x13_1).f0)) ∧ w'.cell? ⟨(ad140.add ((x13_1).toNat * 9)).block, (ad140.add ((x13_1).toNat * 9)).off + 1, none⟩ = some (.int .i64 ((rd_T42 l0 x13_1).f1)) ∧ w'.cell? ⟨(ad140.add ((x13_1).toNat * 9)).block, (ad140.add ((x13_1).toNat * 9)).off + 2, none⟩ = some (.int .i64 ((rd_T42 l0 x13_1).f2)) ∧ w'.cell? ⟨(ad140.add ((x13_1).toNat * 9)).block, (ad140.add ((x13_1).toNat * 9)).off + 3, none⟩ = some (.int .i64 ((rd_T42 l0 x13_1).f3)) ∧ w'.cell? ⟨(ad140.add ((x13_1).toNat * 9)).block, (ad140.add ((x13_1).toNat * 9)).off + 4, none⟩ = some (.string ((rd_T42 l0 x13_1).f4)) ∧ w'.cell? ⟨(ad140.add ((x13_1).toNat * 9)).block, (ad140.add ((x13_1).toNat * 9)).off + 5, none⟩ = some (.string ((rd_T42 l0 x13_1).f5)) ∧ w'.cell? ⟨(ad140.add ((x13_1).toNat * 9)).block, (ad140.add ((x13_1).toNat * 9)).off + 6, none⟩ = some (.string ((rd_T42 l0 x13_1).f6)) ∧ w'.cell? ⟨(ad140.add ((x13_1).toNat * 9)).block, (ad140.add ((x13_1).toNat * 9)).off + 7, none⟩ = some (.string ((rd_T42 l0 x13_1).f7)) ∧ w'.cell? ⟨(ad140.add ((x13_1).toNat * 9)).block, (ad140.add ((x13_1).toNat * 9)).off + 8, none⟩ = some (.slice A140_8 ((rd_T42 l0 x13_1).f8).length c140_8) ∧ w'.cell? (ad141.add ((x13_1).toNat * 9)) = some (.int .i64 ((rd_T42 l1 x13_1).f0)) ∧ w'.cell? ⟨(ad141.add ((x13_1).toNat * 9)).block, (ad141.add ((x13_1).toNat * 9)).off + 1, none⟩ = some (.int .i64 ((rd_T42 l1 x13_1).f1)) ∧ w'.cell? ⟨(ad141.add ((x13_1).toNat * 9)).block, (ad141.add ((x13_1).toNat * 9)).off + 2, none⟩ = some (.int .i64 ((rd_T42 l1 x13_1).f2)) ∧ w'.cell? ⟨(ad141.add ((x13_1).toNat * 9)).block, (ad141.add ((x13_1).toNat * 9)).off + 3, none⟩ = some (.int .i64 ((rd_T42 l1 x13_1).f3)) ∧ w'.cell? ⟨(ad141.add ((x13_1).toNat * 9)).block, (ad141.add ((x13_1).toNat * 9)).off + 4, none⟩ = some (.string ((rd_T42 l1 x13_1).f4)) ∧ w'.cell? ⟨(ad141.add ((x13_1).toNat * 9)).block, (ad141.add ((x13_1).toNat * 9)).off + 5, none⟩ = some (.string ((rd_T42 l1 x13_1).f5)) ∧ w'.cell? ⟨(ad141.add ((x13_1).toNat * 9)).block, (ad141.add ((x13_1).toNat * 9)).off + 6, none⟩ = some (.string ((rd_T42 l1 x13_1).f6)) ∧ w'.cell? ⟨(ad141.add ((x13_1).toNat * 9)).block, (ad141.add ((x13_1).toNat * 9)).off + 7, none⟩ = some (.string ((rd_T42 l1 x13_1).f7)) ∧ w'.cell? ⟨(ad141.add ((x13_1).toNat * 9)).block, (ad141.add ((x13_1).toNat * 9)).off + 8, none⟩ = some (.slice A141_8 ((rd_T42 l1 x13_1).f8).length c141_8)) (ds := []) #[false, false, false, false, false, false, false, false, false, false] (by kernel_rfl) rfl rfl ⟨((HB.out.cell (World.block_lt_of_cell? w _ hw140_0)).trans hw140_0), ((HB.out.cell (World.block_lt_of_cell? w _ hw140_1)).trans hw140_1), ((HB.out.cell (World.block_lt_of_cell? w _ hw140_2)).trans hw140_2), ((HB.out.cell (World.block_lt_of_cell? w _ hw140_3)).trans hw140_3), ((HB.out.cell (World.block_lt_of_cell? w _ hw140_4)).trans hw140_4), ((HB.out.cell (World.block_lt_of_cell? w _ hw140_5)).trans hw140_5), ((HB.out.cell (World.block_lt_of_cell? w _ hw140_6)).trans hw140_6), ((HB.out.cell (World.block_lt_of_cell? w _ hw140_7)).trans hw140_7), ((HB.out.cell (World.block_lt_of_cell? w _ hw140_8)).trans hw140_8), ((HB.out.cell (World.block_lt_of_cell? w _ hw141_0)).trans hw141_0), ((HB.out.cell (World.block_lt_of_cell? w _ hw141_1)).trans hw141_1), ((HB.out.cell (World.block_lt_of_cell? w _ hw141_2)).trans hw141_2), ((HB.out.cell (World.block_lt_of_cell? w _ hw141_3)).trans hw141_3), ((HB.out.cell (World.block_lt_of_cell? w _ hw141_4)).trans hw141_4), ((HB.out.cell (World.block_lt_of_cell? w _ hw141_5)).trans hw141_5), ((HB.out.cell (World.block_lt_of_cell? w _ hw141_6)).trans hw141_6), ((HB.out.cell (World.block_lt_of_cell? w _ hw141_7)).trans hw141_7), ((HB.out.cell (World.block_lt_of_cell? w _ hw141_8)).trans hw141_8)⟩ (fun hHeld => ?_); refine with_tabW tendrilplain_Ops.tab6 tendrilplain_Ops.bits6 (fun HT_ HW_ => ?_)
                  generalize wr.drew = w12 at HB HR140_8 HR141_8 hx140_0 hx140_1 hx140_2 hx140_3 hx140_4 hx140_5 hx140_6 hx140_7 hx140_8 hx141_0 hx141_1 hx141_2 hx141_3 hx141_4 hx141_5 hx141_6 hx141_7 hx141_8 hHeld ⊢
                  refine pure_ (i := 0) (N := some 16) (v := ?_) (a' := ?_) #[true, false, false, false, false, false, false, false, false, false] rfl rfl (any_of HT_.out (by kernel_rfl)) (fun _ _ _ h => h) (Or.inl ⟨by rfl, ?_⟩) ?_ ?_
                  rotate_left
                  · intro w'
                    go_simp
                    with_reducible rfl
                  rotate_left
                  · simp only [Act.put, List.setIfInBounds_toArray, List.set_cons_zero, List.set_cons_succ, i64_w, i32_w]
                    rfl
                  refine pure_ (i := 1) (N := some 17) (v := ?_) (a' := ?_) #[true, true, false, false, false, false, false, false, false, false] rfl rfl (any_of HT_.out (by kernel_rfl)) (fun _ _ _ h => h) (Or.inl ⟨by rfl, ?_⟩) ?_ ?_
                  rotate_left
                  · intro w'
                    go_simp
                    with_reducible rfl
                  rotate_left
                  · simp only [Act.put, List.setIfInBounds_toArray, List.set_cons_zero, List.set_cons_succ, i64_w, i32_w]
                    rfl
                  refine pure_ (i := 2) (N := some 18) (v := ?_) (a' := ?_) #[true, true, true, false, false, false, false, false, false, false] rfl rfl (any_of HT_.out (by kernel_rfl)) (fun _ _ _ h => h) (Or.inl ⟨by rfl, ?_⟩) ?_ ?_
                  rotate_left
                  · intro w'
                    go_simp
                    with_reducible rfl
                  rotate_left
                  · simp only [Act.put, List.setIfInBounds_toArray, List.set_cons_zero, List.set_cons_succ, i64_w, i32_w]
                    rfl
                  refine pure_ (i := 4) (N := some 20) (v := ?_) (a' := ?_) #[true, true, true, false, true, false, false, false, false, false] rfl rfl (any_of HT_.out (by kernel_rfl)) (fun _ _ _ h => h) (Or.inl ⟨by rfl, ?_⟩) ?_ ?_
                  rotate_left
                  · intro w'
                    go_simp
                    with_reducible rfl
                  rotate_left
                  · simp only [Act.put, List.setIfInBounds_toArray, List.set_cons_zero, List.set_cons_succ, i64_w, i32_w]
                    rfl
                  refine pure_ (i := 5) (N := some 21) (v := ?_) (a' := ?_) #[true, true, true, false, true, true, false, false, false, false] rfl rfl (any_of HT_.out (by kernel_rfl)) (fun _ _ _ h => h) (Or.inl ⟨by rfl, ?_⟩) ?_ ?_
                  rotate_left
                  · intro w'
                    go_simp
                    with_reducible rfl
                  rotate_left
                  · simp only [Act.put, List.setIfInBounds_toArray, List.set_cons_zero, List.set_cons_succ, i64_w, i32_w]
                    rfl
                  refine pure_ (i := 6) (N := some 22) (v := ?_) (a' := ?_) #[true, true, true, false, true, true, true, false, false, false] rfl rfl (any_of HT_.out (by kernel_rfl)) (fun _ _ _ h => h) (Or.inl ⟨by rfl, ?_⟩) ?_ ?_
                  rotate_left
                  · intro w'
                    go_simp
                    with_reducible rfl
                  rotate_left
                  · simp only [Act.put, List.setIfInBounds_toArray, List.set_cons_zero, List.set_cons_succ, i64_w, i32_w]
                    rfl
                  refine take_ (i := 3) (N := some 19) (v := ?_) (a' := ?_) #[true, true, true, true, true, true, true, false, false, false] rfl rfl (take_ofW HT_.out HW_.out (by kernel_rfl)) (fun _ _ _ h => h) (Or.inl ⟨by rfl, ?_⟩) hHeld ?_ ?_
                  rotate_left
                  · rintro w' ⟨s0, s1, s2, s3, s4, s5, s6, s7, s8, s9, s10, s11, s12, s13, s14, s15, s16, s17⟩
                    go_simp
                    with_reducible rfl
                  rotate_left
                  · simp only [Act.put, List.setIfInBounds_toArray, List.set_cons_zero, List.set_cons_succ, i64_w, i32_w]
                    rfl
                  refine take_ (i := 7) (N := some 23) (v := ?_) (a' := ?_) #[true, true, true, true, true, true, true, true, false, false] rfl rfl (take_ofW HT_.out HW_.out (by kernel_rfl)) (fun _ _ _ h => h) (Or.inl ⟨by rfl, ?_⟩) hHeld ?_ ?_
                  rotate_left
                  · rintro w' ⟨s0, s1, s2, s3, s4, s5, s6, s7, s8, s9, s10, s11, s12, s13, s14, s15, s16, s17⟩
                    go_simp
                    with_reducible rfl
                  rotate_left
                  · simp only [Act.put, List.setIfInBounds_toArray, List.set_cons_zero, List.set_cons_succ, i64_w, i32_w]
                    rfl
                  refine one_ (i := 8) (N := some 24) #[true, true, true, true, true, true, true, true, true, false] rfl rfl (one_of HT_.out (by kernel_rfl)) (by decide) (fun K hK => ?_)
                  refine goes_ Tryd.func24 (by kernel_rfl) rfl #[.agg #[.int .i64 ((rd_T42 l0 x13_1).f0), .int .i64 ((rd_T42 l0 x13_1).f1), .int .i64 ((rd_T42 l0 x13_1).f2), .int .i64 ((rd_T42 l0 x13_1).f3), .string ((rd_T42 l0 x13_1).f4), .string ((rd_T42 l0 x13_1).f5), .string ((rd_T42 l0 x13_1).f6), .string ((rd_T42 l0 x13_1).f7), .slice A140_8 ((rd_T42 l0 x13_1).f8).length c140_8], .agg #[.int .i64 ((rd_T42 l1 x13_1).f0), .int .i64 ((rd_T42 l1 x13_1).f1), .int .i64 ((rd_T42 l1 x13_1).f2), .int .i64 ((rd_T42 l1 x13_1).f3), .string ((rd_T42 l1 x13_1).f4), .string ((rd_T42 l1 x13_1).f5), .string ((rd_T42 l1 x13_1).f6), .string ((rd_T42 l1 x13_1).f7), .slice A141_8 ((rd_T42 l1 x13_1).f8).length c141_8]] (by rfl) rfl rfl (by (try simp only [List.map_toArray, List.map_cons, List.map_nil]); first | done | rfl | (simp only [List.length_drop, List.length_take]; rfl)) ?_
                  with_reducible refine (tendrilplain_Op.calls k1 ((rd_T42 l0 x13_1).f0) ((rd_T42 l0 x13_1).f1) ((rd_T42 l0 x13_1).f2) ((rd_T42 l0 x13_1).f3) ((rd_T42 l0 x13_1).f4) ((rd_T42 l0 x13_1).f5) ((rd_T42 l0 x13_1).f6) ((rd_T42 l0 x13_1).f7) _ _ ((rd_T42 l0 x13_1).f8) ((rd_T42 l1 x13_1).f0) ((rd_T42 l1 x13_1).f1) ((rd_T42 l1 x13_1).f2) ((rd_T42 l1 x13_1).f3) ((rd_T42 l1 x13_1).f4) ((rd_T42 l1 x13_1).f5) ((rd_T42 l1 x13_1).f6) ((rd_T42 l1 x13_1).f7) _ _ ((rd_T42 l1 x13_1).f8) false _ ?side1 ?side2 ?side3 ?side4 ?side5 A8.out).mono ?_
                  (case side1 => first | exact HGL.out | exact (Go.Proofs.YtfpijjjmgggfkaaDoorX.GL.below HGL.out (by repeat (first | (with_reducible first | exact HB.out | apply below_alloc | apply pw_below_drewN | apply below_drew1) | exact HB.out))) | (repeat (first | exact HGL.out | (with_reducible refine Go.Proofs.YtfpijjjmgggfkaaDoorX.GL.drewN ?_ _) | (with_reducible refine Go.Proofs.YtfpijjjmgggfkaaDoorX.GL.drew ?_))))
                  (case side2 => repeat (first | exact (Kd.C_below HR140_8.out HB.out) | (with_reducible refine Kd.C_alloc ?_ _) | (with_reducible refine Kd.C_drewN ?_ _) | (with_reducible refine Kd.C_drew ?_)))
                  (case side3 => exact HC140_8.out)
                  (case side4 => repeat (first | exact (Kd.C_below HR141_8.out HB.out) | (with_reducible refine Kd.C_alloc ?_ _) | (with_reducible refine Kd.C_drewN ?_ _) | (with_reducible refine Kd.C_drew ?_)))
                  (case side5 => exact HC141_8.out)
                  rintro e w13 ⟨rfl, hb⟩
                  refine ⟨_, rfl, ?_⟩
                  have n0_ := Aside0.mk (below_step (by repeat (first | (with_reducible first | exact HB.out | apply below_alloc | apply pw_below_drewN | apply below_drew1) | exact HB.out)) hb)
                  clear HB
                  have HB := n0_
                  clear n0_
                  (try clear hb)
                  (try clear hb2)
                  (try clear hk)
                  (try clear hi)
                  refine hK.out _ _ ⟨((HB.out.cell (World.block_lt_of_cell? w _ hw140_0)).trans hw140_0), ((HB.out.cell (World.block_lt_of_cell? w _ hw140_1)).trans hw140_1), ((HB.out.cell (World.block_lt_of_cell? w _ hw140_2)).trans hw140_2), ((HB.out.cell (World.block_lt_of_cell? w _ hw140_3)).trans hw140_3), ((HB.out.cell (World.block_lt_of_cell? w _ hw140_4)).trans hw140_4), ((HB.out.cell (World.block_lt_of_cell? w _ hw140_5)).trans hw140_5), ((HB.out.cell (World.block_lt_of_cell? w _ hw140_6)).trans hw140_6), ((HB.out.cell (World.block_lt_of_cell? w _ hw140_7)).trans hw140_7), ((HB.out.cell (World.block_lt_of_cell? w _ hw140_8)).trans hw140_8), ((HB.out.cell (World.block_lt_of_cell? w _ hw141_0)).trans hw141_0), ((HB.out.cell (World.block_lt_of_cell? w _ hw141_1)).trans hw141_1), ((HB.out.cell (World.block_lt_of_cell? w _ hw141_2)).trans hw141_2), ((HB.out.cell (World.block_lt_of_cell? w _ hw141_3)).trans hw141_3), ((HB.out.cell (World.block_lt_of_cell? w _ hw141_4)).trans hw141_4), ((HB.out.cell (World.block_lt_of_cell? w _ hw141_5)).trans hw141_5), ((HB.out.cell (World.block_lt_of_cell? w _ hw141_6)).trans hw141_6), ((HB.out.cell (World.block_lt_of_cell? w _ hw141_7)).trans hw141_7), ((HB.out.cell (World.block_lt_of_cell? w _ hw141_8)).trans hw141_8)⟩ (fun hHeld => ?_)
                  clear hK K
                  refine norm_ (a' := ?_) ?_ ?_
                  rotate_left
                  · show Act.put _ (some 24) _ = _
                    simp only [Act.put, List.setIfInBounds_toArray, List.set_cons_zero, List.set_cons_succ, i64_w, i32_w]
                    rfl
                  refine pure_ (i := 9) (N := some 25) (v := ?_) (a' := ?_) #[true, true, true, true, true, true, true, true, true, true] rfl rfl (any_of HT_.out (by kernel_rfl)) (fun _ _ _ h => h) (Or.inl ⟨by rfl, ?_⟩) ?_ ?_
                  rotate_left
                  · intro w'
                    go_simp
                    with_reducible rfl
                  rotate_left
                  · simp only [Act.put, List.setIfInBounds_toArray, List.set_cons_zero, List.set_cons_succ, i64_w, i32_w]
                    rfl
                  refine done_ (done_of HT_.out (by kernel_rfl)) ?_
                  try go_wp2
                  go_ret
                  exact ⟨by first | rfl | (simp [errW_none, errW_some] <;> first | rfl | exact emp_bne _ | exact (emp_bne _).symm | exact emp_bne' _ | exact (emp_bne' _).symm) | (simp [*, errW_none, errW_some] <;> rfl), by repeat (first | (with_reducible first | exact HB.out | apply below_alloc | apply pw_below_drewN | apply below_drew1) | exact HB.out)⟩
              · rw [if_neg c7] at H
                exact absurd H (by simp)
            · rw [if_neg c6] at H
              exact absurd H (by simp)
          · rw [if_neg c5] at H
            exact absurd H (by simp)
        · rw [if_neg c4] at H
          have c4b0 : decide (x13_1 < (l0.length : Int)) = false := decide_eq_false c4
          clear c4
          obtain rfl := Option.some.inj H
          go_wp2
          go_ret
          exact ⟨by first | rfl | (simp [errW_none, errW_some] <;> first | rfl | exact emp_bne _ | exact (emp_bne _).symm | exact emp_bne' _ | exact (emp_bne' _).symm) | (simp [*, errW_none, errW_some] <;> rfl), by repeat (first | (with_reducible first | exact HB.out | apply below_alloc | apply pw_below_drewN | apply below_drew1) | exact HB.out)⟩
  · rw [if_neg c3] at H
    have c3b0 : ((l0.length : Int) == (l1.length : Int)) = false := beq_eq_false_iff_ne.mpr c3
    have c3b1 : ((l0.length : Int) != (l1.length : Int)) = true := bne_iff_ne.mpr c3
    have c3b2 : (l0.length == l1.length) = false := by first | simpa using c3 | (simp at c3 ⊢; omega)
    obtain rfl := Option.some.inj H
    go_enter Tryd.func13, Tryd.ntmps13
    go_wp2
    go_ret
    exact ⟨by first | rfl | (simp [errW_none, errW_some] <;> first | rfl | exact emp_bne _ | exact (emp_bne _).symm | exact emp_bne' _ | exact (emp_bne' _).symm) | (simp [*, errW_none, errW_some] <;> rfl), by repeat (first | (with_reducible first | exact HB.out | apply below_alloc | apply pw_below_drewN | apply below_drew1) | exact HB.out)⟩

end Go.Proofs.YtfpijjjmgggfkaaDoor.P26

namespace Go.Proofs.YtfpijjjmgggfkaaDoorE
open Go Go.RowKit Go.Proofs.YtfpijjjmgggfkaaDoorW.PrintWords Go.Proofs.YtfpijjjmgggfkaaDoorW.PrintMore Go.Proofs.YtfpijjjmgggfkaaDoorX Go.Proofs.YtfpijjjmgggfkaaDoor.P26 Go.Proofs.YtfpijjjmgggfkaaDoor.L01
set_option linter.unusedVariables false
set_option linter.unusedSimpArgs false
set_option maxRecDepth 100000
theorem w64_succ (i : Nat) (h : i < 9223372036854775807) : wrap64 ((i : Int) + 1) = ((i + 1 : Nat) : Int) := by unfold wrap64; omega
theorem few_l1 (l : List S42) (n : Int) (i : Int) (y0 y1 y2 y3 : Int) (y4 y5 y6 y7 : ByteArray) (f8 : List S44) (hf : f8.length ≤ 9223372036854775807) (h : ∀ x5, ∃ b, Ev (fun k => tendrilplain_FewOps.l0 k l x5 n (wrap64 (i + 1))) b) : ∀ d j : Nat, j + d = f8.length → ∀ x5, ∃ b, Ev (fun k => tendrilplain_FewOps.l1 k l x5 n i (f8.length : Int) (j : Int) y0 y1 y2 y3 y4 y5 y6 y7 f8) b := by
  intro d
  induction d with
  | zero =>
    intro j hj x5
    obtain ⟨b, hb⟩ := h x5
    refine ⟨b, Ev.step (fun k => ?_) hb⟩
    simp only [tendrilplain_FewOps.l1]
    rw [if_neg (by omega)]
  | succ d ih =>
    intro j hj x5
    obtain ⟨b, hb⟩ := ih (j + 1) (by omega) (wrap64 (x5 - (wrap64 (Int.tdiv (wrap64 ((((rd_T44 f8 j).f1).size : Int) + (((rd_T44 f8 j).f0).size : Int))) 4096))))
    refine ⟨b, Ev.step (fun k => ?_) hb⟩
    simp only [tendrilplain_FewOps.l1]
    rw [if_pos (by omega), if_pos (by omega), if_pos (by omega), w64_succ j (by omega)]
theorem few_l0 (l : List S42) (hn : l.length ≤ 9223372036854775807) (hf : ∀ i : Nat, i < l.length → (rd_T42 l i).f8.length ≤ 9223372036854775807) : ∀ d i : Nat, i + d = l.length → ∀ x5, ∃ b, Ev (fun k => tendrilplain_FewOps.l0 k l x5 (l.length : Int) (i : Int)) b := by
  intro d
  induction d with
  | zero =>
    intro i hi x5
    refine ⟨decide (0 ≤ x5), Ev.step (f := fun _ => some (decide (0 ≤ x5))) (fun k => ?_) (Ev.now _)⟩
    simp only [tendrilplain_FewOps.l0]
    rw [if_neg (by omega)]
  | succ d ih =>
    intro i hi x5
    obtain ⟨v, hv⟩ : ∃ v, v = (wrap64 ((wrap64 ((wrap64 (x5 - 1)) - (((rd_T42 l i).f8).length : Int))) - (wrap64 (Int.tdiv (wrap64 ((wrap64 ((wrap64 ((((rd_T42 l i).f7).size : Int) + (((rd_T42 l i).f5).size : Int))) + (((rd_T42 l i).f4).size : Int))) + (((rd_T42 l i).f6).size : Int))) 4096)))) := ⟨_, rfl⟩
    by_cases hlt : v < 0
    · refine ⟨false, Ev.step (f := fun _ => some false) (fun k => ?_) (Ev.now _)⟩
      simp only [tendrilplain_FewOps.l0]
      rw [if_pos (by omega), if_pos (by omega), if_pos (by omega), ← hv, if_pos hlt]
    · obtain ⟨b, hb⟩ := few_l1 l (l.length : Int) (i : Int) (rd_T42 l i).f0 (rd_T42 l i).f1 (rd_T42 l i).f2 (rd_T42 l i).f3 (rd_T42 l i).f4 (rd_T42 l i).f5 (rd_T42 l i).f6 (rd_T42 l i).f7 (rd_T42 l i).f8 (hf i (by omega)) (fun x5 => by
        have := ih (i + 1) (by omega) x5
        rw [w64_succ i (by omega)]
        exact this) (rd_T42 l i).f8.length 0 (by omega) v
      refine ⟨b, Ev.step (fun k => ?_) hb⟩
      simp only [tendrilplain_FewOps.l0]
      rw [if_pos (by omega), if_pos (by omega), if_pos (by omega), ← hv, if_neg hlt]
      rfl
theorem attrs_self (l : List S44) (hn : l.length ≤ 9223372036854775807) : ∀ d i : Nat, i + d = l.length → Ev (fun k => tendrilplain_Attrs.l0 k l l (l.length : Int) (i : Int)) true := by
  intro d
  induction d with
  | zero =>
    intro i hi
    refine Ev.step (f := fun _ => some true) (fun k => ?_) (Ev.now _)
    simp only [tendrilplain_Attrs.l0]
    rw [if_neg (by omega)]
  | succ d ih =>
    intro i hi
    refine Ev.step (fun k => ?_) (ih (i + 1) (by omega))
    simp only [tendrilplain_Attrs.l0]
    rw [if_pos (by omega), if_pos (by omega), if_pos (by omega), if_pos (by omega), if_neg (by simp), w64_succ i (by omega)]
theorem op_self (x : S42) (hn : x.f8.length ≤ 9223372036854775807) : Ev (fun k => tendrilplain_Op.f k x.f0 x.f1 x.f2 x.f3 x.f4 x.f5 x.f6 x.f7 x.f8 x.f0 x.f1 x.f2 x.f3 x.f4 x.f5 x.f6 x.f7 x.f8) true := by
  obtain ⟨k0, h0⟩ := attrs_self x.f8 hn x.f8.length 0 (by omega)
  refine ⟨k0, fun k hk => ?_⟩
  unfold tendrilplain_Op.f
  simp only [if_true]
  unfold tendrilplain_Attrs.f
  rw [if_pos rfl]
  have := h0 k hk
  simp only at this
  rw [show ((0 : Nat) : Int) = 0 from rfl] at this
  rw [this]
  rfl
theorem ops_self (l : List S42) (hn : l.length ≤ 9223372036854775807) (hf : ∀ i : Nat, i < l.length → (rd_T42 l i).f8.length ≤ 9223372036854775807) : ∀ d i : Nat, i + d = l.length → Ev (fun k => tendrilplain_Ops.l0 k l l (l.length : Int) (i : Int)) true := by
  intro d
  induction d with
  | zero =>
    intro i hi
    refine Ev.step (f := fun _ => some true) (fun k => ?_) (Ev.now _)
    simp only [tendrilplain_Ops.l0]
    rw [if_neg (by omega)]
  | succ d ih =>
    intro i hi
    obtain ⟨k1, h1⟩ := op_self (rd_T42 l i) (hf i (by omega))
    obtain ⟨k2, h2⟩ := ih (i + 1) (by omega)
    refine ⟨k1 + k2 + 1, fun k hk => ?_⟩
    obtain ⟨m, rfl⟩ : ∃ m, k = m + 1 := ⟨k - 1, by omega⟩
    have h3 := h1 m (by omega)
    simp only at h3
    simp only [tendrilplain_Ops.l0]
    rw [if_pos (by omega), if_pos (by omega), if_pos (by omega), if_pos (by omega), h3]
    simp only [Option.bind_some, if_true]
    rw [w64_succ i (by omega)]
    exact h2 m (by omega)
theorem ops_c (A A' : Option Addr) (c c' : Nat) (l : List S42) (w : World) (hgl : GL w) (hl : Kd.C k42 w A l.length l) (hc : l.length ≤ c) (hl' : Kd.C k42 w A' l.length l) (hc' : l.length ≤ c') (hn : l.length ≤ 9223372036854775807) (hf : ∀ i : Nat, i < l.length → (rd_T42 l i).f8.length ≤ 9223372036854775807) :
    Calls Tryd.prog 13 #[.slice A l.length c, .slice A' l.length c'] w fun e w' => e = .returned (.bool true) ∧ Below w.heap.size w w' := by
  obtain ⟨k, hk⟩ := ops_self l hn hf l.length 0 (by omega)
  refine tendrilplain_Ops.calls k A c l A' c' l true w hgl hl hc hl' hc' ?_
  unfold tendrilplain_Ops.f
  rw [if_pos rfl]
  exact hk k (Nat.le_refl _)

def X43 : S42 := ⟨4, 3, 0, 0, em, em, em, em, []⟩
theorem chk43 : chk X43 = 0 := by
  unfold chk checkO X43
  simp [overO, noneO, attrsN]
  decide
theorem enc_small (n : Nat) (h : n < 128) : enc n = [(n : Int)] := enc_lt h
theorem encB43 : encB [X43] = [1, 4, 3] := by
  unfold encB opsB
  simp only [List.flatMap_cons, List.flatMap_nil, List.append_nil]
  rw [oneB_body]
  simp [X43, Go.Proofs.YtfpijjjmgggfkaaDoor.L01.encs, enc_small]
theorem decS43 : decS [1, 4, 3] = ([X43], 0, 0) := by
  have h := readR_put [X43] (by decide) (by intro x hx; obtain rfl := List.mem_singleton.1 hx; exact chk43) []
  rw [List.append_nil, encB43] at h
  rw [decS_ok (by rw [h]; rfl), h]
theorem bytes14 : Bytes [1, 4] := by intro x hx; simp at hx; omega
theorem decS14 : decS [1, 4] = ([], 0, 4) := by
  have h1 : nS ([1, 4], 0) 1048576 = ((1, 0), ([4], 0)) := by
    have := nS_put 1 1048576 (by omega) (by omega) [4]
    rw [enc_small 1 (by omega)] at this
    exact this
  have h2 : nS ([4], 0) 7 = ((4, 0), ([], 0)) := by
    have := nS_put 4 7 (by omega) (by omega) []
    rw [enc_small 4 (by omega)] at this
    exact this
  have h3 : (opR ([4], 0)).1.2 = 4 := by
    refine opR_bad ([4], 0) (s1 := ([], 0)) (by rw [h2]) 4 4 (by rw [h2]) (by decide) ?_ (by decide)
    simp [bodyR]
    rfl
  have hr : readR [1, 4] = ([], 4) := readR_2 [1, 4] (n := 1) (s1 := ([4], 0)) (by rw [h1]; rfl) (by rw [h1]) rfl (l := []) (e := 4) (s' := (opR ([4], 0)).2) (by rw [opsR_stop 0 ([4], 0) (by rw [h3]; decide), h3]) (by decide)
  rw [decS_bad (by rw [hr]; decide), hr]
  rfl
theorem firstS43 : (firstS [X43]).2 = 0 := by
  unfold firstS
  simp [firstN, rd_T42, chk43]
end Go.Proofs.YtfpijjjmgggfkaaDoorE

namespace Go.Proofs.YtfpijjjmgggfkaaDoorE
open Go Go.RowKit Go.Proofs.YtfpijjjmgggfkaaDoorW.PrintWords Go.Proofs.YtfpijjjmgggfkaaDoorW.PrintMore Go.Proofs.YtfpijjjmgggfkaaDoorX Go.Proofs.YtfpijjjmgggfkaaDoor.P26 Go.Proofs.YtfpijjjmgggfkaaDoor.L01
set_option linter.unusedVariables false
set_option linter.unusedSimpArgs false
set_option maxRecDepth 100000
theorem box8_C {W : World} {b T : Nat} {xs : List Int} (h : W.heap[b]? = some (.cells (xs.map (Value.int .u8)).toArray T (0, 0))) (hx : xs.length ≤ 9223372036854775807) : Kd.C (Kd.int .u8) W (some ⟨b, 0, none⟩) xs.length xs := by
  refine ⟨rfl, hx, fun _ => ⟨_, rfl, ?_⟩⟩
  intro j p hp
  refine ⟨[.int .u8 p], rfl, rfl, ?_⟩
  intro i u hu
  match i, hu with
  | 0, hu =>
    simp at hu
    subst hu
    show W.cell? ((⟨b, 0, none⟩ : Addr).add (j * 1 + 0)) = _
    rw [add_plain, Lib.cell_of_heap h]
    simp [hp]
theorem box43_C {W : World} {b T : Nat} (h : W.heap[b]? = some (.cells #[.int .i64 4, .int .i64 3, .int .i64 0, .int .i64 0, .string ⟨#[]⟩, .string ⟨#[]⟩, .string ⟨#[]⟩, .string ⟨#[]⟩, .slice none 0 0] T (0, 0))) : Kd.C k42 W (some ⟨b, 0, none⟩) [X43].length [X43] := by
  refine ⟨rfl, by show 1 ≤ _; omega, fun _ => ⟨_, rfl, ?_⟩⟩
  intro j p hp
  match j, hp with
  | 0, hp =>
    simp at hp
    subst hp
    refine ⟨[.int .i64 4, .int .i64 3, .int .i64 0, .int .i64 0, .string ⟨#[]⟩, .string ⟨#[]⟩, .string ⟨#[]⟩, .string ⟨#[]⟩, .slice none 0 0], rfl, k42_mk W X43 (A8 := none) (c8 := 0) (Nat.le_refl 0) (Kd.C_nil k44 W), ?_⟩
    intro i u hu
    show W.cell? ((⟨b, 0, none⟩ : Addr).add (0 * 9 + i)) = _
    rw [add_plain, Lib.cell_of_heap h]
    rw [Nat.zero_mul, Nat.zero_add]
    simpa using hu
theorem enc43_c (b : Nat) (W : World) (hgl : GL W) (h : W.heap[b]? = some (.cells #[.int .i64 4, .int .i64 3, .int .i64 0, .int .i64 0, .string ⟨#[]⟩, .string ⟨#[]⟩, .string ⟨#[]⟩, .string ⟨#[]⟩, .slice none 0 0] 42)) : Calls Tryd.prog 9 #[.slice (some ⟨b, 0, none⟩) 1 1] W fun e w' => (∃ A c, e = .returned (.tuple #[.slice A 3 c, .int .i64 0, .int .i64 0]) ∧ Kd.C (Kd.int .u8) w' A 3 [1, 4, 3]) ∧ Below W.heap.size W w' := by
  refine (Encode_c (some ⟨b, 0, none⟩) 1 [X43] W hgl (box43_C h) (Nat.le_refl 1) (fun i hi => by
    have : i = 0 := by simp at hi; omega
    subst this
    exact ⟨i64_k 4 (by omega), i64_k 3 (by omega), i64_k 0 (by omega), i64_k 0 (by omega), Nat.zero_le _, Nat.zero_le _, Nat.zero_le _, Nat.zero_le _, Nat.zero_le _, fun i hi => absurd hi (Nat.not_lt_zero i)⟩) firstS43).mono ?_
  rintro e w1 ⟨⟨v, B, rfl, hB, hO⟩, hb⟩
  rw [encB43] at hO
  obtain ⟨A1, c1, rfl, hc1, hC1⟩ := own8_reads hO
  exact ⟨⟨A1, c1, rfl, hC1⟩, hb⟩
theorem dec143_c (b : Nat) (W : World) (hgl : GL W) (h : W.heap[b]? = some (.cells #[.int .u8 1, .int .u8 4, .int .u8 3] 5)) : Calls Tryd.prog 11 #[.slice (some ⟨b, 0, none⟩) 3 3] W fun e w' => (∃ A c, e = .returned (.tuple #[.slice A 1 c, .int .i64 0, .int .i64 0]) ∧ Kd.C k42 w' A 1 [X43]) ∧ Below W.heap.size W w' := by
  refine (Decode_c (some ⟨b, 0, none⟩) 3 [1, 4, 3] W hgl (box8_C h (by show 3 ≤ _; omega)) (Nat.le_refl 3) (by intro x hx; simp at hx; omega) (by show 3 ≤ _; omega)).mono ?_
  rintro e w1 ⟨⟨v, rfl, hR⟩, hb⟩
  rw [decS43] at hR ⊢
  obtain ⟨A1, c1, rfl, hc1, hC1⟩ := Kd.R_reads hR
  exact ⟨⟨A1, c1, rfl, hC1⟩, hb⟩
theorem dec14_c (b : Nat) (W : World) (hgl : GL W) (h : W.heap[b]? = some (.cells #[.int .u8 1, .int .u8 4] 5)) : Calls Tryd.prog 11 #[.slice (some ⟨b, 0, none⟩) 2 2] W fun e w' => (∃ v, e = .returned (.tuple #[v, .int .i64 0, .int .i64 4])) ∧ Below W.heap.size W w' := by
  refine (Decode_c (some ⟨b, 0, none⟩) 2 [1, 4] W hgl (box8_C h (by show 2 ≤ _; omega)) (Nat.le_refl 2) bytes14 (by show 2 ≤ _; omega)).mono ?_
  rintro e w1 ⟨⟨v, rfl, hR⟩, hb⟩
  rw [decS14]
  exact ⟨⟨v, rfl⟩, hb⟩
set_option maxHeartbeats 2000000 in
theorem lsame_c (w : World) (hgl : GL w) : Calls Tryd.prog 8 #[] w fun e w' => e = .returned (.bool true) ∧ Below w.heap.size w w' := by
  have hb0 : Below w.heap.size w (w.alloc (.cells #[.int .i64 4, .int .i64 3, .int .i64 0, .int .i64 0, .string ⟨#[]⟩, .string ⟨#[]⟩, .string ⟨#[]⟩, .string ⟨#[]⟩, .slice none 0 0] 42)) := below_alloc (Below.refl _ _) _
  have HE := Aside0.mk (enc43_c w.heap.size _ (hgl.below hb0) (one_new_ w _))
  have HG := Aside0.mk hgl
  have HB0 := Aside0.mk hb0
  have hs0 : strOfNums [1, 4, 3] = (⟨#[1, 4, 3]⟩ : ByteArray) := rfl
  have HS0 := Aside0.mk hs0
  clear hgl hb0 hs0
  go_enter Tryd.func8, Tryd.ntmps8
  go_wp2_with (first
    | (go_at_call 9; (with_reducible refine (HE.out).mono ?_); rintro e w1 ⟨⟨A1, c1, rfl, hC1⟩, hb⟩; have HC1 := Aside0.mk hC1; have HB1 := Aside0.mk (below_then HB0.out HB0.out.size hb); clear hb hC1)
    | (go_at_call 11; (with_reducible refine (dec143_c w1.heap.size _ (HG.out.below (below_alloc HB1.out _)) (one_new_ w1 _)).mono ?_); rintro e w2 ⟨⟨A2, c2, rfl, hC2⟩, hb⟩; have HC2 := Aside0.mk hC2; have HB2 := Aside0.mk (below_then (below_alloc HB1.out _) (by have := HB1.out.size; simp; omega) hb); have HC1' := Aside0.mk (Kd.C_below HC1.out (below_then (below_alloc (Below.refl _ w1) _) (by simp) hb)); clear hb hC2)
    | (go_at_call 11; (with_reducible refine (dec14_c w2.heap.size _ (HG.out.below (below_alloc HB2.out _)) (one_new_ w2 _)).mono ?_); rintro e w3 ⟨⟨v3, rfl⟩, hb⟩; have HB3 := Aside0.mk (below_then (below_alloc HB2.out _) (by have := HB2.out.size; simp; omega) hb); have hw23 := below_then (below_alloc (Below.refl _ w2) (.cells #[.int .u8 1, .int .u8 4] 5)) (by simp) hb; have hs1 := Kd.C_string (dst := 9) (c := c1) Tryd.underlying25 Tryd.underlying5 Tryd.underlying9 (Kd.C_below HC1'.out hw23); rw [HS0.out] at hs1; obtain ⟨ad, A8, c8, rfl, e0, e1, e2, e3, e4, e5, e6, e7, e8, -, -⟩ := at_T42 (Kd.C_below HC2.out hw23) 0 (by omega) (by omega); have e1' : w3.cell? ⟨ad.block, ad.off + 1, none⟩ = some (.int .i64 3) := e1; clear hb hw23 e0 e2 e3 e4 e5 e6 e7 e8))
  go_ret
  exact ⟨rfl, HB3.out⟩
end Go.Proofs.YtfpijjjmgggfkaaDoorE

namespace Go.Proofs.YtfpijjjmgggfkaaDoorE
open Go Go.RowKit Go.Proofs.YtfpijjjmgggfkaaDoorW.PrintWords Go.Proofs.YtfpijjjmgggfkaaDoorW.PrintMore Go.Proofs.YtfpijjjmgggfkaaDoorX Go.Proofs.YtfpijjjmgggfkaaDoor.P26 Go.Proofs.YtfpijjjmgggfkaaDoor.L01
set_option linter.unusedVariables false
set_option linter.unusedSimpArgs false
set_option maxRecDepth 100000
theorem C42_len {w : World} {A : Option Addr} {l : List S42} (h : Kd.C k42 w A l.length l) : l.length ≤ 9223372036854775807 ∧ ∀ i : Nat, i < l.length → (rd_T42 l i).f8.length ≤ 9223372036854775807 := by
  refine ⟨h.2.1, fun i hi => ?_⟩
  obtain ⟨ad, A8, c8, rfl, -, -, -, -, -, -, -, -, -, -, hi8⟩ := at_T42 h (i : Int) (by omega) (by omega)
  exact hi8.2.1
theorem ops_R {base base' : Nat} {ok ok' : Nat → Prop} {A A' : Option Addr} {c c' : Nat} {l : List S42} (w : World) (hgl : GL w) (hl : Kd.C k42 w A l.length l) (hc : l.length ≤ c) (hl' : Kd.C k42 w A' l.length l) (hc' : l.length ≤ c') :
    Calls Tryd.prog 13 #[.slice A l.length c, .slice A' l.length c'] w fun e w' => e = .returned (.bool true) ∧ Below w.heap.size w w' :=
  ops_c A A' c c' l w hgl hl hc hl' hc' (C42_len hl).1 (C42_len hl).2
theorem dec_c (A : Option Addr) (c : Nat) (bs : List Int) (w : World) (hgl : GL w) (hC : Kd.C (Kd.int .u8) w A bs.length bs) (hc : bs.length ≤ c) (hB : Bytes bs) (hlen : bs.length ≤ 140737488355328) :
    Calls Tryd.prog 11 #[.slice A bs.length c] w fun e w' => (∃ A1 c1, e = .returned (.tuple #[.slice A1 (decS bs).1.length c1, .int .i64 (decS bs).2.1, .int .i64 (decS bs).2.2]) ∧ (decS bs).1.length ≤ c1 ∧ Kd.C k42 w' A1 (decS bs).1.length (decS bs).1) ∧ Below w.heap.size w w' := by
  refine (Decode_c A c bs w hgl hC hc hB hlen).mono ?_
  rintro e w1 ⟨⟨v, rfl, hR⟩, hb⟩
  obtain ⟨A1, c1, rfl, hc1, hC1⟩ := Kd.R_reads hR
  exact ⟨⟨A1, c1, rfl, hc1, hC1⟩, hb⟩
theorem okX_of {x : S42} (h : okW x) : okX x := by
  obtain ⟨hk, h1, h2, h3, h4, h5, h6, h7, h8, h9⟩ := h
  exact ⟨⟨by omega, by omega⟩, i64_32 h1, i64_32 h2, i64_32 h3, size_up h4, size_up h5, size_up h6, size_up h7, by omega, fun i hi => ⟨size_up (h9 i hi).1, size_up (h9 i hi).2⟩⟩
theorem rd_mem (l : List S42) (i : Nat) (hi : i < l.length) : rd_T42 l (i : Int) ∈ l := by
  unfold rd_T42
  rw [Int.toNat_natCast, List.getD_eq_getElem?_getD, List.getElem?_eq_getElem hi]
  exact List.getElem_mem hi
theorem firstS_all (l : List S42) (hn : l.length ≤ 1048576) (h : ∀ x ∈ l, chk x = 0) : (firstS l).2 = 0 := by
  unfold firstS
  rw [firstN_no _ l.length 0 (by omega) (fun j _ hj => h _ (rd_mem l j (by omega)))]
theorem enc_c (A : Option Addr) (c : Nat) (l : List S42) (w : World) (hgl : GL w) (hl : Kd.C k42 w A l.length l) (hc : l.length ≤ c) (hn : l.length ≤ 1048576) (h : ∀ x ∈ l, chk x = 0) :
    Calls Tryd.prog 9 #[.slice A l.length c] w fun e w' => (∃ A1 c1, e = .returned (.tuple #[.slice A1 (encB l).length c1, .int .i64 0, .int .i64 0]) ∧ (encB l).length ≤ c1 ∧ Kd.C (Kd.int .u8) w' A1 (encB l).length (encB l)) ∧ Below w.heap.size w w' := by
  refine (Encode_c A c l w hgl hl hc (fun i hi => okX_of (chk_okW _ (h _ (rd_mem l i hi)))) (firstS_all l hn h)).mono ?_
  rintro e w1 ⟨⟨v, B, rfl, hB, hO⟩, hb⟩
  obtain ⟨A1, c1, rfl, hc1, hC1⟩ := own8_reads hO
  exact ⟨⟨A1, c1, rfl, hc1, hC1⟩, hb⟩
end Go.Proofs.YtfpijjjmgggfkaaDoorE

namespace Go.Proofs.YtfpijjjmgggfkaaDoorE
open Go Go.RowKit Go.ChangeShapes Go.WideShapes Go.Proofs.YtfpijjjmgggfkaaDoorW.PrintWords Go.Proofs.YtfpijjjmgggfkaaDoor.P26 Go.Proofs.YtfpijjjmgggfkaaDoor.L01 Go.Proofs.YtfpijjjmgggfkaaDoor.M02
set_option linter.unusedVariables false
set_option linter.unusedSimpArgs false
theorem wf_i64' {x : Int} (h : (Lit.int .i64 x).wf = true) : -9223372036854775808 ≤ x ∧ x ≤ 9223372036854775807 := by
  simp [Lit.wf, IntKind.min, IntKind.max, IntKind.bits, IntKind.signed] at h
  omega
theorem wf_u8' {x : Int} (h : (Lit.int .u8 x).wf = true) : 0 ≤ x ∧ x ≤ 255 := by
  simp [Lit.wf, IntKind.min, IntKind.max, IntKind.bits, IntKind.signed] at h
  omega
theorem cellsO0 : Tryd.prog.cellsOf 9 = 1 := by kernel_rfl
theorem cellsO1 : Tryd.prog.cellsOf 3 = 1 := by kernel_rfl
theorem cellsO2 : Tryd.prog.cellsOf 44 = 2 := by kernel_rfl
theorem cellsO3 : Tryd.prog.cellsOf 42 = 9 := by kernel_rfl
theorem cellsO5 : Tryd.prog.cellsOf 5 = 1 := by kernel_rfl
def openB8T (W : World) (A : Option Addr) (n c : Nat) : Prop := ∃ l : List Int, n = l.length ∧ n ≤ c ∧ Kd.C (Kd.int .u8) W A l.length l ∧ l.length ≤ 140737488351232 ∧ Bytes l
theorem openB8 {H : Type} {enc : TypeId × Value → H} {W : World} {base : Nat} {spare : Nat → Bool} {held : Bool} {A : Option Addr} {n c fuel : Nat} {d : DataW H} {ps : List MemPlace}
    (hf : DataW.trod enc Tryd.prog W base spare held fuel 25 (Value.slice A n c).cells.toList = some (d, ps)) (hs : ∀ m ∈ d.weights Tryd.prog 25, m ≤ 140737488351232) : openB8T W A n c := by
  cases fuel with
  | zero => simp [DataW.trod] at hf
  | succ f =>
    obtain ⟨l, h1, h2, h3, h4, -, h5⟩ := Op.arg (Op.slice Tryd.underlying25 cellsO5.symm (Op.int (fuel := f) Tryd.underlying5)) hf hs
    exact ⟨l, h1, h2, h3, Nat.le_trans (Nat.le_mul_of_pos_right _ (of_decide_eq_true (by kernel_rfl))) h4, fun x hx => wf_u8' (h5 x hx)⟩
theorem open_attr (fuel : Nat) : Op.At Tryd.prog fuel 44 k44 okA := by
  cases fuel with
  | zero => exact Op.zero
  | succ n =>
    refine Op.mono (Op.struct Tryd.underlying44 (by kernel_rfl) (fun i f hf => ?_) (Op.iso (fun x : S44 => (x.f0, x.f1)) (fun a => ⟨a.1, a.2⟩) (fun a => rfl) (Op.cons (Op.string Tryd.underlying9) (Op.one (Op.string Tryd.underlying9))))) (fun w a cs h => h) (fun a h => ⟨h.1, h.2⟩)
    rcases i with _ | _ | i <;> simp at hf <;> (subst hf; simp [cellsO0])
theorem okA_at {l : List S44} (h : ∀ x ∈ l, okA x) : ∀ i : Nat, i < l.length → okA (rd_T44 l i) := by
  intro i hi
  unfold rd_T44
  rw [Int.toNat_natCast, List.getD_eq_getElem?_getD, List.getElem?_eq_getElem hi]
  exact h _ (List.getElem_mem hi)
theorem open_op (fuel : Nat) : Op.At Tryd.prog fuel 42 k42 okX := by
  cases fuel with
  | zero => exact Op.zero
  | succ n =>
    cases n with
    | zero =>
      intro H enc w base spare held cs x h hs
      obtain ⟨xs, n, hn, rfl, hl, hx, hf⟩ := DataW.trod_struct Tryd.underlying42 h
      obtain rfl : n = 0 := by omega
      have := hf 0 _ rfl
      have hx0 : 0 < xs.length := by rw [hx]; decide
      rw [List.getElem?_eq_getElem hx0] at this
      simp [DataW.trod] at this
    | succ n =>
      refine Op.mono (Op.struct Tryd.underlying42 (by kernel_rfl) (fun i f hf => ?_) (Op.iso (fun x : S42 => (x.f0, x.f1, x.f2, x.f3, x.f4, x.f5, x.f6, x.f7, x.f8)) (fun a => ⟨a.1, a.2.1, a.2.2.1, a.2.2.2.1, a.2.2.2.2.1, a.2.2.2.2.2.1, a.2.2.2.2.2.2.1, a.2.2.2.2.2.2.2.1, a.2.2.2.2.2.2.2.2⟩) (fun a => rfl)
        (Op.cons (Op.int Tryd.underlying3) (Op.cons (Op.int Tryd.underlying3) (Op.cons (Op.int Tryd.underlying3) (Op.cons (Op.int Tryd.underlying3) (Op.cons (Op.string Tryd.underlying9) (Op.cons (Op.string Tryd.underlying9) (Op.cons (Op.string Tryd.underlying9) (Op.cons (Op.string Tryd.underlying9) (Op.one (Op.slice Tryd.underlying40 cellsO2.symm (open_attr n))))))))))))) (fun w a cs h => h) (fun a h => ?_)
      · rcases i with _ | _ | _ | _ | _ | _ | _ | _ | _ | i <;> simp at hf <;> (subst hf; simp [cellsO0, cellsO1])
      · obtain ⟨h0, h1, h2, h3, h4, h5, h6, h7, h8, -, h9⟩ := h
        exact ⟨wf_i64' h0, wf_i64' h1, wf_i64' h2, wf_i64' h3, h4, h5, h6, h7, Nat.le_trans (Nat.le_mul_of_pos_right _ (of_decide_eq_true (by kernel_rfl))) h8, okA_at h9⟩
def openOpsT (W : World) (A : Option Addr) (n c : Nat) : Prop := ∃ l : List S42, n = l.length ∧ n ≤ c ∧ Kd.C k42 W A l.length l ∧ l.length ≤ 140737488351232 ∧ ∀ i : Nat, i < l.length → okX (rd_T42 l i)
theorem openOps {H : Type} {enc : TypeId × Value → H} {W : World} {base : Nat} {spare : Nat → Bool} {held : Bool} {A : Option Addr} {n c fuel : Nat} {d : DataW H} {ps : List MemPlace}
    (hf : DataW.trod enc Tryd.prog W base spare held fuel 22 (Value.slice A n c).cells.toList = some (d, ps)) (hs : ∀ m ∈ d.weights Tryd.prog 22, m ≤ 140737488351232) : openOpsT W A n c := by
  cases fuel with
  | zero => simp [DataW.trod] at hf
  | succ f =>
    obtain ⟨l, h1, h2, h3, h4, -, h5⟩ := Op.arg (Op.slice Tryd.underlying22 cellsO3.symm (open_op f)) hf hs
    refine ⟨l, h1, h2, h3, Nat.le_trans (Nat.le_mul_of_pos_right _ (of_decide_eq_true (by kernel_rfl))) h4, fun i hi => ?_⟩
    unfold rd_T42
    rw [Int.toNat_natCast, List.getD_eq_getElem?_getD, List.getElem?_eq_getElem hi]
    exact h5 _ (List.getElem_mem hi)
end Go.Proofs.YtfpijjjmgggfkaaDoorE

namespace Go.Proofs.YtfpijjjmgggfkaaDoorE
open Go Go.RowKit Go.Proofs.YtfpijjjmgggfkaaDoorW.PrintWords Go.Proofs.YtfpijjjmgggfkaaDoorW.PrintMore Go.Proofs.YtfpijjjmgggfkaaDoorX Go.Proofs.YtfpijjjmgggfkaaDoor.P26 Go.Proofs.YtfpijjjmgggfkaaDoor.L01
set_option linter.unusedVariables false
set_option linter.unusedSimpArgs false
set_option maxRecDepth 100000
theorem bytes_app {a b : List Int} (h : Bytes a) (h' : Bytes b) : Bytes (a ++ b) := fun x hx => (List.mem_append.1 hx).elim (h x) (h' x)
theorem encT_bytes (s : ByteArray) : Bytes (encT s) := bytes_app (enc_bytes _) (bytesI_bytes s)
theorem attrB_bytes (l : List S44) : Bytes (attrB l) := by
  intro x hx
  unfold attrB at hx
  obtain ⟨a, -, ha⟩ := List.mem_flatMap.1 hx
  unfold encTs at ha
  obtain ⟨s, -, hs⟩ := List.mem_flatMap.1 ha
  exact encT_bytes s x hs
theorem oneB_bytes (x : S42) : Bytes (oneB x) := by
  rw [oneB_body]
  refine bytes_app (enc_bytes _) ?_
  repeat' split
  · exact bytes_app (encT_bytes _) (bytes_app (encT_bytes _) (bytes_app (encT_bytes _) (bytes_app (enc_bytes _) (attrB_bytes _))))
  · exact bytes_app (enc_bytes _) (bytes_app (enc_bytes _) (enc_bytes _))
  · exact bytes_app (enc_bytes _) (enc_bytes _)
  · exact enc_bytes _
  · exact bytes_app (enc_bytes _) (bytes_app (encT_bytes _) (encT_bytes _))
  · exact bytes_app (enc_bytes _) (encT_bytes _)
  · exact bytes_app (enc_bytes _) (encT_bytes _)
theorem encB_bytes (l : List S42) : Bytes (encB l) := by
  unfold encB
  refine bytes_app (encs_bytes _) ?_
  intro x hx
  unfold opsB at hx
  obtain ⟨a, -, ha⟩ := List.mem_flatMap.1 hx
  exact oneB_bytes a x ha
theorem encB_len (l : List S42) (hn : l.length ≤ 1048576) (h : ∀ x ∈ l, chk x = 0) : (encB l).length ≤ 9961472000010 := by
  have h1 := opsB_le l (fun i hi => chk_okW _ (h _ (rd_mem l i hi))) l.length (Nat.le_refl _)
  rw [List.take_length] at h1
  have h2 := encs_le (l.length : Int) (by omega)
  unfold encB
  rw [List.length_append]
  omega
theorem all_of_first (l : List S42) (h : (firstS l).2 = 0) : l.length ≤ 1048576 ∧ ∀ x ∈ l, chk x = 0 := by
  obtain ⟨h1, h2⟩ := firstS_ok l h
  refine ⟨h1, fun x hx => ?_⟩
  obtain ⟨i, hi, rfl⟩ := List.getElem_of_mem hx
  have := h2 i hi
  unfold rd_T42 at this
  rwa [Int.toNat_natCast, List.getD_eq_getElem?_getD, List.getElem?_eq_getElem hi] at this
/-- No beginning of a script's bytes is taken. -/
theorem cut_err (l : List S42) (hn : l.length ≤ 1048576) (h : ∀ x ∈ l, chk x = 0) (m : Nat) (hm : m < (encB l).length) : (decS ((encB l).take m)).2.2 ≠ 0 := by
  intro h0
  have hB : Bytes ((encB l).take m) := fun x hx => encB_bytes l x (List.mem_of_mem_take hx)
  have hr : (readR ((encB l).take m)).2 = 0 := by
    by_cases hr : (readR ((encB l).take m)).2 = 0
    · exact hr
    · rw [decS_bad hr] at h0
      exact absurd h0 hr
  obtain ⟨e1, e2, e3⟩ := readR_inv _ hB hr
  have p1 := readR_put (readR ((encB l).take m)).1 e2 e3 ((encB l).drop m)
  rw [← e1, List.take_append_drop, if_neg (by
    intro hd
    have := congrArg List.length hd
    rw [List.length_drop] at this
    simp at this
    omega)] at p1
  have p2 := readR_put l hn h []
  rw [List.append_nil, p1, if_pos rfl] at p2
  have := congrArg Prod.snd p2
  simp at this
theorem dec_more (l : List S42) (hn : l.length ≤ 1048576) (h : ∀ x ∈ l, chk x = 0) (more : List Int) (hm : more ≠ []) : decS (encB l ++ more) = ([], (l.length : Int), 2) := by
  have p := readR_put l hn h more
  rw [if_neg hm] at p
  rw [decS_bad (by rw [p]; simp), p]
theorem dec_same (l : List S42) (hn : l.length ≤ 1048576) (h : ∀ x ∈ l, chk x = 0) : decS (encB l) = (l, 0, 0) := by
  have p := readR_put l hn h []
  rw [List.append_nil, if_pos rfl] at p
  rw [decS_ok (by rw [p]), p]
/-- append(b, x...) of bytes that are read. -/
theorem app_stepC {ops : Array Oper} {rest : List Oper} {o : Oper} {a : Act} {Q : Exit → Act → World → Prop} (s x : Operand) {w1 W : World} {A A2 : Option Addr} {c c2 : Nat} {bs ys : List Int} (hgd : o.guard = none)
    (ho : o.op = .call { callee := .builtin .append, args := #[s, x], argTypes := #[25, 25] }) (hs : a.eval s = .slice A bs.length c) (hx : a.eval x = .slice A2 ys.length c2)
    (h : InvE w1 (.slice A bs.length c) bs W) (hy : Kd.C (Kd.int .u8) W A2 ys.length ys) (hl : bs.length + ys.length ≤ 140737488355328)
    (hk : ∀ A' c' W', InvE w1 (.slice A' (bs ++ ys).length c') (bs ++ ys) W' → Below w1.heap.size w1 W' → (bs ++ ys).length ≤ c' → Kd.C (Kd.int .u8) W' A' (bs ++ ys).length (bs ++ ys) → wpList Tryd.prog ops Q rest (a.put o.dst (.slice A' (bs ++ ys).length c')) W') : wpList Tryd.prog ops Q (o :: rest) a W := by
  refine Kd.R_append_row (w0 := w1) (Value.int .u8) (0 : Int) (h1 := fun _ => rfl) w1.heap.size hgd s x 25 5 (.int .u8 0) 1 ho Tryd.underlying25 info_byte rfl (by decide) (.slice A bs.length c) bs ys A2 ys.length c2 (fun _ => True) hs hx (fun _ _ => trivial) h.1 hy h.2 h.2.size (by omega) ?_
  intro v1 w2 hown hbel hgr hhat
  obtain ⟨A', c', rfl, hc', hC'⟩ := Kd.R_reads hown
  exact hk A' c' w2 ⟨hown, hbel⟩ hbel hc' hC'
set_option maxHeartbeats 2000000 in
theorem cut_few (A : Option Addr) (n c : Nat) (l : List S42) (a1 : Int) (A2 : Option Addr) (n2 c2 : Nat) (more : List Int) (w : World) (hgl : GL w) (h0 : n = l.length ∧ n ≤ c ∧ Kd.C k42 w A l.length l ∧ l.length ≤ 140737488351232 ∧ ∀ i : Nat, i < l.length → okX (rd_T42 l i)) (h2 : n2 = more.length ∧ n2 ≤ c2 ∧ Kd.C (Kd.int .u8) w A2 more.length more ∧ more.length ≤ 140737488351232 ∧ Bytes more)(hfw : Calls Tryd.prog 7 #[.slice A l.length c, .int .i64 100] w fun e w' => e = .returned (.bool false) ∧ Below w.heap.size w w') :
    Calls Tryd.prog 6 #[.slice A n c, .int .i64 a1, .slice A2 n2 c2] w fun e w' => e = .returned (.bool true) ∧ Below w.heap.size w w' := by
  obtain ⟨rfl, hc, hC, hlen, hX⟩ := h0
  obtain ⟨rfl, hc2, hC2, hlen2, hB2⟩ := h2
  have HG := Aside0.mk hgl
  have HFW : Aside0 (Calls Tryd.prog 7 #[.slice A l.length c, .int .i64 100] w fun e w' => e = .returned (.bool false) ∧ Below w.heap.size w w') := ⟨hfw⟩
  clear hgl hC hX hC2 hB2 hfw
  go_enter Tryd.func6, Tryd.ntmps6
  go_wp2_with (first
    | (go_at_call 7; (with_reducible refine (HFW.out).mono ?_); rintro e w1 ⟨rfl, hb⟩; have HB1 := Aside0.mk hb; clear hb)
    | (go_at_call 8; (with_reducible refine (lsame_c _ (HG.out.below HB1.out)).mono ?_); rintro e w3 ⟨rfl, hb⟩; have HB3 := Aside0.mk (below_then HB1.out HB1.out.size hb); clear hb))
  go_ret
  exact ⟨rfl, HB3.out⟩
set_option maxHeartbeats 2000000 in
theorem cut_big (A : Option Addr) (n c : Nat) (l : List S42) (a1 : Int) (A2 : Option Addr) (n2 c2 : Nat) (more : List Int) (w : World) (hgl : GL w) (h0 : n = l.length ∧ n ≤ c ∧ Kd.C k42 w A l.length l ∧ l.length ≤ 140737488351232 ∧ ∀ i : Nat, i < l.length → okX (rd_T42 l i)) (h2 : n2 = more.length ∧ n2 ≤ c2 ∧ Kd.C (Kd.int .u8) w A2 more.length more ∧ more.length ≤ 140737488351232 ∧ Bytes more)(hfw : Calls Tryd.prog 7 #[.slice A l.length c, .int .i64 100] w fun e w' => e = .returned (.bool true) ∧ Below w.heap.size w w') (hbig : 1000 < more.length) :
    Calls Tryd.prog 6 #[.slice A n c, .int .i64 a1, .slice A2 n2 c2] w fun e w' => e = .returned (.bool true) ∧ Below w.heap.size w w' := by
  obtain ⟨rfl, hc, hC, hlen, hX⟩ := h0
  obtain ⟨rfl, hc2, hC2, hlen2, hB2⟩ := h2
  have HG := Aside0.mk hgl
  have HFW : Aside0 (Calls Tryd.prog 7 #[.slice A l.length c, .int .i64 100] w fun e w' => e = .returned (.bool true) ∧ Below w.heap.size w w') := ⟨hfw⟩
  clear hgl hC hX hC2 hB2 hfw
  go_enter Tryd.func6, Tryd.ntmps6
  go_wp2_with (first
    | (go_at_call 7; (with_reducible refine (HFW.out).mono ?_); rintro e w1 ⟨rfl, hb⟩; have HB1 := Aside0.mk hb; clear hb)
    | (go_at_call 8; (with_reducible refine (lsame_c _ (HG.out.below HB1.out)).mono ?_); rintro e w3 ⟨rfl, hb⟩; have HB3 := Aside0.mk (below_then HB1.out HB1.out.size hb); clear hb))
  go_ret
  exact ⟨rfl, HB3.out⟩
set_option maxHeartbeats 2000000 in
theorem cut_enc (A : Option Addr) (n c : Nat) (l : List S42) (a1 : Int) (A2 : Option Addr) (n2 c2 : Nat) (more : List Int) (w : World) (hgl : GL w) (h0 : n = l.length ∧ n ≤ c ∧ Kd.C k42 w A l.length l ∧ l.length ≤ 140737488351232 ∧ ∀ i : Nat, i < l.length → okX (rd_T42 l i)) (h2 : n2 = more.length ∧ n2 ≤ c2 ∧ Kd.C (Kd.int .u8) w A2 more.length more ∧ more.length ≤ 140737488351232 ∧ Bytes more)(hfw : Calls Tryd.prog 7 #[.slice A l.length c, .int .i64 100] w fun e w' => e = .returned (.bool true) ∧ Below w.heap.size w w') (hsm : ¬ 1000 < more.length) (he : (firstS l).2 ≠ 0) :
    Calls Tryd.prog 6 #[.slice A n c, .int .i64 a1, .slice A2 n2 c2] w fun e w' => e = .returned (.bool true) ∧ Below w.heap.size w w' := by
  obtain ⟨rfl, hc, hC, hlen, hX⟩ := h0
  obtain ⟨rfl, hc2, hC2, hlen2, hB2⟩ := h2
  have HG := Aside0.mk hgl
  have HFW : Aside0 (Calls Tryd.prog 7 #[.slice A l.length c, .int .i64 100] w fun e w' => e = .returned (.bool true) ∧ Below w.heap.size w w') := ⟨hfw⟩
  have HENC : Aside0 (∀ W, Below w.heap.size w W → Calls Tryd.prog 9 #[.slice A l.length c] W fun e w' => e = .returned (.tuple #[.slice none 0 0, .int .i64 (firstS l).1, .int .i64 (firstS l).2]) ∧ Below W.heap.size W w') := ⟨fun W hW => Encode_err A c l W (hgl.below hW) (Kd.C_below hC hW) hc hX he⟩
  obtain ⟨E, hE⟩ : ∃ E, E = firstS l := ⟨_, rfl⟩
  rw [← hE] at HENC he
  have h1 : (E.2 == 0) = false := by simpa using he
  have h2 : (E.2 != 0) = true := by simpa using he
  clear hgl hC hX hC2 hB2 hfw hE
  go_enter Tryd.func6, Tryd.ntmps6
  go_wp2_with (first
    | (go_at_call 7; (with_reducible refine (HFW.out).mono ?_); rintro e w1 ⟨rfl, hb⟩; have HB1 := Aside0.mk hb; clear hb)
    | (go_at_call 9; (with_reducible refine (HENC.out _ HB1.out).mono ?_); rintro e w2 ⟨rfl, hb⟩; have HB2 := Aside0.mk (below_then HB1.out HB1.out.size hb); clear hb)
    | (go_at_call 8; (with_reducible refine (lsame_c _ (HG.out.below HB2.out)).mono ?_); rintro e w3 ⟨rfl, hb⟩; have HB3 := Aside0.mk (below_then HB2.out HB2.out.size hb); clear hb))
  go_ret
  exact ⟨rfl, HB3.out⟩
set_option maxHeartbeats 2000000 in
theorem cut_neg (A : Option Addr) (n c : Nat) (l : List S42) (a1 : Int) (A2 : Option Addr) (n2 c2 : Nat) (more : List Int) (w : World) (hgl : GL w) (h0 : n = l.length ∧ n ≤ c ∧ Kd.C k42 w A l.length l ∧ l.length ≤ 140737488351232 ∧ ∀ i : Nat, i < l.length → okX (rd_T42 l i)) (h2 : n2 = more.length ∧ n2 ≤ c2 ∧ Kd.C (Kd.int .u8) w A2 more.length more ∧ more.length ≤ 140737488351232 ∧ Bytes more)(hfw : Calls Tryd.prog 7 #[.slice A l.length c, .int .i64 100] w fun e w' => e = .returned (.bool true) ∧ Below w.heap.size w w') (hsm : ¬ 1000 < more.length) (he : (firstS l).2 = 0) (hneg : a1 < 0) :
    Calls Tryd.prog 6 #[.slice A n c, .int .i64 a1, .slice A2 n2 c2] w fun e w' => e = .returned (.bool true) ∧ Below w.heap.size w w' := by
  obtain ⟨rfl, hc, hC, hlen, hX⟩ := h0
  obtain ⟨rfl, hc2, hC2, hlen2, hB2⟩ := h2
  have HG := Aside0.mk hgl
  have HFW : Aside0 (Calls Tryd.prog 7 #[.slice A l.length c, .int .i64 100] w fun e w' => e = .returned (.bool true) ∧ Below w.heap.size w w') := ⟨hfw⟩
  obtain ⟨q1, q2⟩ := all_of_first l he
  have HENC : Aside0 (∀ W, Below w.heap.size w W → Calls Tryd.prog 9 #[.slice A l.length c] W fun e w' => (∃ A1 c1, e = .returned (.tuple #[.slice A1 (encB l).length c1, .int .i64 0, .int .i64 0]) ∧ (encB l).length ≤ c1 ∧ Kd.C (Kd.int .u8) w' A1 (encB l).length (encB l)) ∧ Below W.heap.size W w') := ⟨fun W hW => enc_c A c l W (hgl.below hW) (Kd.C_below hC hW) hc q1 q2⟩
  have HBL0 := Aside0.mk (encB_len l q1 q2)
  obtain ⟨bs, hbs⟩ : ∃ bs, bs = encB l := ⟨_, rfl⟩
  rw [← hbs] at HENC
  have HBL : Aside0 (bs = bs) := ⟨rfl⟩
  clear hgl hC hX hC2 hB2 hfw hbs q1 q2 he
  go_enter Tryd.func6, Tryd.ntmps6
  go_wp2_with (first
    | (go_at_call 7; (with_reducible refine (HFW.out).mono ?_); rintro e w1 ⟨rfl, hb⟩; have HB1 := Aside0.mk hb; clear hb)
    | (go_at_call 9; (with_reducible refine (HENC.out _ HB1.out).mono ?_); rintro e w2 ⟨⟨A1, c1, rfl, hc1, hC1⟩, hb⟩; have HB2 := Aside0.mk (below_then HB1.out HB1.out.size hb); have HC1 := Aside0.mk hC1; have HL1 := Aside0.mk hc1; clear hb hC1)
    | (go_at_call 8; (with_reducible refine (lsame_c _ (HG.out.below HB2.out)).mono ?_); rintro e w3 ⟨rfl, hb⟩; have HB3 := Aside0.mk (below_then HB2.out HB2.out.size hb); clear hb))
  go_ret
  exact ⟨rfl, HB3.out⟩
set_option maxHeartbeats 2000000 in
theorem cut_far (A : Option Addr) (n c : Nat) (l : List S42) (a1 : Int) (A2 : Option Addr) (n2 c2 : Nat) (more : List Int) (w : World) (hgl : GL w) (h0 : n = l.length ∧ n ≤ c ∧ Kd.C k42 w A l.length l ∧ l.length ≤ 140737488351232 ∧ ∀ i : Nat, i < l.length → okX (rd_T42 l i)) (h2 : n2 = more.length ∧ n2 ≤ c2 ∧ Kd.C (Kd.int .u8) w A2 more.length more ∧ more.length ≤ 140737488351232 ∧ Bytes more)(hfw : Calls Tryd.prog 7 #[.slice A l.length c, .int .i64 100] w fun e w' => e = .returned (.bool true) ∧ Below w.heap.size w w') (hsm : ¬ 1000 < more.length) (he : (firstS l).2 = 0) (hneg : ¬ a1 < 0) (hfar : ((encB l).length : Int) ≤ a1) :
    Calls Tryd.prog 6 #[.slice A n c, .int .i64 a1, .slice A2 n2 c2] w fun e w' => e = .returned (.bool true) ∧ Below w.heap.size w w' := by
  obtain ⟨rfl, hc, hC, hlen, hX⟩ := h0
  obtain ⟨rfl, hc2, hC2, hlen2, hB2⟩ := h2
  have HG := Aside0.mk hgl
  have HFW : Aside0 (Calls Tryd.prog 7 #[.slice A l.length c, .int .i64 100] w fun e w' => e = .returned (.bool true) ∧ Below w.heap.size w w') := ⟨hfw⟩
  obtain ⟨q1, q2⟩ := all_of_first l he
  have HENC : Aside0 (∀ W, Below w.heap.size w W → Calls Tryd.prog 9 #[.slice A l.length c] W fun e w' => (∃ A1 c1, e = .returned (.tuple #[.slice A1 (encB l).length c1, .int .i64 0, .int .i64 0]) ∧ (encB l).length ≤ c1 ∧ Kd.C (Kd.int .u8) w' A1 (encB l).length (encB l)) ∧ Below W.heap.size W w') := ⟨fun W hW => enc_c A c l W (hgl.below hW) (Kd.C_below hC hW) hc q1 q2⟩
  have HBL0 := Aside0.mk (encB_len l q1 q2)
  obtain ⟨bs, hbs⟩ : ∃ bs, bs = encB l := ⟨_, rfl⟩
  rw [← hbs] at HENC hfar
  clear hgl hC hX hC2 hB2 hfw hbs q1 q2 he
  go_enter Tryd.func6, Tryd.ntmps6
  go_wp2_with (first
    | (go_at_call 7; (with_reducible refine (HFW.out).mono ?_); rintro e w1 ⟨rfl, hb⟩; have HB1 := Aside0.mk hb; clear hb)
    | (go_at_call 9; (with_reducible refine (HENC.out _ HB1.out).mono ?_); rintro e w2 ⟨⟨A1, c1, rfl, hc1, hC1⟩, hb⟩; have HB2 := Aside0.mk (below_then HB1.out HB1.out.size hb); have HC1 := Aside0.mk hC1; have HL1 := Aside0.mk hc1; clear hb hC1)
    | (go_at_call 8; (with_reducible refine (lsame_c _ (HG.out.below HB2.out)).mono ?_); rintro e w3 ⟨rfl, hb⟩; have HB3 := Aside0.mk (below_then HB2.out HB2.out.size hb); clear hb))
  go_ret
  exact ⟨rfl, HB3.out⟩
set_option maxHeartbeats 4000000 in
theorem cut_nil (A : Option Addr) (n c : Nat) (l : List S42) (a1 : Int) (A2 : Option Addr) (n2 c2 : Nat) (more : List Int) (w : World) (hgl : GL w) (h0 : n = l.length ∧ n ≤ c ∧ Kd.C k42 w A l.length l ∧ l.length ≤ 140737488351232 ∧ ∀ i : Nat, i < l.length → okX (rd_T42 l i)) (h2 : n2 = more.length ∧ n2 ≤ c2 ∧ Kd.C (Kd.int .u8) w A2 more.length more ∧ more.length ≤ 140737488351232 ∧ Bytes more)(hfw : Calls Tryd.prog 7 #[.slice A l.length c, .int .i64 100] w fun e w' => e = .returned (.bool true) ∧ Below w.heap.size w w') (hsm : ¬ 1000 < more.length) (he : (firstS l).2 = 0) (hneg : ¬ a1 < 0) (hfar : ¬ ((encB l).length : Int) ≤ a1) (hmo : more = []) :
    Calls Tryd.prog 6 #[.slice A n c, .int .i64 a1, .slice A2 n2 c2] w fun e w' => e = .returned (.bool true) ∧ Below w.heap.size w w' := by
  obtain ⟨rfl, hc, hC, hlen, hX⟩ := h0
  obtain ⟨rfl, hc2, hC2, hlen2, hB2⟩ := h2
  have HG := Aside0.mk hgl
  have HFW : Aside0 (Calls Tryd.prog 7 #[.slice A l.length c, .int .i64 100] w fun e w' => e = .returned (.bool true) ∧ Below w.heap.size w w') := ⟨hfw⟩
  obtain ⟨q1, q2⟩ := all_of_first l he
  obtain ⟨m, rfl⟩ : ∃ m : Nat, a1 = (m : Int) := ⟨a1.toNat, by omega⟩
  have hm : m < (encB l).length := by omega
  have hD1 := cut_err l q1 q2 m hm
  have hbl := encB_len l q1 q2
  have HENC : Aside0 (∀ W, Below w.heap.size w W → Calls Tryd.prog 9 #[.slice A l.length c] W fun e w' => (∃ A1 c1, e = .returned (.tuple #[.slice A1 (encB l).length c1, .int .i64 0, .int .i64 0]) ∧ (encB l).length ≤ c1 ∧ Kd.C (Kd.int .u8) w' A1 (encB l).length (encB l)) ∧ Below W.heap.size W w') := ⟨fun W hW => enc_c A c l W (hgl.below hW) (Kd.C_below hC hW) hc q1 q2⟩
  have HDM : Aside0 (∀ W A1 c1, Below w.heap.size w W → (encB l).length ≤ c1 → Kd.C (Kd.int .u8) W A1 (encB l).length (encB l) → Calls Tryd.prog 11 #[.slice A1 m c1] W fun e w' => (∃ v, e = .returned (.tuple #[v, .int .i64 (decS ((encB l).take m)).2.1, .int .i64 (decS ((encB l).take m)).2.2])) ∧ Below W.heap.size W w') := ⟨fun W A1 c1 hW hc1 hC1 => by
    have ht : ((encB l).take m).length = m := by rw [List.length_take]; omega
    have hCt : Kd.C (Kd.int .u8) W A1 ((encB l).take m).length ((encB l).take m) := Kd.C_take hC1 (by omega)
    have := dec_c A1 c1 ((encB l).take m) W (hgl.below hW) hCt (by omega) (fun x hx => encB_bytes l x (List.mem_of_mem_take hx)) (by omega)
    rw [ht] at this
    refine this.mono ?_
    rintro e w' ⟨⟨A3, c3, rfl, -, -⟩, hb⟩
    exact ⟨⟨_, rfl⟩, hb⟩⟩
  have HDC : Aside0 (∀ W A1 c1, Below w.heap.size w W → (encB l ++ more).length ≤ c1 → Kd.C (Kd.int .u8) W A1 (encB l ++ more).length (encB l ++ more) → Calls Tryd.prog 11 #[.slice A1 (encB l ++ more).length c1] W fun e w' => (∃ A1 c1, e = .returned (.tuple #[.slice A1 (decS (encB l ++ more)).1.length c1, .int .i64 (decS (encB l ++ more)).2.1, .int .i64 (decS (encB l ++ more)).2.2]) ∧ (decS (encB l ++ more)).1.length ≤ c1 ∧ Kd.C k42 w' A1 (decS (encB l ++ more)).1.length (decS (encB l ++ more)).1) ∧ Below W.heap.size W w') := ⟨fun W A1 c1 hW hc1 hC1 =>
    dec_c A1 c1 (encB l ++ more) W (hgl.below hW) hC1 hc1 (bytes_app (encB_bytes l) hB2) (by rw [List.length_append]; omega)⟩
  have hds : decS (encB l ++ more) = (l, 0, 0) := by rw [hmo, List.append_nil]; exact dec_same l q1 q2
  rw [hds] at HDC
  simp only at HDC
  have HML : Aside0 (more.length = 0) := ⟨by rw [hmo]; rfl⟩
  clear hds hmo
  obtain ⟨bs, hbs⟩ : ∃ bs, bs = encB l := ⟨_, rfl⟩
  rw [← hbs] at HENC HDM HDC hm hbl hD1
  obtain ⟨D1, hd1⟩ : ∃ D1, D1 = decS (bs.take m) := ⟨_, rfl⟩
  rw [← hd1] at HDM hD1
  have h1 : (D1.2.2 == 0) = false := by simpa using hD1
  have h2 : (D1.2.2 != 0) = true := by simpa using hD1
  have HCM := Aside0.mk hC2
  have HCL := Aside0.mk hC
  have HCC := Aside0.mk hc
  clear hgl hC hX hC2 hB2 hfw hbs hd1 q1 q2 he hD1
  go_enter Tryd.func6, Tryd.ntmps6
  go_wp2_with (first
    | (go_at_call 7; (with_reducible refine (HFW.out).mono ?_); rintro e w1 ⟨rfl, hb⟩; have HB1 := Aside0.mk hb; clear hb)
    | (go_at_call 9; (with_reducible refine (HENC.out _ HB1.out).mono ?_); rintro e w2 ⟨⟨A1, c1, rfl, hc1, hC1⟩, hb⟩; have HB2 := Aside0.mk (below_then HB1.out HB1.out.size hb); have HC1 := Aside0.mk hC1; have HL1 := Aside0.mk hc1; clear hb hC1)
    | (go_at_call 11; (with_reducible refine (HDM.out _ A1 c1 HB2.out HL1.out HC1.out).mono ?_); rintro e w3 ⟨⟨v3, rfl⟩, hb⟩; have HB3 := Aside0.mk (below_then HB2.out HB2.out.size hb); have HC1' := Aside0.mk (Kd.C_below HC1.out hb); clear hb)
    | (at_builtin; refine app_stepC _ _ (A := none) (c := 0) (w1 := w3) (bs := []) (ys := bs) rfl rfl rfl rfl ⟨Kd.R_nil _ _ _ _ _, Below.refl _ _⟩ HC1'.out (by rw [List.length_nil]; omega) ?_; rw [List.nil_append]; intro A4 c4 w4 hI hb hc4 hC4; have HI4 := Aside0.mk hI; have HB4 := Aside0.mk (below_then HB3.out HB3.out.size hb); clear hI hb hc4 hC4)
    | (at_builtin; refine app_stepC _ _ (w1 := w3) (bs := bs) (ys := more) rfl rfl rfl rfl HI4.out (Kd.C_below HCM.out HB4.out) (by omega) ?_; intro A5 c5 w5 hI hb hc5 hC5; have HB5 := Aside0.mk (below_then HB3.out HB3.out.size hb); have HC5 := Aside0.mk hC5; have HL5 := Aside0.mk hc5; obtain ⟨cs, hcs⟩ : ∃ cs, cs = bs ++ more := ⟨_, rfl⟩; rw [← hcs] at HC5 HL5 HDC ⊢; clear hI hb hc5 hC5 hcs)
    | (go_at_call 11; (with_reducible refine (HDC.out _ A5 c5 HB5.out HL5.out HC5.out).mono ?_); rintro e w6 ⟨⟨A6, c6, rfl, hc6, hC6⟩, hb⟩; have HB6 := Aside0.mk (below_then HB5.out HB5.out.size hb); have HC6 := Aside0.mk hC6; have HL6 := Aside0.mk hc6; have hml := HML.out; clear hb hC6 hc6)
    | (go_at_call 13; (refine (ops_R (base := 0) (base' := 0) (ok := fun _ => True) (ok' := fun _ => True) _ (HG.out.below HB6.out) HC6.out HL6.out (Kd.C_below HCL.out HB6.out) HCC.out).mono ?_); rintro e w7 ⟨rfl, hb⟩; have HB7 := Aside0.mk (below_then HB6.out HB6.out.size hb); clear hb)
    | (go_at_call 8; (with_reducible refine (lsame_c _ (HG.out.below HB7.out)).mono ?_); rintro e w8 ⟨rfl, hb⟩; have HB8 := Aside0.mk (below_then HB7.out HB7.out.size hb); clear hb))
  go_ret
  exact ⟨rfl, HB8.out⟩
set_option maxHeartbeats 4000000 in
theorem cut_more (A : Option Addr) (n c : Nat) (l : List S42) (a1 : Int) (A2 : Option Addr) (n2 c2 : Nat) (more : List Int) (w : World) (hgl : GL w) (h0 : n = l.length ∧ n ≤ c ∧ Kd.C k42 w A l.length l ∧ l.length ≤ 140737488351232 ∧ ∀ i : Nat, i < l.length → okX (rd_T42 l i)) (h2 : n2 = more.length ∧ n2 ≤ c2 ∧ Kd.C (Kd.int .u8) w A2 more.length more ∧ more.length ≤ 140737488351232 ∧ Bytes more)(hfw : Calls Tryd.prog 7 #[.slice A l.length c, .int .i64 100] w fun e w' => e = .returned (.bool true) ∧ Below w.heap.size w w') (hsm : ¬ 1000 < more.length) (he : (firstS l).2 = 0) (hneg : ¬ a1 < 0) (hfar : ¬ ((encB l).length : Int) ≤ a1) (hmo : more ≠ []) :
    Calls Tryd.prog 6 #[.slice A n c, .int .i64 a1, .slice A2 n2 c2] w fun e w' => e = .returned (.bool true) ∧ Below w.heap.size w w' := by
  obtain ⟨rfl, hc, hC, hlen, hX⟩ := h0
  obtain ⟨rfl, hc2, hC2, hlen2, hB2⟩ := h2
  have HG := Aside0.mk hgl
  have HFW : Aside0 (Calls Tryd.prog 7 #[.slice A l.length c, .int .i64 100] w fun e w' => e = .returned (.bool true) ∧ Below w.heap.size w w') := ⟨hfw⟩
  obtain ⟨q1, q2⟩ := all_of_first l he
  obtain ⟨m, rfl⟩ : ∃ m : Nat, a1 = (m : Int) := ⟨a1.toNat, by omega⟩
  have hm : m < (encB l).length := by omega
  have hD1 := cut_err l q1 q2 m hm
  have hbl := encB_len l q1 q2
  have HENC : Aside0 (∀ W, Below w.heap.size w W → Calls Tryd.prog 9 #[.slice A l.length c] W fun e w' => (∃ A1 c1, e = .returned (.tuple #[.slice A1 (encB l).length c1, .int .i64 0, .int .i64 0]) ∧ (encB l).length ≤ c1 ∧ Kd.C (Kd.int .u8) w' A1 (encB l).length (encB l)) ∧ Below W.heap.size W w') := ⟨fun W hW => enc_c A c l W (hgl.below hW) (Kd.C_below hC hW) hc q1 q2⟩
  have HDM : Aside0 (∀ W A1 c1, Below w.heap.size w W → (encB l).length ≤ c1 → Kd.C (Kd.int .u8) W A1 (encB l).length (encB l) → Calls Tryd.prog 11 #[.slice A1 m c1] W fun e w' => (∃ v, e = .returned (.tuple #[v, .int .i64 (decS ((encB l).take m)).2.1, .int .i64 (decS ((encB l).take m)).2.2])) ∧ Below W.heap.size W w') := ⟨fun W A1 c1 hW hc1 hC1 => by
    have ht : ((encB l).take m).length = m := by rw [List.length_take]; omega
    have hCt : Kd.C (Kd.int .u8) W A1 ((encB l).take m).length ((encB l).take m) := Kd.C_take hC1 (by omega)
    have := dec_c A1 c1 ((encB l).take m) W (hgl.below hW) hCt (by omega) (fun x hx => encB_bytes l x (List.mem_of_mem_take hx)) (by omega)
    rw [ht] at this
    refine this.mono ?_
    rintro e w' ⟨⟨A3, c3, rfl, -, -⟩, hb⟩
    exact ⟨⟨_, rfl⟩, hb⟩⟩
  have HDC : Aside0 (∀ W A1 c1, Below w.heap.size w W → (encB l ++ more).length ≤ c1 → Kd.C (Kd.int .u8) W A1 (encB l ++ more).length (encB l ++ more) → Calls Tryd.prog 11 #[.slice A1 (encB l ++ more).length c1] W fun e w' => (∃ A1 c1, e = .returned (.tuple #[.slice A1 (decS (encB l ++ more)).1.length c1, .int .i64 (decS (encB l ++ more)).2.1, .int .i64 (decS (encB l ++ more)).2.2]) ∧ (decS (encB l ++ more)).1.length ≤ c1 ∧ Kd.C k42 w' A1 (decS (encB l ++ more)).1.length (decS (encB l ++ more)).1) ∧ Below W.heap.size W w') := ⟨fun W A1 c1 hW hc1 hC1 =>
    dec_c A1 c1 (encB l ++ more) W (hgl.below hW) hC1 hc1 (bytes_app (encB_bytes l) hB2) (by rw [List.length_append]; omega)⟩
  have hds := dec_more l q1 q2 more hmo
  rw [hds] at HDC
  simp only at HDC
  have hml : ¬ more.length = 0 := fun e => hmo (List.eq_nil_of_length_eq_zero e)
  clear hds hmo
  obtain ⟨bs, hbs⟩ : ∃ bs, bs = encB l := ⟨_, rfl⟩
  rw [← hbs] at HENC HDM HDC hm hbl hD1
  obtain ⟨D1, hd1⟩ : ∃ D1, D1 = decS (bs.take m) := ⟨_, rfl⟩
  rw [← hd1] at HDM hD1
  have h1 : (D1.2.2 == 0) = false := by simpa using hD1
  have h2 : (D1.2.2 != 0) = true := by simpa using hD1
  have HCM := Aside0.mk hC2
  have HCL := Aside0.mk hC
  have HCC := Aside0.mk hc
  clear hgl hC hX hC2 hB2 hfw hbs hd1 q1 q2 he hD1
  go_enter Tryd.func6, Tryd.ntmps6
  go_wp2_with (first
    | (go_at_call 7; (with_reducible refine (HFW.out).mono ?_); rintro e w1 ⟨rfl, hb⟩; have HB1 := Aside0.mk hb; clear hb)
    | (go_at_call 9; (with_reducible refine (HENC.out _ HB1.out).mono ?_); rintro e w2 ⟨⟨A1, c1, rfl, hc1, hC1⟩, hb⟩; have HB2 := Aside0.mk (below_then HB1.out HB1.out.size hb); have HC1 := Aside0.mk hC1; have HL1 := Aside0.mk hc1; clear hb hC1)
    | (go_at_call 11; (with_reducible refine (HDM.out _ A1 c1 HB2.out HL1.out HC1.out).mono ?_); rintro e w3 ⟨⟨v3, rfl⟩, hb⟩; have HB3 := Aside0.mk (below_then HB2.out HB2.out.size hb); have HC1' := Aside0.mk (Kd.C_below HC1.out hb); clear hb)
    | (at_builtin; refine app_stepC _ _ (A := none) (c := 0) (w1 := w3) (bs := []) (ys := bs) rfl rfl rfl rfl ⟨Kd.R_nil _ _ _ _ _, Below.refl _ _⟩ HC1'.out (by rw [List.length_nil]; omega) ?_; rw [List.nil_append]; intro A4 c4 w4 hI hb hc4 hC4; have HI4 := Aside0.mk hI; have HB4 := Aside0.mk (below_then HB3.out HB3.out.size hb); clear hI hb hc4 hC4)
    | (at_builtin; refine app_stepC _ _ (w1 := w3) (bs := bs) (ys := more) rfl rfl rfl rfl HI4.out (Kd.C_below HCM.out HB4.out) (by omega) ?_; intro A5 c5 w5 hI hb hc5 hC5; have HB5 := Aside0.mk (below_then HB3.out HB3.out.size hb); have HC5 := Aside0.mk hC5; have HL5 := Aside0.mk hc5; obtain ⟨cs, hcs⟩ : ∃ cs, cs = bs ++ more := ⟨_, rfl⟩; rw [← hcs] at HC5 HL5 HDC ⊢; clear hI hb hc5 hC5 hcs)
    | (go_at_call 11; (with_reducible refine (HDC.out _ A5 c5 HB5.out HL5.out HC5.out).mono ?_); rintro e w6 ⟨⟨A6, c6, rfl, hc6, hC6⟩, hb⟩; have HB6 := Aside0.mk (below_then HB5.out HB5.out.size hb); have HC6 := Aside0.mk hC6; have HL6 := Aside0.mk hc6; clear hb hC6 hc6)
    | (go_at_call 8; (with_reducible refine (lsame_c _ (HG.out.below HB6.out)).mono ?_); rintro e w8 ⟨rfl, hb⟩; have HB8 := Aside0.mk (below_then HB6.out HB6.out.size hb); clear hb))
  go_ret
  exact ⟨rfl, HB8.out⟩
theorem codecCut_v (A : Option Addr) (n c : Nat) (l : List S42) (a1 : Int) (A2 : Option Addr) (n2 c2 : Nat) (more : List Int) (w : World) (hgl : GL w) (h0 : n = l.length ∧ n ≤ c ∧ Kd.C k42 w A l.length l ∧ l.length ≤ 140737488351232 ∧ ∀ i : Nat, i < l.length → okX (rd_T42 l i)) (h2 : n2 = more.length ∧ n2 ≤ c2 ∧ Kd.C (Kd.int .u8) w A2 more.length more ∧ more.length ≤ 140737488351232 ∧ Bytes more) :
    Calls Tryd.prog 6 #[.slice A n c, .int .i64 a1, .slice A2 n2 c2] w fun e w' => e = .returned (.bool true) ∧ Below w.heap.size w w' := by
  have h0' := h0
  have h2' := h2
  obtain ⟨rfl, hc, hC, hlen, hX⟩ := h0'
  have hn : l.length ≤ 9223372036854775807 := by omega
  have hf : ∀ i : Nat, i < l.length → (rd_T42 l i).f8.length ≤ 9223372036854775807 := fun i hi => by have := (hX i hi).2.2.2.2.2.2.2.2.1; omega
  obtain ⟨b, k, hk⟩ := few_l0 l hn hf l.length 0 (by omega) 100
  have hfw : Calls Tryd.prog 7 #[.slice A l.length c, .int .i64 100] w fun e w' => e = .returned (.bool b) ∧ Below w.heap.size w w' := tendrilplain_FewOps.calls k A c l 100 b w hgl hC hc (hk k (Nat.le_refl _))
  cases b with
  | false => exact cut_few A _ c l a1 A2 n2 c2 more w hgl h0 h2 hfw
  | true =>
    by_cases hbig : 1000 < more.length
    · exact cut_big A _ c l a1 A2 n2 c2 more w hgl h0 h2 hfw hbig
    by_cases he : (firstS l).2 = 0
    · by_cases hneg : a1 < 0
      · exact cut_neg A _ c l a1 A2 n2 c2 more w hgl h0 h2 hfw hbig he hneg
      by_cases hfar : ((encB l).length : Int) ≤ a1
      · exact cut_far A _ c l a1 A2 n2 c2 more w hgl h0 h2 hfw hbig he hneg hfar
      by_cases hmo : more = []
      · exact cut_nil A _ c l a1 A2 n2 c2 more w hgl h0 h2 hfw hbig he hneg hfar hmo
      · exact cut_more A _ c l a1 A2 n2 c2 more w hgl h0 h2 hfw hbig he hneg hfar hmo
    · exact cut_enc A _ c l a1 A2 n2 c2 more w hgl h0 h2 hfw hbig he
end Go.Proofs.YtfpijjjmgggfkaaDoorE

namespace Go.Proofs.YtfpijjjmgggfkaaDoorE
open Go Go.RowKit Go.Proofs.YtfpijjjmgggfkaaDoorW.PrintWords Go.Proofs.YtfpijjjmgggfkaaDoorW.PrintMore Go.Proofs.YtfpijjjmgggfkaaDoorW.PrintLast Go.Proofs.YtfpijjjmgggfkaaDoorX Go.Proofs.YtfpijjjmgggfkaaDoor.P26 Go.Proofs.YtfpijjjmgggfkaaDoor.L01
set_option linter.unusedVariables false
set_option linter.unusedSimpArgs false
set_option maxRecDepth 100000
theorem codecCut_w (A : Option Addr) (n c : Nat) (l : List S42) (a1 : Int) (A2 : Option Addr) (n2 c2 : Nat) (more : List Int) (w : World) (hgl : GL w) (h0 : n = l.length ∧ n ≤ c ∧ Kd.C k42 w A l.length l ∧ l.length ≤ 140737488351232 ∧ ∀ i : Nat, i < l.length → okX (rd_T42 l i)) (h1 : (Lit.int .i64 a1).wf = true) (h2 : n2 = more.length ∧ n2 ≤ c2 ∧ Kd.C (Kd.int .u8) w A2 more.length more ∧ more.length ≤ 140737488351232 ∧ Bytes more) :
    Calls Tryd.prog 6 #[.slice A n c, .int .i64 a1, .slice A2 n2 c2] w fun e w' => e = .returned (.bool true) ∧ Below w.heap.size w w' := codecCut_v A n c l a1 A2 n2 c2 more w hgl h0 h2
end Go.Proofs.YtfpijjjmgggfkaaDoorE

namespace Go.Proofs.YtfpijjjmgggfkaaDoor.codecCut
open Go.ChangeShapes Go.WideShapes Go.ChangeAt Go.RowKit
open Go.ChangeMaps (open_string shut_string)
set_option linter.unusedVariables false
theorem own : ownKnob Tryd.prog.godebug = none := by kernel_rfl
theorem door_met (os : Os) (args : Array Value) : laidMetH Tryd.prog Rows.codecCutRow.laid ((World.doorLaid Tryd.prog 62 os).forCall (fun _ _ => 0) ⟨#[], args, []⟩).memory :=
  laidMetH_of_parts3 (fuel := 8) (laidMet_of_run' 8 (by kernel_rfl) (by kernel_rfl)) (by kernel_rfl) (by kernel_rfl)
theorem gl {W : World} (h : laidMetH Tryd.prog Rows.codecCutRow.laid W) : Go.Proofs.YtfpijjjmgggfkaaDoorX.GL W := by
  rw [MakeChecks.laidMetH_plain _ _ _ (by kernel_rfl)] at h
  exact Go.Proofs.YtfpijjjmgggfkaaDoorX.gl_of h
theorem laidOut : laidOutB Tryd.prog = true := by kernel_rfl
set_option maxRecDepth 100000 in
theorem lifted (os : Os) (started : os.Started) (H : Type) (enc : TypeId × Value → H) :
    ReturnsInHanded {} Tryd.checked os 6 .any (fun w args => (Rows.codecCutSpec.pre enc Tryd.prog Tryd.f6 [] false w args ∧ laidMetH Tryd.prog Rows.codecCutRow.laid w) ∧ sizedMet enc Tryd.prog Tryd.f6 (OpenSpec.ofChange Rows.codecCutSpec) false w args) (Rows.codecCutSpec.post enc Tryd.prog Tryd.f6 false true false false) := by
  refine returnsInHanded_of_change_and (C := Tryd.checked) (X := fun w _ => laidMetH Tryd.prog Rows.codecCutRow.laid w) (fun _ _ _ hh h => h.of_heap hh) own started (by kernel_rfl) Tryd.func6
    (ChangeSpec.witness_shaped (enc := enc) (C := Tryd.checked) (os := os) (X := fun w _ => laidMetH Tryd.prog Rows.codecCutRow.laid w) false (World.doorLaid Tryd.prog 62 os) #[.slice none 0 0, .int .i64 0, .slice none 0 0] 8 rfl (World.shaped_of_RefB (by kernel_rfl) (by kernel_rfl)) (by kernel_rfl) (by kernel_rfl) (by kernel_rfl) (door_met os _)) ?_
  intro W base args ds gs before hval0 hW _ hsz0 hL _
  have hgl := gl hL
  have hsz : (DataW.weightsEach Tryd.prog (Tryd.f6.params.toList ++ Rows.codecCutSpec.plain.varTypes Tryd.prog) (ds ++ gs)).all (· ≤ reachBytes) = true := hsz0
  have hval : ∀ (j : Nat) t v, Tryd.f6.params[j]? = some t → args[j]? = some v → Value.okWide Tryd.prog W .any base t v := hval0
  have hW' := hW
  obtain ⟨p, q, hA0, hV, rfl, hfz, hnd⟩ := hW
  have hA : DataW.TrodAll enc Tryd.prog W 0 (fun _ => true) true Tryd.f6.params.toList args.toList ds p := hA0
  rw [Tryd.params6] at hA hval hsz
  obtain ⟨v0, vs0, d0, ds0, p0, q0, hargs, rfl, rfl, h0, r0⟩ := trodAll_cons hA
  obtain ⟨v1, vs1, d1, ds1, p1, q1, rfl, rfl, rfl, h1, r1⟩ := trodAll_cons r0
  obtain ⟨v2, vs2, d2, ds2, p2, q2, rfl, rfl, rfl, h2, r2⟩ := trodAll_cons r1
  obtain ⟨rfl, rfl, rfl⟩ := trodAll_nil r2
  obtain rfl : args = #[v0, v1, v2] := by cases args; simp_all
  obtain ⟨rfl, rfl⟩ := trodVars_none hV
  have k0 := h0
  have lt0 : ∀ x ∈ p0, x.block < W.heap.size := by obtain ⟨m, hm⟩ := k0; exact DataW.trod_lt m _ _ _ hm
  obtain ⟨a0, len0, cap0, rfl⟩ := okWide_slice Tryd.underlying22 (hval 0 22 v0 rfl rfl)
  obtain ⟨b0, w0⟩ := (by
    obtain ⟨fuel, hf⟩ := h0
    exact Go.Proofs.YtfpijjjmgggfkaaDoorE.openOps hf (fun n hn => of_decide_eq_true (List.all_eq_true.1 hsz n (DataW.weights_mem_each (j := 0) (t := 22) rfl rfl n hn))) : Go.Proofs.YtfpijjjmgggfkaaDoorE.openOpsT W a0 len0 cap0)
  obtain ⟨a1, rfl, rfl, rfl, w1⟩ := open_int Tryd.underlying3 (hval 1 3 v1 rfl rfl) h1
  have k2 := h2
  have lt2 : ∀ x ∈ p2, x.block < W.heap.size := by obtain ⟨m, hm⟩ := k2; exact DataW.trod_lt m _ _ _ hm
  obtain ⟨a2, len2, cap2, rfl⟩ := okWide_slice Tryd.underlying25 (hval 2 25 v2 rfl rfl)
  obtain ⟨b2, w2⟩ := (by
    obtain ⟨fuel, hf⟩ := h2
    exact Go.Proofs.YtfpijjjmgggfkaaDoorE.openB8 hf (fun n hn => of_decide_eq_true (List.all_eq_true.1 hsz n (DataW.weights_mem_each (j := 2) (t := 25) rfl rfl n hn))) : Go.Proofs.YtfpijjjmgggfkaaDoorE.openB8T W a2 len2 cap2)
  clear hA0 hval0 hsz0 hsz hL
  refine (Go.Proofs.YtfpijjjmgggfkaaDoorE.codecCut_w a0 len0 cap0 b0 a1 a2 len2 cap2 b2 W hgl w0 w1 w2).mono fun e W' ⟨he, bel⟩ => ?_
  subst he
  exact ⟨_, rfl, _, _, _, [], _, [], hW', trodAll_mk1 (shut_bool Tryd.underlying4 _), (trodAll_cons_mk (Below.trod laidOut (by kernel_rfl) (of_decide_eq_true (by kernel_rfl)) k0 bel lt0) (trodAll_cons_mk (shut_int Tryd.underlying3 w1) (trodAll_cons_mk (Below.trod laidOut (by kernel_rfl) (of_decide_eq_true (by kernel_rfl)) k2 bel lt2) trodAll_mk0))), rfl, bel.frame _, fun h => by cases h⟩
theorem over : Rows.codecCutRow.holds Tryd.pinned (OpenSpec.ofChange Rows.codecCutSpec) :=
  OpenClaim.holds_of_wide 6 Tryd.f6 rfl rfl rfl rfl rfl rfl rfl ⟨rfl, rfl, rfl, rfl, rfl⟩ rfl rfl rfl rfl rfl (by kernel_rfl) Tryd.func6 (by kernel_rfl)
    (of_decide_eq_true (by kernel_rfl)) (by unfold Func.isWrapper; first | (rw [if_pos (by decide +kernel)]; kernel_rfl) | (rw [if_neg (by decide +kernel)]; exact ⟨rfl, rfl⟩))
    (fun os started H enc _ => lifted os started H enc)
theorem wants : ∀ (j : Nat) (t : TypeId), Tryd.f6.params[j]? = some t → Tryd.prog.wantsStandIn t = false := by
  intro j t ht
  rw [Tryd.params6] at ht
  rcases j with _ | j
  · have h3 : t = 22 := by simpa using ht.symm
    subst h3
    exact (show Tryd.prog.wantsStandIn 22 = false by kernel_rfl)
  rcases j with _ | j
  · have h3 : t = 3 := by simpa using ht.symm
    subst h3
    exact (show Tryd.prog.wantsStandIn 3 = false by kernel_rfl)
  rcases j with _ | j
  · have h3 : t = 25 := by simpa using ht.symm
    subst h3
    exact (show Tryd.prog.wantsStandIn 25 = false by kernel_rfl)
  simp at ht
theorem proved : Rows.CodecCutCardSaid :=
  Claim7.holds_tied_plain_at .later [] [.data, .data, .data] true (true, "e651c56637a872e7731d1c4fd1cb8e9780fa61b54909fcf8245d51d4264785a9") true
    over (fun _ h => by cases h) (by kernel_rfl) (fun _ h => by cases h) codecCut_row_tie rfl ⟨rfl, rfl⟩ (by kernel_rfl) rfl
    (fun f fn hf hfn => by
      obtain rfl : f = 6 := Option.some.inj ((show Tryd.prog.funcNamed "tendril/tendrillaw26.CodecCut" = some 6 by kernel_rfl).symm.trans hf) |>.symm
      obtain rfl : fn = Tryd.f6 := (Option.some.inj (Tryd.func6.symm.trans hfn)).symm
      exact ⟨by kernel_rfl, wants⟩)
    (by kernel_rfl)
end Go.Proofs.YtfpijjjmgggfkaaDoor.codecCut
namespace Go.Proofs.YtfpijjjmgggfkaaDoor
/-- The card, under a short name, for the claim. -/
theorem codecCut_holds : Rows.CodecCutCardSaid := codecCut.proved
end Go.Proofs.YtfpijjjmgggfkaaDoor
