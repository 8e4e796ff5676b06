/- Merged by this claim's own program (merge.py) out of the texts E36, E44b, E45, E45b, E46, E47, E35, E35b, E37, E38; the W texts among them began as the kit's print. -/
import Derived.Test.YtfpijjjmgggfkaaDoorCR5
import Derived.Recover
import Derived.Defers

namespace Go.Proofs.YtfpijjjmgggfkaaDoorE
open Go Go.RowKit Go.Proofs.YtfpijjjmgggfkaaDoorW.PrintWords Go.Proofs.YtfpijjjmgggfkaaDoorW.PrintMore Go.Proofs.YtfpijjjmgggfkaaDoorW.PrintLast Go.Proofs.YtfpijjjmgggfkaaDoorX Go.Proofs.YtfpijjjmgggfkaaDoor.P26 Go.Proofs.YtfpijjjmgggfkaaDoor.L01
set_option linter.unusedVariables false
set_option linter.unusedSimpArgs false
theorem info_attr : (Tryd.prog.info? 44).map (fun i => (i.zero, i.size, i.bytes)) = some (some (.agg #[.string ⟨#[]⟩, .string ⟨#[]⟩]), k44.sz, 32) := by kernel_rfl
theorem cell_far {w : World} {a : Addr} {v u : Value} {b j : Nat} (h : w.cell? a = some v) (hne : ¬ a.block = b) : (w.setCell ⟨b, j, none⟩ u).cell? a = some v := by
  rw [World.cell?_setCell_other _ _ _ _ (fun e => hne (by rw [← e]))]; exact h
theorem InvO.drew {T : Nat} {W : World} {p : Nat} {ok : Nat → Prop} {b1 : Nat} {o1 : Obj} {b2 : Nat} {o2 : Obj} {b3 : Nat} {o3 : Obj} {s : St} {w : World} (h : InvO T W p ok b1 o1 b2 o2 b3 o3 s w) (L : Lie W p ok b1 b2 b3) : InvO T W p ok b1 o1 b2 o2 b3 o3 s w.drew := h.below L (below_drew (Below.refl _ _))
/-- A call in a drawn region that may end in a panic. -/
theorem goesD_ {P : Program} {ops : Array Oper} {Q : Exit → Act → World → Prop} {oi : Oper} {N : Option Tmp} {a : Act} {w : World} {K : Act → World → Prop} {f : FuncId} {fn : Func} {ag : Array Operand} {ts : Array TypeId} (hf : P.funcs[f]? = some fn) (hname : (fn.name == "runtime.NumGoroutine") = false) (hb : fn.body.isSome = true) (args : Array Value)
    (hw : Region.wanted oi (yielded ops a.tmps) = true) (hN : oi.dst = N) (hop : oi.op = .call { callee := .value (.func f), args := ag, argTypes := ts }) (hargs : ag.map a.eval = args)
    (h : Calls P f args w fun e w' => (∃ v, e = .returned v ∧ K (a.put N v) w') ∨ (∃ ps, e = .panicked ps ∧ Q (.panic ps) a w')) : if Region.wanted oi (yielded ops a.tmps) = true then Oper.wp P oi a w K Q else K (a.put N undef) w := by
  have he := enters_ hf hname hb args w
  have hrun : (execOp a.eval oi).run P w = .ok (.enter f args) w := by
    unfold execOp
    simp [hop, resolve, Deferred.ofValue, invoke, Act.eval, hargs, he]
  rw [if_pos hw]
  subst hN
  unfold Oper.wp
  rw [hrun, Oper.upon_enter]
  refine h.mono fun e w'' hh => ?_
  rcases hh with ⟨v, rfl, hk⟩ | ⟨ps, rfl, hk⟩
  · exact hk
  · exact hk
theorem InvO.textB {W : World} {p : Nat} {ok : Nat → Prop} {b1 : Nat} {o1 : Obj} {b2 : Nat} {o2 : Obj} {b3 : Nat} {o3 : Obj} {s : St} {w : World} (h : InvO 107 W p ok b1 o1 b2 o2 b3 o3 s w) (L : Lie W p ok b1 b2 b3) :
    Calls Tryd.prog 60 #[.agg #[.pointer (some ⟨p, 0, none⟩)]] w fun e w' => ((tS s).2.2 = 0 ∧ e = .returned (.string (tS s).1.1) ∧ (tS s).1.1.size ≤ 65536 ∧ (∀ j, j < w.heap.size → j ≠ p → w'.heap[j]? = w.heap[j]?) ∧ InvO 107 W p ok b1 o1 b2 o2 b3 o3 (tS s).2 w') ∨ ((tS s).2.2 ≠ 0 ∧ e = stopE (tS s).2.2 ∧ But (· = p) W w') := by
  have hv := tS_size s h.at_.2.1
  refine (text_d p ok s w h.at_).mono ?_
  rintro e w' ⟨⟨h0, he, ha⟩ | ⟨h0, he⟩, hb⟩
  · exact .inl ⟨h0, he, hv, fun j h1 h2 => hb.block j h1 h2, h.go L ha hb⟩
  · exact .inr ⟨h0, he, h.but.then_ hb⟩
theorem attrsR_bad1 (d : Nat) (s : St) (h : (tS s).2.2 ≠ 0) : (attrsR (d + 1) s).2 = (tS s).2 := by
  show (attrsR d (tS (tS s).2).2).2 = _
  rw [tS_stick _ h]
  exact attrsR_stick d _ h
theorem attrsR_bad2 (d : Nat) (s : St) (h : (tS (tS s).2).2.2 ≠ 0) : (attrsR (d + 1) s).2 = (tS (tS s).2).2 := attrsR_stick d _ h
/-- What holds behind k attributes. -/
def InvL (w : World) (p : Nat) (ok : Nat → Prop) (c n : Nat) (s5 : St) (t1 t2 t3 : ByteArray) (k : Nat) (wr : World) : Prop :=
  ∃ (l : List S44) (sk : St) (v8 : Value), l.length = k ∧ attrsR n s5 = (l ++ (attrsR (n - k) sk).1, (attrsR (n - k) sk).2) ∧ sk.2 = 0 ∧ (∀ x ∈ l, x.f0.size ≤ 65536 ∧ x.f1.size ≤ 65536) ∧
    InvO 107 w p ok w.heap.size (.cells #[.pointer (some ⟨p, 0, none⟩)] 87) (w.heap.size + 1) (.cells #[.int .i64 0, .int .i64 0, .int .i64 0, .int .i64 0, .string ⟨#[]⟩, .string ⟨#[]⟩, .string ⟨#[]⟩, .string ⟨#[]⟩, .slice none 0 0] 42) c (.cells #[.int .i64 1, .int .i64 0, .int .i64 0, .int .i64 0, .string t1, .string t2, .string ⟨#[]⟩, .string t3, v8] 42) sk wr ∧
    k44.R 44 wr w.heap.size (fun b => b ≠ p ∧ b ≠ w.heap.size ∧ b ≠ w.heap.size + 1 ∧ b ≠ c) v8 l
theorem InvO.grown {T : Nat} {W : World} {p : Nat} {ok : Nat → Prop} {b1 : Nat} {o1 : Obj} {b2 : Nat} {o2 : Obj} {b3 : Nat} {o3 : Obj} {s : St} {w w' : World} (h : InvO T W p ok b1 o1 b2 o2 b3 o3 s w) (L : Lie W p ok b1 b2 b3) {row : Option Nat} (g : w.grownBy w' row) (hr : ∀ k, row = some k → W.heap.size ≤ k ∧ k ≠ b1 ∧ k ≠ b2 ∧ k ≠ b3) : InvO T W p ok b1 o1 b2 o2 b3 o3 s w' := by
  have hp := L.p1
  refine ⟨h.but.grown g (fun k hk => .inr (hr k hk).1), h.at_.but ((But.refl (fun k => row = some k) w).grown g (fun k hk => .inl hk)) (fun k hk => ⟨by have := (hr k hk).1; omega, fun e => by have := L.okp _ e; have := (hr k hk).1; omega⟩), ?_, ?_, ?_⟩
  · exact (g.block b1 (blk_lt' h.k1) (fun e => (hr b1 e.symm).2.1 rfl)).trans h.k1
  · exact (g.block b2 (blk_lt' h.k2) (fun e => (hr b2 e.symm).2.2.1 rfl)).trans h.k2
  · exact (g.block b3 (blk_lt' h.k3) (fun e => (hr b3 e.symm).2.2.2 rfl)).trans h.k3
set_option maxHeartbeats 2000000 in
set_option maxRecDepth 100000 in
theorem op_1 (w0 : World) (hgl : GL w0) (p : Nat) (ok : Nat → Prop) (s : St) (w : World) (hok : ∀ k, ok k → k < p) (hw : Below w0.heap.size w0 w) (hw0 : w0.heap.size ≤ p) (h : AtR 107 p ok s.1 s.2 w) (hk : (nS s 7).1 = (1, 0)) :
    Calls Tryd.prog 41 #[.agg #[.pointer (some ⟨p, 0, none⟩)]] w fun e w' => opPost w p ok (opR s) e w' := by
  have hpw := h.lt
  have H := Aside0.mk h
  have he7 : (nS s 7).2.2 = 0 := by rw [← nS_err, hk]
  have HN : Aside0 (∀ W, AtR 107 p ok s.1 s.2 W → Calls Tryd.prog 40 #[.agg #[.pointer (some ⟨p, 0, none⟩)], .int .u64 7] W fun e w' => e = .returned (.int .i64 1) ∧ AtR 107 p ok (nS s 7).2.1 (nS s 7).2.2 w' ∧ But (· = p) W w') := ⟨fun W hW => (num_d 7 (by omega) p ok s W hW).mono (by
    rintro e w' ⟨⟨h0, he, ha⟩ | ⟨h0, he⟩, hb⟩
    · rw [hk] at he
      exact ⟨he, ha, hb⟩
    · exact absurd he7 h0)⟩
  obtain ⟨s1, hs1⟩ : ∃ s1, s1 = (nS s 7).2 := ⟨_, rfl⟩
  rw [← hs1] at HN
  have HG := Aside0.mk hgl
  have HWW := Aside0.mk hw
  have HS1 := Aside0.mk hs1
  clear h hgl he7 hs1 hw
  go_enter Tryd.func41, Tryd.ntmps41
  go_wp2_with (first
    | (go_at_call 40; (refine (HN.out _ (AtR.al (AtR.al H.out _) _)).mono ?_); rintro e w1 ⟨rfl, h2, h3⟩; have HI0 := Aside0.mk (inv_start 107 w p ok (.cells #[.pointer (some ⟨p, 0, none⟩)] 87) (.cells #[.int .i64 0, .int .i64 0, .int .i64 0, .int .i64 0, .string ⟨#[]⟩, .string ⟨#[]⟩, .string ⟨#[]⟩, .string ⟨#[]⟩, .slice none 0 0] 42) (.cells #[.int .i64 1, .int .i64 0, .int .i64 0, .int .i64 0, .string ⟨#[]⟩, .string ⟨#[]⟩, .string ⟨#[]⟩, .string ⟨#[]⟩, .slice none 0 0] 42) s1 w1 hpw h2 h3); have L := Aside0.mk (lie_start w p ok _ _ w1 hpw hok h3); obtain ⟨c, hc⟩ : ∃ c, c = w1.heap.size := ⟨_, rfl⟩; have hne : ¬ w.heap.size = w1.heap.size := L.out.n13; have hne2 : ¬ w.heap.size + 1 = w1.heap.size := L.out.n23; have q0 := cell_blk (j := 0) (v := .pointer (some ⟨p, 0, none⟩)) HI0.out.k1 rfl; clear h2 h3 hc))
  have HI0' := Aside0.mk (HI0.out.drew L.out)
  have hq0 := cell_drew q0
  clear q0
  refine start_ (n := 12) (S := fun w' => w'.cell? ⟨w.heap.size, 0, none⟩ = some (.pointer (some ⟨p, 0, none⟩))) (ds := []) #[false, false, false, false, false, false, false, false, false, false, false, false] (by kernel_rfl) rfl rfl hq0 (fun hHeld => ?_)
  refine take_ (i := 0) (N := some 14) (v := ?_) (a' := ?_) #[true, false, false, false, false, false, false, false, false, false, false, false] rfl rfl (by kernel_rfl) (fun _ _ _ h => h) (Or.inl ⟨by rfl, ?_⟩) hHeld ?_ ?_
  rotate_left
  · intro w' s0
    go_split_ands
    go_simp
    with_reducible rfl
  rotate_left
  · simp only [Act.put, List.setIfInBounds_toArray, List.set_cons_zero, List.set_cons_succ, i64_w, i32_w]
    rfl
  refine take_ (i := 2) (N := some 16) (v := ?_) (a' := ?_) #[true, false, true, false, false, false, false, false, false, false, false, false] rfl rfl (by kernel_rfl) (fun _ _ _ h => h) (Or.inl ⟨by rfl, ?_⟩) hHeld ?_ ?_
  rotate_left
  · intro w' s0
    go_split_ands
    go_simp
    with_reducible rfl
  rotate_left
  · simp only [Act.put, List.setIfInBounds_toArray, List.set_cons_zero, List.set_cons_succ, i64_w, i32_w]
    rfl
  refine take_ (i := 4) (N := some 18) (v := ?_) (a' := ?_) #[true, false, true, false, true, false, false, false, false, false, false, false] rfl rfl (by kernel_rfl) (fun _ _ _ h => h) (Or.inl ⟨by rfl, ?_⟩) hHeld ?_ ?_
  rotate_left
  · intro w' s0
    go_split_ands
    go_simp
    with_reducible rfl
  rotate_left
  · simp only [Act.put, List.setIfInBounds_toArray, List.set_cons_zero, List.set_cons_succ, i64_w, i32_w]
    rfl
  refine one_ (i := 1) (N := some 15) #[true, true, true, false, true, false, false, false, false, false, false, false] rfl rfl (by kernel_rfl) (by decide) (fun K hK => ?_)
  refine goesD_ Tryd.func60 (by kernel_rfl) rfl #[.agg #[.pointer (some ⟨p, 0, none⟩)]] (by rfl) rfl rfl (by (try simp only [List.map_toArray, List.map_cons, List.map_nil]); first | done | rfl) ?_
  refine (InvO.text HI0'.out L.out).mono ?_
  rintro e w' (⟨he1, rfl, hv1, hI⟩ | ⟨he, rfl, hb⟩)
  rotate_left
  · exact .inr ⟨_, rfl, ⟨rfl, opPost_stop hb he (opR_bad s HS1.out 1 _ hk (by decide) (by simp [bodyR, hS_stick (tS s1).2 he, tS_stick (tS s1).2 he, nS_stick (tS s1).2 64 he, attrsR]) he)⟩⟩
  refine .inl ⟨_, rfl, ?_⟩
  have HI1 := Aside0.mk hI
  have HE1 := Aside0.mk he1
  have HV1 := Aside0.mk hv1
  clear hI he1 hv1
  have q1 := cell_blk (j := 0) (v := (.pointer (some ⟨p, 0, none⟩))) HI1.out.k1 rfl
  refine hK.out _ _ q1 (fun hHeld => ?_)
  clear hK K
  refine norm_ (a' := ?_) ?_ ?_
  rotate_left
  · show Act.put _ (some 15) _ = _
    simp only [Act.put, List.setIfInBounds_toArray, List.set_cons_zero, List.set_cons_succ, i64_w, i32_w]
    rfl
  refine pure_ (i := 6) (N := some 20) (v := ?_) (a' := ?_) #[true, true, true, false, true, false, true, false, false, false, false, false] rfl rfl (by kernel_rfl) (fun _ _ _ h => h) (Or.inl ⟨by rfl, ?_⟩) ?_ ?_
  rotate_left
  · intro w'
    go_simp
    with_reducible rfl
  rotate_left
  · simp only [Act.put, List.setIfInBounds_toArray, List.set_cons_zero, List.set_cons_succ, i64_w, i32_w]
    rfl
  refine one_ (i := 3) (N := some 17) #[true, true, true, true, true, false, true, false, false, false, false, false] rfl rfl (by kernel_rfl) (by decide) (fun K hK => ?_)
  refine goesD_ Tryd.func60 (by kernel_rfl) rfl #[.agg #[.pointer (some ⟨p, 0, none⟩)]] (by rfl) rfl rfl (by (try simp only [List.map_toArray, List.map_cons, List.map_nil]); first | done | rfl) ?_
  refine (InvO.text HI1.out L.out).mono ?_
  rintro e w' (⟨he2, rfl, hv2, hI⟩ | ⟨he, rfl, hb⟩)
  rotate_left
  · exact .inr ⟨_, rfl, ⟨rfl, opPost_stop hb he (opR_bad s HS1.out 1 _ hk (by decide) (by simp [bodyR, hS_stick (tS (tS s1).2).2 he, tS_stick (tS (tS s1).2).2 he, nS_stick (tS (tS s1).2).2 64 he, attrsR]) he)⟩⟩
  refine .inl ⟨_, rfl, ?_⟩
  have HI2 := Aside0.mk hI
  have HE2 := Aside0.mk he2
  have HV2 := Aside0.mk hv2
  clear hI he2 hv2
  have q2 := cell_blk (j := 0) (v := (.pointer (some ⟨p, 0, none⟩))) HI2.out.k1 rfl
  refine hK.out _ _ q2 (fun hHeld => ?_)
  clear hK K
  refine norm_ (a' := ?_) ?_ ?_
  rotate_left
  · show Act.put _ (some 17) _ = _
    simp only [Act.put, List.setIfInBounds_toArray, List.set_cons_zero, List.set_cons_succ, i64_w, i32_w]
    rfl
  refine one_ (i := 5) (N := some 19) #[true, true, true, true, true, true, true, false, false, false, false, false] rfl rfl (by kernel_rfl) (by decide) (fun K hK => ?_)
  refine goesD_ Tryd.func60 (by kernel_rfl) rfl #[.agg #[.pointer (some ⟨p, 0, none⟩)]] (by rfl) rfl rfl (by (try simp only [List.map_toArray, List.map_cons, List.map_nil]); first | done | rfl) ?_
  refine (InvO.text HI2.out L.out).mono ?_
  rintro e w' (⟨he3, rfl, hv3, hI⟩ | ⟨he, rfl, hb⟩)
  rotate_left
  · exact .inr ⟨_, rfl, ⟨rfl, opPost_stop hb he (opR_bad s HS1.out 1 _ hk (by decide) (by simp [bodyR, hS_stick (tS (tS (tS s1).2).2).2 he, tS_stick (tS (tS (tS s1).2).2).2 he, nS_stick (tS (tS (tS s1).2).2).2 64 he, attrsR]) he)⟩⟩
  refine .inl ⟨_, rfl, ?_⟩
  have HI3 := Aside0.mk hI
  have HE3 := Aside0.mk he3
  have HV3 := Aside0.mk hv3
  clear hI he3 hv3
  have q3 := cell_blk (j := 0) (v := (.pointer (some ⟨p, 0, none⟩))) HI3.out.k1 rfl
  refine hK.out _ _ q3 (fun hHeld => ?_)
  clear hK K
  refine norm_ (a' := ?_) ?_ ?_
  rotate_left
  · show Act.put _ (some 19) _ = _
    simp only [Act.put, List.setIfInBounds_toArray, List.set_cons_zero, List.set_cons_succ, i64_w, i32_w]
    rfl
  have x4 := cell_blk (j := 4) (v := .string ⟨#[]⟩) HI3.out.k3 rfl
  have z4 := Lib.frozen_of_heap HI3.out.k3 4
  have x5 := cell_blk (j := 5) (v := .string ⟨#[]⟩) HI3.out.k3 rfl
  have z5 := Lib.frozen_of_heap HI3.out.k3 5
  have x7 := cell_blk (j := 7) (v := .string ⟨#[]⟩) HI3.out.k3 rfl
  have z7 := Lib.frozen_of_heap HI3.out.k3 7
  refine one_ (i := 7) (N := none) #[true, true, true, true, true, true, true, true, false, false, false, false] rfl rfl (by kernel_rfl) (by decide) (fun K hK => ?_)
  refine skip_ (w1 := ?_) (by rfl) rfl ?_ ?_
  rotate_left
  · go_simp
    rfl
  refine hK.out _ _ (cell_far q3 hne) (fun hHeld => ?_)
  clear hK K
  refine pure_ (i := 8) (N := some 21) (v := ?_) (a' := ?_) #[true, true, true, true, true, true, true, true, true, false, false, false] rfl rfl (by kernel_rfl) (fun _ _ _ h => h) (Or.inl ⟨by rfl, ?_⟩) ?_ ?_
  rotate_left
  · intro w'
    go_simp
    with_reducible rfl
  rotate_left
  · simp only [Act.put, List.setIfInBounds_toArray, List.set_cons_zero, List.set_cons_succ, i64_w, i32_w]
    rfl
  refine one_ (i := 9) (N := none) #[true, true, true, true, true, true, true, true, true, true, false, false] rfl rfl (by kernel_rfl) (by decide) (fun K hK => ?_)
  refine skip_ (w1 := ?_) (by rfl) rfl ?_ ?_
  rotate_left
  · go_simp
    rfl
  refine hK.out _ _ (cell_far (cell_far q3 hne) hne) (fun hHeld => ?_)
  clear hK K
  refine pure_ (i := 10) (N := some 22) (v := ?_) (a' := ?_) #[true, true, true, true, true, true, true, true, true, true, true, false] rfl rfl (by kernel_rfl) (fun _ _ _ h => h) (Or.inl ⟨by rfl, ?_⟩) ?_ ?_
  rotate_left
  · intro w'
    go_simp
    with_reducible rfl
  rotate_left
  · simp only [Act.put, List.setIfInBounds_toArray, List.set_cons_zero, List.set_cons_succ, i64_w, i32_w]
    rfl
  refine one_ (i := 11) (N := none) #[true, true, true, true, true, true, true, true, true, true, true, true] rfl rfl (by kernel_rfl) (by decide) (fun K hK => ?_)
  refine skip_ (w1 := ?_) (by rfl) rfl ?_ ?_
  rotate_left
  · go_simp
    rfl
  refine hK.out _ _ (cell_far (cell_far (cell_far q3 hne) hne) hne) (fun hHeld => ?_)
  clear hK K
  refine done_ (by kernel_rfl) ?_
  have HI4 := Aside0.mk (InvO.set (InvO.set (InvO.set HI3.out L.out 4 (.string (tS s1).1.1)) L.out 5 (.string (tS (tS s1).2).1.1)) L.out 7 (.string (tS (tS (tS s1).2).2).1.1))
  have q4 := cell_far (j := 7) (u := .string (tS (tS (tS s1).2).2).1.1) (cell_far (j := 5) (u := .string (tS (tS s1).2).1.1) (cell_far (j := 4) (u := .string (tS s1).1.1) q3 hne) hne) hne
  clear q1 q2 q3 x4 x5 x7 z4 z5 z7 hq0 hHeld
  try clear hHeld
  try clear hHeld
  obtain ⟨s4, hs4⟩ : ∃ s4, s4 = (tS (tS (tS s1).2).2).2 := ⟨_, rfl⟩
  rw [← hs4] at HI4
  have HB1 : Aside0 (bodyR 1 s1 = (⟨1, 0, 0, 0, (tS s1).1.1, (tS (tS s1).2).1.1, em, (tS (tS (tS s1).2).2).1.1, (attrsR (nS s4 64).1.1.toNat (nS s4 64).2).1⟩, (attrsR (nS s4 64).1.1.toNat (nS s4 64).2).2)) := ⟨by rw [hs4]; rfl⟩
  clear hs4
  obtain ⟨t1, ht1⟩ : ∃ t1, t1 = (tS s1).1.1 := ⟨_, rfl⟩
  obtain ⟨t2, ht2⟩ : ∃ t2, t2 = (tS (tS s1).2).1.1 := ⟨_, rfl⟩
  obtain ⟨t3, ht3⟩ : ∃ t3, t3 = (tS (tS (tS s1).2).2).1.1 := ⟨_, rfl⟩
  rw [← ht1] at HI4 HB1 HV1 q4 ⊢
  rw [← ht2] at HI4 HB1 HV2 q4 ⊢
  rw [← ht3] at HI4 HB1 HV3 q4 ⊢
  clear ht1 ht2 ht3
  go_wp2_with (go_at_call 40; (refine (InvO.num HI4.out L.out 64 (by omega)).mono ?_); rintro e w5 (⟨he4, rfl, hv4, hI⟩ | ⟨he, rfl, hb⟩); rotate_left; go_loud (focus (unfold stopE; go_wp2_with fail; exact ⟨rfl, opPost_stop hb he (opR_bad s HS1.out 1 _ hk (by decide) (by rw [HB1.out]; exact congrArg Prod.snd (attrsR_stick _ _ he)) he)⟩)); have HI5 := Aside0.mk hI; have HV4 := Aside0.mk hv4; have HE4 := Aside0.mk he4; clear hI hv4 he4)
  obtain ⟨n, hn⟩ : ∃ n : Nat, (nS s4 64).1.1 = (n : Int) := ⟨(nS s4 64).1.1.toNat, by have := HV4.out.1; omega⟩
  obtain ⟨s5, hs5⟩ : ∃ s5, s5 = (nS s4 64).2 := ⟨_, rfl⟩
  have hn64 : n ≤ 64 := by have := HV4.out.2; omega
  rw [hn] at HB1 ⊢
  rw [← hs5] at HB1 HI5 HE4
  simp only [Int.toNat_natCast] at HB1
  clear hn hs5 HV4
  have HL0 : Aside0 (InvL w p ok w1.heap.size n s5 t1 t2 t3 0 w5) := ⟨[], s5, .slice none 0 0, rfl, by simp, HE4.out, by simp, HI5.out, Kd.R_nil k44 44 _ _ _⟩
  clear HI5 q4
  go_loopw [25] (fun i wr => ∃ k : Nat, k ≤ n ∧ i = .int .i64 k ∧ Aside0 (InvL w p ok w1.heap.size n s5 t1 t2 t3 k wr)) (fun i _ => n - (intOf i).toNat)
  case atStart => exact ⟨0, Nat.zero_le _, rfl, HL0⟩
  case round =>
    obtain ⟨k, hkn, rfl, HR⟩ := hrel
    by_cases hlt : k < n
    · obtain ⟨l, sk, v8, hl, hat, hs0, hsz, hI, hR⟩ := HR.out
      obtain ⟨d, hd⟩ : ∃ d, n - k = d + 1 := ⟨n - k - 1, by omega⟩
      rw [hd] at hat
      have HAT := Aside0.mk hat
      have HSZ := Aside0.mk hsz
      have HL := Aside0.mk hl
      have HRR := Aside0.mk (Kd.R_drew hR)
      have HI6 := Aside0.mk (hI.drew L.out)
      have q6 := cell_blk (j := 0) (v := (.pointer (some ⟨p, 0, none⟩))) HI6.out.k1 rfl
      have y6 := cell_blk (j := 8) (v := v8) HI6.out.k3 rfl
      obtain ⟨A8, c8, rfl⟩ := Kd.R_slice hR
      clear hl hat hs0 hsz hI hR
      go_wp2_with fail
      refine start_ (n := 11) (S := fun w' => w'.cell? ⟨w.heap.size, 0, none⟩ = some (.pointer (some ⟨p, 0, none⟩)) ∧ w'.cell? ⟨w1.heap.size, 8, none⟩ = some (.slice A8 l.length c8)) (ds := [10]) #[false, false, false, false, false, false, false, false, false, false, false] (by kernel_rfl) rfl rfl ⟨q6, y6⟩ (fun hHeld => ?_)
      refine pure_ (i := 0) (N := some 27) (v := ?_) (a' := ?_) #[true, false, false, false, false, false, false, false, false, false, false] rfl rfl (by kernel_rfl) (fun _ _ _ h => h) (Or.inl ⟨by rfl, ?_⟩) ?_ ?_
      rotate_left
      · intro w'
        go_simp
        with_reducible rfl
      rotate_left
      · simp only [Act.put, List.setIfInBounds_toArray, List.set_cons_zero, List.set_cons_succ, i64_w, i32_w]
        rfl
      refine take_ (i := 2) (N := some 29) (v := ?_) (a' := ?_) #[true, false, true, false, false, false, false, false, false, false, false] rfl rfl (by kernel_rfl) (fun _ _ _ h => h) (Or.inl ⟨by rfl, ?_⟩) hHeld ?_ ?_
      rotate_left
      · intro w' s0
        go_split_ands
        go_simp
        with_reducible rfl
      rotate_left
      · simp only [Act.put, List.setIfInBounds_toArray, List.set_cons_zero, List.set_cons_succ, i64_w, i32_w]
        rfl
      refine take_ (i := 4) (N := some 31) (v := ?_) (a' := ?_) #[true, false, true, false, true, false, false, false, false, false, false] rfl rfl (by kernel_rfl) (fun _ _ _ h => h) (Or.inl ⟨by rfl, ?_⟩) hHeld ?_ ?_
      rotate_left
      · intro w' s0
        go_split_ands
        go_simp
        with_reducible rfl
      rotate_left
      · simp only [Act.put, List.setIfInBounds_toArray, List.set_cons_zero, List.set_cons_succ, i64_w, i32_w]
        rfl
      refine take_ (i := 1) (N := some 28) (v := ?_) (a' := ?_) #[true, true, true, false, true, false, false, false, false, false, false] rfl rfl (by kernel_rfl) (fun _ _ _ h => h) (Or.inl ⟨by rfl, ?_⟩) hHeld ?_ ?_
      rotate_left
      · intro w' s0
        go_split_ands
        go_simp
        with_reducible rfl
      rotate_left
      · simp only [Act.put, List.setIfInBounds_toArray, List.set_cons_zero, List.set_cons_succ, i64_w, i32_w]
        rfl
      refine one_ (i := 3) (N := some 30) #[true, true, true, true, true, false, false, false, false, false, false] rfl rfl (by kernel_rfl) (by decide) (fun K hK => ?_)
      refine goesD_ Tryd.func60 (by kernel_rfl) rfl #[.agg #[.pointer (some ⟨p, 0, none⟩)]] (by rfl) rfl rfl (by (try simp only [List.map_toArray, List.map_cons, List.map_nil]); first | done | rfl) ?_
      refine (InvO.textB HI6.out L.out).mono ?_
      rintro e w' (⟨he7, rfl, hv7, hblk, hI⟩ | ⟨he, rfl, hb⟩)
      rotate_left
      · exact .inr ⟨_, rfl, ⟨rfl, opPost_stop hb he (opR_bad s HS1.out 1 _ hk (by decide) (by rw [HB1.out, HAT.out]; exact congrArg Prod.snd (attrsR_bad1 d sk he)) he)⟩⟩
      refine .inl ⟨_, rfl, ?_⟩
      have HRR := Aside0.mk (Kd.R_step HRR.out (fun j hj hlt => hblk j hlt hj.1))
      have HI7 := Aside0.mk hI
      have HE7 := Aside0.mk he7
      have HV7 := Aside0.mk hv7
      clear hI he7 hv7 hblk
      have q7 := cell_blk (j := 0) (v := (.pointer (some ⟨p, 0, none⟩))) HI7.out.k1 rfl
      have y7 := cell_blk (j := 8) (v := .slice A8 l.length c8) HI7.out.k3 rfl
      refine hK.out _ _ ⟨q7, y7⟩ (fun hHeld => ?_)
      clear hK K
      refine norm_ (a' := ?_) ?_ ?_
      rotate_left
      · show Act.put _ (some 30) _ = _
        simp only [Act.put, List.setIfInBounds_toArray, List.set_cons_zero, List.set_cons_succ, i64_w, i32_w]
        rfl
      refine one_ (i := 5) (N := some 32) #[true, true, true, true, true, true, false, false, false, false, false] rfl rfl (by kernel_rfl) (by decide) (fun K hK => ?_)
      refine goesD_ Tryd.func60 (by kernel_rfl) rfl #[.agg #[.pointer (some ⟨p, 0, none⟩)]] (by rfl) rfl rfl (by (try simp only [List.map_toArray, List.map_cons, List.map_nil]); first | done | rfl) ?_
      refine (InvO.textB HI7.out L.out).mono ?_
      rintro e w' (⟨he8, rfl, hv8, hblk, hI⟩ | ⟨he, rfl, hb⟩)
      rotate_left
      · exact .inr ⟨_, rfl, ⟨rfl, opPost_stop hb he (opR_bad s HS1.out 1 _ hk (by decide) (by rw [HB1.out, HAT.out]; exact congrArg Prod.snd (attrsR_bad2 d sk he)) he)⟩⟩
      refine .inl ⟨_, rfl, ?_⟩
      have HRR := Aside0.mk (Kd.R_step HRR.out (fun j hj hlt => hblk j hlt hj.1))
      have HI8 := Aside0.mk hI
      have HE8 := Aside0.mk he8
      have HV8 := Aside0.mk hv8
      clear hI he8 hv8 hblk
      have q8 := cell_blk (j := 0) (v := (.pointer (some ⟨p, 0, none⟩))) HI8.out.k1 rfl
      have y8 := cell_blk (j := 8) (v := .slice A8 l.length c8) HI8.out.k3 rfl
      refine hK.out _ _ ⟨q8, y8⟩ (fun hHeld => ?_)
      clear hK K
      refine norm_ (a' := ?_) ?_ ?_
      rotate_left
      · show Act.put _ (some 32) _ = _
        simp only [Act.put, List.setIfInBounds_toArray, List.set_cons_zero, List.set_cons_succ, i64_w, i32_w]
        rfl
      refine pure_ (i := 6) (N := some 33) (v := ?_) (a' := ?_) #[true, true, true, true, true, true, true, false, false, false, false] rfl rfl (by kernel_rfl) (fun _ _ _ h => h) (Or.inl ⟨by rfl, ?_⟩) ?_ ?_
      rotate_left
      · intro w'
        go_simp
        with_reducible rfl
      rotate_left
      · simp only [Act.put, List.setIfInBounds_toArray, List.set_cons_zero, List.set_cons_succ, i64_w, i32_w]
        rfl
      refine one_ (i := 7) (N := some 34) #[true, true, true, true, true, true, true, true, false, false, false] rfl rfl (by kernel_rfl) (by decide) (fun K hK => ?_)
      refine value_ (w1 := World.alloc w' (.cells #[.string (tS sk).1.1, .string (tS (tS sk).2).1.1] 44)) (v := .slice (some ⟨w'.heap.size, 0, none⟩) 1 1) (by rfl) rfl ?_ ?_
      · go_simp
      refine hK.out _ _ ⟨pw_cell_below (below_alloc (Below.refl _ _) _) q8, pw_cell_below (below_alloc (Below.refl _ _) _) y8⟩ (fun hHeld => ?_)
      clear hK K
      refine norm_ (a' := ?_) ?_ ?_
      rotate_left
      · show Act.put _ (some 34) _ = _
        simp only [Act.put, List.setIfInBounds_toArray, List.set_cons_zero, List.set_cons_succ, i64_w, i32_w]
        rfl
      refine one_ (i := 8) (N := some 35) #[true, true, true, true, true, true, true, true, true, false, false] rfl rfl (by kernel_rfl) (by decide) (fun K hK => ?_)
      refine Kd.R_append_step (w0 := w') (W := w') k44 w.heap.size (by rfl) (.tmp 28) (.tmp 34) 40 44 (.agg #[.string ⟨#[]⟩, .string ⟨#[]⟩]) 32 rfl Tryd.underlying40 info_attr rfl (by decide) (by decide) (.slice A8 l.length c8) l ⟨(tS sk).1.1, (tS (tS sk).2).1.1⟩ [.string (tS sk).1.1, .string (tS (tS sk).2).1.1] (fun b => b ≠ p ∧ b ≠ w.heap.size ∧ b ≠ w.heap.size + 1 ∧ b ≠ w1.heap.size) (fun _ => False) rfl rfl (k44_mkM w' w.heap.size _ ⟨(tS sk).1.1, (tS (tS sk).2).1.1⟩) (fun _ h => h.elim) (fun j hj => ?_) HRR.out (Below.refl _ _) HI8.out.but.size ?_ ?_
      · have a1 := blk_lt' HI8.out.k1
        have a2 := blk_lt' HI8.out.k2
        have a3 := blk_lt' HI8.out.k3
        have a4 := L.out.p1
        exact ⟨by omega, by omega, by omega, by omega⟩
      · have := HL.out; omega
      intro v1 wa hR1 hb1 hg1 hat1
      obtain ⟨A9, c9, rfl⟩ := Kd.R_slice hR1
      have hown : ∀ j, (Value.slice A8 l.length c8).ownBlock = some j → w.heap.size ≤ j ∧ j ≠ w.heap.size ∧ j ≠ w.heap.size + 1 ∧ j ≠ w1.heap.size := fun j hj => ⟨Kd.R_base HRR.out j hj, (HRR.out.1 j hj).2⟩
      have HI9 := Aside0.mk (HI8.out.grown L.out hg1 hown)
      have HR9 := Aside0.mk hR1
      clear hR1 hb1 hg1 hat1 hown
      have q9 := cell_blk (j := 0) (v := (.pointer (some ⟨p, 0, none⟩))) HI9.out.k1 rfl
      have y9 := cell_blk (j := 8) (v := .slice A8 l.length c8) HI9.out.k3 rfl
      have z9 := Lib.frozen_of_heap HI9.out.k3 8
      refine hK.out _ _ ⟨q9, y9⟩ (fun hHeld => ?_)
      clear hK K
      refine norm_ (a' := ?_) ?_ ?_
      rotate_left
      · show Act.put _ (some 35) _ = _
        simp only [Act.put, List.setIfInBounds_toArray, List.set_cons_zero, List.set_cons_succ, i64_w, i32_w]
        rfl
      refine pure_ (i := 9) (N := some 36) (v := ?_) (a' := ?_) #[true, true, true, true, true, true, true, true, true, true, false] rfl rfl (by kernel_rfl) (fun _ _ _ h => h) (Or.inl ⟨by rfl, ?_⟩) ?_ ?_
      rotate_left
      · intro w'
        go_simp
        with_reducible rfl
      rotate_left
      · simp only [Act.put, List.setIfInBounds_toArray, List.set_cons_zero, List.set_cons_succ, i64_w, i32_w]
        rfl
      refine last_ (i := 10) (N := none) #[true, true, true, true, true, true, true, true, true, true, true] rfl rfl (by kernel_rfl) (by decide) (fun K hK => ?_)
      refine skip_ (w1 := ?_) (by rfl) rfl ?_ ?_
      rotate_left
      · go_simp
        rfl
      refine hK.out _ _ ?_
      clear hK K
      refine done_ (by kernel_rfl) ?_
      go_wp2_with fail
      go_roundw
      case rel =>
        refine ⟨k + 1, by omega, by go_num, ⟨l ++ [⟨(tS sk).1.1, (tS (tS sk).2).1.1⟩], (tS (tS sk).2).2, _, by rw [List.length_append, HL.out]; rfl, ?_, HE8.out, ?_, InvO.set HI9.out L.out 8 _, by have h9 := Kd.R_far HR9.out (p := ⟨w1.heap.size, 8, none⟩) (fun j hj => hj.2.2.2) (.slice A9 (l.length + 1) c9); rw [List.length_append] at h9; exact h9⟩⟩
        · rw [HAT.out, show n - (k + 1) = d by omega]
          show (l ++ _ :: _, _) = _
          rw [List.append_assoc]
          rfl
        · intro x hx
          rcases List.mem_append.1 hx with hx | hx
          · exact HSZ.out x hx
          · obtain rfl := List.mem_singleton.1 hx
            exact ⟨HV7.out, HV8.out⟩
      case measure => simp [intOf]; omega
    · obtain rfl : k = n := by omega
      obtain ⟨l, sk, v8, hl, hat, hs0, hsz, hI, hR⟩ := HR.out
      obtain ⟨A8, c8, rfl, hc8, hC8⟩ := Kd.R_reads hR
      rw [Nat.sub_self] at hat
      have hat' : attrsR k s5 = (l, sk) := by rw [hat]; simp [attrsR]
      rw [hat'] at HB1
      have HRR := Aside0.mk hR
      have HI6 := Aside0.mk hI
      have HS0 := Aside0.mk hs0
      have HCK : Aside0 (Calls Tryd.prog 28 #[.agg #[.int .i64 1, .int .i64 0, .int .i64 0, .int .i64 0, .string t1, .string t2, .string ⟨#[]⟩, .string t3, .slice A8 l.length c8]] wr fun e w' => e = .returned (.int .i64 (chk ⟨1, 0, 0, 0, t1, t2, em, t3, l⟩)) ∧ Below wr.heap.size wr w') := ⟨by
        have hw := HWW.out
        have hb : Below w0.heap.size w0 wr := ⟨hI.but.os.trans hw.os, hI.but.tape.trans hw.tape, hI.but.output.trans hw.output, Nat.le_trans hw.size hI.but.size, fun k hk => (hI.but.block k (Nat.lt_of_lt_of_le hk hw.size) (by omega)).trans (hw.block k hk)⟩
        refine Check_x ⟨1, 0, 0, 0, t1, t2, em, t3, l⟩ A8 c8 wr (HG.out.below hb) hC8 hc8 ⟨i64_k 1 (by omega), i64_k 0 (by omega), i64_k 0 (by omega), i64_k 0 (by omega), size_up HV1.out, size_up HV2.out, Nat.zero_le _, size_up HV3.out, by simp only [hl]; omega, fun i hi => ?_⟩
        have hm : rd_T44 l (i : Int) ∈ l := by
          simp only at hi
          unfold rd_T44
          rw [Int.toNat_natCast, List.getD_eq_getElem?_getD, List.getElem?_eq_getElem hi]
          exact List.getElem_mem hi
        exact ⟨size_up (hsz _ hm).1, size_up (hsz _ hm).2⟩⟩
      have HC := hI.k3
      have x0 := cell_blk (j := 0) (v := .int .i64 1) HC rfl; have x1 := cell_blk (j := 1) (v := .int .i64 0) HC rfl; have x2 := cell_blk (j := 2) (v := .int .i64 0) HC rfl; have x3 := cell_blk (j := 3) (v := .int .i64 0) HC rfl; have x4 := cell_blk (j := 4) (v := .string t1) HC rfl; have x5 := cell_blk (j := 5) (v := .string t2) HC rfl; have x6 := cell_blk (j := 6) (v := .string ⟨#[]⟩) HC rfl; have x7 := cell_blk (j := 7) (v := .string t3) HC rfl; have x8 := cell_blk (j := 8) (v := .slice A8 l.length c8) HC rfl; 
      clear hl hat hat' hs0 hsz hI hR hC8 HC
      go_wp2_with (first
        | (go_at_call 28; (refine (HCK.out).mono ?_); rintro e w6 ⟨rfl, hb⟩; have HIC := Aside0.mk (HI6.out.below L.out hb); have HRC := Aside0.mk (Kd.R_below HRR.out hb); clear hb x0 x1 x2 x3 x4 x5 x6 x7 x8; have HC := HIC.out.k3; have x0 := cell_blk (j := 0) (v := .int .i64 1) HC rfl; have x1 := cell_blk (j := 1) (v := .int .i64 0) HC rfl; have x2 := cell_blk (j := 2) (v := .int .i64 0) HC rfl; have x3 := cell_blk (j := 3) (v := .int .i64 0) HC rfl; have x4 := cell_blk (j := 4) (v := .string t1) HC rfl; have x5 := cell_blk (j := 5) (v := .string t2) HC rfl; have x6 := cell_blk (j := 6) (v := .string ⟨#[]⟩) HC rfl; have x7 := cell_blk (j := 7) (v := .string t3) HC rfl; have x8 := cell_blk (j := 8) (v := .slice A8 l.length c8) HC rfl;  have hY := InvO.k2 HIC.out; have HY := Aside0.mk hY; have y0 := cell_blk (j := 0) (v := .int .i64 0) hY rfl; have z0 := Lib.frozen_of_heap hY 0; have y1 := cell_blk (j := 1) (v := .int .i64 0) hY rfl; have z1 := Lib.frozen_of_heap hY 1; have y2 := cell_blk (j := 2) (v := .int .i64 0) hY rfl; have z2 := Lib.frozen_of_heap hY 2; have y3 := cell_blk (j := 3) (v := .int .i64 0) hY rfl; have z3 := Lib.frozen_of_heap hY 3; have y4 := cell_blk (j := 4) (v := .string ⟨#[]⟩) hY rfl; have z4 := Lib.frozen_of_heap hY 4; have y5 := cell_blk (j := 5) (v := .string ⟨#[]⟩) hY rfl; have z5 := Lib.frozen_of_heap hY 5; have y6 := cell_blk (j := 6) (v := .string ⟨#[]⟩) hY rfl; have z6 := Lib.frozen_of_heap hY 6; have y7 := cell_blk (j := 7) (v := .string ⟨#[]⟩) hY rfl; have z7 := Lib.frozen_of_heap hY 7; have y8 := cell_blk (j := 8) (v := .slice none 0 0) hY rfl; have z8 := Lib.frozen_of_heap hY 8; clear HC hY)
        | (go_at_call 42; (refine (must_d _ _).mono ?_); rintro e w7 ⟨⟨hc, rfl⟩ | ⟨hc, rfl⟩, rfl⟩; rotate_left; go_loud (focus (unfold stopE; go_wp2_with fail; exact ⟨rfl, opPost_stop HIC.out.but hc (by rw [opR_good s HS1.out 1 hk (by decide) (by rw [HB1.out]; exact HS0.out), HB1.out])⟩))))
      have hpz := L.out.h2
      have hgood := opR_good s HS1.out 1 hk (by decide) (by rw [HB1.out]; exact HS0.out)
      rw [HB1.out] at hgood
      refine bodyPost_ret (results_cell_row rfl _ _ (w.heap.size + 1) 42 _ (0, 0) _ rfl (set_blk (j := 8) (set_blk (j := 7) (set_blk (j := 6) (set_blk (j := 5) (set_blk (j := 4) (set_blk (j := 3) (set_blk (j := 2) (set_blk (j := 1) (set_blk (j := 0) (HY.out) _) _) _) _) _) _) _) _) _) Tryd.underlying42 rfl (by kernel_rfl)) rfl ?_
      rw [hgood]
      exact opPost_ok (AtB.set (AtB.set (AtB.set (AtB.set (AtB.set (AtB.set (AtB.set (AtB.set (AtB.set ⟨HIC.out.but, HIC.out.at_⟩ hpw hpz hok 0 _) hpw hpz hok 1 _) hpw hpz hok 2 _) hpw hpz hok 3 _) hpw hpz hok 4 _) hpw hpz hok 5 _) hpw hpz hok 6 _) hpw hpz hok 7 _) hpw hpz hok 8 _) hc (.slice A8 l.length c8) rfl (Kd.R_mono (Kd.R_far (Kd.R_far (Kd.R_far (Kd.R_far (Kd.R_far (Kd.R_far (Kd.R_far (Kd.R_far (Kd.R_far (HRC.out) (fun j hj => hj.2.2.1) _) (fun j hj => hj.2.2.1) _) (fun j hj => hj.2.2.1) _) (fun j hj => hj.2.2.1) _) (fun j hj => hj.2.2.1) _) (fun j hj => hj.2.2.1) _) (fun j hj => hj.2.2.1) _) (fun j hj => hj.2.2.1) _) (fun j hj => hj.2.2.1) _) (fun _ _ => trivial))
end Go.Proofs.YtfpijjjmgggfkaaDoorE

namespace Go.Proofs.YtfpijjjmgggfkaaDoorE
open Go Go.RowKit Go.Proofs.YtfpijjjmgggfkaaDoorW.PrintWords Go.Proofs.YtfpijjjmgggfkaaDoorW.PrintMore Go.Proofs.YtfpijjjmgggfkaaDoorX Go.Proofs.YtfpijjjmgggfkaaDoor.P26 Go.Proofs.YtfpijjjmgggfkaaDoor.L01
set_option linter.unusedVariables false
set_option linter.unusedSimpArgs false
theorem xlie_start (W : World) (p : Nat) (ok : Nat → Prop) (o2 : Obj) (w1 : World) (hp : p < W.heap.size) (hok : ∀ k, ok k → k < p) (h3 : But (· = p) (W.alloc o2) w1) : Lie W p ok W.heap.size W.heap.size w1.heap.size := by
  have := h3.size
  simp at this
  exact ⟨hp, Nat.le_refl _, by omega, by omega, by omega, by omega, hok⟩
theorem xinv_start (W : World) (p : Nat) (ok : Nat → Prop) (o2 o3 : Obj) (s : St) (w1 : World) (hp : p < W.heap.size) (h2 : AtR 61 p ok s.1 s.2 w1) (h3 : But (· = p) (W.alloc o2) w1) : InvO 61 W p ok W.heap.size o2 W.heap.size o2 w1.heap.size o3 s (w1.alloc o3) := by
  have hs := h3.size
  simp at hs
  have hb : Below w1.heap.size w1 (w1.alloc o3) := below_alloc (Below.refl _ _) o3
  have hk := (hb.block W.heap.size (by omega)).trans ((h3.block _ (by simp) (by omega)).trans (one_new_ W o2))
  exact ⟨((But.refl _ W).alloc o2).then_ (h3.below hb), h2.but ((But.refl (fun _ => False) w1).below hb) (fun _ h => h.elim), hk, hk, one_new_ w1 o3⟩
theorem InvO.xdrew {T : Nat} {W : World} {p : Nat} {ok : Nat → Prop} {b1 : Nat} {o1 : Obj} {b2 : Nat} {o2 : Obj} {b3 : Nat} {o3 : Obj} {s : St} {w : World} (h : InvO T W p ok b1 o1 b2 o2 b3 o3 s w) (L : Lie W p ok b1 b2 b3) : InvO T W p ok b1 o1 b2 o2 b3 o3 s w.drew := h.below L (below_drew (Below.refl _ _))
section
variable {W : World} {p : Nat} {ok : Nat → Prop} {b1 : Nat} {o1 : Obj} {b2 : Nat} {o2 : Obj} {b3 : Nat} {o3 : Obj} {s : St} {w : World}
theorem InvO.xhandle (h : InvO 61 W p ok b1 o1 b2 o2 b3 o3 s w) (L : Lie W p ok b1 b2 b3) :
    Calls Tryd.prog 25 #[.pointer (some ⟨p, 0, none⟩), .int .u64 4294967295] w fun e w' => e = .returned (.tuple #[.int .u64 (hS s).1.1, .int .i64 (hS s).1.2]) ∧ InvO 61 W p ok b1 o1 b2 o2 b3 o3 (hS s).2 w' := h.xnum L 4294967295
theorem InvO.xnextS (h : InvO 61 W p ok b1 o1 b2 o2 b3 o3 s w) (L : Lie W p ok b1 b2 b3) :
    Calls Tryd.prog 48 #[.pointer (some ⟨p, 0, none⟩)] w fun e w' => e = .returned (.string (tS s).1.1) ∧ InvO 61 W p ok b1 o1 b2 o2 b3 o3 (tS s).2 w' := (h.xnext L).mono fun e w' ⟨h1, h2, _⟩ => ⟨h1, h2⟩
end
theorem drew_blk {w : World} {k : Nat} {o : Obj} (h : w.heap[k]? = some o) : w.drew.heap[k]? = some o := h
theorem AtB.drew {T : Nat} {W : World} {p : Nat} {ok : Nat → Prop} {s : St} {w : World} (h : AtB T W p ok s w) : AtB T W p ok s w.drew :=
  ⟨h.but.drew, h.at_.but ((But.refl (fun _ => False) w).below (below_drew (Below.refl _ _))) (fun _ h => h.elim)⟩
theorem cell_far9 {w : World} {a : Addr} {v u0 u1 u2 u3 u4 u5 u6 u7 u8 : Value} {b : Nat} (h : w.cell? a = some v) (hne : ¬ a.block = b) : (((((((((w.setCell ⟨b, 0, none⟩ u0).setCell ⟨b, 1, none⟩ u1).setCell ⟨b, 2, none⟩ u2).setCell ⟨b, 3, none⟩ u3).setCell ⟨b, 4, none⟩ u4).setCell ⟨b, 5, none⟩ u5).setCell ⟨b, 6, none⟩ u6).setCell ⟨b, 7, none⟩ u7).setCell ⟨b, 8, none⟩ u8).cell? a = some v :=
  cell_far (cell_far (cell_far (cell_far (cell_far (cell_far (cell_far (cell_far (cell_far h hne) hne) hne) hne) hne) hne) hne) hne) hne
theorem opR_badx (s : St) {s1 : St} (hs1 : s1 = (nS s 7).2) (k : Int) (hk : (nS s 7).1 = (k, 0)) (hk0 : k ≠ 0) (h : (bodyR k s1).2.2 ≠ 0) : opR s = (((bodyR k s1).1, (bodyR k s1).2.2), (bodyR k s1).2) := by
  subst hs1
  unfold opR
  rw [hk]
  simp only
  rw [if_neg (by simp), if_neg hk0, if_pos h]
end Go.Proofs.YtfpijjjmgggfkaaDoorE

namespace Go.Proofs.YtfpijjjmgggfkaaDoorE
open Go Go.RowKit Go.Proofs.YtfpijjjmgggfkaaDoorW.PrintWords Go.Proofs.YtfpijjjmgggfkaaDoorW.PrintMore Go.Proofs.YtfpijjjmgggfkaaDoorW.PrintLast Go.Proofs.YtfpijjjmgggfkaaDoorX Go.Proofs.YtfpijjjmgggfkaaDoor.P26 Go.Proofs.YtfpijjjmgggfkaaDoor.L01
set_option linter.unusedVariables false
set_option linter.unusedSimpArgs false
set_option maxRecDepth 100000
set_option maxHeartbeats 2000000 in
theorem xop_2 (w0 : World) (hgl : GL w0) (p : Nat) (ok : Nat → Prop) (s : St) (w : World) (hok : ∀ k, ok k → k < p) (hw : Below w0.heap.size w0 w) (hw0 : w0.heap.size ≤ p) (h : AtR 61 p ok s.1 s.2 w) (hk : (nS s 7).1 = (2, 0)) :
    Calls Tryd.prog 26 #[.pointer (some ⟨p, 0, none⟩)] w fun e w' => xopPost w p ok (opR s) e w' := by
  have hpw := h.lt
  have H := Aside0.mk h
  have he7 : (nS s 7).2.2 = 0 := by rw [← nS_err, hk]
  have HN : Aside0 (∀ W, AtR 61 p ok s.1 s.2 W → Calls Tryd.prog 25 #[.pointer (some ⟨p, 0, none⟩), .int .u64 7] W fun e w' => e = .returned (.tuple #[.int .u64 2, .int .i64 0]) ∧ AtR 61 p ok (nS s 7).2.1 (nS s 7).2.2 w' ∧ But (· = p) W w') := ⟨fun W hW => (x_num p ok s.1 s.2 7 W hW).mono (by
    rintro e w' ⟨he, ha, hb⟩
    refine ⟨he.trans ?_, ha, hb⟩
    show Ending.returned (.tuple #[.int .u64 (nS s 7).1.1, .int .i64 (nS s 7).1.2]) = _
    rw [hk])⟩
  obtain ⟨s1, hs1⟩ : ∃ s1, s1 = (nS s 7).2 := ⟨_, rfl⟩
  rw [← hs1] at HN
  have hB0 := H.out.2.1
  have hB1 := (nS_bytes s 7 hB0).1
  rw [← hs1] at hB1
  have hn1 : num32 (hS s1).1.1 := nS_val s1 4294967295 hB1 (by omega)
  have hw1 := wrap_i64_32 hn1
  have hB2 := (nS_bytes s1 4294967295 hB1).1
  have hn2 : num32 (hS (hS s1).2).1.1 := nS_val (hS s1).2 4294967295 hB2 (by omega)
  have hw2 := wrap_i64_32 hn2
  have hB3 := (nS_bytes (hS s1).2 4294967295 hB2).1
  have hn3 : num32 (hS (hS (hS s1).2).2).1.1 := nS_val (hS (hS s1).2).2 4294967295 hB3 (by omega)
  have hw3 := wrap_i64_32 hn3
  have hB4 := (nS_bytes (hS (hS s1).2).2 4294967295 hB3).1
  have HCK : Aside0 (∀ {b1 b2 b3 : Nat} {o1 o2 o3 : Obj} W, InvO 61 w p ok b1 o1 b2 o2 b3 o3 (hS (hS (hS s1).2).2).2 W ∧ Lie w p ok b1 b2 b3 → Calls Tryd.prog 20 #[.agg #[.int .i64 2, .int .i64 (hS s1).1.1, .int .i64 (hS (hS s1).2).1.1, .int .i64 (hS (hS (hS s1).2).2).1.1, .string ⟨#[]⟩, .string ⟨#[]⟩, .string ⟨#[]⟩, .string ⟨#[]⟩, .slice none 0 0]] W fun e w' => e = .returned (.int .i64 (chk ⟨2, (hS s1).1.1, (hS (hS s1).2).1.1, (hS (hS (hS s1).2).2).1.1, em, em, em, em, []⟩)) ∧ InvO 61 w p ok b1 o1 b2 o2 b3 o3 (hS (hS (hS s1).2).2).2 w') := ⟨fun W hW => by
    have hb : Below w0.heap.size w0 W := ⟨hW.1.but.os.trans hw.os, hW.1.but.tape.trans hw.tape, hW.1.but.output.trans hw.output, Nat.le_trans hw.size hW.1.but.size, fun k hk => (hW.1.but.block k (Nat.lt_of_lt_of_le hk hw.size) (by omega)).trans (hw.block k hk)⟩
    have := rcheck_x ⟨2, (hS s1).1.1, (hS (hS s1).2).1.1, (hS (hS (hS s1).2).2).1.1, em, em, em, em, []⟩ none 0 W (hgl.below hb) (Kd.C_nil k44 W) (Nat.le_refl 0) ⟨i64_k 2 (by omega), i64_32 hn1, i64_32 hn2, i64_32 hn3, Nat.zero_le _, Nat.zero_le _, Nat.zero_le _, Nat.zero_le _, Nat.zero_le _, fun i hi => absurd hi (Nat.not_lt_zero i)⟩
    exact this.mono fun e w' h => ⟨h.1, hW.1.below hW.2 h.2⟩⟩
  by_cases hz : (hS (hS (hS s1).2).2).2.2 = 0
  · have HZ := Aside0.mk hz
    have hgood := opR_good s hs1 2 hk (by decide) (by simpa [bodyR] using hz)
    simp only [bodyR, Int.reduceEq, if_false, if_true] at hgood
    have HGD := Aside0.mk hgood
    clear h hgl hw he7 hs1 hgood hz hk hB0 hB1 hB2 hB3 hB4 hn1 hn2 hn3
    go_enter Tryd.func26, Tryd.ntmps26
    go_wp2_with (first
    | (go_at_call 25; (with_reducible refine (HN.out _ (AtR.al H.out _)).mono ?_); rintro e w1 ⟨rfl, h2, h3⟩; have HI0 := Aside0.mk (xinv_start w p ok (.cells #[.int .i64 0, .int .i64 0, .int .i64 0, .int .i64 0, .string ⟨#[]⟩, .string ⟨#[]⟩, .string ⟨#[]⟩, .string ⟨#[]⟩, .slice none 0 0] 42) (.cells #[.int .i64 2, .int .i64 0, .int .i64 0, .int .i64 0, .string ⟨#[]⟩, .string ⟨#[]⟩, .string ⟨#[]⟩, .string ⟨#[]⟩, .slice none 0 0] 42) s1 w1 hpw h2 h3); have L := Aside0.mk (xlie_start w p ok _ w1 hpw hok h3); have hne : ¬ w.heap.size = w1.heap.size := L.out.n13; have hnp : ¬ p = w1.heap.size := (by have := L.out.h3; omega); clear h2 h3)
    | (go_at_call 25; (with_reducible refine (InvO.xhandle HI0.out L.out).mono ?_); rintro e w2 ⟨rfl, hI⟩; have HI1 := Aside0.mk hI; clear hI; have ep := AtR.err HI1.out.at_; have fz := Lib.frozen_of_heap HI1.out.k3 1; have HC := InvO.k3 HI1.out; have x0 := cell_blk (j := 0) (v := .int .i64 2) HC rfl; have x1 := cell_blk (j := 1) (v := .int .i64 0) HC rfl; have x2 := cell_blk (j := 2) (v := .int .i64 0) HC rfl; have x3 := cell_blk (j := 3) (v := .int .i64 0) HC rfl; have x4 := cell_blk (j := 4) (v := .string ⟨#[]⟩) HC rfl; have x5 := cell_blk (j := 5) (v := .string ⟨#[]⟩) HC rfl; have x6 := cell_blk (j := 6) (v := .string ⟨#[]⟩) HC rfl; have x7 := cell_blk (j := 7) (v := .string ⟨#[]⟩) HC rfl; have x8 := cell_blk (j := 8) (v := .slice none 0 0) HC rfl; clear HC)
    | (go_at_call 25; (with_reducible refine (InvO.xhandle (InvO.set HI1.out L.out 1 (.int .i64 (hS s1).1.1)) L.out).mono ?_); rintro e w3 ⟨rfl, hI⟩; have HI2 := Aside0.mk hI; clear hI; clear x0 x1 x2 x3 x4 x5 x6 x7 x8 fz ep; have ep := AtR.err HI2.out.at_; have fz := Lib.frozen_of_heap HI2.out.k3 2; have HC := InvO.k3 HI2.out; have x0 := cell_blk (j := 0) (v := .int .i64 2) HC rfl; have x1 := cell_blk (j := 1) (v := .int .i64 (hS s1).1.1) HC rfl; have x2 := cell_blk (j := 2) (v := .int .i64 0) HC rfl; have x3 := cell_blk (j := 3) (v := .int .i64 0) HC rfl; have x4 := cell_blk (j := 4) (v := .string ⟨#[]⟩) HC rfl; have x5 := cell_blk (j := 5) (v := .string ⟨#[]⟩) HC rfl; have x6 := cell_blk (j := 6) (v := .string ⟨#[]⟩) HC rfl; have x7 := cell_blk (j := 7) (v := .string ⟨#[]⟩) HC rfl; have x8 := cell_blk (j := 8) (v := .slice none 0 0) HC rfl; clear HC)
    | (go_at_call 25; (with_reducible refine (InvO.xhandle (InvO.set HI2.out L.out 2 (.int .i64 (hS (hS s1).2).1.1)) L.out).mono ?_); rintro e w4 ⟨rfl, hI⟩; have HI3 := Aside0.mk hI; clear hI; clear x0 x1 x2 x3 x4 x5 x6 x7 x8 fz ep; have ep := AtR.err HI3.out.at_; rw [HZ.out] at ep; have fz := Lib.frozen_of_heap HI3.out.k3 3; have HC := InvO.k3 HI3.out; have x0 := cell_blk (j := 0) (v := .int .i64 2) HC rfl; have x1 := cell_blk (j := 1) (v := .int .i64 (hS s1).1.1) HC rfl; have x2 := cell_blk (j := 2) (v := .int .i64 (hS (hS s1).2).1.1) HC rfl; have x3 := cell_blk (j := 3) (v := .int .i64 0) HC rfl; have x4 := cell_blk (j := 4) (v := .string ⟨#[]⟩) HC rfl; have x5 := cell_blk (j := 5) (v := .string ⟨#[]⟩) HC rfl; have x6 := cell_blk (j := 6) (v := .string ⟨#[]⟩) HC rfl; have x7 := cell_blk (j := 7) (v := .string ⟨#[]⟩) HC rfl; have x8 := cell_blk (j := 8) (v := .slice none 0 0) HC rfl; clear HC))
    have HIZ := Aside0.mk (InvO.set HI3.out L.out 3 (.int .i64 (hS (hS (hS s1).2).2).1.1))
    have HC := HIZ.out.k3
    have xx0 := cell_blk (j := 0) (v := .int .i64 2) HC rfl
    have xx1 := cell_blk (j := 1) (v := .int .i64 (hS s1).1.1) HC rfl
    have xx2 := cell_blk (j := 2) (v := .int .i64 (hS (hS s1).2).1.1) HC rfl
    have xx3 := cell_blk (j := 3) (v := .int .i64 (hS (hS (hS s1).2).2).1.1) HC rfl
    have xx4 := cell_blk (j := 4) (v := .string ⟨#[]⟩) HC rfl
    have xx5 := cell_blk (j := 5) (v := .string ⟨#[]⟩) HC rfl
    have xx6 := cell_blk (j := 6) (v := .string ⟨#[]⟩) HC rfl
    have xx7 := cell_blk (j := 7) (v := .string ⟨#[]⟩) HC rfl
    have xx8 := cell_blk (j := 8) (v := .slice none 0 0) HC rfl
    have HIY := Aside0.mk (HIZ.out.xdrew L.out)
    clear HC x0 x1 x2 x3 x4 x5 x6 x7 x8 ep fz
    refine start_ (n := 5) (S := fun w' => w'.cell? ⟨w1.heap.size, 0, none⟩ = some (.int .i64 2) ∧ w'.cell? ⟨w1.heap.size, 1, none⟩ = some (.int .i64 (hS s1).1.1) ∧ w'.cell? ⟨w1.heap.size, 2, none⟩ = some (.int .i64 (hS (hS s1).2).1.1) ∧ w'.cell? ⟨w1.heap.size, 3, none⟩ = some (.int .i64 (hS (hS (hS s1).2).2).1.1) ∧ w'.cell? ⟨w1.heap.size, 4, none⟩ = some (.string ⟨#[]⟩) ∧ w'.cell? ⟨w1.heap.size, 5, none⟩ = some (.string ⟨#[]⟩) ∧ w'.cell? ⟨w1.heap.size, 6, none⟩ = some (.string ⟨#[]⟩) ∧ w'.cell? ⟨w1.heap.size, 7, none⟩ = some (.string ⟨#[]⟩) ∧ w'.cell? ⟨w1.heap.size, 8, none⟩ = some (.slice none 0 0)) (ds := [3]) #[false, false, false, false, false] (by kernel_rfl) rfl rfl ⟨cell_drew xx0, cell_drew xx1, cell_drew xx2, cell_drew xx3, cell_drew xx4, cell_drew xx5, cell_drew xx6, cell_drew xx7, cell_drew xx8⟩ (fun hHeld => ?_)
    refine take_ (i := 0) (N := some 123) (v := ?_) (a' := ?_) #[true, false, false, false, false] rfl rfl (by kernel_rfl) (fun _ _ _ h => h) (Or.inl ⟨by rfl, ?_⟩) hHeld ?_ ?_
    rotate_left
    · intro w' s0
      go_split_ands
      go_simp
      with_reducible rfl
    rotate_left
    · simp only [Act.put, List.setIfInBounds_toArray, List.set_cons_zero, List.set_cons_succ, i64_w, i32_w]
      rfl
    refine take_ (i := 1) (N := some 124) (v := ?_) (a' := ?_) #[true, true, false, false, false] rfl rfl (by kernel_rfl) (fun _ _ _ h => h) (Or.inl ⟨by rfl, ?_⟩) hHeld ?_ ?_
    rotate_left
    · intro w' s0
      go_split_ands
      go_simp
      with_reducible rfl
    rotate_left
    · simp only [Act.put, List.setIfInBounds_toArray, List.set_cons_zero, List.set_cons_succ, i64_w, i32_w]
      rfl
    refine one_ (i := 2) (N := some 125) #[true, true, true, false, false] rfl rfl (by kernel_rfl) (by decide) (fun K hK => ?_)
    refine goes_ Tryd.func20 (by kernel_rfl) rfl #[.agg #[.int .i64 2, .int .i64 (hS s1).1.1, .int .i64 (hS (hS s1).2).1.1, .int .i64 (hS (hS (hS s1).2).2).1.1, .string ⟨#[]⟩, .string ⟨#[]⟩, .string ⟨#[]⟩, .string ⟨#[]⟩, .slice none 0 0]] (by rfl) rfl rfl (by (try simp only [List.map_toArray, List.map_cons, List.map_nil]); first | done | rfl) ?_
    refine (HCK.out _ ⟨HIY.out, L.out⟩).mono ?_
    rintro e wc ⟨rfl, hI⟩
    refine ⟨_, rfl, ?_⟩
    have HIC := Aside0.mk hI
    have HC := hI.k3
    have v0 := cell_blk (j := 0) (v := .int .i64 2) HC rfl
    have v1 := cell_blk (j := 1) (v := .int .i64 (hS s1).1.1) HC rfl
    have v2 := cell_blk (j := 2) (v := .int .i64 (hS (hS s1).2).1.1) HC rfl
    have v3 := cell_blk (j := 3) (v := .int .i64 (hS (hS (hS s1).2).2).1.1) HC rfl
    have v4 := cell_blk (j := 4) (v := .string ⟨#[]⟩) HC rfl
    have v5 := cell_blk (j := 5) (v := .string ⟨#[]⟩) HC rfl
    have v6 := cell_blk (j := 6) (v := .string ⟨#[]⟩) HC rfl
    have v7 := cell_blk (j := 7) (v := .string ⟨#[]⟩) HC rfl
    have v8 := cell_blk (j := 8) (v := .slice none 0 0) HC rfl
    have HY := Aside0.mk hI.k2
    have y0 := cell_blk (j := 0) (v := .int .i64 0) HY.out rfl
    have z0 := Lib.frozen_of_heap HY.out 0
    have y1 := cell_blk (j := 1) (v := .int .i64 0) HY.out rfl
    have z1 := Lib.frozen_of_heap HY.out 1
    have y2 := cell_blk (j := 2) (v := .int .i64 0) HY.out rfl
    have z2 := Lib.frozen_of_heap HY.out 2
    have y3 := cell_blk (j := 3) (v := .int .i64 0) HY.out rfl
    have z3 := Lib.frozen_of_heap HY.out 3
    have y4 := cell_blk (j := 4) (v := .string ⟨#[]⟩) HY.out rfl
    have z4 := Lib.frozen_of_heap HY.out 4
    have y5 := cell_blk (j := 5) (v := .string ⟨#[]⟩) HY.out rfl
    have z5 := Lib.frozen_of_heap HY.out 5
    have y6 := cell_blk (j := 6) (v := .string ⟨#[]⟩) HY.out rfl
    have z6 := Lib.frozen_of_heap HY.out 6
    have y7 := cell_blk (j := 7) (v := .string ⟨#[]⟩) HY.out rfl
    have z7 := Lib.frozen_of_heap HY.out 7
    have y8 := cell_blk (j := 8) (v := .slice none 0 0) HY.out rfl
    have z8 := Lib.frozen_of_heap HY.out 8
    clear HC hI
    refine hK.out _ _ ⟨v0, v1, v2, v3, v4, v5, v6, v7, v8⟩ (fun hHeld => ?_)
    clear hK K
    refine norm_ (a' := ?_) ?_ ?_
    rotate_left
    · show Act.put _ (some 125) _ = _
      simp only [Act.put, List.setIfInBounds_toArray, List.set_cons_zero, List.set_cons_succ, i64_w, i32_w]
      rfl
    refine last_ (i := 3) (N := none) #[true, true, true, true, false] rfl rfl (by kernel_rfl) (by decide) (fun K hK => ?_)
    refine skip_ (w1 := ?_) (by rfl) rfl ?_ ?_
    rotate_left
    · go_simp
      rfl
    refine hK.out _ _ ?_
    clear hK K
    refine pure_ (i := 4) (N := some 3) (v := ?_) (a' := ?_) #[true, true, true, true, true] rfl rfl (by kernel_rfl) (fun _ _ _ h => h) (Or.inl ⟨by rfl, ?_⟩) ?_ ?_
    rotate_left
    · intro w'
      go_simp
      with_reducible rfl
    rotate_left
    · simp only [Act.put, List.setIfInBounds_toArray, List.set_cons_zero, List.set_cons_succ, i64_w, i32_w]
      rfl
    refine done_ (by kernel_rfl) ?_
    have hpz := L.out.h2
    go_wp2_with fail
    skip
    refine bodyPost_ret (results_ct rfl _ _ w.heap.size 42 _ (0, 0) _ rfl ((set_blk (j := 8) (set_blk (j := 7) (set_blk (j := 6) (set_blk (j := 5) (set_blk (j := 4) (set_blk (j := 3) (set_blk (j := 2) (set_blk (j := 1) (set_blk (j := 0) (HY.out) _) _) _) _) _) _) _) _) _)) Tryd.underlying42 rfl (by kernel_rfl)) rfl ?_
    rw [HGD.out]
    exact xopPost_ok ((AtB.set (AtB.set (AtB.set (AtB.set (AtB.set (AtB.set (AtB.set (AtB.set (AtB.set ⟨HIC.out.but, HIC.out.at_⟩ hpw hpz hok 0 _) hpw hpz hok 1 _) hpw hpz hok 2 _) hpw hpz hok 3 _) hpw hpz hok 4 _) hpw hpz hok 5 _) hpw hpz hok 6 _) hpw hpz hok 7 _) hpw hpz hok 8 _)) (.slice none 0 0) rfl (Kd.R_nil k44 44 _ _ _)
  · have hgood := opR_badx s hs1 2 hk (by decide) (by simpa [bodyR] using hz)
    simp only [bodyR, Int.reduceEq, if_false, if_true] at hgood
    have HGD := Aside0.mk hgood
    have h1 : ((hS (hS (hS s1).2).2).2.2 == 0) = false := by simpa using hz
    have h2 : ((hS (hS (hS s1).2).2).2.2 != 0) = true := by simpa using hz
    clear h hgl hw he7 hs1 hgood hk hB0 hB1 hB2 hB3 hB4 hn1 hn2 hn3
    go_enter Tryd.func26, Tryd.ntmps26
    go_wp2_with (first
    | (go_at_call 25; (with_reducible refine (HN.out _ (AtR.al H.out _)).mono ?_); rintro e w1 ⟨rfl, h2, h3⟩; have HI0 := Aside0.mk (xinv_start w p ok (.cells #[.int .i64 0, .int .i64 0, .int .i64 0, .int .i64 0, .string ⟨#[]⟩, .string ⟨#[]⟩, .string ⟨#[]⟩, .string ⟨#[]⟩, .slice none 0 0] 42) (.cells #[.int .i64 2, .int .i64 0, .int .i64 0, .int .i64 0, .string ⟨#[]⟩, .string ⟨#[]⟩, .string ⟨#[]⟩, .string ⟨#[]⟩, .slice none 0 0] 42) s1 w1 hpw h2 h3); have L := Aside0.mk (xlie_start w p ok _ w1 hpw hok h3); have hne : ¬ w.heap.size = w1.heap.size := L.out.n13; have hnp : ¬ p = w1.heap.size := (by have := L.out.h3; omega); clear h2 h3)
    | (go_at_call 25; (with_reducible refine (InvO.xhandle HI0.out L.out).mono ?_); rintro e w2 ⟨rfl, hI⟩; have HI1 := Aside0.mk hI; clear hI; have ep := AtR.err HI1.out.at_; have fz := Lib.frozen_of_heap HI1.out.k3 1; have HC := InvO.k3 HI1.out; have x0 := cell_blk (j := 0) (v := .int .i64 2) HC rfl; have x1 := cell_blk (j := 1) (v := .int .i64 0) HC rfl; have x2 := cell_blk (j := 2) (v := .int .i64 0) HC rfl; have x3 := cell_blk (j := 3) (v := .int .i64 0) HC rfl; have x4 := cell_blk (j := 4) (v := .string ⟨#[]⟩) HC rfl; have x5 := cell_blk (j := 5) (v := .string ⟨#[]⟩) HC rfl; have x6 := cell_blk (j := 6) (v := .string ⟨#[]⟩) HC rfl; have x7 := cell_blk (j := 7) (v := .string ⟨#[]⟩) HC rfl; have x8 := cell_blk (j := 8) (v := .slice none 0 0) HC rfl; clear HC)
    | (go_at_call 25; (with_reducible refine (InvO.xhandle (InvO.set HI1.out L.out 1 (.int .i64 (hS s1).1.1)) L.out).mono ?_); rintro e w3 ⟨rfl, hI⟩; have HI2 := Aside0.mk hI; clear hI; clear x0 x1 x2 x3 x4 x5 x6 x7 x8 fz ep; have ep := AtR.err HI2.out.at_; have fz := Lib.frozen_of_heap HI2.out.k3 2; have HC := InvO.k3 HI2.out; have x0 := cell_blk (j := 0) (v := .int .i64 2) HC rfl; have x1 := cell_blk (j := 1) (v := .int .i64 (hS s1).1.1) HC rfl; have x2 := cell_blk (j := 2) (v := .int .i64 0) HC rfl; have x3 := cell_blk (j := 3) (v := .int .i64 0) HC rfl; have x4 := cell_blk (j := 4) (v := .string ⟨#[]⟩) HC rfl; have x5 := cell_blk (j := 5) (v := .string ⟨#[]⟩) HC rfl; have x6 := cell_blk (j := 6) (v := .string ⟨#[]⟩) HC rfl; have x7 := cell_blk (j := 7) (v := .string ⟨#[]⟩) HC rfl; have x8 := cell_blk (j := 8) (v := .slice none 0 0) HC rfl; clear HC)
    | (go_at_call 25; (with_reducible refine (InvO.xhandle (InvO.set HI2.out L.out 2 (.int .i64 (hS (hS s1).2).1.1)) L.out).mono ?_); rintro e w4 ⟨rfl, hI⟩; have HI3 := Aside0.mk hI; clear hI; clear x0 x1 x2 x3 x4 x5 x6 x7 x8 fz ep; have ep := AtR.err HI3.out.at_; have fz := Lib.frozen_of_heap HI3.out.k3 3; have HC := InvO.k3 HI3.out; have x0 := cell_blk (j := 0) (v := .int .i64 2) HC rfl; have x1 := cell_blk (j := 1) (v := .int .i64 (hS s1).1.1) HC rfl; have x2 := cell_blk (j := 2) (v := .int .i64 (hS (hS s1).2).1.1) HC rfl; have x3 := cell_blk (j := 3) (v := .int .i64 0) HC rfl; have x4 := cell_blk (j := 4) (v := .string ⟨#[]⟩) HC rfl; have x5 := cell_blk (j := 5) (v := .string ⟨#[]⟩) HC rfl; have x6 := cell_blk (j := 6) (v := .string ⟨#[]⟩) HC rfl; have x7 := cell_blk (j := 7) (v := .string ⟨#[]⟩) HC rfl; have x8 := cell_blk (j := 8) (v := .slice none 0 0) HC rfl; clear HC))
    have HIZ := Aside0.mk (InvO.set HI3.out L.out 3 (.int .i64 (hS (hS (hS s1).2).2).1.1))
    have HC := HIZ.out.k3
    have xx0 := cell_blk (j := 0) (v := .int .i64 2) HC rfl
    have xx1 := cell_blk (j := 1) (v := .int .i64 (hS s1).1.1) HC rfl
    have xx2 := cell_blk (j := 2) (v := .int .i64 (hS (hS s1).2).1.1) HC rfl
    have xx3 := cell_blk (j := 3) (v := .int .i64 (hS (hS (hS s1).2).2).1.1) HC rfl
    have xx4 := cell_blk (j := 4) (v := .string ⟨#[]⟩) HC rfl
    have xx5 := cell_blk (j := 5) (v := .string ⟨#[]⟩) HC rfl
    have xx6 := cell_blk (j := 6) (v := .string ⟨#[]⟩) HC rfl
    have xx7 := cell_blk (j := 7) (v := .string ⟨#[]⟩) HC rfl
    have xx8 := cell_blk (j := 8) (v := .slice none 0 0) HC rfl
    have ep2 := AtR.err HIZ.out.at_
    have HIY := Aside0.mk (HIZ.out.xdrew L.out)
    clear HC x0 x1 x2 x3 x4 x5 x6 x7 x8 ep fz
    refine start_ (n := 7) (S := fun w' => w'.cell? ⟨w1.heap.size, 0, none⟩ = some (.int .i64 2) ∧ w'.cell? ⟨w1.heap.size, 1, none⟩ = some (.int .i64 (hS s1).1.1) ∧ w'.cell? ⟨w1.heap.size, 2, none⟩ = some (.int .i64 (hS (hS s1).2).1.1) ∧ w'.cell? ⟨w1.heap.size, 3, none⟩ = some (.int .i64 (hS (hS (hS s1).2).2).1.1) ∧ w'.cell? ⟨w1.heap.size, 4, none⟩ = some (.string ⟨#[]⟩) ∧ w'.cell? ⟨w1.heap.size, 5, none⟩ = some (.string ⟨#[]⟩) ∧ w'.cell? ⟨w1.heap.size, 6, none⟩ = some (.string ⟨#[]⟩) ∧ w'.cell? ⟨w1.heap.size, 7, none⟩ = some (.string ⟨#[]⟩) ∧ w'.cell? ⟨w1.heap.size, 8, none⟩ = some (.slice none 0 0) ∧ w'.cell? ⟨p, 1, none⟩ = some (.int .i64 (hS (hS (hS s1).2).2).2.2)) (ds := []) #[false, false, false, false, false, false, false] (by kernel_rfl) rfl rfl ⟨cell_drew xx0, cell_drew xx1, cell_drew xx2, cell_drew xx3, cell_drew xx4, cell_drew xx5, cell_drew xx6, cell_drew xx7, cell_drew xx8, cell_drew ep2⟩ (fun hHeld => ?_)
    refine take_ (i := 0) (N := some 118) (v := ?_) (a' := ?_) #[true, false, false, false, false, false, false] rfl rfl (by kernel_rfl) (fun _ _ _ h => h) (Or.inl ⟨by rfl, ?_⟩) hHeld ?_ ?_
    rotate_left
    · intro w' s0
      go_split_ands
      go_simp
      with_reducible rfl
    rotate_left
    · simp only [Act.put, List.setIfInBounds_toArray, List.set_cons_zero, List.set_cons_succ, i64_w, i32_w]
      rfl
    refine pure_ (i := 1) (N := some 119) (v := ?_) (a' := ?_) #[true, true, false, false, false, false, false] rfl rfl (by kernel_rfl) (fun _ _ _ h => h) (Or.inl ⟨by rfl, ?_⟩) ?_ ?_
    rotate_left
    · intro w'
      go_simp
      with_reducible rfl
    rotate_left
    · simp only [Act.put, List.setIfInBounds_toArray, List.set_cons_zero, List.set_cons_succ, i64_w, i32_w]
      rfl
    refine take_ (i := 2) (N := some 120) (v := ?_) (a' := ?_) #[true, true, true, false, false, false, false] rfl rfl (by kernel_rfl) (fun _ _ _ h => h) (Or.inl ⟨by rfl, ?_⟩) hHeld ?_ ?_
    rotate_left
    · intro w' s0
      go_split_ands
      go_simp
      with_reducible rfl
    rotate_left
    · simp only [Act.put, List.setIfInBounds_toArray, List.set_cons_zero, List.set_cons_succ, i64_w, i32_w]
      rfl
    refine pure_ (i := 3) (N := some 121) (v := ?_) (a' := ?_) #[true, true, true, true, false, false, false] rfl rfl (by kernel_rfl) (fun _ _ _ h => h) (Or.inl ⟨by rfl, ?_⟩) ?_ ?_
    rotate_left
    · intro w'
      go_simp
      with_reducible rfl
    rotate_left
    · simp only [Act.put, List.setIfInBounds_toArray, List.set_cons_zero, List.set_cons_succ, i64_w, i32_w]
      rfl
    refine take_ (i := 4) (N := some 122) (v := ?_) (a' := ?_) #[true, true, true, true, true, false, false] rfl rfl (by kernel_rfl) (fun _ _ _ h => h) (Or.inl ⟨by rfl, ?_⟩) hHeld ?_ ?_
    rotate_left
    · intro w' s0
      go_split_ands
      go_simp
      with_reducible rfl
    rotate_left
    · simp only [Act.put, List.setIfInBounds_toArray, List.set_cons_zero, List.set_cons_succ, i64_w, i32_w]
      rfl
    have HY := Aside0.mk HIZ.out.k2
    have HYB := Aside0.mk HI3.out.k2
    have y0 := cell_blk (j := 0) (v := .int .i64 0) HYB.out rfl
    have z0 := Lib.frozen_of_heap HYB.out 0
    have y1 := cell_blk (j := 1) (v := .int .i64 0) HYB.out rfl
    have z1 := Lib.frozen_of_heap HYB.out 1
    have y2 := cell_blk (j := 2) (v := .int .i64 0) HYB.out rfl
    have z2 := Lib.frozen_of_heap HYB.out 2
    have y3 := cell_blk (j := 3) (v := .int .i64 0) HYB.out rfl
    have z3 := Lib.frozen_of_heap HYB.out 3
    have y4 := cell_blk (j := 4) (v := .string ⟨#[]⟩) HYB.out rfl
    have z4 := Lib.frozen_of_heap HYB.out 4
    have y5 := cell_blk (j := 5) (v := .string ⟨#[]⟩) HYB.out rfl
    have z5 := Lib.frozen_of_heap HYB.out 5
    have y6 := cell_blk (j := 6) (v := .string ⟨#[]⟩) HYB.out rfl
    have z6 := Lib.frozen_of_heap HYB.out 6
    have y7 := cell_blk (j := 7) (v := .string ⟨#[]⟩) HYB.out rfl
    have z7 := Lib.frozen_of_heap HYB.out 7
    have y8 := cell_blk (j := 8) (v := .slice none 0 0) HYB.out rfl
    have z8 := Lib.frozen_of_heap HYB.out 8
    have hnb : ¬ w1.heap.size = w.heap.size := fun e => hne e.symm
    have hnp3 : ¬ p = w.heap.size := by omega
    refine one_ (i := 5) (N := none) #[true, true, true, true, true, true, false] rfl rfl (by kernel_rfl) (by decide) (fun K hK => ?_)
    refine skip_ (w1 := ?_) (by rfl) rfl ?_ ?_
    rotate_left
    · go_simp
      rfl
    refine hK.out _ _ ⟨cell_drew (cell_far9 xx0 hnb), cell_drew (cell_far9 xx1 hnb), cell_drew (cell_far9 xx2 hnb), cell_drew (cell_far9 xx3 hnb), cell_drew (cell_far9 xx4 hnb), cell_drew (cell_far9 xx5 hnb), cell_drew (cell_far9 xx6 hnb), cell_drew (cell_far9 xx7 hnb), cell_drew (cell_far9 xx8 hnb), cell_drew (cell_far9 ep2 hnp3)⟩ (fun hHeld => ?_)
    clear hK K
    refine pure_ (i := 6) (N := some 3) (v := ?_) (a' := ?_) #[true, true, true, true, true, true, true] rfl rfl (by kernel_rfl) (fun _ _ _ h => h) (Or.inl ⟨by rfl, ?_⟩) ?_ ?_
    rotate_left
    · intro w'
      go_simp
      with_reducible rfl
    rotate_left
    · simp only [Act.put, List.setIfInBounds_toArray, List.set_cons_zero, List.set_cons_succ, i64_w, i32_w]
      rfl
    refine done_ (by kernel_rfl) ?_
    have hpz := L.out.h2
    go_wp2_with fail
    skip
    refine bodyPost_ret (results_ct rfl _ _ w.heap.size 42 _ (0, 0) _ rfl (drew_blk (set_blk (j := 8) (set_blk (j := 7) (set_blk (j := 6) (set_blk (j := 5) (set_blk (j := 4) (set_blk (j := 3) (set_blk (j := 2) (set_blk (j := 1) (set_blk (j := 0) (HY.out) _) _) _) _) _) _) _) _) _)) Tryd.underlying42 rfl (by kernel_rfl)) rfl ?_
    rw [HGD.out]
    exact xopPost_ok (AtB.drew (AtB.set (AtB.set (AtB.set (AtB.set (AtB.set (AtB.set (AtB.set (AtB.set (AtB.set ⟨HIZ.out.but, HIZ.out.at_⟩ hpw hpz hok 0 _) hpw hpz hok 1 _) hpw hpz hok 2 _) hpw hpz hok 3 _) hpw hpz hok 4 _) hpw hpz hok 5 _) hpw hpz hok 6 _) hpw hpz hok 7 _) hpw hpz hok 8 _)) (.slice none 0 0) rfl (Kd.R_nil k44 44 _ _ _)
set_option maxHeartbeats 2000000 in
theorem xop_3 (w0 : World) (hgl : GL w0) (p : Nat) (ok : Nat → Prop) (s : St) (w : World) (hok : ∀ k, ok k → k < p) (hw : Below w0.heap.size w0 w) (hw0 : w0.heap.size ≤ p) (h : AtR 61 p ok s.1 s.2 w) (hk : (nS s 7).1 = (3, 0)) :
    Calls Tryd.prog 26 #[.pointer (some ⟨p, 0, none⟩)] w fun e w' => xopPost w p ok (opR s) e w' := by
  have hpw := h.lt
  have H := Aside0.mk h
  have he7 : (nS s 7).2.2 = 0 := by rw [← nS_err, hk]
  have HN : Aside0 (∀ W, AtR 61 p ok s.1 s.2 W → Calls Tryd.prog 25 #[.pointer (some ⟨p, 0, none⟩), .int .u64 7] W fun e w' => e = .returned (.tuple #[.int .u64 3, .int .i64 0]) ∧ AtR 61 p ok (nS s 7).2.1 (nS s 7).2.2 w' ∧ But (· = p) W w') := ⟨fun W hW => (x_num p ok s.1 s.2 7 W hW).mono (by
    rintro e w' ⟨he, ha, hb⟩
    refine ⟨he.trans ?_, ha, hb⟩
    show Ending.returned (.tuple #[.int .u64 (nS s 7).1.1, .int .i64 (nS s 7).1.2]) = _
    rw [hk])⟩
  obtain ⟨s1, hs1⟩ : ∃ s1, s1 = (nS s 7).2 := ⟨_, rfl⟩
  rw [← hs1] at HN
  have hB0 := H.out.2.1
  have hB1 := (nS_bytes s 7 hB0).1
  rw [← hs1] at hB1
  have hn1 : num32 (hS s1).1.1 := nS_val s1 4294967295 hB1 (by omega)
  have hw1 := wrap_i64_32 hn1
  have hB2 := (nS_bytes s1 4294967295 hB1).1
  have hn3 : num32 (hS (hS s1).2).1.1 := nS_val (hS s1).2 4294967295 hB2 (by omega)
  have hw3 := wrap_i64_32 hn3
  have hB3 := (nS_bytes (hS s1).2 4294967295 hB2).1
  have HCK : Aside0 (∀ {b1 b2 b3 : Nat} {o1 o2 o3 : Obj} W, InvO 61 w p ok b1 o1 b2 o2 b3 o3 (hS (hS s1).2).2 W ∧ Lie w p ok b1 b2 b3 → Calls Tryd.prog 20 #[.agg #[.int .i64 3, .int .i64 (hS s1).1.1, .int .i64 0, .int .i64 (hS (hS s1).2).1.1, .string ⟨#[]⟩, .string ⟨#[]⟩, .string ⟨#[]⟩, .string ⟨#[]⟩, .slice none 0 0]] W fun e w' => e = .returned (.int .i64 (chk ⟨3, (hS s1).1.1, 0, (hS (hS s1).2).1.1, em, em, em, em, []⟩)) ∧ InvO 61 w p ok b1 o1 b2 o2 b3 o3 (hS (hS s1).2).2 w') := ⟨fun W hW => by
    have hb : Below w0.heap.size w0 W := ⟨hW.1.but.os.trans hw.os, hW.1.but.tape.trans hw.tape, hW.1.but.output.trans hw.output, Nat.le_trans hw.size hW.1.but.size, fun k hk => (hW.1.but.block k (Nat.lt_of_lt_of_le hk hw.size) (by omega)).trans (hw.block k hk)⟩
    have := rcheck_x ⟨3, (hS s1).1.1, 0, (hS (hS s1).2).1.1, em, em, em, em, []⟩ none 0 W (hgl.below hb) (Kd.C_nil k44 W) (Nat.le_refl 0) ⟨i64_k 3 (by omega), i64_32 hn1, i64_k 0 (by omega), i64_32 hn3, Nat.zero_le _, Nat.zero_le _, Nat.zero_le _, Nat.zero_le _, Nat.zero_le _, fun i hi => absurd hi (Nat.not_lt_zero i)⟩
    exact this.mono fun e w' h => ⟨h.1, hW.1.below hW.2 h.2⟩⟩
  by_cases hz : (hS (hS s1).2).2.2 = 0
  · have HZ := Aside0.mk hz
    have hgood := opR_good s hs1 3 hk (by decide) (by simpa [bodyR] using hz)
    simp only [bodyR, Int.reduceEq, if_false, if_true] at hgood
    have HGD := Aside0.mk hgood
    clear h hgl hw he7 hs1 hgood hz hk hB0 hB1 hB2 hB3 hn1 hn3
    go_enter Tryd.func26, Tryd.ntmps26
    go_wp2_with (first
    | (go_at_call 25; (with_reducible refine (HN.out _ (AtR.al H.out _)).mono ?_); rintro e w1 ⟨rfl, h2, h3⟩; have HI0 := Aside0.mk (xinv_start w p ok (.cells #[.int .i64 0, .int .i64 0, .int .i64 0, .int .i64 0, .string ⟨#[]⟩, .string ⟨#[]⟩, .string ⟨#[]⟩, .string ⟨#[]⟩, .slice none 0 0] 42) (.cells #[.int .i64 3, .int .i64 0, .int .i64 0, .int .i64 0, .string ⟨#[]⟩, .string ⟨#[]⟩, .string ⟨#[]⟩, .string ⟨#[]⟩, .slice none 0 0] 42) s1 w1 hpw h2 h3); have L := Aside0.mk (xlie_start w p ok _ w1 hpw hok h3); have hne : ¬ w.heap.size = w1.heap.size := L.out.n13; have hnp : ¬ p = w1.heap.size := (by have := L.out.h3; omega); clear h2 h3)
    | (go_at_call 25; (with_reducible refine (InvO.xhandle HI0.out L.out).mono ?_); rintro e w2 ⟨rfl, hI⟩; have HI1 := Aside0.mk hI; clear hI; have ep := AtR.err HI1.out.at_; have fz := Lib.frozen_of_heap HI1.out.k3 1; have HC := InvO.k3 HI1.out; have x0 := cell_blk (j := 0) (v := .int .i64 3) HC rfl; have x1 := cell_blk (j := 1) (v := .int .i64 0) HC rfl; have x2 := cell_blk (j := 2) (v := .int .i64 0) HC rfl; have x3 := cell_blk (j := 3) (v := .int .i64 0) HC rfl; have x4 := cell_blk (j := 4) (v := .string ⟨#[]⟩) HC rfl; have x5 := cell_blk (j := 5) (v := .string ⟨#[]⟩) HC rfl; have x6 := cell_blk (j := 6) (v := .string ⟨#[]⟩) HC rfl; have x7 := cell_blk (j := 7) (v := .string ⟨#[]⟩) HC rfl; have x8 := cell_blk (j := 8) (v := .slice none 0 0) HC rfl; clear HC)
    | (go_at_call 25; (with_reducible refine (InvO.xhandle (InvO.set HI1.out L.out 1 (.int .i64 (hS s1).1.1)) L.out).mono ?_); rintro e w3 ⟨rfl, hI⟩; have HI2 := Aside0.mk hI; clear hI; clear x0 x1 x2 x3 x4 x5 x6 x7 x8 fz ep; have ep := AtR.err HI2.out.at_; rw [HZ.out] at ep; have fz := Lib.frozen_of_heap HI2.out.k3 3; have HC := InvO.k3 HI2.out; have x0 := cell_blk (j := 0) (v := .int .i64 3) HC rfl; have x1 := cell_blk (j := 1) (v := .int .i64 (hS s1).1.1) HC rfl; have x2 := cell_blk (j := 2) (v := .int .i64 0) HC rfl; have x3 := cell_blk (j := 3) (v := .int .i64 0) HC rfl; have x4 := cell_blk (j := 4) (v := .string ⟨#[]⟩) HC rfl; have x5 := cell_blk (j := 5) (v := .string ⟨#[]⟩) HC rfl; have x6 := cell_blk (j := 6) (v := .string ⟨#[]⟩) HC rfl; have x7 := cell_blk (j := 7) (v := .string ⟨#[]⟩) HC rfl; have x8 := cell_blk (j := 8) (v := .slice none 0 0) HC rfl; clear HC))
    have HIZ := Aside0.mk (InvO.set HI2.out L.out 3 (.int .i64 (hS (hS s1).2).1.1))
    have HC := HIZ.out.k3
    have xx0 := cell_blk (j := 0) (v := .int .i64 3) HC rfl
    have xx1 := cell_blk (j := 1) (v := .int .i64 (hS s1).1.1) HC rfl
    have xx2 := cell_blk (j := 2) (v := .int .i64 0) HC rfl
    have xx3 := cell_blk (j := 3) (v := .int .i64 (hS (hS s1).2).1.1) HC rfl
    have xx4 := cell_blk (j := 4) (v := .string ⟨#[]⟩) HC rfl
    have xx5 := cell_blk (j := 5) (v := .string ⟨#[]⟩) HC rfl
    have xx6 := cell_blk (j := 6) (v := .string ⟨#[]⟩) HC rfl
    have xx7 := cell_blk (j := 7) (v := .string ⟨#[]⟩) HC rfl
    have xx8 := cell_blk (j := 8) (v := .slice none 0 0) HC rfl
    have HIY := Aside0.mk (HIZ.out.xdrew L.out)
    clear HC x0 x1 x2 x3 x4 x5 x6 x7 x8 ep fz
    refine start_ (n := 5) (S := fun w' => w'.cell? ⟨w1.heap.size, 0, none⟩ = some (.int .i64 3) ∧ w'.cell? ⟨w1.heap.size, 1, none⟩ = some (.int .i64 (hS s1).1.1) ∧ w'.cell? ⟨w1.heap.size, 2, none⟩ = some (.int .i64 0) ∧ w'.cell? ⟨w1.heap.size, 3, none⟩ = some (.int .i64 (hS (hS s1).2).1.1) ∧ w'.cell? ⟨w1.heap.size, 4, none⟩ = some (.string ⟨#[]⟩) ∧ w'.cell? ⟨w1.heap.size, 5, none⟩ = some (.string ⟨#[]⟩) ∧ w'.cell? ⟨w1.heap.size, 6, none⟩ = some (.string ⟨#[]⟩) ∧ w'.cell? ⟨w1.heap.size, 7, none⟩ = some (.string ⟨#[]⟩) ∧ w'.cell? ⟨w1.heap.size, 8, none⟩ = some (.slice none 0 0)) (ds := [3]) #[false, false, false, false, false] (by kernel_rfl) rfl rfl ⟨cell_drew xx0, cell_drew xx1, cell_drew xx2, cell_drew xx3, cell_drew xx4, cell_drew xx5, cell_drew xx6, cell_drew xx7, cell_drew xx8⟩ (fun hHeld => ?_)
    refine take_ (i := 0) (N := some 123) (v := ?_) (a' := ?_) #[true, false, false, false, false] rfl rfl (by kernel_rfl) (fun _ _ _ h => h) (Or.inl ⟨by rfl, ?_⟩) hHeld ?_ ?_
    rotate_left
    · intro w' s0
      go_split_ands
      go_simp
      with_reducible rfl
    rotate_left
    · simp only [Act.put, List.setIfInBounds_toArray, List.set_cons_zero, List.set_cons_succ, i64_w, i32_w]
      rfl
    refine take_ (i := 1) (N := some 124) (v := ?_) (a' := ?_) #[true, true, false, false, false] rfl rfl (by kernel_rfl) (fun _ _ _ h => h) (Or.inl ⟨by rfl, ?_⟩) hHeld ?_ ?_
    rotate_left
    · intro w' s0
      go_split_ands
      go_simp
      with_reducible rfl
    rotate_left
    · simp only [Act.put, List.setIfInBounds_toArray, List.set_cons_zero, List.set_cons_succ, i64_w, i32_w]
      rfl
    refine one_ (i := 2) (N := some 125) #[true, true, true, false, false] rfl rfl (by kernel_rfl) (by decide) (fun K hK => ?_)
    refine goes_ Tryd.func20 (by kernel_rfl) rfl #[.agg #[.int .i64 3, .int .i64 (hS s1).1.1, .int .i64 0, .int .i64 (hS (hS s1).2).1.1, .string ⟨#[]⟩, .string ⟨#[]⟩, .string ⟨#[]⟩, .string ⟨#[]⟩, .slice none 0 0]] (by rfl) rfl rfl (by (try simp only [List.map_toArray, List.map_cons, List.map_nil]); first | done | rfl) ?_
    refine (HCK.out _ ⟨HIY.out, L.out⟩).mono ?_
    rintro e wc ⟨rfl, hI⟩
    refine ⟨_, rfl, ?_⟩
    have HIC := Aside0.mk hI
    have HC := hI.k3
    have v0 := cell_blk (j := 0) (v := .int .i64 3) HC rfl
    have v1 := cell_blk (j := 1) (v := .int .i64 (hS s1).1.1) HC rfl
    have v2 := cell_blk (j := 2) (v := .int .i64 0) HC rfl
    have v3 := cell_blk (j := 3) (v := .int .i64 (hS (hS s1).2).1.1) HC rfl
    have v4 := cell_blk (j := 4) (v := .string ⟨#[]⟩) HC rfl
    have v5 := cell_blk (j := 5) (v := .string ⟨#[]⟩) HC rfl
    have v6 := cell_blk (j := 6) (v := .string ⟨#[]⟩) HC rfl
    have v7 := cell_blk (j := 7) (v := .string ⟨#[]⟩) HC rfl
    have v8 := cell_blk (j := 8) (v := .slice none 0 0) HC rfl
    have HY := Aside0.mk hI.k2
    have y0 := cell_blk (j := 0) (v := .int .i64 0) HY.out rfl
    have z0 := Lib.frozen_of_heap HY.out 0
    have y1 := cell_blk (j := 1) (v := .int .i64 0) HY.out rfl
    have z1 := Lib.frozen_of_heap HY.out 1
    have y2 := cell_blk (j := 2) (v := .int .i64 0) HY.out rfl
    have z2 := Lib.frozen_of_heap HY.out 2
    have y3 := cell_blk (j := 3) (v := .int .i64 0) HY.out rfl
    have z3 := Lib.frozen_of_heap HY.out 3
    have y4 := cell_blk (j := 4) (v := .string ⟨#[]⟩) HY.out rfl
    have z4 := Lib.frozen_of_heap HY.out 4
    have y5 := cell_blk (j := 5) (v := .string ⟨#[]⟩) HY.out rfl
    have z5 := Lib.frozen_of_heap HY.out 5
    have y6 := cell_blk (j := 6) (v := .string ⟨#[]⟩) HY.out rfl
    have z6 := Lib.frozen_of_heap HY.out 6
    have y7 := cell_blk (j := 7) (v := .string ⟨#[]⟩) HY.out rfl
    have z7 := Lib.frozen_of_heap HY.out 7
    have y8 := cell_blk (j := 8) (v := .slice none 0 0) HY.out rfl
    have z8 := Lib.frozen_of_heap HY.out 8
    clear HC hI
    refine hK.out _ _ ⟨v0, v1, v2, v3, v4, v5, v6, v7, v8⟩ (fun hHeld => ?_)
    clear hK K
    refine norm_ (a' := ?_) ?_ ?_
    rotate_left
    · show Act.put _ (some 125) _ = _
      simp only [Act.put, List.setIfInBounds_toArray, List.set_cons_zero, List.set_cons_succ, i64_w, i32_w]
      rfl
    refine last_ (i := 3) (N := none) #[true, true, true, true, false] rfl rfl (by kernel_rfl) (by decide) (fun K hK => ?_)
    refine skip_ (w1 := ?_) (by rfl) rfl ?_ ?_
    rotate_left
    · go_simp
      rfl
    refine hK.out _ _ ?_
    clear hK K
    refine pure_ (i := 4) (N := some 3) (v := ?_) (a' := ?_) #[true, true, true, true, true] rfl rfl (by kernel_rfl) (fun _ _ _ h => h) (Or.inl ⟨by rfl, ?_⟩) ?_ ?_
    rotate_left
    · intro w'
      go_simp
      with_reducible rfl
    rotate_left
    · simp only [Act.put, List.setIfInBounds_toArray, List.set_cons_zero, List.set_cons_succ, i64_w, i32_w]
      rfl
    refine done_ (by kernel_rfl) ?_
    have hpz := L.out.h2
    go_wp2_with fail
    skip
    refine bodyPost_ret (results_ct rfl _ _ w.heap.size 42 _ (0, 0) _ rfl ((set_blk (j := 8) (set_blk (j := 7) (set_blk (j := 6) (set_blk (j := 5) (set_blk (j := 4) (set_blk (j := 3) (set_blk (j := 2) (set_blk (j := 1) (set_blk (j := 0) (HY.out) _) _) _) _) _) _) _) _) _)) Tryd.underlying42 rfl (by kernel_rfl)) rfl ?_
    rw [HGD.out]
    exact xopPost_ok ((AtB.set (AtB.set (AtB.set (AtB.set (AtB.set (AtB.set (AtB.set (AtB.set (AtB.set ⟨HIC.out.but, HIC.out.at_⟩ hpw hpz hok 0 _) hpw hpz hok 1 _) hpw hpz hok 2 _) hpw hpz hok 3 _) hpw hpz hok 4 _) hpw hpz hok 5 _) hpw hpz hok 6 _) hpw hpz hok 7 _) hpw hpz hok 8 _)) (.slice none 0 0) rfl (Kd.R_nil k44 44 _ _ _)
  · have hgood := opR_badx s hs1 3 hk (by decide) (by simpa [bodyR] using hz)
    simp only [bodyR, Int.reduceEq, if_false, if_true] at hgood
    have HGD := Aside0.mk hgood
    have h1 : ((hS (hS s1).2).2.2 == 0) = false := by simpa using hz
    have h2 : ((hS (hS s1).2).2.2 != 0) = true := by simpa using hz
    clear h hgl hw he7 hs1 hgood hk hB0 hB1 hB2 hB3 hn1 hn3
    go_enter Tryd.func26, Tryd.ntmps26
    go_wp2_with (first
    | (go_at_call 25; (with_reducible refine (HN.out _ (AtR.al H.out _)).mono ?_); rintro e w1 ⟨rfl, h2, h3⟩; have HI0 := Aside0.mk (xinv_start w p ok (.cells #[.int .i64 0, .int .i64 0, .int .i64 0, .int .i64 0, .string ⟨#[]⟩, .string ⟨#[]⟩, .string ⟨#[]⟩, .string ⟨#[]⟩, .slice none 0 0] 42) (.cells #[.int .i64 3, .int .i64 0, .int .i64 0, .int .i64 0, .string ⟨#[]⟩, .string ⟨#[]⟩, .string ⟨#[]⟩, .string ⟨#[]⟩, .slice none 0 0] 42) s1 w1 hpw h2 h3); have L := Aside0.mk (xlie_start w p ok _ w1 hpw hok h3); have hne : ¬ w.heap.size = w1.heap.size := L.out.n13; have hnp : ¬ p = w1.heap.size := (by have := L.out.h3; omega); clear h2 h3)
    | (go_at_call 25; (with_reducible refine (InvO.xhandle HI0.out L.out).mono ?_); rintro e w2 ⟨rfl, hI⟩; have HI1 := Aside0.mk hI; clear hI; have ep := AtR.err HI1.out.at_; have fz := Lib.frozen_of_heap HI1.out.k3 1; have HC := InvO.k3 HI1.out; have x0 := cell_blk (j := 0) (v := .int .i64 3) HC rfl; have x1 := cell_blk (j := 1) (v := .int .i64 0) HC rfl; have x2 := cell_blk (j := 2) (v := .int .i64 0) HC rfl; have x3 := cell_blk (j := 3) (v := .int .i64 0) HC rfl; have x4 := cell_blk (j := 4) (v := .string ⟨#[]⟩) HC rfl; have x5 := cell_blk (j := 5) (v := .string ⟨#[]⟩) HC rfl; have x6 := cell_blk (j := 6) (v := .string ⟨#[]⟩) HC rfl; have x7 := cell_blk (j := 7) (v := .string ⟨#[]⟩) HC rfl; have x8 := cell_blk (j := 8) (v := .slice none 0 0) HC rfl; clear HC)
    | (go_at_call 25; (with_reducible refine (InvO.xhandle (InvO.set HI1.out L.out 1 (.int .i64 (hS s1).1.1)) L.out).mono ?_); rintro e w3 ⟨rfl, hI⟩; have HI2 := Aside0.mk hI; clear hI; clear x0 x1 x2 x3 x4 x5 x6 x7 x8 fz ep; have ep := AtR.err HI2.out.at_; have fz := Lib.frozen_of_heap HI2.out.k3 3; have HC := InvO.k3 HI2.out; have x0 := cell_blk (j := 0) (v := .int .i64 3) HC rfl; have x1 := cell_blk (j := 1) (v := .int .i64 (hS s1).1.1) HC rfl; have x2 := cell_blk (j := 2) (v := .int .i64 0) HC rfl; have x3 := cell_blk (j := 3) (v := .int .i64 0) HC rfl; have x4 := cell_blk (j := 4) (v := .string ⟨#[]⟩) HC rfl; have x5 := cell_blk (j := 5) (v := .string ⟨#[]⟩) HC rfl; have x6 := cell_blk (j := 6) (v := .string ⟨#[]⟩) HC rfl; have x7 := cell_blk (j := 7) (v := .string ⟨#[]⟩) HC rfl; have x8 := cell_blk (j := 8) (v := .slice none 0 0) HC rfl; clear HC))
    have HIZ := Aside0.mk (InvO.set HI2.out L.out 3 (.int .i64 (hS (hS s1).2).1.1))
    have HC := HIZ.out.k3
    have xx0 := cell_blk (j := 0) (v := .int .i64 3) HC rfl
    have xx1 := cell_blk (j := 1) (v := .int .i64 (hS s1).1.1) HC rfl
    have xx2 := cell_blk (j := 2) (v := .int .i64 0) HC rfl
    have xx3 := cell_blk (j := 3) (v := .int .i64 (hS (hS s1).2).1.1) HC rfl
    have xx4 := cell_blk (j := 4) (v := .string ⟨#[]⟩) HC rfl
    have xx5 := cell_blk (j := 5) (v := .string ⟨#[]⟩) HC rfl
    have xx6 := cell_blk (j := 6) (v := .string ⟨#[]⟩) HC rfl
    have xx7 := cell_blk (j := 7) (v := .string ⟨#[]⟩) HC rfl
    have xx8 := cell_blk (j := 8) (v := .slice none 0 0) HC rfl
    have ep2 := AtR.err HIZ.out.at_
    have HIY := Aside0.mk (HIZ.out.xdrew L.out)
    clear HC x0 x1 x2 x3 x4 x5 x6 x7 x8 ep fz
    refine start_ (n := 7) (S := fun w' => w'.cell? ⟨w1.heap.size, 0, none⟩ = some (.int .i64 3) ∧ w'.cell? ⟨w1.heap.size, 1, none⟩ = some (.int .i64 (hS s1).1.1) ∧ w'.cell? ⟨w1.heap.size, 2, none⟩ = some (.int .i64 0) ∧ w'.cell? ⟨w1.heap.size, 3, none⟩ = some (.int .i64 (hS (hS s1).2).1.1) ∧ w'.cell? ⟨w1.heap.size, 4, none⟩ = some (.string ⟨#[]⟩) ∧ w'.cell? ⟨w1.heap.size, 5, none⟩ = some (.string ⟨#[]⟩) ∧ w'.cell? ⟨w1.heap.size, 6, none⟩ = some (.string ⟨#[]⟩) ∧ w'.cell? ⟨w1.heap.size, 7, none⟩ = some (.string ⟨#[]⟩) ∧ w'.cell? ⟨w1.heap.size, 8, none⟩ = some (.slice none 0 0) ∧ w'.cell? ⟨p, 1, none⟩ = some (.int .i64 (hS (hS s1).2).2.2)) (ds := []) #[false, false, false, false, false, false, false] (by kernel_rfl) rfl rfl ⟨cell_drew xx0, cell_drew xx1, cell_drew xx2, cell_drew xx3, cell_drew xx4, cell_drew xx5, cell_drew xx6, cell_drew xx7, cell_drew xx8, cell_drew ep2⟩ (fun hHeld => ?_)
    refine take_ (i := 0) (N := some 118) (v := ?_) (a' := ?_) #[true, false, false, false, false, false, false] rfl rfl (by kernel_rfl) (fun _ _ _ h => h) (Or.inl ⟨by rfl, ?_⟩) hHeld ?_ ?_
    rotate_left
    · intro w' s0
      go_split_ands
      go_simp
      with_reducible rfl
    rotate_left
    · simp only [Act.put, List.setIfInBounds_toArray, List.set_cons_zero, List.set_cons_succ, i64_w, i32_w]
      rfl
    refine pure_ (i := 1) (N := some 119) (v := ?_) (a' := ?_) #[true, true, false, false, false, false, false] rfl rfl (by kernel_rfl) (fun _ _ _ h => h) (Or.inl ⟨by rfl, ?_⟩) ?_ ?_
    rotate_left
    · intro w'
      go_simp
      with_reducible rfl
    rotate_left
    · simp only [Act.put, List.setIfInBounds_toArray, List.set_cons_zero, List.set_cons_succ, i64_w, i32_w]
      rfl
    refine take_ (i := 2) (N := some 120) (v := ?_) (a' := ?_) #[true, true, true, false, false, false, false] rfl rfl (by kernel_rfl) (fun _ _ _ h => h) (Or.inl ⟨by rfl, ?_⟩) hHeld ?_ ?_
    rotate_left
    · intro w' s0
      go_split_ands
      go_simp
      with_reducible rfl
    rotate_left
    · simp only [Act.put, List.setIfInBounds_toArray, List.set_cons_zero, List.set_cons_succ, i64_w, i32_w]
      rfl
    refine pure_ (i := 3) (N := some 121) (v := ?_) (a' := ?_) #[true, true, true, true, false, false, false] rfl rfl (by kernel_rfl) (fun _ _ _ h => h) (Or.inl ⟨by rfl, ?_⟩) ?_ ?_
    rotate_left
    · intro w'
      go_simp
      with_reducible rfl
    rotate_left
    · simp only [Act.put, List.setIfInBounds_toArray, List.set_cons_zero, List.set_cons_succ, i64_w, i32_w]
      rfl
    refine take_ (i := 4) (N := some 122) (v := ?_) (a' := ?_) #[true, true, true, true, true, false, false] rfl rfl (by kernel_rfl) (fun _ _ _ h => h) (Or.inl ⟨by rfl, ?_⟩) hHeld ?_ ?_
    rotate_left
    · intro w' s0
      go_split_ands
      go_simp
      with_reducible rfl
    rotate_left
    · simp only [Act.put, List.setIfInBounds_toArray, List.set_cons_zero, List.set_cons_succ, i64_w, i32_w]
      rfl
    have HY := Aside0.mk HIZ.out.k2
    have HYB := Aside0.mk HI2.out.k2
    have y0 := cell_blk (j := 0) (v := .int .i64 0) HYB.out rfl
    have z0 := Lib.frozen_of_heap HYB.out 0
    have y1 := cell_blk (j := 1) (v := .int .i64 0) HYB.out rfl
    have z1 := Lib.frozen_of_heap HYB.out 1
    have y2 := cell_blk (j := 2) (v := .int .i64 0) HYB.out rfl
    have z2 := Lib.frozen_of_heap HYB.out 2
    have y3 := cell_blk (j := 3) (v := .int .i64 0) HYB.out rfl
    have z3 := Lib.frozen_of_heap HYB.out 3
    have y4 := cell_blk (j := 4) (v := .string ⟨#[]⟩) HYB.out rfl
    have z4 := Lib.frozen_of_heap HYB.out 4
    have y5 := cell_blk (j := 5) (v := .string ⟨#[]⟩) HYB.out rfl
    have z5 := Lib.frozen_of_heap HYB.out 5
    have y6 := cell_blk (j := 6) (v := .string ⟨#[]⟩) HYB.out rfl
    have z6 := Lib.frozen_of_heap HYB.out 6
    have y7 := cell_blk (j := 7) (v := .string ⟨#[]⟩) HYB.out rfl
    have z7 := Lib.frozen_of_heap HYB.out 7
    have y8 := cell_blk (j := 8) (v := .slice none 0 0) HYB.out rfl
    have z8 := Lib.frozen_of_heap HYB.out 8
    have hnb : ¬ w1.heap.size = w.heap.size := fun e => hne e.symm
    have hnp3 : ¬ p = w.heap.size := by omega
    refine one_ (i := 5) (N := none) #[true, true, true, true, true, true, false] rfl rfl (by kernel_rfl) (by decide) (fun K hK => ?_)
    refine skip_ (w1 := ?_) (by rfl) rfl ?_ ?_
    rotate_left
    · go_simp
      rfl
    refine hK.out _ _ ⟨cell_drew (cell_far9 xx0 hnb), cell_drew (cell_far9 xx1 hnb), cell_drew (cell_far9 xx2 hnb), cell_drew (cell_far9 xx3 hnb), cell_drew (cell_far9 xx4 hnb), cell_drew (cell_far9 xx5 hnb), cell_drew (cell_far9 xx6 hnb), cell_drew (cell_far9 xx7 hnb), cell_drew (cell_far9 xx8 hnb), cell_drew (cell_far9 ep2 hnp3)⟩ (fun hHeld => ?_)
    clear hK K
    refine pure_ (i := 6) (N := some 3) (v := ?_) (a' := ?_) #[true, true, true, true, true, true, true] rfl rfl (by kernel_rfl) (fun _ _ _ h => h) (Or.inl ⟨by rfl, ?_⟩) ?_ ?_
    rotate_left
    · intro w'
      go_simp
      with_reducible rfl
    rotate_left
    · simp only [Act.put, List.setIfInBounds_toArray, List.set_cons_zero, List.set_cons_succ, i64_w, i32_w]
      rfl
    refine done_ (by kernel_rfl) ?_
    have hpz := L.out.h2
    go_wp2_with fail
    skip
    refine bodyPost_ret (results_ct rfl _ _ w.heap.size 42 _ (0, 0) _ rfl (drew_blk (set_blk (j := 8) (set_blk (j := 7) (set_blk (j := 6) (set_blk (j := 5) (set_blk (j := 4) (set_blk (j := 3) (set_blk (j := 2) (set_blk (j := 1) (set_blk (j := 0) (HY.out) _) _) _) _) _) _) _) _) _)) Tryd.underlying42 rfl (by kernel_rfl)) rfl ?_
    rw [HGD.out]
    exact xopPost_ok (AtB.drew (AtB.set (AtB.set (AtB.set (AtB.set (AtB.set (AtB.set (AtB.set (AtB.set (AtB.set ⟨HIZ.out.but, HIZ.out.at_⟩ hpw hpz hok 0 _) hpw hpz hok 1 _) hpw hpz hok 2 _) hpw hpz hok 3 _) hpw hpz hok 4 _) hpw hpz hok 5 _) hpw hpz hok 6 _) hpw hpz hok 7 _) hpw hpz hok 8 _)) (.slice none 0 0) rfl (Kd.R_nil k44 44 _ _ _)
set_option maxHeartbeats 2000000 in
theorem xop_4 (w0 : World) (hgl : GL w0) (p : Nat) (ok : Nat → Prop) (s : St) (w : World) (hok : ∀ k, ok k → k < p) (hw : Below w0.heap.size w0 w) (hw0 : w0.heap.size ≤ p) (h : AtR 61 p ok s.1 s.2 w) (hk : (nS s 7).1 = (4, 0)) :
    Calls Tryd.prog 26 #[.pointer (some ⟨p, 0, none⟩)] w fun e w' => xopPost w p ok (opR s) e w' := by
  have hpw := h.lt
  have H := Aside0.mk h
  have he7 : (nS s 7).2.2 = 0 := by rw [← nS_err, hk]
  have HN : Aside0 (∀ W, AtR 61 p ok s.1 s.2 W → Calls Tryd.prog 25 #[.pointer (some ⟨p, 0, none⟩), .int .u64 7] W fun e w' => e = .returned (.tuple #[.int .u64 4, .int .i64 0]) ∧ AtR 61 p ok (nS s 7).2.1 (nS s 7).2.2 w' ∧ But (· = p) W w') := ⟨fun W hW => (x_num p ok s.1 s.2 7 W hW).mono (by
    rintro e w' ⟨he, ha, hb⟩
    refine ⟨he.trans ?_, ha, hb⟩
    show Ending.returned (.tuple #[.int .u64 (nS s 7).1.1, .int .i64 (nS s 7).1.2]) = _
    rw [hk])⟩
  obtain ⟨s1, hs1⟩ : ∃ s1, s1 = (nS s 7).2 := ⟨_, rfl⟩
  rw [← hs1] at HN
  have hB0 := H.out.2.1
  have hB1 := (nS_bytes s 7 hB0).1
  rw [← hs1] at hB1
  have hn1 : num32 (hS s1).1.1 := nS_val s1 4294967295 hB1 (by omega)
  have hw1 := wrap_i64_32 hn1
  have hB2 := (nS_bytes s1 4294967295 hB1).1
  have HCK : Aside0 (∀ {b1 b2 b3 : Nat} {o1 o2 o3 : Obj} W, InvO 61 w p ok b1 o1 b2 o2 b3 o3 (hS s1).2 W ∧ Lie w p ok b1 b2 b3 → Calls Tryd.prog 20 #[.agg #[.int .i64 4, .int .i64 (hS s1).1.1, .int .i64 0, .int .i64 0, .string ⟨#[]⟩, .string ⟨#[]⟩, .string ⟨#[]⟩, .string ⟨#[]⟩, .slice none 0 0]] W fun e w' => e = .returned (.int .i64 (chk ⟨4, (hS s1).1.1, 0, 0, em, em, em, em, []⟩)) ∧ InvO 61 w p ok b1 o1 b2 o2 b3 o3 (hS s1).2 w') := ⟨fun W hW => by
    have hb : Below w0.heap.size w0 W := ⟨hW.1.but.os.trans hw.os, hW.1.but.tape.trans hw.tape, hW.1.but.output.trans hw.output, Nat.le_trans hw.size hW.1.but.size, fun k hk => (hW.1.but.block k (Nat.lt_of_lt_of_le hk hw.size) (by omega)).trans (hw.block k hk)⟩
    have := rcheck_x ⟨4, (hS s1).1.1, 0, 0, em, em, em, em, []⟩ none 0 W (hgl.below hb) (Kd.C_nil k44 W) (Nat.le_refl 0) ⟨i64_k 4 (by omega), i64_32 hn1, i64_k 0 (by omega), i64_k 0 (by omega), Nat.zero_le _, Nat.zero_le _, Nat.zero_le _, Nat.zero_le _, Nat.zero_le _, fun i hi => absurd hi (Nat.not_lt_zero i)⟩
    exact this.mono fun e w' h => ⟨h.1, hW.1.below hW.2 h.2⟩⟩
  by_cases hz : (hS s1).2.2 = 0
  · have HZ := Aside0.mk hz
    have hgood := opR_good s hs1 4 hk (by decide) (by simpa [bodyR] using hz)
    simp only [bodyR, Int.reduceEq, if_false, if_true] at hgood
    have HGD := Aside0.mk hgood
    clear h hgl hw he7 hs1 hgood hz hk hB0 hB1 hB2 hn1
    go_enter Tryd.func26, Tryd.ntmps26
    go_wp2_with (first
    | (go_at_call 25; (with_reducible refine (HN.out _ (AtR.al H.out _)).mono ?_); rintro e w1 ⟨rfl, h2, h3⟩; have HI0 := Aside0.mk (xinv_start w p ok (.cells #[.int .i64 0, .int .i64 0, .int .i64 0, .int .i64 0, .string ⟨#[]⟩, .string ⟨#[]⟩, .string ⟨#[]⟩, .string ⟨#[]⟩, .slice none 0 0] 42) (.cells #[.int .i64 4, .int .i64 0, .int .i64 0, .int .i64 0, .string ⟨#[]⟩, .string ⟨#[]⟩, .string ⟨#[]⟩, .string ⟨#[]⟩, .slice none 0 0] 42) s1 w1 hpw h2 h3); have L := Aside0.mk (xlie_start w p ok _ w1 hpw hok h3); have hne : ¬ w.heap.size = w1.heap.size := L.out.n13; have hnp : ¬ p = w1.heap.size := (by have := L.out.h3; omega); clear h2 h3)
    | (go_at_call 25; (with_reducible refine (InvO.xhandle HI0.out L.out).mono ?_); rintro e w2 ⟨rfl, hI⟩; have HI1 := Aside0.mk hI; clear hI; have ep := AtR.err HI1.out.at_; rw [HZ.out] at ep; have fz := Lib.frozen_of_heap HI1.out.k3 1; have HC := InvO.k3 HI1.out; have x0 := cell_blk (j := 0) (v := .int .i64 4) HC rfl; have x1 := cell_blk (j := 1) (v := .int .i64 0) HC rfl; have x2 := cell_blk (j := 2) (v := .int .i64 0) HC rfl; have x3 := cell_blk (j := 3) (v := .int .i64 0) HC rfl; have x4 := cell_blk (j := 4) (v := .string ⟨#[]⟩) HC rfl; have x5 := cell_blk (j := 5) (v := .string ⟨#[]⟩) HC rfl; have x6 := cell_blk (j := 6) (v := .string ⟨#[]⟩) HC rfl; have x7 := cell_blk (j := 7) (v := .string ⟨#[]⟩) HC rfl; have x8 := cell_blk (j := 8) (v := .slice none 0 0) HC rfl; clear HC))
    have HIZ := Aside0.mk (InvO.set HI1.out L.out 1 (.int .i64 (hS s1).1.1))
    have HC := HIZ.out.k3
    have xx0 := cell_blk (j := 0) (v := .int .i64 4) HC rfl
    have xx1 := cell_blk (j := 1) (v := .int .i64 (hS s1).1.1) HC rfl
    have xx2 := cell_blk (j := 2) (v := .int .i64 0) HC rfl
    have xx3 := cell_blk (j := 3) (v := .int .i64 0) HC rfl
    have xx4 := cell_blk (j := 4) (v := .string ⟨#[]⟩) HC rfl
    have xx5 := cell_blk (j := 5) (v := .string ⟨#[]⟩) HC rfl
    have xx6 := cell_blk (j := 6) (v := .string ⟨#[]⟩) HC rfl
    have xx7 := cell_blk (j := 7) (v := .string ⟨#[]⟩) HC rfl
    have xx8 := cell_blk (j := 8) (v := .slice none 0 0) HC rfl
    have HIY := Aside0.mk (HIZ.out.xdrew L.out)
    clear HC x0 x1 x2 x3 x4 x5 x6 x7 x8 ep fz
    refine start_ (n := 5) (S := fun w' => w'.cell? ⟨w1.heap.size, 0, none⟩ = some (.int .i64 4) ∧ w'.cell? ⟨w1.heap.size, 1, none⟩ = some (.int .i64 (hS s1).1.1) ∧ w'.cell? ⟨w1.heap.size, 2, none⟩ = some (.int .i64 0) ∧ w'.cell? ⟨w1.heap.size, 3, none⟩ = some (.int .i64 0) ∧ w'.cell? ⟨w1.heap.size, 4, none⟩ = some (.string ⟨#[]⟩) ∧ w'.cell? ⟨w1.heap.size, 5, none⟩ = some (.string ⟨#[]⟩) ∧ w'.cell? ⟨w1.heap.size, 6, none⟩ = some (.string ⟨#[]⟩) ∧ w'.cell? ⟨w1.heap.size, 7, none⟩ = some (.string ⟨#[]⟩) ∧ w'.cell? ⟨w1.heap.size, 8, none⟩ = some (.slice none 0 0)) (ds := [3]) #[false, false, false, false, false] (by kernel_rfl) rfl rfl ⟨cell_drew xx0, cell_drew xx1, cell_drew xx2, cell_drew xx3, cell_drew xx4, cell_drew xx5, cell_drew xx6, cell_drew xx7, cell_drew xx8⟩ (fun hHeld => ?_)
    refine take_ (i := 0) (N := some 123) (v := ?_) (a' := ?_) #[true, false, false, false, false] rfl rfl (by kernel_rfl) (fun _ _ _ h => h) (Or.inl ⟨by rfl, ?_⟩) hHeld ?_ ?_
    rotate_left
    · intro w' s0
      go_split_ands
      go_simp
      with_reducible rfl
    rotate_left
    · simp only [Act.put, List.setIfInBounds_toArray, List.set_cons_zero, List.set_cons_succ, i64_w, i32_w]
      rfl
    refine take_ (i := 1) (N := some 124) (v := ?_) (a' := ?_) #[true, true, false, false, false] rfl rfl (by kernel_rfl) (fun _ _ _ h => h) (Or.inl ⟨by rfl, ?_⟩) hHeld ?_ ?_
    rotate_left
    · intro w' s0
      go_split_ands
      go_simp
      with_reducible rfl
    rotate_left
    · simp only [Act.put, List.setIfInBounds_toArray, List.set_cons_zero, List.set_cons_succ, i64_w, i32_w]
      rfl
    refine one_ (i := 2) (N := some 125) #[true, true, true, false, false] rfl rfl (by kernel_rfl) (by decide) (fun K hK => ?_)
    refine goes_ Tryd.func20 (by kernel_rfl) rfl #[.agg #[.int .i64 4, .int .i64 (hS s1).1.1, .int .i64 0, .int .i64 0, .string ⟨#[]⟩, .string ⟨#[]⟩, .string ⟨#[]⟩, .string ⟨#[]⟩, .slice none 0 0]] (by rfl) rfl rfl (by (try simp only [List.map_toArray, List.map_cons, List.map_nil]); first | done | rfl) ?_
    refine (HCK.out _ ⟨HIY.out, L.out⟩).mono ?_
    rintro e wc ⟨rfl, hI⟩
    refine ⟨_, rfl, ?_⟩
    have HIC := Aside0.mk hI
    have HC := hI.k3
    have v0 := cell_blk (j := 0) (v := .int .i64 4) HC rfl
    have v1 := cell_blk (j := 1) (v := .int .i64 (hS s1).1.1) HC rfl
    have v2 := cell_blk (j := 2) (v := .int .i64 0) HC rfl
    have v3 := cell_blk (j := 3) (v := .int .i64 0) HC rfl
    have v4 := cell_blk (j := 4) (v := .string ⟨#[]⟩) HC rfl
    have v5 := cell_blk (j := 5) (v := .string ⟨#[]⟩) HC rfl
    have v6 := cell_blk (j := 6) (v := .string ⟨#[]⟩) HC rfl
    have v7 := cell_blk (j := 7) (v := .string ⟨#[]⟩) HC rfl
    have v8 := cell_blk (j := 8) (v := .slice none 0 0) HC rfl
    have HY := Aside0.mk hI.k2
    have y0 := cell_blk (j := 0) (v := .int .i64 0) HY.out rfl
    have z0 := Lib.frozen_of_heap HY.out 0
    have y1 := cell_blk (j := 1) (v := .int .i64 0) HY.out rfl
    have z1 := Lib.frozen_of_heap HY.out 1
    have y2 := cell_blk (j := 2) (v := .int .i64 0) HY.out rfl
    have z2 := Lib.frozen_of_heap HY.out 2
    have y3 := cell_blk (j := 3) (v := .int .i64 0) HY.out rfl
    have z3 := Lib.frozen_of_heap HY.out 3
    have y4 := cell_blk (j := 4) (v := .string ⟨#[]⟩) HY.out rfl
    have z4 := Lib.frozen_of_heap HY.out 4
    have y5 := cell_blk (j := 5) (v := .string ⟨#[]⟩) HY.out rfl
    have z5 := Lib.frozen_of_heap HY.out 5
    have y6 := cell_blk (j := 6) (v := .string ⟨#[]⟩) HY.out rfl
    have z6 := Lib.frozen_of_heap HY.out 6
    have y7 := cell_blk (j := 7) (v := .string ⟨#[]⟩) HY.out rfl
    have z7 := Lib.frozen_of_heap HY.out 7
    have y8 := cell_blk (j := 8) (v := .slice none 0 0) HY.out rfl
    have z8 := Lib.frozen_of_heap HY.out 8
    clear HC hI
    refine hK.out _ _ ⟨v0, v1, v2, v3, v4, v5, v6, v7, v8⟩ (fun hHeld => ?_)
    clear hK K
    refine norm_ (a' := ?_) ?_ ?_
    rotate_left
    · show Act.put _ (some 125) _ = _
      simp only [Act.put, List.setIfInBounds_toArray, List.set_cons_zero, List.set_cons_succ, i64_w, i32_w]
      rfl
    refine last_ (i := 3) (N := none) #[true, true, true, true, false] rfl rfl (by kernel_rfl) (by decide) (fun K hK => ?_)
    refine skip_ (w1 := ?_) (by rfl) rfl ?_ ?_
    rotate_left
    · go_simp
      rfl
    refine hK.out _ _ ?_
    clear hK K
    refine pure_ (i := 4) (N := some 3) (v := ?_) (a' := ?_) #[true, true, true, true, true] rfl rfl (by kernel_rfl) (fun _ _ _ h => h) (Or.inl ⟨by rfl, ?_⟩) ?_ ?_
    rotate_left
    · intro w'
      go_simp
      with_reducible rfl
    rotate_left
    · simp only [Act.put, List.setIfInBounds_toArray, List.set_cons_zero, List.set_cons_succ, i64_w, i32_w]
      rfl
    refine done_ (by kernel_rfl) ?_
    have hpz := L.out.h2
    go_wp2_with fail
    skip
    refine bodyPost_ret (results_ct rfl _ _ w.heap.size 42 _ (0, 0) _ rfl ((set_blk (j := 8) (set_blk (j := 7) (set_blk (j := 6) (set_blk (j := 5) (set_blk (j := 4) (set_blk (j := 3) (set_blk (j := 2) (set_blk (j := 1) (set_blk (j := 0) (HY.out) _) _) _) _) _) _) _) _) _)) Tryd.underlying42 rfl (by kernel_rfl)) rfl ?_
    rw [HGD.out]
    exact xopPost_ok ((AtB.set (AtB.set (AtB.set (AtB.set (AtB.set (AtB.set (AtB.set (AtB.set (AtB.set ⟨HIC.out.but, HIC.out.at_⟩ hpw hpz hok 0 _) hpw hpz hok 1 _) hpw hpz hok 2 _) hpw hpz hok 3 _) hpw hpz hok 4 _) hpw hpz hok 5 _) hpw hpz hok 6 _) hpw hpz hok 7 _) hpw hpz hok 8 _)) (.slice none 0 0) rfl (Kd.R_nil k44 44 _ _ _)
  · have hgood := opR_badx s hs1 4 hk (by decide) (by simpa [bodyR] using hz)
    simp only [bodyR, Int.reduceEq, if_false, if_true] at hgood
    have HGD := Aside0.mk hgood
    have h1 : ((hS s1).2.2 == 0) = false := by simpa using hz
    have h2 : ((hS s1).2.2 != 0) = true := by simpa using hz
    clear h hgl hw he7 hs1 hgood hk hB0 hB1 hB2 hn1
    go_enter Tryd.func26, Tryd.ntmps26
    go_wp2_with (first
    | (go_at_call 25; (with_reducible refine (HN.out _ (AtR.al H.out _)).mono ?_); rintro e w1 ⟨rfl, h2, h3⟩; have HI0 := Aside0.mk (xinv_start w p ok (.cells #[.int .i64 0, .int .i64 0, .int .i64 0, .int .i64 0, .string ⟨#[]⟩, .string ⟨#[]⟩, .string ⟨#[]⟩, .string ⟨#[]⟩, .slice none 0 0] 42) (.cells #[.int .i64 4, .int .i64 0, .int .i64 0, .int .i64 0, .string ⟨#[]⟩, .string ⟨#[]⟩, .string ⟨#[]⟩, .string ⟨#[]⟩, .slice none 0 0] 42) s1 w1 hpw h2 h3); have L := Aside0.mk (xlie_start w p ok _ w1 hpw hok h3); have hne : ¬ w.heap.size = w1.heap.size := L.out.n13; have hnp : ¬ p = w1.heap.size := (by have := L.out.h3; omega); clear h2 h3)
    | (go_at_call 25; (with_reducible refine (InvO.xhandle HI0.out L.out).mono ?_); rintro e w2 ⟨rfl, hI⟩; have HI1 := Aside0.mk hI; clear hI; have ep := AtR.err HI1.out.at_; have fz := Lib.frozen_of_heap HI1.out.k3 1; have HC := InvO.k3 HI1.out; have x0 := cell_blk (j := 0) (v := .int .i64 4) HC rfl; have x1 := cell_blk (j := 1) (v := .int .i64 0) HC rfl; have x2 := cell_blk (j := 2) (v := .int .i64 0) HC rfl; have x3 := cell_blk (j := 3) (v := .int .i64 0) HC rfl; have x4 := cell_blk (j := 4) (v := .string ⟨#[]⟩) HC rfl; have x5 := cell_blk (j := 5) (v := .string ⟨#[]⟩) HC rfl; have x6 := cell_blk (j := 6) (v := .string ⟨#[]⟩) HC rfl; have x7 := cell_blk (j := 7) (v := .string ⟨#[]⟩) HC rfl; have x8 := cell_blk (j := 8) (v := .slice none 0 0) HC rfl; clear HC))
    have HIZ := Aside0.mk (InvO.set HI1.out L.out 1 (.int .i64 (hS s1).1.1))
    have HC := HIZ.out.k3
    have xx0 := cell_blk (j := 0) (v := .int .i64 4) HC rfl
    have xx1 := cell_blk (j := 1) (v := .int .i64 (hS s1).1.1) HC rfl
    have xx2 := cell_blk (j := 2) (v := .int .i64 0) HC rfl
    have xx3 := cell_blk (j := 3) (v := .int .i64 0) HC rfl
    have xx4 := cell_blk (j := 4) (v := .string ⟨#[]⟩) HC rfl
    have xx5 := cell_blk (j := 5) (v := .string ⟨#[]⟩) HC rfl
    have xx6 := cell_blk (j := 6) (v := .string ⟨#[]⟩) HC rfl
    have xx7 := cell_blk (j := 7) (v := .string ⟨#[]⟩) HC rfl
    have xx8 := cell_blk (j := 8) (v := .slice none 0 0) HC rfl
    have ep2 := AtR.err HIZ.out.at_
    have HIY := Aside0.mk (HIZ.out.xdrew L.out)
    clear HC x0 x1 x2 x3 x4 x5 x6 x7 x8 ep fz
    refine start_ (n := 7) (S := fun w' => w'.cell? ⟨w1.heap.size, 0, none⟩ = some (.int .i64 4) ∧ w'.cell? ⟨w1.heap.size, 1, none⟩ = some (.int .i64 (hS s1).1.1) ∧ w'.cell? ⟨w1.heap.size, 2, none⟩ = some (.int .i64 0) ∧ w'.cell? ⟨w1.heap.size, 3, none⟩ = some (.int .i64 0) ∧ w'.cell? ⟨w1.heap.size, 4, none⟩ = some (.string ⟨#[]⟩) ∧ w'.cell? ⟨w1.heap.size, 5, none⟩ = some (.string ⟨#[]⟩) ∧ w'.cell? ⟨w1.heap.size, 6, none⟩ = some (.string ⟨#[]⟩) ∧ w'.cell? ⟨w1.heap.size, 7, none⟩ = some (.string ⟨#[]⟩) ∧ w'.cell? ⟨w1.heap.size, 8, none⟩ = some (.slice none 0 0) ∧ w'.cell? ⟨p, 1, none⟩ = some (.int .i64 (hS s1).2.2)) (ds := []) #[false, false, false, false, false, false, false] (by kernel_rfl) rfl rfl ⟨cell_drew xx0, cell_drew xx1, cell_drew xx2, cell_drew xx3, cell_drew xx4, cell_drew xx5, cell_drew xx6, cell_drew xx7, cell_drew xx8, cell_drew ep2⟩ (fun hHeld => ?_)
    refine take_ (i := 0) (N := some 118) (v := ?_) (a' := ?_) #[true, false, false, false, false, false, false] rfl rfl (by kernel_rfl) (fun _ _ _ h => h) (Or.inl ⟨by rfl, ?_⟩) hHeld ?_ ?_
    rotate_left
    · intro w' s0
      go_split_ands
      go_simp
      with_reducible rfl
    rotate_left
    · simp only [Act.put, List.setIfInBounds_toArray, List.set_cons_zero, List.set_cons_succ, i64_w, i32_w]
      rfl
    refine pure_ (i := 1) (N := some 119) (v := ?_) (a' := ?_) #[true, true, false, false, false, false, false] rfl rfl (by kernel_rfl) (fun _ _ _ h => h) (Or.inl ⟨by rfl, ?_⟩) ?_ ?_
    rotate_left
    · intro w'
      go_simp
      with_reducible rfl
    rotate_left
    · simp only [Act.put, List.setIfInBounds_toArray, List.set_cons_zero, List.set_cons_succ, i64_w, i32_w]
      rfl
    refine take_ (i := 2) (N := some 120) (v := ?_) (a' := ?_) #[true, true, true, false, false, false, false] rfl rfl (by kernel_rfl) (fun _ _ _ h => h) (Or.inl ⟨by rfl, ?_⟩) hHeld ?_ ?_
    rotate_left
    · intro w' s0
      go_split_ands
      go_simp
      with_reducible rfl
    rotate_left
    · simp only [Act.put, List.setIfInBounds_toArray, List.set_cons_zero, List.set_cons_succ, i64_w, i32_w]
      rfl
    refine pure_ (i := 3) (N := some 121) (v := ?_) (a' := ?_) #[true, true, true, true, false, false, false] rfl rfl (by kernel_rfl) (fun _ _ _ h => h) (Or.inl ⟨by rfl, ?_⟩) ?_ ?_
    rotate_left
    · intro w'
      go_simp
      with_reducible rfl
    rotate_left
    · simp only [Act.put, List.setIfInBounds_toArray, List.set_cons_zero, List.set_cons_succ, i64_w, i32_w]
      rfl
    refine take_ (i := 4) (N := some 122) (v := ?_) (a' := ?_) #[true, true, true, true, true, false, false] rfl rfl (by kernel_rfl) (fun _ _ _ h => h) (Or.inl ⟨by rfl, ?_⟩) hHeld ?_ ?_
    rotate_left
    · intro w' s0
      go_split_ands
      go_simp
      with_reducible rfl
    rotate_left
    · simp only [Act.put, List.setIfInBounds_toArray, List.set_cons_zero, List.set_cons_succ, i64_w, i32_w]
      rfl
    have HY := Aside0.mk HIZ.out.k2
    have HYB := Aside0.mk HI1.out.k2
    have y0 := cell_blk (j := 0) (v := .int .i64 0) HYB.out rfl
    have z0 := Lib.frozen_of_heap HYB.out 0
    have y1 := cell_blk (j := 1) (v := .int .i64 0) HYB.out rfl
    have z1 := Lib.frozen_of_heap HYB.out 1
    have y2 := cell_blk (j := 2) (v := .int .i64 0) HYB.out rfl
    have z2 := Lib.frozen_of_heap HYB.out 2
    have y3 := cell_blk (j := 3) (v := .int .i64 0) HYB.out rfl
    have z3 := Lib.frozen_of_heap HYB.out 3
    have y4 := cell_blk (j := 4) (v := .string ⟨#[]⟩) HYB.out rfl
    have z4 := Lib.frozen_of_heap HYB.out 4
    have y5 := cell_blk (j := 5) (v := .string ⟨#[]⟩) HYB.out rfl
    have z5 := Lib.frozen_of_heap HYB.out 5
    have y6 := cell_blk (j := 6) (v := .string ⟨#[]⟩) HYB.out rfl
    have z6 := Lib.frozen_of_heap HYB.out 6
    have y7 := cell_blk (j := 7) (v := .string ⟨#[]⟩) HYB.out rfl
    have z7 := Lib.frozen_of_heap HYB.out 7
    have y8 := cell_blk (j := 8) (v := .slice none 0 0) HYB.out rfl
    have z8 := Lib.frozen_of_heap HYB.out 8
    have hnb : ¬ w1.heap.size = w.heap.size := fun e => hne e.symm
    have hnp3 : ¬ p = w.heap.size := by omega
    refine one_ (i := 5) (N := none) #[true, true, true, true, true, true, false] rfl rfl (by kernel_rfl) (by decide) (fun K hK => ?_)
    refine skip_ (w1 := ?_) (by rfl) rfl ?_ ?_
    rotate_left
    · go_simp
      rfl
    refine hK.out _ _ ⟨cell_drew (cell_far9 xx0 hnb), cell_drew (cell_far9 xx1 hnb), cell_drew (cell_far9 xx2 hnb), cell_drew (cell_far9 xx3 hnb), cell_drew (cell_far9 xx4 hnb), cell_drew (cell_far9 xx5 hnb), cell_drew (cell_far9 xx6 hnb), cell_drew (cell_far9 xx7 hnb), cell_drew (cell_far9 xx8 hnb), cell_drew (cell_far9 ep2 hnp3)⟩ (fun hHeld => ?_)
    clear hK K
    refine pure_ (i := 6) (N := some 3) (v := ?_) (a' := ?_) #[true, true, true, true, true, true, true] rfl rfl (by kernel_rfl) (fun _ _ _ h => h) (Or.inl ⟨by rfl, ?_⟩) ?_ ?_
    rotate_left
    · intro w'
      go_simp
      with_reducible rfl
    rotate_left
    · simp only [Act.put, List.setIfInBounds_toArray, List.set_cons_zero, List.set_cons_succ, i64_w, i32_w]
      rfl
    refine done_ (by kernel_rfl) ?_
    have hpz := L.out.h2
    go_wp2_with fail
    skip
    refine bodyPost_ret (results_ct rfl _ _ w.heap.size 42 _ (0, 0) _ rfl (drew_blk (set_blk (j := 8) (set_blk (j := 7) (set_blk (j := 6) (set_blk (j := 5) (set_blk (j := 4) (set_blk (j := 3) (set_blk (j := 2) (set_blk (j := 1) (set_blk (j := 0) (HY.out) _) _) _) _) _) _) _) _) _)) Tryd.underlying42 rfl (by kernel_rfl)) rfl ?_
    rw [HGD.out]
    exact xopPost_ok (AtB.drew (AtB.set (AtB.set (AtB.set (AtB.set (AtB.set (AtB.set (AtB.set (AtB.set (AtB.set ⟨HIZ.out.but, HIZ.out.at_⟩ hpw hpz hok 0 _) hpw hpz hok 1 _) hpw hpz hok 2 _) hpw hpz hok 3 _) hpw hpz hok 4 _) hpw hpz hok 5 _) hpw hpz hok 6 _) hpw hpz hok 7 _) hpw hpz hok 8 _)) (.slice none 0 0) rfl (Kd.R_nil k44 44 _ _ _)
end Go.Proofs.YtfpijjjmgggfkaaDoorE

namespace Go.Proofs.YtfpijjjmgggfkaaDoorE
open Go Go.RowKit Go.Proofs.YtfpijjjmgggfkaaDoorW.PrintWords Go.Proofs.YtfpijjjmgggfkaaDoorW.PrintMore Go.Proofs.YtfpijjjmgggfkaaDoorW.PrintLast Go.Proofs.YtfpijjjmgggfkaaDoorX Go.Proofs.YtfpijjjmgggfkaaDoor.P26 Go.Proofs.YtfpijjjmgggfkaaDoor.L01
set_option linter.unusedVariables false
set_option linter.unusedSimpArgs false
set_option maxRecDepth 100000
set_option maxHeartbeats 2000000 in
theorem xop_5 (w0 : World) (hgl : GL w0) (p : Nat) (ok : Nat → Prop) (s : St) (w : World) (hok : ∀ k, ok k → k < p) (hw : Below w0.heap.size w0 w) (hw0 : w0.heap.size ≤ p) (h : AtR 61 p ok s.1 s.2 w) (hk : (nS s 7).1 = (5, 0)) :
    Calls Tryd.prog 26 #[.pointer (some ⟨p, 0, none⟩)] w fun e w' => xopPost w p ok (opR s) e w' := by
  have hpw := h.lt
  have H := Aside0.mk h
  have he7 : (nS s 7).2.2 = 0 := by rw [← nS_err, hk]
  have HN : Aside0 (∀ W, AtR 61 p ok s.1 s.2 W → Calls Tryd.prog 25 #[.pointer (some ⟨p, 0, none⟩), .int .u64 7] W fun e w' => e = .returned (.tuple #[.int .u64 5, .int .i64 0]) ∧ AtR 61 p ok (nS s 7).2.1 (nS s 7).2.2 w' ∧ But (· = p) W w') := ⟨fun W hW => (x_num p ok s.1 s.2 7 W hW).mono (by
    rintro e w' ⟨he, ha, hb⟩
    refine ⟨he.trans ?_, ha, hb⟩
    show Ending.returned (.tuple #[.int .u64 (nS s 7).1.1, .int .i64 (nS s 7).1.2]) = _
    rw [hk])⟩
  obtain ⟨s1, hs1⟩ : ∃ s1, s1 = (nS s 7).2 := ⟨_, rfl⟩
  rw [← hs1] at HN
  have hB0 := H.out.2.1
  have hB1 := (nS_bytes s 7 hB0).1
  rw [← hs1] at hB1
  have hn1 : num32 (hS s1).1.1 := nS_val s1 4294967295 hB1 (by omega)
  have hw1 := wrap_i64_32 hn1
  have hB2 := (nS_bytes s1 4294967295 hB1).1
  have hs6 : ((tS (hS s1).2).1.1).size ≤ 65536 := tS_size (hS s1).2 hB2
  have hB3 := (tS_bytes (hS s1).2 hB2).1
  have hs7 : ((tS (tS (hS s1).2).2).1.1).size ≤ 65536 := tS_size (tS (hS s1).2).2 hB3
  have hB4 := (tS_bytes (tS (hS s1).2).2 hB3).1
  have HCK : Aside0 (∀ {b1 b2 b3 : Nat} {o1 o2 o3 : Obj} W, InvO 61 w p ok b1 o1 b2 o2 b3 o3 (tS (tS (hS s1).2).2).2 W ∧ Lie w p ok b1 b2 b3 → Calls Tryd.prog 20 #[.agg #[.int .i64 5, .int .i64 (hS s1).1.1, .int .i64 0, .int .i64 0, .string ⟨#[]⟩, .string ⟨#[]⟩, .string (tS (hS s1).2).1.1, .string (tS (tS (hS s1).2).2).1.1, .slice none 0 0]] W fun e w' => e = .returned (.int .i64 (chk ⟨5, (hS s1).1.1, 0, 0, em, em, (tS (hS s1).2).1.1, (tS (tS (hS s1).2).2).1.1, []⟩)) ∧ InvO 61 w p ok b1 o1 b2 o2 b3 o3 (tS (tS (hS s1).2).2).2 w') := ⟨fun W hW => by
    have hb : Below w0.heap.size w0 W := ⟨hW.1.but.os.trans hw.os, hW.1.but.tape.trans hw.tape, hW.1.but.output.trans hw.output, Nat.le_trans hw.size hW.1.but.size, fun k hk => (hW.1.but.block k (Nat.lt_of_lt_of_le hk hw.size) (by omega)).trans (hw.block k hk)⟩
    have := rcheck_x ⟨5, (hS s1).1.1, 0, 0, em, em, (tS (hS s1).2).1.1, (tS (tS (hS s1).2).2).1.1, []⟩ none 0 W (hgl.below hb) (Kd.C_nil k44 W) (Nat.le_refl 0) ⟨i64_k 5 (by omega), i64_32 hn1, i64_k 0 (by omega), i64_k 0 (by omega), Nat.zero_le _, Nat.zero_le _, size_up hs6, size_up hs7, Nat.zero_le _, fun i hi => absurd hi (Nat.not_lt_zero i)⟩
    exact this.mono fun e w' h => ⟨h.1, hW.1.below hW.2 h.2⟩⟩
  by_cases hz : (tS (tS (hS s1).2).2).2.2 = 0
  · have HZ := Aside0.mk hz
    have hgood := opR_good s hs1 5 hk (by decide) (by simpa [bodyR] using hz)
    simp only [bodyR, Int.reduceEq, if_false, if_true] at hgood
    have HGD := Aside0.mk hgood
    clear h hgl hw he7 hs1 hgood hz hk hB0 hB1 hB2 hB3 hB4 hn1 hs6 hs7
    go_enter Tryd.func26, Tryd.ntmps26
    go_wp2_with (first
    | (go_at_call 25; (with_reducible refine (HN.out _ (AtR.al H.out _)).mono ?_); rintro e w1 ⟨rfl, h2, h3⟩; have HI0 := Aside0.mk (xinv_start w p ok (.cells #[.int .i64 0, .int .i64 0, .int .i64 0, .int .i64 0, .string ⟨#[]⟩, .string ⟨#[]⟩, .string ⟨#[]⟩, .string ⟨#[]⟩, .slice none 0 0] 42) (.cells #[.int .i64 5, .int .i64 0, .int .i64 0, .int .i64 0, .string ⟨#[]⟩, .string ⟨#[]⟩, .string ⟨#[]⟩, .string ⟨#[]⟩, .slice none 0 0] 42) s1 w1 hpw h2 h3); have L := Aside0.mk (xlie_start w p ok _ w1 hpw hok h3); have hne : ¬ w.heap.size = w1.heap.size := L.out.n13; have hnp : ¬ p = w1.heap.size := (by have := L.out.h3; omega); clear h2 h3)
    | (go_at_call 25; (with_reducible refine (InvO.xhandle HI0.out L.out).mono ?_); rintro e w2 ⟨rfl, hI⟩; have HI1 := Aside0.mk hI; clear hI; have ep := AtR.err HI1.out.at_; have fz := Lib.frozen_of_heap HI1.out.k3 1; have HC := InvO.k3 HI1.out; have x0 := cell_blk (j := 0) (v := .int .i64 5) HC rfl; have x1 := cell_blk (j := 1) (v := .int .i64 0) HC rfl; have x2 := cell_blk (j := 2) (v := .int .i64 0) HC rfl; have x3 := cell_blk (j := 3) (v := .int .i64 0) HC rfl; have x4 := cell_blk (j := 4) (v := .string ⟨#[]⟩) HC rfl; have x5 := cell_blk (j := 5) (v := .string ⟨#[]⟩) HC rfl; have x6 := cell_blk (j := 6) (v := .string ⟨#[]⟩) HC rfl; have x7 := cell_blk (j := 7) (v := .string ⟨#[]⟩) HC rfl; have x8 := cell_blk (j := 8) (v := .slice none 0 0) HC rfl; clear HC)
    | (go_at_call 48; (with_reducible refine (InvO.xnextS (InvO.set HI1.out L.out 1 (.int .i64 (hS s1).1.1)) L.out).mono ?_); rintro e w3 ⟨rfl, hI⟩; have HI2 := Aside0.mk hI; clear hI; clear x0 x1 x2 x3 x4 x5 x6 x7 x8 fz ep; have ep := AtR.err HI2.out.at_; have fz := Lib.frozen_of_heap HI2.out.k3 6; have HC := InvO.k3 HI2.out; have x0 := cell_blk (j := 0) (v := .int .i64 5) HC rfl; have x1 := cell_blk (j := 1) (v := .int .i64 (hS s1).1.1) HC rfl; have x2 := cell_blk (j := 2) (v := .int .i64 0) HC rfl; have x3 := cell_blk (j := 3) (v := .int .i64 0) HC rfl; have x4 := cell_blk (j := 4) (v := .string ⟨#[]⟩) HC rfl; have x5 := cell_blk (j := 5) (v := .string ⟨#[]⟩) HC rfl; have x6 := cell_blk (j := 6) (v := .string ⟨#[]⟩) HC rfl; have x7 := cell_blk (j := 7) (v := .string ⟨#[]⟩) HC rfl; have x8 := cell_blk (j := 8) (v := .slice none 0 0) HC rfl; clear HC)
    | (go_at_call 48; (with_reducible refine (InvO.xnextS (InvO.set HI2.out L.out 6 (.string (tS (hS s1).2).1.1)) L.out).mono ?_); rintro e w4 ⟨rfl, hI⟩; have HI3 := Aside0.mk hI; clear hI; clear x0 x1 x2 x3 x4 x5 x6 x7 x8 fz ep; have ep := AtR.err HI3.out.at_; rw [HZ.out] at ep; have fz := Lib.frozen_of_heap HI3.out.k3 7; have HC := InvO.k3 HI3.out; have x0 := cell_blk (j := 0) (v := .int .i64 5) HC rfl; have x1 := cell_blk (j := 1) (v := .int .i64 (hS s1).1.1) HC rfl; have x2 := cell_blk (j := 2) (v := .int .i64 0) HC rfl; have x3 := cell_blk (j := 3) (v := .int .i64 0) HC rfl; have x4 := cell_blk (j := 4) (v := .string ⟨#[]⟩) HC rfl; have x5 := cell_blk (j := 5) (v := .string ⟨#[]⟩) HC rfl; have x6 := cell_blk (j := 6) (v := .string (tS (hS s1).2).1.1) HC rfl; have x7 := cell_blk (j := 7) (v := .string ⟨#[]⟩) HC rfl; have x8 := cell_blk (j := 8) (v := .slice none 0 0) HC rfl; clear HC))
    have HIZ := Aside0.mk (InvO.set HI3.out L.out 7 (.string (tS (tS (hS s1).2).2).1.1))
    have HC := HIZ.out.k3
    have xx0 := cell_blk (j := 0) (v := .int .i64 5) HC rfl
    have xx1 := cell_blk (j := 1) (v := .int .i64 (hS s1).1.1) HC rfl
    have xx2 := cell_blk (j := 2) (v := .int .i64 0) HC rfl
    have xx3 := cell_blk (j := 3) (v := .int .i64 0) HC rfl
    have xx4 := cell_blk (j := 4) (v := .string ⟨#[]⟩) HC rfl
    have xx5 := cell_blk (j := 5) (v := .string ⟨#[]⟩) HC rfl
    have xx6 := cell_blk (j := 6) (v := .string (tS (hS s1).2).1.1) HC rfl
    have xx7 := cell_blk (j := 7) (v := .string (tS (tS (hS s1).2).2).1.1) HC rfl
    have xx8 := cell_blk (j := 8) (v := .slice none 0 0) HC rfl
    have HIY := Aside0.mk (HIZ.out.xdrew L.out)
    clear HC x0 x1 x2 x3 x4 x5 x6 x7 x8 ep fz
    refine start_ (n := 5) (S := fun w' => w'.cell? ⟨w1.heap.size, 0, none⟩ = some (.int .i64 5) ∧ w'.cell? ⟨w1.heap.size, 1, none⟩ = some (.int .i64 (hS s1).1.1) ∧ w'.cell? ⟨w1.heap.size, 2, none⟩ = some (.int .i64 0) ∧ w'.cell? ⟨w1.heap.size, 3, none⟩ = some (.int .i64 0) ∧ w'.cell? ⟨w1.heap.size, 4, none⟩ = some (.string ⟨#[]⟩) ∧ w'.cell? ⟨w1.heap.size, 5, none⟩ = some (.string ⟨#[]⟩) ∧ w'.cell? ⟨w1.heap.size, 6, none⟩ = some (.string (tS (hS s1).2).1.1) ∧ w'.cell? ⟨w1.heap.size, 7, none⟩ = some (.string (tS (tS (hS s1).2).2).1.1) ∧ w'.cell? ⟨w1.heap.size, 8, none⟩ = some (.slice none 0 0)) (ds := [3]) #[false, false, false, false, false] (by kernel_rfl) rfl rfl ⟨cell_drew xx0, cell_drew xx1, cell_drew xx2, cell_drew xx3, cell_drew xx4, cell_drew xx5, cell_drew xx6, cell_drew xx7, cell_drew xx8⟩ (fun hHeld => ?_)
    refine take_ (i := 0) (N := some 123) (v := ?_) (a' := ?_) #[true, false, false, false, false] rfl rfl (by kernel_rfl) (fun _ _ _ h => h) (Or.inl ⟨by rfl, ?_⟩) hHeld ?_ ?_
    rotate_left
    · intro w' s0
      go_split_ands
      go_simp
      with_reducible rfl
    rotate_left
    · simp only [Act.put, List.setIfInBounds_toArray, List.set_cons_zero, List.set_cons_succ, i64_w, i32_w]
      rfl
    refine take_ (i := 1) (N := some 124) (v := ?_) (a' := ?_) #[true, true, false, false, false] rfl rfl (by kernel_rfl) (fun _ _ _ h => h) (Or.inl ⟨by rfl, ?_⟩) hHeld ?_ ?_
    rotate_left
    · intro w' s0
      go_split_ands
      go_simp
      with_reducible rfl
    rotate_left
    · simp only [Act.put, List.setIfInBounds_toArray, List.set_cons_zero, List.set_cons_succ, i64_w, i32_w]
      rfl
    refine one_ (i := 2) (N := some 125) #[true, true, true, false, false] rfl rfl (by kernel_rfl) (by decide) (fun K hK => ?_)
    refine goes_ Tryd.func20 (by kernel_rfl) rfl #[.agg #[.int .i64 5, .int .i64 (hS s1).1.1, .int .i64 0, .int .i64 0, .string ⟨#[]⟩, .string ⟨#[]⟩, .string (tS (hS s1).2).1.1, .string (tS (tS (hS s1).2).2).1.1, .slice none 0 0]] (by rfl) rfl rfl (by (try simp only [List.map_toArray, List.map_cons, List.map_nil]); first | done | rfl) ?_
    refine (HCK.out _ ⟨HIY.out, L.out⟩).mono ?_
    rintro e wc ⟨rfl, hI⟩
    refine ⟨_, rfl, ?_⟩
    have HIC := Aside0.mk hI
    have HC := hI.k3
    have v0 := cell_blk (j := 0) (v := .int .i64 5) HC rfl
    have v1 := cell_blk (j := 1) (v := .int .i64 (hS s1).1.1) HC rfl
    have v2 := cell_blk (j := 2) (v := .int .i64 0) HC rfl
    have v3 := cell_blk (j := 3) (v := .int .i64 0) HC rfl
    have v4 := cell_blk (j := 4) (v := .string ⟨#[]⟩) HC rfl
    have v5 := cell_blk (j := 5) (v := .string ⟨#[]⟩) HC rfl
    have v6 := cell_blk (j := 6) (v := .string (tS (hS s1).2).1.1) HC rfl
    have v7 := cell_blk (j := 7) (v := .string (tS (tS (hS s1).2).2).1.1) HC rfl
    have v8 := cell_blk (j := 8) (v := .slice none 0 0) HC rfl
    have HY := Aside0.mk hI.k2
    have y0 := cell_blk (j := 0) (v := .int .i64 0) HY.out rfl
    have z0 := Lib.frozen_of_heap HY.out 0
    have y1 := cell_blk (j := 1) (v := .int .i64 0) HY.out rfl
    have z1 := Lib.frozen_of_heap HY.out 1
    have y2 := cell_blk (j := 2) (v := .int .i64 0) HY.out rfl
    have z2 := Lib.frozen_of_heap HY.out 2
    have y3 := cell_blk (j := 3) (v := .int .i64 0) HY.out rfl
    have z3 := Lib.frozen_of_heap HY.out 3
    have y4 := cell_blk (j := 4) (v := .string ⟨#[]⟩) HY.out rfl
    have z4 := Lib.frozen_of_heap HY.out 4
    have y5 := cell_blk (j := 5) (v := .string ⟨#[]⟩) HY.out rfl
    have z5 := Lib.frozen_of_heap HY.out 5
    have y6 := cell_blk (j := 6) (v := .string ⟨#[]⟩) HY.out rfl
    have z6 := Lib.frozen_of_heap HY.out 6
    have y7 := cell_blk (j := 7) (v := .string ⟨#[]⟩) HY.out rfl
    have z7 := Lib.frozen_of_heap HY.out 7
    have y8 := cell_blk (j := 8) (v := .slice none 0 0) HY.out rfl
    have z8 := Lib.frozen_of_heap HY.out 8
    clear HC hI
    refine hK.out _ _ ⟨v0, v1, v2, v3, v4, v5, v6, v7, v8⟩ (fun hHeld => ?_)
    clear hK K
    refine norm_ (a' := ?_) ?_ ?_
    rotate_left
    · show Act.put _ (some 125) _ = _
      simp only [Act.put, List.setIfInBounds_toArray, List.set_cons_zero, List.set_cons_succ, i64_w, i32_w]
      rfl
    refine last_ (i := 3) (N := none) #[true, true, true, true, false] rfl rfl (by kernel_rfl) (by decide) (fun K hK => ?_)
    refine skip_ (w1 := ?_) (by rfl) rfl ?_ ?_
    rotate_left
    · go_simp
      rfl
    refine hK.out _ _ ?_
    clear hK K
    refine pure_ (i := 4) (N := some 3) (v := ?_) (a' := ?_) #[true, true, true, true, true] rfl rfl (by kernel_rfl) (fun _ _ _ h => h) (Or.inl ⟨by rfl, ?_⟩) ?_ ?_
    rotate_left
    · intro w'
      go_simp
      with_reducible rfl
    rotate_left
    · simp only [Act.put, List.setIfInBounds_toArray, List.set_cons_zero, List.set_cons_succ, i64_w, i32_w]
      rfl
    refine done_ (by kernel_rfl) ?_
    have hpz := L.out.h2
    go_wp2_with fail
    skip
    refine bodyPost_ret (results_ct rfl _ _ w.heap.size 42 _ (0, 0) _ rfl ((set_blk (j := 8) (set_blk (j := 7) (set_blk (j := 6) (set_blk (j := 5) (set_blk (j := 4) (set_blk (j := 3) (set_blk (j := 2) (set_blk (j := 1) (set_blk (j := 0) (HY.out) _) _) _) _) _) _) _) _) _)) Tryd.underlying42 rfl (by kernel_rfl)) rfl ?_
    rw [HGD.out]
    exact xopPost_ok ((AtB.set (AtB.set (AtB.set (AtB.set (AtB.set (AtB.set (AtB.set (AtB.set (AtB.set ⟨HIC.out.but, HIC.out.at_⟩ hpw hpz hok 0 _) hpw hpz hok 1 _) hpw hpz hok 2 _) hpw hpz hok 3 _) hpw hpz hok 4 _) hpw hpz hok 5 _) hpw hpz hok 6 _) hpw hpz hok 7 _) hpw hpz hok 8 _)) (.slice none 0 0) rfl (Kd.R_nil k44 44 _ _ _)
  · have hgood := opR_badx s hs1 5 hk (by decide) (by simpa [bodyR] using hz)
    simp only [bodyR, Int.reduceEq, if_false, if_true] at hgood
    have HGD := Aside0.mk hgood
    have h1 : ((tS (tS (hS s1).2).2).2.2 == 0) = false := by simpa using hz
    have h2 : ((tS (tS (hS s1).2).2).2.2 != 0) = true := by simpa using hz
    clear h hgl hw he7 hs1 hgood hk hB0 hB1 hB2 hB3 hB4 hn1 hs6 hs7
    go_enter Tryd.func26, Tryd.ntmps26
    go_wp2_with (first
    | (go_at_call 25; (with_reducible refine (HN.out _ (AtR.al H.out _)).mono ?_); rintro e w1 ⟨rfl, h2, h3⟩; have HI0 := Aside0.mk (xinv_start w p ok (.cells #[.int .i64 0, .int .i64 0, .int .i64 0, .int .i64 0, .string ⟨#[]⟩, .string ⟨#[]⟩, .string ⟨#[]⟩, .string ⟨#[]⟩, .slice none 0 0] 42) (.cells #[.int .i64 5, .int .i64 0, .int .i64 0, .int .i64 0, .string ⟨#[]⟩, .string ⟨#[]⟩, .string ⟨#[]⟩, .string ⟨#[]⟩, .slice none 0 0] 42) s1 w1 hpw h2 h3); have L := Aside0.mk (xlie_start w p ok _ w1 hpw hok h3); have hne : ¬ w.heap.size = w1.heap.size := L.out.n13; have hnp : ¬ p = w1.heap.size := (by have := L.out.h3; omega); clear h2 h3)
    | (go_at_call 25; (with_reducible refine (InvO.xhandle HI0.out L.out).mono ?_); rintro e w2 ⟨rfl, hI⟩; have HI1 := Aside0.mk hI; clear hI; have ep := AtR.err HI1.out.at_; have fz := Lib.frozen_of_heap HI1.out.k3 1; have HC := InvO.k3 HI1.out; have x0 := cell_blk (j := 0) (v := .int .i64 5) HC rfl; have x1 := cell_blk (j := 1) (v := .int .i64 0) HC rfl; have x2 := cell_blk (j := 2) (v := .int .i64 0) HC rfl; have x3 := cell_blk (j := 3) (v := .int .i64 0) HC rfl; have x4 := cell_blk (j := 4) (v := .string ⟨#[]⟩) HC rfl; have x5 := cell_blk (j := 5) (v := .string ⟨#[]⟩) HC rfl; have x6 := cell_blk (j := 6) (v := .string ⟨#[]⟩) HC rfl; have x7 := cell_blk (j := 7) (v := .string ⟨#[]⟩) HC rfl; have x8 := cell_blk (j := 8) (v := .slice none 0 0) HC rfl; clear HC)
    | (go_at_call 48; (with_reducible refine (InvO.xnextS (InvO.set HI1.out L.out 1 (.int .i64 (hS s1).1.1)) L.out).mono ?_); rintro e w3 ⟨rfl, hI⟩; have HI2 := Aside0.mk hI; clear hI; clear x0 x1 x2 x3 x4 x5 x6 x7 x8 fz ep; have ep := AtR.err HI2.out.at_; have fz := Lib.frozen_of_heap HI2.out.k3 6; have HC := InvO.k3 HI2.out; have x0 := cell_blk (j := 0) (v := .int .i64 5) HC rfl; have x1 := cell_blk (j := 1) (v := .int .i64 (hS s1).1.1) HC rfl; have x2 := cell_blk (j := 2) (v := .int .i64 0) HC rfl; have x3 := cell_blk (j := 3) (v := .int .i64 0) HC rfl; have x4 := cell_blk (j := 4) (v := .string ⟨#[]⟩) HC rfl; have x5 := cell_blk (j := 5) (v := .string ⟨#[]⟩) HC rfl; have x6 := cell_blk (j := 6) (v := .string ⟨#[]⟩) HC rfl; have x7 := cell_blk (j := 7) (v := .string ⟨#[]⟩) HC rfl; have x8 := cell_blk (j := 8) (v := .slice none 0 0) HC rfl; clear HC)
    | (go_at_call 48; (with_reducible refine (InvO.xnextS (InvO.set HI2.out L.out 6 (.string (tS (hS s1).2).1.1)) L.out).mono ?_); rintro e w4 ⟨rfl, hI⟩; have HI3 := Aside0.mk hI; clear hI; clear x0 x1 x2 x3 x4 x5 x6 x7 x8 fz ep; have ep := AtR.err HI3.out.at_; have fz := Lib.frozen_of_heap HI3.out.k3 7; have HC := InvO.k3 HI3.out; have x0 := cell_blk (j := 0) (v := .int .i64 5) HC rfl; have x1 := cell_blk (j := 1) (v := .int .i64 (hS s1).1.1) HC rfl; have x2 := cell_blk (j := 2) (v := .int .i64 0) HC rfl; have x3 := cell_blk (j := 3) (v := .int .i64 0) HC rfl; have x4 := cell_blk (j := 4) (v := .string ⟨#[]⟩) HC rfl; have x5 := cell_blk (j := 5) (v := .string ⟨#[]⟩) HC rfl; have x6 := cell_blk (j := 6) (v := .string (tS (hS s1).2).1.1) HC rfl; have x7 := cell_blk (j := 7) (v := .string ⟨#[]⟩) HC rfl; have x8 := cell_blk (j := 8) (v := .slice none 0 0) HC rfl; clear HC))
    have HIZ := Aside0.mk (InvO.set HI3.out L.out 7 (.string (tS (tS (hS s1).2).2).1.1))
    have HC := HIZ.out.k3
    have xx0 := cell_blk (j := 0) (v := .int .i64 5) HC rfl
    have xx1 := cell_blk (j := 1) (v := .int .i64 (hS s1).1.1) HC rfl
    have xx2 := cell_blk (j := 2) (v := .int .i64 0) HC rfl
    have xx3 := cell_blk (j := 3) (v := .int .i64 0) HC rfl
    have xx4 := cell_blk (j := 4) (v := .string ⟨#[]⟩) HC rfl
    have xx5 := cell_blk (j := 5) (v := .string ⟨#[]⟩) HC rfl
    have xx6 := cell_blk (j := 6) (v := .string (tS (hS s1).2).1.1) HC rfl
    have xx7 := cell_blk (j := 7) (v := .string (tS (tS (hS s1).2).2).1.1) HC rfl
    have xx8 := cell_blk (j := 8) (v := .slice none 0 0) HC rfl
    have ep2 := AtR.err HIZ.out.at_
    have HIY := Aside0.mk (HIZ.out.xdrew L.out)
    clear HC x0 x1 x2 x3 x4 x5 x6 x7 x8 ep fz
    refine start_ (n := 7) (S := fun w' => w'.cell? ⟨w1.heap.size, 0, none⟩ = some (.int .i64 5) ∧ w'.cell? ⟨w1.heap.size, 1, none⟩ = some (.int .i64 (hS s1).1.1) ∧ w'.cell? ⟨w1.heap.size, 2, none⟩ = some (.int .i64 0) ∧ w'.cell? ⟨w1.heap.size, 3, none⟩ = some (.int .i64 0) ∧ w'.cell? ⟨w1.heap.size, 4, none⟩ = some (.string ⟨#[]⟩) ∧ w'.cell? ⟨w1.heap.size, 5, none⟩ = some (.string ⟨#[]⟩) ∧ w'.cell? ⟨w1.heap.size, 6, none⟩ = some (.string (tS (hS s1).2).1.1) ∧ w'.cell? ⟨w1.heap.size, 7, none⟩ = some (.string (tS (tS (hS s1).2).2).1.1) ∧ w'.cell? ⟨w1.heap.size, 8, none⟩ = some (.slice none 0 0) ∧ w'.cell? ⟨p, 1, none⟩ = some (.int .i64 (tS (tS (hS s1).2).2).2.2)) (ds := []) #[false, false, false, false, false, false, false] (by kernel_rfl) rfl rfl ⟨cell_drew xx0, cell_drew xx1, cell_drew xx2, cell_drew xx3, cell_drew xx4, cell_drew xx5, cell_drew xx6, cell_drew xx7, cell_drew xx8, cell_drew ep2⟩ (fun hHeld => ?_)
    refine take_ (i := 0) (N := some 118) (v := ?_) (a' := ?_) #[true, false, false, false, false, false, false] rfl rfl (by kernel_rfl) (fun _ _ _ h => h) (Or.inl ⟨by rfl, ?_⟩) hHeld ?_ ?_
    rotate_left
    · intro w' s0
      go_split_ands
      go_simp
      with_reducible rfl
    rotate_left
    · simp only [Act.put, List.setIfInBounds_toArray, List.set_cons_zero, List.set_cons_succ, i64_w, i32_w]
      rfl
    refine pure_ (i := 1) (N := some 119) (v := ?_) (a' := ?_) #[true, true, false, false, false, false, false] rfl rfl (by kernel_rfl) (fun _ _ _ h => h) (Or.inl ⟨by rfl, ?_⟩) ?_ ?_
    rotate_left
    · intro w'
      go_simp
      with_reducible rfl
    rotate_left
    · simp only [Act.put, List.setIfInBounds_toArray, List.set_cons_zero, List.set_cons_succ, i64_w, i32_w]
      rfl
    refine take_ (i := 2) (N := some 120) (v := ?_) (a' := ?_) #[true, true, true, false, false, false, false] rfl rfl (by kernel_rfl) (fun _ _ _ h => h) (Or.inl ⟨by rfl, ?_⟩) hHeld ?_ ?_
    rotate_left
    · intro w' s0
      go_split_ands
      go_simp
      with_reducible rfl
    rotate_left
    · simp only [Act.put, List.setIfInBounds_toArray, List.set_cons_zero, List.set_cons_succ, i64_w, i32_w]
      rfl
    refine pure_ (i := 3) (N := some 121) (v := ?_) (a' := ?_) #[true, true, true, true, false, false, false] rfl rfl (by kernel_rfl) (fun _ _ _ h => h) (Or.inl ⟨by rfl, ?_⟩) ?_ ?_
    rotate_left
    · intro w'
      go_simp
      with_reducible rfl
    rotate_left
    · simp only [Act.put, List.setIfInBounds_toArray, List.set_cons_zero, List.set_cons_succ, i64_w, i32_w]
      rfl
    refine take_ (i := 4) (N := some 122) (v := ?_) (a' := ?_) #[true, true, true, true, true, false, false] rfl rfl (by kernel_rfl) (fun _ _ _ h => h) (Or.inl ⟨by rfl, ?_⟩) hHeld ?_ ?_
    rotate_left
    · intro w' s0
      go_split_ands
      go_simp
      with_reducible rfl
    rotate_left
    · simp only [Act.put, List.setIfInBounds_toArray, List.set_cons_zero, List.set_cons_succ, i64_w, i32_w]
      rfl
    have HY := Aside0.mk HIZ.out.k2
    have HYB := Aside0.mk HI3.out.k2
    have y0 := cell_blk (j := 0) (v := .int .i64 0) HYB.out rfl
    have z0 := Lib.frozen_of_heap HYB.out 0
    have y1 := cell_blk (j := 1) (v := .int .i64 0) HYB.out rfl
    have z1 := Lib.frozen_of_heap HYB.out 1
    have y2 := cell_blk (j := 2) (v := .int .i64 0) HYB.out rfl
    have z2 := Lib.frozen_of_heap HYB.out 2
    have y3 := cell_blk (j := 3) (v := .int .i64 0) HYB.out rfl
    have z3 := Lib.frozen_of_heap HYB.out 3
    have y4 := cell_blk (j := 4) (v := .string ⟨#[]⟩) HYB.out rfl
    have z4 := Lib.frozen_of_heap HYB.out 4
    have y5 := cell_blk (j := 5) (v := .string ⟨#[]⟩) HYB.out rfl
    have z5 := Lib.frozen_of_heap HYB.out 5
    have y6 := cell_blk (j := 6) (v := .string ⟨#[]⟩) HYB.out rfl
    have z6 := Lib.frozen_of_heap HYB.out 6
    have y7 := cell_blk (j := 7) (v := .string ⟨#[]⟩) HYB.out rfl
    have z7 := Lib.frozen_of_heap HYB.out 7
    have y8 := cell_blk (j := 8) (v := .slice none 0 0) HYB.out rfl
    have z8 := Lib.frozen_of_heap HYB.out 8
    have hnb : ¬ w1.heap.size = w.heap.size := fun e => hne e.symm
    have hnp3 : ¬ p = w.heap.size := by omega
    refine one_ (i := 5) (N := none) #[true, true, true, true, true, true, false] rfl rfl (by kernel_rfl) (by decide) (fun K hK => ?_)
    refine skip_ (w1 := ?_) (by rfl) rfl ?_ ?_
    rotate_left
    · go_simp
      rfl
    refine hK.out _ _ ⟨cell_drew (cell_far9 xx0 hnb), cell_drew (cell_far9 xx1 hnb), cell_drew (cell_far9 xx2 hnb), cell_drew (cell_far9 xx3 hnb), cell_drew (cell_far9 xx4 hnb), cell_drew (cell_far9 xx5 hnb), cell_drew (cell_far9 xx6 hnb), cell_drew (cell_far9 xx7 hnb), cell_drew (cell_far9 xx8 hnb), cell_drew (cell_far9 ep2 hnp3)⟩ (fun hHeld => ?_)
    clear hK K
    refine pure_ (i := 6) (N := some 3) (v := ?_) (a' := ?_) #[true, true, true, true, true, true, true] rfl rfl (by kernel_rfl) (fun _ _ _ h => h) (Or.inl ⟨by rfl, ?_⟩) ?_ ?_
    rotate_left
    · intro w'
      go_simp
      with_reducible rfl
    rotate_left
    · simp only [Act.put, List.setIfInBounds_toArray, List.set_cons_zero, List.set_cons_succ, i64_w, i32_w]
      rfl
    refine done_ (by kernel_rfl) ?_
    have hpz := L.out.h2
    go_wp2_with fail
    skip
    refine bodyPost_ret (results_ct rfl _ _ w.heap.size 42 _ (0, 0) _ rfl (drew_blk (set_blk (j := 8) (set_blk (j := 7) (set_blk (j := 6) (set_blk (j := 5) (set_blk (j := 4) (set_blk (j := 3) (set_blk (j := 2) (set_blk (j := 1) (set_blk (j := 0) (HY.out) _) _) _) _) _) _) _) _) _)) Tryd.underlying42 rfl (by kernel_rfl)) rfl ?_
    rw [HGD.out]
    exact xopPost_ok (AtB.drew (AtB.set (AtB.set (AtB.set (AtB.set (AtB.set (AtB.set (AtB.set (AtB.set (AtB.set ⟨HIZ.out.but, HIZ.out.at_⟩ hpw hpz hok 0 _) hpw hpz hok 1 _) hpw hpz hok 2 _) hpw hpz hok 3 _) hpw hpz hok 4 _) hpw hpz hok 5 _) hpw hpz hok 6 _) hpw hpz hok 7 _) hpw hpz hok 8 _)) (.slice none 0 0) rfl (Kd.R_nil k44 44 _ _ _)
set_option maxHeartbeats 2000000 in
theorem xop_6 (w0 : World) (hgl : GL w0) (p : Nat) (ok : Nat → Prop) (s : St) (w : World) (hok : ∀ k, ok k → k < p) (hw : Below w0.heap.size w0 w) (hw0 : w0.heap.size ≤ p) (h : AtR 61 p ok s.1 s.2 w) (hk : (nS s 7).1 = (6, 0)) :
    Calls Tryd.prog 26 #[.pointer (some ⟨p, 0, none⟩)] w fun e w' => xopPost w p ok (opR s) e w' := by
  have hpw := h.lt
  have H := Aside0.mk h
  have he7 : (nS s 7).2.2 = 0 := by rw [← nS_err, hk]
  have HN : Aside0 (∀ W, AtR 61 p ok s.1 s.2 W → Calls Tryd.prog 25 #[.pointer (some ⟨p, 0, none⟩), .int .u64 7] W fun e w' => e = .returned (.tuple #[.int .u64 6, .int .i64 0]) ∧ AtR 61 p ok (nS s 7).2.1 (nS s 7).2.2 w' ∧ But (· = p) W w') := ⟨fun W hW => (x_num p ok s.1 s.2 7 W hW).mono (by
    rintro e w' ⟨he, ha, hb⟩
    refine ⟨he.trans ?_, ha, hb⟩
    show Ending.returned (.tuple #[.int .u64 (nS s 7).1.1, .int .i64 (nS s 7).1.2]) = _
    rw [hk])⟩
  obtain ⟨s1, hs1⟩ : ∃ s1, s1 = (nS s 7).2 := ⟨_, rfl⟩
  rw [← hs1] at HN
  have hB0 := H.out.2.1
  have hB1 := (nS_bytes s 7 hB0).1
  rw [← hs1] at hB1
  have hn1 : num32 (hS s1).1.1 := nS_val s1 4294967295 hB1 (by omega)
  have hw1 := wrap_i64_32 hn1
  have hB2 := (nS_bytes s1 4294967295 hB1).1
  have hs6 : ((tS (hS s1).2).1.1).size ≤ 65536 := tS_size (hS s1).2 hB2
  have hB3 := (tS_bytes (hS s1).2 hB2).1
  have HCK : Aside0 (∀ {b1 b2 b3 : Nat} {o1 o2 o3 : Obj} W, InvO 61 w p ok b1 o1 b2 o2 b3 o3 (tS (hS s1).2).2 W ∧ Lie w p ok b1 b2 b3 → Calls Tryd.prog 20 #[.agg #[.int .i64 6, .int .i64 (hS s1).1.1, .int .i64 0, .int .i64 0, .string ⟨#[]⟩, .string ⟨#[]⟩, .string (tS (hS s1).2).1.1, .string ⟨#[]⟩, .slice none 0 0]] W fun e w' => e = .returned (.int .i64 (chk ⟨6, (hS s1).1.1, 0, 0, em, em, (tS (hS s1).2).1.1, em, []⟩)) ∧ InvO 61 w p ok b1 o1 b2 o2 b3 o3 (tS (hS s1).2).2 w') := ⟨fun W hW => by
    have hb : Below w0.heap.size w0 W := ⟨hW.1.but.os.trans hw.os, hW.1.but.tape.trans hw.tape, hW.1.but.output.trans hw.output, Nat.le_trans hw.size hW.1.but.size, fun k hk => (hW.1.but.block k (Nat.lt_of_lt_of_le hk hw.size) (by omega)).trans (hw.block k hk)⟩
    have := rcheck_x ⟨6, (hS s1).1.1, 0, 0, em, em, (tS (hS s1).2).1.1, em, []⟩ none 0 W (hgl.below hb) (Kd.C_nil k44 W) (Nat.le_refl 0) ⟨i64_k 6 (by omega), i64_32 hn1, i64_k 0 (by omega), i64_k 0 (by omega), Nat.zero_le _, Nat.zero_le _, size_up hs6, Nat.zero_le _, Nat.zero_le _, fun i hi => absurd hi (Nat.not_lt_zero i)⟩
    exact this.mono fun e w' h => ⟨h.1, hW.1.below hW.2 h.2⟩⟩
  by_cases hz : (tS (hS s1).2).2.2 = 0
  · have HZ := Aside0.mk hz
    have hgood := opR_good s hs1 6 hk (by decide) (by simpa [bodyR] using hz)
    simp only [bodyR, Int.reduceEq, if_false, if_true] at hgood
    have HGD := Aside0.mk hgood
    clear h hgl hw he7 hs1 hgood hz hk hB0 hB1 hB2 hB3 hn1 hs6
    go_enter Tryd.func26, Tryd.ntmps26
    go_wp2_with (first
    | (go_at_call 25; (with_reducible refine (HN.out _ (AtR.al H.out _)).mono ?_); rintro e w1 ⟨rfl, h2, h3⟩; have HI0 := Aside0.mk (xinv_start w p ok (.cells #[.int .i64 0, .int .i64 0, .int .i64 0, .int .i64 0, .string ⟨#[]⟩, .string ⟨#[]⟩, .string ⟨#[]⟩, .string ⟨#[]⟩, .slice none 0 0] 42) (.cells #[.int .i64 6, .int .i64 0, .int .i64 0, .int .i64 0, .string ⟨#[]⟩, .string ⟨#[]⟩, .string ⟨#[]⟩, .string ⟨#[]⟩, .slice none 0 0] 42) s1 w1 hpw h2 h3); have L := Aside0.mk (xlie_start w p ok _ w1 hpw hok h3); have hne : ¬ w.heap.size = w1.heap.size := L.out.n13; have hnp : ¬ p = w1.heap.size := (by have := L.out.h3; omega); clear h2 h3)
    | (go_at_call 25; (with_reducible refine (InvO.xhandle HI0.out L.out).mono ?_); rintro e w2 ⟨rfl, hI⟩; have HI1 := Aside0.mk hI; clear hI; have ep := AtR.err HI1.out.at_; have fz := Lib.frozen_of_heap HI1.out.k3 1; have HC := InvO.k3 HI1.out; have x0 := cell_blk (j := 0) (v := .int .i64 6) HC rfl; have x1 := cell_blk (j := 1) (v := .int .i64 0) HC rfl; have x2 := cell_blk (j := 2) (v := .int .i64 0) HC rfl; have x3 := cell_blk (j := 3) (v := .int .i64 0) HC rfl; have x4 := cell_blk (j := 4) (v := .string ⟨#[]⟩) HC rfl; have x5 := cell_blk (j := 5) (v := .string ⟨#[]⟩) HC rfl; have x6 := cell_blk (j := 6) (v := .string ⟨#[]⟩) HC rfl; have x7 := cell_blk (j := 7) (v := .string ⟨#[]⟩) HC rfl; have x8 := cell_blk (j := 8) (v := .slice none 0 0) HC rfl; clear HC)
    | (go_at_call 48; (with_reducible refine (InvO.xnextS (InvO.set HI1.out L.out 1 (.int .i64 (hS s1).1.1)) L.out).mono ?_); rintro e w3 ⟨rfl, hI⟩; have HI2 := Aside0.mk hI; clear hI; clear x0 x1 x2 x3 x4 x5 x6 x7 x8 fz ep; have ep := AtR.err HI2.out.at_; rw [HZ.out] at ep; have fz := Lib.frozen_of_heap HI2.out.k3 6; have HC := InvO.k3 HI2.out; have x0 := cell_blk (j := 0) (v := .int .i64 6) HC rfl; have x1 := cell_blk (j := 1) (v := .int .i64 (hS s1).1.1) HC rfl; have x2 := cell_blk (j := 2) (v := .int .i64 0) HC rfl; have x3 := cell_blk (j := 3) (v := .int .i64 0) HC rfl; have x4 := cell_blk (j := 4) (v := .string ⟨#[]⟩) HC rfl; have x5 := cell_blk (j := 5) (v := .string ⟨#[]⟩) HC rfl; have x6 := cell_blk (j := 6) (v := .string ⟨#[]⟩) HC rfl; have x7 := cell_blk (j := 7) (v := .string ⟨#[]⟩) HC rfl; have x8 := cell_blk (j := 8) (v := .slice none 0 0) HC rfl; clear HC))
    have HIZ := Aside0.mk (InvO.set HI2.out L.out 6 (.string (tS (hS s1).2).1.1))
    have HC := HIZ.out.k3
    have xx0 := cell_blk (j := 0) (v := .int .i64 6) HC rfl
    have xx1 := cell_blk (j := 1) (v := .int .i64 (hS s1).1.1) HC rfl
    have xx2 := cell_blk (j := 2) (v := .int .i64 0) HC rfl
    have xx3 := cell_blk (j := 3) (v := .int .i64 0) HC rfl
    have xx4 := cell_blk (j := 4) (v := .string ⟨#[]⟩) HC rfl
    have xx5 := cell_blk (j := 5) (v := .string ⟨#[]⟩) HC rfl
    have xx6 := cell_blk (j := 6) (v := .string (tS (hS s1).2).1.1) HC rfl
    have xx7 := cell_blk (j := 7) (v := .string ⟨#[]⟩) HC rfl
    have xx8 := cell_blk (j := 8) (v := .slice none 0 0) HC rfl
    have HIY := Aside0.mk (HIZ.out.xdrew L.out)
    clear HC x0 x1 x2 x3 x4 x5 x6 x7 x8 ep fz
    refine start_ (n := 5) (S := fun w' => w'.cell? ⟨w1.heap.size, 0, none⟩ = some (.int .i64 6) ∧ w'.cell? ⟨w1.heap.size, 1, none⟩ = some (.int .i64 (hS s1).1.1) ∧ w'.cell? ⟨w1.heap.size, 2, none⟩ = some (.int .i64 0) ∧ w'.cell? ⟨w1.heap.size, 3, none⟩ = some (.int .i64 0) ∧ w'.cell? ⟨w1.heap.size, 4, none⟩ = some (.string ⟨#[]⟩) ∧ w'.cell? ⟨w1.heap.size, 5, none⟩ = some (.string ⟨#[]⟩) ∧ w'.cell? ⟨w1.heap.size, 6, none⟩ = some (.string (tS (hS s1).2).1.1) ∧ w'.cell? ⟨w1.heap.size, 7, none⟩ = some (.string ⟨#[]⟩) ∧ w'.cell? ⟨w1.heap.size, 8, none⟩ = some (.slice none 0 0)) (ds := [3]) #[false, false, false, false, false] (by kernel_rfl) rfl rfl ⟨cell_drew xx0, cell_drew xx1, cell_drew xx2, cell_drew xx3, cell_drew xx4, cell_drew xx5, cell_drew xx6, cell_drew xx7, cell_drew xx8⟩ (fun hHeld => ?_)
    refine take_ (i := 0) (N := some 123) (v := ?_) (a' := ?_) #[true, false, false, false, false] rfl rfl (by kernel_rfl) (fun _ _ _ h => h) (Or.inl ⟨by rfl, ?_⟩) hHeld ?_ ?_
    rotate_left
    · intro w' s0
      go_split_ands
      go_simp
      with_reducible rfl
    rotate_left
    · simp only [Act.put, List.setIfInBounds_toArray, List.set_cons_zero, List.set_cons_succ, i64_w, i32_w]
      rfl
    refine take_ (i := 1) (N := some 124) (v := ?_) (a' := ?_) #[true, true, false, false, false] rfl rfl (by kernel_rfl) (fun _ _ _ h => h) (Or.inl ⟨by rfl, ?_⟩) hHeld ?_ ?_
    rotate_left
    · intro w' s0
      go_split_ands
      go_simp
      with_reducible rfl
    rotate_left
    · simp only [Act.put, List.setIfInBounds_toArray, List.set_cons_zero, List.set_cons_succ, i64_w, i32_w]
      rfl
    refine one_ (i := 2) (N := some 125) #[true, true, true, false, false] rfl rfl (by kernel_rfl) (by decide) (fun K hK => ?_)
    refine goes_ Tryd.func20 (by kernel_rfl) rfl #[.agg #[.int .i64 6, .int .i64 (hS s1).1.1, .int .i64 0, .int .i64 0, .string ⟨#[]⟩, .string ⟨#[]⟩, .string (tS (hS s1).2).1.1, .string ⟨#[]⟩, .slice none 0 0]] (by rfl) rfl rfl (by (try simp only [List.map_toArray, List.map_cons, List.map_nil]); first | done | rfl) ?_
    refine (HCK.out _ ⟨HIY.out, L.out⟩).mono ?_
    rintro e wc ⟨rfl, hI⟩
    refine ⟨_, rfl, ?_⟩
    have HIC := Aside0.mk hI
    have HC := hI.k3
    have v0 := cell_blk (j := 0) (v := .int .i64 6) HC rfl
    have v1 := cell_blk (j := 1) (v := .int .i64 (hS s1).1.1) HC rfl
    have v2 := cell_blk (j := 2) (v := .int .i64 0) HC rfl
    have v3 := cell_blk (j := 3) (v := .int .i64 0) HC rfl
    have v4 := cell_blk (j := 4) (v := .string ⟨#[]⟩) HC rfl
    have v5 := cell_blk (j := 5) (v := .string ⟨#[]⟩) HC rfl
    have v6 := cell_blk (j := 6) (v := .string (tS (hS s1).2).1.1) HC rfl
    have v7 := cell_blk (j := 7) (v := .string ⟨#[]⟩) HC rfl
    have v8 := cell_blk (j := 8) (v := .slice none 0 0) HC rfl
    have HY := Aside0.mk hI.k2
    have y0 := cell_blk (j := 0) (v := .int .i64 0) HY.out rfl
    have z0 := Lib.frozen_of_heap HY.out 0
    have y1 := cell_blk (j := 1) (v := .int .i64 0) HY.out rfl
    have z1 := Lib.frozen_of_heap HY.out 1
    have y2 := cell_blk (j := 2) (v := .int .i64 0) HY.out rfl
    have z2 := Lib.frozen_of_heap HY.out 2
    have y3 := cell_blk (j := 3) (v := .int .i64 0) HY.out rfl
    have z3 := Lib.frozen_of_heap HY.out 3
    have y4 := cell_blk (j := 4) (v := .string ⟨#[]⟩) HY.out rfl
    have z4 := Lib.frozen_of_heap HY.out 4
    have y5 := cell_blk (j := 5) (v := .string ⟨#[]⟩) HY.out rfl
    have z5 := Lib.frozen_of_heap HY.out 5
    have y6 := cell_blk (j := 6) (v := .string ⟨#[]⟩) HY.out rfl
    have z6 := Lib.frozen_of_heap HY.out 6
    have y7 := cell_blk (j := 7) (v := .string ⟨#[]⟩) HY.out rfl
    have z7 := Lib.frozen_of_heap HY.out 7
    have y8 := cell_blk (j := 8) (v := .slice none 0 0) HY.out rfl
    have z8 := Lib.frozen_of_heap HY.out 8
    clear HC hI
    refine hK.out _ _ ⟨v0, v1, v2, v3, v4, v5, v6, v7, v8⟩ (fun hHeld => ?_)
    clear hK K
    refine norm_ (a' := ?_) ?_ ?_
    rotate_left
    · show Act.put _ (some 125) _ = _
      simp only [Act.put, List.setIfInBounds_toArray, List.set_cons_zero, List.set_cons_succ, i64_w, i32_w]
      rfl
    refine last_ (i := 3) (N := none) #[true, true, true, true, false] rfl rfl (by kernel_rfl) (by decide) (fun K hK => ?_)
    refine skip_ (w1 := ?_) (by rfl) rfl ?_ ?_
    rotate_left
    · go_simp
      rfl
    refine hK.out _ _ ?_
    clear hK K
    refine pure_ (i := 4) (N := some 3) (v := ?_) (a' := ?_) #[true, true, true, true, true] rfl rfl (by kernel_rfl) (fun _ _ _ h => h) (Or.inl ⟨by rfl, ?_⟩) ?_ ?_
    rotate_left
    · intro w'
      go_simp
      with_reducible rfl
    rotate_left
    · simp only [Act.put, List.setIfInBounds_toArray, List.set_cons_zero, List.set_cons_succ, i64_w, i32_w]
      rfl
    refine done_ (by kernel_rfl) ?_
    have hpz := L.out.h2
    go_wp2_with fail
    skip
    refine bodyPost_ret (results_ct rfl _ _ w.heap.size 42 _ (0, 0) _ rfl ((set_blk (j := 8) (set_blk (j := 7) (set_blk (j := 6) (set_blk (j := 5) (set_blk (j := 4) (set_blk (j := 3) (set_blk (j := 2) (set_blk (j := 1) (set_blk (j := 0) (HY.out) _) _) _) _) _) _) _) _) _)) Tryd.underlying42 rfl (by kernel_rfl)) rfl ?_
    rw [HGD.out]
    exact xopPost_ok ((AtB.set (AtB.set (AtB.set (AtB.set (AtB.set (AtB.set (AtB.set (AtB.set (AtB.set ⟨HIC.out.but, HIC.out.at_⟩ hpw hpz hok 0 _) hpw hpz hok 1 _) hpw hpz hok 2 _) hpw hpz hok 3 _) hpw hpz hok 4 _) hpw hpz hok 5 _) hpw hpz hok 6 _) hpw hpz hok 7 _) hpw hpz hok 8 _)) (.slice none 0 0) rfl (Kd.R_nil k44 44 _ _ _)
  · have hgood := opR_badx s hs1 6 hk (by decide) (by simpa [bodyR] using hz)
    simp only [bodyR, Int.reduceEq, if_false, if_true] at hgood
    have HGD := Aside0.mk hgood
    have h1 : ((tS (hS s1).2).2.2 == 0) = false := by simpa using hz
    have h2 : ((tS (hS s1).2).2.2 != 0) = true := by simpa using hz
    clear h hgl hw he7 hs1 hgood hk hB0 hB1 hB2 hB3 hn1 hs6
    go_enter Tryd.func26, Tryd.ntmps26
    go_wp2_with (first
    | (go_at_call 25; (with_reducible refine (HN.out _ (AtR.al H.out _)).mono ?_); rintro e w1 ⟨rfl, h2, h3⟩; have HI0 := Aside0.mk (xinv_start w p ok (.cells #[.int .i64 0, .int .i64 0, .int .i64 0, .int .i64 0, .string ⟨#[]⟩, .string ⟨#[]⟩, .string ⟨#[]⟩, .string ⟨#[]⟩, .slice none 0 0] 42) (.cells #[.int .i64 6, .int .i64 0, .int .i64 0, .int .i64 0, .string ⟨#[]⟩, .string ⟨#[]⟩, .string ⟨#[]⟩, .string ⟨#[]⟩, .slice none 0 0] 42) s1 w1 hpw h2 h3); have L := Aside0.mk (xlie_start w p ok _ w1 hpw hok h3); have hne : ¬ w.heap.size = w1.heap.size := L.out.n13; have hnp : ¬ p = w1.heap.size := (by have := L.out.h3; omega); clear h2 h3)
    | (go_at_call 25; (with_reducible refine (InvO.xhandle HI0.out L.out).mono ?_); rintro e w2 ⟨rfl, hI⟩; have HI1 := Aside0.mk hI; clear hI; have ep := AtR.err HI1.out.at_; have fz := Lib.frozen_of_heap HI1.out.k3 1; have HC := InvO.k3 HI1.out; have x0 := cell_blk (j := 0) (v := .int .i64 6) HC rfl; have x1 := cell_blk (j := 1) (v := .int .i64 0) HC rfl; have x2 := cell_blk (j := 2) (v := .int .i64 0) HC rfl; have x3 := cell_blk (j := 3) (v := .int .i64 0) HC rfl; have x4 := cell_blk (j := 4) (v := .string ⟨#[]⟩) HC rfl; have x5 := cell_blk (j := 5) (v := .string ⟨#[]⟩) HC rfl; have x6 := cell_blk (j := 6) (v := .string ⟨#[]⟩) HC rfl; have x7 := cell_blk (j := 7) (v := .string ⟨#[]⟩) HC rfl; have x8 := cell_blk (j := 8) (v := .slice none 0 0) HC rfl; clear HC)
    | (go_at_call 48; (with_reducible refine (InvO.xnextS (InvO.set HI1.out L.out 1 (.int .i64 (hS s1).1.1)) L.out).mono ?_); rintro e w3 ⟨rfl, hI⟩; have HI2 := Aside0.mk hI; clear hI; clear x0 x1 x2 x3 x4 x5 x6 x7 x8 fz ep; have ep := AtR.err HI2.out.at_; have fz := Lib.frozen_of_heap HI2.out.k3 6; have HC := InvO.k3 HI2.out; have x0 := cell_blk (j := 0) (v := .int .i64 6) HC rfl; have x1 := cell_blk (j := 1) (v := .int .i64 (hS s1).1.1) HC rfl; have x2 := cell_blk (j := 2) (v := .int .i64 0) HC rfl; have x3 := cell_blk (j := 3) (v := .int .i64 0) HC rfl; have x4 := cell_blk (j := 4) (v := .string ⟨#[]⟩) HC rfl; have x5 := cell_blk (j := 5) (v := .string ⟨#[]⟩) HC rfl; have x6 := cell_blk (j := 6) (v := .string ⟨#[]⟩) HC rfl; have x7 := cell_blk (j := 7) (v := .string ⟨#[]⟩) HC rfl; have x8 := cell_blk (j := 8) (v := .slice none 0 0) HC rfl; clear HC))
    have HIZ := Aside0.mk (InvO.set HI2.out L.out 6 (.string (tS (hS s1).2).1.1))
    have HC := HIZ.out.k3
    have xx0 := cell_blk (j := 0) (v := .int .i64 6) HC rfl
    have xx1 := cell_blk (j := 1) (v := .int .i64 (hS s1).1.1) HC rfl
    have xx2 := cell_blk (j := 2) (v := .int .i64 0) HC rfl
    have xx3 := cell_blk (j := 3) (v := .int .i64 0) HC rfl
    have xx4 := cell_blk (j := 4) (v := .string ⟨#[]⟩) HC rfl
    have xx5 := cell_blk (j := 5) (v := .string ⟨#[]⟩) HC rfl
    have xx6 := cell_blk (j := 6) (v := .string (tS (hS s1).2).1.1) HC rfl
    have xx7 := cell_blk (j := 7) (v := .string ⟨#[]⟩) HC rfl
    have xx8 := cell_blk (j := 8) (v := .slice none 0 0) HC rfl
    have ep2 := AtR.err HIZ.out.at_
    have HIY := Aside0.mk (HIZ.out.xdrew L.out)
    clear HC x0 x1 x2 x3 x4 x5 x6 x7 x8 ep fz
    refine start_ (n := 7) (S := fun w' => w'.cell? ⟨w1.heap.size, 0, none⟩ = some (.int .i64 6) ∧ w'.cell? ⟨w1.heap.size, 1, none⟩ = some (.int .i64 (hS s1).1.1) ∧ w'.cell? ⟨w1.heap.size, 2, none⟩ = some (.int .i64 0) ∧ w'.cell? ⟨w1.heap.size, 3, none⟩ = some (.int .i64 0) ∧ w'.cell? ⟨w1.heap.size, 4, none⟩ = some (.string ⟨#[]⟩) ∧ w'.cell? ⟨w1.heap.size, 5, none⟩ = some (.string ⟨#[]⟩) ∧ w'.cell? ⟨w1.heap.size, 6, none⟩ = some (.string (tS (hS s1).2).1.1) ∧ w'.cell? ⟨w1.heap.size, 7, none⟩ = some (.string ⟨#[]⟩) ∧ w'.cell? ⟨w1.heap.size, 8, none⟩ = some (.slice none 0 0) ∧ w'.cell? ⟨p, 1, none⟩ = some (.int .i64 (tS (hS s1).2).2.2)) (ds := []) #[false, false, false, false, false, false, false] (by kernel_rfl) rfl rfl ⟨cell_drew xx0, cell_drew xx1, cell_drew xx2, cell_drew xx3, cell_drew xx4, cell_drew xx5, cell_drew xx6, cell_drew xx7, cell_drew xx8, cell_drew ep2⟩ (fun hHeld => ?_)
    refine take_ (i := 0) (N := some 118) (v := ?_) (a' := ?_) #[true, false, false, false, false, false, false] rfl rfl (by kernel_rfl) (fun _ _ _ h => h) (Or.inl ⟨by rfl, ?_⟩) hHeld ?_ ?_
    rotate_left
    · intro w' s0
      go_split_ands
      go_simp
      with_reducible rfl
    rotate_left
    · simp only [Act.put, List.setIfInBounds_toArray, List.set_cons_zero, List.set_cons_succ, i64_w, i32_w]
      rfl
    refine pure_ (i := 1) (N := some 119) (v := ?_) (a' := ?_) #[true, true, false, false, false, false, false] rfl rfl (by kernel_rfl) (fun _ _ _ h => h) (Or.inl ⟨by rfl, ?_⟩) ?_ ?_
    rotate_left
    · intro w'
      go_simp
      with_reducible rfl
    rotate_left
    · simp only [Act.put, List.setIfInBounds_toArray, List.set_cons_zero, List.set_cons_succ, i64_w, i32_w]
      rfl
    refine take_ (i := 2) (N := some 120) (v := ?_) (a' := ?_) #[true, true, true, false, false, false, false] rfl rfl (by kernel_rfl) (fun _ _ _ h => h) (Or.inl ⟨by rfl, ?_⟩) hHeld ?_ ?_
    rotate_left
    · intro w' s0
      go_split_ands
      go_simp
      with_reducible rfl
    rotate_left
    · simp only [Act.put, List.setIfInBounds_toArray, List.set_cons_zero, List.set_cons_succ, i64_w, i32_w]
      rfl
    refine pure_ (i := 3) (N := some 121) (v := ?_) (a' := ?_) #[true, true, true, true, false, false, false] rfl rfl (by kernel_rfl) (fun _ _ _ h => h) (Or.inl ⟨by rfl, ?_⟩) ?_ ?_
    rotate_left
    · intro w'
      go_simp
      with_reducible rfl
    rotate_left
    · simp only [Act.put, List.setIfInBounds_toArray, List.set_cons_zero, List.set_cons_succ, i64_w, i32_w]
      rfl
    refine take_ (i := 4) (N := some 122) (v := ?_) (a' := ?_) #[true, true, true, true, true, false, false] rfl rfl (by kernel_rfl) (fun _ _ _ h => h) (Or.inl ⟨by rfl, ?_⟩) hHeld ?_ ?_
    rotate_left
    · intro w' s0
      go_split_ands
      go_simp
      with_reducible rfl
    rotate_left
    · simp only [Act.put, List.setIfInBounds_toArray, List.set_cons_zero, List.set_cons_succ, i64_w, i32_w]
      rfl
    have HY := Aside0.mk HIZ.out.k2
    have HYB := Aside0.mk HI2.out.k2
    have y0 := cell_blk (j := 0) (v := .int .i64 0) HYB.out rfl
    have z0 := Lib.frozen_of_heap HYB.out 0
    have y1 := cell_blk (j := 1) (v := .int .i64 0) HYB.out rfl
    have z1 := Lib.frozen_of_heap HYB.out 1
    have y2 := cell_blk (j := 2) (v := .int .i64 0) HYB.out rfl
    have z2 := Lib.frozen_of_heap HYB.out 2
    have y3 := cell_blk (j := 3) (v := .int .i64 0) HYB.out rfl
    have z3 := Lib.frozen_of_heap HYB.out 3
    have y4 := cell_blk (j := 4) (v := .string ⟨#[]⟩) HYB.out rfl
    have z4 := Lib.frozen_of_heap HYB.out 4
    have y5 := cell_blk (j := 5) (v := .string ⟨#[]⟩) HYB.out rfl
    have z5 := Lib.frozen_of_heap HYB.out 5
    have y6 := cell_blk (j := 6) (v := .string ⟨#[]⟩) HYB.out rfl
    have z6 := Lib.frozen_of_heap HYB.out 6
    have y7 := cell_blk (j := 7) (v := .string ⟨#[]⟩) HYB.out rfl
    have z7 := Lib.frozen_of_heap HYB.out 7
    have y8 := cell_blk (j := 8) (v := .slice none 0 0) HYB.out rfl
    have z8 := Lib.frozen_of_heap HYB.out 8
    have hnb : ¬ w1.heap.size = w.heap.size := fun e => hne e.symm
    have hnp3 : ¬ p = w.heap.size := by omega
    refine one_ (i := 5) (N := none) #[true, true, true, true, true, true, false] rfl rfl (by kernel_rfl) (by decide) (fun K hK => ?_)
    refine skip_ (w1 := ?_) (by rfl) rfl ?_ ?_
    rotate_left
    · go_simp
      rfl
    refine hK.out _ _ ⟨cell_drew (cell_far9 xx0 hnb), cell_drew (cell_far9 xx1 hnb), cell_drew (cell_far9 xx2 hnb), cell_drew (cell_far9 xx3 hnb), cell_drew (cell_far9 xx4 hnb), cell_drew (cell_far9 xx5 hnb), cell_drew (cell_far9 xx6 hnb), cell_drew (cell_far9 xx7 hnb), cell_drew (cell_far9 xx8 hnb), cell_drew (cell_far9 ep2 hnp3)⟩ (fun hHeld => ?_)
    clear hK K
    refine pure_ (i := 6) (N := some 3) (v := ?_) (a' := ?_) #[true, true, true, true, true, true, true] rfl rfl (by kernel_rfl) (fun _ _ _ h => h) (Or.inl ⟨by rfl, ?_⟩) ?_ ?_
    rotate_left
    · intro w'
      go_simp
      with_reducible rfl
    rotate_left
    · simp only [Act.put, List.setIfInBounds_toArray, List.set_cons_zero, List.set_cons_succ, i64_w, i32_w]
      rfl
    refine done_ (by kernel_rfl) ?_
    have hpz := L.out.h2
    go_wp2_with fail
    skip
    refine bodyPost_ret (results_ct rfl _ _ w.heap.size 42 _ (0, 0) _ rfl (drew_blk (set_blk (j := 8) (set_blk (j := 7) (set_blk (j := 6) (set_blk (j := 5) (set_blk (j := 4) (set_blk (j := 3) (set_blk (j := 2) (set_blk (j := 1) (set_blk (j := 0) (HY.out) _) _) _) _) _) _) _) _) _)) Tryd.underlying42 rfl (by kernel_rfl)) rfl ?_
    rw [HGD.out]
    exact xopPost_ok (AtB.drew (AtB.set (AtB.set (AtB.set (AtB.set (AtB.set (AtB.set (AtB.set (AtB.set (AtB.set ⟨HIZ.out.but, HIZ.out.at_⟩ hpw hpz hok 0 _) hpw hpz hok 1 _) hpw hpz hok 2 _) hpw hpz hok 3 _) hpw hpz hok 4 _) hpw hpz hok 5 _) hpw hpz hok 6 _) hpw hpz hok 7 _) hpw hpz hok 8 _)) (.slice none 0 0) rfl (Kd.R_nil k44 44 _ _ _)
set_option maxHeartbeats 2000000 in
theorem xop_7 (w0 : World) (hgl : GL w0) (p : Nat) (ok : Nat → Prop) (s : St) (w : World) (hok : ∀ k, ok k → k < p) (hw : Below w0.heap.size w0 w) (hw0 : w0.heap.size ≤ p) (h : AtR 61 p ok s.1 s.2 w) (hk : (nS s 7).1 = (7, 0)) :
    Calls Tryd.prog 26 #[.pointer (some ⟨p, 0, none⟩)] w fun e w' => xopPost w p ok (opR s) e w' := by
  have hpw := h.lt
  have H := Aside0.mk h
  have he7 : (nS s 7).2.2 = 0 := by rw [← nS_err, hk]
  have HN : Aside0 (∀ W, AtR 61 p ok s.1 s.2 W → Calls Tryd.prog 25 #[.pointer (some ⟨p, 0, none⟩), .int .u64 7] W fun e w' => e = .returned (.tuple #[.int .u64 7, .int .i64 0]) ∧ AtR 61 p ok (nS s 7).2.1 (nS s 7).2.2 w' ∧ But (· = p) W w') := ⟨fun W hW => (x_num p ok s.1 s.2 7 W hW).mono (by
    rintro e w' ⟨he, ha, hb⟩
    refine ⟨he.trans ?_, ha, hb⟩
    show Ending.returned (.tuple #[.int .u64 (nS s 7).1.1, .int .i64 (nS s 7).1.2]) = _
    rw [hk])⟩
  obtain ⟨s1, hs1⟩ : ∃ s1, s1 = (nS s 7).2 := ⟨_, rfl⟩
  rw [← hs1] at HN
  have hB0 := H.out.2.1
  have hB1 := (nS_bytes s 7 hB0).1
  rw [← hs1] at hB1
  have hn1 : num32 (hS s1).1.1 := nS_val s1 4294967295 hB1 (by omega)
  have hw1 := wrap_i64_32 hn1
  have hB2 := (nS_bytes s1 4294967295 hB1).1
  have hs7 : ((tS (hS s1).2).1.1).size ≤ 65536 := tS_size (hS s1).2 hB2
  have hB3 := (tS_bytes (hS s1).2 hB2).1
  have HCK : Aside0 (∀ {b1 b2 b3 : Nat} {o1 o2 o3 : Obj} W, InvO 61 w p ok b1 o1 b2 o2 b3 o3 (tS (hS s1).2).2 W ∧ Lie w p ok b1 b2 b3 → Calls Tryd.prog 20 #[.agg #[.int .i64 7, .int .i64 (hS s1).1.1, .int .i64 0, .int .i64 0, .string ⟨#[]⟩, .string ⟨#[]⟩, .string ⟨#[]⟩, .string (tS (hS s1).2).1.1, .slice none 0 0]] W fun e w' => e = .returned (.int .i64 (chk ⟨7, (hS s1).1.1, 0, 0, em, em, em, (tS (hS s1).2).1.1, []⟩)) ∧ InvO 61 w p ok b1 o1 b2 o2 b3 o3 (tS (hS s1).2).2 w') := ⟨fun W hW => by
    have hb : Below w0.heap.size w0 W := ⟨hW.1.but.os.trans hw.os, hW.1.but.tape.trans hw.tape, hW.1.but.output.trans hw.output, Nat.le_trans hw.size hW.1.but.size, fun k hk => (hW.1.but.block k (Nat.lt_of_lt_of_le hk hw.size) (by omega)).trans (hw.block k hk)⟩
    have := rcheck_x ⟨7, (hS s1).1.1, 0, 0, em, em, em, (tS (hS s1).2).1.1, []⟩ none 0 W (hgl.below hb) (Kd.C_nil k44 W) (Nat.le_refl 0) ⟨i64_k 7 (by omega), i64_32 hn1, i64_k 0 (by omega), i64_k 0 (by omega), Nat.zero_le _, Nat.zero_le _, Nat.zero_le _, size_up hs7, Nat.zero_le _, fun i hi => absurd hi (Nat.not_lt_zero i)⟩
    exact this.mono fun e w' h => ⟨h.1, hW.1.below hW.2 h.2⟩⟩
  by_cases hz : (tS (hS s1).2).2.2 = 0
  · have HZ := Aside0.mk hz
    have hgood := opR_good s hs1 7 hk (by decide) (by simpa [bodyR] using hz)
    simp only [bodyR, Int.reduceEq, if_false, if_true] at hgood
    have HGD := Aside0.mk hgood
    clear h hgl hw he7 hs1 hgood hz hk hB0 hB1 hB2 hB3 hn1 hs7
    go_enter Tryd.func26, Tryd.ntmps26
    go_wp2_with (first
    | (go_at_call 25; (with_reducible refine (HN.out _ (AtR.al H.out _)).mono ?_); rintro e w1 ⟨rfl, h2, h3⟩; have HI0 := Aside0.mk (xinv_start w p ok (.cells #[.int .i64 0, .int .i64 0, .int .i64 0, .int .i64 0, .string ⟨#[]⟩, .string ⟨#[]⟩, .string ⟨#[]⟩, .string ⟨#[]⟩, .slice none 0 0] 42) (.cells #[.int .i64 7, .int .i64 0, .int .i64 0, .int .i64 0, .string ⟨#[]⟩, .string ⟨#[]⟩, .string ⟨#[]⟩, .string ⟨#[]⟩, .slice none 0 0] 42) s1 w1 hpw h2 h3); have L := Aside0.mk (xlie_start w p ok _ w1 hpw hok h3); have hne : ¬ w.heap.size = w1.heap.size := L.out.n13; have hnp : ¬ p = w1.heap.size := (by have := L.out.h3; omega); clear h2 h3)
    | (go_at_call 25; (with_reducible refine (InvO.xhandle HI0.out L.out).mono ?_); rintro e w2 ⟨rfl, hI⟩; have HI1 := Aside0.mk hI; clear hI; have ep := AtR.err HI1.out.at_; have fz := Lib.frozen_of_heap HI1.out.k3 1; have HC := InvO.k3 HI1.out; have x0 := cell_blk (j := 0) (v := .int .i64 7) HC rfl; have x1 := cell_blk (j := 1) (v := .int .i64 0) HC rfl; have x2 := cell_blk (j := 2) (v := .int .i64 0) HC rfl; have x3 := cell_blk (j := 3) (v := .int .i64 0) HC rfl; have x4 := cell_blk (j := 4) (v := .string ⟨#[]⟩) HC rfl; have x5 := cell_blk (j := 5) (v := .string ⟨#[]⟩) HC rfl; have x6 := cell_blk (j := 6) (v := .string ⟨#[]⟩) HC rfl; have x7 := cell_blk (j := 7) (v := .string ⟨#[]⟩) HC rfl; have x8 := cell_blk (j := 8) (v := .slice none 0 0) HC rfl; clear HC)
    | (go_at_call 48; (with_reducible refine (InvO.xnextS (InvO.set HI1.out L.out 1 (.int .i64 (hS s1).1.1)) L.out).mono ?_); rintro e w3 ⟨rfl, hI⟩; have HI2 := Aside0.mk hI; clear hI; clear x0 x1 x2 x3 x4 x5 x6 x7 x8 fz ep; have ep := AtR.err HI2.out.at_; rw [HZ.out] at ep; have fz := Lib.frozen_of_heap HI2.out.k3 7; have HC := InvO.k3 HI2.out; have x0 := cell_blk (j := 0) (v := .int .i64 7) HC rfl; have x1 := cell_blk (j := 1) (v := .int .i64 (hS s1).1.1) HC rfl; have x2 := cell_blk (j := 2) (v := .int .i64 0) HC rfl; have x3 := cell_blk (j := 3) (v := .int .i64 0) HC rfl; have x4 := cell_blk (j := 4) (v := .string ⟨#[]⟩) HC rfl; have x5 := cell_blk (j := 5) (v := .string ⟨#[]⟩) HC rfl; have x6 := cell_blk (j := 6) (v := .string ⟨#[]⟩) HC rfl; have x7 := cell_blk (j := 7) (v := .string ⟨#[]⟩) HC rfl; have x8 := cell_blk (j := 8) (v := .slice none 0 0) HC rfl; clear HC))
    have HIZ := Aside0.mk (InvO.set HI2.out L.out 7 (.string (tS (hS s1).2).1.1))
    have HC := HIZ.out.k3
    have xx0 := cell_blk (j := 0) (v := .int .i64 7) HC rfl
    have xx1 := cell_blk (j := 1) (v := .int .i64 (hS s1).1.1) HC rfl
    have xx2 := cell_blk (j := 2) (v := .int .i64 0) HC rfl
    have xx3 := cell_blk (j := 3) (v := .int .i64 0) HC rfl
    have xx4 := cell_blk (j := 4) (v := .string ⟨#[]⟩) HC rfl
    have xx5 := cell_blk (j := 5) (v := .string ⟨#[]⟩) HC rfl
    have xx6 := cell_blk (j := 6) (v := .string ⟨#[]⟩) HC rfl
    have xx7 := cell_blk (j := 7) (v := .string (tS (hS s1).2).1.1) HC rfl
    have xx8 := cell_blk (j := 8) (v := .slice none 0 0) HC rfl
    have HIY := Aside0.mk (HIZ.out.xdrew L.out)
    clear HC x0 x1 x2 x3 x4 x5 x6 x7 x8 ep fz
    refine start_ (n := 5) (S := fun w' => w'.cell? ⟨w1.heap.size, 0, none⟩ = some (.int .i64 7) ∧ w'.cell? ⟨w1.heap.size, 1, none⟩ = some (.int .i64 (hS s1).1.1) ∧ w'.cell? ⟨w1.heap.size, 2, none⟩ = some (.int .i64 0) ∧ w'.cell? ⟨w1.heap.size, 3, none⟩ = some (.int .i64 0) ∧ w'.cell? ⟨w1.heap.size, 4, none⟩ = some (.string ⟨#[]⟩) ∧ w'.cell? ⟨w1.heap.size, 5, none⟩ = some (.string ⟨#[]⟩) ∧ w'.cell? ⟨w1.heap.size, 6, none⟩ = some (.string ⟨#[]⟩) ∧ w'.cell? ⟨w1.heap.size, 7, none⟩ = some (.string (tS (hS s1).2).1.1) ∧ w'.cell? ⟨w1.heap.size, 8, none⟩ = some (.slice none 0 0)) (ds := [3]) #[false, false, false, false, false] (by kernel_rfl) rfl rfl ⟨cell_drew xx0, cell_drew xx1, cell_drew xx2, cell_drew xx3, cell_drew xx4, cell_drew xx5, cell_drew xx6, cell_drew xx7, cell_drew xx8⟩ (fun hHeld => ?_)
    refine take_ (i := 0) (N := some 123) (v := ?_) (a' := ?_) #[true, false, false, false, false] rfl rfl (by kernel_rfl) (fun _ _ _ h => h) (Or.inl ⟨by rfl, ?_⟩) hHeld ?_ ?_
    rotate_left
    · intro w' s0
      go_split_ands
      go_simp
      with_reducible rfl
    rotate_left
    · simp only [Act.put, List.setIfInBounds_toArray, List.set_cons_zero, List.set_cons_succ, i64_w, i32_w]
      rfl
    refine take_ (i := 1) (N := some 124) (v := ?_) (a' := ?_) #[true, true, false, false, false] rfl rfl (by kernel_rfl) (fun _ _ _ h => h) (Or.inl ⟨by rfl, ?_⟩) hHeld ?_ ?_
    rotate_left
    · intro w' s0
      go_split_ands
      go_simp
      with_reducible rfl
    rotate_left
    · simp only [Act.put, List.setIfInBounds_toArray, List.set_cons_zero, List.set_cons_succ, i64_w, i32_w]
      rfl
    refine one_ (i := 2) (N := some 125) #[true, true, true, false, false] rfl rfl (by kernel_rfl) (by decide) (fun K hK => ?_)
    refine goes_ Tryd.func20 (by kernel_rfl) rfl #[.agg #[.int .i64 7, .int .i64 (hS s1).1.1, .int .i64 0, .int .i64 0, .string ⟨#[]⟩, .string ⟨#[]⟩, .string ⟨#[]⟩, .string (tS (hS s1).2).1.1, .slice none 0 0]] (by rfl) rfl rfl (by (try simp only [List.map_toArray, List.map_cons, List.map_nil]); first | done | rfl) ?_
    refine (HCK.out _ ⟨HIY.out, L.out⟩).mono ?_
    rintro e wc ⟨rfl, hI⟩
    refine ⟨_, rfl, ?_⟩
    have HIC := Aside0.mk hI
    have HC := hI.k3
    have v0 := cell_blk (j := 0) (v := .int .i64 7) HC rfl
    have v1 := cell_blk (j := 1) (v := .int .i64 (hS s1).1.1) HC rfl
    have v2 := cell_blk (j := 2) (v := .int .i64 0) HC rfl
    have v3 := cell_blk (j := 3) (v := .int .i64 0) HC rfl
    have v4 := cell_blk (j := 4) (v := .string ⟨#[]⟩) HC rfl
    have v5 := cell_blk (j := 5) (v := .string ⟨#[]⟩) HC rfl
    have v6 := cell_blk (j := 6) (v := .string ⟨#[]⟩) HC rfl
    have v7 := cell_blk (j := 7) (v := .string (tS (hS s1).2).1.1) HC rfl
    have v8 := cell_blk (j := 8) (v := .slice none 0 0) HC rfl
    have HY := Aside0.mk hI.k2
    have y0 := cell_blk (j := 0) (v := .int .i64 0) HY.out rfl
    have z0 := Lib.frozen_of_heap HY.out 0
    have y1 := cell_blk (j := 1) (v := .int .i64 0) HY.out rfl
    have z1 := Lib.frozen_of_heap HY.out 1
    have y2 := cell_blk (j := 2) (v := .int .i64 0) HY.out rfl
    have z2 := Lib.frozen_of_heap HY.out 2
    have y3 := cell_blk (j := 3) (v := .int .i64 0) HY.out rfl
    have z3 := Lib.frozen_of_heap HY.out 3
    have y4 := cell_blk (j := 4) (v := .string ⟨#[]⟩) HY.out rfl
    have z4 := Lib.frozen_of_heap HY.out 4
    have y5 := cell_blk (j := 5) (v := .string ⟨#[]⟩) HY.out rfl
    have z5 := Lib.frozen_of_heap HY.out 5
    have y6 := cell_blk (j := 6) (v := .string ⟨#[]⟩) HY.out rfl
    have z6 := Lib.frozen_of_heap HY.out 6
    have y7 := cell_blk (j := 7) (v := .string ⟨#[]⟩) HY.out rfl
    have z7 := Lib.frozen_of_heap HY.out 7
    have y8 := cell_blk (j := 8) (v := .slice none 0 0) HY.out rfl
    have z8 := Lib.frozen_of_heap HY.out 8
    clear HC hI
    refine hK.out _ _ ⟨v0, v1, v2, v3, v4, v5, v6, v7, v8⟩ (fun hHeld => ?_)
    clear hK K
    refine norm_ (a' := ?_) ?_ ?_
    rotate_left
    · show Act.put _ (some 125) _ = _
      simp only [Act.put, List.setIfInBounds_toArray, List.set_cons_zero, List.set_cons_succ, i64_w, i32_w]
      rfl
    refine last_ (i := 3) (N := none) #[true, true, true, true, false] rfl rfl (by kernel_rfl) (by decide) (fun K hK => ?_)
    refine skip_ (w1 := ?_) (by rfl) rfl ?_ ?_
    rotate_left
    · go_simp
      rfl
    refine hK.out _ _ ?_
    clear hK K
    refine pure_ (i := 4) (N := some 3) (v := ?_) (a' := ?_) #[true, true, true, true, true] rfl rfl (by kernel_rfl) (fun _ _ _ h => h) (Or.inl ⟨by rfl, ?_⟩) ?_ ?_
    rotate_left
    · intro w'
      go_simp
      with_reducible rfl
    rotate_left
    · simp only [Act.put, List.setIfInBounds_toArray, List.set_cons_zero, List.set_cons_succ, i64_w, i32_w]
      rfl
    refine done_ (by kernel_rfl) ?_
    have hpz := L.out.h2
    go_wp2_with fail
    skip
    refine bodyPost_ret (results_ct rfl _ _ w.heap.size 42 _ (0, 0) _ rfl ((set_blk (j := 8) (set_blk (j := 7) (set_blk (j := 6) (set_blk (j := 5) (set_blk (j := 4) (set_blk (j := 3) (set_blk (j := 2) (set_blk (j := 1) (set_blk (j := 0) (HY.out) _) _) _) _) _) _) _) _) _)) Tryd.underlying42 rfl (by kernel_rfl)) rfl ?_
    rw [HGD.out]
    exact xopPost_ok ((AtB.set (AtB.set (AtB.set (AtB.set (AtB.set (AtB.set (AtB.set (AtB.set (AtB.set ⟨HIC.out.but, HIC.out.at_⟩ hpw hpz hok 0 _) hpw hpz hok 1 _) hpw hpz hok 2 _) hpw hpz hok 3 _) hpw hpz hok 4 _) hpw hpz hok 5 _) hpw hpz hok 6 _) hpw hpz hok 7 _) hpw hpz hok 8 _)) (.slice none 0 0) rfl (Kd.R_nil k44 44 _ _ _)
  · have hgood := opR_badx s hs1 7 hk (by decide) (by simpa [bodyR] using hz)
    simp only [bodyR, Int.reduceEq, if_false, if_true] at hgood
    have HGD := Aside0.mk hgood
    have h1 : ((tS (hS s1).2).2.2 == 0) = false := by simpa using hz
    have h2 : ((tS (hS s1).2).2.2 != 0) = true := by simpa using hz
    clear h hgl hw he7 hs1 hgood hk hB0 hB1 hB2 hB3 hn1 hs7
    go_enter Tryd.func26, Tryd.ntmps26
    go_wp2_with (first
    | (go_at_call 25; (with_reducible refine (HN.out _ (AtR.al H.out _)).mono ?_); rintro e w1 ⟨rfl, h2, h3⟩; have HI0 := Aside0.mk (xinv_start w p ok (.cells #[.int .i64 0, .int .i64 0, .int .i64 0, .int .i64 0, .string ⟨#[]⟩, .string ⟨#[]⟩, .string ⟨#[]⟩, .string ⟨#[]⟩, .slice none 0 0] 42) (.cells #[.int .i64 7, .int .i64 0, .int .i64 0, .int .i64 0, .string ⟨#[]⟩, .string ⟨#[]⟩, .string ⟨#[]⟩, .string ⟨#[]⟩, .slice none 0 0] 42) s1 w1 hpw h2 h3); have L := Aside0.mk (xlie_start w p ok _ w1 hpw hok h3); have hne : ¬ w.heap.size = w1.heap.size := L.out.n13; have hnp : ¬ p = w1.heap.size := (by have := L.out.h3; omega); clear h2 h3)
    | (go_at_call 25; (with_reducible refine (InvO.xhandle HI0.out L.out).mono ?_); rintro e w2 ⟨rfl, hI⟩; have HI1 := Aside0.mk hI; clear hI; have ep := AtR.err HI1.out.at_; have fz := Lib.frozen_of_heap HI1.out.k3 1; have HC := InvO.k3 HI1.out; have x0 := cell_blk (j := 0) (v := .int .i64 7) HC rfl; have x1 := cell_blk (j := 1) (v := .int .i64 0) HC rfl; have x2 := cell_blk (j := 2) (v := .int .i64 0) HC rfl; have x3 := cell_blk (j := 3) (v := .int .i64 0) HC rfl; have x4 := cell_blk (j := 4) (v := .string ⟨#[]⟩) HC rfl; have x5 := cell_blk (j := 5) (v := .string ⟨#[]⟩) HC rfl; have x6 := cell_blk (j := 6) (v := .string ⟨#[]⟩) HC rfl; have x7 := cell_blk (j := 7) (v := .string ⟨#[]⟩) HC rfl; have x8 := cell_blk (j := 8) (v := .slice none 0 0) HC rfl; clear HC)
    | (go_at_call 48; (with_reducible refine (InvO.xnextS (InvO.set HI1.out L.out 1 (.int .i64 (hS s1).1.1)) L.out).mono ?_); rintro e w3 ⟨rfl, hI⟩; have HI2 := Aside0.mk hI; clear hI; clear x0 x1 x2 x3 x4 x5 x6 x7 x8 fz ep; have ep := AtR.err HI2.out.at_; have fz := Lib.frozen_of_heap HI2.out.k3 7; have HC := InvO.k3 HI2.out; have x0 := cell_blk (j := 0) (v := .int .i64 7) HC rfl; have x1 := cell_blk (j := 1) (v := .int .i64 (hS s1).1.1) HC rfl; have x2 := cell_blk (j := 2) (v := .int .i64 0) HC rfl; have x3 := cell_blk (j := 3) (v := .int .i64 0) HC rfl; have x4 := cell_blk (j := 4) (v := .string ⟨#[]⟩) HC rfl; have x5 := cell_blk (j := 5) (v := .string ⟨#[]⟩) HC rfl; have x6 := cell_blk (j := 6) (v := .string ⟨#[]⟩) HC rfl; have x7 := cell_blk (j := 7) (v := .string ⟨#[]⟩) HC rfl; have x8 := cell_blk (j := 8) (v := .slice none 0 0) HC rfl; clear HC))
    have HIZ := Aside0.mk (InvO.set HI2.out L.out 7 (.string (tS (hS s1).2).1.1))
    have HC := HIZ.out.k3
    have xx0 := cell_blk (j := 0) (v := .int .i64 7) HC rfl
    have xx1 := cell_blk (j := 1) (v := .int .i64 (hS s1).1.1) HC rfl
    have xx2 := cell_blk (j := 2) (v := .int .i64 0) HC rfl
    have xx3 := cell_blk (j := 3) (v := .int .i64 0) HC rfl
    have xx4 := cell_blk (j := 4) (v := .string ⟨#[]⟩) HC rfl
    have xx5 := cell_blk (j := 5) (v := .string ⟨#[]⟩) HC rfl
    have xx6 := cell_blk (j := 6) (v := .string ⟨#[]⟩) HC rfl
    have xx7 := cell_blk (j := 7) (v := .string (tS (hS s1).2).1.1) HC rfl
    have xx8 := cell_blk (j := 8) (v := .slice none 0 0) HC rfl
    have ep2 := AtR.err HIZ.out.at_
    have HIY := Aside0.mk (HIZ.out.xdrew L.out)
    clear HC x0 x1 x2 x3 x4 x5 x6 x7 x8 ep fz
    refine start_ (n := 7) (S := fun w' => w'.cell? ⟨w1.heap.size, 0, none⟩ = some (.int .i64 7) ∧ w'.cell? ⟨w1.heap.size, 1, none⟩ = some (.int .i64 (hS s1).1.1) ∧ w'.cell? ⟨w1.heap.size, 2, none⟩ = some (.int .i64 0) ∧ w'.cell? ⟨w1.heap.size, 3, none⟩ = some (.int .i64 0) ∧ w'.cell? ⟨w1.heap.size, 4, none⟩ = some (.string ⟨#[]⟩) ∧ w'.cell? ⟨w1.heap.size, 5, none⟩ = some (.string ⟨#[]⟩) ∧ w'.cell? ⟨w1.heap.size, 6, none⟩ = some (.string ⟨#[]⟩) ∧ w'.cell? ⟨w1.heap.size, 7, none⟩ = some (.string (tS (hS s1).2).1.1) ∧ w'.cell? ⟨w1.heap.size, 8, none⟩ = some (.slice none 0 0) ∧ w'.cell? ⟨p, 1, none⟩ = some (.int .i64 (tS (hS s1).2).2.2)) (ds := []) #[false, false, false, false, false, false, false] (by kernel_rfl) rfl rfl ⟨cell_drew xx0, cell_drew xx1, cell_drew xx2, cell_drew xx3, cell_drew xx4, cell_drew xx5, cell_drew xx6, cell_drew xx7, cell_drew xx8, cell_drew ep2⟩ (fun hHeld => ?_)
    refine take_ (i := 0) (N := some 118) (v := ?_) (a' := ?_) #[true, false, false, false, false, false, false] rfl rfl (by kernel_rfl) (fun _ _ _ h => h) (Or.inl ⟨by rfl, ?_⟩) hHeld ?_ ?_
    rotate_left
    · intro w' s0
      go_split_ands
      go_simp
      with_reducible rfl
    rotate_left
    · simp only [Act.put, List.setIfInBounds_toArray, List.set_cons_zero, List.set_cons_succ, i64_w, i32_w]
      rfl
    refine pure_ (i := 1) (N := some 119) (v := ?_) (a' := ?_) #[true, true, false, false, false, false, false] rfl rfl (by kernel_rfl) (fun _ _ _ h => h) (Or.inl ⟨by rfl, ?_⟩) ?_ ?_
    rotate_left
    · intro w'
      go_simp
      with_reducible rfl
    rotate_left
    · simp only [Act.put, List.setIfInBounds_toArray, List.set_cons_zero, List.set_cons_succ, i64_w, i32_w]
      rfl
    refine take_ (i := 2) (N := some 120) (v := ?_) (a' := ?_) #[true, true, true, false, false, false, false] rfl rfl (by kernel_rfl) (fun _ _ _ h => h) (Or.inl ⟨by rfl, ?_⟩) hHeld ?_ ?_
    rotate_left
    · intro w' s0
      go_split_ands
      go_simp
      with_reducible rfl
    rotate_left
    · simp only [Act.put, List.setIfInBounds_toArray, List.set_cons_zero, List.set_cons_succ, i64_w, i32_w]
      rfl
    refine pure_ (i := 3) (N := some 121) (v := ?_) (a' := ?_) #[true, true, true, true, false, false, false] rfl rfl (by kernel_rfl) (fun _ _ _ h => h) (Or.inl ⟨by rfl, ?_⟩) ?_ ?_
    rotate_left
    · intro w'
      go_simp
      with_reducible rfl
    rotate_left
    · simp only [Act.put, List.setIfInBounds_toArray, List.set_cons_zero, List.set_cons_succ, i64_w, i32_w]
      rfl
    refine take_ (i := 4) (N := some 122) (v := ?_) (a' := ?_) #[true, true, true, true, true, false, false] rfl rfl (by kernel_rfl) (fun _ _ _ h => h) (Or.inl ⟨by rfl, ?_⟩) hHeld ?_ ?_
    rotate_left
    · intro w' s0
      go_split_ands
      go_simp
      with_reducible rfl
    rotate_left
    · simp only [Act.put, List.setIfInBounds_toArray, List.set_cons_zero, List.set_cons_succ, i64_w, i32_w]
      rfl
    have HY := Aside0.mk HIZ.out.k2
    have HYB := Aside0.mk HI2.out.k2
    have y0 := cell_blk (j := 0) (v := .int .i64 0) HYB.out rfl
    have z0 := Lib.frozen_of_heap HYB.out 0
    have y1 := cell_blk (j := 1) (v := .int .i64 0) HYB.out rfl
    have z1 := Lib.frozen_of_heap HYB.out 1
    have y2 := cell_blk (j := 2) (v := .int .i64 0) HYB.out rfl
    have z2 := Lib.frozen_of_heap HYB.out 2
    have y3 := cell_blk (j := 3) (v := .int .i64 0) HYB.out rfl
    have z3 := Lib.frozen_of_heap HYB.out 3
    have y4 := cell_blk (j := 4) (v := .string ⟨#[]⟩) HYB.out rfl
    have z4 := Lib.frozen_of_heap HYB.out 4
    have y5 := cell_blk (j := 5) (v := .string ⟨#[]⟩) HYB.out rfl
    have z5 := Lib.frozen_of_heap HYB.out 5
    have y6 := cell_blk (j := 6) (v := .string ⟨#[]⟩) HYB.out rfl
    have z6 := Lib.frozen_of_heap HYB.out 6
    have y7 := cell_blk (j := 7) (v := .string ⟨#[]⟩) HYB.out rfl
    have z7 := Lib.frozen_of_heap HYB.out 7
    have y8 := cell_blk (j := 8) (v := .slice none 0 0) HYB.out rfl
    have z8 := Lib.frozen_of_heap HYB.out 8
    have hnb : ¬ w1.heap.size = w.heap.size := fun e => hne e.symm
    have hnp3 : ¬ p = w.heap.size := by omega
    refine one_ (i := 5) (N := none) #[true, true, true, true, true, true, false] rfl rfl (by kernel_rfl) (by decide) (fun K hK => ?_)
    refine skip_ (w1 := ?_) (by rfl) rfl ?_ ?_
    rotate_left
    · go_simp
      rfl
    refine hK.out _ _ ⟨cell_drew (cell_far9 xx0 hnb), cell_drew (cell_far9 xx1 hnb), cell_drew (cell_far9 xx2 hnb), cell_drew (cell_far9 xx3 hnb), cell_drew (cell_far9 xx4 hnb), cell_drew (cell_far9 xx5 hnb), cell_drew (cell_far9 xx6 hnb), cell_drew (cell_far9 xx7 hnb), cell_drew (cell_far9 xx8 hnb), cell_drew (cell_far9 ep2 hnp3)⟩ (fun hHeld => ?_)
    clear hK K
    refine pure_ (i := 6) (N := some 3) (v := ?_) (a' := ?_) #[true, true, true, true, true, true, true] rfl rfl (by kernel_rfl) (fun _ _ _ h => h) (Or.inl ⟨by rfl, ?_⟩) ?_ ?_
    rotate_left
    · intro w'
      go_simp
      with_reducible rfl
    rotate_left
    · simp only [Act.put, List.setIfInBounds_toArray, List.set_cons_zero, List.set_cons_succ, i64_w, i32_w]
      rfl
    refine done_ (by kernel_rfl) ?_
    have hpz := L.out.h2
    go_wp2_with fail
    skip
    refine bodyPost_ret (results_ct rfl _ _ w.heap.size 42 _ (0, 0) _ rfl (drew_blk (set_blk (j := 8) (set_blk (j := 7) (set_blk (j := 6) (set_blk (j := 5) (set_blk (j := 4) (set_blk (j := 3) (set_blk (j := 2) (set_blk (j := 1) (set_blk (j := 0) (HY.out) _) _) _) _) _) _) _) _) _)) Tryd.underlying42 rfl (by kernel_rfl)) rfl ?_
    rw [HGD.out]
    exact xopPost_ok (AtB.drew (AtB.set (AtB.set (AtB.set (AtB.set (AtB.set (AtB.set (AtB.set (AtB.set (AtB.set ⟨HIZ.out.but, HIZ.out.at_⟩ hpw hpz hok 0 _) hpw hpz hok 1 _) hpw hpz hok 2 _) hpw hpz hok 3 _) hpw hpz hok 4 _) hpw hpz hok 5 _) hpw hpz hok 6 _) hpw hpz hok 7 _) hpw hpz hok 8 _)) (.slice none 0 0) rfl (Kd.R_nil k44 44 _ _ _)
end Go.Proofs.YtfpijjjmgggfkaaDoorE

namespace Go.Proofs.YtfpijjjmgggfkaaDoorE
open Go Go.RowKit Go.Proofs.YtfpijjjmgggfkaaDoorW.PrintWords Go.Proofs.YtfpijjjmgggfkaaDoorW.PrintMore Go.Proofs.YtfpijjjmgggfkaaDoorW.PrintLast Go.Proofs.YtfpijjjmgggfkaaDoorX Go.Proofs.YtfpijjjmgggfkaaDoor.P26 Go.Proofs.YtfpijjjmgggfkaaDoor.L01
set_option linter.unusedVariables false
set_option linter.unusedSimpArgs false
set_option maxRecDepth 100000
/-- What holds behind k attributes. -/
def InvX (w : World) (p : Nat) (ok : Nat → Prop) (c n : Nat) (s5 : St) (t1 t2 t3 : ByteArray) (k : Nat) (wr : World) : Prop :=
  ∃ (l : List S44) (sk : St) (v8 : Value), l.length = k ∧ attrsR n s5 = (l ++ (attrsR (n - k) sk).1, (attrsR (n - k) sk).2) ∧ (∀ x ∈ l, x.f0.size ≤ 65536 ∧ x.f1.size ≤ 65536) ∧
    InvO 61 w p ok w.heap.size (.cells #[.int .i64 0, .int .i64 0, .int .i64 0, .int .i64 0, .string ⟨#[]⟩, .string ⟨#[]⟩, .string ⟨#[]⟩, .string ⟨#[]⟩, .slice none 0 0] 42) w.heap.size (.cells #[.int .i64 0, .int .i64 0, .int .i64 0, .int .i64 0, .string ⟨#[]⟩, .string ⟨#[]⟩, .string ⟨#[]⟩, .string ⟨#[]⟩, .slice none 0 0] 42) c (.cells #[.int .i64 1, .int .i64 0, .int .i64 0, .int .i64 0, .string t1, .string t2, .string ⟨#[]⟩, .string t3, v8] 42) sk wr ∧
    k44.R 44 wr w.heap.size (fun b => b ≠ p ∧ b ≠ w.heap.size ∧ b ≠ c) v8 l
theorem InvO.far {T : Nat} {W : World} {p : Nat} {ok : Nat → Prop} {b1 : Nat} {o1 : Obj} {b2 : Nat} {o2 : Obj} {b3 : Nat} {o3 : Obj} {s : St} {w : World} (h : InvO T W p ok b1 o1 b2 o2 b3 o3 s w) (L : Lie W p ok b1 b2 b3) {b : Nat} (hb : W.heap.size ≤ b ∧ b ≠ b1 ∧ b ≠ b2 ∧ b ≠ b3) (j : Nat) (v : Value) : InvO T W p ok b1 o1 b2 o2 b3 o3 s (w.setCell ⟨b, j, none⟩ v) := by
  have hp := L.p1
  have hB : But (· = b) w (w.setCell ⟨b, j, none⟩ v) := But.put (S := (· = b)) (But.refl _ w) (j := j) rfl v
  refine ⟨h.but.setCell (.inr hb.1) v, h.at_.but hB (fun k hk => by rw [hk]; exact ⟨by omega, fun e => by have := L.okp _ e; omega⟩), (hB.block b1 (blk_lt' h.k1) (fun e => hb.2.1 e.symm)).trans h.k1, (hB.block b2 (blk_lt' h.k2) (fun e => hb.2.2.1 e.symm)).trans h.k2, (hB.block b3 (blk_lt' h.k3) (fun e => hb.2.2.2 e.symm)).trans h.k3⟩
set_option maxHeartbeats 4000000 in
theorem xop_1 (w0 : World) (hgl : GL w0) (p : Nat) (ok : Nat → Prop) (s : St) (w : World) (hok : ∀ k, ok k → k < p) (hw : Below w0.heap.size w0 w) (hw0 : w0.heap.size ≤ p) (h : AtR 61 p ok s.1 s.2 w) (hk : (nS s 7).1 = (1, 0)) :
    Calls Tryd.prog 26 #[.pointer (some ⟨p, 0, none⟩)] w fun e w' => xopPost w p ok (opR s) e w' := by
  have hpw := h.lt
  have H := Aside0.mk h
  have he7 : (nS s 7).2.2 = 0 := by rw [← nS_err, hk]
  have HN : Aside0 (∀ W, AtR 61 p ok s.1 s.2 W → Calls Tryd.prog 25 #[.pointer (some ⟨p, 0, none⟩), .int .u64 7] W fun e w' => e = .returned (.tuple #[.int .u64 1, .int .i64 0]) ∧ AtR 61 p ok (nS s 7).2.1 (nS s 7).2.2 w' ∧ But (· = p) W w') := ⟨fun W hW => (x_num p ok s.1 s.2 7 W hW).mono (by
    rintro e w' ⟨he, ha, hb⟩
    refine ⟨he.trans ?_, ha, hb⟩
    show Ending.returned (.tuple #[.int .u64 (nS s 7).1.1, .int .i64 (nS s 7).1.2]) = _
    rw [hk])⟩
  obtain ⟨s1, hs1⟩ : ∃ s1, s1 = (nS s 7).2 := ⟨_, rfl⟩
  rw [← hs1] at HN
  have hB1 := (nS_bytes s 7 H.out.2.1).1
  rw [← hs1] at hB1
  have hB2 := (tS_bytes s1 hB1).1
  have hB3 := (tS_bytes _ hB2).1
  have hB4 := (tS_bytes _ hB3).1
  have HV1 := Aside0.mk (tS_size s1 hB1)
  have HV2 := Aside0.mk (tS_size _ hB2)
  have HV3 := Aside0.mk (tS_size _ hB3)
  obtain ⟨n, hn⟩ : ∃ n : Nat, (nS (tS (tS (tS s1).2).2).2 64).1.1 = (n : Int) := ⟨(nS (tS (tS (tS s1).2).2).2 64).1.1.toNat, by have := (nS_val _ 64 hB4 (by omega)).1; omega⟩
  have hn64 : n ≤ 64 := by have := (nS_val _ 64 hB4 (by omega)).2; omega
  have hb1 : bodyR 1 s1 = (⟨1, 0, 0, 0, (tS s1).1.1, (tS (tS s1).2).1.1, em, (tS (tS (tS s1).2).2).1.1, (attrsR n (nS (tS (tS (tS s1).2).2).2 64).2).1⟩, (attrsR n (nS (tS (tS (tS s1).2).2).2 64).2).2) := by
    show (_, _) = _
    rw [hn, Int.toNat_natCast]
  have HB1 := Aside0.mk hb1
  have HNN := Aside0.mk hn
  have HG := Aside0.mk hgl
  have HWW := Aside0.mk hw
  have HS1 := Aside0.mk hs1
  have HK := Aside0.mk hk
  clear h hgl he7 hs1 hw hk hn hb1 hB1 hB2 hB3 hB4
  go_enter Tryd.func26, Tryd.ntmps26
  go_wp2_with (first
    | (go_at_call 25; (with_reducible refine (HN.out _ (AtR.al H.out _)).mono ?_); rintro e w1 ⟨rfl, h2, h3⟩; have HI0 := Aside0.mk (xinv_start w p ok (.cells #[.int .i64 0, .int .i64 0, .int .i64 0, .int .i64 0, .string ⟨#[]⟩, .string ⟨#[]⟩, .string ⟨#[]⟩, .string ⟨#[]⟩, .slice none 0 0] 42) (.cells #[.int .i64 1, .int .i64 0, .int .i64 0, .int .i64 0, .string ⟨#[]⟩, .string ⟨#[]⟩, .string ⟨#[]⟩, .string ⟨#[]⟩, .slice none 0 0] 42) s1 w1 hpw h2 h3); have L := Aside0.mk (xlie_start w p ok _ w1 hpw hok h3); have hne : ¬ w.heap.size = w1.heap.size := L.out.n13; have hnp : ¬ p = w1.heap.size := (by have := L.out.h3; omega); clear h2 h3)
    | (go_at_call 48; (with_reducible refine (InvO.xnextS HI0.out L.out).mono ?_); rintro e wt1 ⟨rfl, hI⟩; have HI1 := Aside0.mk hI; clear hI; have fz := Lib.frozen_of_heap HI1.out.k3 4; have HC := InvO.k3 HI1.out; have x0 := cell_blk (j := 0) (v := .int .i64 1) HC rfl; have x1 := cell_blk (j := 1) (v := .int .i64 0) HC rfl; have x2 := cell_blk (j := 2) (v := .int .i64 0) HC rfl; have x3 := cell_blk (j := 3) (v := .int .i64 0) HC rfl; have x4 := cell_blk (j := 4) (v := .string ⟨#[]⟩) HC rfl; have x5 := cell_blk (j := 5) (v := .string ⟨#[]⟩) HC rfl; have x6 := cell_blk (j := 6) (v := .string ⟨#[]⟩) HC rfl; have x7 := cell_blk (j := 7) (v := .string ⟨#[]⟩) HC rfl; have x8 := cell_blk (j := 8) (v := .slice none 0 0) HC rfl; clear HC)
    | (go_at_call 48; (with_reducible refine (InvO.xnextS (InvO.set HI1.out L.out 4 (.string (tS s1).1.1)) L.out).mono ?_); rintro e wt2 ⟨rfl, hI⟩; have HI2 := Aside0.mk hI; clear hI; clear x0 x1 x2 x3 x4 x5 x6 x7 x8 fz; have fz := Lib.frozen_of_heap HI2.out.k3 5; have HC := InvO.k3 HI2.out; have x0 := cell_blk (j := 0) (v := .int .i64 1) HC rfl; have x1 := cell_blk (j := 1) (v := .int .i64 0) HC rfl; have x2 := cell_blk (j := 2) (v := .int .i64 0) HC rfl; have x3 := cell_blk (j := 3) (v := .int .i64 0) HC rfl; have x4 := cell_blk (j := 4) (v := .string (tS s1).1.1) HC rfl; have x5 := cell_blk (j := 5) (v := .string ⟨#[]⟩) HC rfl; have x6 := cell_blk (j := 6) (v := .string ⟨#[]⟩) HC rfl; have x7 := cell_blk (j := 7) (v := .string ⟨#[]⟩) HC rfl; have x8 := cell_blk (j := 8) (v := .slice none 0 0) HC rfl; clear HC)
    | (go_at_call 48; (with_reducible refine (InvO.xnextS (InvO.set HI2.out L.out 5 (.string (tS (tS s1).2).1.1)) L.out).mono ?_); rintro e wt3 ⟨rfl, hI⟩; have HI3 := Aside0.mk hI; clear hI; clear x0 x1 x2 x3 x4 x5 x6 x7 x8 fz; have fz := Lib.frozen_of_heap HI3.out.k3 7; have HC := InvO.k3 HI3.out; have x0 := cell_blk (j := 0) (v := .int .i64 1) HC rfl; have x1 := cell_blk (j := 1) (v := .int .i64 0) HC rfl; have x2 := cell_blk (j := 2) (v := .int .i64 0) HC rfl; have x3 := cell_blk (j := 3) (v := .int .i64 0) HC rfl; have x4 := cell_blk (j := 4) (v := .string (tS s1).1.1) HC rfl; have x5 := cell_blk (j := 5) (v := .string (tS (tS s1).2).1.1) HC rfl; have x6 := cell_blk (j := 6) (v := .string ⟨#[]⟩) HC rfl; have x7 := cell_blk (j := 7) (v := .string ⟨#[]⟩) HC rfl; have x8 := cell_blk (j := 8) (v := .slice none 0 0) HC rfl; clear HC)
    | (go_at_call 25; (with_reducible refine (InvO.xnum (InvO.set HI3.out L.out 7 (.string (tS (tS (tS s1).2).2).1.1)) L.out 64).mono ?_); rintro e w5 ⟨rfl, hI⟩; have HI4 := Aside0.mk hI; clear hI x0 x1 x2 x3 x4 x5 x6 x7 x8 fz))
  have hwn : wrap64 (n : Int) = (n : Int) := wrap_i64_32 ⟨by omega, by omega⟩
  rw [HNN.out, hwn]
  clear hwn
  obtain ⟨s5, hs5⟩ : ∃ s5, s5 = (nS (tS (tS (tS s1).2).2).2 64).2 := ⟨_, rfl⟩
  rw [← hs5] at HB1 HI4
  clear hs5
  obtain ⟨t1, ht1⟩ : ∃ t1, t1 = (tS s1).1.1 := ⟨_, rfl⟩
  obtain ⟨t2, ht2⟩ : ∃ t2, t2 = (tS (tS s1).2).1.1 := ⟨_, rfl⟩
  obtain ⟨t3, ht3⟩ : ∃ t3, t3 = (tS (tS (tS s1).2).2).1.1 := ⟨_, rfl⟩
  rw [← ht1] at HI4 HB1 HV1 ⊢
  rw [← ht2] at HI4 HB1 HV2 ⊢
  rw [← ht3] at HI4 HB1 HV3 ⊢
  clear ht1 ht2 ht3
  have HL0 : Aside0 (InvX w p ok w1.heap.size n s5 t1 t2 t3 0 w5) := ⟨[], s5, .slice none 0 0, rfl, by simp, by simp, HI4.out, Kd.R_nil k44 44 _ _ _⟩
  clear HI4 HNN
  go_loopw [97] (fun i wr => ∃ k : Nat, k ≤ n ∧ i = .int .i64 k ∧ Aside0 (InvX w p ok w1.heap.size n s5 t1 t2 t3 k wr)) (fun i _ => n - (intOf i).toNat)
  case atStart => exact ⟨0, Nat.zero_le _, rfl, HL0⟩
  case round =>
    obtain ⟨k, hkn, rfl, HR⟩ := hrel
    by_cases hlt : k < n
    · obtain ⟨l, sk, v8, hl, hat, hsz, hI, hR⟩ := HR.out
      obtain ⟨d, hd⟩ : ∃ d, n - k = d + 1 := ⟨n - k - 1, by omega⟩
      rw [hd] at hat
      have HAT := Aside0.mk hat
      have HSZ := Aside0.mk hsz
      have HL := Aside0.mk hl
      obtain ⟨A8, c8, rfl⟩ := Kd.R_slice hR
      have q1 := blk_lt' hI.k1
      have q3 := blk_lt' hI.k3
      have qp := hI.at_.lt
      have HRR := Aside0.mk (Kd.R_alloc (Kd.R_mono (Kd.R_bound hR) (fun j hj => (⟨hj.1, hj.2.2.1⟩ : (j ≠ p ∧ j ≠ w.heap.size ∧ j ≠ w1.heap.size) ∧ j < wr.heap.size))) (.cells #[.string ⟨#[]⟩, .string ⟨#[]⟩] 44))
      have HI5 := Aside0.mk (hI.al L.out (.cells #[.string ⟨#[]⟩, .string ⟨#[]⟩] 44))
      have HA5 := Aside0.mk (one_new_ wr (.cells #[.string ⟨#[]⟩, .string ⟨#[]⟩] 44))
      have HBD := Aside0.mk hI.at_.2.1
      have hap : ¬ wr.heap.size = p := by omega
      have hac : ¬ wr.heap.size = w1.heap.size := by omega
      have HOT : Aside0 (w.heap.size ≤ wr.heap.size ∧ wr.heap.size ≠ w.heap.size ∧ wr.heap.size ≠ w.heap.size ∧ wr.heap.size ≠ w1.heap.size) := ⟨by omega, by omega, by omega, by omega⟩
      clear hl hat hsz hI hR q1 q3 qp
      go_wp2_with (first
        | (go_at_call 48; (with_reducible refine (InvO.xnext HI5.out L.out).mono ?_); rintro e w6 ⟨rfl, hI, hb⟩; have HI6 := Aside0.mk hI; have ha := (hb.block wr.heap.size (blk_lt' HA5.out) hap).trans HA5.out; have HA6 := Aside0.mk ha; have HRR := Aside0.mk (Kd.R_step HRR.out (fun j hj hlt => hb.block j hlt hj.1.1)); have a0 := cell_blk (j := 0) (v := .string ⟨#[]⟩) ha rfl; have az := Lib.frozen_of_heap ha 0; clear hI hb ha)
        | (go_at_call 48; (with_reducible refine (InvO.xnext (InvO.far HI6.out L.out HOT.out 0 (.string (tS sk).1.1)) L.out).mono ?_); rintro e w7 ⟨rfl, hI, hb⟩; have HI7 := Aside0.mk hI; have hs6 := set_blk (j := 0) HA6.out (.string (tS sk).1.1); have ha := (hb.block wr.heap.size (blk_lt' hs6) hap).trans hs6; have HA7 := Aside0.mk ha; have HRR := Aside0.mk (Kd.R_step (Kd.R_far HRR.out (p := ⟨wr.heap.size, 0, none⟩) (fun j hj => Nat.ne_of_lt hj.2) (.string (tS sk).1.1)) (fun j hj hlt => hb.block j hlt hj.1.1)); clear a0 az; have a0 := cell_blk (j := 0) (v := .string (tS sk).1.1) ha rfl; have a1 := cell_blk (j := 1) (v := .string ⟨#[]⟩) ha rfl; have az := Lib.frozen_of_heap ha 1; have y7 := cell_blk (j := 8) (v := .slice A8 l.length c8) hI.k3 rfl; clear hI hb ha hs6)
        | (at_builtin; have hsz8 : (w7.setCell ⟨wr.heap.size, 1, none⟩ (.string (tS (tS sk).2).1.1)).heap.size = w7.heap.size := (by simp [World.setCell]); have HF2 := Kd.R_mono (ok' := (fun j => j ≠ p ∧ j ≠ w.heap.size ∧ j ≠ w1.heap.size)) (Kd.R_far HRR.out (p := ⟨wr.heap.size, 1, none⟩) (fun j hj => Nat.ne_of_lt hj.2) (.string (tS (tS sk).2).1.1)) (fun j hj => hj.1); refine Kd.R_append (w0 := w7.setCell ⟨wr.heap.size, 1, none⟩ (.string (tS (tS sk).2).1.1)) (W := w7.setCell ⟨wr.heap.size, 1, none⟩ (.string (tS (tS sk).2).1.1)) k44 w.heap.size rfl (.tmp 107) (.tmp 109) 40 44 (.agg #[.string ⟨#[]⟩, .string ⟨#[]⟩]) 32 rfl Tryd.underlying40 info_attr rfl (by decide) (by decide) (.slice A8 l.length c8) l ⟨(tS sk).1.1, (tS (tS sk).2).1.1⟩ [.string (tS sk).1.1, .string (tS (tS sk).2).1.1] (fun j => j ≠ p ∧ j ≠ w.heap.size ∧ j ≠ w1.heap.size) (fun _ => False) rfl (by rw [hsz8]; rfl) (k44_mkM _ w.heap.size _ ⟨(tS sk).1.1, (tS (tS sk).2).1.1⟩) (fun _ h => h.elim) ?hfr HF2 (Below.refl _ _) ?hbase ?hlen ?hk; (case hfr => have HX := HI7.out; have e1 := blk_lt' HX.k1; have e3 := blk_lt' HX.k3; have ep := HX.at_.lt; intro j hj; simp at hj; exact ⟨by omega, by omega, by omega⟩); (case hbase => have := HI7.out.but.size; simp; omega); (case hlen => have := HL.out; omega); intro v1 wa hR1 hb1 hg1 hat1; obtain ⟨A9, c9, rfl⟩ := Kd.R_slice hR1; have hown : ∀ j, (Value.slice A8 l.length c8).ownBlock = some j → w.heap.size ≤ j ∧ j ≠ w.heap.size ∧ j ≠ w.heap.size ∧ j ≠ w1.heap.size := fun j hj => ⟨Kd.R_base HRR.out j hj, (HRR.out.1 j hj).1.2.1, (HRR.out.1 j hj).1.2.1, (HRR.out.1 j hj).1.2.2⟩; have HI9 := Aside0.mk ((InvO.far HI7.out L.out HOT.out 1 (.string (tS (tS sk).2).1.1)).grown L.out hg1 hown); have HR9 := Aside0.mk hR1; have y9 := cell_blk (j := 8) (v := .slice A8 l.length c8) HI9.out.k3 rfl; have z9 := Lib.frozen_of_heap HI9.out.k3 8; clear hR1 hb1 hg1 hat1 hown HF2 hsz8 y7 a0 a1 az))
      go_roundw
      case rel =>
        have hs1 := tS_size sk HBD.out
        have hs2 := tS_size (tS sk).2 (tS_bytes sk HBD.out).1
        refine ⟨k + 1, by omega, by go_num, ⟨l ++ [⟨(tS sk).1.1, (tS (tS sk).2).1.1⟩], (tS (tS sk).2).2, _, by rw [List.length_append, HL.out]; rfl, ?_, ?_, InvO.set HI9.out L.out 8 _, by have h9 := Kd.R_far HR9.out (p := ⟨w1.heap.size, 8, none⟩) (fun j hj => hj.2.2) (.slice A9 (l.length + 1) c9); rw [List.length_append] at h9; exact h9⟩⟩
        · rw [HAT.out, show n - (k + 1) = d by omega]
          show (l ++ _ :: _, _) = _
          rw [List.append_assoc]
          rfl
        · intro x hx
          rcases List.mem_append.1 hx with hx | hx
          · exact HSZ.out x hx
          · obtain rfl := List.mem_singleton.1 hx
            exact ⟨hs1, hs2⟩
      case measure => simp [intOf]; omega
    · obtain rfl : k = n := by omega
      obtain ⟨l, sk, v8, hl, hat, hsz, hI, hR⟩ := HR.out
      obtain ⟨A8, c8, rfl, hc8, hC8⟩ := Kd.R_reads hR
      rw [Nat.sub_self] at hat
      have hat' : attrsR k s5 = (l, sk) := by rw [hat]; simp [attrsR]
      rw [hat'] at HB1
      have HRR := Aside0.mk hR
      have HI6 := Aside0.mk hI
      have HCK : Aside0 (Calls Tryd.prog 20 #[.agg #[.int .i64 1, .int .i64 0, .int .i64 0, .int .i64 0, .string t1, .string t2, .string ⟨#[]⟩, .string t3, .slice A8 l.length c8]] wr.drew fun e w' => e = .returned (.int .i64 (chk ⟨1, 0, 0, 0, t1, t2, em, t3, l⟩)) ∧ Below wr.drew.heap.size wr.drew w') := ⟨by
        have hw := HWW.out
        have hb : Below w0.heap.size w0 wr := ⟨hI.but.os.trans hw.os, hI.but.tape.trans hw.tape, hI.but.output.trans hw.output, Nat.le_trans hw.size hI.but.size, fun k hk => (hI.but.block k (Nat.lt_of_lt_of_le hk hw.size) (by omega)).trans (hw.block k hk)⟩
        refine rcheck_x ⟨1, 0, 0, 0, t1, t2, em, t3, l⟩ A8 c8 wr.drew (HG.out.below (below_drew hb)) (Kd.C_below hC8 (below_drew (Below.refl _ _))) hc8 ⟨i64_k 1 (by omega), i64_k 0 (by omega), i64_k 0 (by omega), i64_k 0 (by omega), size_up HV1.out, size_up HV2.out, Nat.zero_le _, size_up HV3.out, by simp only [hl]; omega, fun i hi => ?_⟩
        have hm : rd_T44 l (i : Int) ∈ l := by
          simp only at hi
          unfold rd_T44
          rw [Int.toNat_natCast, List.getD_eq_getElem?_getD, List.getElem?_eq_getElem hi]
          exact List.getElem_mem hi
        exact ⟨size_up (hsz _ hm).1, size_up (hsz _ hm).2⟩⟩
      by_cases hz : sk.2 = 0
      · have hgood := opR_good s HS1.out 1 HK.out (by decide) (by rw [HB1.out]; exact hz)
        rw [HB1.out] at hgood
        have HGD := Aside0.mk hgood
        have ep := AtR.err hI.at_
        rw [hz] at ep
        clear hl hat hat' hsz hI hR hC8 hgood hz
        go_wp2_with fail
        have HIZ := Aside0.mk (HI6.out)
        have HC := HIZ.out.k3
        have xx0 := cell_blk (j := 0) (v := .int .i64 1) HC rfl
        have xx1 := cell_blk (j := 1) (v := .int .i64 0) HC rfl
        have xx2 := cell_blk (j := 2) (v := .int .i64 0) HC rfl
        have xx3 := cell_blk (j := 3) (v := .int .i64 0) HC rfl
        have xx4 := cell_blk (j := 4) (v := .string t1) HC rfl
        have xx5 := cell_blk (j := 5) (v := .string t2) HC rfl
        have xx6 := cell_blk (j := 6) (v := .string ⟨#[]⟩) HC rfl
        have xx7 := cell_blk (j := 7) (v := .string t3) HC rfl
        have xx8 := cell_blk (j := 8) (v := .slice A8 l.length c8) HC rfl
        have HIY := Aside0.mk (HIZ.out.xdrew L.out)
        clear HC
        refine start_ (n := 5) (S := fun w' => w'.cell? ⟨w1.heap.size, 0, none⟩ = some (.int .i64 1) ∧ w'.cell? ⟨w1.heap.size, 1, none⟩ = some (.int .i64 0) ∧ w'.cell? ⟨w1.heap.size, 2, none⟩ = some (.int .i64 0) ∧ w'.cell? ⟨w1.heap.size, 3, none⟩ = some (.int .i64 0) ∧ w'.cell? ⟨w1.heap.size, 4, none⟩ = some (.string t1) ∧ w'.cell? ⟨w1.heap.size, 5, none⟩ = some (.string t2) ∧ w'.cell? ⟨w1.heap.size, 6, none⟩ = some (.string ⟨#[]⟩) ∧ w'.cell? ⟨w1.heap.size, 7, none⟩ = some (.string t3) ∧ w'.cell? ⟨w1.heap.size, 8, none⟩ = some (.slice A8 l.length c8)) (ds := [3]) #[false, false, false, false, false] (by kernel_rfl) rfl rfl ⟨cell_drew xx0, cell_drew xx1, cell_drew xx2, cell_drew xx3, cell_drew xx4, cell_drew xx5, cell_drew xx6, cell_drew xx7, cell_drew xx8⟩ (fun hHeld => ?_)
        refine take_ (i := 0) (N := some 123) (v := ?_) (a' := ?_) #[true, false, false, false, false] rfl rfl (by kernel_rfl) (fun _ _ _ h => h) (Or.inl ⟨by rfl, ?_⟩) hHeld ?_ ?_
        rotate_left
        · intro w' s0
          go_split_ands
          go_simp
          with_reducible rfl
        rotate_left
        · simp only [Act.put, List.setIfInBounds_toArray, List.set_cons_zero, List.set_cons_succ, i64_w, i32_w]
          rfl
        refine take_ (i := 1) (N := some 124) (v := ?_) (a' := ?_) #[true, true, false, false, false] rfl rfl (by kernel_rfl) (fun _ _ _ h => h) (Or.inl ⟨by rfl, ?_⟩) hHeld ?_ ?_
        rotate_left
        · intro w' s0
          go_split_ands
          go_simp
          with_reducible rfl
        rotate_left
        · simp only [Act.put, List.setIfInBounds_toArray, List.set_cons_zero, List.set_cons_succ, i64_w, i32_w]
          rfl
        refine one_ (i := 2) (N := some 125) #[true, true, true, false, false] rfl rfl (by kernel_rfl) (by decide) (fun K hK => ?_)
        refine goes_ Tryd.func20 (by kernel_rfl) rfl #[.agg #[.int .i64 1, .int .i64 0, .int .i64 0, .int .i64 0, .string t1, .string t2, .string ⟨#[]⟩, .string t3, .slice A8 l.length c8]] (by rfl) rfl rfl (by (try simp only [List.map_toArray, List.map_cons, List.map_nil]); first | done | rfl) ?_
        refine (HCK.out).mono ?_
        rintro e wc ⟨rfl, hb⟩
        refine ⟨_, rfl, ?_⟩
        have HIC := Aside0.mk (HIY.out.below L.out hb)
        have HRC := Aside0.mk (Kd.R_below (Kd.R_drew HRR.out) hb)
        have HC := HIC.out.k3
        have v0 := cell_blk (j := 0) (v := .int .i64 1) HC rfl
        have v1 := cell_blk (j := 1) (v := .int .i64 0) HC rfl
        have v2 := cell_blk (j := 2) (v := .int .i64 0) HC rfl
        have v3 := cell_blk (j := 3) (v := .int .i64 0) HC rfl
        have v4 := cell_blk (j := 4) (v := .string t1) HC rfl
        have v5 := cell_blk (j := 5) (v := .string t2) HC rfl
        have v6 := cell_blk (j := 6) (v := .string ⟨#[]⟩) HC rfl
        have v7 := cell_blk (j := 7) (v := .string t3) HC rfl
        have v8 := cell_blk (j := 8) (v := .slice A8 l.length c8) HC rfl
        have HY := Aside0.mk HIC.out.k2
        have y0 := cell_blk (j := 0) (v := .int .i64 0) HY.out rfl
        have z0 := Lib.frozen_of_heap HY.out 0
        have y1 := cell_blk (j := 1) (v := .int .i64 0) HY.out rfl
        have z1 := Lib.frozen_of_heap HY.out 1
        have y2 := cell_blk (j := 2) (v := .int .i64 0) HY.out rfl
        have z2 := Lib.frozen_of_heap HY.out 2
        have y3 := cell_blk (j := 3) (v := .int .i64 0) HY.out rfl
        have z3 := Lib.frozen_of_heap HY.out 3
        have y4 := cell_blk (j := 4) (v := .string ⟨#[]⟩) HY.out rfl
        have z4 := Lib.frozen_of_heap HY.out 4
        have y5 := cell_blk (j := 5) (v := .string ⟨#[]⟩) HY.out rfl
        have z5 := Lib.frozen_of_heap HY.out 5
        have y6 := cell_blk (j := 6) (v := .string ⟨#[]⟩) HY.out rfl
        have z6 := Lib.frozen_of_heap HY.out 6
        have y7 := cell_blk (j := 7) (v := .string ⟨#[]⟩) HY.out rfl
        have z7 := Lib.frozen_of_heap HY.out 7
        have y8 := cell_blk (j := 8) (v := .slice none 0 0) HY.out rfl
        have z8 := Lib.frozen_of_heap HY.out 8
        clear HC hb
        refine hK.out _ _ ⟨v0, v1, v2, v3, v4, v5, v6, v7, v8⟩ (fun hHeld => ?_)
        clear hK K
        refine norm_ (a' := ?_) ?_ ?_
        rotate_left
        · show Act.put _ (some 125) _ = _
          simp only [Act.put, List.setIfInBounds_toArray, List.set_cons_zero, List.set_cons_succ, i64_w, i32_w]
          rfl
        refine last_ (i := 3) (N := none) #[true, true, true, true, false] rfl rfl (by kernel_rfl) (by decide) (fun K hK => ?_)
        refine skip_ (w1 := ?_) (by rfl) rfl ?_ ?_
        rotate_left
        · go_simp
          rfl
        refine hK.out _ _ ?_
        clear hK K
        refine pure_ (i := 4) (N := some 3) (v := ?_) (a' := ?_) #[true, true, true, true, true] rfl rfl (by kernel_rfl) (fun _ _ _ h => h) (Or.inl ⟨by rfl, ?_⟩) ?_ ?_
        rotate_left
        · intro w'
          go_simp
          with_reducible rfl
        rotate_left
        · simp only [Act.put, List.setIfInBounds_toArray, List.set_cons_zero, List.set_cons_succ, i64_w, i32_w]
          rfl
        refine done_ (by kernel_rfl) ?_
        have hpz := L.out.h2
        go_wp2_with fail
        skip
        refine bodyPost_ret (results_ct rfl _ _ w.heap.size 42 _ (0, 0) _ rfl ((set_blk (j := 8) (set_blk (j := 7) (set_blk (j := 6) (set_blk (j := 5) (set_blk (j := 4) (set_blk (j := 3) (set_blk (j := 2) (set_blk (j := 1) (set_blk (j := 0) (HY.out) _) _) _) _) _) _) _) _) _)) Tryd.underlying42 rfl (by kernel_rfl)) rfl ?_
        rw [HGD.out]
        exact xopPost_ok ((AtB.set (AtB.set (AtB.set (AtB.set (AtB.set (AtB.set (AtB.set (AtB.set (AtB.set ⟨HIC.out.but, HIC.out.at_⟩ hpw hpz hok 0 _) hpw hpz hok 1 _) hpw hpz hok 2 _) hpw hpz hok 3 _) hpw hpz hok 4 _) hpw hpz hok 5 _) hpw hpz hok 6 _) hpw hpz hok 7 _) hpw hpz hok 8 _)) (.slice A8 l.length c8) rfl (Kd.R_mono (Kd.R_far (Kd.R_far (Kd.R_far (Kd.R_far (Kd.R_far (Kd.R_far (Kd.R_far (Kd.R_far (Kd.R_far (HRC.out) (fun j hj => hj.2.1) _) (fun j hj => hj.2.1) _) (fun j hj => hj.2.1) _) (fun j hj => hj.2.1) _) (fun j hj => hj.2.1) _) (fun j hj => hj.2.1) _) (fun j hj => hj.2.1) _) (fun j hj => hj.2.1) _) (fun j hj => hj.2.1) _) (fun _ _ => trivial))
      · have hgood := opR_badx s HS1.out 1 HK.out (by decide) (by rw [HB1.out]; exact hz)
        rw [HB1.out] at hgood
        have HGD := Aside0.mk hgood
        have ep := AtR.err hI.at_
        have h1 : (sk.2 == 0) = false := by simpa using hz
        have h2 : (sk.2 != 0) = true := by simpa using hz
        clear hl hat hat' hsz hI hR hC8 hgood
        go_wp2_with fail
        have HIZ := Aside0.mk (HI6.out)
        have HC := HIZ.out.k3
        have xx0 := cell_blk (j := 0) (v := .int .i64 1) HC rfl
        have xx1 := cell_blk (j := 1) (v := .int .i64 0) HC rfl
        have xx2 := cell_blk (j := 2) (v := .int .i64 0) HC rfl
        have xx3 := cell_blk (j := 3) (v := .int .i64 0) HC rfl
        have xx4 := cell_blk (j := 4) (v := .string t1) HC rfl
        have xx5 := cell_blk (j := 5) (v := .string t2) HC rfl
        have xx6 := cell_blk (j := 6) (v := .string ⟨#[]⟩) HC rfl
        have xx7 := cell_blk (j := 7) (v := .string t3) HC rfl
        have xx8 := cell_blk (j := 8) (v := .slice A8 l.length c8) HC rfl
        have ep2 := AtR.err HIZ.out.at_
        have HIY := Aside0.mk (HIZ.out.xdrew L.out)
        clear HC
        refine start_ (n := 7) (S := fun w' => w'.cell? ⟨w1.heap.size, 0, none⟩ = some (.int .i64 1) ∧ w'.cell? ⟨w1.heap.size, 1, none⟩ = some (.int .i64 0) ∧ w'.cell? ⟨w1.heap.size, 2, none⟩ = some (.int .i64 0) ∧ w'.cell? ⟨w1.heap.size, 3, none⟩ = some (.int .i64 0) ∧ w'.cell? ⟨w1.heap.size, 4, none⟩ = some (.string t1) ∧ w'.cell? ⟨w1.heap.size, 5, none⟩ = some (.string t2) ∧ w'.cell? ⟨w1.heap.size, 6, none⟩ = some (.string ⟨#[]⟩) ∧ w'.cell? ⟨w1.heap.size, 7, none⟩ = some (.string t3) ∧ w'.cell? ⟨w1.heap.size, 8, none⟩ = some (.slice A8 l.length c8) ∧ w'.cell? ⟨p, 1, none⟩ = some (.int .i64 sk.2)) (ds := []) #[false, false, false, false, false, false, false] (by kernel_rfl) rfl rfl ⟨cell_drew xx0, cell_drew xx1, cell_drew xx2, cell_drew xx3, cell_drew xx4, cell_drew xx5, cell_drew xx6, cell_drew xx7, cell_drew xx8, cell_drew ep2⟩ (fun hHeld => ?_)
        refine take_ (i := 0) (N := some 118) (v := ?_) (a' := ?_) #[true, false, false, false, false, false, false] rfl rfl (by kernel_rfl) (fun _ _ _ h => h) (Or.inl ⟨by rfl, ?_⟩) hHeld ?_ ?_
        rotate_left
        · intro w' s0
          go_split_ands
          go_simp
          with_reducible rfl
        rotate_left
        · simp only [Act.put, List.setIfInBounds_toArray, List.set_cons_zero, List.set_cons_succ, i64_w, i32_w]
          rfl
        refine pure_ (i := 1) (N := some 119) (v := ?_) (a' := ?_) #[true, true, false, false, false, false, false] rfl rfl (by kernel_rfl) (fun _ _ _ h => h) (Or.inl ⟨by rfl, ?_⟩) ?_ ?_
        rotate_left
        · intro w'
          go_simp
          with_reducible rfl
        rotate_left
        · simp only [Act.put, List.setIfInBounds_toArray, List.set_cons_zero, List.set_cons_succ, i64_w, i32_w]
          rfl
        refine take_ (i := 2) (N := some 120) (v := ?_) (a' := ?_) #[true, true, true, false, false, false, false] rfl rfl (by kernel_rfl) (fun _ _ _ h => h) (Or.inl ⟨by rfl, ?_⟩) hHeld ?_ ?_
        rotate_left
        · intro w' s0
          go_split_ands
          go_simp
          with_reducible rfl
        rotate_left
        · simp only [Act.put, List.setIfInBounds_toArray, List.set_cons_zero, List.set_cons_succ, i64_w, i32_w]
          rfl
        refine pure_ (i := 3) (N := some 121) (v := ?_) (a' := ?_) #[true, true, true, true, false, false, false] rfl rfl (by kernel_rfl) (fun _ _ _ h => h) (Or.inl ⟨by rfl, ?_⟩) ?_ ?_
        rotate_left
        · intro w'
          go_simp
          with_reducible rfl
        rotate_left
        · simp only [Act.put, List.setIfInBounds_toArray, List.set_cons_zero, List.set_cons_succ, i64_w, i32_w]
          rfl
        refine take_ (i := 4) (N := some 122) (v := ?_) (a' := ?_) #[true, true, true, true, true, false, false] rfl rfl (by kernel_rfl) (fun _ _ _ h => h) (Or.inl ⟨by rfl, ?_⟩) hHeld ?_ ?_
        rotate_left
        · intro w' s0
          go_split_ands
          go_simp
          with_reducible rfl
        rotate_left
        · simp only [Act.put, List.setIfInBounds_toArray, List.set_cons_zero, List.set_cons_succ, i64_w, i32_w]
          rfl
        have HY := Aside0.mk HIZ.out.k2
        have y0 := cell_blk (j := 0) (v := .int .i64 0) HY.out rfl
        have z0 := Lib.frozen_of_heap HY.out 0
        have y1 := cell_blk (j := 1) (v := .int .i64 0) HY.out rfl
        have z1 := Lib.frozen_of_heap HY.out 1
        have y2 := cell_blk (j := 2) (v := .int .i64 0) HY.out rfl
        have z2 := Lib.frozen_of_heap HY.out 2
        have y3 := cell_blk (j := 3) (v := .int .i64 0) HY.out rfl
        have z3 := Lib.frozen_of_heap HY.out 3
        have y4 := cell_blk (j := 4) (v := .string ⟨#[]⟩) HY.out rfl
        have z4 := Lib.frozen_of_heap HY.out 4
        have y5 := cell_blk (j := 5) (v := .string ⟨#[]⟩) HY.out rfl
        have z5 := Lib.frozen_of_heap HY.out 5
        have y6 := cell_blk (j := 6) (v := .string ⟨#[]⟩) HY.out rfl
        have z6 := Lib.frozen_of_heap HY.out 6
        have y7 := cell_blk (j := 7) (v := .string ⟨#[]⟩) HY.out rfl
        have z7 := Lib.frozen_of_heap HY.out 7
        have y8 := cell_blk (j := 8) (v := .slice none 0 0) HY.out rfl
        have z8 := Lib.frozen_of_heap HY.out 8
        have hnb : ¬ w1.heap.size = w.heap.size := fun e => hne e.symm
        have hnp3 : ¬ p = w.heap.size := by omega
        refine one_ (i := 5) (N := none) #[true, true, true, true, true, true, false] rfl rfl (by kernel_rfl) (by decide) (fun K hK => ?_)
        refine skip_ (w1 := ?_) (by rfl) rfl ?_ ?_
        rotate_left
        · go_simp
          rfl
        refine hK.out _ _ ⟨cell_drew (cell_far9 xx0 hnb), cell_drew (cell_far9 xx1 hnb), cell_drew (cell_far9 xx2 hnb), cell_drew (cell_far9 xx3 hnb), cell_drew (cell_far9 xx4 hnb), cell_drew (cell_far9 xx5 hnb), cell_drew (cell_far9 xx6 hnb), cell_drew (cell_far9 xx7 hnb), cell_drew (cell_far9 xx8 hnb), cell_drew (cell_far9 ep2 hnp3)⟩ (fun hHeld => ?_)
        clear hK K
        refine pure_ (i := 6) (N := some 3) (v := ?_) (a' := ?_) #[true, true, true, true, true, true, true] rfl rfl (by kernel_rfl) (fun _ _ _ h => h) (Or.inl ⟨by rfl, ?_⟩) ?_ ?_
        rotate_left
        · intro w'
          go_simp
          with_reducible rfl
        rotate_left
        · simp only [Act.put, List.setIfInBounds_toArray, List.set_cons_zero, List.set_cons_succ, i64_w, i32_w]
          rfl
        refine done_ (by kernel_rfl) ?_
        have hpz := L.out.h2
        go_wp2_with fail
        skip
        refine bodyPost_ret (results_ct rfl _ _ w.heap.size 42 _ (0, 0) _ rfl (drew_blk (set_blk (j := 8) (set_blk (j := 7) (set_blk (j := 6) (set_blk (j := 5) (set_blk (j := 4) (set_blk (j := 3) (set_blk (j := 2) (set_blk (j := 1) (set_blk (j := 0) (HY.out) _) _) _) _) _) _) _) _) _)) Tryd.underlying42 rfl (by kernel_rfl)) rfl ?_
        rw [HGD.out]
        exact xopPost_ok (AtB.drew (AtB.set (AtB.set (AtB.set (AtB.set (AtB.set (AtB.set (AtB.set (AtB.set (AtB.set ⟨HIZ.out.but, HIZ.out.at_⟩ hpw hpz hok 0 _) hpw hpz hok 1 _) hpw hpz hok 2 _) hpw hpz hok 3 _) hpw hpz hok 4 _) hpw hpz hok 5 _) hpw hpz hok 6 _) hpw hpz hok 7 _) hpw hpz hok 8 _)) (.slice A8 l.length c8) rfl (Kd.R_mono (Kd.R_drew (Kd.R_far (Kd.R_far (Kd.R_far (Kd.R_far (Kd.R_far (Kd.R_far (Kd.R_far (Kd.R_far (Kd.R_far (HRR.out) (fun j hj => hj.2.1) _) (fun j hj => hj.2.1) _) (fun j hj => hj.2.1) _) (fun j hj => hj.2.1) _) (fun j hj => hj.2.1) _) (fun j hj => hj.2.1) _) (fun j hj => hj.2.1) _) (fun j hj => hj.2.1) _) (fun j hj => hj.2.1) _)) (fun _ _ => trivial))
end Go.Proofs.YtfpijjjmgggfkaaDoorE

namespace Go.Proofs.YtfpijjjmgggfkaaDoorE
open Go Go.RowKit Go.Proofs.YtfpijjjmgggfkaaDoorW.PrintWords Go.Proofs.YtfpijjjmgggfkaaDoorW.PrintMore Go.Proofs.YtfpijjjmgggfkaaDoorX Go.Proofs.YtfpijjjmgggfkaaDoor.P26 Go.Proofs.YtfpijjjmgggfkaaDoor.L01
set_option linter.unusedVariables false
set_option linter.unusedSimpArgs false
set_option maxRecDepth 100000
theorem nS_zero (s : St) (m : Int) (h : (nS s m).2.2 ≠ 0) : (nS s m).1.1 = 0 := by
  revert h
  unfold nS numR
  repeat' split
  all_goals first | (intro _; rfl) | (intro h; exact absurd rfl h)
set_option maxHeartbeats 2000000 in
theorem xop_bad (p : Nat) (ok : Nat → Prop) (s : St) (w : World) (hok : ∀ k, ok k → k < p) (h : AtR 61 p ok s.1 s.2 w) (hn : (nS s 7).2.2 ≠ 0) :
    Calls Tryd.prog 26 #[.pointer (some ⟨p, 0, none⟩)] w fun e w' => xopPost w p ok (opR s) e w' := by
  have hpw := h.lt
  have HN : Aside0 (∀ W, AtR 61 p ok s.1 s.2 W → Calls Tryd.prog 25 #[.pointer (some ⟨p, 0, none⟩), .int .u64 7] W fun e w' => e = .returned (.tuple #[.int .u64 0, .int .i64 (nS s 7).2.2]) ∧ AtR 61 p ok (nS s 7).2.1 (nS s 7).2.2 w' ∧ But (· = p) W w') := ⟨fun W hW => (x_num p ok s.1 s.2 7 W hW).mono (by
    rintro e w' ⟨he, ha, hb⟩
    refine ⟨he.trans ?_, ha, hb⟩
    show Ending.returned (.tuple #[.int .u64 (nS s 7).1.1, .int .i64 (nS s 7).1.2]) = _
    rw [nS_zero s 7 hn, nS_err])⟩
  obtain ⟨s1, hs1⟩ : ∃ s1, s1 = (nS s 7).2 := ⟨_, rfl⟩
  have he : opR s = ((⟨0, 0, 0, 0, em, em, em, em, []⟩, s1.2), s1) := by
    rw [hs1]
    unfold opR
    rw [if_pos (by rw [nS_err]; exact hn), nS_zero s 7 hn, nS_err]
  rw [← hs1] at HN hn
  have h1 : (s1.2 == 0) = false := by simpa using hn
  have h2 : (s1.2 != 0) = true := by simpa using hn
  have HGD := Aside0.mk he
  have H := Aside0.mk h
  clear h he hn hs1
  go_enter Tryd.func26, Tryd.ntmps26
  go_wp2_with (first
    | (go_at_call 25; (with_reducible refine (HN.out _ (AtR.al H.out _)).mono ?_); rintro e w1 ⟨rfl, h2, h3⟩; have HI0 := Aside0.mk (xinv_start w p ok (.cells #[.int .i64 0, .int .i64 0, .int .i64 0, .int .i64 0, .string ⟨#[]⟩, .string ⟨#[]⟩, .string ⟨#[]⟩, .string ⟨#[]⟩, .slice none 0 0] 42) (.cells #[.int .i64 0, .int .i64 0, .int .i64 0, .int .i64 0, .string ⟨#[]⟩, .string ⟨#[]⟩, .string ⟨#[]⟩, .string ⟨#[]⟩, .slice none 0 0] 42) s1 w1 hpw h2 h3); have L := Aside0.mk (xlie_start w p ok _ w1 hpw hok h3); have hne : ¬ w.heap.size = w1.heap.size := L.out.n13; have HC := HI0.out.k3; have x0 := cell_blk (j := 0) (v := .int .i64 0) HC rfl; have x1 := cell_blk (j := 1) (v := .int .i64 0) HC rfl; have x2 := cell_blk (j := 2) (v := .int .i64 0) HC rfl; have x3 := cell_blk (j := 3) (v := .int .i64 0) HC rfl; have x4 := cell_blk (j := 4) (v := .string ⟨#[]⟩) HC rfl; have x5 := cell_blk (j := 5) (v := .string ⟨#[]⟩) HC rfl; have x6 := cell_blk (j := 6) (v := .string ⟨#[]⟩) HC rfl; have x7 := cell_blk (j := 7) (v := .string ⟨#[]⟩) HC rfl; have x8 := cell_blk (j := 8) (v := .slice none 0 0) HC rfl; have HCY := HI0.out.k2; have HY := Aside0.mk HCY; have y0 := cell_blk (j := 0) (v := .int .i64 0) HCY rfl; have z0 := Lib.frozen_of_heap HCY 0; have y1 := cell_blk (j := 1) (v := .int .i64 0) HCY rfl; have z1 := Lib.frozen_of_heap HCY 1; have y2 := cell_blk (j := 2) (v := .int .i64 0) HCY rfl; have z2 := Lib.frozen_of_heap HCY 2; have y3 := cell_blk (j := 3) (v := .int .i64 0) HCY rfl; have z3 := Lib.frozen_of_heap HCY 3; have y4 := cell_blk (j := 4) (v := .string ⟨#[]⟩) HCY rfl; have z4 := Lib.frozen_of_heap HCY 4; have y5 := cell_blk (j := 5) (v := .string ⟨#[]⟩) HCY rfl; have z5 := Lib.frozen_of_heap HCY 5; have y6 := cell_blk (j := 6) (v := .string ⟨#[]⟩) HCY rfl; have z6 := Lib.frozen_of_heap HCY 6; have y7 := cell_blk (j := 7) (v := .string ⟨#[]⟩) HCY rfl; have z7 := Lib.frozen_of_heap HCY 7; have y8 := cell_blk (j := 8) (v := .slice none 0 0) HCY rfl; have z8 := Lib.frozen_of_heap HCY 8; clear h2 h3 HC HCY))
  have hpz := L.out.h2
  refine bodyPost_ret (results_ct rfl _ _ w.heap.size 42 _ (0, 0) _ rfl (set_blk (j := 8) (set_blk (j := 7) (set_blk (j := 6) (set_blk (j := 5) (set_blk (j := 4) (set_blk (j := 3) (set_blk (j := 2) (set_blk (j := 1) (set_blk (j := 0) (HY.out) _) _) _) _) _) _) _) _) _) Tryd.underlying42 rfl (by kernel_rfl)) rfl ?_
  rw [HGD.out]
  exact xopPost_ok (AtB.set (AtB.set (AtB.set (AtB.set (AtB.set (AtB.set (AtB.set (AtB.set (AtB.set ⟨HI0.out.but, HI0.out.at_⟩ hpw hpz hok 0 _) hpw hpz hok 1 _) hpw hpz hok 2 _) hpw hpz hok 3 _) hpw hpz hok 4 _) hpw hpz hok 5 _) hpw hpz hok 6 _) hpw hpz hok 7 _) hpw hpz hok 8 _) (.slice none 0 0) rfl (Kd.R_nil k44 44 _ _ _)
set_option maxHeartbeats 2000000 in
theorem xop_0 (p : Nat) (ok : Nat → Prop) (s : St) (w : World) (hok : ∀ k, ok k → k < p) (h : AtR 61 p ok s.1 s.2 w) (hk : (nS s 7).1 = (0, 0)) :
    Calls Tryd.prog 26 #[.pointer (some ⟨p, 0, none⟩)] w fun e w' => xopPost w p ok (opR s) e w' := by
  have hpw := h.lt
  have HN : Aside0 (∀ W, AtR 61 p ok s.1 s.2 W → Calls Tryd.prog 25 #[.pointer (some ⟨p, 0, none⟩), .int .u64 7] W fun e w' => e = .returned (.tuple #[.int .u64 0, .int .i64 0]) ∧ AtR 61 p ok (nS s 7).2.1 (nS s 7).2.2 w' ∧ But (· = p) W w') := ⟨fun W hW => (x_num p ok s.1 s.2 7 W hW).mono (by
    rintro e w' ⟨he, ha, hb⟩
    refine ⟨he.trans ?_, ha, hb⟩
    show Ending.returned (.tuple #[.int .u64 (nS s 7).1.1, .int .i64 (nS s 7).1.2]) = _
    rw [hk])⟩
  obtain ⟨s1, hs1⟩ : ∃ s1, s1 = (nS s 7).2 := ⟨_, rfl⟩
  have he : opR s = ((⟨0, 0, 0, 0, em, em, em, em, []⟩, 6), s1) := by
    rw [hs1]
    unfold opR
    rw [hk, if_neg (by simp), if_pos rfl]
  rw [← hs1] at HN
  have HGD := Aside0.mk he
  have H := Aside0.mk h
  clear h he hk hs1
  go_enter Tryd.func26, Tryd.ntmps26
  go_wp2_with (first
    | (go_at_call 25; (with_reducible refine (HN.out _ (AtR.al H.out _)).mono ?_); rintro e w1 ⟨rfl, h2, h3⟩; have HI0 := Aside0.mk (xinv_start w p ok (.cells #[.int .i64 0, .int .i64 0, .int .i64 0, .int .i64 0, .string ⟨#[]⟩, .string ⟨#[]⟩, .string ⟨#[]⟩, .string ⟨#[]⟩, .slice none 0 0] 42) (.cells #[.int .i64 0, .int .i64 0, .int .i64 0, .int .i64 0, .string ⟨#[]⟩, .string ⟨#[]⟩, .string ⟨#[]⟩, .string ⟨#[]⟩, .slice none 0 0] 42) s1 w1 hpw h2 h3); have L := Aside0.mk (xlie_start w p ok _ w1 hpw hok h3); have hne : ¬ w.heap.size = w1.heap.size := L.out.n13; have HC := HI0.out.k3; have x0 := cell_blk (j := 0) (v := .int .i64 0) HC rfl; have x1 := cell_blk (j := 1) (v := .int .i64 0) HC rfl; have x2 := cell_blk (j := 2) (v := .int .i64 0) HC rfl; have x3 := cell_blk (j := 3) (v := .int .i64 0) HC rfl; have x4 := cell_blk (j := 4) (v := .string ⟨#[]⟩) HC rfl; have x5 := cell_blk (j := 5) (v := .string ⟨#[]⟩) HC rfl; have x6 := cell_blk (j := 6) (v := .string ⟨#[]⟩) HC rfl; have x7 := cell_blk (j := 7) (v := .string ⟨#[]⟩) HC rfl; have x8 := cell_blk (j := 8) (v := .slice none 0 0) HC rfl; have HCY := HI0.out.k2; have HY := Aside0.mk HCY; have y0 := cell_blk (j := 0) (v := .int .i64 0) HCY rfl; have z0 := Lib.frozen_of_heap HCY 0; have y1 := cell_blk (j := 1) (v := .int .i64 0) HCY rfl; have z1 := Lib.frozen_of_heap HCY 1; have y2 := cell_blk (j := 2) (v := .int .i64 0) HCY rfl; have z2 := Lib.frozen_of_heap HCY 2; have y3 := cell_blk (j := 3) (v := .int .i64 0) HCY rfl; have z3 := Lib.frozen_of_heap HCY 3; have y4 := cell_blk (j := 4) (v := .string ⟨#[]⟩) HCY rfl; have z4 := Lib.frozen_of_heap HCY 4; have y5 := cell_blk (j := 5) (v := .string ⟨#[]⟩) HCY rfl; have z5 := Lib.frozen_of_heap HCY 5; have y6 := cell_blk (j := 6) (v := .string ⟨#[]⟩) HCY rfl; have z6 := Lib.frozen_of_heap HCY 6; have y7 := cell_blk (j := 7) (v := .string ⟨#[]⟩) HCY rfl; have z7 := Lib.frozen_of_heap HCY 7; have y8 := cell_blk (j := 8) (v := .slice none 0 0) HCY rfl; have z8 := Lib.frozen_of_heap HCY 8; clear h2 h3 HC HCY))
  have hpz := L.out.h2
  refine bodyPost_ret (results_ct rfl _ _ w.heap.size 42 _ (0, 0) _ rfl (set_blk (j := 8) (set_blk (j := 7) (set_blk (j := 6) (set_blk (j := 5) (set_blk (j := 4) (set_blk (j := 3) (set_blk (j := 2) (set_blk (j := 1) (set_blk (j := 0) (HY.out) _) _) _) _) _) _) _) _) _) Tryd.underlying42 rfl (by kernel_rfl)) rfl ?_
  rw [HGD.out]
  exact xopPost_ok (AtB.set (AtB.set (AtB.set (AtB.set (AtB.set (AtB.set (AtB.set (AtB.set (AtB.set ⟨HI0.out.but, HI0.out.at_⟩ hpw hpz hok 0 _) hpw hpz hok 1 _) hpw hpz hok 2 _) hpw hpz hok 3 _) hpw hpz hok 4 _) hpw hpz hok 5 _) hpw hpz hok 6 _) hpw hpz hok 7 _) hpw hpz hok 8 _) (.slice none 0 0) rfl (Kd.R_nil k44 44 _ _ _)
/-- tendrilref26.op. -/
theorem xop_c (w0 : World) (hgl : GL w0) (p : Nat) (ok : Nat → Prop) (s : St) (w : World) (hok : ∀ k, ok k → k < p) (hw : Below w0.heap.size w0 w) (hw0 : w0.heap.size ≤ p) (h : AtR 61 p ok s.1 s.2 w) :
    Calls Tryd.prog 26 #[.pointer (some ⟨p, 0, none⟩)] w fun e w' => xopPost w p ok (opR s) e w' := by
  by_cases he : (nS s 7).2.2 = 0
  · obtain ⟨k, hk⟩ : ∃ k, (nS s 7).1 = (k, 0) := ⟨(nS s 7).1.1, by rw [← he, ← nS_err]⟩
    have hv := nS_val s 7 h.2.1 (by omega)
    rw [hk] at hv
    simp only at hv
    have hc : k = 0 ∨ k = 1 ∨ k = 2 ∨ k = 3 ∨ k = 4 ∨ k = 5 ∨ k = 6 ∨ k = 7 := by omega
    rcases hc with rfl | rfl | rfl | rfl | rfl | rfl | rfl | rfl
    · exact xop_0 p ok s w hok h hk
    · exact xop_1 w0 hgl p ok s w hok hw hw0 h hk
    · exact xop_2 w0 hgl p ok s w hok hw hw0 h hk
    · exact xop_3 w0 hgl p ok s w hok hw hw0 h hk
    · exact xop_4 w0 hgl p ok s w hok hw hw0 h hk
    · exact xop_5 w0 hgl p ok s w hok hw hw0 h hk
    · exact xop_6 w0 hgl p ok s w hok hw hw0 h hk
    · exact xop_7 w0 hgl p ok s w hok hw hw0 h hk
  · exact xop_bad p ok s w hok h he
end Go.Proofs.YtfpijjjmgggfkaaDoorE

namespace Go.Proofs.YtfpijjjmgggfkaaDoorE
open Go Go.RowKit Go.Proofs.YtfpijjjmgggfkaaDoorW.PrintWords Go.Proofs.YtfpijjjmgggfkaaDoorW.PrintMore Go.Proofs.YtfpijjjmgggfkaaDoorX Go.Proofs.YtfpijjjmgggfkaaDoor.P26 Go.Proofs.YtfpijjjmgggfkaaDoor.L01
set_option linter.unusedVariables false
set_option linter.unusedSimpArgs false
set_option maxHeartbeats 2000000 in
set_option maxRecDepth 100000 in
theorem op_2 (w0 : World) (hgl : GL w0) (p : Nat) (ok : Nat → Prop) (s : St) (w : World) (hok : ∀ k, ok k → k < p) (hw : Below w0.heap.size w0 w) (hw0 : w0.heap.size ≤ p) (h : AtR 107 p ok s.1 s.2 w) (hk : (nS s 7).1 = (2, 0)) :
    Calls Tryd.prog 41 #[.agg #[.pointer (some ⟨p, 0, none⟩)]] w fun e w' => opPost w p ok (opR s) e w' := by
  have hpw := h.lt
  have H := Aside0.mk h
  have he7 : (nS s 7).2.2 = 0 := by rw [← nS_err, hk]
  have HN : Aside0 (∀ W, AtR 107 p ok s.1 s.2 W → Calls Tryd.prog 40 #[.agg #[.pointer (some ⟨p, 0, none⟩)], .int .u64 7] W fun e w' => e = .returned (.int .i64 2) ∧ AtR 107 p ok (nS s 7).2.1 (nS s 7).2.2 w' ∧ But (· = p) W w') := ⟨fun W hW => (num_d 7 (by omega) p ok s W hW).mono (by
    rintro e w' ⟨⟨h0, he, ha⟩ | ⟨h0, he⟩, hb⟩
    · rw [hk] at he
      exact ⟨he, ha, hb⟩
    · exact absurd he7 h0)⟩
  obtain ⟨s1, hs1⟩ : ∃ s1, s1 = (nS s 7).2 := ⟨_, rfl⟩
  rw [← hs1] at HN
  have hB0 := H.out.2.1
  have hB1 := (nS_bytes s 7 hB0).1
  rw [← hs1] at hB1
  have hn1 : num32 (hS s1).1.1 := nS_val s1 4294967295 hB1 (by omega)
  have hB2 := (nS_bytes s1 4294967295 hB1).1
  have hn2 : num32 (hS (hS s1).2).1.1 := nS_val (hS s1).2 4294967295 hB2 (by omega)
  have hB3 := (nS_bytes (hS s1).2 4294967295 hB2).1
  have hn3 : num32 (hS (hS (hS s1).2).2).1.1 := nS_val (hS (hS s1).2).2 4294967295 hB3 (by omega)
  have hB4 := (nS_bytes (hS (hS s1).2).2 4294967295 hB3).1
  have HCK : Aside0 (∀ {b1 b2 b3 : Nat} {o1 o2 o3 : Obj} W, InvO 107 w p ok b1 o1 b2 o2 b3 o3 (hS (hS (hS s1).2).2).2 W ∧ Lie w p ok b1 b2 b3 → Calls Tryd.prog 28 #[.agg #[.int .i64 2, .int .i64 (hS s1).1.1, .int .i64 (hS (hS s1).2).1.1, .int .i64 (hS (hS (hS s1).2).2).1.1, .string ⟨#[]⟩, .string ⟨#[]⟩, .string ⟨#[]⟩, .string ⟨#[]⟩, .slice none 0 0]] W fun e w' => e = .returned (.int .i64 (chk ⟨2, (hS s1).1.1, (hS (hS s1).2).1.1, (hS (hS (hS s1).2).2).1.1, em, em, em, em, []⟩)) ∧ InvO 107 w p ok b1 o1 b2 o2 b3 o3 (hS (hS (hS s1).2).2).2 w') := ⟨fun W hW => by
    have hb : Below w0.heap.size w0 W := ⟨hW.1.but.os.trans hw.os, hW.1.but.tape.trans hw.tape, hW.1.but.output.trans hw.output, Nat.le_trans hw.size hW.1.but.size, fun k hk => (hW.1.but.block k (Nat.lt_of_lt_of_le hk hw.size) (by omega)).trans (hw.block k hk)⟩
    have := Check_x ⟨2, (hS s1).1.1, (hS (hS s1).2).1.1, (hS (hS (hS s1).2).2).1.1, em, em, em, em, []⟩ none 0 W (hgl.below hb) (Kd.C_nil k44 W) (Nat.le_refl 0) ⟨i64_k 2 (by omega), i64_32 hn1, i64_32 hn2, i64_32 hn3, Nat.zero_le _, Nat.zero_le _, Nat.zero_le _, Nat.zero_le _, Nat.zero_le _, fun i hi => absurd hi (Nat.not_lt_zero i)⟩
    exact this.mono fun e w' h => ⟨h.1, hW.1.below hW.2 h.2⟩⟩
  have HG := Aside0.mk hgl
  have HS1 := Aside0.mk hs1
  clear h hgl hw he7 hs1 hB0 hB1 hB2 hB3 hB4 hn1 hn2 hn3
  go_enter Tryd.func41, Tryd.ntmps41
  go_wp2_with (first
    | (go_at_call 40; (refine (HN.out _ (AtR.al (AtR.al H.out _) _)).mono ?_); rintro e w1 ⟨rfl, h2, h3⟩; have HI0 := Aside0.mk (inv_start 107 w p ok (.cells #[.pointer (some ⟨p, 0, none⟩)] 87) (.cells #[.int .i64 0, .int .i64 0, .int .i64 0, .int .i64 0, .string ⟨#[]⟩, .string ⟨#[]⟩, .string ⟨#[]⟩, .string ⟨#[]⟩, .slice none 0 0] 42) (.cells #[.int .i64 2, .int .i64 0, .int .i64 0, .int .i64 0, .string ⟨#[]⟩, .string ⟨#[]⟩, .string ⟨#[]⟩, .string ⟨#[]⟩, .slice none 0 0] 42) s1 w1 hpw h2 h3); have L := Aside0.mk (lie_start w p ok _ _ w1 hpw hok h3); have hne : ¬ w.heap.size = w1.heap.size := L.out.n13; have hne2 : ¬ w.heap.size + 1 = w1.heap.size := L.out.n23; have q0 := cell_blk (j := 0) (v := .pointer (some ⟨p, 0, none⟩)) HI0.out.k1 rfl; clear h2 h3)
    | (go_at_call 61; (refine (InvO.handle HI0.out L.out).mono ?_); rintro e w2 (⟨he1, rfl, hv1, hI⟩ | ⟨he, rfl, hb⟩); rotate_left; go_loud (focus (unfold stopE; go_wp2_with fail; exact ⟨rfl, opPost_stop hb he (opR_bad s HS1.out 2 _ hk (by decide) (by simp [bodyR, hS_stick (hS s1).2 he, tS_stick (hS s1).2 he]) he)⟩)); have HI1 := Aside0.mk hI; clear hI; have HV1 := Aside0.mk hv1; have HE1 := Aside0.mk he1; clear hv1 he1 q0; have q0 := cell_blk (j := 0) (v := .pointer (some ⟨p, 0, none⟩)) HI1.out.k1 rfl; have fz := Lib.frozen_of_heap HI1.out.k3 1; have HC := InvO.k3 HI1.out; have x0 := cell_blk (j := 0) (v := .int .i64 2) HC rfl; have x1 := cell_blk (j := 1) (v := .int .i64 0) HC rfl; have x2 := cell_blk (j := 2) (v := .int .i64 0) HC rfl; have x3 := cell_blk (j := 3) (v := .int .i64 0) HC rfl; have x4 := cell_blk (j := 4) (v := .string ⟨#[]⟩) HC rfl; have x5 := cell_blk (j := 5) (v := .string ⟨#[]⟩) HC rfl; have x6 := cell_blk (j := 6) (v := .string ⟨#[]⟩) HC rfl; have x7 := cell_blk (j := 7) (v := .string ⟨#[]⟩) HC rfl; have x8 := cell_blk (j := 8) (v := .slice none 0 0) HC rfl; clear HC)
    | (go_at_call 61; (refine (InvO.handle (InvO.set HI1.out L.out 1 (.int .i64 (hS s1).1.1)) L.out).mono ?_); rintro e w3 (⟨he2, rfl, hv2, hI⟩ | ⟨he, rfl, hb⟩); rotate_left; go_loud (focus (unfold stopE; go_wp2_with fail; exact ⟨rfl, opPost_stop hb he (opR_bad s HS1.out 2 _ hk (by decide) (by simp [bodyR, hS_stick (hS (hS s1).2).2 he, tS_stick (hS (hS s1).2).2 he]) he)⟩)); have HI2 := Aside0.mk hI; clear hI; have HV2 := Aside0.mk hv2; have HE2 := Aside0.mk he2; clear hv2 he2 q0 fz; clear x0 x1 x2 x3 x4 x5 x6 x7 x8; have q0 := cell_blk (j := 0) (v := .pointer (some ⟨p, 0, none⟩)) HI2.out.k1 rfl; have fz := Lib.frozen_of_heap HI2.out.k3 2; have HC := InvO.k3 HI2.out; have x0 := cell_blk (j := 0) (v := .int .i64 2) HC rfl; have x1 := cell_blk (j := 1) (v := .int .i64 (hS s1).1.1) HC rfl; have x2 := cell_blk (j := 2) (v := .int .i64 0) HC rfl; have x3 := cell_blk (j := 3) (v := .int .i64 0) HC rfl; have x4 := cell_blk (j := 4) (v := .string ⟨#[]⟩) HC rfl; have x5 := cell_blk (j := 5) (v := .string ⟨#[]⟩) HC rfl; have x6 := cell_blk (j := 6) (v := .string ⟨#[]⟩) HC rfl; have x7 := cell_blk (j := 7) (v := .string ⟨#[]⟩) HC rfl; have x8 := cell_blk (j := 8) (v := .slice none 0 0) HC rfl; clear HC)
    | (go_at_call 61; (refine (InvO.handle (InvO.set HI2.out L.out 2 (.int .i64 (hS (hS s1).2).1.1)) L.out).mono ?_); rintro e w4 (⟨he3, rfl, hv3, hI⟩ | ⟨he, rfl, hb⟩); rotate_left; go_loud (focus (unfold stopE; go_wp2_with fail; exact ⟨rfl, opPost_stop hb he (opR_bad s HS1.out 2 _ hk (by decide) (by simp [bodyR, hS_stick (hS (hS (hS s1).2).2).2 he, tS_stick (hS (hS (hS s1).2).2).2 he]) he)⟩)); have HI3 := Aside0.mk hI; clear hI; have HV3 := Aside0.mk hv3; have HE3 := Aside0.mk he3; clear hv3 he3 q0 fz; clear x0 x1 x2 x3 x4 x5 x6 x7 x8; have q0 := cell_blk (j := 0) (v := .pointer (some ⟨p, 0, none⟩)) HI3.out.k1 rfl; have fz := Lib.frozen_of_heap HI3.out.k3 3; have HC := InvO.k3 HI3.out; have x0 := cell_blk (j := 0) (v := .int .i64 2) HC rfl; have x1 := cell_blk (j := 1) (v := .int .i64 (hS s1).1.1) HC rfl; have x2 := cell_blk (j := 2) (v := .int .i64 (hS (hS s1).2).1.1) HC rfl; have x3 := cell_blk (j := 3) (v := .int .i64 0) HC rfl; have x4 := cell_blk (j := 4) (v := .string ⟨#[]⟩) HC rfl; have x5 := cell_blk (j := 5) (v := .string ⟨#[]⟩) HC rfl; have x6 := cell_blk (j := 6) (v := .string ⟨#[]⟩) HC rfl; have x7 := cell_blk (j := 7) (v := .string ⟨#[]⟩) HC rfl; have x8 := cell_blk (j := 8) (v := .slice none 0 0) HC rfl; clear HC)
    | (go_at_call 28; (refine (HCK.out _ ⟨(InvO.set HI3.out L.out 3 (.int .i64 (hS (hS (hS s1).2).2).1.1)), L.out⟩).mono ?_); rintro e w5 ⟨rfl, hI⟩; have HIC := Aside0.mk hI; clear hI q0 fz x0 x1 x2 x3 x4 x5 x6 x7 x8; have HC := InvO.k3 HIC.out; have x0 := cell_blk (j := 0) (v := .int .i64 2) HC rfl; have x1 := cell_blk (j := 1) (v := .int .i64 (hS s1).1.1) HC rfl; have x2 := cell_blk (j := 2) (v := .int .i64 (hS (hS s1).2).1.1) HC rfl; have x3 := cell_blk (j := 3) (v := .int .i64 (hS (hS (hS s1).2).2).1.1) HC rfl; have x4 := cell_blk (j := 4) (v := .string ⟨#[]⟩) HC rfl; have x5 := cell_blk (j := 5) (v := .string ⟨#[]⟩) HC rfl; have x6 := cell_blk (j := 6) (v := .string ⟨#[]⟩) HC rfl; have x7 := cell_blk (j := 7) (v := .string ⟨#[]⟩) HC rfl; have x8 := cell_blk (j := 8) (v := .slice none 0 0) HC rfl; have hY := InvO.k2 HIC.out; have HY := Aside0.mk hY; have y0 := cell_blk (j := 0) (v := .int .i64 0) hY rfl; have z0 := Lib.frozen_of_heap hY 0; have y1 := cell_blk (j := 1) (v := .int .i64 0) hY rfl; have z1 := Lib.frozen_of_heap hY 1; have y2 := cell_blk (j := 2) (v := .int .i64 0) hY rfl; have z2 := Lib.frozen_of_heap hY 2; have y3 := cell_blk (j := 3) (v := .int .i64 0) hY rfl; have z3 := Lib.frozen_of_heap hY 3; have y4 := cell_blk (j := 4) (v := .string ⟨#[]⟩) hY rfl; have z4 := Lib.frozen_of_heap hY 4; have y5 := cell_blk (j := 5) (v := .string ⟨#[]⟩) hY rfl; have z5 := Lib.frozen_of_heap hY 5; have y6 := cell_blk (j := 6) (v := .string ⟨#[]⟩) hY rfl; have z6 := Lib.frozen_of_heap hY 6; have y7 := cell_blk (j := 7) (v := .string ⟨#[]⟩) hY rfl; have z7 := Lib.frozen_of_heap hY 7; have y8 := cell_blk (j := 8) (v := .slice none 0 0) hY rfl; have z8 := Lib.frozen_of_heap hY 8; clear HC hY)
    | (go_at_call 42; (refine (must_d _ _).mono ?_); rintro e w6 ⟨⟨hc, rfl⟩ | ⟨hc, rfl⟩, rfl⟩; rotate_left; focus (unfold stopE; go_wp2_with fail; exact ⟨rfl, opPost_stop HIC.out.but hc (by rw [opR_good s HS1.out 2 hk (by decide) (by simpa [bodyR] using HE3.out)]; simp [bodyR])⟩)))
  have hpz := L.out.h2
  have hgood := opR_good s HS1.out 2 hk (by decide) (by simpa [bodyR] using HE3.out)
  refine bodyPost_ret (results_cell_row rfl _ _ (w.heap.size + 1) 42 _ (0, 0) _ rfl (set_blk (j := 8) (set_blk (j := 7) (set_blk (j := 6) (set_blk (j := 5) (set_blk (j := 4) (set_blk (j := 3) (set_blk (j := 2) (set_blk (j := 1) (set_blk (j := 0) (HY.out) _) _) _) _) _) _) _) _) _) Tryd.underlying42 rfl (by kernel_rfl)) rfl ?_
  simp only [bodyR, Int.reduceEq, if_false, if_true] at hgood
  rw [hgood]
  exact opPost_ok (AtB.set (AtB.set (AtB.set (AtB.set (AtB.set (AtB.set (AtB.set (AtB.set (AtB.set ⟨HIC.out.but, HIC.out.at_⟩ hpw hpz hok 0 _) hpw hpz hok 1 _) hpw hpz hok 2 _) hpw hpz hok 3 _) hpw hpz hok 4 _) hpw hpz hok 5 _) hpw hpz hok 6 _) hpw hpz hok 7 _) hpw hpz hok 8 _) hc (.slice none 0 0) rfl (Kd.R_nil k44 44 _ _ _)
set_option maxHeartbeats 2000000 in
set_option maxRecDepth 100000 in
theorem op_3 (w0 : World) (hgl : GL w0) (p : Nat) (ok : Nat → Prop) (s : St) (w : World) (hok : ∀ k, ok k → k < p) (hw : Below w0.heap.size w0 w) (hw0 : w0.heap.size ≤ p) (h : AtR 107 p ok s.1 s.2 w) (hk : (nS s 7).1 = (3, 0)) :
    Calls Tryd.prog 41 #[.agg #[.pointer (some ⟨p, 0, none⟩)]] w fun e w' => opPost w p ok (opR s) e w' := by
  have hpw := h.lt
  have H := Aside0.mk h
  have he7 : (nS s 7).2.2 = 0 := by rw [← nS_err, hk]
  have HN : Aside0 (∀ W, AtR 107 p ok s.1 s.2 W → Calls Tryd.prog 40 #[.agg #[.pointer (some ⟨p, 0, none⟩)], .int .u64 7] W fun e w' => e = .returned (.int .i64 3) ∧ AtR 107 p ok (nS s 7).2.1 (nS s 7).2.2 w' ∧ But (· = p) W w') := ⟨fun W hW => (num_d 7 (by omega) p ok s W hW).mono (by
    rintro e w' ⟨⟨h0, he, ha⟩ | ⟨h0, he⟩, hb⟩
    · rw [hk] at he
      exact ⟨he, ha, hb⟩
    · exact absurd he7 h0)⟩
  obtain ⟨s1, hs1⟩ : ∃ s1, s1 = (nS s 7).2 := ⟨_, rfl⟩
  rw [← hs1] at HN
  have hB0 := H.out.2.1
  have hB1 := (nS_bytes s 7 hB0).1
  rw [← hs1] at hB1
  have hn1 : num32 (hS s1).1.1 := nS_val s1 4294967295 hB1 (by omega)
  have hB2 := (nS_bytes s1 4294967295 hB1).1
  have hn3 : num32 (hS (hS s1).2).1.1 := nS_val (hS s1).2 4294967295 hB2 (by omega)
  have hB3 := (nS_bytes (hS s1).2 4294967295 hB2).1
  have HCK : Aside0 (∀ {b1 b2 b3 : Nat} {o1 o2 o3 : Obj} W, InvO 107 w p ok b1 o1 b2 o2 b3 o3 (hS (hS s1).2).2 W ∧ Lie w p ok b1 b2 b3 → Calls Tryd.prog 28 #[.agg #[.int .i64 3, .int .i64 (hS s1).1.1, .int .i64 0, .int .i64 (hS (hS s1).2).1.1, .string ⟨#[]⟩, .string ⟨#[]⟩, .string ⟨#[]⟩, .string ⟨#[]⟩, .slice none 0 0]] W fun e w' => e = .returned (.int .i64 (chk ⟨3, (hS s1).1.1, 0, (hS (hS s1).2).1.1, em, em, em, em, []⟩)) ∧ InvO 107 w p ok b1 o1 b2 o2 b3 o3 (hS (hS s1).2).2 w') := ⟨fun W hW => by
    have hb : Below w0.heap.size w0 W := ⟨hW.1.but.os.trans hw.os, hW.1.but.tape.trans hw.tape, hW.1.but.output.trans hw.output, Nat.le_trans hw.size hW.1.but.size, fun k hk => (hW.1.but.block k (Nat.lt_of_lt_of_le hk hw.size) (by omega)).trans (hw.block k hk)⟩
    have := Check_x ⟨3, (hS s1).1.1, 0, (hS (hS s1).2).1.1, em, em, em, em, []⟩ none 0 W (hgl.below hb) (Kd.C_nil k44 W) (Nat.le_refl 0) ⟨i64_k 3 (by omega), i64_32 hn1, i64_k 0 (by omega), i64_32 hn3, Nat.zero_le _, Nat.zero_le _, Nat.zero_le _, Nat.zero_le _, Nat.zero_le _, fun i hi => absurd hi (Nat.not_lt_zero i)⟩
    exact this.mono fun e w' h => ⟨h.1, hW.1.below hW.2 h.2⟩⟩
  have HG := Aside0.mk hgl
  have HS1 := Aside0.mk hs1
  clear h hgl hw he7 hs1 hB0 hB1 hB2 hB3 hn1 hn3
  go_enter Tryd.func41, Tryd.ntmps41
  go_wp2_with (first
    | (go_at_call 40; (refine (HN.out _ (AtR.al (AtR.al H.out _) _)).mono ?_); rintro e w1 ⟨rfl, h2, h3⟩; have HI0 := Aside0.mk (inv_start 107 w p ok (.cells #[.pointer (some ⟨p, 0, none⟩)] 87) (.cells #[.int .i64 0, .int .i64 0, .int .i64 0, .int .i64 0, .string ⟨#[]⟩, .string ⟨#[]⟩, .string ⟨#[]⟩, .string ⟨#[]⟩, .slice none 0 0] 42) (.cells #[.int .i64 3, .int .i64 0, .int .i64 0, .int .i64 0, .string ⟨#[]⟩, .string ⟨#[]⟩, .string ⟨#[]⟩, .string ⟨#[]⟩, .slice none 0 0] 42) s1 w1 hpw h2 h3); have L := Aside0.mk (lie_start w p ok _ _ w1 hpw hok h3); have hne : ¬ w.heap.size = w1.heap.size := L.out.n13; have hne2 : ¬ w.heap.size + 1 = w1.heap.size := L.out.n23; have q0 := cell_blk (j := 0) (v := .pointer (some ⟨p, 0, none⟩)) HI0.out.k1 rfl; clear h2 h3)
    | (go_at_call 61; (refine (InvO.handle HI0.out L.out).mono ?_); rintro e w2 (⟨he1, rfl, hv1, hI⟩ | ⟨he, rfl, hb⟩); rotate_left; go_loud (focus (unfold stopE; go_wp2_with fail; exact ⟨rfl, opPost_stop hb he (opR_bad s HS1.out 3 _ hk (by decide) (by simp [bodyR, hS_stick (hS s1).2 he, tS_stick (hS s1).2 he]) he)⟩)); have HI1 := Aside0.mk hI; clear hI; have HV1 := Aside0.mk hv1; have HE1 := Aside0.mk he1; clear hv1 he1 q0; have q0 := cell_blk (j := 0) (v := .pointer (some ⟨p, 0, none⟩)) HI1.out.k1 rfl; have fz := Lib.frozen_of_heap HI1.out.k3 1; have HC := InvO.k3 HI1.out; have x0 := cell_blk (j := 0) (v := .int .i64 3) HC rfl; have x1 := cell_blk (j := 1) (v := .int .i64 0) HC rfl; have x2 := cell_blk (j := 2) (v := .int .i64 0) HC rfl; have x3 := cell_blk (j := 3) (v := .int .i64 0) HC rfl; have x4 := cell_blk (j := 4) (v := .string ⟨#[]⟩) HC rfl; have x5 := cell_blk (j := 5) (v := .string ⟨#[]⟩) HC rfl; have x6 := cell_blk (j := 6) (v := .string ⟨#[]⟩) HC rfl; have x7 := cell_blk (j := 7) (v := .string ⟨#[]⟩) HC rfl; have x8 := cell_blk (j := 8) (v := .slice none 0 0) HC rfl; clear HC)
    | (go_at_call 61; (refine (InvO.handle (InvO.set HI1.out L.out 1 (.int .i64 (hS s1).1.1)) L.out).mono ?_); rintro e w3 (⟨he2, rfl, hv2, hI⟩ | ⟨he, rfl, hb⟩); rotate_left; go_loud (focus (unfold stopE; go_wp2_with fail; exact ⟨rfl, opPost_stop hb he (opR_bad s HS1.out 3 _ hk (by decide) (by simp [bodyR, hS_stick (hS (hS s1).2).2 he, tS_stick (hS (hS s1).2).2 he]) he)⟩)); have HI2 := Aside0.mk hI; clear hI; have HV2 := Aside0.mk hv2; have HE2 := Aside0.mk he2; clear hv2 he2 q0 fz; clear x0 x1 x2 x3 x4 x5 x6 x7 x8; have q0 := cell_blk (j := 0) (v := .pointer (some ⟨p, 0, none⟩)) HI2.out.k1 rfl; have fz := Lib.frozen_of_heap HI2.out.k3 3; have HC := InvO.k3 HI2.out; have x0 := cell_blk (j := 0) (v := .int .i64 3) HC rfl; have x1 := cell_blk (j := 1) (v := .int .i64 (hS s1).1.1) HC rfl; have x2 := cell_blk (j := 2) (v := .int .i64 0) HC rfl; have x3 := cell_blk (j := 3) (v := .int .i64 0) HC rfl; have x4 := cell_blk (j := 4) (v := .string ⟨#[]⟩) HC rfl; have x5 := cell_blk (j := 5) (v := .string ⟨#[]⟩) HC rfl; have x6 := cell_blk (j := 6) (v := .string ⟨#[]⟩) HC rfl; have x7 := cell_blk (j := 7) (v := .string ⟨#[]⟩) HC rfl; have x8 := cell_blk (j := 8) (v := .slice none 0 0) HC rfl; clear HC)
    | (go_at_call 28; (refine (HCK.out _ ⟨(InvO.set HI2.out L.out 3 (.int .i64 (hS (hS s1).2).1.1)), L.out⟩).mono ?_); rintro e w4 ⟨rfl, hI⟩; have HIC := Aside0.mk hI; clear hI q0 fz x0 x1 x2 x3 x4 x5 x6 x7 x8; have HC := InvO.k3 HIC.out; have x0 := cell_blk (j := 0) (v := .int .i64 3) HC rfl; have x1 := cell_blk (j := 1) (v := .int .i64 (hS s1).1.1) HC rfl; have x2 := cell_blk (j := 2) (v := .int .i64 0) HC rfl; have x3 := cell_blk (j := 3) (v := .int .i64 (hS (hS s1).2).1.1) HC rfl; have x4 := cell_blk (j := 4) (v := .string ⟨#[]⟩) HC rfl; have x5 := cell_blk (j := 5) (v := .string ⟨#[]⟩) HC rfl; have x6 := cell_blk (j := 6) (v := .string ⟨#[]⟩) HC rfl; have x7 := cell_blk (j := 7) (v := .string ⟨#[]⟩) HC rfl; have x8 := cell_blk (j := 8) (v := .slice none 0 0) HC rfl; have hY := InvO.k2 HIC.out; have HY := Aside0.mk hY; have y0 := cell_blk (j := 0) (v := .int .i64 0) hY rfl; have z0 := Lib.frozen_of_heap hY 0; have y1 := cell_blk (j := 1) (v := .int .i64 0) hY rfl; have z1 := Lib.frozen_of_heap hY 1; have y2 := cell_blk (j := 2) (v := .int .i64 0) hY rfl; have z2 := Lib.frozen_of_heap hY 2; have y3 := cell_blk (j := 3) (v := .int .i64 0) hY rfl; have z3 := Lib.frozen_of_heap hY 3; have y4 := cell_blk (j := 4) (v := .string ⟨#[]⟩) hY rfl; have z4 := Lib.frozen_of_heap hY 4; have y5 := cell_blk (j := 5) (v := .string ⟨#[]⟩) hY rfl; have z5 := Lib.frozen_of_heap hY 5; have y6 := cell_blk (j := 6) (v := .string ⟨#[]⟩) hY rfl; have z6 := Lib.frozen_of_heap hY 6; have y7 := cell_blk (j := 7) (v := .string ⟨#[]⟩) hY rfl; have z7 := Lib.frozen_of_heap hY 7; have y8 := cell_blk (j := 8) (v := .slice none 0 0) hY rfl; have z8 := Lib.frozen_of_heap hY 8; clear HC hY)
    | (go_at_call 42; (refine (must_d _ _).mono ?_); rintro e w5 ⟨⟨hc, rfl⟩ | ⟨hc, rfl⟩, rfl⟩; rotate_left; focus (unfold stopE; go_wp2_with fail; exact ⟨rfl, opPost_stop HIC.out.but hc (by rw [opR_good s HS1.out 3 hk (by decide) (by simpa [bodyR] using HE2.out)]; simp [bodyR])⟩)))
  have hpz := L.out.h2
  have hgood := opR_good s HS1.out 3 hk (by decide) (by simpa [bodyR] using HE2.out)
  refine bodyPost_ret (results_cell_row rfl _ _ (w.heap.size + 1) 42 _ (0, 0) _ rfl (set_blk (j := 8) (set_blk (j := 7) (set_blk (j := 6) (set_blk (j := 5) (set_blk (j := 4) (set_blk (j := 3) (set_blk (j := 2) (set_blk (j := 1) (set_blk (j := 0) (HY.out) _) _) _) _) _) _) _) _) _) Tryd.underlying42 rfl (by kernel_rfl)) rfl ?_
  simp only [bodyR, Int.reduceEq, if_false, if_true] at hgood
  rw [hgood]
  exact opPost_ok (AtB.set (AtB.set (AtB.set (AtB.set (AtB.set (AtB.set (AtB.set (AtB.set (AtB.set ⟨HIC.out.but, HIC.out.at_⟩ hpw hpz hok 0 _) hpw hpz hok 1 _) hpw hpz hok 2 _) hpw hpz hok 3 _) hpw hpz hok 4 _) hpw hpz hok 5 _) hpw hpz hok 6 _) hpw hpz hok 7 _) hpw hpz hok 8 _) hc (.slice none 0 0) rfl (Kd.R_nil k44 44 _ _ _)
set_option maxHeartbeats 2000000 in
set_option maxRecDepth 100000 in
theorem op_4 (w0 : World) (hgl : GL w0) (p : Nat) (ok : Nat → Prop) (s : St) (w : World) (hok : ∀ k, ok k → k < p) (hw : Below w0.heap.size w0 w) (hw0 : w0.heap.size ≤ p) (h : AtR 107 p ok s.1 s.2 w) (hk : (nS s 7).1 = (4, 0)) :
    Calls Tryd.prog 41 #[.agg #[.pointer (some ⟨p, 0, none⟩)]] w fun e w' => opPost w p ok (opR s) e w' := by
  have hpw := h.lt
  have H := Aside0.mk h
  have he7 : (nS s 7).2.2 = 0 := by rw [← nS_err, hk]
  have HN : Aside0 (∀ W, AtR 107 p ok s.1 s.2 W → Calls Tryd.prog 40 #[.agg #[.pointer (some ⟨p, 0, none⟩)], .int .u64 7] W fun e w' => e = .returned (.int .i64 4) ∧ AtR 107 p ok (nS s 7).2.1 (nS s 7).2.2 w' ∧ But (· = p) W w') := ⟨fun W hW => (num_d 7 (by omega) p ok s W hW).mono (by
    rintro e w' ⟨⟨h0, he, ha⟩ | ⟨h0, he⟩, hb⟩
    · rw [hk] at he
      exact ⟨he, ha, hb⟩
    · exact absurd he7 h0)⟩
  obtain ⟨s1, hs1⟩ : ∃ s1, s1 = (nS s 7).2 := ⟨_, rfl⟩
  rw [← hs1] at HN
  have hB0 := H.out.2.1
  have hB1 := (nS_bytes s 7 hB0).1
  rw [← hs1] at hB1
  have hn1 : num32 (hS s1).1.1 := nS_val s1 4294967295 hB1 (by omega)
  have hB2 := (nS_bytes s1 4294967295 hB1).1
  have HCK : Aside0 (∀ {b1 b2 b3 : Nat} {o1 o2 o3 : Obj} W, InvO 107 w p ok b1 o1 b2 o2 b3 o3 (hS s1).2 W ∧ Lie w p ok b1 b2 b3 → Calls Tryd.prog 28 #[.agg #[.int .i64 4, .int .i64 (hS s1).1.1, .int .i64 0, .int .i64 0, .string ⟨#[]⟩, .string ⟨#[]⟩, .string ⟨#[]⟩, .string ⟨#[]⟩, .slice none 0 0]] W fun e w' => e = .returned (.int .i64 (chk ⟨4, (hS s1).1.1, 0, 0, em, em, em, em, []⟩)) ∧ InvO 107 w p ok b1 o1 b2 o2 b3 o3 (hS s1).2 w') := ⟨fun W hW => by
    have hb : Below w0.heap.size w0 W := ⟨hW.1.but.os.trans hw.os, hW.1.but.tape.trans hw.tape, hW.1.but.output.trans hw.output, Nat.le_trans hw.size hW.1.but.size, fun k hk => (hW.1.but.block k (Nat.lt_of_lt_of_le hk hw.size) (by omega)).trans (hw.block k hk)⟩
    have := Check_x ⟨4, (hS s1).1.1, 0, 0, em, em, em, em, []⟩ none 0 W (hgl.below hb) (Kd.C_nil k44 W) (Nat.le_refl 0) ⟨i64_k 4 (by omega), i64_32 hn1, i64_k 0 (by omega), i64_k 0 (by omega), Nat.zero_le _, Nat.zero_le _, Nat.zero_le _, Nat.zero_le _, Nat.zero_le _, fun i hi => absurd hi (Nat.not_lt_zero i)⟩
    exact this.mono fun e w' h => ⟨h.1, hW.1.below hW.2 h.2⟩⟩
  have HG := Aside0.mk hgl
  have HS1 := Aside0.mk hs1
  clear h hgl hw he7 hs1 hB0 hB1 hB2 hn1
  go_enter Tryd.func41, Tryd.ntmps41
  go_wp2_with (first
    | (go_at_call 40; (refine (HN.out _ (AtR.al (AtR.al H.out _) _)).mono ?_); rintro e w1 ⟨rfl, h2, h3⟩; have HI0 := Aside0.mk (inv_start 107 w p ok (.cells #[.pointer (some ⟨p, 0, none⟩)] 87) (.cells #[.int .i64 0, .int .i64 0, .int .i64 0, .int .i64 0, .string ⟨#[]⟩, .string ⟨#[]⟩, .string ⟨#[]⟩, .string ⟨#[]⟩, .slice none 0 0] 42) (.cells #[.int .i64 4, .int .i64 0, .int .i64 0, .int .i64 0, .string ⟨#[]⟩, .string ⟨#[]⟩, .string ⟨#[]⟩, .string ⟨#[]⟩, .slice none 0 0] 42) s1 w1 hpw h2 h3); have L := Aside0.mk (lie_start w p ok _ _ w1 hpw hok h3); have hne : ¬ w.heap.size = w1.heap.size := L.out.n13; have hne2 : ¬ w.heap.size + 1 = w1.heap.size := L.out.n23; have q0 := cell_blk (j := 0) (v := .pointer (some ⟨p, 0, none⟩)) HI0.out.k1 rfl; clear h2 h3)
    | (go_at_call 61; (refine (InvO.handle HI0.out L.out).mono ?_); rintro e w2 (⟨he1, rfl, hv1, hI⟩ | ⟨he, rfl, hb⟩); rotate_left; go_loud (focus (unfold stopE; go_wp2_with fail; exact ⟨rfl, opPost_stop hb he (opR_bad s HS1.out 4 _ hk (by decide) (by simp [bodyR, hS_stick (hS s1).2 he, tS_stick (hS s1).2 he]) he)⟩)); have HI1 := Aside0.mk hI; clear hI; have HV1 := Aside0.mk hv1; have HE1 := Aside0.mk he1; clear hv1 he1 q0; have q0 := cell_blk (j := 0) (v := .pointer (some ⟨p, 0, none⟩)) HI1.out.k1 rfl; have fz := Lib.frozen_of_heap HI1.out.k3 1; have HC := InvO.k3 HI1.out; have x0 := cell_blk (j := 0) (v := .int .i64 4) HC rfl; have x1 := cell_blk (j := 1) (v := .int .i64 0) HC rfl; have x2 := cell_blk (j := 2) (v := .int .i64 0) HC rfl; have x3 := cell_blk (j := 3) (v := .int .i64 0) HC rfl; have x4 := cell_blk (j := 4) (v := .string ⟨#[]⟩) HC rfl; have x5 := cell_blk (j := 5) (v := .string ⟨#[]⟩) HC rfl; have x6 := cell_blk (j := 6) (v := .string ⟨#[]⟩) HC rfl; have x7 := cell_blk (j := 7) (v := .string ⟨#[]⟩) HC rfl; have x8 := cell_blk (j := 8) (v := .slice none 0 0) HC rfl; clear HC)
    | (go_at_call 28; (refine (HCK.out _ ⟨(InvO.set HI1.out L.out 1 (.int .i64 (hS s1).1.1)), L.out⟩).mono ?_); rintro e w3 ⟨rfl, hI⟩; have HIC := Aside0.mk hI; clear hI q0 fz x0 x1 x2 x3 x4 x5 x6 x7 x8; have HC := InvO.k3 HIC.out; have x0 := cell_blk (j := 0) (v := .int .i64 4) HC rfl; have x1 := cell_blk (j := 1) (v := .int .i64 (hS s1).1.1) HC rfl; have x2 := cell_blk (j := 2) (v := .int .i64 0) HC rfl; have x3 := cell_blk (j := 3) (v := .int .i64 0) HC rfl; have x4 := cell_blk (j := 4) (v := .string ⟨#[]⟩) HC rfl; have x5 := cell_blk (j := 5) (v := .string ⟨#[]⟩) HC rfl; have x6 := cell_blk (j := 6) (v := .string ⟨#[]⟩) HC rfl; have x7 := cell_blk (j := 7) (v := .string ⟨#[]⟩) HC rfl; have x8 := cell_blk (j := 8) (v := .slice none 0 0) HC rfl; have hY := InvO.k2 HIC.out; have HY := Aside0.mk hY; have y0 := cell_blk (j := 0) (v := .int .i64 0) hY rfl; have z0 := Lib.frozen_of_heap hY 0; have y1 := cell_blk (j := 1) (v := .int .i64 0) hY rfl; have z1 := Lib.frozen_of_heap hY 1; have y2 := cell_blk (j := 2) (v := .int .i64 0) hY rfl; have z2 := Lib.frozen_of_heap hY 2; have y3 := cell_blk (j := 3) (v := .int .i64 0) hY rfl; have z3 := Lib.frozen_of_heap hY 3; have y4 := cell_blk (j := 4) (v := .string ⟨#[]⟩) hY rfl; have z4 := Lib.frozen_of_heap hY 4; have y5 := cell_blk (j := 5) (v := .string ⟨#[]⟩) hY rfl; have z5 := Lib.frozen_of_heap hY 5; have y6 := cell_blk (j := 6) (v := .string ⟨#[]⟩) hY rfl; have z6 := Lib.frozen_of_heap hY 6; have y7 := cell_blk (j := 7) (v := .string ⟨#[]⟩) hY rfl; have z7 := Lib.frozen_of_heap hY 7; have y8 := cell_blk (j := 8) (v := .slice none 0 0) hY rfl; have z8 := Lib.frozen_of_heap hY 8; clear HC hY)
    | (go_at_call 42; (refine (must_d _ _).mono ?_); rintro e w4 ⟨⟨hc, rfl⟩ | ⟨hc, rfl⟩, rfl⟩; rotate_left; focus (unfold stopE; go_wp2_with fail; exact ⟨rfl, opPost_stop HIC.out.but hc (by rw [opR_good s HS1.out 4 hk (by decide) (by simpa [bodyR] using HE1.out)]; simp [bodyR])⟩)))
  have hpz := L.out.h2
  have hgood := opR_good s HS1.out 4 hk (by decide) (by simpa [bodyR] using HE1.out)
  refine bodyPost_ret (results_cell_row rfl _ _ (w.heap.size + 1) 42 _ (0, 0) _ rfl (set_blk (j := 8) (set_blk (j := 7) (set_blk (j := 6) (set_blk (j := 5) (set_blk (j := 4) (set_blk (j := 3) (set_blk (j := 2) (set_blk (j := 1) (set_blk (j := 0) (HY.out) _) _) _) _) _) _) _) _) _) Tryd.underlying42 rfl (by kernel_rfl)) rfl ?_
  simp only [bodyR, Int.reduceEq, if_false, if_true] at hgood
  rw [hgood]
  exact opPost_ok (AtB.set (AtB.set (AtB.set (AtB.set (AtB.set (AtB.set (AtB.set (AtB.set (AtB.set ⟨HIC.out.but, HIC.out.at_⟩ hpw hpz hok 0 _) hpw hpz hok 1 _) hpw hpz hok 2 _) hpw hpz hok 3 _) hpw hpz hok 4 _) hpw hpz hok 5 _) hpw hpz hok 6 _) hpw hpz hok 7 _) hpw hpz hok 8 _) hc (.slice none 0 0) rfl (Kd.R_nil k44 44 _ _ _)
end Go.Proofs.YtfpijjjmgggfkaaDoorE

namespace Go.Proofs.YtfpijjjmgggfkaaDoorE
open Go Go.RowKit Go.Proofs.YtfpijjjmgggfkaaDoorW.PrintWords Go.Proofs.YtfpijjjmgggfkaaDoorW.PrintMore Go.Proofs.YtfpijjjmgggfkaaDoorX Go.Proofs.YtfpijjjmgggfkaaDoor.P26 Go.Proofs.YtfpijjjmgggfkaaDoor.L01
set_option linter.unusedVariables false
set_option linter.unusedSimpArgs false
set_option maxHeartbeats 2000000 in
set_option maxRecDepth 100000 in
theorem op_5 (w0 : World) (hgl : GL w0) (p : Nat) (ok : Nat → Prop) (s : St) (w : World) (hok : ∀ k, ok k → k < p) (hw : Below w0.heap.size w0 w) (hw0 : w0.heap.size ≤ p) (h : AtR 107 p ok s.1 s.2 w) (hk : (nS s 7).1 = (5, 0)) :
    Calls Tryd.prog 41 #[.agg #[.pointer (some ⟨p, 0, none⟩)]] w fun e w' => opPost w p ok (opR s) e w' := by
  have hpw := h.lt
  have H := Aside0.mk h
  have he7 : (nS s 7).2.2 = 0 := by rw [← nS_err, hk]
  have HN : Aside0 (∀ W, AtR 107 p ok s.1 s.2 W → Calls Tryd.prog 40 #[.agg #[.pointer (some ⟨p, 0, none⟩)], .int .u64 7] W fun e w' => e = .returned (.int .i64 5) ∧ AtR 107 p ok (nS s 7).2.1 (nS s 7).2.2 w' ∧ But (· = p) W w') := ⟨fun W hW => (num_d 7 (by omega) p ok s W hW).mono (by
    rintro e w' ⟨⟨h0, he, ha⟩ | ⟨h0, he⟩, hb⟩
    · rw [hk] at he
      exact ⟨he, ha, hb⟩
    · exact absurd he7 h0)⟩
  obtain ⟨s1, hs1⟩ : ∃ s1, s1 = (nS s 7).2 := ⟨_, rfl⟩
  rw [← hs1] at HN
  have hB0 := H.out.2.1
  have hB1 := (nS_bytes s 7 hB0).1
  rw [← hs1] at hB1
  have hn1 : num32 (hS s1).1.1 := nS_val s1 4294967295 hB1 (by omega)
  have hB2 := (nS_bytes s1 4294967295 hB1).1
  have hs6 : ((tS (hS s1).2).1.1).size ≤ 65536 := tS_size (hS s1).2 hB2
  have hB3 := (tS_bytes (hS s1).2 hB2).1
  have hs7 : ((tS (tS (hS s1).2).2).1.1).size ≤ 65536 := tS_size (tS (hS s1).2).2 hB3
  have hB4 := (tS_bytes (tS (hS s1).2).2 hB3).1
  have HCK : Aside0 (∀ {b1 b2 b3 : Nat} {o1 o2 o3 : Obj} W, InvO 107 w p ok b1 o1 b2 o2 b3 o3 (tS (tS (hS s1).2).2).2 W ∧ Lie w p ok b1 b2 b3 → Calls Tryd.prog 28 #[.agg #[.int .i64 5, .int .i64 (hS s1).1.1, .int .i64 0, .int .i64 0, .string ⟨#[]⟩, .string ⟨#[]⟩, .string (tS (hS s1).2).1.1, .string (tS (tS (hS s1).2).2).1.1, .slice none 0 0]] W fun e w' => e = .returned (.int .i64 (chk ⟨5, (hS s1).1.1, 0, 0, em, em, (tS (hS s1).2).1.1, (tS (tS (hS s1).2).2).1.1, []⟩)) ∧ InvO 107 w p ok b1 o1 b2 o2 b3 o3 (tS (tS (hS s1).2).2).2 w') := ⟨fun W hW => by
    have hb : Below w0.heap.size w0 W := ⟨hW.1.but.os.trans hw.os, hW.1.but.tape.trans hw.tape, hW.1.but.output.trans hw.output, Nat.le_trans hw.size hW.1.but.size, fun k hk => (hW.1.but.block k (Nat.lt_of_lt_of_le hk hw.size) (by omega)).trans (hw.block k hk)⟩
    have := Check_x ⟨5, (hS s1).1.1, 0, 0, em, em, (tS (hS s1).2).1.1, (tS (tS (hS s1).2).2).1.1, []⟩ none 0 W (hgl.below hb) (Kd.C_nil k44 W) (Nat.le_refl 0) ⟨i64_k 5 (by omega), i64_32 hn1, i64_k 0 (by omega), i64_k 0 (by omega), Nat.zero_le _, Nat.zero_le _, size_up hs6, size_up hs7, Nat.zero_le _, fun i hi => absurd hi (Nat.not_lt_zero i)⟩
    exact this.mono fun e w' h => ⟨h.1, hW.1.below hW.2 h.2⟩⟩
  have HG := Aside0.mk hgl
  have HS1 := Aside0.mk hs1
  clear h hgl hw he7 hs1 hB0 hB1 hB2 hB3 hB4 hn1 hs6 hs7
  go_enter Tryd.func41, Tryd.ntmps41
  go_wp2_with (first
    | (go_at_call 40; (refine (HN.out _ (AtR.al (AtR.al H.out _) _)).mono ?_); rintro e w1 ⟨rfl, h2, h3⟩; have HI0 := Aside0.mk (inv_start 107 w p ok (.cells #[.pointer (some ⟨p, 0, none⟩)] 87) (.cells #[.int .i64 0, .int .i64 0, .int .i64 0, .int .i64 0, .string ⟨#[]⟩, .string ⟨#[]⟩, .string ⟨#[]⟩, .string ⟨#[]⟩, .slice none 0 0] 42) (.cells #[.int .i64 5, .int .i64 0, .int .i64 0, .int .i64 0, .string ⟨#[]⟩, .string ⟨#[]⟩, .string ⟨#[]⟩, .string ⟨#[]⟩, .slice none 0 0] 42) s1 w1 hpw h2 h3); have L := Aside0.mk (lie_start w p ok _ _ w1 hpw hok h3); have hne : ¬ w.heap.size = w1.heap.size := L.out.n13; have hne2 : ¬ w.heap.size + 1 = w1.heap.size := L.out.n23; have q0 := cell_blk (j := 0) (v := .pointer (some ⟨p, 0, none⟩)) HI0.out.k1 rfl; clear h2 h3)
    | (go_at_call 61; (refine (InvO.handle HI0.out L.out).mono ?_); rintro e w2 (⟨he1, rfl, hv1, hI⟩ | ⟨he, rfl, hb⟩); rotate_left; go_loud (focus (unfold stopE; go_wp2_with fail; exact ⟨rfl, opPost_stop hb he (opR_bad s HS1.out 5 _ hk (by decide) (by simp [bodyR, hS_stick (hS s1).2 he, tS_stick (hS s1).2 he]) he)⟩)); have HI1 := Aside0.mk hI; clear hI; have HV1 := Aside0.mk hv1; have HE1 := Aside0.mk he1; clear hv1 he1 q0; have q0 := cell_blk (j := 0) (v := .pointer (some ⟨p, 0, none⟩)) HI1.out.k1 rfl; have fz := Lib.frozen_of_heap HI1.out.k3 1; have HC := InvO.k3 HI1.out; have x0 := cell_blk (j := 0) (v := .int .i64 5) HC rfl; have x1 := cell_blk (j := 1) (v := .int .i64 0) HC rfl; have x2 := cell_blk (j := 2) (v := .int .i64 0) HC rfl; have x3 := cell_blk (j := 3) (v := .int .i64 0) HC rfl; have x4 := cell_blk (j := 4) (v := .string ⟨#[]⟩) HC rfl; have x5 := cell_blk (j := 5) (v := .string ⟨#[]⟩) HC rfl; have x6 := cell_blk (j := 6) (v := .string ⟨#[]⟩) HC rfl; have x7 := cell_blk (j := 7) (v := .string ⟨#[]⟩) HC rfl; have x8 := cell_blk (j := 8) (v := .slice none 0 0) HC rfl; clear HC)
    | (go_at_call 60; (refine (InvO.text (InvO.set HI1.out L.out 1 (.int .i64 (hS s1).1.1)) L.out).mono ?_); rintro e w3 (⟨he2, rfl, hv2, hI⟩ | ⟨he, rfl, hb⟩); rotate_left; go_loud (focus (unfold stopE; go_wp2_with fail; exact ⟨rfl, opPost_stop hb he (opR_bad s HS1.out 5 _ hk (by decide) (by simp [bodyR, hS_stick (tS (hS s1).2).2 he, tS_stick (tS (hS s1).2).2 he]) he)⟩)); have HI2 := Aside0.mk hI; clear hI; have HV2 := Aside0.mk hv2; have HE2 := Aside0.mk he2; clear hv2 he2 q0 fz; clear x0 x1 x2 x3 x4 x5 x6 x7 x8; have q0 := cell_blk (j := 0) (v := .pointer (some ⟨p, 0, none⟩)) HI2.out.k1 rfl; have fz := Lib.frozen_of_heap HI2.out.k3 6; have HC := InvO.k3 HI2.out; have x0 := cell_blk (j := 0) (v := .int .i64 5) HC rfl; have x1 := cell_blk (j := 1) (v := .int .i64 (hS s1).1.1) HC rfl; have x2 := cell_blk (j := 2) (v := .int .i64 0) HC rfl; have x3 := cell_blk (j := 3) (v := .int .i64 0) HC rfl; have x4 := cell_blk (j := 4) (v := .string ⟨#[]⟩) HC rfl; have x5 := cell_blk (j := 5) (v := .string ⟨#[]⟩) HC rfl; have x6 := cell_blk (j := 6) (v := .string ⟨#[]⟩) HC rfl; have x7 := cell_blk (j := 7) (v := .string ⟨#[]⟩) HC rfl; have x8 := cell_blk (j := 8) (v := .slice none 0 0) HC rfl; clear HC)
    | (go_at_call 60; (refine (InvO.text (InvO.set HI2.out L.out 6 (.string (tS (hS s1).2).1.1)) L.out).mono ?_); rintro e w4 (⟨he3, rfl, hv3, hI⟩ | ⟨he, rfl, hb⟩); rotate_left; go_loud (focus (unfold stopE; go_wp2_with fail; exact ⟨rfl, opPost_stop hb he (opR_bad s HS1.out 5 _ hk (by decide) (by simp [bodyR, hS_stick (tS (tS (hS s1).2).2).2 he, tS_stick (tS (tS (hS s1).2).2).2 he]) he)⟩)); have HI3 := Aside0.mk hI; clear hI; have HV3 := Aside0.mk hv3; have HE3 := Aside0.mk he3; clear hv3 he3 q0 fz; clear x0 x1 x2 x3 x4 x5 x6 x7 x8; have q0 := cell_blk (j := 0) (v := .pointer (some ⟨p, 0, none⟩)) HI3.out.k1 rfl; have fz := Lib.frozen_of_heap HI3.out.k3 7; have HC := InvO.k3 HI3.out; have x0 := cell_blk (j := 0) (v := .int .i64 5) HC rfl; have x1 := cell_blk (j := 1) (v := .int .i64 (hS s1).1.1) HC rfl; have x2 := cell_blk (j := 2) (v := .int .i64 0) HC rfl; have x3 := cell_blk (j := 3) (v := .int .i64 0) HC rfl; have x4 := cell_blk (j := 4) (v := .string ⟨#[]⟩) HC rfl; have x5 := cell_blk (j := 5) (v := .string ⟨#[]⟩) HC rfl; have x6 := cell_blk (j := 6) (v := .string (tS (hS s1).2).1.1) HC rfl; have x7 := cell_blk (j := 7) (v := .string ⟨#[]⟩) HC rfl; have x8 := cell_blk (j := 8) (v := .slice none 0 0) HC rfl; clear HC)
    | (go_at_call 28; (refine (HCK.out _ ⟨(InvO.set HI3.out L.out 7 (.string (tS (tS (hS s1).2).2).1.1)), L.out⟩).mono ?_); rintro e w5 ⟨rfl, hI⟩; have HIC := Aside0.mk hI; clear hI q0 fz x0 x1 x2 x3 x4 x5 x6 x7 x8; have HC := InvO.k3 HIC.out; have x0 := cell_blk (j := 0) (v := .int .i64 5) HC rfl; have x1 := cell_blk (j := 1) (v := .int .i64 (hS s1).1.1) HC rfl; have x2 := cell_blk (j := 2) (v := .int .i64 0) HC rfl; have x3 := cell_blk (j := 3) (v := .int .i64 0) HC rfl; have x4 := cell_blk (j := 4) (v := .string ⟨#[]⟩) HC rfl; have x5 := cell_blk (j := 5) (v := .string ⟨#[]⟩) HC rfl; have x6 := cell_blk (j := 6) (v := .string (tS (hS s1).2).1.1) HC rfl; have x7 := cell_blk (j := 7) (v := .string (tS (tS (hS s1).2).2).1.1) HC rfl; have x8 := cell_blk (j := 8) (v := .slice none 0 0) HC rfl; have hY := InvO.k2 HIC.out; have HY := Aside0.mk hY; have y0 := cell_blk (j := 0) (v := .int .i64 0) hY rfl; have z0 := Lib.frozen_of_heap hY 0; have y1 := cell_blk (j := 1) (v := .int .i64 0) hY rfl; have z1 := Lib.frozen_of_heap hY 1; have y2 := cell_blk (j := 2) (v := .int .i64 0) hY rfl; have z2 := Lib.frozen_of_heap hY 2; have y3 := cell_blk (j := 3) (v := .int .i64 0) hY rfl; have z3 := Lib.frozen_of_heap hY 3; have y4 := cell_blk (j := 4) (v := .string ⟨#[]⟩) hY rfl; have z4 := Lib.frozen_of_heap hY 4; have y5 := cell_blk (j := 5) (v := .string ⟨#[]⟩) hY rfl; have z5 := Lib.frozen_of_heap hY 5; have y6 := cell_blk (j := 6) (v := .string ⟨#[]⟩) hY rfl; have z6 := Lib.frozen_of_heap hY 6; have y7 := cell_blk (j := 7) (v := .string ⟨#[]⟩) hY rfl; have z7 := Lib.frozen_of_heap hY 7; have y8 := cell_blk (j := 8) (v := .slice none 0 0) hY rfl; have z8 := Lib.frozen_of_heap hY 8; clear HC hY)
    | (go_at_call 42; (refine (must_d _ _).mono ?_); rintro e w6 ⟨⟨hc, rfl⟩ | ⟨hc, rfl⟩, rfl⟩; rotate_left; focus (unfold stopE; go_wp2_with fail; exact ⟨rfl, opPost_stop HIC.out.but hc (by rw [opR_good s HS1.out 5 hk (by decide) (by simpa [bodyR] using HE3.out)]; simp [bodyR])⟩)))
  have hpz := L.out.h2
  have hgood := opR_good s HS1.out 5 hk (by decide) (by simpa [bodyR] using HE3.out)
  refine bodyPost_ret (results_cell_row rfl _ _ (w.heap.size + 1) 42 _ (0, 0) _ rfl (set_blk (j := 8) (set_blk (j := 7) (set_blk (j := 6) (set_blk (j := 5) (set_blk (j := 4) (set_blk (j := 3) (set_blk (j := 2) (set_blk (j := 1) (set_blk (j := 0) (HY.out) _) _) _) _) _) _) _) _) _) Tryd.underlying42 rfl (by kernel_rfl)) rfl ?_
  simp only [bodyR, Int.reduceEq, if_false, if_true] at hgood
  rw [hgood]
  exact opPost_ok (AtB.set (AtB.set (AtB.set (AtB.set (AtB.set (AtB.set (AtB.set (AtB.set (AtB.set ⟨HIC.out.but, HIC.out.at_⟩ hpw hpz hok 0 _) hpw hpz hok 1 _) hpw hpz hok 2 _) hpw hpz hok 3 _) hpw hpz hok 4 _) hpw hpz hok 5 _) hpw hpz hok 6 _) hpw hpz hok 7 _) hpw hpz hok 8 _) hc (.slice none 0 0) rfl (Kd.R_nil k44 44 _ _ _)
set_option maxHeartbeats 2000000 in
set_option maxRecDepth 100000 in
theorem op_6 (w0 : World) (hgl : GL w0) (p : Nat) (ok : Nat → Prop) (s : St) (w : World) (hok : ∀ k, ok k → k < p) (hw : Below w0.heap.size w0 w) (hw0 : w0.heap.size ≤ p) (h : AtR 107 p ok s.1 s.2 w) (hk : (nS s 7).1 = (6, 0)) :
    Calls Tryd.prog 41 #[.agg #[.pointer (some ⟨p, 0, none⟩)]] w fun e w' => opPost w p ok (opR s) e w' := by
  have hpw := h.lt
  have H := Aside0.mk h
  have he7 : (nS s 7).2.2 = 0 := by rw [← nS_err, hk]
  have HN : Aside0 (∀ W, AtR 107 p ok s.1 s.2 W → Calls Tryd.prog 40 #[.agg #[.pointer (some ⟨p, 0, none⟩)], .int .u64 7] W fun e w' => e = .returned (.int .i64 6) ∧ AtR 107 p ok (nS s 7).2.1 (nS s 7).2.2 w' ∧ But (· = p) W w') := ⟨fun W hW => (num_d 7 (by omega) p ok s W hW).mono (by
    rintro e w' ⟨⟨h0, he, ha⟩ | ⟨h0, he⟩, hb⟩
    · rw [hk] at he
      exact ⟨he, ha, hb⟩
    · exact absurd he7 h0)⟩
  obtain ⟨s1, hs1⟩ : ∃ s1, s1 = (nS s 7).2 := ⟨_, rfl⟩
  rw [← hs1] at HN
  have hB0 := H.out.2.1
  have hB1 := (nS_bytes s 7 hB0).1
  rw [← hs1] at hB1
  have hn1 : num32 (hS s1).1.1 := nS_val s1 4294967295 hB1 (by omega)
  have hB2 := (nS_bytes s1 4294967295 hB1).1
  have hs6 : ((tS (hS s1).2).1.1).size ≤ 65536 := tS_size (hS s1).2 hB2
  have hB3 := (tS_bytes (hS s1).2 hB2).1
  have HCK : Aside0 (∀ {b1 b2 b3 : Nat} {o1 o2 o3 : Obj} W, InvO 107 w p ok b1 o1 b2 o2 b3 o3 (tS (hS s1).2).2 W ∧ Lie w p ok b1 b2 b3 → Calls Tryd.prog 28 #[.agg #[.int .i64 6, .int .i64 (hS s1).1.1, .int .i64 0, .int .i64 0, .string ⟨#[]⟩, .string ⟨#[]⟩, .string (tS (hS s1).2).1.1, .string ⟨#[]⟩, .slice none 0 0]] W fun e w' => e = .returned (.int .i64 (chk ⟨6, (hS s1).1.1, 0, 0, em, em, (tS (hS s1).2).1.1, em, []⟩)) ∧ InvO 107 w p ok b1 o1 b2 o2 b3 o3 (tS (hS s1).2).2 w') := ⟨fun W hW => by
    have hb : Below w0.heap.size w0 W := ⟨hW.1.but.os.trans hw.os, hW.1.but.tape.trans hw.tape, hW.1.but.output.trans hw.output, Nat.le_trans hw.size hW.1.but.size, fun k hk => (hW.1.but.block k (Nat.lt_of_lt_of_le hk hw.size) (by omega)).trans (hw.block k hk)⟩
    have := Check_x ⟨6, (hS s1).1.1, 0, 0, em, em, (tS (hS s1).2).1.1, em, []⟩ none 0 W (hgl.below hb) (Kd.C_nil k44 W) (Nat.le_refl 0) ⟨i64_k 6 (by omega), i64_32 hn1, i64_k 0 (by omega), i64_k 0 (by omega), Nat.zero_le _, Nat.zero_le _, size_up hs6, Nat.zero_le _, Nat.zero_le _, fun i hi => absurd hi (Nat.not_lt_zero i)⟩
    exact this.mono fun e w' h => ⟨h.1, hW.1.below hW.2 h.2⟩⟩
  have HG := Aside0.mk hgl
  have HS1 := Aside0.mk hs1
  clear h hgl hw he7 hs1 hB0 hB1 hB2 hB3 hn1 hs6
  go_enter Tryd.func41, Tryd.ntmps41
  go_wp2_with (first
    | (go_at_call 40; (refine (HN.out _ (AtR.al (AtR.al H.out _) _)).mono ?_); rintro e w1 ⟨rfl, h2, h3⟩; have HI0 := Aside0.mk (inv_start 107 w p ok (.cells #[.pointer (some ⟨p, 0, none⟩)] 87) (.cells #[.int .i64 0, .int .i64 0, .int .i64 0, .int .i64 0, .string ⟨#[]⟩, .string ⟨#[]⟩, .string ⟨#[]⟩, .string ⟨#[]⟩, .slice none 0 0] 42) (.cells #[.int .i64 6, .int .i64 0, .int .i64 0, .int .i64 0, .string ⟨#[]⟩, .string ⟨#[]⟩, .string ⟨#[]⟩, .string ⟨#[]⟩, .slice none 0 0] 42) s1 w1 hpw h2 h3); have L := Aside0.mk (lie_start w p ok _ _ w1 hpw hok h3); have hne : ¬ w.heap.size = w1.heap.size := L.out.n13; have hne2 : ¬ w.heap.size + 1 = w1.heap.size := L.out.n23; have q0 := cell_blk (j := 0) (v := .pointer (some ⟨p, 0, none⟩)) HI0.out.k1 rfl; clear h2 h3)
    | (go_at_call 61; (refine (InvO.handle HI0.out L.out).mono ?_); rintro e w2 (⟨he1, rfl, hv1, hI⟩ | ⟨he, rfl, hb⟩); rotate_left; go_loud (focus (unfold stopE; go_wp2_with fail; exact ⟨rfl, opPost_stop hb he (opR_bad s HS1.out 6 _ hk (by decide) (by simp [bodyR, hS_stick (hS s1).2 he, tS_stick (hS s1).2 he]) he)⟩)); have HI1 := Aside0.mk hI; clear hI; have HV1 := Aside0.mk hv1; have HE1 := Aside0.mk he1; clear hv1 he1 q0; have q0 := cell_blk (j := 0) (v := .pointer (some ⟨p, 0, none⟩)) HI1.out.k1 rfl; have fz := Lib.frozen_of_heap HI1.out.k3 1; have HC := InvO.k3 HI1.out; have x0 := cell_blk (j := 0) (v := .int .i64 6) HC rfl; have x1 := cell_blk (j := 1) (v := .int .i64 0) HC rfl; have x2 := cell_blk (j := 2) (v := .int .i64 0) HC rfl; have x3 := cell_blk (j := 3) (v := .int .i64 0) HC rfl; have x4 := cell_blk (j := 4) (v := .string ⟨#[]⟩) HC rfl; have x5 := cell_blk (j := 5) (v := .string ⟨#[]⟩) HC rfl; have x6 := cell_blk (j := 6) (v := .string ⟨#[]⟩) HC rfl; have x7 := cell_blk (j := 7) (v := .string ⟨#[]⟩) HC rfl; have x8 := cell_blk (j := 8) (v := .slice none 0 0) HC rfl; clear HC)
    | (go_at_call 60; (refine (InvO.text (InvO.set HI1.out L.out 1 (.int .i64 (hS s1).1.1)) L.out).mono ?_); rintro e w3 (⟨he2, rfl, hv2, hI⟩ | ⟨he, rfl, hb⟩); rotate_left; go_loud (focus (unfold stopE; go_wp2_with fail; exact ⟨rfl, opPost_stop hb he (opR_bad s HS1.out 6 _ hk (by decide) (by simp [bodyR, hS_stick (tS (hS s1).2).2 he, tS_stick (tS (hS s1).2).2 he]) he)⟩)); have HI2 := Aside0.mk hI; clear hI; have HV2 := Aside0.mk hv2; have HE2 := Aside0.mk he2; clear hv2 he2 q0 fz; clear x0 x1 x2 x3 x4 x5 x6 x7 x8; have q0 := cell_blk (j := 0) (v := .pointer (some ⟨p, 0, none⟩)) HI2.out.k1 rfl; have fz := Lib.frozen_of_heap HI2.out.k3 6; have HC := InvO.k3 HI2.out; have x0 := cell_blk (j := 0) (v := .int .i64 6) HC rfl; have x1 := cell_blk (j := 1) (v := .int .i64 (hS s1).1.1) HC rfl; have x2 := cell_blk (j := 2) (v := .int .i64 0) HC rfl; have x3 := cell_blk (j := 3) (v := .int .i64 0) HC rfl; have x4 := cell_blk (j := 4) (v := .string ⟨#[]⟩) HC rfl; have x5 := cell_blk (j := 5) (v := .string ⟨#[]⟩) HC rfl; have x6 := cell_blk (j := 6) (v := .string ⟨#[]⟩) HC rfl; have x7 := cell_blk (j := 7) (v := .string ⟨#[]⟩) HC rfl; have x8 := cell_blk (j := 8) (v := .slice none 0 0) HC rfl; clear HC)
    | (go_at_call 28; (refine (HCK.out _ ⟨(InvO.set HI2.out L.out 6 (.string (tS (hS s1).2).1.1)), L.out⟩).mono ?_); rintro e w4 ⟨rfl, hI⟩; have HIC := Aside0.mk hI; clear hI q0 fz x0 x1 x2 x3 x4 x5 x6 x7 x8; have HC := InvO.k3 HIC.out; have x0 := cell_blk (j := 0) (v := .int .i64 6) HC rfl; have x1 := cell_blk (j := 1) (v := .int .i64 (hS s1).1.1) HC rfl; have x2 := cell_blk (j := 2) (v := .int .i64 0) HC rfl; have x3 := cell_blk (j := 3) (v := .int .i64 0) HC rfl; have x4 := cell_blk (j := 4) (v := .string ⟨#[]⟩) HC rfl; have x5 := cell_blk (j := 5) (v := .string ⟨#[]⟩) HC rfl; have x6 := cell_blk (j := 6) (v := .string (tS (hS s1).2).1.1) HC rfl; have x7 := cell_blk (j := 7) (v := .string ⟨#[]⟩) HC rfl; have x8 := cell_blk (j := 8) (v := .slice none 0 0) HC rfl; have hY := InvO.k2 HIC.out; have HY := Aside0.mk hY; have y0 := cell_blk (j := 0) (v := .int .i64 0) hY rfl; have z0 := Lib.frozen_of_heap hY 0; have y1 := cell_blk (j := 1) (v := .int .i64 0) hY rfl; have z1 := Lib.frozen_of_heap hY 1; have y2 := cell_blk (j := 2) (v := .int .i64 0) hY rfl; have z2 := Lib.frozen_of_heap hY 2; have y3 := cell_blk (j := 3) (v := .int .i64 0) hY rfl; have z3 := Lib.frozen_of_heap hY 3; have y4 := cell_blk (j := 4) (v := .string ⟨#[]⟩) hY rfl; have z4 := Lib.frozen_of_heap hY 4; have y5 := cell_blk (j := 5) (v := .string ⟨#[]⟩) hY rfl; have z5 := Lib.frozen_of_heap hY 5; have y6 := cell_blk (j := 6) (v := .string ⟨#[]⟩) hY rfl; have z6 := Lib.frozen_of_heap hY 6; have y7 := cell_blk (j := 7) (v := .string ⟨#[]⟩) hY rfl; have z7 := Lib.frozen_of_heap hY 7; have y8 := cell_blk (j := 8) (v := .slice none 0 0) hY rfl; have z8 := Lib.frozen_of_heap hY 8; clear HC hY)
    | (go_at_call 42; (refine (must_d _ _).mono ?_); rintro e w5 ⟨⟨hc, rfl⟩ | ⟨hc, rfl⟩, rfl⟩; rotate_left; focus (unfold stopE; go_wp2_with fail; exact ⟨rfl, opPost_stop HIC.out.but hc (by rw [opR_good s HS1.out 6 hk (by decide) (by simpa [bodyR] using HE2.out)]; simp [bodyR])⟩)))
  have hpz := L.out.h2
  have hgood := opR_good s HS1.out 6 hk (by decide) (by simpa [bodyR] using HE2.out)
  refine bodyPost_ret (results_cell_row rfl _ _ (w.heap.size + 1) 42 _ (0, 0) _ rfl (set_blk (j := 8) (set_blk (j := 7) (set_blk (j := 6) (set_blk (j := 5) (set_blk (j := 4) (set_blk (j := 3) (set_blk (j := 2) (set_blk (j := 1) (set_blk (j := 0) (HY.out) _) _) _) _) _) _) _) _) _) Tryd.underlying42 rfl (by kernel_rfl)) rfl ?_
  simp only [bodyR, Int.reduceEq, if_false, if_true] at hgood
  rw [hgood]
  exact opPost_ok (AtB.set (AtB.set (AtB.set (AtB.set (AtB.set (AtB.set (AtB.set (AtB.set (AtB.set ⟨HIC.out.but, HIC.out.at_⟩ hpw hpz hok 0 _) hpw hpz hok 1 _) hpw hpz hok 2 _) hpw hpz hok 3 _) hpw hpz hok 4 _) hpw hpz hok 5 _) hpw hpz hok 6 _) hpw hpz hok 7 _) hpw hpz hok 8 _) hc (.slice none 0 0) rfl (Kd.R_nil k44 44 _ _ _)
set_option maxHeartbeats 2000000 in
set_option maxRecDepth 100000 in
theorem op_7 (w0 : World) (hgl : GL w0) (p : Nat) (ok : Nat → Prop) (s : St) (w : World) (hok : ∀ k, ok k → k < p) (hw : Below w0.heap.size w0 w) (hw0 : w0.heap.size ≤ p) (h : AtR 107 p ok s.1 s.2 w) (hk : (nS s 7).1 = (7, 0)) :
    Calls Tryd.prog 41 #[.agg #[.pointer (some ⟨p, 0, none⟩)]] w fun e w' => opPost w p ok (opR s) e w' := by
  have hpw := h.lt
  have H := Aside0.mk h
  have he7 : (nS s 7).2.2 = 0 := by rw [← nS_err, hk]
  have HN : Aside0 (∀ W, AtR 107 p ok s.1 s.2 W → Calls Tryd.prog 40 #[.agg #[.pointer (some ⟨p, 0, none⟩)], .int .u64 7] W fun e w' => e = .returned (.int .i64 7) ∧ AtR 107 p ok (nS s 7).2.1 (nS s 7).2.2 w' ∧ But (· = p) W w') := ⟨fun W hW => (num_d 7 (by omega) p ok s W hW).mono (by
    rintro e w' ⟨⟨h0, he, ha⟩ | ⟨h0, he⟩, hb⟩
    · rw [hk] at he
      exact ⟨he, ha, hb⟩
    · exact absurd he7 h0)⟩
  obtain ⟨s1, hs1⟩ : ∃ s1, s1 = (nS s 7).2 := ⟨_, rfl⟩
  rw [← hs1] at HN
  have hB0 := H.out.2.1
  have hB1 := (nS_bytes s 7 hB0).1
  rw [← hs1] at hB1
  have hn1 : num32 (hS s1).1.1 := nS_val s1 4294967295 hB1 (by omega)
  have hB2 := (nS_bytes s1 4294967295 hB1).1
  have hs7 : ((tS (hS s1).2).1.1).size ≤ 65536 := tS_size (hS s1).2 hB2
  have hB3 := (tS_bytes (hS s1).2 hB2).1
  have HCK : Aside0 (∀ {b1 b2 b3 : Nat} {o1 o2 o3 : Obj} W, InvO 107 w p ok b1 o1 b2 o2 b3 o3 (tS (hS s1).2).2 W ∧ Lie w p ok b1 b2 b3 → Calls Tryd.prog 28 #[.agg #[.int .i64 7, .int .i64 (hS s1).1.1, .int .i64 0, .int .i64 0, .string ⟨#[]⟩, .string ⟨#[]⟩, .string ⟨#[]⟩, .string (tS (hS s1).2).1.1, .slice none 0 0]] W fun e w' => e = .returned (.int .i64 (chk ⟨7, (hS s1).1.1, 0, 0, em, em, em, (tS (hS s1).2).1.1, []⟩)) ∧ InvO 107 w p ok b1 o1 b2 o2 b3 o3 (tS (hS s1).2).2 w') := ⟨fun W hW => by
    have hb : Below w0.heap.size w0 W := ⟨hW.1.but.os.trans hw.os, hW.1.but.tape.trans hw.tape, hW.1.but.output.trans hw.output, Nat.le_trans hw.size hW.1.but.size, fun k hk => (hW.1.but.block k (Nat.lt_of_lt_of_le hk hw.size) (by omega)).trans (hw.block k hk)⟩
    have := Check_x ⟨7, (hS s1).1.1, 0, 0, em, em, em, (tS (hS s1).2).1.1, []⟩ none 0 W (hgl.below hb) (Kd.C_nil k44 W) (Nat.le_refl 0) ⟨i64_k 7 (by omega), i64_32 hn1, i64_k 0 (by omega), i64_k 0 (by omega), Nat.zero_le _, Nat.zero_le _, Nat.zero_le _, size_up hs7, Nat.zero_le _, fun i hi => absurd hi (Nat.not_lt_zero i)⟩
    exact this.mono fun e w' h => ⟨h.1, hW.1.below hW.2 h.2⟩⟩
  have HG := Aside0.mk hgl
  have HS1 := Aside0.mk hs1
  clear h hgl hw he7 hs1 hB0 hB1 hB2 hB3 hn1 hs7
  go_enter Tryd.func41, Tryd.ntmps41
  go_wp2_with (first
    | (go_at_call 40; (refine (HN.out _ (AtR.al (AtR.al H.out _) _)).mono ?_); rintro e w1 ⟨rfl, h2, h3⟩; have HI0 := Aside0.mk (inv_start 107 w p ok (.cells #[.pointer (some ⟨p, 0, none⟩)] 87) (.cells #[.int .i64 0, .int .i64 0, .int .i64 0, .int .i64 0, .string ⟨#[]⟩, .string ⟨#[]⟩, .string ⟨#[]⟩, .string ⟨#[]⟩, .slice none 0 0] 42) (.cells #[.int .i64 7, .int .i64 0, .int .i64 0, .int .i64 0, .string ⟨#[]⟩, .string ⟨#[]⟩, .string ⟨#[]⟩, .string ⟨#[]⟩, .slice none 0 0] 42) s1 w1 hpw h2 h3); have L := Aside0.mk (lie_start w p ok _ _ w1 hpw hok h3); have hne : ¬ w.heap.size = w1.heap.size := L.out.n13; have hne2 : ¬ w.heap.size + 1 = w1.heap.size := L.out.n23; have q0 := cell_blk (j := 0) (v := .pointer (some ⟨p, 0, none⟩)) HI0.out.k1 rfl; clear h2 h3)
    | (go_at_call 61; (refine (InvO.handle HI0.out L.out).mono ?_); rintro e w2 (⟨he1, rfl, hv1, hI⟩ | ⟨he, rfl, hb⟩); rotate_left; go_loud (focus (unfold stopE; go_wp2_with fail; exact ⟨rfl, opPost_stop hb he (opR_bad s HS1.out 7 _ hk (by decide) (by simp [bodyR, hS_stick (hS s1).2 he, tS_stick (hS s1).2 he]) he)⟩)); have HI1 := Aside0.mk hI; clear hI; have HV1 := Aside0.mk hv1; have HE1 := Aside0.mk he1; clear hv1 he1 q0; have q0 := cell_blk (j := 0) (v := .pointer (some ⟨p, 0, none⟩)) HI1.out.k1 rfl; have fz := Lib.frozen_of_heap HI1.out.k3 1; have HC := InvO.k3 HI1.out; have x0 := cell_blk (j := 0) (v := .int .i64 7) HC rfl; have x1 := cell_blk (j := 1) (v := .int .i64 0) HC rfl; have x2 := cell_blk (j := 2) (v := .int .i64 0) HC rfl; have x3 := cell_blk (j := 3) (v := .int .i64 0) HC rfl; have x4 := cell_blk (j := 4) (v := .string ⟨#[]⟩) HC rfl; have x5 := cell_blk (j := 5) (v := .string ⟨#[]⟩) HC rfl; have x6 := cell_blk (j := 6) (v := .string ⟨#[]⟩) HC rfl; have x7 := cell_blk (j := 7) (v := .string ⟨#[]⟩) HC rfl; have x8 := cell_blk (j := 8) (v := .slice none 0 0) HC rfl; clear HC)
    | (go_at_call 60; (refine (InvO.text (InvO.set HI1.out L.out 1 (.int .i64 (hS s1).1.1)) L.out).mono ?_); rintro e w3 (⟨he2, rfl, hv2, hI⟩ | ⟨he, rfl, hb⟩); rotate_left; go_loud (focus (unfold stopE; go_wp2_with fail; exact ⟨rfl, opPost_stop hb he (opR_bad s HS1.out 7 _ hk (by decide) (by simp [bodyR, hS_stick (tS (hS s1).2).2 he, tS_stick (tS (hS s1).2).2 he]) he)⟩)); have HI2 := Aside0.mk hI; clear hI; have HV2 := Aside0.mk hv2; have HE2 := Aside0.mk he2; clear hv2 he2 q0 fz; clear x0 x1 x2 x3 x4 x5 x6 x7 x8; have q0 := cell_blk (j := 0) (v := .pointer (some ⟨p, 0, none⟩)) HI2.out.k1 rfl; have fz := Lib.frozen_of_heap HI2.out.k3 7; have HC := InvO.k3 HI2.out; have x0 := cell_blk (j := 0) (v := .int .i64 7) HC rfl; have x1 := cell_blk (j := 1) (v := .int .i64 (hS s1).1.1) HC rfl; have x2 := cell_blk (j := 2) (v := .int .i64 0) HC rfl; have x3 := cell_blk (j := 3) (v := .int .i64 0) HC rfl; have x4 := cell_blk (j := 4) (v := .string ⟨#[]⟩) HC rfl; have x5 := cell_blk (j := 5) (v := .string ⟨#[]⟩) HC rfl; have x6 := cell_blk (j := 6) (v := .string ⟨#[]⟩) HC rfl; have x7 := cell_blk (j := 7) (v := .string ⟨#[]⟩) HC rfl; have x8 := cell_blk (j := 8) (v := .slice none 0 0) HC rfl; clear HC)
    | (go_at_call 28; (refine (HCK.out _ ⟨(InvO.set HI2.out L.out 7 (.string (tS (hS s1).2).1.1)), L.out⟩).mono ?_); rintro e w4 ⟨rfl, hI⟩; have HIC := Aside0.mk hI; clear hI q0 fz x0 x1 x2 x3 x4 x5 x6 x7 x8; have HC := InvO.k3 HIC.out; have x0 := cell_blk (j := 0) (v := .int .i64 7) HC rfl; have x1 := cell_blk (j := 1) (v := .int .i64 (hS s1).1.1) HC rfl; have x2 := cell_blk (j := 2) (v := .int .i64 0) HC rfl; have x3 := cell_blk (j := 3) (v := .int .i64 0) HC rfl; have x4 := cell_blk (j := 4) (v := .string ⟨#[]⟩) HC rfl; have x5 := cell_blk (j := 5) (v := .string ⟨#[]⟩) HC rfl; have x6 := cell_blk (j := 6) (v := .string ⟨#[]⟩) HC rfl; have x7 := cell_blk (j := 7) (v := .string (tS (hS s1).2).1.1) HC rfl; have x8 := cell_blk (j := 8) (v := .slice none 0 0) HC rfl; have hY := InvO.k2 HIC.out; have HY := Aside0.mk hY; have y0 := cell_blk (j := 0) (v := .int .i64 0) hY rfl; have z0 := Lib.frozen_of_heap hY 0; have y1 := cell_blk (j := 1) (v := .int .i64 0) hY rfl; have z1 := Lib.frozen_of_heap hY 1; have y2 := cell_blk (j := 2) (v := .int .i64 0) hY rfl; have z2 := Lib.frozen_of_heap hY 2; have y3 := cell_blk (j := 3) (v := .int .i64 0) hY rfl; have z3 := Lib.frozen_of_heap hY 3; have y4 := cell_blk (j := 4) (v := .string ⟨#[]⟩) hY rfl; have z4 := Lib.frozen_of_heap hY 4; have y5 := cell_blk (j := 5) (v := .string ⟨#[]⟩) hY rfl; have z5 := Lib.frozen_of_heap hY 5; have y6 := cell_blk (j := 6) (v := .string ⟨#[]⟩) hY rfl; have z6 := Lib.frozen_of_heap hY 6; have y7 := cell_blk (j := 7) (v := .string ⟨#[]⟩) hY rfl; have z7 := Lib.frozen_of_heap hY 7; have y8 := cell_blk (j := 8) (v := .slice none 0 0) hY rfl; have z8 := Lib.frozen_of_heap hY 8; clear HC hY)
    | (go_at_call 42; (refine (must_d _ _).mono ?_); rintro e w5 ⟨⟨hc, rfl⟩ | ⟨hc, rfl⟩, rfl⟩; rotate_left; focus (unfold stopE; go_wp2_with fail; exact ⟨rfl, opPost_stop HIC.out.but hc (by rw [opR_good s HS1.out 7 hk (by decide) (by simpa [bodyR] using HE2.out)]; simp [bodyR])⟩)))
  have hpz := L.out.h2
  have hgood := opR_good s HS1.out 7 hk (by decide) (by simpa [bodyR] using HE2.out)
  refine bodyPost_ret (results_cell_row rfl _ _ (w.heap.size + 1) 42 _ (0, 0) _ rfl (set_blk (j := 8) (set_blk (j := 7) (set_blk (j := 6) (set_blk (j := 5) (set_blk (j := 4) (set_blk (j := 3) (set_blk (j := 2) (set_blk (j := 1) (set_blk (j := 0) (HY.out) _) _) _) _) _) _) _) _) _) Tryd.underlying42 rfl (by kernel_rfl)) rfl ?_
  simp only [bodyR, Int.reduceEq, if_false, if_true] at hgood
  rw [hgood]
  exact opPost_ok (AtB.set (AtB.set (AtB.set (AtB.set (AtB.set (AtB.set (AtB.set (AtB.set (AtB.set ⟨HIC.out.but, HIC.out.at_⟩ hpw hpz hok 0 _) hpw hpz hok 1 _) hpw hpz hok 2 _) hpw hpz hok 3 _) hpw hpz hok 4 _) hpw hpz hok 5 _) hpw hpz hok 6 _) hpw hpz hok 7 _) hpw hpz hok 8 _) hc (.slice none 0 0) rfl (Kd.R_nil k44 44 _ _ _)
end Go.Proofs.YtfpijjjmgggfkaaDoorE

namespace Go.Proofs.YtfpijjjmgggfkaaDoorE
open Go Go.RowKit Go.Proofs.YtfpijjjmgggfkaaDoorW.PrintWords Go.Proofs.YtfpijjjmgggfkaaDoorW.PrintMore Go.Proofs.YtfpijjjmgggfkaaDoorX Go.Proofs.YtfpijjjmgggfkaaDoor.P26 Go.Proofs.YtfpijjjmgggfkaaDoor.L01
set_option linter.unusedVariables false
set_option linter.unusedSimpArgs false
set_option maxHeartbeats 2000000 in
set_option maxRecDepth 100000 in
theorem op_bad (p : Nat) (ok : Nat → Prop) (s : St) (w : World) (h : AtR 107 p ok s.1 s.2 w) (hn : (nS s 7).2.2 ≠ 0) :
    Calls Tryd.prog 41 #[.agg #[.pointer (some ⟨p, 0, none⟩)]] w fun e w' => opPost w p ok (opR s) e w' := by
  have hpw := h.lt
  have HN := Aside0.mk (num_d 7 (by omega) p ok s _ (AtR.al (AtR.al h (.cells #[.pointer (some ⟨p, 0, none⟩)] 87)) (.cells #[.int .i64 0, .int .i64 0, .int .i64 0, .int .i64 0, .string ⟨#[]⟩, .string ⟨#[]⟩, .string ⟨#[]⟩, .string ⟨#[]⟩, .slice none 0 0] 42)))
  have he : (opR s).1.2 = (nS s 7).2.2 := by
    unfold opR
    rw [if_pos (by rw [nS_err]; exact hn), nS_err]
  have HE := Aside0.mk he
  obtain ⟨R, hR⟩ : ∃ R, R = opR s := ⟨_, rfl⟩
  rw [← hR] at HE ⊢
  obtain ⟨t, ht⟩ : ∃ t, t = (nS s 7) := ⟨_, rfl⟩
  rw [← ht] at HE HN hn
  have HN0 := Aside0.mk hn
  clear h he hR ht hn
  go_enter Tryd.func41, Tryd.ntmps41
  go_wp2_with (first
    | (go_at_call 40; (refine (HN.out).mono ?_); rintro e w1 ⟨⟨h0, rfl, ha⟩ | ⟨h0, rfl⟩, hb⟩; (exact absurd h0 HN0.out); unfold stopE; have HB := Aside0.mk hb; clear hb h0))
  exact ⟨rfl, opPost_stop ((((But.refl _ w).alloc _).alloc _).then_ HB.out) HN0.out HE.out⟩
set_option maxHeartbeats 2000000 in
set_option maxRecDepth 100000 in
theorem op_0 (p : Nat) (ok : Nat → Prop) (s : St) (w : World) (h : AtR 107 p ok s.1 s.2 w) (hk : (nS s 7).1 = (0, 0)) :
    Calls Tryd.prog 41 #[.agg #[.pointer (some ⟨p, 0, none⟩)]] w fun e w' => opPost w p ok (opR s) e w' := by
  have hpw := h.lt
  have he7 : (nS s 7).2.2 = 0 := by rw [← nS_err, hk]
  have HN : Aside0 (∀ W, AtR 107 p ok s.1 s.2 W → Calls Tryd.prog 40 #[.agg #[.pointer (some ⟨p, 0, none⟩)], .int .u64 7] W fun e w' => e = .returned (.int .i64 0) ∧ But (· = p) W w') := ⟨fun W hW => (num_d 7 (by omega) p ok s W hW).mono (by
    rintro e w' ⟨⟨h0, he, ha⟩ | ⟨h0, he⟩, hb⟩
    · rw [hk] at he
      exact ⟨he, hb⟩
    · exact absurd he7 h0)⟩
  have H := Aside0.mk h
  have he : (opR s).1.2 = 6 := by
    unfold opR
    rw [hk, if_neg (by simp), if_pos rfl]
  have HE := Aside0.mk he
  obtain ⟨R, hR⟩ : ∃ R, R = opR s := ⟨_, rfl⟩
  rw [← hR] at HE ⊢
  clear h he hR he7 hk
  go_enter Tryd.func41, Tryd.ntmps41
  go_wp2_with (first
    | (go_at_call 40; (refine (HN.out _ (AtR.al (AtR.al H.out _) _)).mono ?_); rintro e w1 ⟨rfl, hb⟩; have HB := Aside0.mk hb; clear hb)
    | (go_at_call 42; (refine (must_bad 6 (by decide) _).mono ?_); rintro e w2 ⟨rfl, rfl⟩; unfold stopE))
  exact ⟨rfl, opPost_stop (((((But.refl _ w).alloc _).alloc _).then_ HB.out).alloc _) (by decide) HE.out⟩
/-- codec.reader.op. -/
theorem op_c (w0 : World) (hgl : GL w0) (p : Nat) (ok : Nat → Prop) (s : St) (w : World) (hok : ∀ k, ok k → k < p) (hw : Below w0.heap.size w0 w) (hw0 : w0.heap.size ≤ p) (h : AtR 107 p ok s.1 s.2 w) :
    Calls Tryd.prog 41 #[.agg #[.pointer (some ⟨p, 0, none⟩)]] w fun e w' => opPost w p ok (opR s) e w' := by
  by_cases he : (nS s 7).2.2 = 0
  · obtain ⟨k, hk⟩ : ∃ k, (nS s 7).1 = (k, 0) := ⟨(nS s 7).1.1, by rw [← he, ← nS_err]⟩
    have hv := nS_val s 7 h.2.1 (by omega)
    rw [hk] at hv
    simp only at hv
    have hc : k = 0 ∨ k = 1 ∨ k = 2 ∨ k = 3 ∨ k = 4 ∨ k = 5 ∨ k = 6 ∨ k = 7 := by omega
    rcases hc with rfl | rfl | rfl | rfl | rfl | rfl | rfl | rfl
    · exact op_0 p ok s w h hk
    · exact op_1 w0 hgl p ok s w hok hw hw0 h hk
    · exact op_2 w0 hgl p ok s w hok hw hw0 h hk
    · exact op_3 w0 hgl p ok s w hok hw hw0 h hk
    · exact op_4 w0 hgl p ok s w hok hw hw0 h hk
    · exact op_5 w0 hgl p ok s w hok hw hw0 h hk
    · exact op_6 w0 hgl p ok s w hok hw hw0 h hk
    · exact op_7 w0 hgl p ok s w hok hw hw0 h hk
  · exact op_bad p ok s w h he
end Go.Proofs.YtfpijjjmgggfkaaDoorE

namespace Go.Proofs.YtfpijjjmgggfkaaDoorE
open Go Go.RowKit Go.Proofs.YtfpijjjmgggfkaaDoorW.PrintWords Go.Proofs.YtfpijjjmgggfkaaDoorW.PrintMore Go.Proofs.YtfpijjjmgggfkaaDoorX Go.Proofs.YtfpijjjmgggfkaaDoor.P26 Go.Proofs.YtfpijjjmgggfkaaDoor.L01
set_option linter.unusedVariables false
set_option linter.unusedSimpArgs false
set_option maxRecDepth 100000
theorem catch_stop (g : Nat) (x n : Int) (w : World) (hc : w.cell? ⟨g, 0, none⟩ = some (.int .i64 x)) (hz : w.frozen? ⟨g, 0, none⟩ = false) :
    CallsD Tryd.prog 38 #[.pointer (some ⟨g, 0, none⟩)] (.panicking ({ v := .iface 82 (.int .i64 n), recovered := false } :: [])) w fun e u' w' =>
      e = .returned (.tuple #[]) ∧ u' = .panicking ({ v := .iface 82 (.int .i64 n), recovered := true } :: []) ∧ w' = w.setCell ⟨g, 0, none⟩ (.int .i64 n) := by
  have hta : ∀ (v : Value) (w : World), (Instr.typeAssert (Value.iface 82 v) 20 82 true).run Tryd.prog w = .ok (.tuple #[v, .bool true]) w := fun _ _ => rfl
  refine callsD_of_wpS Tryd.func38 rfl fun c₀ cs hu => ?_
  apply wpS_seq
  apply wpS_region
  simp [wpOpsS, go_sem, recoverD, hu, Tryd.ntmps38, Exit.thenS]
  apply wpS_seq
  apply wpS_region
  simp [wpOpsS, go_sem, Exit.thenS]
  refine wpS_cond (t := true) (by simp [Act.eval, Array.replicate]) ?_
  simp only [if_true]
  apply wpS_seq
  apply wpS_region
  simp [wpOpsS, go_sem, Exit.thenS, hta]
  apply wpS_seq
  apply wpS_seq
  apply wpS_region
  simp [wpOpsS, go_sem, Exit.thenS]
  refine wpS_cond (t := false) (by simp [Act.eval, Array.replicate]) ?_
  simp only [Bool.false_eq_true, if_false]
  refine wpS_of_wp (wp_skip ?_)
  simp only [Exit.thenS]
  apply wpS_region
  simp [wpOpsS, go_sem, Exit.thenS, hc, hz, bodyPostS, results, Tryd.results38]
theorem catch_idle (g : Nat) (w : World) :
    CallsD Tryd.prog 38 #[.pointer (some ⟨g, 0, none⟩)] .returning w fun e u' w' => e = .returned (.tuple #[]) ∧ u' = .returning ∧ w' = w := by
  refine callsD_of_wpS Tryd.func38 rfl fun c₀ cs hu => ?_
  apply wpS_seq
  apply wpS_region
  simp [wpOpsS, go_sem, recoverD, hu, Tryd.ntmps38, Exit.thenS]
  apply wpS_seq
  apply wpS_region
  simp [wpOpsS, go_sem, Exit.thenS]
  refine wpS_cond (t := false) (by simp [Act.eval, Array.replicate]) ?_
  simp only [Bool.false_eq_true, if_false]
  refine wpS_of_wp (wp_skip ?_)
  cases c₀
  simp_all [bodyPostS, results, Tryd.results38]
end Go.Proofs.YtfpijjjmgggfkaaDoorE
