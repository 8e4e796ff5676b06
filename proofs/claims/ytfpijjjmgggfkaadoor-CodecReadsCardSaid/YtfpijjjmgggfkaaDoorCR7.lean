/- The row and the card of CodecReads: whatever the input, the law returns true. -/
import Derived.Test.YtfpijjjmgggfkaaDoorCR6
import Derived.OwnWalk
import Derived.Test.YtfpijjjmgggfkaaDoorRows
import Derived.Test.YtfpijjjmgggfkaaDoorCards
import Derived.Test.YtfpijjjmgggfkaaDoorTie
import Derived.WalkKit
import Derived.ProofKit
import Derived.OpenShut
import Derived.ShutString
import Derived.ChangeOld
import Derived.Below
import Derived.SizedLaws
import Derived.LaidMore
import Derived.Stop.Joined
import Derived.SevenTiedAt
import Derived.MakeChecks
import Derived.Handed
import Derived.Lib.SmallJoins
import Derived.Carry

namespace Go.Proofs.YtfpijjjmgggfkaaDoorE
open Go Go.RowKit Go.Proofs.YtfpijjjmgggfkaaDoorW.PrintWords Go.Proofs.YtfpijjjmgggfkaaDoorW.PrintMore Go.Proofs.YtfpijjjmgggfkaaDoorX Go.Proofs.YtfpijjjmgggfkaaDoor.P26 Go.Proofs.YtfpijjjmgggfkaaDoor.L01
set_option linter.unusedVariables false
set_option linter.unusedSimpArgs false
set_option maxRecDepth 100000
/-- What a script's bytes say: the operations read, and the error that ended it. -/
def readR (bs : List Int) : List S42 × Int :=
  if (nS (bs, 0) 1048576).2.2 ≠ 0 then ([], (nS (bs, 0) 1048576).2.2)
  else if (opsR (nS (bs, 0) 1048576).1.1.toNat (nS (bs, 0) 1048576).2).2.1 ≠ 0 then ((opsR (nS (bs, 0) 1048576).1.1.toNat (nS (bs, 0) 1048576).2).1, (opsR (nS (bs, 0) 1048576).1.1.toNat (nS (bs, 0) 1048576).2).2.1)
  else ((opsR (nS (bs, 0) 1048576).1.1.toNat (nS (bs, 0) 1048576).2).1, endR (opsR (nS (bs, 0) 1048576).1.1.toNat (nS (bs, 0) 1048576).2).2.2.1 (opsR (nS (bs, 0) 1048576).1.1.toNat (nS (bs, 0) 1048576).2).2.2.2)
theorem info_op : (Tryd.prog.info? 42).map (fun i => (i.zero, i.size, i.bytes)) = some (some (.agg #[.int .i64 0, .int .i64 0, .int .i64 0, .int .i64 0, .string ⟨#[]⟩, .string ⟨#[]⟩, .string ⟨#[]⟩, .string ⟨#[]⟩, .slice none 0 0]), k42.sz, 120) := by kernel_rfl
/-- What codec.read tells. -/
def readPost (w : World) (bs : List Int) (e : Ending) (w' : World) : Prop :=
  (∃ v, e = .returned (.tuple #[v, .int .i64 (readR bs).2]) ∧ k42.R 42 w' w.heap.size (fun _ => True) v (readR bs).1) ∧ Below w.heap.size w w'
/-- The door of codec.read, where a reading has been stopped. -/
theorem door_stop {Φ : Ending → World → Prop} {g : Nat} {v0 v1 v v4 v5 v6 v7 v8 v9 v10 v11 v12 v13 v14 v15 v16 v17 v18 v19 v20 v21 v22 v23 : Value} {n : Int} {w4 : World} (hc : w4.heap[g]? = some (.cells #[.int .i64 0] 26 (0, 0)))
    (h : Φ (.returned (.tuple #[v, .int .i64 n])) (w4.setCell ⟨g, 0, none⟩ (.int .i64 n))) :
    bodyPostD Tryd.prog Tryd.f21 Φ (Exit.panic [{ v := .iface 82 (.int .i64 n), recovered := false }]) { tmps := #[v0, v1, v, .pointer (some ⟨g, 0, none⟩), v4, v5, v6, v7, v8, v9, v10, v11, v12, v13, v14, v15, v16, v17, v18, v19, v20, v21, v22, v23], defers := [{ target := Target.fn (Fn.func 38) #[.pointer (some ⟨g, 0, none⟩)], args := #[] }] } w4 := by
  have c0 := cell_blk (j := 0) (v := .int .i64 0) hc rfl
  have hlt := blk_lt' hc
  refine leaves_cons (f := 38) (args := #[.pointer (some ⟨g, 0, none⟩)]) (by simp) (by simp [go_sem]) ?_
  refine (catch_stop g 0 n w4 c0 (Lib.frozen_of_heap hc 0)).mono ?_
  rintro e u' w'' ⟨rfl, rfl, rfl⟩
  have c1 : (w4.setCell ⟨g, 0, none⟩ (.int .i64 n)).cell? ⟨g, 0, none⟩ = some (.int .i64 n) := by rw [Lib.cell_of_heap (set_blk hc _)]; rfl
  simp [Leaves, settle, results, Tryd.results21, go_sem, c1]
  exact h
/-- The door of codec.read behind a return. -/
theorem door_ret {Φ : Ending → World → Prop} {g : Nat} {v0 v1 v v4 v5 v6 v7 v8 v9 v10 v11 v12 v13 v14 v15 v16 v17 v18 v19 v20 v21 v22 v23 : Value} {n : Int} {w4 : World} (hc : w4.heap[g]? = some (.cells #[.int .i64 n] 26 (0, 0)))
    (h : Φ (.returned (.tuple #[v, .int .i64 n])) w4) :
    bodyPostD Tryd.prog Tryd.f21 Φ Exit.ret { tmps := #[v0, v1, v, .pointer (some ⟨g, 0, none⟩), v4, v5, v6, v7, v8, v9, v10, v11, v12, v13, v14, v15, v16, v17, v18, v19, v20, v21, v22, v23], defers := [{ target := Target.fn (Fn.func 38) #[.pointer (some ⟨g, 0, none⟩)], args := #[] }] } w4 := by
  have c0 := cell_blk (j := 0) (v := .int .i64 n) hc rfl
  refine leaves_cons (f := 38) (args := #[.pointer (some ⟨g, 0, none⟩)]) (by simp) (by simp [go_sem]) ?_
  refine (catch_idle g w4).mono ?_
  rintro e u' w'' ⟨rfl, rfl, rfl⟩
  simp [Leaves, settle, results, Tryd.results21, go_sem, c0]
  exact h
theorem readPost_mk {w w' : World} {bs : List Int} {v : Value} {n : Int} (l : List S42) (hR : readR bs = (l, n)) (hrow : k42.R 42 w' w.heap.size (fun _ => True) v l) (hb : Below w.heap.size w w') : readPost w bs (.returned (.tuple #[v, .int .i64 n])) w' := by
  unfold readPost
  rw [hR]
  exact ⟨⟨v, rfl, hrow⟩, hb⟩
theorem below_but {w w3 w4 : World} {p : Nat} (h : Below w.heap.size w w3) (hb : But (· = p) w3 w4) (hp : w.heap.size ≤ p) : Below w.heap.size w w4 :=
  ⟨hb.os.trans h.os, hb.tape.trans h.tape, hb.output.trans h.output, Nat.le_trans h.size hb.size, fun k hk => (hb.block k (Nat.lt_of_lt_of_le hk h.size) (by omega)).trans (h.block k hk)⟩
theorem below_put {w w4 : World} (h : Below w.heap.size w w4) (v : Value) : Below w.heap.size w (w4.setCell ⟨w.heap.size, 0, none⟩ v) := by
  have hB : But (· = w.heap.size) w4 (w4.setCell ⟨w.heap.size, 0, none⟩ v) := But.put (S := (· = w.heap.size)) (But.refl _ w4) (j := 0) rfl v
  exact below_but h hB (Nat.le_refl _)
/-- The numbers of a script: what codec.read makes of it. -/
theorem readR_1 (bs : List Int) (h : (nS (bs, 0) 1048576).2.2 ≠ 0) : readR bs = ([], (nS (bs, 0) 1048576).2.2) := by
  unfold readR
  rw [if_pos h]
theorem readR_2 (bs : List Int) {n : Nat} {s1 : St} (hn : (nS (bs, 0) 1048576).1.1 = (n : Int)) (hs : s1 = (nS (bs, 0) 1048576).2) (h : s1.2 = 0) {l : List S42} {e : Int} {s' : St} (ho : opsR n s1 = (l, e, s')) (he : e ≠ 0) : readR bs = (l, e) := by
  subst hs
  unfold readR
  rw [if_neg (by simp [h]), hn, Int.toNat_natCast, ho, if_pos he]
theorem readR_3 (bs : List Int) {n : Nat} {s1 : St} (hn : (nS (bs, 0) 1048576).1.1 = (n : Int)) (hs : s1 = (nS (bs, 0) 1048576).2) (h : s1.2 = 0) {l : List S42} {s' : St} (ho : opsR n s1 = (l, 0, s')) : readR bs = (l, endR s'.1 s'.2) := by
  subst hs
  unfold readR
  rw [if_neg (by simp [h]), hn, Int.toNat_natCast, ho, if_neg (by simp)]
theorem opsR_stop (d : Nat) (s : St) (h : (opR s).1.2 ≠ 0) : opsR (d + 1) s = ([], (opR s).1.2, (opR s).2) := by
  show (if (opR s).1.2 ≠ 0 then _ else _) = _
  rw [if_pos h]
theorem opsR_go (d : Nat) (s : St) (h : (opR s).1.2 = 0) : opsR (d + 1) s = ((opR s).1.1 :: (opsR d (opR s).2).1, (opsR d (opR s).2).2) := by
  show (if (opR s).1.2 ≠ 0 then _ else _) = _
  rw [if_neg (by simp [h])]
theorem R_since {w w3 : World} {v : Value} {l : List S42} {n : Nat} (hn : n ≤ w3.heap.size) (h : k42.R 42 w w3.heap.size (fun j => w3.heap.size ≤ j) v l) : k42.R 42 w n (fun _ => True) v l := Kd.R_mono (Kd.R_lower h hn) (fun _ _ => trivial)
theorem AtB.grown {T : Nat} {W : World} {p : Nat} {ok : Nat → Prop} {s : St} {w w' : World} (h : AtB T W p ok s w) (hp : p < W.heap.size) (hok : ∀ k, ok k → k < p) {row : Option Nat} (g : w.grownBy w' row) (hr : ∀ k, row = some k → W.heap.size ≤ k) : AtB T W p ok s w' :=
  ⟨h.but.grown g (fun k hk => .inr (hr k hk)), h.at_.but ((But.refl (fun k => row = some k) w).grown g (fun k hk => .inl hk)) (fun k hk => ⟨by have := hr k hk; omega, fun e => by have := hok _ e; have := hr k hk; omega⟩)⟩
/-- What holds behind k operations. -/
def InvR (w3 : World) (p : Nat) (ok : Nat → Prop) (n : Nat) (s1 : St) (k : Nat) (v : Value) (wr : World) : Prop :=
  ∃ (l : List S42) (sk : St), l.length = k ∧ opsR n s1 = (l ++ (opsR (n - k) sk).1, (opsR (n - k) sk).2) ∧ AtB 107 w3 p ok sk wr ∧ k42.R 42 wr w3.heap.size (fun j => w3.heap.size ≤ j) v l
set_option maxHeartbeats 2000000 in
theorem cread_c (A : Option Addr) (c : Nat) (bs : List Int) (w : World) (hgl : GL w) (hC : Kd.C (Kd.int .u8) w A bs.length bs) (hc : bs.length ≤ c) (hB : Bytes bs) (hlen : bs.length ≤ 140737488355328) :
    Calls Tryd.prog 21 #[.slice A bs.length c] w fun e w' => readPost w bs e w' := by
  have hmf : ∀ (fn : Fn) (first cap : Array Value) (w : World), (Instr.makeFunc fn first cap).run Tryd.prog w = .ok (.func fn first cap) w := fun _ _ _ _ => rfl
  have HRD := Aside0.mk (read_c A c bs hB (w.alloc (.cells #[.int .i64 0] 26)) (Kd.C_below hC (below_alloc (Below.refl _ _) _)) hlen)
  have HG := Aside0.mk hgl
  obtain ⟨R, hR⟩ : ∃ R, R = readR bs := ⟨_, rfl⟩
  have HRS := Aside0.mk hR
  have HBY := Aside0.mk hB
  clear hC hB hgl hR
  go_enter_defers Tryd.func21, Tryd.ntmps21
  go_wp2_with (first
    | (go_at_call 39; (refine (HRD.out).mono ?_); rintro e w2 ⟨⟨p, rfl, hp, ha⟩, hb⟩; simp at hp; obtain ⟨ok, hok, ha⟩ : ∃ ok : Nat → Prop, (∀ k, ok k → k < p) ∧ AtR 107 p ok bs 0 w2 := ⟨_, fun k hk => hk.2, ha⟩; have HA := Aside0.mk (AtR.al ha (.cells #[.pointer (some ⟨p, 0, none⟩)] 87)); have hpw := ha.lt; have HB := Aside0.mk (below_then (below_alloc (Below.refl _ w) (.cells #[.int .i64 0] 26)) (by simp) hb); have hg2 := (hb.block w.heap.size (by simp)).trans (one_new_ w (.cells #[.int .i64 0] 26)); have hg3 := ((below_alloc (Below.refl _ w2) (.cells #[.pointer (some ⟨p, 0, none⟩)] 87)).block w.heap.size (blk_lt' hg2)).trans hg2; have hr3 := one_new_ w2 (.cells #[.pointer (some ⟨p, 0, none⟩)] 87); have HG3 := Aside0.mk hg3; have HR3 := Aside0.mk hr3; have q3 := cell_blk (j := 0) (v := .pointer (some ⟨p, 0, none⟩)) hr3 rfl; have hsz2 := HB.out.size; clear ha hb hg2 hg3 hr3)
    | (go_at_call 40; (refine (num_d 1048576 (by omega) p ok (bs, 0) _ HA.out).mono ?_); rintro e w4 ⟨⟨he, rfl, ha⟩ | ⟨he, rfl⟩, hb⟩; rotate_left; go_loud (focus (unfold stopE; go_wp2_with fail; refine door_stop ((hb.block _ (blk_lt' HG3.out) (by omega)).trans HG3.out) (readPost_mk [] (readR_1 bs he) (Kd.R_nil k42 42 _ _ _) (below_put (below_but (below_alloc HB.out _) hb (by omega)) _)))); have HAB := Aside0.mk (AtB.mk (T := 107) hb ha); have HE := Aside0.mk he; clear ha hb he))
  obtain ⟨n, hn⟩ : ∃ n : Nat, (nS (bs, 0) 1048576).1.1 = (n : Int) := ⟨(nS (bs, 0) 1048576).1.1.toNat, by have := (nS_val (bs, 0) 1048576 HBY.out (by omega)).1; omega⟩
  have hn1 : n ≤ 1048576 := by have := (nS_val (bs, 0) 1048576 HBY.out (by omega)).2; omega
  obtain ⟨s1, hs1⟩ : ∃ s1, s1 = (nS (bs, 0) 1048576).2 := ⟨_, rfl⟩
  rw [← hs1] at HAB HE
  have HNN := Aside0.mk hn
  have HS1 := Aside0.mk hs1
  rw [hn]
  clear hs1 hn
  obtain ⟨w3, hw3⟩ : ∃ w3, w3 = w2.alloc (.cells #[.pointer (some ⟨p, 0, none⟩)] 87) := ⟨_, rfl⟩
  have hs3 : w3.heap.size = w2.heap.size + 1 := by rw [hw3]; simp
  rw [← hw3] at HAB HG3 HR3
  have HB3 : Aside0 (Below w.heap.size w w3) := ⟨by rw [hw3]; exact below_alloc HB.out _⟩
  clear hw3 q3
  have HL0 : Aside0 (InvR w3 p ok n s1 0 (.slice none 0 0) w4) := ⟨[], s1, rfl, by simp, HAB.out, Kd.R_nil k42 42 _ _ _⟩
  go_loopw [2, 11] (fun v i wr => ∃ k : Nat, k ≤ n ∧ i = .int .i64 k ∧ Aside0 (InvR w3 p ok n s1 k v wr)) (fun _ i _ => n - (intOf i).toNat)
  case atStart => exact ⟨0, Nat.zero_le _, rfl, HL0⟩
  case round =>
    obtain ⟨k, hkn, rfl, HI⟩ := hrel
    obtain ⟨l, sk, hl, hop, hab, hR⟩ := HI.out
    obtain ⟨A8, c8, rfl⟩ := Kd.R_slice hR
    have hbw := below_but HB3.out hab.but (by omega)
    have hgr := (hab.but.block w.heap.size (blk_lt' HG3.out) (by omega)).trans HG3.out
    have hrr := (hab.but.block w2.heap.size (blk_lt' HR3.out) (by omega)).trans HR3.out
    have qr := cell_blk (j := 0) (v := .pointer (some ⟨p, 0, none⟩)) hrr rfl
    by_cases hlt : k < n
    · obtain ⟨d, hd⟩ : ∃ d, n - k = d + 1 := ⟨n - k - 1, by omega⟩
      rw [hd] at hop
      have HOP := Aside0.mk hop
      have HL := Aside0.mk hl
      have HAB2 := Aside0.mk hab
      have HRW := Aside0.mk hR
      have HBW := Aside0.mk hbw
      have HGR := Aside0.mk hgr
      clear hop hab hR hbw hgr hrr hl
      go_wp2_with (first
        | (go_at_call 41; (refine (op_c w HG.out p ok sk _ hok HBW.out (by omega) HAB2.out.at_).mono ?_); rintro e w5 ⟨hb, ⟨h0, v8, rfl, hr8, ha⟩ | ⟨h0, rfl⟩⟩; rotate_left; go_loud (focus (unfold stopE; go_wp2_with fail; exact door_stop ((hb.block _ (blk_lt' HGR.out) (by omega)).trans HGR.out) (readPost_mk l (readR_2 bs HNN.out HS1.out HE.out (by rw [HOP.out, opsR_stop d sk h0, List.append_nil]) h0) (R_since HB3.out.size (Kd.R_far (Kd.R_step HRW.out (fun j hj hlt => hb.block j hlt (by omega))) (fun j hj => by show j ≠ w.heap.size; omega) _)) (below_put (below_but HBW.out hb (by omega)) _)))); unfold opV; have HB5 := Aside0.mk hb; have HR8 := Aside0.mk (Kd.R_lower (Kd.R_mono (Kd.R_bound hr8) (fun j hj => hj.2.1)) HAB2.out.but.size); have HA5 := Aside0.mk ha; have H0 := Aside0.mk h0; clear hb hr8 ha h0)
        | (at_builtin; refine Kd.R_append (w0 := w5) (W := w5) k42 w3.heap.size rfl (.tmp 13) (.tmp 16) 22 42 (.agg #[.int .i64 0, .int .i64 0, .int .i64 0, .int .i64 0, .string ⟨#[]⟩, .string ⟨#[]⟩, .string ⟨#[]⟩, .string ⟨#[]⟩, .slice none 0 0]) 120 rfl Tryd.underlying22 info_op rfl (by decide) (by decide) (.slice A8 l.length c8) l (opR sk).1.1 [.int .i64 (opR sk).1.1.f0, .int .i64 (opR sk).1.1.f1, .int .i64 (opR sk).1.1.f2, .int .i64 (opR sk).1.1.f3, .string (opR sk).1.1.f4, .string (opR sk).1.1.f5, .string (opR sk).1.1.f6, .string (opR sk).1.1.f7, v8] (fun j => w3.heap.size ≤ j) (fun j => wr.heap.size ≤ j) rfl rfl (k42_mkM w5 w3.heap.size _ (opR sk).1.1 HR8.out) ?hokp ?hfr (Kd.R_step HRW.out (fun j hj hlt => HB5.out.block j hlt (by omega))) (Below.refl _ _) ?hbase ?hlen ?hk; (case hokp => intro j hj; exact ⟨Nat.le_trans HAB2.out.but.size hj, fun e => by have := Kd.R_lt HRW.out j e.symm; omega⟩); (case hfr => intro j hj; have := HAB2.out.but.size; have := HB5.out.size; omega); (case hbase => have := HAB2.out.but.size; have := HB5.out.size; omega); (case hlen => have := HL.out; omega); intro v1 w6 hR1 hb1 hg1 hat1; obtain ⟨A9, c9, rfl⟩ := Kd.R_slice hR1; have HR9 := Aside0.mk hR1; have HAB9 := Aside0.mk (AtB.grown ⟨HAB2.out.but.then_ HB5.out, HA5.out⟩ (by omega) hok hg1 (fun j hj => Kd.R_base HRW.out j hj)); clear hR1 hb1 hg1 hat1))
      go_roundw
      case rel =>
        refine ⟨k + 1, by omega, by go_num, ⟨l ++ [(opR sk).1.1], (opR sk).2, by rw [List.length_append, HL.out]; rfl, ?_, HAB9.out, by have h9 := HR9.out; rw [List.length_append] at h9; exact h9⟩⟩
        rw [HOP.out, opsR_go d sk H0.out, show n - (k + 1) = d by omega, List.append_assoc]
        rfl
      case measure => simp [intOf]; omega
    · obtain rfl : k = n := by omega
      rw [Nat.sub_self] at hop
      have hop' : opsR k s1 = (l, 0, sk) := by rw [hop]; simp [opsR]
      have HOP := Aside0.mk hop'
      have HL := Aside0.mk hl
      have HAB2 := Aside0.mk hab
      have HRW := Aside0.mk hR
      have HBW := Aside0.mk hbw
      have HGR := Aside0.mk hgr
      have g0 := cell_blk (j := 0) (v := .int .i64 0) hgr rfl
      have gz := Lib.frozen_of_heap hgr 0
      clear hop hop' hab hR hbw hgr hrr hl
      go_wp2_with (first
        | (go_at_call 43; (refine (r_end p ok sk.1 sk.2 _ HAB2.out.at_).mono ?_); rintro e w5 ⟨rfl, rfl⟩)
        | (go_at_call 42; (refine (must_d _ _).mono ?_); rintro e w7 ⟨⟨he, rfl⟩ | ⟨he, rfl⟩, rfl⟩; rotate_left; go_loud (focus (unfold stopE; go_wp2_with fail; exact door_stop HGR.out (readPost_mk l (readR_3 bs HNN.out HS1.out HE.out HOP.out) (R_since HB3.out.size (Kd.R_far HRW.out (fun j hj => by show j ≠ w.heap.size; omega) _)) (below_put HBW.out _)))); have HEE := Aside0.mk he; clear he))
      refine door_ret (set_blk HGR.out _) (readPost_mk l (by rw [readR_3 bs HNN.out HS1.out HE.out HOP.out, HEE.out]) (R_since HB3.out.size (Kd.R_far HRW.out (fun j hj => by show j ≠ w.heap.size; omega) _)) (below_put HBW.out _))
end Go.Proofs.YtfpijjjmgggfkaaDoorE

namespace Go.Proofs.YtfpijjjmgggfkaaDoorE
open Go Go.RowKit Go.Proofs.YtfpijjjmgggfkaaDoorW.PrintWords Go.Proofs.YtfpijjjmgggfkaaDoorW.PrintMore Go.Proofs.YtfpijjjmgggfkaaDoorX Go.Proofs.YtfpijjjmgggfkaaDoor.P26 Go.Proofs.YtfpijjjmgggfkaaDoor.L01
set_option linter.unusedVariables false
set_option linter.unusedSimpArgs false
set_option maxRecDepth 100000
/-- What Decode tells: the script, the place, the error. -/
def decS (bs : List Int) : List S42 × Int × Int := if (readR bs).2 ≠ 0 then ([], ((readR bs).1.length : Int), (readR bs).2) else ((readR bs).1, 0, 0)
theorem decS_bad {bs : List Int} (h : (readR bs).2 ≠ 0) : decS bs = ([], ((readR bs).1.length : Int), (readR bs).2) := by
  unfold decS
  rw [if_pos h]
theorem decS_ok {bs : List Int} (h : (readR bs).2 = 0) : decS bs = ((readR bs).1, 0, 0) := by
  unfold decS
  rw [if_neg (by simp [h])]
def decPost (D : List S42 × Int × Int) (w : World) (e : Ending) (w' : World) : Prop :=
  (∃ v, e = .returned (.tuple #[v, .int .i64 D.2.1, .int .i64 D.2.2]) ∧ k42.R 42 w' w.heap.size (fun _ => True) v D.1) ∧ Below w.heap.size w w'
set_option maxHeartbeats 2000000 in
theorem Decode_c (A : Option Addr) (c : Nat) (bs : List Int) (w : World) (hgl : GL w) (hC : Kd.C (Kd.int .u8) w A bs.length bs) (hc : bs.length ≤ c) (hB : Bytes bs) (hlen : bs.length ≤ 140737488355328) :
    Calls Tryd.prog 11 #[.slice A bs.length c] w fun e w' => decPost (decS bs) w e w' := by
  have HR := Aside0.mk (cread_c A c bs w hgl hC hc hB hlen)
  clear hC hB hgl hc hlen
  by_cases he : (readR bs).2 = 0
  · rw [decS_ok he]
    have HE := Aside0.mk he
    clear he
    go_enter Tryd.func11, Tryd.ntmps11
    go_wp2_with (go_at_call 21; (refine (HR.out).mono ?_); rintro e w1 ⟨⟨v, rfl, hv⟩, hb⟩; have HV := Aside0.mk hv; have HB := Aside0.mk hb; rw [HE.out]; obtain ⟨A1, c1, rfl⟩ := Kd.R_slice hv; clear hv hb)
    go_ret3
    exact ⟨⟨_, rfl, HV.out⟩, HB.out⟩
  · rw [decS_bad he]
    obtain ⟨R, hR⟩ : ∃ R, R = readR bs := ⟨_, rfl⟩
    have HR2 : Aside0 (Calls Tryd.prog 21 #[.slice A bs.length c] w fun e w' => (∃ v, e = .returned (.tuple #[v, .int .i64 R.2]) ∧ k42.R 42 w' w.heap.size (fun _ => True) v R.1) ∧ Below w.heap.size w w') := ⟨by rw [hR]; exact HR.out⟩
    rw [← hR] at he ⊢
    clear HR hR
    have h1 : (R.2 == 0) = false := by simpa using he
    have h2 : (R.2 != 0) = true := by simpa using he
    go_enter Tryd.func11, Tryd.ntmps11
    go_wp2_with (go_at_call 21; (refine (HR2.out).mono ?_); rintro e w1 ⟨⟨v, rfl, hv⟩, hb⟩; have HB := Aside0.mk hb; obtain ⟨A1, c1, rfl⟩ := Kd.R_slice hv; clear hv hb)
    go_ret3
    exact ⟨⟨_, rfl, Kd.R_nil k42 42 _ _ _⟩, HB.out⟩
end Go.Proofs.YtfpijjjmgggfkaaDoorE

namespace Go.Proofs.YtfpijjjmgggfkaaDoorE
open Go Go.RowKit Go.Proofs.YtfpijjjmgggfkaaDoorW.PrintWords Go.Proofs.YtfpijjjmgggfkaaDoorW.PrintMore Go.Proofs.YtfpijjjmgggfkaaDoorX Go.Proofs.YtfpijjjmgggfkaaDoor.P26 Go.Proofs.YtfpijjjmgggfkaaDoor.L01
set_option linter.unusedVariables false
set_option linter.unusedSimpArgs false
set_option maxRecDepth 100000
/-- What holds behind k operations. -/
def InvRx (w3 : World) (p : Nat) (ok : Nat → Prop) (n : Nat) (s1 : St) (k : Nat) (v : Value) (wr : World) : Prop :=
  ∃ (l : List S42) (sk : St), l.length = k ∧ opsR n s1 = (l ++ (opsR (n - k) sk).1, (opsR (n - k) sk).2) ∧ AtB 61 w3 p ok sk wr ∧ k42.R 42 wr w3.heap.size (fun j => w3.heap.size ≤ j) v l
theorem decS_1 (bs : List Int) (h : (nS (bs, 0) 1048576).2.2 ≠ 0) : decS bs = ([], 0, (nS (bs, 0) 1048576).2.2) := by
  rw [decS_bad (by rw [readR_1 bs h]; exact h), readR_1 bs h]
  rfl
theorem xrefR_c (A : Option Addr) (c : Nat) (bs : List Int) (w : World) (hC : Kd.C (Kd.int .u8) w A bs.length bs) (hc : bs.length ≤ c) (hB : Bytes bs) : AtR 61 w.heap.size (fun k => k < w.heap.size) bs 0 (w.alloc (.cells #[.slice A bs.length c, .int .i64 0] 61)) :=
  ⟨by omega, hB, A, c, one_new_ w _, hc, Kd.F_below (Kd.C_F (Kd.heap_int .u8) hC) (below_alloc (Below.refl _ _) _)⟩
set_option maxHeartbeats 2000000 in
theorem rDecode_bad (A : Option Addr) (c : Nat) (bs : List Int) (w : World) (hC : Kd.C (Kd.int .u8) w A bs.length bs) (hc : bs.length ≤ c) (hB : Bytes bs) (hn : (nS (bs, 0) 1048576).2.2 ≠ 0) :
    Calls Tryd.prog 14 #[.slice A bs.length c] w fun e w' => decPost (decS bs) w e w' := by
  have HA := Aside0.mk (xrefR_c A c bs w hC hc hB)
  have HN : Aside0 (Calls Tryd.prog 25 #[.pointer (some ⟨w.heap.size, 0, none⟩), .int .u64 1048576] (w.alloc (.cells #[.slice A bs.length c, .int .i64 0] 61)) fun e w' => e = .returned (.tuple #[.int .u64 0, .int .i64 (nS (bs, 0) 1048576).2.2]) ∧ But (· = w.heap.size) (w.alloc (.cells #[.slice A bs.length c, .int .i64 0] 61)) w') := ⟨(x_num w.heap.size _ bs 0 1048576 _ HA.out).mono (by
    rintro e w' ⟨he, ha, hb⟩
    refine ⟨he.trans ?_, hb⟩
    show Ending.returned (.tuple #[.int .u64 (nS (bs, 0) 1048576).1.1, .int .i64 (nS (bs, 0) 1048576).1.2]) = _
    rw [nS_zero (bs, 0) _ hn, nS_err])⟩
  rw [decS_1 bs hn]
  obtain ⟨E, hE⟩ : ∃ E, E = (nS (bs, 0) 1048576).2.2 := ⟨_, rfl⟩
  rw [← hE] at hn HN ⊢
  have h1 : (E == 0) = false := by simpa using hn
  have h2 : (E != 0) = true := by simpa using hn
  clear hC hB hE HA
  go_enter Tryd.func14, Tryd.ntmps14
  go_wp2_with (first
    | (go_at_call 25; (with_reducible refine (HN.out).mono ?_); rintro e w4 ⟨rfl, hb⟩; have HB := Aside0.mk hb; clear hb))
  go_ret3
  exact ⟨⟨_, rfl, Kd.R_nil k42 42 _ _ _⟩, below_but (below_alloc (Below.refl _ w) _) HB.out (Nat.le_refl _)⟩
set_option maxHeartbeats 4000000 in
theorem rDecode_c (A : Option Addr) (c : Nat) (bs : List Int) (w : World) (hgl : GL w) (hC : Kd.C (Kd.int .u8) w A bs.length bs) (hc : bs.length ≤ c) (hB : Bytes bs) :
    Calls Tryd.prog 14 #[.slice A bs.length c] w fun e w' => decPost (decS bs) w e w' := by
  by_cases hn0 : (nS (bs, 0) 1048576).2.2 ≠ 0
  · exact rDecode_bad A c bs w hC hc hB hn0
  have he0 : (nS (bs, 0) 1048576).2.2 = 0 := by simpa using hn0
  clear hn0
  have HA := Aside0.mk (xrefR_c A c bs w hC hc hB)
  obtain ⟨n, hn⟩ : ∃ n : Nat, (nS (bs, 0) 1048576).1.1 = (n : Int) := ⟨(nS (bs, 0) 1048576).1.1.toNat, by have := (nS_val (bs, 0) 1048576 hB (by omega)).1; omega⟩
  have hn1 : n ≤ 1048576 := by have := (nS_val (bs, 0) 1048576 hB (by omega)).2; omega
  obtain ⟨s1, hs1⟩ : ∃ s1, s1 = (nS (bs, 0) 1048576).2 := ⟨_, rfl⟩
  obtain ⟨w3, hw3⟩ : ∃ w3, w3 = w.alloc (.cells #[.slice A bs.length c, .int .i64 0] 61) := ⟨_, rfl⟩
  obtain ⟨ok, hok, ha0⟩ : ∃ ok : Nat → Prop, (∀ k, ok k → k < w.heap.size) ∧ AtR 61 w.heap.size ok bs 0 w3 := ⟨_, fun k hk => hk, by rw [hw3]; exact HA.out⟩
  have HN : Aside0 (Calls Tryd.prog 25 #[.pointer (some ⟨w.heap.size, 0, none⟩), .int .u64 1048576] (w.alloc (.cells #[.slice A bs.length c, .int .i64 0] 61)) fun e w' => e = .returned (.tuple #[.int .u64 n, .int .i64 0]) ∧ AtB 61 w3 w.heap.size ok s1 w') := ⟨by
    rw [← hw3]
    refine (x_num w.heap.size ok bs 0 1048576 w3 ha0).mono ?_
    rintro e w' ⟨he, ha, hb⟩
    refine ⟨he.trans ?_, hb, by rw [hs1]; exact ha⟩
    show Ending.returned (.tuple #[.int .u64 (nS (bs, 0) 1048576).1.1, .int .i64 (nS (bs, 0) 1048576).1.2]) = _
    rw [hn, nS_err, he0]⟩
  have hs3 : w3.heap.size = w.heap.size + 1 := by rw [hw3]; simp
  have HB3 : Aside0 (Below w.heap.size w w3) := ⟨by rw [hw3]; exact below_alloc (Below.refl _ _) _⟩
  have HG := Aside0.mk hgl
  have HNN := Aside0.mk hn
  have HS1 := Aside0.mk hs1
  have HE : Aside0 (s1.2 = 0) := ⟨by rw [hs1]; exact he0⟩
  have hwn : wrap64 (n : Int) = (n : Int) := wrap_i64_32 ⟨by omega, by omega⟩
  have HWN := Aside0.mk hwn
  clear hC hB hgl hn hs1 he0 hw3 ha0 HA hwn
  go_enter Tryd.func14, Tryd.ntmps14
  go_wp2_with (first
    | (go_at_call 25; (with_reducible refine (HN.out).mono ?_); rintro e w4 ⟨rfl, hab⟩; have HAB := Aside0.mk hab; clear hab))
  (try rw [HWN.out])
  have HL0 : Aside0 (InvRx w3 w.heap.size ok n s1 0 (.slice none 0 0) w4) := ⟨[], s1, rfl, by simp, HAB.out, Kd.R_nil k42 42 _ _ _⟩
  go_loopw [8, 25] (fun v i wr => ∃ k : Nat, k ≤ n ∧ i = .int .i64 k ∧ Aside0 (InvRx w3 w.heap.size ok n s1 k v wr)) (fun _ i _ => n - (intOf i).toNat)
  case atStart => exact ⟨0, Nat.zero_le _, rfl, HL0⟩
  case round =>
    obtain ⟨k, hkn, rfl, HI⟩ := hrel
    obtain ⟨l, sk, hl, hop, hab, hR⟩ := HI.out
    obtain ⟨A8, c8, rfl⟩ := Kd.R_slice hR
    have hbw := below_but HB3.out hab.but (Nat.le_refl _)
    have HL := Aside0.mk hl
    have HAB2 := Aside0.mk hab
    have HRW := Aside0.mk hR
    have HBW := Aside0.mk hbw
    by_cases hlt : k < n
    · obtain ⟨d, hd⟩ : ∃ d, n - k = d + 1 := ⟨n - k - 1, by omega⟩
      rw [hd] at hop
      have HOP := Aside0.mk hop
      clear hop hab hR hbw hl
      by_cases h0 : (opR sk).1.2 = 0
      · have H0 := Aside0.mk h0
        clear h0
        go_wp2_with (first
          | (go_at_call 26; (with_reducible refine (xop_c w HG.out w.heap.size ok sk _ hok HBW.out (Nat.le_refl _) HAB2.out.at_).mono ?_); rintro e w5 ⟨hb, v8, rfl, hr8, ha⟩; obtain ⟨A7, c7, rfl⟩ := Kd.R_slice hr8; unfold opV; rw [H0.out]; have HX := one_new_ w5 (.cells #[.int .i64 (opR sk).1.1.f0, .int .i64 (opR sk).1.1.f1, .int .i64 (opR sk).1.1.f2, .int .i64 (opR sk).1.1.f3, .string (opR sk).1.1.f4, .string (opR sk).1.1.f5, .string (opR sk).1.1.f6, .string (opR sk).1.1.f7, (.slice A7 (opR sk).1.1.f8.length c7)] 42); have x0 := cell_blk (j := 0) (v := .int .i64 (opR sk).1.1.f0) HX rfl; have x1 := cell_blk (j := 1) (v := .int .i64 (opR sk).1.1.f1) HX rfl; have x2 := cell_blk (j := 2) (v := .int .i64 (opR sk).1.1.f2) HX rfl; have x3 := cell_blk (j := 3) (v := .int .i64 (opR sk).1.1.f3) HX rfl; have x4 := cell_blk (j := 4) (v := .string (opR sk).1.1.f4) HX rfl; have x5 := cell_blk (j := 5) (v := .string (opR sk).1.1.f5) HX rfl; have x6 := cell_blk (j := 6) (v := .string (opR sk).1.1.f6) HX rfl; have x7 := cell_blk (j := 7) (v := .string (opR sk).1.1.f7) HX rfl; have x8 := cell_blk (j := 8) (v := .slice A7 (opR sk).1.1.f8.length c7) HX rfl; have HB5 := Aside0.mk hb; have HR8 := Aside0.mk (Kd.R_lower (Kd.R_mono (Kd.R_bound hr8) (fun j hj => hj.2.1)) HAB2.out.but.size); have HA5 := Aside0.mk ha; clear hb hr8 ha HX)
          | (at_builtin; refine Kd.R_append (w0 := w5.alloc (.cells #[.int .i64 (opR sk).1.1.f0, .int .i64 (opR sk).1.1.f1, .int .i64 (opR sk).1.1.f2, .int .i64 (opR sk).1.1.f3, .string (opR sk).1.1.f4, .string (opR sk).1.1.f5, .string (opR sk).1.1.f6, .string (opR sk).1.1.f7, (.slice A7 (opR sk).1.1.f8.length c7)] 42)) (W := w5.alloc (.cells #[.int .i64 (opR sk).1.1.f0, .int .i64 (opR sk).1.1.f1, .int .i64 (opR sk).1.1.f2, .int .i64 (opR sk).1.1.f3, .string (opR sk).1.1.f4, .string (opR sk).1.1.f5, .string (opR sk).1.1.f6, .string (opR sk).1.1.f7, (.slice A7 (opR sk).1.1.f8.length c7)] 42)) k42 w3.heap.size rfl (.tmp 37) (.tmp 39) 22 42 (.agg #[.int .i64 0, .int .i64 0, .int .i64 0, .int .i64 0, .string ⟨#[]⟩, .string ⟨#[]⟩, .string ⟨#[]⟩, .string ⟨#[]⟩, .slice none 0 0]) 120 rfl Tryd.underlying22 info_op rfl (by decide) (by decide) (.slice A8 l.length c8) l (opR sk).1.1 [.int .i64 (opR sk).1.1.f0, .int .i64 (opR sk).1.1.f1, .int .i64 (opR sk).1.1.f2, .int .i64 (opR sk).1.1.f3, .string (opR sk).1.1.f4, .string (opR sk).1.1.f5, .string (opR sk).1.1.f6, .string (opR sk).1.1.f7, .slice A7 (opR sk).1.1.f8.length c7] (fun j => w3.heap.size ≤ j) (fun j => wr.heap.size ≤ j) rfl (by simp [Act.eval]) (k42_mkM _ w3.heap.size _ (opR sk).1.1 (Kd.R_alloc HR8.out _)) ?hokp ?hfr (Kd.R_alloc (Kd.R_step HRW.out (fun j hj hlt => HB5.out.block j hlt (by omega))) _) (Below.refl _ _) ?hbase ?hlen ?hk; (case hokp => intro j hj; exact ⟨Nat.le_trans HAB2.out.but.size hj, fun e => by have := Kd.R_lt HRW.out j e.symm; omega⟩); (case hfr => have := HAB2.out.but.size; have := HB5.out.size; intro j hj; simp at hj; omega); (case hbase => have := HAB2.out.but.size; have := HB5.out.size; simp; omega); (case hlen => have := HL.out; omega); intro v1 w6 hR1 hb1 hg1 hat1; obtain ⟨A9, c9, rfl⟩ := Kd.R_slice hR1; have HR9 := Aside0.mk hR1; have HAB9 := Aside0.mk (AtB.grown ⟨(HAB2.out.but.then_ HB5.out).alloc _, HA5.out.al _⟩ (by omega) hok hg1 (fun j hj => Kd.R_base HRW.out j hj)); clear hR1 hb1 hg1 hat1))
        go_roundw
        case rel =>
          refine ⟨k + 1, by omega, by go_num, ⟨l ++ [(opR sk).1.1], (opR sk).2, by rw [List.length_append, HL.out]; rfl, ?_, HAB9.out, by have h9 := HR9.out; rw [List.length_append] at h9; exact h9⟩⟩
          rw [HOP.out, opsR_go d sk H0.out, show n - (k + 1) = d by omega, List.append_assoc]
          rfl
        case measure => simp [intOf]; omega
      · have h1 : ((opR sk).1.2 == 0) = false := by simpa using h0
        have h2 : ((opR sk).1.2 != 0) = true := by simpa using h0
        go_wp2_with (first
          | (go_at_call 26; (with_reducible refine (xop_c w HG.out w.heap.size ok sk _ hok HBW.out (Nat.le_refl _) HAB2.out.at_).mono ?_); rintro e w5 ⟨hb, v8, rfl, hr8, ha⟩; obtain ⟨A7, c7, rfl⟩ := Kd.R_slice hr8; unfold opV; have HB5 := Aside0.mk hb; clear hb hr8 ha))
        (try simp only [Exit.inBlock, Exit.then])
        go_ret3
        have hr := readR_2 bs HNN.out HS1.out HE.out (l := l) (e := (opR sk).1.2) (s' := (opR sk).2) (by rw [HOP.out, opsR_stop d sk h0, List.append_nil]) h0
        rw [decS_bad (by rw [hr]; exact h0), hr]
        refine ⟨⟨_, ?_, Kd.R_nil k42 42 _ _ _⟩, below_alloc (below_but HBW.out HB5.out (Nat.le_refl _)) _⟩
        show _ = Ending.returned (.tuple #[_, .int .i64 (l.length : Int), _])
        rw [HL.out]
        rfl
    · obtain rfl : k = n := by omega
      rw [Nat.sub_self] at hop
      have hop' : opsR k s1 = (l, 0, sk) := by rw [hop]; simp [opsR]
      have hr := readR_3 bs HNN.out HS1.out HE.out hop'
      have HRD := Aside0.mk hr
      have HEN : Aside0 (∀ W, AtR 61 w.heap.size ok sk.1 sk.2 W → Calls Tryd.prog 27 #[.pointer (some ⟨w.heap.size, 0, none⟩)] W fun e w' => e = .returned (.int .i64 (endR sk.1 sk.2)) ∧ w' = W) := ⟨fun W hW => x_end w.heap.size ok sk.1 sk.2 W hW⟩
      obtain ⟨E, hE⟩ : ∃ E, E = endR sk.1 sk.2 := ⟨_, rfl⟩
      rw [← hE] at HRD HEN
      clear hop hop' hab hR hbw hl hr hE
      by_cases hz : E = 0
      · rw [hz] at HRD HEN
        clear hz
        go_wp2_with (go_at_call 27; (with_reducible refine (HEN.out _ HAB2.out.at_).mono ?_); rintro e w5 ⟨rfl, rfl⟩)
        go_ret3
        rw [decS_ok (by rw [HRD.out]), HRD.out]
        exact ⟨⟨_, rfl, R_since HB3.out.size HRW.out⟩, HBW.out⟩
      · have h1 : (E == 0) = false := by simpa using hz
        have h2 : (E != 0) = true := by simpa using hz
        go_wp2_with (go_at_call 27; (with_reducible refine (HEN.out _ HAB2.out.at_).mono ?_); rintro e w5 ⟨rfl, rfl⟩)
        go_ret3
        rw [decS_bad (by rw [HRD.out]; exact hz), HRD.out]
        refine ⟨⟨_, ?_, Kd.R_nil k42 42 _ _ _⟩, HBW.out⟩
        show _ = Ending.returned (.tuple #[_, .int .i64 (l.length : Int), _])
        rw [HL.out]
        rfl
end Go.Proofs.YtfpijjjmgggfkaaDoorE

namespace Go.Proofs.YtfpijjjmgggfkaaDoorE
open Go Go.RowKit Go.Proofs.YtfpijjjmgggfkaaDoorW.PrintWords Go.Proofs.YtfpijjjmgggfkaaDoorW.PrintMore Go.Proofs.YtfpijjjmgggfkaaDoorX Go.Proofs.YtfpijjjmgggfkaaDoor.P26 Go.Proofs.YtfpijjjmgggfkaaDoor.L01
set_option linter.unusedVariables false
set_option linter.unusedSimpArgs false
theorem nS_put (n : Nat) (m : Int) (hn : (n : Int) ≤ m) (hm : m ≤ 4294967295) (rest : List Int) : nS (enc n ++ rest, 0) m = (((n : Int), 0), (rest, 0)) := by
  unfold nS numR
  simp only
  rw [if_neg (by simp), takeS_put (by omega) rest, if_neg (by simp), if_neg (by simp; omega)]
  simp
theorem hS_put (n : Nat) (hn : n ≤ 4294967295) (rest : List Int) : hS (enc n ++ rest, 0) = (((n : Int), 0), (rest, 0)) := nS_put n 4294967295 (by omega) (by omega) rest
theorem tS_put (s : ByteArray) (hs : s.size ≤ 65536) (rest : List Int) : tS (encT s ++ rest, 0) = ((s, 0), (rest, 0)) := by
  have h1 : encT s ++ rest = enc s.size ++ (bytesI s ++ rest) := by simp [encT]
  have hl := bytesI_len s
  unfold tS textR
  simp only
  rw [h1, if_neg (by simp), takeS_put (by omega) _, if_neg (by simp), if_neg (by simp; omega), if_neg (by simp [hl]; omega)]
  simp only [Int.toNat_natCast]
  have h2 : ((enc s.size ++ (bytesI s ++ rest)).take ((enc s.size).length + s.size)).drop (enc s.size).length = bytesI s := by
    rw [List.drop_take, List.drop_left, show (enc s.size).length + s.size - (enc s.size).length = s.size by omega, ← hl, List.take_left]
  have h3 : (enc s.size ++ (bytesI s ++ rest)).drop ((enc s.size).length + s.size) = rest := by
    rw [← List.drop_drop, List.drop_left, ← hl, List.drop_left]
  rw [h2, h3, str_bytesI]
theorem attrsR_put : ∀ (l : List S44) (h : ∀ a ∈ l, a.f0.size ≤ 65536 ∧ a.f1.size ≤ 65536) (rest : List Int), attrsR l.length (attrB l ++ rest, 0) = (l, (rest, 0)) := by
  intro l
  induction l with
  | nil => intro _ rest; rfl
  | cons a t ih =>
    intro h rest
    have ha := h a (List.mem_cons_self ..)
    have e1 : attrB (a :: t) ++ rest = encT a.f0 ++ (encT a.f1 ++ (attrB t ++ rest)) := by simp [attrB, encTs]
    rw [e1]
    show (_ :: _, _) = _
    simp only [tS_put _ ha.1, tS_put _ ha.2, ih (fun x hx => h x (List.mem_cons_of_mem _ hx)) rest]
end Go.Proofs.YtfpijjjmgggfkaaDoorE

namespace Go.Proofs.YtfpijjjmgggfkaaDoorE
open Go Go.RowKit Go.Proofs.YtfpijjjmgggfkaaDoorW.PrintWords Go.Proofs.YtfpijjjmgggfkaaDoorW.PrintMore Go.Proofs.YtfpijjjmgggfkaaDoorX Go.Proofs.YtfpijjjmgggfkaaDoor.P26 Go.Proofs.YtfpijjjmgggfkaaDoor.L01
set_option linter.unusedVariables false
set_option linter.unusedSimpArgs false
theorem em_of (s : ByteArray) (h : s.size = 0) : s = em := by
  have h1 : s.data = #[] := by
    have : s.data.size = 0 := h
    exact Array.eq_empty_of_size_eq_zero this
  cases s
  simp only at h1
  rw [h1]
/-- What an operation that may be does not have. -/
theorem chk_none (x : S42) (h : chk x = 0) : noneO x = false := by
  unfold chk checkO at h
  by_cases h1 : x.f0 < 1 ∨ x.f0 > 7
  · rw [if_pos h1] at h; simp at h
  rw [if_neg h1] at h
  by_cases h2 : overO x.f1 = true ∨ overO x.f2 = true ∨ overO x.f3 = true
  · rw [if_pos h2] at h; simp at h
  rw [if_neg h2] at h
  by_cases h3 : noneO x = true
  · rw [if_pos h3] at h; simp at h
  simpa using h3
theorem oneB_body (x : S42) : oneB x = enc x.f0.toNat ++ (if x.f0 = 1 then encT x.f4 ++ (encT x.f5 ++ (encT x.f7 ++ (enc x.f8.length ++ attrB x.f8)))
  else if x.f0 = 2 then enc x.f1.toNat ++ (enc x.f2.toNat ++ enc x.f3.toNat)
  else if x.f0 = 3 then enc x.f1.toNat ++ enc x.f3.toNat
  else if x.f0 = 4 then enc x.f1.toNat
  else if x.f0 = 5 then enc x.f1.toNat ++ (encT x.f6 ++ encT x.f7)
  else if x.f0 = 6 then enc x.f1.toNat ++ encT x.f6
  else enc x.f1.toNat ++ encT x.f7) := by
  unfold oneB
  repeat' split
  all_goals simp [Go.Proofs.YtfpijjjmgggfkaaDoor.L01.encs, encTs]
theorem opR_put (x : S42) (hc : chk x = 0) (rest : List Int) : opR (oneB x ++ rest, 0) = ((x, 0), (rest, 0)) := by
  have hn := chk_none x hc
  obtain ⟨hk, h1, h2, h3, h4, h5, h6, h7, h8, h9⟩ := chk_okW x hc
  have e0 : x.f0 = ((x.f0.toNat : Nat) : Int) := by omega
  have e1 : x.f1 = ((x.f1.toNat : Nat) : Int) := by have := h1.1; omega
  have e2 : x.f2 = ((x.f2.toNat : Nat) : Int) := by have := h2.1; omega
  have e3 : x.f3 = ((x.f3.toNat : Nat) : Int) := by have := h3.1; omega
  have g1 : x.f1.toNat ≤ 4294967295 := by have := h1.2; omega
  have g2 : x.f2.toNat ≤ 4294967295 := by have := h2.2; omega
  have g3 : x.f3.toNat ≤ 4294967295 := by have := h3.2; omega
  have hat : ∀ a ∈ x.f8, a.f0.size ≤ 65536 ∧ a.f1.size ≤ 65536 := by
    intro a ha
    obtain ⟨i, hi, rfl⟩ := List.getElem_of_mem ha
    have := h9 i hi
    unfold rd_T44 at this
    rwa [Int.toNat_natCast, List.getD_eq_getElem?_getD, List.getElem?_eq_getElem hi] at this
  have hbody : bodyR x.f0 ((oneB x).drop (enc x.f0.toNat).length ++ rest, 0) = (x, (rest, 0)) := by
    rw [oneB_body, List.drop_left]
    unfold noneO at hn
    simp only [Bool.or_eq_false_iff, Bool.and_eq_false_iff, decide_eq_false_iff_not, ne_eq, Classical.not_not] at hn
    obtain ⟨f0, f1, f2, f3, f4, f5, f6, f7, f8⟩ := x
    simp only at *
    have hcs : f0 = 1 ∨ f0 = 2 ∨ f0 = 3 ∨ f0 = 4 ∨ f0 = 5 ∨ f0 = 6 ∨ f0 = 7 := by omega
    rcases hcs with rfl | rfl | rfl | rfl | rfl | rfl | rfl
    · have hz : f1 = 0 ∧ f2 = 0 ∧ f3 = 0 ∧ f6.size = 0 := by simp at hn; simp [hn]
      obtain ⟨z1, z2, z3, z6⟩ := hz
      have z6 := em_of f6 z6
      subst z1 z2 z3 z6
      simp only [bodyR, Int.reduceEq, if_false, if_true, List.append_assoc, tS_put _ h4, tS_put _ h5, tS_put _ h7, nS_put _ 64 (by omega : (f8.length : Int) ≤ 64) (by omega), attrsR_put f8 hat rest, Int.toNat_natCast]
    · have hz : f4.size = 0 ∧ f5.size = 0 ∧ f6.size = 0 ∧ f7.size = 0 ∧ f8 = [] := by simp at hn; simp [hn]
      obtain ⟨z4, z5, z6, z7, z8⟩ := hz
      have z4 := em_of f4 z4
      have z5 := em_of f5 z5
      have z6 := em_of f6 z6
      have z7 := em_of f7 z7
      subst z4 z5 z6 z7 z8
      simp only [bodyR, Int.reduceEq, if_false, if_true, List.append_assoc, hS_put _ g1, hS_put _ g2, hS_put _ g3, ← e1, ← e2, ← e3]
    · have hz : f2 = 0 ∧ f4.size = 0 ∧ f5.size = 0 ∧ f6.size = 0 ∧ f7.size = 0 ∧ f8 = [] := by simp at hn; simp [hn]
      obtain ⟨z2, z4, z5, z6, z7, z8⟩ := hz
      have z4 := em_of f4 z4
      have z5 := em_of f5 z5
      have z6 := em_of f6 z6
      have z7 := em_of f7 z7
      subst z2 z4 z5 z6 z7 z8
      simp only [bodyR, Int.reduceEq, if_false, if_true, List.append_assoc, hS_put _ g1, hS_put _ g3, ← e1, ← e3]
    · have hz : f2 = 0 ∧ f3 = 0 ∧ f4.size = 0 ∧ f5.size = 0 ∧ f6.size = 0 ∧ f7.size = 0 ∧ f8 = [] := by simp at hn; simp [hn]
      obtain ⟨z2, z3, z4, z5, z6, z7, z8⟩ := hz
      have z4 := em_of f4 z4
      have z5 := em_of f5 z5
      have z6 := em_of f6 z6
      have z7 := em_of f7 z7
      subst z2 z3 z4 z5 z6 z7 z8
      simp only [bodyR, Int.reduceEq, if_false, if_true, List.append_assoc, hS_put _ g1, ← e1]
    · have hz : f2 = 0 ∧ f3 = 0 ∧ f4.size = 0 ∧ f5.size = 0 ∧ f8 = [] := by simp at hn; simp [hn]
      obtain ⟨z2, z3, z4, z5, z8⟩ := hz
      have z4 := em_of f4 z4
      have z5 := em_of f5 z5
      subst z2 z3 z4 z5 z8
      simp only [bodyR, Int.reduceEq, if_false, if_true, List.append_assoc, hS_put _ g1, tS_put _ h6, tS_put _ h7, ← e1]
    · have hz : f2 = 0 ∧ f3 = 0 ∧ f4.size = 0 ∧ f5.size = 0 ∧ f7.size = 0 ∧ f8 = [] := by simp at hn; simp [hn]
      obtain ⟨z2, z3, z4, z5, z7, z8⟩ := hz
      have z4 := em_of f4 z4
      have z5 := em_of f5 z5
      have z7 := em_of f7 z7
      subst z2 z3 z4 z5 z7 z8
      simp only [bodyR, Int.reduceEq, if_false, if_true, List.append_assoc, hS_put _ g1, tS_put _ h6, ← e1]
    · have hz : f2 = 0 ∧ f3 = 0 ∧ f4.size = 0 ∧ f5.size = 0 ∧ f6.size = 0 ∧ f8 = [] := by simp at hn; simp [hn]
      obtain ⟨z2, z3, z4, z5, z6, z8⟩ := hz
      have z4 := em_of f4 z4
      have z5 := em_of f5 z5
      have z6 := em_of f6 z6
      subst z2 z3 z4 z5 z6 z8
      simp only [bodyR, Int.reduceEq, if_false, if_true, List.append_assoc, hS_put _ g1, tS_put _ h7, ← e1]
  have hnum : nS (oneB x ++ rest, 0) 7 = ((x.f0, 0), ((oneB x).drop (enc x.f0.toNat).length ++ rest, 0)) := by
    have e : oneB x = enc x.f0.toNat ++ (oneB x).drop (enc x.f0.toNat).length := by
      rw [oneB_body, List.drop_left]
    rw [e, List.append_assoc, nS_put _ 7 (by omega) (by omega), List.drop_left, ← e0]
  unfold opR
  rw [hnum]
  simp only
  rw [if_neg (by simp), if_neg (by omega), hbody]
  simp [hc]
theorem opsR_put : ∀ (l : List S42) (h : ∀ x ∈ l, chk x = 0) (rest : List Int), opsR l.length (opsB l ++ rest, 0) = (l, 0, (rest, 0)) := by
  intro l
  induction l with
  | nil => intro _ rest; rfl
  | cons a t ih =>
    intro h rest
    have e1 : opsB (a :: t) ++ rest = oneB a ++ (opsB t ++ rest) := by simp [opsB]
    have e2 := opR_put a (h a (List.mem_cons_self ..)) (opsB t ++ rest)
    rw [e1, List.length_cons, opsR_go _ _ (by rw [e2]), e2, ih (fun x hx => h x (List.mem_cons_of_mem _ hx)) rest]
theorem readR_put (l : List S42) (hn : l.length ≤ 1048576) (h : ∀ x ∈ l, chk x = 0) (rest : List Int) : readR (encB l ++ rest) = (l, if rest = [] then 0 else 2) := by
  have e1 : encB l ++ rest = enc l.length ++ (opsB l ++ rest) := by
    unfold encB
    rw [encs_one, Int.toNat_natCast, List.append_assoc]
  have e2 := nS_put l.length 1048576 (by omega) (by omega) (opsB l ++ rest)
  rw [e1]
  rw [readR_3 (enc l.length ++ (opsB l ++ rest)) (n := l.length) (s1 := (opsB l ++ rest, 0)) (by rw [e2]) (by rw [e2]) rfl (opsR_put l h rest)]
  unfold endR
  simp
end Go.Proofs.YtfpijjjmgggfkaaDoorE

namespace Go.Proofs.YtfpijjjmgggfkaaDoor.P26
open Go.RowKit Go.Proofs.YtfpijjjmgggfkaaDoorE Go.Proofs.YtfpijjjmgggfkaaDoorW.PrintWords Go.Proofs.YtfpijjjmgggfkaaDoorW.PrintLast Go.Proofs.YtfpijjjmgggfkaaDoorW.PrintMore
attribute [local go_sem] max2_int min2_int max_two min_two max_three min_three max_four min_four   -- for this text's walks alone
set_option linter.unusedVariables false
set_option linter.unusedSimpArgs false

def tendrilplain_Ops.l0 : Nat → List (S42) → List (S42) → Int → Int → Option (Bool)
  | 0, _, _, _, _ => none
  | k + 1, x0, x1, x12, x13 => if x13 < x12 then (if 0 ≤ x13 then (if x13 < (x0.length : Int) then (if x13 < (x1.length : Int) then ((tendrilplain_Op.f k ((rd_T42 x0 x13).f0) ((rd_T42 x0 x13).f1) ((rd_T42 x0 x13).f2) ((rd_T42 x0 x13).f3) ((rd_T42 x0 x13).f4) ((rd_T42 x0 x13).f5) ((rd_T42 x0 x13).f6) ((rd_T42 x0 x13).f7) ((rd_T42 x0 x13).f8) ((rd_T42 x1 x13).f0) ((rd_T42 x1 x13).f1) ((rd_T42 x1 x13).f2) ((rd_T42 x1 x13).f3) ((rd_T42 x1 x13).f4) ((rd_T42 x1 x13).f5) ((rd_T42 x1 x13).f6) ((rd_T42 x1 x13).f7) ((rd_T42 x1 x13).f8)).bind fun t142 => (if t142 = true then (tendrilplain_Ops.l0 k x0 x1 x12 (wrap64 (x13 + 1))) else (some false))) else (none)) else (none)) else (none)) else (some true)
def tendrilplain_Ops.f (k : Nat) (l0 : List (S42)) (l1 : List (S42)) : Option (Bool) := if (l0.length : Int) = (l1.length : Int) then (tendrilplain_Ops.l0 k l0 l1 (l0.length : Int) 0) else (some false)
theorem tendrilplain_Ops.mono_l : ∀ k, (∀ y0 y1 y2 y3, LeO (tendrilplain_Ops.l0 k y0 y1 y2 y3) (tendrilplain_Ops.l0 (k + 1) y0 y1 y2 y3))
  | 0 => fun _ _ _ _ r h => by simp [tendrilplain_Ops.l0] at h
  | k + 1 => by
    have ih0 := tendrilplain_Ops.mono_l k
    · intro y0 y1 y2 y3
      unfold tendrilplain_Ops.l0
      repeat' first
      | (with_reducible exact ih0 _ _ _ _)
      | (with_reducible exact tendrilplain_Op.mono _ _ _ _ _ _ _ _ _ _ _ _ _ _ _ _ _ _ _)
      | (with_reducible exact LeO.refl _)
      | (with_reducible exact LeO.none _)
      | (with_reducible refine LeO.ite ?_ ?_)
      | (with_reducible refine LeO.bind ?_ (fun _ => ?_))
      | exact ih0 _ _ _ _
      | exact tendrilplain_Op.mono _ _ _ _ _ _ _ _ _ _ _ _ _ _ _ _ _ _ _
      | exact LeO.none _
      | refine LeO.ite ?_ ?_
      | refine LeO.bind ?_ (fun _ => ?_)
theorem tendrilplain_Ops.mono : ∀ a0 a1 k, LeO (tendrilplain_Ops.f k a0 a1) (tendrilplain_Ops.f (k + 1) a0 a1) := by
  intro a0 a1 k
  have ih0 := tendrilplain_Ops.mono_l k
  unfold tendrilplain_Ops.f
  repeat' first
      | (with_reducible exact ih0 _ _ _ _)
      | (with_reducible exact tendrilplain_Op.mono _ _ _ _ _ _ _ _ _ _ _ _ _ _ _ _ _ _ _)
      | (with_reducible exact LeO.refl _)
      | (with_reducible exact LeO.none _)
      | (with_reducible refine LeO.ite ?_ ?_)
      | (with_reducible refine LeO.bind ?_ (fun _ => ?_))
      | exact ih0 _ _ _ _
      | exact tendrilplain_Op.mono _ _ _ _ _ _ _ _ _ _ _ _ _ _ _ _ _ _ _
      | exact LeO.none _
      | refine LeO.ite ?_ ?_
      | refine LeO.bind ?_ (fun _ => ?_)
def tendrilplain_Ops.T6 : Bool × List (List Nat × List Nat) := (true, [([], []), ([], []), ([0, 1], [0, 1]), ([2], [2]), ([], []), ([], []), ([4, 5], [4, 5]), ([6], [6]), ([3, 7], [3, 7]), ([8], [8])])
def tendrilplain_Ops.B6 : List Nat := [0, 0, 3, 7, 0, 0, 48, 112, 255, 511]
theorem tendrilplain_Ops.tab6 : rtab .any (opsOf Tryd.f13 6) = tendrilplain_Ops.T6 := by kernel_rfl
theorem tendrilplain_Ops.bits6 : waitsOk tendrilplain_Ops.T6.2 tendrilplain_Ops.B6 = true := by kernel_rfl
set_option maxHeartbeats 8000000 in
set_option maxRecDepth 100000 in
theorem tendrilplain_Ops.calls (k : Nat) (A0 : Option Addr) (c0 : Nat) (l0 : List (S42)) (A1 : Option Addr) (c1 : Nat) (l1 : List (S42)) (r : Bool) (w : World) (hgl : Go.Proofs.YtfpijjjmgggfkaaDoorX.GL w) (hr0 : Kd.C k42 w A0 l0.length l0) (hc0 : l0.length ≤ c0) (hr1 : Kd.C k42 w A1 l1.length l1) (hc1 : l1.length ≤ c1) (h : tendrilplain_Ops.f k l0 l1 = some r) :
    Calls Tryd.prog 13 #[.slice A0 l0.length c0, .slice A1 l1.length c1] w fun e w' => e = .returned (.bool r) ∧ Below w.heap.size w w' := by
  have hu42 := Tryd.underlying42
  have HR0 := Aside0.mk hr0
  have HC0 := Aside0.mk hc0
  clear hr0 hc0
  have HR1 := Aside0.mk hr1
  have HC1 := Aside0.mk hc1
  clear hr1 hc1
  have HGL := Aside0.mk hgl
  clear hgl
  have HB := Aside0.mk (Below.refl w.heap.size w)
  have H : (if (l0.length : Int) = (l1.length : Int) then (tendrilplain_Ops.l0 k l0 l1 (l0.length : Int) 0) else (some false)) = some r := h
  clear h
  by_cases c3 : (l0.length : Int) = (l1.length : Int)
  · rw [if_pos c3] at H
    have c3b0 : ((l0.length : Int) == (l1.length : Int)) = true := beq_iff_eq.mpr c3
    have c3b1 : ((l0.length : Int) != (l1.length : Int)) = false := bne_eq_false_iff_eq.mpr c3
    have c3b2 : (l0.length == l1.length) = true := by first | simpa using c3 | (simp at c3 ⊢; omega)
    clear c3
    have H' := Aside0.mk H
    clear H
    go_enter Tryd.func13, Tryd.ntmps13
    go_wp2
    go_loopg [13] k (fun kq v13 w' => ∃ (x13_1 : Int), v13 = .int .i64 x13_1 ∧ Aside0 (tendrilplain_Ops.l0 kq l0 l1 (l0.length : Int) x13_1 = some r) ∧ Aside0 (kq ≤ k) ∧ Aside0 (Below w.heap.size w w'))
    case atStart => exact ⟨(0), (by first | rfl | (simp; done) | (simp [*]; done)), H', ⟨Nat.le_refl _⟩, ⟨by repeat (first | (with_reducible first | exact HB.out | apply below_alloc | apply pw_below_drewN | apply below_drew1) | exact HB.out)⟩⟩
    case round =>
      clear H'
      try clear c1
      try clear p2
      try clear c3
      try clear c3b0
      try clear c3b1
      try clear c3b2
      obtain ⟨x13_1, rfl, HA, HK1, HB⟩ := hrel
      cases gk with
      | zero => exact absurd HA.out (by simp [tendrilplain_Ops.l0])
      | succ k1 =>
        have H := HA.out
        clear HA
        simp only [tendrilplain_Ops.l0] at H
        by_cases c4 : x13_1 < (l0.length : Int)
        · rw [if_pos c4] at H
          have c4b0 : decide (x13_1 < (l0.length : Int)) = true := decide_eq_true c4
          clear c4
          by_cases c5 : 0 ≤ x13_1
          · rw [if_pos c5] at H
            have c5b0 : decide (0 ≤ x13_1) = true := decide_eq_true c5
            clear c5
            by_cases c6 : x13_1 < (l0.length : Int)
            · rw [if_pos c6] at H
              have c6b0 : decide (x13_1 < (l0.length : Int)) = true := decide_eq_true c6
              clear c6
              by_cases c7 : x13_1 < (l1.length : Int)
              · rw [if_pos c7] at H
                have c7b0 : decide (x13_1 < (l1.length : Int)) = true := decide_eq_true c7
                clear c7
                replace H := Option.bind_eq_some_iff.mp H
                obtain ⟨t142, A80, H⟩ := H
                replace H : (if t142 = true then (tendrilplain_Ops.l0 k1 l0 l1 (l0.length : Int) (wrap64 (x13_1 + 1))) else (some false)) = some r := H
                have A8 := Aside0.mk A80
                clear A80
                by_cases c9 : t142 = true
                · subst c9
                  have H1 : (tendrilplain_Ops.l0 k1 l0 l1 (l0.length : Int) (wrap64 (x13_1 + 1))) = some r := by rw [if_pos rfl] at H; exact H
                  clear H
                  have H := H1
                  clear H1
                  have H' := Aside0.mk H
                  clear H
                  try go_wp2
                  have n0_ := Aside0.mk (below_drew1 HB.out)
                  clear HB
                  have HB := n0_
                  clear n0_
                  have p140 : 0 ≤ (x13_1 : Int) := of_decide_eq_true (by first | (with_reducible assumption) | assumption)
                  have q140 : x13_1 < (l0.length : Int) := of_decide_eq_true (by first | (with_reducible assumption) | assumption)
                  obtain ⟨ad140, A140_8, c140_8, e140, hx140_0, hx140_1, hx140_2, hx140_3, hx140_4, hx140_5, hx140_6, hx140_7, hx140_8, hl140_8, hi140_8⟩ := at_T42 HR0.out x13_1 p140 q140
                  have hw140_8 := hx140_8
                  have hw140_7 := hx140_7
                  have hw140_6 := hx140_6
                  have hw140_5 := hx140_5
                  have hw140_4 := hx140_4
                  have hw140_3 := hx140_3
                  have hw140_2 := hx140_2
                  have hw140_1 := hx140_1
                  have hw140_0 := hx140_0
                  cases e140
                  replace hx140_0 := (HB.out.cell (World.block_lt_of_cell? w _ hx140_0)).trans hx140_0
                  replace hx140_1 := (HB.out.cell (World.block_lt_of_cell? w _ hx140_1)).trans hx140_1
                  replace hx140_2 := (HB.out.cell (World.block_lt_of_cell? w _ hx140_2)).trans hx140_2
                  replace hx140_3 := (HB.out.cell (World.block_lt_of_cell? w _ hx140_3)).trans hx140_3
                  replace hx140_4 := (HB.out.cell (World.block_lt_of_cell? w _ hx140_4)).trans hx140_4
                  replace hx140_5 := (HB.out.cell (World.block_lt_of_cell? w _ hx140_5)).trans hx140_5
                  replace hx140_6 := (HB.out.cell (World.block_lt_of_cell? w _ hx140_6)).trans hx140_6
                  replace hx140_7 := (HB.out.cell (World.block_lt_of_cell? w _ hx140_7)).trans hx140_7
                  replace hx140_8 := (HB.out.cell (World.block_lt_of_cell? w _ hx140_8)).trans hx140_8
                  have HR140_8 := Aside0.mk hi140_8
                  have HC140_8 := Aside0.mk hl140_8
                  clear hi140_8 hl140_8
                  replace p140 := eq_true p140
                  replace q140 := eq_true q140
                  have p141 : 0 ≤ (x13_1 : Int) := of_decide_eq_true (by first | (with_reducible assumption) | assumption)
                  have q141 : x13_1 < (l1.length : Int) := of_decide_eq_true (by first | (with_reducible assumption) | assumption)
                  obtain ⟨ad141, A141_8, c141_8, e141, hx141_0, hx141_1, hx141_2, hx141_3, hx141_4, hx141_5, hx141_6, hx141_7, hx141_8, hl141_8, hi141_8⟩ := at_T42 HR1.out x13_1 p141 q141
                  have hw141_8 := hx141_8
                  have hw141_7 := hx141_7
                  have hw141_6 := hx141_6
                  have hw141_5 := hx141_5
                  have hw141_4 := hx141_4
                  have hw141_3 := hx141_3
                  have hw141_2 := hx141_2
                  have hw141_1 := hx141_1
                  have hw141_0 := hx141_0
                  cases e141
                  replace hx141_0 := (HB.out.cell (World.block_lt_of_cell? w _ hx141_0)).trans hx141_0
                  replace hx141_1 := (HB.out.cell (World.block_lt_of_cell? w _ hx141_1)).trans hx141_1
                  replace hx141_2 := (HB.out.cell (World.block_lt_of_cell? w _ hx141_2)).trans hx141_2
                  replace hx141_3 := (HB.out.cell (World.block_lt_of_cell? w _ hx141_3)).trans hx141_3
                  replace hx141_4 := (HB.out.cell (World.block_lt_of_cell? w _ hx141_4)).trans hx141_4
                  replace hx141_5 := (HB.out.cell (World.block_lt_of_cell? w _ hx141_5)).trans hx141_5
                  replace hx141_6 := (HB.out.cell (World.block_lt_of_cell? w _ hx141_6)).trans hx141_6
                  replace hx141_7 := (HB.out.cell (World.block_lt_of_cell? w _ hx141_7)).trans hx141_7
                  replace hx141_8 := (HB.out.cell (World.block_lt_of_cell? w _ hx141_8)).trans hx141_8
                  have HR141_8 := Aside0.mk hi141_8
                  have HC141_8 := Aside0.mk hl141_8
                  clear hi141_8 hl141_8
                  replace p141 := eq_true p141
                  replace q141 := eq_true q141
                  refine start_ (n := 10) (S := fun w' => w'.cell? (ad140.add ((x13_1).toNat * 9)) = some (.int .i64 ((rd_T42 l0 x13_1).f0)) ∧ w'.cell? ⟨(ad140.add ((x13_1).toNat * 9)).block, (ad140.add ((x13_1).toNat * 9)).off + 1, none⟩ = some (.int .i64 ((rd_T42 l0 x13_1).f1)) ∧ w'.cell? ⟨(ad140.add ((x13_1).toNat * 9)).block, (ad140.add ((x13_1).toNat * 9)).off + 2, none⟩ = some (.int .i64 ((rd_T42 l0 x13_1).f2)) ∧ w'.cell? ⟨(ad140.add ((x13_1).toNat * 9)).block, (ad140.add ((x13_1).toNat * 9)).off + 3, none⟩ = some (.int .i64 ((rd_T42 l0 x13_1).f3)) ∧ w'.cell? ⟨(ad140.add ((x13_1).toNat * 9)).block, (ad140.add ((x13_1).toNat * 9)).off + 4, none⟩ = some (.string ((rd_T42 l0 x13_1).f4)) ∧ w'.cell? ⟨(ad140.add ((x13_1).toNat * 9)).block, (ad140.add ((x13_1).toNat * 9)).off + 5, none⟩ = some (.string ((rd_T42 l0 x13_1).f5)) ∧ w'.cell? ⟨(ad140.add ((x13_1).toNat * 9)).block, (ad140.add ((x13_1).toNat * 9)).off + 6, none⟩ = some (.string ((rd_T42 l0 x13_1).f6)) ∧ w'.cell? ⟨(ad140.add ((x13_1).toNat * 9)).block, (ad140.add ((x13_1).toNat * 9)).off + 7, none⟩ = some (.string ((rd_T42 l0 x13_1).f7)) ∧ w'.cell? ⟨(ad140.add ((x13_1).toNat * 9)).block, (ad140.add ((x13_1).toNat * 9)).off + 8, none⟩ = some (.slice A140_8 ((rd_T42 l0 x13_1).f8).length c140_8) ∧ w'.cell? (ad141.add ((x13_1).toNat * 9)) = some (.int .i64 ((rd_T42 l1 x13_1).f0)) ∧ w'.cell? ⟨(ad141.add ((x13_1).toNat * 9)).block, (ad141.add ((x13_1).toNat * 9)).off + 1, none⟩ = some (.int .i64 ((rd_T42 l1 x13_1).f1)) ∧ w'.cell? ⟨(ad141.add ((x13_1).toNat * 9)).block, (ad141.add ((x13_1).toNat * 9)).off + 2, none⟩ = some (.int .i64 ((rd_T42 l1 x13_1).f2)) ∧ w'.cell? ⟨(ad141.add ((x13_1).toNat * 9)).block, (ad141.add ((x13_1).toNat * 9)).off + 3, none⟩ = some (.int .i64 ((rd_T42 l1 x13_1).f3)) ∧ w'.cell? ⟨(ad141.add ((x13_1).toNat * 9)).block, (ad141.add ((x13_1).toNat * 9)).off + 4, none⟩ = some (.string ((rd_T42 l1 x13_1).f4)) ∧ w'.cell? ⟨(ad141.add ((x13_1).toNat * 9)).block, (ad141.add ((x13_1).toNat * 9)).off + 5, none⟩ = some (.string ((rd_T42 l1 x13_1).f5)) ∧ w'.cell? ⟨(ad141.add ((x13_1).toNat * 9)).block, (ad141.add ((x13_1).toNat * 9)).off + 6, none⟩ = some (.string ((rd_T42 l1 x13_1).f6)) ∧ w'.cell? ⟨(ad141.add ((x13_1).toNat * 9)).block, (ad141.add ((x13_1).toNat * 9)).off + 7, none⟩ = some (.string ((rd_T42 l1 x13_1).f7)) ∧ w'.cell? ⟨(ad141.add ((x13_1).toNat * 9)).block, (ad141.add ((x13_1).toNat * 9)).off + 8, none⟩ = some (.slice A141_8 ((rd_T42 l1 x13_1).f8).length c141_8)) (ds := []) #[false, false, false, false, false, false, false, false, false, false] (by kernel_rfl) rfl rfl ⟨((HB.out.cell (World.block_lt_of_cell? w _ hw140_0)).trans hw140_0), ((HB.out.cell (World.block_lt_of_cell? w _ hw140_1)).trans hw140_1), ((HB.out.cell (World.block_lt_of_cell? w _ hw140_2)).trans hw140_2), ((HB.out.cell (World.block_lt_of_cell? w _ hw140_3)).trans hw140_3), ((HB.out.cell (World.block_lt_of_cell? w _ hw140_4)).trans hw140_4), ((HB.out.cell (World.block_lt_of_cell? w _ hw140_5)).trans hw140_5), ((HB.out.cell (World.block_lt_of_cell? w _ hw140_6)).trans hw140_6), ((HB.out.cell (World.block_lt_of_cell? w _ hw140_7)).trans hw140_7), ((HB.out.cell (World.block_lt_of_cell? w _ hw140_8)).trans hw140_8), ((HB.out.cell (World.block_lt_of_cell? w _ hw141_0)).trans hw141_0), ((HB.out.cell (World.block_lt_of_cell? w _ hw141_1)).trans hw141_1), ((HB.out.cell (World.block_lt_of_cell? w _ hw141_2)).trans hw141_2), ((HB.out.cell (World.block_lt_of_cell? w _ hw141_3)).trans hw141_3), ((HB.out.cell (World.block_lt_of_cell? w _ hw141_4)).trans hw141_4), ((HB.out.cell (World.block_lt_of_cell? w _ hw141_5)).trans hw141_5), ((HB.out.cell (World.block_lt_of_cell? w _ hw141_6)).trans hw141_6), ((HB.out.cell (World.block_lt_of_cell? w _ hw141_7)).trans hw141_7), ((HB.out.cell (World.block_lt_of_cell? w _ hw141_8)).trans hw141_8)⟩ (fun hHeld => ?_); refine with_tabW tendrilplain_Ops.tab6 tendrilplain_Ops.bits6 (fun HT_ HW_ => ?_)
                  generalize wr.drew = w10 at HB HR140_8 HR141_8 hx140_0 hx140_1 hx140_2 hx140_3 hx140_4 hx140_5 hx140_6 hx140_7 hx140_8 hx141_0 hx141_1 hx141_2 hx141_3 hx141_4 hx141_5 hx141_6 hx141_7 hx141_8 hHeld ⊢
                  refine pure_ (i := 0) (N := some 16) (v := ?_) (a' := ?_) #[true, false, false, false, false, false, false, false, false, false] rfl rfl (any_of HT_.out (by kernel_rfl)) (fun _ _ _ h => h) (Or.inl ⟨by rfl, ?_⟩) ?_ ?_
                  rotate_left
                  · intro w'
                    go_simp
                    with_reducible rfl
                  rotate_left
                  · simp only [Act.put, List.setIfInBounds_toArray, List.set_cons_zero, List.set_cons_succ, i64_w, i32_w]
                    rfl
                  refine pure_ (i := 1) (N := some 17) (v := ?_) (a' := ?_) #[true, true, false, false, false, false, false, false, false, false] rfl rfl (any_of HT_.out (by kernel_rfl)) (fun _ _ _ h => h) (Or.inl ⟨by rfl, ?_⟩) ?_ ?_
                  rotate_left
                  · intro w'
                    go_simp
                    with_reducible rfl
                  rotate_left
                  · simp only [Act.put, List.setIfInBounds_toArray, List.set_cons_zero, List.set_cons_succ, i64_w, i32_w]
                    rfl
                  refine pure_ (i := 2) (N := some 18) (v := ?_) (a' := ?_) #[true, true, true, false, false, false, false, false, false, false] rfl rfl (any_of HT_.out (by kernel_rfl)) (fun _ _ _ h => h) (Or.inl ⟨by rfl, ?_⟩) ?_ ?_
                  rotate_left
                  · intro w'
                    go_simp
                    with_reducible rfl
                  rotate_left
                  · simp only [Act.put, List.setIfInBounds_toArray, List.set_cons_zero, List.set_cons_succ, i64_w, i32_w]
                    rfl
                  refine pure_ (i := 4) (N := some 20) (v := ?_) (a' := ?_) #[true, true, true, false, true, false, false, false, false, false] rfl rfl (any_of HT_.out (by kernel_rfl)) (fun _ _ _ h => h) (Or.inl ⟨by rfl, ?_⟩) ?_ ?_
                  rotate_left
                  · intro w'
                    go_simp
                    with_reducible rfl
                  rotate_left
                  · simp only [Act.put, List.setIfInBounds_toArray, List.set_cons_zero, List.set_cons_succ, i64_w, i32_w]
                    rfl
                  refine pure_ (i := 5) (N := some 21) (v := ?_) (a' := ?_) #[true, true, true, false, true, true, false, false, false, false] rfl rfl (any_of HT_.out (by kernel_rfl)) (fun _ _ _ h => h) (Or.inl ⟨by rfl, ?_⟩) ?_ ?_
                  rotate_left
                  · intro w'
                    go_simp
                    with_reducible rfl
                  rotate_left
                  · simp only [Act.put, List.setIfInBounds_toArray, List.set_cons_zero, List.set_cons_succ, i64_w, i32_w]
                    rfl
                  refine pure_ (i := 6) (N := some 22) (v := ?_) (a' := ?_) #[true, true, true, false, true, true, true, false, false, false] rfl rfl (any_of HT_.out (by kernel_rfl)) (fun _ _ _ h => h) (Or.inl ⟨by rfl, ?_⟩) ?_ ?_
                  rotate_left
                  · intro w'
                    go_simp
                    with_reducible rfl
                  rotate_left
                  · simp only [Act.put, List.setIfInBounds_toArray, List.set_cons_zero, List.set_cons_succ, i64_w, i32_w]
                    rfl
                  refine take_ (i := 3) (N := some 19) (v := ?_) (a' := ?_) #[true, true, true, true, true, true, true, false, false, false] rfl rfl (take_ofW HT_.out HW_.out (by kernel_rfl)) (fun _ _ _ h => h) (Or.inl ⟨by rfl, ?_⟩) hHeld ?_ ?_
                  rotate_left
                  · rintro w' ⟨s0, s1, s2, s3, s4, s5, s6, s7, s8, s9, s10, s11, s12, s13, s14, s15, s16, s17⟩
                    go_simp
                    with_reducible rfl
                  rotate_left
                  · simp only [Act.put, List.setIfInBounds_toArray, List.set_cons_zero, List.set_cons_succ, i64_w, i32_w]
                    rfl
                  refine take_ (i := 7) (N := some 23) (v := ?_) (a' := ?_) #[true, true, true, true, true, true, true, true, false, false] rfl rfl (take_ofW HT_.out HW_.out (by kernel_rfl)) (fun _ _ _ h => h) (Or.inl ⟨by rfl, ?_⟩) hHeld ?_ ?_
                  rotate_left
                  · rintro w' ⟨s0, s1, s2, s3, s4, s5, s6, s7, s8, s9, s10, s11, s12, s13, s14, s15, s16, s17⟩
                    go_simp
                    with_reducible rfl
                  rotate_left
                  · simp only [Act.put, List.setIfInBounds_toArray, List.set_cons_zero, List.set_cons_succ, i64_w, i32_w]
                    rfl
                  refine one_ (i := 8) (N := some 24) #[true, true, true, true, true, true, true, true, true, false] rfl rfl (one_of HT_.out (by kernel_rfl)) (by decide) (fun K hK => ?_)
                  refine goes_ Tryd.func24 (by kernel_rfl) rfl #[.agg #[.int .i64 ((rd_T42 l0 x13_1).f0), .int .i64 ((rd_T42 l0 x13_1).f1), .int .i64 ((rd_T42 l0 x13_1).f2), .int .i64 ((rd_T42 l0 x13_1).f3), .string ((rd_T42 l0 x13_1).f4), .string ((rd_T42 l0 x13_1).f5), .string ((rd_T42 l0 x13_1).f6), .string ((rd_T42 l0 x13_1).f7), .slice A140_8 ((rd_T42 l0 x13_1).f8).length c140_8], .agg #[.int .i64 ((rd_T42 l1 x13_1).f0), .int .i64 ((rd_T42 l1 x13_1).f1), .int .i64 ((rd_T42 l1 x13_1).f2), .int .i64 ((rd_T42 l1 x13_1).f3), .string ((rd_T42 l1 x13_1).f4), .string ((rd_T42 l1 x13_1).f5), .string ((rd_T42 l1 x13_1).f6), .string ((rd_T42 l1 x13_1).f7), .slice A141_8 ((rd_T42 l1 x13_1).f8).length c141_8]] (by rfl) rfl rfl (by (try simp only [List.map_toArray, List.map_cons, List.map_nil]); first | done | rfl | (simp only [List.length_drop, List.length_take]; rfl)) ?_
                  with_reducible refine (tendrilplain_Op.calls k1 ((rd_T42 l0 x13_1).f0) ((rd_T42 l0 x13_1).f1) ((rd_T42 l0 x13_1).f2) ((rd_T42 l0 x13_1).f3) ((rd_T42 l0 x13_1).f4) ((rd_T42 l0 x13_1).f5) ((rd_T42 l0 x13_1).f6) ((rd_T42 l0 x13_1).f7) _ _ ((rd_T42 l0 x13_1).f8) ((rd_T42 l1 x13_1).f0) ((rd_T42 l1 x13_1).f1) ((rd_T42 l1 x13_1).f2) ((rd_T42 l1 x13_1).f3) ((rd_T42 l1 x13_1).f4) ((rd_T42 l1 x13_1).f5) ((rd_T42 l1 x13_1).f6) ((rd_T42 l1 x13_1).f7) _ _ ((rd_T42 l1 x13_1).f8) true _ ?side1 ?side2 ?side3 ?side4 ?side5 A8.out).mono ?_
                  (case side1 => first | exact HGL.out | exact (Go.Proofs.YtfpijjjmgggfkaaDoorX.GL.below HGL.out (by repeat (first | (with_reducible first | exact HB.out | apply below_alloc | apply pw_below_drewN | apply below_drew1) | exact HB.out))) | (repeat (first | exact HGL.out | (with_reducible refine Go.Proofs.YtfpijjjmgggfkaaDoorX.GL.drewN ?_ _) | (with_reducible refine Go.Proofs.YtfpijjjmgggfkaaDoorX.GL.drew ?_))))
                  (case side2 => repeat (first | exact (Kd.C_below HR140_8.out HB.out) | (with_reducible refine Kd.C_alloc ?_ _) | (with_reducible refine Kd.C_drewN ?_ _) | (with_reducible refine Kd.C_drew ?_)))
                  (case side3 => exact HC140_8.out)
                  (case side4 => repeat (first | exact (Kd.C_below HR141_8.out HB.out) | (with_reducible refine Kd.C_alloc ?_ _) | (with_reducible refine Kd.C_drewN ?_ _) | (with_reducible refine Kd.C_drew ?_)))
                  (case side5 => exact HC141_8.out)
                  rintro e w11 ⟨rfl, hb⟩
                  refine ⟨_, rfl, ?_⟩
                  have n0_ := Aside0.mk (below_step (by repeat (first | (with_reducible first | exact HB.out | apply below_alloc | apply pw_below_drewN | apply below_drew1) | exact HB.out)) hb)
                  clear HB
                  have HB := n0_
                  clear n0_
                  (try clear hb)
                  (try clear hb2)
                  (try clear hk)
                  (try clear hi)
                  refine hK.out _ _ ⟨((HB.out.cell (World.block_lt_of_cell? w _ hw140_0)).trans hw140_0), ((HB.out.cell (World.block_lt_of_cell? w _ hw140_1)).trans hw140_1), ((HB.out.cell (World.block_lt_of_cell? w _ hw140_2)).trans hw140_2), ((HB.out.cell (World.block_lt_of_cell? w _ hw140_3)).trans hw140_3), ((HB.out.cell (World.block_lt_of_cell? w _ hw140_4)).trans hw140_4), ((HB.out.cell (World.block_lt_of_cell? w _ hw140_5)).trans hw140_5), ((HB.out.cell (World.block_lt_of_cell? w _ hw140_6)).trans hw140_6), ((HB.out.cell (World.block_lt_of_cell? w _ hw140_7)).trans hw140_7), ((HB.out.cell (World.block_lt_of_cell? w _ hw140_8)).trans hw140_8), ((HB.out.cell (World.block_lt_of_cell? w _ hw141_0)).trans hw141_0), ((HB.out.cell (World.block_lt_of_cell? w _ hw141_1)).trans hw141_1), ((HB.out.cell (World.block_lt_of_cell? w _ hw141_2)).trans hw141_2), ((HB.out.cell (World.block_lt_of_cell? w _ hw141_3)).trans hw141_3), ((HB.out.cell (World.block_lt_of_cell? w _ hw141_4)).trans hw141_4), ((HB.out.cell (World.block_lt_of_cell? w _ hw141_5)).trans hw141_5), ((HB.out.cell (World.block_lt_of_cell? w _ hw141_6)).trans hw141_6), ((HB.out.cell (World.block_lt_of_cell? w _ hw141_7)).trans hw141_7), ((HB.out.cell (World.block_lt_of_cell? w _ hw141_8)).trans hw141_8)⟩ (fun hHeld => ?_)
                  clear hK K
                  refine norm_ (a' := ?_) ?_ ?_
                  rotate_left
                  · show Act.put _ (some 24) _ = _
                    simp only [Act.put, List.setIfInBounds_toArray, List.set_cons_zero, List.set_cons_succ, i64_w, i32_w]
                    rfl
                  refine pure_ (i := 9) (N := some 25) (v := ?_) (a' := ?_) #[true, true, true, true, true, true, true, true, true, true] rfl rfl (any_of HT_.out (by kernel_rfl)) (fun _ _ _ h => h) (Or.inl ⟨by rfl, ?_⟩) ?_ ?_
                  rotate_left
                  · intro w'
                    go_simp
                    with_reducible rfl
                  rotate_left
                  · simp only [Act.put, List.setIfInBounds_toArray, List.set_cons_zero, List.set_cons_succ, i64_w, i32_w]
                    rfl
                  refine done_ (done_of HT_.out (by kernel_rfl)) ?_
                  try go_wp2
                  go_roundg k1
                  case measure => have := HK1.out; omega
                  case rel => exact ⟨(wrap64 (x13_1 + 1)), (by first | rfl | (simp; done) | (simp [*]; done)), H', ⟨by have := HK1.out; omega⟩, ⟨by repeat (first | (with_reducible first | exact HB.out | apply below_alloc | apply pw_below_drewN | apply below_drew1) | exact HB.out)⟩⟩
                · replace c9 := Bool.eq_false_iff.mpr c9
                  subst c9
                  have H1 : (some false) = some r := by rw [if_neg (show ¬ (false = true) by decide)] at H; exact H
                  clear H
                  have H := H1
                  clear H1
                  obtain rfl := Option.some.inj H
                  try go_wp2
                  have n0_ := Aside0.mk (below_drew1 HB.out)
                  clear HB
                  have HB := n0_
                  clear n0_
                  have p140 : 0 ≤ (x13_1 : Int) := of_decide_eq_true (by first | (with_reducible assumption) | assumption)
                  have q140 : x13_1 < (l0.length : Int) := of_decide_eq_true (by first | (with_reducible assumption) | assumption)
                  obtain ⟨ad140, A140_8, c140_8, e140, hx140_0, hx140_1, hx140_2, hx140_3, hx140_4, hx140_5, hx140_6, hx140_7, hx140_8, hl140_8, hi140_8⟩ := at_T42 HR0.out x13_1 p140 q140
                  have hw140_8 := hx140_8
                  have hw140_7 := hx140_7
                  have hw140_6 := hx140_6
                  have hw140_5 := hx140_5
                  have hw140_4 := hx140_4
                  have hw140_3 := hx140_3
                  have hw140_2 := hx140_2
                  have hw140_1 := hx140_1
                  have hw140_0 := hx140_0
                  cases e140
                  replace hx140_0 := (HB.out.cell (World.block_lt_of_cell? w _ hx140_0)).trans hx140_0
                  replace hx140_1 := (HB.out.cell (World.block_lt_of_cell? w _ hx140_1)).trans hx140_1
                  replace hx140_2 := (HB.out.cell (World.block_lt_of_cell? w _ hx140_2)).trans hx140_2
                  replace hx140_3 := (HB.out.cell (World.block_lt_of_cell? w _ hx140_3)).trans hx140_3
                  replace hx140_4 := (HB.out.cell (World.block_lt_of_cell? w _ hx140_4)).trans hx140_4
                  replace hx140_5 := (HB.out.cell (World.block_lt_of_cell? w _ hx140_5)).trans hx140_5
                  replace hx140_6 := (HB.out.cell (World.block_lt_of_cell? w _ hx140_6)).trans hx140_6
                  replace hx140_7 := (HB.out.cell (World.block_lt_of_cell? w _ hx140_7)).trans hx140_7
                  replace hx140_8 := (HB.out.cell (World.block_lt_of_cell? w _ hx140_8)).trans hx140_8
                  have HR140_8 := Aside0.mk hi140_8
                  have HC140_8 := Aside0.mk hl140_8
                  clear hi140_8 hl140_8
                  replace p140 := eq_true p140
                  replace q140 := eq_true q140
                  have p141 : 0 ≤ (x13_1 : Int) := of_decide_eq_true (by first | (with_reducible assumption) | assumption)
                  have q141 : x13_1 < (l1.length : Int) := of_decide_eq_true (by first | (with_reducible assumption) | assumption)
                  obtain ⟨ad141, A141_8, c141_8, e141, hx141_0, hx141_1, hx141_2, hx141_3, hx141_4, hx141_5, hx141_6, hx141_7, hx141_8, hl141_8, hi141_8⟩ := at_T42 HR1.out x13_1 p141 q141
                  have hw141_8 := hx141_8
                  have hw141_7 := hx141_7
                  have hw141_6 := hx141_6
                  have hw141_5 := hx141_5
                  have hw141_4 := hx141_4
                  have hw141_3 := hx141_3
                  have hw141_2 := hx141_2
                  have hw141_1 := hx141_1
                  have hw141_0 := hx141_0
                  cases e141
                  replace hx141_0 := (HB.out.cell (World.block_lt_of_cell? w _ hx141_0)).trans hx141_0
                  replace hx141_1 := (HB.out.cell (World.block_lt_of_cell? w _ hx141_1)).trans hx141_1
                  replace hx141_2 := (HB.out.cell (World.block_lt_of_cell? w _ hx141_2)).trans hx141_2
                  replace hx141_3 := (HB.out.cell (World.block_lt_of_cell? w _ hx141_3)).trans hx141_3
                  replace hx141_4 := (HB.out.cell (World.block_lt_of_cell? w _ hx141_4)).trans hx141_4
                  replace hx141_5 := (HB.out.cell (World.block_lt_of_cell? w _ hx141_5)).trans hx141_5
                  replace hx141_6 := (HB.out.cell (World.block_lt_of_cell? w _ hx141_6)).trans hx141_6
                  replace hx141_7 := (HB.out.cell (World.block_lt_of_cell? w _ hx141_7)).trans hx141_7
                  replace hx141_8 := (HB.out.cell (World.block_lt_of_cell? w _ hx141_8)).trans hx141_8
                  have HR141_8 := Aside0.mk hi141_8
                  have HC141_8 := Aside0.mk hl141_8
                  clear hi141_8 hl141_8
                  replace p141 := eq_true p141
                  replace q141 := eq_true q141
                  refine start_ (n := 10) (S := fun w' => w'.cell? (ad140.add ((x13_1).toNat * 9)) = some (.int .i64 ((rd_T42 l0 x13_1).f0)) ∧ w'.cell? ⟨(ad140.add ((x13_1).toNat * 9)).block, (ad140.add ((x13_1).toNat * 9)).off + 1, none⟩ = some (.int .i64 ((rd_T42 l0 x13_1).f1)) ∧ w'.cell? ⟨(ad140.add ((x13_1).toNat * 9)).block, (ad140.add ((x13_1).toNat * 9)).off + 2, none⟩ = some (.int .i64 ((rd_T42 l0 x13_1).f2)) ∧ w'.cell? ⟨(ad140.add ((x13_1).toNat * 9)).block, (ad140.add ((x13_1).toNat * 9)).off + 3, none⟩ = some (.int .i64 ((rd_T42 l0 x13_1).f3)) ∧ w'.cell? ⟨(ad140.add ((x13_1).toNat * 9)).block, (ad140.add ((x13_1).toNat * 9)).off + 4, none⟩ = some (.string ((rd_T42 l0 x13_1).f4)) ∧ w'.cell? ⟨(ad140.add ((x13_1).toNat * 9)).block, (ad140.add ((x13_1).toNat * 9)).off + 5, none⟩ = some (.string ((rd_T42 l0 x13_1).f5)) ∧ w'.cell? ⟨(ad140.add ((x13_1).toNat * 9)).block, (ad140.add ((x13_1).toNat * 9)).off + 6, none⟩ = some (.string ((rd_T42 l0 x13_1).f6)) ∧ w'.cell? ⟨(ad140.add ((x13_1).toNat * 9)).block, (ad140.add ((x13_1).toNat * 9)).off + 7, none⟩ = some (.string ((rd_T42 l0 x13_1).f7)) ∧ w'.cell? ⟨(ad140.add ((x13_1).toNat * 9)).block, (ad140.add ((x13_1).toNat * 9)).off + 8, none⟩ = some (.slice A140_8 ((rd_T42 l0 x13_1).f8).length c140_8) ∧ w'.cell? (ad141.add ((x13_1).toNat * 9)) = some (.int .i64 ((rd_T42 l1 x13_1).f0)) ∧ w'.cell? ⟨(ad141.add ((x13_1).toNat * 9)).block, (ad141.add ((x13_1).toNat * 9)).off + 1, none⟩ = some (.int .i64 ((rd_T42 l1 x13_1).f1)) ∧ w'.cell? ⟨(ad141.add ((x13_1).toNat * 9)).block, (ad141.add ((x13_1).toNat * 9)).off + 2, none⟩ = some (.int .i64 ((rd_T42 l1 x13_1).f2)) ∧ w'.cell? ⟨(ad141.add ((x13_1).toNat * 9)).block, (ad141.add ((x13_1).toNat * 9)).off + 3, none⟩ = some (.int .i64 ((rd_T42 l1 x13_1).f3)) ∧ w'.cell? ⟨(ad141.add ((x13_1).toNat * 9)).block, (ad141.add ((x13_1).toNat * 9)).off + 4, none⟩ = some (.string ((rd_T42 l1 x13_1).f4)) ∧ w'.cell? ⟨(ad141.add ((x13_1).toNat * 9)).block, (ad141.add ((x13_1).toNat * 9)).off + 5, none⟩ = some (.string ((rd_T42 l1 x13_1).f5)) ∧ w'.cell? ⟨(ad141.add ((x13_1).toNat * 9)).block, (ad141.add ((x13_1).toNat * 9)).off + 6, none⟩ = some (.string ((rd_T42 l1 x13_1).f6)) ∧ w'.cell? ⟨(ad141.add ((x13_1).toNat * 9)).block, (ad141.add ((x13_1).toNat * 9)).off + 7, none⟩ = some (.string ((rd_T42 l1 x13_1).f7)) ∧ w'.cell? ⟨(ad141.add ((x13_1).toNat * 9)).block, (ad141.add ((x13_1).toNat * 9)).off + 8, none⟩ = some (.slice A141_8 ((rd_T42 l1 x13_1).f8).length c141_8)) (ds := []) #[false, false, false, false, false, false, false, false, false, false] (by kernel_rfl) rfl rfl ⟨((HB.out.cell (World.block_lt_of_cell? w _ hw140_0)).trans hw140_0), ((HB.out.cell (World.block_lt_of_cell? w _ hw140_1)).trans hw140_1), ((HB.out.cell (World.block_lt_of_cell? w _ hw140_2)).trans hw140_2), ((HB.out.cell (World.block_lt_of_cell? w _ hw140_3)).trans hw140_3), ((HB.out.cell (World.block_lt_of_cell? w _ hw140_4)).trans hw140_4), ((HB.out.cell (World.block_lt_of_cell? w _ hw140_5)).trans hw140_5), ((HB.out.cell (World.block_lt_of_cell? w _ hw140_6)).trans hw140_6), ((HB.out.cell (World.block_lt_of_cell? w _ hw140_7)).trans hw140_7), ((HB.out.cell (World.block_lt_of_cell? w _ hw140_8)).trans hw140_8), ((HB.out.cell (World.block_lt_of_cell? w _ hw141_0)).trans hw141_0), ((HB.out.cell (World.block_lt_of_cell? w _ hw141_1)).trans hw141_1), ((HB.out.cell (World.block_lt_of_cell? w _ hw141_2)).trans hw141_2), ((HB.out.cell (World.block_lt_of_cell? w _ hw141_3)).trans hw141_3), ((HB.out.cell (World.block_lt_of_cell? w _ hw141_4)).trans hw141_4), ((HB.out.cell (World.block_lt_of_cell? w _ hw141_5)).trans hw141_5), ((HB.out.cell (World.block_lt_of_cell? w _ hw141_6)).trans hw141_6), ((HB.out.cell (World.block_lt_of_cell? w _ hw141_7)).trans hw141_7), ((HB.out.cell (World.block_lt_of_cell? w _ hw141_8)).trans hw141_8)⟩ (fun hHeld => ?_); refine with_tabW tendrilplain_Ops.tab6 tendrilplain_Ops.bits6 (fun HT_ HW_ => ?_)
                  generalize wr.drew = w12 at HB HR140_8 HR141_8 hx140_0 hx140_1 hx140_2 hx140_3 hx140_4 hx140_5 hx140_6 hx140_7 hx140_8 hx141_0 hx141_1 hx141_2 hx141_3 hx141_4 hx141_5 hx141_6 hx141_7 hx141_8 hHeld ⊢
                  refine pure_ (i := 0) (N := some 16) (v := ?_) (a' := ?_) #[true, false, false, false, false, false, false, false, false, false] rfl rfl (any_of HT_.out (by kernel_rfl)) (fun _ _ _ h => h) (Or.inl ⟨by rfl, ?_⟩) ?_ ?_
                  rotate_left
                  · intro w'
                    go_simp
                    with_reducible rfl
                  rotate_left
                  · simp only [Act.put, List.setIfInBounds_toArray, List.set_cons_zero, List.set_cons_succ, i64_w, i32_w]
                    rfl
                  refine pure_ (i := 1) (N := some 17) (v := ?_) (a' := ?_) #[true, true, false, false, false, false, false, false, false, false] rfl rfl (any_of HT_.out (by kernel_rfl)) (fun _ _ _ h => h) (Or.inl ⟨by rfl, ?_⟩) ?_ ?_
                  rotate_left
                  · intro w'
                    go_simp
                    with_reducible rfl
                  rotate_left
                  · simp only [Act.put, List.setIfInBounds_toArray, List.set_cons_zero, List.set_cons_succ, i64_w, i32_w]
                    rfl
                  refine pure_ (i := 2) (N := some 18) (v := ?_) (a' := ?_) #[true, true, true, false, false, false, false, false, false, false] rfl rfl (any_of HT_.out (by kernel_rfl)) (fun _ _ _ h => h) (Or.inl ⟨by rfl, ?_⟩) ?_ ?_
                  rotate_left
                  · intro w'
                    go_simp
                    with_reducible rfl
                  rotate_left
                  · simp only [Act.put, List.setIfInBounds_toArray, List.set_cons_zero, List.set_cons_succ, i64_w, i32_w]
                    rfl
                  refine pure_ (i := 4) (N := some 20) (v := ?_) (a' := ?_) #[true, true, true, false, true, false, false, false, false, false] rfl rfl (any_of HT_.out (by kernel_rfl)) (fun _ _ _ h => h) (Or.inl ⟨by rfl, ?_⟩) ?_ ?_
                  rotate_left
                  · intro w'
                    go_simp
                    with_reducible rfl
                  rotate_left
                  · simp only [Act.put, List.setIfInBounds_toArray, List.set_cons_zero, List.set_cons_succ, i64_w, i32_w]
                    rfl
                  refine pure_ (i := 5) (N := some 21) (v := ?_) (a' := ?_) #[true, true, true, false, true, true, false, false, false, false] rfl rfl (any_of HT_.out (by kernel_rfl)) (fun _ _ _ h => h) (Or.inl ⟨by rfl, ?_⟩) ?_ ?_
                  rotate_left
                  · intro w'
                    go_simp
                    with_reducible rfl
                  rotate_left
                  · simp only [Act.put, List.setIfInBounds_toArray, List.set_cons_zero, List.set_cons_succ, i64_w, i32_w]
                    rfl
                  refine pure_ (i := 6) (N := some 22) (v := ?_) (a' := ?_) #[true, true, true, false, true, true, true, false, false, false] rfl rfl (any_of HT_.out (by kernel_rfl)) (fun _ _ _ h => h) (Or.inl ⟨by rfl, ?_⟩) ?_ ?_
                  rotate_left
                  · intro w'
                    go_simp
                    with_reducible rfl
                  rotate_left
                  · simp only [Act.put, List.setIfInBounds_toArray, List.set_cons_zero, List.set_cons_succ, i64_w, i32_w]
                    rfl
                  refine take_ (i := 3) (N := some 19) (v := ?_) (a' := ?_) #[true, true, true, true, true, true, true, false, false, false] rfl rfl (take_ofW HT_.out HW_.out (by kernel_rfl)) (fun _ _ _ h => h) (Or.inl ⟨by rfl, ?_⟩) hHeld ?_ ?_
                  rotate_left
                  · rintro w' ⟨s0, s1, s2, s3, s4, s5, s6, s7, s8, s9, s10, s11, s12, s13, s14, s15, s16, s17⟩
                    go_simp
                    with_reducible rfl
                  rotate_left
                  · simp only [Act.put, List.setIfInBounds_toArray, List.set_cons_zero, List.set_cons_succ, i64_w, i32_w]
                    rfl
                  refine take_ (i := 7) (N := some 23) (v := ?_) (a' := ?_) #[true, true, true, true, true, true, true, true, false, false] rfl rfl (take_ofW HT_.out HW_.out (by kernel_rfl)) (fun _ _ _ h => h) (Or.inl ⟨by rfl, ?_⟩) hHeld ?_ ?_
                  rotate_left
                  · rintro w' ⟨s0, s1, s2, s3, s4, s5, s6, s7, s8, s9, s10, s11, s12, s13, s14, s15, s16, s17⟩
                    go_simp
                    with_reducible rfl
                  rotate_left
                  · simp only [Act.put, List.setIfInBounds_toArray, List.set_cons_zero, List.set_cons_succ, i64_w, i32_w]
                    rfl
                  refine one_ (i := 8) (N := some 24) #[true, true, true, true, true, true, true, true, true, false] rfl rfl (one_of HT_.out (by kernel_rfl)) (by decide) (fun K hK => ?_)
                  refine goes_ Tryd.func24 (by kernel_rfl) rfl #[.agg #[.int .i64 ((rd_T42 l0 x13_1).f0), .int .i64 ((rd_T42 l0 x13_1).f1), .int .i64 ((rd_T42 l0 x13_1).f2), .int .i64 ((rd_T42 l0 x13_1).f3), .string ((rd_T42 l0 x13_1).f4), .string ((rd_T42 l0 x13_1).f5), .string ((rd_T42 l0 x13_1).f6), .string ((rd_T42 l0 x13_1).f7), .slice A140_8 ((rd_T42 l0 x13_1).f8).length c140_8], .agg #[.int .i64 ((rd_T42 l1 x13_1).f0), .int .i64 ((rd_T42 l1 x13_1).f1), .int .i64 ((rd_T42 l1 x13_1).f2), .int .i64 ((rd_T42 l1 x13_1).f3), .string ((rd_T42 l1 x13_1).f4), .string ((rd_T42 l1 x13_1).f5), .string ((rd_T42 l1 x13_1).f6), .string ((rd_T42 l1 x13_1).f7), .slice A141_8 ((rd_T42 l1 x13_1).f8).length c141_8]] (by rfl) rfl rfl (by (try simp only [List.map_toArray, List.map_cons, List.map_nil]); first | done | rfl | (simp only [List.length_drop, List.length_take]; rfl)) ?_
                  with_reducible refine (tendrilplain_Op.calls k1 ((rd_T42 l0 x13_1).f0) ((rd_T42 l0 x13_1).f1) ((rd_T42 l0 x13_1).f2) ((rd_T42 l0 x13_1).f3) ((rd_T42 l0 x13_1).f4) ((rd_T42 l0 x13_1).f5) ((rd_T42 l0 x13_1).f6) ((rd_T42 l0 x13_1).f7) _ _ ((rd_T42 l0 x13_1).f8) ((rd_T42 l1 x13_1).f0) ((rd_T42 l1 x13_1).f1) ((rd_T42 l1 x13_1).f2) ((rd_T42 l1 x13_1).f3) ((rd_T42 l1 x13_1).f4) ((rd_T42 l1 x13_1).f5) ((rd_T42 l1 x13_1).f6) ((rd_T42 l1 x13_1).f7) _ _ ((rd_T42 l1 x13_1).f8) false _ ?side1 ?side2 ?side3 ?side4 ?side5 A8.out).mono ?_
                  (case side1 => first | exact HGL.out | exact (Go.Proofs.YtfpijjjmgggfkaaDoorX.GL.below HGL.out (by repeat (first | (with_reducible first | exact HB.out | apply below_alloc | apply pw_below_drewN | apply below_drew1) | exact HB.out))) | (repeat (first | exact HGL.out | (with_reducible refine Go.Proofs.YtfpijjjmgggfkaaDoorX.GL.drewN ?_ _) | (with_reducible refine Go.Proofs.YtfpijjjmgggfkaaDoorX.GL.drew ?_))))
                  (case side2 => repeat (first | exact (Kd.C_below HR140_8.out HB.out) | (with_reducible refine Kd.C_alloc ?_ _) | (with_reducible refine Kd.C_drewN ?_ _) | (with_reducible refine Kd.C_drew ?_)))
                  (case side3 => exact HC140_8.out)
                  (case side4 => repeat (first | exact (Kd.C_below HR141_8.out HB.out) | (with_reducible refine Kd.C_alloc ?_ _) | (with_reducible refine Kd.C_drewN ?_ _) | (with_reducible refine Kd.C_drew ?_)))
                  (case side5 => exact HC141_8.out)
                  rintro e w13 ⟨rfl, hb⟩
                  refine ⟨_, rfl, ?_⟩
                  have n0_ := Aside0.mk (below_step (by repeat (first | (with_reducible first | exact HB.out | apply below_alloc | apply pw_below_drewN | apply below_drew1) | exact HB.out)) hb)
                  clear HB
                  have HB := n0_
                  clear n0_
                  (try clear hb)
                  (try clear hb2)
                  (try clear hk)
                  (try clear hi)
                  refine hK.out _ _ ⟨((HB.out.cell (World.block_lt_of_cell? w _ hw140_0)).trans hw140_0), ((HB.out.cell (World.block_lt_of_cell? w _ hw140_1)).trans hw140_1), ((HB.out.cell (World.block_lt_of_cell? w _ hw140_2)).trans hw140_2), ((HB.out.cell (World.block_lt_of_cell? w _ hw140_3)).trans hw140_3), ((HB.out.cell (World.block_lt_of_cell? w _ hw140_4)).trans hw140_4), ((HB.out.cell (World.block_lt_of_cell? w _ hw140_5)).trans hw140_5), ((HB.out.cell (World.block_lt_of_cell? w _ hw140_6)).trans hw140_6), ((HB.out.cell (World.block_lt_of_cell? w _ hw140_7)).trans hw140_7), ((HB.out.cell (World.block_lt_of_cell? w _ hw140_8)).trans hw140_8), ((HB.out.cell (World.block_lt_of_cell? w _ hw141_0)).trans hw141_0), ((HB.out.cell (World.block_lt_of_cell? w _ hw141_1)).trans hw141_1), ((HB.out.cell (World.block_lt_of_cell? w _ hw141_2)).trans hw141_2), ((HB.out.cell (World.block_lt_of_cell? w _ hw141_3)).trans hw141_3), ((HB.out.cell (World.block_lt_of_cell? w _ hw141_4)).trans hw141_4), ((HB.out.cell (World.block_lt_of_cell? w _ hw141_5)).trans hw141_5), ((HB.out.cell (World.block_lt_of_cell? w _ hw141_6)).trans hw141_6), ((HB.out.cell (World.block_lt_of_cell? w _ hw141_7)).trans hw141_7), ((HB.out.cell (World.block_lt_of_cell? w _ hw141_8)).trans hw141_8)⟩ (fun hHeld => ?_)
                  clear hK K
                  refine norm_ (a' := ?_) ?_ ?_
                  rotate_left
                  · show Act.put _ (some 24) _ = _
                    simp only [Act.put, List.setIfInBounds_toArray, List.set_cons_zero, List.set_cons_succ, i64_w, i32_w]
                    rfl
                  refine pure_ (i := 9) (N := some 25) (v := ?_) (a' := ?_) #[true, true, true, true, true, true, true, true, true, true] rfl rfl (any_of HT_.out (by kernel_rfl)) (fun _ _ _ h => h) (Or.inl ⟨by rfl, ?_⟩) ?_ ?_
                  rotate_left
                  · intro w'
                    go_simp
                    with_reducible rfl
                  rotate_left
                  · simp only [Act.put, List.setIfInBounds_toArray, List.set_cons_zero, List.set_cons_succ, i64_w, i32_w]
                    rfl
                  refine done_ (done_of HT_.out (by kernel_rfl)) ?_
                  try go_wp2
                  go_ret
                  exact ⟨by first | rfl | (simp [errW_none, errW_some] <;> first | rfl | exact emp_bne _ | exact (emp_bne _).symm | exact emp_bne' _ | exact (emp_bne' _).symm) | (simp [*, errW_none, errW_some] <;> rfl), by repeat (first | (with_reducible first | exact HB.out | apply below_alloc | apply pw_below_drewN | apply below_drew1) | exact HB.out)⟩
              · rw [if_neg c7] at H
                exact absurd H (by simp)
            · rw [if_neg c6] at H
              exact absurd H (by simp)
          · rw [if_neg c5] at H
            exact absurd H (by simp)
        · rw [if_neg c4] at H
          have c4b0 : decide (x13_1 < (l0.length : Int)) = false := decide_eq_false c4
          clear c4
          obtain rfl := Option.some.inj H
          go_wp2
          go_ret
          exact ⟨by first | rfl | (simp [errW_none, errW_some] <;> first | rfl | exact emp_bne _ | exact (emp_bne _).symm | exact emp_bne' _ | exact (emp_bne' _).symm) | (simp [*, errW_none, errW_some] <;> rfl), by repeat (first | (with_reducible first | exact HB.out | apply below_alloc | apply pw_below_drewN | apply below_drew1) | exact HB.out)⟩
  · rw [if_neg c3] at H
    have c3b0 : ((l0.length : Int) == (l1.length : Int)) = false := beq_eq_false_iff_ne.mpr c3
    have c3b1 : ((l0.length : Int) != (l1.length : Int)) = true := bne_iff_ne.mpr c3
    have c3b2 : (l0.length == l1.length) = false := by first | simpa using c3 | (simp at c3 ⊢; omega)
    obtain rfl := Option.some.inj H
    go_enter Tryd.func13, Tryd.ntmps13
    go_wp2
    go_ret
    exact ⟨by first | rfl | (simp [errW_none, errW_some] <;> first | rfl | exact emp_bne _ | exact (emp_bne _).symm | exact emp_bne' _ | exact (emp_bne' _).symm) | (simp [*, errW_none, errW_some] <;> rfl), by repeat (first | (with_reducible first | exact HB.out | apply below_alloc | apply pw_below_drewN | apply below_drew1) | exact HB.out)⟩

end Go.Proofs.YtfpijjjmgggfkaaDoor.P26

namespace Go.Proofs.YtfpijjjmgggfkaaDoorE
open Go Go.RowKit Go.Proofs.YtfpijjjmgggfkaaDoorW.PrintWords Go.Proofs.YtfpijjjmgggfkaaDoorW.PrintMore Go.Proofs.YtfpijjjmgggfkaaDoorX Go.Proofs.YtfpijjjmgggfkaaDoor.P26 Go.Proofs.YtfpijjjmgggfkaaDoor.L01
set_option linter.unusedVariables false
set_option linter.unusedSimpArgs false
set_option maxRecDepth 100000
theorem w64_succ (i : Nat) (h : i < 9223372036854775807) : wrap64 ((i : Int) + 1) = ((i + 1 : Nat) : Int) := by unfold wrap64; omega
theorem attrs_self (l : List S44) (hn : l.length ≤ 9223372036854775807) : ∀ d i : Nat, i + d = l.length → Ev (fun k => tendrilplain_Attrs.l0 k l l (l.length : Int) (i : Int)) true := by
  intro d
  induction d with
  | zero =>
    intro i hi
    refine Ev.step (f := fun _ => some true) (fun k => ?_) (Ev.now _)
    simp only [tendrilplain_Attrs.l0]
    rw [if_neg (by omega)]
  | succ d ih =>
    intro i hi
    refine Ev.step (fun k => ?_) (ih (i + 1) (by omega))
    simp only [tendrilplain_Attrs.l0]
    rw [if_pos (by omega), if_pos (by omega), if_pos (by omega), if_pos (by omega), if_neg (by simp), w64_succ i (by omega)]
theorem op_self (x : S42) (hn : x.f8.length ≤ 9223372036854775807) : Ev (fun k => tendrilplain_Op.f k x.f0 x.f1 x.f2 x.f3 x.f4 x.f5 x.f6 x.f7 x.f8 x.f0 x.f1 x.f2 x.f3 x.f4 x.f5 x.f6 x.f7 x.f8) true := by
  obtain ⟨k0, h0⟩ := attrs_self x.f8 hn x.f8.length 0 (by omega)
  refine ⟨k0, fun k hk => ?_⟩
  unfold tendrilplain_Op.f
  simp only [if_true]
  unfold tendrilplain_Attrs.f
  rw [if_pos rfl]
  have := h0 k hk
  simp only at this
  rw [show ((0 : Nat) : Int) = 0 from rfl] at this
  rw [this]
  rfl
theorem ops_self (l : List S42) (hn : l.length ≤ 9223372036854775807) (hf : ∀ i : Nat, i < l.length → (rd_T42 l i).f8.length ≤ 9223372036854775807) : ∀ d i : Nat, i + d = l.length → Ev (fun k => tendrilplain_Ops.l0 k l l (l.length : Int) (i : Int)) true := by
  intro d
  induction d with
  | zero =>
    intro i hi
    refine Ev.step (f := fun _ => some true) (fun k => ?_) (Ev.now _)
    simp only [tendrilplain_Ops.l0]
    rw [if_neg (by omega)]
  | succ d ih =>
    intro i hi
    obtain ⟨k1, h1⟩ := op_self (rd_T42 l i) (hf i (by omega))
    obtain ⟨k2, h2⟩ := ih (i + 1) (by omega)
    refine ⟨k1 + k2 + 1, fun k hk => ?_⟩
    obtain ⟨m, rfl⟩ : ∃ m, k = m + 1 := ⟨k - 1, by omega⟩
    have h3 := h1 m (by omega)
    simp only at h3
    simp only [tendrilplain_Ops.l0]
    rw [if_pos (by omega), if_pos (by omega), if_pos (by omega), if_pos (by omega), h3]
    simp only [Option.bind_some, if_true]
    rw [w64_succ i (by omega)]
    exact h2 m (by omega)
theorem ops_c (A A' : Option Addr) (c c' : Nat) (l : List S42) (w : World) (hgl : GL w) (hl : Kd.C k42 w A l.length l) (hc : l.length ≤ c) (hl' : Kd.C k42 w A' l.length l) (hc' : l.length ≤ c') (hn : l.length ≤ 9223372036854775807) (hf : ∀ i : Nat, i < l.length → (rd_T42 l i).f8.length ≤ 9223372036854775807) :
    Calls Tryd.prog 13 #[.slice A l.length c, .slice A' l.length c'] w fun e w' => e = .returned (.bool true) ∧ Below w.heap.size w w' := by
  obtain ⟨k, hk⟩ := ops_self l hn hf l.length 0 (by omega)
  refine tendrilplain_Ops.calls k A c l A' c' l true w hgl hl hc hl' hc' ?_
  unfold tendrilplain_Ops.f
  rw [if_pos rfl]
  exact hk k (Nat.le_refl _)

def X43 : S42 := ⟨4, 3, 0, 0, em, em, em, em, []⟩
theorem chk43 : chk X43 = 0 := by
  unfold chk checkO X43
  simp [overO, noneO, attrsN]
  decide
theorem enc_small (n : Nat) (h : n < 128) : enc n = [(n : Int)] := enc_lt h
theorem encB43 : encB [X43] = [1, 4, 3] := by
  unfold encB opsB
  simp only [List.flatMap_cons, List.flatMap_nil, List.append_nil]
  rw [oneB_body]
  simp [X43, Go.Proofs.YtfpijjjmgggfkaaDoor.L01.encs, enc_small]
theorem decS43 : decS [1, 4, 3] = ([X43], 0, 0) := by
  have h := readR_put [X43] (by decide) (by intro x hx; obtain rfl := List.mem_singleton.1 hx; exact chk43) []
  rw [List.append_nil, encB43] at h
  rw [decS_ok (by rw [h]; rfl), h]
theorem bytes14 : Bytes [1, 4] := by intro x hx; simp at hx; omega
theorem decS14 : decS [1, 4] = ([], 0, 4) := by
  have h1 : nS ([1, 4], 0) 1048576 = ((1, 0), ([4], 0)) := by
    have := nS_put 1 1048576 (by omega) (by omega) [4]
    rw [enc_small 1 (by omega)] at this
    exact this
  have h2 : nS ([4], 0) 7 = ((4, 0), ([], 0)) := by
    have := nS_put 4 7 (by omega) (by omega) []
    rw [enc_small 4 (by omega)] at this
    exact this
  have h3 : (opR ([4], 0)).1.2 = 4 := by
    refine opR_bad ([4], 0) (s1 := ([], 0)) (by rw [h2]) 4 4 (by rw [h2]) (by decide) ?_ (by decide)
    simp [bodyR]
    rfl
  have hr : readR [1, 4] = ([], 4) := readR_2 [1, 4] (n := 1) (s1 := ([4], 0)) (by rw [h1]; rfl) (by rw [h1]) rfl (l := []) (e := 4) (s' := (opR ([4], 0)).2) (by rw [opsR_stop 0 ([4], 0) (by rw [h3]; decide), h3]) (by decide)
  rw [decS_bad (by rw [hr]; decide), hr]
  rfl
theorem firstS43 : (firstS [X43]).2 = 0 := by
  unfold firstS
  simp [firstN, rd_T42, chk43]
end Go.Proofs.YtfpijjjmgggfkaaDoorE

namespace Go.Proofs.YtfpijjjmgggfkaaDoorE
open Go Go.RowKit Go.Proofs.YtfpijjjmgggfkaaDoorW.PrintWords Go.Proofs.YtfpijjjmgggfkaaDoorW.PrintMore Go.Proofs.YtfpijjjmgggfkaaDoorX Go.Proofs.YtfpijjjmgggfkaaDoor.P26 Go.Proofs.YtfpijjjmgggfkaaDoor.L01
set_option linter.unusedVariables false
set_option linter.unusedSimpArgs false
set_option maxRecDepth 100000
theorem box8_C {W : World} {b T : Nat} {xs : List Int} (h : W.heap[b]? = some (.cells (xs.map (Value.int .u8)).toArray T (0, 0))) (hx : xs.length ≤ 9223372036854775807) : Kd.C (Kd.int .u8) W (some ⟨b, 0, none⟩) xs.length xs := by
  refine ⟨rfl, hx, fun _ => ⟨_, rfl, ?_⟩⟩
  intro j p hp
  refine ⟨[.int .u8 p], rfl, rfl, ?_⟩
  intro i u hu
  match i, hu with
  | 0, hu =>
    simp at hu
    subst hu
    show W.cell? ((⟨b, 0, none⟩ : Addr).add (j * 1 + 0)) = _
    rw [add_plain, Lib.cell_of_heap h]
    simp [hp]
theorem box43_C {W : World} {b T : Nat} (h : W.heap[b]? = some (.cells #[.int .i64 4, .int .i64 3, .int .i64 0, .int .i64 0, .string ⟨#[]⟩, .string ⟨#[]⟩, .string ⟨#[]⟩, .string ⟨#[]⟩, .slice none 0 0] T (0, 0))) : Kd.C k42 W (some ⟨b, 0, none⟩) [X43].length [X43] := by
  refine ⟨rfl, by show 1 ≤ _; omega, fun _ => ⟨_, rfl, ?_⟩⟩
  intro j p hp
  match j, hp with
  | 0, hp =>
    simp at hp
    subst hp
    refine ⟨[.int .i64 4, .int .i64 3, .int .i64 0, .int .i64 0, .string ⟨#[]⟩, .string ⟨#[]⟩, .string ⟨#[]⟩, .string ⟨#[]⟩, .slice none 0 0], rfl, k42_mk W X43 (A8 := none) (c8 := 0) (Nat.le_refl 0) (Kd.C_nil k44 W), ?_⟩
    intro i u hu
    show W.cell? ((⟨b, 0, none⟩ : Addr).add (0 * 9 + i)) = _
    rw [add_plain, Lib.cell_of_heap h]
    rw [Nat.zero_mul, Nat.zero_add]
    simpa using hu
theorem enc43_c (b : Nat) (W : World) (hgl : GL W) (h : W.heap[b]? = some (.cells #[.int .i64 4, .int .i64 3, .int .i64 0, .int .i64 0, .string ⟨#[]⟩, .string ⟨#[]⟩, .string ⟨#[]⟩, .string ⟨#[]⟩, .slice none 0 0] 42)) : Calls Tryd.prog 9 #[.slice (some ⟨b, 0, none⟩) 1 1] W fun e w' => (∃ A c, e = .returned (.tuple #[.slice A 3 c, .int .i64 0, .int .i64 0]) ∧ Kd.C (Kd.int .u8) w' A 3 [1, 4, 3]) ∧ Below W.heap.size W w' := by
  refine (Encode_c (some ⟨b, 0, none⟩) 1 [X43] W hgl (box43_C h) (Nat.le_refl 1) (fun i hi => by
    have : i = 0 := by simp at hi; omega
    subst this
    exact ⟨i64_k 4 (by omega), i64_k 3 (by omega), i64_k 0 (by omega), i64_k 0 (by omega), Nat.zero_le _, Nat.zero_le _, Nat.zero_le _, Nat.zero_le _, Nat.zero_le _, fun i hi => absurd hi (Nat.not_lt_zero i)⟩) firstS43).mono ?_
  rintro e w1 ⟨⟨v, B, rfl, hB, hO⟩, hb⟩
  rw [encB43] at hO
  obtain ⟨A1, c1, rfl, hc1, hC1⟩ := own8_reads hO
  exact ⟨⟨A1, c1, rfl, hC1⟩, hb⟩
theorem dec143_c (b : Nat) (W : World) (hgl : GL W) (h : W.heap[b]? = some (.cells #[.int .u8 1, .int .u8 4, .int .u8 3] 5)) : Calls Tryd.prog 11 #[.slice (some ⟨b, 0, none⟩) 3 3] W fun e w' => (∃ A c, e = .returned (.tuple #[.slice A 1 c, .int .i64 0, .int .i64 0]) ∧ Kd.C k42 w' A 1 [X43]) ∧ Below W.heap.size W w' := by
  refine (Decode_c (some ⟨b, 0, none⟩) 3 [1, 4, 3] W hgl (box8_C h (by show 3 ≤ _; omega)) (Nat.le_refl 3) (by intro x hx; simp at hx; omega) (by show 3 ≤ _; omega)).mono ?_
  rintro e w1 ⟨⟨v, rfl, hR⟩, hb⟩
  rw [decS43] at hR ⊢
  obtain ⟨A1, c1, rfl, hc1, hC1⟩ := Kd.R_reads hR
  exact ⟨⟨A1, c1, rfl, hC1⟩, hb⟩
theorem dec14_c (b : Nat) (W : World) (hgl : GL W) (h : W.heap[b]? = some (.cells #[.int .u8 1, .int .u8 4] 5)) : Calls Tryd.prog 11 #[.slice (some ⟨b, 0, none⟩) 2 2] W fun e w' => (∃ v, e = .returned (.tuple #[v, .int .i64 0, .int .i64 4])) ∧ Below W.heap.size W w' := by
  refine (Decode_c (some ⟨b, 0, none⟩) 2 [1, 4] W hgl (box8_C h (by show 2 ≤ _; omega)) (Nat.le_refl 2) bytes14 (by show 2 ≤ _; omega)).mono ?_
  rintro e w1 ⟨⟨v, rfl, hR⟩, hb⟩
  rw [decS14]
  exact ⟨⟨v, rfl⟩, hb⟩
set_option maxHeartbeats 2000000 in
theorem lsame_c (w : World) (hgl : GL w) : Calls Tryd.prog 8 #[] w fun e w' => e = .returned (.bool true) ∧ Below w.heap.size w w' := by
  have hb0 : Below w.heap.size w (w.alloc (.cells #[.int .i64 4, .int .i64 3, .int .i64 0, .int .i64 0, .string ⟨#[]⟩, .string ⟨#[]⟩, .string ⟨#[]⟩, .string ⟨#[]⟩, .slice none 0 0] 42)) := below_alloc (Below.refl _ _) _
  have HE := Aside0.mk (enc43_c w.heap.size _ (hgl.below hb0) (one_new_ w _))
  have HG := Aside0.mk hgl
  have HB0 := Aside0.mk hb0
  have hs0 : strOfNums [1, 4, 3] = (⟨#[1, 4, 3]⟩ : ByteArray) := rfl
  have HS0 := Aside0.mk hs0
  clear hgl hb0 hs0
  go_enter Tryd.func8, Tryd.ntmps8
  go_wp2_with (first
    | (go_at_call 9; (with_reducible refine (HE.out).mono ?_); rintro e w1 ⟨⟨A1, c1, rfl, hC1⟩, hb⟩; have HC1 := Aside0.mk hC1; have HB1 := Aside0.mk (below_then HB0.out HB0.out.size hb); clear hb hC1)
    | (go_at_call 11; (with_reducible refine (dec143_c w1.heap.size _ (HG.out.below (below_alloc HB1.out _)) (one_new_ w1 _)).mono ?_); rintro e w2 ⟨⟨A2, c2, rfl, hC2⟩, hb⟩; have HC2 := Aside0.mk hC2; have HB2 := Aside0.mk (below_then (below_alloc HB1.out _) (by have := HB1.out.size; simp; omega) hb); have HC1' := Aside0.mk (Kd.C_below HC1.out (below_then (below_alloc (Below.refl _ w1) _) (by simp) hb)); clear hb hC2)
    | (go_at_call 11; (with_reducible refine (dec14_c w2.heap.size _ (HG.out.below (below_alloc HB2.out _)) (one_new_ w2 _)).mono ?_); rintro e w3 ⟨⟨v3, rfl⟩, hb⟩; have HB3 := Aside0.mk (below_then (below_alloc HB2.out _) (by have := HB2.out.size; simp; omega) hb); have hw23 := below_then (below_alloc (Below.refl _ w2) (.cells #[.int .u8 1, .int .u8 4] 5)) (by simp) hb; have hs1 := Kd.C_string (dst := 9) (c := c1) Tryd.underlying25 Tryd.underlying5 Tryd.underlying9 (Kd.C_below HC1'.out hw23); rw [HS0.out] at hs1; obtain ⟨ad, A8, c8, rfl, e0, e1, e2, e3, e4, e5, e6, e7, e8, -, -⟩ := at_T42 (Kd.C_below HC2.out hw23) 0 (by omega) (by omega); have e1' : w3.cell? ⟨ad.block, ad.off + 1, none⟩ = some (.int .i64 3) := e1; clear hb hw23 e0 e2 e3 e4 e5 e6 e7 e8))
  go_ret
  exact ⟨rfl, HB3.out⟩
end Go.Proofs.YtfpijjjmgggfkaaDoorE

namespace Go.Proofs.YtfpijjjmgggfkaaDoorE
open Go Go.RowKit Go.Proofs.YtfpijjjmgggfkaaDoorW.PrintWords Go.Proofs.YtfpijjjmgggfkaaDoorW.PrintMore Go.Proofs.YtfpijjjmgggfkaaDoorX Go.Proofs.YtfpijjjmgggfkaaDoor.P26 Go.Proofs.YtfpijjjmgggfkaaDoor.L01
set_option linter.unusedVariables false
set_option linter.unusedSimpArgs false
set_option maxRecDepth 100000
theorem C42_len {w : World} {A : Option Addr} {l : List S42} (h : Kd.C k42 w A l.length l) : l.length ≤ 9223372036854775807 ∧ ∀ i : Nat, i < l.length → (rd_T42 l i).f8.length ≤ 9223372036854775807 := by
  refine ⟨h.2.1, fun i hi => ?_⟩
  obtain ⟨ad, A8, c8, rfl, -, -, -, -, -, -, -, -, -, -, hi8⟩ := at_T42 h (i : Int) (by omega) (by omega)
  exact hi8.2.1
theorem ops_R {base base' : Nat} {ok ok' : Nat → Prop} {A A' : Option Addr} {c c' : Nat} {l : List S42} (w : World) (hgl : GL w) (hl : Kd.C k42 w A l.length l) (hc : l.length ≤ c) (hl' : Kd.C k42 w A' l.length l) (hc' : l.length ≤ c') :
    Calls Tryd.prog 13 #[.slice A l.length c, .slice A' l.length c'] w fun e w' => e = .returned (.bool true) ∧ Below w.heap.size w w' :=
  ops_c A A' c c' l w hgl hl hc hl' hc' (C42_len hl).1 (C42_len hl).2
theorem dec_c (A : Option Addr) (c : Nat) (bs : List Int) (w : World) (hgl : GL w) (hC : Kd.C (Kd.int .u8) w A bs.length bs) (hc : bs.length ≤ c) (hB : Bytes bs) (hlen : bs.length ≤ 140737488355328) :
    Calls Tryd.prog 11 #[.slice A bs.length c] w fun e w' => (∃ A1 c1, e = .returned (.tuple #[.slice A1 (decS bs).1.length c1, .int .i64 (decS bs).2.1, .int .i64 (decS bs).2.2]) ∧ (decS bs).1.length ≤ c1 ∧ Kd.C k42 w' A1 (decS bs).1.length (decS bs).1) ∧ Below w.heap.size w w' := by
  refine (Decode_c A c bs w hgl hC hc hB hlen).mono ?_
  rintro e w1 ⟨⟨v, rfl, hR⟩, hb⟩
  obtain ⟨A1, c1, rfl, hc1, hC1⟩ := Kd.R_reads hR
  exact ⟨⟨A1, c1, rfl, hc1, hC1⟩, hb⟩
theorem rdec_c (A : Option Addr) (c : Nat) (bs : List Int) (w : World) (hgl : GL w) (hC : Kd.C (Kd.int .u8) w A bs.length bs) (hc : bs.length ≤ c) (hB : Bytes bs) :
    Calls Tryd.prog 14 #[.slice A bs.length c] w fun e w' => (∃ A1 c1, e = .returned (.tuple #[.slice A1 (decS bs).1.length c1, .int .i64 (decS bs).2.1, .int .i64 (decS bs).2.2]) ∧ (decS bs).1.length ≤ c1 ∧ Kd.C k42 w' A1 (decS bs).1.length (decS bs).1) ∧ Below w.heap.size w w' := by
  refine (rDecode_c A c bs w hgl hC hc hB).mono ?_
  rintro e w1 ⟨⟨v, rfl, hR⟩, hb⟩
  obtain ⟨A1, c1, rfl, hc1, hC1⟩ := Kd.R_reads hR
  exact ⟨⟨A1, c1, rfl, hc1, hC1⟩, hb⟩
set_option maxHeartbeats 2000000 in
theorem codecReads_w (A : Option Addr) (n c : Nat) (bs : List Int) (w : World) (hgl : GL w) (h0 : n = bs.length ∧ n ≤ c ∧ Kd.C (Kd.int .u8) w A bs.length bs ∧ bs.length ≤ 140737488351232 ∧ Bytes bs) :
    Calls Tryd.prog 4 #[.slice A n c] w fun e w' => e = .returned (.bool true) ∧ Below w.heap.size w w' := by
  obtain ⟨rfl, hc, hC, hlen, hB⟩ := h0
  have HD := Aside0.mk (dec_c A c bs w hgl hC hc hB (by omega))
  have HRD : Aside0 (∀ W, Below w.heap.size w W → Calls Tryd.prog 14 #[.slice A bs.length c] W fun e w' => (∃ A1 c1, e = .returned (.tuple #[.slice A1 (decS bs).1.length c1, .int .i64 (decS bs).2.1, .int .i64 (decS bs).2.2]) ∧ (decS bs).1.length ≤ c1 ∧ Kd.C k42 w' A1 (decS bs).1.length (decS bs).1) ∧ Below W.heap.size W w') := ⟨fun W hW => rdec_c A c bs W (hgl.below hW) (Kd.C_below hC hW) hc hB⟩
  obtain ⟨D, hD⟩ : ∃ D, D = decS bs := ⟨_, rfl⟩
  rw [← hD] at HD HRD
  have HG := Aside0.mk hgl
  clear hgl hC hB hD
  by_cases hbig : 3000 < bs.length
  · go_enter Tryd.func4, Tryd.ntmps4
    go_wp2_with (first
      | (go_at_call 8; (with_reducible refine (lsame_c _ HG.out).mono ?_); rintro e w1 ⟨rfl, hb⟩; have HB1 := Aside0.mk hb; clear hb))
    go_ret
    exact ⟨rfl, HB1.out⟩
  · go_enter Tryd.func4, Tryd.ntmps4
    go_wp2_with (first
      | (go_at_call 11; (with_reducible refine (HD.out).mono ?_); rintro e w1 ⟨⟨A1, c1, rfl, hc1, hC1⟩, hb⟩; have HC1 := Aside0.mk hC1; have HL1 := Aside0.mk hc1; have HB1 := Aside0.mk hb; clear hb hC1 hc1)
      | (go_at_call 14; (with_reducible refine (HRD.out _ HB1.out).mono ?_); rintro e w2 ⟨⟨A2, c2, rfl, hc2, hC2⟩, hb⟩; have HC2 := Aside0.mk hC2; have HL2 := Aside0.mk hc2; have HB2 := Aside0.mk (below_then HB1.out HB1.out.size hb); have HC1' := Aside0.mk (Kd.C_below HC1.out hb); clear hb hC2 hc2)
      | (go_at_call 13; (refine (ops_R (base := 0) (base' := 0) (ok := fun _ => True) (ok' := fun _ => True) _ (HG.out.below HB2.out) HC1'.out HL1.out HC2.out HL2.out).mono ?_); rintro e w3 ⟨rfl, hb⟩; have HB3 := Aside0.mk (below_then HB2.out HB2.out.size hb); clear hb)
      | (go_at_call 8; (with_reducible refine (lsame_c _ (HG.out.below HB3.out)).mono ?_); rintro e w4 ⟨rfl, hb⟩; have HB4 := Aside0.mk (below_then HB3.out HB3.out.size hb); clear hb))
    go_ret
    exact ⟨rfl, HB4.out⟩
end Go.Proofs.YtfpijjjmgggfkaaDoorE

namespace Go.Proofs.YtfpijjjmgggfkaaDoorE
open Go Go.RowKit Go.ChangeShapes Go.WideShapes Go.Proofs.YtfpijjjmgggfkaaDoorW.PrintWords Go.Proofs.YtfpijjjmgggfkaaDoor.P26 Go.Proofs.YtfpijjjmgggfkaaDoor.L01 Go.Proofs.YtfpijjjmgggfkaaDoor.M02
set_option linter.unusedVariables false
set_option linter.unusedSimpArgs false
theorem wf_u8' {x : Int} (h : (Lit.int .u8 x).wf = true) : 0 ≤ x ∧ x ≤ 255 := by
  simp [Lit.wf, IntKind.min, IntKind.max, IntKind.bits, IntKind.signed] at h
  omega
theorem cellsO5 : Tryd.prog.cellsOf 5 = 1 := by kernel_rfl
def openB8T (W : World) (A : Option Addr) (n c : Nat) : Prop := ∃ l : List Int, n = l.length ∧ n ≤ c ∧ Kd.C (Kd.int .u8) W A l.length l ∧ l.length ≤ 140737488351232 ∧ Bytes l
theorem openB8 {H : Type} {enc : TypeId × Value → H} {W : World} {base : Nat} {spare : Nat → Bool} {held : Bool} {A : Option Addr} {n c fuel : Nat} {d : DataW H} {ps : List MemPlace}
    (hf : DataW.trod enc Tryd.prog W base spare held fuel 25 (Value.slice A n c).cells.toList = some (d, ps)) (hs : ∀ m ∈ d.weights Tryd.prog 25, m ≤ 140737488351232) : openB8T W A n c := by
  cases fuel with
  | zero => simp [DataW.trod] at hf
  | succ f =>
    obtain ⟨l, h1, h2, h3, h4, -, h5⟩ := Op.arg (Op.slice Tryd.underlying25 cellsO5.symm (Op.int (fuel := f) Tryd.underlying5)) hf hs
    exact ⟨l, h1, h2, h3, Nat.le_trans (Nat.le_mul_of_pos_right _ (of_decide_eq_true (by kernel_rfl))) h4, fun x hx => wf_u8' (h5 x hx)⟩
end Go.Proofs.YtfpijjjmgggfkaaDoorE

namespace Go.Proofs.YtfpijjjmgggfkaaDoor.codecReads
open Go.ChangeShapes Go.WideShapes Go.ChangeAt Go.RowKit
open Go.ChangeMaps (open_string shut_string)
set_option linter.unusedVariables false
theorem own : ownKnob Tryd.prog.godebug = none := by kernel_rfl
theorem door_met (os : Os) (args : Array Value) : laidMetH Tryd.prog Rows.codecReadsRow.laid ((World.doorLaid Tryd.prog 62 os).forCall (fun _ _ => 0) ⟨#[], args, []⟩).memory :=
  laidMetH_of_parts3 (fuel := 8) (laidMet_of_run' 8 (by kernel_rfl) (by kernel_rfl)) (by kernel_rfl) (by kernel_rfl)
theorem gl {W : World} (h : laidMetH Tryd.prog Rows.codecReadsRow.laid W) : Go.Proofs.YtfpijjjmgggfkaaDoorX.GL W := by
  rw [MakeChecks.laidMetH_plain _ _ _ (by kernel_rfl)] at h
  exact Go.Proofs.YtfpijjjmgggfkaaDoorX.gl_of h
theorem laidOut : laidOutB Tryd.prog = true := by kernel_rfl
set_option maxRecDepth 100000 in
theorem lifted (os : Os) (started : os.Started) (H : Type) (enc : TypeId × Value → H) :
    ReturnsInHanded {} Tryd.checked os 4 .any (fun w args => (Rows.codecReadsSpec.pre enc Tryd.prog Tryd.f4 [] false w args ∧ laidMetH Tryd.prog Rows.codecReadsRow.laid w) ∧ sizedMet enc Tryd.prog Tryd.f4 (OpenSpec.ofChange Rows.codecReadsSpec) false w args) (Rows.codecReadsSpec.post enc Tryd.prog Tryd.f4 false true false false) := by
  refine returnsInHanded_of_change_and (C := Tryd.checked) (X := fun w _ => laidMetH Tryd.prog Rows.codecReadsRow.laid w) (fun _ _ _ hh h => h.of_heap hh) own started (by kernel_rfl) Tryd.func4
    (ChangeSpec.witness_shaped (enc := enc) (C := Tryd.checked) (os := os) (X := fun w _ => laidMetH Tryd.prog Rows.codecReadsRow.laid w) false (World.doorLaid Tryd.prog 62 os) #[.slice none 0 0] 8 rfl (World.shaped_of_RefB (by kernel_rfl) (by kernel_rfl)) (by kernel_rfl) (by kernel_rfl) (by kernel_rfl) (door_met os _)) ?_
  intro W base args ds gs before hval0 hW _ hsz0 hL _
  have hgl := gl hL
  have hsz : (DataW.weightsEach Tryd.prog (Tryd.f4.params.toList ++ Rows.codecReadsSpec.plain.varTypes Tryd.prog) (ds ++ gs)).all (· ≤ reachBytes) = true := hsz0
  have hval : ∀ (j : Nat) t v, Tryd.f4.params[j]? = some t → args[j]? = some v → Value.okWide Tryd.prog W .any base t v := hval0
  have hW' := hW
  obtain ⟨p, q, hA0, hV, rfl, hfz, hnd⟩ := hW
  have hA : DataW.TrodAll enc Tryd.prog W 0 (fun _ => true) true Tryd.f4.params.toList args.toList ds p := hA0
  rw [Tryd.params4] at hA hval hsz
  obtain ⟨v0, vs0, d0, ds0, p0, q0, hargs, rfl, rfl, h0, r0⟩ := trodAll_cons hA
  obtain ⟨rfl, rfl, rfl⟩ := trodAll_nil r0
  obtain rfl : args = #[v0] := by cases args; simp_all
  obtain ⟨rfl, rfl⟩ := trodVars_none hV
  have k0 := h0
  have lt0 : ∀ x ∈ p0, x.block < W.heap.size := by obtain ⟨m, hm⟩ := k0; exact DataW.trod_lt m _ _ _ hm
  obtain ⟨a0, len0, cap0, rfl⟩ := okWide_slice Tryd.underlying25 (hval 0 25 v0 rfl rfl)
  obtain ⟨b0, w0⟩ := (by
    obtain ⟨fuel, hf⟩ := h0
    exact Go.Proofs.YtfpijjjmgggfkaaDoorE.openB8 hf (fun n hn => of_decide_eq_true (List.all_eq_true.1 hsz n (DataW.weights_mem_each (j := 0) (t := 25) rfl rfl n hn))) : Go.Proofs.YtfpijjjmgggfkaaDoorE.openB8T W a0 len0 cap0)
  clear hA0 hval0 hsz0 hsz hL
  refine (Go.Proofs.YtfpijjjmgggfkaaDoorE.codecReads_w a0 len0 cap0 b0 W hgl w0).mono fun e W' ⟨he, bel⟩ => ?_
  subst he
  exact ⟨_, rfl, _, _, _, [], _, [], hW', trodAll_mk1 (shut_bool Tryd.underlying4 _), (trodAll_cons_mk (Below.trod laidOut (by kernel_rfl) (of_decide_eq_true (by kernel_rfl)) k0 bel lt0) trodAll_mk0), rfl, bel.frame _, fun h => by cases h⟩
theorem over : Rows.codecReadsRow.holds Tryd.pinned (OpenSpec.ofChange Rows.codecReadsSpec) :=
  OpenClaim.holds_of_wide 4 Tryd.f4 rfl rfl rfl rfl rfl rfl rfl ⟨rfl, rfl, rfl, rfl, rfl⟩ rfl rfl rfl rfl rfl (by kernel_rfl) Tryd.func4 (by kernel_rfl)
    (of_decide_eq_true (by kernel_rfl)) (by unfold Func.isWrapper; first | (rw [if_pos (by decide +kernel)]; kernel_rfl) | (rw [if_neg (by decide +kernel)]; exact ⟨rfl, rfl⟩))
    (fun os started H enc _ => lifted os started H enc)
theorem wants : ∀ (j : Nat) (t : TypeId), Tryd.f4.params[j]? = some t → Tryd.prog.wantsStandIn t = false := by
  intro j t ht
  rw [Tryd.params4] at ht
  rcases j with _ | j
  · have h3 : t = 25 := by simpa using ht.symm
    subst h3
    exact (show Tryd.prog.wantsStandIn 25 = false by kernel_rfl)
  simp at ht
theorem proved : Rows.CodecReadsCardSaid :=
  Claim7.holds_tied_plain_at .later [] [.data, .data, .data] true (true, "e651c56637a872e7731d1c4fd1cb8e9780fa61b54909fcf8245d51d4264785a9") true
    over (fun _ h => by cases h) (by kernel_rfl) (fun _ h => by cases h) codecReads_row_tie rfl ⟨rfl, rfl⟩ (by kernel_rfl) rfl
    (fun f fn hf hfn => by
      obtain rfl : f = 4 := Option.some.inj ((show Tryd.prog.funcNamed "tendril/tendrillaw26.CodecReads" = some 4 by kernel_rfl).symm.trans hf) |>.symm
      obtain rfl : fn = Tryd.f4 := (Option.some.inj (Tryd.func4.symm.trans hfn)).symm
      exact ⟨by kernel_rfl, wants⟩)
    (by kernel_rfl)
end Go.Proofs.YtfpijjjmgggfkaaDoor.codecReads
namespace Go.Proofs.YtfpijjjmgggfkaaDoor
/-- The card, under a short name, for the claim. -/
theorem codecReads_holds : Rows.CodecReadsCardSaid := codecReads.proved
end Go.Proofs.YtfpijjjmgggfkaaDoor
