/- Merged by this claim's own program (merge.py) out of the texts EDG2, EDG3, EDG4, EDG5, EDT1, EDT1b, EDT2, EDT3, EDT4, EDT5, EDT6, EDT7, EDL1, EDH2, EDL3, EDF1, EOP; the W texts among them began as the kit's print. -/
import Derived.Test.YtidcecpbihmloaaGreatDoorDB4
import Derived.Deep.QuietTactic
import Derived.BigQuiet
import Derived.ChangeArms
import Derived.DataReads
import Derived.SizedLaws
import Derived.Deep.Slices

namespace Go.Proofs.YtidcecpbihmloaaGreatDoorE
open Go Go.RowKit Go.Proofs.YtidcecpbihmloaaGreatDoorW.PrintWords Go.Proofs.YtidcecpbihmloaaGreatDoorW.PrintMore Go.Proofs.YtidcecpbihmloaaGreatDoorW.PrintLast Go.Proofs.YtidcecpbihmloaaGreatDoorX Go.Proofs.YtidcecpbihmloaaGreatDoor.P16 Go.Proofs.YtidcecpbihmloaaGreatDoor.M02
set_option linter.unusedVariables false
set_option linter.unusedSimpArgs false
set_option maxRecDepth 100000
/-- The first k are marked. -/
def mixL (k : Nat) (l : List DT) : List (DT × Bool) := (l.take k).map (·, true) ++ (l.drop k).map (·, false)
theorem mixL_zero (l : List DT) : mixL 0 l = l.map (·, false) := by simp [mixL]
theorem mixL_all (k : Nat) (l : List DT) (h : l.length ≤ k) : mixL k l = l.map (·, true) := by
 simp [mixL, List.take_of_length_le h, List.drop_of_length_le h]
theorem mixL_len (k : Nat) (l : List DT) : (mixL k l).length = l.length := by simp [mixL]; omega
theorem mixL_at (k : Nat) (l : List DT) (h : k < l.length) : (mixL k l)[k]? = some (l[k], false) := by
 unfold mixL
 rw [List.getElem?_append_right (by simp; omega)]
 simp [Nat.min_eq_left (Nat.le_of_lt h), List.getElem?_eq_getElem h]
theorem mixL_set (k : Nat) (l : List DT) (h : k < l.length) : (mixL k l).set k (l[k], true) = mixL (k + 1) l := by
 unfold mixL
 rw [List.set_append_right _ _ (by simp; omega)]
 simp only [List.length_map, List.length_take, Nat.min_eq_left (Nat.le_of_lt h), Nat.sub_self]
 rw [List.drop_eq_getElem_cons h, List.map_cons, List.set_cons_zero, List.take_succ_eq_append_getElem h, List.map_append, List.append_assoc]
 rfl
theorem add0 (g i : Nat) : (⟨g, 0, none⟩ : Addr).add i = ⟨g, i, none⟩ := by unfold Addr.add; split <;> simp_all
section
variable {P : Program} {ops : Array Oper} {o : Oper} {a : Act} {Q : Exit → Act → World → Prop} {K : Act → World → Prop} {α : Type}
/-- A whole element of a row of one's own is written, as a step of a region that draws. -/
theorem put_step (d : Kd α) {W : World} (base : Nat) (hw : Region.wanted o (yielded ops a.tmps) = true) (hN : o.dst = none) (t : TypeId) (p x : Operand) (ho : o.op = .store t p x) (e : TypeId) {ad : Addr} {n cap : Nat} (i : Nat) (xs : List α) (x' : α) (u : Value) (seg : List Value) (ok okp : Nat → Prop)
  (haddr : a.eval p = .pointer (some (ad.add (i * d.sz)))) (hx : a.eval x = u) (hu : u.cells.toList = seg) (ht : (P.info? t).map (·.size) = some seg.length) (h1 : ∀ q ∈ seg, q.oneCell' = true)
  (HO : d.R e W base ok (.slice (some ad) n cap) xs) (hi : i < n) (hsz : seg.length = d.sz) (hM : d.M W base okp x' seg) (hokp : ∀ k, okp k → ok k ∧ k ≠ ad.block)
  (h : ∀ w1, d.R e w1 base ok (.slice (some ad) n cap) (xs.set i x') → W.grownBy w1 (some ad.block) → K a w1) : if Region.wanted o (yielded ops a.tmps) = true then Oper.wp P o a W K Q else K (a.put none undef) W := by
 obtain ⟨g, rfl⟩ := Kd.R_head HO
 have hnx : n = xs.length := (Kd.R_reads' HO).1
 obtain ⟨z⟩ : Nonempty α := ⟨x'⟩
 obtain ⟨c, hcl, -, hcc⟩ := Kd.R_getA HO z (i : Int) (by omega) (by omega)
 have hcc' : ∀ j u, c[j]? = some u → W.cell? ⟨g, ((i : Int)).toNat * d.sz + j, none⟩ = some u := fun j u hj => by
  have := hcc j u hj
  rw [add0] at this
  exact this
 have hMM : d.M W base okp x' (c.take 0 ++ seg ++ c.drop (0 + seg.length)) := by
  rw [List.take_zero, List.nil_append, List.drop_of_length_le (by omega), List.append_nil]; exact hM
 obtain ⟨hrow, hg⟩ := Kd.R_seg HO (i : Int) (by omega) (by omega) hcl hcc' (by omega) hMM hokp
 obtain ⟨_, inner, hown, hr⟩ := HO
 have hrun : (Instr.storeAt t (.pointer (some ⟨g, i * d.sz, none⟩)) u).run P W = .ok () (W.setCells g (i * d.sz) seg) := by
  rcases hown.2 with ⟨hv, _⟩ | ⟨g', cap', cur, hv, hb, hh, hnc, hcm, hcs, _⟩
  ·cases hv
  injection hv with ha _ hc
  injection ha with ha
  injection ha with hg'
  subst hg'; subst hc
  refine run_store_run t u seg hh hu ht ?_ h1
  have h2 : i * d.sz + d.sz ≤ n * d.sz := by rw [← Nat.succ_mul]; exact Nat.mul_le_mul_right _ hi
  have h3 : n * d.sz ≤ cap * d.sz := Nat.mul_le_mul_right _ (by omega)
  omega
 rw [add0] at haddr
 refine skip_ (w1 := W.setCells g (i * d.sz) seg) hw hN ?_ (h _ (by simpa using hrow) (by simpa using hg))
 unfold execOp
 simp only [ho, haddr, hx, Sem.run_bind, Sem.run_pure, Result.andThen_ok, hrun]
end
/-- Element k of a row of one's own, not yet marked. -/
theorem at_two {w0 w : World} {base : Nat} {ok : Nat → Prop} {ad : Addr} {n c k : Nat} {l : List DT} (h : (twoK w0).R 25 w base ok (.slice (some ad) n c) (mixL k l)) (hk : k < l.length) :
  ∃ A3 c3 A4 c4, w.cell? (ad.add (k * 5)) = some (.int .i64 l[k].f0) ∧ w.cell? ⟨(ad.add (k * 5)).block, (ad.add (k * 5)).off + 1, none⟩ = some (.int .i64 l[k].f1) ∧ w.cell? ⟨(ad.add (k * 5)).block, (ad.add (k * 5)).off + 2, none⟩ = some (.string l[k].f2) ∧ w.cell? ⟨(ad.add (k * 5)).block, (ad.add (k * 5)).off + 3, none⟩ = some (.slice A3 l[k].f3.length c3) ∧ w.cell? ⟨(ad.add (k * 5)).block, (ad.add (k * 5)).off + 4, none⟩ = some (.slice A4 l[k].f4.length c4) ∧ l[k].f3.length ≤ c3 ∧ Kd.string.C w0 A3 l[k].f3.length l[k].f3 ∧ l[k].f4.length ≤ c4 ∧ k25.C w0 A4 l[k].f4.length l[k].f4 := by
 obtain ⟨g, rfl⟩ := Kd.R_head h
 have hn : n = l.length := by have := (Kd.R_reads' h).1; rw [mixL_len] at this; exact this
 obtain ⟨cs, hcl, hM, hc0⟩ := Kd.R_getA h (l[k], false) (k : Int) (by omega) (by omega)
 rw [Int.toNat_natCast, List.getD_eq_getElem?_getD, mixL_at k l hk] at hM
 have hK : k25.K w0 l[k] cs := two_came' ((twoK w0).K_of_M hM)
 have hc : ∀ j u, cs[j]? = some u → w.cell? ⟨g, k * 5 + j, none⟩ = some u := fun j u hj => by
  have := hc0 j u hj
  rw [add0] at this
  exact this
 obtain ⟨A3, c3, A4, c4, rfl, l3, g3, l4, g4⟩ := k25_open hK
 rw [add0]
 exact ⟨A3, c3, A4, c4, hc 0 _ rfl, hc 1 _ rfl, hc 2 _ rfl, hc 3 _ rfl, hc 4 _ rfl, l3, g3, l4, g4⟩
/-- What double says of a piece. -/
def doubleC (x : DT) : Prop := ∀ (left op r : Nat), left ≤ 2000 → weighD x left op = some r → ∀ (w : World) (A3 : Option Addr) (c3 : Nat) (A4 : Option Addr) (c4 : Nat), x.f3.length ≤ c3 → Kd.string.C w A3 x.f3.length x.f3 → x.f4.length ≤ c4 → k25.C w A4 x.f4.length x.f4 →
 Calls Tryz.prog 21 #[aggD x A3 c3 A4 c4] w fun e w' => Below w.heap.size w w' ∧ ∃ v3 v4, e = .returned (.agg #[.int .i64 x.f0, .int .i64 x.f1, .string x.f2, v3, v4]) ∧ k25.M w' w.heap.size (fun _ => True) x (dCells x v3 v4)
/-- double's own block, its result, and its rows, k pieces doubled. -/
structure DInv (w wr : World) (x : DT) (m : Nat) (v3 v4 : Value) (k : Nat) : Prop where
 bel : Below w.heap.size w wr
 blk : wr.heap[w.heap.size]? = some (.cells #[.int .i64 x.f0, .int .i64 x.f1, .string x.f2, v3, v4] 25 (0, 0))
 res : wr.heap[w.heap.size + 1]? = some (.cells zCells 25 (0, 0))
 m0 : w.heap.size + 1 < m
 mw : m ≤ wr.heap.size
 r3 : Kd.string.R 9 wr (w.heap.size + 2) (fun k => k < m) v3 x.f3
 r4 : (twoK w).R 25 wr (w.heap.size + 2) (fun k => m ≤ k) v4 (mixL k x.f4)
namespace DInv
variable {w wr w1 : World} {x : DT} {m : Nat} {v3 v4 : Value} {k : Nat}
theorem below (h : DInv w wr x m v3 v4 k) (hb : Below wr.heap.size wr w1) : DInv w w1 x m v3 v4 k :=
 ⟨below_then h.bel h.bel.size hb, (hb.block _ (blk_lt h.blk)).trans h.blk, (hb.block _ (blk_lt h.res)).trans h.res, h.m0, Nat.le_trans h.mw hb.size, Kd.R_below h.r3 hb, Kd.R_below h.r4 hb⟩
theorem made (h : DInv w wr x m v3 v4 k) (hk : x.f4.length ≤ k) : k25.M wr (w.heap.size + 2) (fun _ => True) x (dCells x v3 v4) := by
 have h4 := h.r4
 rw [mixL_all k _ hk] at h4
 exact k25_mkM wr (w.heap.size + 2) _ x (Kd.R_mono h.r3 (fun _ _ => trivial)) (Kd.R_mono (two_all h4) (fun _ _ => trivial))
theorem put (h : DInv w wr x m v3 v4 k) {g : Nat} (hg : v4.ownBlock = some g) {j : Nat} (hr : (twoK w).R 25 w1 (w.heap.size + 2) (fun k => m ≤ k) v4 (mixL j x.f4)) (hw : wr.grownBy w1 (some g)) : DInv w w1 x m v3 v4 j := by
 have hm := h.r4.1 g hg
 have hm0 := h.m0
 refine ⟨?_, blk_grown h.blk hw (by simp; omega), blk_grown h.res hw (by simp; omega), h.m0, Nat.le_trans h.mw hw.size, Kd.R_grown h.r3 hw (fun k hk => by simp; omega), hr⟩
 exact h.bel.grown hw h.bel.size (fun k hk => by injection hk with hk; omega)
theorem fin (h : DInv w wr x m v3 v4 k) (hk : x.f4.length ≤ k) : Below w.heap.size w (set5 wr (w.heap.size + 1) (.int .i64 x.f0) (.int .i64 x.f1) (.string x.f2) v3 v4) ∧ ∃ u3 u4, Ending.returned (.agg #[.int .i64 x.f0, .int .i64 x.f1, .string x.f2, v3, v4]) = Ending.returned (.agg #[.int .i64 x.f0, .int .i64 x.f1, .string x.f2, u3, u4]) ∧ k25.M (set5 wr (w.heap.size + 1) (.int .i64 x.f0) (.int .i64 x.f1) (.string x.f2) v3 v4) w.heap.size (fun _ => True) x (dCells x u3 u4) := by
 refine ⟨below5 h.bel (by omega) _ _ _ _ _, v3, v4, rfl, ?_⟩
 have h1 := k25.M_mono (ok' := fun j => w.heap.size + 2 ≤ j) (fun j hj => hj.2.1) (k25.M_bound (h.made hk))
 exact k25.M_mono (fun _ _ => trivial) (made5 (k25.M_lower (by omega) h1) (fun j hj => by omega) _ _ _ _ _)
end DInv
end Go.Proofs.YtidcecpbihmloaaGreatDoorE

namespace Go.Proofs.YtidcecpbihmloaaGreatDoorE
open Go Go.RowKit Go.Proofs.YtidcecpbihmloaaGreatDoorW.PrintWords Go.Proofs.YtidcecpbihmloaaGreatDoorW.PrintMore Go.Proofs.YtidcecpbihmloaaGreatDoorW.PrintLast Go.Proofs.YtidcecpbihmloaaGreatDoorX Go.Proofs.YtidcecpbihmloaaGreatDoor.P16 Go.Proofs.YtidcecpbihmloaaGreatDoor.M02
set_option linter.unusedVariables false
set_option linter.unusedSimpArgs false
set_option maxRecDepth 100000
theorem weigh_mem2 : ∀ {l : List DT} {left op r : Nat}, weighL l left op = some r → ∀ x ∈ l, ∃ left' op' r', left' ≤ left ∧ weighD x left' op' = some r'
 | [], _, _, _, _, x, hx => by cases hx
 | d :: l, left, op, r, h, x, hx => by
  rw [weighL] at h
  cases hd : weighD d left op with
  | none => rw [hd] at h; cases h
  | some q =>
   rw [hd] at h
   rcases List.mem_cons.1 hx with rfl | hx
   ·exact ⟨left, op, q, Nat.le_refl _, hd⟩
   ·obtain ⟨l', o', r', h1, h2⟩ := weigh_mem2 h x hx
    have := weighD_le _ _ _ _ hd
    exact ⟨l', o', r', by omega, h2⟩
set_option maxHeartbeats 8000000 in
theorem double_step (x : DT) (hx : OkD x) (ih : ∀ y ∈ x.f4, doubleC y) : doubleC x := by
 intro left op r hl hw w A3 c3 A4 c4 l3 g3 l4 g4
 obtain ⟨hL, hp, -, hnm, hwl⟩ := weigh_plain hw
 have hn4 : x.f4.length ≤ 2000 := by
  have := weighL_le _ _ _ _ hwl
  omega
 have hn3 : x.f3.length ≤ 2000 := by
  have hpl : plainD ⟨x.f0, x.f1, x.f2, x.f3, x.f4⟩ = true := hp
  rcases plain_cases hpl with ⟨_, _, _, h3, _⟩ | ⟨_, _, _, h3, _⟩ | ⟨_, _, h3, _⟩ | ⟨_, _, h3, _, _⟩ | ⟨_, _, _, h3⟩ | ⟨_, _, _, h3⟩
  all_goals first | (rw [h3]; exact Nat.zero_le _) | omega
 have HW := Aside0.mk hwl
 have IH := Aside0.mk ih
 have HL := Aside0.mk (show left - 1 ≤ 2000 by omega)
 have HB1 := Aside0.mk (below_alloc (below_alloc (Below.refl w.heap.size w) (dBox x A3 c3 A4 c4)) (.cells zCells 25))
 have HD1 := Aside0.mk (two_old_ w (dBox x A3 c3 A4 c4) (.cells zCells 25))
 have HZ1 := Aside0.mk (two_new_ w (dBox x A3 c3 A4 c4) (.cells zCells 25))
 have HC3 := Aside0.mk (clone_str A3 c3 x.f3 _ (Kd.string.C_below g3 HB1.out) (by omega))
 have H4 := Aside0.mk g4
 clear hx hp hw hnm hwl ih hl g3 g4
 have hsz : ((w.alloc (dBox x A3 c3 A4 c4)).alloc (.cells zCells 25)).heap.size = w.heap.size + 2 := by simp
 go_enter Tryz.func21, Tryz.ntmps21
 go_upto_region 2 with (go_at_call 37; go_loud (with_reducible refine HC3.out.mono ?_); rintro e w1 ⟨⟨v3, rfl, hr3⟩, hb1⟩; obtain ⟨A3n, c3n, rfl⟩ := Kd.R_slice hr3; have HR3 := Aside0.mk hr3; have HK1 := Aside0.mk hb1; have hd1 := (hb1.block w.heap.size (by simp; omega)).trans HD1.out; have HD2 := Aside0.mk hd1; have y3 := (blk_cell hd1 3).trans rfl; have z3 := blk_frozen hd1 3; clear hr3 hb1 hd1)
 have HB2 := Aside0.mk (below_then HB1.out HB1.out.size HK1.out)
 have HZ2 := Aside0.mk ((HK1.out.block (w.heap.size + 1) (by omega)).trans HZ1.out)
 have hs1 : w.heap.size + 2 ≤ w1.heap.size := by have := HK1.out.size; omega
 have HD3 := Aside0.mk (set_blk (j := 3) HD2.out (.slice A3n x.f3.length c3n))
 have HZ3 := Aside0.mk (blk_far HZ2.out (p := ⟨w.heap.size, 3, none⟩) (by simp) (.slice A3n x.f3.length c3n))
 have HB3 := Aside0.mk (below_set (j := 3) (v := .slice A3n x.f3.length c3n) HB2.out (Nat.le_refl w.heap.size))
 rw [hsz] at HR3
 have HR4 := Aside0.mk (Kd.R_far (p := ⟨w.heap.size, 3, none⟩) (Kd.R_mono (ok' := fun k => w.heap.size + 2 ≤ k ∧ k < w1.heap.size) (Kd.R_bound HR3.out) (fun k hk => ⟨hk.2.1, hk.2.2.1⟩)) (fun k hk => by have := hk.1; show k ≠ w.heap.size; omega) (.slice A3n x.f3.length c3n))
 have hs3 : (w1.setCell ⟨w.heap.size, 3, none⟩ (.slice A3n x.f3.length c3n)).heap.size = w1.heap.size := by simp
 simp only [List.setIfInBounds_toArray, List.set_cons_zero, List.set_cons_succ] at HD3
 generalize hW : w1.setCell ⟨w.heap.size, 3, none⟩ (.slice A3n x.f3.length c3n) = W2 at HD3 HZ3 HB3 HR4 hs3 ⊢
 clear hW y3 z3 HB1 HD1 HZ1 HC3 HB2 HD2 HZ2 HR3 HK1
 have HC4 := Aside0.mk (clone_d A4 c4 x.f4 w W2 (ReadsRow.imp_ H4.out HB3.out (fun _ _ hp => hp)) (by omega))
 have p4 := (blk_cell HD3.out 4).trans rfl
 go_upto_region 3 with (go_at_call 38; go_loud (with_reducible refine HC4.out.mono ?_); rintro e w3 ⟨⟨v4, rfl, hr4⟩, hb3⟩; obtain ⟨A4n, c4n, rfl⟩ := Kd.R_slice hr4; have HR5 := Aside0.mk hr4; have HK3 := Aside0.mk hb3; have hd3 := (hb3.block w.heap.size (blk_lt HD3.out)).trans HD3.out; have HD5 := Aside0.mk hd3; have y4 := (blk_cell hd3 4).trans rfl; have z4 := blk_frozen hd3 4; clear hr4 hb3 hd3)
 rw [List.length_map] at HR5
 have HV := Aside0.mk (show DInv w (w3.setCell ⟨w.heap.size, 4, none⟩ (.slice A4n x.f4.length c4n)) x W2.heap.size (.slice A3n x.f3.length c3n) (.slice A4n x.f4.length c4n) 0 from by
  have hm : w.heap.size + 2 ≤ W2.heap.size := by omega
  refine ⟨below_set (j := 4) (v := .slice A4n x.f4.length c4n) (below_then HB3.out HB3.out.size HK3.out) (Nat.le_refl w.heap.size), ?_, ?_, by omega, ?_, ?_, ?_⟩
  ·exact set_blk (j := 4) HD5.out (.slice A4n x.f4.length c4n)
  ·exact blk_far ((HK3.out.block _ (blk_lt HZ3.out)).trans HZ3.out) (p := ⟨w.heap.size, 4, none⟩) (by simp) _
  ·have := HK3.out.size; simp; omega
  ·exact Kd.R_mono (Kd.R_far (p := ⟨w.heap.size, 4, none⟩) (Kd.R_below HR4.out HK3.out) (fun k hk => by have := hk.1; show k ≠ w.heap.size; omega) _) (fun k hk => by have := hk.2; omega)
  ·rw [mixL_zero]
   exact Kd.R_far (p := ⟨w.heap.size, 4, none⟩) (Kd.R_mono (Kd.R_lower (Kd.R_bound HR5.out) (base' := w.heap.size + 2) hm) (fun k hk => hk.2.1)) (fun k hk => by show k ≠ w.heap.size; omega) _)
 obtain ⟨m, hm⟩ : ∃ m, m = W2.heap.size := ⟨_, rfl⟩
 (try rw [List.length_map])
 generalize hW : w3.setCell ⟨w.heap.size, 4, none⟩ (.slice A4n x.f4.length c4n) = W4 at HV ⊢
 rw [← hm] at HV
 clear hW hm hs3 HR5 HD5 HK3 y4 z4 HC4 p4 HD3 HZ3 HB3 HR4
 have p4 := (blk_cell HV.out.blk 4).trans rfl
 go_wp2_with fail
 go_loopg [16] x.f4.length (fun gk i wr => ∃ k : Nat, k ≤ x.f4.length ∧ i = .int .i64 k ∧ Aside0 (k + gk = x.f4.length ∧ DInv w wr x m (.slice A3n x.f3.length c3n) (.slice A4n x.f4.length c4n) k))
 case atStart => exact ⟨0, by omega, rfl, ⟨by omega, HV.out⟩⟩
 case round =>
  clear p4 HV
  obtain ⟨k, hk, rfl, HVV⟩ := hrel
  obtain ⟨hkg, hV⟩ := HVV.out
  have HV := Aside0.mk hV
  have HN := Aside0.mk hkg
  clear HVV hkg hV
  by_cases hlt : k < x.f4.length
  ·rcases A4n with _ | ad
   ·exact absurd (Kd.R_reads' HV.out.r4).2.2.2.2 (fun h => by obtain ⟨ad, h, _⟩ := h (by rw [mixL_len]; omega); cases h)
   obtain ⟨A3q, c3q, A4q, c4q, a0, a1, a2, a3, a4, hl3, hC3, hl4, hC4⟩ := at_two HV.out.r4 hlt
   obtain ⟨y, hy⟩ : ∃ y, y = x.f4[k] := ⟨_, rfl⟩
   have hym : y ∈ x.f4 := hy ▸ List.getElem_mem hlt
   have HY := Aside0.mk hy
   rw [← hy] at a0 a1 a2 a3 a4 hl3 hC3 hl4 hC4
   obtain ⟨l', o', r', hlw, hwy⟩ := weigh_mem2 HW.out y hym
   have HB5 := Aside0.mk ((below_alloc (Below.refl wr.heap.size wr) (dBox y A3q c3q A4q c4q)).drew)
   have HVw := Aside0.mk (HV.out.below HB5.out)
   have HT5 := Aside0.mk (show (wr.alloc (dBox y A3q c3q A4q c4q)).drew.heap[wr.heap.size]? = some (dBox y A3q c3q A4q c4q) from heap_alloc_new wr (dBox y A3q c3q A4q c4q))
   have HYC := Aside0.mk (IH.out y hym l' o' r' (by have := HL.out; omega) hwy (wr.alloc (dBox y A3q c3q A4q c4q)).drew A3q c3q A4q c4q hl3 (Kd.string.C_below hC3 HVw.out.bel) hl4 (k25.C_below hC4 HVw.out.bel))
   have hlt2 : (k : Int) < (x.f4.length : Int) := by omega
   clear hwy hlw hC3 hC4 hy
   go_upto_region 6 with fail
   clear a0 a1 a2 a3 a4
   refine start_ (n := 7) (S := fun w' => w'.cell? ⟨w.heap.size, 4, none⟩ = some (.slice (some ad) x.f4.length c4n) ∧ w'.cell? ⟨wr.heap.size, 0, none⟩ = some (.int .i64 y.f0) ∧ w'.cell? ⟨wr.heap.size, 1, none⟩ = some (.int .i64 y.f1) ∧ w'.cell? ⟨wr.heap.size, 2, none⟩ = some (.string y.f2) ∧ w'.cell? ⟨wr.heap.size, 3, none⟩ = some (.slice A3q y.f3.length c3q) ∧ w'.cell? ⟨wr.heap.size, 4, none⟩ = some (.slice A4q y.f4.length c4q)) (ds := [6]) #[false, false, false, false, false, false, false] (by kernel_rfl) rfl rfl ⟨(blk_cell HVw.out.blk 4).trans rfl, (blk_cell HT5.out 0).trans rfl, (blk_cell HT5.out 1).trans rfl, (blk_cell HT5.out 2).trans rfl, (blk_cell HT5.out 3).trans rfl, (blk_cell HT5.out 4).trans rfl⟩ (fun hHeld => ?_)
   refine pure_ (i := 0) (N := some 21) (v := ?_) (a' := ?_) #[true, false, false, false, false, false, false] rfl rfl (by kernel_rfl) (fun _ _ _ h => h) (Or.inl ⟨by rfl, ?_⟩) ?_ ?_
   rotate_left
   ·intro w'
    go_simp
    with_reducible rfl
   rotate_left
   ·simp only [Act.put, List.setIfInBounds_toArray, List.set_cons_zero, List.set_cons_succ, i64_w, i32_w]
    rfl
   refine pure_ (i := 2) (N := some 23) (v := ?_) (a' := ?_) #[true, false, true, false, false, false, false] rfl rfl (by kernel_rfl) (fun _ _ _ h => h) (Or.inl ⟨by rfl, ?_⟩) ?_ ?_
   rotate_left
   ·intro w'
    go_simp
    with_reducible rfl
   rotate_left
   ·simp only [Act.put, List.setIfInBounds_toArray, List.set_cons_zero, List.set_cons_succ, i64_w, i32_w]
    rfl
   refine take_ (i := 1) (N := some 22) (v := ?_) (a' := ?_) #[true, true, true, false, false, false, false] rfl rfl (by kernel_rfl) (fun _ _ _ h => h) (Or.inl ⟨by rfl, ?_⟩) hHeld ?_ ?_
   rotate_left
   ·intro w' s0
    go_split_ands
    go_simp
    with_reducible rfl
   rotate_left
   ·simp only [Act.put, List.setIfInBounds_toArray, List.set_cons_zero, List.set_cons_succ, i64_w, i32_w]
    rfl
   refine take_ (i := 3) (N := some 24) (v := ?_) (a' := ?_) #[true, true, true, true, false, false, false] rfl rfl (by kernel_rfl) (fun _ _ _ h => h) (Or.inl ⟨by rfl, ?_⟩) hHeld ?_ ?_
   rotate_left
   ·intro w' s0
    go_split_ands
    go_simp
    with_reducible rfl
   rotate_left
   ·simp only [Act.put, List.setIfInBounds_toArray, List.set_cons_zero, List.set_cons_succ, i64_w, i32_w]
    rfl
   refine one_ (i := 4) (N := some 25) #[true, true, true, true, true, false, false] rfl rfl (by kernel_rfl) (by decide) (fun K hK => ?_)
   refine goes_ Tryz.func21 (by kernel_rfl) rfl #[aggD y A3q c3q A4q c4q] (by rfl) rfl rfl (by (try simp only [List.map_toArray, List.map_cons, List.map_nil]); first | done | rfl) ?_
   refine HYC.out.mono ?_
   rintro e w' ⟨hb5, u3', u4', rfl, hm5⟩
   obtain ⟨B3, d3, B4, d4, rfl, rfl⟩ := made_slices hm5
   have HM5 := Aside0.mk hm5
   have HV6 := Aside0.mk (HVw.out.below hb5)
   have HT6 := Aside0.mk ((hb5.block wr.heap.size (blk_lt HT5.out)).trans HT5.out)
   clear hb5 hm5
   refine ⟨_, rfl, ?_⟩
   refine hK.out _ _ ⟨(blk_cell HV6.out.blk 4).trans rfl, (blk_cell HT6.out 0).trans rfl, (blk_cell HT6.out 1).trans rfl, (blk_cell HT6.out 2).trans rfl, (blk_cell HT6.out 3).trans rfl, (blk_cell HT6.out 4).trans rfl⟩ (fun hHeld => ?_)
   clear hK K
   refine norm_ (a' := ?_) ?_ ?_
   rotate_left
   ·show Act.put _ (some 25) _ = _
    simp only [Act.put, List.setIfInBounds_toArray, List.set_cons_zero, List.set_cons_succ, i64_w, i32_w]
    rfl
   refine pure_ (i := 5) (N := some 26) (v := ?_) (a' := ?_) #[true, true, true, true, true, true, false] rfl rfl (by kernel_rfl) (fun _ _ _ h => h) (Or.inl ⟨by rfl, ?_⟩) ?_ ?_
   rotate_left
   ·intro w'
    go_simp
    with_reducible rfl
   rotate_left
   ·simp only [Act.put, List.setIfInBounds_toArray, List.set_cons_zero, List.set_cons_succ, i64_w, i32_w]
    rfl
   refine last_ (i := 6) (N := none) #[true, true, true, true, true, true, true] rfl rfl (by kernel_rfl) (by decide) (fun K hK => ?_)
   refine put_step (twoK w) (w.heap.size + 2) (by rfl) rfl 25 (.tmp 26) (.tmp 25) rfl 25 k (mixL k x.f4) (y, true) _ (dCells y (.slice B3 y.f3.length d3) (.slice B4 y.f4.length d4)) (fun j => m ≤ j) (fun j => wr.heap.size + 1 ≤ j) rfl rfl rfl (by rfl) ?_ HV6.out.r4 hlt rfl ?_ ?_ ?_
   ·intro q hq
    simp only [List.mem_cons, List.not_mem_nil, or_false] at hq
    rcases hq with rfl | rfl | rfl | rfl | rfl <;> rfl
   ·have h := k25.M_mono (ok' := fun j => wr.heap.size + 1 ≤ j) (fun j hj => by have h2 := hj.2.1; simp at h2; exact h2) (k25.M_bound HM5.out)
    exact two_made (k25.M_lower (by have := HV.out.bel.size; have := HV.out.m0; have := HV.out.mw; simp; omega) h)
   ·intro j hj
    have h1 := HV.out.mw
    have h2 := Kd.R_lt HV.out.r4 ad.block rfl
    omega
   intro w6 hr1 hg1
   rw [HY.out, mixL_set k x.f4 hlt] at hr1
   refine hK.out _ _ ?_
   clear hK K
   refine done_ (by kernel_rfl) ?_
   have HVf := Aside0.mk (HV6.out.put (g := ad.block) rfl hr1 hg1)
   go_wp2_with fail
   go_roundg (gk - 1)
   case measure => have := HN.out; omega
   case rel => exact ⟨k + 1, by omega, by go_num, ⟨by have := HN.out; omega, HVf.out⟩⟩
  ·have q0 := (blk_cell HV.out.blk 0).trans rfl
   have q1 := (blk_cell HV.out.blk 1).trans rfl
   have q2 := (blk_cell HV.out.blk 2).trans rfl
   have q3 := (blk_cell HV.out.blk 3).trans rfl
   have q4 := (blk_cell HV.out.blk 4).trans rfl
   have hy := Lib.cell_of_heap HV.out.res
   have hz := Lib.frozen_of_heap HV.out.res
   have HM := Aside0.mk (HV.out.made (by omega))
   have HVV := Aside0.mk HV.out
   go_wp2_with fail
   refine bodyPost_ret (results_cell_row rfl _ _ (w.heap.size + 1) 25 _ (0, 0) _ rfl (set_blk (j := 4) (set_blk (j := 3) (set_blk (j := 2) (set_blk (j := 1) (set_blk (j := 0) HV.out.res _) _) _) _) _) Tryz.underlying25 rfl (by kernel_rfl)) rfl ?_
   exact HVV.out.fin (by omega)
theorem double_c (x : DT) (hx : OkD x) : doubleC x := by
 induction hx with
 | mk x h0 h1 h2 n3 h3 n4 h4 ih => exact double_step x (.mk x h0 h1 h2 n3 h3 n4 h4) ih
end Go.Proofs.YtidcecpbihmloaaGreatDoorE

namespace Go.Proofs.YtidcecpbihmloaaGreatDoorE
open Go Go.RowKit Go.Proofs.YtidcecpbihmloaaGreatDoorW.PrintWords Go.Proofs.YtidcecpbihmloaaGreatDoorW.PrintMore Go.Proofs.YtidcecpbihmloaaGreatDoorW.PrintLast Go.Proofs.YtidcecpbihmloaaGreatDoorX Go.Proofs.YtidcecpbihmloaaGreatDoor.P16 Go.Proofs.YtidcecpbihmloaaGreatDoor.M02
set_option linter.unusedVariables false
set_option linter.unusedSimpArgs false
theorem bs_mid (i j : Nat) (hij : i < j) (hj : j ≤ 2000) : wrap64 ((IntKind.u64.wrap (wrap64 ((i : Int) + (j : Int)))) / 2) = (((i + j) / 2 : Nat) : Int) := by
 rw [w64 (n := (i : Int) + (j : Int)) (by omega) (by omega), show IntKind.u64.wrap ((i : Int) + (j : Int)) = ((i : Int) + (j : Int)) % 18446744073709551616 from rfl]
 rw [w64 (by omega) (by omega)]
 omega
theorem less_f (a b : ByteArray) : cmp_Less_string.f a b = some (decide (cmpB a b < 0)) := by
 have h : Op.bytesLess a.toList b.toList = decide (cmpB a b < 0) := by
  rw [toList_data, toList_data]
  have := less_cmpB a b
  cases hb : Op.bytesLess a.data.toList b.data.toList with
  | true => exact (decide_eq_true (this.1 hb)).symm
  | false => exact (decide_eq_false (fun h => by rw [this.2 h] at hb; cases hb)).symm
 unfold cmp_Less_string.f cmp_isNaN_string.f
 simp [h]
theorem nan_f (a : ByteArray) : slices_isNaN_string.f a = some false := by
 unfold slices_isNaN_string.f
 simp
theorem lt_getD {ns : List ByteArray} (hn : namesD ns = true) (i j : Nat) (h : i < j) (hj : j < ns.length) : cmpB (ns.getD i em) (ns.getD j em) < 0 := by
 have := names_lt hn i j h hj
 rw [List.getD_eq_getElem?_getD, List.getD_eq_getElem?_getD, List.getElem?_eq_getElem hj, List.getElem?_eq_getElem (by omega : i < ns.length)]
 exact this
theorem bs_l0 (ns : List ByteArray) (name : ByteArray) (hn : namesD ns = true) (hl : ns.length ≤ 2000) : ∀ (d i j : Nat), i ≤ j → j ≤ ns.length → j - i ≤ d → (i = 0 ∨ cmpB (ns.getD (i - 1) em) name < 0) → (j = ns.length ∨ ¬ cmpB (ns.getD j em) name < 0) →
  ∃ (p : Nat) (b : Bool), Ev (fun k => slices_BinarySearch_string_string.l0 k ns name (ns.length : Int) (i : Int) (j : Int)) ((p : Int), b) ∧ (b = true → p < ns.length ∧ ns.getD p em = name) ∧ (b = false → name ∉ ns) := by
 intro d
 induction d with
 | zero =>
  intro i j hij hj hd h1 h2
  obtain rfl : i = j := by omega
  have fin : ¬ (i < ns.length ∧ ns.getD i em = name) → name ∉ ns := by
   intro hne hmem
   obtain ⟨q, hq, he⟩ := List.getElem_of_mem hmem
   have he : ns.getD q em = name := by rw [List.getD_eq_getElem?_getD, List.getElem?_eq_getElem hq]; exact he
   have self : cmpB name name = 0 := (cmpB_ord.eq _ _).2 rfl
   rcases Nat.lt_trichotomy q i with hlt | rfl | hgt
   ·rcases h1 with h1 | h1
    ·omega
    ·rcases Nat.lt_or_ge q (i - 1) with hlt2 | hge
     ·have := lt_getD hn q (i - 1) hlt2 (by omega)
      rw [he] at this
      have hneg := cmpB_ord.neg name (ns.getD (i - 1) em)
      omega
     ·obtain rfl : q = i - 1 := by omega
      rw [he] at h1
      omega
   ·exact hne ⟨hq, he⟩
   ·rcases h2 with h2 | h2
    ·omega
    ·have := lt_getD hn i q hgt hq
     rw [he] at this
     exact h2 this
  by_cases hi : i < ns.length
  ·by_cases he : ns.getD i em = name
   ·refine ⟨i, true, Ev.step (f := fun _ => some ((i : Int), true)) (fun k => ?_) (Ev.now _), fun _ => ⟨hi, he⟩, (fun h => by cases h)⟩
    simp only [slices_BinarySearch_string_string.l0]
    rw [if_neg (by omega), if_pos (by omega), if_pos (by omega), if_pos (by omega), get_rdOf, he, if_pos rfl]
   ·refine ⟨i, false, Ev.step (f := fun _ => some ((i : Int), false)) (fun k => ?_) (Ev.now _), (fun h => by cases h), fun _ => fin (fun h => he h.2)⟩
    simp only [slices_BinarySearch_string_string.l0]
    rw [if_neg (by omega), if_pos (by omega), if_pos (by omega), if_pos (by omega), get_rdOf, if_neg (fun h => he (B_inj (by rw [toList_data, toList_data] at h; exact h))), nan_f]
    rfl
  ·refine ⟨i, false, Ev.step (f := fun _ => some ((i : Int), false)) (fun k => ?_) (Ev.now _), (fun h => by cases h), fun _ => fin (fun h => hi h.1)⟩
   simp only [slices_BinarySearch_string_string.l0]
   rw [if_neg (by omega), if_neg (by omega)]
 | succ d ih =>
  intro i j hij hj hd h1 h2
  rcases Nat.lt_or_ge i j with hlt | hge
  ·have hm := bs_mid i j hlt (by omega)
   by_cases hc : cmpB (ns.getD ((i + j) / 2) em) name < 0
   ·obtain ⟨p, b, hev, hs⟩ := ih ((i + j) / 2 + 1) j (by omega) hj (by omega) (.inr (by simpa using hc)) h2
    refine ⟨p, b, Ev.step (fun k => ?_) hev, hs⟩
    simp only [slices_BinarySearch_string_string.l0, hm, less_f, get_rdOf]
    rw [if_pos (by omega), if_pos (by omega), if_pos (by omega), Option.bind_some, if_pos (decide_eq_true hc), w64 (by omega) (by omega)]
    rfl
   ·obtain ⟨p, b, hev, hs⟩ := ih i ((i + j) / 2) (by omega) (by omega) (by omega) h1 (.inr hc)
    refine ⟨p, b, Ev.step (fun k => ?_) hev, hs⟩
    simp only [slices_BinarySearch_string_string.l0, hm, less_f, get_rdOf]
    rw [if_pos (by omega), if_pos (by omega), if_pos (by omega), Option.bind_some, if_neg (by rw [decide_eq_true_eq]; exact hc)]
  ·exact ih i j hij hj (by omega) h1 h2
/-- Where a name is. -/
theorem bs_c (ns : List ByteArray) (name : ByteArray) (hn : namesD ns = true) (hl : ns.length ≤ 2000) : ∃ (p : Nat) (b : Bool), ((b = true → p < ns.length ∧ ns.getD p em = name) ∧ (b = false → name ∉ ns)) ∧ ∀ (w : World) (A : Option Addr) (c : Nat), GL w → Kd.string.C w A ns.length ns → ns.length ≤ c → Calls Tryz.prog 20 #[.slice A ns.length c, .string name] w fun e w' => e = .returned (.tuple #[.int .i64 p, .bool b]) ∧ Drawn0 w w' := by
 obtain ⟨p, b, ⟨k, hk⟩, hs⟩ := bs_l0 ns name hn hl ns.length 0 ns.length (Nat.zero_le _) (Nat.le_refl _) (by omega) (.inl rfl) (.inl rfl)
 exact ⟨p, b, hs, fun w A c hgl hC hc => slices_BinarySearch_string_string.calls k A c ns name p b w hgl hC hc (hk k (Nat.le_refl _))⟩
end Go.Proofs.YtidcecpbihmloaaGreatDoorE

namespace Go.Proofs.YtidcecpbihmloaaGreatDoorE
open Go Go.RowKit Go.Proofs.YtidcecpbihmloaaGreatDoorW.PrintWords Go.Proofs.YtidcecpbihmloaaGreatDoorW.PrintMore Go.Proofs.YtidcecpbihmloaaGreatDoorW.PrintLast Go.Proofs.YtidcecpbihmloaaGreatDoorX Go.Proofs.YtidcecpbihmloaaGreatDoor.P16 Go.Proofs.YtidcecpbihmloaaGreatDoor.M02
set_option linter.unusedVariables false
set_option linter.unusedSimpArgs false
set_option maxRecDepth 100000
theorem getS_none (x : DT) (name : ByteArray) (h : ¬ (x.f0 = 5 ∧ rightD x = true)) : getS x name = (zeroD, false) := by unfold getS; rw [if_neg h]
theorem getS_out (x : DT) (name : ByteArray) (h : name ∉ x.f3) : getS x name = (zeroD, false) := by
 unfold getS
 split
 ·rw [List.findIdx?_eq_none_iff.2]
  intro s hs
  simp only [beq_eq_false_iff_ne]
  intro e
  exact h (B_inj e ▸ hs)
 ·rfl
theorem getS_in (x : DT) (name : ByteArray) (h5 : x.f0 = 5) (hr : rightD x = true) (p : Nat) (hp : p < x.f3.length) (he : x.f3.getD p em = name) (hn : namesD x.f3 = true) : getS x name = (x.f4.getD p zeroD, true) := by
 unfold getS
 rw [if_pos ⟨h5, hr⟩, (List.findIdx?_eq_some_iff_getElem).2 ⟨hp, ?_, ?_⟩]
 ·rw [List.getD_eq_getElem?_getD, List.getElem?_eq_getElem hp] at he
  simp only [Option.getD_some] at he
  rw [he]
  simp
 ·intro j hj
  simp only [beq_iff_eq]
  intro e
  have h1 := lt_getD hn j p hj hp
  have h2 : x.f3.getD j em = name := by
   rw [List.getD_eq_getElem?_getD, List.getElem?_eq_getElem (by omega : j < x.f3.length)]
   exact B_inj e
  rw [h2, he] at h1
  have : cmpB name name = 0 := (cmpB_ord.eq _ _).2 rfl
  omega
/-- What Get says. -/
def getP (w : World) (z : DT × Bool) (e : Ending) (w' : World) : Prop :=
 Below w.heap.size w w' ∧ ∃ A3 c3 A4 c4, e = .returned (.tuple #[aggD z.1 A3 c3 A4 c4, .bool z.2]) ∧ z.1.f3.length ≤ c3 ∧ Kd.string.C w' A3 z.1.f3.length z.1.f3 ∧ z.1.f4.length ≤ c4 ∧ k25.C w' A4 z.1.f4.length z.1.f4
theorem getP_zero {w w' : World} (h : Below w.heap.size w w') : getP w (zeroD, false) (.returned (.tuple #[.agg zCells, .bool false])) w' :=
 ⟨h, none, 0, none, 0, rfl, Nat.le_refl _, Kd.C_nil _ _, Nat.le_refl _, Kd.C_nil _ _⟩
set_option maxHeartbeats 8000000 in
theorem Get_c (x : DT) (hx : OkD x) (name : ByteArray) (w : World) (hgl : GL w) (A3 : Option Addr) (c3 : Nat) (A4 : Option Addr) (c4 : Nat) (l3 : x.f3.length ≤ c3) (g3 : Kd.string.C w A3 x.f3.length x.f3) (l4 : x.f4.length ≤ c4) (g4 : k25.C w A4 x.f4.length x.f4) :
  Calls Tryz.prog 9 #[aggD x A3 c3 A4 c4, .string name] w (getP w (getS x name)) := by
 have HB := Aside0.mk (below_alloc (below_alloc (Below.refl w.heap.size w) (dBox x A3 c3 A4 c4)) (.cells zCells 25))
 have HD := Aside0.mk (two_old_ w (dBox x A3 c3 A4 c4) (.cells zCells 25))
 have HZ := Aside0.mk (two_new_ w (dBox x A3 c3 A4 c4) (.cells zCells 25))
 have HG := Aside0.mk hgl
 have H3 := Aside0.mk g3
 have H4 := Aside0.mk g4
 have HX := Aside0.mk hx
 have hsz : ((w.alloc (dBox x A3 c3 A4 c4)).alloc (.cells zCells 25)).heap.size = w.heap.size + 2 := by simp
 have HR := Aside0.mk (Right_c x hx _ (HG.out.below HB.out) A3 c3 A4 c4 l3 (Kd.string.C_below g3 HB.out) l4 (k25.C_below g4 HB.out))
 clear hgl g3 g4 hx
 by_cases h5 : x.f0 = 5
 ·have k5 : (x.f0 != 5) = false := by rw [h5]; rfl
  cases hr : rightD x with
  | false =>
   rw [getS_none x name (fun h => by rw [hr] at h; cases h.2)]
   rw [hr] at HR
   clear hr h5
   go_enter Tryz.func9, Tryz.ntmps9
   go_wp2_with (go_at_call 15; go_loud (with_reducible refine HR.out.mono ?_); rintro e w1 ⟨rfl, hb⟩; have HB1 := Aside0.mk hb; have hz1 := (hb.block (w.heap.size + 1) (by omega)).trans HZ.out; have HZ1 := Aside0.mk hz1; have hy := Lib.cell_of_heap hz1; have hz := Lib.frozen_of_heap hz1; clear hb hz1)
   refine bodyPost_ret (results_ct rfl _ _ (w.heap.size + 1) 25 _ (0, 0) _ rfl (set_blk (j := 4) (set_blk (j := 3) (set_blk (j := 2) (set_blk (j := 1) (set_blk (j := 0) HZ1.out _) _) _) _) _) Tryz.underlying25 rfl (by kernel_rfl)) rfl ?_
   exact getP_zero (below5 (below_then HB.out HB.out.size HB1.out) (by omega) _ _ _ _ _)
  | true =>
   rw [hr] at HR
   have HR5 := Aside0.mk (And.intro h5 hr)
   obtain ⟨r, hwr⟩ := Option.isSome_iff_exists.1 hr
   obtain ⟨hL, hp, -, hnm, hwl⟩ := weigh_plain hwr
   have hn4 : x.f4.length ≤ 2000 := by have := weighL_le _ _ _ _ hwl; omega
   have hn34 : x.f3.length = x.f4.length := by
    have hpl : plainD ⟨x.f0, x.f1, x.f2, x.f3, x.f4⟩ = true := hp
    rcases plain_cases hpl with ⟨e0, _⟩ | ⟨e0, _⟩ | ⟨e0, _⟩ | ⟨e0, _⟩ | ⟨e0, _⟩ | ⟨_, _, _, h3⟩
    all_goals first | exact h3 | (rw [h5] at e0; cases e0)
   obtain ⟨p, b, hs, hbs⟩ := bs_c x.f3 name hnm (by omega)
   have HW := Aside0.mk hwl
   have HNM := Aside0.mk hnm
   have HN34 := Aside0.mk hn34
   have HS := Aside0.mk hs
   have HBS := Aside0.mk hbs
   clear hr h5 hwr hL hp hnm hwl hs hbs hn34
   cases b with
   | false =>
    rw [getS_out x name (HS.out.2 rfl)]
    go_enter Tryz.func9, Tryz.ntmps9
    go_wp2_with (first | (go_at_call 15; go_loud (with_reducible refine HR.out.mono ?_); rintro e w1 ⟨rfl, hb⟩; have HB1 := Aside0.mk hb; have HB2 := Aside0.mk (below_then HB.out HB.out.size hb); have hd1 := (hb.block w.heap.size (by omega)).trans HD.out; have q3 := (blk_cell hd1 3).trans rfl; have hz1 := (hb.block (w.heap.size + 1) (by omega)).trans HZ.out; have HZ1 := Aside0.mk hz1; have HD1 := Aside0.mk hd1; clear hb hz1 hd1) | (go_at_call 20; go_loud (with_reducible refine (HBS.out w1 A3 c3 (HG.out.below HB2.out) (Kd.string.C_below H3.out HB2.out) l3).mono ?_); rintro e w2 ⟨rfl, hd2⟩; have HB3 := Aside0.mk hd2.below; have hz2 := (hd2.below.block (w.heap.size + 1) (blk_lt HZ1.out)).trans HZ1.out; have HZ2 := Aside0.mk hz2; have hy := Lib.cell_of_heap hz2; have hz := Lib.frozen_of_heap hz2; clear hd2 hz2))
    refine bodyPost_ret (results_ct rfl _ _ (w.heap.size + 1) 25 _ (0, 0) _ rfl (set_blk (j := 4) (set_blk (j := 3) (set_blk (j := 2) (set_blk (j := 1) (set_blk (j := 0) HZ2.out _) _) _) _) _) Tryz.underlying25 rfl (by kernel_rfl)) rfl ?_
    exact getP_zero (below5 (below_then HB2.out HB2.out.size HB3.out) (by omega) _ _ _ _ _)
   | true =>
    obtain ⟨hp3, hpe⟩ := HS.out.1 rfl
    have hp4 : p < x.f4.length := by have := HN34.out; omega
    rw [getS_in x name HR5.out.1 HR5.out.2 p hp3 hpe HNM.out]
    clear hpe
    obtain ⟨ad, A3q, c3q, A4q, c4q, hA4, a0, a1, a2, a3, a4, hl3, hC3, hl4, hC4⟩ := at_T25 H4.out (p : Int) (by omega) (by omega)
    obtain ⟨y, hy⟩ : ∃ y, y = rd_T25 x.f4 (p : Int) := ⟨_, rfl⟩
    have HTK := Aside0.mk (rd_take x.f4 p (by omega)).1
    have HYP := Aside0.mk (show x.f4.getD p zeroD = y from by
     rw [hy]
     unfold rd_T25
     rw [Int.toNat_natCast, List.getD_eq_getElem?_getD, List.getD_eq_getElem?_getD, List.getElem?_eq_getElem (by omega : p < x.f4.length)]
     rfl)
    rw [← hy] at a0 a1 a2 a3 a4 hl3 hC3 hl4 hC4 HTK
    clear hy
    subst hA4
    rw [Int.toNat_natCast] at a0 a1 a2 a3 a4
    obtain ⟨l', o', r', hlw, hwy⟩ := weigh_mem2 HW.out y HTK.out
    have HYC := Aside0.mk (double_c y (HX.out.out.2.2.2.2.2.2 y HTK.out) l' o' r' (by omega) hwy)
    have HC := Aside0.mk (And.intro (And.intro hl3 hC3) (And.intro hl4 hC4))
    have HA0 := Aside0.mk a0
    have HA1 := Aside0.mk a1
    have HA2 := Aside0.mk a2
    have HA3 := Aside0.mk a3
    have HA4 := Aside0.mk a4
    have hlt2 : (p : Int) < (x.f4.length : Int) := by omega
    have hlt3 : p < x.f4.length := by omega
    clear hlw hwy hl3 hC3 hl4 hC4 a0 a1 a2 a3 a4
    rw [HYP.out]
    go_enter Tryz.func9, Tryz.ntmps9
    go_wp2_with (first | (go_at_call 15; go_loud (with_reducible refine HR.out.mono ?_); rintro e w1 ⟨rfl, hb⟩; have HB1 := Aside0.mk hb; have HB2 := Aside0.mk (below_then HB.out HB.out.size hb); have hd1 := (hb.block w.heap.size (by omega)).trans HD.out; have q3 := (blk_cell hd1 3).trans rfl; have hz1 := (hb.block (w.heap.size + 1) (by omega)).trans HZ.out; have HZ1 := Aside0.mk hz1; have HD1 := Aside0.mk hd1; clear hb hz1 hd1) | (go_at_call 20; go_loud (with_reducible refine (HBS.out w1 A3 c3 (HG.out.below HB2.out) (Kd.string.C_below H3.out HB2.out) l3).mono ?_); rintro e w2 ⟨rfl, hd2⟩; have HB3 := Aside0.mk (below_then HB2.out HB2.out.size hd2.below); have hz2 := (hd2.below.block (w.heap.size + 1) (blk_lt HZ1.out)).trans HZ1.out; have HZ2 := Aside0.mk hz2; have hd2' := (hd2.below.block w.heap.size (blk_lt HD1.out)).trans HD1.out; have r4 := (blk_cell hd2' 4).trans rfl; have a0 := pw_cell_below HB3.out HA0.out; have a1 := pw_cell_below HB3.out HA1.out; have a2 := pw_cell_below HB3.out HA2.out; have a3 := pw_cell_below HB3.out HA3.out; have a4 := pw_cell_below HB3.out HA4.out; clear hd2 hz2 hd2') | (go_at_call 21; go_loud (with_reducible refine (HYC.out w2 A3q c3q A4q c4q HC.out.1.1 (Kd.string.C_below HC.out.1.2 HB3.out) HC.out.2.1 (k25.C_below HC.out.2.2 HB3.out)).mono ?_); rintro e w4 ⟨hb4, u3, u4, rfl, hm4⟩; obtain ⟨A3z, c3z, A4z, c4z, rfl, rfl⟩ := made_slices hm4; have HB4 := Aside0.mk hb4; have HM4 := Aside0.mk hm4; have hz4 := (hb4.block (w.heap.size + 1) (blk_lt HZ2.out)).trans HZ2.out; have HZ4 := Aside0.mk hz4; have hy := Lib.cell_of_heap hz4; have hz := Lib.frozen_of_heap hz4; clear hb4 hm4 hz4))
    refine bodyPost_ret (results_ct rfl _ _ (w.heap.size + 1) 25 _ (0, 0) _ rfl (set_blk (j := 4) (set_blk (j := 3) (set_blk (j := 2) (set_blk (j := 1) (set_blk (j := 0) HZ4.out _) _) _) _) _) Tryz.underlying25 rfl (by kernel_rfl)) rfl ?_
    have hz2 := blk_lt HZ2.out
    have hm := made5 (b := w.heap.size + 1) (k25.M_mono (ok' := fun j => w2.heap.size ≤ j) (fun j hj => hj.2.1) (k25.M_bound HM4.out)) (fun j hj => by omega) (.int .i64 y.f0) (.int .i64 y.f1) (.string y.f2) (.slice A3z y.f3.length c3z) (.slice A4z y.f4.length c4z)
    obtain ⟨m1, m2, m3, m4⟩ := made_open hm
    exact ⟨below5 (below_then HB3.out HB3.out.size HB4.out) (by omega) _ _ _ _ _, A3z, c3z, A4z, c4z, rfl, m1, m2, m3, m4⟩
 ·have k5 : (x.f0 != 5) = true := by simpa using h5
  rw [getS_none x name (fun h => h5 h.1)]
  clear h5 HR
  have hy := Lib.cell_of_heap HZ.out
  have hz := Lib.frozen_of_heap HZ.out
  go_enter Tryz.func9, Tryz.ntmps9
  go_wp2_with fail
  refine bodyPost_ret (results_ct rfl _ _ (w.heap.size + 1) 25 zCells (0, 0) _ rfl HZ.out Tryz.underlying25 rfl (by kernel_rfl)) rfl ?_
  exact getP_zero HB.out
end Go.Proofs.YtidcecpbihmloaaGreatDoorE

namespace Go.Proofs.YtidcecpbihmloaaGreatDoorE
open Go Go.RowKit Go.Proofs.YtidcecpbihmloaaGreatDoorW.PrintWords Go.Proofs.YtidcecpbihmloaaGreatDoorW.PrintMore Go.Proofs.YtidcecpbihmloaaGreatDoorW.PrintLast Go.Proofs.YtidcecpbihmloaaGreatDoorX Go.Proofs.YtidcecpbihmloaaGreatDoor.P16 Go.Proofs.YtidcecpbihmloaaGreatDoor.M02
set_option linter.unusedVariables false
set_option linter.unusedSimpArgs false
set_option maxRecDepth 100000
theorem ret_bool {a b : Bool} (h : a = b) : Ending.returned (.bool a) = .returned (.bool b) := by rw [h]
theorem ret_str {a b : ByteArray} (h : a = b) : Ending.returned (.string a) = .returned (.string b) := by rw [h]
theorem letter_c (c : UInt8) (w : World) : Calls Tryz.prog 72 #[.int .u8 (c.toNat : Int)] w fun e w' => e = .returned (.bool (isLet c)) ∧ w' = w := by
 have hc := u8_lt c
 obtain ⟨r, hr⟩ : ∃ r, r = isLet c := ⟨_, rfl⟩
 rw [← hr]
 have HR := Aside0.mk hr
 clear hr
 by_cases h1 : 97 ≤ c.toNat
 ·by_cases h2 : c.toNat ≤ 122
  ·have HV := Aside0.mk (show r = true by rw [HR.out]; unfold isLet; simp [h1, h2])
   go_enter Tryz.func72, Tryz.ntmps72
   go_wp2_with fail
   go_ret
   exact ⟨ret_bool (by have h := HV.out; first | exact h.symm | exact (decide_eq_true (by omega)).trans h.symm | exact (decide_eq_false (by omega)).trans h.symm), rfl⟩
  ·have HV := Aside0.mk (show r = false by rw [HR.out]; unfold isLet; simp; omega)
   go_enter Tryz.func72, Tryz.ntmps72
   go_wp2_with fail
   go_ret
   exact ⟨ret_bool (by have h := HV.out; first | exact h.symm | exact (decide_eq_true (by omega)).trans h.symm | exact (decide_eq_false (by omega)).trans h.symm), rfl⟩
 ·have HV := Aside0.mk (show r = false by rw [HR.out]; unfold isLet; simp; omega)
  go_enter Tryz.func72, Tryz.ntmps72
  go_wp2_with fail
  go_ret
  exact ⟨ret_bool (by have h := HV.out; first | exact h.symm | exact (decide_eq_true (by omega)).trans h.symm | exact (decide_eq_false (by omega)).trans h.symm), rfl⟩
theorem digit_c (c : UInt8) (w : World) : Calls Tryz.prog 74 #[.int .u8 (c.toNat : Int)] w fun e w' => e = .returned (.bool (isDig c)) ∧ w' = w := by
 have hc := u8_lt c
 obtain ⟨r, hr⟩ : ∃ r, r = isDig c := ⟨_, rfl⟩
 rw [← hr]
 have HR := Aside0.mk hr
 clear hr
 by_cases h0 : c.toNat = 45
 ·have HV := Aside0.mk (show r = true by rw [HR.out]; unfold isDig; simp [h0])
  have h0' : ((c.toNat : Int) == 45) = true := by rw [h0]; rfl
  clear h0
  go_enter Tryz.func74, Tryz.ntmps74
  go_wp2_with fail
  go_ret
  exact ⟨ret_bool (by have h := HV.out; first | exact h.symm | exact (decide_eq_true (by omega)).trans h.symm | exact (decide_eq_false (by omega)).trans h.symm), rfl⟩
 have h0' : ((c.toNat : Int) == 45) = false := by rw [beq_eq_false_iff_ne]; omega
 by_cases h1 : 48 ≤ c.toNat
 ·by_cases h2 : c.toNat ≤ 57
  ·have HV := Aside0.mk (show r = true by rw [HR.out]; unfold isDig; simp [h1, h2])
   clear h0
   go_enter Tryz.func74, Tryz.ntmps74
   go_wp2_with fail
   go_ret
   exact ⟨ret_bool (by have h := HV.out; first | exact h.symm | exact (decide_eq_true (by omega)).trans h.symm | exact (decide_eq_false (by omega)).trans h.symm), rfl⟩
  ·have HV := Aside0.mk (show r = false by rw [HR.out]; unfold isDig; simp [h0]; omega)
   clear h0
   go_enter Tryz.func74, Tryz.ntmps74
   go_wp2_with fail
   go_ret
   exact ⟨ret_bool (by have h := HV.out; first | exact h.symm | exact (decide_eq_true (by omega)).trans h.symm | exact (decide_eq_false (by omega)).trans h.symm), rfl⟩
 ·have HV := Aside0.mk (show r = false by rw [HR.out]; unfold isDig; simp [h0]; omega)
  clear h0
  go_enter Tryz.func74, Tryz.ntmps74
  go_wp2_with fail
  go_ret
  exact ⟨ret_bool (by have h := HV.out; first | exact h.symm | exact (decide_eq_true (by omega)).trans h.symm | exact (decide_eq_false (by omega)).trans h.symm), rfl⟩
set_option maxHeartbeats 1000000 in
theorem nam_c (c : UInt8) (w : World) : Calls Tryz.prog 94 #[.int .u8 (c.toNat : Int)] w fun e w' => e = .returned (.bool (isNam c)) ∧ w' = w := by
 have hc := u8_lt c
 obtain ⟨r, hr⟩ : ∃ r, r = isNam c := ⟨_, rfl⟩
 rw [← hr]
 obtain ⟨a, ha⟩ : ∃ a, a = isLet c := ⟨_, rfl⟩
 obtain ⟨b, hb⟩ : ∃ b, b = isDig c := ⟨_, rfl⟩
 have HR := Aside0.mk (show r = (a || b || decide (c.toNat = 58) || decide (c.toNat = 46)) by rw [hr, ha, hb]; rfl)
 have HA : Aside0 (∀ W, Calls Tryz.prog 72 #[.int .u8 (c.toNat : Int)] W fun e w' => e = .returned (.bool a) ∧ w' = W) := ⟨fun W => by rw [ha]; exact letter_c c W⟩
 have HD : Aside0 (∀ W, Calls Tryz.prog 74 #[.int .u8 (c.toNat : Int)] W fun e w' => e = .returned (.bool b) ∧ w' = W) := ⟨fun W => by rw [hb]; exact digit_c c W⟩
 clear hr ha hb
 cases a with
 | true =>
  go_enter Tryz.func94, Tryz.ntmps94
  go_wp2_with (go_at_call 72; refine (HA.out _).mono ?_; rintro e w' ⟨rfl, rfl⟩)
  go_ret
  exact ⟨ret_bool (by have h := HR.out; exact h.symm), rfl⟩
 | false =>
  cases b with
  | true =>
   go_enter Tryz.func94, Tryz.ntmps94
   go_wp2_with (first | (go_at_call 72; refine (HA.out _).mono ?_; rintro e w' ⟨rfl, rfl⟩) | (go_at_call 74; refine (HD.out _).mono ?_; rintro e w' ⟨rfl, rfl⟩))
   go_ret
   exact ⟨ret_bool (by have h := HR.out; exact h.symm), rfl⟩
  | false =>
   by_cases h58 : c.toNat = 58
   ·have h0' : ((c.toNat : Int) == 58) = true := by rw [h58]; rfl
    have HV := Aside0.mk (show r = true by rw [HR.out, h58]; rfl)
    clear h58
    go_enter Tryz.func94, Tryz.ntmps94
    go_wp2_with (first | (go_at_call 72; refine (HA.out _).mono ?_; rintro e w' ⟨rfl, rfl⟩) | (go_at_call 74; refine (HD.out _).mono ?_; rintro e w' ⟨rfl, rfl⟩))
    go_ret
    exact ⟨ret_bool (by have h := HV.out; first | exact h.symm | exact (decide_eq_true (by omega)).trans h.symm | exact (decide_eq_false (by omega)).trans h.symm), rfl⟩
   ·have h0' : ((c.toNat : Int) == 58) = false := by rw [beq_eq_false_iff_ne]; omega
    have h46 : ((c.toNat : Int) == 46) = decide (c.toNat = 46) := by rw [Bool.eq_iff_iff, beq_iff_eq, decide_eq_true_eq]; omega
    have HV := Aside0.mk (show r = ((c.toNat : Int) == 46) by rw [HR.out, h46, decide_eq_false h58]; rfl)
    clear h58 h46
    go_enter Tryz.func94, Tryz.ntmps94
    go_wp2_with (first | (go_at_call 72; refine (HA.out _).mono ?_; rintro e w' ⟨rfl, rfl⟩) | (go_at_call 74; refine (HD.out _).mono ?_; rintro e w' ⟨rfl, rfl⟩))
    go_ret
    exact ⟨ret_bool (by have h := HV.out; first | exact h.symm | exact (decide_eq_true (by omega)).trans h.symm | exact (decide_eq_false (by omega)).trans h.symm), rfl⟩
theorem tw_yes {α : Type} (p : α → Bool) : ∀ (l : List α) (k : Nat) (h : k < (l.takeWhile p).length) (h' : k < l.length), p l[k] = true
 | [], k, h, _ => by simp at h
 | x :: l, k, h, h' => by
  rw [List.takeWhile_cons] at h
  by_cases hp : p x = true
  ·rw [if_pos hp] at h
   cases k with
   | zero => exact hp
   | succ k => exact tw_yes p l k (by simpa using h) (by simpa using h')
  ·rw [if_neg hp] at h; simp at h
theorem tw_no {α : Type} (p : α → Bool) : ∀ (l : List α) (h : (l.takeWhile p).length < l.length), p l[(l.takeWhile p).length] = false
 | [], h => by simp at h
 | x :: l, h => by
  by_cases hp : p x = true
  ·have e : ((x :: l).takeWhile p).length = (l.takeWhile p).length + 1 := by rw [List.takeWhile_cons, if_pos hp]; rfl
   have h2 : (l.takeWhile p).length < l.length := by rw [e] at h; simpa using h
   have := tw_no p l h2
   simp only [e, List.getElem_cons_succ]
   exact this
  ·have e : ((x :: l).takeWhile p).length = 0 := by rw [List.takeWhile_cons, if_neg hp]; rfl
   simp only [e, List.getElem_cons_zero]
   simpa using hp
/-- The state of the reader, at a place. -/
abbrev SQ (w0 W : World) (g : Nat) (s : ByteArray) (a : Int) (deep er : Int) : Prop := IsS61 w0 W g s a deep er
end Go.Proofs.YtidcecpbihmloaaGreatDoorE

namespace Go.Proofs.YtidcecpbihmloaaGreatDoorE
open Go Go.RowKit Go.Proofs.YtidcecpbihmloaaGreatDoorW.PrintWords Go.Proofs.YtidcecpbihmloaaGreatDoorW.PrintMore Go.Proofs.YtidcecpbihmloaaGreatDoorW.PrintLast Go.Proofs.YtidcecpbihmloaaGreatDoorX Go.Proofs.YtidcecpbihmloaaGreatDoor.P16 Go.Proofs.YtidcecpbihmloaaGreatDoor.M02
set_option linter.unusedVariables false
set_option linter.unusedSimpArgs false
set_option maxRecDepth 100000
set_option maxHeartbeats 4000000 in
theorem drun_let (s : ByteArray) (hs : s.size ≤ 1000000000) (a : Nat) (ha : a ≤ s.size) (deep er : Int) (g : Nat) (w0 w : World) (hI : SQ w0 w g s (a : Int) deep er) (hB : Below w0.heap.size w0 w) :
  Calls Tryz.prog 73 #[.pointer (some ⟨g, 0, none⟩), .func (.func 72) #[] #[]] w fun e w' => e = .returned (.string (mkB (((B s).drop a).takeWhile isLet))) ∧ SQ w0 w' g s ((a + (((B s).drop a).takeWhile isLet).length : Nat) : Int) deep er ∧ Below w0.heap.size w0 w' ∧ KeepBut w w' g none := by
 have HI := Aside0.mk hI
 have HB := Aside0.mk hB
 obtain ⟨T, hT⟩ : ∃ T, T = ((B s).drop a).takeWhile isLet := ⟨_, rfl⟩
 rw [← hT]
 have hTl : a + T.length ≤ s.size := by
  have h := tw_le isLet ((B s).drop a)
  rw [← hT, List.length_drop, B_len] at h
  omega
 have HT := Aside0.mk hT
 have HEX := Aside0.mk (show s.extract a (a + T.length) = mkB T by
  have h1 : B (s.extract a (a + T.length)) = T := by
   rw [Go.Proofs.YtidcecpbihmloaaGreatDoor.K06.B_extract, Nat.add_sub_cancel_left, hT, ← take_len]
  exact B_inj (h1.trans (mkB_list _).symm))
 have q1 : w.cell? ⟨g, 1, none⟩ = some (.int .i64 (a : Int)) := (blk_cell hI.1 1).trans rfl
 clear hI hB hT
 go_enter Tryz.func73, Tryz.ntmps73
 go_wp2_with fail
 go_loopg [] T.length (fun gk wr => ∃ k : Nat, Aside0 (k + gk = T.length ∧ SQ w0 wr g s ((a + k : Nat) : Int) deep er ∧ Below w0.heap.size w0 wr ∧ KeepBut w wr g none))
 case atStart => exact ⟨0, by omega, HI.out, HB.out, KeepBut.refl _ _ _⟩
 case round =>
  obtain ⟨k, HL⟩ := hrel
  have hkg : k + gk ≤ T.length ∧ T.length ≤ k + gk := by have := HL.out.1; omega
  obtain ⟨n, hn⟩ : ∃ n, n = a + k := ⟨_, rfl⟩
  rw [← hn] at HL
  have HN := Aside0.mk hn
  have hnk : a + k ≤ n ∧ n ≤ a + k := by omega
  clear hn
  have r0 : wr.cell? ⟨g, 0, none⟩ = some (.string s) := (blk_cell HL.out.2.1.1 0).trans rfl
  have r1 : wr.cell? ⟨g, 1, none⟩ = some (.int .i64 (n : Int)) := (blk_cell HL.out.2.1.1 1).trans rfl
  have f1 := blk_frozen HL.out.2.1.1 1
  have b1 : (0 : Int) ≤ (a : Int) := by omega
  have b2 : (a : Int) ≤ (n : Int) := by omega
  have b3 : (n : Int) ≤ (s.size : Int) := by omega
  by_cases hlt : n < s.size
  ·have hel : (s[n]'hlt) = ((B s).drop a)[k]'(by rw [List.length_drop, B_len]; omega) := by
    rw [List.getElem_drop]
    simp only [← HN.out]
    simp [B, ByteArray.getElem_eq_getElem_data]
   by_cases hk : k < T.length
   ·have hp : isLet (s[n]'hlt) = true := by
     rw [hel]
     exact tw_yes isLet _ k (by rw [← HT.out]; exact hk) _
    have HFC := Aside0.mk (letter_c (s[n]'hlt))
    rw [hp] at HFC
    clear hel hp
    go_wp2_with fail
    go_quiet ((go_at_call 72; refine Calls.quiet_of_same (HFC.out _)))
    go_wp2_with fail
    go_roundg (gk - 1)
    case measure => omega
    case rel => exact ⟨k + 1, by omega, by
     have h := (IsS61.drewN HL.out.2.1 nq).set_1 ((n : Int) + 1)
     rw [show ((a + (k + 1) : Nat) : Int) = (n : Int) + 1 by have := HN.out; omega]
     exact h, (pw_below_drewN HL.out.2.2.1 nq).setCell (p := ⟨g, 1, none⟩) HL.out.2.1.2 _, (HL.out.2.2.2.trans (KeepBut.of_below (pw_below_drewN (Below.refl _ _) nq) g none) (.inl rfl)).set_ 1 _⟩
   ·have hp : isLet (s[n]'hlt) = false := by
     have hkT : k = (((B s).drop a).takeWhile isLet).length := by rw [← HT.out]; omega
     rw [hel]
     have h := tw_no isLet ((B s).drop a) (by rw [← hkT, List.length_drop, B_len]; omega)
     simp only [← hkT] at h
     exact h
    have HFC := Aside0.mk (letter_c (s[n]'hlt))
    rw [hp] at HFC
    have HE := Aside0.mk (show n = a + T.length by omega)
    clear hel hp
    go_wp2_with fail
    go_quiet ((go_at_call 72; refine Calls.quiet_of_same (HFC.out _)))
    go_wp2_with fail
    go_quiet (fail)
    go_wp2_with fail
    go_ret
    exact ⟨ret_str (show s.extract a n = mkB T by rw [HE.out]; exact HEX.out), by have h := HL.out.2.1; rw [HE.out] at h; exact IsS61.drewN (IsS61.drewN h _) _, pw_below_drewN (pw_below_drewN HL.out.2.2.1 _) _, HL.out.2.2.2.trans (KeepBut.of_below (pw_below_drewN (pw_below_drewN (Below.refl _ _) _) _) g none) (.inl rfl)⟩
  ·have HE := Aside0.mk (show n = a + T.length by omega)
   go_wp2_with fail
   go_quiet (fail)
   go_wp2_with fail
   go_quiet (fail)
   go_wp2_with fail
   go_ret
   exact ⟨ret_str (show s.extract a n = mkB T by rw [HE.out]; exact HEX.out), by have h := HL.out.2.1; rw [HE.out] at h; exact IsS61.drewN (IsS61.drewN h _) _, pw_below_drewN (pw_below_drewN HL.out.2.2.1 _) _, HL.out.2.2.2.trans (KeepBut.of_below (pw_below_drewN (pw_below_drewN (Below.refl _ _) _) _) g none) (.inl rfl)⟩
set_option maxHeartbeats 4000000 in
theorem drun_dig (s : ByteArray) (hs : s.size ≤ 1000000000) (a : Nat) (ha : a ≤ s.size) (deep er : Int) (g : Nat) (w0 w : World) (hI : SQ w0 w g s (a : Int) deep er) (hB : Below w0.heap.size w0 w) :
  Calls Tryz.prog 73 #[.pointer (some ⟨g, 0, none⟩), .func (.func 74) #[] #[]] w fun e w' => e = .returned (.string (mkB (((B s).drop a).takeWhile isDig))) ∧ SQ w0 w' g s ((a + (((B s).drop a).takeWhile isDig).length : Nat) : Int) deep er ∧ Below w0.heap.size w0 w' ∧ KeepBut w w' g none := by
 have HI := Aside0.mk hI
 have HB := Aside0.mk hB
 obtain ⟨T, hT⟩ : ∃ T, T = ((B s).drop a).takeWhile isDig := ⟨_, rfl⟩
 rw [← hT]
 have hTl : a + T.length ≤ s.size := by
  have h := tw_le isDig ((B s).drop a)
  rw [← hT, List.length_drop, B_len] at h
  omega
 have HT := Aside0.mk hT
 have HEX := Aside0.mk (show s.extract a (a + T.length) = mkB T by
  have h1 : B (s.extract a (a + T.length)) = T := by
   rw [Go.Proofs.YtidcecpbihmloaaGreatDoor.K06.B_extract, Nat.add_sub_cancel_left, hT, ← take_len]
  exact B_inj (h1.trans (mkB_list _).symm))
 have q1 : w.cell? ⟨g, 1, none⟩ = some (.int .i64 (a : Int)) := (blk_cell hI.1 1).trans rfl
 clear hI hB hT
 go_enter Tryz.func73, Tryz.ntmps73
 go_wp2_with fail
 go_loopg [] T.length (fun gk wr => ∃ k : Nat, Aside0 (k + gk = T.length ∧ SQ w0 wr g s ((a + k : Nat) : Int) deep er ∧ Below w0.heap.size w0 wr ∧ KeepBut w wr g none))
 case atStart => exact ⟨0, by omega, HI.out, HB.out, KeepBut.refl _ _ _⟩
 case round =>
  obtain ⟨k, HL⟩ := hrel
  have hkg : k + gk ≤ T.length ∧ T.length ≤ k + gk := by have := HL.out.1; omega
  obtain ⟨n, hn⟩ : ∃ n, n = a + k := ⟨_, rfl⟩
  rw [← hn] at HL
  have HN := Aside0.mk hn
  have hnk : a + k ≤ n ∧ n ≤ a + k := by omega
  clear hn
  have r0 : wr.cell? ⟨g, 0, none⟩ = some (.string s) := (blk_cell HL.out.2.1.1 0).trans rfl
  have r1 : wr.cell? ⟨g, 1, none⟩ = some (.int .i64 (n : Int)) := (blk_cell HL.out.2.1.1 1).trans rfl
  have f1 := blk_frozen HL.out.2.1.1 1
  have b1 : (0 : Int) ≤ (a : Int) := by omega
  have b2 : (a : Int) ≤ (n : Int) := by omega
  have b3 : (n : Int) ≤ (s.size : Int) := by omega
  by_cases hlt : n < s.size
  ·have hel : (s[n]'hlt) = ((B s).drop a)[k]'(by rw [List.length_drop, B_len]; omega) := by
    rw [List.getElem_drop]
    simp only [← HN.out]
    simp [B, ByteArray.getElem_eq_getElem_data]
   by_cases hk : k < T.length
   ·have hp : isDig (s[n]'hlt) = true := by
     rw [hel]
     exact tw_yes isDig _ k (by rw [← HT.out]; exact hk) _
    have HFC := Aside0.mk (digit_c (s[n]'hlt))
    rw [hp] at HFC
    clear hel hp
    go_wp2_with fail
    go_quiet ((go_at_call 74; refine Calls.quiet_of_same (HFC.out _)))
    go_wp2_with fail
    go_roundg (gk - 1)
    case measure => omega
    case rel => exact ⟨k + 1, by omega, by
     have h := (IsS61.drewN HL.out.2.1 nq).set_1 ((n : Int) + 1)
     rw [show ((a + (k + 1) : Nat) : Int) = (n : Int) + 1 by have := HN.out; omega]
     exact h, (pw_below_drewN HL.out.2.2.1 nq).setCell (p := ⟨g, 1, none⟩) HL.out.2.1.2 _, (HL.out.2.2.2.trans (KeepBut.of_below (pw_below_drewN (Below.refl _ _) nq) g none) (.inl rfl)).set_ 1 _⟩
   ·have hp : isDig (s[n]'hlt) = false := by
     have hkT : k = (((B s).drop a).takeWhile isDig).length := by rw [← HT.out]; omega
     rw [hel]
     have h := tw_no isDig ((B s).drop a) (by rw [← hkT, List.length_drop, B_len]; omega)
     simp only [← hkT] at h
     exact h
    have HFC := Aside0.mk (digit_c (s[n]'hlt))
    rw [hp] at HFC
    have HE := Aside0.mk (show n = a + T.length by omega)
    clear hel hp
    go_wp2_with fail
    go_quiet ((go_at_call 74; refine Calls.quiet_of_same (HFC.out _)))
    go_wp2_with fail
    go_quiet (fail)
    go_wp2_with fail
    go_ret
    exact ⟨ret_str (show s.extract a n = mkB T by rw [HE.out]; exact HEX.out), by have h := HL.out.2.1; rw [HE.out] at h; exact IsS61.drewN (IsS61.drewN h _) _, pw_below_drewN (pw_below_drewN HL.out.2.2.1 _) _, HL.out.2.2.2.trans (KeepBut.of_below (pw_below_drewN (pw_below_drewN (Below.refl _ _) _) _) g none) (.inl rfl)⟩
  ·have HE := Aside0.mk (show n = a + T.length by omega)
   go_wp2_with fail
   go_quiet (fail)
   go_wp2_with fail
   go_quiet (fail)
   go_wp2_with fail
   go_ret
   exact ⟨ret_str (show s.extract a n = mkB T by rw [HE.out]; exact HEX.out), by have h := HL.out.2.1; rw [HE.out] at h; exact IsS61.drewN (IsS61.drewN h _) _, pw_below_drewN (pw_below_drewN HL.out.2.2.1 _) _, HL.out.2.2.2.trans (KeepBut.of_below (pw_below_drewN (pw_below_drewN (Below.refl _ _) _) _) g none) (.inl rfl)⟩
set_option maxHeartbeats 4000000 in
theorem drun_nam (s : ByteArray) (hs : s.size ≤ 1000000000) (a : Nat) (ha : a ≤ s.size) (deep er : Int) (g : Nat) (w0 w : World) (hI : SQ w0 w g s (a : Int) deep er) (hB : Below w0.heap.size w0 w) :
  Calls Tryz.prog 73 #[.pointer (some ⟨g, 0, none⟩), .func (.func 94) #[] #[]] w fun e w' => e = .returned (.string (mkB (((B s).drop a).takeWhile isNam))) ∧ SQ w0 w' g s ((a + (((B s).drop a).takeWhile isNam).length : Nat) : Int) deep er ∧ Below w0.heap.size w0 w' ∧ KeepBut w w' g none := by
 have HI := Aside0.mk hI
 have HB := Aside0.mk hB
 obtain ⟨T, hT⟩ : ∃ T, T = ((B s).drop a).takeWhile isNam := ⟨_, rfl⟩
 rw [← hT]
 have hTl : a + T.length ≤ s.size := by
  have h := tw_le isNam ((B s).drop a)
  rw [← hT, List.length_drop, B_len] at h
  omega
 have HT := Aside0.mk hT
 have HEX := Aside0.mk (show s.extract a (a + T.length) = mkB T by
  have h1 : B (s.extract a (a + T.length)) = T := by
   rw [Go.Proofs.YtidcecpbihmloaaGreatDoor.K06.B_extract, Nat.add_sub_cancel_left, hT, ← take_len]
  exact B_inj (h1.trans (mkB_list _).symm))
 have q1 : w.cell? ⟨g, 1, none⟩ = some (.int .i64 (a : Int)) := (blk_cell hI.1 1).trans rfl
 clear hI hB hT
 go_enter Tryz.func73, Tryz.ntmps73
 go_wp2_with fail
 go_loopg [] T.length (fun gk wr => ∃ k : Nat, Aside0 (k + gk = T.length ∧ SQ w0 wr g s ((a + k : Nat) : Int) deep er ∧ Below w0.heap.size w0 wr ∧ KeepBut w wr g none))
 case atStart => exact ⟨0, by omega, HI.out, HB.out, KeepBut.refl _ _ _⟩
 case round =>
  obtain ⟨k, HL⟩ := hrel
  have hkg : k + gk ≤ T.length ∧ T.length ≤ k + gk := by have := HL.out.1; omega
  obtain ⟨n, hn⟩ : ∃ n, n = a + k := ⟨_, rfl⟩
  rw [← hn] at HL
  have HN := Aside0.mk hn
  have hnk : a + k ≤ n ∧ n ≤ a + k := by omega
  clear hn
  have r0 : wr.cell? ⟨g, 0, none⟩ = some (.string s) := (blk_cell HL.out.2.1.1 0).trans rfl
  have r1 : wr.cell? ⟨g, 1, none⟩ = some (.int .i64 (n : Int)) := (blk_cell HL.out.2.1.1 1).trans rfl
  have f1 := blk_frozen HL.out.2.1.1 1
  have b1 : (0 : Int) ≤ (a : Int) := by omega
  have b2 : (a : Int) ≤ (n : Int) := by omega
  have b3 : (n : Int) ≤ (s.size : Int) := by omega
  by_cases hlt : n < s.size
  ·have hel : (s[n]'hlt) = ((B s).drop a)[k]'(by rw [List.length_drop, B_len]; omega) := by
    rw [List.getElem_drop]
    simp only [← HN.out]
    simp [B, ByteArray.getElem_eq_getElem_data]
   by_cases hk : k < T.length
   ·have hp : isNam (s[n]'hlt) = true := by
     rw [hel]
     exact tw_yes isNam _ k (by rw [← HT.out]; exact hk) _
    have HFC := Aside0.mk (nam_c (s[n]'hlt))
    rw [hp] at HFC
    clear hel hp
    go_wp2_with fail
    go_quiet ((go_at_call 94; refine Calls.quiet_of_same (HFC.out _)))
    go_wp2_with fail
    go_roundg (gk - 1)
    case measure => omega
    case rel => exact ⟨k + 1, by omega, by
     have h := (IsS61.drewN HL.out.2.1 nq).set_1 ((n : Int) + 1)
     rw [show ((a + (k + 1) : Nat) : Int) = (n : Int) + 1 by have := HN.out; omega]
     exact h, (pw_below_drewN HL.out.2.2.1 nq).setCell (p := ⟨g, 1, none⟩) HL.out.2.1.2 _, (HL.out.2.2.2.trans (KeepBut.of_below (pw_below_drewN (Below.refl _ _) nq) g none) (.inl rfl)).set_ 1 _⟩
   ·have hp : isNam (s[n]'hlt) = false := by
     have hkT : k = (((B s).drop a).takeWhile isNam).length := by rw [← HT.out]; omega
     rw [hel]
     have h := tw_no isNam ((B s).drop a) (by rw [← hkT, List.length_drop, B_len]; omega)
     simp only [← hkT] at h
     exact h
    have HFC := Aside0.mk (nam_c (s[n]'hlt))
    rw [hp] at HFC
    have HE := Aside0.mk (show n = a + T.length by omega)
    clear hel hp
    go_wp2_with fail
    go_quiet ((go_at_call 94; refine Calls.quiet_of_same (HFC.out _)))
    go_wp2_with fail
    go_quiet (fail)
    go_wp2_with fail
    go_ret
    exact ⟨ret_str (show s.extract a n = mkB T by rw [HE.out]; exact HEX.out), by have h := HL.out.2.1; rw [HE.out] at h; exact IsS61.drewN (IsS61.drewN h _) _, pw_below_drewN (pw_below_drewN HL.out.2.2.1 _) _, HL.out.2.2.2.trans (KeepBut.of_below (pw_below_drewN (pw_below_drewN (Below.refl _ _) _) _) g none) (.inl rfl)⟩
  ·have HE := Aside0.mk (show n = a + T.length by omega)
   go_wp2_with fail
   go_quiet (fail)
   go_wp2_with fail
   go_quiet (fail)
   go_wp2_with fail
   go_ret
   exact ⟨ret_str (show s.extract a n = mkB T by rw [HE.out]; exact HEX.out), by have h := HL.out.2.1; rw [HE.out] at h; exact IsS61.drewN (IsS61.drewN h _) _, pw_below_drewN (pw_below_drewN HL.out.2.2.1 _) _, HL.out.2.2.2.trans (KeepBut.of_below (pw_below_drewN (pw_below_drewN (Below.refl _ _) _) _) g none) (.inl rfl)⟩
end Go.Proofs.YtidcecpbihmloaaGreatDoorE

namespace Go.Proofs.YtidcecpbihmloaaGreatDoorE
open Go Go.RowKit Go.Proofs.YtidcecpbihmloaaGreatDoorW.PrintWords Go.Proofs.YtidcecpbihmloaaGreatDoorW.PrintMore Go.Proofs.YtidcecpbihmloaaGreatDoorW.PrintLast Go.Proofs.YtidcecpbihmloaaGreatDoorX Go.Proofs.YtidcecpbihmloaaGreatDoor.P16 Go.Proofs.YtidcecpbihmloaaGreatDoor.M02
set_option linter.unusedVariables false
set_option linter.unusedSimpArgs false
set_option maxRecDepth 100000
/-- The state behind a reading. -/
def stQ (w0 w' : World) (g : Nat) (s : ByteArray) (deep : Int) (res : Res DT) (x : DT) : Prop := match res with
 | .ok d a _ => x = d ∧ IsS61 w0 w' g s (a : Int) deep 0
 | .err a c => ∃ op' : Int, IsS61 w0 w' g s (a : Int) op' c
/-- What the reader hands back of a piece. -/
def pieceQ (w0 w : World) (g : Nat) (s : ByteArray) (deep : Int) (res : Res DT) (e : Ending) (w' : World) : Prop :=
 Below w0.heap.size w0 w' ∧ KeepBut w w' g none ∧ ∃ (x : DT) (v3 v4 : Value), e = .returned (.agg #[.int .i64 x.f0, .int .i64 x.f1, .string x.f2, v3, v4]) ∧ k25.M w' w.heap.size (fun _ => True) x [.int .i64 x.f0, .int .i64 x.f1, .string x.f2, v3, v4] ∧ stQ w0 w' g s deep res x
theorem state5Q {w0 W : World} {g b : Nat} {s : ByteArray} {i1 i2 i3 : Int} (h : IsS61 w0 W g s i1 i2 i3) (hb : g ≠ b) (v0 v1 v2 v3 v4 : Value) : IsS61 w0 (set5 W b v0 v1 v2 v3 v4) g s i1 i2 i3 :=
 ((((h.far (p := ⟨b, 0, none⟩) hb v0).far (p := ⟨b, 1, none⟩) hb v1).far (p := ⟨b, 2, none⟩) hb v2).far (p := ⟨b, 3, none⟩) hb v3).far (p := ⟨b, 4, none⟩) hb v4
theorem stQ5 {w0 W : World} {g b : Nat} {s : ByteArray} {deep : Int} {res : Res DT} {x : DT} (h : stQ w0 W g s deep res x) (hb : g ≠ b) (v0 v1 v2 v3 v4 : Value) : stQ w0 (set5 W b v0 v1 v2 v3 v4) g s deep res x := by
 unfold stQ at h ⊢
 cases res with
 | ok d a r => exact ⟨h.1, state5Q h.2 hb _ _ _ _ _⟩
 | err a c => obtain ⟨op', h⟩ := h; exact ⟨op', state5Q h hb _ _ _ _ _⟩
theorem finQ {w0 w W : World} {g : Nat} {s : ByteArray} {deep : Int} {res : Res DT} {x : DT} {v3 v4 : Value} {ok : Nat → Prop} (hB : Below w0.heap.size w0 W) (hw : w0.heap.size ≤ w.heap.size) (hK : KeepBut w W g none) (hg : g < w.heap.size) (hM : k25.M W w.heap.size ok x (dCells x v3 v4)) (hok : ∀ k, ok k → k ≠ w.heap.size) (hS : stQ w0 W g s deep res x) :
  pieceQ w0 w g s deep res (.returned (.agg #[.int .i64 x.f0, .int .i64 x.f1, .string x.f2, v3, v4])) (set5 W w.heap.size (.int .i64 x.f0) (.int .i64 x.f1) (.string x.f2) v3 v4) :=
 ⟨below5 hB hw _ _ _ _ _, keep5 hK (Nat.le_refl _) _ _ _ _ _, x, v3, v4, rfl, k25.M_mono (fun _ _ => trivial) (made5 hM hok _ _ _ _ _), stQ5 hS (by omega) _ _ _ _ _⟩
theorem dfail_0 (s : ByteArray) (a deep p c : Int) : datum_reader_fail.f s a deep 0 p c = some (s, p, deep, c) := by unfold datum_reader_fail.f; rw [if_pos rfl]
theorem dfail_er (s : ByteArray) (a deep er p c : Int) (h : er ≠ 0) : datum_reader_fail.f s a deep er p c = some (s, a, deep, er) := by unfold datum_reader_fail.f; rw [if_neg h]
theorem dmust_er (s : ByteArray) (a deep er ci : Int) (h : er ≠ 0) : datum_reader_must.f s a deep er ci = some (false, s, a, deep, er) := by
 unfold datum_reader_must.f
 rw [if_neg h, dfail_er s a deep er a 2 h, Option.bind_some]
theorem dmust_ok (s : ByteArray) (a : Nat) (deep : Int) (c : UInt8) (h : nxt s a c = true) (ha : a ≤ 140737488351232) : datum_reader_must.f s a deep 0 c.toNat = some (true, s, ((a + 1 : Nat) : Int), deep, 0) := by
 have hlt : a < s.size := by
  rcases Nat.lt_or_ge a s.size with h1 | h1
  ·exact h1
  ·rw [nxt_end c h1] at h; cases h
 unfold datum_reader_must.f
 rw [if_pos rfl, if_neg (by omega), if_pos (by omega), if_pos (by omega), if_pos ((bt_nxt' c hlt).2 h), w64 (by omega) (by omega)]
 rfl
theorem dmust_no (s : ByteArray) (a : Nat) (deep : Int) (c : UInt8) (h : nxt s a c = false) (ha : a ≤ s.size) : datum_reader_must.f s a deep 0 c.toNat = some (false, s, (a : Int), deep, 2) := by
 unfold datum_reader_must.f
 rw [if_pos rfl, dfail_0, Option.bind_some]
 by_cases hl : a < s.size
 ·rw [if_neg (by omega), if_pos (by omega), if_pos (by omega), if_neg (fun e => by rw [(bt_nxt' c hl).1 e] at h; cases h)]
 ·rw [if_pos (by omega)]
theorem dis_er (s : ByteArray) (a deep er ci : Int) (h : er ≠ 0) : datum_reader_is.f s a deep er ci = some (false, s, a, deep, er) := by
 unfold datum_reader_is.f
 rw [if_neg h]
theorem dis_ok (s : ByteArray) (a : Nat) (deep : Int) (c : UInt8) (h : nxt s a c = true) (ha : a ≤ 140737488351232) : datum_reader_is.f s a deep 0 c.toNat = some (true, s, ((a + 1 : Nat) : Int), deep, 0) := by
 have hlt : a < s.size := by
  rcases Nat.lt_or_ge a s.size with h1 | h1
  ·exact h1
  ·rw [nxt_end c h1] at h; cases h
 unfold datum_reader_is.f
 rw [if_pos rfl, if_pos (by omega), if_pos (by omega), if_pos ((bt_nxt' c hlt).2 h), w64 (by omega) (by omega)]
 rfl
theorem dis_no (s : ByteArray) (a : Nat) (deep : Int) (c : UInt8) (h : nxt s a c = false) : datum_reader_is.f s a deep 0 c.toNat = some (false, s, (a : Int), deep, 0) := by
 unfold datum_reader_is.f
 rw [if_pos rfl]
 by_cases hl : a < s.size
 ·rw [if_pos (by omega), if_pos (by omega), if_neg (fun e => by rw [(bt_nxt' c hl).1 e] at h; cases h)]
 ·rw [if_neg (by omega)]
theorem dspan_c (s : ByteArray) (hs : s.size ≤ 1000000000) (a : Nat) (w : World) (hgl : GL w) :
  Calls Tryz.prog 76 #[.string s, .int .i64 (a : Int)] w fun e w' => e = .returned (.int .i64 (stopS ((B s).drop a) : Int)) ∧ Below w.heap.size w w' := by
 obtain ⟨k, hk⟩ := Go.Proofs.YtidcecpbihmloaaGreatDoor.K05.span_ev s hs (a : Int)
 have h := hk k (Nat.le_refl _)
 rw [span_nat] at h
 exact escape_Span.calls k s (a : Int) _ w hgl h
theorem dun_c (s : ByteArray) (hs : s.size ≤ 1000000000) (w : World) (hgl : GL w) :
  Calls Tryz.prog 77 #[.string s] w fun e w' => e = .returned (.tuple #[.string (mkB (unS s.data.toList 0 []).1), .int .i64 (unS s.data.toList 0 []).2.1, .int .i64 (unS s.data.toList 0 []).2.2]) ∧ Below w.heap.size w w' :=
 escape_Unescape.calls s _ _ _ w hgl (by unfold escape_Unescape.f; rw [if_pos (by omega)]; rfl)
set_option maxHeartbeats 4000000 in
theorem qtext_c (s : ByteArray) (hs : s.size ≤ 1000000000) (a : Nat) (ha : a ≤ s.size) (op : Int) (g : Nat) (w0 w : World) (hgl : GL w0) (hI : IsS61 w0 w g s (a : Int) op 0) (hB : Below w0.heap.size w0 w) :
  Calls Tryz.prog 55 #[.pointer (some ⟨g, 0, none⟩)] w (pieceQ w0 w g s op (textD ((B s).drop a) a)) := by
 have hsl := stop_lt ha
 have hex := ext_take s a (stopS ((B s).drop a))
 have HSP : Aside0 (∀ W, GL W → Calls Tryz.prog 76 #[.string s, .int .i64 (a : Int)] W fun e w' => e = .returned (.int .i64 (stopS ((B s).drop a) : Int)) ∧ Below W.heap.size W w') := ⟨fun W h => dspan_c s hs a W h⟩
 have HUN : Aside0 (∀ W, GL W → Calls Tryz.prog 77 #[.string (s.extract a (a + stopS ((B s).drop a)))] W fun e w' => e = .returned (.tuple #[.string (mkB (unS (((B s).drop a).take (stopS ((B s).drop a))) 0 []).1), .int .i64 (unS (((B s).drop a).take (stopS ((B s).drop a))) 0 []).2.1, .int .i64 (unS (((B s).drop a).take (stopS ((B s).drop a))) 0 []).2.2]) ∧ Below W.heap.size W w') := ⟨fun W h => by
  have h1 := dun_c (s.extract a (a + stopS ((B s).drop a))) (by rw [ByteArray.size_extract]; omega) W h
  rw [hex] at h1
  exact h1⟩
 obtain ⟨U, hU⟩ : ∃ U, U = unS (((B s).drop a).take (stopS ((B s).drop a))) 0 [] := ⟨_, rfl⟩
 obtain ⟨n, hn⟩ : ∃ n, n = stopS ((B s).drop a) := ⟨_, rfl⟩
 have HTD := Aside0.mk (show textD ((B s).drop a) a = (if U.2.2 ≠ 0 then .err (a + U.2.1.toNat) 2 else if nxt s (a + n) 34 = true then .ok ⟨3, 0, mkB U.1, [], []⟩ (a + n + 1) ((B s).drop (a + n + 1)) else .err (a + n) 2 : Res DT) by
  have e : (List.drop (a + n) (B s)).head? = some 34 ↔ nxt s (a + n) 34 = true := by unfold nxt; rw [beq_iff_eq]
  unfold textD
  rw [← hn] at hU ⊢
  simp only [← hU, List.drop_drop, e, ← Nat.add_assoc])
 rw [← hU, ← hn] at HUN
 rw [← hn] at HSP hsl
 have hUr : 0 ≤ U.2.1 ∧ U.2.1 ≤ 1000000000 ∨ U.2.2 = 0 := by
  rcases Go.Proofs.YtidcecpbihmloaaGreatDoor.K04.un_esc _ (((B s).drop a).take (stopS ((B s).drop a))) 0 [] (Nat.le_refl _) with h | h
  ·exact .inr (by rw [hU]; exact h.1)
  ·refine .inl ?_
   have h1 : (((B s).drop a).take (stopS ((B s).drop a))).length ≤ s.size := by
    rw [List.length_take, List.length_drop, B_len]; omega
   rw [← hU] at h
   omega
 clear hex hU hn
 obtain ⟨R, hR⟩ : ∃ R : Res DT, R = textD ((B s).drop a) a := ⟨_, rfl⟩
 rw [← hR]
 have HTD := Aside0.mk (hR.trans HTD.out)
 clear hR
 have hgw0 : g < w.heap.size := blk_lt hI.1
 have hww : w0.heap.size ≤ w.heap.size := hB.size
 have HG := Aside0.mk hgl
 have HI0 := Aside0.mk (hI.alloc (.cells zCells 25))
 have HB0 := Aside0.mk (below_alloc hB (.cells zCells 25))
 have HRZ := Aside0.mk (heap_alloc_new w (.cells zCells 25))
 clear hgl hI hB
 go_enter Tryz.func55, Tryz.ntmps55
 go_wp2_with fail
 have HKZ := Aside0.mk (below_alloc (Below.refl _ w) (.cells zCells 25))
 generalize hW : w.alloc (.cells zCells 25) = W0 at HI0 HB0 HRZ HKZ ⊢
 clear hW
 have z0 : W0.cell? ⟨g, 0, none⟩ = some (.string s) := (blk_cell HI0.out.1 0).trans rfl
 have z1 : W0.cell? ⟨g, 1, none⟩ = some (.int .i64 (a : Int)) := (blk_cell HI0.out.1 1).trans rfl
 have HS0 : (W0.drew.cell? ⟨g, 0, none⟩ = some (.string s) ∧ W0.drew.cell? ⟨g, 1, none⟩ = some (.int .i64 (a : Int))) ∧ Below W0.heap.size W0 W0.drew := ⟨⟨cell_drew z0, cell_drew z1⟩, below_drew (Below.refl _ _)⟩
 clear z0 z1
 go_region_held3 (fun w' => (w'.cell? ⟨g, 0, none⟩ = some (.string s) ∧ w'.cell? ⟨g, 1, none⟩ = some (.int .i64 (a : Int))) ∧ Below W0.heap.size W0 w')
  (first
   | with_reducible exact HS0
   |(go_split_ands
     with_reducible exact ⟨⟨pw_cell_below hbf (by with_reducible assumption), pw_cell_below hbf (by with_reducible assumption)⟩, then_w (by with_reducible assumption) hbf⟩))
  (first
   |(go_at_call 76
     go_loud (
     refine (HSP.out _ (HG.out.below (below_then HB0.out HB0.out.size ?hb))).mono ?_
     case hb => first | with_reducible assumption | (go_split_ands; with_reducible assumption)
     rintro e W1 ⟨rfl, hbf⟩)))
 have HX1 := Aside0.mk (then_w (below_drew (Below.refl _ W0)) hbf)
 have HI1 := Aside0.mk (HI0.out.below HX1.out)
 have HB1 := Aside0.mk (below_then HB0.out HB0.out.size HX1.out)
 have HK1 := Aside0.mk (then_w HKZ.out HX1.out)
 have HR1 := Aside0.mk ((HX1.out.block w.heap.size (blk_lt HRZ.out)).trans HRZ.out)
 clear hbf HI0 HB0 HKZ HRZ HX1 HS0
 rename_i hHeld0
 clear hHeld0
 have hgw : g < W1.heap.size := blk_lt HI1.out.1
 have q0 : W1.cell? ⟨g, 0, none⟩ = some (.string s) := (blk_cell HI1.out.1 0).trans rfl
 have q1 : W1.cell? ⟨g, 1, none⟩ = some (.int .i64 (a : Int)) := (blk_cell HI1.out.1 1).trans rfl
 have HS : (W1.drew.cell? ⟨g, 0, none⟩ = some (.string s) ∧ W1.drew.cell? ⟨g, 1, none⟩ = some (.int .i64 (a : Int))) ∧ Below W1.heap.size W1 W1.drew := ⟨⟨cell_drew q0, cell_drew q1⟩, below_drew (Below.refl _ _)⟩
 clear q0 q1
 have hsum : IntKind.i64.wrap ((a : Int) + (n : Int)) = (a : Int) + (n : Int) := wrap_in (by omega) (by omega)
 have hnn : ((a : Int) + (n : Int)).toNat = a + n := by omega
 have hb1 : (0 : Int) ≤ (a : Int) := by omega
 have hb2 : (a : Int) ≤ (a : Int) + (n : Int) := by omega
 have hb3 : (a : Int) + (n : Int) ≤ (s.size : Int) := by omega
 go_wp2_with fail
 go_region_held3 (fun w' => (w'.cell? ⟨g, 0, none⟩ = some (.string s) ∧ w'.cell? ⟨g, 1, none⟩ = some (.int .i64 (a : Int))) ∧ Below W1.heap.size W1 w')
  (first
   | with_reducible exact HS
   |(go_split_ands
     with_reducible exact ⟨⟨pw_cell_below hbf (by with_reducible assumption), pw_cell_below hbf (by with_reducible assumption)⟩, then_w (by with_reducible assumption) hbf⟩))
  (first
   |(go_at_call 77
     go_loud (
     refine (HUN.out _ (HG.out.below (below_then HB1.out HB1.out.size ?hb))).mono ?_
     case hb => first | with_reducible assumption | (go_split_ands; with_reducible assumption)
     rintro e w5 ⟨rfl, hbf⟩)))
 have HB5 := Aside0.mk (then_w (below_drew (Below.refl _ _)) hbf)
 have HI5 := Aside0.mk (HI1.out.below HB5.out)
 have HBW5 := Aside0.mk (below_then HB1.out HB1.out.size HB5.out)
 have HK5 := Aside0.mk (KeepBut.of_below (then_w HK1.out HB5.out) g none)
 have HR5 := Aside0.mk ((HB5.out.block w.heap.size (blk_lt HR1.out)).trans HR1.out)
 clear hbf
 rename_i hHeld
 have q0 := hHeld.1.1
 have q1 := hHeld.1.2
 clear hHeld HSP HUN HI1 HB1 HB5
 have f5 := blk_frozen HI5.out.1
 by_cases hE : U.2.2 = 0
 ·have HRa := Aside0.mk (HTD.out.trans (if_neg (show ¬ U.2.2 ≠ 0 from fun h => h hE)))
  have heq : (U.2.2 != 0) = false := by simp [hE]
  have HSET := Aside0.mk (HI5.out.set_1 ((a : Int) + (n : Int)))
  have HBS := Aside0.mk (HBW5.out.setCell (p := ⟨g, 1, none⟩) HI5.out.2 (.int .i64 ((a : Int) + (n : Int))))
  have HKS := Aside0.mk (HK5.out.set_ 1 (.int .i64 ((a : Int) + (n : Int))))
  have HRS := Aside0.mk (show (w5.setCell ⟨g, 1, none⟩ (.int .i64 ((a : Int) + (n : Int)))).heap[w.heap.size]? = some (.cells zCells 25 (0, 0)) from blk_far HR5.out (by show w.heap.size ≠ g; omega) _)
  by_cases hx : nxt s (a + n) 34 = true
  ·have HRb := Aside0.mk (HRa.out.trans (if_pos hx))
   have HM : Aside0 (Calls Tryz.prog 78 #[.pointer (some ⟨g, 0, none⟩), .int .u8 34] (w5.setCell ⟨g, 1, none⟩ (.int .i64 ((a : Int) + (n : Int)))) fun e w' => e = .returned (.bool true) ∧ IsS61 w0 w' g s ((a + n + 1 : Nat) : Int) op 0 ∧ Below w0.heap.size w0 w' ∧ KeepBut (w5.setCell ⟨g, 1, none⟩ (.int .i64 ((a : Int) + (n : Int)))) w' g none) := ⟨datum_reader_must.calls g s ((a + n : Nat) : Int) op 0 34 _ _ _ _ _ w0 _ HG.out HSET.out HBS.out (dmust_ok s (a + n) op 34 hx (by omega))⟩
   clear hx hE
   go_wp2_with (go_at_call 78; go_loud (with_reducible refine HM.out.mono ?_); rintro e w6 ⟨rfl, hi6, hb6, hk6⟩; have HI6 := Aside0.mk hi6; have HB6 := Aside0.mk hb6; have HR6 := Aside0.mk (hk6.blk HRS.out (by omega) (by simp)); have HK6 := Aside0.mk (HKS.out.trans hk6 (.inl rfl)); have hy := Lib.cell_of_heap HR6.out; have hz := Lib.frozen_of_heap HR6.out; clear hi6 hb6 hk6)
   refine bodyPost_ret (results_cell_row rfl _ _ w.heap.size 25 _ (0, 0) _ rfl (set_blk (j := 4) (set_blk (j := 3) (set_blk (j := 2) (set_blk (j := 1) (set_blk (j := 0) HR6.out _) _) _) _) _) Tryz.underlying25 rfl (by kernel_rfl)) rfl ?_
   refine finQ (x := ⟨3, 0, mkB U.1, [], []⟩) (v3 := .slice none 0 0) (v4 := .slice none 0 0) (ok := fun k => w.heap.size < k) HB6.out hww HK6.out hgw0 (k25_mkM w6 w.heap.size _ ⟨3, 0, mkB U.1, [], []⟩ (Kd.R_nil _ _ _ _ _) (Kd.R_nil _ _ _ _ _)) (fun k hk => by omega) ?_
   rw [HRb.out]
   exact ⟨rfl, HI6.out⟩
  ·have HRb := Aside0.mk (HRa.out.trans (if_neg hx))
   have hx' : nxt s (a + n) 34 = false := by simpa using hx
   have HM : Aside0 (Calls Tryz.prog 78 #[.pointer (some ⟨g, 0, none⟩), .int .u8 34] (w5.setCell ⟨g, 1, none⟩ (.int .i64 ((a : Int) + (n : Int)))) fun e w' => e = .returned (.bool false) ∧ IsS61 w0 w' g s ((a + n : Nat) : Int) op 2 ∧ Below w0.heap.size w0 w' ∧ KeepBut (w5.setCell ⟨g, 1, none⟩ (.int .i64 ((a : Int) + (n : Int)))) w' g none) := ⟨datum_reader_must.calls g s ((a + n : Nat) : Int) op 0 34 _ _ _ _ _ w0 _ HG.out HSET.out HBS.out (dmust_no s (a + n) op 34 hx' (by omega))⟩
   clear hx hx' hE
   go_wp2_with (go_at_call 78; go_loud (with_reducible refine HM.out.mono ?_); rintro e w6 ⟨rfl, hi6, hb6, hk6⟩; have HI6 := Aside0.mk hi6; have HB6 := Aside0.mk hb6; have HR6 := Aside0.mk (hk6.blk HRS.out (by omega) (by simp)); have HK6 := Aside0.mk (HKS.out.trans hk6 (.inl rfl)); have hy := Lib.cell_of_heap HR6.out; have hz := Lib.frozen_of_heap HR6.out; clear hi6 hb6 hk6)
   refine bodyPost_ret (results_cell_row rfl _ _ w.heap.size 25 _ (0, 0) _ rfl (set_blk (j := 4) (set_blk (j := 3) (set_blk (j := 2) (set_blk (j := 1) (set_blk (j := 0) HR6.out _) _) _) _) _) Tryz.underlying25 rfl (by kernel_rfl)) rfl ?_
   refine finQ (x := ⟨3, 0, mkB U.1, [], []⟩) (v3 := .slice none 0 0) (v4 := .slice none 0 0) (ok := fun k => w.heap.size < k) HB6.out hww HK6.out hgw0 (k25_mkM w6 w.heap.size _ ⟨3, 0, mkB U.1, [], []⟩ (Kd.R_nil _ _ _ _ _) (Kd.R_nil _ _ _ _ _)) (fun k hk => by omega) ?_
   rw [HRb.out]
   exact ⟨_, HI6.out⟩
 ·have HRb := Aside0.mk (HTD.out.trans (if_pos hE))
  have hU1 : 0 ≤ U.2.1 ∧ U.2.1 ≤ 1000000000 := hUr.resolve_right hE
  have hnat : (a : Int) + U.2.1 = ((a + U.2.1.toNat : Nat) : Int) := by omega
  have hneq : (U.2.2 != 0) = true := by simpa using hE
  have HF : Aside0 (Calls Tryz.prog 30 #[.pointer (some ⟨g, 0, none⟩), .int .i64 ((a : Int) + U.2.1), .int .i64 2] w5 fun e w' => e = .returned (.tuple #[]) ∧ IsS61 w0 w' g s ((a : Int) + U.2.1) op 2 ∧ Below w0.heap.size w0 w' ∧ KeepBut w5 w' g none) := ⟨datum_reader_fail.calls g s a op 0 _ 2 _ _ _ _ w0 w5 HG.out HI5.out HBW5.out (dfail_0 s a op _ 2)⟩
  have HN := Aside0.mk hnat
  clear hnat hE
  go_wp2_with (go_at_call 30; go_loud (with_reducible refine HF.out.mono ?_); rintro e w6 ⟨rfl, hi6, hb6, hk6⟩; have HI6 := Aside0.mk hi6; have HB6 := Aside0.mk hb6; have HR6 := Aside0.mk (hk6.blk HR5.out (by omega) (by simp)); have HK6 := Aside0.mk (HK5.out.trans hk6 (.inl rfl)); have hy := Lib.cell_of_heap HR6.out; have hz := Lib.frozen_of_heap HR6.out; clear hi6 hb6 hk6)
  refine bodyPost_ret (results_cell_row rfl _ _ w.heap.size 25 _ (0, 0) _ rfl (set_blk (j := 4) (set_blk (j := 3) (set_blk (j := 2) (set_blk (j := 1) (set_blk (j := 0) HR6.out _) _) _) _) _) Tryz.underlying25 rfl (by kernel_rfl)) rfl ?_
  refine finQ (x := ⟨0, 0, em, [], []⟩) (v3 := .slice none 0 0) (v4 := .slice none 0 0) (ok := fun k => w.heap.size < k) HB6.out hww HK6.out hgw0 (k25_mkM w6 w.heap.size _ ⟨0, 0, em, [], []⟩ (Kd.R_nil _ _ _ _ _) (Kd.R_nil _ _ _ _ _)) (fun k hk => by omega) ?_
  rw [HRb.out]
  exact ⟨_, by rw [← HN.out]; exact HI6.out⟩
end Go.Proofs.YtidcecpbihmloaaGreatDoorE

namespace Go.Proofs.YtidcecpbihmloaaGreatDoorE
open Go Go.RowKit Go.Proofs.YtidcecpbihmloaaGreatDoorW.PrintWords Go.Proofs.YtidcecpbihmloaaGreatDoorW.PrintMore Go.Proofs.YtidcecpbihmloaaGreatDoorW.PrintLast Go.Proofs.YtidcecpbihmloaaGreatDoorX Go.Proofs.YtidcecpbihmloaaGreatDoor.P16 Go.Proofs.YtidcecpbihmloaaGreatDoor.M02
set_option linter.unusedVariables false
set_option linter.unusedSimpArgs false
set_option maxRecDepth 100000
theorem sgetB {s : ByteArray} {a : Nat} {c : UInt8} (hl : a < s.size) (hc : (B s)[a]'(at_lt hl) = c) : s[a]'hl = c := by rw [← hc]; simp [B, ByteArray.getElem_eq_getElem_data]
set_option maxHeartbeats 4000000 in
theorem dn_end (s : ByteArray) (hs : s.size ≤ 1000000000) (a : Nat) (ha : a ≤ s.size) (hl : s.size ≤ a) (deep er : Int) (g : Nat) (w0 w : World) (hI : IsS61 w0 w g s (a : Int) deep er) (hB : Below w0.heap.size w0 w) :
  Calls Tryz.prog 52 #[.pointer (some ⟨g, 0, none⟩)] w fun e w' => e = .returned (.nilIface) ∧ IsS61 w0 w' g s ((a : Int)) deep er ∧ Below w0.heap.size w0 w' ∧ KeepBut w w' g none := by
 have HI := Aside0.mk hI
 have HB := Aside0.mk hB
 have hg0 : w0.heap.size ≤ g := hI.2
 have q0 : w.cell? ⟨g, 0, none⟩ = some (.string s) := (blk_cell hI.1 0).trans rfl
 have q1 : w.cell? ⟨g, 1, none⟩ = some (.int .i64 (a : Int)) := (blk_cell hI.1 1).trans rfl
 have f1 := blk_frozen hI.1 1
 clear hI hB
 have he : ((a : Int) == (s.size : Int)) = true := by rw [beq_iff_eq]; omega
 go_enter Tryz.func52, Tryz.ntmps52
 go_wp2_with fail
 go_quiet (fail)
 go_wp2_with fail
 go_ret
 exact ⟨rfl, HI.out.drewN _, pw_below_drewN HB.out _, KeepBut.of_below (pw_below_drewN (Below.refl _ _) _) g none⟩
set_option maxHeartbeats 4000000 in
theorem dn_let (s : ByteArray) (hs : s.size ≤ 1000000000) (a : Nat) (ha : a ≤ s.size) (c : UInt8) (hl : a < s.size) (hc : (B s)[a]'(at_lt hl) = c) (h0 : isLet c = true) (deep er : Int) (g : Nat) (w0 w : World) (hI : IsS61 w0 w g s (a : Int) deep er) (hB : Below w0.heap.size w0 w) :
  Calls Tryz.prog 52 #[.pointer (some ⟨g, 0, none⟩)] w fun e w' => e = .returned (.iface 88 (.string (mkB (((B s).drop a).takeWhile isLet)))) ∧ IsS61 w0 w' g s (((a + (((B s).drop a).takeWhile isLet).length : Nat) : Int)) deep er ∧ Below w0.heap.size w0 w' ∧ KeepBut w w' g none := by
 have HI := Aside0.mk hI
 have HB := Aside0.mk hB
 have hg0 : w0.heap.size ≤ g := hI.2
 have q0 : w.cell? ⟨g, 0, none⟩ = some (.string s) := (blk_cell hI.1 0).trans rfl
 have q1 : w.cell? ⟨g, 1, none⟩ = some (.int .i64 (a : Int)) := (blk_cell hI.1 1).trans rfl
 have f1 := blk_frozen hI.1 1
 clear hI hB
 have he : ((a : Int) == (s.size : Int)) = false := by rw [beq_eq_false_iff_ne]; omega
 have b1 : (0 : Int) ≤ (a : Int) := by omega
 have b2 : (a : Int) < (s.size : Int) := by omega
 go_enter Tryz.func52, Tryz.ntmps52
 go_wp2_with fail
 go_quiet (fail)
 revert nq
 intro n1
 go_wp2_with fail
 go_quiet (fail)
 have hsc := sgetB hl hc
 generalize s[a]'hl = c1 at hsc ⊢
 subst hsc
 clear hc
 have HI2 := Aside0.mk ((HI.out.drewN n1).drewN nq)
 have HB2 := Aside0.mk (pw_below_drewN (pw_below_drewN HB.out n1) nq)
 have HK2 := Aside0.mk (KeepBut.of_below (pw_below_drewN (pw_below_drewN (Below.refl w.heap.size w) n1) nq) g none)
 generalize hW2 : (w.drewN n1).drewN nq = W2 at HI2 HB2 HK2 ⊢
 clear hW2
 clear q0 q1 f1 HI HB
 have q1 : W2.cell? ⟨g, 1, none⟩ = some (.int .i64 (a : Int)) := (blk_cell HI2.out.1 1).trans rfl
 have f1 := blk_frozen HI2.out.1 1
 have HLE : Aside0 (∀ W, Calls Tryz.prog 72 #[.int .u8 (c1.toNat : Int)] W fun e w' => e = .returned (.bool true) ∧ W = w') := ⟨fun W => by have h := letter_c c1 W; rw [h0] at h; exact h.mono (fun e w' hh => ⟨hh.1, hh.2.symm⟩)⟩
 clear h0
 go_wp2_with (first | (go_at_call 72; refine (HLE.out _).mono ?_; rintro e w' ⟨rfl, rfl⟩) | (go_at_call 73; go_loud (with_reducible refine (drun_let s hs a ha deep er g w0 W2 HI2.out HB2.out).mono ?_); rintro e w4 ⟨rfl, hi, hb, hk⟩; have HI4 := Aside0.mk hi; have HB4 := Aside0.mk hb; have HK4 := Aside0.mk (HK2.out.trans hk (.inl rfl)); clear hi hb hk))
 go_ret
 exact ⟨rfl, HI4.out, HB4.out, HK4.out⟩
set_option maxHeartbeats 4000000 in
theorem dn_dig (s : ByteArray) (hs : s.size ≤ 1000000000) (a : Nat) (ha : a ≤ s.size) (c : UInt8) (hl : a < s.size) (hc : (B s)[a]'(at_lt hl) = c) (h0 : isLet c = false) (h1 : isDig c = true) (deep er : Int) (g : Nat) (w0 w : World) (hI : IsS61 w0 w g s (a : Int) deep er) (hB : Below w0.heap.size w0 w) :
  Calls Tryz.prog 52 #[.pointer (some ⟨g, 0, none⟩)] w fun e w' => e = .returned (.iface 90 (.string (mkB (((B s).drop a).takeWhile isDig)))) ∧ IsS61 w0 w' g s (((a + (((B s).drop a).takeWhile isDig).length : Nat) : Int)) deep er ∧ Below w0.heap.size w0 w' ∧ KeepBut w w' g none := by
 have HI := Aside0.mk hI
 have HB := Aside0.mk hB
 have hg0 : w0.heap.size ≤ g := hI.2
 have q0 : w.cell? ⟨g, 0, none⟩ = some (.string s) := (blk_cell hI.1 0).trans rfl
 have q1 : w.cell? ⟨g, 1, none⟩ = some (.int .i64 (a : Int)) := (blk_cell hI.1 1).trans rfl
 have f1 := blk_frozen hI.1 1
 clear hI hB
 have he : ((a : Int) == (s.size : Int)) = false := by rw [beq_eq_false_iff_ne]; omega
 have b1 : (0 : Int) ≤ (a : Int) := by omega
 have b2 : (a : Int) < (s.size : Int) := by omega
 go_enter Tryz.func52, Tryz.ntmps52
 go_wp2_with fail
 go_quiet (fail)
 revert nq
 intro n1
 go_wp2_with fail
 go_quiet (fail)
 have hsc := sgetB hl hc
 generalize s[a]'hl = c1 at hsc ⊢
 subst hsc
 clear hc
 have HI2 := Aside0.mk ((HI.out.drewN n1).drewN nq)
 have HB2 := Aside0.mk (pw_below_drewN (pw_below_drewN HB.out n1) nq)
 have HK2 := Aside0.mk (KeepBut.of_below (pw_below_drewN (pw_below_drewN (Below.refl w.heap.size w) n1) nq) g none)
 generalize hW2 : (w.drewN n1).drewN nq = W2 at HI2 HB2 HK2 ⊢
 clear hW2
 clear q0 q1 f1 HI HB
 have q1 : W2.cell? ⟨g, 1, none⟩ = some (.int .i64 (a : Int)) := (blk_cell HI2.out.1 1).trans rfl
 have f1 := blk_frozen HI2.out.1 1
 have HLE : Aside0 (∀ W, Calls Tryz.prog 72 #[.int .u8 (c1.toNat : Int)] W fun e w' => e = .returned (.bool false) ∧ W = w') := ⟨fun W => by have h := letter_c c1 W; rw [h0] at h; exact h.mono (fun e w' hh => ⟨hh.1, hh.2.symm⟩)⟩
 have HDI : Aside0 (∀ W, Calls Tryz.prog 74 #[.int .u8 (c1.toNat : Int)] W fun e w' => e = .returned (.bool true) ∧ W = w') := ⟨fun W => by have h := digit_c c1 W; rw [h1] at h; exact h.mono (fun e w' hh => ⟨hh.1, hh.2.symm⟩)⟩
 clear h0 h1
 go_wp2_with (first | (go_at_call 72; refine (HLE.out _).mono ?_; rintro e w' ⟨rfl, rfl⟩) | (go_at_call 74; refine (HDI.out _).mono ?_; rintro e w' ⟨rfl, rfl⟩) | (go_at_call 73; go_loud (with_reducible refine (drun_dig s hs a ha deep er g w0 W2 HI2.out HB2.out).mono ?_); rintro e w4 ⟨rfl, hi, hb, hk⟩; have HI4 := Aside0.mk hi; have HB4 := Aside0.mk hb; have HK4 := Aside0.mk (HK2.out.trans hk (.inl rfl)); clear hi hb hk))
 go_ret
 exact ⟨rfl, HI4.out, HB4.out, HK4.out⟩
set_option maxHeartbeats 4000000 in
theorem dn_quo (s : ByteArray) (hs : s.size ≤ 1000000000) (a : Nat) (ha : a ≤ s.size) (hl : a < s.size) (hc : (B s)[a]'(at_lt hl) = 34)  (deep er : Int) (g : Nat) (w0 w : World) (hI : IsS61 w0 w g s (a : Int) deep er) (hB : Below w0.heap.size w0 w) :
  Calls Tryz.prog 52 #[.pointer (some ⟨g, 0, none⟩)] w fun e w' => e = .returned (.iface 93 (.agg #[])) ∧ IsS61 w0 w' g s (((a + 1 : Nat) : Int)) deep er ∧ Below w0.heap.size w0 w' ∧ KeepBut w w' g none := by
 have HI := Aside0.mk hI
 have HB := Aside0.mk hB
 have hg0 : w0.heap.size ≤ g := hI.2
 have q0 : w.cell? ⟨g, 0, none⟩ = some (.string s) := (blk_cell hI.1 0).trans rfl
 have q1 : w.cell? ⟨g, 1, none⟩ = some (.int .i64 (a : Int)) := (blk_cell hI.1 1).trans rfl
 have f1 := blk_frozen hI.1 1
 clear hI hB
 have he : ((a : Int) == (s.size : Int)) = false := by rw [beq_eq_false_iff_ne]; omega
 have b1 : (0 : Int) ≤ (a : Int) := by omega
 have b2 : (a : Int) < (s.size : Int) := by omega
 go_enter Tryz.func52, Tryz.ntmps52
 go_wp2_with fail
 go_quiet (fail)
 revert nq
 intro n1
 go_wp2_with fail
 go_quiet (fail)
 have hsc := sgetB hl hc
 generalize s[a]'hl = c1 at hsc ⊢
 have h0 : isLet c1 = false := by rw [hsc]; rfl
 have h1 : isDig c1 = false := by rw [hsc]; rfl
 have c34 : ((c1.toNat : Int) == 34) = true := by rw [hsc]; rfl
 clear hsc
 clear hc
 have HI2 := Aside0.mk ((HI.out.drewN n1).drewN nq)
 have HB2 := Aside0.mk (pw_below_drewN (pw_below_drewN HB.out n1) nq)
 have HK2 := Aside0.mk (KeepBut.of_below (pw_below_drewN (pw_below_drewN (Below.refl w.heap.size w) n1) nq) g none)
 generalize hW2 : (w.drewN n1).drewN nq = W2 at HI2 HB2 HK2 ⊢
 clear hW2
 clear q0 q1 f1 HI HB
 have q1 : W2.cell? ⟨g, 1, none⟩ = some (.int .i64 (a : Int)) := (blk_cell HI2.out.1 1).trans rfl
 have f1 := blk_frozen HI2.out.1 1
 have HLE : Aside0 (∀ W, Calls Tryz.prog 72 #[.int .u8 (c1.toNat : Int)] W fun e w' => e = .returned (.bool false) ∧ W = w') := ⟨fun W => by have h := letter_c c1 W; rw [h0] at h; exact h.mono (fun e w' hh => ⟨hh.1, hh.2.symm⟩)⟩
 have HDI : Aside0 (∀ W, Calls Tryz.prog 74 #[.int .u8 (c1.toNat : Int)] W fun e w' => e = .returned (.bool false) ∧ W = w') := ⟨fun W => by have h := digit_c c1 W; rw [h1] at h; exact h.mono (fun e w' hh => ⟨hh.1, hh.2.symm⟩)⟩
 clear h0 h1
 go_wp2_with (first | (go_at_call 72; refine (HLE.out _).mono ?_; rintro e w' ⟨rfl, rfl⟩) | (go_at_call 74; refine (HDI.out _).mono ?_; rintro e w' ⟨rfl, rfl⟩))
 go_ret
 exact ⟨rfl, by rw [show ((a + 1 : Nat) : Int) = (a : Int) + 1 by omega]; exact HI2.out.set_1 _, HB2.out.setCell (p := ⟨g, 1, none⟩) hg0 _, HK2.out.set_ 1 _⟩
set_option maxHeartbeats 4000000 in
theorem dn_list (s : ByteArray) (hs : s.size ≤ 1000000000) (a : Nat) (ha : a ≤ s.size) (hl : a < s.size) (hc : (B s)[a]'(at_lt hl) = 91)  (deep er : Int) (g : Nat) (w0 w : World) (hI : IsS61 w0 w g s (a : Int) deep er) (hB : Below w0.heap.size w0 w) :
  Calls Tryz.prog 52 #[.pointer (some ⟨g, 0, none⟩)] w fun e w' => e = .returned (.iface 94 (.int .u8 91)) ∧ IsS61 w0 w' g s (((a + 1 : Nat) : Int)) deep er ∧ Below w0.heap.size w0 w' ∧ KeepBut w w' g none := by
 have HI := Aside0.mk hI
 have HB := Aside0.mk hB
 have hg0 : w0.heap.size ≤ g := hI.2
 have q0 : w.cell? ⟨g, 0, none⟩ = some (.string s) := (blk_cell hI.1 0).trans rfl
 have q1 : w.cell? ⟨g, 1, none⟩ = some (.int .i64 (a : Int)) := (blk_cell hI.1 1).trans rfl
 have f1 := blk_frozen hI.1 1
 clear hI hB
 have he : ((a : Int) == (s.size : Int)) = false := by rw [beq_eq_false_iff_ne]; omega
 have b1 : (0 : Int) ≤ (a : Int) := by omega
 have b2 : (a : Int) < (s.size : Int) := by omega
 go_enter Tryz.func52, Tryz.ntmps52
 go_wp2_with fail
 go_quiet (fail)
 revert nq
 intro n1
 go_wp2_with fail
 go_quiet (fail)
 have hsc := sgetB hl hc
 generalize s[a]'hl = c1 at hsc ⊢
 have h0 : isLet c1 = false := by rw [hsc]; rfl
 have h1 : isDig c1 = false := by rw [hsc]; rfl
 have c34 : ((c1.toNat : Int) == 34) = false := by rw [hsc]; rfl
 have c91 : ((c1.toNat : Int) == 91) = true := by rw [hsc]; rfl
 have c123 : ((c1.toNat : Int) == 123) = false := by rw [hsc]; rfl
 have HV := Aside0.mk (show (c1.toNat : Int) = 91 by rw [hsc]; rfl)
 clear hsc
 clear hc
 have HI2 := Aside0.mk ((HI.out.drewN n1).drewN nq)
 have HB2 := Aside0.mk (pw_below_drewN (pw_below_drewN HB.out n1) nq)
 have HK2 := Aside0.mk (KeepBut.of_below (pw_below_drewN (pw_below_drewN (Below.refl w.heap.size w) n1) nq) g none)
 generalize hW2 : (w.drewN n1).drewN nq = W2 at HI2 HB2 HK2 ⊢
 clear hW2
 clear q0 q1 f1 HI HB
 have q1 : W2.cell? ⟨g, 1, none⟩ = some (.int .i64 (a : Int)) := (blk_cell HI2.out.1 1).trans rfl
 have f1 := blk_frozen HI2.out.1 1
 have HLE : Aside0 (∀ W, Calls Tryz.prog 72 #[.int .u8 (c1.toNat : Int)] W fun e w' => e = .returned (.bool false) ∧ W = w') := ⟨fun W => by have h := letter_c c1 W; rw [h0] at h; exact h.mono (fun e w' hh => ⟨hh.1, hh.2.symm⟩)⟩
 have HDI : Aside0 (∀ W, Calls Tryz.prog 74 #[.int .u8 (c1.toNat : Int)] W fun e w' => e = .returned (.bool false) ∧ W = w') := ⟨fun W => by have h := digit_c c1 W; rw [h1] at h; exact h.mono (fun e w' hh => ⟨hh.1, hh.2.symm⟩)⟩
 clear h0 h1
 go_wp2_with (first | (go_at_call 72; refine (HLE.out _).mono ?_; rintro e w' ⟨rfl, rfl⟩) | (go_at_call 74; refine (HDI.out _).mono ?_; rintro e w' ⟨rfl, rfl⟩))
 go_ret
 exact ⟨by rw [← HV.out]; rfl, by rw [show ((a + 1 : Nat) : Int) = (a : Int) + 1 by omega]; exact HI2.out.set_1 _, HB2.out.setCell (p := ⟨g, 1, none⟩) hg0 _, HK2.out.set_ 1 _⟩
set_option maxHeartbeats 4000000 in
theorem dn_rec (s : ByteArray) (hs : s.size ≤ 1000000000) (a : Nat) (ha : a ≤ s.size) (hl : a < s.size) (hc : (B s)[a]'(at_lt hl) = 123)  (deep er : Int) (g : Nat) (w0 w : World) (hI : IsS61 w0 w g s (a : Int) deep er) (hB : Below w0.heap.size w0 w) :
  Calls Tryz.prog 52 #[.pointer (some ⟨g, 0, none⟩)] w fun e w' => e = .returned (.iface 94 (.int .u8 123)) ∧ IsS61 w0 w' g s (((a + 1 : Nat) : Int)) deep er ∧ Below w0.heap.size w0 w' ∧ KeepBut w w' g none := by
 have HI := Aside0.mk hI
 have HB := Aside0.mk hB
 have hg0 : w0.heap.size ≤ g := hI.2
 have q0 : w.cell? ⟨g, 0, none⟩ = some (.string s) := (blk_cell hI.1 0).trans rfl
 have q1 : w.cell? ⟨g, 1, none⟩ = some (.int .i64 (a : Int)) := (blk_cell hI.1 1).trans rfl
 have f1 := blk_frozen hI.1 1
 clear hI hB
 have he : ((a : Int) == (s.size : Int)) = false := by rw [beq_eq_false_iff_ne]; omega
 have b1 : (0 : Int) ≤ (a : Int) := by omega
 have b2 : (a : Int) < (s.size : Int) := by omega
 go_enter Tryz.func52, Tryz.ntmps52
 go_wp2_with fail
 go_quiet (fail)
 revert nq
 intro n1
 go_wp2_with fail
 go_quiet (fail)
 have hsc := sgetB hl hc
 generalize s[a]'hl = c1 at hsc ⊢
 have h0 : isLet c1 = false := by rw [hsc]; rfl
 have h1 : isDig c1 = false := by rw [hsc]; rfl
 have c34 : ((c1.toNat : Int) == 34) = false := by rw [hsc]; rfl
 have c91 : ((c1.toNat : Int) == 91) = false := by rw [hsc]; rfl
 have c123 : ((c1.toNat : Int) == 123) = true := by rw [hsc]; rfl
 have HV := Aside0.mk (show (c1.toNat : Int) = 123 by rw [hsc]; rfl)
 clear hsc
 clear hc
 have HI2 := Aside0.mk ((HI.out.drewN n1).drewN nq)
 have HB2 := Aside0.mk (pw_below_drewN (pw_below_drewN HB.out n1) nq)
 have HK2 := Aside0.mk (KeepBut.of_below (pw_below_drewN (pw_below_drewN (Below.refl w.heap.size w) n1) nq) g none)
 generalize hW2 : (w.drewN n1).drewN nq = W2 at HI2 HB2 HK2 ⊢
 clear hW2
 clear q0 q1 f1 HI HB
 have q1 : W2.cell? ⟨g, 1, none⟩ = some (.int .i64 (a : Int)) := (blk_cell HI2.out.1 1).trans rfl
 have f1 := blk_frozen HI2.out.1 1
 have HLE : Aside0 (∀ W, Calls Tryz.prog 72 #[.int .u8 (c1.toNat : Int)] W fun e w' => e = .returned (.bool false) ∧ W = w') := ⟨fun W => by have h := letter_c c1 W; rw [h0] at h; exact h.mono (fun e w' hh => ⟨hh.1, hh.2.symm⟩)⟩
 have HDI : Aside0 (∀ W, Calls Tryz.prog 74 #[.int .u8 (c1.toNat : Int)] W fun e w' => e = .returned (.bool false) ∧ W = w') := ⟨fun W => by have h := digit_c c1 W; rw [h1] at h; exact h.mono (fun e w' hh => ⟨hh.1, hh.2.symm⟩)⟩
 clear h0 h1
 go_wp2_with (first | (go_at_call 72; refine (HLE.out _).mono ?_; rintro e w' ⟨rfl, rfl⟩) | (go_at_call 74; refine (HDI.out _).mono ?_; rintro e w' ⟨rfl, rfl⟩))
 go_ret
 exact ⟨by rw [← HV.out]; rfl, by rw [show ((a + 1 : Nat) : Int) = (a : Int) + 1 by omega]; exact HI2.out.set_1 _, HB2.out.setCell (p := ⟨g, 1, none⟩) hg0 _, HK2.out.set_ 1 _⟩
set_option maxHeartbeats 4000000 in
theorem dn_bad (s : ByteArray) (hs : s.size ≤ 1000000000) (a : Nat) (ha : a ≤ s.size) (c : UInt8) (hl : a < s.size) (hc : (B s)[a]'(at_lt hl) = c) (h0 : isLet c = false) (h1 : isDig c = false) (h34 : c ≠ 34) (h91 : c ≠ 91) (h123 : c ≠ 123) (deep er : Int) (g : Nat) (w0 w : World) (hI : IsS61 w0 w g s (a : Int) deep er) (hB : Below w0.heap.size w0 w) :
  Calls Tryz.prog 52 #[.pointer (some ⟨g, 0, none⟩)] w fun e w' => e = .returned (.nilIface) ∧ IsS61 w0 w' g s ((a : Int)) deep er ∧ Below w0.heap.size w0 w' ∧ KeepBut w w' g none := by
 have HI := Aside0.mk hI
 have HB := Aside0.mk hB
 have hg0 : w0.heap.size ≤ g := hI.2
 have q0 : w.cell? ⟨g, 0, none⟩ = some (.string s) := (blk_cell hI.1 0).trans rfl
 have q1 : w.cell? ⟨g, 1, none⟩ = some (.int .i64 (a : Int)) := (blk_cell hI.1 1).trans rfl
 have f1 := blk_frozen hI.1 1
 clear hI hB
 have he : ((a : Int) == (s.size : Int)) = false := by rw [beq_eq_false_iff_ne]; omega
 have b1 : (0 : Int) ≤ (a : Int) := by omega
 have b2 : (a : Int) < (s.size : Int) := by omega
 go_enter Tryz.func52, Tryz.ntmps52
 go_wp2_with fail
 go_quiet (fail)
 revert nq
 intro n1
 go_wp2_with fail
 go_quiet (fail)
 have hsc := sgetB hl hc
 generalize s[a]'hl = c1 at hsc ⊢
 subst hsc
 clear hc
 have HI2 := Aside0.mk ((HI.out.drewN n1).drewN nq)
 have HB2 := Aside0.mk (pw_below_drewN (pw_below_drewN HB.out n1) nq)
 have HK2 := Aside0.mk (KeepBut.of_below (pw_below_drewN (pw_below_drewN (Below.refl w.heap.size w) n1) nq) g none)
 generalize hW2 : (w.drewN n1).drewN nq = W2 at HI2 HB2 HK2 ⊢
 clear hW2
 clear q0 q1 f1 HI HB
 have q1 : W2.cell? ⟨g, 1, none⟩ = some (.int .i64 (a : Int)) := (blk_cell HI2.out.1 1).trans rfl
 have f1 := blk_frozen HI2.out.1 1
 have HLE : Aside0 (∀ W, Calls Tryz.prog 72 #[.int .u8 (c1.toNat : Int)] W fun e w' => e = .returned (.bool false) ∧ W = w') := ⟨fun W => by have h := letter_c c1 W; rw [h0] at h; exact h.mono (fun e w' hh => ⟨hh.1, hh.2.symm⟩)⟩
 have HDI : Aside0 (∀ W, Calls Tryz.prog 74 #[.int .u8 (c1.toNat : Int)] W fun e w' => e = .returned (.bool false) ∧ W = w') := ⟨fun W => by have h := digit_c c1 W; rw [h1] at h; exact h.mono (fun e w' hh => ⟨hh.1, hh.2.symm⟩)⟩
 have c34 : ((c1.toNat : Int) == 34) = false := by rw [beq_eq_false_iff_ne]; exact fun e => h34 (UInt8.toNat_inj.1 (show c1.toNat = 34 by omega))
 have c91 : ((c1.toNat : Int) == 91) = false := by rw [beq_eq_false_iff_ne]; exact fun e => h91 (UInt8.toNat_inj.1 (show c1.toNat = 91 by omega))
 have c123 : ((c1.toNat : Int) == 123) = false := by rw [beq_eq_false_iff_ne]; exact fun e => h123 (UInt8.toNat_inj.1 (show c1.toNat = 123 by omega))
 clear h0 h1 h34 h91 h123
 go_wp2_with (first | (go_at_call 72; refine (HLE.out _).mono ?_; rintro e w' ⟨rfl, rfl⟩) | (go_at_call 74; refine (HDI.out _).mono ?_; rintro e w' ⟨rfl, rfl⟩))
 go_ret
 exact ⟨rfl, HI2.out, HB2.out, HK2.out⟩
set_option maxHeartbeats 4000000 in
theorem dname_c (s : ByteArray) (hs : s.size ≤ 1000000000) (a : Nat) (ha : a ≤ s.size) (deep : Int) (g : Nat) (w0 w : World) (hgl : GL w0) (hI : IsS61 w0 w g s (a : Int) deep 0) (hB : Below w0.heap.size w0 w) :
  Calls Tryz.prog 80 #[.pointer (some ⟨g, 0, none⟩)] w fun e w' => e = .returned (.string (mkB (((B s).drop a).takeWhile isNam))) ∧ (if namedS true (((B s).drop a).takeWhile isNam) = true then IsS61 w0 w' g s ((a + (((B s).drop a).takeWhile isNam).length : Nat) : Int) deep 0 else IsS61 w0 w' g s (a : Int) deep 2) ∧ Below w0.heap.size w0 w' ∧ KeepBut w w' g none := by
 have HG := Aside0.mk hgl
 have q1 : w.cell? ⟨g, 1, none⟩ = some (.int .i64 (a : Int)) := (blk_cell hI.1 1).trans rfl
 have HRUN := Aside0.mk (drun_nam s hs a ha deep 0 g w0 w hI hB)
 obtain ⟨T, hT⟩ : ∃ T, T = ((B s).drop a).takeWhile isNam := ⟨_, rfl⟩
 have hTl : a + T.length ≤ s.size := by
  have h := tw_le isNam ((B s).drop a)
  rw [← hT, List.length_drop, B_len] at h
  omega
 rw [← hT] at HRUN
 rw [← hT]
 obtain ⟨bn, hbn⟩ : ∃ bn, bn = namedS true T := ⟨_, rfl⟩
 rw [← hbn]
 have HNAM : Aside0 (∀ W, Below w0.heap.size w0 W → Calls Tryz.prog 51 #[.string (mkB T)] W fun e w' => e = .returned (.bool bn) ∧ Drawn0 W w') := ⟨fun W hW => by
  obtain ⟨k, hk⟩ := name_ev (mkB T) (by rw [mkB_size]; omega)
  have h := hk k (Nat.le_refl _)
  rw [show namedS true (B (mkB T)) = bn from hbn.symm] at h
  exact chars_Name.calls k (mkB T) bn W (HG.out.below hW) h⟩
 clear hT hbn hI hB hgl
 cases bn with
 | true =>
  simp only [reduceIte]
  go_enter Tryz.func80, Tryz.ntmps80
  go_wp2_with (first | (go_at_call 73; go_loud (with_reducible refine HRUN.out.mono ?_); rintro e w4 ⟨rfl, hi, hb, hk⟩; have HI4 := Aside0.mk hi; have HB4 := Aside0.mk hb; have HK4 := Aside0.mk hk; clear hi hb hk) | (go_at_call 51; go_loud (with_reducible refine (HNAM.out _ HB4.out).mono ?_); rintro e w5 ⟨rfl, hd⟩; have HD := Aside0.mk hd.below; clear hd))
  go_ret
  exact ⟨rfl, HI4.out.below HD.out, below_then HB4.out HB4.out.size HD.out, HK4.out.trans (KeepBut.of_below HD.out g none) (.inl rfl)⟩
 | false =>
  simp only [Bool.false_eq_true, reduceIte]
  go_enter Tryz.func80, Tryz.ntmps80
  go_wp2_with (first | (go_at_call 73; go_loud (with_reducible refine HRUN.out.mono ?_); rintro e w4 ⟨rfl, hi, hb, hk⟩; have HI4 := Aside0.mk hi; have HB4 := Aside0.mk hb; have HK4 := Aside0.mk hk; clear hi hb hk) | (go_at_call 51; go_loud (with_reducible refine (HNAM.out _ HB4.out).mono ?_); rintro e w5 ⟨rfl, hd⟩; have HI5 := Aside0.mk (HI4.out.below hd.below); have HB5 := Aside0.mk (below_then HB4.out HB4.out.size hd.below); have HK5 := Aside0.mk (HK4.out.trans (KeepBut.of_below hd.below g none) (.inl rfl)); clear hd) | (go_at_call 30; go_loud (with_reducible refine (datum_reader_fail.calls g s _ deep 0 (a : Int) 2 _ _ _ _ w0 w5 HG.out HI5.out HB5.out (dfail_0 s _ deep _ 2)).mono ?_); rintro e w6 ⟨rfl, hi, hb, hk⟩; have HI6 := Aside0.mk hi; have HB6 := Aside0.mk hb; have HK6 := Aside0.mk (HK5.out.trans hk (.inl rfl)); clear hi hb hk))
  go_ret
  exact ⟨rfl, HI6.out, HB6.out, HK6.out⟩
end Go.Proofs.YtidcecpbihmloaaGreatDoorE

namespace Go.Proofs.YtidcecpbihmloaaGreatDoorE
open Go Go.RowKit Go.Proofs.YtidcecpbihmloaaGreatDoorW.PrintWords Go.Proofs.YtidcecpbihmloaaGreatDoorW.PrintMore Go.Proofs.YtidcecpbihmloaaGreatDoorW.PrintLast Go.Proofs.YtidcecpbihmloaaGreatDoorX Go.Proofs.YtidcecpbihmloaaGreatDoor.P16 Go.Proofs.YtidcecpbihmloaaGreatDoor.M02
set_option linter.unusedVariables false
set_option linter.unusedSimpArgs false
set_option maxRecDepth 100000
/-- The contract of the reader's piece at a fuel. -/
def PieceQ (s : ByteArray) (n : Nat) : Prop := ∀ (a deep : Nat), a ≤ s.size → deep ≤ 16 → 3 * (s.size - a) + 1 ≤ n → ∀ (g : Nat) (w0 w : World), GL w0 → IsS61 w0 w g s (a : Int) (deep : Int) 0 → Below w0.heap.size w0 w →
 Calls Tryz.prog 29 #[.pointer (some ⟨g, 0, none⟩)] w (pieceQ w0 w g s (deep : Int) (pieceS n ((B s).drop a) a deep))
theorem state_grownQ {w0 W W1 : World} {g : Nat} {s : ByteArray} {i1 i2 i3 : Int} {v : Value} {b : Nat} (h : IsS61 w0 W g s i1 i2 i3) (hg : W.grownBy W1 v.ownBlock) (hne : ∀ k, v.ownBlock = some k → b < k) (hb : g < b) (j : Nat) (u : Value) : IsS61 w0 (W1.setCell ⟨b, j, none⟩ u) g s i1 i2 i3 :=
 (h.grown hg (fun e => by have := hne g e.symm; omega)).far (p := ⟨b, j, none⟩) (by show g ≠ b; omega) u
/-- What holds at the head of the loop over the members. -/
def QInv (w0 w : World) (g : Nat) (s : ByteArray) (deep : Nat) (b : Bool) (R : Res DT) (gk : Nat) (wr : World) : Prop :=
 ∃ (x : DT) (v3 v4 : Value), LR w0 w g x v3 v4 wr ∧ x.f0 = kindB b ∧ x.f1 = 0 ∧ x.f2 = em ∧
  ∃ a : Nat, a ≤ s.size ∧ IsS61 w0 wr g s (a : Int) ((deep + 1 : Nat) : Int) 0 ∧ R = membersS gk ((B s).drop a) a (deep + 1) b x.f3 x.f4 ∧ 3 * (s.size - a) + 3 ≤ gk ∧ x.f3.length ≤ a ∧ x.f4.length ≤ a
set_option maxHeartbeats 20000000 in
theorem qall_list (s : ByteArray) (hs : s.size ≤ 1000000000) (a : Nat) (ha : a ≤ s.size) (deep : Nat) (hd : deep < 16) (m : Nat) (hm : 3 * (s.size - a) + 3 ≤ m) (ih : ∀ n, n < m → PieceQ s n) (g : Nat) (w0 w : World) (hgl : GL w0) (hI : IsS61 w0 w g s (a : Int) ((deep + 1 : Nat) : Int) 0) (hB : Below w0.heap.size w0 w) :
  Calls Tryz.prog 56 #[.pointer (some ⟨g, 0, none⟩), .bool false] w (pieceQ w0 w g s ((deep + 1 : Nat) : Int) (allS m s a deep false)) := by
 obtain ⟨R, hR⟩ : ∃ R : Res DT, R = allS m s a deep false := ⟨_, rfl⟩
 rw [← hR]
 have HRA := Aside0.mk hR
 have IH := Aside0.mk ih
 have HG := Aside0.mk hgl
 have hgw : g < w.heap.size := blk_lt hI.1
 have hg0 : w0.heap.size ≤ g := hI.2
 have hww : w0.heap.size ≤ w.heap.size := hB.size
 have HI1 := Aside0.mk ((hI.alloc (.cells zCells 25)).alloc (.cells #[.int .i64 4, .int .i64 0, .string ⟨#[]⟩, .slice none 0 0, .slice none 0 0] 25))
 have HL1 : Aside0 (LR w0 w g ⟨4, 0, em, [], []⟩ (.slice none 0 0) (.slice none 0 0) ((w.alloc (.cells zCells 25)).alloc (.cells #[.int .i64 4, .int .i64 0, .string ⟨#[]⟩, .slice none 0 0, .slice none 0 0] 25))) := ⟨⟨DL.new _ 4 0 em (two_new_ w _ _), below_alloc (below_alloc hB _) _, KeepBut.of_below (below_alloc (below_alloc (Below.refl _ w) _) _) g none, two_old_ w _ _⟩⟩
 clear hR ih hgl hI hB
 go_enter Tryz.func56, Tryz.ntmps56
 go_upto_region 4 with fail
 skip
 generalize hW : (w.alloc (.cells zCells 25)).alloc (.cells #[.int .i64 4, .int .i64 0, .string ⟨#[]⟩, .slice none 0 0, .slice none 0 0] 25) = W1 at HI1 HL1 ⊢
 clear hW
 cases hx : nxt s a (shutB false) with
 | true =>
  have HRt := Aside0.mk (HRA.out.trans (show allS m s a deep false = .ok ⟨4, 0, em, [], []⟩ (a + 1) ((B s).drop (a + 1)) from if_pos hx))
  have HIS : Aside0 (Calls Tryz.prog 79 #[.pointer (some ⟨g, 0, none⟩), .int .u8 93] W1 fun e w' => e = .returned (.bool true) ∧ IsS61 w0 w' g s ((a + 1 : Nat) : Int) ((deep + 1 : Nat) : Int) 0 ∧ Below w0.heap.size w0 w' ∧ KeepBut W1 w' g none) := ⟨datum_reader_is.calls g s _ _ _ 93 _ _ _ _ _ w0 W1 HG.out HI1.out HL1.out.bel (dis_ok s a ((deep + 1 : Nat) : Int) (shutB false) hx (by omega))⟩
  clear hx
  go_wp2_with (go_at_call 79; go_loud (with_reducible refine HIS.out.mono ?_); rintro e w7 ⟨rfl, hi, hb, hk⟩; have HI7 := Aside0.mk hi; have HL7 := Aside0.mk (HL1.out.step hgw hb hk); obtain ⟨p0, p1, p2, p3, p4⟩ := HL7.out.cell; have hy := Lib.cell_of_heap HL7.out.res; have hz := Lib.frozen_of_heap HL7.out.res; clear hi hb hk)
  clear hy hz p0 p1 p2 p3 p4
  refine bodyPost_ret (results_cell_row rfl _ _ w.heap.size 25 _ (0, 0) _ rfl (set_blk (j := 4) (set_blk (j := 3) (set_blk (j := 2) (set_blk (j := 1) (set_blk (j := 0) HL7.out.res _) _) _) _) _) Tryz.underlying25 rfl (by kernel_rfl)) rfl ?_
  refine finQ (x := ⟨4, 0, em, [], []⟩) (ok := fun k => w.heap.size + 1 < k) HL7.out.bel hww HL7.out.keep hgw (k25_mkM _ w.heap.size _ ⟨4, 0, em, [], []⟩ (Kd.R_lower HL7.out.dl.r3 (by omega)) (Kd.R_mono (Kd.R_lower HL7.out.dl.r4 (by omega)) (fun k hk => hk.1))) (fun k hk => by omega) ?_
  rw [HRt.out]
  exact ⟨rfl, HI7.out⟩
 | false =>
  have HRf := Aside0.mk (HRA.out.trans (show allS m s a deep false = membersS m ((B s).drop a) a (deep + 1) false [] [] from if_neg (by rw [hx]; decide)))
  have HIS : Aside0 (Calls Tryz.prog 79 #[.pointer (some ⟨g, 0, none⟩), .int .u8 93] W1 fun e w' => e = .returned (.bool false) ∧ IsS61 w0 w' g s (a : Int) ((deep + 1 : Nat) : Int) 0 ∧ Below w0.heap.size w0 w' ∧ KeepBut W1 w' g none) := ⟨datum_reader_is.calls g s _ _ _ 93 _ _ _ _ _ w0 W1 HG.out HI1.out HL1.out.bel (dis_no s a ((deep + 1 : Nat) : Int) (shutB false) hx)⟩
  clear hx
  go_wp2_with (go_at_call 79; go_loud (with_reducible refine HIS.out.mono ?_); rintro e w3 ⟨rfl, hi, hb, hk⟩; have HI3 := Aside0.mk hi; have HL3 := Aside0.mk (HL1.out.step hgw hb hk); clear hi hb hk)
  go_loopg [] m (fun gk wr => gk ≤ m ∧ Aside0 (QInv w0 w g s deep false R gk wr))
  case atStart => exact ⟨Nat.le_refl _, ⟨_, _, _, HL3.out, rfl, rfl, rfl, a, ha, HI3.out, HRf.out, hm, Nat.zero_le _, Nat.zero_le _⟩⟩
  case round =>
   clear HRA HI1 HL1 HIS HI3 HL3 HRf
   obtain ⟨hgm, HLV⟩ := hrel
   obtain ⟨x, v3, v4, hl, h0, h1, h2, a1, ha1, hi, hRm, hfu, hn3, hn4⟩ := HLV.out
   have HLR := Aside0.mk hl
   have HX := Aside0.mk (And.intro h0 (And.intro h1 h2))
   clear hl h0 h1 h2 HLV
   have HI := Aside0.mk hi
   have HRm := Aside0.mk hRm
   have q3 : wr.cell? ⟨g, 3, none⟩ = some (.int .i64 0) := (blk_cell hi.1 3).trans rfl
   obtain ⟨n, hn⟩ : ∃ n, gk = n + 2 := ⟨gk - 2, by omega⟩
   have HNG := Aside0.mk hn
   have hng : n + 2 ≤ gk := by omega
   have hgn : gk ≤ n + 2 := by omega
   obtain ⟨A3, c3, rfl⟩ := Kd.R_slice HLR.out.dl.r3
   obtain ⟨A4, c4, rfl⟩ := Kd.R_slice HLR.out.dl.r4
   clear hi hRm
   have HRc := Aside0.mk (show R = tailR n s deep false x (pieceS n ((B s).drop a1) a1 (deep + 1)) by
    rw [HRm.out, HNG.out, membersS, if_neg (by decide)]
    exact tailS_eq n s a1 deep false x)
   have HTI := Aside0.mk (tail_of s n a1 deep false x ha1 hs (by omega) hn3 hn4)
   have HLd := Aside0.mk (HLR.out.below (below_drew (Below.refl _ _)))
   have HPC := Aside0.mk (IH.out n (by omega) a1 (deep + 1) ha1 (by omega) (by omega) g w0 wr.drew HG.out HI.out.drew HLd.out.bel)
   obtain ⟨R1, hR1⟩ : ∃ R1 : Res DT, R1 = pieceS n ((B s).drop a1) a1 (deep + 1) := ⟨_, rfl⟩
   rw [← hR1] at HRc HTI HPC
   clear hn hR1 HRm
   have y4 := HLR.out.cell.2.2.2.2
   have HLc := Aside0.mk HLR.out
   go_upto_region 10 with fail
   refine start_ (n := 8) (S := fun w' => w'.cell? ⟨w.heap.size + 1, 4, none⟩ = some (.slice A4 x.f4.length c4)) (ds := [7]) #[false, false, false, false, false, false, false, false] (by kernel_rfl) rfl rfl (cell_drew y4) (fun hHeld => ?_)
   refine pure_ (i := 0) (N := some 30) (v := ?_) (a' := ?_) #[true, false, false, false, false, false, false, false] rfl rfl (by kernel_rfl) (fun _ _ _ h => h) (Or.inl ⟨by rfl, ?_⟩) ?_ ?_
   rotate_left
   ·intro w'
    go_simp
    with_reducible rfl
   rotate_left
   ·simp only [Act.put, List.setIfInBounds_toArray, List.set_cons_zero, List.set_cons_succ, i64_w, i32_w]
    rfl
   refine pure_ (i := 2) (N := some 32) (v := ?_) (a' := ?_) #[true, false, true, false, false, false, false, false] rfl rfl (by kernel_rfl) (fun _ _ _ h => h) (Or.inl ⟨by rfl, ?_⟩) ?_ ?_
   rotate_left
   ·intro w'
    go_simp
    with_reducible rfl
   rotate_left
   ·simp only [Act.put, List.setIfInBounds_toArray, List.set_cons_zero, List.set_cons_succ, i64_w, i32_w]
    rfl
   refine take_ (i := 1) (N := some 31) (v := ?_) (a' := ?_) #[true, true, true, false, false, false, false, false] rfl rfl (by kernel_rfl) (fun _ _ _ h => h) (Or.inl ⟨by rfl, ?_⟩) hHeld ?_ ?_
   rotate_left
   ·intro w' s0
    go_split_ands
    go_simp
    with_reducible rfl
   rotate_left
   ·simp only [Act.put, List.setIfInBounds_toArray, List.set_cons_zero, List.set_cons_succ, i64_w, i32_w]
    rfl
   refine one_ (i := 3) (N := some 33) #[true, true, true, true, false, false, false, false] rfl rfl (by kernel_rfl) (by decide) (fun K hK => ?_)
   refine goes_ Tryz.func29 (by kernel_rfl) rfl #[.pointer (some ⟨g, 0, none⟩)] (by rfl) rfl rfl (by (try simp only [List.map_toArray, List.map_cons, List.map_nil]); first | done | rfl) ?_
   refine HPC.out.mono ?_
   rintro e w' ⟨hb5, hk5, d, u3, u4, rfl, hm5, hs5⟩
   have HL5 := Aside0.mk (HLd.out.step hgw hb5 hk5)
   have HS5 := Aside0.mk hs5
   have HM5 := Aside0.mk hm5
   have y5 := HL5.out.cell.2.2.2.2
   clear hb5 hk5 hm5 hs5
   refine ⟨_, rfl, ?_⟩
   refine hK.out _ _ y5 (fun hHeld => ?_)
   clear hK K
   refine norm_ (a' := ?_) ?_ ?_
   rotate_left
   ·show Act.put _ (some 33) _ = _
    simp only [Act.put, List.setIfInBounds_toArray, List.set_cons_zero, List.set_cons_succ, i64_w, i32_w]
    rfl
   refine one_ (i := 4) (N := some 34) #[true, true, true, true, true, false, false, false] rfl rfl (by kernel_rfl) (by decide) (fun K hK => ?_)
   refine value_ (w1 := World.alloc w' (.cells #[.int .i64 d.f0, .int .i64 d.f1, .string d.f2, u3, u4] 25 (0, 0))) (v := .slice (some ⟨w'.heap.size, 0, none⟩) 1 1) (by rfl) rfl (by go_simp) ?_
   refine hK.out _ _ (pw_cell_below (below_alloc (Below.refl _ _) _) y5) (fun hHeld => ?_)
   clear hK K
   refine norm_ (a' := ?_) ?_ ?_
   rotate_left
   ·show Act.put _ (some 34) _ = _
    simp only [Act.put, List.setIfInBounds_toArray, List.set_cons_zero, List.set_cons_succ, i64_w, i32_w]
    rfl
   refine one_ (i := 5) (N := some 35) #[true, true, true, true, true, true, false, false] rfl rfl (by kernel_rfl) (by decide) (fun K hK => ?_)
   refine Kd.R_append_step (w0 := w') (W := w') k25 (w.heap.size + 1 + 1) (by rfl) (.tmp 31) (.tmp 34) 23 25 (.agg zCells) 80 rfl Tryz.underlying23 info_d rfl (by decide) (by decide) (.slice A4 x.f4.length c4) x.f4 d (dCells d u3 u4) (fun k => w.heap.size + 1 < k ∧ some k ≠ (Value.slice A3 x.f3.length c3).ownBlock) (fun k => wr.heap.size ≤ k) rfl rfl (made_low HM5.out HLc.out.dl.lt) (fun k hk => ?_) (fun k hk => ?_) HL5.out.dl.r4 (Below.refl _ _) HL5.out.dl.lt ?_ ?_
   ·exact new_ok HLc.out.dl hk
   ·exact new_ok HL5.out.dl hk |>.1
   ·have := HTI.out.len; show (x.f4.length + 1) * 80 ≤ _; omega
   intro v1 wa hR1 hb1 hg1 hat1
   obtain ⟨A9, c9, rfl⟩ := Kd.R_slice hR1
   have HL9 := Aside0.mk (HL5.out.piece hww hR1 hg1)
   have HG9 := Aside0.mk hg1
   have HB9 := Aside0.mk (blk_grown HL5.out.dl.blk hg1 (fun e => absurd (HL5.out.dl.r4.1 _ e.symm).1 (by omega)))
   clear hR1 hb1 hg1 hat1
   have y9 : wa.cell? ⟨w.heap.size + 1, 4, none⟩ = some (.slice A4 x.f4.length c4) := (blk_cell HB9.out 4).trans rfl
   have z9 := blk_frozen HB9.out 4
   refine hK.out _ _ y9 (fun hHeld => ?_)
   clear hK K
   refine norm_ (a' := ?_) ?_ ?_
   rotate_left
   ·show Act.put _ (some 35) _ = _
    simp only [Act.put, List.setIfInBounds_toArray, List.set_cons_zero, List.set_cons_succ, i64_w, i32_w]
    rfl
   refine pure_ (i := 6) (N := some 36) (v := ?_) (a' := ?_) #[true, true, true, true, true, true, true, false] rfl rfl (by kernel_rfl) (fun _ _ _ h => h) (Or.inl ⟨by rfl, ?_⟩) ?_ ?_
   rotate_left
   ·intro w'
    go_simp
    with_reducible rfl
   rotate_left
   ·simp only [Act.put, List.setIfInBounds_toArray, List.set_cons_zero, List.set_cons_succ, i64_w, i32_w]
    rfl
   refine last_ (i := 7) (N := none) #[true, true, true, true, true, true, true, true] rfl rfl (by kernel_rfl) (by decide) (fun K hK => ?_)
   refine skip_ (w1 := ?_) (by rfl) rfl ?_ ?_
   rotate_left
   ·go_simp
    rfl
   refine hK.out _ _ ?_
   clear hK K
   refine done_ (by kernel_rfl) ?_
   have HP9 := Aside0.mk (fun (i1 i2 i3 : Int) (h : IsS61 w0 w' g s i1 i2 i3) => state_grownQ (W1 := wa) (v := .slice A4 x.f4.length c4) (b := w.heap.size + 1) h HG9.out (fun k hk => (HL5.out.dl.r4.1 k hk).1) (by omega) 4 (.slice A9 (x.f4 ++ [d]).length c9))
   clear HG9 HB9 HM5 y9 z9
   rw [show (x.f4 ++ [d]).length = x.f4.length + 1 by simp] at HL9 HP9
   cases R1 with
   | err p c =>
    obtain ⟨op', hi⟩ := HS5.out
    have HI9 := Aside0.mk (HP9.out _ _ _ hi)
    have HC0 := Aside0.mk (HTI.out.err p c rfl)
    have HIS : Aside0 (∀ W, IsS61 w0 W g s (p : Int) op' c → Below w0.heap.size w0 W → Calls Tryz.prog 79 #[.pointer (some ⟨g, 0, none⟩), .int .u8 44] W fun e w' => e = .returned (.bool false) ∧ IsS61 w0 w' g s (p : Int) op' c ∧ Below w0.heap.size w0 w' ∧ KeepBut W w' g none) := ⟨fun W h hb => datum_reader_is.calls g s _ _ _ 44 _ _ _ _ _ w0 W HG.out h hb (dis_er s (p : Int) op' c 44 HC0.out)⟩
    have HMU : Aside0 (∀ W, IsS61 w0 W g s (p : Int) op' c → Below w0.heap.size w0 W → Calls Tryz.prog 78 #[.pointer (some ⟨g, 0, none⟩), .int .u8 93] W fun e w' => e = .returned (.bool false) ∧ IsS61 w0 w' g s (p : Int) op' c ∧ Below w0.heap.size w0 w' ∧ KeepBut W w' g none) := ⟨fun W h hb => datum_reader_must.calls g s _ _ _ 93 _ _ _ _ _ w0 W HG.out h hb (dmust_er s (p : Int) op' c 93 HC0.out)⟩
    clear hi HP9 HS5
    go_wp2_with (first | (go_at_call 79; go_loud (with_reducible refine (HIS.out _ HI9.out HL9.out.bel).mono ?_); rintro e w6 ⟨rfl, hi, hb, hk⟩; have HI6 := Aside0.mk hi; have HL6 := Aside0.mk (HL9.out.step hgw hb hk); clear hi hb hk) | (go_at_call 78; go_loud (with_reducible refine (HMU.out _ HI6.out HL6.out.bel).mono ?_); rintro e w7 ⟨rfl, hi, hb, hk⟩; have HI7 := Aside0.mk hi; have HL7 := Aside0.mk (HL6.out.step hgw hb hk); obtain ⟨p0, p1, p2, p3, p4⟩ := HL7.out.cell; have hy := Lib.cell_of_heap HL7.out.res; have hz := Lib.frozen_of_heap HL7.out.res; clear hi hb hk))
    clear hy hz p0 p1 p2 p3 p4
    refine bodyPost_ret (results_cell_row rfl _ _ w.heap.size 25 _ (0, 0) _ rfl (set_blk (j := 4) (set_blk (j := 3) (set_blk (j := 2) (set_blk (j := 1) (set_blk (j := 0) HL7.out.res _) _) _) _) _) Tryz.underlying25 rfl (by kernel_rfl)) rfl ?_
    refine finQ (x := ⟨x.f0, x.f1, x.f2, x.f3, x.f4 ++ [d]⟩) (ok := fun k => w.heap.size + 1 < k) HL7.out.bel hww HL7.out.keep hgw (k25_mkM _ w.heap.size _ ⟨x.f0, x.f1, x.f2, x.f3, x.f4 ++ [d]⟩ (Kd.R_lower HL7.out.dl.r3 (by omega)) (Kd.R_mono (Kd.R_lower HL7.out.dl.r4 (by omega)) (fun k hk => hk.1))) (fun k hk => by omega) ?_
    rw [HRc.out]
    exact ⟨_, HI7.out⟩
   | ok d' a2 r =>
    obtain ⟨rfl, hi⟩ := HS5.out
    have HI9 := Aside0.mk (HP9.out _ _ _ hi)
    obtain ⟨ha2, hn2, h32, h42⟩ := HTI.out.ok d a2 r rfl
    clear hi HP9 HS5
    cases hx : nxt s a2 44 with
    | false =>
     have HRf := Aside0.mk (HRc.out.trans (show tailR n s deep false x (.ok d a2 r) = (if nxt s a2 (shutB false) = true then .ok ⟨kindB false, 0, em, x.f3, x.f4 ++ [d]⟩ (a2 + 1) ((B s).drop (a2 + 1)) else .err a2 2) from if_neg (by rw [hx]; decide)))
     have HIS : Aside0 (∀ W, IsS61 w0 W g s (a2 : Int) ((deep + 1 : Nat) : Int) 0 → Below w0.heap.size w0 W → Calls Tryz.prog 79 #[.pointer (some ⟨g, 0, none⟩), .int .u8 44] W fun e w' => e = .returned (.bool false) ∧ IsS61 w0 w' g s (a2 : Int) ((deep + 1 : Nat) : Int) 0 ∧ Below w0.heap.size w0 w' ∧ KeepBut W w' g none) := ⟨fun W h hb => datum_reader_is.calls g s _ _ _ 44 _ _ _ _ _ w0 W HG.out h hb (dis_no s a2 ((deep + 1 : Nat) : Int) 44 hx)⟩
     cases hy : nxt s a2 (shutB false) with
     | false =>
      have HRg := Aside0.mk (HRf.out.trans (if_neg (by rw [hy]; decide)))
      have HMU : Aside0 (∀ W, IsS61 w0 W g s (a2 : Int) ((deep + 1 : Nat) : Int) 0 → Below w0.heap.size w0 W → Calls Tryz.prog 78 #[.pointer (some ⟨g, 0, none⟩), .int .u8 93] W fun e w' => e = .returned (.bool false) ∧ IsS61 w0 w' g s (a2 : Int) ((deep + 1 : Nat) : Int) 2 ∧ Below w0.heap.size w0 w' ∧ KeepBut W w' g none) := ⟨fun W h hb => datum_reader_must.calls g s _ _ _ 93 _ _ _ _ _ w0 W HG.out h hb (dmust_no s a2 ((deep + 1 : Nat) : Int) (shutB false) hy ha2)⟩
      clear hx hy
      go_wp2_with (first | (go_at_call 79; go_loud (with_reducible refine (HIS.out _ HI9.out HL9.out.bel).mono ?_); rintro e w6 ⟨rfl, hi, hb, hk⟩; have HI6 := Aside0.mk hi; have HL6 := Aside0.mk (HL9.out.step hgw hb hk); clear hi hb hk) | (go_at_call 78; go_loud (with_reducible refine (HMU.out _ HI6.out HL6.out.bel).mono ?_); rintro e w7 ⟨rfl, hi, hb, hk⟩; have HI7 := Aside0.mk hi; have HL7 := Aside0.mk (HL6.out.step hgw hb hk); obtain ⟨p0, p1, p2, p3, p4⟩ := HL7.out.cell; have hy := Lib.cell_of_heap HL7.out.res; have hz := Lib.frozen_of_heap HL7.out.res; clear hi hb hk))
      clear hy hz p0 p1 p2 p3 p4
      refine bodyPost_ret (results_cell_row rfl _ _ w.heap.size 25 _ (0, 0) _ rfl (set_blk (j := 4) (set_blk (j := 3) (set_blk (j := 2) (set_blk (j := 1) (set_blk (j := 0) HL7.out.res _) _) _) _) _) Tryz.underlying25 rfl (by kernel_rfl)) rfl ?_
      refine finQ (x := ⟨x.f0, x.f1, x.f2, x.f3, x.f4 ++ [d]⟩) (ok := fun k => w.heap.size + 1 < k) HL7.out.bel hww HL7.out.keep hgw (k25_mkM _ w.heap.size _ ⟨x.f0, x.f1, x.f2, x.f3, x.f4 ++ [d]⟩ (Kd.R_lower HL7.out.dl.r3 (by omega)) (Kd.R_mono (Kd.R_lower HL7.out.dl.r4 (by omega)) (fun k hk => hk.1))) (fun k hk => by omega) ?_
      rw [HRg.out]
      exact ⟨_, HI7.out⟩
     | true =>
      have HRg := Aside0.mk (HRf.out.trans (if_pos hy))
      have HMU : Aside0 (∀ W, IsS61 w0 W g s (a2 : Int) ((deep + 1 : Nat) : Int) 0 → Below w0.heap.size w0 W → Calls Tryz.prog 78 #[.pointer (some ⟨g, 0, none⟩), .int .u8 93] W fun e w' => e = .returned (.bool true) ∧ IsS61 w0 w' g s ((a2 + 1 : Nat) : Int) ((deep + 1 : Nat) : Int) 0 ∧ Below w0.heap.size w0 w' ∧ KeepBut W w' g none) := ⟨fun W h hb => datum_reader_must.calls g s _ _ _ 93 _ _ _ _ _ w0 W HG.out h hb (dmust_ok s a2 ((deep + 1 : Nat) : Int) (shutB false) hy (by omega))⟩
      clear hx hy
      go_wp2_with (first | (go_at_call 79; go_loud (with_reducible refine (HIS.out _ HI9.out HL9.out.bel).mono ?_); rintro e w6 ⟨rfl, hi, hb, hk⟩; have HI6 := Aside0.mk hi; have HL6 := Aside0.mk (HL9.out.step hgw hb hk); clear hi hb hk) | (go_at_call 78; go_loud (with_reducible refine (HMU.out _ HI6.out HL6.out.bel).mono ?_); rintro e w7 ⟨rfl, hi, hb, hk⟩; have HI7 := Aside0.mk hi; have HL7 := Aside0.mk (HL6.out.step hgw hb hk); obtain ⟨p0, p1, p2, p3, p4⟩ := HL7.out.cell; have hy := Lib.cell_of_heap HL7.out.res; have hz := Lib.frozen_of_heap HL7.out.res; clear hi hb hk))
      clear hy hz p0 p1 p2 p3 p4
      refine bodyPost_ret (results_cell_row rfl _ _ w.heap.size 25 _ (0, 0) _ rfl (set_blk (j := 4) (set_blk (j := 3) (set_blk (j := 2) (set_blk (j := 1) (set_blk (j := 0) HL7.out.res _) _) _) _) _) Tryz.underlying25 rfl (by kernel_rfl)) rfl ?_
      refine finQ (x := ⟨x.f0, x.f1, x.f2, x.f3, x.f4 ++ [d]⟩) (ok := fun k => w.heap.size + 1 < k) HL7.out.bel hww HL7.out.keep hgw (k25_mkM _ w.heap.size _ ⟨x.f0, x.f1, x.f2, x.f3, x.f4 ++ [d]⟩ (Kd.R_lower HL7.out.dl.r3 (by omega)) (Kd.R_mono (Kd.R_lower HL7.out.dl.r4 (by omega)) (fun k hk => hk.1))) (fun k hk => by omega) ?_
      rw [HRg.out]
      exact ⟨by rw [HX.out.1, HX.out.2.1, HX.out.2.2], HI7.out⟩
    | true =>
     have HRt := Aside0.mk (HRc.out.trans (show tailR n s deep false x (.ok d a2 r) = membersS n ((B s).drop (a2 + 1)) (a2 + 1) (deep + 1) false x.f3 (x.f4 ++ [d]) from if_pos hx))
     have hlt : a2 < s.size := by
      rcases Nat.lt_or_ge a2 s.size with h | h
      ·exact h
      ·rw [nxt_end 44 h] at hx; cases hx
     have HIS : Aside0 (∀ W, IsS61 w0 W g s (a2 : Int) ((deep + 1 : Nat) : Int) 0 → Below w0.heap.size w0 W → Calls Tryz.prog 79 #[.pointer (some ⟨g, 0, none⟩), .int .u8 44] W fun e w' => e = .returned (.bool true) ∧ IsS61 w0 w' g s ((a2 + 1 : Nat) : Int) ((deep + 1 : Nat) : Int) 0 ∧ Below w0.heap.size w0 w' ∧ KeepBut W w' g none) := ⟨fun W h hb => datum_reader_is.calls g s _ _ _ 44 _ _ _ _ _ w0 W HG.out h hb (dis_ok s a2 ((deep + 1 : Nat) : Int) 44 hx (by omega))⟩
     clear hx
     go_wp2_with (go_at_call 79; go_loud (with_reducible refine (HIS.out _ HI9.out HL9.out.bel).mono ?_); rintro e w6 ⟨rfl, hi, hb, hk⟩; have HI6 := Aside0.mk hi; have HL6 := Aside0.mk (HL9.out.step hgw hb hk); clear hi hb hk)
     go_roundg n
     case measure => omega
     case rel => exact ⟨by omega, ⟨_, _, _, HL6.out, HX.out.1, HX.out.2.1, HX.out.2.2, a2 + 1, by omega, HI6.out, HRt.out, by omega, by show x.f3.length ≤ _; omega, by show (x.f4 ++ [d]).length ≤ _; simp; omega⟩⟩
end Go.Proofs.YtidcecpbihmloaaGreatDoorE

namespace Go.Proofs.YtidcecpbihmloaaGreatDoorE
open Go Go.RowKit Go.Proofs.YtidcecpbihmloaaGreatDoorW.PrintWords Go.Proofs.YtidcecpbihmloaaGreatDoorW.PrintMore Go.Proofs.YtidcecpbihmloaaGreatDoorW.PrintLast Go.Proofs.YtidcecpbihmloaaGreatDoorX Go.Proofs.YtidcecpbihmloaaGreatDoor.P16 Go.Proofs.YtidcecpbihmloaaGreatDoor.M02
set_option linter.unusedVariables false
set_option linter.unusedSimpArgs false
set_option maxRecDepth 100000
set_option maxHeartbeats 20000000 in
theorem qall_rec (s : ByteArray) (hs : s.size ≤ 1000000000) (a : Nat) (ha : a ≤ s.size) (deep : Nat) (hd : deep < 16) (m : Nat) (hm : 3 * (s.size - a) + 3 ≤ m) (ih : ∀ n, n < m → PieceQ s n) (g : Nat) (w0 w : World) (hgl : GL w0) (hI : IsS61 w0 w g s (a : Int) ((deep + 1 : Nat) : Int) 0) (hB : Below w0.heap.size w0 w) :
  Calls Tryz.prog 56 #[.pointer (some ⟨g, 0, none⟩), .bool true] w (pieceQ w0 w g s ((deep + 1 : Nat) : Int) (allS m s a deep true)) := by
 obtain ⟨R, hR⟩ : ∃ R : Res DT, R = allS m s a deep true := ⟨_, rfl⟩
 rw [← hR]
 have HRA := Aside0.mk hR
 have IH := Aside0.mk ih
 have HG := Aside0.mk hgl
 have hgw : g < w.heap.size := blk_lt hI.1
 have hg0 : w0.heap.size ≤ g := hI.2
 have hww : w0.heap.size ≤ w.heap.size := hB.size
 have HI1 := Aside0.mk ((hI.alloc (.cells zCells 25)).alloc (.cells #[.int .i64 5, .int .i64 0, .string ⟨#[]⟩, .slice none 0 0, .slice none 0 0] 25))
 have HL1 : Aside0 (LR w0 w g ⟨5, 0, em, [], []⟩ (.slice none 0 0) (.slice none 0 0) ((w.alloc (.cells zCells 25)).alloc (.cells #[.int .i64 5, .int .i64 0, .string ⟨#[]⟩, .slice none 0 0, .slice none 0 0] 25))) := ⟨⟨DL.new _ 5 0 em (two_new_ w _ _), below_alloc (below_alloc hB _) _, KeepBut.of_below (below_alloc (below_alloc (Below.refl _ w) _) _) g none, two_old_ w _ _⟩⟩
 have HD1 := Aside0.mk (two_new_ w (.cells zCells 25) (.cells #[.int .i64 4, .int .i64 0, .string ⟨#[]⟩, .slice none 0 0, .slice none 0 0] 25))
 have y1 := Lib.cell_of_heap HD1.out
 have z1 := Lib.frozen_of_heap HD1.out
 clear hR ih hgl hI hB
 go_enter Tryz.func56, Tryz.ntmps56
 go_upto_region 4 with fail
 clear y1 z1 HD1
 generalize hW : (w.alloc (.cells zCells 25)).alloc (.cells #[.int .i64 5, .int .i64 0, .string ⟨#[]⟩, .slice none 0 0, .slice none 0 0] 25) = W1 at HI1 HL1 ⊢
 clear hW
 cases hx : nxt s a (shutB true) with
 | true =>
  have HRt := Aside0.mk (HRA.out.trans (show allS m s a deep true = .ok ⟨5, 0, em, [], []⟩ (a + 1) ((B s).drop (a + 1)) from if_pos hx))
  have HIS : Aside0 (Calls Tryz.prog 79 #[.pointer (some ⟨g, 0, none⟩), .int .u8 125] W1 fun e w' => e = .returned (.bool true) ∧ IsS61 w0 w' g s ((a + 1 : Nat) : Int) ((deep + 1 : Nat) : Int) 0 ∧ Below w0.heap.size w0 w' ∧ KeepBut W1 w' g none) := ⟨datum_reader_is.calls g s _ _ _ 125 _ _ _ _ _ w0 W1 HG.out HI1.out HL1.out.bel (dis_ok s a ((deep + 1 : Nat) : Int) (shutB true) hx (by omega))⟩
  clear hx
  go_wp2_with (go_at_call 79; go_loud (with_reducible refine HIS.out.mono ?_); rintro e w7 ⟨rfl, hi, hb, hk⟩; have HI7 := Aside0.mk hi; have HL7 := Aside0.mk (HL1.out.step hgw hb hk); obtain ⟨p0, p1, p2, p3, p4⟩ := HL7.out.cell; have hy := Lib.cell_of_heap HL7.out.res; have hz := Lib.frozen_of_heap HL7.out.res; clear hi hb hk)
  clear hy hz p0 p1 p2 p3 p4
  refine bodyPost_ret (results_cell_row rfl _ _ w.heap.size 25 _ (0, 0) _ rfl (set_blk (j := 4) (set_blk (j := 3) (set_blk (j := 2) (set_blk (j := 1) (set_blk (j := 0) HL7.out.res _) _) _) _) _) Tryz.underlying25 rfl (by kernel_rfl)) rfl ?_
  refine finQ (x := ⟨5, 0, em, [], []⟩) (ok := fun k => w.heap.size + 1 < k) HL7.out.bel hww HL7.out.keep hgw (k25_mkM _ w.heap.size _ ⟨5, 0, em, [], []⟩ (Kd.R_lower HL7.out.dl.r3 (by omega)) (Kd.R_mono (Kd.R_lower HL7.out.dl.r4 (by omega)) (fun k hk => hk.1))) (fun k hk => by omega) ?_
  rw [HRt.out]
  exact ⟨rfl, HI7.out⟩
 | false =>
  have HRf := Aside0.mk (HRA.out.trans (show allS m s a deep true = membersS m ((B s).drop a) a (deep + 1) true [] [] from if_neg (by rw [hx]; decide)))
  have HIS : Aside0 (Calls Tryz.prog 79 #[.pointer (some ⟨g, 0, none⟩), .int .u8 125] W1 fun e w' => e = .returned (.bool false) ∧ IsS61 w0 w' g s (a : Int) ((deep + 1 : Nat) : Int) 0 ∧ Below w0.heap.size w0 w' ∧ KeepBut W1 w' g none) := ⟨datum_reader_is.calls g s _ _ _ 125 _ _ _ _ _ w0 W1 HG.out HI1.out HL1.out.bel (dis_no s a ((deep + 1 : Nat) : Int) (shutB true) hx)⟩
  clear hx
  go_wp2_with (go_at_call 79; go_loud (with_reducible refine HIS.out.mono ?_); rintro e w3 ⟨rfl, hi, hb, hk⟩; have HI3 := Aside0.mk hi; have HL3 := Aside0.mk (HL1.out.step hgw hb hk); clear hi hb hk)
  go_loopg [] m (fun gk wr => gk ≤ m ∧ Aside0 (QInv w0 w g s deep true R gk wr))
  case atStart => exact ⟨Nat.le_refl _, ⟨_, _, _, HL3.out, rfl, rfl, rfl, a, ha, HI3.out, HRf.out, hm, Nat.zero_le _, Nat.zero_le _⟩⟩
  case round =>
   clear HRA HI1 HL1 HIS HI3 HL3 HRf
   obtain ⟨hgm, HLV⟩ := hrel
   obtain ⟨x, v3, v4, hl, h0, h1, h2, a1, ha1, hi, hRm, hfu, hn3, hn4⟩ := HLV.out
   have HLR := Aside0.mk hl
   have HX := Aside0.mk (And.intro h0 (And.intro h1 h2))
   clear hl h0 h1 h2 HLV
   have HI := Aside0.mk hi
   have HRm := Aside0.mk hRm
   have q3 : wr.cell? ⟨g, 3, none⟩ = some (.int .i64 0) := (blk_cell hi.1 3).trans rfl
   obtain ⟨n, hn⟩ : ∃ n, gk = n + 2 := ⟨gk - 2, by omega⟩
   have HNG := Aside0.mk hn
   have hng : n + 2 ≤ gk := by omega
   have hgn : gk ≤ n + 2 := by omega
   obtain ⟨A3, c3, rfl⟩ := Kd.R_slice HLR.out.dl.r3
   obtain ⟨A4, c4, rfl⟩ := Kd.R_slice HLR.out.dl.r4
   clear hi hRm
   obtain ⟨T, hT⟩ : ∃ T, T = ((B s).drop a1).takeWhile isNam := ⟨_, rfl⟩
   have hTl : a1 + T.length ≤ s.size := by
    have h := tw_le isNam ((B s).drop a1)
    rw [← hT, List.length_drop, B_len] at h
    omega
   have hrm := HRm.out
   rw [HNG.out, members_rec, ← hT] at hrm
   have HRT := Aside0.mk hrm
   have HLw := Aside0.mk (HLR.out.below (below_drew (Below.refl _ _)))
   have HNAM := Aside0.mk (dname_c s hs a1 ha1 ((deep + 1 : Nat) : Int) g w0 wr.drew HG.out HI.out.drew HLw.out.bel)
   rw [← hT] at HNAM
   clear hrm hT hn HRm
   have y3 := HLR.out.cell.2.2.2.1
   go_upto_region 8 with fail
   refine start_ (n := 8) (S := fun w' => w'.cell? ⟨w.heap.size + 1, 3, none⟩ = some (.slice A3 x.f3.length c3)) (ds := [7]) #[false, false, false, false, false, false, false, false] (by kernel_rfl) rfl rfl (cell_drew y3) (fun hHeld => ?_)
   refine pure_ (i := 0) (N := some 20) (v := ?_) (a' := ?_) #[true, false, false, false, false, false, false, false] rfl rfl (by kernel_rfl) (fun _ _ _ h => h) (Or.inl ⟨by rfl, ?_⟩) ?_ ?_
   rotate_left
   ·intro w'
    go_simp
    with_reducible rfl
   rotate_left
   ·simp only [Act.put, List.setIfInBounds_toArray, List.set_cons_zero, List.set_cons_succ, i64_w, i32_w]
    rfl
   refine pure_ (i := 2) (N := some 22) (v := ?_) (a' := ?_) #[true, false, true, false, false, false, false, false] rfl rfl (by kernel_rfl) (fun _ _ _ h => h) (Or.inl ⟨by rfl, ?_⟩) ?_ ?_
   rotate_left
   ·intro w'
    go_simp
    with_reducible rfl
   rotate_left
   ·simp only [Act.put, List.setIfInBounds_toArray, List.set_cons_zero, List.set_cons_succ, i64_w, i32_w]
    rfl
   refine take_ (i := 1) (N := some 21) (v := ?_) (a' := ?_) #[true, true, true, false, false, false, false, false] rfl rfl (by kernel_rfl) (fun _ _ _ h => h) (Or.inl ⟨by rfl, ?_⟩) hHeld ?_ ?_
   rotate_left
   ·intro w' s0
    go_split_ands
    go_simp
    with_reducible rfl
   rotate_left
   ·simp only [Act.put, List.setIfInBounds_toArray, List.set_cons_zero, List.set_cons_succ, i64_w, i32_w]
    rfl
   refine one_ (i := 3) (N := some 23) #[true, true, true, true, false, false, false, false] rfl rfl (by kernel_rfl) (by decide) (fun K hK => ?_)
   refine goes_ Tryz.func80 (by kernel_rfl) rfl #[.pointer (some ⟨g, 0, none⟩)] (by rfl) rfl rfl (by (try simp only [List.map_toArray, List.map_cons, List.map_nil]); first | done | rfl) ?_
   refine HNAM.out.mono ?_
   rintro e w' ⟨rfl, hs5, hb5, hk5⟩
   have HL5 := Aside0.mk (HLw.out.step hgw hb5 hk5)
   have HS5 := Aside0.mk hs5
   have y5 := HL5.out.cell.2.2.2.1
   clear hb5 hk5 hs5
   refine ⟨_, rfl, ?_⟩
   refine hK.out _ _ y5 (fun hHeld => ?_)
   clear hK K
   refine norm_ (a' := ?_) ?_ ?_
   rotate_left
   ·show Act.put _ (some 23) _ = _
    simp only [Act.put, List.setIfInBounds_toArray, List.set_cons_zero, List.set_cons_succ, i64_w, i32_w]
    rfl
   refine one_ (i := 4) (N := some 24) #[true, true, true, true, true, false, false, false] rfl rfl (by kernel_rfl) (by decide) (fun K hK => ?_)
   refine value_ (w1 := World.alloc w' (.cells #[.string (mkB T)] 9 (0, 0))) (v := .slice (some ⟨w'.heap.size, 0, none⟩) 1 1) (by rfl) rfl (by go_simp) ?_
   refine hK.out _ _ (pw_cell_below (below_alloc (Below.refl _ _) _) y5) (fun hHeld => ?_)
   clear hK K
   refine norm_ (a' := ?_) ?_ ?_
   rotate_left
   ·show Act.put _ (some 24) _ = _
    simp only [Act.put, List.setIfInBounds_toArray, List.set_cons_zero, List.set_cons_succ, i64_w, i32_w]
    rfl
   refine one_ (i := 5) (N := some 25) #[true, true, true, true, true, true, false, false] rfl rfl (by kernel_rfl) (by decide) (fun K hK => ?_)
   refine Kd.R_append_step (w0 := w') (W := w') Kd.string (w.heap.size + 1 + 1) (by rfl) (.tmp 21) (.tmp 24) 22 9 (.string ⟨#[]⟩) 16 rfl Tryz.underlying22 info_s rfl (by decide) (by decide) (.slice A3 x.f3.length c3) x.f3 (mkB T) [.string (mkB T)] (fun k => w.heap.size + 1 < k) (fun _ => False) rfl rfl rfl (fun _ h => h.elim) (fun k hk => (new_ok HL5.out.dl hk).1.1) HL5.out.dl.r3 (Below.refl _ _) HL5.out.dl.lt ?_ ?_
   ·show (x.f3.length + 1) * 16 ≤ _; omega
   intro v1 wa hR1 hb1 hg1 hat1
   obtain ⟨A8, c8, rfl⟩ := Kd.R_slice hR1
   have HL9 := Aside0.mk (HL5.out.name hww hR1 hg1 hat1)
   have HG9 := Aside0.mk hg1
   have HB9 := Aside0.mk (blk_grown HL5.out.dl.blk hg1 (fun e => absurd (HL5.out.dl.r3.1 _ e.symm) (by omega)))
   clear hR1 hb1 hg1 hat1
   have y9 : wa.cell? ⟨w.heap.size + 1, 3, none⟩ = some (.slice A3 x.f3.length c3) := (blk_cell HB9.out 3).trans rfl
   have z9 := blk_frozen HB9.out 3
   refine hK.out _ _ y9 (fun hHeld => ?_)
   clear hK K
   refine norm_ (a' := ?_) ?_ ?_
   rotate_left
   ·show Act.put _ (some 25) _ = _
    simp only [Act.put, List.setIfInBounds_toArray, List.set_cons_zero, List.set_cons_succ, i64_w, i32_w]
    rfl
   refine pure_ (i := 6) (N := some 26) (v := ?_) (a' := ?_) #[true, true, true, true, true, true, true, false] rfl rfl (by kernel_rfl) (fun _ _ _ h => h) (Or.inl ⟨by rfl, ?_⟩) ?_ ?_
   rotate_left
   ·intro w'
    go_simp
    with_reducible rfl
   rotate_left
   ·simp only [Act.put, List.setIfInBounds_toArray, List.set_cons_zero, List.set_cons_succ, i64_w, i32_w]
    rfl
   refine last_ (i := 7) (N := none) #[true, true, true, true, true, true, true, true] rfl rfl (by kernel_rfl) (by decide) (fun K hK => ?_)
   refine skip_ (w1 := ?_) (by rfl) rfl ?_ ?_
   rotate_left
   ·go_simp
    rfl
   refine hK.out _ _ ?_
   clear hK K
   refine done_ (by kernel_rfl) ?_
   have HP9 := Aside0.mk (fun (i1 i2 i3 : Int) (h : IsS61 w0 w' g s i1 i2 i3) => state_grownQ (W1 := wa) (v := .slice A3 x.f3.length c3) (b := w.heap.size + 1) h HG9.out (fun k hk => HL5.out.dl.r3.1 k hk) (by omega) 3 (.slice A8 (x.f3 ++ [mkB T]).length c8))
   clear HG9 HB9 y9 z9
   rw [show (x.f3 ++ [mkB T]).length = x.f3.length + 1 by simp] at HL9 HP9
   by_cases hbn : namedS true T = true
   rotate_left
   ·have HRF := Aside0.mk (HRT.out.trans (if_neg hbn))
    have hs9 := HS5.out
    rw [if_neg hbn] at hs9
    have HI9 := Aside0.mk (HP9.out _ _ _ hs9)
    clear hs9 hbn HS5 HP9
    have HMU : Aside0 (∀ W, IsS61 w0 W g s (a1 : Int) ((deep + 1 : Nat) : Int) 2 → Below w0.heap.size w0 W → Calls Tryz.prog 78 #[.pointer (some ⟨g, 0, none⟩), .int .u8 61] W fun e w' => e = .returned (.bool false) ∧ IsS61 w0 w' g s (a1 : Int) ((deep + 1 : Nat) : Int) 2 ∧ Below w0.heap.size w0 w' ∧ KeepBut W w' g none) := ⟨fun W h hb => datum_reader_must.calls g s _ _ _ 61 _ _ _ _ _ w0 W HG.out h hb (dmust_er s (a1 : Int) ((deep + 1 : Nat) : Int) 2 61 (by decide))⟩
    go_wp2_with (go_at_call 78; go_loud (with_reducible refine (HMU.out _ HI9.out HL9.out.bel).mono ?_); rintro e w7 ⟨rfl, hi, hb, hk⟩; have HI7 := Aside0.mk hi; have HL7 := Aside0.mk (HL9.out.step hgw hb hk); obtain ⟨p0, p1, p2, p3, p4⟩ := HL7.out.cell; have hy := Lib.cell_of_heap HL7.out.res; have hz := Lib.frozen_of_heap HL7.out.res; clear hi hb hk)
    clear hy hz p0 p1 p2 p3 p4
    refine bodyPost_ret (results_cell_row rfl _ _ w.heap.size 25 _ (0, 0) _ rfl (set_blk (j := 4) (set_blk (j := 3) (set_blk (j := 2) (set_blk (j := 1) (set_blk (j := 0) HL7.out.res _) _) _) _) _) Tryz.underlying25 rfl (by kernel_rfl)) rfl ?_
    refine finQ (x := ⟨x.f0, x.f1, x.f2, x.f3 ++ [mkB T], x.f4⟩) (ok := fun k => w.heap.size + 1 < k) HL7.out.bel hww HL7.out.keep hgw (k25_mkM _ w.heap.size _ ⟨x.f0, x.f1, x.f2, x.f3 ++ [mkB T], x.f4⟩ (Kd.R_lower HL7.out.dl.r3 (by omega)) (Kd.R_mono (Kd.R_lower HL7.out.dl.r4 (by omega)) (fun k hk => hk.1))) (fun k hk => by omega) ?_
    rw [HRF.out]
    exact ⟨_, HI7.out⟩
   have HRG := Aside0.mk (HRT.out.trans (if_pos hbn))
   have hs9 := HS5.out
   rw [if_pos hbn] at hs9
   have HI9 := Aside0.mk (HP9.out _ _ _ hs9)
   clear hs9 hbn HS5 HP9
   cases hx : nxt s (a1 + T.length) 61 with
   | false =>
    have HRF := Aside0.mk (HRG.out.trans (if_neg (by rw [hx]; decide)))
    have HMU : Aside0 (∀ W, IsS61 w0 W g s ((a1 + T.length : Nat) : Int) ((deep + 1 : Nat) : Int) 0 → Below w0.heap.size w0 W → Calls Tryz.prog 78 #[.pointer (some ⟨g, 0, none⟩), .int .u8 61] W fun e w' => e = .returned (.bool false) ∧ IsS61 w0 w' g s ((a1 + T.length : Nat) : Int) ((deep + 1 : Nat) : Int) 2 ∧ Below w0.heap.size w0 w' ∧ KeepBut W w' g none) := ⟨fun W h hb => datum_reader_must.calls g s _ _ _ 61 _ _ _ _ _ w0 W HG.out h hb (dmust_no s (a1 + T.length) ((deep + 1 : Nat) : Int) 61 hx hTl)⟩
    clear hx
    go_wp2_with (go_at_call 78; go_loud (with_reducible refine (HMU.out _ HI9.out HL9.out.bel).mono ?_); rintro e w7 ⟨rfl, hi, hb, hk⟩; have HI7 := Aside0.mk hi; have HL7 := Aside0.mk (HL9.out.step hgw hb hk); obtain ⟨p0, p1, p2, p3, p4⟩ := HL7.out.cell; have hy := Lib.cell_of_heap HL7.out.res; have hz := Lib.frozen_of_heap HL7.out.res; clear hi hb hk)
    clear hy hz p0 p1 p2 p3 p4
    refine bodyPost_ret (results_cell_row rfl _ _ w.heap.size 25 _ (0, 0) _ rfl (set_blk (j := 4) (set_blk (j := 3) (set_blk (j := 2) (set_blk (j := 1) (set_blk (j := 0) HL7.out.res _) _) _) _) _) Tryz.underlying25 rfl (by kernel_rfl)) rfl ?_
    refine finQ (x := ⟨x.f0, x.f1, x.f2, x.f3 ++ [mkB T], x.f4⟩) (ok := fun k => w.heap.size + 1 < k) HL7.out.bel hww HL7.out.keep hgw (k25_mkM _ w.heap.size _ ⟨x.f0, x.f1, x.f2, x.f3 ++ [mkB T], x.f4⟩ (Kd.R_lower HL7.out.dl.r3 (by omega)) (Kd.R_mono (Kd.R_lower HL7.out.dl.r4 (by omega)) (fun k hk => hk.1))) (fun k hk => by omega) ?_
    rw [HRF.out]
    exact ⟨_, HI7.out⟩
   | true =>
    have HRF := Aside0.mk (HRG.out.trans (if_pos hx))
    have hlt : a1 + T.length < s.size := by
     rcases Nat.lt_or_ge (a1 + T.length) s.size with h | h
     ·exact h
     ·rw [nxt_end 61 h] at hx; cases hx
    have HMU : Aside0 (∀ W, IsS61 w0 W g s ((a1 + T.length : Nat) : Int) ((deep + 1 : Nat) : Int) 0 → Below w0.heap.size w0 W → Calls Tryz.prog 78 #[.pointer (some ⟨g, 0, none⟩), .int .u8 61] W fun e w' => e = .returned (.bool true) ∧ IsS61 w0 w' g s ((a1 + T.length + 1 : Nat) : Int) ((deep + 1 : Nat) : Int) 0 ∧ Below w0.heap.size w0 w' ∧ KeepBut W w' g none) := ⟨fun W h hb => datum_reader_must.calls g s _ _ _ 61 _ _ _ _ _ w0 W HG.out h hb (dmust_ok s (a1 + T.length) ((deep + 1 : Nat) : Int) 61 hx (by omega))⟩
    clear hx
    go_upto_region 10 with (go_at_call 78; go_loud (with_reducible refine (HMU.out _ HI9.out HL9.out.bel).mono ?_); rintro e wd ⟨rfl, hi, hb, hk⟩; have HI8 := Aside0.mk hi; have HL8 := Aside0.mk (HL9.out.step hgw hb hk); clear hi hb hk)
    obtain ⟨y, hyy⟩ : ∃ y : DT, y = ⟨x.f0, x.f1, x.f2, x.f3 ++ [mkB T], x.f4⟩ := ⟨_, rfl⟩
    have HRc := Aside0.mk (HRF.out.trans (tailS_eq n s (a1 + T.length + 1) deep true ⟨x.f0, x.f1, x.f2, x.f3 ++ [mkB T], x.f4⟩))
    have HTI := Aside0.mk (tail_of s n (a1 + T.length + 1) deep true ⟨x.f0, x.f1, x.f2, x.f3 ++ [mkB T], x.f4⟩ (by omega) hs (by omega) (by show (x.f3 ++ [mkB T]).length ≤ _; simp; omega) (by show x.f4.length ≤ _; omega))
    have HLd := Aside0.mk (HL8.out.below (below_drew (Below.refl _ _)))
    have HPC := Aside0.mk (IH.out n (by omega) (a1 + T.length + 1) (deep + 1) (by omega) (by omega) (by omega) g w0 wd.drew HG.out HI8.out.drew HLd.out.bel)
    obtain ⟨R1, hR1⟩ : ∃ R1 : Res DT, R1 = pieceS n ((B s).drop (a1 + T.length + 1)) (a1 + T.length + 1) (deep + 1) := ⟨_, rfl⟩
    rw [← hR1] at HRc HTI HPC
    have HLc := Aside0.mk HL8.out
    have e3 : x.f3.length + 1 = y.f3.length := by rw [hyy]; simp
    have hx4 : x.f4 = y.f4 := by rw [hyy]
    have HX := Aside0.mk (show y.f0 = kindB true ∧ y.f1 = 0 ∧ y.f2 = em by rw [hyy]; exact HX.out)
    rw [← hyy] at HRc HTI HLd HLc
    rw [e3] at HLd HLc ⊢
    rw [hx4] at HLd HLc
    clear hR1 HRT HRG HRF HNAM HL5 HL9 HL8 HI9 HI8 HMU HLw HLR HI hyy e3 hx4
    have y4 := HLc.out.cell.2.2.2.2
    refine start_ (n := 8) (S := fun w' => w'.cell? ⟨w.heap.size + 1, 4, none⟩ = some (.slice A4 y.f4.length c4)) (ds := [7]) #[false, false, false, false, false, false, false, false] (by kernel_rfl) rfl rfl (cell_drew y4) (fun hHeld => ?_)
    refine pure_ (i := 0) (N := some 30) (v := ?_) (a' := ?_) #[true, false, false, false, false, false, false, false] rfl rfl (by kernel_rfl) (fun _ _ _ h => h) (Or.inl ⟨by rfl, ?_⟩) ?_ ?_
    rotate_left
    ·intro w'
     go_simp
     with_reducible rfl
    rotate_left
    ·simp only [Act.put, List.setIfInBounds_toArray, List.set_cons_zero, List.set_cons_succ, i64_w, i32_w]
     rfl
    refine pure_ (i := 2) (N := some 32) (v := ?_) (a' := ?_) #[true, false, true, false, false, false, false, false] rfl rfl (by kernel_rfl) (fun _ _ _ h => h) (Or.inl ⟨by rfl, ?_⟩) ?_ ?_
    rotate_left
    ·intro w'
     go_simp
     with_reducible rfl
    rotate_left
    ·simp only [Act.put, List.setIfInBounds_toArray, List.set_cons_zero, List.set_cons_succ, i64_w, i32_w]
     rfl
    refine take_ (i := 1) (N := some 31) (v := ?_) (a' := ?_) #[true, true, true, false, false, false, false, false] rfl rfl (by kernel_rfl) (fun _ _ _ h => h) (Or.inl ⟨by rfl, ?_⟩) hHeld ?_ ?_
    rotate_left
    ·intro w' s0
     go_split_ands
     go_simp
     with_reducible rfl
    rotate_left
    ·simp only [Act.put, List.setIfInBounds_toArray, List.set_cons_zero, List.set_cons_succ, i64_w, i32_w]
     rfl
    refine one_ (i := 3) (N := some 33) #[true, true, true, true, false, false, false, false] rfl rfl (by kernel_rfl) (by decide) (fun K hK => ?_)
    refine goes_ Tryz.func29 (by kernel_rfl) rfl #[.pointer (some ⟨g, 0, none⟩)] (by rfl) rfl rfl (by (try simp only [List.map_toArray, List.map_cons, List.map_nil]); first | done | rfl) ?_
    refine HPC.out.mono ?_
    rintro e w' ⟨hb5, hk5, d, u3, u4, rfl, hm5, hs5⟩
    have HL5 := Aside0.mk (HLd.out.step hgw hb5 hk5)
    have HS5 := Aside0.mk hs5
    have HM5 := Aside0.mk hm5
    have y5 := HL5.out.cell.2.2.2.2
    clear hb5 hk5 hm5 hs5
    refine ⟨_, rfl, ?_⟩
    refine hK.out _ _ y5 (fun hHeld => ?_)
    clear hK K
    refine norm_ (a' := ?_) ?_ ?_
    rotate_left
    ·show Act.put _ (some 33) _ = _
     simp only [Act.put, List.setIfInBounds_toArray, List.set_cons_zero, List.set_cons_succ, i64_w, i32_w]
     rfl
    refine one_ (i := 4) (N := some 34) #[true, true, true, true, true, false, false, false] rfl rfl (by kernel_rfl) (by decide) (fun K hK => ?_)
    refine value_ (w1 := World.alloc w' (.cells #[.int .i64 d.f0, .int .i64 d.f1, .string d.f2, u3, u4] 25 (0, 0))) (v := .slice (some ⟨w'.heap.size, 0, none⟩) 1 1) (by rfl) rfl (by go_simp) ?_
    refine hK.out _ _ (pw_cell_below (below_alloc (Below.refl _ _) _) y5) (fun hHeld => ?_)
    clear hK K
    refine norm_ (a' := ?_) ?_ ?_
    rotate_left
    ·show Act.put _ (some 34) _ = _
     simp only [Act.put, List.setIfInBounds_toArray, List.set_cons_zero, List.set_cons_succ, i64_w, i32_w]
     rfl
    refine one_ (i := 5) (N := some 35) #[true, true, true, true, true, true, false, false] rfl rfl (by kernel_rfl) (by decide) (fun K hK => ?_)
    refine Kd.R_append_step (w0 := w') (W := w') k25 (w.heap.size + 1 + 1) (by rfl) (.tmp 31) (.tmp 34) 23 25 (.agg zCells) 80 rfl Tryz.underlying23 info_d rfl (by decide) (by decide) (.slice A4 y.f4.length c4) y.f4 d (dCells d u3 u4) (fun k => w.heap.size + 1 < k ∧ some k ≠ (Value.slice A8 y.f3.length c8).ownBlock) (fun k => wd.heap.size ≤ k) rfl rfl (made_low HM5.out HLc.out.dl.lt) (fun k hk => ?_) (fun k hk => ?_) HL5.out.dl.r4 (Below.refl _ _) HL5.out.dl.lt ?_ ?_
    ·exact new_ok HLc.out.dl hk
    ·exact new_ok HL5.out.dl hk |>.1
    ·have := HTI.out.len; show (y.f4.length + 1) * 80 ≤ _; omega
    intro v1 wa hR1 hb1 hg1 hat1
    obtain ⟨A9, c9, rfl⟩ := Kd.R_slice hR1
    have HL9 := Aside0.mk (HL5.out.piece hww hR1 hg1)
    have HG9 := Aside0.mk hg1
    have HB9 := Aside0.mk (blk_grown HL5.out.dl.blk hg1 (fun e => absurd (HL5.out.dl.r4.1 _ e.symm).1 (by omega)))
    clear hR1 hb1 hg1 hat1
    have y9 : wa.cell? ⟨w.heap.size + 1, 4, none⟩ = some (.slice A4 y.f4.length c4) := (blk_cell HB9.out 4).trans rfl
    have z9 := blk_frozen HB9.out 4
    refine hK.out _ _ y9 (fun hHeld => ?_)
    clear hK K
    refine norm_ (a' := ?_) ?_ ?_
    rotate_left
    ·show Act.put _ (some 35) _ = _
     simp only [Act.put, List.setIfInBounds_toArray, List.set_cons_zero, List.set_cons_succ, i64_w, i32_w]
     rfl
    refine pure_ (i := 6) (N := some 36) (v := ?_) (a' := ?_) #[true, true, true, true, true, true, true, false] rfl rfl (by kernel_rfl) (fun _ _ _ h => h) (Or.inl ⟨by rfl, ?_⟩) ?_ ?_
    rotate_left
    ·intro w'
     go_simp
     with_reducible rfl
    rotate_left
    ·simp only [Act.put, List.setIfInBounds_toArray, List.set_cons_zero, List.set_cons_succ, i64_w, i32_w]
     rfl
    refine last_ (i := 7) (N := none) #[true, true, true, true, true, true, true, true] rfl rfl (by kernel_rfl) (by decide) (fun K hK => ?_)
    refine skip_ (w1 := ?_) (by rfl) rfl ?_ ?_
    rotate_left
    ·go_simp
     rfl
    refine hK.out _ _ ?_
    clear hK K
    refine done_ (by kernel_rfl) ?_
    have HP9 := Aside0.mk (fun (i1 i2 i3 : Int) (h : IsS61 w0 w' g s i1 i2 i3) => state_grownQ (W1 := wa) (v := .slice A4 y.f4.length c4) (b := w.heap.size + 1) h HG9.out (fun k hk => (HL5.out.dl.r4.1 k hk).1) (by omega) 4 (.slice A9 (y.f4 ++ [d]).length c9))
    clear HG9 HB9 HM5 y9 z9
    rw [show (y.f4 ++ [d]).length = y.f4.length + 1 by simp] at HL9 HP9
    cases R1 with
    | err p c =>
     obtain ⟨op', hi⟩ := HS5.out
     have HI9 := Aside0.mk (HP9.out _ _ _ hi)
     have HC0 := Aside0.mk (HTI.out.err p c rfl)
     have HIS : Aside0 (∀ W, IsS61 w0 W g s (p : Int) op' c → Below w0.heap.size w0 W → Calls Tryz.prog 79 #[.pointer (some ⟨g, 0, none⟩), .int .u8 44] W fun e w' => e = .returned (.bool false) ∧ IsS61 w0 w' g s (p : Int) op' c ∧ Below w0.heap.size w0 w' ∧ KeepBut W w' g none) := ⟨fun W h hb => datum_reader_is.calls g s _ _ _ 44 _ _ _ _ _ w0 W HG.out h hb (dis_er s (p : Int) op' c 44 HC0.out)⟩
     have HMU : Aside0 (∀ W, IsS61 w0 W g s (p : Int) op' c → Below w0.heap.size w0 W → Calls Tryz.prog 78 #[.pointer (some ⟨g, 0, none⟩), .int .u8 125] W fun e w' => e = .returned (.bool false) ∧ IsS61 w0 w' g s (p : Int) op' c ∧ Below w0.heap.size w0 w' ∧ KeepBut W w' g none) := ⟨fun W h hb => datum_reader_must.calls g s _ _ _ 125 _ _ _ _ _ w0 W HG.out h hb (dmust_er s (p : Int) op' c 125 HC0.out)⟩
     clear hi HP9 HS5
     go_wp2_with (first | (go_at_call 79; go_loud (with_reducible refine (HIS.out _ HI9.out HL9.out.bel).mono ?_); rintro e w6 ⟨rfl, hi, hb, hk⟩; have HI6 := Aside0.mk hi; have HL6 := Aside0.mk (HL9.out.step hgw hb hk); clear hi hb hk) | (go_at_call 78; go_loud (with_reducible refine (HMU.out _ HI6.out HL6.out.bel).mono ?_); rintro e w7 ⟨rfl, hi, hb, hk⟩; have HI7 := Aside0.mk hi; have HL7 := Aside0.mk (HL6.out.step hgw hb hk); obtain ⟨p0, p1, p2, p3, p4⟩ := HL7.out.cell; have hy := Lib.cell_of_heap HL7.out.res; have hz := Lib.frozen_of_heap HL7.out.res; clear hi hb hk))
     clear hy hz p0 p1 p2 p3 p4
     refine bodyPost_ret (results_cell_row rfl _ _ w.heap.size 25 _ (0, 0) _ rfl (set_blk (j := 4) (set_blk (j := 3) (set_blk (j := 2) (set_blk (j := 1) (set_blk (j := 0) HL7.out.res _) _) _) _) _) Tryz.underlying25 rfl (by kernel_rfl)) rfl ?_
     refine finQ (x := ⟨y.f0, y.f1, y.f2, y.f3, y.f4 ++ [d]⟩) (ok := fun k => w.heap.size + 1 < k) HL7.out.bel hww HL7.out.keep hgw (k25_mkM _ w.heap.size _ ⟨y.f0, y.f1, y.f2, y.f3, y.f4 ++ [d]⟩ (Kd.R_lower HL7.out.dl.r3 (by omega)) (Kd.R_mono (Kd.R_lower HL7.out.dl.r4 (by omega)) (fun k hk => hk.1))) (fun k hk => by omega) ?_
     rw [HRc.out]
     exact ⟨_, HI7.out⟩
    | ok d' a2 r =>
     obtain ⟨rfl, hi⟩ := HS5.out
     have HI9 := Aside0.mk (HP9.out _ _ _ hi)
     obtain ⟨ha2, hn2, h32, h42⟩ := HTI.out.ok d a2 r rfl
     clear hi HP9 HS5
     cases hx : nxt s a2 44 with
     | false =>
      have HRf := Aside0.mk (HRc.out.trans (show tailR n s deep true y (.ok d a2 r) = (if nxt s a2 (shutB true) = true then .ok ⟨kindB true, 0, em, y.f3, y.f4 ++ [d]⟩ (a2 + 1) ((B s).drop (a2 + 1)) else .err a2 2) from if_neg (by rw [hx]; decide)))
      have HIS : Aside0 (∀ W, IsS61 w0 W g s (a2 : Int) ((deep + 1 : Nat) : Int) 0 → Below w0.heap.size w0 W → Calls Tryz.prog 79 #[.pointer (some ⟨g, 0, none⟩), .int .u8 44] W fun e w' => e = .returned (.bool false) ∧ IsS61 w0 w' g s (a2 : Int) ((deep + 1 : Nat) : Int) 0 ∧ Below w0.heap.size w0 w' ∧ KeepBut W w' g none) := ⟨fun W h hb => datum_reader_is.calls g s _ _ _ 44 _ _ _ _ _ w0 W HG.out h hb (dis_no s a2 ((deep + 1 : Nat) : Int) 44 hx)⟩
      cases hy : nxt s a2 (shutB true) with
      | false =>
       have HRg := Aside0.mk (HRf.out.trans (if_neg (by rw [hy]; decide)))
       have HMU : Aside0 (∀ W, IsS61 w0 W g s (a2 : Int) ((deep + 1 : Nat) : Int) 0 → Below w0.heap.size w0 W → Calls Tryz.prog 78 #[.pointer (some ⟨g, 0, none⟩), .int .u8 125] W fun e w' => e = .returned (.bool false) ∧ IsS61 w0 w' g s (a2 : Int) ((deep + 1 : Nat) : Int) 2 ∧ Below w0.heap.size w0 w' ∧ KeepBut W w' g none) := ⟨fun W h hb => datum_reader_must.calls g s _ _ _ 125 _ _ _ _ _ w0 W HG.out h hb (dmust_no s a2 ((deep + 1 : Nat) : Int) (shutB true) hy ha2)⟩
       clear hx hy
       go_wp2_with (first | (go_at_call 79; go_loud (with_reducible refine (HIS.out _ HI9.out HL9.out.bel).mono ?_); rintro e w6 ⟨rfl, hi, hb, hk⟩; have HI6 := Aside0.mk hi; have HL6 := Aside0.mk (HL9.out.step hgw hb hk); clear hi hb hk) | (go_at_call 78; go_loud (with_reducible refine (HMU.out _ HI6.out HL6.out.bel).mono ?_); rintro e w7 ⟨rfl, hi, hb, hk⟩; have HI7 := Aside0.mk hi; have HL7 := Aside0.mk (HL6.out.step hgw hb hk); obtain ⟨p0, p1, p2, p3, p4⟩ := HL7.out.cell; have hy := Lib.cell_of_heap HL7.out.res; have hz := Lib.frozen_of_heap HL7.out.res; clear hi hb hk))
       clear hy hz p0 p1 p2 p3 p4
       refine bodyPost_ret (results_cell_row rfl _ _ w.heap.size 25 _ (0, 0) _ rfl (set_blk (j := 4) (set_blk (j := 3) (set_blk (j := 2) (set_blk (j := 1) (set_blk (j := 0) HL7.out.res _) _) _) _) _) Tryz.underlying25 rfl (by kernel_rfl)) rfl ?_
       refine finQ (x := ⟨y.f0, y.f1, y.f2, y.f3, y.f4 ++ [d]⟩) (ok := fun k => w.heap.size + 1 < k) HL7.out.bel hww HL7.out.keep hgw (k25_mkM _ w.heap.size _ ⟨y.f0, y.f1, y.f2, y.f3, y.f4 ++ [d]⟩ (Kd.R_lower HL7.out.dl.r3 (by omega)) (Kd.R_mono (Kd.R_lower HL7.out.dl.r4 (by omega)) (fun k hk => hk.1))) (fun k hk => by omega) ?_
       rw [HRg.out]
       exact ⟨_, HI7.out⟩
      | true =>
       have HRg := Aside0.mk (HRf.out.trans (if_pos hy))
       have HMU : Aside0 (∀ W, IsS61 w0 W g s (a2 : Int) ((deep + 1 : Nat) : Int) 0 → Below w0.heap.size w0 W → Calls Tryz.prog 78 #[.pointer (some ⟨g, 0, none⟩), .int .u8 125] W fun e w' => e = .returned (.bool true) ∧ IsS61 w0 w' g s ((a2 + 1 : Nat) : Int) ((deep + 1 : Nat) : Int) 0 ∧ Below w0.heap.size w0 w' ∧ KeepBut W w' g none) := ⟨fun W h hb => datum_reader_must.calls g s _ _ _ 125 _ _ _ _ _ w0 W HG.out h hb (dmust_ok s a2 ((deep + 1 : Nat) : Int) (shutB true) hy (by omega))⟩
       clear hx hy
       go_wp2_with (first | (go_at_call 79; go_loud (with_reducible refine (HIS.out _ HI9.out HL9.out.bel).mono ?_); rintro e w6 ⟨rfl, hi, hb, hk⟩; have HI6 := Aside0.mk hi; have HL6 := Aside0.mk (HL9.out.step hgw hb hk); clear hi hb hk) | (go_at_call 78; go_loud (with_reducible refine (HMU.out _ HI6.out HL6.out.bel).mono ?_); rintro e w7 ⟨rfl, hi, hb, hk⟩; have HI7 := Aside0.mk hi; have HL7 := Aside0.mk (HL6.out.step hgw hb hk); obtain ⟨p0, p1, p2, p3, p4⟩ := HL7.out.cell; have hy := Lib.cell_of_heap HL7.out.res; have hz := Lib.frozen_of_heap HL7.out.res; clear hi hb hk))
       clear hy hz p0 p1 p2 p3 p4
       refine bodyPost_ret (results_cell_row rfl _ _ w.heap.size 25 _ (0, 0) _ rfl (set_blk (j := 4) (set_blk (j := 3) (set_blk (j := 2) (set_blk (j := 1) (set_blk (j := 0) HL7.out.res _) _) _) _) _) Tryz.underlying25 rfl (by kernel_rfl)) rfl ?_
       refine finQ (x := ⟨y.f0, y.f1, y.f2, y.f3, y.f4 ++ [d]⟩) (ok := fun k => w.heap.size + 1 < k) HL7.out.bel hww HL7.out.keep hgw (k25_mkM _ w.heap.size _ ⟨y.f0, y.f1, y.f2, y.f3, y.f4 ++ [d]⟩ (Kd.R_lower HL7.out.dl.r3 (by omega)) (Kd.R_mono (Kd.R_lower HL7.out.dl.r4 (by omega)) (fun k hk => hk.1))) (fun k hk => by omega) ?_
       rw [HRg.out]
       exact ⟨by rw [HX.out.1, HX.out.2.1, HX.out.2.2], HI7.out⟩
     | true =>
      have HRt := Aside0.mk (HRc.out.trans (show tailR n s deep true y (.ok d a2 r) = membersS n ((B s).drop (a2 + 1)) (a2 + 1) (deep + 1) true y.f3 (y.f4 ++ [d]) from if_pos hx))
      have hlt : a2 < s.size := by
       rcases Nat.lt_or_ge a2 s.size with h | h
       ·exact h
       ·rw [nxt_end 44 h] at hx; cases hx
      have HIS : Aside0 (∀ W, IsS61 w0 W g s (a2 : Int) ((deep + 1 : Nat) : Int) 0 → Below w0.heap.size w0 W → Calls Tryz.prog 79 #[.pointer (some ⟨g, 0, none⟩), .int .u8 44] W fun e w' => e = .returned (.bool true) ∧ IsS61 w0 w' g s ((a2 + 1 : Nat) : Int) ((deep + 1 : Nat) : Int) 0 ∧ Below w0.heap.size w0 w' ∧ KeepBut W w' g none) := ⟨fun W h hb => datum_reader_is.calls g s _ _ _ 44 _ _ _ _ _ w0 W HG.out h hb (dis_ok s a2 ((deep + 1 : Nat) : Int) 44 hx (by omega))⟩
      clear hx
      go_wp2_with (go_at_call 79; go_loud (with_reducible refine (HIS.out _ HI9.out HL9.out.bel).mono ?_); rintro e w6 ⟨rfl, hi, hb, hk⟩; have HI6 := Aside0.mk hi; have HL6 := Aside0.mk (HL9.out.step hgw hb hk); clear hi hb hk)
      go_roundg n
      case measure => omega
      case rel => exact ⟨by omega, ⟨_, _, _, HL6.out, HX.out.1, HX.out.2.1, HX.out.2.2, a2 + 1, by omega, HI6.out, HRt.out, by omega, by show y.f3.length ≤ _; omega, by show (y.f4 ++ [d]).length ≤ _; simp; omega⟩⟩
end Go.Proofs.YtidcecpbihmloaaGreatDoorE

namespace Go.Proofs.YtidcecpbihmloaaGreatDoorE
open Go Go.RowKit Go.Proofs.YtidcecpbihmloaaGreatDoorW.PrintWords Go.Proofs.YtidcecpbihmloaaGreatDoorW.PrintMore Go.Proofs.YtidcecpbihmloaaGreatDoorW.PrintLast Go.Proofs.YtidcecpbihmloaaGreatDoorX Go.Proofs.YtidcecpbihmloaaGreatDoor.P16 Go.Proofs.YtidcecpbihmloaaGreatDoor.M02
set_option linter.unusedVariables false
set_option linter.unusedSimpArgs false
set_option maxRecDepth 100000
theorem ta_nil_word (w : World) : (Instr.typeAssert .nilIface 86 88 true).run Tryz.prog w = .ok (.tuple #[.string ⟨#[]⟩, .bool false]) w := rfl
theorem ta_word_word (v : Value) (w : World) : (Instr.typeAssert (.iface 88 v) 86 88 true).run Tryz.prog w = .ok (.tuple #[v, .bool true]) w := rfl
theorem ta_digits_word (v : Value) (w : World) : (Instr.typeAssert (.iface 90 v) 86 88 true).run Tryz.prog w = .ok (.tuple #[.string ⟨#[]⟩, .bool false]) w := rfl
theorem ta_quote_word (v : Value) (w : World) : (Instr.typeAssert (.iface 93 v) 86 88 true).run Tryz.prog w = .ok (.tuple #[.string ⟨#[]⟩, .bool false]) w := rfl
theorem ta_open_word (v : Value) (w : World) : (Instr.typeAssert (.iface 94 v) 86 88 true).run Tryz.prog w = .ok (.tuple #[.string ⟨#[]⟩, .bool false]) w := rfl
theorem ta_nil_digits (w : World) : (Instr.typeAssert .nilIface 86 90 true).run Tryz.prog w = .ok (.tuple #[.string ⟨#[]⟩, .bool false]) w := rfl
theorem ta_word_digits (v : Value) (w : World) : (Instr.typeAssert (.iface 88 v) 86 90 true).run Tryz.prog w = .ok (.tuple #[.string ⟨#[]⟩, .bool false]) w := rfl
theorem ta_digits_digits (v : Value) (w : World) : (Instr.typeAssert (.iface 90 v) 86 90 true).run Tryz.prog w = .ok (.tuple #[v, .bool true]) w := rfl
theorem ta_quote_digits (v : Value) (w : World) : (Instr.typeAssert (.iface 93 v) 86 90 true).run Tryz.prog w = .ok (.tuple #[.string ⟨#[]⟩, .bool false]) w := rfl
theorem ta_open_digits (v : Value) (w : World) : (Instr.typeAssert (.iface 94 v) 86 90 true).run Tryz.prog w = .ok (.tuple #[.string ⟨#[]⟩, .bool false]) w := rfl
theorem ta_nil_quote (w : World) : (Instr.typeAssert .nilIface 86 93 true).run Tryz.prog w = .ok (.tuple #[.agg #[], .bool false]) w := rfl
theorem ta_word_quote (v : Value) (w : World) : (Instr.typeAssert (.iface 88 v) 86 93 true).run Tryz.prog w = .ok (.tuple #[.agg #[], .bool false]) w := rfl
theorem ta_digits_quote (v : Value) (w : World) : (Instr.typeAssert (.iface 90 v) 86 93 true).run Tryz.prog w = .ok (.tuple #[.agg #[], .bool false]) w := rfl
theorem ta_quote_quote (v : Value) (w : World) : (Instr.typeAssert (.iface 93 v) 86 93 true).run Tryz.prog w = .ok (.tuple #[v, .bool true]) w := rfl
theorem ta_open_quote (v : Value) (w : World) : (Instr.typeAssert (.iface 94 v) 86 93 true).run Tryz.prog w = .ok (.tuple #[.agg #[], .bool false]) w := rfl
theorem ta_nil_open (w : World) : (Instr.typeAssert .nilIface 86 94 true).run Tryz.prog w = .ok (.tuple #[.int .u8 0, .bool false]) w := rfl
theorem ta_word_open (v : Value) (w : World) : (Instr.typeAssert (.iface 88 v) 86 94 true).run Tryz.prog w = .ok (.tuple #[.int .u8 0, .bool false]) w := rfl
theorem ta_digits_open (v : Value) (w : World) : (Instr.typeAssert (.iface 90 v) 86 94 true).run Tryz.prog w = .ok (.tuple #[.int .u8 0, .bool false]) w := rfl
theorem ta_quote_open (v : Value) (w : World) : (Instr.typeAssert (.iface 93 v) 86 94 true).run Tryz.prog w = .ok (.tuple #[.int .u8 0, .bool false]) w := rfl
theorem ta_open_open (v : Value) (w : World) : (Instr.typeAssert (.iface 94 v) 86 94 true).run Tryz.prog w = .ok (.tuple #[v, .bool true]) w := rfl
set_option maxHeartbeats 4000000 in
theorem qp_end (s : ByteArray) (hs : s.size ≤ 1000000000) (a deep : Nat) (ha : a ≤ s.size) (hd : deep ≤ 16) (n : Nat) (hl : s.size ≤ a) (g : Nat) (w0 w : World) (hgl : GL w0) (hI : IsS61 w0 w g s (a : Int) (deep : Int) 0) (hB : Below w0.heap.size w0 w) :
  Calls Tryz.prog 29 #[.pointer (some ⟨g, 0, none⟩)] w (pieceQ w0 w g s (deep : Int) (pieceS (n + 1) ((B s).drop a) a deep)) := by
 obtain ⟨R, hR⟩ : ∃ R : Res DT, R = pieceS (n + 1) ((B s).drop a) a deep := ⟨_, rfl⟩
 rw [← hR]
 have HRR := Aside0.mk (hR.trans (pieceS_end n s a deep hl))
 have HG := Aside0.mk hgl
 have hgw : g < w.heap.size := blk_lt hI.1
 have hg0 : w0.heap.size ≤ g := hI.2
 have hww : w0.heap.size ≤ w.heap.size := hB.size
 have HI1 := Aside0.mk (hI.alloc (.cells zCells 25))
 have HB1 := Aside0.mk (below_alloc hB (.cells zCells 25))
 have HK1 := Aside0.mk (KeepBut.of_below (below_alloc (Below.refl _ w) (.cells zCells 25)) g none)
 have HR1 := Aside0.mk (heap_alloc_new w (.cells zCells 25))
 clear hR hgl hI hB
 go_enter Tryz.func29, Tryz.ntmps29
 go_upto_region 1 with fail
 generalize hW : w.alloc (.cells zCells 25) = W1 at HI1 HB1 HK1 HR1 ⊢
 clear hW
 have q1 : W1.cell? ⟨g, 1, none⟩ = some (.int .i64 (a : Int)) := (blk_cell HI1.out.1 1).trans rfl
 have HF : Aside0 (∀ W, IsS61 w0 W g s ((a : Int)) (deep : Int) 0 → Below w0.heap.size w0 W → Calls Tryz.prog 30 #[.pointer (some ⟨g, 0, none⟩), .int .i64 (a : Int), .int .i64 2] W fun e w' => e = .returned (.tuple #[]) ∧ IsS61 w0 w' g s (a : Int) (deep : Int) 2 ∧ Below w0.heap.size w0 w' ∧ KeepBut W w' g none) := ⟨fun W h hb => datum_reader_fail.calls g s _ _ 0 (a : Int) 2 _ _ _ _ w0 W HG.out h hb (dfail_0 s _ _ _ 2)⟩
 have ta_word := ta_nil_word
 have ta_digits := ta_nil_digits
 have ta_quote := ta_nil_quote
 have ta_open := ta_nil_open
 have HNX := Aside0.mk (dn_end s hs a ha hl (deep : Int) 0 g w0 W1 HI1.out HB1.out)
 go_wp2_with (first | (go_at_call 52; go_loud (with_reducible refine HNX.out.mono ?_); rintro e w3 ⟨rfl, hi, hb, hk⟩; have HI3 := Aside0.mk hi; have HB3 := Aside0.mk hb; have HK3 := Aside0.mk (HK1.out.trans hk (.inl rfl)); have HR3 := Aside0.mk (hk.blk HR1.out (by omega) (by simp)); have hy := Lib.cell_of_heap HR3.out; have hz := Lib.frozen_of_heap HR3.out; clear hi hb hk) | (go_at_call 30; go_loud (with_reducible refine (HF.out _ HI3.out HB3.out).mono ?_); rintro e w6 ⟨rfl, hi, hb, hk⟩; have HI9 := Aside0.mk hi; have HB9 := Aside0.mk hb; have HK9 := Aside0.mk (HK3.out.trans hk (.inl rfl)); have HR9 := Aside0.mk (hk.blk HR3.out (by omega) (by simp)); have hy := Lib.cell_of_heap HR9.out; have hz := Lib.frozen_of_heap HR9.out; clear hi hb hk))
 refine bodyPost_ret (results_cell_row rfl _ _ w.heap.size 25 _ (0, 0) _ rfl (set_blk (j := 4) (set_blk (j := 3) (set_blk (j := 2) (set_blk (j := 1) (set_blk (j := 0) HR9.out _) _) _) _) _) Tryz.underlying25 rfl (by kernel_rfl)) rfl ?_
 refine finQ (x := ⟨0, 0, em, [], []⟩) (v3 := .slice none 0 0) (v4 := .slice none 0 0) (ok := fun k => w.heap.size < k) HB9.out hww HK9.out hgw (k25_mkM _ w.heap.size _ ⟨0, 0, em, [], []⟩ (Kd.R_nil _ _ _ _ _) (Kd.R_nil _ _ _ _ _)) (fun k hk => by omega) ?_
 rw [HRR.out]
 exact ⟨_, HI9.out⟩
set_option maxHeartbeats 4000000 in
theorem qp_bad (s : ByteArray) (hs : s.size ≤ 1000000000) (a deep : Nat) (ha : a ≤ s.size) (hd : deep ≤ 16) (n : Nat) (c : UInt8) (hl : a < s.size) (hc : (B s)[a]'(at_lt hl) = c) (h0 : isLet c = false) (h1 : isDig c = false) (h34 : c ≠ 34) (h91 : c ≠ 91) (h123 : c ≠ 123) (g : Nat) (w0 w : World) (hgl : GL w0) (hI : IsS61 w0 w g s (a : Int) (deep : Int) 0) (hB : Below w0.heap.size w0 w) :
  Calls Tryz.prog 29 #[.pointer (some ⟨g, 0, none⟩)] w (pieceQ w0 w g s (deep : Int) (pieceS (n + 1) ((B s).drop a) a deep)) := by
 obtain ⟨R, hR⟩ : ∃ R : Res DT, R = pieceS (n + 1) ((B s).drop a) a deep := ⟨_, rfl⟩
 rw [← hR]
 have HRR := Aside0.mk (hR.trans (pieceS_bad n s a deep hl (by rw [hc]; exact h0) (by rw [hc]; exact h1) (by rw [hc]; exact h34) (by rw [hc]; exact h91) (by rw [hc]; exact h123)))
 have HG := Aside0.mk hgl
 have hgw : g < w.heap.size := blk_lt hI.1
 have hg0 : w0.heap.size ≤ g := hI.2
 have hww : w0.heap.size ≤ w.heap.size := hB.size
 have HI1 := Aside0.mk (hI.alloc (.cells zCells 25))
 have HB1 := Aside0.mk (below_alloc hB (.cells zCells 25))
 have HK1 := Aside0.mk (KeepBut.of_below (below_alloc (Below.refl _ w) (.cells zCells 25)) g none)
 have HR1 := Aside0.mk (heap_alloc_new w (.cells zCells 25))
 clear hR hgl hI hB
 go_enter Tryz.func29, Tryz.ntmps29
 go_upto_region 1 with fail
 generalize hW : w.alloc (.cells zCells 25) = W1 at HI1 HB1 HK1 HR1 ⊢
 clear hW
 have q1 : W1.cell? ⟨g, 1, none⟩ = some (.int .i64 (a : Int)) := (blk_cell HI1.out.1 1).trans rfl
 have HF : Aside0 (∀ W, IsS61 w0 W g s ((a : Int)) (deep : Int) 0 → Below w0.heap.size w0 W → Calls Tryz.prog 30 #[.pointer (some ⟨g, 0, none⟩), .int .i64 (a : Int), .int .i64 2] W fun e w' => e = .returned (.tuple #[]) ∧ IsS61 w0 w' g s (a : Int) (deep : Int) 2 ∧ Below w0.heap.size w0 w' ∧ KeepBut W w' g none) := ⟨fun W h hb => datum_reader_fail.calls g s _ _ 0 (a : Int) 2 _ _ _ _ w0 W HG.out h hb (dfail_0 s _ _ _ 2)⟩
 have ta_word := ta_nil_word
 have ta_digits := ta_nil_digits
 have ta_quote := ta_nil_quote
 have ta_open := ta_nil_open
 have HNX := Aside0.mk (dn_bad s hs a ha c hl hc h0 h1 h34 h91 h123 (deep : Int) 0 g w0 W1 HI1.out HB1.out)
 clear hc h0 h1 h34 h91 h123
 go_wp2_with (first | (go_at_call 52; go_loud (with_reducible refine HNX.out.mono ?_); rintro e w3 ⟨rfl, hi, hb, hk⟩; have HI3 := Aside0.mk hi; have HB3 := Aside0.mk hb; have HK3 := Aside0.mk (HK1.out.trans hk (.inl rfl)); have HR3 := Aside0.mk (hk.blk HR1.out (by omega) (by simp)); have hy := Lib.cell_of_heap HR3.out; have hz := Lib.frozen_of_heap HR3.out; clear hi hb hk) | (go_at_call 30; go_loud (with_reducible refine (HF.out _ HI3.out HB3.out).mono ?_); rintro e w6 ⟨rfl, hi, hb, hk⟩; have HI9 := Aside0.mk hi; have HB9 := Aside0.mk hb; have HK9 := Aside0.mk (HK3.out.trans hk (.inl rfl)); have HR9 := Aside0.mk (hk.blk HR3.out (by omega) (by simp)); have hy := Lib.cell_of_heap HR9.out; have hz := Lib.frozen_of_heap HR9.out; clear hi hb hk))
 refine bodyPost_ret (results_cell_row rfl _ _ w.heap.size 25 _ (0, 0) _ rfl (set_blk (j := 4) (set_blk (j := 3) (set_blk (j := 2) (set_blk (j := 1) (set_blk (j := 0) HR9.out _) _) _) _) _) Tryz.underlying25 rfl (by kernel_rfl)) rfl ?_
 refine finQ (x := ⟨0, 0, em, [], []⟩) (v3 := .slice none 0 0) (v4 := .slice none 0 0) (ok := fun k => w.heap.size < k) HB9.out hww HK9.out hgw (k25_mkM _ w.heap.size _ ⟨0, 0, em, [], []⟩ (Kd.R_nil _ _ _ _ _) (Kd.R_nil _ _ _ _ _)) (fun k hk => by omega) ?_
 rw [HRR.out]
 exact ⟨_, HI9.out⟩
theorem named_made {w' W : World} {b : Nat} {A3 : Option Addr} {c3 : Nat} {A4 : Option Addr} {c4 : Nat} {k n : Int} {tx : ByteArray} (h3 : Kd.R Kd.string 9 w' W.heap.size (fun _ => True) (.slice A3 ([] : List ByteArray).length c3) []) (h4 : Kd.R k25 25 w' W.heap.size (fun k_ => some k_ ≠ (Value.slice A3 ([] : List ByteArray).length c3).ownBlock) (.slice A4 ([] : List DT).length c4) []) (hb : b ≤ W.heap.size) : k25.M w' b (fun k => W.heap.size ≤ k) ⟨k, n, tx, [], []⟩ (dCells ⟨k, n, tx, [], []⟩ (.slice A3 0 c3) (.slice A4 0 c4)) :=
 made_of (k25_mkM w' W.heap.size (fun _ => True) ⟨k, n, tx, [], []⟩ h3 (Kd.R_mono h4 (fun _ _ => trivial))) hb
set_option maxHeartbeats 4000000 in
theorem qp_num (s : ByteArray) (hs : s.size ≤ 1000000000) (a deep : Nat) (ha : a ≤ s.size) (hd : deep ≤ 16) (n : Nat) (c : UInt8) (hl : a < s.size) (hc : (B s)[a]'(at_lt hl) = c) (h0 : isLet c = false) (h1 : isDig c = true) (g : Nat) (w0 w : World) (hgl : GL w0) (hI : IsS61 w0 w g s (a : Int) (deep : Int) 0) (hB : Below w0.heap.size w0 w) :
  Calls Tryz.prog 29 #[.pointer (some ⟨g, 0, none⟩)] w (pieceQ w0 w g s (deep : Int) (pieceS (n + 1) ((B s).drop a) a deep)) := by
 obtain ⟨R, hR⟩ : ∃ R : Res DT, R = pieceS (n + 1) ((B s).drop a) a deep := ⟨_, rfl⟩
 rw [← hR]
 have HRR := Aside0.mk (hR.trans (pieceS_dig n s a deep hl (by rw [hc]; exact h0) (by rw [hc]; exact h1)))
 have HG := Aside0.mk hgl
 have hgw : g < w.heap.size := blk_lt hI.1
 have hg0 : w0.heap.size ≤ g := hI.2
 have hww : w0.heap.size ≤ w.heap.size := hB.size
 have HI1 := Aside0.mk (hI.alloc (.cells zCells 25))
 have HB1 := Aside0.mk (below_alloc hB (.cells zCells 25))
 have HK1 := Aside0.mk (KeepBut.of_below (below_alloc (Below.refl _ w) (.cells zCells 25)) g none)
 have HR1 := Aside0.mk (heap_alloc_new w (.cells zCells 25))
 clear hR hgl hI hB
 go_enter Tryz.func29, Tryz.ntmps29
 go_upto_region 1 with fail
 generalize hW : w.alloc (.cells zCells 25) = W1 at HI1 HB1 HK1 HR1 ⊢
 clear hW
 have q1 : W1.cell? ⟨g, 1, none⟩ = some (.int .i64 (a : Int)) := (blk_cell HI1.out.1 1).trans rfl
 have ta_word := ta_digits_word
 have ta_digits := ta_digits_digits
 have ta_quote := ta_digits_quote
 have ta_open := ta_digits_open
 have HNX := Aside0.mk (dn_dig s hs a ha c hl hc h0 h1 (deep : Int) 0 g w0 W1 HI1.out HB1.out)
 obtain ⟨T, hT⟩ : ∃ T, T = ((B s).drop a).takeWhile isDig := ⟨_, rfl⟩
 have hTl : a + T.length ≤ s.size := by
  have h := tw_le isDig ((B s).drop a)
  rw [← hT, List.length_drop, B_len] at h
  omega
 rw [← hT] at HRR HNX
 have HWH : Aside0 (∀ W, GL W → Calls Tryz.prog 54 #[.string (mkB T)] W fun e w' => e = .returned (.tuple #[.int .i64 (wholeS T).1, .bool (wholeS T).2]) ∧ Below W.heap.size W w') := ⟨fun W h => chars_Whole.calls (mkB T) _ _ W h (by unfold chars_Whole.f; rw [if_pos (by rw [mkB_size]; omega)]; rfl)⟩
 obtain ⟨V, hV⟩ : ∃ V, V = wholeS T := ⟨_, rfl⟩
 rw [← hV] at HRR HWH
 obtain ⟨vn, vb⟩ := V
 clear hT hV hc h0 h1
 have HF : Aside0 (∀ W, IsS61 w0 W g s (((a + T.length : Nat) : Int)) (deep : Int) 0 → Below w0.heap.size w0 W → Calls Tryz.prog 30 #[.pointer (some ⟨g, 0, none⟩), .int .i64 (a : Int), .int .i64 2] W fun e w' => e = .returned (.tuple #[]) ∧ IsS61 w0 w' g s (a : Int) (deep : Int) 2 ∧ Below w0.heap.size w0 w' ∧ KeepBut W w' g none) := ⟨fun W h hb => datum_reader_fail.calls g s _ _ 0 (a : Int) 2 _ _ _ _ w0 W HG.out h hb (dfail_0 s _ _ _ 2)⟩
 cases vb with
 | false =>
  have HRV := Aside0.mk (HRR.out.trans (if_neg (by simp)))
  go_wp2_with (first | (go_at_call 52; go_loud (with_reducible refine HNX.out.mono ?_); rintro e w3 ⟨rfl, hi, hb, hk⟩; have HI3 := Aside0.mk hi; have HB3 := Aside0.mk hb; have HK3 := Aside0.mk (HK1.out.trans hk (.inl rfl)); have HR3 := Aside0.mk (hk.blk HR1.out (by omega) (by simp)); have hy := Lib.cell_of_heap HR3.out; have hz := Lib.frozen_of_heap HR3.out; clear hi hb hk) | (go_at_call 54; go_loud (with_reducible refine (HWH.out _ (HG.out.below HB3.out)).mono ?_); rintro e w7 ⟨rfl, hd⟩; have HI6 := Aside0.mk (HI3.out.below hd); have HB6 := Aside0.mk (below_then HB3.out HB3.out.size hd); have HK6 := Aside0.mk (HK3.out.trans (KeepBut.of_below hd g none) (.inl rfl)); have HR6 := Aside0.mk ((hd.block _ (blk_lt HR3.out)).trans HR3.out); have hy := Lib.cell_of_heap HR6.out; have hz := Lib.frozen_of_heap HR6.out; clear hd) | (go_at_call 30; go_loud (with_reducible refine (HF.out _ HI6.out HB6.out).mono ?_); rintro e w8 ⟨rfl, hi, hb, hk⟩; have HI9 := Aside0.mk hi; have HB9 := Aside0.mk hb; have HK9 := Aside0.mk (HK6.out.trans hk (.inl rfl)); have HR9 := Aside0.mk (hk.blk HR6.out (by omega) (by simp)); have hy := Lib.cell_of_heap HR9.out; have hz := Lib.frozen_of_heap HR9.out; clear hi hb hk))
  refine bodyPost_ret (results_cell_row rfl _ _ w.heap.size 25 _ (0, 0) _ rfl (set_blk (j := 4) (set_blk (j := 3) (set_blk (j := 2) (set_blk (j := 1) (set_blk (j := 0) HR9.out _) _) _) _) _) Tryz.underlying25 rfl (by kernel_rfl)) rfl ?_
  refine finQ (x := ⟨2, vn, em, [], []⟩) (v3 := .slice none 0 0) (v4 := .slice none 0 0) (ok := fun k => w.heap.size < k) HB9.out hww HK9.out hgw (k25_mkM _ w.heap.size _ ⟨2, vn, em, [], []⟩ (Kd.R_nil _ _ _ _ _) (Kd.R_nil _ _ _ _ _)) (fun k hk => by omega) ?_
  rw [HRV.out]
  exact ⟨_, HI9.out⟩
 | true =>
  have HRV := Aside0.mk (HRR.out.trans (if_pos rfl))
  go_wp2_with (first | (go_at_call 52; go_loud (with_reducible refine HNX.out.mono ?_); rintro e w3 ⟨rfl, hi, hb, hk⟩; have HI3 := Aside0.mk hi; have HB3 := Aside0.mk hb; have HK3 := Aside0.mk (HK1.out.trans hk (.inl rfl)); have HR3 := Aside0.mk (hk.blk HR1.out (by omega) (by simp)); have hy := Lib.cell_of_heap HR3.out; have hz := Lib.frozen_of_heap HR3.out; clear hi hb hk) | (go_at_call 54; go_loud (with_reducible refine (HWH.out _ (HG.out.below HB3.out)).mono ?_); rintro e w7 ⟨rfl, hd⟩; have HI9 := Aside0.mk (HI3.out.below hd); have HB9 := Aside0.mk (below_then HB3.out HB3.out.size hd); have HK9 := Aside0.mk (HK3.out.trans (KeepBut.of_below hd g none) (.inl rfl)); have HR9 := Aside0.mk ((hd.block _ (blk_lt HR3.out)).trans HR3.out); have hy := Lib.cell_of_heap HR9.out; have hz := Lib.frozen_of_heap HR9.out; clear hd))
  refine bodyPost_ret (results_cell_row rfl _ _ w.heap.size 25 _ (0, 0) _ rfl (set_blk (j := 4) (set_blk (j := 3) (set_blk (j := 2) (set_blk (j := 1) (set_blk (j := 0) HR9.out _) _) _) _) _) Tryz.underlying25 rfl (by kernel_rfl)) rfl ?_
  refine finQ (x := ⟨2, vn, em, [], []⟩) (v3 := .slice none 0 0) (v4 := .slice none 0 0) (ok := fun k => w.heap.size < k) HB9.out hww HK9.out hgw (k25_mkM _ w.heap.size _ ⟨2, vn, em, [], []⟩ (Kd.R_nil _ _ _ _ _) (Kd.R_nil _ _ _ _ _)) (fun k hk => by omega) ?_
  rw [HRV.out]
  exact ⟨rfl, HI9.out⟩
set_option maxHeartbeats 4000000 in
theorem qp_word (s : ByteArray) (hs : s.size ≤ 1000000000) (a deep : Nat) (ha : a ≤ s.size) (hd : deep ≤ 16) (n : Nat) (c : UInt8) (hl : a < s.size) (hc : (B s)[a]'(at_lt hl) = c) (h0 : isLet c = true) (g : Nat) (w0 w : World) (hgl : GL w0) (hI : IsS61 w0 w g s (a : Int) (deep : Int) 0) (hB : Below w0.heap.size w0 w) :
  Calls Tryz.prog 29 #[.pointer (some ⟨g, 0, none⟩)] w (pieceQ w0 w g s (deep : Int) (pieceS (n + 1) ((B s).drop a) a deep)) := by
 obtain ⟨R, hR⟩ : ∃ R : Res DT, R = pieceS (n + 1) ((B s).drop a) a deep := ⟨_, rfl⟩
 rw [← hR]
 have HRR := Aside0.mk (hR.trans (pieceS_let n s a deep hl (by rw [hc]; exact h0)))
 have HG := Aside0.mk hgl
 have hgw : g < w.heap.size := blk_lt hI.1
 have hg0 : w0.heap.size ≤ g := hI.2
 have hww : w0.heap.size ≤ w.heap.size := hB.size
 have HI1 := Aside0.mk (hI.alloc (.cells zCells 25))
 have HB1 := Aside0.mk (below_alloc hB (.cells zCells 25))
 have HK1 := Aside0.mk (KeepBut.of_below (below_alloc (Below.refl _ w) (.cells zCells 25)) g none)
 have HR1 := Aside0.mk (heap_alloc_new w (.cells zCells 25))
 clear hR hgl hI hB
 go_enter Tryz.func29, Tryz.ntmps29
 go_upto_region 1 with fail
 generalize hW : w.alloc (.cells zCells 25) = W1 at HI1 HB1 HK1 HR1 ⊢
 clear hW
 have q1 : W1.cell? ⟨g, 1, none⟩ = some (.int .i64 (a : Int)) := (blk_cell HI1.out.1 1).trans rfl
 have ta_word := ta_word_word
 have ta_digits := ta_word_digits
 have ta_quote := ta_word_quote
 have ta_open := ta_word_open
 have HNX := Aside0.mk (dn_let s hs a ha c hl hc h0 (deep : Int) 0 g w0 W1 HI1.out HB1.out)
 obtain ⟨T, hT⟩ : ∃ T, T = ((B s).drop a).takeWhile isLet := ⟨_, rfl⟩
 have hTl : a + T.length ≤ s.size := by
  have h := tw_le isLet ((B s).drop a)
  rw [← hT, List.length_drop, B_len] at h
  omega
 rw [← hT] at HRR HNX
 have hTL : (mkB T).toList = T := by rw [toList_B]; rfl
 have HF : Aside0 (∀ W, IsS61 w0 W g s (((a + T.length : Nat) : Int)) (deep : Int) 0 → Below w0.heap.size w0 W → Calls Tryz.prog 30 #[.pointer (some ⟨g, 0, none⟩), .int .i64 (a : Int), .int .i64 2] W fun e w' => e = .returned (.tuple #[]) ∧ IsS61 w0 w' g s (a : Int) (deep : Int) 2 ∧ Below w0.heap.size w0 w' ∧ KeepBut W w' g none) := ⟨fun W h hb => datum_reader_fail.calls g s _ _ 0 (a : Int) 2 _ _ _ _ w0 W HG.out h hb (dfail_0 s _ _ _ 2)⟩
 clear hT hc h0
 by_cases hnone : T = [110, 111, 110, 101]
 ·have HV := Aside0.mk (show datum_named.f (mkB T) = some (0, 0, em, [], [], true) by unfold datum_named.f; rw [hTL, hnone]; rfl)
  have HRV := Aside0.mk (show R = .ok (⟨0, 0, em, [], []⟩ : DT) (a + T.length) ((B s).drop (a + T.length)) by have h := HRR.out; rw [show wordD T = some (⟨0, 0, em, [], []⟩ : DT) by rw [hnone]; rfl] at h; exact h)
  clear hTL hnone
  have HNM : Aside0 (∀ W, GL W → Calls Tryz.prog 53 #[.string (mkB T)] W fun e w' => ∃ v3_ v4_ : Value, e = .returned (.tuple #[.agg #[.int .i64 0, .int .i64 0, .string em, v3_, v4_], .bool true]) ∧ Kd.R Kd.string 9 w' W.heap.size (fun _ => True) v3_ [] ∧ Kd.R k25 25 w' W.heap.size (fun k_ => some k_ ≠ (v3_ : Value).ownBlock) v4_ [] ∧ Below W.heap.size W w') := ⟨fun W h => datum_named.calls (mkB T) _ _ _ _ _ _ W h HV.out⟩
  go_upto_region 6 with (first | (go_at_call 52; go_loud (with_reducible refine HNX.out.mono ?_); rintro e w3 ⟨rfl, hi, hb, hk⟩; have HI3 := Aside0.mk hi; have HB3 := Aside0.mk hb; have HK3 := Aside0.mk (HK1.out.trans hk (.inl rfl)); have HR3 := Aside0.mk (hk.blk HR1.out (by omega) (by simp)); have hy := Lib.cell_of_heap HR3.out; have hz := Lib.frozen_of_heap HR3.out; clear hi hb hk) | (go_at_call 53; go_loud (with_reducible refine (HNM.out _ (HG.out.below HB3.out)).mono ?_); rintro e w7 ⟨v3, v4, rfl, h3, h4, hd⟩; obtain ⟨A3, c3, rfl⟩ := Kd.R_slice h3; obtain ⟨A4, c4, rfl⟩ := Kd.R_slice h4; have HI7 := Aside0.mk (HI3.out.below hd); have HB7 := Aside0.mk (below_then HB3.out HB3.out.size hd); have HK7 := Aside0.mk (HK3.out.trans (KeepBut.of_below hd g none) (.inl rfl)); have HR7 := Aside0.mk ((hd.block _ (blk_lt HR3.out)).trans HR3.out); have HM7 := Aside0.mk (named_made (k := 0) (n := 0) (tx := em) h3 h4 (Nat.le_of_lt (blk_lt HR3.out))); have HWZ := Aside0.mk (blk_lt HR3.out); clear h3 h4 hd))
  have HI8 := Aside0.mk (HI7.out.alloc (.cells #[.int .i64 0, .int .i64 0, .string ⟨#[]⟩, .slice A3 0 c3, .slice A4 0 c4] 25))
  have HB8 := Aside0.mk (below_alloc HB7.out (.cells #[.int .i64 0, .int .i64 0, .string ⟨#[]⟩, .slice A3 0 c3, .slice A4 0 c4] 25))
  have HK8 := Aside0.mk (HK7.out.trans (KeepBut.of_below (below_alloc (Below.refl _ w7) (.cells #[.int .i64 0, .int .i64 0, .string ⟨#[]⟩, .slice A3 0 c3, .slice A4 0 c4] 25)) g none) (.inl rfl))
  have HR8 := Aside0.mk (((below_alloc (Below.refl _ w7) (.cells #[.int .i64 0, .int .i64 0, .string ⟨#[]⟩, .slice A3 0 c3, .slice A4 0 c4] 25)).block _ (blk_lt HR7.out)).trans HR7.out)
  have HM8 := Aside0.mk (Kd.M_below HM7.out (below_alloc (Below.refl _ w7) (.cells #[.int .i64 0, .int .i64 0, .string ⟨#[]⟩, .slice A3 0 c3, .slice A4 0 c4] 25)))
  have HD8 := Aside0.mk (heap_alloc_new w7 (.cells #[.int .i64 0, .int .i64 0, .string ⟨#[]⟩, .slice A3 0 c3, .slice A4 0 c4] 25))
  have hw7 : w.heap.size < w7.heap.size := blk_lt HR7.out
  generalize hW : w7.alloc (.cells #[.int .i64 0, .int .i64 0, .string ⟨#[]⟩, .slice A3 0 c3, .slice A4 0 c4] 25) = W8 at HI8 HB8 HK8 HR8 HM8 HD8 ⊢
  clear hW hy hz
  have d0 := (blk_cell HD8.out 0).trans rfl
  have d1 := (blk_cell HD8.out 1).trans rfl
  have d2 := (blk_cell HD8.out 2).trans rfl
  have d3 := (blk_cell HD8.out 3).trans rfl
  have d4 := (blk_cell HD8.out 4).trans rfl
  have hy := Lib.cell_of_heap HR8.out
  have hz := Lib.frozen_of_heap HR8.out
  go_wp2_with fail
  refine bodyPost_ret (results_cell_row rfl _ _ w.heap.size 25 _ (0, 0) _ rfl (set_blk (j := 4) (set_blk (j := 3) (set_blk (j := 2) (set_blk (j := 1) (set_blk (j := 0) HR8.out _) _) _) _) _) Tryz.underlying25 rfl (by kernel_rfl)) rfl ?_
  refine finQ (x := ⟨0, 0, em, [], []⟩) (v3 := .slice A3 0 c3) (v4 := .slice A4 0 c4) HB8.out hww HK8.out hgw HM8.out (fun k hk => by have := HWZ.out; omega) ?_
  rw [HRV.out]
  exact ⟨rfl, HI8.out⟩
 by_cases hno : T = [110, 111]
 ·have HV := Aside0.mk (show datum_named.f (mkB T) = some (1, 0, em, [], [], true) by unfold datum_named.f; rw [hTL, hno]; rfl)
  have HRV := Aside0.mk (show R = .ok (⟨1, 0, em, [], []⟩ : DT) (a + T.length) ((B s).drop (a + T.length)) by have h := HRR.out; rw [show wordD T = some (⟨1, 0, em, [], []⟩ : DT) by rw [hno]; rfl] at h; exact h)
  clear hTL hno hnone
  have HNM : Aside0 (∀ W, GL W → Calls Tryz.prog 53 #[.string (mkB T)] W fun e w' => ∃ v3_ v4_ : Value, e = .returned (.tuple #[.agg #[.int .i64 1, .int .i64 0, .string em, v3_, v4_], .bool true]) ∧ Kd.R Kd.string 9 w' W.heap.size (fun _ => True) v3_ [] ∧ Kd.R k25 25 w' W.heap.size (fun k_ => some k_ ≠ (v3_ : Value).ownBlock) v4_ [] ∧ Below W.heap.size W w') := ⟨fun W h => datum_named.calls (mkB T) _ _ _ _ _ _ W h HV.out⟩
  go_upto_region 6 with (first | (go_at_call 52; go_loud (with_reducible refine HNX.out.mono ?_); rintro e w3 ⟨rfl, hi, hb, hk⟩; have HI3 := Aside0.mk hi; have HB3 := Aside0.mk hb; have HK3 := Aside0.mk (HK1.out.trans hk (.inl rfl)); have HR3 := Aside0.mk (hk.blk HR1.out (by omega) (by simp)); have hy := Lib.cell_of_heap HR3.out; have hz := Lib.frozen_of_heap HR3.out; clear hi hb hk) | (go_at_call 53; go_loud (with_reducible refine (HNM.out _ (HG.out.below HB3.out)).mono ?_); rintro e w7 ⟨v3, v4, rfl, h3, h4, hd⟩; obtain ⟨A3, c3, rfl⟩ := Kd.R_slice h3; obtain ⟨A4, c4, rfl⟩ := Kd.R_slice h4; have HI7 := Aside0.mk (HI3.out.below hd); have HB7 := Aside0.mk (below_then HB3.out HB3.out.size hd); have HK7 := Aside0.mk (HK3.out.trans (KeepBut.of_below hd g none) (.inl rfl)); have HR7 := Aside0.mk ((hd.block _ (blk_lt HR3.out)).trans HR3.out); have HM7 := Aside0.mk (named_made (k := 1) (n := 0) (tx := em) h3 h4 (Nat.le_of_lt (blk_lt HR3.out))); have HWZ := Aside0.mk (blk_lt HR3.out); clear h3 h4 hd))
  have HI8 := Aside0.mk (HI7.out.alloc (.cells #[.int .i64 1, .int .i64 0, .string ⟨#[]⟩, .slice A3 0 c3, .slice A4 0 c4] 25))
  have HB8 := Aside0.mk (below_alloc HB7.out (.cells #[.int .i64 1, .int .i64 0, .string ⟨#[]⟩, .slice A3 0 c3, .slice A4 0 c4] 25))
  have HK8 := Aside0.mk (HK7.out.trans (KeepBut.of_below (below_alloc (Below.refl _ w7) (.cells #[.int .i64 1, .int .i64 0, .string ⟨#[]⟩, .slice A3 0 c3, .slice A4 0 c4] 25)) g none) (.inl rfl))
  have HR8 := Aside0.mk (((below_alloc (Below.refl _ w7) (.cells #[.int .i64 1, .int .i64 0, .string ⟨#[]⟩, .slice A3 0 c3, .slice A4 0 c4] 25)).block _ (blk_lt HR7.out)).trans HR7.out)
  have HM8 := Aside0.mk (Kd.M_below HM7.out (below_alloc (Below.refl _ w7) (.cells #[.int .i64 1, .int .i64 0, .string ⟨#[]⟩, .slice A3 0 c3, .slice A4 0 c4] 25)))
  have HD8 := Aside0.mk (heap_alloc_new w7 (.cells #[.int .i64 1, .int .i64 0, .string ⟨#[]⟩, .slice A3 0 c3, .slice A4 0 c4] 25))
  have hw7 : w.heap.size < w7.heap.size := blk_lt HR7.out
  generalize hW : w7.alloc (.cells #[.int .i64 1, .int .i64 0, .string ⟨#[]⟩, .slice A3 0 c3, .slice A4 0 c4] 25) = W8 at HI8 HB8 HK8 HR8 HM8 HD8 ⊢
  clear hW hy hz
  have d0 := (blk_cell HD8.out 0).trans rfl
  have d1 := (blk_cell HD8.out 1).trans rfl
  have d2 := (blk_cell HD8.out 2).trans rfl
  have d3 := (blk_cell HD8.out 3).trans rfl
  have d4 := (blk_cell HD8.out 4).trans rfl
  have hy := Lib.cell_of_heap HR8.out
  have hz := Lib.frozen_of_heap HR8.out
  go_wp2_with fail
  refine bodyPost_ret (results_cell_row rfl _ _ w.heap.size 25 _ (0, 0) _ rfl (set_blk (j := 4) (set_blk (j := 3) (set_blk (j := 2) (set_blk (j := 1) (set_blk (j := 0) HR8.out _) _) _) _) _) Tryz.underlying25 rfl (by kernel_rfl)) rfl ?_
  refine finQ (x := ⟨1, 0, em, [], []⟩) (v3 := .slice A3 0 c3) (v4 := .slice A4 0 c4) HB8.out hww HK8.out hgw HM8.out (fun k hk => by have := HWZ.out; omega) ?_
  rw [HRV.out]
  exact ⟨rfl, HI8.out⟩
 by_cases hyes : T = [121, 101, 115]
 ·have HV := Aside0.mk (show datum_named.f (mkB T) = some (1, 1, em, [], [], true) by unfold datum_named.f; rw [hTL, hyes]; rfl)
  have HRV := Aside0.mk (show R = .ok (⟨1, 1, em, [], []⟩ : DT) (a + T.length) ((B s).drop (a + T.length)) by have h := HRR.out; rw [show wordD T = some (⟨1, 1, em, [], []⟩ : DT) by rw [hyes]; rfl] at h; exact h)
  clear hTL hyes hnone hno
  have HNM : Aside0 (∀ W, GL W → Calls Tryz.prog 53 #[.string (mkB T)] W fun e w' => ∃ v3_ v4_ : Value, e = .returned (.tuple #[.agg #[.int .i64 1, .int .i64 1, .string em, v3_, v4_], .bool true]) ∧ Kd.R Kd.string 9 w' W.heap.size (fun _ => True) v3_ [] ∧ Kd.R k25 25 w' W.heap.size (fun k_ => some k_ ≠ (v3_ : Value).ownBlock) v4_ [] ∧ Below W.heap.size W w') := ⟨fun W h => datum_named.calls (mkB T) _ _ _ _ _ _ W h HV.out⟩
  go_upto_region 6 with (first | (go_at_call 52; go_loud (with_reducible refine HNX.out.mono ?_); rintro e w3 ⟨rfl, hi, hb, hk⟩; have HI3 := Aside0.mk hi; have HB3 := Aside0.mk hb; have HK3 := Aside0.mk (HK1.out.trans hk (.inl rfl)); have HR3 := Aside0.mk (hk.blk HR1.out (by omega) (by simp)); have hy := Lib.cell_of_heap HR3.out; have hz := Lib.frozen_of_heap HR3.out; clear hi hb hk) | (go_at_call 53; go_loud (with_reducible refine (HNM.out _ (HG.out.below HB3.out)).mono ?_); rintro e w7 ⟨v3, v4, rfl, h3, h4, hd⟩; obtain ⟨A3, c3, rfl⟩ := Kd.R_slice h3; obtain ⟨A4, c4, rfl⟩ := Kd.R_slice h4; have HI7 := Aside0.mk (HI3.out.below hd); have HB7 := Aside0.mk (below_then HB3.out HB3.out.size hd); have HK7 := Aside0.mk (HK3.out.trans (KeepBut.of_below hd g none) (.inl rfl)); have HR7 := Aside0.mk ((hd.block _ (blk_lt HR3.out)).trans HR3.out); have HM7 := Aside0.mk (named_made (k := 1) (n := 1) (tx := em) h3 h4 (Nat.le_of_lt (blk_lt HR3.out))); have HWZ := Aside0.mk (blk_lt HR3.out); clear h3 h4 hd))
  have HI8 := Aside0.mk (HI7.out.alloc (.cells #[.int .i64 1, .int .i64 1, .string ⟨#[]⟩, .slice A3 0 c3, .slice A4 0 c4] 25))
  have HB8 := Aside0.mk (below_alloc HB7.out (.cells #[.int .i64 1, .int .i64 1, .string ⟨#[]⟩, .slice A3 0 c3, .slice A4 0 c4] 25))
  have HK8 := Aside0.mk (HK7.out.trans (KeepBut.of_below (below_alloc (Below.refl _ w7) (.cells #[.int .i64 1, .int .i64 1, .string ⟨#[]⟩, .slice A3 0 c3, .slice A4 0 c4] 25)) g none) (.inl rfl))
  have HR8 := Aside0.mk (((below_alloc (Below.refl _ w7) (.cells #[.int .i64 1, .int .i64 1, .string ⟨#[]⟩, .slice A3 0 c3, .slice A4 0 c4] 25)).block _ (blk_lt HR7.out)).trans HR7.out)
  have HM8 := Aside0.mk (Kd.M_below HM7.out (below_alloc (Below.refl _ w7) (.cells #[.int .i64 1, .int .i64 1, .string ⟨#[]⟩, .slice A3 0 c3, .slice A4 0 c4] 25)))
  have HD8 := Aside0.mk (heap_alloc_new w7 (.cells #[.int .i64 1, .int .i64 1, .string ⟨#[]⟩, .slice A3 0 c3, .slice A4 0 c4] 25))
  have hw7 : w.heap.size < w7.heap.size := blk_lt HR7.out
  generalize hW : w7.alloc (.cells #[.int .i64 1, .int .i64 1, .string ⟨#[]⟩, .slice A3 0 c3, .slice A4 0 c4] 25) = W8 at HI8 HB8 HK8 HR8 HM8 HD8 ⊢
  clear hW hy hz
  have d0 := (blk_cell HD8.out 0).trans rfl
  have d1 := (blk_cell HD8.out 1).trans rfl
  have d2 := (blk_cell HD8.out 2).trans rfl
  have d3 := (blk_cell HD8.out 3).trans rfl
  have d4 := (blk_cell HD8.out 4).trans rfl
  have hy := Lib.cell_of_heap HR8.out
  have hz := Lib.frozen_of_heap HR8.out
  go_wp2_with fail
  refine bodyPost_ret (results_cell_row rfl _ _ w.heap.size 25 _ (0, 0) _ rfl (set_blk (j := 4) (set_blk (j := 3) (set_blk (j := 2) (set_blk (j := 1) (set_blk (j := 0) HR8.out _) _) _) _) _) Tryz.underlying25 rfl (by kernel_rfl)) rfl ?_
  refine finQ (x := ⟨1, 1, em, [], []⟩) (v3 := .slice A3 0 c3) (v4 := .slice A4 0 c4) HB8.out hww HK8.out hgw HM8.out (fun k hk => by have := HWZ.out; omega) ?_
  rw [HRV.out]
  exact ⟨rfl, HI8.out⟩
 have HV := Aside0.mk (show datum_named.f (mkB T) = some (0, 0, em, [], [], false) by unfold datum_named.f; rw [hTL, if_neg hnone, if_neg hno, if_neg hyes])
 have HRV := Aside0.mk (show R = .err a 2 by have h := HRR.out; rw [show (wordD T : Option DT) = none by unfold wordD; rw [if_neg hnone, if_neg hno, if_neg hyes]] at h; exact h)
 clear hTL hnone hno hyes
 have HNM : Aside0 (∀ W, GL W → Calls Tryz.prog 53 #[.string (mkB T)] W fun e w' => ∃ v3_ v4_ : Value, e = .returned (.tuple #[.agg #[.int .i64 0, .int .i64 0, .string em, v3_, v4_], .bool false]) ∧ Kd.R Kd.string 9 w' W.heap.size (fun _ => True) v3_ [] ∧ Kd.R k25 25 w' W.heap.size (fun k_ => some k_ ≠ (v3_ : Value).ownBlock) v4_ [] ∧ Below W.heap.size W w') := ⟨fun W h => datum_named.calls (mkB T) _ _ _ _ _ _ W h HV.out⟩
 go_upto_region 6 with (first | (go_at_call 52; go_loud (with_reducible refine HNX.out.mono ?_); rintro e w3 ⟨rfl, hi, hb, hk⟩; have HI3 := Aside0.mk hi; have HB3 := Aside0.mk hb; have HK3 := Aside0.mk (HK1.out.trans hk (.inl rfl)); have HR3 := Aside0.mk (hk.blk HR1.out (by omega) (by simp)); have hy := Lib.cell_of_heap HR3.out; have hz := Lib.frozen_of_heap HR3.out; clear hi hb hk) | (go_at_call 53; go_loud (with_reducible refine (HNM.out _ (HG.out.below HB3.out)).mono ?_); rintro e w7 ⟨v3, v4, rfl, h3, h4, hd⟩; obtain ⟨A3, c3, rfl⟩ := Kd.R_slice h3; obtain ⟨A4, c4, rfl⟩ := Kd.R_slice h4; have HI7 := Aside0.mk (HI3.out.below hd); have HB7 := Aside0.mk (below_then HB3.out HB3.out.size hd); have HK7 := Aside0.mk (HK3.out.trans (KeepBut.of_below hd g none) (.inl rfl)); have HR7 := Aside0.mk ((hd.block _ (blk_lt HR3.out)).trans HR3.out); have HM7 := Aside0.mk (named_made (k := 0) (n := 0) (tx := em) h3 h4 (Nat.le_of_lt (blk_lt HR3.out))); have HWZ := Aside0.mk (blk_lt HR3.out); clear h3 h4 hd))
 have HI8 := Aside0.mk (HI7.out.alloc (.cells #[.int .i64 0, .int .i64 0, .string ⟨#[]⟩, .slice A3 0 c3, .slice A4 0 c4] 25))
 have HB8 := Aside0.mk (below_alloc HB7.out (.cells #[.int .i64 0, .int .i64 0, .string ⟨#[]⟩, .slice A3 0 c3, .slice A4 0 c4] 25))
 have HK8 := Aside0.mk (HK7.out.trans (KeepBut.of_below (below_alloc (Below.refl _ w7) (.cells #[.int .i64 0, .int .i64 0, .string ⟨#[]⟩, .slice A3 0 c3, .slice A4 0 c4] 25)) g none) (.inl rfl))
 have HR8 := Aside0.mk (((below_alloc (Below.refl _ w7) (.cells #[.int .i64 0, .int .i64 0, .string ⟨#[]⟩, .slice A3 0 c3, .slice A4 0 c4] 25)).block _ (blk_lt HR7.out)).trans HR7.out)
 have HM8 := Aside0.mk (Kd.M_below HM7.out (below_alloc (Below.refl _ w7) (.cells #[.int .i64 0, .int .i64 0, .string ⟨#[]⟩, .slice A3 0 c3, .slice A4 0 c4] 25)))
 have HD8 := Aside0.mk (heap_alloc_new w7 (.cells #[.int .i64 0, .int .i64 0, .string ⟨#[]⟩, .slice A3 0 c3, .slice A4 0 c4] 25))
 have hw7 : w.heap.size < w7.heap.size := blk_lt HR7.out
 generalize hW : w7.alloc (.cells #[.int .i64 0, .int .i64 0, .string ⟨#[]⟩, .slice A3 0 c3, .slice A4 0 c4] 25) = W8 at HI8 HB8 HK8 HR8 HM8 HD8 ⊢
 clear hW hy hz
 go_wp2_with (go_at_call 30; go_loud (with_reducible refine (HF.out _ HI8.out HB8.out).mono ?_); rintro e w9 ⟨rfl, hi, hb, hk⟩; have HI9 := Aside0.mk hi; have HB9 := Aside0.mk hb; have HK9 := Aside0.mk (HK8.out.trans hk (.inl rfl)); have HR9 := Aside0.mk (hk.blk HR8.out (by omega) (by simp)); have HM9 := Aside0.mk (Kd.M_keep HM8.out hk (fun k hk => by have := HWZ.out; omega)); have HD9 := hk.blk HD8.out (by omega) (by simp); have d0 := (blk_cell HD9 0).trans rfl; have d1 := (blk_cell HD9 1).trans rfl; have d2 := (blk_cell HD9 2).trans rfl; have d3 := (blk_cell HD9 3).trans rfl; have d4 := (blk_cell HD9 4).trans rfl; have hy := Lib.cell_of_heap HR9.out; have hz := Lib.frozen_of_heap HR9.out; clear hi hb hk HD9)
 refine bodyPost_ret (results_cell_row rfl _ _ w.heap.size 25 _ (0, 0) _ rfl (set_blk (j := 4) (set_blk (j := 3) (set_blk (j := 2) (set_blk (j := 1) (set_blk (j := 0) HR9.out _) _) _) _) _) Tryz.underlying25 rfl (by kernel_rfl)) rfl ?_
 refine finQ (x := ⟨0, 0, em, [], []⟩) (v3 := .slice A3 0 c3) (v4 := .slice A4 0 c4) HB9.out hww HK9.out hgw HM9.out (fun k hk => by have := HWZ.out; omega) ?_
 rw [HRV.out]
 exact ⟨_, HI9.out⟩
set_option maxHeartbeats 4000000 in
theorem qp_quo (s : ByteArray) (hs : s.size ≤ 1000000000) (a deep : Nat) (ha : a ≤ s.size) (hd : deep ≤ 16) (n : Nat) (hl : a < s.size) (hc : (B s)[a]'(at_lt hl) = 34)  (g : Nat) (w0 w : World) (hgl : GL w0) (hI : IsS61 w0 w g s (a : Int) (deep : Int) 0) (hB : Below w0.heap.size w0 w) :
  Calls Tryz.prog 29 #[.pointer (some ⟨g, 0, none⟩)] w (pieceQ w0 w g s (deep : Int) (pieceS (n + 1) ((B s).drop a) a deep)) := by
 obtain ⟨R, hR⟩ : ∃ R : Res DT, R = pieceS (n + 1) ((B s).drop a) a deep := ⟨_, rfl⟩
 rw [← hR]
 have HRR := Aside0.mk (hR.trans (pieceS_quo n s a deep hl hc))
 have HG := Aside0.mk hgl
 have hgw : g < w.heap.size := blk_lt hI.1
 have hg0 : w0.heap.size ≤ g := hI.2
 have hww : w0.heap.size ≤ w.heap.size := hB.size
 have HI1 := Aside0.mk (hI.alloc (.cells zCells 25))
 have HB1 := Aside0.mk (below_alloc hB (.cells zCells 25))
 have HK1 := Aside0.mk (KeepBut.of_below (below_alloc (Below.refl _ w) (.cells zCells 25)) g none)
 have HR1 := Aside0.mk (heap_alloc_new w (.cells zCells 25))
 clear hR hgl hI hB
 go_enter Tryz.func29, Tryz.ntmps29
 go_upto_region 1 with fail
 generalize hW : w.alloc (.cells zCells 25) = W1 at HI1 HB1 HK1 HR1 ⊢
 clear hW
 have q1 : W1.cell? ⟨g, 1, none⟩ = some (.int .i64 (a : Int)) := (blk_cell HI1.out.1 1).trans rfl
 have ta_word := ta_quote_word
 have ta_digits := ta_quote_digits
 have ta_quote := ta_quote_quote
 have ta_open := ta_quote_open
 have HNX := Aside0.mk (dn_quo s hs a ha hl hc (deep : Int) 0 g w0 W1 HI1.out HB1.out)
 clear hc
 go_upto_region 17 with (go_at_call 52; go_loud (with_reducible refine HNX.out.mono ?_); rintro e w3 ⟨rfl, hi, hb, hk⟩; have HI3 := Aside0.mk hi; have HB3 := Aside0.mk hb; have HK3 := Aside0.mk (HK1.out.trans hk (.inl rfl)); have HR3 := Aside0.mk (hk.blk HR1.out (by omega) (by simp)); have hy := Lib.cell_of_heap HR3.out; have hz := Lib.frozen_of_heap HR3.out; clear hi hb hk)
 have HI5 := Aside0.mk (HI3.out.alloc (.cells #[] 93))
 have HB5 := Aside0.mk (below_alloc HB3.out (.cells #[] 93))
 have HK5 := Aside0.mk (HK3.out.trans (KeepBut.of_below (below_alloc (Below.refl _ w3) (.cells #[] 93)) g none) (.inl rfl))
 have HR5 := Aside0.mk (((below_alloc (Below.refl _ w3) (.cells #[] 93)).block _ (blk_lt HR3.out)).trans HR3.out)
 generalize hW : w3.alloc (.cells #[] 93) = W5 at HI5 HB5 HK5 HR5 ⊢
 clear hW hy hz
 have HX := Aside0.mk (qtext_c s hs (a + 1) (by omega) (deep : Int) g w0 W5 HG.out HI5.out HB5.out)
 go_wp2_with (go_at_call 55; go_loud (with_reducible refine HX.out.mono ?_); rintro e w6 ⟨hb, hk, x, v3, v4, rfl, hm, hst⟩; obtain ⟨A3, c3, A4, c4, rfl, rfl⟩ := made_slices hm; have HB9 := Aside0.mk hb; have HK9 := Aside0.mk (HK5.out.trans hk (.inl rfl)); have HR9 := Aside0.mk (hk.blk HR5.out (by omega) (by simp)); have hy := Lib.cell_of_heap HR9.out; have hz := Lib.frozen_of_heap HR9.out; have HM9 := Aside0.mk (made_of hm (Nat.le_of_lt (blk_lt HR5.out))); have HS9 := Aside0.mk hst; have HW9 := Aside0.mk (blk_lt HR5.out); clear hb hk hm hst)
 refine bodyPost_ret (results_cell_row rfl _ _ w.heap.size 25 _ (0, 0) _ rfl (set_blk (j := 4) (set_blk (j := 3) (set_blk (j := 2) (set_blk (j := 1) (set_blk (j := 0) HR9.out _) _) _) _) _) Tryz.underlying25 rfl (by kernel_rfl)) rfl ?_
 exact finQ HB9.out hww HK9.out hgw HM9.out (fun k hk => by have := HW9.out; omega) (by rw [HRR.out]; exact HS9.out)
set_option maxHeartbeats 4000000 in
theorem qp_list16 (s : ByteArray) (hs : s.size ≤ 1000000000) (a deep : Nat) (ha : a ≤ s.size) (hd : deep ≤ 16) (n : Nat) (hl : a < s.size) (hc : (B s)[a]'(at_lt hl) = 91) (h16 : deep = 16) (g : Nat) (w0 w : World) (hgl : GL w0) (hI : IsS61 w0 w g s (a : Int) (deep : Int) 0) (hB : Below w0.heap.size w0 w) :
  Calls Tryz.prog 29 #[.pointer (some ⟨g, 0, none⟩)] w (pieceQ w0 w g s (deep : Int) (pieceS (n + 1) ((B s).drop a) a deep)) := by
 obtain ⟨R, hR⟩ : ∃ R : Res DT, R = pieceS (n + 1) ((B s).drop a) a deep := ⟨_, rfl⟩
 rw [← hR]
 have HRR := Aside0.mk (hR.trans ((pieceS_open n s a deep hl false (by rw [hc]; rfl)).trans (if_pos (by omega))))
 have HG := Aside0.mk hgl
 have hgw : g < w.heap.size := blk_lt hI.1
 have hg0 : w0.heap.size ≤ g := hI.2
 have hww : w0.heap.size ≤ w.heap.size := hB.size
 have HI1 := Aside0.mk (hI.alloc (.cells zCells 25))
 have HB1 := Aside0.mk (below_alloc hB (.cells zCells 25))
 have HK1 := Aside0.mk (KeepBut.of_below (below_alloc (Below.refl _ w) (.cells zCells 25)) g none)
 have HR1 := Aside0.mk (heap_alloc_new w (.cells zCells 25))
 clear hR hgl hI hB
 go_enter Tryz.func29, Tryz.ntmps29
 go_upto_region 1 with fail
 generalize hW : w.alloc (.cells zCells 25) = W1 at HI1 HB1 HK1 HR1 ⊢
 clear hW
 have q1 : W1.cell? ⟨g, 1, none⟩ = some (.int .i64 (a : Int)) := (blk_cell HI1.out.1 1).trans rfl
 have ta_word := ta_open_word
 have ta_digits := ta_open_digits
 have ta_quote := ta_open_quote
 have ta_open := ta_open_open
 subst h16
 have HNX := Aside0.mk (dn_list s hs a ha hl hc ((16 : Nat) : Int) 0 g w0 W1 HI1.out HB1.out)
 rw [show ((16 : Nat) : Int) = 16 from rfl] at HNX
 clear hc
 have HF : Aside0 (∀ W, IsS61 w0 W g s ((a + 1 : Nat) : Int) 17 0 → Below w0.heap.size w0 W → Calls Tryz.prog 30 #[.pointer (some ⟨g, 0, none⟩), .int .i64 (a : Int), .int .i64 11] W fun e w' => e = .returned (.tuple #[]) ∧ IsS61 w0 w' g s (a : Int) 17 11 ∧ Below w0.heap.size w0 w' ∧ KeepBut W w' g none) := ⟨fun W h hb => datum_reader_fail.calls g s _ _ 0 (a : Int) 11 _ _ _ _ w0 W HG.out h hb (dfail_0 s _ _ _ 11)⟩
 go_wp2_with (first | (go_at_call 52; go_loud (with_reducible refine HNX.out.mono ?_); rintro e w3 ⟨rfl, hi, hb, hk⟩; have HI3 := Aside0.mk hi; have HB3 := Aside0.mk hb; have HK3 := Aside0.mk (HK1.out.trans hk (.inl rfl)); have HR3 := Aside0.mk (hk.blk HR1.out (by omega) (by simp)); have hy := Lib.cell_of_heap HR3.out; have hz := Lib.frozen_of_heap HR3.out; have q32 := (blk_cell HI3.out.1 2).trans (show _ = some (.int .i64 16) from rfl); have f32 := blk_frozen HI3.out.1 2; have HI5 := Aside0.mk (HI3.out.set_2 17); have HB5 := Aside0.mk (HB3.out.setCell (p := ⟨g, 2, none⟩) hg0 (.int .i64 17)); have HK5 := Aside0.mk (HK3.out.set_ 2 (.int .i64 17)); have HR5 := Aside0.mk (blk_far HR3.out (p := ⟨g, 2, none⟩) (by show w.heap.size ≠ g; omega) (.int .i64 17)); clear hi hb hk) | (go_at_call 30; go_loud (with_reducible refine (HF.out _ HI5.out HB5.out).mono ?_); rintro e w6 ⟨rfl, hi, hb, hk⟩; have HI9 := Aside0.mk hi; have HB9 := Aside0.mk hb; have HK9 := Aside0.mk (HK5.out.trans hk (.inl rfl)); have HR9 := Aside0.mk (hk.blk HR5.out (by omega) (by simp)); have hy := Lib.cell_of_heap HR9.out; have hz := Lib.frozen_of_heap HR9.out; clear hi hb hk))
 refine bodyPost_ret (results_cell_row rfl _ _ w.heap.size 25 _ (0, 0) _ rfl (set_blk (j := 4) (set_blk (j := 3) (set_blk (j := 2) (set_blk (j := 1) (set_blk (j := 0) HR9.out _) _) _) _) _) Tryz.underlying25 rfl (by kernel_rfl)) rfl ?_
 refine finQ (x := ⟨0, 0, em, [], []⟩) (v3 := .slice none 0 0) (v4 := .slice none 0 0) (ok := fun k => w.heap.size < k) HB9.out hww HK9.out hgw (k25_mkM _ w.heap.size _ ⟨0, 0, em, [], []⟩ (Kd.R_nil _ _ _ _ _) (Kd.R_nil _ _ _ _ _)) (fun k hk => by omega) ?_
 rw [HRR.out]
 exact ⟨_, HI9.out⟩
set_option maxHeartbeats 4000000 in
theorem qp_list (s : ByteArray) (hs : s.size ≤ 1000000000) (a deep : Nat) (ha : a ≤ s.size) (hd : deep ≤ 16) (n : Nat) (hl : a < s.size) (hc : (B s)[a]'(at_lt hl) = 91) (h16 : deep < 16) (hf : 3 * (s.size - a) ≤ n) (ih : ∀ k, k < n → PieceQ s k) (g : Nat) (w0 w : World) (hgl : GL w0) (hI : IsS61 w0 w g s (a : Int) (deep : Int) 0) (hB : Below w0.heap.size w0 w) :
  Calls Tryz.prog 29 #[.pointer (some ⟨g, 0, none⟩)] w (pieceQ w0 w g s (deep : Int) (pieceS (n + 1) ((B s).drop a) a deep)) := by
 obtain ⟨R, hR⟩ : ∃ R : Res DT, R = pieceS (n + 1) ((B s).drop a) a deep := ⟨_, rfl⟩
 rw [← hR]
 have HRR := Aside0.mk (hR.trans ((pieceS_open n s a deep hl false (by rw [hc]; rfl)).trans (if_neg (by omega))))
 have HG := Aside0.mk hgl
 have hgw : g < w.heap.size := blk_lt hI.1
 have hg0 : w0.heap.size ≤ g := hI.2
 have hww : w0.heap.size ≤ w.heap.size := hB.size
 have HI1 := Aside0.mk (hI.alloc (.cells zCells 25))
 have HB1 := Aside0.mk (below_alloc hB (.cells zCells 25))
 have HK1 := Aside0.mk (KeepBut.of_below (below_alloc (Below.refl _ w) (.cells zCells 25)) g none)
 have HR1 := Aside0.mk (heap_alloc_new w (.cells zCells 25))
 clear hR hgl hI hB
 go_enter Tryz.func29, Tryz.ntmps29
 go_upto_region 1 with fail
 generalize hW : w.alloc (.cells zCells 25) = W1 at HI1 HB1 HK1 HR1 ⊢
 clear hW
 have q1 : W1.cell? ⟨g, 1, none⟩ = some (.int .i64 (a : Int)) := (blk_cell HI1.out.1 1).trans rfl
 have ta_word := ta_open_word
 have ta_digits := ta_open_digits
 have ta_quote := ta_open_quote
 have ta_open := ta_open_open
 have HNX := Aside0.mk (dn_list s hs a ha hl hc (deep : Int) 0 g w0 W1 HI1.out HB1.out)
 have HX : Aside0 (∀ W, IsS61 w0 W g s ((a + 1 : Nat) : Int) ((deep : Int) + 1) 0 → Below w0.heap.size w0 W → Calls Tryz.prog 56 #[.pointer (some ⟨g, 0, none⟩), .bool false] W (pieceQ w0 W g s ((deep + 1 : Nat) : Int) (allS n s (a + 1) deep false))) := ⟨fun W h hb => qall_list s hs (a + 1) (by omega) deep h16 n (by omega) ih g w0 W HG.out (by rw [show ((deep + 1 : Nat) : Int) = (deep : Int) + 1 by omega]; exact h) hb⟩
 obtain ⟨R1, hR1⟩ : ∃ R1 : Res DT, R1 = allS n s (a + 1) deep false := ⟨_, rfl⟩
 rw [← hR1] at HX HRR
 clear hc ih hR1
 go_upto_region 24 with (go_at_call 52; go_loud (with_reducible refine HNX.out.mono ?_); rintro e w3 ⟨rfl, hi, hb, hk⟩; have HI3 := Aside0.mk hi; have HB3 := Aside0.mk hb; have HK3 := Aside0.mk (HK1.out.trans hk (.inl rfl)); have HR3 := Aside0.mk (hk.blk HR1.out (by omega) (by simp)); have hy := Lib.cell_of_heap HR3.out; have hz := Lib.frozen_of_heap HR3.out; have q32 := (blk_cell HI3.out.1 2).trans (show _ = some (.int .i64 (deep : Int)) from rfl); have f32 := blk_frozen HI3.out.1 2; have HI5 := Aside0.mk (HI3.out.set_2 ((deep : Int) + 1)); have HB5 := Aside0.mk (HB3.out.setCell (p := ⟨g, 2, none⟩) hg0 (.int .i64 ((deep : Int) + 1))); have HK5 := Aside0.mk (HK3.out.set_ 2 (.int .i64 ((deep : Int) + 1))); have HR5 := Aside0.mk (blk_far HR3.out (p := ⟨g, 2, none⟩) (by show w.heap.size ≠ g; omega) (.int .i64 ((deep : Int) + 1))); clear hi hb hk)
 go_upto_region 25 with (go_at_call 56; go_loud (with_reducible refine (HX.out _ HI5.out HB5.out).mono ?_); rintro e w6 ⟨hb, hk, x, v3, v4, rfl, hm, hst⟩; obtain ⟨A3, c3, A4, c4, rfl, rfl⟩ := made_slices hm; have HB9 := Aside0.mk hb; have HK9 := Aside0.mk (HK5.out.trans hk (.inl rfl)); have HR9 := Aside0.mk (hk.blk HR5.out (by omega) (by simp)); have hy := Lib.cell_of_heap HR9.out; have hz := Lib.frozen_of_heap HR9.out; have HM9 := Aside0.mk (made_of hm (Nat.le_of_lt (blk_lt HR5.out))); have HS9 := Aside0.mk hst; have HW9 := Aside0.mk (blk_lt HR5.out); clear hb hk hm hst)
 have hw6 : w.heap.size < w6.heap.size := blk_lt HR9.out
 have HB7 := Aside0.mk (below_alloc HB9.out (.cells #[.int .i64 x.f0, .int .i64 x.f1, .string x.f2, .slice A3 x.f3.length c3, .slice A4 x.f4.length c4] 25))
 have HK7 := Aside0.mk (HK9.out.trans (KeepBut.of_below (below_alloc (Below.refl _ w6) (.cells #[.int .i64 x.f0, .int .i64 x.f1, .string x.f2, .slice A3 x.f3.length c3, .slice A4 x.f4.length c4] 25)) g none) (.inl rfl))
 have HR7 := Aside0.mk (((below_alloc (Below.refl _ w6) (.cells #[.int .i64 x.f0, .int .i64 x.f1, .string x.f2, .slice A3 x.f3.length c3, .slice A4 x.f4.length c4] 25)).block _ (blk_lt HR9.out)).trans HR9.out)
 have HM7 := Aside0.mk (Kd.M_below HM9.out (below_alloc (Below.refl _ w6) (.cells #[.int .i64 x.f0, .int .i64 x.f1, .string x.f2, .slice A3 x.f3.length c3, .slice A4 x.f4.length c4] 25)))
 have HD7 := Aside0.mk (heap_alloc_new w6 (.cells #[.int .i64 x.f0, .int .i64 x.f1, .string x.f2, .slice A3 x.f3.length c3, .slice A4 x.f4.length c4] 25))
 have HZ7 := Aside0.mk (below_alloc (Below.refl _ w6) (.cells #[.int .i64 x.f0, .int .i64 x.f1, .string x.f2, .slice A3 x.f3.length c3, .slice A4 x.f4.length c4] 25))
 generalize hW : w6.alloc (.cells #[.int .i64 x.f0, .int .i64 x.f1, .string x.f2, .slice A3 x.f3.length c3, .slice A4 x.f4.length c4] 25) = W7 at HB7 HK7 HR7 HM7 HD7 HZ7 ⊢
 clear hW hy hz
 cases R1 with
 | err p c =>
  obtain ⟨op', hi⟩ := HS9.out
  have HI7 := Aside0.mk (hi.below HZ7.out)
  clear hi HS9
  have q2 := (blk_cell HI7.out.1 2).trans rfl
  have f2 := blk_frozen HI7.out.1 2
  have HI8 := Aside0.mk (HI7.out.set_2 (wrap64 (op' - 1)))
  have HB8 := Aside0.mk (HB7.out.setCell (p := ⟨g, 2, none⟩) hg0 (.int .i64 (wrap64 (op' - 1))))
  have HK8 := Aside0.mk (HK7.out.set_ 2 (.int .i64 (wrap64 (op' - 1))))
  have HR8 := Aside0.mk (blk_far HR7.out (p := ⟨g, 2, none⟩) (by show w.heap.size ≠ g; omega) (.int .i64 (wrap64 (op' - 1))))
  have HD8 := Aside0.mk (blk_far HD7.out (p := ⟨g, 2, none⟩) (by show w6.heap.size ≠ g; omega) (.int .i64 (wrap64 (op' - 1))))
  have HM8 := Aside0.mk (Kd.M_far HM7.out (p := ⟨g, 2, none⟩) (fun k hk => by have := HW9.out; show k ≠ g; omega) (.int .i64 (wrap64 (op' - 1))))
  have d0 := (blk_cell HD8.out 0).trans rfl
  have d1 := (blk_cell HD8.out 1).trans rfl
  have d2 := (blk_cell HD8.out 2).trans rfl
  have d3 := (blk_cell HD8.out 3).trans rfl
  have d4 := (blk_cell HD8.out 4).trans rfl
  have hy := Lib.cell_of_heap HR8.out
  have hz := Lib.frozen_of_heap HR8.out
  go_wp2_with fail
  refine bodyPost_ret (results_cell_row rfl _ _ w.heap.size 25 _ (0, 0) _ rfl (set_blk (j := 4) (set_blk (j := 3) (set_blk (j := 2) (set_blk (j := 1) (set_blk (j := 0) HR8.out _) _) _) _) _) Tryz.underlying25 rfl (by kernel_rfl)) rfl ?_
  exact finQ (x := x) HB8.out hww HK8.out hgw HM8.out (fun k hk => by have := HW9.out; omega) (by rw [HRR.out]; exact ⟨_, HI8.out⟩)
 | ok d a2 r =>
  obtain ⟨rfl, hi⟩ := HS9.out
  have HI7 := Aside0.mk (hi.below HZ7.out)
  rw [show ((deep + 1 : Nat) : Int) = (deep : Int) + 1 by omega] at HI7
  clear hi HS9
  have q2 := (blk_cell HI7.out.1 2).trans rfl
  have f2 := blk_frozen HI7.out.1 2
  have HI8 := Aside0.mk (HI7.out.set_2 (deep : Int))
  have HB8 := Aside0.mk (HB7.out.setCell (p := ⟨g, 2, none⟩) hg0 (.int .i64 (deep : Int)))
  have HK8 := Aside0.mk (HK7.out.set_ 2 (.int .i64 (deep : Int)))
  have HR8 := Aside0.mk (blk_far HR7.out (p := ⟨g, 2, none⟩) (by show w.heap.size ≠ g; omega) (.int .i64 (deep : Int)))
  have HD8 := Aside0.mk (blk_far HD7.out (p := ⟨g, 2, none⟩) (by show w6.heap.size ≠ g; omega) (.int .i64 (deep : Int)))
  have HM8 := Aside0.mk (Kd.M_far HM7.out (p := ⟨g, 2, none⟩) (fun k hk => by have := HW9.out; show k ≠ g; omega) (.int .i64 (deep : Int)))
  have d0 := (blk_cell HD8.out 0).trans rfl
  have d1 := (blk_cell HD8.out 1).trans rfl
  have d2 := (blk_cell HD8.out 2).trans rfl
  have d3 := (blk_cell HD8.out 3).trans rfl
  have d4 := (blk_cell HD8.out 4).trans rfl
  have hy := Lib.cell_of_heap HR8.out
  have hz := Lib.frozen_of_heap HR8.out
  go_wp2_with fail
  refine bodyPost_ret (results_cell_row rfl _ _ w.heap.size 25 _ (0, 0) _ rfl (set_blk (j := 4) (set_blk (j := 3) (set_blk (j := 2) (set_blk (j := 1) (set_blk (j := 0) HR8.out _) _) _) _) _) Tryz.underlying25 rfl (by kernel_rfl)) rfl ?_
  exact finQ (x := x) HB8.out hww HK8.out hgw HM8.out (fun k hk => by have := HW9.out; omega) (by rw [HRR.out]; exact ⟨rfl, HI8.out⟩)
set_option maxHeartbeats 4000000 in
theorem qp_rec16 (s : ByteArray) (hs : s.size ≤ 1000000000) (a deep : Nat) (ha : a ≤ s.size) (hd : deep ≤ 16) (n : Nat) (hl : a < s.size) (hc : (B s)[a]'(at_lt hl) = 123) (h16 : deep = 16) (g : Nat) (w0 w : World) (hgl : GL w0) (hI : IsS61 w0 w g s (a : Int) (deep : Int) 0) (hB : Below w0.heap.size w0 w) :
  Calls Tryz.prog 29 #[.pointer (some ⟨g, 0, none⟩)] w (pieceQ w0 w g s (deep : Int) (pieceS (n + 1) ((B s).drop a) a deep)) := by
 obtain ⟨R, hR⟩ : ∃ R : Res DT, R = pieceS (n + 1) ((B s).drop a) a deep := ⟨_, rfl⟩
 rw [← hR]
 have HRR := Aside0.mk (hR.trans ((pieceS_open n s a deep hl true (by rw [hc]; rfl)).trans (if_pos (by omega))))
 have HG := Aside0.mk hgl
 have hgw : g < w.heap.size := blk_lt hI.1
 have hg0 : w0.heap.size ≤ g := hI.2
 have hww : w0.heap.size ≤ w.heap.size := hB.size
 have HI1 := Aside0.mk (hI.alloc (.cells zCells 25))
 have HB1 := Aside0.mk (below_alloc hB (.cells zCells 25))
 have HK1 := Aside0.mk (KeepBut.of_below (below_alloc (Below.refl _ w) (.cells zCells 25)) g none)
 have HR1 := Aside0.mk (heap_alloc_new w (.cells zCells 25))
 clear hR hgl hI hB
 go_enter Tryz.func29, Tryz.ntmps29
 go_upto_region 1 with fail
 generalize hW : w.alloc (.cells zCells 25) = W1 at HI1 HB1 HK1 HR1 ⊢
 clear hW
 have q1 : W1.cell? ⟨g, 1, none⟩ = some (.int .i64 (a : Int)) := (blk_cell HI1.out.1 1).trans rfl
 have ta_word := ta_open_word
 have ta_digits := ta_open_digits
 have ta_quote := ta_open_quote
 have ta_open := ta_open_open
 subst h16
 have HNX := Aside0.mk (dn_rec s hs a ha hl hc ((16 : Nat) : Int) 0 g w0 W1 HI1.out HB1.out)
 rw [show ((16 : Nat) : Int) = 16 from rfl] at HNX
 clear hc
 have HF : Aside0 (∀ W, IsS61 w0 W g s ((a + 1 : Nat) : Int) 17 0 → Below w0.heap.size w0 W → Calls Tryz.prog 30 #[.pointer (some ⟨g, 0, none⟩), .int .i64 (a : Int), .int .i64 11] W fun e w' => e = .returned (.tuple #[]) ∧ IsS61 w0 w' g s (a : Int) 17 11 ∧ Below w0.heap.size w0 w' ∧ KeepBut W w' g none) := ⟨fun W h hb => datum_reader_fail.calls g s _ _ 0 (a : Int) 11 _ _ _ _ w0 W HG.out h hb (dfail_0 s _ _ _ 11)⟩
 go_wp2_with (first | (go_at_call 52; go_loud (with_reducible refine HNX.out.mono ?_); rintro e w3 ⟨rfl, hi, hb, hk⟩; have HI3 := Aside0.mk hi; have HB3 := Aside0.mk hb; have HK3 := Aside0.mk (HK1.out.trans hk (.inl rfl)); have HR3 := Aside0.mk (hk.blk HR1.out (by omega) (by simp)); have hy := Lib.cell_of_heap HR3.out; have hz := Lib.frozen_of_heap HR3.out; have q32 := (blk_cell HI3.out.1 2).trans (show _ = some (.int .i64 16) from rfl); have f32 := blk_frozen HI3.out.1 2; have HI5 := Aside0.mk (HI3.out.set_2 17); have HB5 := Aside0.mk (HB3.out.setCell (p := ⟨g, 2, none⟩) hg0 (.int .i64 17)); have HK5 := Aside0.mk (HK3.out.set_ 2 (.int .i64 17)); have HR5 := Aside0.mk (blk_far HR3.out (p := ⟨g, 2, none⟩) (by show w.heap.size ≠ g; omega) (.int .i64 17)); clear hi hb hk) | (go_at_call 30; go_loud (with_reducible refine (HF.out _ HI5.out HB5.out).mono ?_); rintro e w6 ⟨rfl, hi, hb, hk⟩; have HI9 := Aside0.mk hi; have HB9 := Aside0.mk hb; have HK9 := Aside0.mk (HK5.out.trans hk (.inl rfl)); have HR9 := Aside0.mk (hk.blk HR5.out (by omega) (by simp)); have hy := Lib.cell_of_heap HR9.out; have hz := Lib.frozen_of_heap HR9.out; clear hi hb hk))
 refine bodyPost_ret (results_cell_row rfl _ _ w.heap.size 25 _ (0, 0) _ rfl (set_blk (j := 4) (set_blk (j := 3) (set_blk (j := 2) (set_blk (j := 1) (set_blk (j := 0) HR9.out _) _) _) _) _) Tryz.underlying25 rfl (by kernel_rfl)) rfl ?_
 refine finQ (x := ⟨0, 0, em, [], []⟩) (v3 := .slice none 0 0) (v4 := .slice none 0 0) (ok := fun k => w.heap.size < k) HB9.out hww HK9.out hgw (k25_mkM _ w.heap.size _ ⟨0, 0, em, [], []⟩ (Kd.R_nil _ _ _ _ _) (Kd.R_nil _ _ _ _ _)) (fun k hk => by omega) ?_
 rw [HRR.out]
 exact ⟨_, HI9.out⟩
set_option maxHeartbeats 4000000 in
theorem qp_rec (s : ByteArray) (hs : s.size ≤ 1000000000) (a deep : Nat) (ha : a ≤ s.size) (hd : deep ≤ 16) (n : Nat) (hl : a < s.size) (hc : (B s)[a]'(at_lt hl) = 123) (h16 : deep < 16) (hf : 3 * (s.size - a) ≤ n) (ih : ∀ k, k < n → PieceQ s k) (g : Nat) (w0 w : World) (hgl : GL w0) (hI : IsS61 w0 w g s (a : Int) (deep : Int) 0) (hB : Below w0.heap.size w0 w) :
  Calls Tryz.prog 29 #[.pointer (some ⟨g, 0, none⟩)] w (pieceQ w0 w g s (deep : Int) (pieceS (n + 1) ((B s).drop a) a deep)) := by
 obtain ⟨R, hR⟩ : ∃ R : Res DT, R = pieceS (n + 1) ((B s).drop a) a deep := ⟨_, rfl⟩
 rw [← hR]
 have HRR := Aside0.mk (hR.trans ((pieceS_open n s a deep hl true (by rw [hc]; rfl)).trans (if_neg (by omega))))
 have HG := Aside0.mk hgl
 have hgw : g < w.heap.size := blk_lt hI.1
 have hg0 : w0.heap.size ≤ g := hI.2
 have hww : w0.heap.size ≤ w.heap.size := hB.size
 have HI1 := Aside0.mk (hI.alloc (.cells zCells 25))
 have HB1 := Aside0.mk (below_alloc hB (.cells zCells 25))
 have HK1 := Aside0.mk (KeepBut.of_below (below_alloc (Below.refl _ w) (.cells zCells 25)) g none)
 have HR1 := Aside0.mk (heap_alloc_new w (.cells zCells 25))
 clear hR hgl hI hB
 go_enter Tryz.func29, Tryz.ntmps29
 go_upto_region 1 with fail
 generalize hW : w.alloc (.cells zCells 25) = W1 at HI1 HB1 HK1 HR1 ⊢
 clear hW
 have q1 : W1.cell? ⟨g, 1, none⟩ = some (.int .i64 (a : Int)) := (blk_cell HI1.out.1 1).trans rfl
 have ta_word := ta_open_word
 have ta_digits := ta_open_digits
 have ta_quote := ta_open_quote
 have ta_open := ta_open_open
 have HNX := Aside0.mk (dn_rec s hs a ha hl hc (deep : Int) 0 g w0 W1 HI1.out HB1.out)
 have HX : Aside0 (∀ W, IsS61 w0 W g s ((a + 1 : Nat) : Int) ((deep : Int) + 1) 0 → Below w0.heap.size w0 W → Calls Tryz.prog 56 #[.pointer (some ⟨g, 0, none⟩), .bool true] W (pieceQ w0 W g s ((deep + 1 : Nat) : Int) (allS n s (a + 1) deep true))) := ⟨fun W h hb => qall_rec s hs (a + 1) (by omega) deep h16 n (by omega) ih g w0 W HG.out (by rw [show ((deep + 1 : Nat) : Int) = (deep : Int) + 1 by omega]; exact h) hb⟩
 obtain ⟨R1, hR1⟩ : ∃ R1 : Res DT, R1 = allS n s (a + 1) deep true := ⟨_, rfl⟩
 rw [← hR1] at HX HRR
 clear hc ih hR1
 go_upto_region 24 with (go_at_call 52; go_loud (with_reducible refine HNX.out.mono ?_); rintro e w3 ⟨rfl, hi, hb, hk⟩; have HI3 := Aside0.mk hi; have HB3 := Aside0.mk hb; have HK3 := Aside0.mk (HK1.out.trans hk (.inl rfl)); have HR3 := Aside0.mk (hk.blk HR1.out (by omega) (by simp)); have hy := Lib.cell_of_heap HR3.out; have hz := Lib.frozen_of_heap HR3.out; have q32 := (blk_cell HI3.out.1 2).trans (show _ = some (.int .i64 (deep : Int)) from rfl); have f32 := blk_frozen HI3.out.1 2; have HI5 := Aside0.mk (HI3.out.set_2 ((deep : Int) + 1)); have HB5 := Aside0.mk (HB3.out.setCell (p := ⟨g, 2, none⟩) hg0 (.int .i64 ((deep : Int) + 1))); have HK5 := Aside0.mk (HK3.out.set_ 2 (.int .i64 ((deep : Int) + 1))); have HR5 := Aside0.mk (blk_far HR3.out (p := ⟨g, 2, none⟩) (by show w.heap.size ≠ g; omega) (.int .i64 ((deep : Int) + 1))); clear hi hb hk)
 go_upto_region 25 with (go_at_call 56; go_loud (with_reducible refine (HX.out _ HI5.out HB5.out).mono ?_); rintro e w6 ⟨hb, hk, x, v3, v4, rfl, hm, hst⟩; obtain ⟨A3, c3, A4, c4, rfl, rfl⟩ := made_slices hm; have HB9 := Aside0.mk hb; have HK9 := Aside0.mk (HK5.out.trans hk (.inl rfl)); have HR9 := Aside0.mk (hk.blk HR5.out (by omega) (by simp)); have hy := Lib.cell_of_heap HR9.out; have hz := Lib.frozen_of_heap HR9.out; have HM9 := Aside0.mk (made_of hm (Nat.le_of_lt (blk_lt HR5.out))); have HS9 := Aside0.mk hst; have HW9 := Aside0.mk (blk_lt HR5.out); clear hb hk hm hst)
 have hw6 : w.heap.size < w6.heap.size := blk_lt HR9.out
 have HB7 := Aside0.mk (below_alloc HB9.out (.cells #[.int .i64 x.f0, .int .i64 x.f1, .string x.f2, .slice A3 x.f3.length c3, .slice A4 x.f4.length c4] 25))
 have HK7 := Aside0.mk (HK9.out.trans (KeepBut.of_below (below_alloc (Below.refl _ w6) (.cells #[.int .i64 x.f0, .int .i64 x.f1, .string x.f2, .slice A3 x.f3.length c3, .slice A4 x.f4.length c4] 25)) g none) (.inl rfl))
 have HR7 := Aside0.mk (((below_alloc (Below.refl _ w6) (.cells #[.int .i64 x.f0, .int .i64 x.f1, .string x.f2, .slice A3 x.f3.length c3, .slice A4 x.f4.length c4] 25)).block _ (blk_lt HR9.out)).trans HR9.out)
 have HM7 := Aside0.mk (Kd.M_below HM9.out (below_alloc (Below.refl _ w6) (.cells #[.int .i64 x.f0, .int .i64 x.f1, .string x.f2, .slice A3 x.f3.length c3, .slice A4 x.f4.length c4] 25)))
 have HD7 := Aside0.mk (heap_alloc_new w6 (.cells #[.int .i64 x.f0, .int .i64 x.f1, .string x.f2, .slice A3 x.f3.length c3, .slice A4 x.f4.length c4] 25))
 have HZ7 := Aside0.mk (below_alloc (Below.refl _ w6) (.cells #[.int .i64 x.f0, .int .i64 x.f1, .string x.f2, .slice A3 x.f3.length c3, .slice A4 x.f4.length c4] 25))
 generalize hW : w6.alloc (.cells #[.int .i64 x.f0, .int .i64 x.f1, .string x.f2, .slice A3 x.f3.length c3, .slice A4 x.f4.length c4] 25) = W7 at HB7 HK7 HR7 HM7 HD7 HZ7 ⊢
 clear hW hy hz
 cases R1 with
 | err p c =>
  obtain ⟨op', hi⟩ := HS9.out
  have HI7 := Aside0.mk (hi.below HZ7.out)
  clear hi HS9
  have q2 := (blk_cell HI7.out.1 2).trans rfl
  have f2 := blk_frozen HI7.out.1 2
  have HI8 := Aside0.mk (HI7.out.set_2 (wrap64 (op' - 1)))
  have HB8 := Aside0.mk (HB7.out.setCell (p := ⟨g, 2, none⟩) hg0 (.int .i64 (wrap64 (op' - 1))))
  have HK8 := Aside0.mk (HK7.out.set_ 2 (.int .i64 (wrap64 (op' - 1))))
  have HR8 := Aside0.mk (blk_far HR7.out (p := ⟨g, 2, none⟩) (by show w.heap.size ≠ g; omega) (.int .i64 (wrap64 (op' - 1))))
  have HD8 := Aside0.mk (blk_far HD7.out (p := ⟨g, 2, none⟩) (by show w6.heap.size ≠ g; omega) (.int .i64 (wrap64 (op' - 1))))
  have HM8 := Aside0.mk (Kd.M_far HM7.out (p := ⟨g, 2, none⟩) (fun k hk => by have := HW9.out; show k ≠ g; omega) (.int .i64 (wrap64 (op' - 1))))
  have d0 := (blk_cell HD8.out 0).trans rfl
  have d1 := (blk_cell HD8.out 1).trans rfl
  have d2 := (blk_cell HD8.out 2).trans rfl
  have d3 := (blk_cell HD8.out 3).trans rfl
  have d4 := (blk_cell HD8.out 4).trans rfl
  have hy := Lib.cell_of_heap HR8.out
  have hz := Lib.frozen_of_heap HR8.out
  go_wp2_with fail
  refine bodyPost_ret (results_cell_row rfl _ _ w.heap.size 25 _ (0, 0) _ rfl (set_blk (j := 4) (set_blk (j := 3) (set_blk (j := 2) (set_blk (j := 1) (set_blk (j := 0) HR8.out _) _) _) _) _) Tryz.underlying25 rfl (by kernel_rfl)) rfl ?_
  exact finQ (x := x) HB8.out hww HK8.out hgw HM8.out (fun k hk => by have := HW9.out; omega) (by rw [HRR.out]; exact ⟨_, HI8.out⟩)
 | ok d a2 r =>
  obtain ⟨rfl, hi⟩ := HS9.out
  have HI7 := Aside0.mk (hi.below HZ7.out)
  rw [show ((deep + 1 : Nat) : Int) = (deep : Int) + 1 by omega] at HI7
  clear hi HS9
  have q2 := (blk_cell HI7.out.1 2).trans rfl
  have f2 := blk_frozen HI7.out.1 2
  have HI8 := Aside0.mk (HI7.out.set_2 (deep : Int))
  have HB8 := Aside0.mk (HB7.out.setCell (p := ⟨g, 2, none⟩) hg0 (.int .i64 (deep : Int)))
  have HK8 := Aside0.mk (HK7.out.set_ 2 (.int .i64 (deep : Int)))
  have HR8 := Aside0.mk (blk_far HR7.out (p := ⟨g, 2, none⟩) (by show w.heap.size ≠ g; omega) (.int .i64 (deep : Int)))
  have HD8 := Aside0.mk (blk_far HD7.out (p := ⟨g, 2, none⟩) (by show w6.heap.size ≠ g; omega) (.int .i64 (deep : Int)))
  have HM8 := Aside0.mk (Kd.M_far HM7.out (p := ⟨g, 2, none⟩) (fun k hk => by have := HW9.out; show k ≠ g; omega) (.int .i64 (deep : Int)))
  have d0 := (blk_cell HD8.out 0).trans rfl
  have d1 := (blk_cell HD8.out 1).trans rfl
  have d2 := (blk_cell HD8.out 2).trans rfl
  have d3 := (blk_cell HD8.out 3).trans rfl
  have d4 := (blk_cell HD8.out 4).trans rfl
  have hy := Lib.cell_of_heap HR8.out
  have hz := Lib.frozen_of_heap HR8.out
  go_wp2_with fail
  refine bodyPost_ret (results_cell_row rfl _ _ w.heap.size 25 _ (0, 0) _ rfl (set_blk (j := 4) (set_blk (j := 3) (set_blk (j := 2) (set_blk (j := 1) (set_blk (j := 0) HR8.out _) _) _) _) _) Tryz.underlying25 rfl (by kernel_rfl)) rfl ?_
  exact finQ (x := x) HB8.out hww HK8.out hgw HM8.out (fun k hk => by have := HW9.out; omega) (by rw [HRR.out]; exact ⟨rfl, HI8.out⟩)
/-- The reader's piece. -/
theorem qpiece_c (s : ByteArray) (hs : s.size ≤ 1000000000) (n : Nat) : PieceQ s n := by
 induction n using Nat.strongRecOn with
 | _ n ih =>
  intro a deep ha hd hf g w0 w hgl hI hB
  obtain ⟨n, rfl⟩ : ∃ k, n = k + 1 := ⟨n - 1, by omega⟩
  by_cases hl : a < s.size
  rotate_left
  ·exact qp_end s hs a deep ha hd n (by omega) g w0 w hgl hI hB
  obtain ⟨c, hc⟩ : ∃ c, (B s)[a]'(at_lt hl) = c := ⟨_, rfl⟩
  by_cases h0 : isLet c = true
  ·exact qp_word s hs a deep ha hd n c hl hc h0 g w0 w hgl hI hB
  have h0' : isLet c = false := by simpa using h0
  by_cases h1 : isDig c = true
  ·exact qp_num s hs a deep ha hd n c hl hc h0' h1 g w0 w hgl hI hB
  have h1' : isDig c = false := by simpa using h1
  by_cases h34 : c = 34
  ·exact qp_quo s hs a deep ha hd n hl (by rw [hc, h34]) g w0 w hgl hI hB
  by_cases h91 : c = 91
  ·by_cases h16 : deep = 16
   ·exact qp_list16 s hs a deep ha hd n hl (by rw [hc, h91]) h16 g w0 w hgl hI hB
   ·exact qp_list s hs a deep ha hd n hl (by rw [hc, h91]) (by omega) (by omega) (fun k hk => ih k (by omega)) g w0 w hgl hI hB
  by_cases h123 : c = 123
  ·by_cases h16 : deep = 16
   ·exact qp_rec16 s hs a deep ha hd n hl (by rw [hc, h123]) h16 g w0 w hgl hI hB
   ·exact qp_rec s hs a deep ha hd n hl (by rw [hc, h123]) (by omega) (by omega) (fun k hk => ih k (by omega)) g w0 w hgl hI hB
  exact qp_bad s hs a deep ha hd n c hl hc h0' h1' h34 h91 h123 g w0 w hgl hI hB
end Go.Proofs.YtidcecpbihmloaaGreatDoorE

namespace Go.Proofs.YtidcecpbihmloaaGreatDoorE
open Go Go.RowKit Go.Proofs.YtidcecpbihmloaaGreatDoorW.PrintWords Go.Proofs.YtidcecpbihmloaaGreatDoorW.PrintMore Go.Proofs.YtidcecpbihmloaaGreatDoorW.PrintLast Go.Proofs.YtidcecpbihmloaaGreatDoorX Go.Proofs.YtidcecpbihmloaaGreatDoor.P16 Go.Proofs.YtidcecpbihmloaaGreatDoor.M02
set_option linter.unusedVariables false
set_option linter.unusedSimpArgs false
set_option maxRecDepth 100000
set_option maxHeartbeats 8000000 in
theorem qParse_c (s : ByteArray) (hs : s.size ≤ 1000000000) (w : World) (hgl : GL w) :
  Calls Tryz.prog 16 #[.string s] w (parseP w (parseS (B s))) := by
 have HG := Aside0.mk hgl
 have HI1 := Aside0.mk (IsS61.new w (w.alloc (.cells zCells 25)) s 0 0 0 (below_alloc (Below.refl _ _) _))
 have HB1 := Aside0.mk (below_alloc (below_alloc (Below.refl w.heap.size w) (.cells zCells 25)) (.cells #[.string s, .int .i64 0, .int .i64 0, .int .i64 0] 61))
 have HR1 := Aside0.mk (two_old_ w (.cells zCells 25) (.cells #[.string s, .int .i64 0, .int .i64 0, .int .i64 0] 61))
 rw [show (w.alloc (.cells zCells 25)).heap.size = w.heap.size + 1 by simp] at HI1
 have HP := Aside0.mk (qpiece_c s hs (3 * (B s).length + 1) 0 0 (Nat.zero_le _) (by omega) (by rw [B_len]; omega) (w.heap.size + 1) w _ hgl HI1.out HB1.out)
 rw [List.drop_zero, show ((0 : Nat) : Int) = 0 from rfl] at HP
 obtain ⟨R1, hR1⟩ : ∃ R1 : Res DT, R1 = pieceS (3 * (B s).length + 1) (B s) 0 0 := ⟨_, rfl⟩
 obtain ⟨PS, hPS⟩ : ∃ PS : DT × Nat × Int, PS = parseS (B s) := ⟨_, rfl⟩
 have HPS := Aside0.mk (hPS.trans (parseS_of (B s)))
 rw [← hPS]
 rw [← hR1] at HP HPS
 have HR := Aside0.mk hR1
 clear hPS hR1 hgl
 go_enter Tryz.func16, Tryz.ntmps16
 go_upto_region 3 with (go_at_call 29; go_loud (with_reducible refine HP.out.mono ?_); rintro e w3 ⟨hb, hk, x, v3, v4, rfl, hm, hst⟩; obtain ⟨A3, c3, A4, c4, rfl, rfl⟩ := made_slices hm; have HB3 := Aside0.mk hb; have HK3 := Aside0.mk hk; have HM3 := Aside0.mk hm; have HS3 := Aside0.mk hst; clear hb hk hm hst)
 have hsz3 : w.heap.size + 1 < w3.heap.size := by have h := HK3.out.1; simp at h; omega
 have HR4 := Aside0.mk (((below_alloc (Below.refl _ w3) (.cells #[.int .i64 x.f0, .int .i64 x.f1, .string x.f2, .slice A3 x.f3.length c3, .slice A4 x.f4.length c4] 25)).block w.heap.size (by omega)).trans (HK3.out.blk HR1.out (by omega) (by simp)))
 have HD4 := Aside0.mk (heap_alloc_new w3 (.cells #[.int .i64 x.f0, .int .i64 x.f1, .string x.f2, .slice A3 x.f3.length c3, .slice A4 x.f4.length c4] 25))
 have HB4 := Aside0.mk (below_alloc HB3.out (.cells #[.int .i64 x.f0, .int .i64 x.f1, .string x.f2, .slice A3 x.f3.length c3, .slice A4 x.f4.length c4] 25))
 have HM4 := Aside0.mk (Kd.M_below (made_of (b := w.heap.size + 1) HM3.out (by simp)) (below_alloc (Below.refl _ w3) (.cells #[.int .i64 x.f0, .int .i64 x.f1, .string x.f2, .slice A3 x.f3.length c3, .slice A4 x.f4.length c4] 25)))
 have HW4 := Aside0.mk (below_alloc (Below.refl _ w3) (.cells #[.int .i64 x.f0, .int .i64 x.f1, .string x.f2, .slice A3 x.f3.length c3, .slice A4 x.f4.length c4] 25))
 generalize hW : w3.alloc (.cells #[.int .i64 x.f0, .int .i64 x.f1, .string x.f2, .slice A3 x.f3.length c3, .slice A4 x.f4.length c4] 25) = W4 at HR4 HD4 HB4 HM4 HW4 ⊢
 clear hW HI1 HB1 HR1 HP HB3 HK3 HM3
 cases R1 with
 | err p c =>
  obtain ⟨op', hi⟩ := HS3.out
  have HI4 := Aside0.mk (hi.below HW4.out)
  have hc : c ≠ 0 := by rcases (err_code _).1 _ _ _ _ _ HR.out.symm with e | e <;> rw [e] <;> decide
  have hcb : (c != 0) = true := by simpa using hc
  have q1 : W4.cell? ⟨w.heap.size + 1, 1, none⟩ = some (.int .i64 (p : Int)) := (blk_cell HI4.out.1 1).trans rfl
  have HF : Aside0 (Calls Tryz.prog 30 #[.pointer (some ⟨w.heap.size + 1, 0, none⟩), .int .i64 (p : Int), .int .i64 2] W4 fun e w' => e = .returned (.tuple #[]) ∧ IsS61 w w' (w.heap.size + 1) s (p : Int) op' c ∧ Below w.heap.size w w' ∧ KeepBut W4 w' (w.heap.size + 1) none) := ⟨datum_reader_fail.calls (w.heap.size + 1) s (p : Int) op' c (p : Int) 2 _ _ _ _ w W4 HG.out HI4.out HB4.out (dfail_er s (p : Int) op' c _ _ hc)⟩
  clear hi hc HS3
  go_upto_if 18 with fail
  go_cut [] from 18 to 24 (fun wc => Aside0 (IsS61 w wc (w.heap.size + 1) s (p : Int) op' c ∧ Below w.heap.size w wc ∧ wc.heap[w.heap.size]? = some (.cells zCells 25 (0, 0))))
  case first =>
   by_cases hlt : p < s.size
   ·go_wp2_with (go_at_call 30; go_loud (with_reducible refine HF.out.mono ?_); rintro e w6 ⟨rfl, hi6, hb6, hk6⟩; have HI6 := Aside0.mk hi6; have HB6 := Aside0.mk hb6; have HR6 := Aside0.mk (hk6.blk HR4.out (by omega) (by simp)); clear hi6 hb6 hk6)
    go_meet
    exact ⟨HI6.out, HB6.out, HR6.out⟩
   ·have hlt2 : decide (p < s.size) = false := decide_eq_false hlt
    go_wp2_with fail
    go_meet
    exact ⟨HI4.out, HB4.out, HR4.out⟩
  have HI5 := Aside0.mk hcut.out.1
  have HB5 := Aside0.mk hcut.out.2.1
  have HR9 := Aside0.mk hcut.out.2.2
  clear hcut HI4 HB4 HR4 HD4 HM4 HW4 HF q1
  have q1 : wc.cell? ⟨w.heap.size + 1, 1, none⟩ = some (.int .i64 (p : Int)) := (blk_cell HI5.out.1 1).trans rfl
  have q3 : wc.cell? ⟨w.heap.size + 1, 3, none⟩ = some (.int .i64 c) := (blk_cell HI5.out.1 3).trans rfl
  have hy := Lib.cell_of_heap HR9.out
  have hz := Lib.frozen_of_heap HR9.out
  go_wp2_with fail
  go_region
  go_wp2_with fail
  refine bodyPost_ret (results_ctt rfl _ _ w.heap.size 25 _ (0, 0) _ rfl (drew_blk (set_blk (j := 4) (set_blk (j := 3) (set_blk (j := 2) (set_blk (j := 1) (set_blk (j := 0) HR9.out _) _) _) _) _)) Tryz.underlying25 rfl (by kernel_rfl)) rfl ?_
  rw [HPS.out]
  exact finPd (p := (zeroD, p, c)) (ok := fun k => w.heap.size < k) (base := w.heap.size) HB5.out (zeroM _ _ _) (fun k hk => by omega)
 | ok d a r =>
  obtain ⟨rfl, hi⟩ := HS3.out
  have hx := okD_piece (a := 0) (by omega) (show pieceS _ ((B s).drop 0) 0 0 = .ok x a r by rw [List.drop_zero]; exact HR.out.symm)
  obtain ⟨k, hk1, hk2, hk3⟩ := piece_at HR.out.symm
  rw [B_len] at hk1
  rw [Nat.zero_add] at hk2
  subst hk2
  have HI4 := Aside0.mk (hi.below HW4.out)
  have q1 : W4.cell? ⟨w.heap.size + 1, 1, none⟩ = some (.int .i64 (a : Int)) := (blk_cell HI4.out.1 1).trans rfl
  have HX := Aside0.mk hx
  have HK3 := Aside0.mk hk3
  clear hi hx HS3 hk3
  by_cases hlt : a < s.size
  ·have HF : Aside0 (Calls Tryz.prog 30 #[.pointer (some ⟨w.heap.size + 1, 0, none⟩), .int .i64 (a : Int), .int .i64 2] W4 fun e w' => e = .returned (.tuple #[]) ∧ IsS61 w w' (w.heap.size + 1) s (a : Int) 0 2 ∧ Below w.heap.size w w' ∧ KeepBut W4 w' (w.heap.size + 1) none) := ⟨datum_reader_fail.calls (w.heap.size + 1) s _ 0 0 (a : Int) 2 _ _ _ _ w W4 HG.out HI4.out HB4.out (dfail_0 s _ 0 _ 2)⟩
   have HV := Aside0.mk (show PS = (zeroD, a, 2) from HPS.out.trans (if_pos (by
    rw [HK3.out]
    intro e
    have := congrArg List.length e
    rw [List.length_drop, B_len, List.length_nil] at this
    omega)))
   go_wp2_with (go_at_call 30; go_loud (with_reducible refine HF.out.mono ?_); rintro e wc ⟨rfl, hi6, hb6, hk6⟩; have HI5 := Aside0.mk hi6; have HB5 := Aside0.mk hb6; have HR9 := Aside0.mk (hk6.blk HR4.out (by omega) (by simp)); have q1' : wc.cell? ⟨w.heap.size + 1, 1, none⟩ = some (.int .i64 (a : Int)) := (blk_cell HI5.out.1 1).trans rfl; have q3 : wc.cell? ⟨w.heap.size + 1, 3, none⟩ = some (.int .i64 2) := (blk_cell HI5.out.1 3).trans rfl; have hy := Lib.cell_of_heap HR9.out; have hz := Lib.frozen_of_heap HR9.out; clear hi6 hb6 hk6)
   go_region
   go_wp2_with fail
   refine bodyPost_ret (results_ctt rfl _ _ w.heap.size 25 _ (0, 0) _ rfl (drew_blk (set_blk (j := 4) (set_blk (j := 3) (set_blk (j := 2) (set_blk (j := 1) (set_blk (j := 0) HR9.out _) _) _) _) _)) Tryz.underlying25 rfl (by kernel_rfl)) rfl ?_
   rw [HV.out]
   exact finPd (p := (zeroD, a, 2)) (ok := fun k => w.heap.size < k) (base := w.heap.size) HB5.out (zeroM _ _ _) (fun k hk => by omega)
  ·have hv : PS = (if rightD x then (x, 0, 0) else (zeroD, 0, 24)) := HPS.out.trans (if_neg (by
    rw [HK3.out, List.drop_of_length_le (by rw [B_len]; omega)]
    exact fun h => h rfl))
   have q3 : W4.cell? ⟨w.heap.size + 1, 3, none⟩ = some (.int .i64 0) := (blk_cell HI4.out.1 3).trans rfl
   have d0 : W4.cell? ⟨w3.heap.size, 0, none⟩ = some (.int .i64 x.f0) := (blk_cell HD4.out 0).trans rfl
   have d1 : W4.cell? ⟨w3.heap.size, 1, none⟩ = some (.int .i64 x.f1) := (blk_cell HD4.out 1).trans rfl
   have d2 : W4.cell? ⟨w3.heap.size, 2, none⟩ = some (.string x.f2) := (blk_cell HD4.out 2).trans rfl
   have d3 : W4.cell? ⟨w3.heap.size, 3, none⟩ = some (.slice A3 x.f3.length c3) := (blk_cell HD4.out 3).trans rfl
   have d4 : W4.cell? ⟨w3.heap.size, 4, none⟩ = some (.slice A4 x.f4.length c4) := (blk_cell HD4.out 4).trans rfl
   obtain ⟨l3, g3, l4, g4⟩ := made_open HM4.out
   have HRT := Aside0.mk (Right_c x HX.out W4 (HG.out.below HB4.out) A3 c3 A4 c4 l3 g3 l4 g4)
   clear l3 g3 l4 g4
   have hlt2 : decide (a < s.size) = false := decide_eq_false hlt
   cases hr : rightD x with
   | true =>
    rw [hr] at HRT hv
    have HV := Aside0.mk (show PS = (x, 0, 0) from hv)
    clear hr hv
    go_wp2_with (go_at_call 15; go_loud (with_reducible refine HRT.out.mono ?_); rintro e wc ⟨rfl, hb6⟩; have HB5 := Aside0.mk (then_w HB4.out hb6); have HM5 := Aside0.mk (Kd.M_below HM4.out hb6); have HD5 := (hb6.block _ (blk_lt HD4.out)).trans HD4.out; have e0 := (blk_cell HD5 0).trans rfl; have e1 := (blk_cell HD5 1).trans rfl; have e2 := (blk_cell HD5 2).trans rfl; have e3 := (blk_cell HD5 3).trans rfl; have e4 := (blk_cell HD5 4).trans rfl; have HR9 := Aside0.mk ((hb6.block _ (blk_lt HR4.out)).trans HR4.out); have hy := Lib.cell_of_heap HR9.out; have hz := Lib.frozen_of_heap HR9.out; clear hb6 HD5)
    refine bodyPost_ret (results_ctt rfl _ _ w.heap.size 25 _ (0, 0) _ rfl (set_blk (j := 4) (set_blk (j := 3) (set_blk (j := 2) (set_blk (j := 1) (set_blk (j := 0) HR9.out _) _) _) _) _) Tryz.underlying25 rfl (by kernel_rfl)) rfl ?_
    rw [HV.out]
    exact finP (p := (x, 0, 0)) HB5.out HM5.out (fun k hk => by simp at hk; omega)
   | false =>
    rw [hr] at HRT hv
    have HV := Aside0.mk (show PS = (zeroD, 0, 24) from hv)
    clear hr hv
    go_wp2_with (go_at_call 15; go_loud (with_reducible refine HRT.out.mono ?_); rintro e wc ⟨rfl, hb6⟩; have HB5 := Aside0.mk (then_w HB4.out hb6); have HR9 := Aside0.mk ((hb6.block _ (blk_lt HR4.out)).trans HR4.out); have hy := Lib.cell_of_heap HR9.out; have hz := Lib.frozen_of_heap HR9.out; clear hb6)
    refine bodyPost_ret (results_ctt rfl _ _ w.heap.size 25 _ (0, 0) _ rfl (set_blk (j := 4) (set_blk (j := 3) (set_blk (j := 2) (set_blk (j := 1) (set_blk (j := 0) HR9.out _) _) _) _) _) Tryz.underlying25 rfl (by kernel_rfl)) rfl ?_
    rw [HV.out]
    exact finP (p := (zeroD, 0, 24)) (ok := fun k => w.heap.size < k) (base := w.heap.size) HB5.out (zeroM _ _ _) (fun k hk => by omega)
end Go.Proofs.YtidcecpbihmloaaGreatDoorE

namespace Go.Proofs.YtidcecpbihmloaaGreatDoorE
open Go Go.RowKit Go.Proofs.YtidcecpbihmloaaGreatDoorW.PrintWords Go.Proofs.YtidcecpbihmloaaGreatDoorW.PrintMore Go.Proofs.YtidcecpbihmloaaGreatDoorW.PrintLast Go.Proofs.YtidcecpbihmloaaGreatDoorX Go.Proofs.YtidcecpbihmloaaGreatDoor.P16 Go.Proofs.YtidcecpbihmloaaGreatDoor.M02
set_option linter.unusedVariables false
set_option linter.unusedSimpArgs false
set_option maxRecDepth 100000
def s0 : ByteArray := ⟨#[123, 97, 61, 49, 44, 98, 61, 91, 121, 101, 115, 44, 34, 120, 34, 93, 125]⟩
def s1 : ByteArray := ⟨#[91, 49, 44, 93]⟩
def d1 : DT := ⟨2, 1, em, [], []⟩
def d0 : DT := ⟨5, 0, em, [⟨#[97]⟩, ⟨#[98]⟩], [d1, ⟨4, 0, em, [], [⟨1, 1, em, [], []⟩, ⟨3, 0, ⟨#[120]⟩, [], []⟩]⟩]⟩
theorem d0_right : rightD d0 = true := by kernel_rfl
theorem d0_print : printD d0 = B s0 := by kernel_rfl
theorem d0_parse : parseS (B s0) = (d0, 0, 0) := by kernel_rfl
theorem s1_parse : parseS (B s1) = (zeroD, 3, 2) := by kernel_rfl
theorem d0_get : getS d0 ⟨#[97]⟩ = (d1, true) := by kernel_rfl
theorem d1_right : rightD d1 = true := by kernel_rfl
theorem okD_lf (k n : Int) (t : ByteArray) (h0 : -9223372036854775808 ≤ k ∧ k ≤ 9223372036854775807) (h1 : -9223372036854775808 ≤ n ∧ n ≤ 9223372036854775807) (h2 : t.size ≤ 140737488351232) : OkD (⟨k, n, t, [], []⟩ : DT) :=
 .mk _ h0 h1 h2 (Nat.zero_le _) (fun s hs => by cases hs) (Nat.zero_le _) (fun y hy => by cases hy)
theorem okD_d1 : OkD d1 := okD_lf 2 1 em (by decide) (by decide) (by decide)
theorem okD_d0 : OkD d0 := by
 refine .mk d0 (by decide) (by decide) (by decide) (by decide) (fun s hs => ?_) (by decide) (fun y hy => ?_)
 ·have hs : s ∈ [(⟨#[97]⟩ : ByteArray), ⟨#[98]⟩] := hs
  simp only [List.mem_cons, List.not_mem_nil, or_false] at hs
  rcases hs with rfl | rfl <;> decide
 ·have hy : y ∈ [d1, ⟨4, 0, em, [], [⟨1, 1, em, [], []⟩, ⟨3, 0, ⟨#[120]⟩, [], []⟩]⟩] := hy
  simp only [List.mem_cons, List.not_mem_nil, or_false] at hy
  rcases hy with rfl | rfl
  ·exact okD_d1
  ·refine .mk _ (by decide) (by decide) (by decide) (by decide) (fun s hs => by cases hs) (by decide) (fun y hy => ?_)
   have hy : y ∈ [(⟨1, 1, em, [], []⟩ : DT), ⟨3, 0, ⟨#[120]⟩, [], []⟩] := hy
   simp only [List.mem_cons, List.not_mem_nil, or_false] at hy
   rcases hy with rfl | rfl
   ·exact okD_lf 1 1 em (by decide) (by decide) (by decide)
   ·exact okD_lf 3 0 ⟨#[120]⟩ (by decide) (by decide) (by decide)
theorem mkB_B (s : ByteArray) : mkB (B s) = s := by
 rcases s with ⟨a⟩
 simp [mkB, B]
set_option maxHeartbeats 8000000 in
theorem same_c (w : World) (hgl : GL w) : Calls Tryz.prog 8 #[] w fun e w' => e = .returned (.bool true) ∧ Below w.heap.size w w' := by
 have HG := Aside0.mk hgl
 have HP0 := Aside0.mk (qParse_c s0 (by decide) w hgl)
 rw [d0_parse] at HP0
 have HP1 : Aside0 (∀ W, GL W → Calls Tryz.prog 16 #[.string s1] W (parseP W (zeroD, 3, 2))) := ⟨fun W h => s1_parse ▸ qParse_c s1 (by decide) W h⟩
 obtain ⟨x, hx⟩ : ∃ x, x = d0 := ⟨_, rfl⟩
 obtain ⟨y, hy⟩ : ∃ y, y = d1 := ⟨_, rfl⟩
 have HPR : Aside0 (∀ (w : World), GL w → ∀ (A3 : Option Addr) (c3 : Nat) (A4 : Option Addr) (c4 : Nat), x.f3.length ≤ c3 → Kd.string.C w A3 x.f3.length x.f3 → x.f4.length ≤ c4 → k25.C w A4 x.f4.length x.f4 → Calls Tryz.prog 14 #[aggD x A3 c3 A4 c4] w fun e w' => e = .returned (.tuple #[.string s0, .int .i64 0]) ∧ Below w.heap.size w w') := ⟨fun w hgl A3 c3 A4 c4 l3 g3 l4 g4 => by
  subst hx
  have h := Print_c d0 okD_d0 w hgl A3 c3 A4 c4 l3 g3 l4 g4
  unfold printP at h
  rw [if_pos d0_right, d0_print, mkB_B] at h
  exact h⟩
 have HGE : Aside0 (∀ (w : World), GL w → ∀ (A3 : Option Addr) (c3 : Nat) (A4 : Option Addr) (c4 : Nat), x.f3.length ≤ c3 → Kd.string.C w A3 x.f3.length x.f3 → x.f4.length ≤ c4 → k25.C w A4 x.f4.length x.f4 → Calls Tryz.prog 9 #[aggD x A3 c3 A4 c4, .string ⟨#[97]⟩] w (getP w (y, true))) := ⟨fun w hgl A3 c3 A4 c4 l3 g3 l4 g4 => by
  subst hx
  subst hy
  exact d0_get ▸ Get_c d0 okD_d0 ⟨#[97]⟩ w hgl A3 c3 A4 c4 l3 g3 l4 g4⟩
 have HRI : Aside0 (∀ (w : World), GL w → ∀ (A3 : Option Addr) (c3 : Nat) (A4 : Option Addr) (c4 : Nat), y.f3.length ≤ c3 → Kd.string.C w A3 y.f3.length y.f3 → y.f4.length ≤ c4 → k25.C w A4 y.f4.length y.f4 → Calls Tryz.prog 15 #[aggD y A3 c3 A4 c4] w fun e w' => e = .returned (.bool true) ∧ Below w.heap.size w w') := ⟨fun w hgl A3 c3 A4 c4 l3 g3 l4 g4 => by
  subst hy
  exact d1_right ▸ Right_c d1 okD_d1 w hgl A3 c3 A4 c4 l3 g3 l4 g4⟩
 have y1 : (y.f1 == 1) = true := by rw [hy]; rfl
 have ss : (s0.toList == [123, 97, 61, 49, 44, 98, 61, 91, 121, 101, 115, 44, 34, 120, 34, 93, 125]) = true := by kernel_rfl
 rw [← hx] at HP0
 clear hx hy hgl
 unfold s0 s1 at *
 go_enter Tryz.func8, Tryz.ntmps8
 go_upto_region 2 with (go_at_call 16; go_loud (with_reducible refine HP0.out.mono ?_); rintro e w1 ⟨hb, A3, c3, A4, c4, rfl, m1, m2, m3, m4⟩; have HB1 := Aside0.mk hb; have HM1 := Aside0.mk (And.intro (And.intro m1 m2) (And.intro m3 m4)); clear hb m1 m2 m3 m4)
 have HX1 := Aside0.mk (heap_alloc_new w1 (dBox x A3 c3 A4 c4))
 have HA1 := Aside0.mk (below_alloc (Below.refl w1.heap.size w1) (dBox x A3 c3 A4 c4))
 have HB2 := Aside0.mk (below_then HB1.out HB1.out.size HA1.out)
 have p0 := (blk_cell HX1.out 0).trans rfl
 have p1 := (blk_cell HX1.out 1).trans rfl
 have p2 := (blk_cell HX1.out 2).trans rfl
 have p3 := (blk_cell HX1.out 3).trans rfl
 have p4 := (blk_cell HX1.out 4).trans rfl
 go_upto_region 3 with (go_at_call 14; go_loud (with_reducible refine (HPR.out _ (HG.out.below HB2.out) A3 c3 A4 c4 HM1.out.1.1 (Kd.string.C_below HM1.out.1.2 HA1.out) HM1.out.2.1 (k25.C_below HM1.out.2.2 HA1.out)).mono ?_); rintro e w3 ⟨rfl, hb⟩; have HB3 := Aside0.mk (below_then HA1.out HA1.out.size hb); have hx3 := (hb.block w1.heap.size (by simp)).trans HX1.out; have HX3 := Aside0.mk hx3; clear hb hx3)
 clear p0 p1 p2 p3 p4
 have p0 := (blk_cell HX3.out 0).trans rfl
 have p1 := (blk_cell HX3.out 1).trans rfl
 have p2 := (blk_cell HX3.out 2).trans rfl
 have p3 := (blk_cell HX3.out 3).trans rfl
 have p4 := (blk_cell HX3.out 4).trans rfl
 have HB4 := Aside0.mk (below_then HB1.out HB1.out.size HB3.out)
 go_upto_region 4 with (go_at_call 9; go_loud (with_reducible refine (HGE.out w3 (HG.out.below HB4.out) A3 c3 A4 c4 HM1.out.1.1 (Kd.string.C_below HM1.out.1.2 HB3.out) HM1.out.2.1 (k25.C_below HM1.out.2.2 HB3.out)).mono ?_); rintro e w5 ⟨hb, A3y, c3y, A4y, c4y, rfl, m1, m2, m3, m4⟩; have HB5 := Aside0.mk (below_then HB4.out HB4.out.size hb); have HM5 := Aside0.mk (And.intro (And.intro m1 m2) (And.intro m3 m4)); clear hb m1 m2 m3 m4)
 clear p0 p1 p2 p3 p4
 have HX6 := Aside0.mk (heap_alloc_new w5 (dBox y A3y c3y A4y c4y))
 have HA6 := Aside0.mk (below_alloc (Below.refl w5.heap.size w5) (dBox y A3y c3y A4y c4y))
 have HB6 := Aside0.mk (below_then HB5.out HB5.out.size HA6.out)
 go_upto_region 5 with (go_at_call 16; go_loud (with_reducible refine (HP1.out _ (HG.out.below HB6.out)).mono ?_); rintro e w7 ⟨hb, A3z, c3z, A4z, c4z, rfl, -, -, -, -⟩; have HB7 := Aside0.mk (below_then HA6.out HA6.out.size hb); have hx7 := (hb.block w5.heap.size (by simp)).trans HX6.out; have HX7 := Aside0.mk hx7; clear hb hx7)
 have HA8 := Aside0.mk (below_alloc (Below.refl w7.heap.size w7) (dBox zeroD A3z c3z A4z c4z))
 have HX8 := Aside0.mk ((HA8.out.block w5.heap.size (blk_lt HX7.out)).trans HX7.out)
 have HB8 := Aside0.mk (below_then HB7.out HB7.out.size HA8.out)
 have HB9 := Aside0.mk (below_then HB5.out HB5.out.size HB8.out)
 have p0 := (blk_cell HX8.out 0).trans rfl
 have p1 := (blk_cell HX8.out 1).trans rfl
 have p2 := (blk_cell HX8.out 2).trans rfl
 have p3 := (blk_cell HX8.out 3).trans rfl
 have p4 := (blk_cell HX8.out 4).trans rfl
 go_wp2_with (go_at_call 15; go_loud (with_reducible refine (HRI.out _ (HG.out.below HB9.out) A3y c3y A4y c4y HM5.out.1.1 (Kd.string.C_below HM5.out.1.2 HB8.out) HM5.out.2.1 (k25.C_below HM5.out.2.2 HB8.out)).mono ?_); rintro e w9 ⟨rfl, hb⟩; have HBT := Aside0.mk (below_then HB9.out HB9.out.size hb); clear hb)
 go_ret
 exact ⟨rfl, HBT.out⟩
end Go.Proofs.YtidcecpbihmloaaGreatDoorE

namespace Go.Proofs.YtidcecpbihmloaaGreatDoorE
open Go Go.RowKit Go.Proofs.YtidcecpbihmloaaGreatDoorW.PrintWords Go.Proofs.YtidcecpbihmloaaGreatDoorW.PrintMore Go.Proofs.YtidcecpbihmloaaGreatDoorW.PrintLast Go.Proofs.YtidcecpbihmloaaGreatDoorX Go.Proofs.YtidcecpbihmloaaGreatDoor.P16 Go.Proofs.YtidcecpbihmloaaGreatDoor.M02
set_option linter.unusedVariables false
set_option linter.unusedSimpArgs false
set_option maxRecDepth 100000
theorem toList_iff (a b : ByteArray) : a.toList = b.toList ↔ a = b := by
 rw [toList_data, toList_data]
 exact ⟨fun h => B_inj h, fun h => by rw [h]⟩
theorem names_eq {ns ns' : List ByteArray} (hl : ns.length = ns'.length) (h : ∀ j, j < ns.length → ns.getD j em = ns'.getD j em) : ns = ns' := by
 refine List.ext_getElem hl (fun j h1 h2 => ?_)
 have := h j h1
 rw [List.getD_eq_getElem?_getD, List.getD_eq_getElem?_getD, List.getElem?_eq_getElem h1, List.getElem?_eq_getElem h2] at this
 exact this
abbrev zBox (a b : Int) (c : ByteArray) (ns : List ByteArray) (l : List DT) (A3 : Option Addr) (c3 : Nat) (A4 : Option Addr) (c4 : Nat) : Obj := .cells #[.int .i64 a, .int .i64 b, .string c, .slice A3 ns.length c3, .slice A4 l.length c4] 25
/-- What Same says of a piece and any other. -/
def sameC (x : DT) : Prop := ∀ (y : DT) (w : World) (A3 : Option Addr) (c3 : Nat) (A4 : Option Addr) (c4 : Nat) (B3 : Option Addr) (d3 : Nat) (B4 : Option Addr) (d4 : Nat), x.f3.length ≤ c3 → Kd.string.C w A3 x.f3.length x.f3 → x.f4.length ≤ c4 → k25.C w A4 x.f4.length x.f4 → y.f3.length ≤ d3 → Kd.string.C w B3 y.f3.length y.f3 → y.f4.length ≤ d4 → k25.C w B4 y.f4.length y.f4 →
 Calls Tryz.prog 11 #[aggD x A3 c3 A4 c4, aggD y B3 d3 B4 d4] w fun e w' => (∃ q : Bool, e = .returned (.bool q) ∧ (q = true ↔ x = y)) ∧ Below w.heap.size w w'
theorem rd_getElem (l : List DT) (k : Nat) (h : k < l.length) : rd_T25 l (k : Int) = l[k] := by
 unfold rd_T25
 rw [Int.toNat_natCast, List.getD_eq_getElem?_getD, List.getElem?_eq_getElem h]
 rfl
set_option maxHeartbeats 16000000 in
theorem same_step (a b : Int) (c : ByteArray) (ns : List ByteArray) (l : List DT) (hn3 : ns.length ≤ 140737488351232) (hn4 : l.length ≤ 140737488351232) (ih : ∀ z ∈ l, sameC z) (ns' : List ByteArray) (l' : List DT) (h3 : ns'.length = ns.length) (h4 : l'.length = l.length) (w : World) (A3 : Option Addr) (c3 : Nat) (A4 : Option Addr) (c4 : Nat) (B3 : Option Addr) (d3 : Nat) (B4 : Option Addr) (d4 : Nat) (lA3 : ns.length ≤ c3) (gA3 : Kd.string.C w A3 ns.length ns) (lA4 : l.length ≤ c4) (gA4 : k25.C w A4 l.length l) (lB3 : ns.length ≤ d3) (gB3 : Kd.string.C w B3 ns.length ns') (lB4 : l.length ≤ d4) (gB4 : k25.C w B4 l.length l') :
  Calls Tryz.prog 11 #[.agg #[.int .i64 a, .int .i64 b, .string c, .slice A3 ns.length c3, .slice A4 l.length c4], .agg #[.int .i64 a, .int .i64 b, .string c, .slice B3 ns.length d3, .slice B4 l.length d4]] w fun e w' => (∃ q : Bool, e = .returned (.bool q) ∧ (q = true ↔ (ns = ns' ∧ l = l'))) ∧ Below w.heap.size w w' := by
 have HB := Aside0.mk (below_alloc (below_alloc (Below.refl w.heap.size w) (zBox a b c ns l A3 c3 A4 c4)) (.cells #[.int .i64 a, .int .i64 b, .string c, .slice B3 ns.length d3, .slice B4 l.length d4] 25))
 have HX := Aside0.mk (two_old_ w (zBox a b c ns l A3 c3 A4 c4) (.cells #[.int .i64 a, .int .i64 b, .string c, .slice B3 ns.length d3, .slice B4 l.length d4] 25))
 have HY := Aside0.mk (two_new_ w (zBox a b c ns l A3 c3 A4 c4) (.cells #[.int .i64 a, .int .i64 b, .string c, .slice B3 ns.length d3, .slice B4 l.length d4] 25))
 have HA3 := Aside0.mk gA3
 have HA4 := Aside0.mk gA4
 have HB3 := Aside0.mk gB3
 have HB4 := Aside0.mk gB4
 have IH := Aside0.mk ih
 have H3 := Aside0.mk h3
 have H4 := Aside0.mk h4
 have hsz : ((w.alloc (zBox a b c ns l A3 c3 A4 c4)).alloc (.cells #[.int .i64 a, .int .i64 b, .string c, .slice B3 ns.length d3, .slice B4 l.length d4] 25)).heap.size = w.heap.size + 2 := by simp
 have HSZ := Aside0.mk hsz
 clear gA3 gA4 gB3 gB4 ih h3 h4 hsz
 go_enter Tryz.func11, Tryz.ntmps11
 go_upto_region 3 with fail
 generalize hW : ((w.alloc (.cells #[.int .i64 a, .int .i64 b, .string c, .slice A3 ns.length c3, .slice A4 l.length c4] 25)).alloc (.cells #[.int .i64 a, .int .i64 b, .string c, .slice B3 ns.length d3, .slice B4 l.length d4] 25)) = W2 at HB HX HY HSZ ⊢
 clear hW
 have p3 := (blk_cell HX.out 3).trans rfl
 have p4 := (blk_cell HX.out 4).trans rfl
 have r3 := (blk_cell HY.out 3).trans rfl
 have r4 := (blk_cell HY.out 4).trans rfl
 go_wp2_with fail
 go_loopg [47] ns.length (fun gk i wr => ∃ k : Nat, k ≤ ns.length ∧ i = .int .i64 k ∧ Aside0 (k + gk = ns.length ∧ Below W2.heap.size W2 wr ∧ ∀ j, j < k → ns.getD j em = ns'.getD j em))
 case atStart => exact ⟨0, by omega, rfl, ⟨by omega, Below.refl _ _, fun j hj => by omega⟩⟩
 case round =>
  clear p3 p4 r3 r4
  obtain ⟨k, hk, rfl, HV⟩ := hrel
  obtain ⟨hkg, hb, he⟩ := HV.out
  have HBW := Aside0.mk hb
  have HN := Aside0.mk hkg
  have HE := Aside0.mk he
  have HXr := Aside0.mk ((hb.block w.heap.size (by have := HSZ.out; omega)).trans HX.out)
  have HYr := Aside0.mk ((hb.block (w.heap.size + 1) (by have := HSZ.out; omega)).trans HY.out)
  have HBr := Aside0.mk (below_then HB.out HB.out.size hb)
  clear HV hkg hb he
  have p3 := (blk_cell HXr.out 3).trans rfl
  have p4 := (blk_cell HXr.out 4).trans rfl
  have r3 := (blk_cell HYr.out 3).trans rfl
  have r4 := (blk_cell HYr.out 4).trans rfl
  by_cases hlt : k < ns.length
  ·obtain ⟨ad, hade, n1⟩ := Kd.at_string (Kd.C_below HA3.out HBr.out) (k : Int) (by omega) (by omega)
   obtain ⟨bd, hbde, n2⟩ := Kd.at_string (Kd.C_below HB3.out HBr.out) (k : Int) (by omega) (by omega)
   rw [Int.toNat_natCast, get_rdOf] at n1 n2
   obtain ⟨s, hs⟩ : ∃ s, s = ns.getD k em := ⟨_, rfl⟩
   obtain ⟨s', hs'⟩ : ∃ s, s = ns'.getD k em := ⟨_, rfl⟩
   rw [← hs] at n1
   rw [← hs'] at n2
   have HS := Aside0.mk (And.intro hs hs')
   subst hade
   subst hbde
   clear hs hs'
   by_cases hq : s = s'
   ·subst hq
    go_upto_region 6 with fail
    go_quiet (fail)
    go_wp2_with fail
    go_roundg (gk - 1)
    case measure => have := HN.out; omega
    case rel => exact ⟨k + 1, by omega, by go_num, ⟨by have := HN.out; omega, pw_below_drewN HBW.out _, fun j hj => by
     by_cases hjk : j = k
     ·rw [hjk, ← HS.out.1, ← HS.out.2]
     ·exact HE.out j (by omega)⟩⟩
   ·have hne : (s.toList == s'.toList) = false := by
     rw [beq_eq_false_iff_ne]
     exact fun h => hq ((toList_iff _ _).1 h)
    have HNE := Aside0.mk hq
    clear hq
    go_upto_region 6 with fail
    go_quiet (fail)
    go_wp2_with fail
    go_ret
    refine ⟨⟨false, rfl, ⟨fun h => absurd h (by decide), fun h => ?_⟩⟩, below_then HB.out HB.out.size (pw_below_drewN HBW.out _)⟩
    exact absurd (HS.out.1.trans ((congrArg (fun z => z.getD k em) h.1).trans HS.out.2.symm)) HNE.out
  ·have HNS := Aside0.mk (names_eq H3.out.symm (fun j hj => HE.out j (by omega)))
   clear HN HE
   go_wp2_with fail
   generalize hW3 : wr = W3 at HBW HXr HYr HBr p3 p4 r3 r4 ⊢
   clear hW3
   go_loopg [65] l.length (fun gk i wq => ∃ k : Nat, k ≤ l.length ∧ i = .int .i64 k ∧ Aside0 (k + gk = l.length ∧ Below W3.heap.size W3 wq ∧ ∀ j, j < k → l[j]? = l'[j]?))
   case atStart => exact ⟨0, by omega, rfl, ⟨by omega, Below.refl _ _, fun j hj => by omega⟩⟩
   case round =>
    clear p3 p4 r3 r4
    obtain ⟨k, hk, rfl, HV⟩ := hrel
    obtain ⟨hkg, hb, he⟩ := HV.out
    have HBQ := Aside0.mk hb
    have HN := Aside0.mk hkg
    have HE := Aside0.mk he
    have HXq := Aside0.mk ((hb.block w.heap.size (blk_lt HXr.out)).trans HXr.out)
    have HYq := Aside0.mk ((hb.block (w.heap.size + 1) (blk_lt HYr.out)).trans HYr.out)
    have HBt := Aside0.mk (below_then HBr.out HBr.out.size hb)
    clear HV hkg hb he
    have p3 := (blk_cell HXq.out 3).trans rfl
    have p4 := (blk_cell HXq.out 4).trans rfl
    have r3 := (blk_cell HYq.out 3).trans rfl
    have r4 := (blk_cell HYq.out 4).trans rfl
    by_cases hlq : k < l.length
    ·obtain ⟨ad, A3q, c3q, A4q, c4q, hA, a0, a1, a2, a3, a4, hl3, hC3, hl4, hC4⟩ := at_T25 HA4.out (k : Int) (by omega) (by omega)
     obtain ⟨bd, B3q, d3q, B4q, d4q, hB, b0, b1, b2, b3, b4, ml3, mC3, ml4, mC4⟩ := at_T25 HB4.out (k : Int) (by omega) (by omega)
     have hk4 : k < l'.length := by have := H4.out; omega
     rw [rd_getElem l k hlq, Int.toNat_natCast] at *
     rw [rd_getElem l' k hk4] at *
     obtain ⟨y, hy⟩ : ∃ y, y = l[k] := ⟨_, rfl⟩
     obtain ⟨z, hz⟩ : ∃ z, z = l'[k] := ⟨_, rfl⟩
     have HYM := Aside0.mk (show y ∈ l from hy ▸ List.getElem_mem hlq)
     have HYZ := Aside0.mk (And.intro (show l[k]? = some y by rw [List.getElem?_eq_getElem hlq, hy]) (show l'[k]? = some z by rw [List.getElem?_eq_getElem hk4, hz]))
     rw [← hy] at a0 a1 a2 a3 a4 hl3 hC3 hl4 hC4
     rw [← hz] at b0 b1 b2 b3 b4 ml3 mC3 ml4 mC4
     subst hA
     subst hB
     clear hy hz
     replace a0 := pw_cell_below HBt.out a0
     replace a1 := pw_cell_below HBt.out a1
     replace a2 := pw_cell_below HBt.out a2
     replace a3 := pw_cell_below HBt.out a3
     replace a4 := pw_cell_below HBt.out a4
     replace b0 := pw_cell_below HBt.out b0
     replace b1 := pw_cell_below HBt.out b1
     replace b2 := pw_cell_below HBt.out b2
     replace b3 := pw_cell_below HBt.out b3
     replace b4 := pw_cell_below HBt.out b4
     have HCS := Aside0.mk (IH.out y HYM.out z wr.drew A3q c3q A4q c4q B3q d3q B4q d4q hl3 (Kd.string.C_below hC3 HBt.out.drew) hl4 (k25.C_below hC4 HBt.out.drew) ml3 (Kd.string.C_below mC3 HBt.out.drew) ml4 (k25.C_below mC4 HBt.out.drew))
     have hlt2 : (k : Int) < (l.length : Int) := by omega
     clear hl3 hC3 hl4 hC4 ml3 mC3 ml4 mC4 hk4
     go_upto_region 12 with fail
     refine start_ (n := 12) (S := fun w' => w'.cell? ⟨w.heap.size, 4, none⟩ = some (.slice (some ad) l.length c4) ∧ w'.cell? ⟨w.heap.size + 1, 4, none⟩ = some (.slice (some bd) l.length d4) ∧ w'.cell? (ad.add (k * 5)) = some (.int .i64 y.f0) ∧ w'.cell? ⟨(ad.add (k * 5)).block, (ad.add (k * 5)).off + 1, none⟩ = some (.int .i64 y.f1) ∧ w'.cell? ⟨(ad.add (k * 5)).block, (ad.add (k * 5)).off + 2, none⟩ = some (.string y.f2) ∧ w'.cell? ⟨(ad.add (k * 5)).block, (ad.add (k * 5)).off + 3, none⟩ = some (.slice A3q y.f3.length c3q) ∧ w'.cell? ⟨(ad.add (k * 5)).block, (ad.add (k * 5)).off + 4, none⟩ = some (.slice A4q y.f4.length c4q) ∧ w'.cell? (bd.add (k * 5)) = some (.int .i64 z.f0) ∧ w'.cell? ⟨(bd.add (k * 5)).block, (bd.add (k * 5)).off + 1, none⟩ = some (.int .i64 z.f1) ∧ w'.cell? ⟨(bd.add (k * 5)).block, (bd.add (k * 5)).off + 2, none⟩ = some (.string z.f2) ∧ w'.cell? ⟨(bd.add (k * 5)).block, (bd.add (k * 5)).off + 3, none⟩ = some (.slice B3q z.f3.length d3q) ∧ w'.cell? ⟨(bd.add (k * 5)).block, (bd.add (k * 5)).off + 4, none⟩ = some (.slice B4q z.f4.length d4q)) (ds := []) #[false, false, false, false, false, false, false, false, false, false, false, false] (by kernel_rfl) rfl rfl ⟨cell_drew p4, cell_drew r4, cell_drew a0, cell_drew a1, cell_drew a2, cell_drew a3, cell_drew a4, cell_drew b0, cell_drew b1, cell_drew b2, cell_drew b3, cell_drew b4⟩ (fun hHeld => ?_)
     refine pure_ (i := 0) (N := some 68) (v := ?_) (a' := ?_) #[true, false, false, false, false, false, false, false, false, false, false, false] rfl rfl (by kernel_rfl) (fun _ _ _ h => h) (Or.inl ⟨by rfl, ?_⟩) ?_ ?_
     rotate_left
     ·intro w'
      go_simp
      with_reducible rfl
     rotate_left
     ·simp only [Act.put, List.setIfInBounds_toArray, List.set_cons_zero, List.set_cons_succ, i64_w, i32_w]
      rfl
     refine pure_ (i := 2) (N := some 70) (v := ?_) (a' := ?_) #[true, false, true, false, false, false, false, false, false, false, false, false] rfl rfl (by kernel_rfl) (fun _ _ _ h => h) (Or.inl ⟨by rfl, ?_⟩) ?_ ?_
     rotate_left
     ·intro w'
      go_simp
      with_reducible rfl
     rotate_left
     ·simp only [Act.put, List.setIfInBounds_toArray, List.set_cons_zero, List.set_cons_succ, i64_w, i32_w]
      rfl
     refine pure_ (i := 5) (N := some 73) (v := ?_) (a' := ?_) #[true, false, true, false, false, true, false, false, false, false, false, false] rfl rfl (by kernel_rfl) (fun _ _ _ h => h) (Or.inl ⟨by rfl, ?_⟩) ?_ ?_
     rotate_left
     ·intro w'
      go_simp
      with_reducible rfl
     rotate_left
     ·simp only [Act.put, List.setIfInBounds_toArray, List.set_cons_zero, List.set_cons_succ, i64_w, i32_w]
      rfl
     refine pure_ (i := 7) (N := some 75) (v := ?_) (a' := ?_) #[true, false, true, false, false, true, false, true, false, false, false, false] rfl rfl (by kernel_rfl) (fun _ _ _ h => h) (Or.inl ⟨by rfl, ?_⟩) ?_ ?_
     rotate_left
     ·intro w'
      go_simp
      with_reducible rfl
     rotate_left
     ·simp only [Act.put, List.setIfInBounds_toArray, List.set_cons_zero, List.set_cons_succ, i64_w, i32_w]
      rfl
     refine take_ (i := 1) (N := some 69) (v := ?_) (a' := ?_) #[true, true, true, false, false, true, false, true, false, false, false, false] rfl rfl (by kernel_rfl) (fun _ _ _ h => h) (Or.inl ⟨by rfl, ?_⟩) hHeld ?_ ?_
     rotate_left
     ·intro w' s0
      go_split_ands
      go_simp
      with_reducible rfl
     rotate_left
     ·simp only [Act.put, List.setIfInBounds_toArray, List.set_cons_zero, List.set_cons_succ, i64_w, i32_w]
      rfl
     refine pure_ (i := 3) (N := some 71) (v := ?_) (a' := ?_) #[true, true, true, true, false, true, false, true, false, false, false, false] rfl rfl (by kernel_rfl) (fun _ _ _ h => h) (Or.inl ⟨by rfl, ?_⟩) ?_ ?_
     rotate_left
     ·intro w'
      go_simp
      with_reducible rfl
     rotate_left
     ·simp only [Act.put, List.setIfInBounds_toArray, List.set_cons_zero, List.set_cons_succ, i64_w, i32_w]
      rfl
     refine take_ (i := 4) (N := some 72) (v := ?_) (a' := ?_) #[true, true, true, true, true, true, false, true, false, false, false, false] rfl rfl (by kernel_rfl) (fun _ _ _ h => h) (Or.inl ⟨by rfl, ?_⟩) hHeld ?_ ?_
     rotate_left
     ·intro w' s0
      go_split_ands
      go_simp
      with_reducible rfl
     rotate_left
     ·simp only [Act.put, List.setIfInBounds_toArray, List.set_cons_zero, List.set_cons_succ, i64_w, i32_w]
      rfl
     refine take_ (i := 6) (N := some 74) (v := ?_) (a' := ?_) #[true, true, true, true, true, true, true, true, false, false, false, false] rfl rfl (by kernel_rfl) (fun _ _ _ h => h) (Or.inl ⟨by rfl, ?_⟩) hHeld ?_ ?_
     rotate_left
     ·intro w' s0
      go_split_ands
      go_simp
      with_reducible rfl
     rotate_left
     ·simp only [Act.put, List.setIfInBounds_toArray, List.set_cons_zero, List.set_cons_succ, i64_w, i32_w]
      rfl
     refine pure_ (i := 8) (N := some 76) (v := ?_) (a' := ?_) #[true, true, true, true, true, true, true, true, true, false, false, false] rfl rfl (by kernel_rfl) (fun _ _ _ h => h) (Or.inl ⟨by rfl, ?_⟩) ?_ ?_
     rotate_left
     ·intro w'
      go_simp
      with_reducible rfl
     rotate_left
     ·simp only [Act.put, List.setIfInBounds_toArray, List.set_cons_zero, List.set_cons_succ, i64_w, i32_w]
      rfl
     refine take_ (i := 9) (N := some 77) (v := ?_) (a' := ?_) #[true, true, true, true, true, true, true, true, true, true, false, false] rfl rfl (by kernel_rfl) (fun _ _ _ h => h) (Or.inl ⟨by rfl, ?_⟩) hHeld ?_ ?_
     rotate_left
     ·intro w' s0
      go_split_ands
      go_simp
      with_reducible rfl
     rotate_left
     ·simp only [Act.put, List.setIfInBounds_toArray, List.set_cons_zero, List.set_cons_succ, i64_w, i32_w]
      rfl
     refine one_ (i := 10) (N := some 78) #[true, true, true, true, true, true, true, true, true, true, true, false] rfl rfl (by kernel_rfl) (by decide) (fun K hK => ?_)
     refine goes_ Tryz.func11 (by kernel_rfl) rfl #[aggD y A3q c3q A4q c4q, aggD z B3q d3q B4q d4q] (by rfl) rfl rfl (by (try simp only [List.map_toArray, List.map_cons, List.map_nil]); first | done | rfl) ?_
     refine HCS.out.mono ?_
     rintro e w' ⟨⟨q, rfl, hq⟩, hb5⟩
     have HQ := Aside0.mk hq
     have HB5 := Aside0.mk hb5
     refine ⟨_, rfl, ?_⟩
     refine hK.out _ _ ⟨pw_cell_below hb5 (cell_drew p4), pw_cell_below hb5 (cell_drew r4), pw_cell_below hb5 (cell_drew a0), pw_cell_below hb5 (cell_drew a1), pw_cell_below hb5 (cell_drew a2), pw_cell_below hb5 (cell_drew a3), pw_cell_below hb5 (cell_drew a4), pw_cell_below hb5 (cell_drew b0), pw_cell_below hb5 (cell_drew b1), pw_cell_below hb5 (cell_drew b2), pw_cell_below hb5 (cell_drew b3), pw_cell_below hb5 (cell_drew b4)⟩ (fun hHeld => ?_)
     clear hK K hq hb5
     refine norm_ (a' := ?_) ?_ ?_
     rotate_left
     ·show Act.put _ (some 78) _ = _
      simp only [Act.put, List.setIfInBounds_toArray, List.set_cons_zero, List.set_cons_succ, i64_w, i32_w]
      rfl
     refine pure_ (i := 11) (N := some 79) (v := ?_) (a' := ?_) #[true, true, true, true, true, true, true, true, true, true, true, true] rfl rfl (by kernel_rfl) (fun _ _ _ h => h) (Or.inl ⟨by rfl, ?_⟩) ?_ ?_
     rotate_left
     ·intro w'
      go_simp
      with_reducible rfl
     rotate_left
     ·simp only [Act.put, List.setIfInBounds_toArray, List.set_cons_zero, List.set_cons_succ, i64_w, i32_w]
      rfl
     refine done_ (by kernel_rfl) ?_
     cases q with
     | false =>
      go_wp2_with fail
      go_ret
      refine ⟨⟨false, rfl, ⟨fun h => absurd h (by decide), fun h => ?_⟩⟩, below_then HBt.out.drew HBt.out.size HB5.out⟩
      have h2 := HYZ.out.1
      rw [h.2, HYZ.out.2] at h2
      injection h2 with h2
      exact HQ.out.2 h2.symm
     | true =>
      go_wp2_with fail
      go_roundg (gk - 1)
      case measure => have := HN.out; omega
      case rel => exact ⟨k + 1, by omega, by go_num, ⟨by have := HN.out; omega, below_then HBQ.out.drew HBQ.out.size HB5.out, fun j hj => by
       by_cases hjk : j = k
       ·rw [hjk, HYZ.out.1, HYZ.out.2, HQ.out.1 (by first | rfl | trivial)]
       ·exact HE.out j (by omega)⟩⟩
    ·have HLL := Aside0.mk (List.ext_getElem? (l₁ := l) (l₂ := l') (fun j => by
      rcases Nat.lt_or_ge j k with hj | hj
      ·exact HE.out j hj
      ·rw [List.getElem?_eq_none (by omega), List.getElem?_eq_none (by have := H4.out; omega)]))
     go_wp2_with fail
     go_ret
     exact ⟨⟨true, rfl, ⟨fun _ => ⟨HNS.out, HLL.out⟩, fun _ => rfl⟩⟩, HBt.out⟩
set_option maxHeartbeats 8000000 in
theorem same_c1 (x : DT) (hx : OkD x) : sameC x := by
 induction hx with
 | mk x h0 h1 h2 n3 h3 n4 h4 ih =>
  intro y w A3 c3 A4 c4 B3 d3 B4 d4 lA3 gA3 lA4 gA4 lB3 gB3 lB4 gB4
  rcases x with ⟨a, b, c, ns, l⟩
  rcases y with ⟨a', b', c', ns', l'⟩
  simp only at n3 n4 ih lA3 gA3 lA4 gA4 lB3 gB3 lB4 gB4
  simp only [aggD]
  by_cases h : a = a' ∧ b = b' ∧ c = c' ∧ ns'.length = ns.length ∧ l'.length = l.length
  ·obtain ⟨rfl, rfl, rfl, e3, e4⟩ := h
   rw [e3] at lB3 gB3 ⊢
   rw [e4] at lB4 gB4 ⊢
   refine (same_step a b c ns l n3 n4 ih ns' l' e3 e4 w A3 c3 A4 c4 B3 d3 B4 d4 lA3 gA3 lA4 gA4 lB3 gB3 lB4 gB4).mono ?_
   rintro e w' ⟨⟨q, rfl, hq⟩, hb⟩
   refine ⟨⟨q, rfl, hq.trans ⟨fun h => by rw [h.1, h.2], fun h => by injection h with _ _ _ h5 h6; exact ⟨h5, h6⟩⟩⟩, hb⟩
  ·have HN := Aside0.mk h
   have hc := toList_iff c c'
   have HC := Aside0.mk hc
   have HB := Aside0.mk (below_alloc (below_alloc (Below.refl w.heap.size w) (zBox a b c ns l A3 c3 A4 c4)) (zBox a' b' c' ns' l' B3 d3 B4 d4))
   have HX := Aside0.mk (two_old_ w (zBox a b c ns l A3 c3 A4 c4) (zBox a' b' c' ns' l' B3 d3 B4 d4))
   have HY := Aside0.mk (two_new_ w (zBox a b c ns l A3 c3 A4 c4) (zBox a' b' c' ns' l' B3 d3 B4 d4))
   clear h hc gA3 gA4 gB3 gB4 ih
   have HF : Calls Tryz.prog 11 #[.agg #[.int .i64 a, .int .i64 b, .string c, .slice A3 ns.length c3, .slice A4 l.length c4], .agg #[.int .i64 a', .int .i64 b', .string c', .slice B3 ns'.length d3, .slice B4 l'.length d4]] w fun e w' => e = .returned (.bool false) ∧ Below w.heap.size w w' := by
    go_enter Tryz.func11, Tryz.ntmps11
    go_upto_region 1 with fail
    go_wp2_with fail
    all_goals (try (go_ret; exact ⟨rfl, below_alloc (below_alloc (Below.refl _ _) _) _⟩; done))
    all_goals exfalso
    all_goals have e4 : (ns.length : Int) = (ns'.length : Int) := by assumption
    all_goals have e5 : ((l.length : Int) != (l'.length : Int)) = false := by assumption
    all_goals have e6 : (l.length : Int) = (l'.length : Int) := by simpa using e5
    all_goals exact HN.out ⟨by assumption, by assumption, HC.out.1 (by assumption), by omega, by omega⟩
   refine HF.mono ?_
   rintro e w' ⟨rfl, hb⟩
   refine ⟨⟨false, rfl, ⟨fun h => absurd h (by decide), fun h => ?_⟩⟩, hb⟩
   injection h with h1 h2 h3 h4 h5
   exact absurd ⟨h1, h2, h3, by rw [h4], by rw [h5]⟩ HN.out
end Go.Proofs.YtidcecpbihmloaaGreatDoorE

namespace Go.Proofs.YtidcecpbihmloaaGreatDoorE
open Go Go.RowKit Go.Proofs.YtidcecpbihmloaaGreatDoorW.PrintWords Go.Proofs.YtidcecpbihmloaaGreatDoorW.PrintMore Go.Proofs.YtidcecpbihmloaaGreatDoorW.PrintLast Go.Proofs.YtidcecpbihmloaaGreatDoorX Go.Proofs.YtidcecpbihmloaaGreatDoor.P16 Go.Proofs.YtidcecpbihmloaaGreatDoor.M02
set_option linter.unusedVariables false
set_option linter.unusedSimpArgs false
set_option maxRecDepth 100000
/-- Two pieces that lie in memory, compared. -/
theorem Same_c (x y : DT) (hx : OkD x) (q : Bool) (hq : q = true ↔ x = y) (w : World) (hgl : GL w) (A3 : Option Addr) (c3 : Nat) (A4 : Option Addr) (c4 : Nat) (l3 : x.f3.length ≤ c3) (g3 : Kd.string.C w A3 x.f3.length x.f3) (l4 : x.f4.length ≤ c4) (g4 : k25.C w A4 x.f4.length x.f4) (B3 : Option Addr) (e3 : Nat) (B4 : Option Addr) (e4 : Nat) (m3 : y.f3.length ≤ e3) (i3 : Kd.string.C w B3 y.f3.length y.f3) (m4 : y.f4.length ≤ e4) (i4 : k25.C w B4 y.f4.length y.f4) :
  Calls Tryz.prog 11 #[aggD x A3 c3 A4 c4, aggD y B3 e3 B4 e4] w fun e w' => e = .returned (.bool q) ∧ Below w.heap.size w w' := by
 refine (same_c1 x hx y w A3 c3 A4 c4 B3 e3 B4 e4 l3 g3 l4 g4 m3 i3 m4 i4).mono ?_
 rintro e w' ⟨⟨p, rfl, hp⟩, hb⟩
 obtain rfl : p = q := by
  cases p <;> cases q
  ·rfl
  ·exact absurd (hp.2 (hq.1 rfl)) (by decide)
  ·exact absurd (hq.2 (hp.1 rfl)) (by decide)
  ·rfl
 exact ⟨rfl, hb⟩
end Go.Proofs.YtidcecpbihmloaaGreatDoorE

namespace Go.Proofs.YtidcecpbihmloaaGreatDoorE
open Go Go.RowKit Go.Proofs.YtidcecpbihmloaaGreatDoorW.PrintWords Go.Proofs.YtidcecpbihmloaaGreatDoorW.PrintMore Go.Proofs.YtidcecpbihmloaaGreatDoorW.PrintLast Go.Proofs.YtidcecpbihmloaaGreatDoorX Go.Proofs.YtidcecpbihmloaaGreatDoor.P16 Go.Proofs.YtidcecpbihmloaaGreatDoor.M02
set_option linter.unusedVariables false
set_option linter.unusedSimpArgs false
set_option maxRecDepth 100000
def fewC (x : DT) : Prop := ∀ (L op : Int) (w : World) (A3 : Option Addr) (c3 : Nat) (A4 : Option Addr) (c4 : Nat), x.f4.length ≤ c4 → k25.C w A4 x.f4.length x.f4 →
 Calls Tryz.prog 19 #[aggD x A3 c3 A4 c4, .int .i64 L, .int .i64 op] w fun e w' => (∃ r : Int, e = .returned (.int .i64 r)) ∧ Below w.heap.size w w'
set_option maxHeartbeats 8000000 in
theorem few_step (x : DT) (n4 : x.f4.length ≤ 140737488351232) (ih : ∀ y ∈ x.f4, fewC y) : fewC x := by
 intro L op w A3 c3 A4 c4 l4 g4
 have HB := Aside0.mk (below_alloc (Below.refl w.heap.size w) (xBox x A3 c3 A4 c4))
 have HX := Aside0.mk (heap_alloc_new w (xBox x A3 c3 A4 c4))
 have H4 := Aside0.mk g4
 have IH := Aside0.mk ih
 have hn4 := n4
 clear g4 ih n4
 go_enter Tryz.func19, Tryz.ntmps19
 go_upto_region 1 with fail
 generalize hW : w.alloc (.cells #[.int .i64 x.f0, .int .i64 x.f1, .string x.f2, .slice A3 x.f3.length c3, .slice A4 x.f4.length c4] 25) = W at HB HX ⊢
 clear hW
 have p2 := (blk_cell HX.out 2).trans rfl
 have p3 := (blk_cell HX.out 3).trans rfl
 have p4 := (blk_cell HX.out 4).trans rfl
 go_wp2_with fail
 all_goals first | (go_ret; exact ⟨⟨_, rfl⟩, HB.out⟩) | skip
 go_loopg [1, 28] x.f4.length (fun gq v1 i wq => ∃ (q : Nat) (r : Int), q ≤ x.f4.length ∧ v1 = .int .i64 r ∧ i = .int .i64 q ∧ Aside0 (q + gq = x.f4.length ∧ Below W.heap.size W wq))
 case atStart => exact ⟨0, _, by omega, rfl, rfl, ⟨by omega, Below.refl _ _⟩⟩
 case round =>
  clear p2 p3 p4
  obtain ⟨q, r, hq, rfl, rfl, HQ⟩ := hrel
  obtain ⟨hqn, hb⟩ := HQ.out
  have HN := Aside0.mk hqn
  have HBQ := Aside0.mk hb
  have HBT := Aside0.mk (below_then HB.out HB.out.size hb)
  have HXq := Aside0.mk ((hb.block w.heap.size (blk_lt HX.out)).trans HX.out)
  have p4 := (blk_cell HXq.out 4).trans rfl
  clear HQ hqn hb
  by_cases hqlt : q < x.f4.length
  ·obtain ⟨ad, A3q, c3q, A4q, c4q, hA, a0, a1, a2, a3, a4, hl3, hC3, hl4, hC4⟩ := at_T25 H4.out (q : Int) (by omega) (by omega)
   subst hA
   rw [Int.toNat_natCast] at a0 a1 a2 a3 a4
   replace a0 := pw_cell_below HBT.out a0
   replace a1 := pw_cell_below HBT.out a1
   replace a2 := pw_cell_below HBT.out a2
   replace a3 := pw_cell_below HBT.out a3
   replace a4 := pw_cell_below HBT.out a4
   obtain ⟨y, hy⟩ : ∃ y, y = rd_T25 x.f4 (q : Int) := ⟨_, rfl⟩
   rw [← hy] at a0 a1 a2 a3 a4 hl3 hC3 hl4 hC4
   have HY := Aside0.mk (rd_take x.f4 q hqlt)
   rw [← hy] at HY
   clear hy
   have CY := Aside0.mk (IH.out y HY.out.1 r (wrap64 (op + 1)) wr A3q c3q A4q c4q hl4 (k25.C_below hC4 HBT.out))
   clear hl3 hC3 hl4 hC4
   go_wp2_with (go_at_call 19; go_loud (with_reducible refine CY.out.mono ?_); rintro e w4 ⟨⟨r', rfl⟩, hb4⟩; have HBZ := Aside0.mk hb4; clear hb4)
   all_goals first | (go_ret; exact ⟨⟨_, rfl⟩, below_then HBT.out HBT.out.size HBZ.out⟩) | skip
   go_roundg (gk - 1)
   case measure => have := HN.out; omega
   case rel => exact ⟨q + 1, _, by omega, rfl, by go_num, ⟨by have := HN.out; omega, below_then HBQ.out HBQ.out.size HBZ.out⟩⟩
  ·go_wp2_with fail
   go_ret
   exact ⟨⟨_, rfl⟩, HBT.out⟩
theorem few_c (x : DT) (hx : OkD x) : fewC x := by
 induction hx with
 | mk x h0 h1 h2 n3 h3 n4 h4 ih => exact few_step x n4 ih
set_option maxHeartbeats 4000000 in
theorem Few_c (x : DT) (hx : OkD x) (m : Int) (w : World) (A3 : Option Addr) (c3 : Nat) (A4 : Option Addr) (c4 : Nat) (l4 : x.f4.length ≤ c4) (g4 : k25.C w A4 x.f4.length x.f4) :
  Calls Tryz.prog 7 #[aggD x A3 c3 A4 c4, .int .i64 m] w fun e w' => (∃ q : Bool, e = .returned (.bool q)) ∧ Below w.heap.size w w' := by
 have HB := Aside0.mk (below_alloc (Below.refl w.heap.size w) (xBox x A3 c3 A4 c4))
 have CW := Aside0.mk (few_c x hx m 0 _ A3 c3 A4 c4 l4 (k25.C_below g4 HB.out))
 clear g4 hx
 go_enter Tryz.func7, Tryz.ntmps7
 go_wp2_with (go_at_call 19; go_loud (with_reducible refine CW.out.mono ?_); rintro e w1 ⟨⟨r, rfl⟩, hb⟩; have HB1 := Aside0.mk (below_then HB.out HB.out.size hb); clear hb)
 go_ret
 exact ⟨⟨_, rfl⟩, HB1.out⟩
end Go.Proofs.YtidcecpbihmloaaGreatDoorE

namespace Go.Proofs.YtidcecpbihmloaaGreatDoorE
open Go Go.RowKit Go.ChangeShapes Go.WideShapes Go.Proofs.YtidcecpbihmloaaGreatDoorW.PrintWords
set_option linter.unusedVariables false
set_option linter.unusedSimpArgs false
namespace Op
/-- The weights of a piece of data are in reach. -/
def Sz {H : Type} (P : Program) (t : TypeId) (d : DataW H) : Prop := ∀ n ∈ d.weights P t, n ≤ 140737488351232
def SzEach {H : Type} (P : Program) (ts : List TypeId) (ds : List (DataW H)) : Prop := ∀ n ∈ DataW.weightsEach P ts ds, n ≤ 140737488351232
/-- What reads at type t with so much fuel is a value of kind d, of which ok holds. -/
def At {α : Type} (P : Program) (fuel : Nat) (t : TypeId) (d : Kd α) (ok : α → Prop) : Prop :=
 ∀ (H : Type) (enc : TypeId × Value → H) (w : World) (base : Nat) (spare : Nat → Bool) (held : Bool) (cs : List Value) (x : DataW H × List MemPlace), DataW.trod enc P w base spare held fuel t cs = some x → Sz P t x.1 → ∃ a, d.K w a cs ∧ ok a
/-- Fields one behind the other. -/
def Fields {β : Type} (P : Program) (fuel : Nat) (ts : List TypeId) (d : Kd β) (ok : β → Prop) : Prop :=
 ∀ (H : Type) (enc : TypeId × Value → H) (w : World) (base : Nat) (spare : Nat → Bool) (held : Bool) (cs : List Value) (xs : List (DataW H × List MemPlace)), cs.length = (ts.map P.cellsOf).sum → xs.length = ts.length →
  (∀ (i : Nat) (t : TypeId), ts[i]? = some t → DataW.trod enc P w base spare held fuel t ((cs.drop ((ts.take i).map P.cellsOf).sum).take (P.cellsOf t)) = xs[i]?) → SzEach P ts (xs.map (·.1)) → ∃ a, d.K w a cs ∧ ok a
theorem string {P : Program} {fuel : Nat} {t : TypeId} (hu : P.underlying t = some .string) : At P fuel t Kd.string (fun s => s.size ≤ 140737488351232) := by
 intro H enc w base spare held cs x h hs
 obtain ⟨s, h1, rfl, -⟩ : ∃ s : ByteArray, x = (.lit (.string s.data.toList), []) ∧ cs = [.string s] ∧ True := by
  cases fuel with
  | zero => simp [DataW.trod] at h
  | succ n =>
   unfold DataW.trod at h
   rw [hu] at h
   split at h <;> simp_all
 subst h1
 refine ⟨s, rfl, ?_⟩
 have := hs s.data.toList.length (by simp [DataW.weights])
 rw [Array.length_toList] at this
 exact this
theorem int {P : Program} {fuel : Nat} {t : TypeId} {k : IntKind} (hu : P.underlying t = some (.int k)) : At P fuel t (Kd.int k) (fun a => (Lit.int k a).wf = true) := by
 intro H enc w base spare held cs x h hs
 obtain ⟨a, rfl, h1⟩ : ∃ a : Int, cs = [.int k a] ∧ (Lit.int k a).wf = true := by
  cases fuel with
  | zero => simp [DataW.trod] at h
  | succ n =>
   unfold DataW.trod at h
   rw [hu] at h
   split at h <;> simp_all
 exact ⟨a, rfl, h1⟩
theorem zero {α : Type} {P : Program} {t : TypeId} {d : Kd α} {ok : α → Prop} : At P 0 t d ok := by
 intro H enc w base spare held cs x h hs
 simp [DataW.trod] at h
theorem one {α : Type} {P : Program} {fuel : Nat} {t : TypeId} {d : Kd α} {ok : α → Prop} (h : At P fuel t d ok) : Fields P fuel [t] d ok := by
 intro H enc w base spare held cs xs hl hx hr hs
 have h0 := hr 0 t rfl
 simp only [List.map_cons, List.map_nil, List.sum_cons, List.sum_nil, Nat.add_zero] at hl
 simp only [List.take_zero, List.map_nil, List.sum_nil, List.drop_zero] at h0
 rw [← hl, List.take_length] at h0
 cases xs with
 | nil => simp at hx
 | cons x xs =>
  refine h H enc w base spare held cs x (by rw [h0]; rfl) (fun n hn => hs n ?_)
  simp [DataW.weightsEach]
  exact hn
theorem cons {α β : Type} {P : Program} {fuel : Nat} {t : TypeId} {ts : List TypeId} {d : Kd α} {ok : α → Prop} {d' : Kd β} {ok' : β → Prop} (h : At P fuel t d ok) (h' : Fields P fuel ts d' ok') :
  Fields P fuel (t :: ts) (Kd.pair d d') (fun x => ok x.1 ∧ ok' x.2) := by
 intro H enc w base spare held cs xs hl hx hr hs
 have h0 := hr 0 t rfl
 simp only [List.map_cons, List.sum_cons] at hl
 simp only [List.take_zero, List.map_nil, List.sum_nil, List.drop_zero] at h0
 cases xs with
 | nil => simp at hx
 | cons x xs =>
  obtain ⟨a, ha, oa⟩ := h H enc w base spare held (cs.take (P.cellsOf t)) x (by rw [h0]; rfl) (fun n hn => hs n (by simp [DataW.weightsEach]; exact Or.inl hn))
  obtain ⟨b, hb, ob⟩ := h' H enc w base spare held (cs.drop (P.cellsOf t)) xs (by rw [List.length_drop]; omega) (by simpa using hx) (fun i t' ht => by
   have := hr (i + 1) t' (by simpa using ht)
   rw [List.take_succ_cons, List.map_cons, List.sum_cons, ← List.drop_drop] at this
   rw [this]
   rfl) (fun n hn => hs n (by simp [DataW.weightsEach]; exact Or.inr hn))
  exact ⟨(a, b), ⟨_, _, (List.take_append_drop _ _).symm, ha, hb⟩, oa, ob⟩
theorem iso {α β : Type} {P : Program} {fuel : Nat} {ts : List TypeId} {d : Kd α} {ok : α → Prop} (f : β → α) (g : α → β) (hg : ∀ a, f (g a) = a) (h : Fields P fuel ts d ok) : Fields P fuel ts (Kd.iso d f) (fun b => ok (f b)) := by
 intro H enc w base spare held cs xs hl hx hr hs
 obtain ⟨a, ha, oa⟩ := h H enc w base spare held cs xs hl hx hr hs
 exact ⟨g a, show d.K w (f (g a)) cs by rw [hg]; exact ha, show ok (f (g a)) by rw [hg]; exact oa⟩
theorem struct {β : Type} {P : Program} {fuel : Nat} {t : TypeId} {fs : Array Field} {d : Kd β} {ok : β → Prop} (hu : P.underlying t = some (.struct fs)) (hc : P.cellsOf t = ((fs.toList.map (·.type)).map P.cellsOf).sum)
  (ho : ∀ i : Nat, ∀ f, fs[i]? = some f → f.offset = (((fs.toList.map (·.type)).take i).map P.cellsOf).sum) (h : Fields P fuel (fs.toList.map (·.type)) d ok) : At P (fuel + 1) t d ok := by
 intro H enc w base spare held cs x hr hs
 obtain ⟨xs, n, hn, rfl, hl, hx, hf⟩ := DataW.trod_struct hu hr
 obtain rfl : fuel = n := by omega
 refine h H enc w base spare held cs xs (by rw [hl, hc]) (by rw [hx, List.length_map, Array.length_toList]) (fun i t' ht => ?_) (fun n hn => hs n ?_)
 ·rw [List.getElem?_map] at ht
  obtain ⟨f, hf1, rfl⟩ := Option.map_eq_some_iff.1 ht
  rw [Array.getElem?_toList] at hf1
  rw [← hf i f hf1, ho i f hf1]
 ·show n ∈ DataW.weights P t (.agg (xs.map (·.1)))
  unfold DataW.weights
  simp only [hu]
  exact hn
theorem weightsAll_mem {H : Type} {P : Program} {e : TypeId} : ∀ {l : List (DataW H)} {d : DataW H}, d ∈ l → ∀ n ∈ d.weights P e, n ∈ DataW.weightsAll P e l
 | _ :: _, _, hd, n, hn => by
  rcases List.mem_cons.1 hd with rfl | hd
  ·simp [DataW.weightsAll]; exact Or.inl hn
  ·simp [DataW.weightsAll]; exact Or.inr (weightsAll_mem hd n hn)
theorem slice {α : Type} {P : Program} {fuel : Nat} {t e : TypeId} {d : Kd α} {ok : α → Prop} (hu : P.underlying t = some (.slice e)) (hz : d.sz = P.cellsOf e) (h : At P fuel e d ok) :
  At P (fuel + 1) t (Kd.slice e d) (fun xs => xs.length * P.bytesOf e ≤ 140737488351232 ∧ xs.length ≤ maxLen ∧ ∀ x ∈ xs, ok x) := by
 intro H enc w base spare held cs x hr hs
 rcases DataW.trod_slice hu hr with ⟨rfl, rfl⟩ | ⟨a, len, cap, elems, rest, n, hn, rfl, rfl, hb, hl, hm, hlen, hel, -, -⟩
 ·exact ⟨[], ⟨none, 0, rfl, Nat.le_refl _, Kd.C_nil d w⟩, by simp, by simp, fun x hx => by cases hx⟩
 ·obtain rfl : fuel = n := by omega
  have key : ∀ i, i < len → ∃ c y, w.cells? base (a.add (i * P.cellsOf e)) (P.cellsOf e) = some c ∧ d.K w y c ∧ ok y := by
   intro i hi
   have h1 := hel i hi
   rw [List.getElem?_eq_getElem (by omega)] at h1
   obtain ⟨c, hc1, hc2⟩ := Option.bind_eq_some_iff.1 h1
   obtain ⟨y, hy1, hy2⟩ := h H enc w base spare held c _ hc2 (fun n hn => hs n (by
    show n ∈ DataW.weights P t (.slice (elems.map (·.1)) (rest.map (·.1)))
    unfold DataW.weights
    simp only [hu]
    exact List.mem_cons_of_mem _ (List.mem_append.2 (Or.inl (weightsAll_mem (List.mem_map_of_mem (List.getElem_mem (by omega))) n hn)))))
   exact ⟨c, y, hc1, hy1, hy2⟩
  have build : ∀ m, m ≤ len → ∃ xs : List α, xs.length = m ∧ ∀ i y, xs[i]? = some y → ok y ∧ ∃ c, w.cells? base (a.add (i * P.cellsOf e)) (P.cellsOf e) = some c ∧ d.K w y c := by
   intro m
   induction m with
   | zero => exact fun _ => ⟨[], rfl, fun i y hy => by simp at hy⟩
   | succ m ih =>
    intro hm
    obtain ⟨xs, hx1, hx2⟩ := ih (by omega)
    obtain ⟨c, y, h1, h2, h3⟩ := key m (by omega)
    refine ⟨xs ++ [y], by simp [hx1], fun i z hz => ?_⟩
    rcases Nat.lt_or_ge i xs.length with hlt | hge
    ·rw [List.getElem?_append_left hlt] at hz
     exact hx2 i z hz
    ·have hi : i = m := by
      have := (List.getElem?_eq_some_iff.1 hz).1
      simp at this; omega
     subst hi
     rw [List.getElem?_append_right hge, hx1, Nat.sub_self] at hz
     obtain rfl : y = z := by simpa using hz
     exact ⟨h3, c, h1, h2⟩
  obtain ⟨xs, hx1, hx2⟩ := build len (Nat.le_refl _)
  have hw := hs ((elems.length + rest.length) * P.bytesOf e) (by
   show _ ∈ DataW.weights P t (.slice (elems.map (·.1)) (rest.map (·.1)))
   unfold DataW.weights
   simp only [hu]
   rw [List.length_map, List.length_map]
   exact List.mem_cons_self)
  refine ⟨xs, ⟨some a, cap, by rw [hx1], by omega, hx1.symm ▸ rfl, by unfold maxLen at hm; omega, fun _ => ⟨a, rfl, fun j p hp => ?_⟩⟩, ?_, by omega, fun x hx => ?_⟩
  ·obtain ⟨-, c, hc1, hc2⟩ := hx2 j p hp
   obtain ⟨-, hcl, hcc⟩ := World.cells?_some hc1
   refine ⟨c, by rw [hcl, hz], hc2, fun i u hu2 => ?_⟩
   have hi := (List.getElem?_eq_some_iff.1 hu2).1
   have := hcc i (by omega)
   rw [hu2, add_add] at this
   rw [hz]
   exact this
  ·exact Nat.le_trans (Nat.mul_le_mul_right _ (by omega)) hw
  ·obtain ⟨i, hi, rfl⟩ := List.getElem_of_mem hx
   exact (hx2 i _ (List.getElem?_eq_getElem hi)).1
theorem mono {α : Type} {P : Program} {fuel : Nat} {t : TypeId} {d d' : Kd α} {ok ok' : α → Prop} (h : At P fuel t d ok) (hk : ∀ w a cs, d.K w a cs → d'.K w a cs) (ho : ∀ a, ok a → ok' a) : At P fuel t d' ok' := by
 intro H enc w base spare held cs x hr hs
 obtain ⟨a, ha, oa⟩ := h H enc w base spare held cs x hr hs
 exact ⟨a, hk _ _ _ ha, ho a oa⟩
/-- A slice that came in, opened. -/
theorem arg {α : Type} {P : Program} {fuel : Nat} {t e : TypeId} {d : Kd α} {ok : List α → Prop} (h : At P fuel t (Kd.slice e d) ok) {H : Type} {enc : TypeId × Value → H} {w : World} {base : Nat} {spare : Nat → Bool} {held : Bool} {A : Option Addr} {n c : Nat} {x : DataW H × List MemPlace}
  (hr : DataW.trod enc P w base spare held fuel t (Value.slice A n c).cells.toList = some x) (hs : Sz P t x.1) : ∃ l : List α, n = l.length ∧ n ≤ c ∧ d.C w A l.length l ∧ ok l := by
 obtain ⟨l, ⟨A', c', he, hl, hC⟩, ho⟩ := h H enc w base spare held _ x hr hs
 have he' : [Value.slice A n c] = [Value.slice A' l.length c'] := he
 injection he' with he' _
 injection he' with h1 h2 h3
 subst h1 h3
 exact ⟨l, h2, by omega, hC, ho⟩
end Op
end Go.Proofs.YtidcecpbihmloaaGreatDoorE
