/- wire: what New, Num, Text, Bytes, Len, Read and the reader's methods do, over a writer or a reader of the call's own. -/
import Derived.Test.YtfpijjjmgggfkaaX01x5
import Derived.Test.YtfpijjjmgggfkaaL01b
import Derived.Test.YtfpijjjmgggfkaaWMore
import Derived.Lib.FrozenHead
import Derived.Laws.Externs
import Derived.KernelRfl
namespace Go.Proofs.YtfpijjjmgggfkaaE
open Go Go.RowKit Go.Proofs.YtfpijjjmgggfkaaW.PrintWords Go.Proofs.Ytfpijjjmgggfkaa.P01 Go.Proofs.Ytfpijjjmgggfkaa.L01
set_option linter.unusedVariables false
/-- All but the blocks of S stay as they are. -/
structure But (S : Nat → Prop) (w w' : World) : Prop where
  os : w'.os = w.os
  tape : w'.tape = w.tape
  output : w'.output = w.output
  size : w.heap.size ≤ w'.heap.size
  block : ∀ k, k < w.heap.size → ¬ S k → w'.heap[k]? = w.heap[k]?
namespace But
variable {S S2 : Nat → Prop} {w w1 w2 : World}
theorem refl (S : Nat → Prop) (w : World) : But S w w := ⟨rfl, rfl, rfl, Nat.le_refl _, fun _ _ _ => rfl⟩
theorem mono (h : But S w w1) (hs : ∀ k, S k → S2 k) : But S2 w w1 := ⟨h.os, h.tape, h.output, h.size, fun k hk hn => h.block k hk (fun x => hn (hs k x))⟩
theorem trans (h : But S w w1) (k : But S2 w1 w2) (hs : ∀ k, S2 k → S k ∨ w.heap.size ≤ k) : But S w w2 :=
  ⟨k.os.trans h.os, k.tape.trans h.tape, k.output.trans h.output, Nat.le_trans h.size k.size, fun i hi hn => (k.block i (Nat.lt_of_lt_of_le hi h.size) (fun x => (hs i x).elim hn (fun y => absurd hi (by omega)))).trans (h.block i hi hn)⟩
theorem then_ (h : But S w w1) (k : But S w1 w2) : But S w w2 := h.trans k (fun _ => .inl)
theorem below (h : But S w w1) (k : Below w1.heap.size w1 w2) : But S w w2 :=
  ⟨k.os.trans h.os, k.tape.trans h.tape, k.output.trans h.output, Nat.le_trans h.size k.size, fun i hi hn => (k.block i (Nat.lt_of_lt_of_le hi h.size)).trans (h.block i hi hn)⟩
theorem of_below (k : Below w.heap.size w w1) : But S w w1 := (refl S w).below k
theorem drawn (h : But S w w1) (k : Drawn0 w1 w2) : But S w w2 := by
  obtain ⟨n, rfl⟩ := k.out
  exact h.below (pw_below_drewN (Below.refl _ _) n)
theorem toBelow (h : But S w w1) {B : Nat} (hB : B ≤ w.heap.size) (hs : ∀ k, S k → B ≤ k) : Below B w w1 := ⟨h.os, h.tape, h.output, h.size, fun k hk => h.block k (Nat.lt_of_lt_of_le hk hB) (fun x => absurd (hs k x) (by omega))⟩
theorem setCell (h : But S w w1) {p : Addr} (hp : S p.block ∨ w.heap.size ≤ p.block) (u : Value) : But S w (w1.setCell p u) :=
  ⟨h.os, h.tape, h.output, by simpa [World.setCell] using h.size, fun k hk hn => (Below.heap_setCell w1 p u k (fun e => hp.elim (fun x => hn (e ▸ x)) (fun x => absurd hk (by omega)))).trans (h.block k hk hn)⟩
theorem alloc (h : But S w w1) (o : Obj) : But S w (w1.alloc o) := h.below (below_alloc (Below.refl _ _) o)
theorem drew (h : But S w w1) : But S w w1.drew := h.below (below_drew (Below.refl _ _))
theorem drewN (h : But S w w1) (n : Nat) : But S w (w1.drewN n) := h.below (pw_below_drewN (Below.refl _ _) n)
theorem grown (h : But S w w1) {row : Option Nat} (g : w1.grownBy w2 row) (hr : ∀ k, row = some k → S k ∨ w.heap.size ≤ k) : But S w w2 :=
  ⟨g.os.trans h.os, g.tape.trans h.tape, g.output.trans h.output, Nat.le_trans h.size g.size, fun i hi hn => (g.block i (Nat.lt_of_lt_of_le hi h.size) (fun e => (hr i e.symm).elim hn (fun y => absurd hi (by omega)))).trans (h.block i hi hn)⟩
end But

/-- A reader (or the reference's) at p: what is left, and its error; the bytes lie in blocks of ok, and p is none of them. -/
def AtR (T p : Nat) (ok : Nat → Prop) (bs : List Int) (er : Int) (w : World) : Prop :=
  ¬ ok p ∧ Bytes bs ∧ ∃ A c, w.heap[p]? = some (.cells #[.slice A bs.length c, .int .i64 er] T (0, 0)) ∧ bs.length ≤ c ∧ Kd.F (Kd.int .u8) w ok A bs.length bs
theorem blk_lt' {w : World} {g : Nat} {o : Obj} (h : w.heap[g]? = some o) : g < w.heap.size := by
  rcases Nat.lt_or_ge g w.heap.size with h' | h'
  · exact h'
  · simp [Array.getElem?_eq_none h'] at h
theorem AtR.but {T p : Nat} {ok S : Nat → Prop} {bs : List Int} {er : Int} {w w' : World} (h : AtR T p ok bs er w) (hb : But S w w') (hs : ∀ k, S k → k ≠ p ∧ ¬ ok k) : AtR T p ok bs er w' := by
  obtain ⟨h1, h2, A, c, hp, hc, hf⟩ := h
  exact ⟨h1, h2, A, c, (hb.block p (blk_lt' hp) (fun x => (hs p x).1 rfl)).trans hp, hc, Kd.F_step hf (fun k hk hlt => hb.block k hlt (fun x => (hs k x).2 hk))⟩
/-- What a reader tells of a number, and how it stands then. -/
def numR (bs : List Int) (er most : Int) : (Int × Int) × List Int × Int :=
  if er ≠ 0 then ((0, er), bs, er) else
  if (takeS 0 bs).2.2 ≠ 0 then ((0, (takeS 0 bs).2.2), bs, (takeS 0 bs).2.2) else
  if most < (takeS 0 bs).1 then ((0, 5), bs, 5) else (((takeS 0 bs).1, 0), bs.drop (takeS 0 bs).2.1.toNat, 0)
theorem take_c (A : Option Addr) (c : Nat) (l : List Int) (w : World) (hC : Kd.C (Kd.int .u8) w A l.length l) (hc : l.length ≤ c) (hB : Bytes l) :
    Calls Try.prog 10 #[.slice A l.length c] w fun e w' => e = .returned (.tuple #[.int .u64 (takeS 0 l).1, .int .i64 (takeS 0 l).2.1, .int .i64 (takeS 0 l).2.2]) ∧ Drawn0 w w' := by
  obtain ⟨k, hk⟩ := take_ev l hB
  exact octet_Take.calls k A c l _ _ _ w hC hc (hk k (Nat.le_refl _))
theorem rtake_c (A : Option Addr) (c : Nat) (l : List Int) (w : World) (hC : Kd.C (Kd.int .u8) w A l.length l) (hc : l.length ≤ c) (hB : Bytes l) :
    Calls Try.prog 12 #[.slice A l.length c] w fun e w' => e = .returned (.tuple #[.int .u64 (takeS 0 l).1, .int .i64 (takeS 0 l).2.1, .int .i64 (takeS 0 l).2.2]) ∧ Drawn0 w w' := by
  obtain ⟨k, hk⟩ := rtake_ev l hB
  exact tendrilref01_Take.calls k A c l _ _ _ w hC hc (hk k (Nat.le_refl _))
theorem fail_c (p : Nat) (v : Value) (er e1 : Int) (w : World) (h : w.heap[p]? = some (.cells #[v, .int .i64 er] 83 (0, 0))) :
    Calls Try.prog 39 #[.pointer (some ⟨p, 0, none⟩), .int .i64 e1] w fun e w' => e = .returned (.int .i64 e1) ∧ w' = w.setCell ⟨p, 1, none⟩ (.int .i64 e1) := by
  have c1 : w.cell? ⟨p, 1, none⟩ = some (.int .i64 er) := by rw [Lib.cell_of_heap h]; rfl
  have f1 : w.frozen? ⟨p, 1, none⟩ = false := Lib.frozen_of_heap h 1
  go_enter Try.func39, Try.ntmps39
  go_wp2_with fail
  go_ret
  exact ⟨rfl, rfl⟩
theorem set_blk {w : World} {p j : Nat} {cs : Array Value} {T : TypeId} {fz : Nat × Nat} (h : w.heap[p]? = some (.cells cs T fz)) (v : Value) : (w.setCell ⟨p, j, none⟩ v).heap[p]? = some (.cells (cs.setIfInBounds j v) T fz) := by
  simp [World.setCell, Array.getElem?_modify, h]
theorem info_byte : (Try.prog.info? 5).map (fun i => (i.zero, i.size, i.bytes)) = some (some (.int .u8 0), 1, 1) := by kernel_rfl
theorem takeS_ok (bs : List Int) (hB : Bytes bs) (h : (takeS 0 bs).2.2 = 0) : ∃ n j : Nat, takeS 0 bs = ((n : Int), (j : Int), 0) ∧ n < 18446744073709551616 ∧ enc n = bs.take j ∧ 0 < j ∧ j ≤ bs.length := by
  obtain ⟨n, j, h1, h2, _, h4, h5, h6⟩ := takeS_only bs 0 hB (by omega) h
  exact ⟨n, j, h1, by simpa using h2, h4, h5, h6⟩
theorem far {ok : Nat → Prop} {p : Nat} (h : ¬ ok p) : ∀ k, ok k → k ≠ p := fun k hk e => h (by rw [← e]; exact hk)
theorem cut_at {T p : Nat} {ok : Nat → Prop} {bs : List Int} {er : Int} {w : World} {A : Option Addr} {c j : Nat} (h1 : ¬ ok p) (h2 : Bytes bs) (hp : w.heap[p]? = some (.cells #[.slice A bs.length c, .int .i64 er] T (0, 0))) (hc : bs.length ≤ c) (hf : Kd.F (Kd.int .u8) w ok A bs.length bs) (hj : j ≤ bs.length) :
    AtR T p ok (bs.drop j) er (w.setCell ⟨p, 0, none⟩ (.slice (if c = j then A else A.map (fun x => x.add j)) (bs.length - j) (c - j))) := by
  have hF := Kd.F_cut (m := j) (c := c) hf hj hc
  rw [show j * (Kd.int .u8).sz = j from Nat.mul_one j] at hF
  refine ⟨h1, h2.drop j, if c = j then A else A.map (fun x => x.add j), c - j, ?_, by rw [List.length_drop]; omega, Kd.F_far hF (far h1) _⟩
  rw [List.length_drop]
  exact set_blk hp _
theorem But.put {S : Nat → Prop} {w w1 : World} (h : But S w w1) {p j : Nat} (hp : S p) (u : Value) : But S w (w1.setCell ⟨p, j, none⟩ u) := h.setCell (.inl hp) u
theorem But.put_self {w w1 : World} {p : Nat} (h : But (· = p) w w1) (j : Nat) (u : Value) : But (· = p) w (w1.setCell ⟨p, j, none⟩ u) := h.setCell (.inl rfl) u
set_option maxHeartbeats 1000000 in
theorem r_num (p : Nat) (ok : Nat → Prop) (bs : List Int) (er most : Int) (w : World) (h : AtR 83 p ok bs er w) :
    Calls Try.prog 30 #[.pointer (some ⟨p, 0, none⟩), .int .u64 most] w fun e w' => e = .returned (.tuple #[.int .u64 (numR bs er most).1.1, .int .i64 (numR bs er most).1.2]) ∧ AtR 83 p ok (numR bs er most).2.1 (numR bs er most).2.2 w' ∧ But (· = p) w w' := by
  obtain ⟨h1, h2, A, c, hp, hc, hf⟩ := h
  have c0 : w.cell? ⟨p, 0, none⟩ = some (.slice A bs.length c) := by rw [Lib.cell_of_heap hp]; rfl
  have c1 : w.cell? ⟨p, 1, none⟩ = some (.int .i64 er) := by rw [Lib.cell_of_heap hp]; rfl
  have f0 : w.frozen? ⟨p, 0, none⟩ = false := Lib.frozen_of_heap hp 0
  have f1 : w.frozen? ⟨p, 1, none⟩ = false := Lib.frozen_of_heap hp 1
  have HF := Aside0.mk hf
  have H1 := Aside0.mk h1
  have H2 := Aside0.mk h2
  clear hf h1 h2
  by_cases he : er = 0
  · subst he
    have HT := take_c A c bs w (Kd.F_now HF.out) hc H2.out
    by_cases ht : (takeS 0 bs).2.2 = 0
    · obtain ⟨n, j, hT, hn, -, hj, hjl⟩ := takeS_ok bs H2.out ht
      clear ht
      rw [hT] at HT
      by_cases hm : most < (n : Int)
      · have hR : numR bs 0 most = ((0, 5), bs, 5) := by simp [numR, hT, hm]
        rw [hR]
        clear hT hR
        go_enter Try.func30, Try.ntmps30
        go_wp2_with fail
        refine HT.mono ?_
        rintro e w1 ⟨rfl, ⟨m, rfl⟩⟩
        go_wp2_with fail
        refine (fail_c p _ _ 5 _ (show (w.drewN m).heap[p]? = _ from hp)).mono ?_
        rintro e w2 ⟨rfl, rfl⟩
        go_wp2_with fail
        go_ret2
        exact ⟨rfl, ⟨H1.out, H2.out, A, c, set_blk (show (w.drewN m).heap[p]? = _ from hp) _, hc, Kd.F_far (Kd.F_drewN HF.out m) (far H1.out) _⟩, ((But.refl _ w).drewN m).put_self _ _⟩
      · have hR : numR bs 0 most = (((n : Int), 0), bs.drop j, 0) := by simp [numR, hT, hm]
        rw [hR]
        clear hT hR
        go_enter Try.func30, Try.ntmps30
        go_wp2_with fail
        refine HT.mono ?_
        rintro e w1 ⟨rfl, ⟨m, rfl⟩⟩
        go_wp2_with fail
        · rename_i h
          subst h
          go_ret2
          have := cut_at (w := w.drewN m) H1.out H2.out hp hc (Kd.F_drewN HF.out m) hjl
          rw [if_pos rfl, Nat.sub_self] at this
          exact ⟨rfl, this, ((But.refl _ w).drewN m).put_self _ _⟩
        · rename_i h
          go_ret2
          have := cut_at (w := w.drewN m) H1.out H2.out hp hc (Kd.F_drewN HF.out m) hjl
          rw [if_neg h] at this
          exact ⟨rfl, this, ((But.refl _ w).drewN m).put_self _ _⟩
    · have hR : numR bs 0 most = ((0, (takeS 0 bs).2.2), bs, (takeS 0 bs).2.2) := by simp [numR, ht]
      rw [hR]
      have hb : ((takeS 0 bs).2.2 == 0) = false := by simpa using ht
      go_enter Try.func30, Try.ntmps30
      go_wp2_with fail
      refine HT.mono ?_
      rintro e w1 ⟨rfl, ⟨m, rfl⟩⟩
      go_wp2_with fail
      refine (fail_c p _ _ _ _ (show (w.drewN m).heap[p]? = _ from hp)).mono ?_
      rintro e w2 ⟨rfl, rfl⟩
      go_wp2_with fail
      go_ret2
      exact ⟨rfl, ⟨H1.out, H2.out, A, c, set_blk (show (w.drewN m).heap[p]? = _ from hp) _, hc, Kd.F_far (Kd.F_drewN HF.out m) (far H1.out) _⟩, ((But.refl _ w).drewN m).put_self _ _⟩
  · have hR : numR bs er most = ((0, er), bs, er) := by simp [numR, he]
    rw [hR]
    have hb : (er == 0) = false := by simpa using he
    go_enter Try.func30, Try.ntmps30
    go_wp2_with fail
    go_region
    go_wp2_with fail
    go_ret2
    exact ⟨rfl, ⟨H1.out, H2.out, A, c, hp, hc, Kd.F_drew HF.out⟩, (But.refl _ w).drew⟩
/-- The reference's reader, asked for a number. -/
theorem x_num (p : Nat) (ok : Nat → Prop) (bs : List Int) (er most : Int) (w : World) (h : AtR 63 p ok bs er w) :
    Calls Try.prog 31 #[.pointer (some ⟨p, 0, none⟩), .int .u64 most] w fun e w' => e = .returned (.tuple #[.int .u64 (numR bs er most).1.1, .int .i64 (numR bs er most).1.2]) ∧ AtR 63 p ok (numR bs er most).2.1 (numR bs er most).2.2 w' ∧ But (· = p) w w' := by
  obtain ⟨h1, h2, A, c, hp, hc, hf⟩ := h
  have c0 : w.cell? ⟨p, 0, none⟩ = some (.slice A bs.length c) := by rw [Lib.cell_of_heap hp]; rfl
  have c1 : w.cell? ⟨p, 1, none⟩ = some (.int .i64 er) := by rw [Lib.cell_of_heap hp]; rfl
  have f0 : w.frozen? ⟨p, 0, none⟩ = false := Lib.frozen_of_heap hp 0
  have f1 : w.frozen? ⟨p, 1, none⟩ = false := Lib.frozen_of_heap hp 1
  have HF := Aside0.mk hf
  have H1 := Aside0.mk h1
  have H2 := Aside0.mk h2
  clear hf h1 h2
  by_cases he : er = 0
  · subst he
    have HT := rtake_c A c bs w (Kd.F_now HF.out) hc H2.out
    by_cases ht : (takeS 0 bs).2.2 = 0
    · obtain ⟨n, j, hT, hn, -, hj, hjl⟩ := takeS_ok bs H2.out ht
      clear ht
      rw [hT] at HT
      by_cases hm : most < (n : Int)
      · have hR : numR bs 0 most = ((0, 5), bs, 5) := by simp [numR, hT, hm]
        rw [hR]
        clear hT hR
        go_enter Try.func31, Try.ntmps31
        go_wp2_with fail
        refine HT.mono ?_
        rintro e w1 ⟨rfl, ⟨m, rfl⟩⟩
        go_wp2_with fail
        go_ret2
        exact ⟨rfl, ⟨H1.out, H2.out, A, c, set_blk (show (w.drewN m).heap[p]? = _ from hp) _, hc, Kd.F_far (Kd.F_drewN HF.out m) (far H1.out) _⟩, ((But.refl _ w).drewN m).put_self _ _⟩
      · have hR : numR bs 0 most = (((n : Int), 0), bs.drop j, 0) := by simp [numR, hT, hm]
        rw [hR]
        clear hT hR
        go_enter Try.func31, Try.ntmps31
        go_wp2_with fail
        refine HT.mono ?_
        rintro e w1 ⟨rfl, ⟨m, rfl⟩⟩
        go_wp2_with fail
        · rename_i h
          subst h
          go_ret2
          have := cut_at (w := w.drewN m) H1.out H2.out hp hc (Kd.F_drewN HF.out m) hjl
          rw [if_pos rfl, Nat.sub_self] at this
          exact ⟨rfl, this, ((But.refl _ w).drewN m).put_self _ _⟩
        · rename_i h
          go_ret2
          have := cut_at (w := w.drewN m) H1.out H2.out hp hc (Kd.F_drewN HF.out m) hjl
          rw [if_neg h] at this
          exact ⟨rfl, this, ((But.refl _ w).drewN m).put_self _ _⟩
    · have hR : numR bs 0 most = ((0, (takeS 0 bs).2.2), bs, (takeS 0 bs).2.2) := by simp [numR, ht]
      rw [hR]
      have hb : ((takeS 0 bs).2.2 == 0) = false := by simpa using ht
      go_enter Try.func31, Try.ntmps31
      go_wp2_with fail
      refine HT.mono ?_
      rintro e w1 ⟨rfl, ⟨m, rfl⟩⟩
      go_wp2_with fail
      go_ret2
      exact ⟨rfl, ⟨H1.out, H2.out, A, c, set_blk (show (w.drewN m).heap[p]? = _ from hp) _, hc, Kd.F_far (Kd.F_drewN HF.out m) (far H1.out) _⟩, ((But.refl _ w).drewN m).put_self _ _⟩
  · have hR : numR bs er most = ((0, er), bs, er) := by simp [numR, he]
    rw [hR]
    have hb : (er == 0) = false := by simpa using he
    go_enter Try.func31, Try.ntmps31
    go_wp2_with fail
    go_region
    go_wp2_with fail
    go_ret2
    exact ⟨rfl, ⟨H1.out, H2.out, A, c, hp, hc, Kd.F_drew HF.out⟩, (But.refl _ w).drew⟩
/-- Behind all: what a reader tells of its end. -/
def endR (bs : List Int) (er : Int) : Int := if er ≠ 0 then er else if bs = [] then 0 else 2
theorem r_end (p : Nat) (ok : Nat → Prop) (bs : List Int) (er : Int) (w : World) (h : AtR 83 p ok bs er w) :
    Calls Try.prog 28 #[.pointer (some ⟨p, 0, none⟩)] w fun e w' => e = .returned (.int .i64 (endR bs er)) ∧ w' = w := by
  obtain ⟨h1, h2, A, c, hp, hc, hf⟩ := h
  have c0 : w.cell? ⟨p, 0, none⟩ = some (.slice A bs.length c) := by rw [Lib.cell_of_heap hp]; rfl
  have c1 : w.cell? ⟨p, 1, none⟩ = some (.int .i64 er) := by rw [Lib.cell_of_heap hp]; rfl
  clear hf h1 h2
  by_cases he : er = 0
  · subst he
    cases bs with
    | nil =>
      go_enter Try.func28, Try.ntmps28
      go_wp2_with fail
      go_ret
      exact ⟨rfl, rfl⟩
    | cons b t =>
      have hb : decide (0 < (b :: t).length) = true := by simp
      go_enter Try.func28, Try.ntmps28
      go_wp2_with fail
      go_ret
      exact ⟨rfl, rfl⟩
  · have hR : endR bs er = er := by simp [endR, he]
    rw [hR]
    have hb : (er == 0) = false := by simpa using he
    go_enter Try.func28, Try.ntmps28
    go_wp2_with fail
    go_ret
    exact ⟨rfl, rfl⟩
theorem x_end (p : Nat) (ok : Nat → Prop) (bs : List Int) (er : Int) (w : World) (h : AtR 63 p ok bs er w) :
    Calls Try.prog 33 #[.pointer (some ⟨p, 0, none⟩)] w fun e w' => e = .returned (.int .i64 (endR bs er)) ∧ w' = w := by
  obtain ⟨h1, h2, A, c, hp, hc, hf⟩ := h
  have c0 : w.cell? ⟨p, 0, none⟩ = some (.slice A bs.length c) := by rw [Lib.cell_of_heap hp]; rfl
  have c1 : w.cell? ⟨p, 1, none⟩ = some (.int .i64 er) := by rw [Lib.cell_of_heap hp]; rfl
  clear hf h1 h2
  by_cases he : er = 0
  · subst he
    cases bs with
    | nil =>
      go_enter Try.func33, Try.ntmps33
      go_wp2_with fail
      go_ret
      exact ⟨rfl, rfl⟩
    | cons b t =>
      have hb : decide (0 < (b :: t).length) = true := by simp
      go_enter Try.func33, Try.ntmps33
      go_wp2_with fail
      go_ret
      exact ⟨rfl, rfl⟩
  · have hR : endR bs er = er := by simp [endR, he]
    rw [hR]
    have hb : (er == 0) = false := by simpa using he
    go_enter Try.func33, Try.ntmps33
    go_wp2_with fail
    go_ret
    exact ⟨rfl, rfl⟩
theorem r_left (p : Nat) (ok : Nat → Prop) (bs : List Int) (er : Int) (w : World) (h : AtR 83 p ok bs er w) :
    Calls Try.prog 27 #[.pointer (some ⟨p, 0, none⟩)] w fun e w' => e = .returned (.int .i64 bs.length) ∧ w' = w := by
  obtain ⟨h1, h2, A, c, hp, hc, hf⟩ := h
  have c0 : w.cell? ⟨p, 0, none⟩ = some (.slice A bs.length c) := by rw [Lib.cell_of_heap hp]; rfl
  clear hf h1 h2
  go_enter Try.func27, Try.ntmps27
  go_wp2_with fail
  go_ret
  exact ⟨rfl, rfl⟩
end Go.Proofs.YtfpijjjmgggfkaaE
