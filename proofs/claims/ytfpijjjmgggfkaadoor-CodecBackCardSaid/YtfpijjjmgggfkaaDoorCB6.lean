/- Merged by this claim's own program (merge.py) out of the texts E29, E31, E34, E36, E44b, E46, E35, E35b, E37, E38, E39, E40, E41, E42, E43, E49, E50, X26x8; the W texts among them began as the kit's print. -/
import Derived.Test.YtfpijjjmgggfkaaDoorCB5
import Derived.OwnWalk
import Derived.Laws.Rows
import Derived.Recover
import Derived.Defers

namespace Go.Proofs.YtfpijjjmgggfkaaDoorE
open Go Go.RowKit Go.Proofs.YtfpijjjmgggfkaaDoorW.PrintWords Go.Proofs.YtfpijjjmgggfkaaDoorW.PrintMore Go.Proofs.YtfpijjjmgggfkaaDoorX Go.Proofs.YtfpijjjmgggfkaaDoor.P26 Go.Proofs.YtfpijjjmgggfkaaDoor.L01
set_option linter.unusedVariables false
set_option linter.unusedSimpArgs false
/-- An operation's bytes. -/
def oneB (x : S42) : List Int :=
  encs [x.f0] ++ (if x.f0 = 1 then encTs [x.f4, x.f5, x.f7] ++ encs [(x.f8.length : Int)] ++ attrB x.f8
  else if x.f0 = 2 then encs [x.f1, x.f2, x.f3]
  else if x.f0 = 3 then encs [x.f1, x.f3]
  else if x.f0 = 4 then encs [x.f1]
  else if x.f0 = 5 then encs [x.f1] ++ encTs [x.f6, x.f7]
  else if x.f0 = 6 then encs [x.f1] ++ encTs [x.f6]
  else encs [x.f1] ++ encTs [x.f7])
/-- What an operation that may be has. -/
def okW (x : S42) : Prop := (1 ≤ x.f0 ∧ x.f0 ≤ 7) ∧ num32 x.f1 ∧ num32 x.f2 ∧ num32 x.f3 ∧ x.f4.size ≤ 65536 ∧ x.f5.size ≤ 65536 ∧ x.f6.size ≤ 65536 ∧ x.f7.size ≤ 65536 ∧ x.f8.length ≤ 64 ∧ ∀ i : Nat, i < x.f8.length → (rd_T44 x.f8 i).f0.size ≤ 65536 ∧ (rd_T44 x.f8 i).f1.size ≤ 65536
theorem write_c (x : S42) (A : Option Addr) (c : Nat) (w0 : World) (p g : Nat) (v : Value) (bs : List Int) (w : World) (hb : Below w0.heap.size w0 w) (h : AtW w0.heap.size p g v bs w) (hx : okW x) (hl : Kd.C k44 w0 A x.f8.length x.f8) (hlen : bs.length + 10000000 ≤ 140737488355328) :
    Calls Tryd.prog 18 #[.pointer (some ⟨p, 0, none⟩), opOf x A c] w fun e w' => e = .returned (.tuple #[]) ∧ ∃ o cs, InvB w0 p g o cs (bs ++ oneB x) w' := by
  obtain ⟨f0, f1, f2, f3, f4, f5, f6, f7, f8⟩ := x
  obtain ⟨hk, h1, h2, h3, h4, h5, h6, h7, h8, h9⟩ := hx
  simp only at hk h1 h2 h3 h4 h5 h6 h7 h8 h9 hl
  have hc : f0 = 1 ∨ f0 = 2 ∨ f0 = 3 ∨ f0 = 4 ∨ f0 = 5 ∨ f0 = 6 ∨ f0 = 7 := by omega
  rcases hc with rfl | rfl | rfl | rfl | rfl | rfl | rfl
  · refine (write_1 f1 f2 f3 f4 f5 f6 f7 A c f8 w0 p g v bs w hb h h4 h5 h7 hl h8 h9 hlen).mono ?_
    rintro e w' ⟨rfl, o, cs, hI⟩
    exact ⟨rfl, o, cs, by simp only [oneB, if_pos, ← List.append_assoc]; exact hI⟩
  · refine (write_2 f1 f2 f3 f4 f5 f6 f7 _ w0 p g v bs w hb h h1 h2 h3 h6 h7 hlen).mono ?_
    rintro e w' ⟨rfl, o, cs, hI⟩
    exact ⟨rfl, o, cs, by simp only [oneB]; simpa [List.append_assoc] using hI⟩
  · refine (write_3 f1 f2 f3 f4 f5 f6 f7 _ w0 p g v bs w hb h h1 h2 h3 h6 h7 hlen).mono ?_
    rintro e w' ⟨rfl, o, cs, hI⟩
    exact ⟨rfl, o, cs, by simp only [oneB]; simpa [List.append_assoc] using hI⟩
  · refine (write_4 f1 f2 f3 f4 f5 f6 f7 _ w0 p g v bs w hb h h1 h2 h3 h6 h7 hlen).mono ?_
    rintro e w' ⟨rfl, o, cs, hI⟩
    exact ⟨rfl, o, cs, by simp only [oneB]; simpa [List.append_assoc] using hI⟩
  · refine (write_5 f1 f2 f3 f4 f5 f6 f7 _ w0 p g v bs w hb h h1 h2 h3 h6 h7 hlen).mono ?_
    rintro e w' ⟨rfl, o, cs, hI⟩
    exact ⟨rfl, o, cs, by simp only [oneB]; simpa [List.append_assoc] using hI⟩
  · refine (write_6 f1 f2 f3 f4 f5 f6 f7 _ w0 p g v bs w hb h h1 h2 h3 h6 h7 hlen).mono ?_
    rintro e w' ⟨rfl, o, cs, hI⟩
    exact ⟨rfl, o, cs, by simp only [oneB]; simpa [List.append_assoc] using hI⟩
  · refine (write_7 f1 f2 f3 f4 f5 f6 f7 _ w0 p g v bs w hb h h1 h2 h3 h6 h7 hlen).mono ?_
    rintro e w' ⟨rfl, o, cs, hI⟩
    exact ⟨rfl, o, cs, by simp only [oneB]; simpa [List.append_assoc] using hI⟩
theorem oneB_le (x : S42) (hx : okW x) : (oneB x).length ≤ 9500000 := by
  obtain ⟨f0, f1, f2, f3, f4, f5, f6, f7, f8⟩ := x
  obtain ⟨hk, h1, h2, h3, h4, h5, h6, h7, h8, h9⟩ := hx
  simp only at hk h1 h2 h3 h4 h5 h6 h7 h8 h9
  have n1 : Nums [f1] := nums1 h1.1 (num32s h1).2
  have e0 := encs_len (nums1 (n := f0) (by omega) (by omega))
  have e1 := encs_len n1
  have e2 := encs_len (show Nums [f1, f3] by have := nums2w h1 h3; rwa [wrap_num h1, wrap_num h3] at this)
  have e3 := encs_len (show Nums [f1, f2, f3] by have := nums3w h1 h2 h3; rwa [wrap_num h1, wrap_num h2, wrap_num h3] at this)
  have e4 := encs_len (nums1 (n := (f8.length : Int)) (by omega) (by omega))
  have t1 := encTs3_le f4 f5 f7 h4 h5 h7
  have t2 := encTs2_le f6 f7 h6 h7
  have t3 := encTs1_le f6 h6
  have t4 := encTs1_le f7 h7
  have a1 := attrB_le f8 h9 f8.length (Nat.le_refl _)
  rw [List.take_length] at a1
  simp only [List.length_cons, List.length_nil] at e0 e1 e2 e3 e4
  unfold oneB
  simp only
  rw [List.length_append]
  repeat' split
  all_goals (try rw [List.length_append])
  all_goals (try rw [List.length_append])
  all_goals omega
/-- A script's bytes. -/
def opsB (l : List S42) : List Int := l.flatMap oneB
def encB (l : List S42) : List Int := encs [(l.length : Int)] ++ opsB l
theorem rd_take (l : List S42) (k : Nat) (hk : k < l.length) : l.take (k + 1) = l.take k ++ [rd_T42 l (k : Int)] := by
  rw [List.take_add_one, List.getElem?_eq_getElem hk]
  unfold rd_T42
  rw [Int.toNat_natCast, List.getD_eq_getElem?_getD, List.getElem?_eq_getElem hk]
  rfl
theorem opsB_snoc (l : List S42) (k : Nat) (hk : k < l.length) : opsB (l.take (k + 1)) = opsB (l.take k) ++ oneB (rd_T42 l (k : Int)) := by
  rw [rd_take l k hk]
  unfold opsB
  rw [List.flatMap_append]
  simp
theorem opsB_le (l : List S42) (h : ∀ i : Nat, i < l.length → okW (rd_T42 l i)) : ∀ k : Nat, k ≤ l.length → (opsB (l.take k)).length ≤ 9500000 * k := by
  intro k
  induction k with
  | zero => intro _; simp [opsB]
  | succ k ih =>
    intro hk
    have h1 := ih (by omega)
    have h2 := oneB_le _ (h k (by omega))
    rw [opsB_snoc l k (by omega), List.length_append]
    omega
/-- A writer that has gathered bs; all since w0. -/
def InvA (w0 : World) (p g : Nat) (bs : List Int) (w : World) : Prop := Below w0.heap.size w0 w ∧ ∃ v, AtW w0.heap.size p g v bs w
theorem InvB.a {w0 : World} {p g o : Nat} {cs : Obj} {bs : List Int} {w : World} (h : InvB w0 p g o cs bs w) : InvA w0 p g bs w := by
  obtain ⟨hb, -, v, hv, -⟩ := h
  exact ⟨hb, v, hv⟩
theorem InvA.alloc {w0 : World} {p g : Nat} {bs : List Int} {w : World} (h : InvA w0 p g bs w) (x : Obj) : InvA w0 p g bs (w.alloc x) := by
  obtain ⟨hb, v, hv⟩ := h
  exact ⟨below_alloc hb x, v, hv.below (below_alloc (Below.refl _ _) x)⟩
theorem InvA.num1 {w0 : World} {p g : Nat} {bs : List Int} {w : World} (h : InvA w0 p g bs w) (n0 : Int) (b : Nat) (hb : b = w.heap.size) (hN : Nums [n0]) (hlen : bs.length + 10 ≤ 140737488355328) :
    Calls Tryd.prog 17 #[.pointer (some ⟨p, 0, none⟩), .slice (some ⟨b, 0, none⟩) 1 1] (w.alloc (.cells #[.int .u64 n0] 50)) fun e w' => e = .returned (.tuple #[]) ∧ InvA w0 p g (bs ++ encs [n0]) w' := by
  subst hb
  obtain ⟨hb, v, hv⟩ := h
  refine (w_numL _ p g v bs [n0] 1 rfl w hb.size hv hN (by show 1 ≤ _; omega) (by have := encs_len hN; simp only [List.length_cons, List.length_nil] at this; omega)).mono ?_
  rintro e w' ⟨rfl, v', hW, hB, hh⟩
  exact ⟨rfl, AtW_below hv hb hB, v', hW⟩
theorem InvA.write {w0 : World} {p g : Nat} {bs : List Int} {w : World} (h : InvA w0 p g bs w) (x : S42) (A : Option Addr) (c : Nat) (hx : okW x) (hl : Kd.C k44 w0 A x.f8.length x.f8) (hlen : bs.length + 10000000 ≤ 140737488355328) :
    Calls Tryd.prog 18 #[.pointer (some ⟨p, 0, none⟩), .agg #[.int .i64 x.f0, .int .i64 x.f1, .int .i64 x.f2, .int .i64 x.f3, .string x.f4, .string x.f5, .string x.f6, .string x.f7, .slice A x.f8.length c]] w fun e w' => e = .returned (.tuple #[]) ∧ InvA w0 p g (bs ++ oneB x) w' := by
  obtain ⟨hb, v, hv⟩ := h
  refine (write_c x A c w0 p g v bs w hb hv hx hl hlen).mono ?_
  rintro e w' ⟨rfl, o, cs, hI⟩
  exact ⟨rfl, hI.a⟩
theorem InvA.bytes {w0 : World} {p g : Nat} {bs : List Int} {w : World} (h : InvA w0 p g bs w) (hlen : bs.length ≤ 140737488355328) :
    Calls Tryd.prog 19 #[.pointer (some ⟨p, 0, none⟩)] w fun e w' => (∃ v' B, e = .returned v' ∧ w0.heap.size ≤ B ∧ own8 B v' bs w') ∧ Below w0.heap.size w0 w' := by
  obtain ⟨hb, v, hv⟩ := h
  refine (w_bytes _ p g v bs w hv hlen).mono ?_
  rintro e w' ⟨⟨v', rfl, ho⟩, hB⟩
  exact ⟨⟨v', _, rfl, hb.size, ho⟩, below_then hb hb.size hB⟩
theorem new_a (w : World) : Calls Tryd.prog 16 #[] w fun e w' => ∃ p g, e = .returned (.pointer (some ⟨p, 0, none⟩)) ∧ InvA w p g [] w' := by
  refine (new_c w).mono ?_
  rintro e w' ⟨⟨p, g, rfl, h⟩, hb⟩
  exact ⟨p, g, rfl, hb, _, h⟩
theorem Encode_err (A : Option Addr) (c : Nat) (l : List S42) (w : World) (hgl : GL w) (hl : Kd.C k42 w A l.length l) (hc : l.length ≤ c) (hx : ∀ i : Nat, i < l.length → okX (rd_T42 l i)) (he : (firstS l).2 ≠ 0) :
    Calls Tryd.prog 9 #[.slice A l.length c] w fun e w' => e = .returned (.tuple #[.slice none 0 0, .int .i64 (firstS l).1, .int .i64 (firstS l).2]) ∧ Below w.heap.size w w' := by
  have HF := Aside0.mk (First_o A c l w hgl hl hc hx)
  obtain ⟨R, hR⟩ : ∃ R, R = firstS l := ⟨_, rfl⟩
  rw [← hR] at HF he ⊢
  clear hR hl hx
  have h1 : (R.2 == 0) = false := by simpa using he
  have h2 : (R.2 != 0) = true := by simpa using he
  go_enter Tryd.func9, Tryd.ntmps9
  go_wp2_with (go_at_call 15; (refine (HF.out).mono ?_); rintro e w1 ⟨rfl, hb⟩)
  go_ret3
  exact ⟨rfl, hb⟩
set_option maxHeartbeats 1000000 in
set_option maxRecDepth 100000 in
theorem Encode_ok (A : Option Addr) (c : Nat) (l : List S42) (w : World) (hgl : GL w) (hl : Kd.C k42 w A l.length l) (hc : l.length ≤ c) (hx : ∀ i : Nat, i < l.length → okX (rd_T42 l i)) (he : (firstS l).2 = 0) (hw : ∀ i : Nat, i < l.length → okW (rd_T42 l i)) (hn : l.length ≤ 1048576) :
    Calls Tryd.prog 9 #[.slice A l.length c] w fun e w' => (∃ v B, e = .returned (.tuple #[v, .int .i64 0, .int .i64 0]) ∧ w.heap.size ≤ B ∧ own8 B v (encB l) w') ∧ Below w.heap.size w w' := by
  have HF := Aside0.mk (First_o A c l w hgl hl hc hx)
  rw [he] at HF
  have HL := Aside0.mk hl
  have HW := Aside0.mk hw
  have HOL := Aside0.mk (opsB_le l hw)
  have HNN : Aside0 (Nums [(l.length : Int)]) := ⟨nums1 (by omega) (by omega)⟩
  obtain ⟨b0, hb0⟩ : ∃ b0, b0 = encs [(l.length : Int)] := ⟨_, rfl⟩
  have HB0 := Aside0.mk hb0
  have HL0 : Aside0 (b0.length ≤ 10) := ⟨by have e1 := encs_len HNN.out; rw [hb0]; simpa using e1⟩
  obtain ⟨R, hR⟩ : ∃ R, R = encB l := ⟨_, rfl⟩
  have HR0 := Aside0.mk hR
  rw [← hR]
  clear hl hx hw hb0 hR
  go_enter Tryd.func9, Tryd.ntmps9
  go_wp2_with (first
    | (go_at_call 15; (refine (HF.out).mono ?_); rintro e w1 ⟨rfl, hb⟩; have HBW := Aside0.mk hb; have HL1 := Aside0.mk (Kd.C_below HL.out hb); clear hb)
    | (go_at_call 16; (refine (new_a _).mono ?_); rintro e w2 ⟨p, g, rfl, hI⟩; have HI2 := Aside0.mk hI; clear hI)
    | (go_at_call 17; (with_reducible refine (InvA.num1 HI2.out _ _ ?hb HNN.out ?hl).mono ?_); (case hb => simp); (case hl => simp); rintro e w3 ⟨rfl, hI⟩; have HI3 := Aside0.mk hI; clear hI))
  rw [List.nil_append, ← HB0.out] at HI3
  go_loopw [28] (fun i wr => ∃ k : Nat, k ≤ l.length ∧ i = .int .i64 k ∧ Aside0 (InvA w1 p g (b0 ++ opsB (l.take k)) wr)) (fun i _ => l.length - (intOf i).toNat)
  case atStart => exact ⟨0, Nat.zero_le _, rfl, ⟨by have := HI3.out; rw [List.take_zero]; simpa [opsB] using this⟩⟩
  case round =>
    obtain ⟨k, hk, rfl, HR⟩ := hrel
    by_cases hlt : k < l.length
    · obtain ⟨ad, A8, c8, rfl, e0, e1, e2, e3, e4, e5, e6, e7, e8, hl8, hi8⟩ := at_T42 HL1.out (k : Int) (by omega) (by omega)
      rw [Int.toNat_natCast] at e0 e1 e2 e3 e4 e5 e6 e7 e8
      have hwk := HW.out k hlt
      have hsn := opsB_snoc l k hlt
      obtain ⟨X, hX⟩ : ∃ X, X = rd_T42 l (k : Int) := ⟨_, rfl⟩
      rw [← hX] at e0 e1 e2 e3 e4 e5 e6 e7 e8 hl8 hi8 hwk hsn
      clear hX
      have d0 := pw_cell_below HR.out.1 e0
      have d1 := pw_cell_below HR.out.1 e1
      have d2 := pw_cell_below HR.out.1 e2
      have d3 := pw_cell_below HR.out.1 e3
      have d4 := pw_cell_below HR.out.1 e4
      have d5 := pw_cell_below HR.out.1 e5
      have d6 := pw_cell_below HR.out.1 e6
      have d7 := pw_cell_below HR.out.1 e7
      have d8 := pw_cell_below HR.out.1 e8
      clear e0 e1 e2 e3 e4 e5 e6 e7 e8
      have HS := Aside0.mk hsn
      have HX := Aside0.mk hwk
      have H8 := Aside0.mk hi8
      have HLK : Aside0 ((b0 ++ opsB (l.take k)).length + 10000000 ≤ 140737488355328) := ⟨by have e1 := HL0.out; have e2 := HOL.out k (by omega); rw [List.length_append]; omega⟩
      clear hsn hwk hi8
      go_wp2_with (go_at_call 18; (refine (InvA.write (InvA.alloc HR.out _) X A8 c8 HX.out H8.out HLK.out).mono ?_); rintro e w4 ⟨rfl, hI⟩; have HI4 := Aside0.mk hI; clear hI)
      go_roundw
      case rel => exact ⟨k + 1, by omega, by go_num, ⟨by rw [HS.out, ← List.append_assoc]; exact HI4.out⟩⟩
      case measure => simp [intOf]; omega
    · obtain rfl : k = l.length := by omega
      have HLK : Aside0 ((b0 ++ opsB (l.take l.length)).length ≤ 140737488355328) := ⟨by have e1 := HL0.out; have e2 := HOL.out l.length (by omega); rw [List.length_append]; omega⟩
      go_wp2_with (go_at_call 19; (refine (InvA.bytes HR.out HLK.out).mono ?_); rintro e w5 ⟨⟨v', B, rfl, hB, ho⟩, hb⟩)
      go_ret3
      refine ⟨⟨v', B, rfl, Nat.le_trans HBW.out.size hB, ?_⟩, below_then HBW.out HBW.out.size hb⟩
      rw [List.take_length, HB0.out] at ho
      rw [HR0.out]
      exact ho
end Go.Proofs.YtfpijjjmgggfkaaDoorE

namespace Go.Proofs.YtfpijjjmgggfkaaDoorE
open Go Go.RowKit Go.Proofs.YtfpijjjmgggfkaaDoorW.PrintWords Go.Proofs.YtfpijjjmgggfkaaDoorX Go.Proofs.YtfpijjjmgggfkaaDoor.P26 Go.Proofs.YtfpijjjmgggfkaaDoor.M02
set_option linter.unusedVariables false
set_option linter.unusedSimpArgs false
theorem named_le (more : Bool) (s : ByteArray) (h : namedS more (B s) = true) : s.size ≤ 32 := by
  rw [← B_len]
  cases e : B s with
  | nil => simp
  | cons c t =>
    rw [e, namedS_cons] at h
    simp only [Bool.and_eq_true, decide_eq_true_eq] at h
    simp only [List.length_cons]
    omega
theorem attrsN_ok (l : List S44) (nm : Nat → Bool) : ∀ d i : Nat, i + d = l.length → i ≤ 64 → (attrsN l nm d i).2 = 0 → l.length ≤ 64 ∧ ∀ j : Nat, i ≤ j → j < l.length → nm j = true ∧ (rd_T44 l j).f1.size ≤ 65536 := by
  intro d
  induction d with
  | zero => intro i hi h64 _; exact ⟨by omega, fun j h1 h2 => by omega⟩
  | succ d ih =>
    intro i hi h64 h
    unfold attrsN at h
    by_cases h1 : i = 64
    · rw [if_pos h1] at h; simp at h
    · rw [if_neg h1] at h
      by_cases h2 : nm i = true
      · rw [if_pos h2] at h
        by_cases h3 : (rd_T44 l i).f1.size > 65536
        · rw [if_pos h3] at h; simp at h
        · rw [if_neg h3] at h
          split at h
          · simp at h
          · split at h
            · simp at h
            · obtain ⟨g1, g2⟩ := ih (i + 1) (by omega) (by omega) h
              refine ⟨g1, fun j hj hl => ?_⟩
              by_cases hji : j = i
              · subst hji; exact ⟨h2, by omega⟩
              · exact g2 j (by omega) hl
      · rw [if_neg h2] at h; simp at h
theorem over_num {a : Int} (h : overO a ≠ true) : num32 a := by
  unfold overO at h
  simp at h
  exact ⟨by omega, by omega⟩
theorem chk_okW (x : S42) (h : chk x = 0) : okW x := by
  unfold chk checkO at h
  by_cases h1 : x.f0 < 1 ∨ x.f0 > 7
  · rw [if_pos h1] at h; simp at h
  rw [if_neg h1] at h
  by_cases h2 : overO x.f1 = true ∨ overO x.f2 = true ∨ overO x.f3 = true
  · rw [if_pos h2] at h; simp at h
  rw [if_neg h2] at h
  by_cases h3 : noneO x = true
  · rw [if_pos h3] at h; simp at h
  rw [if_neg h3] at h
  by_cases h4 : x.f0 = 1 ∧ tgO x = false
  · rw [if_pos h4] at h; simp at h
  rw [if_neg h4] at h
  by_cases h5 : (x.f0 = 5 ∨ x.f0 = 6) ∧ nmO x = false
  · rw [if_pos h5] at h; simp at h
  rw [if_neg h5] at h
  by_cases h6 : x.f5.size > 65536 ∨ x.f7.size > 65536
  · rw [if_pos h6] at h; simp at h
  rw [if_neg h6] at h
  obtain ⟨a1, a2⟩ := attrsN_ok x.f8 (naO x) x.f8.length 0 (by omega) (by omega) h
  have h3' : noneO x = false := by simpa using h3
  unfold noneO at h3'
  refine ⟨by omega, over_num (fun e => h2 (Or.inl e)), over_num (fun e => h2 (Or.inr (Or.inl e))), over_num (fun e => h2 (Or.inr (Or.inr e))), ?_, by omega, ?_, by omega, a1, fun i hi => ⟨?_, (a2 i (by omega) hi).2⟩⟩
  · by_cases e : x.f0 = 1
    · have : tgO x = true := by
        cases ht : tgO x with
        | true => rfl
        | false => exact absurd ⟨e, ht⟩ h4
      have := named_le false x.f4 this
      omega
    · have h40 : x.f4.size = 0 := Decidable.byContradiction fun g => by simp only [Bool.or_eq_false_iff, Bool.and_eq_false_iff, decide_eq_false_iff_not] at h3'; omega
      omega
  · by_cases e : x.f0 = 5 ∨ x.f0 = 6
    · have : nmO x = true := by
        cases ht : nmO x with
        | true => rfl
        | false => exact absurd ⟨e, ht⟩ h5
      have := named_le true x.f6 this
      omega
    · have e5 : x.f0 ≠ 5 := fun g => e (Or.inl g)
      have e6 : x.f0 ≠ 6 := fun g => e (Or.inr g)
      have h60 : x.f6.size = 0 := Decidable.byContradiction fun g => by simp only [Bool.or_eq_false_iff, Bool.and_eq_false_iff, decide_eq_false_iff_not] at h3'; omega
      omega
  · have := named_le true _ (a2 i (by omega) hi).1
    omega
theorem firstN_ok (ch : Nat → Int) : ∀ d i : Nat, i ≤ 1048576 → (firstN ch d i).2 = 0 → i + d ≤ 1048576 ∧ ∀ j : Nat, i ≤ j → j < i + d → ch j = 0 := by
  intro d
  induction d with
  | zero => intro i hi _; exact ⟨by omega, fun j h1 h2 => by omega⟩
  | succ d ih =>
    intro i hi h
    unfold firstN at h
    by_cases h1 : i = 1048576
    · rw [if_pos h1] at h; simp at h
    · rw [if_neg h1] at h
      by_cases h2 : ch i = 0
      · rw [if_pos h2] at h
        obtain ⟨g1, g2⟩ := ih (i + 1) (by omega) h
        refine ⟨by omega, fun j hj hl => ?_⟩
        by_cases hji : j = i
        · subst hji; exact h2
        · exact g2 j (by omega) (by omega)
      · rw [if_neg h2] at h; exact absurd h h2
theorem firstN_no (ch : Nat → Int) : ∀ d i : Nat, i + d ≤ 1048576 → (∀ j : Nat, i ≤ j → j < i + d → ch j = 0) → firstN ch d i = (0, 0) := by
  intro d
  induction d with
  | zero => intro i _ _; rfl
  | succ d ih =>
    intro i hi h
    unfold firstN
    rw [if_neg (by omega), if_pos (h i (Nat.le_refl _) (by omega))]
    exact ih (i + 1) (by omega) (fun j h1 h2 => h j (by omega) (by omega))
theorem firstS_ok (l : List S42) (h : (firstS l).2 = 0) : l.length ≤ 1048576 ∧ ∀ i : Nat, i < l.length → chk (rd_T42 l i) = 0 := by
  obtain ⟨h1, h2⟩ := firstN_ok _ l.length 0 (by omega) h
  exact ⟨by omega, fun i hi => h2 i (by omega) (by omega)⟩
theorem firstS_eq (l : List S42) (h : (firstS l).2 = 0) : firstS l = (0, 0) := by
  obtain ⟨h1, h2⟩ := firstS_ok l h
  exact firstN_no _ l.length 0 (by omega) (fun j _ hj => h2 j (by omega))
/-- codec.Encode, of a script that may be. -/
theorem Encode_c (A : Option Addr) (c : Nat) (l : List S42) (w : World) (hgl : GL w) (hl : Kd.C k42 w A l.length l) (hc : l.length ≤ c) (hx : ∀ i : Nat, i < l.length → okX (rd_T42 l i)) (he : (firstS l).2 = 0) :
    Calls Tryd.prog 9 #[.slice A l.length c] w fun e w' => (∃ v B, e = .returned (.tuple #[v, .int .i64 0, .int .i64 0]) ∧ w.heap.size ≤ B ∧ own8 B v (encB l) w') ∧ Below w.heap.size w w' := by
  obtain ⟨h1, h2⟩ := firstS_ok l he
  exact Encode_ok A c l w hgl hl hc hx he (fun i hi => chk_okW _ (h2 i hi)) h1
end Go.Proofs.YtfpijjjmgggfkaaDoorE

namespace Go.Proofs.YtfpijjjmgggfkaaDoorE
open Go Go.RowKit Go.Proofs.YtfpijjjmgggfkaaDoorW.PrintWords Go.Proofs.YtfpijjjmgggfkaaDoorW.PrintMore Go.Proofs.YtfpijjjmgggfkaaDoorX Go.Proofs.YtfpijjjmgggfkaaDoor.P26 Go.Proofs.YtfpijjjmgggfkaaDoor.L01
set_option linter.unusedVariables false
set_option linter.unusedSimpArgs false
theorem AtR.len {T p : Nat} {ok : Nat → Prop} {bs : List Int} {er : Int} {w : World} (h : AtR T p ok bs er w) : bs.length ≤ 9223372036854775807 := by
  obtain ⟨-, -, A, c, -, -, hf⟩ := h
  exact (Kd.F_now hf).2.1
theorem AtR.lt {T p : Nat} {ok : Nat → Prop} {bs : List Int} {er : Int} {w : World} (h : AtR T p ok bs er w) : p < w.heap.size := by
  obtain ⟨-, -, A, c, hp, -⟩ := h
  exact blk_lt' hp
/-- Three blocks of the call's own, beside a reader at p. -/
structure Lie (W : World) (p : Nat) (ok : Nat → Prop) (b1 b2 b3 : Nat) : Prop where
  p1 : p < W.heap.size
  h1 : W.heap.size ≤ b1
  h2 : W.heap.size ≤ b2
  h3 : W.heap.size ≤ b3
  n13 : b1 ≠ b3
  n23 : b2 ≠ b3
  okp : ∀ k, ok k → k < p
/-- A reader at the state s since W, and three blocks beside it. -/
structure InvO (T : Nat) (W : World) (p : Nat) (ok : Nat → Prop) (b1 : Nat) (o1 : Obj) (b2 : Nat) (o2 : Obj) (b3 : Nat) (o3 : Obj) (s : St) (w : World) : Prop where
  but : But (· = p) W w
  at_ : AtR T p ok s.1 s.2 w
  k1 : w.heap[b1]? = some o1
  k2 : w.heap[b2]? = some o2
  k3 : w.heap[b3]? = some o3
section
variable {T : Nat} {W : World} {p : Nat} {ok : Nat → Prop} {b1 : Nat} {o1 : Obj} {b2 : Nat} {o2 : Obj} {b3 : Nat} {o3 : Obj} {s : St} {w : World}
theorem InvO.go {s' : St} {w' : World} (h : InvO T W p ok b1 o1 b2 o2 b3 o3 s w) (L : Lie W p ok b1 b2 b3) (hr : AtR T p ok s'.1 s'.2 w') (hb : But (· = p) w w') : InvO T W p ok b1 o1 b2 o2 b3 o3 s' w' := by
  have := L.p1
  have := L.h1
  have := L.h2
  have := L.h3
  exact ⟨h.but.then_ hb, hr, (hb.block b1 (blk_lt' h.k1) (by omega)).trans h.k1, (hb.block b2 (blk_lt' h.k2) (by omega)).trans h.k2, (hb.block b3 (blk_lt' h.k3) (by omega)).trans h.k3⟩
theorem InvO.below {w' : World} (h : InvO T W p ok b1 o1 b2 o2 b3 o3 s w) (L : Lie W p ok b1 b2 b3) (hb : Below w.heap.size w w') : InvO T W p ok b1 o1 b2 o2 b3 o3 s w' :=
  h.go L (h.at_.but ((But.refl (fun _ => False) w).below hb) (fun _ h => h.elim)) ((But.refl _ w).below hb)
theorem InvO.al (h : InvO T W p ok b1 o1 b2 o2 b3 o3 s w) (L : Lie W p ok b1 b2 b3) (o : Obj) : InvO T W p ok b1 o1 b2 o2 b3 o3 s (w.alloc o) := h.below L (below_alloc (Below.refl _ _) o)
theorem InvO.set {cs : Array Value} {t : TypeId} (h : InvO T W p ok b1 o1 b2 o2 b3 (.cells cs t (0, 0)) s w) (L : Lie W p ok b1 b2 b3) (j : Nat) (v : Value) : InvO T W p ok b1 o1 b2 o2 b3 (.cells (cs.setIfInBounds j v) t (0, 0)) s (w.setCell ⟨b3, j, none⟩ v) := by
  have hp := L.p1
  have h3 := L.h3
  have hB : But (· = b3) w (w.setCell ⟨b3, j, none⟩ v) := But.put (S := (· = b3)) (But.refl _ w) (j := j) rfl v
  refine ⟨h.but.setCell (.inr L.h3) v, h.at_.but hB (fun k hk => by rw [hk]; exact ⟨by omega, fun e => by have := L.okp _ e; omega⟩), (hB.block b1 (blk_lt' h.k1) L.n13).trans h.k1, (hB.block b2 (blk_lt' h.k2) L.n23).trans h.k2, set_blk h.k3 v⟩
end
/-- A reader since W. -/
structure AtB (T : Nat) (W : World) (p : Nat) (ok : Nat → Prop) (s : St) (w : World) : Prop where
  but : But (· = p) W w
  at_ : AtR T p ok s.1 s.2 w
theorem AtB.set {T : Nat} {W : World} {p : Nat} {ok : Nat → Prop} {s : St} {w : World} (h : AtB T W p ok s w) {b : Nat} (hp : p < W.heap.size) (hb : W.heap.size ≤ b) (hok : ∀ k, ok k → k < p) (j : Nat) (v : Value) : AtB T W p ok s (w.setCell ⟨b, j, none⟩ v) := by
  have hB : But (· = b) w (w.setCell ⟨b, j, none⟩ v) := But.put (S := (· = b)) (But.refl _ w) (j := j) rfl v
  exact ⟨h.but.setCell (.inr hb) v, h.at_.but hB (fun k hk => by rw [hk]; exact ⟨by omega, fun e => by have := hok _ e; omega⟩)⟩
theorem lie_start (W : World) (p : Nat) (ok : Nat → Prop) (o1 o2 : Obj) (w1 : World) (hp : p < W.heap.size) (hok : ∀ k, ok k → k < p) (h3 : But (· = p) ((W.alloc o1).alloc o2) w1) : Lie W p ok W.heap.size (W.heap.size + 1) w1.heap.size := by
  have := h3.size
  simp at this
  exact ⟨hp, Nat.le_refl _, by omega, by omega, by omega, by omega, hok⟩
theorem inv_start (T : Nat) (W : World) (p : Nat) (ok : Nat → Prop) (o1 o2 o3 : Obj) (s : St) (w1 : World) (hp : p < W.heap.size) (h2 : AtR T p ok s.1 s.2 w1) (h3 : But (· = p) ((W.alloc o1).alloc o2) w1) : InvO T W p ok W.heap.size o1 (W.heap.size + 1) o2 w1.heap.size o3 s (w1.alloc o3) := by
  have hs := h3.size
  simp at hs
  have hb : Below w1.heap.size w1 (w1.alloc o3) := below_alloc (Below.refl _ _) o3
  refine ⟨(((But.refl _ W).alloc o1).alloc o2).then_ (h3.below hb), h2.but ((But.refl (fun _ => False) w1).below hb) (fun _ h => h.elim), ?_, ?_, one_new_ w1 o3⟩
  · exact (hb.block _ (by omega)).trans ((h3.block _ (by simp; omega) (by omega)).trans (two_old_ W o1 o2))
  · exact (hb.block _ (by omega)).trans ((h3.block _ (by simp) (by omega)).trans (two_new_ W o1 o2))
theorem hS_err (s : St) : (hS s).1.2 = (hS s).2.2 := nS_err s _
theorem hS_stick (s : St) (h : s.2 ≠ 0) : hS s = ((0, s.2), s) := nS_stick s _ h
theorem handle_d (p : Nat) (ok : Nat → Prop) (s : St) (w : World) (h : AtR 107 p ok s.1 s.2 w) :
    Calls Tryd.prog 61 #[.agg #[.pointer (some ⟨p, 0, none⟩)]] w fun e w' => (((hS s).2.2 = 0 ∧ e = .returned (.int .i64 (hS s).1.1) ∧ AtR 107 p ok (hS s).2.1 (hS s).2.2 w') ∨ ((hS s).2.2 ≠ 0 ∧ e = stopE (hS s).2.2)) ∧ But (· = p) w w' := by
  have hv := nS_val s 4294967295 h.2.1 (by omega)
  have he := hS_err s
  by_cases h0 : (hS s).2.2 = 0
  · exact (handle_ok p ok s.1 s.2 w h (he.trans h0) hv.1 hv.2).mono fun e w' ⟨h1, h2⟩ => ⟨.inl ⟨h0, h1, h2.1⟩, h2.2⟩
  · refine (handle_bad p ok s.1 s.2 w h (fun e => h0 (he.symm.trans e))).mono fun e w' ⟨h1, h2⟩ => ⟨.inr ⟨h0, h1.trans ?_⟩, h2⟩
    exact congrArg stopE he
theorem num_d (m : Int) (hm : 0 ≤ m ∧ m ≤ 4294967295) (p : Nat) (ok : Nat → Prop) (s : St) (w : World) (h : AtR 107 p ok s.1 s.2 w) :
    Calls Tryd.prog 40 #[.agg #[.pointer (some ⟨p, 0, none⟩)], .int .u64 m] w fun e w' => (((nS s m).2.2 = 0 ∧ e = .returned (.int .i64 (nS s m).1.1) ∧ AtR 107 p ok (nS s m).2.1 (nS s m).2.2 w') ∨ ((nS s m).2.2 ≠ 0 ∧ e = stopE (nS s m).2.2)) ∧ But (· = p) w w' := by
  have hv := nS_val s m h.2.1 hm.1
  have he := nS_err s m
  by_cases h0 : (nS s m).2.2 = 0
  · exact (num_ok p ok s.1 s.2 m w h (he.trans h0) hv.1 (Int.le_trans hv.2 hm.2)).mono fun e w' ⟨h1, h2⟩ => ⟨.inl ⟨h0, h1, h2.1⟩, h2.2⟩
  · refine (num_bad p ok s.1 s.2 m w h (fun e => h0 (he.symm.trans e))).mono fun e w' ⟨h1, h2⟩ => ⟨.inr ⟨h0, h1.trans ?_⟩, h2⟩
    exact congrArg stopE he
theorem text_d (p : Nat) (ok : Nat → Prop) (s : St) (w : World) (h : AtR 107 p ok s.1 s.2 w) :
    Calls Tryd.prog 60 #[.agg #[.pointer (some ⟨p, 0, none⟩)]] w fun e w' => (((tS s).2.2 = 0 ∧ e = .returned (.string (tS s).1.1) ∧ AtR 107 p ok (tS s).2.1 (tS s).2.2 w') ∨ ((tS s).2.2 ≠ 0 ∧ e = stopE (tS s).2.2)) ∧ But (· = p) w w' := by
  have he := tS_err s
  by_cases h0 : (tS s).2.2 = 0
  · exact (text_ok p ok s.1 s.2 w h.len h (he.trans h0)).mono fun e w' ⟨h1, h2⟩ => ⟨.inl ⟨h0, h1, h2.1⟩, h2.2⟩
  · refine (text_bad p ok s.1 s.2 w h.len h (fun e => h0 (he.symm.trans e))).mono fun e w' ⟨h1, h2⟩ => ⟨.inr ⟨h0, h1.trans ?_⟩, h2⟩
    exact congrArg stopE he
theorem must_d (n : Int) (w : World) : Calls Tryd.prog 42 #[.int .i64 n] w fun e w' => ((n = 0 ∧ e = .returned (.tuple #[])) ∨ (n ≠ 0 ∧ e = stopE n)) ∧ w' = w := by
  by_cases h : n = 0
  · subst h
    exact (must_ok w).mono fun e w' ⟨h1, h2⟩ => ⟨.inl ⟨rfl, h1⟩, h2⟩
  · exact (must_bad n h w).mono fun e w' ⟨h1, h2⟩ => ⟨.inr ⟨h, h1⟩, h2⟩
section
variable {W : World} {p : Nat} {ok : Nat → Prop} {b1 : Nat} {o1 : Obj} {b2 : Nat} {o2 : Obj} {b3 : Nat} {o3 : Obj} {s : St} {w : World}
theorem InvO.handle (h : InvO 107 W p ok b1 o1 b2 o2 b3 o3 s w) (L : Lie W p ok b1 b2 b3) :
    Calls Tryd.prog 61 #[.agg #[.pointer (some ⟨p, 0, none⟩)]] w fun e w' => ((hS s).2.2 = 0 ∧ e = .returned (.int .i64 (hS s).1.1) ∧ num32 (hS s).1.1 ∧ InvO 107 W p ok b1 o1 b2 o2 b3 o3 (hS s).2 w') ∨ ((hS s).2.2 ≠ 0 ∧ e = stopE (hS s).2.2 ∧ But (· = p) W w') := by
  have hv := nS_val s 4294967295 h.at_.2.1 (by omega)
  refine (handle_d p ok s w h.at_).mono ?_
  rintro e w' ⟨⟨h0, he, ha⟩ | ⟨h0, he⟩, hb⟩
  · exact .inl ⟨h0, he, hv, h.go L ha hb⟩
  · exact .inr ⟨h0, he, h.but.then_ hb⟩
theorem InvO.text (h : InvO 107 W p ok b1 o1 b2 o2 b3 o3 s w) (L : Lie W p ok b1 b2 b3) :
    Calls Tryd.prog 60 #[.agg #[.pointer (some ⟨p, 0, none⟩)]] w fun e w' => ((tS s).2.2 = 0 ∧ e = .returned (.string (tS s).1.1) ∧ (tS s).1.1.size ≤ 65536 ∧ InvO 107 W p ok b1 o1 b2 o2 b3 o3 (tS s).2 w') ∨ ((tS s).2.2 ≠ 0 ∧ e = stopE (tS s).2.2 ∧ But (· = p) W w') := by
  have hv := tS_size s h.at_.2.1
  refine (text_d p ok s w h.at_).mono ?_
  rintro e w' ⟨⟨h0, he, ha⟩ | ⟨h0, he⟩, hb⟩
  · exact .inl ⟨h0, he, hv, h.go L ha hb⟩
  · exact .inr ⟨h0, he, h.but.then_ hb⟩
theorem InvO.num (h : InvO 107 W p ok b1 o1 b2 o2 b3 o3 s w) (L : Lie W p ok b1 b2 b3) (m : Int) (hm : 0 ≤ m ∧ m ≤ 4294967295) :
    Calls Tryd.prog 40 #[.agg #[.pointer (some ⟨p, 0, none⟩)], .int .u64 m] w fun e w' => ((nS s m).2.2 = 0 ∧ e = .returned (.int .i64 (nS s m).1.1) ∧ (0 ≤ (nS s m).1.1 ∧ (nS s m).1.1 ≤ m) ∧ InvO 107 W p ok b1 o1 b2 o2 b3 o3 (nS s m).2 w') ∨ ((nS s m).2.2 ≠ 0 ∧ e = stopE (nS s m).2.2 ∧ But (· = p) W w') := by
  have hv := nS_val s m h.at_.2.1 hm.1
  refine (num_d m hm p ok s w h.at_).mono ?_
  rintro e w' ⟨⟨h0, he, ha⟩ | ⟨h0, he⟩, hb⟩
  · exact .inl ⟨h0, he, hv, h.go L ha hb⟩
  · exact .inr ⟨h0, he, h.but.then_ hb⟩
end
theorem i64_32 {n : Int} (h : num32 n) : i64 n := ⟨by have := h.1; omega, by have := h.2; omega⟩
theorem i64_k (n : Int) (h : -100 ≤ n ∧ n ≤ 100) : i64 n := ⟨by omega, by omega⟩
theorem size_up {s : ByteArray} (h : s.size ≤ 65536) : s.size ≤ 140737488351232 := by omega
/-- What codec's reading of an operation tells. -/
def opPost (W : World) (p : Nat) (ok : Nat → Prop) (R : (S42 × Int) × St) (e : Ending) (w' : World) : Prop :=
  But (· = p) W w' ∧ ((R.1.2 = 0 ∧ ∃ v8, e = .returned (opV R.1.1.f0 R.1.1.f1 R.1.1.f2 R.1.1.f3 R.1.1.f4 R.1.1.f5 R.1.1.f6 R.1.1.f7 v8) ∧ k44.R 44 w' W.heap.size (fun _ => True) v8 R.1.1.f8 ∧ AtR 107 p ok R.2.1 R.2.2 w') ∨ (R.1.2 ≠ 0 ∧ e = stopE R.1.2))
theorem opPost_stop {W : World} {p : Nat} {ok : Nat → Prop} {R : (S42 × Int) × St} {w' : World} {n : Int} (hb : But (· = p) W w') (hn : n ≠ 0) (he : R.1.2 = n) : opPost W p ok R (stopE n) w' :=
  ⟨hb, .inr ⟨by rw [he]; exact hn, by rw [he]⟩⟩
theorem opPost_ok {W : World} {p : Nat} {ok : Nat → Prop} {x : S42} {n : Int} {s' : St} {w' : World} {e : Ending} (HF : AtB 107 W p ok s' w') (h0 : n = 0) (v8 : Value) (he : e = .returned (opV x.f0 x.f1 x.f2 x.f3 x.f4 x.f5 x.f6 x.f7 v8)) (hR : k44.R 44 w' W.heap.size (fun _ => True) v8 x.f8) : opPost W p ok ((x, n), s') e w' :=
  ⟨HF.but, .inl ⟨h0, v8, he, hR, HF.at_⟩⟩
theorem opR_bad (s : St) {s1 : St} (hs1 : s1 = (nS s 7).2) (k n : Int) (hk : (nS s 7).1 = (k, 0)) (hk0 : k ≠ 0) (h : (bodyR k s1).2.2 = n) (hn : n ≠ 0) : (opR s).1.2 = n := by
  subst h hs1
  unfold opR
  rw [hk]
  simp only
  rw [if_neg (by simp), if_neg hk0, if_pos hn]
theorem opR_good (s : St) {s1 : St} (hs1 : s1 = (nS s 7).2) (k : Int) (hk : (nS s 7).1 = (k, 0)) (hk0 : k ≠ 0) (h : (bodyR k s1).2.2 = 0) : opR s = (((bodyR k s1).1, chk (bodyR k s1).1), (bodyR k s1).2) := by
  subst hs1
  unfold opR
  rw [hk]
  simp only
  rw [if_neg (by simp), if_neg hk0, if_neg (by simp [h])]
end Go.Proofs.YtfpijjjmgggfkaaDoorE

namespace Go.Proofs.YtfpijjjmgggfkaaDoorE
open Go Go.RowKit Go.Proofs.YtfpijjjmgggfkaaDoorW.PrintWords Go.Proofs.YtfpijjjmgggfkaaDoorW.PrintMore Go.Proofs.YtfpijjjmgggfkaaDoorW.PrintLast Go.Proofs.YtfpijjjmgggfkaaDoorX Go.Proofs.YtfpijjjmgggfkaaDoor.P26 Go.Proofs.YtfpijjjmgggfkaaDoor.L01
set_option linter.unusedVariables false
set_option linter.unusedSimpArgs false
theorem info_attr : (Tryd.prog.info? 44).map (fun i => (i.zero, i.size, i.bytes)) = some (some (.agg #[.string ⟨#[]⟩, .string ⟨#[]⟩]), k44.sz, 32) := by kernel_rfl
theorem cell_far {w : World} {a : Addr} {v u : Value} {b j : Nat} (h : w.cell? a = some v) (hne : ¬ a.block = b) : (w.setCell ⟨b, j, none⟩ u).cell? a = some v := by
  rw [World.cell?_setCell_other _ _ _ _ (fun e => hne (by rw [← e]))]; exact h
theorem InvO.drew {T : Nat} {W : World} {p : Nat} {ok : Nat → Prop} {b1 : Nat} {o1 : Obj} {b2 : Nat} {o2 : Obj} {b3 : Nat} {o3 : Obj} {s : St} {w : World} (h : InvO T W p ok b1 o1 b2 o2 b3 o3 s w) (L : Lie W p ok b1 b2 b3) : InvO T W p ok b1 o1 b2 o2 b3 o3 s w.drew := h.below L (below_drew (Below.refl _ _))
/-- A call in a drawn region that may end in a panic. -/
theorem goesD_ {P : Program} {ops : Array Oper} {Q : Exit → Act → World → Prop} {oi : Oper} {N : Option Tmp} {a : Act} {w : World} {K : Act → World → Prop} {f : FuncId} {fn : Func} {ag : Array Operand} {ts : Array TypeId} (hf : P.funcs[f]? = some fn) (hname : (fn.name == "runtime.NumGoroutine") = false) (hb : fn.body.isSome = true) (args : Array Value)
    (hw : Region.wanted oi (yielded ops a.tmps) = true) (hN : oi.dst = N) (hop : oi.op = .call { callee := .value (.func f), args := ag, argTypes := ts }) (hargs : ag.map a.eval = args)
    (h : Calls P f args w fun e w' => (∃ v, e = .returned v ∧ K (a.put N v) w') ∨ (∃ ps, e = .panicked ps ∧ Q (.panic ps) a w')) : if Region.wanted oi (yielded ops a.tmps) = true then Oper.wp P oi a w K Q else K (a.put N undef) w := by
  have he := enters_ hf hname hb args w
  have hrun : (execOp a.eval oi).run P w = .ok (.enter f args) w := by
    unfold execOp
    simp [hop, resolve, Deferred.ofValue, invoke, Act.eval, hargs, he]
  rw [if_pos hw]
  subst hN
  unfold Oper.wp
  rw [hrun, Oper.upon_enter]
  refine h.mono fun e w'' hh => ?_
  rcases hh with ⟨v, rfl, hk⟩ | ⟨ps, rfl, hk⟩
  · exact hk
  · exact hk
theorem InvO.textB {W : World} {p : Nat} {ok : Nat → Prop} {b1 : Nat} {o1 : Obj} {b2 : Nat} {o2 : Obj} {b3 : Nat} {o3 : Obj} {s : St} {w : World} (h : InvO 107 W p ok b1 o1 b2 o2 b3 o3 s w) (L : Lie W p ok b1 b2 b3) :
    Calls Tryd.prog 60 #[.agg #[.pointer (some ⟨p, 0, none⟩)]] w fun e w' => ((tS s).2.2 = 0 ∧ e = .returned (.string (tS s).1.1) ∧ (tS s).1.1.size ≤ 65536 ∧ (∀ j, j < w.heap.size → j ≠ p → w'.heap[j]? = w.heap[j]?) ∧ InvO 107 W p ok b1 o1 b2 o2 b3 o3 (tS s).2 w') ∨ ((tS s).2.2 ≠ 0 ∧ e = stopE (tS s).2.2 ∧ But (· = p) W w') := by
  have hv := tS_size s h.at_.2.1
  refine (text_d p ok s w h.at_).mono ?_
  rintro e w' ⟨⟨h0, he, ha⟩ | ⟨h0, he⟩, hb⟩
  · exact .inl ⟨h0, he, hv, fun j h1 h2 => hb.block j h1 h2, h.go L ha hb⟩
  · exact .inr ⟨h0, he, h.but.then_ hb⟩
theorem attrsR_bad1 (d : Nat) (s : St) (h : (tS s).2.2 ≠ 0) : (attrsR (d + 1) s).2 = (tS s).2 := by
  show (attrsR d (tS (tS s).2).2).2 = _
  rw [tS_stick _ h]
  exact attrsR_stick d _ h
theorem attrsR_bad2 (d : Nat) (s : St) (h : (tS (tS s).2).2.2 ≠ 0) : (attrsR (d + 1) s).2 = (tS (tS s).2).2 := attrsR_stick d _ h
/-- What holds behind k attributes. -/
def InvL (w : World) (p : Nat) (ok : Nat → Prop) (c n : Nat) (s5 : St) (t1 t2 t3 : ByteArray) (k : Nat) (wr : World) : Prop :=
  ∃ (l : List S44) (sk : St) (v8 : Value), l.length = k ∧ attrsR n s5 = (l ++ (attrsR (n - k) sk).1, (attrsR (n - k) sk).2) ∧ sk.2 = 0 ∧ (∀ x ∈ l, x.f0.size ≤ 65536 ∧ x.f1.size ≤ 65536) ∧
    InvO 107 w p ok w.heap.size (.cells #[.pointer (some ⟨p, 0, none⟩)] 87) (w.heap.size + 1) (.cells #[.int .i64 0, .int .i64 0, .int .i64 0, .int .i64 0, .string ⟨#[]⟩, .string ⟨#[]⟩, .string ⟨#[]⟩, .string ⟨#[]⟩, .slice none 0 0] 42) c (.cells #[.int .i64 1, .int .i64 0, .int .i64 0, .int .i64 0, .string t1, .string t2, .string ⟨#[]⟩, .string t3, v8] 42) sk wr ∧
    k44.R 44 wr w.heap.size (fun b => b ≠ p ∧ b ≠ w.heap.size ∧ b ≠ w.heap.size + 1 ∧ b ≠ c) v8 l
theorem InvO.grown {T : Nat} {W : World} {p : Nat} {ok : Nat → Prop} {b1 : Nat} {o1 : Obj} {b2 : Nat} {o2 : Obj} {b3 : Nat} {o3 : Obj} {s : St} {w w' : World} (h : InvO T W p ok b1 o1 b2 o2 b3 o3 s w) (L : Lie W p ok b1 b2 b3) {row : Option Nat} (g : w.grownBy w' row) (hr : ∀ k, row = some k → W.heap.size ≤ k ∧ k ≠ b1 ∧ k ≠ b2 ∧ k ≠ b3) : InvO T W p ok b1 o1 b2 o2 b3 o3 s w' := by
  have hp := L.p1
  refine ⟨h.but.grown g (fun k hk => .inr (hr k hk).1), h.at_.but ((But.refl (fun k => row = some k) w).grown g (fun k hk => .inl hk)) (fun k hk => ⟨by have := (hr k hk).1; omega, fun e => by have := L.okp _ e; have := (hr k hk).1; omega⟩), ?_, ?_, ?_⟩
  · exact (g.block b1 (blk_lt' h.k1) (fun e => (hr b1 e.symm).2.1 rfl)).trans h.k1
  · exact (g.block b2 (blk_lt' h.k2) (fun e => (hr b2 e.symm).2.2.1 rfl)).trans h.k2
  · exact (g.block b3 (blk_lt' h.k3) (fun e => (hr b3 e.symm).2.2.2 rfl)).trans h.k3
set_option maxHeartbeats 2000000 in
set_option maxRecDepth 100000 in
theorem op_1 (w0 : World) (hgl : GL w0) (p : Nat) (ok : Nat → Prop) (s : St) (w : World) (hok : ∀ k, ok k → k < p) (hw : Below w0.heap.size w0 w) (hw0 : w0.heap.size ≤ p) (h : AtR 107 p ok s.1 s.2 w) (hk : (nS s 7).1 = (1, 0)) :
    Calls Tryd.prog 41 #[.agg #[.pointer (some ⟨p, 0, none⟩)]] w fun e w' => opPost w p ok (opR s) e w' := by
  have hpw := h.lt
  have H := Aside0.mk h
  have he7 : (nS s 7).2.2 = 0 := by rw [← nS_err, hk]
  have HN : Aside0 (∀ W, AtR 107 p ok s.1 s.2 W → Calls Tryd.prog 40 #[.agg #[.pointer (some ⟨p, 0, none⟩)], .int .u64 7] W fun e w' => e = .returned (.int .i64 1) ∧ AtR 107 p ok (nS s 7).2.1 (nS s 7).2.2 w' ∧ But (· = p) W w') := ⟨fun W hW => (num_d 7 (by omega) p ok s W hW).mono (by
    rintro e w' ⟨⟨h0, he, ha⟩ | ⟨h0, he⟩, hb⟩
    · rw [hk] at he
      exact ⟨he, ha, hb⟩
    · exact absurd he7 h0)⟩
  obtain ⟨s1, hs1⟩ : ∃ s1, s1 = (nS s 7).2 := ⟨_, rfl⟩
  rw [← hs1] at HN
  have HG := Aside0.mk hgl
  have HWW := Aside0.mk hw
  have HS1 := Aside0.mk hs1
  clear h hgl he7 hs1 hw
  go_enter Tryd.func41, Tryd.ntmps41
  go_wp2_with (first
    | (go_at_call 40; (refine (HN.out _ (AtR.al (AtR.al H.out _) _)).mono ?_); rintro e w1 ⟨rfl, h2, h3⟩; have HI0 := Aside0.mk (inv_start 107 w p ok (.cells #[.pointer (some ⟨p, 0, none⟩)] 87) (.cells #[.int .i64 0, .int .i64 0, .int .i64 0, .int .i64 0, .string ⟨#[]⟩, .string ⟨#[]⟩, .string ⟨#[]⟩, .string ⟨#[]⟩, .slice none 0 0] 42) (.cells #[.int .i64 1, .int .i64 0, .int .i64 0, .int .i64 0, .string ⟨#[]⟩, .string ⟨#[]⟩, .string ⟨#[]⟩, .string ⟨#[]⟩, .slice none 0 0] 42) s1 w1 hpw h2 h3); have L := Aside0.mk (lie_start w p ok _ _ w1 hpw hok h3); obtain ⟨c, hc⟩ : ∃ c, c = w1.heap.size := ⟨_, rfl⟩; have hne : ¬ w.heap.size = w1.heap.size := L.out.n13; have hne2 : ¬ w.heap.size + 1 = w1.heap.size := L.out.n23; have q0 := cell_blk (j := 0) (v := .pointer (some ⟨p, 0, none⟩)) HI0.out.k1 rfl; clear h2 h3 hc))
  have HI0' := Aside0.mk (HI0.out.drew L.out)
  have hq0 := cell_drew q0
  clear q0
  refine start_ (n := 12) (S := fun w' => w'.cell? ⟨w.heap.size, 0, none⟩ = some (.pointer (some ⟨p, 0, none⟩))) (ds := []) #[false, false, false, false, false, false, false, false, false, false, false, false] (by kernel_rfl) rfl rfl hq0 (fun hHeld => ?_)
  refine take_ (i := 0) (N := some 14) (v := ?_) (a' := ?_) #[true, false, false, false, false, false, false, false, false, false, false, false] rfl rfl (by kernel_rfl) (fun _ _ _ h => h) (Or.inl ⟨by rfl, ?_⟩) hHeld ?_ ?_
  rotate_left
  · intro w' s0
    go_split_ands
    go_simp
    with_reducible rfl
  rotate_left
  · simp only [Act.put, List.setIfInBounds_toArray, List.set_cons_zero, List.set_cons_succ, i64_w, i32_w]
    rfl
  refine take_ (i := 2) (N := some 16) (v := ?_) (a' := ?_) #[true, false, true, false, false, false, false, false, false, false, false, false] rfl rfl (by kernel_rfl) (fun _ _ _ h => h) (Or.inl ⟨by rfl, ?_⟩) hHeld ?_ ?_
  rotate_left
  · intro w' s0
    go_split_ands
    go_simp
    with_reducible rfl
  rotate_left
  · simp only [Act.put, List.setIfInBounds_toArray, List.set_cons_zero, List.set_cons_succ, i64_w, i32_w]
    rfl
  refine take_ (i := 4) (N := some 18) (v := ?_) (a' := ?_) #[true, false, true, false, true, false, false, false, false, false, false, false] rfl rfl (by kernel_rfl) (fun _ _ _ h => h) (Or.inl ⟨by rfl, ?_⟩) hHeld ?_ ?_
  rotate_left
  · intro w' s0
    go_split_ands
    go_simp
    with_reducible rfl
  rotate_left
  · simp only [Act.put, List.setIfInBounds_toArray, List.set_cons_zero, List.set_cons_succ, i64_w, i32_w]
    rfl
  refine one_ (i := 1) (N := some 15) #[true, true, true, false, true, false, false, false, false, false, false, false] rfl rfl (by kernel_rfl) (by decide) (fun K hK => ?_)
  refine goesD_ Tryd.func60 (by kernel_rfl) rfl #[.agg #[.pointer (some ⟨p, 0, none⟩)]] (by rfl) rfl rfl (by (try simp only [List.map_toArray, List.map_cons, List.map_nil]); first | done | rfl) ?_
  refine (InvO.text HI0'.out L.out).mono ?_
  rintro e w' (⟨he1, rfl, hv1, hI⟩ | ⟨he, rfl, hb⟩)
  rotate_left
  · exact .inr ⟨_, rfl, ⟨rfl, opPost_stop hb he (opR_bad s HS1.out 1 _ hk (by decide) (by simp [bodyR, hS_stick (tS s1).2 he, tS_stick (tS s1).2 he, nS_stick (tS s1).2 64 he, attrsR]) he)⟩⟩
  refine .inl ⟨_, rfl, ?_⟩
  have HI1 := Aside0.mk hI
  have HE1 := Aside0.mk he1
  have HV1 := Aside0.mk hv1
  clear hI he1 hv1
  have q1 := cell_blk (j := 0) (v := (.pointer (some ⟨p, 0, none⟩))) HI1.out.k1 rfl
  refine hK.out _ _ q1 (fun hHeld => ?_)
  clear hK K
  refine norm_ (a' := ?_) ?_ ?_
  rotate_left
  · show Act.put _ (some 15) _ = _
    simp only [Act.put, List.setIfInBounds_toArray, List.set_cons_zero, List.set_cons_succ, i64_w, i32_w]
    rfl
  refine pure_ (i := 6) (N := some 20) (v := ?_) (a' := ?_) #[true, true, true, false, true, false, true, false, false, false, false, false] rfl rfl (by kernel_rfl) (fun _ _ _ h => h) (Or.inl ⟨by rfl, ?_⟩) ?_ ?_
  rotate_left
  · intro w'
    go_simp
    with_reducible rfl
  rotate_left
  · simp only [Act.put, List.setIfInBounds_toArray, List.set_cons_zero, List.set_cons_succ, i64_w, i32_w]
    rfl
  refine one_ (i := 3) (N := some 17) #[true, true, true, true, true, false, true, false, false, false, false, false] rfl rfl (by kernel_rfl) (by decide) (fun K hK => ?_)
  refine goesD_ Tryd.func60 (by kernel_rfl) rfl #[.agg #[.pointer (some ⟨p, 0, none⟩)]] (by rfl) rfl rfl (by (try simp only [List.map_toArray, List.map_cons, List.map_nil]); first | done | rfl) ?_
  refine (InvO.text HI1.out L.out).mono ?_
  rintro e w' (⟨he2, rfl, hv2, hI⟩ | ⟨he, rfl, hb⟩)
  rotate_left
  · exact .inr ⟨_, rfl, ⟨rfl, opPost_stop hb he (opR_bad s HS1.out 1 _ hk (by decide) (by simp [bodyR, hS_stick (tS (tS s1).2).2 he, tS_stick (tS (tS s1).2).2 he, nS_stick (tS (tS s1).2).2 64 he, attrsR]) he)⟩⟩
  refine .inl ⟨_, rfl, ?_⟩
  have HI2 := Aside0.mk hI
  have HE2 := Aside0.mk he2
  have HV2 := Aside0.mk hv2
  clear hI he2 hv2
  have q2 := cell_blk (j := 0) (v := (.pointer (some ⟨p, 0, none⟩))) HI2.out.k1 rfl
  refine hK.out _ _ q2 (fun hHeld => ?_)
  clear hK K
  refine norm_ (a' := ?_) ?_ ?_
  rotate_left
  · show Act.put _ (some 17) _ = _
    simp only [Act.put, List.setIfInBounds_toArray, List.set_cons_zero, List.set_cons_succ, i64_w, i32_w]
    rfl
  refine one_ (i := 5) (N := some 19) #[true, true, true, true, true, true, true, false, false, false, false, false] rfl rfl (by kernel_rfl) (by decide) (fun K hK => ?_)
  refine goesD_ Tryd.func60 (by kernel_rfl) rfl #[.agg #[.pointer (some ⟨p, 0, none⟩)]] (by rfl) rfl rfl (by (try simp only [List.map_toArray, List.map_cons, List.map_nil]); first | done | rfl) ?_
  refine (InvO.text HI2.out L.out).mono ?_
  rintro e w' (⟨he3, rfl, hv3, hI⟩ | ⟨he, rfl, hb⟩)
  rotate_left
  · exact .inr ⟨_, rfl, ⟨rfl, opPost_stop hb he (opR_bad s HS1.out 1 _ hk (by decide) (by simp [bodyR, hS_stick (tS (tS (tS s1).2).2).2 he, tS_stick (tS (tS (tS s1).2).2).2 he, nS_stick (tS (tS (tS s1).2).2).2 64 he, attrsR]) he)⟩⟩
  refine .inl ⟨_, rfl, ?_⟩
  have HI3 := Aside0.mk hI
  have HE3 := Aside0.mk he3
  have HV3 := Aside0.mk hv3
  clear hI he3 hv3
  have q3 := cell_blk (j := 0) (v := (.pointer (some ⟨p, 0, none⟩))) HI3.out.k1 rfl
  refine hK.out _ _ q3 (fun hHeld => ?_)
  clear hK K
  refine norm_ (a' := ?_) ?_ ?_
  rotate_left
  · show Act.put _ (some 19) _ = _
    simp only [Act.put, List.setIfInBounds_toArray, List.set_cons_zero, List.set_cons_succ, i64_w, i32_w]
    rfl
  have x4 := cell_blk (j := 4) (v := .string ⟨#[]⟩) HI3.out.k3 rfl
  have z4 := Lib.frozen_of_heap HI3.out.k3 4
  have x5 := cell_blk (j := 5) (v := .string ⟨#[]⟩) HI3.out.k3 rfl
  have z5 := Lib.frozen_of_heap HI3.out.k3 5
  have x7 := cell_blk (j := 7) (v := .string ⟨#[]⟩) HI3.out.k3 rfl
  have z7 := Lib.frozen_of_heap HI3.out.k3 7
  refine one_ (i := 7) (N := none) #[true, true, true, true, true, true, true, true, false, false, false, false] rfl rfl (by kernel_rfl) (by decide) (fun K hK => ?_)
  refine skip_ (w1 := ?_) (by rfl) rfl ?_ ?_
  rotate_left
  · go_simp
    rfl
  refine hK.out _ _ (cell_far q3 hne) (fun hHeld => ?_)
  clear hK K
  refine pure_ (i := 8) (N := some 21) (v := ?_) (a' := ?_) #[true, true, true, true, true, true, true, true, true, false, false, false] rfl rfl (by kernel_rfl) (fun _ _ _ h => h) (Or.inl ⟨by rfl, ?_⟩) ?_ ?_
  rotate_left
  · intro w'
    go_simp
    with_reducible rfl
  rotate_left
  · simp only [Act.put, List.setIfInBounds_toArray, List.set_cons_zero, List.set_cons_succ, i64_w, i32_w]
    rfl
  refine one_ (i := 9) (N := none) #[true, true, true, true, true, true, true, true, true, true, false, false] rfl rfl (by kernel_rfl) (by decide) (fun K hK => ?_)
  refine skip_ (w1 := ?_) (by rfl) rfl ?_ ?_
  rotate_left
  · go_simp
    rfl
  refine hK.out _ _ (cell_far (cell_far q3 hne) hne) (fun hHeld => ?_)
  clear hK K
  refine pure_ (i := 10) (N := some 22) (v := ?_) (a' := ?_) #[true, true, true, true, true, true, true, true, true, true, true, false] rfl rfl (by kernel_rfl) (fun _ _ _ h => h) (Or.inl ⟨by rfl, ?_⟩) ?_ ?_
  rotate_left
  · intro w'
    go_simp
    with_reducible rfl
  rotate_left
  · simp only [Act.put, List.setIfInBounds_toArray, List.set_cons_zero, List.set_cons_succ, i64_w, i32_w]
    rfl
  refine one_ (i := 11) (N := none) #[true, true, true, true, true, true, true, true, true, true, true, true] rfl rfl (by kernel_rfl) (by decide) (fun K hK => ?_)
  refine skip_ (w1 := ?_) (by rfl) rfl ?_ ?_
  rotate_left
  · go_simp
    rfl
  refine hK.out _ _ (cell_far (cell_far (cell_far q3 hne) hne) hne) (fun hHeld => ?_)
  clear hK K
  refine done_ (by kernel_rfl) ?_
  have HI4 := Aside0.mk (InvO.set (InvO.set (InvO.set HI3.out L.out 4 (.string (tS s1).1.1)) L.out 5 (.string (tS (tS s1).2).1.1)) L.out 7 (.string (tS (tS (tS s1).2).2).1.1))
  have q4 := cell_far (j := 7) (u := .string (tS (tS (tS s1).2).2).1.1) (cell_far (j := 5) (u := .string (tS (tS s1).2).1.1) (cell_far (j := 4) (u := .string (tS s1).1.1) q3 hne) hne) hne
  clear q1 q2 q3 x4 x5 x7 z4 z5 z7 hq0 hHeld
  try clear hHeld
  try clear hHeld
  obtain ⟨s4, hs4⟩ : ∃ s4, s4 = (tS (tS (tS s1).2).2).2 := ⟨_, rfl⟩
  rw [← hs4] at HI4
  have HB1 : Aside0 (bodyR 1 s1 = (⟨1, 0, 0, 0, (tS s1).1.1, (tS (tS s1).2).1.1, em, (tS (tS (tS s1).2).2).1.1, (attrsR (nS s4 64).1.1.toNat (nS s4 64).2).1⟩, (attrsR (nS s4 64).1.1.toNat (nS s4 64).2).2)) := ⟨by rw [hs4]; rfl⟩
  clear hs4
  obtain ⟨t1, ht1⟩ : ∃ t1, t1 = (tS s1).1.1 := ⟨_, rfl⟩
  obtain ⟨t2, ht2⟩ : ∃ t2, t2 = (tS (tS s1).2).1.1 := ⟨_, rfl⟩
  obtain ⟨t3, ht3⟩ : ∃ t3, t3 = (tS (tS (tS s1).2).2).1.1 := ⟨_, rfl⟩
  rw [← ht1] at HI4 HB1 HV1 q4 ⊢
  rw [← ht2] at HI4 HB1 HV2 q4 ⊢
  rw [← ht3] at HI4 HB1 HV3 q4 ⊢
  clear ht1 ht2 ht3
  go_wp2_with (go_at_call 40; (refine (InvO.num HI4.out L.out 64 (by omega)).mono ?_); rintro e w5 (⟨he4, rfl, hv4, hI⟩ | ⟨he, rfl, hb⟩); rotate_left; go_loud (focus (unfold stopE; go_wp2_with fail; exact ⟨rfl, opPost_stop hb he (opR_bad s HS1.out 1 _ hk (by decide) (by rw [HB1.out]; exact congrArg Prod.snd (attrsR_stick _ _ he)) he)⟩)); have HI5 := Aside0.mk hI; have HV4 := Aside0.mk hv4; have HE4 := Aside0.mk he4; clear hI hv4 he4)
  obtain ⟨n, hn⟩ : ∃ n : Nat, (nS s4 64).1.1 = (n : Int) := ⟨(nS s4 64).1.1.toNat, by have := HV4.out.1; omega⟩
  obtain ⟨s5, hs5⟩ : ∃ s5, s5 = (nS s4 64).2 := ⟨_, rfl⟩
  have hn64 : n ≤ 64 := by have := HV4.out.2; omega
  rw [hn] at HB1 ⊢
  rw [← hs5] at HB1 HI5 HE4
  simp only [Int.toNat_natCast] at HB1
  clear hn hs5 HV4
  have HL0 : Aside0 (InvL w p ok w1.heap.size n s5 t1 t2 t3 0 w5) := ⟨[], s5, .slice none 0 0, rfl, by simp, HE4.out, by simp, HI5.out, Kd.R_nil k44 44 _ _ _⟩
  clear HI5 q4
  go_loopw [25] (fun i wr => ∃ k : Nat, k ≤ n ∧ i = .int .i64 k ∧ Aside0 (InvL w p ok w1.heap.size n s5 t1 t2 t3 k wr)) (fun i _ => n - (intOf i).toNat)
  case atStart => exact ⟨0, Nat.zero_le _, rfl, HL0⟩
  case round =>
    obtain ⟨k, hkn, rfl, HR⟩ := hrel
    by_cases hlt : k < n
    · obtain ⟨l, sk, v8, hl, hat, hs0, hsz, hI, hR⟩ := HR.out
      obtain ⟨d, hd⟩ : ∃ d, n - k = d + 1 := ⟨n - k - 1, by omega⟩
      rw [hd] at hat
      have HAT := Aside0.mk hat
      have HSZ := Aside0.mk hsz
      have HL := Aside0.mk hl
      have HRR := Aside0.mk (Kd.R_drew hR)
      have HI6 := Aside0.mk (hI.drew L.out)
      have q6 := cell_blk (j := 0) (v := (.pointer (some ⟨p, 0, none⟩))) HI6.out.k1 rfl
      have y6 := cell_blk (j := 8) (v := v8) HI6.out.k3 rfl
      obtain ⟨A8, c8, rfl⟩ := Kd.R_slice hR
      clear hl hat hs0 hsz hI hR
      go_wp2_with fail
      refine start_ (n := 11) (S := fun w' => w'.cell? ⟨w.heap.size, 0, none⟩ = some (.pointer (some ⟨p, 0, none⟩)) ∧ w'.cell? ⟨w1.heap.size, 8, none⟩ = some (.slice A8 l.length c8)) (ds := [10]) #[false, false, false, false, false, false, false, false, false, false, false] (by kernel_rfl) rfl rfl ⟨q6, y6⟩ (fun hHeld => ?_)
      refine pure_ (i := 0) (N := some 27) (v := ?_) (a' := ?_) #[true, false, false, false, false, false, false, false, false, false, false] rfl rfl (by kernel_rfl) (fun _ _ _ h => h) (Or.inl ⟨by rfl, ?_⟩) ?_ ?_
      rotate_left
      · intro w'
        go_simp
        with_reducible rfl
      rotate_left
      · simp only [Act.put, List.setIfInBounds_toArray, List.set_cons_zero, List.set_cons_succ, i64_w, i32_w]
        rfl
      refine take_ (i := 2) (N := some 29) (v := ?_) (a' := ?_) #[true, false, true, false, false, false, false, false, false, false, false] rfl rfl (by kernel_rfl) (fun _ _ _ h => h) (Or.inl ⟨by rfl, ?_⟩) hHeld ?_ ?_
      rotate_left
      · intro w' s0
        go_split_ands
        go_simp
        with_reducible rfl
      rotate_left
      · simp only [Act.put, List.setIfInBounds_toArray, List.set_cons_zero, List.set_cons_succ, i64_w, i32_w]
        rfl
      refine take_ (i := 4) (N := some 31) (v := ?_) (a' := ?_) #[true, false, true, false, true, false, false, false, false, false, false] rfl rfl (by kernel_rfl) (fun _ _ _ h => h) (Or.inl ⟨by rfl, ?_⟩) hHeld ?_ ?_
      rotate_left
      · intro w' s0
        go_split_ands
        go_simp
        with_reducible rfl
      rotate_left
      · simp only [Act.put, List.setIfInBounds_toArray, List.set_cons_zero, List.set_cons_succ, i64_w, i32_w]
        rfl
      refine take_ (i := 1) (N := some 28) (v := ?_) (a' := ?_) #[true, true, true, false, true, false, false, false, false, false, false] rfl rfl (by kernel_rfl) (fun _ _ _ h => h) (Or.inl ⟨by rfl, ?_⟩) hHeld ?_ ?_
      rotate_left
      · intro w' s0
        go_split_ands
        go_simp
        with_reducible rfl
      rotate_left
      · simp only [Act.put, List.setIfInBounds_toArray, List.set_cons_zero, List.set_cons_succ, i64_w, i32_w]
        rfl
      refine one_ (i := 3) (N := some 30) #[true, true, true, true, true, false, false, false, false, false, false] rfl rfl (by kernel_rfl) (by decide) (fun K hK => ?_)
      refine goesD_ Tryd.func60 (by kernel_rfl) rfl #[.agg #[.pointer (some ⟨p, 0, none⟩)]] (by rfl) rfl rfl (by (try simp only [List.map_toArray, List.map_cons, List.map_nil]); first | done | rfl) ?_
      refine (InvO.textB HI6.out L.out).mono ?_
      rintro e w' (⟨he7, rfl, hv7, hblk, hI⟩ | ⟨he, rfl, hb⟩)
      rotate_left
      · exact .inr ⟨_, rfl, ⟨rfl, opPost_stop hb he (opR_bad s HS1.out 1 _ hk (by decide) (by rw [HB1.out, HAT.out]; exact congrArg Prod.snd (attrsR_bad1 d sk he)) he)⟩⟩
      refine .inl ⟨_, rfl, ?_⟩
      have HRR := Aside0.mk (Kd.R_step HRR.out (fun j hj hlt => hblk j hlt hj.1))
      have HI7 := Aside0.mk hI
      have HE7 := Aside0.mk he7
      have HV7 := Aside0.mk hv7
      clear hI he7 hv7 hblk
      have q7 := cell_blk (j := 0) (v := (.pointer (some ⟨p, 0, none⟩))) HI7.out.k1 rfl
      have y7 := cell_blk (j := 8) (v := .slice A8 l.length c8) HI7.out.k3 rfl
      refine hK.out _ _ ⟨q7, y7⟩ (fun hHeld => ?_)
      clear hK K
      refine norm_ (a' := ?_) ?_ ?_
      rotate_left
      · show Act.put _ (some 30) _ = _
        simp only [Act.put, List.setIfInBounds_toArray, List.set_cons_zero, List.set_cons_succ, i64_w, i32_w]
        rfl
      refine one_ (i := 5) (N := some 32) #[true, true, true, true, true, true, false, false, false, false, false] rfl rfl (by kernel_rfl) (by decide) (fun K hK => ?_)
      refine goesD_ Tryd.func60 (by kernel_rfl) rfl #[.agg #[.pointer (some ⟨p, 0, none⟩)]] (by rfl) rfl rfl (by (try simp only [List.map_toArray, List.map_cons, List.map_nil]); first | done | rfl) ?_
      refine (InvO.textB HI7.out L.out).mono ?_
      rintro e w' (⟨he8, rfl, hv8, hblk, hI⟩ | ⟨he, rfl, hb⟩)
      rotate_left
      · exact .inr ⟨_, rfl, ⟨rfl, opPost_stop hb he (opR_bad s HS1.out 1 _ hk (by decide) (by rw [HB1.out, HAT.out]; exact congrArg Prod.snd (attrsR_bad2 d sk he)) he)⟩⟩
      refine .inl ⟨_, rfl, ?_⟩
      have HRR := Aside0.mk (Kd.R_step HRR.out (fun j hj hlt => hblk j hlt hj.1))
      have HI8 := Aside0.mk hI
      have HE8 := Aside0.mk he8
      have HV8 := Aside0.mk hv8
      clear hI he8 hv8 hblk
      have q8 := cell_blk (j := 0) (v := (.pointer (some ⟨p, 0, none⟩))) HI8.out.k1 rfl
      have y8 := cell_blk (j := 8) (v := .slice A8 l.length c8) HI8.out.k3 rfl
      refine hK.out _ _ ⟨q8, y8⟩ (fun hHeld => ?_)
      clear hK K
      refine norm_ (a' := ?_) ?_ ?_
      rotate_left
      · show Act.put _ (some 32) _ = _
        simp only [Act.put, List.setIfInBounds_toArray, List.set_cons_zero, List.set_cons_succ, i64_w, i32_w]
        rfl
      refine pure_ (i := 6) (N := some 33) (v := ?_) (a' := ?_) #[true, true, true, true, true, true, true, false, false, false, false] rfl rfl (by kernel_rfl) (fun _ _ _ h => h) (Or.inl ⟨by rfl, ?_⟩) ?_ ?_
      rotate_left
      · intro w'
        go_simp
        with_reducible rfl
      rotate_left
      · simp only [Act.put, List.setIfInBounds_toArray, List.set_cons_zero, List.set_cons_succ, i64_w, i32_w]
        rfl
      refine one_ (i := 7) (N := some 34) #[true, true, true, true, true, true, true, true, false, false, false] rfl rfl (by kernel_rfl) (by decide) (fun K hK => ?_)
      refine value_ (w1 := World.alloc w' (.cells #[.string (tS sk).1.1, .string (tS (tS sk).2).1.1] 44)) (v := .slice (some ⟨w'.heap.size, 0, none⟩) 1 1) (by rfl) rfl ?_ ?_
      · go_simp
      refine hK.out _ _ ⟨pw_cell_below (below_alloc (Below.refl _ _) _) q8, pw_cell_below (below_alloc (Below.refl _ _) _) y8⟩ (fun hHeld => ?_)
      clear hK K
      refine norm_ (a' := ?_) ?_ ?_
      rotate_left
      · show Act.put _ (some 34) _ = _
        simp only [Act.put, List.setIfInBounds_toArray, List.set_cons_zero, List.set_cons_succ, i64_w, i32_w]
        rfl
      refine one_ (i := 8) (N := some 35) #[true, true, true, true, true, true, true, true, true, false, false] rfl rfl (by kernel_rfl) (by decide) (fun K hK => ?_)
      refine Kd.R_append_step (w0 := w') (W := w') k44 w.heap.size (by rfl) (.tmp 28) (.tmp 34) 40 44 (.agg #[.string ⟨#[]⟩, .string ⟨#[]⟩]) 32 rfl Tryd.underlying40 info_attr rfl (by decide) (by decide) (.slice A8 l.length c8) l ⟨(tS sk).1.1, (tS (tS sk).2).1.1⟩ [.string (tS sk).1.1, .string (tS (tS sk).2).1.1] (fun b => b ≠ p ∧ b ≠ w.heap.size ∧ b ≠ w.heap.size + 1 ∧ b ≠ w1.heap.size) (fun _ => False) rfl rfl (k44_mkM w' w.heap.size _ ⟨(tS sk).1.1, (tS (tS sk).2).1.1⟩) (fun _ h => h.elim) (fun j hj => ?_) HRR.out (Below.refl _ _) HI8.out.but.size ?_ ?_
      · have a1 := blk_lt' HI8.out.k1
        have a2 := blk_lt' HI8.out.k2
        have a3 := blk_lt' HI8.out.k3
        have a4 := L.out.p1
        exact ⟨by omega, by omega, by omega, by omega⟩
      · have := HL.out; omega
      intro v1 wa hR1 hb1 hg1 hat1
      obtain ⟨A9, c9, rfl⟩ := Kd.R_slice hR1
      have hown : ∀ j, (Value.slice A8 l.length c8).ownBlock = some j → w.heap.size ≤ j ∧ j ≠ w.heap.size ∧ j ≠ w.heap.size + 1 ∧ j ≠ w1.heap.size := fun j hj => ⟨Kd.R_base HRR.out j hj, (HRR.out.1 j hj).2⟩
      have HI9 := Aside0.mk (HI8.out.grown L.out hg1 hown)
      have HR9 := Aside0.mk hR1
      clear hR1 hb1 hg1 hat1 hown
      have q9 := cell_blk (j := 0) (v := (.pointer (some ⟨p, 0, none⟩))) HI9.out.k1 rfl
      have y9 := cell_blk (j := 8) (v := .slice A8 l.length c8) HI9.out.k3 rfl
      have z9 := Lib.frozen_of_heap HI9.out.k3 8
      refine hK.out _ _ ⟨q9, y9⟩ (fun hHeld => ?_)
      clear hK K
      refine norm_ (a' := ?_) ?_ ?_
      rotate_left
      · show Act.put _ (some 35) _ = _
        simp only [Act.put, List.setIfInBounds_toArray, List.set_cons_zero, List.set_cons_succ, i64_w, i32_w]
        rfl
      refine pure_ (i := 9) (N := some 36) (v := ?_) (a' := ?_) #[true, true, true, true, true, true, true, true, true, true, false] rfl rfl (by kernel_rfl) (fun _ _ _ h => h) (Or.inl ⟨by rfl, ?_⟩) ?_ ?_
      rotate_left
      · intro w'
        go_simp
        with_reducible rfl
      rotate_left
      · simp only [Act.put, List.setIfInBounds_toArray, List.set_cons_zero, List.set_cons_succ, i64_w, i32_w]
        rfl
      refine last_ (i := 10) (N := none) #[true, true, true, true, true, true, true, true, true, true, true] rfl rfl (by kernel_rfl) (by decide) (fun K hK => ?_)
      refine skip_ (w1 := ?_) (by rfl) rfl ?_ ?_
      rotate_left
      · go_simp
        rfl
      refine hK.out _ _ ?_
      clear hK K
      refine done_ (by kernel_rfl) ?_
      go_wp2_with fail
      go_roundw
      case rel =>
        refine ⟨k + 1, by omega, by go_num, ⟨l ++ [⟨(tS sk).1.1, (tS (tS sk).2).1.1⟩], (tS (tS sk).2).2, _, by rw [List.length_append, HL.out]; rfl, ?_, HE8.out, ?_, InvO.set HI9.out L.out 8 _, by have h9 := Kd.R_far HR9.out (p := ⟨w1.heap.size, 8, none⟩) (fun j hj => hj.2.2.2) (.slice A9 (l.length + 1) c9); rw [List.length_append] at h9; exact h9⟩⟩
        · rw [HAT.out, show n - (k + 1) = d by omega]
          show (l ++ _ :: _, _) = _
          rw [List.append_assoc]
          rfl
        · intro x hx
          rcases List.mem_append.1 hx with hx | hx
          · exact HSZ.out x hx
          · obtain rfl := List.mem_singleton.1 hx
            exact ⟨HV7.out, HV8.out⟩
      case measure => simp [intOf]; omega
    · obtain rfl : k = n := by omega
      obtain ⟨l, sk, v8, hl, hat, hs0, hsz, hI, hR⟩ := HR.out
      obtain ⟨A8, c8, rfl, hc8, hC8⟩ := Kd.R_reads hR
      rw [Nat.sub_self] at hat
      have hat' : attrsR k s5 = (l, sk) := by rw [hat]; simp [attrsR]
      rw [hat'] at HB1
      have HRR := Aside0.mk hR
      have HI6 := Aside0.mk hI
      have HS0 := Aside0.mk hs0
      have HCK : Aside0 (Calls Tryd.prog 28 #[.agg #[.int .i64 1, .int .i64 0, .int .i64 0, .int .i64 0, .string t1, .string t2, .string ⟨#[]⟩, .string t3, .slice A8 l.length c8]] wr fun e w' => e = .returned (.int .i64 (chk ⟨1, 0, 0, 0, t1, t2, em, t3, l⟩)) ∧ Below wr.heap.size wr w') := ⟨by
        have hw := HWW.out
        have hb : Below w0.heap.size w0 wr := ⟨hI.but.os.trans hw.os, hI.but.tape.trans hw.tape, hI.but.output.trans hw.output, Nat.le_trans hw.size hI.but.size, fun k hk => (hI.but.block k (Nat.lt_of_lt_of_le hk hw.size) (by omega)).trans (hw.block k hk)⟩
        refine Check_x ⟨1, 0, 0, 0, t1, t2, em, t3, l⟩ A8 c8 wr (HG.out.below hb) hC8 hc8 ⟨i64_k 1 (by omega), i64_k 0 (by omega), i64_k 0 (by omega), i64_k 0 (by omega), size_up HV1.out, size_up HV2.out, Nat.zero_le _, size_up HV3.out, by simp only [hl]; omega, fun i hi => ?_⟩
        have hm : rd_T44 l (i : Int) ∈ l := by
          simp only at hi
          unfold rd_T44
          rw [Int.toNat_natCast, List.getD_eq_getElem?_getD, List.getElem?_eq_getElem hi]
          exact List.getElem_mem hi
        exact ⟨size_up (hsz _ hm).1, size_up (hsz _ hm).2⟩⟩
      have HC := hI.k3
      have x0 := cell_blk (j := 0) (v := .int .i64 1) HC rfl; have x1 := cell_blk (j := 1) (v := .int .i64 0) HC rfl; have x2 := cell_blk (j := 2) (v := .int .i64 0) HC rfl; have x3 := cell_blk (j := 3) (v := .int .i64 0) HC rfl; have x4 := cell_blk (j := 4) (v := .string t1) HC rfl; have x5 := cell_blk (j := 5) (v := .string t2) HC rfl; have x6 := cell_blk (j := 6) (v := .string ⟨#[]⟩) HC rfl; have x7 := cell_blk (j := 7) (v := .string t3) HC rfl; have x8 := cell_blk (j := 8) (v := .slice A8 l.length c8) HC rfl; 
      clear hl hat hat' hs0 hsz hI hR hC8 HC
      go_wp2_with (first
        | (go_at_call 28; (refine (HCK.out).mono ?_); rintro e w6 ⟨rfl, hb⟩; have HIC := Aside0.mk (HI6.out.below L.out hb); have HRC := Aside0.mk (Kd.R_below HRR.out hb); clear hb x0 x1 x2 x3 x4 x5 x6 x7 x8; have HC := HIC.out.k3; have x0 := cell_blk (j := 0) (v := .int .i64 1) HC rfl; have x1 := cell_blk (j := 1) (v := .int .i64 0) HC rfl; have x2 := cell_blk (j := 2) (v := .int .i64 0) HC rfl; have x3 := cell_blk (j := 3) (v := .int .i64 0) HC rfl; have x4 := cell_blk (j := 4) (v := .string t1) HC rfl; have x5 := cell_blk (j := 5) (v := .string t2) HC rfl; have x6 := cell_blk (j := 6) (v := .string ⟨#[]⟩) HC rfl; have x7 := cell_blk (j := 7) (v := .string t3) HC rfl; have x8 := cell_blk (j := 8) (v := .slice A8 l.length c8) HC rfl;  have hY := InvO.k2 HIC.out; have HY := Aside0.mk hY; have y0 := cell_blk (j := 0) (v := .int .i64 0) hY rfl; have z0 := Lib.frozen_of_heap hY 0; have y1 := cell_blk (j := 1) (v := .int .i64 0) hY rfl; have z1 := Lib.frozen_of_heap hY 1; have y2 := cell_blk (j := 2) (v := .int .i64 0) hY rfl; have z2 := Lib.frozen_of_heap hY 2; have y3 := cell_blk (j := 3) (v := .int .i64 0) hY rfl; have z3 := Lib.frozen_of_heap hY 3; have y4 := cell_blk (j := 4) (v := .string ⟨#[]⟩) hY rfl; have z4 := Lib.frozen_of_heap hY 4; have y5 := cell_blk (j := 5) (v := .string ⟨#[]⟩) hY rfl; have z5 := Lib.frozen_of_heap hY 5; have y6 := cell_blk (j := 6) (v := .string ⟨#[]⟩) hY rfl; have z6 := Lib.frozen_of_heap hY 6; have y7 := cell_blk (j := 7) (v := .string ⟨#[]⟩) hY rfl; have z7 := Lib.frozen_of_heap hY 7; have y8 := cell_blk (j := 8) (v := .slice none 0 0) hY rfl; have z8 := Lib.frozen_of_heap hY 8; clear HC hY)
        | (go_at_call 42; (refine (must_d _ _).mono ?_); rintro e w7 ⟨⟨hc, rfl⟩ | ⟨hc, rfl⟩, rfl⟩; rotate_left; go_loud (focus (unfold stopE; go_wp2_with fail; exact ⟨rfl, opPost_stop HIC.out.but hc (by rw [opR_good s HS1.out 1 hk (by decide) (by rw [HB1.out]; exact HS0.out), HB1.out])⟩))))
      have hpz := L.out.h2
      have hgood := opR_good s HS1.out 1 hk (by decide) (by rw [HB1.out]; exact HS0.out)
      rw [HB1.out] at hgood
      refine bodyPost_ret (results_cell_row rfl _ _ (w.heap.size + 1) 42 _ (0, 0) _ rfl (set_blk (j := 8) (set_blk (j := 7) (set_blk (j := 6) (set_blk (j := 5) (set_blk (j := 4) (set_blk (j := 3) (set_blk (j := 2) (set_blk (j := 1) (set_blk (j := 0) (HY.out) _) _) _) _) _) _) _) _) _) Tryd.underlying42 rfl (by kernel_rfl)) rfl ?_
      rw [hgood]
      exact opPost_ok (AtB.set (AtB.set (AtB.set (AtB.set (AtB.set (AtB.set (AtB.set (AtB.set (AtB.set ⟨HIC.out.but, HIC.out.at_⟩ hpw hpz hok 0 _) hpw hpz hok 1 _) hpw hpz hok 2 _) hpw hpz hok 3 _) hpw hpz hok 4 _) hpw hpz hok 5 _) hpw hpz hok 6 _) hpw hpz hok 7 _) hpw hpz hok 8 _) hc (.slice A8 l.length c8) rfl (Kd.R_mono (Kd.R_far (Kd.R_far (Kd.R_far (Kd.R_far (Kd.R_far (Kd.R_far (Kd.R_far (Kd.R_far (Kd.R_far (HRC.out) (fun j hj => hj.2.2.1) _) (fun j hj => hj.2.2.1) _) (fun j hj => hj.2.2.1) _) (fun j hj => hj.2.2.1) _) (fun j hj => hj.2.2.1) _) (fun j hj => hj.2.2.1) _) (fun j hj => hj.2.2.1) _) (fun j hj => hj.2.2.1) _) (fun j hj => hj.2.2.1) _) (fun _ _ => trivial))
end Go.Proofs.YtfpijjjmgggfkaaDoorE

namespace Go.Proofs.YtfpijjjmgggfkaaDoorE
open Go Go.RowKit Go.Proofs.YtfpijjjmgggfkaaDoorW.PrintWords Go.Proofs.YtfpijjjmgggfkaaDoorW.PrintMore Go.Proofs.YtfpijjjmgggfkaaDoorX Go.Proofs.YtfpijjjmgggfkaaDoor.P26 Go.Proofs.YtfpijjjmgggfkaaDoor.L01
set_option linter.unusedVariables false
set_option linter.unusedSimpArgs false
section
variable {W : World} {p : Nat} {ok : Nat → Prop} {b1 : Nat} {o1 : Obj} {b2 : Nat} {o2 : Obj} {b3 : Nat} {o3 : Obj} {s : St} {w : World}
end
theorem AtB.drew {T : Nat} {W : World} {p : Nat} {ok : Nat → Prop} {s : St} {w : World} (h : AtB T W p ok s w) : AtB T W p ok s w.drew :=
  ⟨h.but.drew, h.at_.but ((But.refl (fun _ => False) w).below (below_drew (Below.refl _ _))) (fun _ h => h.elim)⟩
end Go.Proofs.YtfpijjjmgggfkaaDoorE

namespace Go.Proofs.YtfpijjjmgggfkaaDoorE
open Go Go.RowKit Go.Proofs.YtfpijjjmgggfkaaDoorW.PrintWords Go.Proofs.YtfpijjjmgggfkaaDoorW.PrintMore Go.Proofs.YtfpijjjmgggfkaaDoorW.PrintLast Go.Proofs.YtfpijjjmgggfkaaDoorX Go.Proofs.YtfpijjjmgggfkaaDoor.P26 Go.Proofs.YtfpijjjmgggfkaaDoor.L01
set_option linter.unusedVariables false
set_option linter.unusedSimpArgs false
set_option maxRecDepth 100000
theorem InvO.far {T : Nat} {W : World} {p : Nat} {ok : Nat → Prop} {b1 : Nat} {o1 : Obj} {b2 : Nat} {o2 : Obj} {b3 : Nat} {o3 : Obj} {s : St} {w : World} (h : InvO T W p ok b1 o1 b2 o2 b3 o3 s w) (L : Lie W p ok b1 b2 b3) {b : Nat} (hb : W.heap.size ≤ b ∧ b ≠ b1 ∧ b ≠ b2 ∧ b ≠ b3) (j : Nat) (v : Value) : InvO T W p ok b1 o1 b2 o2 b3 o3 s (w.setCell ⟨b, j, none⟩ v) := by
  have hp := L.p1
  have hB : But (· = b) w (w.setCell ⟨b, j, none⟩ v) := But.put (S := (· = b)) (But.refl _ w) (j := j) rfl v
  refine ⟨h.but.setCell (.inr hb.1) v, h.at_.but hB (fun k hk => by rw [hk]; exact ⟨by omega, fun e => by have := L.okp _ e; omega⟩), (hB.block b1 (blk_lt' h.k1) (fun e => hb.2.1 e.symm)).trans h.k1, (hB.block b2 (blk_lt' h.k2) (fun e => hb.2.2.1 e.symm)).trans h.k2, (hB.block b3 (blk_lt' h.k3) (fun e => hb.2.2.2 e.symm)).trans h.k3⟩
end Go.Proofs.YtfpijjjmgggfkaaDoorE

namespace Go.Proofs.YtfpijjjmgggfkaaDoorE
open Go Go.RowKit Go.Proofs.YtfpijjjmgggfkaaDoorW.PrintWords Go.Proofs.YtfpijjjmgggfkaaDoorW.PrintMore Go.Proofs.YtfpijjjmgggfkaaDoorX Go.Proofs.YtfpijjjmgggfkaaDoor.P26 Go.Proofs.YtfpijjjmgggfkaaDoor.L01
set_option linter.unusedVariables false
set_option linter.unusedSimpArgs false
set_option maxHeartbeats 2000000 in
set_option maxRecDepth 100000 in
theorem op_2 (w0 : World) (hgl : GL w0) (p : Nat) (ok : Nat → Prop) (s : St) (w : World) (hok : ∀ k, ok k → k < p) (hw : Below w0.heap.size w0 w) (hw0 : w0.heap.size ≤ p) (h : AtR 107 p ok s.1 s.2 w) (hk : (nS s 7).1 = (2, 0)) :
    Calls Tryd.prog 41 #[.agg #[.pointer (some ⟨p, 0, none⟩)]] w fun e w' => opPost w p ok (opR s) e w' := by
  have hpw := h.lt
  have H := Aside0.mk h
  have he7 : (nS s 7).2.2 = 0 := by rw [← nS_err, hk]
  have HN : Aside0 (∀ W, AtR 107 p ok s.1 s.2 W → Calls Tryd.prog 40 #[.agg #[.pointer (some ⟨p, 0, none⟩)], .int .u64 7] W fun e w' => e = .returned (.int .i64 2) ∧ AtR 107 p ok (nS s 7).2.1 (nS s 7).2.2 w' ∧ But (· = p) W w') := ⟨fun W hW => (num_d 7 (by omega) p ok s W hW).mono (by
    rintro e w' ⟨⟨h0, he, ha⟩ | ⟨h0, he⟩, hb⟩
    · rw [hk] at he
      exact ⟨he, ha, hb⟩
    · exact absurd he7 h0)⟩
  obtain ⟨s1, hs1⟩ : ∃ s1, s1 = (nS s 7).2 := ⟨_, rfl⟩
  rw [← hs1] at HN
  have hB0 := H.out.2.1
  have hB1 := (nS_bytes s 7 hB0).1
  rw [← hs1] at hB1
  have hn1 : num32 (hS s1).1.1 := nS_val s1 4294967295 hB1 (by omega)
  have hB2 := (nS_bytes s1 4294967295 hB1).1
  have hn2 : num32 (hS (hS s1).2).1.1 := nS_val (hS s1).2 4294967295 hB2 (by omega)
  have hB3 := (nS_bytes (hS s1).2 4294967295 hB2).1
  have hn3 : num32 (hS (hS (hS s1).2).2).1.1 := nS_val (hS (hS s1).2).2 4294967295 hB3 (by omega)
  have hB4 := (nS_bytes (hS (hS s1).2).2 4294967295 hB3).1
  have HCK : Aside0 (∀ {b1 b2 b3 : Nat} {o1 o2 o3 : Obj} W, InvO 107 w p ok b1 o1 b2 o2 b3 o3 (hS (hS (hS s1).2).2).2 W ∧ Lie w p ok b1 b2 b3 → Calls Tryd.prog 28 #[.agg #[.int .i64 2, .int .i64 (hS s1).1.1, .int .i64 (hS (hS s1).2).1.1, .int .i64 (hS (hS (hS s1).2).2).1.1, .string ⟨#[]⟩, .string ⟨#[]⟩, .string ⟨#[]⟩, .string ⟨#[]⟩, .slice none 0 0]] W fun e w' => e = .returned (.int .i64 (chk ⟨2, (hS s1).1.1, (hS (hS s1).2).1.1, (hS (hS (hS s1).2).2).1.1, em, em, em, em, []⟩)) ∧ InvO 107 w p ok b1 o1 b2 o2 b3 o3 (hS (hS (hS s1).2).2).2 w') := ⟨fun W hW => by
    have hb : Below w0.heap.size w0 W := ⟨hW.1.but.os.trans hw.os, hW.1.but.tape.trans hw.tape, hW.1.but.output.trans hw.output, Nat.le_trans hw.size hW.1.but.size, fun k hk => (hW.1.but.block k (Nat.lt_of_lt_of_le hk hw.size) (by omega)).trans (hw.block k hk)⟩
    have := Check_x ⟨2, (hS s1).1.1, (hS (hS s1).2).1.1, (hS (hS (hS s1).2).2).1.1, em, em, em, em, []⟩ none 0 W (hgl.below hb) (Kd.C_nil k44 W) (Nat.le_refl 0) ⟨i64_k 2 (by omega), i64_32 hn1, i64_32 hn2, i64_32 hn3, Nat.zero_le _, Nat.zero_le _, Nat.zero_le _, Nat.zero_le _, Nat.zero_le _, fun i hi => absurd hi (Nat.not_lt_zero i)⟩
    exact this.mono fun e w' h => ⟨h.1, hW.1.below hW.2 h.2⟩⟩
  have HG := Aside0.mk hgl
  have HS1 := Aside0.mk hs1
  clear h hgl hw he7 hs1 hB0 hB1 hB2 hB3 hB4 hn1 hn2 hn3
  go_enter Tryd.func41, Tryd.ntmps41
  go_wp2_with (first
    | (go_at_call 40; (refine (HN.out _ (AtR.al (AtR.al H.out _) _)).mono ?_); rintro e w1 ⟨rfl, h2, h3⟩; have HI0 := Aside0.mk (inv_start 107 w p ok (.cells #[.pointer (some ⟨p, 0, none⟩)] 87) (.cells #[.int .i64 0, .int .i64 0, .int .i64 0, .int .i64 0, .string ⟨#[]⟩, .string ⟨#[]⟩, .string ⟨#[]⟩, .string ⟨#[]⟩, .slice none 0 0] 42) (.cells #[.int .i64 2, .int .i64 0, .int .i64 0, .int .i64 0, .string ⟨#[]⟩, .string ⟨#[]⟩, .string ⟨#[]⟩, .string ⟨#[]⟩, .slice none 0 0] 42) s1 w1 hpw h2 h3); have L := Aside0.mk (lie_start w p ok _ _ w1 hpw hok h3); have hne : ¬ w.heap.size = w1.heap.size := L.out.n13; have hne2 : ¬ w.heap.size + 1 = w1.heap.size := L.out.n23; have q0 := cell_blk (j := 0) (v := .pointer (some ⟨p, 0, none⟩)) HI0.out.k1 rfl; clear h2 h3)
    | (go_at_call 61; (refine (InvO.handle HI0.out L.out).mono ?_); rintro e w2 (⟨he1, rfl, hv1, hI⟩ | ⟨he, rfl, hb⟩); rotate_left; go_loud (focus (unfold stopE; go_wp2_with fail; exact ⟨rfl, opPost_stop hb he (opR_bad s HS1.out 2 _ hk (by decide) (by simp [bodyR, hS_stick (hS s1).2 he, tS_stick (hS s1).2 he]) he)⟩)); have HI1 := Aside0.mk hI; clear hI; have HV1 := Aside0.mk hv1; have HE1 := Aside0.mk he1; clear hv1 he1 q0; have q0 := cell_blk (j := 0) (v := .pointer (some ⟨p, 0, none⟩)) HI1.out.k1 rfl; have fz := Lib.frozen_of_heap HI1.out.k3 1; have HC := InvO.k3 HI1.out; have x0 := cell_blk (j := 0) (v := .int .i64 2) HC rfl; have x1 := cell_blk (j := 1) (v := .int .i64 0) HC rfl; have x2 := cell_blk (j := 2) (v := .int .i64 0) HC rfl; have x3 := cell_blk (j := 3) (v := .int .i64 0) HC rfl; have x4 := cell_blk (j := 4) (v := .string ⟨#[]⟩) HC rfl; have x5 := cell_blk (j := 5) (v := .string ⟨#[]⟩) HC rfl; have x6 := cell_blk (j := 6) (v := .string ⟨#[]⟩) HC rfl; have x7 := cell_blk (j := 7) (v := .string ⟨#[]⟩) HC rfl; have x8 := cell_blk (j := 8) (v := .slice none 0 0) HC rfl; clear HC)
    | (go_at_call 61; (refine (InvO.handle (InvO.set HI1.out L.out 1 (.int .i64 (hS s1).1.1)) L.out).mono ?_); rintro e w3 (⟨he2, rfl, hv2, hI⟩ | ⟨he, rfl, hb⟩); rotate_left; go_loud (focus (unfold stopE; go_wp2_with fail; exact ⟨rfl, opPost_stop hb he (opR_bad s HS1.out 2 _ hk (by decide) (by simp [bodyR, hS_stick (hS (hS s1).2).2 he, tS_stick (hS (hS s1).2).2 he]) he)⟩)); have HI2 := Aside0.mk hI; clear hI; have HV2 := Aside0.mk hv2; have HE2 := Aside0.mk he2; clear hv2 he2 q0 fz; clear x0 x1 x2 x3 x4 x5 x6 x7 x8; have q0 := cell_blk (j := 0) (v := .pointer (some ⟨p, 0, none⟩)) HI2.out.k1 rfl; have fz := Lib.frozen_of_heap HI2.out.k3 2; have HC := InvO.k3 HI2.out; have x0 := cell_blk (j := 0) (v := .int .i64 2) HC rfl; have x1 := cell_blk (j := 1) (v := .int .i64 (hS s1).1.1) HC rfl; have x2 := cell_blk (j := 2) (v := .int .i64 0) HC rfl; have x3 := cell_blk (j := 3) (v := .int .i64 0) HC rfl; have x4 := cell_blk (j := 4) (v := .string ⟨#[]⟩) HC rfl; have x5 := cell_blk (j := 5) (v := .string ⟨#[]⟩) HC rfl; have x6 := cell_blk (j := 6) (v := .string ⟨#[]⟩) HC rfl; have x7 := cell_blk (j := 7) (v := .string ⟨#[]⟩) HC rfl; have x8 := cell_blk (j := 8) (v := .slice none 0 0) HC rfl; clear HC)
    | (go_at_call 61; (refine (InvO.handle (InvO.set HI2.out L.out 2 (.int .i64 (hS (hS s1).2).1.1)) L.out).mono ?_); rintro e w4 (⟨he3, rfl, hv3, hI⟩ | ⟨he, rfl, hb⟩); rotate_left; go_loud (focus (unfold stopE; go_wp2_with fail; exact ⟨rfl, opPost_stop hb he (opR_bad s HS1.out 2 _ hk (by decide) (by simp [bodyR, hS_stick (hS (hS (hS s1).2).2).2 he, tS_stick (hS (hS (hS s1).2).2).2 he]) he)⟩)); have HI3 := Aside0.mk hI; clear hI; have HV3 := Aside0.mk hv3; have HE3 := Aside0.mk he3; clear hv3 he3 q0 fz; clear x0 x1 x2 x3 x4 x5 x6 x7 x8; have q0 := cell_blk (j := 0) (v := .pointer (some ⟨p, 0, none⟩)) HI3.out.k1 rfl; have fz := Lib.frozen_of_heap HI3.out.k3 3; have HC := InvO.k3 HI3.out; have x0 := cell_blk (j := 0) (v := .int .i64 2) HC rfl; have x1 := cell_blk (j := 1) (v := .int .i64 (hS s1).1.1) HC rfl; have x2 := cell_blk (j := 2) (v := .int .i64 (hS (hS s1).2).1.1) HC rfl; have x3 := cell_blk (j := 3) (v := .int .i64 0) HC rfl; have x4 := cell_blk (j := 4) (v := .string ⟨#[]⟩) HC rfl; have x5 := cell_blk (j := 5) (v := .string ⟨#[]⟩) HC rfl; have x6 := cell_blk (j := 6) (v := .string ⟨#[]⟩) HC rfl; have x7 := cell_blk (j := 7) (v := .string ⟨#[]⟩) HC rfl; have x8 := cell_blk (j := 8) (v := .slice none 0 0) HC rfl; clear HC)
    | (go_at_call 28; (refine (HCK.out _ ⟨(InvO.set HI3.out L.out 3 (.int .i64 (hS (hS (hS s1).2).2).1.1)), L.out⟩).mono ?_); rintro e w5 ⟨rfl, hI⟩; have HIC := Aside0.mk hI; clear hI q0 fz x0 x1 x2 x3 x4 x5 x6 x7 x8; have HC := InvO.k3 HIC.out; have x0 := cell_blk (j := 0) (v := .int .i64 2) HC rfl; have x1 := cell_blk (j := 1) (v := .int .i64 (hS s1).1.1) HC rfl; have x2 := cell_blk (j := 2) (v := .int .i64 (hS (hS s1).2).1.1) HC rfl; have x3 := cell_blk (j := 3) (v := .int .i64 (hS (hS (hS s1).2).2).1.1) HC rfl; have x4 := cell_blk (j := 4) (v := .string ⟨#[]⟩) HC rfl; have x5 := cell_blk (j := 5) (v := .string ⟨#[]⟩) HC rfl; have x6 := cell_blk (j := 6) (v := .string ⟨#[]⟩) HC rfl; have x7 := cell_blk (j := 7) (v := .string ⟨#[]⟩) HC rfl; have x8 := cell_blk (j := 8) (v := .slice none 0 0) HC rfl; have hY := InvO.k2 HIC.out; have HY := Aside0.mk hY; have y0 := cell_blk (j := 0) (v := .int .i64 0) hY rfl; have z0 := Lib.frozen_of_heap hY 0; have y1 := cell_blk (j := 1) (v := .int .i64 0) hY rfl; have z1 := Lib.frozen_of_heap hY 1; have y2 := cell_blk (j := 2) (v := .int .i64 0) hY rfl; have z2 := Lib.frozen_of_heap hY 2; have y3 := cell_blk (j := 3) (v := .int .i64 0) hY rfl; have z3 := Lib.frozen_of_heap hY 3; have y4 := cell_blk (j := 4) (v := .string ⟨#[]⟩) hY rfl; have z4 := Lib.frozen_of_heap hY 4; have y5 := cell_blk (j := 5) (v := .string ⟨#[]⟩) hY rfl; have z5 := Lib.frozen_of_heap hY 5; have y6 := cell_blk (j := 6) (v := .string ⟨#[]⟩) hY rfl; have z6 := Lib.frozen_of_heap hY 6; have y7 := cell_blk (j := 7) (v := .string ⟨#[]⟩) hY rfl; have z7 := Lib.frozen_of_heap hY 7; have y8 := cell_blk (j := 8) (v := .slice none 0 0) hY rfl; have z8 := Lib.frozen_of_heap hY 8; clear HC hY)
    | (go_at_call 42; (refine (must_d _ _).mono ?_); rintro e w6 ⟨⟨hc, rfl⟩ | ⟨hc, rfl⟩, rfl⟩; rotate_left; focus (unfold stopE; go_wp2_with fail; exact ⟨rfl, opPost_stop HIC.out.but hc (by rw [opR_good s HS1.out 2 hk (by decide) (by simpa [bodyR] using HE3.out)]; simp [bodyR])⟩)))
  have hpz := L.out.h2
  have hgood := opR_good s HS1.out 2 hk (by decide) (by simpa [bodyR] using HE3.out)
  refine bodyPost_ret (results_cell_row rfl _ _ (w.heap.size + 1) 42 _ (0, 0) _ rfl (set_blk (j := 8) (set_blk (j := 7) (set_blk (j := 6) (set_blk (j := 5) (set_blk (j := 4) (set_blk (j := 3) (set_blk (j := 2) (set_blk (j := 1) (set_blk (j := 0) (HY.out) _) _) _) _) _) _) _) _) _) Tryd.underlying42 rfl (by kernel_rfl)) rfl ?_
  simp only [bodyR, Int.reduceEq, if_false, if_true] at hgood
  rw [hgood]
  exact opPost_ok (AtB.set (AtB.set (AtB.set (AtB.set (AtB.set (AtB.set (AtB.set (AtB.set (AtB.set ⟨HIC.out.but, HIC.out.at_⟩ hpw hpz hok 0 _) hpw hpz hok 1 _) hpw hpz hok 2 _) hpw hpz hok 3 _) hpw hpz hok 4 _) hpw hpz hok 5 _) hpw hpz hok 6 _) hpw hpz hok 7 _) hpw hpz hok 8 _) hc (.slice none 0 0) rfl (Kd.R_nil k44 44 _ _ _)
set_option maxHeartbeats 2000000 in
set_option maxRecDepth 100000 in
theorem op_3 (w0 : World) (hgl : GL w0) (p : Nat) (ok : Nat → Prop) (s : St) (w : World) (hok : ∀ k, ok k → k < p) (hw : Below w0.heap.size w0 w) (hw0 : w0.heap.size ≤ p) (h : AtR 107 p ok s.1 s.2 w) (hk : (nS s 7).1 = (3, 0)) :
    Calls Tryd.prog 41 #[.agg #[.pointer (some ⟨p, 0, none⟩)]] w fun e w' => opPost w p ok (opR s) e w' := by
  have hpw := h.lt
  have H := Aside0.mk h
  have he7 : (nS s 7).2.2 = 0 := by rw [← nS_err, hk]
  have HN : Aside0 (∀ W, AtR 107 p ok s.1 s.2 W → Calls Tryd.prog 40 #[.agg #[.pointer (some ⟨p, 0, none⟩)], .int .u64 7] W fun e w' => e = .returned (.int .i64 3) ∧ AtR 107 p ok (nS s 7).2.1 (nS s 7).2.2 w' ∧ But (· = p) W w') := ⟨fun W hW => (num_d 7 (by omega) p ok s W hW).mono (by
    rintro e w' ⟨⟨h0, he, ha⟩ | ⟨h0, he⟩, hb⟩
    · rw [hk] at he
      exact ⟨he, ha, hb⟩
    · exact absurd he7 h0)⟩
  obtain ⟨s1, hs1⟩ : ∃ s1, s1 = (nS s 7).2 := ⟨_, rfl⟩
  rw [← hs1] at HN
  have hB0 := H.out.2.1
  have hB1 := (nS_bytes s 7 hB0).1
  rw [← hs1] at hB1
  have hn1 : num32 (hS s1).1.1 := nS_val s1 4294967295 hB1 (by omega)
  have hB2 := (nS_bytes s1 4294967295 hB1).1
  have hn3 : num32 (hS (hS s1).2).1.1 := nS_val (hS s1).2 4294967295 hB2 (by omega)
  have hB3 := (nS_bytes (hS s1).2 4294967295 hB2).1
  have HCK : Aside0 (∀ {b1 b2 b3 : Nat} {o1 o2 o3 : Obj} W, InvO 107 w p ok b1 o1 b2 o2 b3 o3 (hS (hS s1).2).2 W ∧ Lie w p ok b1 b2 b3 → Calls Tryd.prog 28 #[.agg #[.int .i64 3, .int .i64 (hS s1).1.1, .int .i64 0, .int .i64 (hS (hS s1).2).1.1, .string ⟨#[]⟩, .string ⟨#[]⟩, .string ⟨#[]⟩, .string ⟨#[]⟩, .slice none 0 0]] W fun e w' => e = .returned (.int .i64 (chk ⟨3, (hS s1).1.1, 0, (hS (hS s1).2).1.1, em, em, em, em, []⟩)) ∧ InvO 107 w p ok b1 o1 b2 o2 b3 o3 (hS (hS s1).2).2 w') := ⟨fun W hW => by
    have hb : Below w0.heap.size w0 W := ⟨hW.1.but.os.trans hw.os, hW.1.but.tape.trans hw.tape, hW.1.but.output.trans hw.output, Nat.le_trans hw.size hW.1.but.size, fun k hk => (hW.1.but.block k (Nat.lt_of_lt_of_le hk hw.size) (by omega)).trans (hw.block k hk)⟩
    have := Check_x ⟨3, (hS s1).1.1, 0, (hS (hS s1).2).1.1, em, em, em, em, []⟩ none 0 W (hgl.below hb) (Kd.C_nil k44 W) (Nat.le_refl 0) ⟨i64_k 3 (by omega), i64_32 hn1, i64_k 0 (by omega), i64_32 hn3, Nat.zero_le _, Nat.zero_le _, Nat.zero_le _, Nat.zero_le _, Nat.zero_le _, fun i hi => absurd hi (Nat.not_lt_zero i)⟩
    exact this.mono fun e w' h => ⟨h.1, hW.1.below hW.2 h.2⟩⟩
  have HG := Aside0.mk hgl
  have HS1 := Aside0.mk hs1
  clear h hgl hw he7 hs1 hB0 hB1 hB2 hB3 hn1 hn3
  go_enter Tryd.func41, Tryd.ntmps41
  go_wp2_with (first
    | (go_at_call 40; (refine (HN.out _ (AtR.al (AtR.al H.out _) _)).mono ?_); rintro e w1 ⟨rfl, h2, h3⟩; have HI0 := Aside0.mk (inv_start 107 w p ok (.cells #[.pointer (some ⟨p, 0, none⟩)] 87) (.cells #[.int .i64 0, .int .i64 0, .int .i64 0, .int .i64 0, .string ⟨#[]⟩, .string ⟨#[]⟩, .string ⟨#[]⟩, .string ⟨#[]⟩, .slice none 0 0] 42) (.cells #[.int .i64 3, .int .i64 0, .int .i64 0, .int .i64 0, .string ⟨#[]⟩, .string ⟨#[]⟩, .string ⟨#[]⟩, .string ⟨#[]⟩, .slice none 0 0] 42) s1 w1 hpw h2 h3); have L := Aside0.mk (lie_start w p ok _ _ w1 hpw hok h3); have hne : ¬ w.heap.size = w1.heap.size := L.out.n13; have hne2 : ¬ w.heap.size + 1 = w1.heap.size := L.out.n23; have q0 := cell_blk (j := 0) (v := .pointer (some ⟨p, 0, none⟩)) HI0.out.k1 rfl; clear h2 h3)
    | (go_at_call 61; (refine (InvO.handle HI0.out L.out).mono ?_); rintro e w2 (⟨he1, rfl, hv1, hI⟩ | ⟨he, rfl, hb⟩); rotate_left; go_loud (focus (unfold stopE; go_wp2_with fail; exact ⟨rfl, opPost_stop hb he (opR_bad s HS1.out 3 _ hk (by decide) (by simp [bodyR, hS_stick (hS s1).2 he, tS_stick (hS s1).2 he]) he)⟩)); have HI1 := Aside0.mk hI; clear hI; have HV1 := Aside0.mk hv1; have HE1 := Aside0.mk he1; clear hv1 he1 q0; have q0 := cell_blk (j := 0) (v := .pointer (some ⟨p, 0, none⟩)) HI1.out.k1 rfl; have fz := Lib.frozen_of_heap HI1.out.k3 1; have HC := InvO.k3 HI1.out; have x0 := cell_blk (j := 0) (v := .int .i64 3) HC rfl; have x1 := cell_blk (j := 1) (v := .int .i64 0) HC rfl; have x2 := cell_blk (j := 2) (v := .int .i64 0) HC rfl; have x3 := cell_blk (j := 3) (v := .int .i64 0) HC rfl; have x4 := cell_blk (j := 4) (v := .string ⟨#[]⟩) HC rfl; have x5 := cell_blk (j := 5) (v := .string ⟨#[]⟩) HC rfl; have x6 := cell_blk (j := 6) (v := .string ⟨#[]⟩) HC rfl; have x7 := cell_blk (j := 7) (v := .string ⟨#[]⟩) HC rfl; have x8 := cell_blk (j := 8) (v := .slice none 0 0) HC rfl; clear HC)
    | (go_at_call 61; (refine (InvO.handle (InvO.set HI1.out L.out 1 (.int .i64 (hS s1).1.1)) L.out).mono ?_); rintro e w3 (⟨he2, rfl, hv2, hI⟩ | ⟨he, rfl, hb⟩); rotate_left; go_loud (focus (unfold stopE; go_wp2_with fail; exact ⟨rfl, opPost_stop hb he (opR_bad s HS1.out 3 _ hk (by decide) (by simp [bodyR, hS_stick (hS (hS s1).2).2 he, tS_stick (hS (hS s1).2).2 he]) he)⟩)); have HI2 := Aside0.mk hI; clear hI; have HV2 := Aside0.mk hv2; have HE2 := Aside0.mk he2; clear hv2 he2 q0 fz; clear x0 x1 x2 x3 x4 x5 x6 x7 x8; have q0 := cell_blk (j := 0) (v := .pointer (some ⟨p, 0, none⟩)) HI2.out.k1 rfl; have fz := Lib.frozen_of_heap HI2.out.k3 3; have HC := InvO.k3 HI2.out; have x0 := cell_blk (j := 0) (v := .int .i64 3) HC rfl; have x1 := cell_blk (j := 1) (v := .int .i64 (hS s1).1.1) HC rfl; have x2 := cell_blk (j := 2) (v := .int .i64 0) HC rfl; have x3 := cell_blk (j := 3) (v := .int .i64 0) HC rfl; have x4 := cell_blk (j := 4) (v := .string ⟨#[]⟩) HC rfl; have x5 := cell_blk (j := 5) (v := .string ⟨#[]⟩) HC rfl; have x6 := cell_blk (j := 6) (v := .string ⟨#[]⟩) HC rfl; have x7 := cell_blk (j := 7) (v := .string ⟨#[]⟩) HC rfl; have x8 := cell_blk (j := 8) (v := .slice none 0 0) HC rfl; clear HC)
    | (go_at_call 28; (refine (HCK.out _ ⟨(InvO.set HI2.out L.out 3 (.int .i64 (hS (hS s1).2).1.1)), L.out⟩).mono ?_); rintro e w4 ⟨rfl, hI⟩; have HIC := Aside0.mk hI; clear hI q0 fz x0 x1 x2 x3 x4 x5 x6 x7 x8; have HC := InvO.k3 HIC.out; have x0 := cell_blk (j := 0) (v := .int .i64 3) HC rfl; have x1 := cell_blk (j := 1) (v := .int .i64 (hS s1).1.1) HC rfl; have x2 := cell_blk (j := 2) (v := .int .i64 0) HC rfl; have x3 := cell_blk (j := 3) (v := .int .i64 (hS (hS s1).2).1.1) HC rfl; have x4 := cell_blk (j := 4) (v := .string ⟨#[]⟩) HC rfl; have x5 := cell_blk (j := 5) (v := .string ⟨#[]⟩) HC rfl; have x6 := cell_blk (j := 6) (v := .string ⟨#[]⟩) HC rfl; have x7 := cell_blk (j := 7) (v := .string ⟨#[]⟩) HC rfl; have x8 := cell_blk (j := 8) (v := .slice none 0 0) HC rfl; have hY := InvO.k2 HIC.out; have HY := Aside0.mk hY; have y0 := cell_blk (j := 0) (v := .int .i64 0) hY rfl; have z0 := Lib.frozen_of_heap hY 0; have y1 := cell_blk (j := 1) (v := .int .i64 0) hY rfl; have z1 := Lib.frozen_of_heap hY 1; have y2 := cell_blk (j := 2) (v := .int .i64 0) hY rfl; have z2 := Lib.frozen_of_heap hY 2; have y3 := cell_blk (j := 3) (v := .int .i64 0) hY rfl; have z3 := Lib.frozen_of_heap hY 3; have y4 := cell_blk (j := 4) (v := .string ⟨#[]⟩) hY rfl; have z4 := Lib.frozen_of_heap hY 4; have y5 := cell_blk (j := 5) (v := .string ⟨#[]⟩) hY rfl; have z5 := Lib.frozen_of_heap hY 5; have y6 := cell_blk (j := 6) (v := .string ⟨#[]⟩) hY rfl; have z6 := Lib.frozen_of_heap hY 6; have y7 := cell_blk (j := 7) (v := .string ⟨#[]⟩) hY rfl; have z7 := Lib.frozen_of_heap hY 7; have y8 := cell_blk (j := 8) (v := .slice none 0 0) hY rfl; have z8 := Lib.frozen_of_heap hY 8; clear HC hY)
    | (go_at_call 42; (refine (must_d _ _).mono ?_); rintro e w5 ⟨⟨hc, rfl⟩ | ⟨hc, rfl⟩, rfl⟩; rotate_left; focus (unfold stopE; go_wp2_with fail; exact ⟨rfl, opPost_stop HIC.out.but hc (by rw [opR_good s HS1.out 3 hk (by decide) (by simpa [bodyR] using HE2.out)]; simp [bodyR])⟩)))
  have hpz := L.out.h2
  have hgood := opR_good s HS1.out 3 hk (by decide) (by simpa [bodyR] using HE2.out)
  refine bodyPost_ret (results_cell_row rfl _ _ (w.heap.size + 1) 42 _ (0, 0) _ rfl (set_blk (j := 8) (set_blk (j := 7) (set_blk (j := 6) (set_blk (j := 5) (set_blk (j := 4) (set_blk (j := 3) (set_blk (j := 2) (set_blk (j := 1) (set_blk (j := 0) (HY.out) _) _) _) _) _) _) _) _) _) Tryd.underlying42 rfl (by kernel_rfl)) rfl ?_
  simp only [bodyR, Int.reduceEq, if_false, if_true] at hgood
  rw [hgood]
  exact opPost_ok (AtB.set (AtB.set (AtB.set (AtB.set (AtB.set (AtB.set (AtB.set (AtB.set (AtB.set ⟨HIC.out.but, HIC.out.at_⟩ hpw hpz hok 0 _) hpw hpz hok 1 _) hpw hpz hok 2 _) hpw hpz hok 3 _) hpw hpz hok 4 _) hpw hpz hok 5 _) hpw hpz hok 6 _) hpw hpz hok 7 _) hpw hpz hok 8 _) hc (.slice none 0 0) rfl (Kd.R_nil k44 44 _ _ _)
set_option maxHeartbeats 2000000 in
set_option maxRecDepth 100000 in
theorem op_4 (w0 : World) (hgl : GL w0) (p : Nat) (ok : Nat → Prop) (s : St) (w : World) (hok : ∀ k, ok k → k < p) (hw : Below w0.heap.size w0 w) (hw0 : w0.heap.size ≤ p) (h : AtR 107 p ok s.1 s.2 w) (hk : (nS s 7).1 = (4, 0)) :
    Calls Tryd.prog 41 #[.agg #[.pointer (some ⟨p, 0, none⟩)]] w fun e w' => opPost w p ok (opR s) e w' := by
  have hpw := h.lt
  have H := Aside0.mk h
  have he7 : (nS s 7).2.2 = 0 := by rw [← nS_err, hk]
  have HN : Aside0 (∀ W, AtR 107 p ok s.1 s.2 W → Calls Tryd.prog 40 #[.agg #[.pointer (some ⟨p, 0, none⟩)], .int .u64 7] W fun e w' => e = .returned (.int .i64 4) ∧ AtR 107 p ok (nS s 7).2.1 (nS s 7).2.2 w' ∧ But (· = p) W w') := ⟨fun W hW => (num_d 7 (by omega) p ok s W hW).mono (by
    rintro e w' ⟨⟨h0, he, ha⟩ | ⟨h0, he⟩, hb⟩
    · rw [hk] at he
      exact ⟨he, ha, hb⟩
    · exact absurd he7 h0)⟩
  obtain ⟨s1, hs1⟩ : ∃ s1, s1 = (nS s 7).2 := ⟨_, rfl⟩
  rw [← hs1] at HN
  have hB0 := H.out.2.1
  have hB1 := (nS_bytes s 7 hB0).1
  rw [← hs1] at hB1
  have hn1 : num32 (hS s1).1.1 := nS_val s1 4294967295 hB1 (by omega)
  have hB2 := (nS_bytes s1 4294967295 hB1).1
  have HCK : Aside0 (∀ {b1 b2 b3 : Nat} {o1 o2 o3 : Obj} W, InvO 107 w p ok b1 o1 b2 o2 b3 o3 (hS s1).2 W ∧ Lie w p ok b1 b2 b3 → Calls Tryd.prog 28 #[.agg #[.int .i64 4, .int .i64 (hS s1).1.1, .int .i64 0, .int .i64 0, .string ⟨#[]⟩, .string ⟨#[]⟩, .string ⟨#[]⟩, .string ⟨#[]⟩, .slice none 0 0]] W fun e w' => e = .returned (.int .i64 (chk ⟨4, (hS s1).1.1, 0, 0, em, em, em, em, []⟩)) ∧ InvO 107 w p ok b1 o1 b2 o2 b3 o3 (hS s1).2 w') := ⟨fun W hW => by
    have hb : Below w0.heap.size w0 W := ⟨hW.1.but.os.trans hw.os, hW.1.but.tape.trans hw.tape, hW.1.but.output.trans hw.output, Nat.le_trans hw.size hW.1.but.size, fun k hk => (hW.1.but.block k (Nat.lt_of_lt_of_le hk hw.size) (by omega)).trans (hw.block k hk)⟩
    have := Check_x ⟨4, (hS s1).1.1, 0, 0, em, em, em, em, []⟩ none 0 W (hgl.below hb) (Kd.C_nil k44 W) (Nat.le_refl 0) ⟨i64_k 4 (by omega), i64_32 hn1, i64_k 0 (by omega), i64_k 0 (by omega), Nat.zero_le _, Nat.zero_le _, Nat.zero_le _, Nat.zero_le _, Nat.zero_le _, fun i hi => absurd hi (Nat.not_lt_zero i)⟩
    exact this.mono fun e w' h => ⟨h.1, hW.1.below hW.2 h.2⟩⟩
  have HG := Aside0.mk hgl
  have HS1 := Aside0.mk hs1
  clear h hgl hw he7 hs1 hB0 hB1 hB2 hn1
  go_enter Tryd.func41, Tryd.ntmps41
  go_wp2_with (first
    | (go_at_call 40; (refine (HN.out _ (AtR.al (AtR.al H.out _) _)).mono ?_); rintro e w1 ⟨rfl, h2, h3⟩; have HI0 := Aside0.mk (inv_start 107 w p ok (.cells #[.pointer (some ⟨p, 0, none⟩)] 87) (.cells #[.int .i64 0, .int .i64 0, .int .i64 0, .int .i64 0, .string ⟨#[]⟩, .string ⟨#[]⟩, .string ⟨#[]⟩, .string ⟨#[]⟩, .slice none 0 0] 42) (.cells #[.int .i64 4, .int .i64 0, .int .i64 0, .int .i64 0, .string ⟨#[]⟩, .string ⟨#[]⟩, .string ⟨#[]⟩, .string ⟨#[]⟩, .slice none 0 0] 42) s1 w1 hpw h2 h3); have L := Aside0.mk (lie_start w p ok _ _ w1 hpw hok h3); have hne : ¬ w.heap.size = w1.heap.size := L.out.n13; have hne2 : ¬ w.heap.size + 1 = w1.heap.size := L.out.n23; have q0 := cell_blk (j := 0) (v := .pointer (some ⟨p, 0, none⟩)) HI0.out.k1 rfl; clear h2 h3)
    | (go_at_call 61; (refine (InvO.handle HI0.out L.out).mono ?_); rintro e w2 (⟨he1, rfl, hv1, hI⟩ | ⟨he, rfl, hb⟩); rotate_left; go_loud (focus (unfold stopE; go_wp2_with fail; exact ⟨rfl, opPost_stop hb he (opR_bad s HS1.out 4 _ hk (by decide) (by simp [bodyR, hS_stick (hS s1).2 he, tS_stick (hS s1).2 he]) he)⟩)); have HI1 := Aside0.mk hI; clear hI; have HV1 := Aside0.mk hv1; have HE1 := Aside0.mk he1; clear hv1 he1 q0; have q0 := cell_blk (j := 0) (v := .pointer (some ⟨p, 0, none⟩)) HI1.out.k1 rfl; have fz := Lib.frozen_of_heap HI1.out.k3 1; have HC := InvO.k3 HI1.out; have x0 := cell_blk (j := 0) (v := .int .i64 4) HC rfl; have x1 := cell_blk (j := 1) (v := .int .i64 0) HC rfl; have x2 := cell_blk (j := 2) (v := .int .i64 0) HC rfl; have x3 := cell_blk (j := 3) (v := .int .i64 0) HC rfl; have x4 := cell_blk (j := 4) (v := .string ⟨#[]⟩) HC rfl; have x5 := cell_blk (j := 5) (v := .string ⟨#[]⟩) HC rfl; have x6 := cell_blk (j := 6) (v := .string ⟨#[]⟩) HC rfl; have x7 := cell_blk (j := 7) (v := .string ⟨#[]⟩) HC rfl; have x8 := cell_blk (j := 8) (v := .slice none 0 0) HC rfl; clear HC)
    | (go_at_call 28; (refine (HCK.out _ ⟨(InvO.set HI1.out L.out 1 (.int .i64 (hS s1).1.1)), L.out⟩).mono ?_); rintro e w3 ⟨rfl, hI⟩; have HIC := Aside0.mk hI; clear hI q0 fz x0 x1 x2 x3 x4 x5 x6 x7 x8; have HC := InvO.k3 HIC.out; have x0 := cell_blk (j := 0) (v := .int .i64 4) HC rfl; have x1 := cell_blk (j := 1) (v := .int .i64 (hS s1).1.1) HC rfl; have x2 := cell_blk (j := 2) (v := .int .i64 0) HC rfl; have x3 := cell_blk (j := 3) (v := .int .i64 0) HC rfl; have x4 := cell_blk (j := 4) (v := .string ⟨#[]⟩) HC rfl; have x5 := cell_blk (j := 5) (v := .string ⟨#[]⟩) HC rfl; have x6 := cell_blk (j := 6) (v := .string ⟨#[]⟩) HC rfl; have x7 := cell_blk (j := 7) (v := .string ⟨#[]⟩) HC rfl; have x8 := cell_blk (j := 8) (v := .slice none 0 0) HC rfl; have hY := InvO.k2 HIC.out; have HY := Aside0.mk hY; have y0 := cell_blk (j := 0) (v := .int .i64 0) hY rfl; have z0 := Lib.frozen_of_heap hY 0; have y1 := cell_blk (j := 1) (v := .int .i64 0) hY rfl; have z1 := Lib.frozen_of_heap hY 1; have y2 := cell_blk (j := 2) (v := .int .i64 0) hY rfl; have z2 := Lib.frozen_of_heap hY 2; have y3 := cell_blk (j := 3) (v := .int .i64 0) hY rfl; have z3 := Lib.frozen_of_heap hY 3; have y4 := cell_blk (j := 4) (v := .string ⟨#[]⟩) hY rfl; have z4 := Lib.frozen_of_heap hY 4; have y5 := cell_blk (j := 5) (v := .string ⟨#[]⟩) hY rfl; have z5 := Lib.frozen_of_heap hY 5; have y6 := cell_blk (j := 6) (v := .string ⟨#[]⟩) hY rfl; have z6 := Lib.frozen_of_heap hY 6; have y7 := cell_blk (j := 7) (v := .string ⟨#[]⟩) hY rfl; have z7 := Lib.frozen_of_heap hY 7; have y8 := cell_blk (j := 8) (v := .slice none 0 0) hY rfl; have z8 := Lib.frozen_of_heap hY 8; clear HC hY)
    | (go_at_call 42; (refine (must_d _ _).mono ?_); rintro e w4 ⟨⟨hc, rfl⟩ | ⟨hc, rfl⟩, rfl⟩; rotate_left; focus (unfold stopE; go_wp2_with fail; exact ⟨rfl, opPost_stop HIC.out.but hc (by rw [opR_good s HS1.out 4 hk (by decide) (by simpa [bodyR] using HE1.out)]; simp [bodyR])⟩)))
  have hpz := L.out.h2
  have hgood := opR_good s HS1.out 4 hk (by decide) (by simpa [bodyR] using HE1.out)
  refine bodyPost_ret (results_cell_row rfl _ _ (w.heap.size + 1) 42 _ (0, 0) _ rfl (set_blk (j := 8) (set_blk (j := 7) (set_blk (j := 6) (set_blk (j := 5) (set_blk (j := 4) (set_blk (j := 3) (set_blk (j := 2) (set_blk (j := 1) (set_blk (j := 0) (HY.out) _) _) _) _) _) _) _) _) _) Tryd.underlying42 rfl (by kernel_rfl)) rfl ?_
  simp only [bodyR, Int.reduceEq, if_false, if_true] at hgood
  rw [hgood]
  exact opPost_ok (AtB.set (AtB.set (AtB.set (AtB.set (AtB.set (AtB.set (AtB.set (AtB.set (AtB.set ⟨HIC.out.but, HIC.out.at_⟩ hpw hpz hok 0 _) hpw hpz hok 1 _) hpw hpz hok 2 _) hpw hpz hok 3 _) hpw hpz hok 4 _) hpw hpz hok 5 _) hpw hpz hok 6 _) hpw hpz hok 7 _) hpw hpz hok 8 _) hc (.slice none 0 0) rfl (Kd.R_nil k44 44 _ _ _)
end Go.Proofs.YtfpijjjmgggfkaaDoorE

namespace Go.Proofs.YtfpijjjmgggfkaaDoorE
open Go Go.RowKit Go.Proofs.YtfpijjjmgggfkaaDoorW.PrintWords Go.Proofs.YtfpijjjmgggfkaaDoorW.PrintMore Go.Proofs.YtfpijjjmgggfkaaDoorX Go.Proofs.YtfpijjjmgggfkaaDoor.P26 Go.Proofs.YtfpijjjmgggfkaaDoor.L01
set_option linter.unusedVariables false
set_option linter.unusedSimpArgs false
set_option maxHeartbeats 2000000 in
set_option maxRecDepth 100000 in
theorem op_5 (w0 : World) (hgl : GL w0) (p : Nat) (ok : Nat → Prop) (s : St) (w : World) (hok : ∀ k, ok k → k < p) (hw : Below w0.heap.size w0 w) (hw0 : w0.heap.size ≤ p) (h : AtR 107 p ok s.1 s.2 w) (hk : (nS s 7).1 = (5, 0)) :
    Calls Tryd.prog 41 #[.agg #[.pointer (some ⟨p, 0, none⟩)]] w fun e w' => opPost w p ok (opR s) e w' := by
  have hpw := h.lt
  have H := Aside0.mk h
  have he7 : (nS s 7).2.2 = 0 := by rw [← nS_err, hk]
  have HN : Aside0 (∀ W, AtR 107 p ok s.1 s.2 W → Calls Tryd.prog 40 #[.agg #[.pointer (some ⟨p, 0, none⟩)], .int .u64 7] W fun e w' => e = .returned (.int .i64 5) ∧ AtR 107 p ok (nS s 7).2.1 (nS s 7).2.2 w' ∧ But (· = p) W w') := ⟨fun W hW => (num_d 7 (by omega) p ok s W hW).mono (by
    rintro e w' ⟨⟨h0, he, ha⟩ | ⟨h0, he⟩, hb⟩
    · rw [hk] at he
      exact ⟨he, ha, hb⟩
    · exact absurd he7 h0)⟩
  obtain ⟨s1, hs1⟩ : ∃ s1, s1 = (nS s 7).2 := ⟨_, rfl⟩
  rw [← hs1] at HN
  have hB0 := H.out.2.1
  have hB1 := (nS_bytes s 7 hB0).1
  rw [← hs1] at hB1
  have hn1 : num32 (hS s1).1.1 := nS_val s1 4294967295 hB1 (by omega)
  have hB2 := (nS_bytes s1 4294967295 hB1).1
  have hs6 : ((tS (hS s1).2).1.1).size ≤ 65536 := tS_size (hS s1).2 hB2
  have hB3 := (tS_bytes (hS s1).2 hB2).1
  have hs7 : ((tS (tS (hS s1).2).2).1.1).size ≤ 65536 := tS_size (tS (hS s1).2).2 hB3
  have hB4 := (tS_bytes (tS (hS s1).2).2 hB3).1
  have HCK : Aside0 (∀ {b1 b2 b3 : Nat} {o1 o2 o3 : Obj} W, InvO 107 w p ok b1 o1 b2 o2 b3 o3 (tS (tS (hS s1).2).2).2 W ∧ Lie w p ok b1 b2 b3 → Calls Tryd.prog 28 #[.agg #[.int .i64 5, .int .i64 (hS s1).1.1, .int .i64 0, .int .i64 0, .string ⟨#[]⟩, .string ⟨#[]⟩, .string (tS (hS s1).2).1.1, .string (tS (tS (hS s1).2).2).1.1, .slice none 0 0]] W fun e w' => e = .returned (.int .i64 (chk ⟨5, (hS s1).1.1, 0, 0, em, em, (tS (hS s1).2).1.1, (tS (tS (hS s1).2).2).1.1, []⟩)) ∧ InvO 107 w p ok b1 o1 b2 o2 b3 o3 (tS (tS (hS s1).2).2).2 w') := ⟨fun W hW => by
    have hb : Below w0.heap.size w0 W := ⟨hW.1.but.os.trans hw.os, hW.1.but.tape.trans hw.tape, hW.1.but.output.trans hw.output, Nat.le_trans hw.size hW.1.but.size, fun k hk => (hW.1.but.block k (Nat.lt_of_lt_of_le hk hw.size) (by omega)).trans (hw.block k hk)⟩
    have := Check_x ⟨5, (hS s1).1.1, 0, 0, em, em, (tS (hS s1).2).1.1, (tS (tS (hS s1).2).2).1.1, []⟩ none 0 W (hgl.below hb) (Kd.C_nil k44 W) (Nat.le_refl 0) ⟨i64_k 5 (by omega), i64_32 hn1, i64_k 0 (by omega), i64_k 0 (by omega), Nat.zero_le _, Nat.zero_le _, size_up hs6, size_up hs7, Nat.zero_le _, fun i hi => absurd hi (Nat.not_lt_zero i)⟩
    exact this.mono fun e w' h => ⟨h.1, hW.1.below hW.2 h.2⟩⟩
  have HG := Aside0.mk hgl
  have HS1 := Aside0.mk hs1
  clear h hgl hw he7 hs1 hB0 hB1 hB2 hB3 hB4 hn1 hs6 hs7
  go_enter Tryd.func41, Tryd.ntmps41
  go_wp2_with (first
    | (go_at_call 40; (refine (HN.out _ (AtR.al (AtR.al H.out _) _)).mono ?_); rintro e w1 ⟨rfl, h2, h3⟩; have HI0 := Aside0.mk (inv_start 107 w p ok (.cells #[.pointer (some ⟨p, 0, none⟩)] 87) (.cells #[.int .i64 0, .int .i64 0, .int .i64 0, .int .i64 0, .string ⟨#[]⟩, .string ⟨#[]⟩, .string ⟨#[]⟩, .string ⟨#[]⟩, .slice none 0 0] 42) (.cells #[.int .i64 5, .int .i64 0, .int .i64 0, .int .i64 0, .string ⟨#[]⟩, .string ⟨#[]⟩, .string ⟨#[]⟩, .string ⟨#[]⟩, .slice none 0 0] 42) s1 w1 hpw h2 h3); have L := Aside0.mk (lie_start w p ok _ _ w1 hpw hok h3); have hne : ¬ w.heap.size = w1.heap.size := L.out.n13; have hne2 : ¬ w.heap.size + 1 = w1.heap.size := L.out.n23; have q0 := cell_blk (j := 0) (v := .pointer (some ⟨p, 0, none⟩)) HI0.out.k1 rfl; clear h2 h3)
    | (go_at_call 61; (refine (InvO.handle HI0.out L.out).mono ?_); rintro e w2 (⟨he1, rfl, hv1, hI⟩ | ⟨he, rfl, hb⟩); rotate_left; go_loud (focus (unfold stopE; go_wp2_with fail; exact ⟨rfl, opPost_stop hb he (opR_bad s HS1.out 5 _ hk (by decide) (by simp [bodyR, hS_stick (hS s1).2 he, tS_stick (hS s1).2 he]) he)⟩)); have HI1 := Aside0.mk hI; clear hI; have HV1 := Aside0.mk hv1; have HE1 := Aside0.mk he1; clear hv1 he1 q0; have q0 := cell_blk (j := 0) (v := .pointer (some ⟨p, 0, none⟩)) HI1.out.k1 rfl; have fz := Lib.frozen_of_heap HI1.out.k3 1; have HC := InvO.k3 HI1.out; have x0 := cell_blk (j := 0) (v := .int .i64 5) HC rfl; have x1 := cell_blk (j := 1) (v := .int .i64 0) HC rfl; have x2 := cell_blk (j := 2) (v := .int .i64 0) HC rfl; have x3 := cell_blk (j := 3) (v := .int .i64 0) HC rfl; have x4 := cell_blk (j := 4) (v := .string ⟨#[]⟩) HC rfl; have x5 := cell_blk (j := 5) (v := .string ⟨#[]⟩) HC rfl; have x6 := cell_blk (j := 6) (v := .string ⟨#[]⟩) HC rfl; have x7 := cell_blk (j := 7) (v := .string ⟨#[]⟩) HC rfl; have x8 := cell_blk (j := 8) (v := .slice none 0 0) HC rfl; clear HC)
    | (go_at_call 60; (refine (InvO.text (InvO.set HI1.out L.out 1 (.int .i64 (hS s1).1.1)) L.out).mono ?_); rintro e w3 (⟨he2, rfl, hv2, hI⟩ | ⟨he, rfl, hb⟩); rotate_left; go_loud (focus (unfold stopE; go_wp2_with fail; exact ⟨rfl, opPost_stop hb he (opR_bad s HS1.out 5 _ hk (by decide) (by simp [bodyR, hS_stick (tS (hS s1).2).2 he, tS_stick (tS (hS s1).2).2 he]) he)⟩)); have HI2 := Aside0.mk hI; clear hI; have HV2 := Aside0.mk hv2; have HE2 := Aside0.mk he2; clear hv2 he2 q0 fz; clear x0 x1 x2 x3 x4 x5 x6 x7 x8; have q0 := cell_blk (j := 0) (v := .pointer (some ⟨p, 0, none⟩)) HI2.out.k1 rfl; have fz := Lib.frozen_of_heap HI2.out.k3 6; have HC := InvO.k3 HI2.out; have x0 := cell_blk (j := 0) (v := .int .i64 5) HC rfl; have x1 := cell_blk (j := 1) (v := .int .i64 (hS s1).1.1) HC rfl; have x2 := cell_blk (j := 2) (v := .int .i64 0) HC rfl; have x3 := cell_blk (j := 3) (v := .int .i64 0) HC rfl; have x4 := cell_blk (j := 4) (v := .string ⟨#[]⟩) HC rfl; have x5 := cell_blk (j := 5) (v := .string ⟨#[]⟩) HC rfl; have x6 := cell_blk (j := 6) (v := .string ⟨#[]⟩) HC rfl; have x7 := cell_blk (j := 7) (v := .string ⟨#[]⟩) HC rfl; have x8 := cell_blk (j := 8) (v := .slice none 0 0) HC rfl; clear HC)
    | (go_at_call 60; (refine (InvO.text (InvO.set HI2.out L.out 6 (.string (tS (hS s1).2).1.1)) L.out).mono ?_); rintro e w4 (⟨he3, rfl, hv3, hI⟩ | ⟨he, rfl, hb⟩); rotate_left; go_loud (focus (unfold stopE; go_wp2_with fail; exact ⟨rfl, opPost_stop hb he (opR_bad s HS1.out 5 _ hk (by decide) (by simp [bodyR, hS_stick (tS (tS (hS s1).2).2).2 he, tS_stick (tS (tS (hS s1).2).2).2 he]) he)⟩)); have HI3 := Aside0.mk hI; clear hI; have HV3 := Aside0.mk hv3; have HE3 := Aside0.mk he3; clear hv3 he3 q0 fz; clear x0 x1 x2 x3 x4 x5 x6 x7 x8; have q0 := cell_blk (j := 0) (v := .pointer (some ⟨p, 0, none⟩)) HI3.out.k1 rfl; have fz := Lib.frozen_of_heap HI3.out.k3 7; have HC := InvO.k3 HI3.out; have x0 := cell_blk (j := 0) (v := .int .i64 5) HC rfl; have x1 := cell_blk (j := 1) (v := .int .i64 (hS s1).1.1) HC rfl; have x2 := cell_blk (j := 2) (v := .int .i64 0) HC rfl; have x3 := cell_blk (j := 3) (v := .int .i64 0) HC rfl; have x4 := cell_blk (j := 4) (v := .string ⟨#[]⟩) HC rfl; have x5 := cell_blk (j := 5) (v := .string ⟨#[]⟩) HC rfl; have x6 := cell_blk (j := 6) (v := .string (tS (hS s1).2).1.1) HC rfl; have x7 := cell_blk (j := 7) (v := .string ⟨#[]⟩) HC rfl; have x8 := cell_blk (j := 8) (v := .slice none 0 0) HC rfl; clear HC)
    | (go_at_call 28; (refine (HCK.out _ ⟨(InvO.set HI3.out L.out 7 (.string (tS (tS (hS s1).2).2).1.1)), L.out⟩).mono ?_); rintro e w5 ⟨rfl, hI⟩; have HIC := Aside0.mk hI; clear hI q0 fz x0 x1 x2 x3 x4 x5 x6 x7 x8; have HC := InvO.k3 HIC.out; have x0 := cell_blk (j := 0) (v := .int .i64 5) HC rfl; have x1 := cell_blk (j := 1) (v := .int .i64 (hS s1).1.1) HC rfl; have x2 := cell_blk (j := 2) (v := .int .i64 0) HC rfl; have x3 := cell_blk (j := 3) (v := .int .i64 0) HC rfl; have x4 := cell_blk (j := 4) (v := .string ⟨#[]⟩) HC rfl; have x5 := cell_blk (j := 5) (v := .string ⟨#[]⟩) HC rfl; have x6 := cell_blk (j := 6) (v := .string (tS (hS s1).2).1.1) HC rfl; have x7 := cell_blk (j := 7) (v := .string (tS (tS (hS s1).2).2).1.1) HC rfl; have x8 := cell_blk (j := 8) (v := .slice none 0 0) HC rfl; have hY := InvO.k2 HIC.out; have HY := Aside0.mk hY; have y0 := cell_blk (j := 0) (v := .int .i64 0) hY rfl; have z0 := Lib.frozen_of_heap hY 0; have y1 := cell_blk (j := 1) (v := .int .i64 0) hY rfl; have z1 := Lib.frozen_of_heap hY 1; have y2 := cell_blk (j := 2) (v := .int .i64 0) hY rfl; have z2 := Lib.frozen_of_heap hY 2; have y3 := cell_blk (j := 3) (v := .int .i64 0) hY rfl; have z3 := Lib.frozen_of_heap hY 3; have y4 := cell_blk (j := 4) (v := .string ⟨#[]⟩) hY rfl; have z4 := Lib.frozen_of_heap hY 4; have y5 := cell_blk (j := 5) (v := .string ⟨#[]⟩) hY rfl; have z5 := Lib.frozen_of_heap hY 5; have y6 := cell_blk (j := 6) (v := .string ⟨#[]⟩) hY rfl; have z6 := Lib.frozen_of_heap hY 6; have y7 := cell_blk (j := 7) (v := .string ⟨#[]⟩) hY rfl; have z7 := Lib.frozen_of_heap hY 7; have y8 := cell_blk (j := 8) (v := .slice none 0 0) hY rfl; have z8 := Lib.frozen_of_heap hY 8; clear HC hY)
    | (go_at_call 42; (refine (must_d _ _).mono ?_); rintro e w6 ⟨⟨hc, rfl⟩ | ⟨hc, rfl⟩, rfl⟩; rotate_left; focus (unfold stopE; go_wp2_with fail; exact ⟨rfl, opPost_stop HIC.out.but hc (by rw [opR_good s HS1.out 5 hk (by decide) (by simpa [bodyR] using HE3.out)]; simp [bodyR])⟩)))
  have hpz := L.out.h2
  have hgood := opR_good s HS1.out 5 hk (by decide) (by simpa [bodyR] using HE3.out)
  refine bodyPost_ret (results_cell_row rfl _ _ (w.heap.size + 1) 42 _ (0, 0) _ rfl (set_blk (j := 8) (set_blk (j := 7) (set_blk (j := 6) (set_blk (j := 5) (set_blk (j := 4) (set_blk (j := 3) (set_blk (j := 2) (set_blk (j := 1) (set_blk (j := 0) (HY.out) _) _) _) _) _) _) _) _) _) Tryd.underlying42 rfl (by kernel_rfl)) rfl ?_
  simp only [bodyR, Int.reduceEq, if_false, if_true] at hgood
  rw [hgood]
  exact opPost_ok (AtB.set (AtB.set (AtB.set (AtB.set (AtB.set (AtB.set (AtB.set (AtB.set (AtB.set ⟨HIC.out.but, HIC.out.at_⟩ hpw hpz hok 0 _) hpw hpz hok 1 _) hpw hpz hok 2 _) hpw hpz hok 3 _) hpw hpz hok 4 _) hpw hpz hok 5 _) hpw hpz hok 6 _) hpw hpz hok 7 _) hpw hpz hok 8 _) hc (.slice none 0 0) rfl (Kd.R_nil k44 44 _ _ _)
set_option maxHeartbeats 2000000 in
set_option maxRecDepth 100000 in
theorem op_6 (w0 : World) (hgl : GL w0) (p : Nat) (ok : Nat → Prop) (s : St) (w : World) (hok : ∀ k, ok k → k < p) (hw : Below w0.heap.size w0 w) (hw0 : w0.heap.size ≤ p) (h : AtR 107 p ok s.1 s.2 w) (hk : (nS s 7).1 = (6, 0)) :
    Calls Tryd.prog 41 #[.agg #[.pointer (some ⟨p, 0, none⟩)]] w fun e w' => opPost w p ok (opR s) e w' := by
  have hpw := h.lt
  have H := Aside0.mk h
  have he7 : (nS s 7).2.2 = 0 := by rw [← nS_err, hk]
  have HN : Aside0 (∀ W, AtR 107 p ok s.1 s.2 W → Calls Tryd.prog 40 #[.agg #[.pointer (some ⟨p, 0, none⟩)], .int .u64 7] W fun e w' => e = .returned (.int .i64 6) ∧ AtR 107 p ok (nS s 7).2.1 (nS s 7).2.2 w' ∧ But (· = p) W w') := ⟨fun W hW => (num_d 7 (by omega) p ok s W hW).mono (by
    rintro e w' ⟨⟨h0, he, ha⟩ | ⟨h0, he⟩, hb⟩
    · rw [hk] at he
      exact ⟨he, ha, hb⟩
    · exact absurd he7 h0)⟩
  obtain ⟨s1, hs1⟩ : ∃ s1, s1 = (nS s 7).2 := ⟨_, rfl⟩
  rw [← hs1] at HN
  have hB0 := H.out.2.1
  have hB1 := (nS_bytes s 7 hB0).1
  rw [← hs1] at hB1
  have hn1 : num32 (hS s1).1.1 := nS_val s1 4294967295 hB1 (by omega)
  have hB2 := (nS_bytes s1 4294967295 hB1).1
  have hs6 : ((tS (hS s1).2).1.1).size ≤ 65536 := tS_size (hS s1).2 hB2
  have hB3 := (tS_bytes (hS s1).2 hB2).1
  have HCK : Aside0 (∀ {b1 b2 b3 : Nat} {o1 o2 o3 : Obj} W, InvO 107 w p ok b1 o1 b2 o2 b3 o3 (tS (hS s1).2).2 W ∧ Lie w p ok b1 b2 b3 → Calls Tryd.prog 28 #[.agg #[.int .i64 6, .int .i64 (hS s1).1.1, .int .i64 0, .int .i64 0, .string ⟨#[]⟩, .string ⟨#[]⟩, .string (tS (hS s1).2).1.1, .string ⟨#[]⟩, .slice none 0 0]] W fun e w' => e = .returned (.int .i64 (chk ⟨6, (hS s1).1.1, 0, 0, em, em, (tS (hS s1).2).1.1, em, []⟩)) ∧ InvO 107 w p ok b1 o1 b2 o2 b3 o3 (tS (hS s1).2).2 w') := ⟨fun W hW => by
    have hb : Below w0.heap.size w0 W := ⟨hW.1.but.os.trans hw.os, hW.1.but.tape.trans hw.tape, hW.1.but.output.trans hw.output, Nat.le_trans hw.size hW.1.but.size, fun k hk => (hW.1.but.block k (Nat.lt_of_lt_of_le hk hw.size) (by omega)).trans (hw.block k hk)⟩
    have := Check_x ⟨6, (hS s1).1.1, 0, 0, em, em, (tS (hS s1).2).1.1, em, []⟩ none 0 W (hgl.below hb) (Kd.C_nil k44 W) (Nat.le_refl 0) ⟨i64_k 6 (by omega), i64_32 hn1, i64_k 0 (by omega), i64_k 0 (by omega), Nat.zero_le _, Nat.zero_le _, size_up hs6, Nat.zero_le _, Nat.zero_le _, fun i hi => absurd hi (Nat.not_lt_zero i)⟩
    exact this.mono fun e w' h => ⟨h.1, hW.1.below hW.2 h.2⟩⟩
  have HG := Aside0.mk hgl
  have HS1 := Aside0.mk hs1
  clear h hgl hw he7 hs1 hB0 hB1 hB2 hB3 hn1 hs6
  go_enter Tryd.func41, Tryd.ntmps41
  go_wp2_with (first
    | (go_at_call 40; (refine (HN.out _ (AtR.al (AtR.al H.out _) _)).mono ?_); rintro e w1 ⟨rfl, h2, h3⟩; have HI0 := Aside0.mk (inv_start 107 w p ok (.cells #[.pointer (some ⟨p, 0, none⟩)] 87) (.cells #[.int .i64 0, .int .i64 0, .int .i64 0, .int .i64 0, .string ⟨#[]⟩, .string ⟨#[]⟩, .string ⟨#[]⟩, .string ⟨#[]⟩, .slice none 0 0] 42) (.cells #[.int .i64 6, .int .i64 0, .int .i64 0, .int .i64 0, .string ⟨#[]⟩, .string ⟨#[]⟩, .string ⟨#[]⟩, .string ⟨#[]⟩, .slice none 0 0] 42) s1 w1 hpw h2 h3); have L := Aside0.mk (lie_start w p ok _ _ w1 hpw hok h3); have hne : ¬ w.heap.size = w1.heap.size := L.out.n13; have hne2 : ¬ w.heap.size + 1 = w1.heap.size := L.out.n23; have q0 := cell_blk (j := 0) (v := .pointer (some ⟨p, 0, none⟩)) HI0.out.k1 rfl; clear h2 h3)
    | (go_at_call 61; (refine (InvO.handle HI0.out L.out).mono ?_); rintro e w2 (⟨he1, rfl, hv1, hI⟩ | ⟨he, rfl, hb⟩); rotate_left; go_loud (focus (unfold stopE; go_wp2_with fail; exact ⟨rfl, opPost_stop hb he (opR_bad s HS1.out 6 _ hk (by decide) (by simp [bodyR, hS_stick (hS s1).2 he, tS_stick (hS s1).2 he]) he)⟩)); have HI1 := Aside0.mk hI; clear hI; have HV1 := Aside0.mk hv1; have HE1 := Aside0.mk he1; clear hv1 he1 q0; have q0 := cell_blk (j := 0) (v := .pointer (some ⟨p, 0, none⟩)) HI1.out.k1 rfl; have fz := Lib.frozen_of_heap HI1.out.k3 1; have HC := InvO.k3 HI1.out; have x0 := cell_blk (j := 0) (v := .int .i64 6) HC rfl; have x1 := cell_blk (j := 1) (v := .int .i64 0) HC rfl; have x2 := cell_blk (j := 2) (v := .int .i64 0) HC rfl; have x3 := cell_blk (j := 3) (v := .int .i64 0) HC rfl; have x4 := cell_blk (j := 4) (v := .string ⟨#[]⟩) HC rfl; have x5 := cell_blk (j := 5) (v := .string ⟨#[]⟩) HC rfl; have x6 := cell_blk (j := 6) (v := .string ⟨#[]⟩) HC rfl; have x7 := cell_blk (j := 7) (v := .string ⟨#[]⟩) HC rfl; have x8 := cell_blk (j := 8) (v := .slice none 0 0) HC rfl; clear HC)
    | (go_at_call 60; (refine (InvO.text (InvO.set HI1.out L.out 1 (.int .i64 (hS s1).1.1)) L.out).mono ?_); rintro e w3 (⟨he2, rfl, hv2, hI⟩ | ⟨he, rfl, hb⟩); rotate_left; go_loud (focus (unfold stopE; go_wp2_with fail; exact ⟨rfl, opPost_stop hb he (opR_bad s HS1.out 6 _ hk (by decide) (by simp [bodyR, hS_stick (tS (hS s1).2).2 he, tS_stick (tS (hS s1).2).2 he]) he)⟩)); have HI2 := Aside0.mk hI; clear hI; have HV2 := Aside0.mk hv2; have HE2 := Aside0.mk he2; clear hv2 he2 q0 fz; clear x0 x1 x2 x3 x4 x5 x6 x7 x8; have q0 := cell_blk (j := 0) (v := .pointer (some ⟨p, 0, none⟩)) HI2.out.k1 rfl; have fz := Lib.frozen_of_heap HI2.out.k3 6; have HC := InvO.k3 HI2.out; have x0 := cell_blk (j := 0) (v := .int .i64 6) HC rfl; have x1 := cell_blk (j := 1) (v := .int .i64 (hS s1).1.1) HC rfl; have x2 := cell_blk (j := 2) (v := .int .i64 0) HC rfl; have x3 := cell_blk (j := 3) (v := .int .i64 0) HC rfl; have x4 := cell_blk (j := 4) (v := .string ⟨#[]⟩) HC rfl; have x5 := cell_blk (j := 5) (v := .string ⟨#[]⟩) HC rfl; have x6 := cell_blk (j := 6) (v := .string ⟨#[]⟩) HC rfl; have x7 := cell_blk (j := 7) (v := .string ⟨#[]⟩) HC rfl; have x8 := cell_blk (j := 8) (v := .slice none 0 0) HC rfl; clear HC)
    | (go_at_call 28; (refine (HCK.out _ ⟨(InvO.set HI2.out L.out 6 (.string (tS (hS s1).2).1.1)), L.out⟩).mono ?_); rintro e w4 ⟨rfl, hI⟩; have HIC := Aside0.mk hI; clear hI q0 fz x0 x1 x2 x3 x4 x5 x6 x7 x8; have HC := InvO.k3 HIC.out; have x0 := cell_blk (j := 0) (v := .int .i64 6) HC rfl; have x1 := cell_blk (j := 1) (v := .int .i64 (hS s1).1.1) HC rfl; have x2 := cell_blk (j := 2) (v := .int .i64 0) HC rfl; have x3 := cell_blk (j := 3) (v := .int .i64 0) HC rfl; have x4 := cell_blk (j := 4) (v := .string ⟨#[]⟩) HC rfl; have x5 := cell_blk (j := 5) (v := .string ⟨#[]⟩) HC rfl; have x6 := cell_blk (j := 6) (v := .string (tS (hS s1).2).1.1) HC rfl; have x7 := cell_blk (j := 7) (v := .string ⟨#[]⟩) HC rfl; have x8 := cell_blk (j := 8) (v := .slice none 0 0) HC rfl; have hY := InvO.k2 HIC.out; have HY := Aside0.mk hY; have y0 := cell_blk (j := 0) (v := .int .i64 0) hY rfl; have z0 := Lib.frozen_of_heap hY 0; have y1 := cell_blk (j := 1) (v := .int .i64 0) hY rfl; have z1 := Lib.frozen_of_heap hY 1; have y2 := cell_blk (j := 2) (v := .int .i64 0) hY rfl; have z2 := Lib.frozen_of_heap hY 2; have y3 := cell_blk (j := 3) (v := .int .i64 0) hY rfl; have z3 := Lib.frozen_of_heap hY 3; have y4 := cell_blk (j := 4) (v := .string ⟨#[]⟩) hY rfl; have z4 := Lib.frozen_of_heap hY 4; have y5 := cell_blk (j := 5) (v := .string ⟨#[]⟩) hY rfl; have z5 := Lib.frozen_of_heap hY 5; have y6 := cell_blk (j := 6) (v := .string ⟨#[]⟩) hY rfl; have z6 := Lib.frozen_of_heap hY 6; have y7 := cell_blk (j := 7) (v := .string ⟨#[]⟩) hY rfl; have z7 := Lib.frozen_of_heap hY 7; have y8 := cell_blk (j := 8) (v := .slice none 0 0) hY rfl; have z8 := Lib.frozen_of_heap hY 8; clear HC hY)
    | (go_at_call 42; (refine (must_d _ _).mono ?_); rintro e w5 ⟨⟨hc, rfl⟩ | ⟨hc, rfl⟩, rfl⟩; rotate_left; focus (unfold stopE; go_wp2_with fail; exact ⟨rfl, opPost_stop HIC.out.but hc (by rw [opR_good s HS1.out 6 hk (by decide) (by simpa [bodyR] using HE2.out)]; simp [bodyR])⟩)))
  have hpz := L.out.h2
  have hgood := opR_good s HS1.out 6 hk (by decide) (by simpa [bodyR] using HE2.out)
  refine bodyPost_ret (results_cell_row rfl _ _ (w.heap.size + 1) 42 _ (0, 0) _ rfl (set_blk (j := 8) (set_blk (j := 7) (set_blk (j := 6) (set_blk (j := 5) (set_blk (j := 4) (set_blk (j := 3) (set_blk (j := 2) (set_blk (j := 1) (set_blk (j := 0) (HY.out) _) _) _) _) _) _) _) _) _) Tryd.underlying42 rfl (by kernel_rfl)) rfl ?_
  simp only [bodyR, Int.reduceEq, if_false, if_true] at hgood
  rw [hgood]
  exact opPost_ok (AtB.set (AtB.set (AtB.set (AtB.set (AtB.set (AtB.set (AtB.set (AtB.set (AtB.set ⟨HIC.out.but, HIC.out.at_⟩ hpw hpz hok 0 _) hpw hpz hok 1 _) hpw hpz hok 2 _) hpw hpz hok 3 _) hpw hpz hok 4 _) hpw hpz hok 5 _) hpw hpz hok 6 _) hpw hpz hok 7 _) hpw hpz hok 8 _) hc (.slice none 0 0) rfl (Kd.R_nil k44 44 _ _ _)
set_option maxHeartbeats 2000000 in
set_option maxRecDepth 100000 in
theorem op_7 (w0 : World) (hgl : GL w0) (p : Nat) (ok : Nat → Prop) (s : St) (w : World) (hok : ∀ k, ok k → k < p) (hw : Below w0.heap.size w0 w) (hw0 : w0.heap.size ≤ p) (h : AtR 107 p ok s.1 s.2 w) (hk : (nS s 7).1 = (7, 0)) :
    Calls Tryd.prog 41 #[.agg #[.pointer (some ⟨p, 0, none⟩)]] w fun e w' => opPost w p ok (opR s) e w' := by
  have hpw := h.lt
  have H := Aside0.mk h
  have he7 : (nS s 7).2.2 = 0 := by rw [← nS_err, hk]
  have HN : Aside0 (∀ W, AtR 107 p ok s.1 s.2 W → Calls Tryd.prog 40 #[.agg #[.pointer (some ⟨p, 0, none⟩)], .int .u64 7] W fun e w' => e = .returned (.int .i64 7) ∧ AtR 107 p ok (nS s 7).2.1 (nS s 7).2.2 w' ∧ But (· = p) W w') := ⟨fun W hW => (num_d 7 (by omega) p ok s W hW).mono (by
    rintro e w' ⟨⟨h0, he, ha⟩ | ⟨h0, he⟩, hb⟩
    · rw [hk] at he
      exact ⟨he, ha, hb⟩
    · exact absurd he7 h0)⟩
  obtain ⟨s1, hs1⟩ : ∃ s1, s1 = (nS s 7).2 := ⟨_, rfl⟩
  rw [← hs1] at HN
  have hB0 := H.out.2.1
  have hB1 := (nS_bytes s 7 hB0).1
  rw [← hs1] at hB1
  have hn1 : num32 (hS s1).1.1 := nS_val s1 4294967295 hB1 (by omega)
  have hB2 := (nS_bytes s1 4294967295 hB1).1
  have hs7 : ((tS (hS s1).2).1.1).size ≤ 65536 := tS_size (hS s1).2 hB2
  have hB3 := (tS_bytes (hS s1).2 hB2).1
  have HCK : Aside0 (∀ {b1 b2 b3 : Nat} {o1 o2 o3 : Obj} W, InvO 107 w p ok b1 o1 b2 o2 b3 o3 (tS (hS s1).2).2 W ∧ Lie w p ok b1 b2 b3 → Calls Tryd.prog 28 #[.agg #[.int .i64 7, .int .i64 (hS s1).1.1, .int .i64 0, .int .i64 0, .string ⟨#[]⟩, .string ⟨#[]⟩, .string ⟨#[]⟩, .string (tS (hS s1).2).1.1, .slice none 0 0]] W fun e w' => e = .returned (.int .i64 (chk ⟨7, (hS s1).1.1, 0, 0, em, em, em, (tS (hS s1).2).1.1, []⟩)) ∧ InvO 107 w p ok b1 o1 b2 o2 b3 o3 (tS (hS s1).2).2 w') := ⟨fun W hW => by
    have hb : Below w0.heap.size w0 W := ⟨hW.1.but.os.trans hw.os, hW.1.but.tape.trans hw.tape, hW.1.but.output.trans hw.output, Nat.le_trans hw.size hW.1.but.size, fun k hk => (hW.1.but.block k (Nat.lt_of_lt_of_le hk hw.size) (by omega)).trans (hw.block k hk)⟩
    have := Check_x ⟨7, (hS s1).1.1, 0, 0, em, em, em, (tS (hS s1).2).1.1, []⟩ none 0 W (hgl.below hb) (Kd.C_nil k44 W) (Nat.le_refl 0) ⟨i64_k 7 (by omega), i64_32 hn1, i64_k 0 (by omega), i64_k 0 (by omega), Nat.zero_le _, Nat.zero_le _, Nat.zero_le _, size_up hs7, Nat.zero_le _, fun i hi => absurd hi (Nat.not_lt_zero i)⟩
    exact this.mono fun e w' h => ⟨h.1, hW.1.below hW.2 h.2⟩⟩
  have HG := Aside0.mk hgl
  have HS1 := Aside0.mk hs1
  clear h hgl hw he7 hs1 hB0 hB1 hB2 hB3 hn1 hs7
  go_enter Tryd.func41, Tryd.ntmps41
  go_wp2_with (first
    | (go_at_call 40; (refine (HN.out _ (AtR.al (AtR.al H.out _) _)).mono ?_); rintro e w1 ⟨rfl, h2, h3⟩; have HI0 := Aside0.mk (inv_start 107 w p ok (.cells #[.pointer (some ⟨p, 0, none⟩)] 87) (.cells #[.int .i64 0, .int .i64 0, .int .i64 0, .int .i64 0, .string ⟨#[]⟩, .string ⟨#[]⟩, .string ⟨#[]⟩, .string ⟨#[]⟩, .slice none 0 0] 42) (.cells #[.int .i64 7, .int .i64 0, .int .i64 0, .int .i64 0, .string ⟨#[]⟩, .string ⟨#[]⟩, .string ⟨#[]⟩, .string ⟨#[]⟩, .slice none 0 0] 42) s1 w1 hpw h2 h3); have L := Aside0.mk (lie_start w p ok _ _ w1 hpw hok h3); have hne : ¬ w.heap.size = w1.heap.size := L.out.n13; have hne2 : ¬ w.heap.size + 1 = w1.heap.size := L.out.n23; have q0 := cell_blk (j := 0) (v := .pointer (some ⟨p, 0, none⟩)) HI0.out.k1 rfl; clear h2 h3)
    | (go_at_call 61; (refine (InvO.handle HI0.out L.out).mono ?_); rintro e w2 (⟨he1, rfl, hv1, hI⟩ | ⟨he, rfl, hb⟩); rotate_left; go_loud (focus (unfold stopE; go_wp2_with fail; exact ⟨rfl, opPost_stop hb he (opR_bad s HS1.out 7 _ hk (by decide) (by simp [bodyR, hS_stick (hS s1).2 he, tS_stick (hS s1).2 he]) he)⟩)); have HI1 := Aside0.mk hI; clear hI; have HV1 := Aside0.mk hv1; have HE1 := Aside0.mk he1; clear hv1 he1 q0; have q0 := cell_blk (j := 0) (v := .pointer (some ⟨p, 0, none⟩)) HI1.out.k1 rfl; have fz := Lib.frozen_of_heap HI1.out.k3 1; have HC := InvO.k3 HI1.out; have x0 := cell_blk (j := 0) (v := .int .i64 7) HC rfl; have x1 := cell_blk (j := 1) (v := .int .i64 0) HC rfl; have x2 := cell_blk (j := 2) (v := .int .i64 0) HC rfl; have x3 := cell_blk (j := 3) (v := .int .i64 0) HC rfl; have x4 := cell_blk (j := 4) (v := .string ⟨#[]⟩) HC rfl; have x5 := cell_blk (j := 5) (v := .string ⟨#[]⟩) HC rfl; have x6 := cell_blk (j := 6) (v := .string ⟨#[]⟩) HC rfl; have x7 := cell_blk (j := 7) (v := .string ⟨#[]⟩) HC rfl; have x8 := cell_blk (j := 8) (v := .slice none 0 0) HC rfl; clear HC)
    | (go_at_call 60; (refine (InvO.text (InvO.set HI1.out L.out 1 (.int .i64 (hS s1).1.1)) L.out).mono ?_); rintro e w3 (⟨he2, rfl, hv2, hI⟩ | ⟨he, rfl, hb⟩); rotate_left; go_loud (focus (unfold stopE; go_wp2_with fail; exact ⟨rfl, opPost_stop hb he (opR_bad s HS1.out 7 _ hk (by decide) (by simp [bodyR, hS_stick (tS (hS s1).2).2 he, tS_stick (tS (hS s1).2).2 he]) he)⟩)); have HI2 := Aside0.mk hI; clear hI; have HV2 := Aside0.mk hv2; have HE2 := Aside0.mk he2; clear hv2 he2 q0 fz; clear x0 x1 x2 x3 x4 x5 x6 x7 x8; have q0 := cell_blk (j := 0) (v := .pointer (some ⟨p, 0, none⟩)) HI2.out.k1 rfl; have fz := Lib.frozen_of_heap HI2.out.k3 7; have HC := InvO.k3 HI2.out; have x0 := cell_blk (j := 0) (v := .int .i64 7) HC rfl; have x1 := cell_blk (j := 1) (v := .int .i64 (hS s1).1.1) HC rfl; have x2 := cell_blk (j := 2) (v := .int .i64 0) HC rfl; have x3 := cell_blk (j := 3) (v := .int .i64 0) HC rfl; have x4 := cell_blk (j := 4) (v := .string ⟨#[]⟩) HC rfl; have x5 := cell_blk (j := 5) (v := .string ⟨#[]⟩) HC rfl; have x6 := cell_blk (j := 6) (v := .string ⟨#[]⟩) HC rfl; have x7 := cell_blk (j := 7) (v := .string ⟨#[]⟩) HC rfl; have x8 := cell_blk (j := 8) (v := .slice none 0 0) HC rfl; clear HC)
    | (go_at_call 28; (refine (HCK.out _ ⟨(InvO.set HI2.out L.out 7 (.string (tS (hS s1).2).1.1)), L.out⟩).mono ?_); rintro e w4 ⟨rfl, hI⟩; have HIC := Aside0.mk hI; clear hI q0 fz x0 x1 x2 x3 x4 x5 x6 x7 x8; have HC := InvO.k3 HIC.out; have x0 := cell_blk (j := 0) (v := .int .i64 7) HC rfl; have x1 := cell_blk (j := 1) (v := .int .i64 (hS s1).1.1) HC rfl; have x2 := cell_blk (j := 2) (v := .int .i64 0) HC rfl; have x3 := cell_blk (j := 3) (v := .int .i64 0) HC rfl; have x4 := cell_blk (j := 4) (v := .string ⟨#[]⟩) HC rfl; have x5 := cell_blk (j := 5) (v := .string ⟨#[]⟩) HC rfl; have x6 := cell_blk (j := 6) (v := .string ⟨#[]⟩) HC rfl; have x7 := cell_blk (j := 7) (v := .string (tS (hS s1).2).1.1) HC rfl; have x8 := cell_blk (j := 8) (v := .slice none 0 0) HC rfl; have hY := InvO.k2 HIC.out; have HY := Aside0.mk hY; have y0 := cell_blk (j := 0) (v := .int .i64 0) hY rfl; have z0 := Lib.frozen_of_heap hY 0; have y1 := cell_blk (j := 1) (v := .int .i64 0) hY rfl; have z1 := Lib.frozen_of_heap hY 1; have y2 := cell_blk (j := 2) (v := .int .i64 0) hY rfl; have z2 := Lib.frozen_of_heap hY 2; have y3 := cell_blk (j := 3) (v := .int .i64 0) hY rfl; have z3 := Lib.frozen_of_heap hY 3; have y4 := cell_blk (j := 4) (v := .string ⟨#[]⟩) hY rfl; have z4 := Lib.frozen_of_heap hY 4; have y5 := cell_blk (j := 5) (v := .string ⟨#[]⟩) hY rfl; have z5 := Lib.frozen_of_heap hY 5; have y6 := cell_blk (j := 6) (v := .string ⟨#[]⟩) hY rfl; have z6 := Lib.frozen_of_heap hY 6; have y7 := cell_blk (j := 7) (v := .string ⟨#[]⟩) hY rfl; have z7 := Lib.frozen_of_heap hY 7; have y8 := cell_blk (j := 8) (v := .slice none 0 0) hY rfl; have z8 := Lib.frozen_of_heap hY 8; clear HC hY)
    | (go_at_call 42; (refine (must_d _ _).mono ?_); rintro e w5 ⟨⟨hc, rfl⟩ | ⟨hc, rfl⟩, rfl⟩; rotate_left; focus (unfold stopE; go_wp2_with fail; exact ⟨rfl, opPost_stop HIC.out.but hc (by rw [opR_good s HS1.out 7 hk (by decide) (by simpa [bodyR] using HE2.out)]; simp [bodyR])⟩)))
  have hpz := L.out.h2
  have hgood := opR_good s HS1.out 7 hk (by decide) (by simpa [bodyR] using HE2.out)
  refine bodyPost_ret (results_cell_row rfl _ _ (w.heap.size + 1) 42 _ (0, 0) _ rfl (set_blk (j := 8) (set_blk (j := 7) (set_blk (j := 6) (set_blk (j := 5) (set_blk (j := 4) (set_blk (j := 3) (set_blk (j := 2) (set_blk (j := 1) (set_blk (j := 0) (HY.out) _) _) _) _) _) _) _) _) _) Tryd.underlying42 rfl (by kernel_rfl)) rfl ?_
  simp only [bodyR, Int.reduceEq, if_false, if_true] at hgood
  rw [hgood]
  exact opPost_ok (AtB.set (AtB.set (AtB.set (AtB.set (AtB.set (AtB.set (AtB.set (AtB.set (AtB.set ⟨HIC.out.but, HIC.out.at_⟩ hpw hpz hok 0 _) hpw hpz hok 1 _) hpw hpz hok 2 _) hpw hpz hok 3 _) hpw hpz hok 4 _) hpw hpz hok 5 _) hpw hpz hok 6 _) hpw hpz hok 7 _) hpw hpz hok 8 _) hc (.slice none 0 0) rfl (Kd.R_nil k44 44 _ _ _)
end Go.Proofs.YtfpijjjmgggfkaaDoorE

namespace Go.Proofs.YtfpijjjmgggfkaaDoorE
open Go Go.RowKit Go.Proofs.YtfpijjjmgggfkaaDoorW.PrintWords Go.Proofs.YtfpijjjmgggfkaaDoorW.PrintMore Go.Proofs.YtfpijjjmgggfkaaDoorX Go.Proofs.YtfpijjjmgggfkaaDoor.P26 Go.Proofs.YtfpijjjmgggfkaaDoor.L01
set_option linter.unusedVariables false
set_option linter.unusedSimpArgs false
set_option maxHeartbeats 2000000 in
set_option maxRecDepth 100000 in
theorem op_bad (p : Nat) (ok : Nat → Prop) (s : St) (w : World) (h : AtR 107 p ok s.1 s.2 w) (hn : (nS s 7).2.2 ≠ 0) :
    Calls Tryd.prog 41 #[.agg #[.pointer (some ⟨p, 0, none⟩)]] w fun e w' => opPost w p ok (opR s) e w' := by
  have hpw := h.lt
  have HN := Aside0.mk (num_d 7 (by omega) p ok s _ (AtR.al (AtR.al h (.cells #[.pointer (some ⟨p, 0, none⟩)] 87)) (.cells #[.int .i64 0, .int .i64 0, .int .i64 0, .int .i64 0, .string ⟨#[]⟩, .string ⟨#[]⟩, .string ⟨#[]⟩, .string ⟨#[]⟩, .slice none 0 0] 42)))
  have he : (opR s).1.2 = (nS s 7).2.2 := by
    unfold opR
    rw [if_pos (by rw [nS_err]; exact hn), nS_err]
  have HE := Aside0.mk he
  obtain ⟨R, hR⟩ : ∃ R, R = opR s := ⟨_, rfl⟩
  rw [← hR] at HE ⊢
  obtain ⟨t, ht⟩ : ∃ t, t = (nS s 7) := ⟨_, rfl⟩
  rw [← ht] at HE HN hn
  have HN0 := Aside0.mk hn
  clear h he hR ht hn
  go_enter Tryd.func41, Tryd.ntmps41
  go_wp2_with (first
    | (go_at_call 40; (refine (HN.out).mono ?_); rintro e w1 ⟨⟨h0, rfl, ha⟩ | ⟨h0, rfl⟩, hb⟩; (exact absurd h0 HN0.out); unfold stopE; have HB := Aside0.mk hb; clear hb h0))
  exact ⟨rfl, opPost_stop ((((But.refl _ w).alloc _).alloc _).then_ HB.out) HN0.out HE.out⟩
set_option maxHeartbeats 2000000 in
set_option maxRecDepth 100000 in
theorem op_0 (p : Nat) (ok : Nat → Prop) (s : St) (w : World) (h : AtR 107 p ok s.1 s.2 w) (hk : (nS s 7).1 = (0, 0)) :
    Calls Tryd.prog 41 #[.agg #[.pointer (some ⟨p, 0, none⟩)]] w fun e w' => opPost w p ok (opR s) e w' := by
  have hpw := h.lt
  have he7 : (nS s 7).2.2 = 0 := by rw [← nS_err, hk]
  have HN : Aside0 (∀ W, AtR 107 p ok s.1 s.2 W → Calls Tryd.prog 40 #[.agg #[.pointer (some ⟨p, 0, none⟩)], .int .u64 7] W fun e w' => e = .returned (.int .i64 0) ∧ But (· = p) W w') := ⟨fun W hW => (num_d 7 (by omega) p ok s W hW).mono (by
    rintro e w' ⟨⟨h0, he, ha⟩ | ⟨h0, he⟩, hb⟩
    · rw [hk] at he
      exact ⟨he, hb⟩
    · exact absurd he7 h0)⟩
  have H := Aside0.mk h
  have he : (opR s).1.2 = 6 := by
    unfold opR
    rw [hk, if_neg (by simp), if_pos rfl]
  have HE := Aside0.mk he
  obtain ⟨R, hR⟩ : ∃ R, R = opR s := ⟨_, rfl⟩
  rw [← hR] at HE ⊢
  clear h he hR he7 hk
  go_enter Tryd.func41, Tryd.ntmps41
  go_wp2_with (first
    | (go_at_call 40; (refine (HN.out _ (AtR.al (AtR.al H.out _) _)).mono ?_); rintro e w1 ⟨rfl, hb⟩; have HB := Aside0.mk hb; clear hb)
    | (go_at_call 42; (refine (must_bad 6 (by decide) _).mono ?_); rintro e w2 ⟨rfl, rfl⟩; unfold stopE))
  exact ⟨rfl, opPost_stop (((((But.refl _ w).alloc _).alloc _).then_ HB.out).alloc _) (by decide) HE.out⟩
/-- codec.reader.op. -/
theorem op_c (w0 : World) (hgl : GL w0) (p : Nat) (ok : Nat → Prop) (s : St) (w : World) (hok : ∀ k, ok k → k < p) (hw : Below w0.heap.size w0 w) (hw0 : w0.heap.size ≤ p) (h : AtR 107 p ok s.1 s.2 w) :
    Calls Tryd.prog 41 #[.agg #[.pointer (some ⟨p, 0, none⟩)]] w fun e w' => opPost w p ok (opR s) e w' := by
  by_cases he : (nS s 7).2.2 = 0
  · obtain ⟨k, hk⟩ : ∃ k, (nS s 7).1 = (k, 0) := ⟨(nS s 7).1.1, by rw [← he, ← nS_err]⟩
    have hv := nS_val s 7 h.2.1 (by omega)
    rw [hk] at hv
    simp only at hv
    have hc : k = 0 ∨ k = 1 ∨ k = 2 ∨ k = 3 ∨ k = 4 ∨ k = 5 ∨ k = 6 ∨ k = 7 := by omega
    rcases hc with rfl | rfl | rfl | rfl | rfl | rfl | rfl | rfl
    · exact op_0 p ok s w h hk
    · exact op_1 w0 hgl p ok s w hok hw hw0 h hk
    · exact op_2 w0 hgl p ok s w hok hw hw0 h hk
    · exact op_3 w0 hgl p ok s w hok hw hw0 h hk
    · exact op_4 w0 hgl p ok s w hok hw hw0 h hk
    · exact op_5 w0 hgl p ok s w hok hw hw0 h hk
    · exact op_6 w0 hgl p ok s w hok hw hw0 h hk
    · exact op_7 w0 hgl p ok s w hok hw hw0 h hk
  · exact op_bad p ok s w h he
end Go.Proofs.YtfpijjjmgggfkaaDoorE

namespace Go.Proofs.YtfpijjjmgggfkaaDoorE
open Go Go.RowKit Go.Proofs.YtfpijjjmgggfkaaDoorW.PrintWords Go.Proofs.YtfpijjjmgggfkaaDoorW.PrintMore Go.Proofs.YtfpijjjmgggfkaaDoorX Go.Proofs.YtfpijjjmgggfkaaDoor.P26 Go.Proofs.YtfpijjjmgggfkaaDoor.L01
set_option linter.unusedVariables false
set_option linter.unusedSimpArgs false
set_option maxRecDepth 100000
theorem catch_stop (g : Nat) (x n : Int) (w : World) (hc : w.cell? ⟨g, 0, none⟩ = some (.int .i64 x)) (hz : w.frozen? ⟨g, 0, none⟩ = false) :
    CallsD Tryd.prog 38 #[.pointer (some ⟨g, 0, none⟩)] (.panicking ({ v := .iface 82 (.int .i64 n), recovered := false } :: [])) w fun e u' w' =>
      e = .returned (.tuple #[]) ∧ u' = .panicking ({ v := .iface 82 (.int .i64 n), recovered := true } :: []) ∧ w' = w.setCell ⟨g, 0, none⟩ (.int .i64 n) := by
  have hta : ∀ (v : Value) (w : World), (Instr.typeAssert (Value.iface 82 v) 20 82 true).run Tryd.prog w = .ok (.tuple #[v, .bool true]) w := fun _ _ => rfl
  refine callsD_of_wpS Tryd.func38 rfl fun c₀ cs hu => ?_
  apply wpS_seq
  apply wpS_region
  simp [wpOpsS, go_sem, recoverD, hu, Tryd.ntmps38, Exit.thenS]
  apply wpS_seq
  apply wpS_region
  simp [wpOpsS, go_sem, Exit.thenS]
  refine wpS_cond (t := true) (by simp [Act.eval, Array.replicate]) ?_
  simp only [if_true]
  apply wpS_seq
  apply wpS_region
  simp [wpOpsS, go_sem, Exit.thenS, hta]
  apply wpS_seq
  apply wpS_seq
  apply wpS_region
  simp [wpOpsS, go_sem, Exit.thenS]
  refine wpS_cond (t := false) (by simp [Act.eval, Array.replicate]) ?_
  simp only [Bool.false_eq_true, if_false]
  refine wpS_of_wp (wp_skip ?_)
  simp only [Exit.thenS]
  apply wpS_region
  simp [wpOpsS, go_sem, Exit.thenS, hc, hz, bodyPostS, results, Tryd.results38]
theorem catch_idle (g : Nat) (w : World) :
    CallsD Tryd.prog 38 #[.pointer (some ⟨g, 0, none⟩)] .returning w fun e u' w' => e = .returned (.tuple #[]) ∧ u' = .returning ∧ w' = w := by
  refine callsD_of_wpS Tryd.func38 rfl fun c₀ cs hu => ?_
  apply wpS_seq
  apply wpS_region
  simp [wpOpsS, go_sem, recoverD, hu, Tryd.ntmps38, Exit.thenS]
  apply wpS_seq
  apply wpS_region
  simp [wpOpsS, go_sem, Exit.thenS]
  refine wpS_cond (t := false) (by simp [Act.eval, Array.replicate]) ?_
  simp only [Bool.false_eq_true, if_false]
  refine wpS_of_wp (wp_skip ?_)
  cases c₀
  simp_all [bodyPostS, results, Tryd.results38]
end Go.Proofs.YtfpijjjmgggfkaaDoorE

namespace Go.Proofs.YtfpijjjmgggfkaaDoorE
open Go Go.RowKit Go.Proofs.YtfpijjjmgggfkaaDoorW.PrintWords Go.Proofs.YtfpijjjmgggfkaaDoorW.PrintMore Go.Proofs.YtfpijjjmgggfkaaDoorX Go.Proofs.YtfpijjjmgggfkaaDoor.P26 Go.Proofs.YtfpijjjmgggfkaaDoor.L01
set_option linter.unusedVariables false
set_option linter.unusedSimpArgs false
set_option maxRecDepth 100000
/-- What a script's bytes say: the operations read, and the error that ended it. -/
def readR (bs : List Int) : List S42 × Int :=
  if (nS (bs, 0) 1048576).2.2 ≠ 0 then ([], (nS (bs, 0) 1048576).2.2)
  else if (opsR (nS (bs, 0) 1048576).1.1.toNat (nS (bs, 0) 1048576).2).2.1 ≠ 0 then ((opsR (nS (bs, 0) 1048576).1.1.toNat (nS (bs, 0) 1048576).2).1, (opsR (nS (bs, 0) 1048576).1.1.toNat (nS (bs, 0) 1048576).2).2.1)
  else ((opsR (nS (bs, 0) 1048576).1.1.toNat (nS (bs, 0) 1048576).2).1, endR (opsR (nS (bs, 0) 1048576).1.1.toNat (nS (bs, 0) 1048576).2).2.2.1 (opsR (nS (bs, 0) 1048576).1.1.toNat (nS (bs, 0) 1048576).2).2.2.2)
theorem info_op : (Tryd.prog.info? 42).map (fun i => (i.zero, i.size, i.bytes)) = some (some (.agg #[.int .i64 0, .int .i64 0, .int .i64 0, .int .i64 0, .string ⟨#[]⟩, .string ⟨#[]⟩, .string ⟨#[]⟩, .string ⟨#[]⟩, .slice none 0 0]), k42.sz, 120) := by kernel_rfl
/-- What codec.read tells. -/
def readPost (w : World) (bs : List Int) (e : Ending) (w' : World) : Prop :=
  (∃ v, e = .returned (.tuple #[v, .int .i64 (readR bs).2]) ∧ k42.R 42 w' w.heap.size (fun _ => True) v (readR bs).1) ∧ Below w.heap.size w w'
/-- The door of codec.read, where a reading has been stopped. -/
theorem door_stop {Φ : Ending → World → Prop} {g : Nat} {v0 v1 v v4 v5 v6 v7 v8 v9 v10 v11 v12 v13 v14 v15 v16 v17 v18 v19 v20 v21 v22 v23 : Value} {n : Int} {w4 : World} (hc : w4.heap[g]? = some (.cells #[.int .i64 0] 26 (0, 0)))
    (h : Φ (.returned (.tuple #[v, .int .i64 n])) (w4.setCell ⟨g, 0, none⟩ (.int .i64 n))) :
    bodyPostD Tryd.prog Tryd.f21 Φ (Exit.panic [{ v := .iface 82 (.int .i64 n), recovered := false }]) { tmps := #[v0, v1, v, .pointer (some ⟨g, 0, none⟩), v4, v5, v6, v7, v8, v9, v10, v11, v12, v13, v14, v15, v16, v17, v18, v19, v20, v21, v22, v23], defers := [{ target := Target.fn (Fn.func 38) #[.pointer (some ⟨g, 0, none⟩)], args := #[] }] } w4 := by
  have c0 := cell_blk (j := 0) (v := .int .i64 0) hc rfl
  have hlt := blk_lt' hc
  refine leaves_cons (f := 38) (args := #[.pointer (some ⟨g, 0, none⟩)]) (by simp) (by simp [go_sem]) ?_
  refine (catch_stop g 0 n w4 c0 (Lib.frozen_of_heap hc 0)).mono ?_
  rintro e u' w'' ⟨rfl, rfl, rfl⟩
  have c1 : (w4.setCell ⟨g, 0, none⟩ (.int .i64 n)).cell? ⟨g, 0, none⟩ = some (.int .i64 n) := by rw [Lib.cell_of_heap (set_blk hc _)]; rfl
  simp [Leaves, settle, results, Tryd.results21, go_sem, c1]
  exact h
/-- The door of codec.read behind a return. -/
theorem door_ret {Φ : Ending → World → Prop} {g : Nat} {v0 v1 v v4 v5 v6 v7 v8 v9 v10 v11 v12 v13 v14 v15 v16 v17 v18 v19 v20 v21 v22 v23 : Value} {n : Int} {w4 : World} (hc : w4.heap[g]? = some (.cells #[.int .i64 n] 26 (0, 0)))
    (h : Φ (.returned (.tuple #[v, .int .i64 n])) w4) :
    bodyPostD Tryd.prog Tryd.f21 Φ Exit.ret { tmps := #[v0, v1, v, .pointer (some ⟨g, 0, none⟩), v4, v5, v6, v7, v8, v9, v10, v11, v12, v13, v14, v15, v16, v17, v18, v19, v20, v21, v22, v23], defers := [{ target := Target.fn (Fn.func 38) #[.pointer (some ⟨g, 0, none⟩)], args := #[] }] } w4 := by
  have c0 := cell_blk (j := 0) (v := .int .i64 n) hc rfl
  refine leaves_cons (f := 38) (args := #[.pointer (some ⟨g, 0, none⟩)]) (by simp) (by simp [go_sem]) ?_
  refine (catch_idle g w4).mono ?_
  rintro e u' w'' ⟨rfl, rfl, rfl⟩
  simp [Leaves, settle, results, Tryd.results21, go_sem, c0]
  exact h
theorem readPost_mk {w w' : World} {bs : List Int} {v : Value} {n : Int} (l : List S42) (hR : readR bs = (l, n)) (hrow : k42.R 42 w' w.heap.size (fun _ => True) v l) (hb : Below w.heap.size w w') : readPost w bs (.returned (.tuple #[v, .int .i64 n])) w' := by
  unfold readPost
  rw [hR]
  exact ⟨⟨v, rfl, hrow⟩, hb⟩
theorem below_but {w w3 w4 : World} {p : Nat} (h : Below w.heap.size w w3) (hb : But (· = p) w3 w4) (hp : w.heap.size ≤ p) : Below w.heap.size w w4 :=
  ⟨hb.os.trans h.os, hb.tape.trans h.tape, hb.output.trans h.output, Nat.le_trans h.size hb.size, fun k hk => (hb.block k (Nat.lt_of_lt_of_le hk h.size) (by omega)).trans (h.block k hk)⟩
theorem below_put {w w4 : World} (h : Below w.heap.size w w4) (v : Value) : Below w.heap.size w (w4.setCell ⟨w.heap.size, 0, none⟩ v) := by
  have hB : But (· = w.heap.size) w4 (w4.setCell ⟨w.heap.size, 0, none⟩ v) := But.put (S := (· = w.heap.size)) (But.refl _ w4) (j := 0) rfl v
  exact below_but h hB (Nat.le_refl _)
/-- The numbers of a script: what codec.read makes of it. -/
theorem readR_1 (bs : List Int) (h : (nS (bs, 0) 1048576).2.2 ≠ 0) : readR bs = ([], (nS (bs, 0) 1048576).2.2) := by
  unfold readR
  rw [if_pos h]
theorem readR_2 (bs : List Int) {n : Nat} {s1 : St} (hn : (nS (bs, 0) 1048576).1.1 = (n : Int)) (hs : s1 = (nS (bs, 0) 1048576).2) (h : s1.2 = 0) {l : List S42} {e : Int} {s' : St} (ho : opsR n s1 = (l, e, s')) (he : e ≠ 0) : readR bs = (l, e) := by
  subst hs
  unfold readR
  rw [if_neg (by simp [h]), hn, Int.toNat_natCast, ho, if_pos he]
theorem readR_3 (bs : List Int) {n : Nat} {s1 : St} (hn : (nS (bs, 0) 1048576).1.1 = (n : Int)) (hs : s1 = (nS (bs, 0) 1048576).2) (h : s1.2 = 0) {l : List S42} {s' : St} (ho : opsR n s1 = (l, 0, s')) : readR bs = (l, endR s'.1 s'.2) := by
  subst hs
  unfold readR
  rw [if_neg (by simp [h]), hn, Int.toNat_natCast, ho, if_neg (by simp)]
theorem opsR_stop (d : Nat) (s : St) (h : (opR s).1.2 ≠ 0) : opsR (d + 1) s = ([], (opR s).1.2, (opR s).2) := by
  show (if (opR s).1.2 ≠ 0 then _ else _) = _
  rw [if_pos h]
theorem opsR_go (d : Nat) (s : St) (h : (opR s).1.2 = 0) : opsR (d + 1) s = ((opR s).1.1 :: (opsR d (opR s).2).1, (opsR d (opR s).2).2) := by
  show (if (opR s).1.2 ≠ 0 then _ else _) = _
  rw [if_neg (by simp [h])]
theorem R_since {w w3 : World} {v : Value} {l : List S42} {n : Nat} (hn : n ≤ w3.heap.size) (h : k42.R 42 w w3.heap.size (fun j => w3.heap.size ≤ j) v l) : k42.R 42 w n (fun _ => True) v l := Kd.R_mono (Kd.R_lower h hn) (fun _ _ => trivial)
theorem AtB.grown {T : Nat} {W : World} {p : Nat} {ok : Nat → Prop} {s : St} {w w' : World} (h : AtB T W p ok s w) (hp : p < W.heap.size) (hok : ∀ k, ok k → k < p) {row : Option Nat} (g : w.grownBy w' row) (hr : ∀ k, row = some k → W.heap.size ≤ k) : AtB T W p ok s w' :=
  ⟨h.but.grown g (fun k hk => .inr (hr k hk)), h.at_.but ((But.refl (fun k => row = some k) w).grown g (fun k hk => .inl hk)) (fun k hk => ⟨by have := hr k hk; omega, fun e => by have := hok _ e; have := hr k hk; omega⟩)⟩
/-- What holds behind k operations. -/
def InvR (w3 : World) (p : Nat) (ok : Nat → Prop) (n : Nat) (s1 : St) (k : Nat) (v : Value) (wr : World) : Prop :=
  ∃ (l : List S42) (sk : St), l.length = k ∧ opsR n s1 = (l ++ (opsR (n - k) sk).1, (opsR (n - k) sk).2) ∧ AtB 107 w3 p ok sk wr ∧ k42.R 42 wr w3.heap.size (fun j => w3.heap.size ≤ j) v l
set_option maxHeartbeats 2000000 in
theorem cread_c (A : Option Addr) (c : Nat) (bs : List Int) (w : World) (hgl : GL w) (hC : Kd.C (Kd.int .u8) w A bs.length bs) (hc : bs.length ≤ c) (hB : Bytes bs) (hlen : bs.length ≤ 140737488355328) :
    Calls Tryd.prog 21 #[.slice A bs.length c] w fun e w' => readPost w bs e w' := by
  have hmf : ∀ (fn : Fn) (first cap : Array Value) (w : World), (Instr.makeFunc fn first cap).run Tryd.prog w = .ok (.func fn first cap) w := fun _ _ _ _ => rfl
  have HRD := Aside0.mk (read_c A c bs hB (w.alloc (.cells #[.int .i64 0] 26)) (Kd.C_below hC (below_alloc (Below.refl _ _) _)) hlen)
  have HG := Aside0.mk hgl
  obtain ⟨R, hR⟩ : ∃ R, R = readR bs := ⟨_, rfl⟩
  have HRS := Aside0.mk hR
  have HBY := Aside0.mk hB
  clear hC hB hgl hR
  go_enter_defers Tryd.func21, Tryd.ntmps21
  go_wp2_with (first
    | (go_at_call 39; (refine (HRD.out).mono ?_); rintro e w2 ⟨⟨p, rfl, hp, ha⟩, hb⟩; simp at hp; obtain ⟨ok, hok, ha⟩ : ∃ ok : Nat → Prop, (∀ k, ok k → k < p) ∧ AtR 107 p ok bs 0 w2 := ⟨_, fun k hk => hk.2, ha⟩; have HA := Aside0.mk (AtR.al ha (.cells #[.pointer (some ⟨p, 0, none⟩)] 87)); have hpw := ha.lt; have HB := Aside0.mk (below_then (below_alloc (Below.refl _ w) (.cells #[.int .i64 0] 26)) (by simp) hb); have hg2 := (hb.block w.heap.size (by simp)).trans (one_new_ w (.cells #[.int .i64 0] 26)); have hg3 := ((below_alloc (Below.refl _ w2) (.cells #[.pointer (some ⟨p, 0, none⟩)] 87)).block w.heap.size (blk_lt' hg2)).trans hg2; have hr3 := one_new_ w2 (.cells #[.pointer (some ⟨p, 0, none⟩)] 87); have HG3 := Aside0.mk hg3; have HR3 := Aside0.mk hr3; have q3 := cell_blk (j := 0) (v := .pointer (some ⟨p, 0, none⟩)) hr3 rfl; have hsz2 := HB.out.size; clear ha hb hg2 hg3 hr3)
    | (go_at_call 40; (refine (num_d 1048576 (by omega) p ok (bs, 0) _ HA.out).mono ?_); rintro e w4 ⟨⟨he, rfl, ha⟩ | ⟨he, rfl⟩, hb⟩; rotate_left; go_loud (focus (unfold stopE; go_wp2_with fail; refine door_stop ((hb.block _ (blk_lt' HG3.out) (by omega)).trans HG3.out) (readPost_mk [] (readR_1 bs he) (Kd.R_nil k42 42 _ _ _) (below_put (below_but (below_alloc HB.out _) hb (by omega)) _)))); have HAB := Aside0.mk (AtB.mk (T := 107) hb ha); have HE := Aside0.mk he; clear ha hb he))
  obtain ⟨n, hn⟩ : ∃ n : Nat, (nS (bs, 0) 1048576).1.1 = (n : Int) := ⟨(nS (bs, 0) 1048576).1.1.toNat, by have := (nS_val (bs, 0) 1048576 HBY.out (by omega)).1; omega⟩
  have hn1 : n ≤ 1048576 := by have := (nS_val (bs, 0) 1048576 HBY.out (by omega)).2; omega
  obtain ⟨s1, hs1⟩ : ∃ s1, s1 = (nS (bs, 0) 1048576).2 := ⟨_, rfl⟩
  rw [← hs1] at HAB HE
  have HNN := Aside0.mk hn
  have HS1 := Aside0.mk hs1
  rw [hn]
  clear hs1 hn
  obtain ⟨w3, hw3⟩ : ∃ w3, w3 = w2.alloc (.cells #[.pointer (some ⟨p, 0, none⟩)] 87) := ⟨_, rfl⟩
  have hs3 : w3.heap.size = w2.heap.size + 1 := by rw [hw3]; simp
  rw [← hw3] at HAB HG3 HR3
  have HB3 : Aside0 (Below w.heap.size w w3) := ⟨by rw [hw3]; exact below_alloc HB.out _⟩
  clear hw3 q3
  have HL0 : Aside0 (InvR w3 p ok n s1 0 (.slice none 0 0) w4) := ⟨[], s1, rfl, by simp, HAB.out, Kd.R_nil k42 42 _ _ _⟩
  go_loopw [2, 11] (fun v i wr => ∃ k : Nat, k ≤ n ∧ i = .int .i64 k ∧ Aside0 (InvR w3 p ok n s1 k v wr)) (fun _ i _ => n - (intOf i).toNat)
  case atStart => exact ⟨0, Nat.zero_le _, rfl, HL0⟩
  case round =>
    obtain ⟨k, hkn, rfl, HI⟩ := hrel
    obtain ⟨l, sk, hl, hop, hab, hR⟩ := HI.out
    obtain ⟨A8, c8, rfl⟩ := Kd.R_slice hR
    have hbw := below_but HB3.out hab.but (by omega)
    have hgr := (hab.but.block w.heap.size (blk_lt' HG3.out) (by omega)).trans HG3.out
    have hrr := (hab.but.block w2.heap.size (blk_lt' HR3.out) (by omega)).trans HR3.out
    have qr := cell_blk (j := 0) (v := .pointer (some ⟨p, 0, none⟩)) hrr rfl
    by_cases hlt : k < n
    · obtain ⟨d, hd⟩ : ∃ d, n - k = d + 1 := ⟨n - k - 1, by omega⟩
      rw [hd] at hop
      have HOP := Aside0.mk hop
      have HL := Aside0.mk hl
      have HAB2 := Aside0.mk hab
      have HRW := Aside0.mk hR
      have HBW := Aside0.mk hbw
      have HGR := Aside0.mk hgr
      clear hop hab hR hbw hgr hrr hl
      go_wp2_with (first
        | (go_at_call 41; (refine (op_c w HG.out p ok sk _ hok HBW.out (by omega) HAB2.out.at_).mono ?_); rintro e w5 ⟨hb, ⟨h0, v8, rfl, hr8, ha⟩ | ⟨h0, rfl⟩⟩; rotate_left; go_loud (focus (unfold stopE; go_wp2_with fail; exact door_stop ((hb.block _ (blk_lt' HGR.out) (by omega)).trans HGR.out) (readPost_mk l (readR_2 bs HNN.out HS1.out HE.out (by rw [HOP.out, opsR_stop d sk h0, List.append_nil]) h0) (R_since HB3.out.size (Kd.R_far (Kd.R_step HRW.out (fun j hj hlt => hb.block j hlt (by omega))) (fun j hj => by show j ≠ w.heap.size; omega) _)) (below_put (below_but HBW.out hb (by omega)) _)))); unfold opV; have HB5 := Aside0.mk hb; have HR8 := Aside0.mk (Kd.R_lower (Kd.R_mono (Kd.R_bound hr8) (fun j hj => hj.2.1)) HAB2.out.but.size); have HA5 := Aside0.mk ha; have H0 := Aside0.mk h0; clear hb hr8 ha h0)
        | (at_builtin; refine Kd.R_append (w0 := w5) (W := w5) k42 w3.heap.size rfl (.tmp 13) (.tmp 16) 22 42 (.agg #[.int .i64 0, .int .i64 0, .int .i64 0, .int .i64 0, .string ⟨#[]⟩, .string ⟨#[]⟩, .string ⟨#[]⟩, .string ⟨#[]⟩, .slice none 0 0]) 120 rfl Tryd.underlying22 info_op rfl (by decide) (by decide) (.slice A8 l.length c8) l (opR sk).1.1 [.int .i64 (opR sk).1.1.f0, .int .i64 (opR sk).1.1.f1, .int .i64 (opR sk).1.1.f2, .int .i64 (opR sk).1.1.f3, .string (opR sk).1.1.f4, .string (opR sk).1.1.f5, .string (opR sk).1.1.f6, .string (opR sk).1.1.f7, v8] (fun j => w3.heap.size ≤ j) (fun j => wr.heap.size ≤ j) rfl rfl (k42_mkM w5 w3.heap.size _ (opR sk).1.1 HR8.out) ?hokp ?hfr (Kd.R_step HRW.out (fun j hj hlt => HB5.out.block j hlt (by omega))) (Below.refl _ _) ?hbase ?hlen ?hk; (case hokp => intro j hj; exact ⟨Nat.le_trans HAB2.out.but.size hj, fun e => by have := Kd.R_lt HRW.out j e.symm; omega⟩); (case hfr => intro j hj; have := HAB2.out.but.size; have := HB5.out.size; omega); (case hbase => have := HAB2.out.but.size; have := HB5.out.size; omega); (case hlen => have := HL.out; omega); intro v1 w6 hR1 hb1 hg1 hat1; obtain ⟨A9, c9, rfl⟩ := Kd.R_slice hR1; have HR9 := Aside0.mk hR1; have HAB9 := Aside0.mk (AtB.grown ⟨HAB2.out.but.then_ HB5.out, HA5.out⟩ (by omega) hok hg1 (fun j hj => Kd.R_base HRW.out j hj)); clear hR1 hb1 hg1 hat1))
      go_roundw
      case rel =>
        refine ⟨k + 1, by omega, by go_num, ⟨l ++ [(opR sk).1.1], (opR sk).2, by rw [List.length_append, HL.out]; rfl, ?_, HAB9.out, by have h9 := HR9.out; rw [List.length_append] at h9; exact h9⟩⟩
        rw [HOP.out, opsR_go d sk H0.out, show n - (k + 1) = d by omega, List.append_assoc]
        rfl
      case measure => simp [intOf]; omega
    · obtain rfl : k = n := by omega
      rw [Nat.sub_self] at hop
      have hop' : opsR k s1 = (l, 0, sk) := by rw [hop]; simp [opsR]
      have HOP := Aside0.mk hop'
      have HL := Aside0.mk hl
      have HAB2 := Aside0.mk hab
      have HRW := Aside0.mk hR
      have HBW := Aside0.mk hbw
      have HGR := Aside0.mk hgr
      have g0 := cell_blk (j := 0) (v := .int .i64 0) hgr rfl
      have gz := Lib.frozen_of_heap hgr 0
      clear hop hop' hab hR hbw hgr hrr hl
      go_wp2_with (first
        | (go_at_call 43; (refine (r_end p ok sk.1 sk.2 _ HAB2.out.at_).mono ?_); rintro e w5 ⟨rfl, rfl⟩)
        | (go_at_call 42; (refine (must_d _ _).mono ?_); rintro e w7 ⟨⟨he, rfl⟩ | ⟨he, rfl⟩, rfl⟩; rotate_left; go_loud (focus (unfold stopE; go_wp2_with fail; exact door_stop HGR.out (readPost_mk l (readR_3 bs HNN.out HS1.out HE.out HOP.out) (R_since HB3.out.size (Kd.R_far HRW.out (fun j hj => by show j ≠ w.heap.size; omega) _)) (below_put HBW.out _)))); have HEE := Aside0.mk he; clear he))
      refine door_ret (set_blk HGR.out _) (readPost_mk l (by rw [readR_3 bs HNN.out HS1.out HE.out HOP.out, HEE.out]) (R_since HB3.out.size (Kd.R_far HRW.out (fun j hj => by show j ≠ w.heap.size; omega) _)) (below_put HBW.out _))
end Go.Proofs.YtfpijjjmgggfkaaDoorE

namespace Go.Proofs.YtfpijjjmgggfkaaDoorE
open Go Go.RowKit Go.Proofs.YtfpijjjmgggfkaaDoorW.PrintWords Go.Proofs.YtfpijjjmgggfkaaDoorW.PrintMore Go.Proofs.YtfpijjjmgggfkaaDoorX Go.Proofs.YtfpijjjmgggfkaaDoor.P26 Go.Proofs.YtfpijjjmgggfkaaDoor.L01
set_option linter.unusedVariables false
set_option linter.unusedSimpArgs false
set_option maxRecDepth 100000
/-- What Decode tells: the script, the place, the error. -/
def decS (bs : List Int) : List S42 × Int × Int := if (readR bs).2 ≠ 0 then ([], ((readR bs).1.length : Int), (readR bs).2) else ((readR bs).1, 0, 0)
theorem decS_bad {bs : List Int} (h : (readR bs).2 ≠ 0) : decS bs = ([], ((readR bs).1.length : Int), (readR bs).2) := by
  unfold decS
  rw [if_pos h]
theorem decS_ok {bs : List Int} (h : (readR bs).2 = 0) : decS bs = ((readR bs).1, 0, 0) := by
  unfold decS
  rw [if_neg (by simp [h])]
def decPost (D : List S42 × Int × Int) (w : World) (e : Ending) (w' : World) : Prop :=
  (∃ v, e = .returned (.tuple #[v, .int .i64 D.2.1, .int .i64 D.2.2]) ∧ k42.R 42 w' w.heap.size (fun _ => True) v D.1) ∧ Below w.heap.size w w'
set_option maxHeartbeats 2000000 in
theorem Decode_c (A : Option Addr) (c : Nat) (bs : List Int) (w : World) (hgl : GL w) (hC : Kd.C (Kd.int .u8) w A bs.length bs) (hc : bs.length ≤ c) (hB : Bytes bs) (hlen : bs.length ≤ 140737488355328) :
    Calls Tryd.prog 11 #[.slice A bs.length c] w fun e w' => decPost (decS bs) w e w' := by
  have HR := Aside0.mk (cread_c A c bs w hgl hC hc hB hlen)
  clear hC hB hgl hc hlen
  by_cases he : (readR bs).2 = 0
  · rw [decS_ok he]
    have HE := Aside0.mk he
    clear he
    go_enter Tryd.func11, Tryd.ntmps11
    go_wp2_with (go_at_call 21; (refine (HR.out).mono ?_); rintro e w1 ⟨⟨v, rfl, hv⟩, hb⟩; have HV := Aside0.mk hv; have HB := Aside0.mk hb; rw [HE.out]; obtain ⟨A1, c1, rfl⟩ := Kd.R_slice hv; clear hv hb)
    go_ret3
    exact ⟨⟨_, rfl, HV.out⟩, HB.out⟩
  · rw [decS_bad he]
    obtain ⟨R, hR⟩ : ∃ R, R = readR bs := ⟨_, rfl⟩
    have HR2 : Aside0 (Calls Tryd.prog 21 #[.slice A bs.length c] w fun e w' => (∃ v, e = .returned (.tuple #[v, .int .i64 R.2]) ∧ k42.R 42 w' w.heap.size (fun _ => True) v R.1) ∧ Below w.heap.size w w') := ⟨by rw [hR]; exact HR.out⟩
    rw [← hR] at he ⊢
    clear HR hR
    have h1 : (R.2 == 0) = false := by simpa using he
    have h2 : (R.2 != 0) = true := by simpa using he
    go_enter Tryd.func11, Tryd.ntmps11
    go_wp2_with (go_at_call 21; (refine (HR2.out).mono ?_); rintro e w1 ⟨⟨v, rfl, hv⟩, hb⟩; have HB := Aside0.mk hb; obtain ⟨A1, c1, rfl⟩ := Kd.R_slice hv; clear hv hb)
    go_ret3
    exact ⟨⟨_, rfl, Kd.R_nil k42 42 _ _ _⟩, HB.out⟩
end Go.Proofs.YtfpijjjmgggfkaaDoorE

namespace Go.Proofs.YtfpijjjmgggfkaaDoorE
open Go Go.RowKit Go.Proofs.YtfpijjjmgggfkaaDoorW.PrintWords Go.Proofs.YtfpijjjmgggfkaaDoorW.PrintMore Go.Proofs.YtfpijjjmgggfkaaDoorX Go.Proofs.YtfpijjjmgggfkaaDoor.L01
set_option linter.unusedVariables false
set_option linter.unusedSimpArgs false
set_option maxRecDepth 100000
def tendrilref26_text.f (a0 : ByteArray) : Option (List Int) := if a0.size ≤ 70000 then some (encT a0) else none
theorem tendrilref26_text.calls (a0 : ByteArray) (r : List Int) (w : World) (h : tendrilref26_text.f a0 = some r) :
    Calls Tryd.prog 45 #[.string a0] w fun e w' => ∃ v0_ : Value, e = .returned (v0_) ∧ Kd.R (Kd.int .u8) 5 w' w.heap.size (fun _ => True) v0_ r ∧ Below w.heap.size w w' := by
  unfold tendrilref26_text.f at h
  by_cases hr : a0.size ≤ 70000
  · rw [if_pos hr] at h
    cases h
    have HX := Aside0.mk (xtext_c a0 hr w)
    clear hr
    go_enter Tryd.func45, Tryd.ntmps45
    go_wp2_with (go_at_call 63; (refine (HX.out).mono ?_); rintro e w1 ⟨⟨v, rfl, hv⟩, hb⟩; have HV := Aside0.mk hv; have HB := Aside0.mk hb; obtain ⟨A1, c1, rfl⟩ := Kd.R_slice hv; clear hv hb)
    go_ret
    exact ⟨_, rfl, HV.out, HB.out⟩
  · rw [if_neg hr] at h; cases h
def tendrilref26_numE.f (a0 : Int) : Option (List Int) := if 0 ≤ a0 ∧ a0 ≤ 4294967295 then some (enc a0.toNat) else none
theorem tendrilref26_numE.calls (a0 : Int) (r : List Int) (w : World) (h : tendrilref26_numE.f a0 = some r) :
    Calls Tryd.prog 22 #[.int .i64 a0] w fun e w' => ∃ v0_ : Value, e = .returned (v0_) ∧ Kd.R (Kd.int .u8) 5 w' w.heap.size (fun _ => True) v0_ r ∧ Below w.heap.size w w' := by
  unfold tendrilref26_numE.f at h
  by_cases hr : 0 ≤ a0 ∧ a0 ≤ 4294967295
  · rw [if_pos hr] at h
    cases h
    have HX := Aside0.mk (xnum_c a0 hr.1 (by omega) w)
    have HW := Aside0.mk (wrap_num (n := a0) hr)
    clear hr
    go_enter Tryd.func22, Tryd.ntmps22
    go_wp2_with (go_at_call 44; rw [HW.out]; (refine (HX.out).mono ?_); rintro e w1 ⟨⟨v, rfl, hv⟩, hb⟩; have HV := Aside0.mk hv; have HB := Aside0.mk hb; obtain ⟨A1, c1, rfl⟩ := Kd.R_slice hv; clear hv hb)
    go_ret
    exact ⟨_, rfl, HV.out, HB.out⟩
  · rw [if_neg hr] at h; cases h
end Go.Proofs.YtfpijjjmgggfkaaDoorE

namespace Go.Proofs.YtfpijjjmgggfkaaDoorE
open Go Go.RowKit Go.Proofs.YtfpijjjmgggfkaaDoorW.PrintWords Go.Proofs.YtfpijjjmgggfkaaDoorW.PrintMore Go.Proofs.YtfpijjjmgggfkaaDoorX Go.Proofs.YtfpijjjmgggfkaaDoor.P26 Go.Proofs.YtfpijjjmgggfkaaDoor.L01
set_option linter.unusedVariables false
set_option linter.unusedSimpArgs false
set_option maxRecDepth 100000
theorem enum_c (n : Int) (hn : num32 n) (W : World) : Calls Tryd.prog 22 #[.int .i64 n] W fun e w' => (∃ A c, e = .returned (.slice A (encs [n]).length c) ∧ own8 W.heap.size (.slice A (encs [n]).length c) (encs [n]) w') ∧ Below W.heap.size W w' := by
  refine (tendrilref26_numE.calls n (enc n.toNat) W (by unfold tendrilref26_numE.f; rw [if_pos (show 0 ≤ n ∧ n ≤ 4294967295 from hn)])).mono ?_
  rintro e w' ⟨v, rfl, hR, hb⟩
  obtain ⟨A, c, rfl⟩ := Kd.R_slice hR
  rw [← encs_one] at hR ⊢
  exact ⟨⟨A, c, rfl, hR⟩, hb⟩
theorem etext_c (s : ByteArray) (hs : s.size ≤ 65536) (W : World) : Calls Tryd.prog 45 #[.string s] W fun e w' => (∃ A c, e = .returned (.slice A (encT s).length c) ∧ own8 W.heap.size (.slice A (encT s).length c) (encT s) w') ∧ Below W.heap.size W w' := by
  refine (tendrilref26_text.calls s (encT s) W (by unfold tendrilref26_text.f; rw [if_pos (by omega)])).mono ?_
  rintro e w' ⟨v, rfl, hR, hb⟩
  obtain ⟨A, c, rfl⟩ := Kd.R_slice hR
  exact ⟨⟨A, c, rfl, hR⟩, hb⟩
/-- A row of bytes of the call's own, since w1. -/
def InvE (w1 : World) (v : Value) (bs : List Int) (W : World) : Prop := own8 w1.heap.size v bs W ∧ Below w1.heap.size w1 W
theorem InvE.then {w1 W W' : World} {v : Value} {bs : List Int} (h : InvE w1 v bs W) (hb : Below W.heap.size W W') : InvE w1 v bs W' := ⟨Kd.R_below h.1 hb, below_then h.2 h.2.size hb⟩
/-- append(b, x...) of bytes. -/
theorem app_step {ops : Array Oper} {rest : List Oper} {o : Oper} {a : Act} {Q : Exit → Act → World → Prop} (s x : Operand) {w1 W : World} {A A2 : Option Addr} {c c2 : Nat} {bs ys : List Int} (hgd : o.guard = none)
    (ho : o.op = .call { callee := .builtin .append, args := #[s, x], argTypes := #[25, 25] }) (hs : a.eval s = .slice A bs.length c) (hx : a.eval x = .slice A2 ys.length c2)
    (h : InvE w1 (.slice A bs.length c) bs W) {B2 : Nat} (hy : own8 B2 (.slice A2 ys.length c2) ys W) (hl : bs.length + ys.length ≤ 140737488355328)
    (hk : ∀ A' c' W' bs', Aside0 (bs' = bs ++ ys) → InvE w1 (.slice A' bs'.length c') bs' W' → wpList Tryd.prog ops Q rest (a.put o.dst (.slice A' bs'.length c')) W') : wpList Tryd.prog ops Q (o :: rest) a W := by
  refine Kd.R_append_row (w0 := w1) (Value.int .u8) (0 : Int) (h1 := fun _ => rfl) w1.heap.size hgd s x 25 5 (.int .u8 0) 1 ho Tryd.underlying25 info_byte rfl (by decide) (.slice A bs.length c) bs ys A2 ys.length c2 (fun _ => True) hs hx (fun _ _ => trivial) h.1 (Kd.R_reads' hy).2.2 h.2 h.2.size (by omega) ?_
  intro v1 w2 hown hbel hgr hhat
  obtain ⟨A', c', rfl⟩ := Kd.R_slice hown
  exact hk A' c' w2 _ ⟨rfl⟩ ⟨hown, hbel⟩
set_option maxHeartbeats 2000000 in
theorem one_1 (f1 f2 f3 : Int) (f4 f5 f6 f7 : ByteArray) (A : Option Addr) (c : Nat) (l : List S44) (w : World) (hl : Kd.C k44 w A l.length l) (hc : l.length ≤ c) (hll : l.length ≤ 64) (hn1 : num32 f1) (hn2 : num32 f2) (hn3 : num32 f3) (hs4 : f4.size ≤ 65536) (hs5 : f5.size ≤ 65536) (hs6 : f6.size ≤ 65536) (hs7 : f7.size ≤ 65536) (ha : ∀ i : Nat, i < l.length → (rd_T44 l i).f0.size ≤ 65536 ∧ (rd_T44 l i).f1.size ≤ 65536) :
    Calls Tryd.prog 23 #[opV 1 f1 f2 f3 f4 f5 f6 f7 (.slice A l.length c)] w fun e w' => (∃ v, e = .returned v ∧ own8 w.heap.size v (oneB ⟨1, f1, f2, f3, f4, f5, f6, f7, l⟩) w') ∧ Below w.heap.size w w' := by
  have HLL := Aside0.mk hll
  have HL := Aside0.mk hl
  have HA := Aside0.mk ha
  have HAL := Aside0.mk (attrB_le l ha)
  have HS4 := Aside0.mk hs4
  have HS5 := Aside0.mk hs5
  have HS7 := Aside0.mk hs7
  have LY1 : ∀ y : List Int, y = encT f4 → y.length ≤ 70000 := fun y hy => by rw [hy]; exact encT_le f4 hs4
  have LY2 : ∀ y : List Int, y = encT f5 → y.length ≤ 70000 := fun y hy => by rw [hy]; exact encT_le f5 hs5
  have LY3 : ∀ y : List Int, y = encT f7 → y.length ≤ 70000 := fun y hy => by rw [hy]; exact encT_le f7 hs7
  have LY4 : ∀ y : List Int, y = encs [(l.length : Int)] → y.length ≤ 70000 := fun y hy => by rw [hy]; exact (by have := encs_le (l.length : Int) (by have := HLL.out; omega); omega)
  have LN0_ : ∀ (b0 : List Int), b0 = encs [1] → b0.length ≤ 70000 := by
    intro b0 e0
    have q0 := encs_le 1 (by omega)
    rw [← e0] at q0
    omega
  have LN1_ : ∀ (b0 : List Int) (y1 b1 : List Int), b0 = encs [1] → y1 = encT f4 → b1 = b0 ++ y1 → b1.length ≤ 140000 := by
    intro b0 y1 b1 e0 ey1 eb1
    have q0 := encs_le 1 (by omega)
    rw [← e0] at q0
    have q1 := LY1 y1 ey1
    have r1 : b1.length = b0.length + y1.length := by rw [eb1, List.length_append]
    omega
  have LN2_ : ∀ (b0 : List Int) (y1 b1 : List Int) (y2 b2 : List Int), b0 = encs [1] → y1 = encT f4 → b1 = b0 ++ y1 → y2 = encT f5 → b2 = b1 ++ y2 → b2.length ≤ 210000 := by
    intro b0 y1 b1 y2 b2 e0 ey1 eb1 ey2 eb2
    have q0 := encs_le 1 (by omega)
    rw [← e0] at q0
    have q1 := LY1 y1 ey1
    have r1 : b1.length = b0.length + y1.length := by rw [eb1, List.length_append]
    have q2 := LY2 y2 ey2
    have r2 : b2.length = b1.length + y2.length := by rw [eb2, List.length_append]
    omega
  have LN3_ : ∀ (b0 : List Int) (y1 b1 : List Int) (y2 b2 : List Int) (y3 b3 : List Int), b0 = encs [1] → y1 = encT f4 → b1 = b0 ++ y1 → y2 = encT f5 → b2 = b1 ++ y2 → y3 = encT f7 → b3 = b2 ++ y3 → b3.length ≤ 280000 := by
    intro b0 y1 b1 y2 b2 y3 b3 e0 ey1 eb1 ey2 eb2 ey3 eb3
    have q0 := encs_le 1 (by omega)
    rw [← e0] at q0
    have q1 := LY1 y1 ey1
    have r1 : b1.length = b0.length + y1.length := by rw [eb1, List.length_append]
    have q2 := LY2 y2 ey2
    have r2 : b2.length = b1.length + y2.length := by rw [eb2, List.length_append]
    have q3 := LY3 y3 ey3
    have r3 : b3.length = b2.length + y3.length := by rw [eb3, List.length_append]
    omega
  have LN4_ : ∀ (b0 : List Int) (y1 b1 : List Int) (y2 b2 : List Int) (y3 b3 : List Int) (y4 b4 : List Int), b0 = encs [1] → y1 = encT f4 → b1 = b0 ++ y1 → y2 = encT f5 → b2 = b1 ++ y2 → y3 = encT f7 → b3 = b2 ++ y3 → y4 = encs [(l.length : Int)] → b4 = b3 ++ y4 → b4.length ≤ 350000 := by
    intro b0 y1 b1 y2 b2 y3 b3 y4 b4 e0 ey1 eb1 ey2 eb2 ey3 eb3 ey4 eb4
    have q0 := encs_le 1 (by omega)
    rw [← e0] at q0
    have q1 := LY1 y1 ey1
    have r1 : b1.length = b0.length + y1.length := by rw [eb1, List.length_append]
    have q2 := LY2 y2 ey2
    have r2 : b2.length = b1.length + y2.length := by rw [eb2, List.length_append]
    have q3 := LY3 y3 ey3
    have r3 : b3.length = b2.length + y3.length := by rw [eb3, List.length_append]
    have q4 := LY4 y4 ey4
    have r4 : b4.length = b3.length + y4.length := by rw [eb4, List.length_append]
    omega
  have hX := one_new_ w (opC 1 f1 f2 f3 f4 f5 f6 f7 (.slice A l.length c))
  have x0 : _ = some (.int .i64 1 : Value) := cell_blk (j := 0) (v := .int .i64 1) hX rfl
  have X0 := Aside0.mk x0
  have x4 : _ = some (.string f4 : Value) := cell_blk (j := 4) (v := .string f4) hX rfl
  have X4 := Aside0.mk x4
  have x5 : _ = some (.string f5 : Value) := cell_blk (j := 5) (v := .string f5) hX rfl
  have X5 := Aside0.mk x5
  have x7 : _ = some (.string f7 : Value) := cell_blk (j := 7) (v := .string f7) hX rfl
  have X7 := Aside0.mk x7
  have x8 : _ = some (.slice A l.length c : Value) := cell_blk (j := 8) (v := .slice A l.length c) hX rfl
  have X8 := Aside0.mk x8
  clear hX hl ha hn1 hn2 hn3 hs4 hs5 hs6 hs7
  unfold opV
  go_enter Tryd.func23, Tryd.ntmps23
  go_wp2_with (first
    | (go_at_call 22; (refine (enum_c 1 ⟨by omega, by omega⟩ _).mono ?_); rintro e wa0 ⟨⟨A0, c0, rfl, hO⟩, hb⟩; have H0 := Aside0.mk (show InvE (w.alloc (opC 1 f1 f2 f3 f4 f5 f6 f7 (.slice A l.length c))) _ _ wa0 from ⟨hO, hb⟩); obtain ⟨b0, hb0⟩ : ∃ b0, b0 = encs [1] := ⟨_, rfl⟩; rw [← hb0] at H0 ⊢; have E0 := Aside0.mk hb0; clear hO hb hb0; clear x0 x4 x5 x7 x8; have x0 := pw_cell_below H0.out.2 X0.out; have x4 := pw_cell_below H0.out.2 X4.out; have x5 := pw_cell_below H0.out.2 X5.out; have x7 := pw_cell_below H0.out.2 X7.out; have x8 := pw_cell_below H0.out.2 X8.out;)
    | (go_at_call 45; (refine (etext_c f4 HS4.out _).mono ?_); rintro e wc1 ⟨⟨B1, d1, rfl, hO⟩, hb⟩; have G1 := Aside0.mk (H0.out.then hb); have O1 := Aside0.mk hO; obtain ⟨y1, hy1⟩ : ∃ y, y = encT f4 := ⟨_, rfl⟩; rw [← hy1] at O1 ⊢; have Y1 := Aside0.mk hy1; clear hO hb hy1; clear x0 x4 x5 x7 x8; have x0 := pw_cell_below G1.out.2 X0.out; have x4 := pw_cell_below G1.out.2 X4.out; have x5 := pw_cell_below G1.out.2 X5.out; have x7 := pw_cell_below G1.out.2 X7.out; have x8 := pw_cell_below G1.out.2 X8.out;)
    | (at_builtin; refine app_step _ _ (bs := b0) (ys := y1) rfl rfl rfl rfl G1.out O1.out ?hl ?_; (case hl =>  have := LN0_ b0 E0.out ; have := LY1 y1 Y1.out; omega); intro A1 c1 wa1 b1 E1 hI; have H1 := Aside0.mk hI; clear hI; clear x0 x4 x5 x7 x8; have x0 := pw_cell_below H1.out.2 X0.out; have x4 := pw_cell_below H1.out.2 X4.out; have x5 := pw_cell_below H1.out.2 X5.out; have x7 := pw_cell_below H1.out.2 X7.out; have x8 := pw_cell_below H1.out.2 X8.out;)
    | (go_at_call 45; (refine (etext_c f5 HS5.out _).mono ?_); rintro e wc2 ⟨⟨B2, d2, rfl, hO⟩, hb⟩; have G2 := Aside0.mk (H1.out.then hb); have O2 := Aside0.mk hO; obtain ⟨y2, hy2⟩ : ∃ y, y = encT f5 := ⟨_, rfl⟩; rw [← hy2] at O2 ⊢; have Y2 := Aside0.mk hy2; clear hO hb hy2; clear x0 x4 x5 x7 x8; have x0 := pw_cell_below G2.out.2 X0.out; have x4 := pw_cell_below G2.out.2 X4.out; have x5 := pw_cell_below G2.out.2 X5.out; have x7 := pw_cell_below G2.out.2 X7.out; have x8 := pw_cell_below G2.out.2 X8.out;)
    | (at_builtin; refine app_step _ _ (bs := b1) (ys := y2) rfl rfl rfl rfl G2.out O2.out ?hl ?_; (case hl =>  have := LN1_ b0 y1 b1 E0.out Y1.out E1.out; have := LY2 y2 Y2.out; omega); intro A2 c2 wa2 b2 E2 hI; have H2 := Aside0.mk hI; clear hI; clear x0 x4 x5 x7 x8; have x0 := pw_cell_below H2.out.2 X0.out; have x4 := pw_cell_below H2.out.2 X4.out; have x5 := pw_cell_below H2.out.2 X5.out; have x7 := pw_cell_below H2.out.2 X7.out; have x8 := pw_cell_below H2.out.2 X8.out;)
    | (go_at_call 45; (refine (etext_c f7 HS7.out _).mono ?_); rintro e wc3 ⟨⟨B3, d3, rfl, hO⟩, hb⟩; have G3 := Aside0.mk (H2.out.then hb); have O3 := Aside0.mk hO; obtain ⟨y3, hy3⟩ : ∃ y, y = encT f7 := ⟨_, rfl⟩; rw [← hy3] at O3 ⊢; have Y3 := Aside0.mk hy3; clear hO hb hy3; clear x0 x4 x5 x7 x8; have x0 := pw_cell_below G3.out.2 X0.out; have x4 := pw_cell_below G3.out.2 X4.out; have x5 := pw_cell_below G3.out.2 X5.out; have x7 := pw_cell_below G3.out.2 X7.out; have x8 := pw_cell_below G3.out.2 X8.out;)
    | (at_builtin; refine app_step _ _ (bs := b2) (ys := y3) rfl rfl rfl rfl G3.out O3.out ?hl ?_; (case hl =>  have := LN2_ b0 y1 b1 y2 b2 E0.out Y1.out E1.out Y2.out E2.out; have := LY3 y3 Y3.out; omega); intro A3 c3 wa3 b3 E3 hI; have H3 := Aside0.mk hI; clear hI; clear x0 x4 x5 x7 x8; have x0 := pw_cell_below H3.out.2 X0.out; have x4 := pw_cell_below H3.out.2 X4.out; have x5 := pw_cell_below H3.out.2 X5.out; have x7 := pw_cell_below H3.out.2 X7.out; have x8 := pw_cell_below H3.out.2 X8.out;)
    | (go_at_call 22; (refine (enum_c (l.length : Int) ⟨by omega, by have := HLL.out; omega⟩ _).mono ?_); rintro e wc4 ⟨⟨B4, d4, rfl, hO⟩, hb⟩; have G4 := Aside0.mk (H3.out.then hb); have O4 := Aside0.mk hO; obtain ⟨y4, hy4⟩ : ∃ y, y = encs [(l.length : Int)] := ⟨_, rfl⟩; rw [← hy4] at O4 ⊢; have Y4 := Aside0.mk hy4; clear hO hb hy4; clear x0 x4 x5 x7 x8; have x0 := pw_cell_below G4.out.2 X0.out; have x4 := pw_cell_below G4.out.2 X4.out; have x5 := pw_cell_below G4.out.2 X5.out; have x7 := pw_cell_below G4.out.2 X7.out; have x8 := pw_cell_below G4.out.2 X8.out;)
    | (at_builtin; refine app_step _ _ (bs := b3) (ys := y4) rfl rfl rfl rfl G4.out O4.out ?hl ?_; (case hl =>  have := LN3_ b0 y1 b1 y2 b2 y3 b3 E0.out Y1.out E1.out Y2.out E2.out Y3.out E3.out; have := LY4 y4 Y4.out; omega); intro A4 c4 wa4 b4 E4 hI; have H4 := Aside0.mk hI; clear hI; clear x0 x4 x5 x7 x8; have x0 := pw_cell_below H4.out.2 X0.out; have x4 := pw_cell_below H4.out.2 X4.out; have x5 := pw_cell_below H4.out.2 X5.out; have x7 := pw_cell_below H4.out.2 X7.out; have x8 := pw_cell_below H4.out.2 X8.out;))
  have HB5 : Aside0 (b4 = encs [1] ++ encTs [f4, f5, f7] ++ encs [(l.length : Int)]) := ⟨by rw [E4.out, Y4.out, E3.out, Y3.out, E2.out, Y2.out, E1.out, Y1.out, E0.out]; simp [encTs]⟩
  have HLB := Aside0.mk (LN4_ b0 y1 b1 y2 b2 y3 b3 y4 b4 E0.out Y1.out E1.out Y2.out E2.out Y3.out E3.out Y4.out E4.out)
  have HR0 : Aside0 (∃ A' c', (Value.slice A4 b4.length c4) = .slice A' (b4 ++ attrB (l.take 0)).length c' ∧ InvE (w.alloc (opC 1 f1 f2 f3 f4 f5 f6 f7 (.slice A l.length c))) (.slice A' (b4 ++ attrB (l.take 0)).length c') (b4 ++ attrB (l.take 0)) wa4) := ⟨A4, c4, by simp [attrB], by have := H4.out; simpa [attrB] using this⟩
  clear x0 x4 x5 x7 x8
  go_loopw [3, 93] (fun v i wr => ∃ k : Nat, k ≤ l.length ∧ i = .int .i64 k ∧ Aside0 (∃ A' c', v = .slice A' (b4 ++ attrB (l.take k)).length c' ∧ InvE (w.alloc (opC 1 f1 f2 f3 f4 f5 f6 f7 (.slice A l.length c))) (.slice A' (b4 ++ attrB (l.take k)).length c') (b4 ++ attrB (l.take k)) wr)) (fun _ i _ => l.length - (intOf i).toNat)
  case atStart => exact ⟨0, Nat.zero_le _, rfl, HR0⟩
  case round =>
    obtain ⟨k, hk, rfl, HR⟩ := hrel
    obtain ⟨A', c', rfl, hI⟩ := HR.out
    have x0 := pw_cell_below hI.2 X0.out
    have x4 := pw_cell_below hI.2 X4.out
    have x5 := pw_cell_below hI.2 X5.out
    have x7 := pw_cell_below hI.2 X7.out
    have x8 := pw_cell_below hI.2 X8.out
    by_cases hlt : k < l.length
    · obtain ⟨ad, rfl, e0, e1⟩ := at_T44 HL.out (k : Int) (by omega) (by omega)
      rw [Int.toNat_natCast] at e0 e1
      have hsn := attrB_snoc l k hlt
      have hax := HA.out k hlt
      have HLK : Aside0 ((b4 ++ attrB (l.take k)).length + 140000 ≤ 140737488355328) := ⟨by have e1 := HLB.out; have e2 := HAL.out k (by omega); rw [List.length_append]; omega⟩
      obtain ⟨X, hX⟩ : ∃ X, X = rd_T44 l (k : Int) := ⟨_, rfl⟩
      rw [← hX] at e0 e1 hsn hax
      have HE0 := Aside0.mk e0
      have HE1 := Aside0.mk e1
      have HSN := Aside0.mk hsn
      have HX0 := Aside0.mk hax.1
      have HX1 := Aside0.mk hax.2
      have HT0 := Aside0.mk (encT_le _ hax.1)
      have HT1 := Aside0.mk (encT_le _ hax.2)
      obtain ⟨b5, hb5⟩ : ∃ b5, b5 = b4 ++ attrB (l.take k) := ⟨_, rfl⟩
      rw [← hb5] at hI HLK ⊢
      have HI := Aside0.mk hI
      have HB6 := Aside0.mk hb5
      have z0 := pw_cell_below hI.2 (pw_cell_below (below_alloc (Below.refl _ w) (opC 1 f1 f2 f3 f4 f5 f6 f7 (.slice (some ad) l.length c))) e0)
      have z1 := pw_cell_below hI.2 (pw_cell_below (below_alloc (Below.refl _ w) (opC 1 f1 f2 f3 f4 f5 f6 f7 (.slice (some ad) l.length c))) e1)
      clear hX hsn hax hI hb5 e0 e1
      go_wp2_with (first
        | (go_at_call 45; (refine (etext_c X.f0 HX0.out _).mono ?_); rintro e wc5 ⟨⟨B5, d5, rfl, hO⟩, hb⟩; have G5 := Aside0.mk (HI.out.then hb); have O5 := Aside0.mk hO; obtain ⟨y5, hy5⟩ : ∃ y, y = encT X.f0 := ⟨_, rfl⟩; rw [← hy5] at O5 ⊢; have Y5 := Aside0.mk hy5; clear hO hb hy5; clear x0 x4 x5 x7 x8; have x0 := pw_cell_below G5.out.2 X0.out; have x4 := pw_cell_below G5.out.2 X4.out; have x5 := pw_cell_below G5.out.2 X5.out; have x7 := pw_cell_below G5.out.2 X7.out; have x8 := pw_cell_below G5.out.2 X8.out; clear z0 z1; have z0 := pw_cell_below G5.out.2 (pw_cell_below (below_alloc (Below.refl _ w) (opC 1 f1 f2 f3 f4 f5 f6 f7 (.slice (some ad) l.length c))) HE0.out); have z1 := pw_cell_below G5.out.2 (pw_cell_below (below_alloc (Below.refl _ w) (opC 1 f1 f2 f3 f4 f5 f6 f7 (.slice (some ad) l.length c))) HE1.out);)
        | (at_builtin; refine app_step _ _ (bs := b5) (ys := y5) rfl rfl rfl rfl G5.out O5.out ?hl ?_; (case hl => have := HLK.out; have := HT0.out; have q : y5.length = _ := congrArg List.length Y5.out; omega); intro A6 c6 wa6 b6 E6 hI; have H6 := Aside0.mk hI; clear hI; clear x0 x4 x5 x7 x8; have x0 := pw_cell_below H6.out.2 X0.out; have x4 := pw_cell_below H6.out.2 X4.out; have x5 := pw_cell_below H6.out.2 X5.out; have x7 := pw_cell_below H6.out.2 X7.out; have x8 := pw_cell_below H6.out.2 X8.out; clear z0 z1; have z0 := pw_cell_below H6.out.2 (pw_cell_below (below_alloc (Below.refl _ w) (opC 1 f1 f2 f3 f4 f5 f6 f7 (.slice (some ad) l.length c))) HE0.out); have z1 := pw_cell_below H6.out.2 (pw_cell_below (below_alloc (Below.refl _ w) (opC 1 f1 f2 f3 f4 f5 f6 f7 (.slice (some ad) l.length c))) HE1.out);)
        | (go_at_call 45; (refine (etext_c X.f1 HX1.out _).mono ?_); rintro e wc7 ⟨⟨B7, d7, rfl, hO⟩, hb⟩; have G7 := Aside0.mk (H6.out.then hb); have O7 := Aside0.mk hO; obtain ⟨y7, hy7⟩ : ∃ y, y = encT X.f1 := ⟨_, rfl⟩; rw [← hy7] at O7 ⊢; have Y7 := Aside0.mk hy7; clear hO hb hy7; clear x0 x4 x5 x7 x8; have x0 := pw_cell_below G7.out.2 X0.out; have x4 := pw_cell_below G7.out.2 X4.out; have x5 := pw_cell_below G7.out.2 X5.out; have x7 := pw_cell_below G7.out.2 X7.out; have x8 := pw_cell_below G7.out.2 X8.out; clear z0 z1; have z0 := pw_cell_below G7.out.2 (pw_cell_below (below_alloc (Below.refl _ w) (opC 1 f1 f2 f3 f4 f5 f6 f7 (.slice (some ad) l.length c))) HE0.out); have z1 := pw_cell_below G7.out.2 (pw_cell_below (below_alloc (Below.refl _ w) (opC 1 f1 f2 f3 f4 f5 f6 f7 (.slice (some ad) l.length c))) HE1.out);)
        | (at_builtin; refine app_step _ _ (bs := b6) (ys := y7) rfl rfl rfl rfl G7.out O7.out ?hl ?_; (case hl => have := HLK.out; have := HT0.out; have := HT1.out; have q : y5.length = _ := congrArg List.length Y5.out; have q' : y7.length = _ := congrArg List.length Y7.out; have q6 : b6.length = b5.length + y5.length := (by rw [E6.out, List.length_append]); omega); intro A8 c8 wa8 b8 E8 hI; have H8 := Aside0.mk hI; clear hI; clear x0 x4 x5 x7 x8; clear z0 z1))
      have HEND : Aside0 (b8 = b4 ++ attrB (l.take (k + 1))) := ⟨by rw [E8.out, E6.out, HSN.out, HB6.out, Y5.out, Y7.out]; simp [encTs]⟩
      go_roundw
      case rel => exact ⟨k + 1, by omega, by go_num, ⟨A8, c8, by rw [← HEND.out], by rw [← HEND.out]; exact H8.out⟩⟩
      case measure => simp [intOf]; omega
    · obtain rfl : k = l.length := by omega
      have HI := Aside0.mk hI
      clear hI
      go_wp2_with fail
      go_ret
      obtain ⟨ho, hb⟩ := HI.out
      rw [List.take_length] at ho
      refine ⟨⟨_, rfl, ?_⟩, below_then (below_alloc (Below.refl _ w) _) (by simp) hb⟩
      have := Kd.R_lower ho (base' := w.heap.size) (by simp)
      rw [HB5.out] at this
      rw [HB5.out]
      rw [List.take_length]
      simpa [oneB] using this
set_option maxHeartbeats 2000000 in
theorem one_2 (f1 f2 f3 : Int) (f4 f5 f6 f7 : ByteArray) (A : Option Addr) (c : Nat) (l : List S44) (w : World) (hl : Kd.C k44 w A l.length l) (hc : l.length ≤ c) (hll : l.length ≤ 64) (hn1 : num32 f1) (hn2 : num32 f2) (hn3 : num32 f3) (hs4 : f4.size ≤ 65536) (hs5 : f5.size ≤ 65536) (hs6 : f6.size ≤ 65536) (hs7 : f7.size ≤ 65536) (ha : ∀ i : Nat, i < l.length → (rd_T44 l i).f0.size ≤ 65536 ∧ (rd_T44 l i).f1.size ≤ 65536) :
    Calls Tryd.prog 23 #[opV 2 f1 f2 f3 f4 f5 f6 f7 (.slice A l.length c)] w fun e w' => (∃ v, e = .returned v ∧ own8 w.heap.size v (oneB ⟨2, f1, f2, f3, f4, f5, f6, f7, l⟩) w') ∧ Below w.heap.size w w' := by
  have HLL := Aside0.mk hll
  have HL := Aside0.mk hl
  have HA := Aside0.mk ha
  have HAL := Aside0.mk (attrB_le l ha)
  have HN1 := Aside0.mk hn1
  have HN2 := Aside0.mk hn2
  have HN3 := Aside0.mk hn3
  have LY1 : ∀ y : List Int, y = encs [f1] → y.length ≤ 70000 := fun y hy => by rw [hy]; exact (by have := encs_le f1 (by have := hn1.2; omega); omega)
  have LY2 : ∀ y : List Int, y = encs [f2] → y.length ≤ 70000 := fun y hy => by rw [hy]; exact (by have := encs_le f2 (by have := hn2.2; omega); omega)
  have LY3 : ∀ y : List Int, y = encs [f3] → y.length ≤ 70000 := fun y hy => by rw [hy]; exact (by have := encs_le f3 (by have := hn3.2; omega); omega)
  have LN0_ : ∀ (b0 : List Int), b0 = encs [2] → b0.length ≤ 70000 := by
    intro b0 e0
    have q0 := encs_le 2 (by omega)
    rw [← e0] at q0
    omega
  have LN1_ : ∀ (b0 : List Int) (y1 b1 : List Int), b0 = encs [2] → y1 = encs [f1] → b1 = b0 ++ y1 → b1.length ≤ 140000 := by
    intro b0 y1 b1 e0 ey1 eb1
    have q0 := encs_le 2 (by omega)
    rw [← e0] at q0
    have q1 := LY1 y1 ey1
    have r1 : b1.length = b0.length + y1.length := by rw [eb1, List.length_append]
    omega
  have LN2_ : ∀ (b0 : List Int) (y1 b1 : List Int) (y2 b2 : List Int), b0 = encs [2] → y1 = encs [f1] → b1 = b0 ++ y1 → y2 = encs [f2] → b2 = b1 ++ y2 → b2.length ≤ 210000 := by
    intro b0 y1 b1 y2 b2 e0 ey1 eb1 ey2 eb2
    have q0 := encs_le 2 (by omega)
    rw [← e0] at q0
    have q1 := LY1 y1 ey1
    have r1 : b1.length = b0.length + y1.length := by rw [eb1, List.length_append]
    have q2 := LY2 y2 ey2
    have r2 : b2.length = b1.length + y2.length := by rw [eb2, List.length_append]
    omega
  have LN3_ : ∀ (b0 : List Int) (y1 b1 : List Int) (y2 b2 : List Int) (y3 b3 : List Int), b0 = encs [2] → y1 = encs [f1] → b1 = b0 ++ y1 → y2 = encs [f2] → b2 = b1 ++ y2 → y3 = encs [f3] → b3 = b2 ++ y3 → b3.length ≤ 280000 := by
    intro b0 y1 b1 y2 b2 y3 b3 e0 ey1 eb1 ey2 eb2 ey3 eb3
    have q0 := encs_le 2 (by omega)
    rw [← e0] at q0
    have q1 := LY1 y1 ey1
    have r1 : b1.length = b0.length + y1.length := by rw [eb1, List.length_append]
    have q2 := LY2 y2 ey2
    have r2 : b2.length = b1.length + y2.length := by rw [eb2, List.length_append]
    have q3 := LY3 y3 ey3
    have r3 : b3.length = b2.length + y3.length := by rw [eb3, List.length_append]
    omega
  have hX := one_new_ w (opC 2 f1 f2 f3 f4 f5 f6 f7 (.slice A l.length c))
  have x0 : _ = some (.int .i64 2 : Value) := cell_blk (j := 0) (v := .int .i64 2) hX rfl
  have X0 := Aside0.mk x0
  have x1 : _ = some (.int .i64 f1 : Value) := cell_blk (j := 1) (v := .int .i64 f1) hX rfl
  have X1 := Aside0.mk x1
  have x2 : _ = some (.int .i64 f2 : Value) := cell_blk (j := 2) (v := .int .i64 f2) hX rfl
  have X2 := Aside0.mk x2
  have x3 : _ = some (.int .i64 f3 : Value) := cell_blk (j := 3) (v := .int .i64 f3) hX rfl
  have X3 := Aside0.mk x3
  clear hX hl ha hn1 hn2 hn3 hs4 hs5 hs6 hs7
  unfold opV
  go_enter Tryd.func23, Tryd.ntmps23
  go_wp2_with (first
    | (go_at_call 22; (refine (enum_c 2 ⟨by omega, by omega⟩ _).mono ?_); rintro e wa0 ⟨⟨A0, c0, rfl, hO⟩, hb⟩; have H0 := Aside0.mk (show InvE (w.alloc (opC 2 f1 f2 f3 f4 f5 f6 f7 (.slice A l.length c))) _ _ wa0 from ⟨hO, hb⟩); obtain ⟨b0, hb0⟩ : ∃ b0, b0 = encs [2] := ⟨_, rfl⟩; rw [← hb0] at H0 ⊢; have E0 := Aside0.mk hb0; clear hO hb hb0; clear x0 x1 x2 x3; have x0 := pw_cell_below H0.out.2 X0.out; have x1 := pw_cell_below H0.out.2 X1.out; have x2 := pw_cell_below H0.out.2 X2.out; have x3 := pw_cell_below H0.out.2 X3.out;)
    | (go_at_call 22; (refine (enum_c f1 HN1.out _).mono ?_); rintro e wc1 ⟨⟨B1, d1, rfl, hO⟩, hb⟩; have G1 := Aside0.mk (H0.out.then hb); have O1 := Aside0.mk hO; obtain ⟨y1, hy1⟩ : ∃ y, y = encs [f1] := ⟨_, rfl⟩; rw [← hy1] at O1 ⊢; have Y1 := Aside0.mk hy1; clear hO hb hy1; clear x0 x1 x2 x3; have x0 := pw_cell_below G1.out.2 X0.out; have x1 := pw_cell_below G1.out.2 X1.out; have x2 := pw_cell_below G1.out.2 X2.out; have x3 := pw_cell_below G1.out.2 X3.out;)
    | (at_builtin; refine app_step _ _ (bs := b0) (ys := y1) rfl rfl rfl rfl G1.out O1.out ?hl ?_; (case hl =>  have := LN0_ b0 E0.out ; have := LY1 y1 Y1.out; omega); intro A1 c1 wa1 b1 E1 hI; have H1 := Aside0.mk hI; clear hI; clear x0 x1 x2 x3; have x0 := pw_cell_below H1.out.2 X0.out; have x1 := pw_cell_below H1.out.2 X1.out; have x2 := pw_cell_below H1.out.2 X2.out; have x3 := pw_cell_below H1.out.2 X3.out;)
    | (go_at_call 22; (refine (enum_c f2 HN2.out _).mono ?_); rintro e wc2 ⟨⟨B2, d2, rfl, hO⟩, hb⟩; have G2 := Aside0.mk (H1.out.then hb); have O2 := Aside0.mk hO; obtain ⟨y2, hy2⟩ : ∃ y, y = encs [f2] := ⟨_, rfl⟩; rw [← hy2] at O2 ⊢; have Y2 := Aside0.mk hy2; clear hO hb hy2; clear x0 x1 x2 x3; have x0 := pw_cell_below G2.out.2 X0.out; have x1 := pw_cell_below G2.out.2 X1.out; have x2 := pw_cell_below G2.out.2 X2.out; have x3 := pw_cell_below G2.out.2 X3.out;)
    | (at_builtin; refine app_step _ _ (bs := b1) (ys := y2) rfl rfl rfl rfl G2.out O2.out ?hl ?_; (case hl =>  have := LN1_ b0 y1 b1 E0.out Y1.out E1.out; have := LY2 y2 Y2.out; omega); intro A2 c2 wa2 b2 E2 hI; have H2 := Aside0.mk hI; clear hI; clear x0 x1 x2 x3; have x0 := pw_cell_below H2.out.2 X0.out; have x1 := pw_cell_below H2.out.2 X1.out; have x2 := pw_cell_below H2.out.2 X2.out; have x3 := pw_cell_below H2.out.2 X3.out;)
    | (go_at_call 22; (refine (enum_c f3 HN3.out _).mono ?_); rintro e wc3 ⟨⟨B3, d3, rfl, hO⟩, hb⟩; have G3 := Aside0.mk (H2.out.then hb); have O3 := Aside0.mk hO; obtain ⟨y3, hy3⟩ : ∃ y, y = encs [f3] := ⟨_, rfl⟩; rw [← hy3] at O3 ⊢; have Y3 := Aside0.mk hy3; clear hO hb hy3; clear x0 x1 x2 x3; have x0 := pw_cell_below G3.out.2 X0.out; have x1 := pw_cell_below G3.out.2 X1.out; have x2 := pw_cell_below G3.out.2 X2.out; have x3 := pw_cell_below G3.out.2 X3.out;)
    | (at_builtin; refine app_step _ _ (bs := b2) (ys := y3) rfl rfl rfl rfl G3.out O3.out ?hl ?_; (case hl =>  have := LN2_ b0 y1 b1 y2 b2 E0.out Y1.out E1.out Y2.out E2.out; have := LY3 y3 Y3.out; omega); intro A3 c3 wa3 b3 E3 hI; have H3 := Aside0.mk hI; clear hI; clear x0 x1 x2 x3; have x0 := pw_cell_below H3.out.2 X0.out; have x1 := pw_cell_below H3.out.2 X1.out; have x2 := pw_cell_below H3.out.2 X2.out; have x3 := pw_cell_below H3.out.2 X3.out;))
  go_wp2_with fail
  go_ret
  refine ⟨⟨_, rfl, ?_⟩, below_then (below_alloc (Below.refl _ w) _) (by simp) H3.out.2⟩
  have hb : b3 = oneB ⟨2, f1, f2, f3, f4, f5, f6, f7, l⟩ := by rw [E3.out, Y3.out, E2.out, Y2.out, E1.out, Y1.out, E0.out]; simp [oneB, Go.Proofs.YtfpijjjmgggfkaaDoor.L01.encs, encTs]
  rw [← hb]
  exact Kd.R_lower H3.out.1 (by simp)
set_option maxHeartbeats 2000000 in
theorem one_3 (f1 f2 f3 : Int) (f4 f5 f6 f7 : ByteArray) (A : Option Addr) (c : Nat) (l : List S44) (w : World) (hl : Kd.C k44 w A l.length l) (hc : l.length ≤ c) (hll : l.length ≤ 64) (hn1 : num32 f1) (hn2 : num32 f2) (hn3 : num32 f3) (hs4 : f4.size ≤ 65536) (hs5 : f5.size ≤ 65536) (hs6 : f6.size ≤ 65536) (hs7 : f7.size ≤ 65536) (ha : ∀ i : Nat, i < l.length → (rd_T44 l i).f0.size ≤ 65536 ∧ (rd_T44 l i).f1.size ≤ 65536) :
    Calls Tryd.prog 23 #[opV 3 f1 f2 f3 f4 f5 f6 f7 (.slice A l.length c)] w fun e w' => (∃ v, e = .returned v ∧ own8 w.heap.size v (oneB ⟨3, f1, f2, f3, f4, f5, f6, f7, l⟩) w') ∧ Below w.heap.size w w' := by
  have HLL := Aside0.mk hll
  have HL := Aside0.mk hl
  have HA := Aside0.mk ha
  have HAL := Aside0.mk (attrB_le l ha)
  have HN1 := Aside0.mk hn1
  have HN3 := Aside0.mk hn3
  have LY1 : ∀ y : List Int, y = encs [f1] → y.length ≤ 70000 := fun y hy => by rw [hy]; exact (by have := encs_le f1 (by have := hn1.2; omega); omega)
  have LY2 : ∀ y : List Int, y = encs [f3] → y.length ≤ 70000 := fun y hy => by rw [hy]; exact (by have := encs_le f3 (by have := hn3.2; omega); omega)
  have LN0_ : ∀ (b0 : List Int), b0 = encs [3] → b0.length ≤ 70000 := by
    intro b0 e0
    have q0 := encs_le 3 (by omega)
    rw [← e0] at q0
    omega
  have LN1_ : ∀ (b0 : List Int) (y1 b1 : List Int), b0 = encs [3] → y1 = encs [f1] → b1 = b0 ++ y1 → b1.length ≤ 140000 := by
    intro b0 y1 b1 e0 ey1 eb1
    have q0 := encs_le 3 (by omega)
    rw [← e0] at q0
    have q1 := LY1 y1 ey1
    have r1 : b1.length = b0.length + y1.length := by rw [eb1, List.length_append]
    omega
  have LN2_ : ∀ (b0 : List Int) (y1 b1 : List Int) (y2 b2 : List Int), b0 = encs [3] → y1 = encs [f1] → b1 = b0 ++ y1 → y2 = encs [f3] → b2 = b1 ++ y2 → b2.length ≤ 210000 := by
    intro b0 y1 b1 y2 b2 e0 ey1 eb1 ey2 eb2
    have q0 := encs_le 3 (by omega)
    rw [← e0] at q0
    have q1 := LY1 y1 ey1
    have r1 : b1.length = b0.length + y1.length := by rw [eb1, List.length_append]
    have q2 := LY2 y2 ey2
    have r2 : b2.length = b1.length + y2.length := by rw [eb2, List.length_append]
    omega
  have hX := one_new_ w (opC 3 f1 f2 f3 f4 f5 f6 f7 (.slice A l.length c))
  have x0 : _ = some (.int .i64 3 : Value) := cell_blk (j := 0) (v := .int .i64 3) hX rfl
  have X0 := Aside0.mk x0
  have x1 : _ = some (.int .i64 f1 : Value) := cell_blk (j := 1) (v := .int .i64 f1) hX rfl
  have X1 := Aside0.mk x1
  have x3 : _ = some (.int .i64 f3 : Value) := cell_blk (j := 3) (v := .int .i64 f3) hX rfl
  have X3 := Aside0.mk x3
  clear hX hl ha hn1 hn2 hn3 hs4 hs5 hs6 hs7
  unfold opV
  go_enter Tryd.func23, Tryd.ntmps23
  go_wp2_with (first
    | (go_at_call 22; (refine (enum_c 3 ⟨by omega, by omega⟩ _).mono ?_); rintro e wa0 ⟨⟨A0, c0, rfl, hO⟩, hb⟩; have H0 := Aside0.mk (show InvE (w.alloc (opC 3 f1 f2 f3 f4 f5 f6 f7 (.slice A l.length c))) _ _ wa0 from ⟨hO, hb⟩); obtain ⟨b0, hb0⟩ : ∃ b0, b0 = encs [3] := ⟨_, rfl⟩; rw [← hb0] at H0 ⊢; have E0 := Aside0.mk hb0; clear hO hb hb0; clear x0 x1 x3; have x0 := pw_cell_below H0.out.2 X0.out; have x1 := pw_cell_below H0.out.2 X1.out; have x3 := pw_cell_below H0.out.2 X3.out;)
    | (go_at_call 22; (refine (enum_c f1 HN1.out _).mono ?_); rintro e wc1 ⟨⟨B1, d1, rfl, hO⟩, hb⟩; have G1 := Aside0.mk (H0.out.then hb); have O1 := Aside0.mk hO; obtain ⟨y1, hy1⟩ : ∃ y, y = encs [f1] := ⟨_, rfl⟩; rw [← hy1] at O1 ⊢; have Y1 := Aside0.mk hy1; clear hO hb hy1; clear x0 x1 x3; have x0 := pw_cell_below G1.out.2 X0.out; have x1 := pw_cell_below G1.out.2 X1.out; have x3 := pw_cell_below G1.out.2 X3.out;)
    | (at_builtin; refine app_step _ _ (bs := b0) (ys := y1) rfl rfl rfl rfl G1.out O1.out ?hl ?_; (case hl =>  have := LN0_ b0 E0.out ; have := LY1 y1 Y1.out; omega); intro A1 c1 wa1 b1 E1 hI; have H1 := Aside0.mk hI; clear hI; clear x0 x1 x3; have x0 := pw_cell_below H1.out.2 X0.out; have x1 := pw_cell_below H1.out.2 X1.out; have x3 := pw_cell_below H1.out.2 X3.out;)
    | (go_at_call 22; (refine (enum_c f3 HN3.out _).mono ?_); rintro e wc2 ⟨⟨B2, d2, rfl, hO⟩, hb⟩; have G2 := Aside0.mk (H1.out.then hb); have O2 := Aside0.mk hO; obtain ⟨y2, hy2⟩ : ∃ y, y = encs [f3] := ⟨_, rfl⟩; rw [← hy2] at O2 ⊢; have Y2 := Aside0.mk hy2; clear hO hb hy2; clear x0 x1 x3; have x0 := pw_cell_below G2.out.2 X0.out; have x1 := pw_cell_below G2.out.2 X1.out; have x3 := pw_cell_below G2.out.2 X3.out;)
    | (at_builtin; refine app_step _ _ (bs := b1) (ys := y2) rfl rfl rfl rfl G2.out O2.out ?hl ?_; (case hl =>  have := LN1_ b0 y1 b1 E0.out Y1.out E1.out; have := LY2 y2 Y2.out; omega); intro A2 c2 wa2 b2 E2 hI; have H2 := Aside0.mk hI; clear hI; clear x0 x1 x3; have x0 := pw_cell_below H2.out.2 X0.out; have x1 := pw_cell_below H2.out.2 X1.out; have x3 := pw_cell_below H2.out.2 X3.out;))
  go_wp2_with fail
  go_ret
  refine ⟨⟨_, rfl, ?_⟩, below_then (below_alloc (Below.refl _ w) _) (by simp) H2.out.2⟩
  have hb : b2 = oneB ⟨3, f1, f2, f3, f4, f5, f6, f7, l⟩ := by rw [E2.out, Y2.out, E1.out, Y1.out, E0.out]; simp [oneB, Go.Proofs.YtfpijjjmgggfkaaDoor.L01.encs, encTs]
  rw [← hb]
  exact Kd.R_lower H2.out.1 (by simp)
set_option maxHeartbeats 2000000 in
theorem one_4 (f1 f2 f3 : Int) (f4 f5 f6 f7 : ByteArray) (A : Option Addr) (c : Nat) (l : List S44) (w : World) (hl : Kd.C k44 w A l.length l) (hc : l.length ≤ c) (hll : l.length ≤ 64) (hn1 : num32 f1) (hn2 : num32 f2) (hn3 : num32 f3) (hs4 : f4.size ≤ 65536) (hs5 : f5.size ≤ 65536) (hs6 : f6.size ≤ 65536) (hs7 : f7.size ≤ 65536) (ha : ∀ i : Nat, i < l.length → (rd_T44 l i).f0.size ≤ 65536 ∧ (rd_T44 l i).f1.size ≤ 65536) :
    Calls Tryd.prog 23 #[opV 4 f1 f2 f3 f4 f5 f6 f7 (.slice A l.length c)] w fun e w' => (∃ v, e = .returned v ∧ own8 w.heap.size v (oneB ⟨4, f1, f2, f3, f4, f5, f6, f7, l⟩) w') ∧ Below w.heap.size w w' := by
  have HLL := Aside0.mk hll
  have HL := Aside0.mk hl
  have HA := Aside0.mk ha
  have HAL := Aside0.mk (attrB_le l ha)
  have HN1 := Aside0.mk hn1
  have LY1 : ∀ y : List Int, y = encs [f1] → y.length ≤ 70000 := fun y hy => by rw [hy]; exact (by have := encs_le f1 (by have := hn1.2; omega); omega)
  have LN0_ : ∀ (b0 : List Int), b0 = encs [4] → b0.length ≤ 70000 := by
    intro b0 e0
    have q0 := encs_le 4 (by omega)
    rw [← e0] at q0
    omega
  have LN1_ : ∀ (b0 : List Int) (y1 b1 : List Int), b0 = encs [4] → y1 = encs [f1] → b1 = b0 ++ y1 → b1.length ≤ 140000 := by
    intro b0 y1 b1 e0 ey1 eb1
    have q0 := encs_le 4 (by omega)
    rw [← e0] at q0
    have q1 := LY1 y1 ey1
    have r1 : b1.length = b0.length + y1.length := by rw [eb1, List.length_append]
    omega
  have hX := one_new_ w (opC 4 f1 f2 f3 f4 f5 f6 f7 (.slice A l.length c))
  have x0 : _ = some (.int .i64 4 : Value) := cell_blk (j := 0) (v := .int .i64 4) hX rfl
  have X0 := Aside0.mk x0
  have x1 : _ = some (.int .i64 f1 : Value) := cell_blk (j := 1) (v := .int .i64 f1) hX rfl
  have X1 := Aside0.mk x1
  clear hX hl ha hn1 hn2 hn3 hs4 hs5 hs6 hs7
  unfold opV
  go_enter Tryd.func23, Tryd.ntmps23
  go_wp2_with (first
    | (go_at_call 22; (refine (enum_c 4 ⟨by omega, by omega⟩ _).mono ?_); rintro e wa0 ⟨⟨A0, c0, rfl, hO⟩, hb⟩; have H0 := Aside0.mk (show InvE (w.alloc (opC 4 f1 f2 f3 f4 f5 f6 f7 (.slice A l.length c))) _ _ wa0 from ⟨hO, hb⟩); obtain ⟨b0, hb0⟩ : ∃ b0, b0 = encs [4] := ⟨_, rfl⟩; rw [← hb0] at H0 ⊢; have E0 := Aside0.mk hb0; clear hO hb hb0; clear x0 x1; have x0 := pw_cell_below H0.out.2 X0.out; have x1 := pw_cell_below H0.out.2 X1.out;)
    | (go_at_call 22; (refine (enum_c f1 HN1.out _).mono ?_); rintro e wc1 ⟨⟨B1, d1, rfl, hO⟩, hb⟩; have G1 := Aside0.mk (H0.out.then hb); have O1 := Aside0.mk hO; obtain ⟨y1, hy1⟩ : ∃ y, y = encs [f1] := ⟨_, rfl⟩; rw [← hy1] at O1 ⊢; have Y1 := Aside0.mk hy1; clear hO hb hy1; clear x0 x1; have x0 := pw_cell_below G1.out.2 X0.out; have x1 := pw_cell_below G1.out.2 X1.out;)
    | (at_builtin; refine app_step _ _ (bs := b0) (ys := y1) rfl rfl rfl rfl G1.out O1.out ?hl ?_; (case hl =>  have := LN0_ b0 E0.out ; have := LY1 y1 Y1.out; omega); intro A1 c1 wa1 b1 E1 hI; have H1 := Aside0.mk hI; clear hI; clear x0 x1; have x0 := pw_cell_below H1.out.2 X0.out; have x1 := pw_cell_below H1.out.2 X1.out;))
  go_wp2_with fail
  go_ret
  refine ⟨⟨_, rfl, ?_⟩, below_then (below_alloc (Below.refl _ w) _) (by simp) H1.out.2⟩
  have hb : b1 = oneB ⟨4, f1, f2, f3, f4, f5, f6, f7, l⟩ := by rw [E1.out, Y1.out, E0.out]; simp [oneB, Go.Proofs.YtfpijjjmgggfkaaDoor.L01.encs, encTs]
  rw [← hb]
  exact Kd.R_lower H1.out.1 (by simp)
set_option maxHeartbeats 2000000 in
theorem one_5 (f1 f2 f3 : Int) (f4 f5 f6 f7 : ByteArray) (A : Option Addr) (c : Nat) (l : List S44) (w : World) (hl : Kd.C k44 w A l.length l) (hc : l.length ≤ c) (hll : l.length ≤ 64) (hn1 : num32 f1) (hn2 : num32 f2) (hn3 : num32 f3) (hs4 : f4.size ≤ 65536) (hs5 : f5.size ≤ 65536) (hs6 : f6.size ≤ 65536) (hs7 : f7.size ≤ 65536) (ha : ∀ i : Nat, i < l.length → (rd_T44 l i).f0.size ≤ 65536 ∧ (rd_T44 l i).f1.size ≤ 65536) :
    Calls Tryd.prog 23 #[opV 5 f1 f2 f3 f4 f5 f6 f7 (.slice A l.length c)] w fun e w' => (∃ v, e = .returned v ∧ own8 w.heap.size v (oneB ⟨5, f1, f2, f3, f4, f5, f6, f7, l⟩) w') ∧ Below w.heap.size w w' := by
  have HLL := Aside0.mk hll
  have HL := Aside0.mk hl
  have HA := Aside0.mk ha
  have HAL := Aside0.mk (attrB_le l ha)
  have HN1 := Aside0.mk hn1
  have HS6 := Aside0.mk hs6
  have HS7 := Aside0.mk hs7
  have LY1 : ∀ y : List Int, y = encs [f1] → y.length ≤ 70000 := fun y hy => by rw [hy]; exact (by have := encs_le f1 (by have := hn1.2; omega); omega)
  have LY2 : ∀ y : List Int, y = encT f6 → y.length ≤ 70000 := fun y hy => by rw [hy]; exact encT_le f6 hs6
  have LY3 : ∀ y : List Int, y = encT f7 → y.length ≤ 70000 := fun y hy => by rw [hy]; exact encT_le f7 hs7
  have LN0_ : ∀ (b0 : List Int), b0 = encs [5] → b0.length ≤ 70000 := by
    intro b0 e0
    have q0 := encs_le 5 (by omega)
    rw [← e0] at q0
    omega
  have LN1_ : ∀ (b0 : List Int) (y1 b1 : List Int), b0 = encs [5] → y1 = encs [f1] → b1 = b0 ++ y1 → b1.length ≤ 140000 := by
    intro b0 y1 b1 e0 ey1 eb1
    have q0 := encs_le 5 (by omega)
    rw [← e0] at q0
    have q1 := LY1 y1 ey1
    have r1 : b1.length = b0.length + y1.length := by rw [eb1, List.length_append]
    omega
  have LN2_ : ∀ (b0 : List Int) (y1 b1 : List Int) (y2 b2 : List Int), b0 = encs [5] → y1 = encs [f1] → b1 = b0 ++ y1 → y2 = encT f6 → b2 = b1 ++ y2 → b2.length ≤ 210000 := by
    intro b0 y1 b1 y2 b2 e0 ey1 eb1 ey2 eb2
    have q0 := encs_le 5 (by omega)
    rw [← e0] at q0
    have q1 := LY1 y1 ey1
    have r1 : b1.length = b0.length + y1.length := by rw [eb1, List.length_append]
    have q2 := LY2 y2 ey2
    have r2 : b2.length = b1.length + y2.length := by rw [eb2, List.length_append]
    omega
  have LN3_ : ∀ (b0 : List Int) (y1 b1 : List Int) (y2 b2 : List Int) (y3 b3 : List Int), b0 = encs [5] → y1 = encs [f1] → b1 = b0 ++ y1 → y2 = encT f6 → b2 = b1 ++ y2 → y3 = encT f7 → b3 = b2 ++ y3 → b3.length ≤ 280000 := by
    intro b0 y1 b1 y2 b2 y3 b3 e0 ey1 eb1 ey2 eb2 ey3 eb3
    have q0 := encs_le 5 (by omega)
    rw [← e0] at q0
    have q1 := LY1 y1 ey1
    have r1 : b1.length = b0.length + y1.length := by rw [eb1, List.length_append]
    have q2 := LY2 y2 ey2
    have r2 : b2.length = b1.length + y2.length := by rw [eb2, List.length_append]
    have q3 := LY3 y3 ey3
    have r3 : b3.length = b2.length + y3.length := by rw [eb3, List.length_append]
    omega
  have hX := one_new_ w (opC 5 f1 f2 f3 f4 f5 f6 f7 (.slice A l.length c))
  have x0 : _ = some (.int .i64 5 : Value) := cell_blk (j := 0) (v := .int .i64 5) hX rfl
  have X0 := Aside0.mk x0
  have x1 : _ = some (.int .i64 f1 : Value) := cell_blk (j := 1) (v := .int .i64 f1) hX rfl
  have X1 := Aside0.mk x1
  have x6 : _ = some (.string f6 : Value) := cell_blk (j := 6) (v := .string f6) hX rfl
  have X6 := Aside0.mk x6
  have x7 : _ = some (.string f7 : Value) := cell_blk (j := 7) (v := .string f7) hX rfl
  have X7 := Aside0.mk x7
  clear hX hl ha hn1 hn2 hn3 hs4 hs5 hs6 hs7
  unfold opV
  go_enter Tryd.func23, Tryd.ntmps23
  go_wp2_with (first
    | (go_at_call 22; (refine (enum_c 5 ⟨by omega, by omega⟩ _).mono ?_); rintro e wa0 ⟨⟨A0, c0, rfl, hO⟩, hb⟩; have H0 := Aside0.mk (show InvE (w.alloc (opC 5 f1 f2 f3 f4 f5 f6 f7 (.slice A l.length c))) _ _ wa0 from ⟨hO, hb⟩); obtain ⟨b0, hb0⟩ : ∃ b0, b0 = encs [5] := ⟨_, rfl⟩; rw [← hb0] at H0 ⊢; have E0 := Aside0.mk hb0; clear hO hb hb0; clear x0 x1 x6 x7; have x0 := pw_cell_below H0.out.2 X0.out; have x1 := pw_cell_below H0.out.2 X1.out; have x6 := pw_cell_below H0.out.2 X6.out; have x7 := pw_cell_below H0.out.2 X7.out;)
    | (go_at_call 22; (refine (enum_c f1 HN1.out _).mono ?_); rintro e wc1 ⟨⟨B1, d1, rfl, hO⟩, hb⟩; have G1 := Aside0.mk (H0.out.then hb); have O1 := Aside0.mk hO; obtain ⟨y1, hy1⟩ : ∃ y, y = encs [f1] := ⟨_, rfl⟩; rw [← hy1] at O1 ⊢; have Y1 := Aside0.mk hy1; clear hO hb hy1; clear x0 x1 x6 x7; have x0 := pw_cell_below G1.out.2 X0.out; have x1 := pw_cell_below G1.out.2 X1.out; have x6 := pw_cell_below G1.out.2 X6.out; have x7 := pw_cell_below G1.out.2 X7.out;)
    | (at_builtin; refine app_step _ _ (bs := b0) (ys := y1) rfl rfl rfl rfl G1.out O1.out ?hl ?_; (case hl =>  have := LN0_ b0 E0.out ; have := LY1 y1 Y1.out; omega); intro A1 c1 wa1 b1 E1 hI; have H1 := Aside0.mk hI; clear hI; clear x0 x1 x6 x7; have x0 := pw_cell_below H1.out.2 X0.out; have x1 := pw_cell_below H1.out.2 X1.out; have x6 := pw_cell_below H1.out.2 X6.out; have x7 := pw_cell_below H1.out.2 X7.out;)
    | (go_at_call 45; (refine (etext_c f6 HS6.out _).mono ?_); rintro e wc2 ⟨⟨B2, d2, rfl, hO⟩, hb⟩; have G2 := Aside0.mk (H1.out.then hb); have O2 := Aside0.mk hO; obtain ⟨y2, hy2⟩ : ∃ y, y = encT f6 := ⟨_, rfl⟩; rw [← hy2] at O2 ⊢; have Y2 := Aside0.mk hy2; clear hO hb hy2; clear x0 x1 x6 x7; have x0 := pw_cell_below G2.out.2 X0.out; have x1 := pw_cell_below G2.out.2 X1.out; have x6 := pw_cell_below G2.out.2 X6.out; have x7 := pw_cell_below G2.out.2 X7.out;)
    | (at_builtin; refine app_step _ _ (bs := b1) (ys := y2) rfl rfl rfl rfl G2.out O2.out ?hl ?_; (case hl =>  have := LN1_ b0 y1 b1 E0.out Y1.out E1.out; have := LY2 y2 Y2.out; omega); intro A2 c2 wa2 b2 E2 hI; have H2 := Aside0.mk hI; clear hI; clear x0 x1 x6 x7; have x0 := pw_cell_below H2.out.2 X0.out; have x1 := pw_cell_below H2.out.2 X1.out; have x6 := pw_cell_below H2.out.2 X6.out; have x7 := pw_cell_below H2.out.2 X7.out;)
    | (go_at_call 45; (refine (etext_c f7 HS7.out _).mono ?_); rintro e wc3 ⟨⟨B3, d3, rfl, hO⟩, hb⟩; have G3 := Aside0.mk (H2.out.then hb); have O3 := Aside0.mk hO; obtain ⟨y3, hy3⟩ : ∃ y, y = encT f7 := ⟨_, rfl⟩; rw [← hy3] at O3 ⊢; have Y3 := Aside0.mk hy3; clear hO hb hy3; clear x0 x1 x6 x7; have x0 := pw_cell_below G3.out.2 X0.out; have x1 := pw_cell_below G3.out.2 X1.out; have x6 := pw_cell_below G3.out.2 X6.out; have x7 := pw_cell_below G3.out.2 X7.out;)
    | (at_builtin; refine app_step _ _ (bs := b2) (ys := y3) rfl rfl rfl rfl G3.out O3.out ?hl ?_; (case hl =>  have := LN2_ b0 y1 b1 y2 b2 E0.out Y1.out E1.out Y2.out E2.out; have := LY3 y3 Y3.out; omega); intro A3 c3 wa3 b3 E3 hI; have H3 := Aside0.mk hI; clear hI; clear x0 x1 x6 x7; have x0 := pw_cell_below H3.out.2 X0.out; have x1 := pw_cell_below H3.out.2 X1.out; have x6 := pw_cell_below H3.out.2 X6.out; have x7 := pw_cell_below H3.out.2 X7.out;))
  go_wp2_with fail
  go_ret
  refine ⟨⟨_, rfl, ?_⟩, below_then (below_alloc (Below.refl _ w) _) (by simp) H3.out.2⟩
  have hb : b3 = oneB ⟨5, f1, f2, f3, f4, f5, f6, f7, l⟩ := by rw [E3.out, Y3.out, E2.out, Y2.out, E1.out, Y1.out, E0.out]; simp [oneB, Go.Proofs.YtfpijjjmgggfkaaDoor.L01.encs, encTs]
  rw [← hb]
  exact Kd.R_lower H3.out.1 (by simp)
set_option maxHeartbeats 2000000 in
theorem one_6 (f1 f2 f3 : Int) (f4 f5 f6 f7 : ByteArray) (A : Option Addr) (c : Nat) (l : List S44) (w : World) (hl : Kd.C k44 w A l.length l) (hc : l.length ≤ c) (hll : l.length ≤ 64) (hn1 : num32 f1) (hn2 : num32 f2) (hn3 : num32 f3) (hs4 : f4.size ≤ 65536) (hs5 : f5.size ≤ 65536) (hs6 : f6.size ≤ 65536) (hs7 : f7.size ≤ 65536) (ha : ∀ i : Nat, i < l.length → (rd_T44 l i).f0.size ≤ 65536 ∧ (rd_T44 l i).f1.size ≤ 65536) :
    Calls Tryd.prog 23 #[opV 6 f1 f2 f3 f4 f5 f6 f7 (.slice A l.length c)] w fun e w' => (∃ v, e = .returned v ∧ own8 w.heap.size v (oneB ⟨6, f1, f2, f3, f4, f5, f6, f7, l⟩) w') ∧ Below w.heap.size w w' := by
  have HLL := Aside0.mk hll
  have HL := Aside0.mk hl
  have HA := Aside0.mk ha
  have HAL := Aside0.mk (attrB_le l ha)
  have HN1 := Aside0.mk hn1
  have HS6 := Aside0.mk hs6
  have LY1 : ∀ y : List Int, y = encs [f1] → y.length ≤ 70000 := fun y hy => by rw [hy]; exact (by have := encs_le f1 (by have := hn1.2; omega); omega)
  have LY2 : ∀ y : List Int, y = encT f6 → y.length ≤ 70000 := fun y hy => by rw [hy]; exact encT_le f6 hs6
  have LN0_ : ∀ (b0 : List Int), b0 = encs [6] → b0.length ≤ 70000 := by
    intro b0 e0
    have q0 := encs_le 6 (by omega)
    rw [← e0] at q0
    omega
  have LN1_ : ∀ (b0 : List Int) (y1 b1 : List Int), b0 = encs [6] → y1 = encs [f1] → b1 = b0 ++ y1 → b1.length ≤ 140000 := by
    intro b0 y1 b1 e0 ey1 eb1
    have q0 := encs_le 6 (by omega)
    rw [← e0] at q0
    have q1 := LY1 y1 ey1
    have r1 : b1.length = b0.length + y1.length := by rw [eb1, List.length_append]
    omega
  have LN2_ : ∀ (b0 : List Int) (y1 b1 : List Int) (y2 b2 : List Int), b0 = encs [6] → y1 = encs [f1] → b1 = b0 ++ y1 → y2 = encT f6 → b2 = b1 ++ y2 → b2.length ≤ 210000 := by
    intro b0 y1 b1 y2 b2 e0 ey1 eb1 ey2 eb2
    have q0 := encs_le 6 (by omega)
    rw [← e0] at q0
    have q1 := LY1 y1 ey1
    have r1 : b1.length = b0.length + y1.length := by rw [eb1, List.length_append]
    have q2 := LY2 y2 ey2
    have r2 : b2.length = b1.length + y2.length := by rw [eb2, List.length_append]
    omega
  have hX := one_new_ w (opC 6 f1 f2 f3 f4 f5 f6 f7 (.slice A l.length c))
  have x0 : _ = some (.int .i64 6 : Value) := cell_blk (j := 0) (v := .int .i64 6) hX rfl
  have X0 := Aside0.mk x0
  have x1 : _ = some (.int .i64 f1 : Value) := cell_blk (j := 1) (v := .int .i64 f1) hX rfl
  have X1 := Aside0.mk x1
  have x6 : _ = some (.string f6 : Value) := cell_blk (j := 6) (v := .string f6) hX rfl
  have X6 := Aside0.mk x6
  clear hX hl ha hn1 hn2 hn3 hs4 hs5 hs6 hs7
  unfold opV
  go_enter Tryd.func23, Tryd.ntmps23
  go_wp2_with (first
    | (go_at_call 22; (refine (enum_c 6 ⟨by omega, by omega⟩ _).mono ?_); rintro e wa0 ⟨⟨A0, c0, rfl, hO⟩, hb⟩; have H0 := Aside0.mk (show InvE (w.alloc (opC 6 f1 f2 f3 f4 f5 f6 f7 (.slice A l.length c))) _ _ wa0 from ⟨hO, hb⟩); obtain ⟨b0, hb0⟩ : ∃ b0, b0 = encs [6] := ⟨_, rfl⟩; rw [← hb0] at H0 ⊢; have E0 := Aside0.mk hb0; clear hO hb hb0; clear x0 x1 x6; have x0 := pw_cell_below H0.out.2 X0.out; have x1 := pw_cell_below H0.out.2 X1.out; have x6 := pw_cell_below H0.out.2 X6.out;)
    | (go_at_call 22; (refine (enum_c f1 HN1.out _).mono ?_); rintro e wc1 ⟨⟨B1, d1, rfl, hO⟩, hb⟩; have G1 := Aside0.mk (H0.out.then hb); have O1 := Aside0.mk hO; obtain ⟨y1, hy1⟩ : ∃ y, y = encs [f1] := ⟨_, rfl⟩; rw [← hy1] at O1 ⊢; have Y1 := Aside0.mk hy1; clear hO hb hy1; clear x0 x1 x6; have x0 := pw_cell_below G1.out.2 X0.out; have x1 := pw_cell_below G1.out.2 X1.out; have x6 := pw_cell_below G1.out.2 X6.out;)
    | (at_builtin; refine app_step _ _ (bs := b0) (ys := y1) rfl rfl rfl rfl G1.out O1.out ?hl ?_; (case hl =>  have := LN0_ b0 E0.out ; have := LY1 y1 Y1.out; omega); intro A1 c1 wa1 b1 E1 hI; have H1 := Aside0.mk hI; clear hI; clear x0 x1 x6; have x0 := pw_cell_below H1.out.2 X0.out; have x1 := pw_cell_below H1.out.2 X1.out; have x6 := pw_cell_below H1.out.2 X6.out;)
    | (go_at_call 45; (refine (etext_c f6 HS6.out _).mono ?_); rintro e wc2 ⟨⟨B2, d2, rfl, hO⟩, hb⟩; have G2 := Aside0.mk (H1.out.then hb); have O2 := Aside0.mk hO; obtain ⟨y2, hy2⟩ : ∃ y, y = encT f6 := ⟨_, rfl⟩; rw [← hy2] at O2 ⊢; have Y2 := Aside0.mk hy2; clear hO hb hy2; clear x0 x1 x6; have x0 := pw_cell_below G2.out.2 X0.out; have x1 := pw_cell_below G2.out.2 X1.out; have x6 := pw_cell_below G2.out.2 X6.out;)
    | (at_builtin; refine app_step _ _ (bs := b1) (ys := y2) rfl rfl rfl rfl G2.out O2.out ?hl ?_; (case hl =>  have := LN1_ b0 y1 b1 E0.out Y1.out E1.out; have := LY2 y2 Y2.out; omega); intro A2 c2 wa2 b2 E2 hI; have H2 := Aside0.mk hI; clear hI; clear x0 x1 x6; have x0 := pw_cell_below H2.out.2 X0.out; have x1 := pw_cell_below H2.out.2 X1.out; have x6 := pw_cell_below H2.out.2 X6.out;))
  go_wp2_with fail
  go_ret
  refine ⟨⟨_, rfl, ?_⟩, below_then (below_alloc (Below.refl _ w) _) (by simp) H2.out.2⟩
  have hb : b2 = oneB ⟨6, f1, f2, f3, f4, f5, f6, f7, l⟩ := by rw [E2.out, Y2.out, E1.out, Y1.out, E0.out]; simp [oneB, Go.Proofs.YtfpijjjmgggfkaaDoor.L01.encs, encTs]
  rw [← hb]
  exact Kd.R_lower H2.out.1 (by simp)
set_option maxHeartbeats 2000000 in
theorem one_7 (f1 f2 f3 : Int) (f4 f5 f6 f7 : ByteArray) (A : Option Addr) (c : Nat) (l : List S44) (w : World) (hl : Kd.C k44 w A l.length l) (hc : l.length ≤ c) (hll : l.length ≤ 64) (hn1 : num32 f1) (hn2 : num32 f2) (hn3 : num32 f3) (hs4 : f4.size ≤ 65536) (hs5 : f5.size ≤ 65536) (hs6 : f6.size ≤ 65536) (hs7 : f7.size ≤ 65536) (ha : ∀ i : Nat, i < l.length → (rd_T44 l i).f0.size ≤ 65536 ∧ (rd_T44 l i).f1.size ≤ 65536) :
    Calls Tryd.prog 23 #[opV 7 f1 f2 f3 f4 f5 f6 f7 (.slice A l.length c)] w fun e w' => (∃ v, e = .returned v ∧ own8 w.heap.size v (oneB ⟨7, f1, f2, f3, f4, f5, f6, f7, l⟩) w') ∧ Below w.heap.size w w' := by
  have HLL := Aside0.mk hll
  have HL := Aside0.mk hl
  have HA := Aside0.mk ha
  have HAL := Aside0.mk (attrB_le l ha)
  have HN1 := Aside0.mk hn1
  have HS7 := Aside0.mk hs7
  have LY1 : ∀ y : List Int, y = encs [f1] → y.length ≤ 70000 := fun y hy => by rw [hy]; exact (by have := encs_le f1 (by have := hn1.2; omega); omega)
  have LY2 : ∀ y : List Int, y = encT f7 → y.length ≤ 70000 := fun y hy => by rw [hy]; exact encT_le f7 hs7
  have LN0_ : ∀ (b0 : List Int), b0 = encs [7] → b0.length ≤ 70000 := by
    intro b0 e0
    have q0 := encs_le 7 (by omega)
    rw [← e0] at q0
    omega
  have LN1_ : ∀ (b0 : List Int) (y1 b1 : List Int), b0 = encs [7] → y1 = encs [f1] → b1 = b0 ++ y1 → b1.length ≤ 140000 := by
    intro b0 y1 b1 e0 ey1 eb1
    have q0 := encs_le 7 (by omega)
    rw [← e0] at q0
    have q1 := LY1 y1 ey1
    have r1 : b1.length = b0.length + y1.length := by rw [eb1, List.length_append]
    omega
  have LN2_ : ∀ (b0 : List Int) (y1 b1 : List Int) (y2 b2 : List Int), b0 = encs [7] → y1 = encs [f1] → b1 = b0 ++ y1 → y2 = encT f7 → b2 = b1 ++ y2 → b2.length ≤ 210000 := by
    intro b0 y1 b1 y2 b2 e0 ey1 eb1 ey2 eb2
    have q0 := encs_le 7 (by omega)
    rw [← e0] at q0
    have q1 := LY1 y1 ey1
    have r1 : b1.length = b0.length + y1.length := by rw [eb1, List.length_append]
    have q2 := LY2 y2 ey2
    have r2 : b2.length = b1.length + y2.length := by rw [eb2, List.length_append]
    omega
  have hX := one_new_ w (opC 7 f1 f2 f3 f4 f5 f6 f7 (.slice A l.length c))
  have x0 : _ = some (.int .i64 7 : Value) := cell_blk (j := 0) (v := .int .i64 7) hX rfl
  have X0 := Aside0.mk x0
  have x1 : _ = some (.int .i64 f1 : Value) := cell_blk (j := 1) (v := .int .i64 f1) hX rfl
  have X1 := Aside0.mk x1
  have x7 : _ = some (.string f7 : Value) := cell_blk (j := 7) (v := .string f7) hX rfl
  have X7 := Aside0.mk x7
  clear hX hl ha hn1 hn2 hn3 hs4 hs5 hs6 hs7
  unfold opV
  go_enter Tryd.func23, Tryd.ntmps23
  go_wp2_with (first
    | (go_at_call 22; (refine (enum_c 7 ⟨by omega, by omega⟩ _).mono ?_); rintro e wa0 ⟨⟨A0, c0, rfl, hO⟩, hb⟩; have H0 := Aside0.mk (show InvE (w.alloc (opC 7 f1 f2 f3 f4 f5 f6 f7 (.slice A l.length c))) _ _ wa0 from ⟨hO, hb⟩); obtain ⟨b0, hb0⟩ : ∃ b0, b0 = encs [7] := ⟨_, rfl⟩; rw [← hb0] at H0 ⊢; have E0 := Aside0.mk hb0; clear hO hb hb0; clear x0 x1 x7; have x0 := pw_cell_below H0.out.2 X0.out; have x1 := pw_cell_below H0.out.2 X1.out; have x7 := pw_cell_below H0.out.2 X7.out;)
    | (go_at_call 22; (refine (enum_c f1 HN1.out _).mono ?_); rintro e wc1 ⟨⟨B1, d1, rfl, hO⟩, hb⟩; have G1 := Aside0.mk (H0.out.then hb); have O1 := Aside0.mk hO; obtain ⟨y1, hy1⟩ : ∃ y, y = encs [f1] := ⟨_, rfl⟩; rw [← hy1] at O1 ⊢; have Y1 := Aside0.mk hy1; clear hO hb hy1; clear x0 x1 x7; have x0 := pw_cell_below G1.out.2 X0.out; have x1 := pw_cell_below G1.out.2 X1.out; have x7 := pw_cell_below G1.out.2 X7.out;)
    | (at_builtin; refine app_step _ _ (bs := b0) (ys := y1) rfl rfl rfl rfl G1.out O1.out ?hl ?_; (case hl =>  have := LN0_ b0 E0.out ; have := LY1 y1 Y1.out; omega); intro A1 c1 wa1 b1 E1 hI; have H1 := Aside0.mk hI; clear hI; clear x0 x1 x7; have x0 := pw_cell_below H1.out.2 X0.out; have x1 := pw_cell_below H1.out.2 X1.out; have x7 := pw_cell_below H1.out.2 X7.out;)
    | (go_at_call 45; (refine (etext_c f7 HS7.out _).mono ?_); rintro e wc2 ⟨⟨B2, d2, rfl, hO⟩, hb⟩; have G2 := Aside0.mk (H1.out.then hb); have O2 := Aside0.mk hO; obtain ⟨y2, hy2⟩ : ∃ y, y = encT f7 := ⟨_, rfl⟩; rw [← hy2] at O2 ⊢; have Y2 := Aside0.mk hy2; clear hO hb hy2; clear x0 x1 x7; have x0 := pw_cell_below G2.out.2 X0.out; have x1 := pw_cell_below G2.out.2 X1.out; have x7 := pw_cell_below G2.out.2 X7.out;)
    | (at_builtin; refine app_step _ _ (bs := b1) (ys := y2) rfl rfl rfl rfl G2.out O2.out ?hl ?_; (case hl =>  have := LN1_ b0 y1 b1 E0.out Y1.out E1.out; have := LY2 y2 Y2.out; omega); intro A2 c2 wa2 b2 E2 hI; have H2 := Aside0.mk hI; clear hI; clear x0 x1 x7; have x0 := pw_cell_below H2.out.2 X0.out; have x1 := pw_cell_below H2.out.2 X1.out; have x7 := pw_cell_below H2.out.2 X7.out;))
  go_wp2_with fail
  go_ret
  refine ⟨⟨_, rfl, ?_⟩, below_then (below_alloc (Below.refl _ w) _) (by simp) H2.out.2⟩
  have hb : b2 = oneB ⟨7, f1, f2, f3, f4, f5, f6, f7, l⟩ := by rw [E2.out, Y2.out, E1.out, Y1.out, E0.out]; simp [oneB, Go.Proofs.YtfpijjjmgggfkaaDoor.L01.encs, encTs]
  rw [← hb]
  exact Kd.R_lower H2.out.1 (by simp)
end Go.Proofs.YtfpijjjmgggfkaaDoorE

namespace Go.Proofs.YtfpijjjmgggfkaaDoorE
open Go Go.RowKit Go.Proofs.YtfpijjjmgggfkaaDoorW.PrintWords Go.Proofs.YtfpijjjmgggfkaaDoorW.PrintMore Go.Proofs.YtfpijjjmgggfkaaDoorX Go.Proofs.YtfpijjjmgggfkaaDoor.P26 Go.Proofs.YtfpijjjmgggfkaaDoor.L01
set_option linter.unusedVariables false
set_option linter.unusedSimpArgs false
set_option maxRecDepth 100000
theorem rone_c (x : S42) (A : Option Addr) (c : Nat) (w : World) (hl : Kd.C k44 w A x.f8.length x.f8) (hc : x.f8.length ≤ c) (hx : okW x) :
    Calls Tryd.prog 23 #[opOf x A c] w fun e w' => (∃ v, e = .returned v ∧ own8 w.heap.size v (oneB x) w') ∧ Below w.heap.size w w' := by
  obtain ⟨f0, f1, f2, f3, f4, f5, f6, f7, f8⟩ := x
  obtain ⟨hk, h1, h2, h3, h4, h5, h6, h7, h8, h9⟩ := hx
  simp only at hk h1 h2 h3 h4 h5 h6 h7 h8 h9 hl hc
  have hc' : f0 = 1 ∨ f0 = 2 ∨ f0 = 3 ∨ f0 = 4 ∨ f0 = 5 ∨ f0 = 6 ∨ f0 = 7 := by omega
  rcases hc' with rfl | rfl | rfl | rfl | rfl | rfl | rfl
  · exact one_1 f1 f2 f3 f4 f5 f6 f7 A c f8 w hl hc h8 h1 h2 h3 h4 h5 h6 h7 h9
  · exact one_2 f1 f2 f3 f4 f5 f6 f7 A c f8 w hl hc h8 h1 h2 h3 h4 h5 h6 h7 h9
  · exact one_3 f1 f2 f3 f4 f5 f6 f7 A c f8 w hl hc h8 h1 h2 h3 h4 h5 h6 h7 h9
  · exact one_4 f1 f2 f3 f4 f5 f6 f7 A c f8 w hl hc h8 h1 h2 h3 h4 h5 h6 h7 h9
  · exact one_5 f1 f2 f3 f4 f5 f6 f7 A c f8 w hl hc h8 h1 h2 h3 h4 h5 h6 h7 h9
  · exact one_6 f1 f2 f3 f4 f5 f6 f7 A c f8 w hl hc h8 h1 h2 h3 h4 h5 h6 h7 h9
  · exact one_7 f1 f2 f3 f4 f5 f6 f7 A c f8 w hl hc h8 h1 h2 h3 h4 h5 h6 h7 h9
set_option maxHeartbeats 2000000 in
theorem rEncode_c (A : Option Addr) (c : Nat) (l : List S42) (w : World) (hl : Kd.C k42 w A l.length l) (hc : l.length ≤ c) (hw : ∀ i : Nat, i < l.length → okW (rd_T42 l i)) (hn : l.length ≤ 1048576) :
    Calls Tryd.prog 12 #[.slice A l.length c] w fun e w' => (∃ v, e = .returned v ∧ own8 w.heap.size v (encB l) w') ∧ Below w.heap.size w w' := by
  have HL := Aside0.mk hl
  have HW := Aside0.mk hw
  have HOL := Aside0.mk (opsB_le l hw)
  have HNN : Aside0 (num32 (l.length : Int)) := ⟨⟨by omega, by omega⟩⟩
  obtain ⟨b0, hb0⟩ : ∃ b0, b0 = encs [(l.length : Int)] := ⟨_, rfl⟩
  have HB0 := Aside0.mk hb0
  have HL0 : Aside0 (b0.length ≤ 10) := ⟨by have e1 := encs_le (l.length : Int) (by omega); rw [hb0]; exact e1⟩
  obtain ⟨R, hR⟩ : ∃ R, R = encB l := ⟨_, rfl⟩
  have HR0 := Aside0.mk hR
  rw [← hR]
  clear hl hw hb0 hR
  go_enter Tryd.func12, Tryd.ntmps12
  go_wp2_with (first
    | (go_at_call 22; (refine (enum_c _ HNN.out _).mono ?_); rintro e w1 ⟨⟨A0, c0, rfl, hO⟩, hb⟩; have HI0 : Aside0 (InvE w (.slice A0 (encs [(l.length : Int)]).length c0) (encs [(l.length : Int)]) w1) := ⟨hO, hb⟩; clear hO hb))
  rw [← HB0.out] at HI0 ⊢
  have HR1 : Aside0 (∃ A' c', (Value.slice A0 b0.length c0) = .slice A' (b0 ++ opsB (l.take 0)).length c' ∧ InvE w (.slice A' (b0 ++ opsB (l.take 0)).length c') (b0 ++ opsB (l.take 0)) w1) := ⟨A0, c0, by simp [opsB], by have := HI0.out; simpa [opsB] using this⟩
  go_loopw [3, 10] (fun v i wr => ∃ k : Nat, k ≤ l.length ∧ i = .int .i64 k ∧ Aside0 (∃ A' c', v = .slice A' (b0 ++ opsB (l.take k)).length c' ∧ InvE w (.slice A' (b0 ++ opsB (l.take k)).length c') (b0 ++ opsB (l.take k)) wr)) (fun _ i _ => l.length - (intOf i).toNat)
  case atStart => exact ⟨0, Nat.zero_le _, rfl, HR1⟩
  case round =>
    obtain ⟨k, hk, rfl, HR⟩ := hrel
    obtain ⟨A', c', rfl, hI⟩ := HR.out
    by_cases hlt : k < l.length
    · obtain ⟨ad, A8, c8, rfl, e0, e1, e2, e3, e4, e5, e6, e7, e8, hl8, hi8⟩ := at_T42 HL.out (k : Int) (by omega) (by omega)
      rw [Int.toNat_natCast] at e0 e1 e2 e3 e4 e5 e6 e7 e8
      have hwk := HW.out k hlt
      have hsn := opsB_snoc l k hlt
      have HLK : Aside0 ((b0 ++ opsB (l.take k)).length + 10000000 ≤ 140737488355328) := ⟨by have e1 := HL0.out; have e2 := HOL.out k (by omega); rw [List.length_append]; omega⟩
      obtain ⟨X, hX⟩ : ∃ X, X = rd_T42 l (k : Int) := ⟨_, rfl⟩
      rw [← hX] at e0 e1 e2 e3 e4 e5 e6 e7 e8 hl8 hi8 hwk hsn
      clear hX
      obtain ⟨b5, hb5⟩ : ∃ b5, b5 = b0 ++ opsB (l.take k) := ⟨_, rfl⟩
      rw [← hb5] at hI HLK ⊢
      have d0 := pw_cell_below hI.2 e0
      have d1 := pw_cell_below hI.2 e1
      have d2 := pw_cell_below hI.2 e2
      have d3 := pw_cell_below hI.2 e3
      have d4 := pw_cell_below hI.2 e4
      have d5 := pw_cell_below hI.2 e5
      have d6 := pw_cell_below hI.2 e6
      have d7 := pw_cell_below hI.2 e7
      have d8 := pw_cell_below hI.2 e8
      clear e0 e1 e2 e3 e4 e5 e6 e7 e8
      have HS := Aside0.mk hsn
      have HX := Aside0.mk hwk
      have HXL := Aside0.mk (oneB_le X hwk)
      have H8 := Aside0.mk (Kd.C_below hi8 hI.2)
      have HL8 := Aside0.mk hl8
      have HI := Aside0.mk hI
      have HB5 := Aside0.mk hb5
      clear hsn hwk hi8 hI hb5
      go_wp2_with (first
        | (go_at_call 23; (refine (rone_c X A8 c8 _ H8.out HL8.out HX.out).mono ?_); rintro e w4 ⟨⟨v, rfl, hO⟩, hb⟩; obtain ⟨A9, c9, rfl⟩ := Kd.R_slice hO; have G5 := Aside0.mk (HI.out.then hb); have O5 := Aside0.mk hO; obtain ⟨y5, hy5⟩ : ∃ y, y = oneB X := ⟨_, rfl⟩; rw [← hy5] at O5 ⊢; have Y5 := Aside0.mk hy5; clear hO hb hy5)
        | (at_builtin; refine app_step _ _ (bs := b5) (ys := y5) rfl rfl rfl rfl G5.out O5.out ?hl ?_; (case hl => have := HLK.out; have := HXL.out; have q : y5.length = _ := congrArg List.length Y5.out; omega); intro A6 c6 wa6 b6 E6 hI; have H6 := Aside0.mk hI; clear hI))
      have HEND : Aside0 (b6 = b0 ++ opsB (l.take (k + 1))) := ⟨by rw [E6.out, HS.out, HB5.out, Y5.out, List.append_assoc]⟩
      go_roundw
      case rel => exact ⟨k + 1, by omega, by go_num, ⟨A6, c6, by rw [← HEND.out], by rw [← HEND.out]; exact H6.out⟩⟩
      case measure => simp [intOf]; omega
    · obtain rfl : k = l.length := by omega
      have HI := Aside0.mk hI
      clear hI
      go_wp2_with fail
      go_ret
      obtain ⟨ho, hb⟩ := HI.out
      rw [List.take_length] at ho ⊢
      have he : b0 ++ opsB l = R := by rw [HR0.out, HB0.out]; rfl
      rw [he] at ho ⊢
      exact ⟨⟨_, rfl, ho⟩, hb⟩
end Go.Proofs.YtfpijjjmgggfkaaDoorE

namespace Go.Proofs.YtfpijjjmgggfkaaDoorE
open Go Go.RowKit Go.Proofs.YtfpijjjmgggfkaaDoorW.PrintWords Go.Proofs.YtfpijjjmgggfkaaDoorW.PrintMore Go.Proofs.YtfpijjjmgggfkaaDoorX Go.Proofs.YtfpijjjmgggfkaaDoor.P26 Go.Proofs.YtfpijjjmgggfkaaDoor.L01
set_option linter.unusedVariables false
set_option linter.unusedSimpArgs false
theorem nS_put (n : Nat) (m : Int) (hn : (n : Int) ≤ m) (hm : m ≤ 4294967295) (rest : List Int) : nS (enc n ++ rest, 0) m = (((n : Int), 0), (rest, 0)) := by
  unfold nS numR
  simp only
  rw [if_neg (by simp), takeS_put (by omega) rest, if_neg (by simp), if_neg (by simp; omega)]
  simp
theorem hS_put (n : Nat) (hn : n ≤ 4294967295) (rest : List Int) : hS (enc n ++ rest, 0) = (((n : Int), 0), (rest, 0)) := nS_put n 4294967295 (by omega) (by omega) rest
theorem tS_put (s : ByteArray) (hs : s.size ≤ 65536) (rest : List Int) : tS (encT s ++ rest, 0) = ((s, 0), (rest, 0)) := by
  have h1 : encT s ++ rest = enc s.size ++ (bytesI s ++ rest) := by simp [encT]
  have hl := bytesI_len s
  unfold tS textR
  simp only
  rw [h1, if_neg (by simp), takeS_put (by omega) _, if_neg (by simp), if_neg (by simp; omega), if_neg (by simp [hl]; omega)]
  simp only [Int.toNat_natCast]
  have h2 : ((enc s.size ++ (bytesI s ++ rest)).take ((enc s.size).length + s.size)).drop (enc s.size).length = bytesI s := by
    rw [List.drop_take, List.drop_left, show (enc s.size).length + s.size - (enc s.size).length = s.size by omega, ← hl, List.take_left]
  have h3 : (enc s.size ++ (bytesI s ++ rest)).drop ((enc s.size).length + s.size) = rest := by
    rw [← List.drop_drop, List.drop_left, ← hl, List.drop_left]
  rw [h2, h3, str_bytesI]
theorem attrsR_put : ∀ (l : List S44) (h : ∀ a ∈ l, a.f0.size ≤ 65536 ∧ a.f1.size ≤ 65536) (rest : List Int), attrsR l.length (attrB l ++ rest, 0) = (l, (rest, 0)) := by
  intro l
  induction l with
  | nil => intro _ rest; rfl
  | cons a t ih =>
    intro h rest
    have ha := h a (List.mem_cons_self ..)
    have e1 : attrB (a :: t) ++ rest = encT a.f0 ++ (encT a.f1 ++ (attrB t ++ rest)) := by simp [attrB, encTs]
    rw [e1]
    show (_ :: _, _) = _
    simp only [tS_put _ ha.1, tS_put _ ha.2, ih (fun x hx => h x (List.mem_cons_of_mem _ hx)) rest]
end Go.Proofs.YtfpijjjmgggfkaaDoorE

namespace Go.Proofs.YtfpijjjmgggfkaaDoorE
open Go Go.RowKit Go.Proofs.YtfpijjjmgggfkaaDoorW.PrintWords Go.Proofs.YtfpijjjmgggfkaaDoorW.PrintMore Go.Proofs.YtfpijjjmgggfkaaDoorX Go.Proofs.YtfpijjjmgggfkaaDoor.P26 Go.Proofs.YtfpijjjmgggfkaaDoor.L01
set_option linter.unusedVariables false
set_option linter.unusedSimpArgs false
theorem em_of (s : ByteArray) (h : s.size = 0) : s = em := by
  have h1 : s.data = #[] := by
    have : s.data.size = 0 := h
    exact Array.eq_empty_of_size_eq_zero this
  cases s
  simp only at h1
  rw [h1]
/-- What an operation that may be does not have. -/
theorem chk_none (x : S42) (h : chk x = 0) : noneO x = false := by
  unfold chk checkO at h
  by_cases h1 : x.f0 < 1 ∨ x.f0 > 7
  · rw [if_pos h1] at h; simp at h
  rw [if_neg h1] at h
  by_cases h2 : overO x.f1 = true ∨ overO x.f2 = true ∨ overO x.f3 = true
  · rw [if_pos h2] at h; simp at h
  rw [if_neg h2] at h
  by_cases h3 : noneO x = true
  · rw [if_pos h3] at h; simp at h
  simpa using h3
theorem oneB_body (x : S42) : oneB x = enc x.f0.toNat ++ (if x.f0 = 1 then encT x.f4 ++ (encT x.f5 ++ (encT x.f7 ++ (enc x.f8.length ++ attrB x.f8)))
  else if x.f0 = 2 then enc x.f1.toNat ++ (enc x.f2.toNat ++ enc x.f3.toNat)
  else if x.f0 = 3 then enc x.f1.toNat ++ enc x.f3.toNat
  else if x.f0 = 4 then enc x.f1.toNat
  else if x.f0 = 5 then enc x.f1.toNat ++ (encT x.f6 ++ encT x.f7)
  else if x.f0 = 6 then enc x.f1.toNat ++ encT x.f6
  else enc x.f1.toNat ++ encT x.f7) := by
  unfold oneB
  repeat' split
  all_goals simp [Go.Proofs.YtfpijjjmgggfkaaDoor.L01.encs, encTs]
theorem opR_put (x : S42) (hc : chk x = 0) (rest : List Int) : opR (oneB x ++ rest, 0) = ((x, 0), (rest, 0)) := by
  have hn := chk_none x hc
  obtain ⟨hk, h1, h2, h3, h4, h5, h6, h7, h8, h9⟩ := chk_okW x hc
  have e0 : x.f0 = ((x.f0.toNat : Nat) : Int) := by omega
  have e1 : x.f1 = ((x.f1.toNat : Nat) : Int) := by have := h1.1; omega
  have e2 : x.f2 = ((x.f2.toNat : Nat) : Int) := by have := h2.1; omega
  have e3 : x.f3 = ((x.f3.toNat : Nat) : Int) := by have := h3.1; omega
  have g1 : x.f1.toNat ≤ 4294967295 := by have := h1.2; omega
  have g2 : x.f2.toNat ≤ 4294967295 := by have := h2.2; omega
  have g3 : x.f3.toNat ≤ 4294967295 := by have := h3.2; omega
  have hat : ∀ a ∈ x.f8, a.f0.size ≤ 65536 ∧ a.f1.size ≤ 65536 := by
    intro a ha
    obtain ⟨i, hi, rfl⟩ := List.getElem_of_mem ha
    have := h9 i hi
    unfold rd_T44 at this
    rwa [Int.toNat_natCast, List.getD_eq_getElem?_getD, List.getElem?_eq_getElem hi] at this
  have hbody : bodyR x.f0 ((oneB x).drop (enc x.f0.toNat).length ++ rest, 0) = (x, (rest, 0)) := by
    rw [oneB_body, List.drop_left]
    unfold noneO at hn
    simp only [Bool.or_eq_false_iff, Bool.and_eq_false_iff, decide_eq_false_iff_not, ne_eq, Classical.not_not] at hn
    obtain ⟨f0, f1, f2, f3, f4, f5, f6, f7, f8⟩ := x
    simp only at *
    have hcs : f0 = 1 ∨ f0 = 2 ∨ f0 = 3 ∨ f0 = 4 ∨ f0 = 5 ∨ f0 = 6 ∨ f0 = 7 := by omega
    rcases hcs with rfl | rfl | rfl | rfl | rfl | rfl | rfl
    · have hz : f1 = 0 ∧ f2 = 0 ∧ f3 = 0 ∧ f6.size = 0 := by simp at hn; simp [hn]
      obtain ⟨z1, z2, z3, z6⟩ := hz
      have z6 := em_of f6 z6
      subst z1 z2 z3 z6
      simp only [bodyR, Int.reduceEq, if_false, if_true, List.append_assoc, tS_put _ h4, tS_put _ h5, tS_put _ h7, nS_put _ 64 (by omega : (f8.length : Int) ≤ 64) (by omega), attrsR_put f8 hat rest, Int.toNat_natCast]
    · have hz : f4.size = 0 ∧ f5.size = 0 ∧ f6.size = 0 ∧ f7.size = 0 ∧ f8 = [] := by simp at hn; simp [hn]
      obtain ⟨z4, z5, z6, z7, z8⟩ := hz
      have z4 := em_of f4 z4
      have z5 := em_of f5 z5
      have z6 := em_of f6 z6
      have z7 := em_of f7 z7
      subst z4 z5 z6 z7 z8
      simp only [bodyR, Int.reduceEq, if_false, if_true, List.append_assoc, hS_put _ g1, hS_put _ g2, hS_put _ g3, ← e1, ← e2, ← e3]
    · have hz : f2 = 0 ∧ f4.size = 0 ∧ f5.size = 0 ∧ f6.size = 0 ∧ f7.size = 0 ∧ f8 = [] := by simp at hn; simp [hn]
      obtain ⟨z2, z4, z5, z6, z7, z8⟩ := hz
      have z4 := em_of f4 z4
      have z5 := em_of f5 z5
      have z6 := em_of f6 z6
      have z7 := em_of f7 z7
      subst z2 z4 z5 z6 z7 z8
      simp only [bodyR, Int.reduceEq, if_false, if_true, List.append_assoc, hS_put _ g1, hS_put _ g3, ← e1, ← e3]
    · have hz : f2 = 0 ∧ f3 = 0 ∧ f4.size = 0 ∧ f5.size = 0 ∧ f6.size = 0 ∧ f7.size = 0 ∧ f8 = [] := by simp at hn; simp [hn]
      obtain ⟨z2, z3, z4, z5, z6, z7, z8⟩ := hz
      have z4 := em_of f4 z4
      have z5 := em_of f5 z5
      have z6 := em_of f6 z6
      have z7 := em_of f7 z7
      subst z2 z3 z4 z5 z6 z7 z8
      simp only [bodyR, Int.reduceEq, if_false, if_true, List.append_assoc, hS_put _ g1, ← e1]
    · have hz : f2 = 0 ∧ f3 = 0 ∧ f4.size = 0 ∧ f5.size = 0 ∧ f8 = [] := by simp at hn; simp [hn]
      obtain ⟨z2, z3, z4, z5, z8⟩ := hz
      have z4 := em_of f4 z4
      have z5 := em_of f5 z5
      subst z2 z3 z4 z5 z8
      simp only [bodyR, Int.reduceEq, if_false, if_true, List.append_assoc, hS_put _ g1, tS_put _ h6, tS_put _ h7, ← e1]
    · have hz : f2 = 0 ∧ f3 = 0 ∧ f4.size = 0 ∧ f5.size = 0 ∧ f7.size = 0 ∧ f8 = [] := by simp at hn; simp [hn]
      obtain ⟨z2, z3, z4, z5, z7, z8⟩ := hz
      have z4 := em_of f4 z4
      have z5 := em_of f5 z5
      have z7 := em_of f7 z7
      subst z2 z3 z4 z5 z7 z8
      simp only [bodyR, Int.reduceEq, if_false, if_true, List.append_assoc, hS_put _ g1, tS_put _ h6, ← e1]
    · have hz : f2 = 0 ∧ f3 = 0 ∧ f4.size = 0 ∧ f5.size = 0 ∧ f6.size = 0 ∧ f8 = [] := by simp at hn; simp [hn]
      obtain ⟨z2, z3, z4, z5, z6, z8⟩ := hz
      have z4 := em_of f4 z4
      have z5 := em_of f5 z5
      have z6 := em_of f6 z6
      subst z2 z3 z4 z5 z6 z8
      simp only [bodyR, Int.reduceEq, if_false, if_true, List.append_assoc, hS_put _ g1, tS_put _ h7, ← e1]
  have hnum : nS (oneB x ++ rest, 0) 7 = ((x.f0, 0), ((oneB x).drop (enc x.f0.toNat).length ++ rest, 0)) := by
    have e : oneB x = enc x.f0.toNat ++ (oneB x).drop (enc x.f0.toNat).length := by
      rw [oneB_body, List.drop_left]
    rw [e, List.append_assoc, nS_put _ 7 (by omega) (by omega), List.drop_left, ← e0]
  unfold opR
  rw [hnum]
  simp only
  rw [if_neg (by simp), if_neg (by omega), hbody]
  simp [hc]
theorem opsR_put : ∀ (l : List S42) (h : ∀ x ∈ l, chk x = 0) (rest : List Int), opsR l.length (opsB l ++ rest, 0) = (l, 0, (rest, 0)) := by
  intro l
  induction l with
  | nil => intro _ rest; rfl
  | cons a t ih =>
    intro h rest
    have e1 : opsB (a :: t) ++ rest = oneB a ++ (opsB t ++ rest) := by simp [opsB]
    have e2 := opR_put a (h a (List.mem_cons_self ..)) (opsB t ++ rest)
    rw [e1, List.length_cons, opsR_go _ _ (by rw [e2]), e2, ih (fun x hx => h x (List.mem_cons_of_mem _ hx)) rest]
theorem readR_put (l : List S42) (hn : l.length ≤ 1048576) (h : ∀ x ∈ l, chk x = 0) (rest : List Int) : readR (encB l ++ rest) = (l, if rest = [] then 0 else 2) := by
  have e1 : encB l ++ rest = enc l.length ++ (opsB l ++ rest) := by
    unfold encB
    rw [encs_one, Int.toNat_natCast, List.append_assoc]
  have e2 := nS_put l.length 1048576 (by omega) (by omega) (opsB l ++ rest)
  rw [e1]
  rw [readR_3 (enc l.length ++ (opsB l ++ rest)) (n := l.length) (s1 := (opsB l ++ rest, 0)) (by rw [e2]) (by rw [e2]) rfl (opsR_put l h rest)]
  unfold endR
  simp
end Go.Proofs.YtfpijjjmgggfkaaDoorE

namespace Go.Proofs.YtfpijjjmgggfkaaDoor.P26
open Go.RowKit Go.Proofs.YtfpijjjmgggfkaaDoorE Go.Proofs.YtfpijjjmgggfkaaDoorW.PrintWords Go.Proofs.YtfpijjjmgggfkaaDoorW.PrintLast Go.Proofs.YtfpijjjmgggfkaaDoorW.PrintMore
attribute [local go_sem] max2_int min2_int max_two min_two max_three min_three max_four min_four   -- for this text's walks alone
set_option linter.unusedVariables false
set_option linter.unusedSimpArgs false

def tendrilplain_Ops.l0 : Nat → List (S42) → List (S42) → Int → Int → Option (Bool)
  | 0, _, _, _, _ => none
  | k + 1, x0, x1, x12, x13 => if x13 < x12 then (if 0 ≤ x13 then (if x13 < (x0.length : Int) then (if x13 < (x1.length : Int) then ((tendrilplain_Op.f k ((rd_T42 x0 x13).f0) ((rd_T42 x0 x13).f1) ((rd_T42 x0 x13).f2) ((rd_T42 x0 x13).f3) ((rd_T42 x0 x13).f4) ((rd_T42 x0 x13).f5) ((rd_T42 x0 x13).f6) ((rd_T42 x0 x13).f7) ((rd_T42 x0 x13).f8) ((rd_T42 x1 x13).f0) ((rd_T42 x1 x13).f1) ((rd_T42 x1 x13).f2) ((rd_T42 x1 x13).f3) ((rd_T42 x1 x13).f4) ((rd_T42 x1 x13).f5) ((rd_T42 x1 x13).f6) ((rd_T42 x1 x13).f7) ((rd_T42 x1 x13).f8)).bind fun t142 => (if t142 = true then (tendrilplain_Ops.l0 k x0 x1 x12 (wrap64 (x13 + 1))) else (some false))) else (none)) else (none)) else (none)) else (some true)
def tendrilplain_Ops.f (k : Nat) (l0 : List (S42)) (l1 : List (S42)) : Option (Bool) := if (l0.length : Int) = (l1.length : Int) then (tendrilplain_Ops.l0 k l0 l1 (l0.length : Int) 0) else (some false)
theorem tendrilplain_Ops.mono_l : ∀ k, (∀ y0 y1 y2 y3, LeO (tendrilplain_Ops.l0 k y0 y1 y2 y3) (tendrilplain_Ops.l0 (k + 1) y0 y1 y2 y3))
  | 0 => fun _ _ _ _ r h => by simp [tendrilplain_Ops.l0] at h
  | k + 1 => by
    have ih0 := tendrilplain_Ops.mono_l k
    · intro y0 y1 y2 y3
      unfold tendrilplain_Ops.l0
      repeat' first
      | (with_reducible exact ih0 _ _ _ _)
      | (with_reducible exact tendrilplain_Op.mono _ _ _ _ _ _ _ _ _ _ _ _ _ _ _ _ _ _ _)
      | (with_reducible exact LeO.refl _)
      | (with_reducible exact LeO.none _)
      | (with_reducible refine LeO.ite ?_ ?_)
      | (with_reducible refine LeO.bind ?_ (fun _ => ?_))
      | exact ih0 _ _ _ _
      | exact tendrilplain_Op.mono _ _ _ _ _ _ _ _ _ _ _ _ _ _ _ _ _ _ _
      | exact LeO.none _
      | refine LeO.ite ?_ ?_
      | refine LeO.bind ?_ (fun _ => ?_)
theorem tendrilplain_Ops.mono : ∀ a0 a1 k, LeO (tendrilplain_Ops.f k a0 a1) (tendrilplain_Ops.f (k + 1) a0 a1) := by
  intro a0 a1 k
  have ih0 := tendrilplain_Ops.mono_l k
  unfold tendrilplain_Ops.f
  repeat' first
      | (with_reducible exact ih0 _ _ _ _)
      | (with_reducible exact tendrilplain_Op.mono _ _ _ _ _ _ _ _ _ _ _ _ _ _ _ _ _ _ _)
      | (with_reducible exact LeO.refl _)
      | (with_reducible exact LeO.none _)
      | (with_reducible refine LeO.ite ?_ ?_)
      | (with_reducible refine LeO.bind ?_ (fun _ => ?_))
      | exact ih0 _ _ _ _
      | exact tendrilplain_Op.mono _ _ _ _ _ _ _ _ _ _ _ _ _ _ _ _ _ _ _
      | exact LeO.none _
      | refine LeO.ite ?_ ?_
      | refine LeO.bind ?_ (fun _ => ?_)
def tendrilplain_Ops.T6 : Bool × List (List Nat × List Nat) := (true, [([], []), ([], []), ([0, 1], [0, 1]), ([2], [2]), ([], []), ([], []), ([4, 5], [4, 5]), ([6], [6]), ([3, 7], [3, 7]), ([8], [8])])
def tendrilplain_Ops.B6 : List Nat := [0, 0, 3, 7, 0, 0, 48, 112, 255, 511]
theorem tendrilplain_Ops.tab6 : rtab .any (opsOf Tryd.f13 6) = tendrilplain_Ops.T6 := by kernel_rfl
theorem tendrilplain_Ops.bits6 : waitsOk tendrilplain_Ops.T6.2 tendrilplain_Ops.B6 = true := by kernel_rfl
set_option maxHeartbeats 8000000 in
set_option maxRecDepth 100000 in
theorem tendrilplain_Ops.calls (k : Nat) (A0 : Option Addr) (c0 : Nat) (l0 : List (S42)) (A1 : Option Addr) (c1 : Nat) (l1 : List (S42)) (r : Bool) (w : World) (hgl : Go.Proofs.YtfpijjjmgggfkaaDoorX.GL w) (hr0 : Kd.C k42 w A0 l0.length l0) (hc0 : l0.length ≤ c0) (hr1 : Kd.C k42 w A1 l1.length l1) (hc1 : l1.length ≤ c1) (h : tendrilplain_Ops.f k l0 l1 = some r) :
    Calls Tryd.prog 13 #[.slice A0 l0.length c0, .slice A1 l1.length c1] w fun e w' => e = .returned (.bool r) ∧ Below w.heap.size w w' := by
  have hu42 := Tryd.underlying42
  have HR0 := Aside0.mk hr0
  have HC0 := Aside0.mk hc0
  clear hr0 hc0
  have HR1 := Aside0.mk hr1
  have HC1 := Aside0.mk hc1
  clear hr1 hc1
  have HGL := Aside0.mk hgl
  clear hgl
  have HB := Aside0.mk (Below.refl w.heap.size w)
  have H : (if (l0.length : Int) = (l1.length : Int) then (tendrilplain_Ops.l0 k l0 l1 (l0.length : Int) 0) else (some false)) = some r := h
  clear h
  by_cases c3 : (l0.length : Int) = (l1.length : Int)
  · rw [if_pos c3] at H
    have c3b0 : ((l0.length : Int) == (l1.length : Int)) = true := beq_iff_eq.mpr c3
    have c3b1 : ((l0.length : Int) != (l1.length : Int)) = false := bne_eq_false_iff_eq.mpr c3
    have c3b2 : (l0.length == l1.length) = true := by first | simpa using c3 | (simp at c3 ⊢; omega)
    clear c3
    have H' := Aside0.mk H
    clear H
    go_enter Tryd.func13, Tryd.ntmps13
    go_wp2
    go_loopg [13] k (fun kq v13 w' => ∃ (x13_1 : Int), v13 = .int .i64 x13_1 ∧ Aside0 (tendrilplain_Ops.l0 kq l0 l1 (l0.length : Int) x13_1 = some r) ∧ Aside0 (kq ≤ k) ∧ Aside0 (Below w.heap.size w w'))
    case atStart => exact ⟨(0), (by first | rfl | (simp; done) | (simp [*]; done)), H', ⟨Nat.le_refl _⟩, ⟨by repeat (first | (with_reducible first | exact HB.out | apply below_alloc | apply pw_below_drewN | apply below_drew1) | exact HB.out)⟩⟩
    case round =>
      clear H'
      try clear c1
      try clear p2
      try clear c3
      try clear c3b0
      try clear c3b1
      try clear c3b2
      obtain ⟨x13_1, rfl, HA, HK1, HB⟩ := hrel
      cases gk with
      | zero => exact absurd HA.out (by simp [tendrilplain_Ops.l0])
      | succ k1 =>
        have H := HA.out
        clear HA
        simp only [tendrilplain_Ops.l0] at H
        by_cases c4 : x13_1 < (l0.length : Int)
        · rw [if_pos c4] at H
          have c4b0 : decide (x13_1 < (l0.length : Int)) = true := decide_eq_true c4
          clear c4
          by_cases c5 : 0 ≤ x13_1
          · rw [if_pos c5] at H
            have c5b0 : decide (0 ≤ x13_1) = true := decide_eq_true c5
            clear c5
            by_cases c6 : x13_1 < (l0.length : Int)
            · rw [if_pos c6] at H
              have c6b0 : decide (x13_1 < (l0.length : Int)) = true := decide_eq_true c6
              clear c6
              by_cases c7 : x13_1 < (l1.length : Int)
              · rw [if_pos c7] at H
                have c7b0 : decide (x13_1 < (l1.length : Int)) = true := decide_eq_true c7
                clear c7
                replace H := Option.bind_eq_some_iff.mp H
                obtain ⟨t142, A80, H⟩ := H
                replace H : (if t142 = true then (tendrilplain_Ops.l0 k1 l0 l1 (l0.length : Int) (wrap64 (x13_1 + 1))) else (some false)) = some r := H
                have A8 := Aside0.mk A80
                clear A80
                by_cases c9 : t142 = true
                · subst c9
                  have H1 : (tendrilplain_Ops.l0 k1 l0 l1 (l0.length : Int) (wrap64 (x13_1 + 1))) = some r := by rw [if_pos rfl] at H; exact H
                  clear H
                  have H := H1
                  clear H1
                  have H' := Aside0.mk H
                  clear H
                  try go_wp2
                  have n0_ := Aside0.mk (below_drew1 HB.out)
                  clear HB
                  have HB := n0_
                  clear n0_
                  have p140 : 0 ≤ (x13_1 : Int) := of_decide_eq_true (by first | (with_reducible assumption) | assumption)
                  have q140 : x13_1 < (l0.length : Int) := of_decide_eq_true (by first | (with_reducible assumption) | assumption)
                  obtain ⟨ad140, A140_8, c140_8, e140, hx140_0, hx140_1, hx140_2, hx140_3, hx140_4, hx140_5, hx140_6, hx140_7, hx140_8, hl140_8, hi140_8⟩ := at_T42 HR0.out x13_1 p140 q140
                  have hw140_8 := hx140_8
                  have hw140_7 := hx140_7
                  have hw140_6 := hx140_6
                  have hw140_5 := hx140_5
                  have hw140_4 := hx140_4
                  have hw140_3 := hx140_3
                  have hw140_2 := hx140_2
                  have hw140_1 := hx140_1
                  have hw140_0 := hx140_0
                  cases e140
                  replace hx140_0 := (HB.out.cell (World.block_lt_of_cell? w _ hx140_0)).trans hx140_0
                  replace hx140_1 := (HB.out.cell (World.block_lt_of_cell? w _ hx140_1)).trans hx140_1
                  replace hx140_2 := (HB.out.cell (World.block_lt_of_cell? w _ hx140_2)).trans hx140_2
                  replace hx140_3 := (HB.out.cell (World.block_lt_of_cell? w _ hx140_3)).trans hx140_3
                  replace hx140_4 := (HB.out.cell (World.block_lt_of_cell? w _ hx140_4)).trans hx140_4
                  replace hx140_5 := (HB.out.cell (World.block_lt_of_cell? w _ hx140_5)).trans hx140_5
                  replace hx140_6 := (HB.out.cell (World.block_lt_of_cell? w _ hx140_6)).trans hx140_6
                  replace hx140_7 := (HB.out.cell (World.block_lt_of_cell? w _ hx140_7)).trans hx140_7
                  replace hx140_8 := (HB.out.cell (World.block_lt_of_cell? w _ hx140_8)).trans hx140_8
                  have HR140_8 := Aside0.mk hi140_8
                  have HC140_8 := Aside0.mk hl140_8
                  clear hi140_8 hl140_8
                  replace p140 := eq_true p140
                  replace q140 := eq_true q140
                  have p141 : 0 ≤ (x13_1 : Int) := of_decide_eq_true (by first | (with_reducible assumption) | assumption)
                  have q141 : x13_1 < (l1.length : Int) := of_decide_eq_true (by first | (with_reducible assumption) | assumption)
                  obtain ⟨ad141, A141_8, c141_8, e141, hx141_0, hx141_1, hx141_2, hx141_3, hx141_4, hx141_5, hx141_6, hx141_7, hx141_8, hl141_8, hi141_8⟩ := at_T42 HR1.out x13_1 p141 q141
                  have hw141_8 := hx141_8
                  have hw141_7 := hx141_7
                  have hw141_6 := hx141_6
                  have hw141_5 := hx141_5
                  have hw141_4 := hx141_4
                  have hw141_3 := hx141_3
                  have hw141_2 := hx141_2
                  have hw141_1 := hx141_1
                  have hw141_0 := hx141_0
                  cases e141
                  replace hx141_0 := (HB.out.cell (World.block_lt_of_cell? w _ hx141_0)).trans hx141_0
                  replace hx141_1 := (HB.out.cell (World.block_lt_of_cell? w _ hx141_1)).trans hx141_1
                  replace hx141_2 := (HB.out.cell (World.block_lt_of_cell? w _ hx141_2)).trans hx141_2
                  replace hx141_3 := (HB.out.cell (World.block_lt_of_cell? w _ hx141_3)).trans hx141_3
                  replace hx141_4 := (HB.out.cell (World.block_lt_of_cell? w _ hx141_4)).trans hx141_4
                  replace hx141_5 := (HB.out.cell (World.block_lt_of_cell? w _ hx141_5)).trans hx141_5
                  replace hx141_6 := (HB.out.cell (World.block_lt_of_cell? w _ hx141_6)).trans hx141_6
                  replace hx141_7 := (HB.out.cell (World.block_lt_of_cell? w _ hx141_7)).trans hx141_7
                  replace hx141_8 := (HB.out.cell (World.block_lt_of_cell? w _ hx141_8)).trans hx141_8
                  have HR141_8 := Aside0.mk hi141_8
                  have HC141_8 := Aside0.mk hl141_8
                  clear hi141_8 hl141_8
                  replace p141 := eq_true p141
                  replace q141 := eq_true q141
                  refine start_ (n := 10) (S := fun w' => w'.cell? (ad140.add ((x13_1).toNat * 9)) = some (.int .i64 ((rd_T42 l0 x13_1).f0)) ∧ w'.cell? ⟨(ad140.add ((x13_1).toNat * 9)).block, (ad140.add ((x13_1).toNat * 9)).off + 1, none⟩ = some (.int .i64 ((rd_T42 l0 x13_1).f1)) ∧ w'.cell? ⟨(ad140.add ((x13_1).toNat * 9)).block, (ad140.add ((x13_1).toNat * 9)).off + 2, none⟩ = some (.int .i64 ((rd_T42 l0 x13_1).f2)) ∧ w'.cell? ⟨(ad140.add ((x13_1).toNat * 9)).block, (ad140.add ((x13_1).toNat * 9)).off + 3, none⟩ = some (.int .i64 ((rd_T42 l0 x13_1).f3)) ∧ w'.cell? ⟨(ad140.add ((x13_1).toNat * 9)).block, (ad140.add ((x13_1).toNat * 9)).off + 4, none⟩ = some (.string ((rd_T42 l0 x13_1).f4)) ∧ w'.cell? ⟨(ad140.add ((x13_1).toNat * 9)).block, (ad140.add ((x13_1).toNat * 9)).off + 5, none⟩ = some (.string ((rd_T42 l0 x13_1).f5)) ∧ w'.cell? ⟨(ad140.add ((x13_1).toNat * 9)).block, (ad140.add ((x13_1).toNat * 9)).off + 6, none⟩ = some (.string ((rd_T42 l0 x13_1).f6)) ∧ w'.cell? ⟨(ad140.add ((x13_1).toNat * 9)).block, (ad140.add ((x13_1).toNat * 9)).off + 7, none⟩ = some (.string ((rd_T42 l0 x13_1).f7)) ∧ w'.cell? ⟨(ad140.add ((x13_1).toNat * 9)).block, (ad140.add ((x13_1).toNat * 9)).off + 8, none⟩ = some (.slice A140_8 ((rd_T42 l0 x13_1).f8).length c140_8) ∧ w'.cell? (ad141.add ((x13_1).toNat * 9)) = some (.int .i64 ((rd_T42 l1 x13_1).f0)) ∧ w'.cell? ⟨(ad141.add ((x13_1).toNat * 9)).block, (ad141.add ((x13_1).toNat * 9)).off + 1, none⟩ = some (.int .i64 ((rd_T42 l1 x13_1).f1)) ∧ w'.cell? ⟨(ad141.add ((x13_1).toNat * 9)).block, (ad141.add ((x13_1).toNat * 9)).off + 2, none⟩ = some (.int .i64 ((rd_T42 l1 x13_1).f2)) ∧ w'.cell? ⟨(ad141.add ((x13_1).toNat * 9)).block, (ad141.add ((x13_1).toNat * 9)).off + 3, none⟩ = some (.int .i64 ((rd_T42 l1 x13_1).f3)) ∧ w'.cell? ⟨(ad141.add ((x13_1).toNat * 9)).block, (ad141.add ((x13_1).toNat * 9)).off + 4, none⟩ = some (.string ((rd_T42 l1 x13_1).f4)) ∧ w'.cell? ⟨(ad141.add ((x13_1).toNat * 9)).block, (ad141.add ((x13_1).toNat * 9)).off + 5, none⟩ = some (.string ((rd_T42 l1 x13_1).f5)) ∧ w'.cell? ⟨(ad141.add ((x13_1).toNat * 9)).block, (ad141.add ((x13_1).toNat * 9)).off + 6, none⟩ = some (.string ((rd_T42 l1 x13_1).f6)) ∧ w'.cell? ⟨(ad141.add ((x13_1).toNat * 9)).block, (ad141.add ((x13_1).toNat * 9)).off + 7, none⟩ = some (.string ((rd_T42 l1 x13_1).f7)) ∧ w'.cell? ⟨(ad141.add ((x13_1).toNat * 9)).block, (ad141.add ((x13_1).toNat * 9)).off + 8, none⟩ = some (.slice A141_8 ((rd_T42 l1 x13_1).f8).length c141_8)) (ds := []) #[false, false, false, false, false, false, false, false, false, false] (by kernel_rfl) rfl rfl ⟨((HB.out.cell (World.block_lt_of_cell? w _ hw140_0)).trans hw140_0), ((HB.out.cell (World.block_lt_of_cell? w _ hw140_1)).trans hw140_1), ((HB.out.cell (World.block_lt_of_cell? w _ hw140_2)).trans hw140_2), ((HB.out.cell (World.block_lt_of_cell? w _ hw140_3)).trans hw140_3), ((HB.out.cell (World.block_lt_of_cell? w _ hw140_4)).trans hw140_4), ((HB.out.cell (World.block_lt_of_cell? w _ hw140_5)).trans hw140_5), ((HB.out.cell (World.block_lt_of_cell? w _ hw140_6)).trans hw140_6), ((HB.out.cell (World.block_lt_of_cell? w _ hw140_7)).trans hw140_7), ((HB.out.cell (World.block_lt_of_cell? w _ hw140_8)).trans hw140_8), ((HB.out.cell (World.block_lt_of_cell? w _ hw141_0)).trans hw141_0), ((HB.out.cell (World.block_lt_of_cell? w _ hw141_1)).trans hw141_1), ((HB.out.cell (World.block_lt_of_cell? w _ hw141_2)).trans hw141_2), ((HB.out.cell (World.block_lt_of_cell? w _ hw141_3)).trans hw141_3), ((HB.out.cell (World.block_lt_of_cell? w _ hw141_4)).trans hw141_4), ((HB.out.cell (World.block_lt_of_cell? w _ hw141_5)).trans hw141_5), ((HB.out.cell (World.block_lt_of_cell? w _ hw141_6)).trans hw141_6), ((HB.out.cell (World.block_lt_of_cell? w _ hw141_7)).trans hw141_7), ((HB.out.cell (World.block_lt_of_cell? w _ hw141_8)).trans hw141_8)⟩ (fun hHeld => ?_); refine with_tabW tendrilplain_Ops.tab6 tendrilplain_Ops.bits6 (fun HT_ HW_ => ?_)
                  generalize wr.drew = w10 at HB HR140_8 HR141_8 hx140_0 hx140_1 hx140_2 hx140_3 hx140_4 hx140_5 hx140_6 hx140_7 hx140_8 hx141_0 hx141_1 hx141_2 hx141_3 hx141_4 hx141_5 hx141_6 hx141_7 hx141_8 hHeld ⊢
                  refine pure_ (i := 0) (N := some 16) (v := ?_) (a' := ?_) #[true, false, false, false, false, false, false, false, false, false] rfl rfl (any_of HT_.out (by kernel_rfl)) (fun _ _ _ h => h) (Or.inl ⟨by rfl, ?_⟩) ?_ ?_
                  rotate_left
                  · intro w'
                    go_simp
                    with_reducible rfl
                  rotate_left
                  · simp only [Act.put, List.setIfInBounds_toArray, List.set_cons_zero, List.set_cons_succ, i64_w, i32_w]
                    rfl
                  refine pure_ (i := 1) (N := some 17) (v := ?_) (a' := ?_) #[true, true, false, false, false, false, false, false, false, false] rfl rfl (any_of HT_.out (by kernel_rfl)) (fun _ _ _ h => h) (Or.inl ⟨by rfl, ?_⟩) ?_ ?_
                  rotate_left
                  · intro w'
                    go_simp
                    with_reducible rfl
                  rotate_left
                  · simp only [Act.put, List.setIfInBounds_toArray, List.set_cons_zero, List.set_cons_succ, i64_w, i32_w]
                    rfl
                  refine pure_ (i := 2) (N := some 18) (v := ?_) (a' := ?_) #[true, true, true, false, false, false, false, false, false, false] rfl rfl (any_of HT_.out (by kernel_rfl)) (fun _ _ _ h => h) (Or.inl ⟨by rfl, ?_⟩) ?_ ?_
                  rotate_left
                  · intro w'
                    go_simp
                    with_reducible rfl
                  rotate_left
                  · simp only [Act.put, List.setIfInBounds_toArray, List.set_cons_zero, List.set_cons_succ, i64_w, i32_w]
                    rfl
                  refine pure_ (i := 4) (N := some 20) (v := ?_) (a' := ?_) #[true, true, true, false, true, false, false, false, false, false] rfl rfl (any_of HT_.out (by kernel_rfl)) (fun _ _ _ h => h) (Or.inl ⟨by rfl, ?_⟩) ?_ ?_
                  rotate_left
                  · intro w'
                    go_simp
                    with_reducible rfl
                  rotate_left
                  · simp only [Act.put, List.setIfInBounds_toArray, List.set_cons_zero, List.set_cons_succ, i64_w, i32_w]
                    rfl
                  refine pure_ (i := 5) (N := some 21) (v := ?_) (a' := ?_) #[true, true, true, false, true, true, false, false, false, false] rfl rfl (any_of HT_.out (by kernel_rfl)) (fun _ _ _ h => h) (Or.inl ⟨by rfl, ?_⟩) ?_ ?_
                  rotate_left
                  · intro w'
                    go_simp
                    with_reducible rfl
                  rotate_left
                  · simp only [Act.put, List.setIfInBounds_toArray, List.set_cons_zero, List.set_cons_succ, i64_w, i32_w]
                    rfl
                  refine pure_ (i := 6) (N := some 22) (v := ?_) (a' := ?_) #[true, true, true, false, true, true, true, false, false, false] rfl rfl (any_of HT_.out (by kernel_rfl)) (fun _ _ _ h => h) (Or.inl ⟨by rfl, ?_⟩) ?_ ?_
                  rotate_left
                  · intro w'
                    go_simp
                    with_reducible rfl
                  rotate_left
                  · simp only [Act.put, List.setIfInBounds_toArray, List.set_cons_zero, List.set_cons_succ, i64_w, i32_w]
                    rfl
                  refine take_ (i := 3) (N := some 19) (v := ?_) (a' := ?_) #[true, true, true, true, true, true, true, false, false, false] rfl rfl (take_ofW HT_.out HW_.out (by kernel_rfl)) (fun _ _ _ h => h) (Or.inl ⟨by rfl, ?_⟩) hHeld ?_ ?_
                  rotate_left
                  · rintro w' ⟨s0, s1, s2, s3, s4, s5, s6, s7, s8, s9, s10, s11, s12, s13, s14, s15, s16, s17⟩
                    go_simp
                    with_reducible rfl
                  rotate_left
                  · simp only [Act.put, List.setIfInBounds_toArray, List.set_cons_zero, List.set_cons_succ, i64_w, i32_w]
                    rfl
                  refine take_ (i := 7) (N := some 23) (v := ?_) (a' := ?_) #[true, true, true, true, true, true, true, true, false, false] rfl rfl (take_ofW HT_.out HW_.out (by kernel_rfl)) (fun _ _ _ h => h) (Or.inl ⟨by rfl, ?_⟩) hHeld ?_ ?_
                  rotate_left
                  · rintro w' ⟨s0, s1, s2, s3, s4, s5, s6, s7, s8, s9, s10, s11, s12, s13, s14, s15, s16, s17⟩
                    go_simp
                    with_reducible rfl
                  rotate_left
                  · simp only [Act.put, List.setIfInBounds_toArray, List.set_cons_zero, List.set_cons_succ, i64_w, i32_w]
                    rfl
                  refine one_ (i := 8) (N := some 24) #[true, true, true, true, true, true, true, true, true, false] rfl rfl (one_of HT_.out (by kernel_rfl)) (by decide) (fun K hK => ?_)
                  refine goes_ Tryd.func24 (by kernel_rfl) rfl #[.agg #[.int .i64 ((rd_T42 l0 x13_1).f0), .int .i64 ((rd_T42 l0 x13_1).f1), .int .i64 ((rd_T42 l0 x13_1).f2), .int .i64 ((rd_T42 l0 x13_1).f3), .string ((rd_T42 l0 x13_1).f4), .string ((rd_T42 l0 x13_1).f5), .string ((rd_T42 l0 x13_1).f6), .string ((rd_T42 l0 x13_1).f7), .slice A140_8 ((rd_T42 l0 x13_1).f8).length c140_8], .agg #[.int .i64 ((rd_T42 l1 x13_1).f0), .int .i64 ((rd_T42 l1 x13_1).f1), .int .i64 ((rd_T42 l1 x13_1).f2), .int .i64 ((rd_T42 l1 x13_1).f3), .string ((rd_T42 l1 x13_1).f4), .string ((rd_T42 l1 x13_1).f5), .string ((rd_T42 l1 x13_1).f6), .string ((rd_T42 l1 x13_1).f7), .slice A141_8 ((rd_T42 l1 x13_1).f8).length c141_8]] (by rfl) rfl rfl (by (try simp only [List.map_toArray, List.map_cons, List.map_nil]); first | done | rfl | (simp only [List.length_drop, List.length_take]; rfl)) ?_
                  with_reducible refine (tendrilplain_Op.calls k1 ((rd_T42 l0 x13_1).f0) ((rd_T42 l0 x13_1).f1) ((rd_T42 l0 x13_1).f2) ((rd_T42 l0 x13_1).f3) ((rd_T42 l0 x13_1).f4) ((rd_T42 l0 x13_1).f5) ((rd_T42 l0 x13_1).f6) ((rd_T42 l0 x13_1).f7) _ _ ((rd_T42 l0 x13_1).f8) ((rd_T42 l1 x13_1).f0) ((rd_T42 l1 x13_1).f1) ((rd_T42 l1 x13_1).f2) ((rd_T42 l1 x13_1).f3) ((rd_T42 l1 x13_1).f4) ((rd_T42 l1 x13_1).f5) ((rd_T42 l1 x13_1).f6) ((rd_T42 l1 x13_1).f7) _ _ ((rd_T42 l1 x13_1).f8) true _ ?side1 ?side2 ?side3 ?side4 ?side5 A8.out).mono ?_
                  (case side1 => first | exact HGL.out | exact (Go.Proofs.YtfpijjjmgggfkaaDoorX.GL.below HGL.out (by repeat (first | (with_reducible first | exact HB.out | apply below_alloc | apply pw_below_drewN | apply below_drew1) | exact HB.out))) | (repeat (first | exact HGL.out | (with_reducible refine Go.Proofs.YtfpijjjmgggfkaaDoorX.GL.drewN ?_ _) | (with_reducible refine Go.Proofs.YtfpijjjmgggfkaaDoorX.GL.drew ?_))))
                  (case side2 => repeat (first | exact (Kd.C_below HR140_8.out HB.out) | (with_reducible refine Kd.C_alloc ?_ _) | (with_reducible refine Kd.C_drewN ?_ _) | (with_reducible refine Kd.C_drew ?_)))
                  (case side3 => exact HC140_8.out)
                  (case side4 => repeat (first | exact (Kd.C_below HR141_8.out HB.out) | (with_reducible refine Kd.C_alloc ?_ _) | (with_reducible refine Kd.C_drewN ?_ _) | (with_reducible refine Kd.C_drew ?_)))
                  (case side5 => exact HC141_8.out)
                  rintro e w11 ⟨rfl, hb⟩
                  refine ⟨_, rfl, ?_⟩
                  have n0_ := Aside0.mk (below_step (by repeat (first | (with_reducible first | exact HB.out | apply below_alloc | apply pw_below_drewN | apply below_drew1) | exact HB.out)) hb)
                  clear HB
                  have HB := n0_
                  clear n0_
                  (try clear hb)
                  (try clear hb2)
                  (try clear hk)
                  (try clear hi)
                  refine hK.out _ _ ⟨((HB.out.cell (World.block_lt_of_cell? w _ hw140_0)).trans hw140_0), ((HB.out.cell (World.block_lt_of_cell? w _ hw140_1)).trans hw140_1), ((HB.out.cell (World.block_lt_of_cell? w _ hw140_2)).trans hw140_2), ((HB.out.cell (World.block_lt_of_cell? w _ hw140_3)).trans hw140_3), ((HB.out.cell (World.block_lt_of_cell? w _ hw140_4)).trans hw140_4), ((HB.out.cell (World.block_lt_of_cell? w _ hw140_5)).trans hw140_5), ((HB.out.cell (World.block_lt_of_cell? w _ hw140_6)).trans hw140_6), ((HB.out.cell (World.block_lt_of_cell? w _ hw140_7)).trans hw140_7), ((HB.out.cell (World.block_lt_of_cell? w _ hw140_8)).trans hw140_8), ((HB.out.cell (World.block_lt_of_cell? w _ hw141_0)).trans hw141_0), ((HB.out.cell (World.block_lt_of_cell? w _ hw141_1)).trans hw141_1), ((HB.out.cell (World.block_lt_of_cell? w _ hw141_2)).trans hw141_2), ((HB.out.cell (World.block_lt_of_cell? w _ hw141_3)).trans hw141_3), ((HB.out.cell (World.block_lt_of_cell? w _ hw141_4)).trans hw141_4), ((HB.out.cell (World.block_lt_of_cell? w _ hw141_5)).trans hw141_5), ((HB.out.cell (World.block_lt_of_cell? w _ hw141_6)).trans hw141_6), ((HB.out.cell (World.block_lt_of_cell? w _ hw141_7)).trans hw141_7), ((HB.out.cell (World.block_lt_of_cell? w _ hw141_8)).trans hw141_8)⟩ (fun hHeld => ?_)
                  clear hK K
                  refine norm_ (a' := ?_) ?_ ?_
                  rotate_left
                  · show Act.put _ (some 24) _ = _
                    simp only [Act.put, List.setIfInBounds_toArray, List.set_cons_zero, List.set_cons_succ, i64_w, i32_w]
                    rfl
                  refine pure_ (i := 9) (N := some 25) (v := ?_) (a' := ?_) #[true, true, true, true, true, true, true, true, true, true] rfl rfl (any_of HT_.out (by kernel_rfl)) (fun _ _ _ h => h) (Or.inl ⟨by rfl, ?_⟩) ?_ ?_
                  rotate_left
                  · intro w'
                    go_simp
                    with_reducible rfl
                  rotate_left
                  · simp only [Act.put, List.setIfInBounds_toArray, List.set_cons_zero, List.set_cons_succ, i64_w, i32_w]
                    rfl
                  refine done_ (done_of HT_.out (by kernel_rfl)) ?_
                  try go_wp2
                  go_roundg k1
                  case measure => have := HK1.out; omega
                  case rel => exact ⟨(wrap64 (x13_1 + 1)), (by first | rfl | (simp; done) | (simp [*]; done)), H', ⟨by have := HK1.out; omega⟩, ⟨by repeat (first | (with_reducible first | exact HB.out | apply below_alloc | apply pw_below_drewN | apply below_drew1) | exact HB.out)⟩⟩
                · replace c9 := Bool.eq_false_iff.mpr c9
                  subst c9
                  have H1 : (some false) = some r := by rw [if_neg (show ¬ (false = true) by decide)] at H; exact H
                  clear H
                  have H := H1
                  clear H1
                  obtain rfl := Option.some.inj H
                  try go_wp2
                  have n0_ := Aside0.mk (below_drew1 HB.out)
                  clear HB
                  have HB := n0_
                  clear n0_
                  have p140 : 0 ≤ (x13_1 : Int) := of_decide_eq_true (by first | (with_reducible assumption) | assumption)
                  have q140 : x13_1 < (l0.length : Int) := of_decide_eq_true (by first | (with_reducible assumption) | assumption)
                  obtain ⟨ad140, A140_8, c140_8, e140, hx140_0, hx140_1, hx140_2, hx140_3, hx140_4, hx140_5, hx140_6, hx140_7, hx140_8, hl140_8, hi140_8⟩ := at_T42 HR0.out x13_1 p140 q140
                  have hw140_8 := hx140_8
                  have hw140_7 := hx140_7
                  have hw140_6 := hx140_6
                  have hw140_5 := hx140_5
                  have hw140_4 := hx140_4
                  have hw140_3 := hx140_3
                  have hw140_2 := hx140_2
                  have hw140_1 := hx140_1
                  have hw140_0 := hx140_0
                  cases e140
                  replace hx140_0 := (HB.out.cell (World.block_lt_of_cell? w _ hx140_0)).trans hx140_0
                  replace hx140_1 := (HB.out.cell (World.block_lt_of_cell? w _ hx140_1)).trans hx140_1
                  replace hx140_2 := (HB.out.cell (World.block_lt_of_cell? w _ hx140_2)).trans hx140_2
                  replace hx140_3 := (HB.out.cell (World.block_lt_of_cell? w _ hx140_3)).trans hx140_3
                  replace hx140_4 := (HB.out.cell (World.block_lt_of_cell? w _ hx140_4)).trans hx140_4
                  replace hx140_5 := (HB.out.cell (World.block_lt_of_cell? w _ hx140_5)).trans hx140_5
                  replace hx140_6 := (HB.out.cell (World.block_lt_of_cell? w _ hx140_6)).trans hx140_6
                  replace hx140_7 := (HB.out.cell (World.block_lt_of_cell? w _ hx140_7)).trans hx140_7
                  replace hx140_8 := (HB.out.cell (World.block_lt_of_cell? w _ hx140_8)).trans hx140_8
                  have HR140_8 := Aside0.mk hi140_8
                  have HC140_8 := Aside0.mk hl140_8
                  clear hi140_8 hl140_8
                  replace p140 := eq_true p140
                  replace q140 := eq_true q140
                  have p141 : 0 ≤ (x13_1 : Int) := of_decide_eq_true (by first | (with_reducible assumption) | assumption)
                  have q141 : x13_1 < (l1.length : Int) := of_decide_eq_true (by first | (with_reducible assumption) | assumption)
                  obtain ⟨ad141, A141_8, c141_8, e141, hx141_0, hx141_1, hx141_2, hx141_3, hx141_4, hx141_5, hx141_6, hx141_7, hx141_8, hl141_8, hi141_8⟩ := at_T42 HR1.out x13_1 p141 q141
                  have hw141_8 := hx141_8
                  have hw141_7 := hx141_7
                  have hw141_6 := hx141_6
                  have hw141_5 := hx141_5
                  have hw141_4 := hx141_4
                  have hw141_3 := hx141_3
                  have hw141_2 := hx141_2
                  have hw141_1 := hx141_1
                  have hw141_0 := hx141_0
                  cases e141
                  replace hx141_0 := (HB.out.cell (World.block_lt_of_cell? w _ hx141_0)).trans hx141_0
                  replace hx141_1 := (HB.out.cell (World.block_lt_of_cell? w _ hx141_1)).trans hx141_1
                  replace hx141_2 := (HB.out.cell (World.block_lt_of_cell? w _ hx141_2)).trans hx141_2
                  replace hx141_3 := (HB.out.cell (World.block_lt_of_cell? w _ hx141_3)).trans hx141_3
                  replace hx141_4 := (HB.out.cell (World.block_lt_of_cell? w _ hx141_4)).trans hx141_4
                  replace hx141_5 := (HB.out.cell (World.block_lt_of_cell? w _ hx141_5)).trans hx141_5
                  replace hx141_6 := (HB.out.cell (World.block_lt_of_cell? w _ hx141_6)).trans hx141_6
                  replace hx141_7 := (HB.out.cell (World.block_lt_of_cell? w _ hx141_7)).trans hx141_7
                  replace hx141_8 := (HB.out.cell (World.block_lt_of_cell? w _ hx141_8)).trans hx141_8
                  have HR141_8 := Aside0.mk hi141_8
                  have HC141_8 := Aside0.mk hl141_8
                  clear hi141_8 hl141_8
                  replace p141 := eq_true p141
                  replace q141 := eq_true q141
                  refine start_ (n := 10) (S := fun w' => w'.cell? (ad140.add ((x13_1).toNat * 9)) = some (.int .i64 ((rd_T42 l0 x13_1).f0)) ∧ w'.cell? ⟨(ad140.add ((x13_1).toNat * 9)).block, (ad140.add ((x13_1).toNat * 9)).off + 1, none⟩ = some (.int .i64 ((rd_T42 l0 x13_1).f1)) ∧ w'.cell? ⟨(ad140.add ((x13_1).toNat * 9)).block, (ad140.add ((x13_1).toNat * 9)).off + 2, none⟩ = some (.int .i64 ((rd_T42 l0 x13_1).f2)) ∧ w'.cell? ⟨(ad140.add ((x13_1).toNat * 9)).block, (ad140.add ((x13_1).toNat * 9)).off + 3, none⟩ = some (.int .i64 ((rd_T42 l0 x13_1).f3)) ∧ w'.cell? ⟨(ad140.add ((x13_1).toNat * 9)).block, (ad140.add ((x13_1).toNat * 9)).off + 4, none⟩ = some (.string ((rd_T42 l0 x13_1).f4)) ∧ w'.cell? ⟨(ad140.add ((x13_1).toNat * 9)).block, (ad140.add ((x13_1).toNat * 9)).off + 5, none⟩ = some (.string ((rd_T42 l0 x13_1).f5)) ∧ w'.cell? ⟨(ad140.add ((x13_1).toNat * 9)).block, (ad140.add ((x13_1).toNat * 9)).off + 6, none⟩ = some (.string ((rd_T42 l0 x13_1).f6)) ∧ w'.cell? ⟨(ad140.add ((x13_1).toNat * 9)).block, (ad140.add ((x13_1).toNat * 9)).off + 7, none⟩ = some (.string ((rd_T42 l0 x13_1).f7)) ∧ w'.cell? ⟨(ad140.add ((x13_1).toNat * 9)).block, (ad140.add ((x13_1).toNat * 9)).off + 8, none⟩ = some (.slice A140_8 ((rd_T42 l0 x13_1).f8).length c140_8) ∧ w'.cell? (ad141.add ((x13_1).toNat * 9)) = some (.int .i64 ((rd_T42 l1 x13_1).f0)) ∧ w'.cell? ⟨(ad141.add ((x13_1).toNat * 9)).block, (ad141.add ((x13_1).toNat * 9)).off + 1, none⟩ = some (.int .i64 ((rd_T42 l1 x13_1).f1)) ∧ w'.cell? ⟨(ad141.add ((x13_1).toNat * 9)).block, (ad141.add ((x13_1).toNat * 9)).off + 2, none⟩ = some (.int .i64 ((rd_T42 l1 x13_1).f2)) ∧ w'.cell? ⟨(ad141.add ((x13_1).toNat * 9)).block, (ad141.add ((x13_1).toNat * 9)).off + 3, none⟩ = some (.int .i64 ((rd_T42 l1 x13_1).f3)) ∧ w'.cell? ⟨(ad141.add ((x13_1).toNat * 9)).block, (ad141.add ((x13_1).toNat * 9)).off + 4, none⟩ = some (.string ((rd_T42 l1 x13_1).f4)) ∧ w'.cell? ⟨(ad141.add ((x13_1).toNat * 9)).block, (ad141.add ((x13_1).toNat * 9)).off + 5, none⟩ = some (.string ((rd_T42 l1 x13_1).f5)) ∧ w'.cell? ⟨(ad141.add ((x13_1).toNat * 9)).block, (ad141.add ((x13_1).toNat * 9)).off + 6, none⟩ = some (.string ((rd_T42 l1 x13_1).f6)) ∧ w'.cell? ⟨(ad141.add ((x13_1).toNat * 9)).block, (ad141.add ((x13_1).toNat * 9)).off + 7, none⟩ = some (.string ((rd_T42 l1 x13_1).f7)) ∧ w'.cell? ⟨(ad141.add ((x13_1).toNat * 9)).block, (ad141.add ((x13_1).toNat * 9)).off + 8, none⟩ = some (.slice A141_8 ((rd_T42 l1 x13_1).f8).length c141_8)) (ds := []) #[false, false, false, false, false, false, false, false, false, false] (by kernel_rfl) rfl rfl ⟨((HB.out.cell (World.block_lt_of_cell? w _ hw140_0)).trans hw140_0), ((HB.out.cell (World.block_lt_of_cell? w _ hw140_1)).trans hw140_1), ((HB.out.cell (World.block_lt_of_cell? w _ hw140_2)).trans hw140_2), ((HB.out.cell (World.block_lt_of_cell? w _ hw140_3)).trans hw140_3), ((HB.out.cell (World.block_lt_of_cell? w _ hw140_4)).trans hw140_4), ((HB.out.cell (World.block_lt_of_cell? w _ hw140_5)).trans hw140_5), ((HB.out.cell (World.block_lt_of_cell? w _ hw140_6)).trans hw140_6), ((HB.out.cell (World.block_lt_of_cell? w _ hw140_7)).trans hw140_7), ((HB.out.cell (World.block_lt_of_cell? w _ hw140_8)).trans hw140_8), ((HB.out.cell (World.block_lt_of_cell? w _ hw141_0)).trans hw141_0), ((HB.out.cell (World.block_lt_of_cell? w _ hw141_1)).trans hw141_1), ((HB.out.cell (World.block_lt_of_cell? w _ hw141_2)).trans hw141_2), ((HB.out.cell (World.block_lt_of_cell? w _ hw141_3)).trans hw141_3), ((HB.out.cell (World.block_lt_of_cell? w _ hw141_4)).trans hw141_4), ((HB.out.cell (World.block_lt_of_cell? w _ hw141_5)).trans hw141_5), ((HB.out.cell (World.block_lt_of_cell? w _ hw141_6)).trans hw141_6), ((HB.out.cell (World.block_lt_of_cell? w _ hw141_7)).trans hw141_7), ((HB.out.cell (World.block_lt_of_cell? w _ hw141_8)).trans hw141_8)⟩ (fun hHeld => ?_); refine with_tabW tendrilplain_Ops.tab6 tendrilplain_Ops.bits6 (fun HT_ HW_ => ?_)
                  generalize wr.drew = w12 at HB HR140_8 HR141_8 hx140_0 hx140_1 hx140_2 hx140_3 hx140_4 hx140_5 hx140_6 hx140_7 hx140_8 hx141_0 hx141_1 hx141_2 hx141_3 hx141_4 hx141_5 hx141_6 hx141_7 hx141_8 hHeld ⊢
                  refine pure_ (i := 0) (N := some 16) (v := ?_) (a' := ?_) #[true, false, false, false, false, false, false, false, false, false] rfl rfl (any_of HT_.out (by kernel_rfl)) (fun _ _ _ h => h) (Or.inl ⟨by rfl, ?_⟩) ?_ ?_
                  rotate_left
                  · intro w'
                    go_simp
                    with_reducible rfl
                  rotate_left
                  · simp only [Act.put, List.setIfInBounds_toArray, List.set_cons_zero, List.set_cons_succ, i64_w, i32_w]
                    rfl
                  refine pure_ (i := 1) (N := some 17) (v := ?_) (a' := ?_) #[true, true, false, false, false, false, false, false, false, false] rfl rfl (any_of HT_.out (by kernel_rfl)) (fun _ _ _ h => h) (Or.inl ⟨by rfl, ?_⟩) ?_ ?_
                  rotate_left
                  · intro w'
                    go_simp
                    with_reducible rfl
                  rotate_left
                  · simp only [Act.put, List.setIfInBounds_toArray, List.set_cons_zero, List.set_cons_succ, i64_w, i32_w]
                    rfl
                  refine pure_ (i := 2) (N := some 18) (v := ?_) (a' := ?_) #[true, true, true, false, false, false, false, false, false, false] rfl rfl (any_of HT_.out (by kernel_rfl)) (fun _ _ _ h => h) (Or.inl ⟨by rfl, ?_⟩) ?_ ?_
                  rotate_left
                  · intro w'
                    go_simp
                    with_reducible rfl
                  rotate_left
                  · simp only [Act.put, List.setIfInBounds_toArray, List.set_cons_zero, List.set_cons_succ, i64_w, i32_w]
                    rfl
                  refine pure_ (i := 4) (N := some 20) (v := ?_) (a' := ?_) #[true, true, true, false, true, false, false, false, false, false] rfl rfl (any_of HT_.out (by kernel_rfl)) (fun _ _ _ h => h) (Or.inl ⟨by rfl, ?_⟩) ?_ ?_
                  rotate_left
                  · intro w'
                    go_simp
                    with_reducible rfl
                  rotate_left
                  · simp only [Act.put, List.setIfInBounds_toArray, List.set_cons_zero, List.set_cons_succ, i64_w, i32_w]
                    rfl
                  refine pure_ (i := 5) (N := some 21) (v := ?_) (a' := ?_) #[true, true, true, false, true, true, false, false, false, false] rfl rfl (any_of HT_.out (by kernel_rfl)) (fun _ _ _ h => h) (Or.inl ⟨by rfl, ?_⟩) ?_ ?_
                  rotate_left
                  · intro w'
                    go_simp
                    with_reducible rfl
                  rotate_left
                  · simp only [Act.put, List.setIfInBounds_toArray, List.set_cons_zero, List.set_cons_succ, i64_w, i32_w]
                    rfl
                  refine pure_ (i := 6) (N := some 22) (v := ?_) (a' := ?_) #[true, true, true, false, true, true, true, false, false, false] rfl rfl (any_of HT_.out (by kernel_rfl)) (fun _ _ _ h => h) (Or.inl ⟨by rfl, ?_⟩) ?_ ?_
                  rotate_left
                  · intro w'
                    go_simp
                    with_reducible rfl
                  rotate_left
                  · simp only [Act.put, List.setIfInBounds_toArray, List.set_cons_zero, List.set_cons_succ, i64_w, i32_w]
                    rfl
                  refine take_ (i := 3) (N := some 19) (v := ?_) (a' := ?_) #[true, true, true, true, true, true, true, false, false, false] rfl rfl (take_ofW HT_.out HW_.out (by kernel_rfl)) (fun _ _ _ h => h) (Or.inl ⟨by rfl, ?_⟩) hHeld ?_ ?_
                  rotate_left
                  · rintro w' ⟨s0, s1, s2, s3, s4, s5, s6, s7, s8, s9, s10, s11, s12, s13, s14, s15, s16, s17⟩
                    go_simp
                    with_reducible rfl
                  rotate_left
                  · simp only [Act.put, List.setIfInBounds_toArray, List.set_cons_zero, List.set_cons_succ, i64_w, i32_w]
                    rfl
                  refine take_ (i := 7) (N := some 23) (v := ?_) (a' := ?_) #[true, true, true, true, true, true, true, true, false, false] rfl rfl (take_ofW HT_.out HW_.out (by kernel_rfl)) (fun _ _ _ h => h) (Or.inl ⟨by rfl, ?_⟩) hHeld ?_ ?_
                  rotate_left
                  · rintro w' ⟨s0, s1, s2, s3, s4, s5, s6, s7, s8, s9, s10, s11, s12, s13, s14, s15, s16, s17⟩
                    go_simp
                    with_reducible rfl
                  rotate_left
                  · simp only [Act.put, List.setIfInBounds_toArray, List.set_cons_zero, List.set_cons_succ, i64_w, i32_w]
                    rfl
                  refine one_ (i := 8) (N := some 24) #[true, true, true, true, true, true, true, true, true, false] rfl rfl (one_of HT_.out (by kernel_rfl)) (by decide) (fun K hK => ?_)
                  refine goes_ Tryd.func24 (by kernel_rfl) rfl #[.agg #[.int .i64 ((rd_T42 l0 x13_1).f0), .int .i64 ((rd_T42 l0 x13_1).f1), .int .i64 ((rd_T42 l0 x13_1).f2), .int .i64 ((rd_T42 l0 x13_1).f3), .string ((rd_T42 l0 x13_1).f4), .string ((rd_T42 l0 x13_1).f5), .string ((rd_T42 l0 x13_1).f6), .string ((rd_T42 l0 x13_1).f7), .slice A140_8 ((rd_T42 l0 x13_1).f8).length c140_8], .agg #[.int .i64 ((rd_T42 l1 x13_1).f0), .int .i64 ((rd_T42 l1 x13_1).f1), .int .i64 ((rd_T42 l1 x13_1).f2), .int .i64 ((rd_T42 l1 x13_1).f3), .string ((rd_T42 l1 x13_1).f4), .string ((rd_T42 l1 x13_1).f5), .string ((rd_T42 l1 x13_1).f6), .string ((rd_T42 l1 x13_1).f7), .slice A141_8 ((rd_T42 l1 x13_1).f8).length c141_8]] (by rfl) rfl rfl (by (try simp only [List.map_toArray, List.map_cons, List.map_nil]); first | done | rfl | (simp only [List.length_drop, List.length_take]; rfl)) ?_
                  with_reducible refine (tendrilplain_Op.calls k1 ((rd_T42 l0 x13_1).f0) ((rd_T42 l0 x13_1).f1) ((rd_T42 l0 x13_1).f2) ((rd_T42 l0 x13_1).f3) ((rd_T42 l0 x13_1).f4) ((rd_T42 l0 x13_1).f5) ((rd_T42 l0 x13_1).f6) ((rd_T42 l0 x13_1).f7) _ _ ((rd_T42 l0 x13_1).f8) ((rd_T42 l1 x13_1).f0) ((rd_T42 l1 x13_1).f1) ((rd_T42 l1 x13_1).f2) ((rd_T42 l1 x13_1).f3) ((rd_T42 l1 x13_1).f4) ((rd_T42 l1 x13_1).f5) ((rd_T42 l1 x13_1).f6) ((rd_T42 l1 x13_1).f7) _ _ ((rd_T42 l1 x13_1).f8) false _ ?side1 ?side2 ?side3 ?side4 ?side5 A8.out).mono ?_
                  (case side1 => first | exact HGL.out | exact (Go.Proofs.YtfpijjjmgggfkaaDoorX.GL.below HGL.out (by repeat (first | (with_reducible first | exact HB.out | apply below_alloc | apply pw_below_drewN | apply below_drew1) | exact HB.out))) | (repeat (first | exact HGL.out | (with_reducible refine Go.Proofs.YtfpijjjmgggfkaaDoorX.GL.drewN ?_ _) | (with_reducible refine Go.Proofs.YtfpijjjmgggfkaaDoorX.GL.drew ?_))))
                  (case side2 => repeat (first | exact (Kd.C_below HR140_8.out HB.out) | (with_reducible refine Kd.C_alloc ?_ _) | (with_reducible refine Kd.C_drewN ?_ _) | (with_reducible refine Kd.C_drew ?_)))
                  (case side3 => exact HC140_8.out)
                  (case side4 => repeat (first | exact (Kd.C_below HR141_8.out HB.out) | (with_reducible refine Kd.C_alloc ?_ _) | (with_reducible refine Kd.C_drewN ?_ _) | (with_reducible refine Kd.C_drew ?_)))
                  (case side5 => exact HC141_8.out)
                  rintro e w13 ⟨rfl, hb⟩
                  refine ⟨_, rfl, ?_⟩
                  have n0_ := Aside0.mk (below_step (by repeat (first | (with_reducible first | exact HB.out | apply below_alloc | apply pw_below_drewN | apply below_drew1) | exact HB.out)) hb)
                  clear HB
                  have HB := n0_
                  clear n0_
                  (try clear hb)
                  (try clear hb2)
                  (try clear hk)
                  (try clear hi)
                  refine hK.out _ _ ⟨((HB.out.cell (World.block_lt_of_cell? w _ hw140_0)).trans hw140_0), ((HB.out.cell (World.block_lt_of_cell? w _ hw140_1)).trans hw140_1), ((HB.out.cell (World.block_lt_of_cell? w _ hw140_2)).trans hw140_2), ((HB.out.cell (World.block_lt_of_cell? w _ hw140_3)).trans hw140_3), ((HB.out.cell (World.block_lt_of_cell? w _ hw140_4)).trans hw140_4), ((HB.out.cell (World.block_lt_of_cell? w _ hw140_5)).trans hw140_5), ((HB.out.cell (World.block_lt_of_cell? w _ hw140_6)).trans hw140_6), ((HB.out.cell (World.block_lt_of_cell? w _ hw140_7)).trans hw140_7), ((HB.out.cell (World.block_lt_of_cell? w _ hw140_8)).trans hw140_8), ((HB.out.cell (World.block_lt_of_cell? w _ hw141_0)).trans hw141_0), ((HB.out.cell (World.block_lt_of_cell? w _ hw141_1)).trans hw141_1), ((HB.out.cell (World.block_lt_of_cell? w _ hw141_2)).trans hw141_2), ((HB.out.cell (World.block_lt_of_cell? w _ hw141_3)).trans hw141_3), ((HB.out.cell (World.block_lt_of_cell? w _ hw141_4)).trans hw141_4), ((HB.out.cell (World.block_lt_of_cell? w _ hw141_5)).trans hw141_5), ((HB.out.cell (World.block_lt_of_cell? w _ hw141_6)).trans hw141_6), ((HB.out.cell (World.block_lt_of_cell? w _ hw141_7)).trans hw141_7), ((HB.out.cell (World.block_lt_of_cell? w _ hw141_8)).trans hw141_8)⟩ (fun hHeld => ?_)
                  clear hK K
                  refine norm_ (a' := ?_) ?_ ?_
                  rotate_left
                  · show Act.put _ (some 24) _ = _
                    simp only [Act.put, List.setIfInBounds_toArray, List.set_cons_zero, List.set_cons_succ, i64_w, i32_w]
                    rfl
                  refine pure_ (i := 9) (N := some 25) (v := ?_) (a' := ?_) #[true, true, true, true, true, true, true, true, true, true] rfl rfl (any_of HT_.out (by kernel_rfl)) (fun _ _ _ h => h) (Or.inl ⟨by rfl, ?_⟩) ?_ ?_
                  rotate_left
                  · intro w'
                    go_simp
                    with_reducible rfl
                  rotate_left
                  · simp only [Act.put, List.setIfInBounds_toArray, List.set_cons_zero, List.set_cons_succ, i64_w, i32_w]
                    rfl
                  refine done_ (done_of HT_.out (by kernel_rfl)) ?_
                  try go_wp2
                  go_ret
                  exact ⟨by first | rfl | (simp [errW_none, errW_some] <;> first | rfl | exact emp_bne _ | exact (emp_bne _).symm | exact emp_bne' _ | exact (emp_bne' _).symm) | (simp [*, errW_none, errW_some] <;> rfl), by repeat (first | (with_reducible first | exact HB.out | apply below_alloc | apply pw_below_drewN | apply below_drew1) | exact HB.out)⟩
              · rw [if_neg c7] at H
                exact absurd H (by simp)
            · rw [if_neg c6] at H
              exact absurd H (by simp)
          · rw [if_neg c5] at H
            exact absurd H (by simp)
        · rw [if_neg c4] at H
          have c4b0 : decide (x13_1 < (l0.length : Int)) = false := decide_eq_false c4
          clear c4
          obtain rfl := Option.some.inj H
          go_wp2
          go_ret
          exact ⟨by first | rfl | (simp [errW_none, errW_some] <;> first | rfl | exact emp_bne _ | exact (emp_bne _).symm | exact emp_bne' _ | exact (emp_bne' _).symm) | (simp [*, errW_none, errW_some] <;> rfl), by repeat (first | (with_reducible first | exact HB.out | apply below_alloc | apply pw_below_drewN | apply below_drew1) | exact HB.out)⟩
  · rw [if_neg c3] at H
    have c3b0 : ((l0.length : Int) == (l1.length : Int)) = false := beq_eq_false_iff_ne.mpr c3
    have c3b1 : ((l0.length : Int) != (l1.length : Int)) = true := bne_iff_ne.mpr c3
    have c3b2 : (l0.length == l1.length) = false := by first | simpa using c3 | (simp at c3 ⊢; omega)
    obtain rfl := Option.some.inj H
    go_enter Tryd.func13, Tryd.ntmps13
    go_wp2
    go_ret
    exact ⟨by first | rfl | (simp [errW_none, errW_some] <;> first | rfl | exact emp_bne _ | exact (emp_bne _).symm | exact emp_bne' _ | exact (emp_bne' _).symm) | (simp [*, errW_none, errW_some] <;> rfl), by repeat (first | (with_reducible first | exact HB.out | apply below_alloc | apply pw_below_drewN | apply below_drew1) | exact HB.out)⟩

mutual
def tendrilref01_Put.l0 : Nat → List Int → List Int → Int → Int → Option (List Int)
  | 0, _, _, _, _ => none
  | k + 1, x0, x3, x7, x8 => if x8 < x7 then (if 0 ≤ x8 then (if x8 < (x0.length : Int) then (tendrilref01_Put.l1 k x0 x3 (rd x0 x8) x7 x8) else (none)) else (none)) else (some x3)
def tendrilref01_Put.l1 : Nat → List Int → List Int → Int → Int → Int → Option (List Int)
  | 0, _, _, _, _, _ => none
  | k + 1, x0, x3, x5, x7, x8 => if x5 > 127 then (if x3.length < 140737488355328 then (tendrilref01_Put.l1 k x0 (x3 ++ [(IntKind.u64.wrap ((Int.tmod x5 128) + 128)) % 256]) (IntKind.u64.wrap (Int.tdiv x5 128)) x7 x8) else (none)) else (if x3.length < 140737488355328 then (tendrilref01_Put.l0 k x0 (x3 ++ [(x5) % 256]) x7 (wrap64 (x8 + 1))) else (none))
end
def tendrilref01_Put.f (k : Nat) (l0 : List Int) : Option (List Int) := tendrilref01_Put.l0 k l0 ([] : List Int) (l0.length : Int) 0
theorem tendrilref01_Put.mono_l : ∀ k, (∀ y0 y1 y2 y3, LeO (tendrilref01_Put.l0 k y0 y1 y2 y3) (tendrilref01_Put.l0 (k + 1) y0 y1 y2 y3)) ∧ (∀ y0 y1 y2 y3 y4, LeO (tendrilref01_Put.l1 k y0 y1 y2 y3 y4) (tendrilref01_Put.l1 (k + 1) y0 y1 y2 y3 y4))
  | 0 => ⟨fun _ _ _ _ r h => by simp [tendrilref01_Put.l0] at h, fun _ _ _ _ _ r h => by simp [tendrilref01_Put.l1] at h⟩
  | k + 1 => by
    obtain ⟨ih0, ih1⟩ := tendrilref01_Put.mono_l k
    refine ⟨?_, ?_⟩
    · intro y0 y1 y2 y3
      unfold tendrilref01_Put.l0
      repeat' first
      | (with_reducible exact ih0 _ _ _ _)
      | (with_reducible exact ih1 _ _ _ _ _)
      | (with_reducible exact LeO.refl _)
      | (with_reducible exact LeO.none _)
      | (with_reducible refine LeO.ite ?_ ?_)
      | (with_reducible refine LeO.bind ?_ (fun _ => ?_))
      | exact ih0 _ _ _ _
      | exact ih1 _ _ _ _ _
      | exact LeO.none _
      | refine LeO.ite ?_ ?_
      | refine LeO.bind ?_ (fun _ => ?_)
    · intro y0 y1 y2 y3 y4
      unfold tendrilref01_Put.l1
      repeat' first
      | (with_reducible exact ih0 _ _ _ _)
      | (with_reducible exact ih1 _ _ _ _ _)
      | (with_reducible exact LeO.refl _)
      | (with_reducible exact LeO.none _)
      | (with_reducible refine LeO.ite ?_ ?_)
      | (with_reducible refine LeO.bind ?_ (fun _ => ?_))
      | exact ih0 _ _ _ _
      | exact ih1 _ _ _ _ _
      | exact LeO.none _
      | refine LeO.ite ?_ ?_
      | refine LeO.bind ?_ (fun _ => ?_)
theorem tendrilref01_Put.mono : ∀ a0 k, LeO (tendrilref01_Put.f k a0) (tendrilref01_Put.f (k + 1) a0) := by
  intro a0 k
  obtain ⟨ih0, ih1⟩ := tendrilref01_Put.mono_l k
  unfold tendrilref01_Put.f
  repeat' first
      | (with_reducible exact ih0 _ _ _ _)
      | (with_reducible exact ih1 _ _ _ _ _)
      | (with_reducible exact LeO.refl _)
      | (with_reducible exact LeO.none _)
      | (with_reducible refine LeO.ite ?_ ?_)
      | (with_reducible refine LeO.bind ?_ (fun _ => ?_))
      | exact ih0 _ _ _ _
      | exact ih1 _ _ _ _ _
      | exact LeO.none _
      | refine LeO.ite ?_ ?_
      | refine LeO.bind ?_ (fun _ => ?_)
set_option maxHeartbeats 8000000 in
set_option maxRecDepth 100000 in
theorem tendrilref01_Put.calls (k : Nat) (A0 : Option Addr) (c0 : Nat) (l0 : List Int) (r : List Int) (w : World) (hgl : Go.Proofs.YtfpijjjmgggfkaaDoorX.GL w) (hr0 : Kd.C (Kd.int .u64) w A0 l0.length l0) (hc0 : l0.length ≤ c0) (h : tendrilref01_Put.f k l0 = some r) :
    Calls Tryd.prog 62 #[.slice A0 l0.length c0] w fun e w' => ∃ v0_ : Value, e = .returned (v0_) ∧ Kd.R (Kd.int .u8) 5 w' w.heap.size (fun _ => True) v0_ r ∧ Below w.heap.size w w' := by
  have HR0 := Aside0.mk hr0
  have HC0 := Aside0.mk hc0
  clear hr0 hc0
  have HGL := Aside0.mk hgl
  clear hgl
  have HB := Aside0.mk (Below.refl w.heap.size w)
  have H : (tendrilref01_Put.l0 k l0 ([] : List Int) (l0.length : Int) 0) = some r := h
  clear h
  have H' := Aside0.mk H
  clear H
  go_enter Tryd.func62, Tryd.ntmps62
  go_wp2
  go_loopg [3, 8] k (fun kq v3 v8 w' => ∃ (x3_1 : List Int) (x8_1 : Int), v8 = .int .i64 x8_1 ∧ Aside0 (tendrilref01_Put.l0 kq l0 x3_1 (l0.length : Int) x8_1 = some r) ∧ Aside0 (kq ≤ k) ∧ Aside0 (Kd.R (Kd.int .u8) 5 w' w.heap.size (fun _ => True) v3 x3_1) ∧ Aside0 (Below w.heap.size w w'))
  case atStart => exact ⟨(([] : List Int)), (0), (by first | rfl | (simp; done) | (simp [*]; done)), H', ⟨Nat.le_refl _⟩, ⟨by first | exact Kd.R_nil _ _ _ _ _ | exact Kd.N_nil _ _ _ _ _ | exact Kd.V_nil _ _ _ _ _ | exact Kd.Q_nil _ _ _ _ _ | exact Kd.S_nil _ _ _ _ _⟩, ⟨by repeat (first | (with_reducible first | exact HB.out | apply below_alloc | apply pw_below_drewN | apply below_drew1) | exact HB.out)⟩⟩
  case round =>
    clear H'
    obtain ⟨x3_1, x8_1, rfl, HA, HK1, HO_3, HB⟩ := hrel
    cases gk with
    | zero => exact absurd HA.out (by simp [tendrilref01_Put.l0])
    | succ k1 =>
      have H := HA.out
      clear HA
      simp only [tendrilref01_Put.l0] at H
      by_cases c2 : x8_1 < (l0.length : Int)
      · rw [if_pos c2] at H
        have c2b0 : decide (x8_1 < (l0.length : Int)) = true := decide_eq_true c2
        clear c2
        by_cases c3 : 0 ≤ x8_1
        · rw [if_pos c3] at H
          have c3b0 : decide (0 ≤ x8_1) = true := decide_eq_true c3
          clear c3
          by_cases c4 : x8_1 < (l0.length : Int)
          · rw [if_pos c4] at H
            have c4b0 : decide (x8_1 < (l0.length : Int)) = true := decide_eq_true c4
            clear c4
            have H' := Aside0.mk H
            clear H
            have p143 : 0 ≤ (x8_1 : Int) := of_decide_eq_true (by first | (with_reducible assumption) | assumption)
            have q143 : x8_1 < (l0.length : Int) := of_decide_eq_true (by first | (with_reducible assumption) | assumption)
            obtain ⟨ad143, e143, hx143_0⟩ := Kd.at_int HR0.out x8_1 p143 q143
            cases e143
            replace hx143_0 := (HB.out.cell (World.block_lt_of_cell? w _ hx143_0)).trans hx143_0
            replace p143 := eq_true p143
            replace q143 := eq_true q143
            go_wp2
            go_loopg [3, 5] k1 (fun kq v3 v5 w' => ∃ (x3_2 : List Int) (x5_2 : Int), v5 = .int .u64 x5_2 ∧ Aside0 (tendrilref01_Put.l1 kq l0 x3_2 x5_2 (l0.length : Int) x8_1 = some r) ∧ Aside0 (kq ≤ k1) ∧ Aside0 (Kd.R (Kd.int .u8) 5 w' w.heap.size (fun _ => True) v3 x3_2) ∧ Aside0 (Below w.heap.size w w'))
            case atStart => exact ⟨(x3_1), (rd l0 x8_1), (by first | rfl | (simp; done) | (simp [*]; done)), H', ⟨Nat.le_refl _⟩, ⟨by (with_reducible repeat (first | apply Kd.R_alloc | apply Kd.R_drewN | apply Kd.R_drew)); exact HO_3.out⟩, ⟨by repeat (first | (with_reducible first | exact HB.out | apply below_alloc | apply pw_below_drewN | apply below_drew1) | exact HB.out)⟩⟩
            case round =>
              clear H'
              try clear p1
              try clear q1
              try clear hx1
              try clear c2
              try clear c2b0
              try clear p2
              try clear c3
              try clear c3b0
              try clear c4
              try clear c4b0
              try clear hx143_0
              try clear p143
              try clear q143
              obtain ⟨x3_2, x5_2, rfl, HA, HK2, HO_3, HB⟩ := hrel
              cases gk with
              | zero => exact absurd HA.out (by simp [tendrilref01_Put.l1])
              | succ k2 =>
                have H := HA.out
                clear HA
                simp only [tendrilref01_Put.l1] at H
                by_cases c5 : x5_2 > 127
                · rw [if_pos c5] at H
                  have c5b0 : decide (127 < x5_2) = true := decide_eq_true c5
                  clear c5
                  by_cases c6 : x3_2.length < 140737488355328
                  · rw [if_pos c6] at H
                    have LMc6 := Aside0.mk c6
                    clear c6
                    obtain ⟨y144, hy144⟩ : ∃ y_ : List Int, y_ = (x3_2 ++ [(IntKind.u64.wrap ((Int.tmod x5_2 128) + 128)) % 256]) := ⟨_, rfl⟩
                    replace H : (tendrilref01_Put.l1 k2 l0 y144 (IntKind.u64.wrap (Int.tdiv x5_2 128)) (l0.length : Int) x8_1) = some r := by first | (rw [hy144]; with_reducible exact H) | (have H2_ := (Option.bind_some _ _).symm.trans H; rw [hy144]; with_reducible exact H2_) | (have H2_ := (Option.bind_some _ _).symm.trans H; with_reducible exact H2_) | with_reducible exact H | (rw [hy144]; exact H) | exact H
                    have Ny144 := Aside0.mk hy144
                    clear hy144
                    have H' := Aside0.mk H
                    clear H
                    go_wp2_with (first | ((with_reducible refine gate_builtin (b := .append) (xs := #[.tmp 17, .tmp 22]) rfl ?_); at_builtin; refine Kd.R_append (Kd.int .u8) (w0 := w) w.heap.size rfl (.tmp 17) (.tmp 22) 25 5 (.int .u8 0) 1 rfl Tryd.underlying25 info5 rfl (by decide) (by omega) u3 x3_2 ((IntKind.u64.wrap ((Int.tmod x5_2 128) + 128)) % 256) [.int .u8 ((IntKind.u64.wrap ((Int.tmod x5_2 128) + 128)) % 256)] (fun _ => True) (fun _ => False) rfl rfl ?aP (fun _ hk => hk.elim) ?aF ?aO ?aB ?aS ?aL ?_; (case aP => exact rfl); (case aB => exact (by repeat (first | (with_reducible first | exact HB.out | apply below_alloc | apply pw_below_drewN | apply below_drew1) | exact HB.out))); (case aF => exact (fun _ _ => trivial)); (case aO => exact (by (with_reducible repeat (first | apply Kd.R_alloc | apply Kd.R_drewN | apply Kd.R_drew)); exact HO_3.out)); (case aS => exact (below_size (by repeat (first | (with_reducible first | exact HB.out | apply below_alloc | apply pw_below_drewN | apply below_drew1) | exact HB.out)))); (case aL => have := LMc6.out; omega); intro v145 w7 ho hb hg hat; rw [← Ny144.out] at ho; have n0_ := Aside0.mk (hb); have n1_ := Aside0.mk (ho); clear HB; clear HO_3; have HB := n0_; have HO146 := n1_; clear n0_ n1_; clear ho hb hg hat))
                    go_roundg k2
                    case measure => have := HK1.out; have := HK2.out; omega
                    case rel => exact ⟨(y144), (IntKind.u64.wrap (Int.tdiv x5_2 128)), (by first | rfl | (simp; done) | (simp [*]; done)), H', ⟨by have := HK1.out; have := HK2.out; omega⟩, ⟨by (with_reducible repeat (first | apply Kd.R_alloc | apply Kd.R_drewN | apply Kd.R_drew)); exact HO146.out⟩, ⟨by repeat (first | (with_reducible first | exact HB.out | apply below_alloc | apply pw_below_drewN | apply below_drew1) | exact HB.out)⟩⟩
                  · rw [if_neg c6] at H
                    exact absurd H (by simp)
                · rw [if_neg c5] at H
                  have c5b0 : decide (127 < x5_2) = false := decide_eq_false c5
                  clear c5
                  by_cases c8 : x3_2.length < 140737488355328
                  · rw [if_pos c8] at H
                    have LMc8 := Aside0.mk c8
                    clear c8
                    obtain ⟨y147, hy147⟩ : ∃ y_ : List Int, y_ = (x3_2 ++ [(x5_2) % 256]) := ⟨_, rfl⟩
                    replace H : (tendrilref01_Put.l0 k2 l0 y147 (l0.length : Int) (wrap64 (x8_1 + 1))) = some r := by first | (rw [hy147]; with_reducible exact H) | (have H2_ := (Option.bind_some _ _).symm.trans H; rw [hy147]; with_reducible exact H2_) | (have H2_ := (Option.bind_some _ _).symm.trans H; with_reducible exact H2_) | with_reducible exact H | (rw [hy147]; exact H) | exact H
                    have Ny147 := Aside0.mk hy147
                    clear hy147
                    have H' := Aside0.mk H
                    clear H
                    go_wp2_with (first | ((with_reducible refine gate_builtin (b := .append) (xs := #[.tmp 26, .tmp 29]) rfl ?_); at_builtin; refine Kd.R_append (Kd.int .u8) (w0 := w) w.heap.size rfl (.tmp 26) (.tmp 29) 25 5 (.int .u8 0) 1 rfl Tryd.underlying25 info5 rfl (by decide) (by omega) u3 x3_2 ((x5_2) % 256) [.int .u8 ((x5_2) % 256)] (fun _ => True) (fun _ => False) rfl rfl ?aP (fun _ hk => hk.elim) ?aF ?aO ?aB ?aS ?aL ?_; (case aP => exact rfl); (case aB => exact (by repeat (first | (with_reducible first | exact HB.out | apply below_alloc | apply pw_below_drewN | apply below_drew1) | exact HB.out))); (case aF => exact (fun _ _ => trivial)); (case aO => exact (by (with_reducible repeat (first | apply Kd.R_alloc | apply Kd.R_drewN | apply Kd.R_drew)); exact HO_3.out)); (case aS => exact (below_size (by repeat (first | (with_reducible first | exact HB.out | apply below_alloc | apply pw_below_drewN | apply below_drew1) | exact HB.out)))); (case aL => have := LMc8.out; omega); intro v148 w9 ho hb hg hat; rw [← Ny147.out] at ho; have n0_ := Aside0.mk (hb); have n1_ := Aside0.mk (ho); clear HB; clear HO_3; have HB := n0_; have HO149 := n1_; clear n0_ n1_; clear ho hb hg hat))
                    go_roundg k2
                    case measure => have := HK1.out; have := HK2.out; omega
                    case rel => exact ⟨(y147), (wrap64 (x8_1 + 1)), (by first | rfl | (simp; done) | (simp [*]; done)), H', ⟨by have := HK1.out; have := HK2.out; omega⟩, ⟨by (with_reducible repeat (first | apply Kd.R_alloc | apply Kd.R_drewN | apply Kd.R_drew)); exact HO149.out⟩, ⟨by repeat (first | (with_reducible first | exact HB.out | apply below_alloc | apply pw_below_drewN | apply below_drew1) | exact HB.out)⟩⟩
                  · rw [if_neg c8] at H
                    exact absurd H (by simp)
          · rw [if_neg c4] at H
            exact absurd H (by simp)
        · rw [if_neg c3] at H
          exact absurd H (by simp)
      · rw [if_neg c2] at H
        have c2b0 : decide (x8_1 < (l0.length : Int)) = false := decide_eq_false c2
        clear c2
        obtain rfl := Option.some.inj H
        go_wp2
        go_ret
        exact ⟨_, by first | rfl | (simp [errW_none, errW_some] <;> first | rfl | exact emp_bne _ | exact (emp_bne _).symm | exact emp_bne' _ | exact (emp_bne' _).symm) | (simp [*, errW_none, errW_some] <;> rfl), by (with_reducible repeat (first | apply Kd.R_alloc | apply Kd.R_drewN | apply Kd.R_drew)); exact HO_3.out, by repeat (first | (with_reducible first | exact HB.out | apply below_alloc | apply pw_below_drewN | apply below_drew1) | exact HB.out)⟩

end Go.Proofs.YtfpijjjmgggfkaaDoor.P26
