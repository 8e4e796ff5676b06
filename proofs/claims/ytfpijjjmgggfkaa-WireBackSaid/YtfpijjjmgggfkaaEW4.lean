/- wire: the writer's texts. -/
import Derived.Test.YtfpijjjmgggfkaaEW3
namespace Go.Proofs.YtfpijjjmgggfkaaE
open Go Go.RowKit Go.Proofs.YtfpijjjmgggfkaaW.PrintWords Go.Proofs.YtfpijjjmgggfkaaW.PrintMore Go.Proofs.Ytfpijjjmgggfkaa.P01 Go.Proofs.Ytfpijjjmgggfkaa.L01
set_option linter.unusedVariables false
def bytesI (s : ByteArray) : List Int := s.data.toList.map (fun b => (b.toNat : Int))
theorem bytesI_len (s : ByteArray) : (bytesI s).length = s.size := by unfold bytesI; rw [List.length_map, Array.length_toList]; rfl
theorem bytesI_bytes (s : ByteArray) : Bytes (bytesI s) := by
  intro x hx
  obtain ⟨b, -, rfl⟩ := List.mem_map.1 hx
  have := b.toNat_lt
  omega
def encT (s : ByteArray) : List Int := enc s.size ++ bytesI s
def encTs (l : List ByteArray) : List Int := l.flatMap encT
theorem encTs_take {l : List ByteArray} {k : Nat} (hk : k < l.length) : encTs (l.take (k + 1)) = encTs (l.take k) ++ encT l[k] := by
  unfold encTs
  rw [List.take_succ_eq_append_getElem hk, List.flatMap_append]
  simp only [List.flatMap_cons, List.flatMap_nil, List.append_nil]
theorem encTs_le {l : List ByteArray} (k : Nat) : (encTs (l.take k)).length ≤ (encTs l).length := by
  conv => rhs; rw [← List.take_append_drop k l]
  unfold encTs
  rw [List.flatMap_append, List.length_append]
  omega
/-- []byte(s): what the new row shows. -/
theorem conv_C (w : World) (s : ByteArray) (hs : s.size ≤ 9223372036854775807) : Kd.C (Kd.int .u8) (Lib.bytesWorld w 5 s) (some ⟨w.heap.size, 0, none⟩) (bytesI s).length (bytesI s) := by
  refine ⟨rfl, by rw [bytesI_len]; exact hs, fun _ => ⟨_, rfl, ?_⟩⟩
  intro j x hx
  have hj : j < s.size := by
    have := (List.getElem?_eq_some_iff.1 hx).1
    rw [bytesI_len] at this
    exact this
  refine ⟨[.int .u8 x], rfl, rfl, ?_⟩
  intro i u hu
  match i, hu with
  | 0, hu =>
    simp at hu
    subst hu
    show (Lib.bytesWorld w 5 s).cell? ((⟨w.heap.size, 0, none⟩ : Addr).add (j * 1 + 0)) = _
    rw [add_plain, Nat.mul_one, Nat.add_zero, Lib.bytesWorld_cell w _ s j hj]
    congr 2
    unfold bytesI at hx
    rw [List.getElem?_map] at hx
    obtain ⟨b, hb, rfl⟩ := Option.map_eq_some_iff.1 hx
    rw [List.getD_eq_getElem?_getD, hb]
    rfl
theorem one_nums (n : Nat) (hn : n < 18446744073709551616) : Nums [(n : Int)] := by
  intro x hx
  simp at hx
  subst hx
  omega
theorem encs_nat (n : Nat) : encs [(n : Int)] = enc n := by rw [encs_one]; rfl
theorem But.hat {w w1 w2 : World} {g : Nat} {v v' : Value} (h : But (fun k => k = g ∨ some k = v.ownBlock) w w1) (k : But (fun k => k = g ∨ some k = v'.ownBlock) w1 w2) (hh : Go.Proofs.YtfpijjjmgggfkaaE.hat w v v') : But (fun k => k = g ∨ some k = v.ownBlock) w w2 := by
  refine h.trans k ?_
  rintro j (rfl | e)
  · exact .inl (.inl rfl)
  · rcases hh with hh | ⟨b, hb, hle⟩
    · exact .inl (.inr (e.trans hh))
    · rw [hb] at e
      injection e with e
      exact .inr (by omega)
theorem put_m (B g : Nat) (v : Value) (bs xs : List Int) (m : Nat) (hm : xs.length = m) (A : Option Addr) (c : Nat) (w : World) (hB : B ≤ g) (hBw : B ≤ w.heap.size) (hg : w.heap[g]? = some (.cells #[v] 76 (0, 0))) (HR : own8 B v bs w) (hC : Kd.C (Kd.int .u8) w A xs.length xs) (hlen : bs.length + xs.length ≤ 140737488355328) :
    Calls Try.prog 36 #[.pointer (some ⟨g, 0, none⟩), .slice A m c] w fun e w' => e = .returned (.tuple #[]) ∧ ∃ v', w'.heap[g]? = some (.cells #[v'] 76 (0, 0)) ∧ own8 B v' (bs ++ xs) w' ∧ But (fun k => k = g ∨ some k = v.ownBlock) w w' ∧ hat w v v' := by
  subst hm
  exact put_c B g v bs xs A c w hB hBw hg HR hC hlen
theorem box_C {W : World} {b : Nat} {n : Int} (h : W.cell? ⟨b, 0, none⟩ = some (.int .u64 n)) : Kd.C (Kd.int .u64) W (some ⟨b, 0, none⟩) [n].length [n] := by
  refine ⟨rfl, by show 1 ≤ _; omega, fun _ => ⟨_, rfl, ?_⟩⟩
  intro j x hx
  match j, hx with
  | 0, hx =>
    simp at hx
    subst hx
    refine ⟨[.int .u64 n], rfl, rfl, ?_⟩
    intro i u hu
    match i, hu with
    | 0, hu =>
      simp at hu
      subst hu
      show W.cell? ((⟨b, 0, none⟩ : Addr).add (0 * 1 + 0)) = _
      rw [add_plain]
      exact h
set_option maxHeartbeats 1000000 in
theorem w_text (B p g : Nat) (v : Value) (bs : List Int) (l : List ByteArray) (ad : Addr) (c : Nat) (w : World) (hBw : B ≤ w.heap.size) (h : AtW B p g v bs w) (hF : Kd.F Kd.string w (fun k => k ≠ g ∧ some k ≠ v.ownBlock) (some ad) l.length l) (hc : l.length ≤ c) (hmax : l.length ≤ 9223372036854775807) (hlen : bs.length + (encTs l).length ≤ 140737488355328) :
    Calls Try.prog 20 #[.pointer (some ⟨p, 0, none⟩), .slice (some ad) l.length c] w fun e w' => e = .returned (.tuple #[]) ∧ StepW B p g v (bs ++ encTs l) w w' := by
  have H := Aside0.mk h
  have HF := Aside0.mk hF
  have hp := h.2.2.1
  clear h hF
  go_enter Try.func20, Try.ntmps20
  go_wp2_with fail
  refine (ready_c p g w hp).mono ?_
  rintro e w1 ⟨rfl, rfl⟩
  go_wp2_with fail
  go_loopw [5, 11] (fun _ i wr => ∃ (k : Nat) (v' : Value), k ≤ l.length ∧ i = .int .i64 k ∧ AtW B p g v' (bs ++ encTs (l.take k)) wr ∧ But (fun b => b = g ∨ some b = v.ownBlock) w1 wr ∧ hat w1 v v') (fun _ i _ => l.length - (intOf i).toNat)
  case atStart => exact ⟨0, v, Nat.zero_le _, rfl, by simpa [encTs] using H.out, But.refl _ _, .inl rfl⟩
  case round =>
    obtain ⟨k, v', hk, rfl, hW, hb, hh⟩ := hrel
    have c0 : wr.cell? ⟨p, 0, none⟩ = some (.pointer (some ⟨g, 0, none⟩)) := by rw [Lib.cell_of_heap hW.2.2.1]; rfl
    have HW := Aside0.mk hW
    have HB := Aside0.mk hb
    have HH := Aside0.mk hh
    clear hW hb hh
    have hcell : (k : Int) < l.length → wr.cell? (ad.add k) = some (.string (l.getD k ⟨#[]⟩)) := by
      intro hlt
      have hC := Kd.F_now (Kd.F_step HF.out (fun b hb hbl => HB.out.block b hbl (fun h => h.elim hb.1 hb.2)))
      obtain ⟨ad', hA, hcs⟩ := hC.2.2 (by omega)
      injection hA with hA
      subst hA
      obtain ⟨cs, -, rfl, hcc⟩ := hcs k _ (List.getElem?_eq_getElem (by omega))
      have := hcc 0 _ rfl
      rw [show k * Kd.string.sz + 0 = k by show k * 1 + 0 = k; omega] at this
      rw [this, List.getD_eq_getElem?_getD, List.getElem?_eq_getElem (by omega)]
      rfl
    obtain ⟨s, hsd⟩ : ∃ s, s = l.getD k ⟨#[]⟩ := ⟨_, rfl⟩
    rw [← hsd] at hcell
    have hsz : (k : Int) < l.length → bs.length + (encTs (l.take k)).length + (enc s.size ++ bytesI s).length ≤ 140737488355328 := by
      intro hlt
      have h1 := encTs_le (l := l) (k + 1)
      rw [encTs_take (show k < l.length by omega), List.length_append] at h1
      rw [List.getD_eq_getElem?_getD, List.getElem?_eq_getElem (show k < l.length by omega)] at hsd
      simp only [Option.getD_some] at hsd
      rw [← hsd] at h1
      unfold encT at h1
      omega
    have hs63 : s.size ≤ 140737488355328 := by
      by_cases hlt : k < l.length
      · have := hsz (by omega)
        rw [List.length_append, bytesI_len] at this
        omega
      · rw [hsd, List.getD_eq_getElem?_getD, List.getElem?_eq_none (by omega)]
        show 0 ≤ _
        omega
    have HSZ := Aside0.mk hsz
    have HSD := Aside0.mk hsd
    have HMAX := Aside0.mk hlen
    clear hsz hsd hlen
    go_wp2_with fail
    · have hlt : k < l.length := by assumption
      have hz := HSZ.out (by omega)
      rw [List.length_append] at hz
      have HZ := Aside0.mk hz
      clear hz
      have hpl : p < wr.heap.size := blk_lt' HW.out.2.2.1
      have e0 : ∀ o, (wr.alloc o).cell? ⟨p, 0, none⟩ = some (.pointer (some ⟨g, 0, none⟩)) := fun o => pw_cell_below (below_alloc (Below.refl _ _) o) c0
      have hw : IntKind.u64.wrap (s.size : Int) = (s.size : Int) := wu64 (by omega) (by omega)
      go_region_with (first
        | (go_at_call 11
           go_loud (
           refine (oput_c [(s.size : Int)] (some _) 1 _ ?_ (Nat.le_refl _) (one_nums _ (by omega)) (by show 1 ≤ _; omega)).mono ?_
           · exact box_C (by go_simp)
           rintro e w2 ⟨A', c', rfl, hC', hb⟩
           have HW2 := Aside0.mk (AtW.below (AtW.below HW.out (by repeat (first | exact Below.refl _ _ | apply below_alloc | apply below_drew1))) hb)
           have HC' := Aside0.mk hC'
           have HB2 := Aside0.mk (below_then (show Below wr.heap.size wr _ by repeat (first | exact Below.refl _ _ | apply below_alloc | apply below_drew1)) (below_size (show Below wr.heap.size wr _ by repeat (first | exact Below.refl _ _ | apply below_alloc | apply below_drew1))) hb)
           have d0 : w2.cell? ⟨p, 0, none⟩ = some (.pointer (some ⟨g, 0, none⟩)) := by rw [Lib.cell_of_heap HW2.out.2.2.1]; rfl
           clear hC' hb))
        | (go_at_call 36
           go_loud (
           refine (put_c B g v' (bs ++ encTs (l.take k)) (encs [(s.size : Int)]) _ _ _ HW2.out.2.1 ?_ HW2.out.2.2.2.1 HW2.out.2.2.2.2 HC'.out ?_).mono ?_
           · exact Nat.le_trans hBw (Nat.le_trans HB.out.size HB2.out.size)
           · rw [encs_nat, List.length_append]; have := HZ.out; omega
           rintro e w3 ⟨rfl, v2, hg3, hR3, hb3, hh3⟩
           have HX := Aside0.mk (And.intro (AtW.put HW2.out hg3 hR3 hb3) (And.intro hb3 hh3))
           clear hg3 hR3 hb3 hh3)))
      all_goals
        have d3 : w3.cell? ⟨p, 0, none⟩ = some (.pointer (some ⟨g, 0, none⟩)) := by rw [Lib.cell_of_heap HX.out.1.2.2.1]; rfl
        go_wp2_with fail
        rw [Lib.run_convert_string_bytes w3 _ _ 5 s Try.underlying9 Try.underlying22 Try.underlying5]
        simp only [Result.andThen]
        rw [Oper.upon_value]
        have B3 := Aside0.mk (bytes_below (Below.refl _ w3) (Nat.le_refl _) 5 s)
        have HW4 := Aside0.mk (AtW.below HX.out.1 B3.out)
        go_wp2_with fail
        refine (put_m B g v2 _ (bytesI s) s.size (bytesI_len s) _ _ _ HW4.out.2.1 ?_ HW4.out.2.2.2.1 HW4.out.2.2.2.2 (conv_C w3 s (by omega)) ?_).mono ?_
        · exact Nat.le_trans hBw (Nat.le_trans HB.out.size (Nat.le_trans HB2.out.size (Nat.le_trans HX.out.2.1.size B3.out.size)))
        · rw [encs_nat, List.length_append, List.length_append]; have := HZ.out; omega
        rintro e w5 ⟨rfl, v5, hg5, hR5, hb5, hh5⟩
        have HY := Aside0.mk (And.intro (AtW.put HW4.out hg5 hR5 hb5) (And.intro hb5 hh5))
        clear hg5 hR5 hb5 hh5
        go_wp2_with fail
        have h2 := hat_trans HH.out (hat_up HX.out.2.2 HB2.out.size) HB.out.size
        have b1 := (HB.out.below HB2.out).hat HX.out.2.1 HH.out
        have b2 := (b1.below B3.out).hat HY.out.2.1 h2
        have h3 := hat_trans h2 (hat_up HY.out.2.2 B3.out.size) b1.size
        have HE := Aside0.mk (And.intro b2 h3)
        clear h2 b1 b2 h3
        go_roundw
        case rel =>
          refine ⟨k + 1, v5, by omega, by go_num, ?_, HE.out.1, HE.out.2⟩
          have := HY.out.1
          rw [encs_nat] at this
          rw [encTs_take hlt]
          have hs := HSD.out
          rw [List.getD_eq_getElem?_getD, List.getElem?_eq_getElem hlt] at hs
          simp only [Option.getD_some] at hs
          rw [← hs]
          unfold encT
          simp only [List.append_assoc] at this ⊢
          exact this
        case measure => simp [intOf]; omega
    · have hge : ¬ k < l.length := by assumption
      obtain rfl : k = l.length := by omega
      have := HW.out
      rw [List.take_length] at this
      have HT := Aside0.mk this
      clear this
      go_end0
      exact ⟨rfl, v', HT.out, HB.out, HH.out⟩
end Go.Proofs.YtfpijjjmgggfkaaE
