/- Contracts of our own: escape.Escape. -/
import Derived.Test.YtpanmmpkdbhofaaDoorE2
import Derived.Test.YtpanmmpkdbhofaaDoorEB
import Derived.LoopTactic
namespace Go.Proofs.YtpanmmpkdbhofaaDoorE
open Go Go.RowKit Go.Proofs.YtpanmmpkdbhofaaDoorW.PrintWords Go.Proofs.YtpanmmpkdbhofaaDoorX
set_option linter.unusedVariables false
/-- What a byte is written as, itself if it has no form. -/
def escB (c : UInt8) : List UInt8 := if formL c.toNat = [] then [c] else formL c.toNat
def escS (l : List UInt8) : List UInt8 := l.flatMap escB
theorem escB_len (c : UInt8) : (escB c).length ≤ 6 := by
  unfold escB
  split
  · simp
  · exact formL_len _
theorem escS_len : ∀ l : List UInt8, (escS l).length ≤ 6 * l.length
  | [] => by simp [escS]
  | c :: t => by
    have h := escS_len t
    have h2 := escB_len c
    unfold escS at h ⊢
    rw [List.flatMap_cons, List.length_append, List.length_cons]; omega
theorem escS_snoc (l : List UInt8) (c : UInt8) : escS (l ++ [c]) = escS l ++ escB c := by simp [escS]
theorem escS_take (s : ByteArray) (k : Nat) (h : k < s.data.toList.length) : escS (s.data.toList.take (k + 1)) = escS (s.data.toList.take k) ++ escB s.data.toList[k] := by
  rw [List.take_succ_eq_append_getElem h, escS_snoc]
theorem escS_take_len (s : ByteArray) (k : Nat) : (escS (s.data.toList.take k)).length ≤ 6 * k := by
  have h := escS_len (s.data.toList.take k)
  have h2 : (s.data.toList.take k).length ≤ k := by rw [List.length_take]; omega
  omega
def escape_Escape.f (a0 : ByteArray) : Option ByteArray := if a0.size ≤ 1000000000000 then some ⟨(escS a0.data.toList).toArray⟩ else none
set_option maxHeartbeats 1000000 in
theorem escape_Escape.calls (a0 : ByteArray) (r : ByteArray) (w : World) (hgl : GL w) (h : escape_Escape.f a0 = some r) :
    Calls Tryd.prog 31 #[.string a0] w fun e w' => e = .returned (.string r) ∧ Below w.heap.size w w' := by
  unfold escape_Escape.f at h
  by_cases hr : a0.size ≤ 1000000000000
  rotate_left
  · rw [if_neg hr] at h; cases h
  rw [if_pos hr] at h
  injection h with h
  subst h
  have HGL := Aside0.mk hgl
  have HR := Aside0.mk hr
  clear hr hgl
  have H0 := Aside0.mk (Lib.IsBuilderF.of (Lib.fresh_isBuilder 77 5 w))
  have HB0 := Aside0.mk ((Below.refl w.heap.size w).alloc (Nat.le_refl _) (.cells #[.pointer none, .slice none 0 0] 77))
  go_enter Tryd.func31, Tryd.ntmps31
  go_wp2_with fail
  go_loopw [8] (fun i wr => ∃ k : Nat, k ≤ a0.size ∧ i = .int .i64 k ∧ Lib.IsBuilderF 77 5 w.heap.size w.heap.size (Lib.byteCells (escS (a0.data.toList.take k))) wr ∧ Below w.heap.size w wr) (fun i _ => a0.size - (intOf i).toNat)
  case atStart => exact ⟨0, Nat.zero_le _, rfl, H0.out, HB0.out⟩
  case round =>
    obtain ⟨k, hk, rfl, hib, hbl⟩ := hrel
    have HI := Aside0.mk hib
    have HBL := Aside0.mk hbl
    have hr := HR.out
    clear hib hbl
    go_wp2_with fail
    · have hlt : k < a0.size := by assumption
      have hcx : a0[k] = a0.data.toList[k]'(by simpa using hlt) := by simp [ByteArray.getElem_eq_getElem_data]
      have HT := Aside0.mk (escS_take a0 k (by simpa using hlt))
      rw [← hcx] at HT
      generalize hck : a0[k] = c at HT ⊢
      have hc := UInt8.toNat_lt c
      have hf : escape_form.f (c.toNat : Int) = some ⟨(formL c.toNat).toArray⟩ := by
        unfold escape_form.f
        rw [if_pos (by omega), Int.toNat_natCast]
      refine (escape_form.calls _ _ wr (HGL.out.below HBL.out) hf).mono ?_
      rintro e w1 ⟨rfl, hb⟩
      have HB1 := Aside0.mk hb
      clear hb hf hcx
      have HK := Aside0.mk hck
      clear hck
      have LN := Aside0.mk (escS_take_len a0 k)
      have LF := Aside0.mk (formL_len c.toNat)
      have hsz : w.heap.size ≤ w1.heap.size := Nat.le_trans HBL.out.size HB1.out.size
      have IB1 := Aside0.mk (b_below HI.out HB1.out)
      have BB1 := Aside0.mk (below_step HBL.out HB1.out)
      go_wp2_with fail
      · refine (b_string w.heap.size w.heap.size _ ⟨(formL c.toNat).toArray⟩ w1 IB1.out (by have := LN.out; have := LF.out; have := HR.out; simp [ByteArray.size]; omega) hsz).mono ?_
        rintro e w2 ⟨rfl, hib2, hb2, -⟩
        have H2 := Aside0.mk hib2
        have B2 := Aside0.mk (BB1.out.trans hb2)
        clear hib2 hb2
        go_wp2_with fail
        go_roundw
        case rel =>
          refine ⟨k + 1, by omega, by go_num, ?_, B2.out⟩
          have hh : (!(formL c.toNat).isEmpty) = true := by assumption
          have hne : ¬ formL c.toNat = [] := by simpa using hh
          have e1 : escB c = formL c.toNat := by unfold escB; rw [if_neg hne]
          have := H2.out
          rw [HT.out, e1]
          exact this
        case measure => simp [intOf]; omega
      · rw [HK.out]
        refine (b_byte w.heap.size w.heap.size _ c w1 IB1.out (by have := LN.out; have := HR.out; omega) hsz).mono ?_
        rintro e w2 ⟨rfl, hib2, hb2, -⟩
        have H2 := Aside0.mk hib2
        have B2 := Aside0.mk (BB1.out.trans hb2)
        clear hib2 hb2
        go_wp2_with fail
        go_roundw
        case rel =>
          refine ⟨k + 1, by omega, by go_num, ?_, B2.out⟩
          have hh : (!(formL c.toNat).isEmpty) = false := by assumption
          have hne : formL c.toNat = [] := by simpa using hh
          have e1 : escB c = [c] := by unfold escB; rw [if_pos hne]
          have := H2.out
          rw [HT.out, e1]
          exact this
        case measure => simp [intOf]; omega
    · have hge : ¬ k < a0.size := by assumption
      have hta : a0.data.toList.take k = a0.data.toList := List.take_of_length_le (by simpa using hge)
      have HI2 := Aside0.mk (hta ▸ HI.out)
      refine (Tryd.Builder_String_any_f w.heap.size w.heap.size _ wr HI2.out HBL.out.size).mono ?_
      rintro e w1 ⟨rfl, -, hb⟩
      have HB1 := Aside0.mk (HBL.out.trans hb)
      clear hb
      go_wp2_with fail
      go_ret
      exact ⟨rfl, HB1.out⟩
end Go.Proofs.YtpanmmpkdbhofaaDoorE
