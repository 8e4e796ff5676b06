/- Contracts of our own: escape.Unescape. -/
import Derived.Test.YtpanmmpkdbhofaaDoorL03
namespace Go.Proofs.YtpanmmpkdbhofaaDoorE
open Go Go.RowKit Go.Proofs.YtpanmmpkdbhofaaDoor.P03r Go.Proofs.YtpanmmpkdbhofaaDoor.L03 Go.Proofs.YtpanmmpkdbhofaaDoorW.PrintWords Go.Proofs.YtpanmmpkdbhofaaDoorX
set_option linter.unusedVariables false
/-- The next byte of a written text, and how much of the text it takes; 0: refused. -/
def stepU : List UInt8 → UInt8 × Nat
  | [] => (0, 0)
  | c :: t => if c.toNat = 38 then ((refS (c :: t)).1.toNat.toUInt8, (refS (c :: t)).2.toNat) else if formL c.toNat = [] then (c, 1) else (c, 0)
def unS (l : List UInt8) (pos : Nat) (out : List UInt8) : List UInt8 × Int × Int :=
  match l with
  | [] => (out, 0, 0)
  | c :: t => if (stepU (c :: t)).2 = 0 then ([], (pos : Int), 2) else unS ((c :: t).drop (stepU (c :: t)).2) (pos + (stepU (c :: t)).2) (out ++ [(stepU (c :: t)).1])
termination_by l.length
decreasing_by simp; omega
theorem unS_nil (pos : Nat) (out : List UInt8) : unS [] pos out = (out, 0, 0) := by rw [unS]
theorem unS_cons (l : List UInt8) (h : l ≠ []) (pos : Nat) (out : List UInt8) : unS l pos out = if (stepU l).2 = 0 then ([], (pos : Int), 2) else unS (l.drop (stepU l).2) (pos + (stepU l).2) (out ++ [(stepU l).1]) := by
  obtain ⟨c, t, rfl⟩ := List.exists_cons_of_ne_nil h
  rw [unS]
theorem refS_range (l : List UInt8) : 0 ≤ (refS l).1 ∧ (refS l).1 ≤ 255 ∧ 0 ≤ (refS l).2 ∧ (refS l).2 ≤ l.length := by
  unfold refS
  split
  · rename_i c hc
    have h1 := List.find?_some hc
    have h2 := List.mem_of_find?_eq_some hc
    have h3 : c ≤ 255 := by
      have := List.mem_of_mem_take h2
      simp [signs] at this
      omega
    have h4 : (formL c).length ≤ l.length := (List.isPrefixOf_iff_prefix.1 h1).length_le
    simp only
    omega
  · split
    · rename_i hp
      have hix := index_num _ hp
      unfold numS
      split
      · simp only; omega
      · split
        · split
          · simp only; omega
          · simp only; omega
        · simp only; omega
    · simp only; omega
def escape_Unescape.f (a0 : ByteArray) : Option (ByteArray × Int × Int) := if a0.size ≤ 1000000000000 then some (⟨(unS a0.data.toList 0 []).1.toArray⟩, (unS a0.data.toList 0 []).2.1, (unS a0.data.toList 0 []).2.2) else none
theorem ref_any (s : ByteArray) (hs : s.size ≤ 1000000000000) (w : World) (hgl : GL w) :
    Calls Tryd.prog 57 #[.string s] w fun e w' => e = .returned (.tuple #[.int .u8 (refS s.data.toList).1, .int .i64 (refS s.data.toList).2]) ∧ Below w.heap.size w w' :=
  escape_reference.calls (0 + 5) s _ _ w hgl (reference_f s hs 0)
set_option maxHeartbeats 1000000 in
theorem escape_Unescape.calls (a0 : ByteArray) (r1 : ByteArray) (r2 r3 : Int) (w : World) (hgl : GL w) (h : escape_Unescape.f a0 = some (r1, r2, r3)) :
    Calls Tryd.prog 30 #[.string a0] w fun e w' => e = .returned (.tuple #[.string r1, .int .i64 r2, .int .i64 r3]) ∧ Below w.heap.size w w' := by
  unfold escape_Unescape.f at h
  by_cases hr : a0.size ≤ 1000000000000
  rotate_left
  · rw [if_neg hr] at h; cases h
  rw [if_pos hr] at h
  simp only [Option.some.injEq, Prod.mk.injEq] at h
  obtain ⟨rfl, rfl, rfl⟩ := h
  have HGL := Aside0.mk hgl
  have HR := Aside0.mk hr
  clear hr hgl
  have H0 := Aside0.mk (Lib.IsBuilderF.of (Lib.fresh_isBuilder 77 5 w))
  have HB0 := Aside0.mk ((Below.refl w.heap.size w).alloc (Nat.le_refl _) (.cells #[.pointer none, .slice none 0 0] 77))
  go_enter Tryd.func30, Tryd.ntmps30
  go_wp2_with fail
  go_loopw [6] (fun i wr => ∃ (k : Nat) (out : List UInt8), k ≤ a0.size ∧ i = .int .i64 k ∧ Lib.IsBuilderF 77 5 w.heap.size w.heap.size (Lib.byteCells out) wr ∧ Below w.heap.size w wr ∧ out.length ≤ k ∧ unS (a0.data.toList.drop k) k out = unS a0.data.toList 0 []) (fun i _ => a0.size - (intOf i).toNat)
  case atStart => exact ⟨0, [], Nat.zero_le _, rfl, H0.out, HB0.out, Nat.le_refl _, rfl⟩
  case round =>
    obtain ⟨k, out, hk, rfl, hib, hbl, hol, hun⟩ := hrel
    have HI := Aside0.mk hib
    have HBL := Aside0.mk hbl
    have HO := Aside0.mk hol
    have HU := Aside0.mk hun
    have hr := HR.out
    clear hib hbl hol hun
    go_wp2_with fail
    · have hlt : k < a0.size := by assumption
      have h38 : ((a0[k].toNat : Int) == 38) = true := by assumption
      have hne : a0.data.toList.drop k ≠ [] := by
        intro h; have := congrArg List.length h; rw [List.length_drop, dlen, List.length_nil] at this; omega
      have hcx : a0[k] = a0.data.toList[k]'(by rw [dlen]; exact hlt) := by simp [ByteArray.getElem_eq_getElem_data]
      have hst : stepU (a0.data.toList.drop k) = ((refS (a0.data.toList.drop k)).1.toNat.toUInt8, (refS (a0.data.toList.drop k)).2.toNat) := by
        rw [List.drop_eq_getElem_cons (by rw [dlen]; exact hlt)]
        simp only [stepU]
        rw [if_pos (by rw [← hcx]; rw [beq_iff_eq] at h38; omega)]
      have hun := HU.out
      rw [unS_cons _ hne, hst] at hun
      have hrr := refS_range (a0.data.toList.drop k)
      have HC := ref_any (a0.extract k a0.size)
      have hxs := dlen (a0.extract k a0.size)
      have hx : (a0.extract k a0.size).data.toList = a0.data.toList.drop k := by
        rw [ext_list, List.take_of_length_le (by rw [List.length_drop, dlen]; omega)]
      rw [hx, List.length_drop, dlen] at hxs
      rw [hx] at HC
      rw [List.length_drop, dlen] at hrr
      generalize refS (a0.data.toList.drop k) = rr at hun hrr HC
      obtain ⟨b, n⟩ := rr
      obtain ⟨b0, b1, n0, n1⟩ := hrr
      simp only at hun b0 b1 n0 n1 HC
      obtain ⟨b, rfl⟩ := Int.eq_ofNat_of_zero_le b0
      obtain ⟨n, rfl⟩ := Int.eq_ofNat_of_zero_le n0
      have HUN := Aside0.mk hun
      refine (HC (by omega) wr (HGL.out.below HBL.out)).mono ?_
      rintro e w1 ⟨rfl, hb⟩
      have HB1 := Aside0.mk hb
      clear hb hun hst hx hxs HC
      have hsz : w.heap.size ≤ w1.heap.size := Nat.le_trans HBL.out.size HB1.out.size
      have IB1 := Aside0.mk (b_below HI.out HB1.out)
      have BB1 := Aside0.mk (below_step HBL.out HB1.out)
      go_wp2_with fail
      · have hn : ((n : Int) == 0) = true := by assumption
        have hu := HUN.out
        rw [if_pos (by rw [beq_iff_eq] at hn; simpa using hn)] at hu
        go_ret3
        refine ⟨?_, BB1.out⟩
        rw [← hu]
        rfl
      · have hn : ((n : Int) == 0) = false := by assumption
        have hn2 : n ≠ 0 := by rw [beq_eq_false_iff_ne] at hn; omega
        have hu := HUN.out
        rw [if_neg (by simpa using hn2)] at hu
        have HU2 := Aside0.mk hu
        clear hu HUN
        have hb8 : ((b : Int).toNat.toUInt8).toNat = b := by simp; omega
        rw [show (b : Int) = (((b : Int).toNat.toUInt8).toNat : Int) by rw [hb8]]
        refine (b_byte w.heap.size w.heap.size out ((b : Int).toNat.toUInt8) w1 IB1.out (by have := HO.out; have := HR.out; omega) hsz).mono ?_
        rintro e w2 ⟨rfl, hib2, hb2, -⟩
        have H2 := Aside0.mk hib2
        have B2 := Aside0.mk (BB1.out.trans hb2)
        clear hib2 hb2
        have hno : (k : Int) + n ≤ 1000000000000 := by omega
        go_wp2_with fail
        go_roundw
        case rel =>
          refine ⟨k + n, out ++ [(b : Int).toNat.toUInt8], by omega, by go_num, H2.out, B2.out, by have := HO.out; rw [List.length_append, List.length_singleton]; omega, ?_⟩
          have := HU2.out
          rw [List.drop_drop] at this
          exact this
        case measure => simp [intOf]; omega
    · have hlt : k < a0.size := by assumption
      have h38 : ((a0[k].toNat : Int) == 38) = false := by assumption
      have hne : a0.data.toList.drop k ≠ [] := by
        intro h; have := congrArg List.length h; rw [List.length_drop, dlen, List.length_nil] at this; omega
      have hcx : a0[k] = a0.data.toList[k]'(by rw [dlen]; exact hlt) := by simp [ByteArray.getElem_eq_getElem_data]
      have hst : stepU (a0.data.toList.drop k) = if formL a0[k].toNat = [] then (a0[k], 1) else (a0[k], 0) := by
        rw [List.drop_eq_getElem_cons (by rw [dlen]; exact hlt)]
        simp only [stepU]
        rw [if_neg (by rw [← hcx]; rw [beq_eq_false_iff_ne] at h38; omega), ← hcx]
      have hun := HU.out
      rw [unS_cons _ hne, hst] at hun
      clear hst hcx h38
      have HUN := Aside0.mk hun
      clear hun
      generalize hck : a0[k] = c at HUN ⊢
      have HK := Aside0.mk hck
      clear hck
      have hc := UInt8.toNat_lt c
      refine (escape_form.calls _ _ wr (HGL.out.below HBL.out) (form_f c.toNat (by omega))).mono ?_
      rintro e w1 ⟨rfl, hb⟩
      have HB1 := Aside0.mk hb
      clear hb
      have hsz : w.heap.size ≤ w1.heap.size := Nat.le_trans HBL.out.size HB1.out.size
      have IB1 := Aside0.mk (b_below HI.out HB1.out)
      have BB1 := Aside0.mk (below_step HBL.out HB1.out)
      go_wp2_with fail
      · have hh : (!(formL c.toNat).isEmpty) = true := by assumption
        have hf0 : ¬ formL c.toNat = [] := by simpa using hh
        have hu := HUN.out
        first
          | rw [HK.out, if_neg hf0, if_pos rfl] at hu
          | rw [if_neg hf0, if_pos rfl] at hu
        go_ret3
        refine ⟨?_, BB1.out⟩
        rw [← hu]
        rfl
      · have hh : (!(formL c.toNat).isEmpty) = false := by assumption
        have hf0 : formL c.toNat = [] := by simpa using hh
        have hu := HUN.out
        first
          | rw [HK.out, if_pos hf0, if_neg (show ¬ (1 : Nat) = 0 by decide)] at hu
          | rw [if_pos hf0, if_neg (show ¬ (1 : Nat) = 0 by decide)] at hu
        have HU2 := Aside0.mk hu
        clear hu HUN hf0
        refine (b_byte w.heap.size w.heap.size out c w1 IB1.out (by have := HO.out; have := HR.out; omega) hsz).mono ?_
        rintro e w2 ⟨rfl, hib2, hb2, -⟩
        have H2 := Aside0.mk hib2
        have B2 := Aside0.mk (BB1.out.trans hb2)
        clear hib2 hb2
        go_wp2_with fail
        go_roundw
        case rel =>
          refine ⟨k + 1, out ++ [c], by omega, by go_num, H2.out, B2.out, by have := HO.out; rw [List.length_append, List.length_singleton]; omega, ?_⟩
          have := HU2.out
          rw [List.drop_drop] at this
          exact this
        case measure => simp [intOf]; omega
    · have hge : ¬ k < a0.size := by assumption
      have hu := HU.out
      rw [List.drop_eq_nil_of_le (by rw [dlen]; omega), unS_nil] at hu
      refine (Tryd.Builder_String_any_f w.heap.size w.heap.size _ wr HI.out HBL.out.size).mono ?_
      rintro e w1 ⟨rfl, -, hb⟩
      have HB1 := Aside0.mk (HBL.out.trans hb)
      clear hb
      go_wp2_with fail
      go_ret3
      refine ⟨?_, HB1.out⟩
      rw [← hu]
      rfl
end Go.Proofs.YtpanmmpkdbhofaaDoorE
