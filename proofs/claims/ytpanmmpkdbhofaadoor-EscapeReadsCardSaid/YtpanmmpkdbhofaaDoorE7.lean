/- Contracts of our own: strings.IndexAny, whatever the text, for ASCII signs. -/
import Derived.Test.YtpanmmpkdbhofaaDoorE6
import Derived.Lib.OthersKept
import Derived.Deep.WholeRow
namespace Go.Proofs.YtpanmmpkdbhofaaDoorE
open Go Go.RowKit Go.Proofs.YtpanmmpkdbhofaaDoorW.PrintWords Go.Proofs.YtpanmmpkdbhofaaDoorX
set_option linter.unusedVariables false
theorem iterAt_below {w wx : World} {k : Nat} {s : ByteArray} {p : Nat} (h : Below k w wx) : Below k w (wx.iterAt k s p) :=
  ⟨h.os, h.tape, h.output, by simpa [World.iterAt] using h.size, fun j hj => by
    rw [← h.block j hj]
    simp [World.iterAt, show ¬ k = j by omega]⟩
theorem noAny_skip {s chars : ByteArray} {i n : Nat} (h : Lib.NoAny s.data.toList chars.data.toList i) (hac : Ascii chars) (hn : ∀ j, j < n → ∀ hj : i + j < s.size, 128 ≤ (s[i + j]'hj).toNat) : Lib.NoAny s.data.toList chars.data.toList (i + n) := by
  intro j b hj hb
  by_cases hji : j < i
  · exact h j b hji hb
  · have hlt : j < s.size := by
      have := (List.getElem?_eq_some_iff.1 hb).1
      rw [Array.length_toList] at this
      exact this
    have h1 := hn (j - i) (by omega) (by omega)
    have h2 : s[i + (j - i)]'(by omega) = b := by
      have := Lib.data_getElem? s j hlt
      rw [hb] at this
      injection this with this
      rw [this]
      congr 1
      omega
    rw [h2] at h1
    rw [Bool.eq_false_iff]
    intro hc
    rw [List.contains_iff_mem] at hc
    obtain ⟨q, hq, e⟩ := List.getElem_of_mem hc
    have := hac q b (by rw [List.getElem?_eq_getElem hq, e])
    omega
set_option maxHeartbeats 2000000 in
theorem indexAny_short_any (s chars : ByteArray) (w : World) (h2 : 2 ≤ chars.size) (hcs : chars.size ≤ 1000) (h8 : s.size ≤ 8) (hac : Ascii chars) :
    Calls Tryd.prog 64 #[.string s, .string chars] w fun e w' => e = .returned (.int .i64 (Lib.indexAny s.data.toList chars.data.toList)) ∧ Below w.heap.size w w' := by
  have HA := Aside0.mk hac
  clear hac
  have hemp : chars.toList.isEmpty = false := by
    rw [Lib.toList_data]
    cases h : chars.data.toList with
    | nil => have := Lib.size_eq chars; rw [h, List.length_nil] at this; omega
    | cons _ _ => rfl
  have hn1 : ((chars.size : Int) == 1) = false := beq_eq_false_iff_ne.2 (by omega)
  have h8z : decide ((8 : Int) < (s.size : Int)) = false := decide_eq_false (by omega)
  go_enter Tryd.func64, Tryd.ntmps64
  go_wp2_with fail
  refine (Tryd.strings_shouldUseASCIISet _ _).mono ?_
  rintro e w1 ⟨rfl, rfl⟩
  rw [h8z]
  go_wp2_with fail
  obtain ⟨k0, hk0⟩ : ∃ k, k = w1.heap.size := ⟨_, rfl⟩
  rw [← hk0]
  have H0 := Aside0.mk (show (w1.iter s 0).heap[k0]? = some (.stringIter s 0) by rw [hk0]; exact World.iter_heap w1 s 0)
  have HB0 := Aside0.mk (show Below k0 w1 (w1.iter s 0) by rw [hk0]; exact iter_below w1 s 0)
  have HK0 := Aside0.mk hk0
  clear hk0
  go_loopg [9, 10] s.size (fun g _ _ wx => ∃ i : Nat, i + g = s.size ∧ wx.heap[k0]? = some (.stringIter s i) ∧ Below k0 w1 wx ∧ Lib.NoAny s.data.toList chars.data.toList i)
  case atStart => exact ⟨0, by omega, H0.out, HB0.out, Lib.NoAny.zero _ _⟩
  case round =>
    obtain ⟨i, hig, hit, hb, hno⟩ := hrel
    clear H0 HB0
    have HN := Aside0.mk hno
    have HB := Aside0.mk hb
    have HI := Aside0.mk hit
    clear hno hb hit
    by_cases hi : i < s.size
    · by_cases hx : (s[i]'hi).toNat < 128
      · have hnx := fun ty => Lib.run_next_ascii_at (P := Tryd.prog) wr k0 s i ty HI.out hi hx
        have Hx := Aside0.mk (Lib.data_getElem? s i hi)
        generalize hxx : s[i]'hi = x at hnx hx Hx
        clear hxx
        have hcon := Lib.contains_iff_indexByte chars.data.toList x
        have hback : ((x.toNat : Int)).toNat.toUInt8 = x := by simp
        cases hin : chars.data.toList.contains x
        · rw [hin] at hcon
          have hlt : ¬ ((0 : Int) ≤ Lib.indexByte chars.data.toList x) := of_decide_eq_false hcon.symm
          clear hcon
          go_wp2_with fail
          refine (Tryd.strings_IndexRune_ascii chars (x.toNat : Int) _ (by omega) (by omega)).mono ?_
          rintro e w2 ⟨rfl, rfl⟩
          rw [hback]
          go_wp2_with fail
          go_roundg (s.size - (i + 1))
          case measure => omega
          case rel => exact ⟨i + 1, by omega, Lib.iterAt_heap _ _ _ _ _ HI.out, iterAt_below HB.out, HN.out.succ Hx.out hin⟩
        · rw [hin] at hcon
          have hge : (0 : Int) ≤ Lib.indexByte chars.data.toList x := of_decide_eq_true hcon.symm
          clear hcon
          go_wp2_with fail
          refine (Tryd.strings_IndexRune_ascii chars (x.toNat : Int) _ (by omega) (by omega)).mono ?_
          rintro e w2 ⟨rfl, rfl⟩
          rw [hback]
          go_wp2_with fail
          go_ret
          exact ⟨by rw [Lib.indexAny_hit HN.out Hx.out hin]; rfl, HK0.out ▸ iterAt_below HB.out⟩
      · have hx2 : 128 ≤ (s[i]'hi).toNat := by omega
        have hdb := decode_bytes s i hi hx2
        have hdh := decode_high s i hi hx2
        have hrl := decode_le s i
        have hnx := fun ty => Lib.run_next_any_at (P := Tryd.prog) wr k0 s i ty HI.out hi
        generalize Utf8.decode s i = d at hdb hdh hnx hrl
        obtain ⟨r, n⟩ := d
        simp only at hdb hdh hnx hrl
        have HD := Aside0.mk hdb
        obtain ⟨hd1, -⟩ := hdb
        go_wp2_with fail
        refine (indexRune_hi chars (r : Int) _ (by omega) (by omega) HA.out hcs).mono ?_
        rintro e w2 ⟨rfl, hb2⟩
        have HB2 := Aside0.mk hb2
        clear hb2
        go_wp2_with fail
        go_roundg (s.size - (i + n))
        case measure => omega
        case rel =>
          have hk1 := Lib.iterAt_heap wr k0 s i (i + n) HI.out
          have hlt : k0 < (wr.iterAt k0 s (i + n)).heap.size := by
            rcases Nat.lt_or_ge k0 (wr.iterAt k0 s (i + n)).heap.size with h' | h'
            · exact h'
            · simp [Array.getElem?_eq_none h'] at hk1
          exact ⟨i + n, by omega, (HB2.out.block k0 hlt).trans hk1, (iterAt_below HB.out).trans (HB2.out.mono (by omega)), noAny_skip HN.out HA.out HD.out.2⟩
    · obtain rfl : i = s.size := by omega
      have hnx := fun ty => Lib.run_next_end_at (P := Tryd.prog) wr k0 s s.size ty HI.out (by omega)
      go_wp2_with fail
      go_ret
      exact ⟨by rw [Lib.indexAny_none (by rw [← Lib.size_eq]; exact HN.out)]; rfl, HK0.out ▸ HB.out⟩
theorem indexAny_any (s chars : ByteArray) (w : World) (h2 : 2 ≤ chars.size) (hcs : chars.size ≤ 1000) (hs : s.size < 4294967281) (hac : Ascii chars) :
    Calls Tryd.prog 64 #[.string s, .string chars] w fun e w' => e = .returned (.int .i64 (Lib.indexAny s.data.toList chars.data.toList)) ∧ Below w.heap.size w w' := by
  by_cases h8 : s.size ≤ 8
  · exact indexAny_short_any s chars w h2 hcs h8 hac
  · refine (Tryd.strings_IndexAny_long (Go.zero_of_info (P := Tryd.prog) (n := 256) (by kernel_rfl)).1 s chars w h2 (by omega) hs (by omega) hac).mono ?_
    rintro e w' ⟨he, rfl⟩
    exact ⟨he, below_alloc (below_alloc (Below.refl _ _) _) _⟩
def strings_IndexAny.f (a0 a1 : ByteArray) : Option Int := if a0.size < 4294967281 ∧ 2 ≤ a1.size ∧ a1.size ≤ 1000 ∧ (a1.data.toList.all fun b => decide (b.toNat < 128)) = true then some (Lib.indexAny a0.data.toList a1.data.toList) else none
theorem strings_IndexAny.calls (a0 a1 : ByteArray) (r : Int) (w : World) (hgl : GL w) (h : strings_IndexAny.f a0 a1 = some r) :
    Calls Tryd.prog 64 #[.string a0, .string a1] w fun e w' => e = .returned (.int .i64 r) ∧ Below w.heap.size w w' := by
  unfold strings_IndexAny.f at h
  split at h
  · rename_i hc
    injection h with h
    subst h
    refine indexAny_any a0 a1 w hc.2.1 hc.2.2.1 hc.1 (fun j b hj => ?_)
    have := List.all_eq_true.1 hc.2.2.2 b (List.mem_of_getElem? hj)
    simpa using this
  · cases h
end Go.Proofs.YtpanmmpkdbhofaaDoorE
