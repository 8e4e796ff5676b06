/- Contracts of our own: strings.IndexRune of a rune that is no ASCII, in an ASCII text: -1. -/
import Derived.Test.YtpanmmpkdbhofaaDoorE5
import Derived.Laws.RangeAny
import Derived.Laws.RangeString
import Derived.WalkMore
import Derived.Deep.QuietTactic
import Derived.BigQuiet
import Derived.Deep.LoopGhost
import Derived.Lib.IndexAny
namespace Go.Proofs.YtpanmmpkdbhofaaDoorE
open Go Go.RowKit Go.Proofs.YtpanmmpkdbhofaaDoorW.PrintWords Go.Proofs.YtpanmmpkdbhofaaDoorX
set_option linter.unusedVariables false
def Ascii (s : ByteArray) : Prop := ∀ (j : Nat) b, s.data.toList[j]? = some b → b.toNat < 128
theorem Ascii.at {s : ByteArray} (h : Ascii s) (i : Nat) (hi : i < s.size) : (s[i]'hi).toNat < 128 := h i _ (Lib.data_getElem? s i hi)
theorem iter_below (w : World) (s : ByteArray) (i : Nat) : Below w.heap.size w (w.iter s i) := below_alloc (Below.refl _ _) _
theorem ext_data (s : ByteArray) (i j : Nat) : (s.extract i j).data.toList = (s.data.toList.take j).drop i := by
  rw [ByteArray.data_extract, Array.toList_extract, List.extract_eq_take_drop, List.drop_take]
theorem ib_none (s : ByteArray) (k c : Nat) (hs : Ascii s) (hc : 128 ≤ c) (hc2 : c < 256) (w : World) :
    Calls Tryd.prog 71 #[.string (s.extract k s.size), .int .u8 c] w fun e w' => e = .returned (.int .i64 (-1)) ∧ w' = w := by
  have hz : Lib.indexByte (s.extract k s.size).data.toList ((c : Int).toNat.toUInt8) = -1 := by
    have h1 := Lib.contains_iff_indexByte (s.extract k s.size).data.toList ((c : Int).toNat.toUInt8)
    have h2 := Lib.indexByte_ge (s.extract k s.size).data.toList ((c : Int).toNat.toUInt8)
    have h3 : (s.extract k s.size).data.toList.contains ((c : Int).toNat.toUInt8) = false := by
      rw [Bool.eq_false_iff]
      intro h
      rw [List.contains_iff_mem, ext_data] at h
      have h := List.mem_of_mem_take (List.mem_of_mem_drop h)
      obtain ⟨j, hj, e⟩ := List.getElem_of_mem h
      have := hs j _ (by rw [List.getElem?_eq_getElem hj, e])
      simp at this
      omega
    rw [h3] at h1
    have h4 := of_decide_eq_false h1.symm
    omega
  have := Tryd.strings_IndexByte (s.extract k s.size) c w
  rw [hz] at this
  exact this
theorem enc_shape (r : Int) (h : 128 ≤ r) : ∃ (c : Nat) (l : List UInt8), 1 ≤ l.length ∧ l.length ≤ 3 ∧ Utf8.encode r = ⟨(l ++ [UInt8.ofNat (128 + c % 64)]).toArray⟩ := by
  unfold Utf8.encode
  simp only
  generalize hcc : (if Utf8.valid r then r.toNat else Utf8.runeError) = c
  have hc : 128 ≤ c := by
    rw [← hcc]
    split
    · omega
    · decide
  rw [if_neg (by omega)]
  by_cases h1 : c < 0x800
  · rw [if_pos h1]
    exact ⟨c, [UInt8.ofNat (0xC0 + c / 64)], by simp, by simp, rfl⟩
  · rw [if_neg h1]
    by_cases h2 : c < 0x10000
    · rw [if_pos h2]
      exact ⟨c, [UInt8.ofNat (0xE0 + c / 4096), UInt8.ofNat (0x80 + c / 64 % 64)], by simp, by simp, rfl⟩
    · rw [if_neg h2]
      exact ⟨c, [UInt8.ofNat (0xF0 + c / 262144), UInt8.ofNat (0x80 + c / 4096 % 64), UInt8.ofNat (0x80 + c / 64 % 64)], by simp, by simp, rfl⟩
/-- The last byte of what a rune past ASCII is written as. -/
theorem enc_last (r : Int) (h : 128 ≤ r) : ∃ n : Nat, (Utf8.encode r).size = n + 1 ∧ 1 ≤ n ∧ n ≤ 3 ∧ ∀ hn : n < (Utf8.encode r).size, 128 ≤ ((Utf8.encode r)[n]'hn).toNat := by
  obtain ⟨c, l, h1, h3, he⟩ := enc_shape r h
  rw [he]
  refine ⟨l.length, ?_, h1, h3, fun hn => ?_⟩
  · show (l ++ [UInt8.ofNat (128 + c % 64)]).toArray.size = _
    simp
  · have : (⟨(l ++ [UInt8.ofNat (128 + c % 64)]).toArray⟩ : ByteArray)[l.length]'hn = UInt8.ofNat (128 + c % 64) := by
      show (l ++ [UInt8.ofNat (128 + c % 64)]).toArray[l.length]'_ = _
      simp
    rw [this]
    simp
    omega
set_option maxHeartbeats 2000000 in
set_option maxRecDepth 100000 in
theorem indexRune_hi (s : ByteArray) (r : Int) (w : World) (h0 : 128 ≤ r) (h1 : r ≤ 2147483647) (hs : Ascii s) (hsz : s.size ≤ 1000) :
    Calls Tryd.prog 77 #[.string s, .int .i32 r] w fun e w' => e = .returned (.int .i64 (-1)) ∧ Below w.heap.size w w' := by
  have HS := Aside0.mk hs
  clear hs
  by_cases he : r = 65533
  · subst he
    go_enter Tryd.func77, Tryd.ntmps77
    go_wp2_with fail
    go_loopg [5, 6] s.size (fun g _ _ wx => ∃ i : Nat, i + g = s.size ∧ wx = w.iter s i)
    case atStart => exact ⟨0, by omega, rfl⟩
    case round =>
      obtain ⟨i, hig, rfl⟩ := hrel
      cases gk with
      | zero =>
        obtain rfl : i = s.size := by omega
        have hnx := fun ty => run_next_end (P := Tryd.prog) w s s.size ty (by omega)
        go_wp2_with fail
        go_ret
        exact ⟨rfl, iter_below _ _ _⟩
      | succ g =>
        have hi : i < s.size := by omega
        have hx128 := HS.out.at i hi
        have hnx := fun ty => run_next_ascii (P := Tryd.prog) w s i ty hi hx128
        have hx := hx128
        generalize (s[i]'hi).toNat = x at hnx hx
        have hne : (((x : Nat) : Int) == 65533) = false := by rw [beq_eq_false_iff_ne]; omega
        clear hx128
        go_wp2_with fail
        go_roundg g
        case measure => omega
        case rel => exact ⟨i + 1, by omega, rfl⟩
  · have hb : (r == 65533) = false := by simpa using he
    go_enter Tryd.func77, Tryd.ntmps77
    go_wp2_with fail
    refine (Tryd.utf8_ValidRune r w).mono ?_
    rintro e w1 ⟨rfl, rfl⟩
    by_cases hv : Lib.validRune r = true
    · rw [hv]
      go_wp2_with fail
      obtain ⟨n, hn, hn1, hn3, hge⟩ := enc_last r h0
      have hwr : wrap64 (((Utf8.encode r).size : Int) - 1) = (n : Int) := by unfold wrap64; omega
      have hnn : n < (Utf8.encode r).size := by omega
      have hge := hge hnn
      clear hv
      go_step3
      go_wp2_with fail
      clear hwr
      go_loopw [9] (fun i wr => i = .int .i64 n ∧ wr = w1) (fun _ _ => 0)
      case atStart => exact ⟨rfl, rfl⟩
      case round =>
        obtain ⟨rfl, rfl⟩ := hrel
        by_cases hlt : n < s.size
        · have hx := HS.out.at n hlt
          go_wp2_with fail
          have hlz : (n : Int) < s.size := by omega
          have hmz : (n : Int) < (Utf8.encode r).size := by omega
          have hne : (((s[n]'hlt).toNat : Int) == (((Utf8.encode r)[n]'hnn).toNat : Int)) = false := by rw [beq_eq_false_iff_ne]; omega
          clear hn
          go_step3
          go_wp2_with fail
          go_quiet (fail)
          go_wp2_with fail
          have HQ0 := Aside0.mk (pw_below_drewN (Below.refl wr.heap.size wr) nq)
          generalize wr.drewN nq = wq at HQ0 ⊢
          have hwn : IntKind.i64.wrap ((n : Int) + 1) = (n : Int) + 1 := by simp [IntKind.wrap, IntKind.bits, IntKind.signed]; omega
          have hp0 : (0 : Int) ≤ (n : Int) + 1 := by omega
          have hp1 : (n : Int) + 1 ≤ (s.size : Int) := by omega
          have hp2 : ((n : Int) + 1).toNat = n + 1 := by omega
          go_quiet (first
            | (go_at_call 71; go_loud (refine Calls.quiet_of_same (ib_none s (n + 1) _ HS.out hge (UInt8.toNat_lt _) _))))
          clear hwn hp0 hp1 hp2
          go_wp2_with fail
          simp +zetaDelta only [Exit.noGoto_ret, Exit.inBlock, Exit.then]
          go_ret
          exact ⟨rfl, pw_below_drewN HQ0.out _⟩
        · go_wp2_with fail
          rw [Exit.noGoto_ret]
          go_ret
          exact ⟨rfl, Below.refl _ _⟩
    · rw [show Lib.validRune r = false by simpa using hv]
      go_wp2_with fail
      go_ret
      exact ⟨rfl, Below.refl _ _⟩
/-- A rune past ASCII is written in bytes past ASCII. -/
theorem decode_bytes (s : ByteArray) (pos : Nat) (h : pos < s.size) (ha : 128 ≤ (s[pos]'h).toNat) : pos + (Utf8.decode s pos).2 ≤ s.size ∧ ∀ j, j < (Utf8.decode s pos).2 → ∀ hj : pos + j < s.size, 128 ≤ (s[pos + j]'hj).toNat := by
  have hg : ∀ k, (hk : pos + k < s.size) → s.get! (pos + k) = s[pos + k]'hk := fun k hk => by
    simp [ByteArray.get!, getElem!_pos, hk]
    rfl
  have hn : ¬ (s.get! (pos + 0)).toNat < 128 := by rw [hg 0 h]; exact Nat.not_lt.2 ha
  have key : ∀ n, (∀ k, 1 ≤ k → k < n → pos + k < s.size ∧ 128 ≤ (s.get! (pos + k)).toNat) → 1 ≤ n → pos + n ≤ s.size ∧ ∀ j, j < n → ∀ hj : pos + j < s.size, 128 ≤ (s[pos + j]'hj).toNat := by
    intro n hk h1
    refine ⟨?_, ?_⟩
    · by_cases h2 : n = 1
      · omega
      · have := (hk (n - 1) (by omega) (by omega)).1; omega
    · intro j hj hjs
      by_cases hj0 : j = 0
      · subst hj0; exact ha
      · have := (hk j (by omega) hj).2
        rw [hg j hjs] at this
        exact this
  unfold Utf8.decode
  simp only [hn, if_false]
  split
  · rename_i hc
    simp only [Bool.and_eq_true, decide_eq_true_eq, beq_iff_eq] at hc
    split
    · exact key 2 (fun k h1 h2 => by obtain rfl : k = 1 := by omega
                                     exact ⟨hc.2.1, by omega⟩) (by omega)
    · exact key 1 (fun k h1 h2 => by omega) (by omega)
  · split
    · rename_i hc
      simp only [Bool.and_eq_true, decide_eq_true_eq, beq_iff_eq] at hc
      split
      · refine key 3 (fun k h1 h2 => ?_) (by omega)
        rcases (by omega : k = 1 ∨ k = 2) with rfl | rfl
        · exact ⟨hc.1.2.1, by omega⟩
        · exact ⟨hc.2.1, by omega⟩
      · exact key 1 (fun k h1 h2 => by omega) (by omega)
    · split
      · rename_i hc
        simp only [Bool.and_eq_true, decide_eq_true_eq, beq_iff_eq] at hc
        split
        · refine key 4 (fun k h1 h2 => ?_) (by omega)
          rcases (by omega : k = 1 ∨ k = 2 ∨ k = 3) with rfl | rfl | rfl
          · exact ⟨hc.1.1.2.1, by omega⟩
          · exact ⟨hc.1.2.1, by omega⟩
          · exact ⟨hc.2.1, by omega⟩
        · exact key 1 (fun k h1 h2 => by omega) (by omega)
      · exact key 1 (fun k h1 h2 => by omega) (by omega)
end Go.Proofs.YtpanmmpkdbhofaaDoorE
