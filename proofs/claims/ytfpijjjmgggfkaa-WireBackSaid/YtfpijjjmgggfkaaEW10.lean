/- wire: the reference's bytes of a number and of a text; what a reader makes of them. -/
import Derived.Test.YtfpijjjmgggfkaaEW6
namespace Go.Proofs.YtfpijjjmgggfkaaE
open Go Go.RowKit Go.Proofs.YtfpijjjmgggfkaaW.PrintWords Go.Proofs.YtfpijjjmgggfkaaW.PrintMore Go.Proofs.Ytfpijjjmgggfkaa.P01 Go.Proofs.Ytfpijjjmgggfkaa.L01
set_option linter.unusedVariables false
theorem rput_c (xs : List Int) (A : Option Addr) (c : Nat) (w : World) (hC : Kd.C (Kd.int .u64) w A xs.length xs) (hc : xs.length ≤ c) (hN : Nums xs) (hl : xs.length ≤ 1000000000000) :
    Calls Try.prog 16 #[.slice A xs.length c] w fun e w' => (∃ v, e = .returned v ∧ own8 w.heap.size v (encs xs) w') ∧ Below w.heap.size w w' := by
  obtain ⟨k, hk⟩ := rput_ev xs hN hl
  refine (tendrilref01_Put.calls k A c xs _ w hC hc (hk k (Nat.le_refl _))).mono ?_
  rintro e w' ⟨v, rfl, hR, hb⟩
  exact ⟨⟨v, rfl, hR⟩, hb⟩
theorem xnum_c (n : Int) (h0 : 0 ≤ n) (h1 : n < 18446744073709551616) (w : World) :
    Calls Try.prog 23 #[.int .u64 n] w fun e w' => (∃ v, e = .returned v ∧ own8 w.heap.size v (enc n.toNat) w') ∧ Below w.heap.size w w' := by
  have hN : Nums [n] := by
    intro x hx
    simp at hx
    subst hx
    exact ⟨h0, h1⟩
  have hb0 : Below w.heap.size w (w.alloc (.cells #[.int .u64 n] 24)) := below_alloc (Below.refl _ _) _
  have HC := rput_c [n] (some ⟨w.heap.size, 0, none⟩) 1 (w.alloc (.cells #[.int .u64 n] 24)) (box_C (by rw [Lib.cell_of_heap (heap_alloc_new w _)]; rfl)) (Nat.le_refl _) hN (by show 1 ≤ _; omega)
  rw [encs_one] at HC
  go_enter Try.func23, Try.ntmps23
  go_wp2_with fail
  refine HC.mono ?_
  rintro e w2 ⟨⟨v, rfl, hO⟩, hb⟩
  obtain ⟨A, c, rfl, -, -⟩ := own8_reads hO
  have H1 := Aside0.mk (Kd.R_lower hO hb0.size)
  have H2 := Aside0.mk (below_then hb0 hb0.size hb)
  clear hO hb
  go_wp2_with fail
  go_ret
  exact ⟨⟨_, rfl, H1.out⟩, H2.out⟩
theorem xtext_c (s : ByteArray) (hs : s.size ≤ 70000) (w : World) :
    Calls Try.prog 21 #[.string s] w fun e w' => (∃ v, e = .returned v ∧ own8 w.heap.size v (encT s) w') ∧ Below w.heap.size w w' := by
  have hE : (enc s.size).length ≤ 10 := enc_le10 (by omega)
  have HN := xnum_c (s.size : Int) (by omega) (by omega) w
  rw [Int.toNat_natCast] at HN
  go_enter Try.func21, Try.ntmps21
  go_wp2_with fail
  refine HN.mono ?_
  rintro e w2 ⟨⟨v, rfl, hO⟩, hb⟩
  have H1 := Aside0.mk hO
  have H2 := Aside0.mk hb
  clear hO hb
  go_wp2_with fail
  rw [Lib.run_convert_string_bytes w2 _ _ 5 s Try.underlying9 Try.underlying22 Try.underlying5]
  simp only [Result.andThen]
  rw [Oper.upon_value]
  have B3 := Aside0.mk (bytes_below (Below.refl _ w2) (Nat.le_refl _) 5 s)
  have HR := Aside0.mk (Kd.R_below H1.out B3.out)
  have HC := Aside0.mk (conv_C w2 s (by omega))
  go_wp2_with (at_builtin; refine Kd.R_append_row (w0 := w) (Value.int .u8) (0 : Int) (h1 := fun _ => rfl) w.heap.size rfl _ _ 22 5 (.int .u8 0) 1 rfl Try.underlying22 info_byte rfl (by decide) v (enc s.size) (bytesI s) _ _ _ (fun _ => True) rfl (by rw [bytesI_len]; rfl) (fun _ _ => trivial) HR.out HC.out (H2.out.trans (B3.out.mono H2.out.size)) (Nat.le_trans H2.out.size B3.out.size) ?_ ?_)
  · rw [bytesI_len]; omega
  intro v' w' hown hbel hgr hhat
  obtain ⟨A', c', rfl⟩ := Kd.R_slice hown
  have H5 := Aside0.mk hown
  have H6 := Aside0.mk hbel
  clear hown hbel hgr hhat
  go_wp2_with fail
  go_ret
  exact ⟨⟨_, rfl, H5.out⟩, H6.out⟩
theorem str_bytesI (s : ByteArray) : strOfNums (bytesI s) = s := by
  unfold strOfNums bytesI
  rw [List.map_map]
  have : (s.data.toList.map ((fun n : Int => UInt8.ofNat n.toNat) ∘ fun b : UInt8 => (b.toNat : Int))) = s.data.toList := by
    conv => rhs; rw [← List.map_id s.data.toList]
    refine List.map_congr_left fun b _ => ?_
    simp
  rw [this]
theorem numR_enc (n : Nat) (hn : n < 18446744073709551616) (rest : List Int) : numR (enc n ++ rest) 0 n = (((n : Int), 0), rest, 0) := by
  unfold numR
  rw [if_neg (by simp), takeS_put hn rest, if_neg (by simp), if_neg (by simp)]
  simp
theorem textR_enc (s : ByteArray) (hs : s.size ≤ 9223372036854775807) (rest : List Int) : textR (encT s ++ rest) 0 s.size = ((s, 0), rest, 0) := by
  have h1 : encT s ++ rest = enc s.size ++ (bytesI s ++ rest) := by simp [encT]
  have hl := bytesI_len s
  unfold textR
  rw [h1, if_neg (by simp), takeS_put (by omega) _, if_neg (by simp), if_neg (by simp), if_neg (by simp [hl]; omega)]
  simp only [Int.toNat_natCast]
  have h2 : ((enc s.size ++ (bytesI s ++ rest)).take ((enc s.size).length + s.size)).drop (enc s.size).length = bytesI s := by
    rw [List.drop_take, List.drop_left, show (enc s.size).length + s.size - (enc s.size).length = s.size by omega, ← hl, List.take_left]
  have h3 : (enc s.size ++ (bytesI s ++ rest)).drop ((enc s.size).length + s.size) = rest := by
    rw [← List.drop_drop, List.drop_left, ← hl, List.drop_left]
  rw [h2, h3, str_bytesI]
end Go.Proofs.YtfpijjjmgggfkaaE
