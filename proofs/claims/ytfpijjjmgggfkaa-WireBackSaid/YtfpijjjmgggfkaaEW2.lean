/- wire: the readers' texts. -/
import Derived.Test.YtfpijjjmgggfkaaEW1
namespace Go.Proofs.YtfpijjjmgggfkaaE
open Go Go.RowKit Go.Proofs.YtfpijjjmgggfkaaW.PrintWords Go.Proofs.Ytfpijjjmgggfkaa.P01 Go.Proofs.Ytfpijjjmgggfkaa.L01
set_option linter.unusedVariables false
/-- What a reader tells of a text, and how it stands then. -/
def textR (bs : List Int) (er most : Int) : (ByteArray × Int) × List Int × Int :=
  if er ≠ 0 then ((⟨#[]⟩, er), bs, er) else
  if (takeS 0 bs).2.2 ≠ 0 then ((⟨#[]⟩, (takeS 0 bs).2.2), bs, (takeS 0 bs).2.2) else
  if most < 0 ∨ most < (takeS 0 bs).1 then ((⟨#[]⟩, 3), bs, 3) else
  if (bs.length : Int) - (takeS 0 bs).2.1 < (takeS 0 bs).1 then ((⟨#[]⟩, 4), bs, 4) else
  ((strOfNums ((bs.take ((takeS 0 bs).2.1.toNat + (takeS 0 bs).1.toNat)).drop (takeS 0 bs).2.1.toNat), 0), bs.drop ((takeS 0 bs).2.1.toNat + (takeS 0 bs).1.toNat), 0)
theorem mid_C {ok : Nat → Prop} {bs : List Int} {w : World} {A : Option Addr} {c j n : Nat} (hc : bs.length ≤ c) (hf : Kd.F (Kd.int .u8) w ok A bs.length bs) (hj : j + n ≤ bs.length) :
    Kd.C (Kd.int .u8) w (if c = j then A else A.map (fun x => x.add j)) n ((bs.take (j + n)).drop j) := by
  have hF := Kd.F_now (Kd.F_mid (lo := j) (hi := j + n) (c := c) hf (by omega) hj hc)
  rw [show j * (Kd.int .u8).sz = j from Nat.mul_one j] at hF
  rw [show ((bs.take (j + n)).drop j).length = n by rw [List.length_drop, List.length_take]; omega] at hF
  exact hF
set_option maxHeartbeats 2000000 in
theorem r_text (p : Nat) (ok : Nat → Prop) (bs : List Int) (er most : Int) (hm0 : -9223372036854775808 ≤ most) (hm1 : most ≤ 9223372036854775807) (hlen : bs.length ≤ 9223372036854775807) (w : World) (h : AtR 83 p ok bs er w) :
    Calls Try.prog 29 #[.pointer (some ⟨p, 0, none⟩), .int .i64 most] w fun e w' => e = .returned (.tuple #[.string (textR bs er most).1.1, .int .i64 (textR bs er most).1.2]) ∧ AtR 83 p ok (textR bs er most).2.1 (textR bs er most).2.2 w' ∧ But (· = p) w w' := by
  obtain ⟨h1, h2, A, c, hp, hc, hf⟩ := h
  have c0 : w.cell? ⟨p, 0, none⟩ = some (.slice A bs.length c) := by rw [Lib.cell_of_heap hp]; rfl
  have c1 : w.cell? ⟨p, 1, none⟩ = some (.int .i64 er) := by rw [Lib.cell_of_heap hp]; rfl
  have f0 : w.frozen? ⟨p, 0, none⟩ = false := Lib.frozen_of_heap hp 0
  have f1 : w.frozen? ⟨p, 1, none⟩ = false := Lib.frozen_of_heap hp 1
  have HF := Aside0.mk hf
  have H1 := Aside0.mk h1
  have H2 := Aside0.mk h2
  clear hf h1 h2
  by_cases he : er = 0
  · subst he
    have HT := take_c A c bs w (Kd.F_now HF.out) hc H2.out
    by_cases ht : (takeS 0 bs).2.2 = 0
    · obtain ⟨n, j, hT, hn, -, hj, hjl⟩ := takeS_ok bs H2.out ht
      clear ht
      rw [hT] at HT
      have hfail : ∀ (m : Nat) (x : Int), AtR 83 p ok bs x ((w.drewN m).setCell ⟨p, 1, none⟩ (.int .i64 x)) := fun m x => ⟨H1.out, H2.out, A, c, set_blk (show (w.drewN m).heap[p]? = _ from hp) _, hc, Kd.F_far (Kd.F_drewN HF.out m) (far H1.out) _⟩
      by_cases hm : most < 0 ∨ most < (n : Int)
      · have hR : textR bs 0 most = ((⟨#[]⟩, 3), bs, 3) := by simp [textR, hT, hm]
        rw [hR]
        clear hT hR
        by_cases hm2 : most < 0
        · clear hm
          go_enter Try.func29, Try.ntmps29
          go_wp2_with fail
          refine HT.mono ?_
          rintro e w1 ⟨rfl, ⟨m, rfl⟩⟩
          go_wp2_with fail
          refine (fail_c p _ _ 3 _ (show (w.drewN m).heap[p]? = _ from hp)).mono ?_
          rintro e w2 ⟨rfl, rfl⟩
          go_wp2_with fail
          go_ret2
          exact ⟨rfl, hfail m 3, ((But.refl _ w).drewN m).put_self _ _⟩
        · have hm3 : most < (n : Int) := hm.resolve_left hm2
          clear hm
          obtain ⟨M, rfl⟩ := Int.eq_ofNat_of_zero_le (show 0 ≤ most by omega)
          go_enter Try.func29, Try.ntmps29
          go_wp2_with fail
          refine HT.mono ?_
          rintro e w1 ⟨rfl, ⟨m, rfl⟩⟩
          go_wp2_with fail
          refine (fail_c p _ _ 3 _ (show (w.drewN m).heap[p]? = _ from hp)).mono ?_
          rintro e w2 ⟨rfl, rfl⟩
          go_wp2_with fail
          go_ret2
          exact ⟨rfl, hfail m 3, ((But.refl _ w).drewN m).put_self _ _⟩
      · have hm2 : (n : Int) ≤ most := by omega
        obtain ⟨M, rfl⟩ := Int.eq_ofNat_of_zero_le (show 0 ≤ most by omega)
        by_cases hs : (bs.length : Int) - j < n
        · have hR : textR bs 0 M = ((⟨#[]⟩, 4), bs, 4) := by simp only [textR, hT]; rw [if_neg (by simp), if_neg (by simp), if_neg hm, if_pos hs]
          rw [hR]
          clear hT hR hm
          go_enter Try.func29, Try.ntmps29
          go_wp2_with fail
          refine HT.mono ?_
          rintro e w1 ⟨rfl, ⟨m, rfl⟩⟩
          go_wp2_with fail
          refine (fail_c p _ _ 4 _ (show (w.drewN m).heap[p]? = _ from hp)).mono ?_
          rintro e w2 ⟨rfl, rfl⟩
          go_wp2_with fail
          go_ret2
          exact ⟨rfl, hfail m 4, ((But.refl _ w).drewN m).put_self _ _⟩
        · have hR : textR bs 0 M = ((strOfNums ((bs.take (j + n)).drop j), 0), bs.drop (j + n), 0) := by simp only [textR, hT]; rw [if_neg (by simp), if_neg (by simp), if_neg hm, if_neg hs]; simp
          rw [hR]
          clear hT hR hm
          go_enter Try.func29, Try.ntmps29
          go_wp2_with fail
          refine HT.mono ?_
          rintro e w1 ⟨rfl, ⟨m, rfl⟩⟩
          go_wp2_with fail
          all_goals
            have hC := mid_C (w := w.drewN m) (j := j) (n := n) hc (Kd.F_drewN HF.out m) (by omega)
            first | rw [if_pos (show c = j by assumption)] at hC | rw [if_neg (show ¬ c = j by assumption)] at hC
            rw [Kd.C_string Try.underlying22 Try.underlying5 Try.underlying9 hC]
            simp only [Result.andThen]
            rw [Oper.upon_value]
            clear hC
            go_wp2_with fail
          all_goals
            go_ret2
            have := cut_at (w := w.drewN m) (j := j + n) H1.out H2.out hp hc (Kd.F_drewN HF.out m) (by omega)
            first
              | (rw [if_pos (show c = j + n by omega), show c - (j + n) = 0 by omega] at this; exact ⟨rfl, this, ((But.refl _ w).drewN m).put_self _ _⟩)
              | (rw [if_neg (show ¬ c = j + n by assumption)] at this; exact ⟨rfl, this, ((But.refl _ w).drewN m).put_self _ _⟩)
    · have hR : textR bs 0 most = ((⟨#[]⟩, (takeS 0 bs).2.2), bs, (takeS 0 bs).2.2) := by simp [textR, ht]
      rw [hR]
      have hb : ((takeS 0 bs).2.2 == 0) = false := by simpa using ht
      go_enter Try.func29, Try.ntmps29
      go_wp2_with fail
      refine HT.mono ?_
      rintro e w1 ⟨rfl, ⟨m, rfl⟩⟩
      go_wp2_with fail
      refine (fail_c p _ _ _ _ (show (w.drewN m).heap[p]? = _ from hp)).mono ?_
      rintro e w2 ⟨rfl, rfl⟩
      go_wp2_with fail
      go_ret2
      exact ⟨rfl, ⟨H1.out, H2.out, A, c, set_blk (show (w.drewN m).heap[p]? = _ from hp) _, hc, Kd.F_far (Kd.F_drewN HF.out m) (far H1.out) _⟩, ((But.refl _ w).drewN m).put_self _ _⟩
  · have hR : textR bs er most = ((⟨#[]⟩, er), bs, er) := by simp [textR, he]
    rw [hR]
    have hb : (er == 0) = false := by simpa using he
    go_enter Try.func29, Try.ntmps29
    go_wp2_with fail
    go_region
    go_wp2_with fail
    go_ret2
    exact ⟨rfl, ⟨H1.out, H2.out, A, c, hp, hc, Kd.F_drew HF.out⟩, (But.refl _ w).drew⟩
set_option maxHeartbeats 2000000 in
/-- The reference's reader, asked for a text. -/
theorem x_text (p : Nat) (ok : Nat → Prop) (bs : List Int) (er most : Int) (hm0 : -9223372036854775808 ≤ most) (hm1 : most ≤ 9223372036854775807) (hlen : bs.length ≤ 9223372036854775807) (w : World) (h : AtR 63 p ok bs er w) :
    Calls Try.prog 32 #[.pointer (some ⟨p, 0, none⟩), .int .i64 most] w fun e w' => e = .returned (.tuple #[.string (textR bs er most).1.1, .int .i64 (textR bs er most).1.2]) ∧ AtR 63 p ok (textR bs er most).2.1 (textR bs er most).2.2 w' ∧ But (· = p) w w' := by
  obtain ⟨h1, h2, A, c, hp, hc, hf⟩ := h
  have c0 : w.cell? ⟨p, 0, none⟩ = some (.slice A bs.length c) := by rw [Lib.cell_of_heap hp]; rfl
  have c1 : w.cell? ⟨p, 1, none⟩ = some (.int .i64 er) := by rw [Lib.cell_of_heap hp]; rfl
  have f0 : w.frozen? ⟨p, 0, none⟩ = false := Lib.frozen_of_heap hp 0
  have f1 : w.frozen? ⟨p, 1, none⟩ = false := Lib.frozen_of_heap hp 1
  have HF := Aside0.mk hf
  have H1 := Aside0.mk h1
  have H2 := Aside0.mk h2
  clear hf h1 h2
  by_cases he : er = 0
  · subst he
    have HT := rtake_c A c bs w (Kd.F_now HF.out) hc H2.out
    by_cases ht : (takeS 0 bs).2.2 = 0
    · obtain ⟨n, j, hT, hn, -, hj, hjl⟩ := takeS_ok bs H2.out ht
      clear ht
      rw [hT] at HT
      have hfail : ∀ (m : Nat) (x : Int), AtR 63 p ok bs x ((w.drewN m).setCell ⟨p, 1, none⟩ (.int .i64 x)) := fun m x => ⟨H1.out, H2.out, A, c, set_blk (show (w.drewN m).heap[p]? = _ from hp) _, hc, Kd.F_far (Kd.F_drewN HF.out m) (far H1.out) _⟩
      by_cases hm : most < 0 ∨ most < (n : Int)
      · have hR : textR bs 0 most = ((⟨#[]⟩, 3), bs, 3) := by simp [textR, hT, hm]
        rw [hR]
        clear hT hR
        by_cases hm2 : most < 0
        · clear hm
          go_enter Try.func32, Try.ntmps32
          go_wp2_with fail
          refine HT.mono ?_
          rintro e w1 ⟨rfl, ⟨m, rfl⟩⟩
          go_wp2_with fail
          go_ret2
          exact ⟨rfl, hfail m 3, ((But.refl _ w).drewN m).put_self _ _⟩
        · have hm3 : most < (n : Int) := hm.resolve_left hm2
          clear hm
          obtain ⟨M, rfl⟩ := Int.eq_ofNat_of_zero_le (show 0 ≤ most by omega)
          go_enter Try.func32, Try.ntmps32
          go_wp2_with fail
          refine HT.mono ?_
          rintro e w1 ⟨rfl, ⟨m, rfl⟩⟩
          go_wp2_with fail
          go_ret2
          exact ⟨rfl, hfail m 3, ((But.refl _ w).drewN m).put_self _ _⟩
      · have hm2 : (n : Int) ≤ most := by omega
        obtain ⟨M, rfl⟩ := Int.eq_ofNat_of_zero_le (show 0 ≤ most by omega)
        by_cases hs : (bs.length : Int) - j < n
        · have hR : textR bs 0 M = ((⟨#[]⟩, 4), bs, 4) := by simp only [textR, hT]; rw [if_neg (by simp), if_neg (by simp), if_neg hm, if_pos hs]
          rw [hR]
          clear hT hR hm
          go_enter Try.func32, Try.ntmps32
          go_wp2_with fail
          refine HT.mono ?_
          rintro e w1 ⟨rfl, ⟨m, rfl⟩⟩
          go_wp2_with fail
          go_ret2
          exact ⟨rfl, hfail m 4, ((But.refl _ w).drewN m).put_self _ _⟩
        · have hR : textR bs 0 M = ((strOfNums ((bs.take (j + n)).drop j), 0), bs.drop (j + n), 0) := by simp only [textR, hT]; rw [if_neg (by simp), if_neg (by simp), if_neg hm, if_neg hs]; simp
          rw [hR]
          clear hT hR hm
          go_enter Try.func32, Try.ntmps32
          go_wp2_with fail
          refine HT.mono ?_
          rintro e w1 ⟨rfl, ⟨m, rfl⟩⟩
          go_wp2_with fail
          all_goals
            have hC := mid_C (w := w.drewN m) (j := j) (n := n) hc (Kd.F_drewN HF.out m) (by omega)
            first | rw [if_pos (show c = j by assumption)] at hC | rw [if_neg (show ¬ c = j by assumption)] at hC
            rw [Kd.C_string Try.underlying22 Try.underlying5 Try.underlying9 hC]
            simp only [Result.andThen]
            rw [Oper.upon_value]
            clear hC
            go_wp2_with fail
          all_goals
            go_ret2
            have := cut_at (w := w.drewN m) (j := j + n) H1.out H2.out hp hc (Kd.F_drewN HF.out m) (by omega)
            first
              | (rw [if_pos (show c = j + n by omega), show c - (j + n) = 0 by omega] at this; exact ⟨rfl, this, ((But.refl _ w).drewN m).put_self _ _⟩)
              | (rw [if_neg (show ¬ c = j + n by assumption)] at this; exact ⟨rfl, this, ((But.refl _ w).drewN m).put_self _ _⟩)
    · have hR : textR bs 0 most = ((⟨#[]⟩, (takeS 0 bs).2.2), bs, (takeS 0 bs).2.2) := by simp [textR, ht]
      rw [hR]
      have hb : ((takeS 0 bs).2.2 == 0) = false := by simpa using ht
      go_enter Try.func32, Try.ntmps32
      go_wp2_with fail
      refine HT.mono ?_
      rintro e w1 ⟨rfl, ⟨m, rfl⟩⟩
      go_wp2_with fail
      go_ret2
      exact ⟨rfl, ⟨H1.out, H2.out, A, c, set_blk (show (w.drewN m).heap[p]? = _ from hp) _, hc, Kd.F_far (Kd.F_drewN HF.out m) (far H1.out) _⟩, ((But.refl _ w).drewN m).put_self _ _⟩
  · have hR : textR bs er most = ((⟨#[]⟩, er), bs, er) := by simp [textR, he]
    rw [hR]
    have hb : (er == 0) = false := by simpa using he
    go_enter Try.func32, Try.ntmps32
    go_wp2_with fail
    go_region
    go_wp2_with fail
    go_ret2
    exact ⟨rfl, ⟨H1.out, H2.out, A, c, hp, hc, Kd.F_drew HF.out⟩, (But.refl _ w).drew⟩
end Go.Proofs.YtfpijjjmgggfkaaE
