/- The law WireBack, walked: true whatever the input. -/
import Derived.Test.YtfpijjjmgggfkaaEW8
import Derived.Test.YtfpijjjmgggfkaaEW10
namespace Go.Proofs.YtfpijjjmgggfkaaE
open Go Go.RowKit Go.Proofs.YtfpijjjmgggfkaaW.PrintWords Go.Proofs.YtfpijjjmgggfkaaW.PrintMore Go.Proofs.Ytfpijjjmgggfkaa.P01 Go.Proofs.Ytfpijjjmgggfkaa.L01
set_option linter.unusedVariables false
/-- An item's bytes; those of the first k; those from the k-th on. -/
def encI (I : Nat → Bool) (N : Nat → Int) (S : Nat → ByteArray) (i : Nat) : List Int := if I i then encT (S i) else enc (N i).toNat
def allI (I : Nat → Bool) (N : Nat → Int) (S : Nat → ByteArray) (k : Nat) : List Int := (List.range k).flatMap (encI I N S)
def restI (I : Nat → Bool) (N : Nat → Int) (S : Nat → ByteArray) (n k : Nat) : List Int := (List.range' k (n - k)).flatMap (encI I N S)
theorem allI_succ (I : Nat → Bool) (N : Nat → Int) (S : Nat → ByteArray) (k : Nat) : allI I N S (k + 1) = allI I N S k ++ encI I N S k := by
  unfold allI
  rw [List.range_succ, List.flatMap_append]
  simp
theorem restI_succ (I : Nat → Bool) (N : Nat → Int) (S : Nat → ByteArray) (n k : Nat) (h : k < n) : restI I N S n k = encI I N S k ++ restI I N S n (k + 1) := by
  unfold restI
  rw [show n - k = (n - (k + 1)) + 1 by omega, List.range'_succ]
  simp
theorem restI_zero (I : Nat → Bool) (N : Nat → Int) (S : Nat → ByteArray) (n : Nat) : restI I N S n 0 = allI I N S n := by
  unfold restI allI
  rw [List.range_eq_range', Nat.sub_zero]
theorem restI_end (I : Nat → Bool) (N : Nat → Int) (S : Nat → ByteArray) (n : Nat) : restI I N S n n = [] := by
  unfold restI
  rw [Nat.sub_self]
  rfl
theorem encI_pos (I : Nat → Bool) (N : Nat → Int) (S : Nat → ByteArray) (i : Nat) : 0 < (encI I N S i).length := by
  unfold encI
  split
  · unfold encT
    rw [List.length_append]
    have := enc_pos (S i).size
    omega
  · exact enc_pos _
theorem encI_bytes (I : Nat → Bool) (N : Nat → Int) (S : Nat → ByteArray) (i : Nat) : Bytes (encI I N S i) := by
  unfold encI
  split
  · intro x hx
    unfold encT at hx
    rcases List.mem_append.1 hx with h | h
    · exact enc_bytes _ x h
    · exact bytesI_bytes _ x h
  · exact enc_bytes _
theorem allI_bytes (I : Nat → Bool) (N : Nat → Int) (S : Nat → ByteArray) (n : Nat) : Bytes (allI I N S n) := by
  intro x hx
  obtain ⟨i, -, h⟩ := List.mem_flatMap.1 hx
  exact encI_bytes I N S i x h
theorem AtR.max {T p : Nat} {ok : Nat → Prop} {bs : List Int} {er : Int} {w : World} (h : AtR T p ok bs er w) : bs.length ≤ 9223372036854775807 := by
  obtain ⟨-, -, A, c, -, -, hf⟩ := h
  exact Kd.F_max hf
theorem sep1 {wr : World} {u v v2 : Value} (hne : u.ownBlock = none ∨ u.ownBlock ≠ v.ownBlock) (hu : ∀ k, u.ownBlock = some k → k < wr.heap.size) (hv : hat wr v v2) : u.ownBlock = none ∨ u.ownBlock ≠ v2.ownBlock := by
  rcases hne with h | h
  · exact .inl h
  · rcases hv with e | ⟨b, e, hb⟩
    · exact .inr (by rw [e]; exact h)
    · refine .inr fun x => ?_
      rw [e] at x
      have := hu b x
      omega
theorem sep2 {wb : World} {u u2 v : Value} (hne : u.ownBlock = none ∨ u.ownBlock ≠ v.ownBlock) (hv : ∀ k, v.ownBlock = some k → k < wb.heap.size) (hu : hat wb u u2) : u2.ownBlock = none ∨ u2.ownBlock ≠ v.ownBlock := by
  rcases hu with e | ⟨b, e, hb⟩
  · rw [e]; exact hne
  · refine .inr fun x => ?_
    rw [e] at x
    have := hv b x.symm
    omega
theorem AtW.grown {B p g : Nat} {v : Value} {bs : List Int} {w w' : World} {u : Value} {us : List Int} (h : AtW B p g v bs w) (ho : own8 B u us w) (hg : w.grownBy w' u.ownBlock) (hne : u.ownBlock = none ∨ u.ownBlock ≠ v.ownBlock) : AtW B p g v bs w' := by
  obtain ⟨h1, h2, hp, hg0, HR⟩ := h
  refine ⟨h1, h2, (hg.block p (blk_lt' hp) (Kd.R_ne ho hp (by decide))).trans hp, (hg.block g (blk_lt' hg0) (Kd.R_ne ho hg0 (by decide))).trans hg0, ?_⟩
  refine Kd.R_mono (Kd.R_step (Kd.R_tight rfl HR) (fun k hk hlt => hg.block k hlt (fun e => ?_))) (fun _ _ => trivial)
  rcases hne with hn | hn
  · rw [hn] at e; cases e
  · exact hn (e.symm.trans hk)
theorem keep_u {B p g : Nat} {u v : Value} {us bs : List Int} {w w' : World} (hW : AtW B p g v bs w) (ho : own8 B u us w) (hb : But (fun k => k = g ∨ some k = v.ownBlock) w w') (hne : u.ownBlock = none ∨ u.ownBlock ≠ v.ownBlock) : own8 B u us w' := by
  refine own8_but ho hb (fun k hk hS => ?_)
  rcases hS with rfl | e
  · exact Kd.R_ne ho hW.2.2.2.1 (by decide) hk.symm
  · rcases hne with hn | hn
    · rw [hn] at hk; cases hk
    · exact hn (hk.trans e)
theorem butB {B p g : Nat} {v : Value} {bs : List Int} {w w' : World} (hW : AtW B p g v bs w) (hB : B ≤ w.heap.size) (hb : But (fun k => k = g ∨ some k = v.ownBlock) w w') : Below B w w' :=
  hb.toBelow hB (fun k hk => hk.elim (fun e => e ▸ hW.2.1) (fun e => Kd.R_base hW.2.2.2.2 k e.symm))
/-- What the items' rows hold. -/
def Items (w : World) (A : Option Addr) (n : Nat) (I : Nat → Bool) (N : Nat → Int) (S : Nat → ByteArray) : Prop :=
  ∀ i : Nat, i < n → ∃ a, A = some a ∧ w.cell? (a.add (i * 3)) = some (.bool (I i)) ∧ w.cell? (a.add (i * 3 + 1)) = some (.int .u64 (N i)) ∧ w.cell? (a.add (i * 3 + 2)) = some (.string (S i)) ∧ 0 ≤ N i ∧ N i < 18446744073709551616
set_option maxHeartbeats 4000000 in
set_option maxRecDepth 100000 in
theorem wireBack_c (A1 : Option Addr) (n1 c1 : Nat) (I : Nat → Bool) (N : Nat → Int) (S : Nat → ByteArray) (w : World) (hn1 : n1 ≤ 9223372036854775807) (hcell : Items w A1 n1 I N S) :
    Calls Try.prog 6 #[.slice A1 n1 c1] w fun e w' => e = .returned (.bool true) ∧ Below w.heap.size w w' := by
  have HCELL := Aside0.mk hcell
  clear hcell
  go_enter Try.func6, Try.ntmps6
  go_wp2_with fail
  · refine (same_c w).mono ?_
    rintro e w1 ⟨rfl, hb⟩
    have HB := Aside0.mk hb
    clear hb
    go_wp2_with fail
    go_ret
    exact ⟨rfl, HB.out⟩
  · have h60 : (n1 : Int) ≤ 60 := by assumption
    refine (new_c w).mono ?_
    rintro e w1 ⟨⟨p, g, rfl, hW⟩, hb⟩
    have HW0 := Aside0.mk hW
    have HB0 := Aside0.mk hb
    clear hW hb
    go_wp2_with fail
    go_loopw [4, 20] (fun u i wr => ∃ (k : Nat) (v : Value), k ≤ n1 ∧ i = .int .i64 k ∧ AtW w.heap.size p g v (allI I N S k) wr ∧ own8 w.heap.size u (allI I N S k) wr ∧ (u.ownBlock = none ∨ u.ownBlock ≠ v.ownBlock) ∧ (allI I N S k).length ≤ k * 70010 ∧ (∀ j, j < k → (S j).size ≤ 70000) ∧ Below w.heap.size w wr) (fun _ i _ => n1 - (intOf i).toNat)
    case atStart => exact ⟨0, _, Nat.zero_le _, rfl, HW0.out, Kd.R_nil _ _ _ _ _, .inl rfl, Nat.le_refl _, fun j hj => absurd hj (by omega), HB0.out⟩
    case round =>
      obtain ⟨k, v, hk, rfl, hW, hO, hne, hlen, hS, hb⟩ := hrel
      clear HW0 HB0
      have HW := Aside0.mk hW
      have HO := Aside0.mk hO
      have HN := Aside0.mk hne
      have HL := Aside0.mk hlen
      have HS := Aside0.mk hS
      have HB := Aside0.mk hb
      clear hW hO hne hlen hS hb
      by_cases hlt : k < n1
      · obtain ⟨a1, rfl, k0, k1, k2, m0, m1⟩ := HCELL.out k hlt
        rw [add_field] at k1 k2
        have e0 := pw_cell_below HB.out k0
        have e1 := pw_cell_below HB.out k1
        have e2 := pw_cell_below HB.out k2
        have K1 := Aside0.mk k1
        have K2 := Aside0.mk k2
        clear k0 k1 k2
        go_wp2_with fail
        · refine (same_c wr).mono ?_
          rintro e w3 ⟨rfl, hb⟩
          have HB3 := Aside0.mk (below_then HB.out HB.out.size hb)
          clear hb
          go_wp2_with fail
          go_ret
          exact ⟨rfl, HB3.out⟩
        · have hs0 : ((S k).size : Int) ≤ 70000 := by assumption
          have hs : (S k).size ≤ 70000 := by omega
          have hI : I k = true := by assumption
          have hE : encI I N S k = encT (S k) := by unfold encI; rw [if_pos hI]
          have hEl : (encT (S k)).length ≤ 70010 := by
            unfold encT
            rw [List.length_append, bytesI_len]
            have := enc_le10 (n := (S k).size) (by omega)
            omega
          refine (w_text1 w.heap.size p g v _ (S k) wr HB.out.size HW.out ?_).mono ?_
          · have := HL.out; omega
          rintro e wa ⟨rfl, v2, hW2, hb2, hh2⟩
          have HBa := Aside0.mk (HB.out.trans (butB HW.out HB.out.size hb2))
          have HWa := Aside0.mk hW2
          have HOa := Aside0.mk (keep_u HW.out HO.out hb2 HN.out)
          have HNa := Aside0.mk (sep1 HN.out (Kd.R_lt HO.out) hh2)
          have ea := pw_cell_below HBa.out K2.out
          clear hW2 hb2 hh2
          go_wp2_with fail
          refine (xtext_c (S k) hs wa).mono ?_
          rintro e wb ⟨⟨t, rfl, hT⟩, hbt⟩
          obtain ⟨At, ct, rfl, -, hCt⟩ := own8_reads hT
          have HCt := Aside0.mk hCt
          have HBb := Aside0.mk (below_then HBa.out HBa.out.size hbt)
          have HWb := Aside0.mk (HWa.out.below hbt)
          have HOb := Aside0.mk (Kd.R_below HOa.out hbt)
          clear hT hCt hbt
          go_wp2_with (at_builtin; refine Kd.R_append_row (w0 := w) (Value.int .u8) (0 : Int) (h1 := fun _ => rfl) w.heap.size rfl _ _ 22 5 (.int .u8 0) 1 rfl Try.underlying22 info_byte rfl (by decide) _ (allI I N S k) (encT (S k)) _ _ _ (fun _ => True) rfl rfl (fun _ _ => trivial) HOb.out HCt.out HBb.out HBb.out.size ?_ ?_)
          · have := HL.out; omega
          intro u2 wc hown hbel hgr hhat
          obtain ⟨Ac, cc, rfl⟩ := Kd.R_slice hown
          have hx : allI I N S (k + 1) = allI I N S k ++ encT (S k) := by rw [allI_succ, hE]
          have HOc := Aside0.mk (show own8 w.heap.size _ (allI I N S (k + 1)) wc by rw [hx]; exact hown)
          have HBc := Aside0.mk hbel
          have HWc := Aside0.mk (show AtW w.heap.size p g v2 (allI I N S (k + 1)) wc by rw [hx]; exact HWb.out.grown HOb.out hgr HNa.out)
          have HNc := Aside0.mk (sep2 HNa.out (Kd.R_lt HWb.out.2.2.2.2) hhat)
          clear hown hbel hgr hhat
          go_wp2_with fail
          go_roundw
          case rel =>
            refine ⟨k + 1, v2, by omega, by go_num, HWc.out, HOc.out, HNc.out, ?_, ?_, HBc.out⟩
            · rw [allI_succ, List.length_append, hE]; have := HL.out; omega
            · intro j hj
              by_cases hjk : j = k
              · rw [hjk]; exact hs
              · exact HS.out j (by omega)
          case measure => simp [intOf]; omega
        · have hs0 : ((S k).size : Int) ≤ 70000 := by assumption
          have hs : (S k).size ≤ 70000 := by omega
          have hI : I k = false := by assumption
          have hE : encI I N S k = enc (N k).toNat := by unfold encI; rw [if_neg (by rw [hI]; simp)]
          have hEl : (enc (N k).toNat).length ≤ 10 := enc_le10 (by omega)
          refine (w_num1 w.heap.size p g v _ (N k) wr HB.out.size HW.out m0 m1 ?_).mono ?_
          · have := HL.out; omega
          rintro e wa ⟨rfl, v2, hW2, hb2, hh2⟩
          have HBa := Aside0.mk (HB.out.trans (butB HW.out HB.out.size hb2))
          have HWa := Aside0.mk hW2
          have HOa := Aside0.mk (keep_u HW.out HO.out hb2 HN.out)
          have HNa := Aside0.mk (sep1 HN.out (Kd.R_lt HO.out) hh2)
          have ea := pw_cell_below HBa.out K1.out
          clear hW2 hb2 hh2
          go_wp2_with fail
          refine (xnum_c (N k) m0 m1 wa).mono ?_
          rintro e wb ⟨⟨t, rfl, hT⟩, hbt⟩
          obtain ⟨At, ct, rfl, -, hCt⟩ := own8_reads hT
          have HCt := Aside0.mk hCt
          have HBb := Aside0.mk (below_then HBa.out HBa.out.size hbt)
          have HWb := Aside0.mk (HWa.out.below hbt)
          have HOb := Aside0.mk (Kd.R_below HOa.out hbt)
          clear hT hCt hbt
          go_wp2_with (at_builtin; refine Kd.R_append_row (w0 := w) (Value.int .u8) (0 : Int) (h1 := fun _ => rfl) w.heap.size rfl _ _ 22 5 (.int .u8 0) 1 rfl Try.underlying22 info_byte rfl (by decide) _ (allI I N S k) (enc (N k).toNat) _ _ _ (fun _ => True) rfl rfl (fun _ _ => trivial) HOb.out HCt.out HBb.out HBb.out.size ?_ ?_)
          · have := HL.out; omega
          intro u2 wc hown hbel hgr hhat
          obtain ⟨Ac, cc, rfl⟩ := Kd.R_slice hown
          have hx : allI I N S (k + 1) = allI I N S k ++ enc (N k).toNat := by rw [allI_succ, hE]
          have HOc := Aside0.mk (show own8 w.heap.size _ (allI I N S (k + 1)) wc by rw [hx]; exact hown)
          have HBc := Aside0.mk hbel
          have HWc := Aside0.mk (show AtW w.heap.size p g v2 (allI I N S (k + 1)) wc by rw [hx]; exact HWb.out.grown HOb.out hgr HNa.out)
          have HNc := Aside0.mk (sep2 HNa.out (Kd.R_lt HWb.out.2.2.2.2) hhat)
          clear hown hbel hgr hhat
          go_wp2_with fail
          go_roundw
          case rel =>
            refine ⟨k + 1, v2, by omega, by go_num, HWc.out, HOc.out, HNc.out, ?_, ?_, HBc.out⟩
            · rw [allI_succ, List.length_append, hE]; have := HL.out; omega
            · intro j hj
              by_cases hjk : j = k
              · rw [hjk]; exact hs
              · exact HS.out j (by omega)
          case measure => simp [intOf]; omega
      · have hge : k = n1 := by omega
        subst hge
        obtain ⟨Au, cu, rfl, hcu, hCu⟩ := own8_reads HO.out
        have HL2 := HL.out
        have hl47 : (allI I N S k).length ≤ 140737488355328 := by omega
        clear HL2
        go_wp2_with fail
        refine (w_bytes w.heap.size p g v _ wr HW.out hl47).mono ?_
        rintro e wa ⟨⟨b, rfl, hOb⟩, hb⟩
        obtain ⟨Ab, cb, rfl, hcb, hCb⟩ := own8_reads hOb
        have HWa := Aside0.mk (HW.out.below hb)
        have HBa := Aside0.mk (below_then HB.out HB.out.size hb)
        have hs1 := Kd.C_string (dst := 9) (c := cb) Try.underlying22 Try.underlying5 Try.underlying9 hCb
        have hs2 := Kd.C_string (dst := 9) (c := cu) Try.underlying22 Try.underlying5 Try.underlying9 (Kd.C_below hCu hb)
        have HCb := Aside0.mk hCb
        clear hCb hCu hOb hb
        generalize hX : allI I N S k = X at hs1 hs2 HWa HCb hl47 ⊢
        go_wp2_with fail
        refine (w_len w.heap.size p g v _ _ HWa.out).mono ?_
        rintro e w3 ⟨rfl, rfl⟩
        clear hs1 hs2
        go_wp2_with fail
        refine (read_c Ab cb X (hX ▸ allI_bytes I N S k) _ HCb.out hl47).mono ?_
        rintro e w4 ⟨⟨p2, rfl, hp2, hR⟩, hb⟩
        have HR := Aside0.mk hR
        have HB4 := Aside0.mk (below_then HBa.out HBa.out.size hb)
        clear hR hb
        go_wp2_with fail
        go_loopw [87] (fun i wq => ∃ (j : Nat), j ≤ k ∧ i = .int .i64 j ∧ AtR 83 p2 (fun b => w3.heap.size ≤ b ∧ b < p2) (restI I N S k j) 0 wq ∧ Below w.heap.size w wq) (fun i _ => k - (intOf i).toNat)
        case atStart => exact ⟨0, Nat.zero_le _, rfl, by rw [restI_zero, hX]; exact HR.out, HB4.out⟩
        case round =>
          obtain ⟨j, hj, rfl, hr, hb⟩ := hrel
          clear HR HB4
          have HR := Aside0.mk hr
          have HBq := Aside0.mk hb
          clear hr hb
          by_cases hjl : j < k
          · obtain ⟨a1, rfl, k0, k1, k2, m0, m1⟩ := HCELL.out j hjl
            rw [add_field] at k1 k2
            have e0 := pw_cell_below HBq.out k0
            have e1 := pw_cell_below HBq.out k1
            have e2 := pw_cell_below HBq.out k2
            have K1 := Aside0.mk k1
            have K2 := Aside0.mk k2
            have hpos := encI_pos I N S j
            have hrs := restI_succ I N S k j hjl
            have hlr : 0 < (restI I N S k j).length := by rw [hrs, List.length_append]; omega
            have hz : (((restI I N S k j).length : Int) == 0) = false := by rw [beq_eq_false_iff_ne]; omega
            have HRS := Aside0.mk hrs
            have HLR := Aside0.mk hlr
            clear k0 k1 k2 hrs hlr hpos
            go_wp2_with fail
            refine (r_left p2 _ _ _ _ HR.out).mono ?_
            rintro e w5 ⟨rfl, rfl⟩
            go_wp2_with fail
            · have hI : I j = true := by assumption
              have hE2 : endR (restI I N S k j) 0 = 2 := by
                unfold endR
                rw [if_neg (by simp), if_neg (by intro e; have hlr := HLR.out; rw [e] at hlr; exact absurd hlr (by simp))]
              have hEI : encI I N S j = encT (S j) := by unfold encI; rw [if_pos hI]
              have hsj : (S j).size ≤ 70000 := HS.out j hjl
              refine (r_end p2 _ _ _ _ HR.out).mono ?_
              rintro e w6 ⟨rfl, rfl⟩
              rw [hE2]
              go_wp2_with fail
              have hHR := HR.out
              have hmx := AtR.max hHR
              rw [HRS.out, hEI] at hHR hmx
              refine (r_text p2 _ _ 0 ((S j).size : Int) (by omega) (by omega) hmx _ hHR).mono ?_
              rintro e w7 ⟨rfl, hr, hb⟩
              rw [textR_enc (S j) (by omega)] at hr ⊢
              have HR7 := Aside0.mk hr
              have HB7 := Aside0.mk (HBq.out.trans (hb.toBelow HBq.out.size (fun b e => by have := HBa.out.size; omega)))
              have e7 := pw_cell_below HB7.out K2.out
              clear hr hb hHR hmx
              go_wp2_with fail
              go_roundw
              case rel => exact ⟨j + 1, by omega, by go_num, HR7.out, HB7.out⟩
              case measure => simp [intOf]; omega
            · have hI : ¬ I j = true := by assumption
              have hEI : encI I N S j = enc (N j).toNat := by unfold encI; rw [if_neg hI]
              have hHR := HR.out
              rw [HRS.out, hEI] at hHR
              refine (r_num p2 _ _ 0 (N j) _ hHR).mono ?_
              rintro e w7 ⟨rfl, hr, hb⟩
              have hq : numR (enc (N j).toNat ++ restI I N S k (j + 1)) 0 (N j) = ((N j, 0), restI I N S k (j + 1), 0) := by
                have := numR_enc (N j).toNat (by omega) (restI I N S k (j + 1))
                rw [show (((N j).toNat : Nat) : Int) = N j by omega] at this
                exact this
              rw [hq] at hr ⊢
              have HR7 := Aside0.mk hr
              have HB7 := Aside0.mk (HBq.out.trans (hb.toBelow HBq.out.size (fun b e => by have := HBa.out.size; omega)))
              have e7 := pw_cell_below HB7.out K1.out
              clear hr hb hHR hq
              go_wp2_with fail
              go_roundw
              case rel => exact ⟨j + 1, by omega, by go_num, HR7.out, HB7.out⟩
              case measure => simp [intOf]; omega
          · have hge : j = k := by omega
            subst hge
            have hHR := HR.out
            rw [restI_end] at hHR
            have HR0 := Aside0.mk hHR
            clear hHR
            go_wp2_with fail
            refine (r_end p2 _ _ _ _ HR0.out).mono ?_
            rintro e w6 ⟨rfl, rfl⟩
            rw [show endR [] 0 = 0 from rfl]
            go_wp2_with fail
            refine (r_left p2 _ _ _ _ HR0.out).mono ?_
            rintro e w7 ⟨rfl, rfl⟩
            go_wp2_with fail
            refine (same_c _).mono ?_
            rintro e w8 ⟨rfl, hb⟩
            have HB8 := Aside0.mk (below_then HBq.out HBq.out.size hb)
            clear hb
            go_wp2_with fail
            go_ret
            exact ⟨rfl, HB8.out⟩
end Go.Proofs.YtfpijjjmgggfkaaE
