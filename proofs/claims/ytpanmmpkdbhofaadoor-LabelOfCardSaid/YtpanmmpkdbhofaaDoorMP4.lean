/- Merged by this claim's own program (merge.py) out of the texts E14, E9, X12rx1, X12rx4, X12rx6, M02, M02e, M02f, X03ox0, PureEscapeOnly, M03b, M03c, E10, E11, E15, X12ox1, X12ox2; the W texts among them began as the kit's print. -/
import Derived.Test.YtpanmmpkdbhofaaDoorMP3
import Derived.Deep.QuietTactic
import Derived.BigQuiet
import Derived.Test.YtpanmmpkdbhofaaDoorProg
import Derived.Below
import Derived.Deep.Draws
import Derived.Deep.AppendLies
import Derived.Maps.AppendAt
import Derived.OwnWalk
import Derived.Laws.BytesArg
import Derived.Laws.MakeOwn
import Derived.Laws.OwnMore
import Derived.Deep.OwnRows
import Derived.Tactics
import Derived.Lib.ConvBytes
import Derived.Laws.Slices
import Derived.WalkKit
import Derived.KernelRfl
import Derived.RowKit3
import Derived.Deep.LoopGhost
import Derived.WideLaws
import Derived.Deep.DeepCutAuto
import Derived.Deep.CutBlock
import Derived.Deep.RegionHeld3
import Derived.Laws.Rows
import Derived.Lib.AppendStr
import Derived.ArgAppend
import Derived.Laws.IdiomCopy
import Derived.OrdersHeld
import Derived.Laws.BitsLemmas
import Derived.RowKit
import Derived.WalkLawsBesides

namespace Go.Proofs.YtpanmmpkdbhofaaDoorE
open Go Go.RowKit Go.Proofs.YtpanmmpkdbhofaaDoorW.PrintWords Go.Proofs.YtpanmmpkdbhofaaDoorX Go.Proofs.YtpanmmpkdbhofaaDoor.P12r
set_option linter.unusedVariables false
set_option linter.unusedSimpArgs false
def zIt : It := ⟨z49, 0, 0⟩
def rdIt (l : List It) (i : Int) : It := l.getD i.toNat zIt
theorem at_It {w0 w : World} {A : Option Addr} {n : Nat} {xs : List It} (h : Kd.C (kIt w0) w A n xs) (i : Int) (h0 : 0 ≤ i) (h1 : i < n) : ∃ ad A3 c3 A4 c4, A = some ad ∧ w.cell? (ad.add (i.toNat * 7)) = some (.string (rdIt xs i).n.f0) ∧ w.cell? ⟨(ad.add (i.toNat * 7)).block, (ad.add (i.toNat * 7)).off + 1, none⟩ = some (.string (rdIt xs i).n.f1) ∧ w.cell? ⟨(ad.add (i.toNat * 7)).block, (ad.add (i.toNat * 7)).off + 2, none⟩ = some (.string (rdIt xs i).n.f2) ∧ w.cell? ⟨(ad.add (i.toNat * 7)).block, (ad.add (i.toNat * 7)).off + 3, none⟩ = some (.slice A3 (rdIt xs i).n.f3.length c3) ∧ w.cell? ⟨(ad.add (i.toNat * 7)).block, (ad.add (i.toNat * 7)).off + 4, none⟩ = some (.slice A4 (rdIt xs i).n.f4.length c4) ∧ w.cell? ⟨(ad.add (i.toNat * 7)).block, (ad.add (i.toNat * 7)).off + 5, none⟩ = some (.int .i64 (rdIt xs i).dep) ∧ w.cell? ⟨(ad.add (i.toNat * 7)).block, (ad.add (i.toNat * 7)).off + 6, none⟩ = some (.int .i64 (rdIt xs i).up) ∧ (rdIt xs i).n.f3.length ≤ c3 ∧ k98.C w0 A3 (rdIt xs i).n.f3.length (rdIt xs i).n.f3 ∧ (rdIt xs i).n.f4.length ≤ c4 ∧ k49.C w0 A4 (rdIt xs i).n.f4.length (rdIt xs i).n.f4 := by
  obtain ⟨ad, c, e, _, hK, hc0⟩ := Kd.C_get h zIt i h0 h1
  have hc : ∀ j u, c[j]? = some u → w.cell? (ad.add (i.toNat * 7 + j)) = some u := hc0
  obtain ⟨A3, c3, A4, c4, rfl, l3, g3, l4, g4⟩ := (show cutIt w0 (rdIt xs i) c from hK)
  exact ⟨ad, A3, c3, A4, c4, e, hc 0 _ rfl, by rw [← add_field _ _ 1 (by omega)]; exact hc 1 _ rfl, by rw [← add_field _ _ 2 (by omega)]; exact hc 2 _ rfl, by rw [← add_field _ _ 3 (by omega)]; exact hc 3 _ rfl, by rw [← add_field _ _ 4 (by omega)]; exact hc 4 _ rfl, by rw [← add_field _ _ 5 (by omega)]; exact hc 5 _ rfl, by rw [← add_field _ _ 6 (by omega)]; exact hc 6 _ rfl, l3, g3, l4, g4⟩
def aloneF (k : Nat) (x : S49) : Option Int := tendrilref11_Alone.f k x.f0 x.f1 x.f2 x.f3 x.f4
def aloneOk (x : S49) : Prop := ∃ k, aloneF k x = some 0
def clash (l : List It) (i k : Nat) : Prop := 0 ≤ (rdIt l i).up ∧ (rdIt l k).up = (rdIt l i).up ∧ (rdIt l i).n.f1.size ≠ 0 ∧ (rdIt l k).n.f1 = (rdIt l i).n.f1
def goodAt (l : List It) (i : Nat) : Prop := i ≠ 4096 ∧ (rdIt l i).dep ≤ 64 ∧ aloneOk (rdIt l i).n ∧ ∀ k, k < i → ¬ clash l i k
def good (l : List It) : Prop := ∀ i, i < l.length → goodAt l i
theorem emp_true {s : ByteArray} (h : s.size = 0) : s.toList.isEmpty = true := by
  rw [toList_data, List.isEmpty_iff]; exact List.eq_nil_of_length_eq_zero (by rw [dlenA]; exact h)
theorem emp_false {s : ByteArray} (h : s.size ≠ 0) : s.toList.isEmpty = false := by
  rw [toList_data, Bool.eq_false_iff]
  intro e
  rw [List.isEmpty_iff] at e
  have := dlenA s
  rw [e] at this
  exact h this.symm
theorem str_ne {s t : ByteArray} (h : s ≠ t) : (s.toList == t.toList) = false := by
  rw [beq_eq_false_iff_ne]
  intro e
  rw [toList_data, toList_data] at e
  apply h
  cases s; cases t
  congr 1
  exact Array.toList_inj.1 e
set_option maxHeartbeats 4000000 in
set_option maxRecDepth 100000 in
theorem Check_c (x : S49) (w : World) (hgl : GL w) (A3 : Option Addr) (c3 : Nat) (A4 : Option Addr) (c4 : Nat) (h3 : x.f3.length ≤ c3) (g3 : k98.C w A3 x.f3.length x.f3) (h4 : x.f4.length ≤ c4) (g4 : k49.C w A4 x.f4.length x.f4)
    (hA : ∀ i : Nat, i < (belowS 66 [] x 1 (-1)).length → ∃ k r, aloneF k (rdIt (belowS 66 [] x 1 (-1)) i).n = some r ∧ (r = 0 ↔ aloneOk (rdIt (belowS 66 [] x 1 (-1)) i).n)) :
    Calls Tryd.prog 66 #[.agg #[.string x.f0, .string x.f1, .string x.f2, .slice A3 x.f3.length c3, .slice A4 x.f4.length c4]] w fun e w' => ∃ at_ er : Int, e = .returned (.tuple #[.int .i64 at_, .int .i64 er]) ∧ (er = 0 ↔ good (belowS 66 [] x 1 (-1))) ∧ Below w.heap.size w w' := by
  have HK := Aside0.mk (And.intro g3 g4)
  have HA := Aside0.mk hA
  have HGL := Aside0.mk hgl
  clear g3 g4 hA hgl
  have hlen := belowS_len 66 [] x 1 (-1) (by simp)
  obtain ⟨L, hL⟩ : ∃ L, L = belowS 66 [] x 1 (-1) := ⟨_, rfl⟩
  rw [← hL] at hlen
  have HA := Aside0.mk (show ∀ i : Nat, i < L.length → ∃ k r, aloneF k (rdIt L i).n = some r ∧ (r = 0 ↔ aloneOk (rdIt L i).n) by rw [hL]; exact HA.out)
  rw [← hL]
  have HL := Aside0.mk hL
  clear hL
  go_enter Tryd.func66, Tryd.ntmps66
  go_wp2_with (go_at_call 81; go_loud (refine (Items_c x (w.alloc _) A3 c3 A4 c4 h3 (Kd.C_alloc HK.out.1 _) h4 (Kd.C_alloc HK.out.2 _)).mono ?_); rintro e w' ⟨v', rfl, hR', hB'⟩; rw [← HL.out] at hR'; obtain ⟨A, c, rfl, hc, hC⟩ := Kd.R_reads hR'; have HC := Aside0.mk hC; have HB1 := Aside0.mk (show Below w.heap.size w w' from below_then (below_alloc (Below.refl _ _) _) (by simp) hB'); have HW0 := Aside0.mk hB'; clear hR' hB' hC)
  go_loopw [12] (fun i wr => ∃ k : Nat, k ≤ L.length ∧ i = .int .i64 k ∧ Below w'.heap.size w' wr ∧ ∀ j, j < k → goodAt L j) (fun i _ => L.length - (intOf i).toNat)
  case atStart => exact ⟨0, Nat.zero_le _, rfl, Below.refl _ _, fun j hj => by omega⟩
  case round =>
    obtain ⟨k, hk, rfl, hb, hgd⟩ := hrel
    have HB := Aside0.mk hb
    have HD := Aside0.mk hgd
    have HBW := Aside0.mk (show Below w.heap.size w wr from below_then HB1.out HB1.out.size hb)
    clear hb hgd
    by_cases hlt : k < L.length
    · obtain ⟨ad, B3, d3, B4, d4, rfl, e0, e1, e2, e3, e4, e5, e6, q3, C3, q4, C4⟩ := at_It HC.out (k : Int) (by omega) (by omega)
      rw [Int.toNat_natCast] at e0 e1 e2 e3 e4 e5 e6
      have f0 := pw_cell_below HB.out e0
      have f1 := pw_cell_below HB.out e1
      have f2 := pw_cell_below HB.out e2
      have f3 := pw_cell_below HB.out e3
      have f4 := pw_cell_below HB.out e4
      have f5 := pw_cell_below HB.out e5
      have f6 := pw_cell_below HB.out e6
      have HE := Aside0.mk (And.intro e1 e6)
      clear e0 e1 e2 e3 e4 e5 e6
      have hgl2 : GL wr := HGL.out.below HBW.out
      have HG2 := Aside0.mk hgl2
      have D3 := Aside0.mk (show k98.C wr B3 (rdIt L k).n.f3.length (rdIt L k).n.f3 from Kd.C_below (Kd.C_below C3 HW0.out) HB.out)
      have D4 := Aside0.mk (show k49.C wr B4 (rdIt L k).n.f4.length (rdIt L k).n.f4 from Kd.C_below (Kd.C_below C4 HW0.out) HB.out)
      clear C3 C4 hgl2
      by_cases hmany : k = 4096
      · have hm2 : ((k : Int) == 4096) = true := by simp; omega
        go_wp2_with fail
        go_ret2
        refine ⟨_, _, rfl, ⟨fun h => absurd h (by decide), fun h => absurd hmany (h k hlt).1⟩, HBW.out⟩
      · have hm2 : ((k : Int) == 4096) = false := by simp; omega
        obtain ⟨D, hD⟩ : ∃ D, D = (rdIt L k).dep := ⟨_, rfl⟩
        rw [← hD] at f5
        have HDe := Aside0.mk hD
        clear hD
        by_cases hdp : 64 < D
        · go_wp2_with fail
          go_ret2
          refine ⟨_, _, rfl, ⟨fun h => absurd h (by decide), fun h => absurd (h k hlt).2.1 (by rw [← HDe.out]; omega)⟩, HBW.out⟩
        · obtain ⟨kk, r, hAf, hAr⟩ := HA.out k hlt
          have HAf := Aside0.mk hAf
          have HAr := Aside0.mk hAr
          clear hAf hAr
          by_cases hr0 : r = 0
          · subst hr0
            go_wp2_with (go_at_call 82; go_loud (refine (tendrilref11_Alone.calls kk _ _ _ B3 d3 _ B4 d4 _ 0 wr HG2.out D3.out q3 D4.out q4 HAf.out).mono ?_); rintro e w2 ⟨rfl, hB2⟩; have HB2 := Aside0.mk hB2; clear hB2)
            have HB3 := Aside0.mk (show Below w'.heap.size w' w2 from below_then HB.out HB.out.size HB2.out)
            go_loopw [36] (fun i wx => ∃ j : Nat, j ≤ k ∧ i = .int .i64 j ∧ Below w2.heap.size w2 wx ∧ ∀ q, q < j → ¬ clash L k q) (fun i _ => k - (intOf i).toNat)
            case atStart => exact ⟨0, Nat.zero_le _, rfl, Below.refl _ _, fun j hj => by omega⟩
            case round =>
              obtain ⟨j, hj, rfl, hb, hgd⟩ := hrel
              have HX := Aside0.mk (show Below w'.heap.size w' wr from below_then HB3.out HB3.out.size hb)
              have HXW := Aside0.mk (show Below w.heap.size w wr from below_then HBW.out HBW.out.size (below_then HB2.out HB2.out.size hb))
              have HX2 := Aside0.mk hb
              have HQ := Aside0.mk hgd
              clear hb hgd f0 f1 f2 f3 f4 f5 f6
              by_cases hlt2 : j < k
              · obtain ⟨ad2, E3, x3, E4, x4, hade, -, i1, -, -, -, -, i6, -, -, -, -⟩ := at_It HC.out (j : Int) (by omega) (by omega)
                injection hade with hade
                subst hade
                rw [Int.toNat_natCast] at i1 i6
                have m1 := pw_cell_below HX.out i1
                have m6 := pw_cell_below HX.out i6
                have n1 := pw_cell_below HX.out HE.out.1
                have n6 := pw_cell_below HX.out HE.out.2
                clear i1 i6
                obtain ⟨U, hU⟩ : ∃ U, U = (rdIt L k).up := ⟨_, rfl⟩
                obtain ⟨V, hV⟩ : ∃ V, V = (rdIt L j).up := ⟨_, rfl⟩
                obtain ⟨Kk, hKk⟩ : ∃ U, U = (rdIt L k).n.f1 := ⟨_, rfl⟩
                obtain ⟨Kj, hKj⟩ : ∃ V, V = (rdIt L j).n.f1 := ⟨_, rfl⟩
                rw [← hKj] at m1
                rw [← hKk] at n1
                rw [← hV] at m6
                rw [← hU] at n6
                have HCL := Aside0.mk (show clash L k j ↔ (0 ≤ U ∧ V = U ∧ Kk.size ≠ 0 ∧ Kj = Kk) by unfold clash; rw [hU, hV, hKk, hKj])
                clear hU hV hKk hKj
                have next : ∀ q, q < j + 1 → ¬ (0 ≤ U ∧ V = U ∧ Kk.size ≠ 0 ∧ Kj = Kk) → ¬ clash L k q := by
                  intro q hq hn
                  by_cases e : q = j
                  · rw [e, HCL.out]; exact hn
                  · exact HQ.out q (by omega)
                have NX := Aside0.mk next
                clear next
                by_cases h1 : 0 ≤ U
                · by_cases h2 : V = U
                  · subst h2
                    by_cases h3 : Kk.size = 0
                    · have hemp := emp_true h3
                      go_wp2_with fail
                      go_quiet (fail)
                      go_wp2_with fail
                      go_roundw
                      case rel => exact ⟨j + 1, by omega, by go_num, pw_below_drewN HX2.out _, fun q hq => NX.out q hq (fun h => h.2.2.1 h3)⟩
                      case measure => simp [intOf]; omega
                    · have hemp := emp_false h3
                      by_cases h4 : Kj = Kk
                      · subst h4
                        go_wp2_with fail
                        go_quiet (fail)
                        go_wp2_with fail
                        go_ret2
                        refine ⟨_, _, rfl, ⟨fun h => absurd h (by decide), fun h => absurd (HCL.out.2 ⟨h1, by first | rfl | trivial, h3, by first | rfl | trivial⟩) ((h k hlt).2.2.2 j hlt2)⟩, pw_below_drewN HXW.out _⟩
                      · have hne := str_ne h4
                        go_wp2_with fail
                        go_quiet (fail)
                        go_wp2_with fail
                        go_roundw
                        case rel => exact ⟨j + 1, by omega, by go_num, pw_below_drewN HX2.out _, fun q hq => NX.out q hq (fun h => h4 h.2.2.2)⟩
                        case measure => simp [intOf]; omega
                  · have hvu : (V == U) = false := by simpa using h2
                    go_wp2_with fail
                    go_quiet (fail)
                    go_wp2_with fail
                    go_roundw
                    case rel => exact ⟨j + 1, by omega, by go_num, pw_below_drewN HX2.out _, fun q hq => NX.out q hq (fun h => h2 h.2.1)⟩
                    case measure => simp [intOf]; omega
                · have hdU : decide (0 ≤ U) = false := by simpa using h1
                  go_wp2_with fail
                  go_quiet (fail)
                  go_wp2_with fail
                  go_roundw
                  case rel => exact ⟨j + 1, by omega, by go_num, pw_below_drewN HX2.out _, fun q hq => NX.out q hq (by intro h; have := h.1; omega)⟩
                  case measure => simp [intOf]; omega
              · obtain rfl : j = k := by omega
                go_wp2_with fail
                go_roundw
                case rel =>
                  refine ⟨j + 1, by omega, by go_num, HX.out, fun i hi => ?_⟩
                  by_cases e : i = j
                  · subst e; exact ⟨hmany, by rw [← HDe.out]; omega, HAr.out.1 (by first | rfl | trivial), HQ.out⟩
                  · exact HD.out i (by omega)
                case measure => simp [intOf]; omega
          · have hr1 : (r == 0) = false := by simpa using hr0
            have hr2 : (r != 0) = true := by simpa using hr0
            have HR0 := Aside0.mk hr0
            clear hr0
            go_wp2_with (go_at_call 82; go_loud (refine (tendrilref11_Alone.calls kk _ _ _ B3 d3 _ B4 d4 _ r wr HG2.out D3.out q3 D4.out q4 HAf.out).mono ?_); rintro e w2 ⟨rfl, hB2⟩; have HB2 := Aside0.mk hB2; clear hB2)
            go_ret2
            refine ⟨_, _, rfl, ⟨fun h => absurd h HR0.out, fun h => absurd (HAr.out.2 (h k hlt).2.2.1) HR0.out⟩, below_then HBW.out HBW.out.size HB2.out⟩
    · obtain rfl : k = L.length := by omega
      go_wp2_with fail
      go_ret2
      exact ⟨_, _, rfl, ⟨fun _ i hi => HD.out i hi, fun _ => rfl⟩, HBW.out⟩
theorem Right_c (x : S49) (w : World) (hgl : GL w) (A3 : Option Addr) (c3 : Nat) (A4 : Option Addr) (c4 : Nat) (h3 : x.f3.length ≤ c3) (g3 : k98.C w A3 x.f3.length x.f3) (h4 : x.f4.length ≤ c4) (g4 : k49.C w A4 x.f4.length x.f4)
    (hA : ∀ i : Nat, i < (belowS 66 [] x 1 (-1)).length → ∃ k r, aloneF k (rdIt (belowS 66 [] x 1 (-1)) i).n = some r ∧ (r = 0 ↔ aloneOk (rdIt (belowS 66 [] x 1 (-1)) i).n)) :
    Calls Tryd.prog 42 #[.agg #[.string x.f0, .string x.f1, .string x.f2, .slice A3 x.f3.length c3, .slice A4 x.f4.length c4]] w fun e w' => ∃ b : Bool, e = .returned (.bool b) ∧ (b = true ↔ good (belowS 66 [] x 1 (-1))) ∧ Below w.heap.size w w' := by
  have HK := Aside0.mk (And.intro g3 g4)
  have HA := Aside0.mk hA
  have HGL := Aside0.mk (show GL (w.alloc (.cells #[.string x.f0, .string x.f1, .string x.f2, .slice A3 x.f3.length c3, .slice A4 x.f4.length c4] 49)) from hgl.below (below_alloc (Below.refl _ _) _))
  clear g3 g4 hA hgl
  go_enter Tryd.func42, Tryd.ntmps42
  go_wp2_with (go_at_call 66; go_loud (refine (Check_c x _ HGL.out A3 c3 A4 c4 h3 (Kd.C_alloc HK.out.1 _) h4 (Kd.C_alloc HK.out.2 _) HA.out).mono ?_); rintro e w' ⟨at_, er, rfl, hE, hB'⟩; have HE := Aside0.mk hE; have HB' := Aside0.mk (show Below w.heap.size w w' from below_then (below_alloc (Below.refl _ _) _) (by simp) hB'); clear hB' hE)
  go_ret
  exact ⟨_, rfl, by rw [← HE.out]; simp, HB'.out⟩
end Go.Proofs.YtpanmmpkdbhofaaDoorE

namespace Go.Proofs.YtpanmmpkdbhofaaDoorE
open Go Go.RowKit Go.Proofs.YtpanmmpkdbhofaaDoorW.PrintWords Go.Proofs.YtpanmmpkdbhofaaDoorX Go.Proofs.YtpanmmpkdbhofaaDoor.P12r
set_option linter.unusedVariables false
def nodeL (t k : ByteArray) : S49 := ⟨t, k, ⟨#[]⟩, [], []⟩
def cellsN (x : S49) : List Value := [.string x.f0, .string x.f1, .string x.f2, .slice none 0 0, .slice none 0 0]
def four : List S49 := [nodeL ⟨#[108, 105]⟩ ⟨#[]⟩, nodeL ⟨#[108, 105]⟩ ⟨#[107]⟩, nodeL ⟨#[112]⟩ ⟨#[]⟩, nodeL ⟨#[108, 105]⟩ ⟨#[]⟩]
theorem four_C (W : World) (b : Nat) (h : ∀ j u, (four.flatMap cellsN)[j]? = some u → W.cell? ⟨b, j, none⟩ = some u) : Kd.C k49 W (some ⟨b, 0, none⟩) 4 four := by
  refine ⟨rfl, by decide, fun _ => ⟨_, rfl, ?_⟩⟩
  intro j p hp
  have hj : j < 4 := (List.getElem?_eq_some_iff.1 hp).1
  have hf3 : p.f3 = [] ∧ p.f4 = [] ∧ (four.flatMap cellsN).length = 20 ∧ ∀ i, i < 5 → (four.flatMap cellsN)[j * 5 + i]? = (cellsN p)[i]? := by
    rcases (by omega : j = 0 ∨ j = 1 ∨ j = 2 ∨ j = 3) with rfl | rfl | rfl | rfl
    all_goals
      injection hp with hp
      subst hp
      refine ⟨rfl, rfl, rfl, fun i hi => ?_⟩
      rcases (by omega : i = 0 ∨ i = 1 ∨ i = 2 ∨ i = 3 ∨ i = 4) with rfl | rfl | rfl | rfl | rfl <;> rfl
  obtain ⟨h3, h4, -, hc⟩ := hf3
  refine ⟨cellsN p, rfl, ?_, ?_⟩
  · have := k49_mk W p (A3 := none) (c3 := 0) (by rw [h3]; exact Nat.le_refl _) (by rw [h3]; exact Kd.C_nil _ _) (A4 := none) (c4 := 0) (by rw [h4]; exact Nat.le_refl _) (by rw [h4]; exact Kd.C_nil _ _)
    rw [h3, h4] at this
    exact this
  · intro i u hu
    have hi : i < 5 := (List.getElem?_eq_some_iff.1 hu).1
    show W.cell? ((⟨b, 0, none⟩ : Addr).add (j * 5 + i)) = _
    rw [add_plain]
    exact h _ _ ((hc i hi).trans hu)
theorem four_labs : labsL four 4 = [⟨⟨#[108, 105]⟩, ⟨#[]⟩, 1⟩, ⟨⟨#[108, 105]⟩, ⟨#[107]⟩, 0⟩, ⟨⟨#[112]⟩, ⟨#[]⟩, 1⟩, ⟨⟨#[108, 105]⟩, ⟨#[]⟩, 2⟩] := by rfl
theorem read_f : label_Read.f 60 ⟨#[108, 105, 35, 107]⟩ = some (⟨#[108, 105]⟩, ⟨#[107]⟩, 0, 0) := by decide +kernel
theorem text_f : label_Text.f ⟨#[108, 105]⟩ ⟨#[107]⟩ 0 = some ⟨#[108, 105, 35, 107]⟩ := by decide +kernel
set_option maxHeartbeats 2000000 in
set_option maxRecDepth 100000 in
theorem same12_c (w : World) (hgl : GL w) : Calls Tryd.prog 38 #[] w fun e w' => e = .returned (.bool true) ∧ Below w.heap.size w w' := by
  have HGL := Aside0.mk hgl
  clear hgl
  go_enter Tryd.func38, Tryd.ntmps38
  go_wp2_with fail
  have HB0 := Aside0.mk (below_alloc (Below.refl w.heap.size w) (.cells (four.flatMap cellsN).toArray 49))
  refine (label_Of_c (some ⟨w.heap.size, 0, none⟩) 4 four _ (four_C _ _ ?_) (by decide) (by decide) ?_).mono ?_
  · intro j u hu
    rw [Lib.cell_of_heap (heap_alloc_new w _), ← hu]
    show (four.flatMap cellsN).toArray[j]? = _
    rw [List.getElem?_toArray]
  · intro i hi
    have hi4 : i < 4 := hi
    rcases (by omega : i = 0 ∨ i = 1 ∨ i = 2 ∨ i = 3) with rfl | rfl | rfl | rfl <;> decide
  rintro e w1 ⟨v, rfl, hO, hb⟩
  rw [show labsL four four.length = labsL four 4 from rfl, four_labs] at hO
  obtain ⟨A, c, rfl, hc, hC⟩ := Kd.R_reads hO
  obtain ⟨ad, rfl, -⟩ := hC.2.2 (by decide)
  obtain ⟨g, rfl⟩ := Kd.R_head hO
  have HC := Aside0.mk hC
  have HB1 := Aside0.mk (below_then HB0.out HB0.out.size hb)
  clear hO hC hb
  go_wp2_with fail
  refine (label_Read.calls 60 _ _ _ _ _ _ (HGL.out.below HB1.out) read_f).mono ?_
  rintro e w2 ⟨rfl, hb⟩
  have HC2 := Aside0.mk (Kd.C_below HC.out hb)
  have HB2 := Aside0.mk (below_then HB1.out HB1.out.size hb)
  clear hb HC
  obtain ⟨ad, e0, t0, t1, t2⟩ := at_T56 HC2.out 3 (by decide) (by decide)
  obtain rfl : (⟨g, 0, none⟩ : Addr) = ad := by injection e0
  obtain ⟨ad', e', s0, s1, s2⟩ := at_T56 HC2.out 1 (by decide) (by decide)
  obtain rfl : (⟨g, 0, none⟩ : Addr) = ad' := by injection e'
  clear e' e0
  have hb0 : Below w2.heap.size w2 (w2.alloc (.cells #[.string ⟨#[108, 105]⟩, .string ⟨#[107]⟩, .int .i64 0] 56)) := below_alloc (Below.refl _ _) _
  have hbl := heap_alloc_new w2 (.cells #[.string ⟨#[108, 105]⟩, .string ⟨#[107]⟩, .int .i64 0] 56)
  have g30 := pw_cell_below hb0 (show w2.cell? ⟨g, 9, none⟩ = some (.string ⟨#[108, 105]⟩) from t0)
  have g31 := pw_cell_below hb0 (show w2.cell? ⟨g, 10, none⟩ = some (.string ⟨#[]⟩) from t1)
  have g32 := pw_cell_below hb0 (show w2.cell? ⟨g, 11, none⟩ = some (.int .i64 2) from t2)
  have g10 := pw_cell_below hb0 (show w2.cell? ⟨g, 3, none⟩ = some (.string ⟨#[108, 105]⟩) from s0)
  have g11 := pw_cell_below hb0 (show w2.cell? ⟨g, 4, none⟩ = some (.string ⟨#[107]⟩) from s1)
  have g12 := pw_cell_below hb0 (show w2.cell? ⟨g, 5, none⟩ = some (.int .i64 0) from s2)
  have HG2 := Aside0.mk (HGL.out.below HB2.out)
  have HB3 := Aside0.mk hb0
  have HBL := Aside0.mk hbl
  clear t0 t1 t2 s0 s1 s2 hb0 hbl
  go_wp2_with fail
  go_region_with (go_at_call 44
                  go_loud (
                  refine (label_Text.calls ⟨#[108, 105]⟩ ⟨#[107]⟩ 0 _ _ ?_ text_f).mono ?_
                  · exact GL.below HG2.out (by repeat (first | exact Below.refl _ _ | apply below_alloc | apply below_drew1))
                  rintro e w5 ⟨rfl, hbd⟩
                  have hb := below_then (below_drew1 (Below.refl (w2.alloc (.cells #[.string ⟨#[108, 105]⟩, .string ⟨#[107]⟩, .int .i64 0] 56)).heap.size (w2.alloc (.cells #[.string ⟨#[108, 105]⟩, .string ⟨#[107]⟩, .int .i64 0] 56)))) (Nat.le_refl _) hbd
                  have f10 := pw_cell_below hb g10
                  have f11 := pw_cell_below hb g11
                  have f12 := pw_cell_below hb g12
                  have hbk := (hb.block w2.heap.size (by simp)).trans HBL.out
                  have x0 := cell_blk (j := 0) hbk rfl
                  have x1 := cell_blk (j := 1) hbk rfl
                  have x2 := cell_blk (j := 2) hbk rfl
                  have HB5 := Aside0.mk (below_then (below_then HB2.out HB2.out.size HB3.out) (below_then HB2.out HB2.out.size HB3.out).size hb)
                  clear hb hbd hbk))
  all_goals
    rename_i K' hK'
    refine hK' _ _ (wp_ret ?_)
    refine bodyPost_ret (results_tmp (t := 0) rfl _ _ _) ?r2 ?r3
    case r2 => kernel_rfl
    case r3 =>
      refine ⟨?r4, HB5.out⟩
      first | done | kernel_rfl
def tendrillaw12_same.f : Option Bool := some true
theorem tendrillaw12_same.calls (r : Bool) (w : World) (hgl : GL w) (h : tendrillaw12_same.f = some r) :
    Calls Tryd.prog 38 #[] w fun e w' => e = .returned (.bool r) ∧ Below w.heap.size w w' := by
  injection h with h
  subst h
  exact same12_c w hgl
end Go.Proofs.YtpanmmpkdbhofaaDoorE

namespace Go.Proofs.YtpanmmpkdbhofaaDoor.P12r
open Go.RowKit Go.Proofs.YtpanmmpkdbhofaaDoorE Go.Proofs.YtpanmmpkdbhofaaDoorW.PrintWords Go.Proofs.YtpanmmpkdbhofaaDoorW.PrintLast Go.Proofs.YtpanmmpkdbhofaaDoorW.PrintMore
attribute [local go_sem] max2_int min2_int max_two min_two max_three min_three max_four min_four   -- for this text's walks alone
set_option linter.unusedVariables false
set_option linter.unusedSimpArgs false

theorem eqA56 (d : Nat) (w : World) (x0 y0 : ByteArray) (x1 y1 : ByteArray) (x2 y2 : Int) :
    (Op.equalIn (d + 2) 56 (.agg #[.string x0, .string x1, .int .i64 x2]) (.agg #[.string y0, .string y1, .int .i64 y2])).run Tryd.prog w = .ok (x0.toList == y0.toList && (x1.toList == y1.toList && (x2 == y2))) w := by
  refine eqA_of Tryd.underlying56 (by kernel_rfl) ?_
  refine eqf_cons (by rfl) (by go_simp; rfl) (by go_simp; rfl) (by go_simp) ?_
  refine eqf_cons (by rfl) (by go_simp; rfl) (by go_simp; rfl) (by go_simp) ?_
  exact eqf_last (by rfl) (by go_simp; rfl) (by go_simp; rfl) (by go_simp)
end Go.Proofs.YtpanmmpkdbhofaaDoor.P12r

namespace Go.Proofs.YtpanmmpkdbhofaaDoor.P12r
open Go.RowKit Go.Proofs.YtpanmmpkdbhofaaDoorE Go.Proofs.YtpanmmpkdbhofaaDoorW.PrintWords Go.Proofs.YtpanmmpkdbhofaaDoorW.PrintLast Go.Proofs.YtpanmmpkdbhofaaDoorW.PrintMore
attribute [local go_sem] max2_int min2_int max_two min_two max_three min_three max_four min_four   -- for this text's walks alone
set_option linter.unusedVariables false
set_option linter.unusedSimpArgs false

mutual
def tendrilref02_Whole.j0 : Nat → ByteArray → ByteArray → Bool → Option (Int × Bool)
  | 0, _, _, _ => none
  | k + 1, x0, x4, x5 => if x5 = true then (if 1 ≤ (x0.size : Int) then (tendrilref02_Whole.j1 k x0 (x0.extract 1 x0.size) x5) else (none)) else (tendrilref02_Whole.j1 k x0 x4 x5)
def tendrilref02_Whole.j1 : Nat → ByteArray → ByteArray → Bool → Option (Int × Bool)
  | 0, _, _, _ => none
  | k + 1, x0, x4, x5 => if (x4.size : Int) < 1 then (tendrilref02_Whole.j2 k x0 x4 x5 true) else (tendrilref02_Whole.j2 k x0 x4 x5 (decide ((x4.size : Int) > 19)))
def tendrilref02_Whole.j2 : Nat → ByteArray → ByteArray → Bool → Bool → Option (Int × Bool)
  | 0, _, _, _, _ => none
  | k + 1, x0, x4, x5, x28 => if x28 = true then (some (0, false)) else (tendrilref02_Whole.l0 k x0 x4 x5 0 (x4.size : Int) 0)
def tendrilref02_Whole.l0 : Nat → ByteArray → ByteArray → Bool → Int → Int → Int → Option (Int × Bool)
  | 0, _, _, _, _, _, _ => none
  | k + 1, x0, x4, x5, x6, x30, x31 => if x31 < x30 then (if 0 ≤ x31 then (if x31 < (x4.size : Int) then (if (bt x4 x31) < 48 then (tendrilref02_Whole.j4 k x0 x4 x5 x6 x31 x30 x31 true) else (tendrilref02_Whole.j4 k x0 x4 x5 x6 x31 x30 x31 (decide ((bt x4 x31) > 57)))) else (none)) else (none)) else (if x5 = true then (tendrilref02_Whole.j5 k x0 x5 x6 false) else (tendrilref02_Whole.j5 k x0 x5 x6 (x6 == (-9223372036854775808))))
def tendrilref02_Whole.j4 : Nat → ByteArray → ByteArray → Bool → Int → Int → Int → Int → Bool → Option (Int × Bool)
  | 0, _, _, _, _, _, _, _, _ => none
  | k + 1, x0, x4, x5, x6, x7, x30, x31, x43 => if x43 = true then (some (0, false)) else (if 0 ≤ x7 then (if x7 < (x4.size : Int) then (if x6 < (-922337203685477580) then (some (0, false)) else (if x6 = (-922337203685477580) then (if (wrap64 ((wrap64 (bt x4 x7)) - 48)) > 8 then (some (0, false)) else (tendrilref02_Whole.l0 k x0 x4 x5 (wrap64 ((wrap64 (10 * x6)) - (wrap64 ((wrap64 (bt x4 x7)) - 48)))) x30 (wrap64 (x31 + 1)))) else (tendrilref02_Whole.l0 k x0 x4 x5 (wrap64 ((wrap64 (10 * x6)) - (wrap64 ((wrap64 (bt x4 x7)) - 48)))) x30 (wrap64 (x31 + 1))))) else (none)) else (none))
def tendrilref02_Whole.j5 : Nat → ByteArray → Bool → Int → Bool → Option (Int × Bool)
  | 0, _, _, _, _ => none
  | k + 1, x0, x5, x6, x69 => if x69 = true then (some (0, false)) else (if x5 = true then ((tendrilref02_Decimal.f k x6).bind fun t134 => (if t134.toList = x0.toList then (some (x6, true)) else (some (0, false)))) else ((tendrilref02_Decimal.f k (wrap64 (-x6))).bind fun t135 => (if t135.toList = x0.toList then (some (wrap64 (-x6), true)) else (some (0, false)))))
end
def tendrilref02_Whole.f (k : Nat) (a0 : ByteArray) : Option (Int × Bool) := if (a0.size : Int) > 1 then (if 0 < (a0.size : Int) then (tendrilref02_Whole.j0 k a0 a0 ((bt a0 0) == 45)) else (none)) else (tendrilref02_Whole.j0 k a0 a0 false)
theorem tendrilref02_Whole.mono_l : ∀ k, (∀ y0 y1 y2, LeO (tendrilref02_Whole.j0 k y0 y1 y2) (tendrilref02_Whole.j0 (k + 1) y0 y1 y2)) ∧ (∀ y0 y1 y2, LeO (tendrilref02_Whole.j1 k y0 y1 y2) (tendrilref02_Whole.j1 (k + 1) y0 y1 y2)) ∧ (∀ y0 y1 y2 y3, LeO (tendrilref02_Whole.j2 k y0 y1 y2 y3) (tendrilref02_Whole.j2 (k + 1) y0 y1 y2 y3)) ∧ (∀ y0 y1 y2 y3 y4 y5, LeO (tendrilref02_Whole.l0 k y0 y1 y2 y3 y4 y5) (tendrilref02_Whole.l0 (k + 1) y0 y1 y2 y3 y4 y5)) ∧ (∀ y0 y1 y2 y3 y4 y5 y6 y7, LeO (tendrilref02_Whole.j4 k y0 y1 y2 y3 y4 y5 y6 y7) (tendrilref02_Whole.j4 (k + 1) y0 y1 y2 y3 y4 y5 y6 y7)) ∧ (∀ y0 y1 y2 y3, LeO (tendrilref02_Whole.j5 k y0 y1 y2 y3) (tendrilref02_Whole.j5 (k + 1) y0 y1 y2 y3))
  | 0 => ⟨fun _ _ _ r h => by simp [tendrilref02_Whole.j0] at h, fun _ _ _ r h => by simp [tendrilref02_Whole.j1] at h, fun _ _ _ _ r h => by simp [tendrilref02_Whole.j2] at h, fun _ _ _ _ _ _ r h => by simp [tendrilref02_Whole.l0] at h, fun _ _ _ _ _ _ _ _ r h => by simp [tendrilref02_Whole.j4] at h, fun _ _ _ _ r h => by simp [tendrilref02_Whole.j5] at h⟩
  | k + 1 => by
    obtain ⟨ih0, ih1, ih2, ih3, ih4, ih5⟩ := tendrilref02_Whole.mono_l k
    refine ⟨?_, ?_, ?_, ?_, ?_, ?_⟩
    · intro y0 y1 y2
      unfold tendrilref02_Whole.j0
      repeat' first
      | (with_reducible exact ih0 _ _ _)
      | (with_reducible exact ih1 _ _ _)
      | (with_reducible exact ih2 _ _ _ _)
      | (with_reducible exact ih3 _ _ _ _ _ _)
      | (with_reducible exact ih4 _ _ _ _ _ _ _ _)
      | (with_reducible exact ih5 _ _ _ _)
      | (with_reducible exact tendrilref02_Decimal.mono _ _)
      | (with_reducible exact LeO.refl _)
      | (with_reducible exact LeO.none _)
      | (with_reducible refine LeO.ite ?_ ?_)
      | (with_reducible refine LeO.bind ?_ (fun _ => ?_))
      | exact ih0 _ _ _
      | exact ih1 _ _ _
      | exact ih2 _ _ _ _
      | exact ih3 _ _ _ _ _ _
      | exact ih4 _ _ _ _ _ _ _ _
      | exact ih5 _ _ _ _
      | exact tendrilref02_Decimal.mono _ _
      | exact LeO.none _
      | refine LeO.ite ?_ ?_
      | refine LeO.bind ?_ (fun _ => ?_)
    · intro y0 y1 y2
      unfold tendrilref02_Whole.j1
      repeat' first
      | (with_reducible exact ih0 _ _ _)
      | (with_reducible exact ih1 _ _ _)
      | (with_reducible exact ih2 _ _ _ _)
      | (with_reducible exact ih3 _ _ _ _ _ _)
      | (with_reducible exact ih4 _ _ _ _ _ _ _ _)
      | (with_reducible exact ih5 _ _ _ _)
      | (with_reducible exact tendrilref02_Decimal.mono _ _)
      | (with_reducible exact LeO.refl _)
      | (with_reducible exact LeO.none _)
      | (with_reducible refine LeO.ite ?_ ?_)
      | (with_reducible refine LeO.bind ?_ (fun _ => ?_))
      | exact ih0 _ _ _
      | exact ih1 _ _ _
      | exact ih2 _ _ _ _
      | exact ih3 _ _ _ _ _ _
      | exact ih4 _ _ _ _ _ _ _ _
      | exact ih5 _ _ _ _
      | exact tendrilref02_Decimal.mono _ _
      | exact LeO.none _
      | refine LeO.ite ?_ ?_
      | refine LeO.bind ?_ (fun _ => ?_)
    · intro y0 y1 y2 y3
      unfold tendrilref02_Whole.j2
      repeat' first
      | (with_reducible exact ih0 _ _ _)
      | (with_reducible exact ih1 _ _ _)
      | (with_reducible exact ih2 _ _ _ _)
      | (with_reducible exact ih3 _ _ _ _ _ _)
      | (with_reducible exact ih4 _ _ _ _ _ _ _ _)
      | (with_reducible exact ih5 _ _ _ _)
      | (with_reducible exact tendrilref02_Decimal.mono _ _)
      | (with_reducible exact LeO.refl _)
      | (with_reducible exact LeO.none _)
      | (with_reducible refine LeO.ite ?_ ?_)
      | (with_reducible refine LeO.bind ?_ (fun _ => ?_))
      | exact ih0 _ _ _
      | exact ih1 _ _ _
      | exact ih2 _ _ _ _
      | exact ih3 _ _ _ _ _ _
      | exact ih4 _ _ _ _ _ _ _ _
      | exact ih5 _ _ _ _
      | exact tendrilref02_Decimal.mono _ _
      | exact LeO.none _
      | refine LeO.ite ?_ ?_
      | refine LeO.bind ?_ (fun _ => ?_)
    · intro y0 y1 y2 y3 y4 y5
      unfold tendrilref02_Whole.l0
      repeat' first
      | (with_reducible exact ih0 _ _ _)
      | (with_reducible exact ih1 _ _ _)
      | (with_reducible exact ih2 _ _ _ _)
      | (with_reducible exact ih3 _ _ _ _ _ _)
      | (with_reducible exact ih4 _ _ _ _ _ _ _ _)
      | (with_reducible exact ih5 _ _ _ _)
      | (with_reducible exact tendrilref02_Decimal.mono _ _)
      | (with_reducible exact LeO.refl _)
      | (with_reducible exact LeO.none _)
      | (with_reducible refine LeO.ite ?_ ?_)
      | (with_reducible refine LeO.bind ?_ (fun _ => ?_))
      | exact ih0 _ _ _
      | exact ih1 _ _ _
      | exact ih2 _ _ _ _
      | exact ih3 _ _ _ _ _ _
      | exact ih4 _ _ _ _ _ _ _ _
      | exact ih5 _ _ _ _
      | exact tendrilref02_Decimal.mono _ _
      | exact LeO.none _
      | refine LeO.ite ?_ ?_
      | refine LeO.bind ?_ (fun _ => ?_)
    · intro y0 y1 y2 y3 y4 y5 y6 y7
      unfold tendrilref02_Whole.j4
      repeat' first
      | (with_reducible exact ih0 _ _ _)
      | (with_reducible exact ih1 _ _ _)
      | (with_reducible exact ih2 _ _ _ _)
      | (with_reducible exact ih3 _ _ _ _ _ _)
      | (with_reducible exact ih4 _ _ _ _ _ _ _ _)
      | (with_reducible exact ih5 _ _ _ _)
      | (with_reducible exact tendrilref02_Decimal.mono _ _)
      | (with_reducible exact LeO.refl _)
      | (with_reducible exact LeO.none _)
      | (with_reducible refine LeO.ite ?_ ?_)
      | (with_reducible refine LeO.bind ?_ (fun _ => ?_))
      | exact ih0 _ _ _
      | exact ih1 _ _ _
      | exact ih2 _ _ _ _
      | exact ih3 _ _ _ _ _ _
      | exact ih4 _ _ _ _ _ _ _ _
      | exact ih5 _ _ _ _
      | exact tendrilref02_Decimal.mono _ _
      | exact LeO.none _
      | refine LeO.ite ?_ ?_
      | refine LeO.bind ?_ (fun _ => ?_)
    · intro y0 y1 y2 y3
      unfold tendrilref02_Whole.j5
      repeat' first
      | (with_reducible exact ih0 _ _ _)
      | (with_reducible exact ih1 _ _ _)
      | (with_reducible exact ih2 _ _ _ _)
      | (with_reducible exact ih3 _ _ _ _ _ _)
      | (with_reducible exact ih4 _ _ _ _ _ _ _ _)
      | (with_reducible exact ih5 _ _ _ _)
      | (with_reducible exact tendrilref02_Decimal.mono _ _)
      | (with_reducible exact LeO.refl _)
      | (with_reducible exact LeO.none _)
      | (with_reducible refine LeO.ite ?_ ?_)
      | (with_reducible refine LeO.bind ?_ (fun _ => ?_))
      | exact ih0 _ _ _
      | exact ih1 _ _ _
      | exact ih2 _ _ _ _
      | exact ih3 _ _ _ _ _ _
      | exact ih4 _ _ _ _ _ _ _ _
      | exact ih5 _ _ _ _
      | exact tendrilref02_Decimal.mono _ _
      | exact LeO.none _
      | refine LeO.ite ?_ ?_
      | refine LeO.bind ?_ (fun _ => ?_)
theorem tendrilref02_Whole.mono : ∀ a0 k, LeO (tendrilref02_Whole.f k a0) (tendrilref02_Whole.f (k + 1) a0) := by
  intro a0 k
  obtain ⟨ih0, ih1, ih2, ih3, ih4, ih5⟩ := tendrilref02_Whole.mono_l k
  unfold tendrilref02_Whole.f
  repeat' first
      | (with_reducible exact ih0 _ _ _)
      | (with_reducible exact ih1 _ _ _)
      | (with_reducible exact ih2 _ _ _ _)
      | (with_reducible exact ih3 _ _ _ _ _ _)
      | (with_reducible exact ih4 _ _ _ _ _ _ _ _)
      | (with_reducible exact ih5 _ _ _ _)
      | (with_reducible exact tendrilref02_Decimal.mono _ _)
      | (with_reducible exact LeO.refl _)
      | (with_reducible exact LeO.none _)
      | (with_reducible refine LeO.ite ?_ ?_)
      | (with_reducible refine LeO.bind ?_ (fun _ => ?_))
      | exact ih0 _ _ _
      | exact ih1 _ _ _
      | exact ih2 _ _ _ _
      | exact ih3 _ _ _ _ _ _
      | exact ih4 _ _ _ _ _ _ _ _
      | exact ih5 _ _ _ _
      | exact tendrilref02_Decimal.mono _ _
      | exact LeO.none _
      | refine LeO.ite ?_ ?_
      | refine LeO.bind ?_ (fun _ => ?_)
set_option maxHeartbeats 8000000 in
set_option maxRecDepth 100000 in
theorem tendrilref02_Whole.calls (k : Nat) (a0 : ByteArray) (r1 : Int) (r2 : Bool) (w : World) (hgl : Go.Proofs.YtpanmmpkdbhofaaDoorX.GL w) (h : tendrilref02_Whole.f k a0 = some (r1, r2)) :
    Calls Tryd.prog 18 #[.string a0] w fun e w' => e = .returned (.tuple #[.int .i64 r1, .bool r2]) ∧ Below w.heap.size w w' := by
  have HGL := Aside0.mk hgl
  clear hgl
  have HB := Aside0.mk (Below.refl w.heap.size w)
  have H : (if (a0.size : Int) > 1 then (if 0 < (a0.size : Int) then (tendrilref02_Whole.j0 k a0 a0 ((bt a0 0) == 45)) else (none)) else (tendrilref02_Whole.j0 k a0 a0 false)) = some (r1, r2) := h
  clear h
  have HC2 := Aside0.mk H
  clear H
  go_enter Tryd.func18, Tryd.ntmps18
  go_upto_region 2 with (fail)
  go_cut [5] (fun v5 wc => ∃ (kq : Nat) (x5_1 : Bool), v5 = .bool x5_1 ∧ Aside0 (tendrilref02_Whole.j0 kq a0 a0 x5_1 = some (r1, r2)) ∧ Aside0 (kq ≤ k) ∧ Aside0 (Below w.heap.size w wc))
  case first =>
    have H := HC2.out
    clear HC2
    by_cases c3 : (a0.size : Int) > 1
    · rw [if_pos c3] at H
      have c3b0 : decide (1 < (a0.size : Int)) = true := decide_eq_true c3
      have c3b1 : decide (1 < a0.size) = true := decide_eq_true (by omega)
      clear c3
      (first | rw [c3b0] | (simp only [i64_w, i32_w]; rw [c3b0]) | skip)
      by_cases c4 : 0 < (a0.size : Int)
      · rw [if_pos c4] at H
        have c4b0 : decide (0 < (a0.size : Int)) = true := decide_eq_true c4
        have c4b1 : decide (0 < a0.size) = true := decide_eq_true (by omega)
        clear c4
        have H' := Aside0.mk H
        clear H
        have p5 : 0 ≤ (0 : Int) := (by omega)
        have q5 : 0 < a0.size := (by have : (0 : Int) < (a0.size : Int) := of_decide_eq_true (by first | (with_reducible assumption) | assumption); omega)
        have hx5 : ∀ h : 0 < a0.size, ((a0[0]'h).toNat : Int) = bt a0 0 := bt_at a0 0
        clear p5
        have qi5 : (0 < (a0.size : Int)) = True := eq_true (of_decide_eq_true (by first | (with_reducible assumption) | assumption))
        replace q5 := eq_true q5
        go_wp2
        go_meet
        case rel => exact ⟨_, (((bt a0 0) == 45)), (by first | rfl | (simp; done) | (simp [*]; done)), H', ⟨by first | omega | exact Nat.le_refl _⟩, ⟨by repeat (first | (with_reducible first | exact HB.out | apply below_alloc | apply pw_below_drewN | apply below_drew1) | exact HB.out)⟩⟩
      · rw [if_neg c4] at H
        exact absurd H (by simp)
    · rw [if_neg c3] at H
      have c3b0 : decide (1 < (a0.size : Int)) = false := decide_eq_false c3
      have c3b1 : decide (1 < a0.size) = false := decide_eq_false (by omega)
      clear c3
      (first | rw [c3b0] | (simp only [i64_w, i32_w]; rw [c3b0]) | skip)
      have H' := Aside0.mk H
      clear H
      go_wp2
      go_meet
      case rel => exact ⟨_, (false), (by first | rfl | (simp; done) | (simp [*]; done)), H', ⟨by first | omega | exact Nat.le_refl _⟩, ⟨by repeat (first | (with_reducible first | exact HB.out | apply below_alloc | apply pw_below_drewN | apply below_drew1) | exact HB.out)⟩⟩
  case rest =>
    clear HC2
    try clear c1
    try clear p2
    try clear c3
    try clear c3b0
    try clear c3b1
    try clear c4
    try clear c4b0
    try clear c4b1
    try clear p5
    try clear q5
    try clear hx5
    try clear qi5
    try clear p5
    try clear q5
    obtain ⟨kq, x5_1, rfl, HA, HJ1, HB⟩ := hcut
    cases kq with
    | zero => exact absurd HA.out (by simp [tendrilref02_Whole.j0])
    | succ kj1 =>
      have H := HA.out
      clear HA
      simp only [tendrilref02_Whole.j0] at H
      have HC6 := Aside0.mk H
      clear H
      go_upto_if 18 with (fail)
      go_cut [4] (fun v4 wc => ∃ (kq : Nat) (x4_5 : ByteArray), v4 = .string x4_5 ∧ Aside0 (tendrilref02_Whole.j1 kq a0 x4_5 x5_1 = some (r1, r2)) ∧ Aside0 (kq ≤ kj1) ∧ Aside0 (Below w.heap.size w wc))
      case first =>
        have H := HC6.out
        clear HC6
        by_cases c7 : x5_1 = true
        · subst c7
          have H1 : (if 1 ≤ (a0.size : Int) then (tendrilref02_Whole.j1 kj1 a0 (a0.extract 1 a0.size) true) else (none)) = some (r1, r2) := by rw [if_pos rfl] at H; exact H
          clear H
          have H := H1
          clear H1
          by_cases c8 : 1 ≤ (a0.size : Int)
          · rw [if_pos c8] at H
            have c8b0 := eq_true c8
            have c8b1 : decide (1 ≤ (a0.size : Int)) = true := decide_eq_true c8
            clear c8
            have H' := Aside0.mk H
            clear H
            go_wp2
            go_meet
            case rel => exact ⟨_, (a0.extract 1 a0.size), (by first | rfl | (simp; done) | (simp [*]; done)), H', ⟨by have := HJ1.out; first | omega | exact Nat.le_refl _⟩, ⟨by repeat (first | (with_reducible first | exact HB.out | apply below_alloc | apply pw_below_drewN | apply below_drew1) | exact HB.out)⟩⟩
          · rw [if_neg c8] at H
            exact absurd H (by simp)
        · replace c7 := Bool.eq_false_iff.mpr c7
          subst c7
          have H1 : (tendrilref02_Whole.j1 kj1 a0 a0 false) = some (r1, r2) := by rw [if_neg (show ¬ (false = true) by decide)] at H; exact H
          clear H
          have H := H1
          clear H1
          have H' := Aside0.mk H
          clear H
          go_wp2
          go_meet
          case rel => exact ⟨_, (a0), (by first | rfl | (simp; done) | (simp [*]; done)), H', ⟨by have := HJ1.out; first | omega | exact Nat.le_refl _⟩, ⟨by repeat (first | (with_reducible first | exact HB.out | apply below_alloc | apply pw_below_drewN | apply below_drew1) | exact HB.out)⟩⟩
      case rest =>
        clear HC6
        try clear c1
        try clear p2
        try clear c3
        try clear c3b0
        try clear c3b1
        try clear c4
        try clear c4b0
        try clear c4b1
        try clear p5
        try clear q5
        try clear hx5
        try clear qi5
        try clear c7
        try clear c8
        try clear c8b0
        try clear c8b1
        try clear p2
        try clear p5
        try clear q5
        obtain ⟨kq, x4_5, rfl, HA, HJ5, HB⟩ := hcut
        cases kq with
        | zero => exact absurd HA.out (by simp [tendrilref02_Whole.j1])
        | succ kj5 =>
          have H := HA.out
          clear HA
          simp only [tendrilref02_Whole.j1] at H
          have HC9 := Aside0.mk H
          clear H
          go_upto_region 5 with (fail)
          go_cut [28] (fun v28 wc => ∃ (kq : Nat) (x28_8 : Bool), v28 = .bool x28_8 ∧ Aside0 (tendrilref02_Whole.j2 kq a0 x4_5 x5_1 x28_8 = some (r1, r2)) ∧ Aside0 (kq ≤ kj5) ∧ Aside0 (Below w.heap.size w wc))
          case first =>
            have H := HC9.out
            clear HC9
            by_cases c10 : (x4_5.size : Int) < 1
            · rw [if_pos c10] at H
              have c10b0 : decide ((x4_5.size : Int) < 1) = true := decide_eq_true c10
              have c10b1 : decide (x4_5.size < 1) = true := decide_eq_true (by omega)
              clear c10
              (first | rw [c10b0] | (simp only [i64_w, i32_w]; rw [c10b0]) | skip)
              have H' := Aside0.mk H
              clear H
              go_wp2
              go_meet
              case rel => exact ⟨_, (true), (by first | rfl | (simp; done) | (simp [*]; done)), H', ⟨by have := HJ1.out; have := HJ5.out; first | omega | exact Nat.le_refl _⟩, ⟨by repeat (first | (with_reducible first | exact HB.out | apply below_alloc | apply pw_below_drewN | apply below_drew1) | exact HB.out)⟩⟩
            · rw [if_neg c10] at H
              have c10b0 : decide ((x4_5.size : Int) < 1) = false := decide_eq_false c10
              have c10b1 : decide (x4_5.size < 1) = false := decide_eq_false (by omega)
              clear c10
              (first | rw [c10b0] | (simp only [i64_w, i32_w]; rw [c10b0]) | skip)
              have H' := Aside0.mk H
              clear H
              go_wp2
              go_meet
              case rel => exact ⟨_, (decide ((x4_5.size : Int) > 19)), (by first | rfl | (simp; done) | (simp [*]; done)), H', ⟨by have := HJ1.out; have := HJ5.out; first | omega | exact Nat.le_refl _⟩, ⟨by repeat (first | (with_reducible first | exact HB.out | apply below_alloc | apply pw_below_drewN | apply below_drew1) | exact HB.out)⟩⟩
          case rest =>
            clear HC9
            try clear c1
            try clear p2
            try clear c3
            try clear c3b0
            try clear c3b1
            try clear c4
            try clear c4b0
            try clear c4b1
            try clear p5
            try clear q5
            try clear hx5
            try clear qi5
            try clear c7
            try clear c8
            try clear c8b0
            try clear c8b1
            try clear c10
            try clear c10b0
            try clear c10b1
            try clear p2
            try clear p5
            try clear q5
            obtain ⟨kq, x28_8, rfl, HA, HJ8, HB⟩ := hcut
            cases kq with
            | zero => exact absurd HA.out (by simp [tendrilref02_Whole.j2])
            | succ kj8 =>
              have H := HA.out
              clear HA
              simp only [tendrilref02_Whole.j2] at H
              by_cases c11 : x28_8 = true
              · subst c11
                have H1 : (some (0, false)) = some (r1, r2) := by rw [if_pos rfl] at H; exact H
                clear H
                have H := H1
                clear H1
                simp only [Option.some.injEq, Prod.mk.injEq] at H
                obtain ⟨rfl, rfl⟩ := H
                go_wp2
                go_ret2
                exact ⟨by first | rfl | (simp [errW_none, errW_some] <;> rfl) | (simp [*, errW_none, errW_some] <;> rfl), by repeat (first | (with_reducible first | exact HB.out | apply below_alloc | apply pw_below_drewN | apply below_drew1) | exact HB.out)⟩
              · replace c11 := Bool.eq_false_iff.mpr c11
                subst c11
                have H1 : (tendrilref02_Whole.l0 kj8 a0 x4_5 x5_1 0 (x4_5.size : Int) 0) = some (r1, r2) := by rw [if_neg (show ¬ (false = true) by decide)] at H; exact H
                clear H
                have H := H1
                clear H1
                have H' := Aside0.mk H
                clear H
                go_wp2
                go_loopg [6, 31] kj8 (fun kq v6 v31 w' => ∃ (x6_4 : Int) (x31_4 : Int), v6 = .int .i64 x6_4 ∧ v31 = .int .i64 x31_4 ∧ Aside0 (tendrilref02_Whole.l0 kq a0 x4_5 x5_1 x6_4 (x4_5.size : Int) x31_4 = some (r1, r2)) ∧ Aside0 (kq ≤ kj8) ∧ Aside0 (Below w.heap.size w w'))
                case atStart => exact ⟨(0), (0), (by first | rfl | (simp; done) | (simp [*]; done)), (by first | rfl | (simp; done) | (simp [*]; done)), H', ⟨Nat.le_refl _⟩, ⟨by repeat (first | (with_reducible first | exact HB.out | apply below_alloc | apply pw_below_drewN | apply below_drew1) | exact HB.out)⟩⟩
                case round =>
                  clear H'
                  try clear c1
                  try clear p2
                  try clear c3
                  try clear c3b0
                  try clear c3b1
                  try clear c4
                  try clear c4b0
                  try clear c4b1
                  try clear p5
                  try clear q5
                  try clear hx5
                  try clear qi5
                  try clear c7
                  try clear c8
                  try clear c8b0
                  try clear c8b1
                  try clear c10
                  try clear c10b0
                  try clear c10b1
                  try clear c11
                  try clear p2
                  try clear p5
                  try clear q5
                  obtain ⟨x6_4, x31_4, rfl, rfl, HA, HK4, HB⟩ := hrel
                  cases gk with
                  | zero => exact absurd HA.out (by simp [tendrilref02_Whole.l0])
                  | succ k4 =>
                    have H := HA.out
                    clear HA
                    simp only [tendrilref02_Whole.l0] at H
                    by_cases c12 : x31_4 < (x4_5.size : Int)
                    · rw [if_pos c12] at H
                      have c12b0 : decide (x31_4 < (x4_5.size : Int)) = true := decide_eq_true c12
                      clear c12
                      have HC13 := Aside0.mk H
                      clear H
                      go_upto_region 11 with (fail)
                      go_cut [43] (fun v43 wc => ∃ (kq : Nat) (x43_12 : Bool), v43 = .bool x43_12 ∧ Aside0 (tendrilref02_Whole.j4 kq a0 x4_5 x5_1 x6_4 x31_4 (x4_5.size : Int) x31_4 x43_12 = some (r1, r2)) ∧ Aside0 (kq ≤ k4) ∧ Aside0 (Below w.heap.size w wc))
                      case first =>
                        have H := HC13.out
                        clear HC13
                        by_cases c14 : 0 ≤ x31_4
                        · rw [if_pos c14] at H
                          have c14b0 : decide (0 ≤ x31_4) = true := decide_eq_true c14
                          clear c14
                          (first | rw [c14b0] | (simp only [i64_w, i32_w]; rw [c14b0]) | skip)
                          by_cases c15 : x31_4 < (x4_5.size : Int)
                          · rw [if_pos c15] at H
                            have c15b0 : decide (x31_4 < (x4_5.size : Int)) = true := decide_eq_true c15
                            clear c15
                            by_cases c17 : (bt x4_5 x31_4) < 48
                            · rw [if_pos c17] at H
                              have c17b0 : decide ((bt x4_5 x31_4) < 48) = true := decide_eq_true c17
                              clear c17
                              have H' := Aside0.mk H
                              clear H
                              have p16 : 0 ≤ (x31_4 : Int) := of_decide_eq_true (by first | (with_reducible assumption) | assumption)
                              have q16 : x31_4 < (x4_5.size : Int) := of_decide_eq_true (by first | (with_reducible assumption) | assumption)
                              have hx16 := bt_at x4_5 x31_4
                              replace p16 := eq_true p16
                              replace q16 := eq_true q16
                              go_wp2
                              go_meet
                              case rel => exact ⟨_, (true), (by first | rfl | (simp; done) | (simp [*]; done)), H', ⟨by have := HJ1.out; have := HJ5.out; have := HJ8.out; have := HK4.out; first | omega | exact Nat.le_refl _⟩, ⟨by repeat (first | (with_reducible first | exact HB.out | apply below_alloc | apply pw_below_drewN | apply below_drew1) | exact HB.out)⟩⟩
                            · rw [if_neg c17] at H
                              have c17b0 : decide ((bt x4_5 x31_4) < 48) = false := decide_eq_false c17
                              clear c17
                              have H' := Aside0.mk H
                              clear H
                              have p16 : 0 ≤ (x31_4 : Int) := of_decide_eq_true (by first | (with_reducible assumption) | assumption)
                              have q16 : x31_4 < (x4_5.size : Int) := of_decide_eq_true (by first | (with_reducible assumption) | assumption)
                              have hx16 := bt_at x4_5 x31_4
                              replace p16 := eq_true p16
                              replace q16 := eq_true q16
                              have p18 : 0 ≤ (x31_4 : Int) := of_decide_eq_true (by first | (with_reducible assumption) | assumption)
                              have q18 : x31_4 < (x4_5.size : Int) := of_decide_eq_true (by first | (with_reducible assumption) | assumption)
                              have hx18 := bt_at x4_5 x31_4
                              replace p18 := eq_true p18
                              replace q18 := eq_true q18
                              go_wp2
                              go_meet
                              case rel => exact ⟨_, (decide ((bt x4_5 x31_4) > 57)), (by first | rfl | (simp; done) | (simp [*]; done)), H', ⟨by have := HJ1.out; have := HJ5.out; have := HJ8.out; have := HK4.out; first | omega | exact Nat.le_refl _⟩, ⟨by repeat (first | (with_reducible first | exact HB.out | apply below_alloc | apply pw_below_drewN | apply below_drew1) | exact HB.out)⟩⟩
                          · rw [if_neg c15] at H
                            exact absurd H (by simp)
                        · rw [if_neg c14] at H
                          exact absurd H (by simp)
                      case rest =>
                        clear HC13
                        try clear c1
                        try clear p1
                        try clear q1
                        try clear hx1
                        try clear p2
                        try clear c3
                        try clear c3b0
                        try clear c3b1
                        try clear c4
                        try clear c4b0
                        try clear c4b1
                        try clear p5
                        try clear q5
                        try clear hx5
                        try clear qi5
                        try clear c7
                        try clear c8
                        try clear c8b0
                        try clear c8b1
                        try clear c10
                        try clear c10b0
                        try clear c10b1
                        try clear c11
                        try clear c12
                        try clear c12b0
                        try clear c14
                        try clear c14b0
                        try clear c15
                        try clear c15b0
                        try clear p16
                        try clear q16
                        try clear hx16
                        try clear c17
                        try clear c17b0
                        try clear c18
                        try clear p18
                        try clear q18
                        try clear hx18
                        try clear p16
                        try clear p18
                        try clear p2
                        try clear p5
                        try clear q16
                        try clear q18
                        try clear q5
                        obtain ⟨kq, x43_12, rfl, HA, HJ12, HB⟩ := hcut
                        cases kq with
                        | zero => exact absurd HA.out (by simp [tendrilref02_Whole.j4])
                        | succ kj12 =>
                          have H := HA.out
                          clear HA
                          simp only [tendrilref02_Whole.j4] at H
                          by_cases c19 : x43_12 = true
                          · subst c19
                            have H1 : (some (0, false)) = some (r1, r2) := by rw [if_pos rfl] at H; exact H
                            clear H
                            have H := H1
                            clear H1
                            simp only [Option.some.injEq, Prod.mk.injEq] at H
                            obtain ⟨rfl, rfl⟩ := H
                            go_wp2
                            go_ret2
                            exact ⟨by first | rfl | (simp [errW_none, errW_some] <;> rfl) | (simp [*, errW_none, errW_some] <;> rfl), by repeat (first | (with_reducible first | exact HB.out | apply below_alloc | apply pw_below_drewN | apply below_drew1) | exact HB.out)⟩
                          · replace c19 := Bool.eq_false_iff.mpr c19
                            subst c19
                            have H1 : (if 0 ≤ x31_4 then (if x31_4 < (x4_5.size : Int) then (if x6_4 < (-922337203685477580) then (some (0, false)) else (if x6_4 = (-922337203685477580) then (if (wrap64 ((wrap64 (bt x4_5 x31_4)) - 48)) > 8 then (some (0, false)) else (tendrilref02_Whole.l0 kj12 a0 x4_5 x5_1 (wrap64 ((wrap64 (10 * x6_4)) - (wrap64 ((wrap64 (bt x4_5 x31_4)) - 48)))) (x4_5.size : Int) (wrap64 (x31_4 + 1)))) else (tendrilref02_Whole.l0 kj12 a0 x4_5 x5_1 (wrap64 ((wrap64 (10 * x6_4)) - (wrap64 ((wrap64 (bt x4_5 x31_4)) - 48)))) (x4_5.size : Int) (wrap64 (x31_4 + 1))))) else (none)) else (none)) = some (r1, r2) := by rw [if_neg (show ¬ (false = true) by decide)] at H; exact H
                            clear H
                            have H := H1
                            clear H1
                            by_cases c20 : 0 ≤ x31_4
                            · rw [if_pos c20] at H
                              have c20b0 : decide (0 ≤ x31_4) = true := decide_eq_true c20
                              clear c20
                              by_cases c21 : x31_4 < (x4_5.size : Int)
                              · rw [if_pos c21] at H
                                have c21b0 : decide (x31_4 < (x4_5.size : Int)) = true := decide_eq_true c21
                                clear c21
                                by_cases c23 : x6_4 < (-922337203685477580)
                                · rw [if_pos c23] at H
                                  have c23b0 : decide (x6_4 < (-922337203685477580)) = true := decide_eq_true c23
                                  clear c23
                                  simp only [Option.some.injEq, Prod.mk.injEq] at H
                                  obtain ⟨rfl, rfl⟩ := H
                                  have p22 : 0 ≤ (x31_4 : Int) := of_decide_eq_true (by first | (with_reducible assumption) | assumption)
                                  have q22 : x31_4 < (x4_5.size : Int) := of_decide_eq_true (by first | (with_reducible assumption) | assumption)
                                  have hx22 := bt_at x4_5 x31_4
                                  replace p22 := eq_true p22
                                  replace q22 := eq_true q22
                                  go_wp2
                                  go_ret2
                                  exact ⟨by first | rfl | (simp [errW_none, errW_some] <;> rfl) | (simp [*, errW_none, errW_some] <;> rfl), by repeat (first | (with_reducible first | exact HB.out | apply below_alloc | apply pw_below_drewN | apply below_drew1) | exact HB.out)⟩
                                · rw [if_neg c23] at H
                                  have c23b0 : decide (x6_4 < (-922337203685477580)) = false := decide_eq_false c23
                                  clear c23
                                  by_cases c24 : x6_4 = (-922337203685477580)
                                  · rw [if_pos c24] at H
                                    have c24b0 : (x6_4 == (-922337203685477580)) = true := beq_iff_eq.mpr c24
                                    have c24b1 : (x6_4 != (-922337203685477580)) = false := bne_eq_false_iff_eq.mpr c24
                                    clear c24
                                    by_cases c25 : (wrap64 ((wrap64 (bt x4_5 x31_4)) - 48)) > 8
                                    · rw [if_pos c25] at H
                                      have c25b0 : decide (8 < (wrap64 ((wrap64 (bt x4_5 x31_4)) - 48))) = true := decide_eq_true c25
                                      clear c25
                                      simp only [Option.some.injEq, Prod.mk.injEq] at H
                                      obtain ⟨rfl, rfl⟩ := H
                                      have p22 : 0 ≤ (x31_4 : Int) := of_decide_eq_true (by first | (with_reducible assumption) | assumption)
                                      have q22 : x31_4 < (x4_5.size : Int) := of_decide_eq_true (by first | (with_reducible assumption) | assumption)
                                      have hx22 := bt_at x4_5 x31_4
                                      replace p22 := eq_true p22
                                      replace q22 := eq_true q22
                                      go_wp2
                                      go_ret2
                                      exact ⟨by first | rfl | (simp [errW_none, errW_some] <;> rfl) | (simp [*, errW_none, errW_some] <;> rfl), by repeat (first | (with_reducible first | exact HB.out | apply below_alloc | apply pw_below_drewN | apply below_drew1) | exact HB.out)⟩
                                    · rw [if_neg c25] at H
                                      have c25b0 : decide (8 < (wrap64 ((wrap64 (bt x4_5 x31_4)) - 48))) = false := decide_eq_false c25
                                      clear c25
                                      have H' := Aside0.mk H
                                      clear H
                                      have p22 : 0 ≤ (x31_4 : Int) := of_decide_eq_true (by first | (with_reducible assumption) | assumption)
                                      have q22 : x31_4 < (x4_5.size : Int) := of_decide_eq_true (by first | (with_reducible assumption) | assumption)
                                      have hx22 := bt_at x4_5 x31_4
                                      replace p22 := eq_true p22
                                      replace q22 := eq_true q22
                                      go_wp2
                                      go_roundg kj12
                                      case measure => have := HJ1.out; have := HJ5.out; have := HJ8.out; have := HK4.out; have := HJ12.out; omega
                                      case rel => exact ⟨(wrap64 ((wrap64 (10 * x6_4)) - (wrap64 ((wrap64 (bt x4_5 x31_4)) - 48)))), (wrap64 (x31_4 + 1)), (by first | rfl | (simp; done) | (simp [*]; done)), (by first | rfl | (simp; done) | (simp [*]; done)), H', ⟨by have := HJ1.out; have := HJ5.out; have := HJ8.out; have := HK4.out; have := HJ12.out; omega⟩, ⟨by repeat (first | (with_reducible first | exact HB.out | apply below_alloc | apply pw_below_drewN | apply below_drew1) | exact HB.out)⟩⟩
                                  · rw [if_neg c24] at H
                                    have c24b0 : (x6_4 == (-922337203685477580)) = false := beq_eq_false_iff_ne.mpr c24
                                    have c24b1 : (x6_4 != (-922337203685477580)) = true := bne_iff_ne.mpr c24
                                    have H' := Aside0.mk H
                                    clear H
                                    have p22 : 0 ≤ (x31_4 : Int) := of_decide_eq_true (by first | (with_reducible assumption) | assumption)
                                    have q22 : x31_4 < (x4_5.size : Int) := of_decide_eq_true (by first | (with_reducible assumption) | assumption)
                                    have hx22 := bt_at x4_5 x31_4
                                    replace p22 := eq_true p22
                                    replace q22 := eq_true q22
                                    go_wp2
                                    go_roundg kj12
                                    case measure => have := HJ1.out; have := HJ5.out; have := HJ8.out; have := HK4.out; have := HJ12.out; omega
                                    case rel => exact ⟨(wrap64 ((wrap64 (10 * x6_4)) - (wrap64 ((wrap64 (bt x4_5 x31_4)) - 48)))), (wrap64 (x31_4 + 1)), (by first | rfl | (simp; done) | (simp [*]; done)), (by first | rfl | (simp; done) | (simp [*]; done)), H', ⟨by have := HJ1.out; have := HJ5.out; have := HJ8.out; have := HK4.out; have := HJ12.out; omega⟩, ⟨by repeat (first | (with_reducible first | exact HB.out | apply below_alloc | apply pw_below_drewN | apply below_drew1) | exact HB.out)⟩⟩
                              · rw [if_neg c21] at H
                                exact absurd H (by simp)
                            · rw [if_neg c20] at H
                              exact absurd H (by simp)
                    · rw [if_neg c12] at H
                      have c12b0 : decide (x31_4 < (x4_5.size : Int)) = false := decide_eq_false c12
                      clear c12
                      have HC26 := Aside0.mk H
                      clear H
                      go_upto_region 18 with (fail)
                      go_cut [69] (fun v69 wc => ∃ (kq : Nat) (x69_25 : Bool), v69 = .bool x69_25 ∧ Aside0 (tendrilref02_Whole.j5 kq a0 x5_1 x6_4 x69_25 = some (r1, r2)) ∧ Aside0 (kq ≤ k4) ∧ Aside0 (Below w.heap.size w wc))
                      case first =>
                        have H := HC26.out
                        clear HC26
                        by_cases c27 : x5_1 = true
                        · subst c27
                          have H1 : (tendrilref02_Whole.j5 k4 a0 true x6_4 false) = some (r1, r2) := by rw [if_pos rfl] at H; exact H
                          clear H
                          have H := H1
                          clear H1
                          have H' := Aside0.mk H
                          clear H
                          go_wp2
                          go_meet
                          case rel => exact ⟨_, (false), (by first | rfl | (simp; done) | (simp [*]; done)), H', ⟨by have := HJ1.out; have := HJ5.out; have := HJ8.out; have := HK4.out; first | omega | exact Nat.le_refl _⟩, ⟨by repeat (first | (with_reducible first | exact HB.out | apply below_alloc | apply pw_below_drewN | apply below_drew1) | exact HB.out)⟩⟩
                        · replace c27 := Bool.eq_false_iff.mpr c27
                          subst c27
                          have H1 : (tendrilref02_Whole.j5 k4 a0 false x6_4 (x6_4 == (-9223372036854775808))) = some (r1, r2) := by rw [if_neg (show ¬ (false = true) by decide)] at H; exact H
                          clear H
                          have H := H1
                          clear H1
                          have H' := Aside0.mk H
                          clear H
                          go_wp2
                          go_meet
                          case rel => exact ⟨_, ((x6_4 == (-9223372036854775808))), (by first | rfl | (simp; done) | (simp [*]; done)), H', ⟨by have := HJ1.out; have := HJ5.out; have := HJ8.out; have := HK4.out; first | omega | exact Nat.le_refl _⟩, ⟨by repeat (first | (with_reducible first | exact HB.out | apply below_alloc | apply pw_below_drewN | apply below_drew1) | exact HB.out)⟩⟩
                      case rest =>
                        clear HC26
                        try clear c1
                        try clear p1
                        try clear q1
                        try clear hx1
                        try clear c2
                        try clear p2
                        try clear q2
                        try clear hx2
                        try clear c3
                        try clear c3b0
                        try clear c3b1
                        try clear c4
                        try clear c4b0
                        try clear c4b1
                        try clear p5
                        try clear q5
                        try clear hx5
                        try clear qi5
                        try clear p6
                        try clear c7
                        try clear c8
                        try clear c8b0
                        try clear c8b1
                        try clear c10
                        try clear c10b0
                        try clear c10b1
                        try clear c11
                        try clear c12
                        try clear c12b0
                        try clear c14
                        try clear c14b0
                        try clear c15
                        try clear c15b0
                        try clear p16
                        try clear q16
                        try clear hx16
                        try clear c17
                        try clear c17b0
                        try clear c18
                        try clear p18
                        try clear q18
                        try clear hx18
                        try clear c19
                        try clear c20
                        try clear c20b0
                        try clear c21
                        try clear c21b0
                        try clear p22
                        try clear q22
                        try clear hx22
                        try clear c23
                        try clear c23b0
                        try clear c24
                        try clear c24b0
                        try clear c24b1
                        try clear c25
                        try clear c25b0
                        try clear c27
                        try clear p1
                        try clear p16
                        try clear p18
                        try clear p2
                        try clear p22
                        try clear p5
                        try clear q1
                        try clear q16
                        try clear q18
                        try clear q22
                        try clear q5
                        obtain ⟨kq, x69_25, rfl, HA, HJ25, HB⟩ := hcut
                        cases kq with
                        | zero => exact absurd HA.out (by simp [tendrilref02_Whole.j5])
                        | succ kj25 =>
                          have H := HA.out
                          clear HA
                          simp only [tendrilref02_Whole.j5] at H
                          by_cases c28 : x69_25 = true
                          · subst c28
                            have H1 : (some (0, false)) = some (r1, r2) := by rw [if_pos rfl] at H; exact H
                            clear H
                            have H := H1
                            clear H1
                            simp only [Option.some.injEq, Prod.mk.injEq] at H
                            obtain ⟨rfl, rfl⟩ := H
                            go_wp2
                            go_ret2
                            exact ⟨by first | rfl | (simp [errW_none, errW_some] <;> rfl) | (simp [*, errW_none, errW_some] <;> rfl), by repeat (first | (with_reducible first | exact HB.out | apply below_alloc | apply pw_below_drewN | apply below_drew1) | exact HB.out)⟩
                          · replace c28 := Bool.eq_false_iff.mpr c28
                            subst c28
                            have H1 : (if x5_1 = true then ((tendrilref02_Decimal.f kj25 x6_4).bind fun t134 => (if t134.toList = a0.toList then (some (x6_4, true)) else (some (0, false)))) else ((tendrilref02_Decimal.f kj25 (wrap64 (-x6_4))).bind fun t135 => (if t135.toList = a0.toList then (some (wrap64 (-x6_4), true)) else (some (0, false))))) = some (r1, r2) := by rw [if_neg (show ¬ (false = true) by decide)] at H; exact H
                            clear H
                            have H := H1
                            clear H1
                            by_cases c29 : x5_1 = true
                            · subst c29
                              have H1 : ((tendrilref02_Decimal.f kj25 x6_4).bind fun t134 => (if t134.toList = a0.toList then (some (x6_4, true)) else (some (0, false)))) = some (r1, r2) := by rw [if_pos rfl] at H; exact H
                              clear H
                              have H := H1
                              clear H1
                              replace H := Option.bind_eq_some_iff.mp H
                              obtain ⟨t134, A300, H⟩ := H
                              replace H : (if t134.toList = a0.toList then (some (x6_4, true)) else (some (0, false))) = some (r1, r2) := H
                              have A30 := Aside0.mk A300
                              clear A300
                              by_cases c31 : t134.toList = a0.toList
                              · rw [if_pos c31] at H
                                have c31b0 : (t134.toList == a0.toList) = true := beq_iff_eq.mpr c31
                                have c31b1 : (t134.toList != a0.toList) = false := bne_eq_false_iff_eq.mpr c31
                                clear c31
                                simp only [Option.some.injEq, Prod.mk.injEq] at H
                                obtain ⟨rfl, rfl⟩ := H
                                go_wp2_with (first | ((with_reducible refine gate_callee (f := 20) rfl ?_); refine goesL_ (some 75) rfl rfl Tryd.func20 (by kernel_rfl) rfl #[.int .i64 x6_4] rfl (by (try simp only [List.map_toArray, List.map_cons, List.map_nil]); first | done | rfl | (simp only [List.length_drop, List.length_take]; rfl)) ?_; (with_reducible refine (tendrilref02_Decimal.calls kj25 x6_4 t134 _ ?side1 A30.out).mono ?_); (case side1 => first | exact HGL.out | exact (Go.Proofs.YtpanmmpkdbhofaaDoorX.GL.below HGL.out (by repeat (first | (with_reducible first | exact HB.out | apply below_alloc | apply pw_below_drewN | apply below_drew1) | exact HB.out))) | (repeat (first | exact HGL.out | (with_reducible refine Go.Proofs.YtpanmmpkdbhofaaDoorX.GL.drewN ?_ _) | (with_reducible refine Go.Proofs.YtpanmmpkdbhofaaDoorX.GL.drew ?_)))); rintro e w32 ⟨rfl, hb⟩; refine ⟨_, rfl, ?_⟩; have n0_ := Aside0.mk (below_step (by repeat (first | (with_reducible first | exact HB.out | apply below_alloc | apply pw_below_drewN | apply below_drew1) | exact HB.out)) hb); clear HB; have HB := n0_; clear n0_; (try clear hb); (try clear hb2); (try clear hk); (try clear hi)))
                                go_ret2
                                exact ⟨by first | rfl | (simp [errW_none, errW_some] <;> rfl) | (simp [*, errW_none, errW_some] <;> rfl), by repeat (first | (with_reducible first | exact HB.out | apply below_alloc | apply pw_below_drewN | apply below_drew1) | exact HB.out)⟩
                              · rw [if_neg c31] at H
                                have c31b0 : (t134.toList == a0.toList) = false := beq_eq_false_iff_ne.mpr c31
                                have c31b1 : (t134.toList != a0.toList) = true := bne_iff_ne.mpr c31
                                simp only [Option.some.injEq, Prod.mk.injEq] at H
                                obtain ⟨rfl, rfl⟩ := H
                                go_wp2_with (first | ((with_reducible refine gate_callee (f := 20) rfl ?_); refine goesL_ (some 75) rfl rfl Tryd.func20 (by kernel_rfl) rfl #[.int .i64 x6_4] rfl (by (try simp only [List.map_toArray, List.map_cons, List.map_nil]); first | done | rfl | (simp only [List.length_drop, List.length_take]; rfl)) ?_; (with_reducible refine (tendrilref02_Decimal.calls kj25 x6_4 t134 _ ?side1 A30.out).mono ?_); (case side1 => first | exact HGL.out | exact (Go.Proofs.YtpanmmpkdbhofaaDoorX.GL.below HGL.out (by repeat (first | (with_reducible first | exact HB.out | apply below_alloc | apply pw_below_drewN | apply below_drew1) | exact HB.out))) | (repeat (first | exact HGL.out | (with_reducible refine Go.Proofs.YtpanmmpkdbhofaaDoorX.GL.drewN ?_ _) | (with_reducible refine Go.Proofs.YtpanmmpkdbhofaaDoorX.GL.drew ?_)))); rintro e w33 ⟨rfl, hb⟩; refine ⟨_, rfl, ?_⟩; have n0_ := Aside0.mk (below_step (by repeat (first | (with_reducible first | exact HB.out | apply below_alloc | apply pw_below_drewN | apply below_drew1) | exact HB.out)) hb); clear HB; have HB := n0_; clear n0_; (try clear hb); (try clear hb2); (try clear hk); (try clear hi)))
                                go_ret2
                                exact ⟨by first | rfl | (simp [errW_none, errW_some] <;> rfl) | (simp [*, errW_none, errW_some] <;> rfl), by repeat (first | (with_reducible first | exact HB.out | apply below_alloc | apply pw_below_drewN | apply below_drew1) | exact HB.out)⟩
                            · replace c29 := Bool.eq_false_iff.mpr c29
                              subst c29
                              have H1 : ((tendrilref02_Decimal.f kj25 (wrap64 (-x6_4))).bind fun t135 => (if t135.toList = a0.toList then (some (wrap64 (-x6_4), true)) else (some (0, false)))) = some (r1, r2) := by rw [if_neg (show ¬ (false = true) by decide)] at H; exact H
                              clear H
                              have H := H1
                              clear H1
                              replace H := Option.bind_eq_some_iff.mp H
                              obtain ⟨t135, A340, H⟩ := H
                              replace H : (if t135.toList = a0.toList then (some (wrap64 (-x6_4), true)) else (some (0, false))) = some (r1, r2) := H
                              have A34 := Aside0.mk A340
                              clear A340
                              by_cases c35 : t135.toList = a0.toList
                              · rw [if_pos c35] at H
                                have c35b0 : (t135.toList == a0.toList) = true := beq_iff_eq.mpr c35
                                have c35b1 : (t135.toList != a0.toList) = false := bne_eq_false_iff_eq.mpr c35
                                clear c35
                                simp only [Option.some.injEq, Prod.mk.injEq] at H
                                obtain ⟨rfl, rfl⟩ := H
                                go_wp2_with (first | ((with_reducible refine gate_callee (f := 20) rfl ?_); refine goesL_ (some 75) rfl rfl Tryd.func20 (by kernel_rfl) rfl #[.int .i64 (wrap64 (-x6_4))] rfl (by (try simp only [List.map_toArray, List.map_cons, List.map_nil]); first | done | rfl | (simp only [List.length_drop, List.length_take]; rfl)) ?_; (with_reducible refine (tendrilref02_Decimal.calls kj25 (wrap64 (-x6_4)) t135 _ ?side1 A34.out).mono ?_); (case side1 => first | exact HGL.out | exact (Go.Proofs.YtpanmmpkdbhofaaDoorX.GL.below HGL.out (by repeat (first | (with_reducible first | exact HB.out | apply below_alloc | apply pw_below_drewN | apply below_drew1) | exact HB.out))) | (repeat (first | exact HGL.out | (with_reducible refine Go.Proofs.YtpanmmpkdbhofaaDoorX.GL.drewN ?_ _) | (with_reducible refine Go.Proofs.YtpanmmpkdbhofaaDoorX.GL.drew ?_)))); rintro e w36 ⟨rfl, hb⟩; refine ⟨_, rfl, ?_⟩; have n0_ := Aside0.mk (below_step (by repeat (first | (with_reducible first | exact HB.out | apply below_alloc | apply pw_below_drewN | apply below_drew1) | exact HB.out)) hb); clear HB; have HB := n0_; clear n0_; (try clear hb); (try clear hb2); (try clear hk); (try clear hi)))
                                go_ret2
                                exact ⟨by first | rfl | (simp [errW_none, errW_some] <;> rfl) | (simp [*, errW_none, errW_some] <;> rfl), by repeat (first | (with_reducible first | exact HB.out | apply below_alloc | apply pw_below_drewN | apply below_drew1) | exact HB.out)⟩
                              · rw [if_neg c35] at H
                                have c35b0 : (t135.toList == a0.toList) = false := beq_eq_false_iff_ne.mpr c35
                                have c35b1 : (t135.toList != a0.toList) = true := bne_iff_ne.mpr c35
                                simp only [Option.some.injEq, Prod.mk.injEq] at H
                                obtain ⟨rfl, rfl⟩ := H
                                go_wp2_with (first | ((with_reducible refine gate_callee (f := 20) rfl ?_); refine goesL_ (some 75) rfl rfl Tryd.func20 (by kernel_rfl) rfl #[.int .i64 (wrap64 (-x6_4))] rfl (by (try simp only [List.map_toArray, List.map_cons, List.map_nil]); first | done | rfl | (simp only [List.length_drop, List.length_take]; rfl)) ?_; (with_reducible refine (tendrilref02_Decimal.calls kj25 (wrap64 (-x6_4)) t135 _ ?side1 A34.out).mono ?_); (case side1 => first | exact HGL.out | exact (Go.Proofs.YtpanmmpkdbhofaaDoorX.GL.below HGL.out (by repeat (first | (with_reducible first | exact HB.out | apply below_alloc | apply pw_below_drewN | apply below_drew1) | exact HB.out))) | (repeat (first | exact HGL.out | (with_reducible refine Go.Proofs.YtpanmmpkdbhofaaDoorX.GL.drewN ?_ _) | (with_reducible refine Go.Proofs.YtpanmmpkdbhofaaDoorX.GL.drew ?_)))); rintro e w37 ⟨rfl, hb⟩; refine ⟨_, rfl, ?_⟩; have n0_ := Aside0.mk (below_step (by repeat (first | (with_reducible first | exact HB.out | apply below_alloc | apply pw_below_drewN | apply below_drew1) | exact HB.out)) hb); clear HB; have HB := n0_; clear n0_; (try clear hb); (try clear hb2); (try clear hk); (try clear hi)))
                                go_ret2
                                exact ⟨by first | rfl | (simp [errW_none, errW_some] <;> rfl) | (simp [*, errW_none, errW_some] <;> rfl), by repeat (first | (with_reducible first | exact HB.out | apply below_alloc | apply pw_below_drewN | apply below_drew1) | exact HB.out)⟩

end Go.Proofs.YtpanmmpkdbhofaaDoor.P12r

namespace Go.Proofs.YtpanmmpkdbhofaaDoor.P12r
open Go.RowKit Go.Proofs.YtpanmmpkdbhofaaDoorE Go.Proofs.YtpanmmpkdbhofaaDoorW.PrintWords Go.Proofs.YtpanmmpkdbhofaaDoorW.PrintLast Go.Proofs.YtpanmmpkdbhofaaDoorW.PrintMore
attribute [local go_sem] max2_int min2_int max_two min_two max_three min_three max_four min_four   -- for this text's walks alone
set_option linter.unusedVariables false
set_option linter.unusedSimpArgs false

attribute [local go_sem high] eqA56

def tendrilref03_Unescape.l0 : Nat → ByteArray → List Int → Int → Option (ByteArray × Int × Int)
  | 0, _, _, _ => none
  | k + 1, x0, x5, x6 => if x6 < (x0.size : Int) then (if 0 ≤ x6 then (if x6 ≤ (x0.size : Int) then ((tendrilref03_one.f k (x0.extract (x6 : Int).toNat x0.size)).bind fun t144 => (if t144 < 0 then (some ((⟨#[]⟩ : ByteArray), x6, 2)) else (if x5.length < 140737488355328 then ((tendrilref03_Form.f k ((t144) % 256)).bind fun t148 => (tendrilref03_Unescape.l0 k x0 (x5 ++ [(t144) % 256]) (wrap64 (x6 + (t148.size : Int))))) else (none)))) else (none)) else (none)) else (some (strOfNums x5, 0, 0))
def tendrilref03_Unescape.f (k : Nat) (a0 : ByteArray) : Option (ByteArray × Int × Int) := tendrilref03_Unescape.l0 k a0 ([] : List Int) 0
theorem tendrilref03_Unescape.mono_l : ∀ k, (∀ y0 y1 y2, LeO (tendrilref03_Unescape.l0 k y0 y1 y2) (tendrilref03_Unescape.l0 (k + 1) y0 y1 y2))
  | 0 => fun _ _ _ r h => by simp [tendrilref03_Unescape.l0] at h
  | k + 1 => by
    have ih0 := tendrilref03_Unescape.mono_l k
    · intro y0 y1 y2
      unfold tendrilref03_Unescape.l0
      repeat' first
      | (with_reducible exact ih0 _ _ _)
      | (with_reducible exact tendrilref03_Form.mono _ _)
      | (with_reducible exact tendrilref03_one.mono _ _)
      | (with_reducible exact LeO.refl _)
      | (with_reducible exact LeO.none _)
      | (with_reducible refine LeO.ite ?_ ?_)
      | (with_reducible refine LeO.bind ?_ (fun _ => ?_))
      | exact ih0 _ _ _
      | exact tendrilref03_Form.mono _ _
      | exact tendrilref03_one.mono _ _
      | exact LeO.none _
      | refine LeO.ite ?_ ?_
      | refine LeO.bind ?_ (fun _ => ?_)
theorem tendrilref03_Unescape.mono : ∀ a0 k, LeO (tendrilref03_Unescape.f k a0) (tendrilref03_Unescape.f (k + 1) a0) := by
  intro a0 k
  have ih0 := tendrilref03_Unescape.mono_l k
  unfold tendrilref03_Unescape.f
  repeat' first
      | (with_reducible exact ih0 _ _ _)
      | (with_reducible exact tendrilref03_Form.mono _ _)
      | (with_reducible exact tendrilref03_one.mono _ _)
      | (with_reducible exact LeO.refl _)
      | (with_reducible exact LeO.none _)
      | (with_reducible refine LeO.ite ?_ ?_)
      | (with_reducible refine LeO.bind ?_ (fun _ => ?_))
      | exact ih0 _ _ _
      | exact tendrilref03_Form.mono _ _
      | exact tendrilref03_one.mono _ _
      | exact LeO.none _
      | refine LeO.ite ?_ ?_
      | refine LeO.bind ?_ (fun _ => ?_)
set_option maxHeartbeats 8000000 in
set_option maxRecDepth 100000 in
theorem tendrilref03_Unescape.calls (k : Nat) (a0 : ByteArray) (r1 : ByteArray) (r2 : Int) (r3 : Int) (w : World) (hgl : Go.Proofs.YtpanmmpkdbhofaaDoorX.GL w) (h : tendrilref03_Unescape.f k a0 = some (r1, r2, r3)) :
    Calls Tryd.prog 32 #[.string a0] w fun e w' => e = .returned (.tuple #[.string r1, .int .i64 r2, .int .i64 r3]) ∧ Below w.heap.size w w' := by
  have HGL := Aside0.mk hgl
  clear hgl
  have HB := Aside0.mk (Below.refl w.heap.size w)
  have H : (tendrilref03_Unescape.l0 k a0 ([] : List Int) 0) = some (r1, r2, r3) := h
  clear h
  have H' := Aside0.mk H
  clear H
  go_enter Tryd.func32, Tryd.ntmps32
  go_wp2
  go_loopg [5, 6] k (fun kq v5 v6 w' => ∃ (x5_1 : List Int) (x6_1 : Int), v6 = .int .i64 x6_1 ∧ Aside0 (tendrilref03_Unescape.l0 kq a0 x5_1 x6_1 = some (r1, r2, r3)) ∧ Aside0 (kq ≤ k) ∧ Aside0 (Kd.R (Kd.int .u8) 5 w' w.heap.size (fun _ => True) v5 x5_1) ∧ Aside0 (Below w.heap.size w w'))
  case atStart => exact ⟨(([] : List Int)), (0), (by first | rfl | (simp; done) | (simp [*]; done)), H', ⟨Nat.le_refl _⟩, ⟨by first | exact Kd.R_nil _ _ _ _ _ | exact Kd.N_nil _ _ _ _ _ | exact Kd.V_nil _ _ _ _ _ | exact Kd.Q_nil _ _ _ _ _ | exact Kd.S_nil _ _ _ _ _⟩, ⟨by repeat (first | (with_reducible first | exact HB.out | apply below_alloc | apply pw_below_drewN | apply below_drew1) | exact HB.out)⟩⟩
  case round =>
    clear H'
    obtain ⟨x5_1, x6_1, rfl, HA, HK1, HO_5, HB⟩ := hrel
    cases gk with
    | zero => exact absurd HA.out (by simp [tendrilref03_Unescape.l0])
    | succ k1 =>
      have H := HA.out
      clear HA
      simp only [tendrilref03_Unescape.l0] at H
      by_cases c2 : x6_1 < (a0.size : Int)
      · rw [if_pos c2] at H
        have c2b0 : decide (x6_1 < (a0.size : Int)) = true := decide_eq_true c2
        clear c2
        by_cases c3 : 0 ≤ x6_1
        · rw [if_pos c3] at H
          have c3b0 := eq_true c3
          have c3b1 : decide (0 ≤ x6_1) = true := decide_eq_true c3
          clear c3
          by_cases c4 : x6_1 ≤ (a0.size : Int)
          · rw [if_pos c4] at H
            have c4b0 := eq_true c4
            have c4b1 : decide (x6_1 ≤ (a0.size : Int)) = true := decide_eq_true c4
            clear c4
            replace H := Option.bind_eq_some_iff.mp H
            obtain ⟨t144, A50, H⟩ := H
            replace H : (if t144 < 0 then (some ((⟨#[]⟩ : ByteArray), x6_1, 2)) else (if x5_1.length < 140737488355328 then ((tendrilref03_Form.f k1 ((t144) % 256)).bind fun t148 => (tendrilref03_Unescape.l0 k1 a0 (x5_1 ++ [(t144) % 256]) (wrap64 (x6_1 + (t148.size : Int))))) else (none))) = some (r1, r2, r3) := H
            have A5 := Aside0.mk A50
            clear A50
            by_cases c6 : t144 < 0
            · rw [if_pos c6] at H
              have c6b0 : decide (t144 < 0) = true := decide_eq_true c6
              clear c6
              simp only [Option.some.injEq, Prod.mk.injEq] at H
              obtain ⟨rfl, rfl, rfl⟩ := H
              go_wp2_with (first | ((with_reducible refine gate_callee (f := 62) rfl ?_); refine goesL_ (some 15) rfl rfl Tryd.func62 (by kernel_rfl) rfl #[.string (a0.extract (x6_1 : Int).toNat a0.size)] rfl (by (try simp only [List.map_toArray, List.map_cons, List.map_nil]); first | done | rfl | (simp only [List.length_drop, List.length_take]; rfl)) ?_; (with_reducible refine (tendrilref03_one.calls k1 (a0.extract (x6_1 : Int).toNat a0.size) t144 _ ?side1 A5.out).mono ?_); (case side1 => first | exact HGL.out | exact (Go.Proofs.YtpanmmpkdbhofaaDoorX.GL.below HGL.out (by repeat (first | (with_reducible first | exact HB.out | apply below_alloc | apply pw_below_drewN | apply below_drew1) | exact HB.out))) | (repeat (first | exact HGL.out | (with_reducible refine Go.Proofs.YtpanmmpkdbhofaaDoorX.GL.drewN ?_ _) | (with_reducible refine Go.Proofs.YtpanmmpkdbhofaaDoorX.GL.drew ?_)))); rintro e w7 ⟨rfl, hb⟩; refine ⟨_, rfl, ?_⟩; have n0_ := Aside0.mk (Kd.R_below (by (with_reducible repeat (first | apply Kd.R_alloc | apply Kd.R_drewN | apply Kd.R_drew)); exact HO_5.out) hb); have n1_ := Aside0.mk (below_step (by repeat (first | (with_reducible first | exact HB.out | apply below_alloc | apply pw_below_drewN | apply below_drew1) | exact HB.out)) hb); clear HO_5; clear HB; have HO_5 := n0_; have HB := n1_; clear n0_ n1_; (try clear hb); (try clear hb2); (try clear hk); (try clear hi)))
              go_ret3
              exact ⟨by first | rfl | (simp [errW_none, errW_some] <;> rfl) | (simp [*, errW_none, errW_some] <;> rfl), by repeat (first | (with_reducible first | exact HB.out | apply below_alloc | apply pw_below_drewN | apply below_drew1) | exact HB.out)⟩
            · rw [if_neg c6] at H
              have c6b0 : decide (t144 < 0) = false := decide_eq_false c6
              clear c6
              by_cases c8 : x5_1.length < 140737488355328
              · rw [if_pos c8] at H
                have LMc8 := Aside0.mk c8
                clear c8
                obtain ⟨y145, hy145⟩ : ∃ y_ : List Int, y_ = (x5_1 ++ [(t144) % 256]) := ⟨_, rfl⟩
                replace H : ((tendrilref03_Form.f k1 ((t144) % 256)).bind fun t148 => (tendrilref03_Unescape.l0 k1 a0 y145 (wrap64 (x6_1 + (t148.size : Int))))) = some (r1, r2, r3) := by first | (rw [hy145]; with_reducible exact H) | (have H2_ := (Option.bind_some _ _).symm.trans H; rw [hy145]; with_reducible exact H2_) | (have H2_ := (Option.bind_some _ _).symm.trans H; with_reducible exact H2_) | with_reducible exact H | (rw [hy145]; exact H) | exact H
                have Ny145 := Aside0.mk hy145
                clear hy145
                replace H := Option.bind_eq_some_iff.mp H
                obtain ⟨t148, A90, H⟩ := H
                replace H : (tendrilref03_Unescape.l0 k1 a0 y145 (wrap64 (x6_1 + (t148.size : Int)))) = some (r1, r2, r3) := H
                have A9 := Aside0.mk A90
                clear A90
                have H' := Aside0.mk H
                clear H
                go_wp2_with (first | ((with_reducible refine gate_callee (f := 62) rfl ?_); refine goesL_ (some 15) rfl rfl Tryd.func62 (by kernel_rfl) rfl #[.string (a0.extract (x6_1 : Int).toNat a0.size)] rfl (by (try simp only [List.map_toArray, List.map_cons, List.map_nil]); first | done | rfl | (simp only [List.length_drop, List.length_take]; rfl)) ?_; (with_reducible refine (tendrilref03_one.calls k1 (a0.extract (x6_1 : Int).toNat a0.size) t144 _ ?side1 A5.out).mono ?_); (case side1 => first | exact HGL.out | exact (Go.Proofs.YtpanmmpkdbhofaaDoorX.GL.below HGL.out (by repeat (first | (with_reducible first | exact HB.out | apply below_alloc | apply pw_below_drewN | apply below_drew1) | exact HB.out))) | (repeat (first | exact HGL.out | (with_reducible refine Go.Proofs.YtpanmmpkdbhofaaDoorX.GL.drewN ?_ _) | (with_reducible refine Go.Proofs.YtpanmmpkdbhofaaDoorX.GL.drew ?_)))); rintro e w10 ⟨rfl, hb⟩; refine ⟨_, rfl, ?_⟩; have n0_ := Aside0.mk (Kd.R_below (by (with_reducible repeat (first | apply Kd.R_alloc | apply Kd.R_drewN | apply Kd.R_drew)); exact HO_5.out) hb); have n1_ := Aside0.mk (below_step (by repeat (first | (with_reducible first | exact HB.out | apply below_alloc | apply pw_below_drewN | apply below_drew1) | exact HB.out)) hb); clear HO_5; clear HB; have HO_5 := n0_; have HB := n1_; clear n0_ n1_; (try clear hb); (try clear hb2); (try clear hk); (try clear hi)) | ((with_reducible refine gate_builtin (b := .append) (xs := #[.tmp 19, .tmp 22]) rfl ?_); at_builtin; refine Kd.R_append (Kd.int .u8) (w0 := w) w.heap.size rfl (.tmp 19) (.tmp 22) 73 5 (.int .u8 0) 1 rfl Tryd.underlying73 info5 rfl (by decide) (by omega) u5 x5_1 ((t144) % 256) [.int .u8 ((t144) % 256)] (fun _ => True) (fun _ => False) rfl rfl ?aP (fun _ hk => hk.elim) ?aF ?aO ?aB ?aS ?aL ?_; (case aP => exact rfl); (case aB => exact (by repeat (first | (with_reducible first | exact HB.out | apply below_alloc | apply pw_below_drewN | apply below_drew1) | exact HB.out))); (case aF => exact (fun _ _ => trivial)); (case aO => exact (by (with_reducible repeat (first | apply Kd.R_alloc | apply Kd.R_drewN | apply Kd.R_drew)); exact HO_5.out)); (case aS => exact (below_size (by repeat (first | (with_reducible first | exact HB.out | apply below_alloc | apply pw_below_drewN | apply below_drew1) | exact HB.out)))); (case aL => have := LMc8.out; omega); intro v146 w11 ho hb hg hat; rw [← Ny145.out] at ho; have n0_ := Aside0.mk (hb); have n1_ := Aside0.mk (ho); clear HB; clear HO_5; have HB := n0_; have HO147 := n1_; clear n0_ n1_; clear ho hb hg hat) | ((with_reducible refine gate_callee (f := 63) rfl ?_); refine goesL_ (some 27) rfl rfl Tryd.func63 (by kernel_rfl) rfl #[.int .u8 ((t144) % 256)] rfl (by (try simp only [List.map_toArray, List.map_cons, List.map_nil]); first | done | rfl | (simp only [List.length_drop, List.length_take]; rfl)) ?_; (with_reducible refine (tendrilref03_Form.calls k1 ((t144) % 256) t148 _ ?side1 A9.out).mono ?_); (case side1 => first | exact HGL.out | exact (Go.Proofs.YtpanmmpkdbhofaaDoorX.GL.below HGL.out (by repeat (first | (with_reducible first | exact HB.out | apply below_alloc | apply pw_below_drewN | apply below_drew1) | exact HB.out))) | (repeat (first | exact HGL.out | (with_reducible refine Go.Proofs.YtpanmmpkdbhofaaDoorX.GL.drewN ?_ _) | (with_reducible refine Go.Proofs.YtpanmmpkdbhofaaDoorX.GL.drew ?_)))); rintro e w12 ⟨rfl, hb⟩; refine ⟨_, rfl, ?_⟩; have n0_ := Aside0.mk (Kd.R_below (by (with_reducible repeat (first | apply Kd.R_alloc | apply Kd.R_drewN | apply Kd.R_drew)); exact HO147.out) hb); have n1_ := Aside0.mk (below_step (by repeat (first | (with_reducible first | exact HB.out | apply below_alloc | apply pw_below_drewN | apply below_drew1) | exact HB.out)) hb); clear HO147; clear HB; have HO147 := n0_; have HB := n1_; clear n0_ n1_; (try clear hb); (try clear hb2); (try clear hk); (try clear hi)))
                go_roundg k1
                case measure => have := HK1.out; omega
                case rel => exact ⟨(y145), (wrap64 (x6_1 + (t148.size : Int))), (by first | rfl | (simp; done) | (simp [*]; done)), H', ⟨by have := HK1.out; omega⟩, ⟨by (with_reducible repeat (first | apply Kd.R_alloc | apply Kd.R_drewN | apply Kd.R_drew)); exact HO147.out⟩, ⟨by repeat (first | (with_reducible first | exact HB.out | apply below_alloc | apply pw_below_drewN | apply below_drew1) | exact HB.out)⟩⟩
              · rw [if_neg c8] at H
                exact absurd H (by simp)
          · rw [if_neg c4] at H
            exact absurd H (by simp)
        · rw [if_neg c3] at H
          exact absurd H (by simp)
      · rw [if_neg c2] at H
        have c2b0 : decide (x6_1 < (a0.size : Int)) = false := decide_eq_false c2
        clear c2
        simp only [Option.some.injEq, Prod.mk.injEq] at H
        obtain ⟨rfl, rfl, rfl⟩ := H
        have hcv13 := own_string (P := Tryd.prog) Tryd.underlying73 Tryd.underlying5 Tryd.underlying9 (Kd.own_of_R HO_5.out)
        go_wp2
        go_ret3
        exact ⟨by first | rfl | (simp [errW_none, errW_some] <;> rfl) | (simp [*, errW_none, errW_some] <;> rfl), by repeat (first | (with_reducible first | exact HB.out | apply below_alloc | apply pw_below_drewN | apply below_drew1) | exact HB.out)⟩

def tendrilref12_Find.l0 : Nat → List (S56) → Int → Int → ByteArray → ByteArray → Int → Option (Int)
  | 0, _, _, _, _, _, _ => none
  | k + 1, x0, x7, x8, x162000, x162001, x162002 => if x8 < x7 then (if 0 ≤ x8 then (if x8 < (x0.length : Int) then (if ((((rd_T56 x0 x8).f0).toList) == x162000.toList && ((((rd_T56 x0 x8).f1).toList) == x162001.toList && (((rd_T56 x0 x8).f2) == x162002))) = true then (some x8) else (tendrilref12_Find.l0 k x0 x7 (wrap64 (x8 + 1)) x162000 x162001 x162002)) else (none)) else (none)) else (some (-1))
def tendrilref12_Find.f (k : Nat) (l0 : List (S56)) (a1_0 : ByteArray) (a1_1 : ByteArray) (a1_2 : Int) : Option (Int) := tendrilref12_Find.l0 k l0 (l0.length : Int) 0 a1_0 a1_1 a1_2
theorem tendrilref12_Find.mono_l : ∀ k, (∀ y0 y1 y2 y3 y4 y5, LeO (tendrilref12_Find.l0 k y0 y1 y2 y3 y4 y5) (tendrilref12_Find.l0 (k + 1) y0 y1 y2 y3 y4 y5))
  | 0 => fun _ _ _ _ _ _ r h => by simp [tendrilref12_Find.l0] at h
  | k + 1 => by
    have ih0 := tendrilref12_Find.mono_l k
    · intro y0 y1 y2 y3 y4 y5
      unfold tendrilref12_Find.l0
      repeat' first
      | (with_reducible exact ih0 _ _ _ _ _ _)
      | (with_reducible exact LeO.refl _)
      | (with_reducible exact LeO.none _)
      | (with_reducible refine LeO.ite ?_ ?_)
      | (with_reducible refine LeO.bind ?_ (fun _ => ?_))
      | exact ih0 _ _ _ _ _ _
      | exact LeO.none _
      | refine LeO.ite ?_ ?_
      | refine LeO.bind ?_ (fun _ => ?_)
theorem tendrilref12_Find.mono : ∀ a0 a1 a2 a3 k, LeO (tendrilref12_Find.f k a0 a1 a2 a3) (tendrilref12_Find.f (k + 1) a0 a1 a2 a3) := by
  intro a0 a1 a2 a3 k
  have ih0 := tendrilref12_Find.mono_l k
  unfold tendrilref12_Find.f
  repeat' first
      | (with_reducible exact ih0 _ _ _ _ _ _)
      | (with_reducible exact LeO.refl _)
      | (with_reducible exact LeO.none _)
      | (with_reducible refine LeO.ite ?_ ?_)
      | (with_reducible refine LeO.bind ?_ (fun _ => ?_))
      | exact ih0 _ _ _ _ _ _
      | exact LeO.none _
      | refine LeO.ite ?_ ?_
      | refine LeO.bind ?_ (fun _ => ?_)
set_option maxHeartbeats 8000000 in
set_option maxRecDepth 100000 in
theorem tendrilref12_Find.calls (k : Nat) (A0 : Option Addr) (c0 : Nat) (l0 : List (S56)) (a1_0 : ByteArray) (a1_1 : ByteArray) (a1_2 : Int) (r : Int) (w : World) (hgl : Go.Proofs.YtpanmmpkdbhofaaDoorX.GL w) (hr0 : Kd.C k56 w A0 l0.length l0) (hc0 : l0.length ≤ c0) (h : tendrilref12_Find.f k l0 a1_0 a1_1 a1_2 = some r) :
    Calls Tryd.prog 45 #[.slice A0 l0.length c0, .agg #[.string a1_0, .string a1_1, .int .i64 a1_2]] w fun e w' => e = .returned (.int .i64 r) ∧ Below w.heap.size w w' := by
  have hu56 := Tryd.underlying56
  have HR0 := Aside0.mk hr0
  have HC0 := Aside0.mk hc0
  clear hr0 hc0
  have HGL := Aside0.mk hgl
  clear hgl
  have HB := Aside0.mk (Below.refl w.heap.size w)
  have H : (tendrilref12_Find.l0 k l0 (l0.length : Int) 0 a1_0 a1_1 a1_2) = some r := h
  clear h
  have H' := Aside0.mk H
  clear H
  go_enter Tryd.func45, Tryd.ntmps45
  go_wp2_with (first | ((with_reducible refine gate_dst (N := 3) rfl ?_); refine box_event ?hg (N := 3) ?hd (cs := #[.string a1_0, .string a1_1, .int .i64 a1_2]) (t := 56) ?hr ?_; (case hd => rfl); (case hg => rfl); (case hr => first | (go_simp; done) | (go_simp; rfl)); intro gb161 hg w3 hbox hb; have n0_ := Aside0.mk (below_step (by repeat (first | (with_reducible first | exact HB.out | apply below_alloc | apply pw_below_drewN | apply below_drew1) | exact HB.out)) hb); have n1_ := Aside0.mk (hbox); have n2_ := Aside0.mk ((by rw [hg]; exact (below_size (by repeat (first | (with_reducible first | exact HB.out | apply below_alloc | apply pw_below_drewN | apply below_drew1) | exact HB.out))) : w.heap.size ≤ gb161)); have n3_ := Aside0.mk ((by rw [hg]; exact (below_size (by repeat (first | (with_reducible first | exact HB.out | apply below_alloc | apply pw_below_drewN | apply below_drew1) | exact HB.out))) : w.heap.size ≤ gb161)); clear HB; have HB := n0_; have BK161 := n1_; have GW161 := n2_; have GE161 := n3_; clear n0_ n1_ n2_ n3_; clear hb hbox hg))
  repeat (go_quiet (first | ((with_reducible refine gate_dst (N := 3) rfl ?_); refine box_event ?hg (N := 3) ?hd (cs := #[.string a1_0, .string a1_1, .int .i64 a1_2]) (t := 56) ?hr ?_; (case hd => rfl); (case hg => rfl); (case hr => first | (go_simp; done) | (go_simp; rfl)); intro gb161 hg w3 hbox hb; have n0_ := Aside0.mk (below_step (by repeat (first | (with_reducible first | exact HB.out | apply below_alloc | apply pw_below_drewN | apply below_drew1) | exact HB.out)) hb); have n1_ := Aside0.mk (hbox); have n2_ := Aside0.mk ((by rw [hg]; exact (below_size (by repeat (first | (with_reducible first | exact HB.out | apply below_alloc | apply pw_below_drewN | apply below_drew1) | exact HB.out))) : w.heap.size ≤ gb161)); have n3_ := Aside0.mk ((by rw [hg]; exact (below_size (by repeat (first | (with_reducible first | exact HB.out | apply below_alloc | apply pw_below_drewN | apply below_drew1) | exact HB.out))) : w.heap.size ≤ gb161)); clear HB; have HB := n0_; have BK161 := n1_; have GW161 := n2_; have GE161 := n3_; clear n0_ n1_ n2_ n3_; clear hb hbox hg)); try go_wp2_with (first | ((with_reducible refine gate_dst (N := 3) rfl ?_); refine box_event ?hg (N := 3) ?hd (cs := #[.string a1_0, .string a1_1, .int .i64 a1_2]) (t := 56) ?hr ?_; (case hd => rfl); (case hg => rfl); (case hr => first | (go_simp; done) | (go_simp; rfl)); intro gb161 hg w3 hbox hb; have n0_ := Aside0.mk (below_step (by repeat (first | (with_reducible first | exact HB.out | apply below_alloc | apply pw_below_drewN | apply below_drew1) | exact HB.out)) hb); have n1_ := Aside0.mk (hbox); have n2_ := Aside0.mk ((by rw [hg]; exact (below_size (by repeat (first | (with_reducible first | exact HB.out | apply below_alloc | apply pw_below_drewN | apply below_drew1) | exact HB.out))) : w.heap.size ≤ gb161)); have n3_ := Aside0.mk ((by rw [hg]; exact (below_size (by repeat (first | (with_reducible first | exact HB.out | apply below_alloc | apply pw_below_drewN | apply below_drew1) | exact HB.out))) : w.heap.size ≤ gb161)); clear HB; have HB := n0_; have BK161 := n1_; have GW161 := n2_; have GE161 := n3_; clear n0_ n1_ n2_ n3_; clear hb hbox hg)))
  go_loopg [8] k (fun kq v8 w' => ∃ (x8_1 : Int), v8 = .int .i64 x8_1 ∧ Aside0 (tendrilref12_Find.l0 kq l0 (l0.length : Int) x8_1 a1_0 a1_1 a1_2 = some r) ∧ Aside0 (kq ≤ k) ∧ Aside0 (w'.heap[gb161]? = some (.cells #[.string a1_0, .string a1_1, .int .i64 a1_2] 56 (0, 0))) ∧ Aside0 (Below w.heap.size w w'))
  case atStart => exact ⟨(0), (by first | rfl | (simp; done) | (simp [*]; done)), H', ⟨Nat.le_refl _⟩, ⟨by (with_reducible repeat (first | refine blk_drewN ?_ _ | refine blk_drew ?_ | refine blk_alloc ?_ _)); exact BK161.out⟩, ⟨by repeat (first | (with_reducible first | exact HB.out | apply below_alloc | apply pw_below_drewN | apply below_drew1 | refine below_set ?_ GE161.out) | exact HB.out)⟩⟩
  case round =>
    clear H'
    try clear p2
    obtain ⟨x8_1, rfl, HA, HK1, BK161, HB⟩ := hrel
    cases gk with
    | zero => exact absurd HA.out (by simp [tendrilref12_Find.l0])
    | succ k1 =>
      have H := HA.out
      clear HA
      simp only [tendrilref12_Find.l0] at H
      by_cases c4 : x8_1 < (l0.length : Int)
      · rw [if_pos c4] at H
        have c4b0 : decide (x8_1 < (l0.length : Int)) = true := decide_eq_true c4
        clear c4
        by_cases c5 : 0 ≤ x8_1
        · rw [if_pos c5] at H
          have c5b0 : decide (0 ≤ x8_1) = true := decide_eq_true c5
          clear c5
          by_cases c6 : x8_1 < (l0.length : Int)
          · rw [if_pos c6] at H
            have c6b0 : decide (x8_1 < (l0.length : Int)) = true := decide_eq_true c6
            clear c6
            by_cases c7 : ((((rd_T56 l0 x8_1).f0).toList) == a1_0.toList && ((((rd_T56 l0 x8_1).f1).toList) == a1_1.toList && (((rd_T56 l0 x8_1).f2) == a1_2))) = true
            · rw [if_pos c7] at H
              have c7b0 : ((((rd_T56 l0 x8_1).f0).toList) == a1_0.toList && ((((rd_T56 l0 x8_1).f1).toList) == a1_1.toList && (((rd_T56 l0 x8_1).f2) == a1_2))) = true := c7
              (try (have c7b1 : decide ((((rd_T56 l0 x8_1).f0).toList) = a1_0.toList && ((((rd_T56 l0 x8_1).f1).toList) == a1_1.toList && (((rd_T56 l0 x8_1).f2) == a1_2))) = true := by simpa using c7))
              (try (have c7b2 : ((((rd_T56 l0 x8_1).f0).toList) == a1_0.toList && ((((rd_T56 l0 x8_1).f1).toList) == a1_1.toList && (((rd_T56 l0 x8_1).f2) == a1_2))) = true := by simpa using c7))
              clear c7
              obtain rfl := Option.some.inj H
              have p162 : 0 ≤ (x8_1 : Int) := of_decide_eq_true (by first | (with_reducible assumption) | assumption)
              have q162 : x8_1 < (l0.length : Int) := of_decide_eq_true (by first | (with_reducible assumption) | assumption)
              obtain ⟨ad162, e162, hx162_0, hx162_1, hx162_2⟩ := at_T56 HR0.out x8_1 p162 q162
              cases e162
              replace hx162_0 := (HB.out.cell (World.block_lt_of_cell? w _ hx162_0)).trans hx162_0
              replace hx162_1 := (HB.out.cell (World.block_lt_of_cell? w _ hx162_1)).trans hx162_1
              replace hx162_2 := (HB.out.cell (World.block_lt_of_cell? w _ hx162_2)).trans hx162_2
              replace p162 := eq_true p162
              replace q162 := eq_true q162
              have hcz8_0 : wr.cell? ⟨gb161, 0, none⟩ = some (.string a1_0) := (blk_cell BK161.out 0).trans rfl
              have hcz8_1 : wr.cell? ⟨gb161, 1, none⟩ = some (.string a1_1) := (blk_cell BK161.out 1).trans rfl
              have hcz8_2 : wr.cell? ⟨gb161, 2, none⟩ = some (.int .i64 a1_2) := (blk_cell BK161.out 2).trans rfl
              have hfz8_0 := blk_frozen BK161.out 0
              have hfz8_1 := blk_frozen BK161.out 1
              have hfz8_2 := blk_frozen BK161.out 2
              go_wp2
              repeat (go_quiet (fail); try go_wp2)
              go_ret
              exact ⟨by first | rfl | (simp [errW_none, errW_some] <;> rfl) | (simp [*, errW_none, errW_some] <;> rfl), by repeat (first | (with_reducible first | exact HB.out | apply below_alloc | apply pw_below_drewN | apply below_drew1 | refine below_set ?_ GE161.out) | exact HB.out)⟩
            · rw [if_neg c7] at H
              have c7b0 : ((((rd_T56 l0 x8_1).f0).toList) == a1_0.toList && ((((rd_T56 l0 x8_1).f1).toList) == a1_1.toList && (((rd_T56 l0 x8_1).f2) == a1_2))) = false := by simpa using c7
              (try (have c7b1 : decide ((((rd_T56 l0 x8_1).f0).toList) = a1_0.toList && ((((rd_T56 l0 x8_1).f1).toList) == a1_1.toList && (((rd_T56 l0 x8_1).f2) == a1_2))) = false := by simpa using c7))
              (try (have c7b2 : ((((rd_T56 l0 x8_1).f0).toList) == a1_0.toList && ((((rd_T56 l0 x8_1).f1).toList) == a1_1.toList && (((rd_T56 l0 x8_1).f2) == a1_2))) = false := by simpa using c7))
              (try (have c7b3 : ¬ ((((rd_T56 l0 x8_1).f0).toList) = a1_0.toList && ((((rd_T56 l0 x8_1).f1).toList) == a1_1.toList && (((rd_T56 l0 x8_1).f2) == a1_2))) := by simpa using c7))
              clear c7
              have H' := Aside0.mk H
              clear H
              have p162 : 0 ≤ (x8_1 : Int) := of_decide_eq_true (by first | (with_reducible assumption) | assumption)
              have q162 : x8_1 < (l0.length : Int) := of_decide_eq_true (by first | (with_reducible assumption) | assumption)
              obtain ⟨ad162, e162, hx162_0, hx162_1, hx162_2⟩ := at_T56 HR0.out x8_1 p162 q162
              cases e162
              replace hx162_0 := (HB.out.cell (World.block_lt_of_cell? w _ hx162_0)).trans hx162_0
              replace hx162_1 := (HB.out.cell (World.block_lt_of_cell? w _ hx162_1)).trans hx162_1
              replace hx162_2 := (HB.out.cell (World.block_lt_of_cell? w _ hx162_2)).trans hx162_2
              replace p162 := eq_true p162
              replace q162 := eq_true q162
              have hcz9_0 : wr.cell? ⟨gb161, 0, none⟩ = some (.string a1_0) := (blk_cell BK161.out 0).trans rfl
              have hcz9_1 : wr.cell? ⟨gb161, 1, none⟩ = some (.string a1_1) := (blk_cell BK161.out 1).trans rfl
              have hcz9_2 : wr.cell? ⟨gb161, 2, none⟩ = some (.int .i64 a1_2) := (blk_cell BK161.out 2).trans rfl
              have hfz9_0 := blk_frozen BK161.out 0
              have hfz9_1 := blk_frozen BK161.out 1
              have hfz9_2 := blk_frozen BK161.out 2
              go_wp2
              repeat (go_quiet (fail); try go_wp2)
              go_roundg k1
              case measure => have := HK1.out; omega
              case rel => exact ⟨(wrap64 (x8_1 + 1)), (by first | rfl | (simp; done) | (simp [*]; done)), H', ⟨by have := HK1.out; omega⟩, ⟨by (with_reducible repeat (first | refine blk_drewN ?_ _ | refine blk_drew ?_ | refine blk_alloc ?_ _)); exact BK161.out⟩, ⟨by repeat (first | (with_reducible first | exact HB.out | apply below_alloc | apply pw_below_drewN | apply below_drew1 | refine below_set ?_ GE161.out) | exact HB.out)⟩⟩
          · rw [if_neg c6] at H
            exact absurd H (by simp)
        · rw [if_neg c5] at H
          exact absurd H (by simp)
      · rw [if_neg c4] at H
        have c4b0 : decide (x8_1 < (l0.length : Int)) = false := decide_eq_false c4
        clear c4
        obtain rfl := Option.some.inj H
        go_wp2
        repeat (go_quiet (fail); try go_wp2)
        go_ret
        exact ⟨by first | rfl | (simp [errW_none, errW_some] <;> rfl) | (simp [*, errW_none, errW_some] <;> rfl), by repeat (first | (with_reducible first | exact HB.out | apply below_alloc | apply pw_below_drewN | apply below_drew1 | refine below_set ?_ GE161.out) | exact HB.out)⟩

end Go.Proofs.YtpanmmpkdbhofaaDoor.P12r

namespace Go.Proofs.YtpanmmpkdbhofaaDoor.M02
open Go Go.RowKit Go.Proofs.YtpanmmpkdbhofaaDoor.P12r Go.Proofs.YtpanmmpkdbhofaaDoorE Go.Proofs.YtpanmmpkdbhofaaDoorW.PrintWords Go.Proofs.YtpanmmpkdbhofaaDoorW.PrintLast Go.Proofs.YtpanmmpkdbhofaaDoorW.PrintMore

theorem w64 {n : Int} (h0 : -9223372036854775808 ≤ n) (h1 : n ≤ 9223372036854775807) : wrap64 n = n := by unfold wrap64; omega
/-- A string's bytes. -/
abbrev B (s : ByteArray) : List UInt8 := s.data.toList
theorem B_len (s : ByteArray) : (B s).length = s.size := data_length s
theorem toList_B (s : ByteArray) : s.toList = B s := ByteArray.toList_eq s
theorem B_inj {s t : ByteArray} (h : B s = B t) : s = t := by
  cases s; cases t; congr 1; exact Array.toList_inj.1 h
theorem bt_nat {s : ByteArray} {i : Nat} (h : i < (B s).length) : bt s (i : Int) = ((B s)[i].toNat : Int) := by
  have hs : i < s.size := by rw [← B_len]; exact h
  unfold bt
  rw [dif_pos (by simpa using hs)]
  simp only [Int.toNat_natCast]
  rfl
theorem u8_lt (c : UInt8) : c.toNat < 256 := c.toNat_lt
theorem toUInt8_toNat (c : UInt8) : ((c.toNat : Int).toNat.toUInt8) = c := by simp

def okb (more : Bool) (c : UInt8) : Bool := decide (97 ≤ c.toNat ∧ c.toNat ≤ 122) || decide (48 ≤ c.toNat ∧ c.toNat ≤ 57) || decide (c.toNat = 45) || (more && (decide (c.toNat = 58) || decide (c.toNat = 46)))
def small (c : UInt8) : Bool := decide (97 ≤ c.toNat ∧ c.toNat ≤ 122)
/-- A tag, or, with more, a name. -/
def namedS (more : Bool) (l : List UInt8) : Bool := match l with
  | [] => false
  | c :: t => decide (t.length < 32) && small c && (c :: t).all (okb more)
theorem namedS_cons (more : Bool) (c : UInt8) (t : List UInt8) : namedS more (c :: t) = (decide (t.length < 32) && small c && (c :: t).all (okb more)) := rfl
theorem small_ok (more : Bool) (c : UInt8) (h : small c = true) : okb more c = true := by
  unfold small at h; unfold okb; rw [h]; rfl
theorem small_f (c : UInt8) : chars_small.f (c.toNat : Int) = some (small c) := by
  unfold chars_small.f small
  by_cases h : (c.toNat : Int) ≥ 97
  · rw [if_pos h]; congr 1; rw [decide_eq_decide]; omega
  · rw [if_neg h]; congr 1; symm; rw [decide_eq_false_iff_not]; omega
theorem inner_f (c : UInt8) (more : Bool) : tendrilref02_inner.f (c.toNat : Int) more = some (okb more c) := by
  have hc := u8_lt c
  have key : ∀ n : Fin 256, ∀ more : Bool, tendrilref02_inner.f (n.val : Int) more = some (decide (97 ≤ n.val ∧ n.val ≤ 122) || decide (48 ≤ n.val ∧ n.val ≤ 57) || decide (n.val = 45) || (more && (decide (n.val = 58) || decide (n.val = 46)))) := by decide +kernel
  exact key ⟨c.toNat, hc⟩ more
/-- The bytes that a name may have besides. -/
def others (more : Bool) : ByteArray := if more then ⟨#[45, 58, 46]⟩ else ⟨#[45]⟩
theorem index_others (c : UInt8) (more : Bool) : (Lib.indexByte (B (others more)) c < 0) ↔ ¬ (c.toNat = 45 ∨ (more = true ∧ (c.toNat = 58 ∨ c.toNat = 46))) := by
  have key : ∀ n : Fin 256, ∀ more : Bool, (Lib.indexByte (B (others more)) n.val.toUInt8 < 0) ↔ ¬ (n.val = 45 ∨ (more = true ∧ (n.val = 58 ∨ n.val = 46))) := by decide +kernel
  have := key ⟨c.toNat, u8_lt c⟩ more
  simpa using this
theorem named_l0 (s : ByteArray) (more : Bool) (hs : s.size ≤ 1000) (d : Nat) : ∀ i : Nat, i + d = s.size →
    Ev (fun k => chars_named.l0 k s (others more) (s.size : Int) (i : Int)) (((B s).drop i).all (okb more)) := by
  induction d with
  | zero =>
    intro i hi
    rw [List.drop_eq_nil_of_le (by rw [B_len]; omega)]
    refine Ev.step (f := fun _ => some true) (fun k => ?_) (Ev.now _)
    simp only [chars_named.l0]; rw [if_neg (by omega)]
  | succ d ih =>
    intro i hi
    have hlt : i < (B s).length := by rw [B_len]; omega
    have hn := ih (i + 1) (by omega)
    rw [List.drop_eq_getElem_cons hlt, List.all_cons]
    have e2 : wrap64 ((i : Int) + 1) = ((i + 1 : Nat) : Int) := by rw [w64 (by omega) (by omega)]; omega
    have hsm := small_f (B s)[i]
    have hix := index_others (B s)[i] more
    refine Ev.step (f := fun k => if okb more (B s)[i] = true then chars_named.l0 k s (others more) (s.size : Int) ((i + 1 : Nat) : Int) else some false) (fun k => ?_) ?_
    · simp only [chars_named.l0]
      rw [if_pos (by omega), if_pos (by omega), if_pos (by omega), bt_nat hlt, hsm, Option.bind_some, e2]
      by_cases h1 : small (B s)[i] = true
      · rw [if_pos h1, if_pos (small_ok more _ h1)]
      · rw [if_neg h1]
        have h1' : ¬ (97 ≤ (B s)[i].toNat ∧ (B s)[i].toNat ≤ 122) := by simpa [small] using h1
        have hrest : ((strings_IndexByte.f (others more) ((B s)[i].toNat : Int)).bind fun t => if t < 0 then some false else chars_named.l0 k s (others more) (s.size : Int) ((i + 1 : Nat) : Int)) = if ((B s)[i].toNat = 45 ∨ (more = true ∧ ((B s)[i].toNat = 58 ∨ (B s)[i].toNat = 46))) then chars_named.l0 k s (others more) (s.size : Int) ((i + 1 : Nat) : Int) else some false := by
          unfold strings_IndexByte.f
          rw [Option.bind_some, toUInt8_toNat]
          by_cases h2 : ((B s)[i].toNat = 45 ∨ (more = true ∧ ((B s)[i].toNat = 58 ∨ (B s)[i].toNat = 46)))
          · rw [if_neg (fun h => (hix.1 h) h2), if_pos h2]
          · rw [if_pos (hix.2 h2), if_neg h2]
        have hok : okb more (B s)[i] = true ↔ (48 ≤ (B s)[i].toNat ∧ (B s)[i].toNat ≤ 57) ∨ ((B s)[i].toNat = 45 ∨ (more = true ∧ ((B s)[i].toNat = 58 ∨ (B s)[i].toNat = 46))) := by
          have hq : ¬ (97 ≤ (B s)[i].toNat ∧ (B s)[i].toNat ≤ 122) := h1'
          unfold okb
          rw [decide_eq_false hq]
          generalize (B s)[i].toNat = q at *
          cases more <;> simp <;> omega
        by_cases h3 : ((B s)[i].toNat : Int) < 48
        · rw [if_pos h3, hrest]
          by_cases h2 : ((B s)[i].toNat = 45 ∨ (more = true ∧ ((B s)[i].toNat = 58 ∨ (B s)[i].toNat = 46)))
          · rw [if_pos h2, if_pos (hok.2 (.inr h2))]
          · rw [if_neg h2, if_neg (fun h => (hok.1 h).elim (fun h => by omega) h2)]
        · rw [if_neg h3]
          by_cases h4 : ((B s)[i].toNat : Int) > 57
          · rw [if_pos h4, hrest]
            by_cases h2 : ((B s)[i].toNat = 45 ∨ (more = true ∧ ((B s)[i].toNat = 58 ∨ (B s)[i].toNat = 46)))
            · rw [if_pos h2, if_pos (hok.2 (.inr h2))]
            · rw [if_neg h2, if_neg (fun h => (hok.1 h).elim (fun h => by omega) h2)]
          · rw [if_neg h4, if_pos (hok.2 (.inl (by omega)))]
    · by_cases h : okb more (B s)[i] = true
      · rw [h, Bool.true_and]; exact Ev.congr (fun k => by rw [if_pos rfl]) hn
      · rw [Bool.eq_false_iff.2 h, Bool.false_and]; exact Ev.congr (fun k => by rw [if_neg (by decide)]) (Ev.now _)
theorem named_ev (s : ByteArray) (more : Bool) (hs : s.size ≤ 140737488351232) : Ev (fun k => chars_named.f k s (others more)) (namedS more (B s)) := by
  have bad : Ev (fun k => chars_named.j0 k s (others more) true) false := Ev.step (f := fun _ => some false) (fun k => by simp only [chars_named.j0]; rw [if_pos trivial]) (Ev.now _)
  unfold chars_named.f
  rw [toList_B]
  by_cases h0 : B s = []
  · exact Ev.congr (f := fun k => chars_named.j0 k s (others more) true) (fun k => by rw [if_pos h0]) (by rw [h0]; exact bad)
  · obtain ⟨c, t, e⟩ := List.exists_cons_of_ne_nil h0
    have hl : s.size = t.length + 1 := by rw [← B_len, e]; rfl
    have hb0 : bt s 0 = (c.toNat : Int) := by
      have := bt_nat (s := s) (i := 0) (by rw [e]; simp)
      simp only [e] at this
      simpa using this
    by_cases h1 : (s.size : Int) > 32
    · have : namedS more (B s) = false := by rw [e]; rw [namedS_cons]; simp; omega
      rw [this]
      exact Ev.congr (f := fun k => chars_named.j0 k s (others more) true) (fun k => by rw [if_neg h0, if_pos h1]) bad
    · have hall := named_l0 s more (by omega) s.size 0 (by omega)
      rw [List.drop_zero] at hall
      refine Ev.congr (f := fun k => chars_named.j0 k s (others more) (!small c)) (fun k => by rw [if_neg h0, if_neg h1, if_pos (by omega), hb0, small_f, Option.bind_some]) ?_
      by_cases h2 : small c = true
      · have : namedS more (B s) = (B s).all (okb more) := by rw [e]; rw [namedS_cons, h2, decide_eq_true (by omega)]; simp
        rw [this, h2]
        refine Ev.step (fun k => ?_) hall
        simp only [chars_named.j0]; rw [if_neg (by decide)]; rfl
      · have : namedS more (B s) = false := by rw [e]; rw [namedS_cons, Bool.eq_false_iff.2 h2]; simp
        rw [this, Bool.eq_false_iff.2 h2]; exact bad
theorem rnamed_l0 (s : ByteArray) (more : Bool) (hs : s.size ≤ 1000) (d : Nat) : ∀ i : Nat, i + d = s.size →
    Ev (fun k => tendrilref02_Named.l0 k s more (i : Int)) (((B s).drop i).all (okb more)) := by
  induction d with
  | zero =>
    intro i hi
    rw [List.drop_eq_nil_of_le (by rw [B_len]; omega)]
    refine Ev.step (f := fun _ => some true) (fun k => ?_) (Ev.now _)
    simp only [tendrilref02_Named.l0]; rw [if_neg (by omega)]
  | succ d ih =>
    intro i hi
    have hlt : i < (B s).length := by rw [B_len]; omega
    have hn := ih (i + 1) (by omega)
    rw [List.drop_eq_getElem_cons hlt, List.all_cons]
    have e2 : wrap64 ((i : Int) + 1) = ((i + 1 : Nat) : Int) := by rw [w64 (by omega) (by omega)]; omega
    refine Ev.step (f := fun k => if okb more (B s)[i] = true then tendrilref02_Named.l0 k s more ((i + 1 : Nat) : Int) else some false) (fun k => ?_) ?_
    · simp only [tendrilref02_Named.l0]
      rw [if_pos (by omega), if_pos (by omega), bt_nat hlt, inner_f, Option.bind_some, e2]
    · by_cases h : okb more (B s)[i] = true
      · rw [h, Bool.true_and]; exact Ev.congr (fun k => by rw [if_pos rfl]) hn
      · rw [Bool.eq_false_iff.2 h, Bool.false_and]; exact Ev.congr (fun k => by rw [if_neg (by decide)]) (Ev.now _)
theorem rnamed_ev (s : ByteArray) (more : Bool) (hs : s.size ≤ 140737488351232) : Ev (fun k => tendrilref02_Named.f k s more) (namedS more (B s)) := by
  have bad : Ev (fun k => tendrilref02_Named.j0 k s more true) false := Ev.step (f := fun _ => some false) (fun k => by simp only [tendrilref02_Named.j0]; rw [if_pos trivial]) (Ev.now _)
  unfold tendrilref02_Named.f
  by_cases h0 : (s.size : Int) < 1
  · have e : B s = [] := List.eq_nil_of_length_eq_zero (by rw [B_len]; omega)
    exact Ev.congr (f := fun k => tendrilref02_Named.j0 k s more true) (fun k => by rw [if_pos h0]) (by rw [e]; exact bad)
  · obtain ⟨c, t, e⟩ := List.exists_cons_of_ne_nil (l := B s) (by intro h; have := B_len s; rw [h] at this; simp at this; omega)
    have hl : s.size = t.length + 1 := by rw [← B_len, e]; rfl
    have hb0 : bt s 0 = (c.toNat : Int) := by
      have := bt_nat (s := s) (i := 0) (by rw [e]; simp)
      simp only [e] at this
      simpa using this
    by_cases h1 : (s.size : Int) > 32
    · have : namedS more (B s) = false := by rw [e]; rw [namedS_cons]; simp; omega
      rw [this]
      exact Ev.congr (f := fun k => tendrilref02_Named.j0 k s more true) (fun k => by rw [if_neg h0, if_pos h1]) bad
    · have hall := rnamed_l0 s more (by omega) t.length 1 (by omega)
      rw [e, List.drop_succ_cons, List.drop_zero] at hall
      have gd : small c = true → Ev (fun k => tendrilref02_Named.j0 k s more false) (namedS more (B s)) := by
        intro h2
        have : namedS more (B s) = t.all (okb more) := by rw [e]; rw [namedS_cons, h2, decide_eq_true (by omega), List.all_cons, small_ok more c h2]; simp
        rw [this]
        refine Ev.step (fun k => ?_) hall
        simp only [tendrilref02_Named.j0]; rw [if_neg (by decide)]; rfl
      have bd : small c = false → namedS more (B s) = false := by intro h2; rw [e]; rw [namedS_cons, h2]; simp
      by_cases h2 : (c.toNat : Int) < 97
      · rw [bd (by unfold small; rw [decide_eq_false_iff_not]; omega)]
        exact Ev.congr (f := fun k => tendrilref02_Named.j0 k s more true) (fun k => by rw [if_neg h0, if_neg h1, if_pos (by omega), hb0, if_pos h2]) bad
      · refine Ev.congr (f := fun k => tendrilref02_Named.j0 k s more (decide ((c.toNat : Int) > 122))) (fun k => by rw [if_neg h0, if_neg h1, if_pos (by omega), hb0, if_neg h2]) ?_
        by_cases h3 : (c.toNat : Int) > 122
        · rw [bd (by unfold small; rw [decide_eq_false_iff_not]; omega), decide_eq_true h3]; exact bad
        · rw [decide_eq_false h3]; exact gd (by unfold small; rw [decide_eq_true_eq]; omega)
theorem tag_ev (s : ByteArray) (hs : s.size ≤ 140737488351232) : Ev (fun k => chars_Tag.f k s) (namedS false (B s)) := Ev.bind (named_ev s false hs) (Ev.now _)
end Go.Proofs.YtpanmmpkdbhofaaDoor.M02

namespace Go.Proofs.YtpanmmpkdbhofaaDoor.M02
open Go Go.RowKit Go.Proofs.YtpanmmpkdbhofaaDoor.P12r Go.Proofs.YtpanmmpkdbhofaaDoorE Go.Proofs.YtpanmmpkdbhofaaDoorW.PrintWords Go.Proofs.YtpanmmpkdbhofaaDoorW.PrintLast Go.Proofs.YtpanmmpkdbhofaaDoorW.PrintMore
theorem B_extract (s : ByteArray) (i j : Nat) : B (s.extract i j) = ((B s).drop i).take (j - i) := by
  simp [B, List.take_drop, ByteArray.data_extract]
def mkS (l : List UInt8) : ByteArray := ⟨l.toArray⟩
theorem B_mkS (l : List UInt8) : B (mkS l) = l := by simp [B, mkS]
theorem B_append (s t : ByteArray) : B (s ++ t) = B s ++ B t := by simp [B, ByteArray.data_append]

theorem dd_lt {m : Nat} (h : m < 10) : Lib.decDigits m = [UInt8.ofNat (48 + m)] := by rw [Lib.decDigits, dif_pos h]
theorem dd_ge {m : Nat} (h : 10 ≤ m) : Lib.decDigits m = Lib.decDigits (m / 10) ++ [UInt8.ofNat (48 + m % 10)] := by rw [Lib.decDigits, dif_neg (by omega)]
theorem dig_nat {d : Nat} (h : d < 10) : (UInt8.ofNat (48 + d)).toNat = 48 + d := by simp; omega
theorem dd_digit : ∀ (m : Nat), ∀ c ∈ Lib.decDigits m, 48 ≤ c.toNat ∧ c.toNat ≤ 57 := by
  intro m
  induction m using Nat.strongRecOn with
  | _ m ih =>
    intro c hc
    by_cases h : m < 10
    · rw [dd_lt h, List.mem_singleton] at hc
      rw [hc, dig_nat h]; omega
    · rw [dd_ge (by omega)] at hc
      rcases List.mem_append.1 hc with h1 | h1
      · exact ih (m / 10) (by omega) c h1
      · rw [List.mem_singleton] at h1
        rw [h1, dig_nat (by omega)]; omega
theorem dd_ne (m : Nat) : Lib.decDigits m ≠ [] := by
  by_cases h : m < 10
  · rw [dd_lt h]; simp
  · rw [dd_ge (by omega)]; simp
theorem dd_len : ∀ (k m : Nat), m < 10 ^ (k + 1) → (Lib.decDigits m).length ≤ k + 1
  | 0, m, h => by rw [dd_lt (by simpa using h)]; simp
  | k + 1, m, h => by
    by_cases h1 : m < 10
    · rw [dd_lt h1]; simp
    · have h2 : 10 ^ (k + 1 + 1) = 10 * 10 ^ (k + 1) := by rw [Nat.pow_succ, Nat.mul_comm]
      have := dd_len k (m / 10) (by omega)
      rw [dd_ge (by omega), List.length_append, List.length_singleton]; omega
theorem parse_dd (m : Nat) : ∀ (rest : List UInt8), m < 18446744073709551616 → Lib.parseUint10 0 (Lib.decDigits m ++ rest) = Lib.parseUint10 m rest := by
  induction m using Nat.strongRecOn with
  | _ m ih =>
    intro rest hm
    by_cases h : m < 10
    · rw [dd_lt h, List.singleton_append]
      simp only [Lib.parseUint10, dig_nat h]
      rw [if_pos (by omega), if_neg (by omega), if_neg (by omega)]
      congr 1; omega
    · rw [dd_ge (by omega), List.append_assoc, ih (m / 10) (by omega) _ (by omega), List.singleton_append]
      simp only [Lib.parseUint10, dig_nat (show m % 10 < 10 by omega)]
      rw [if_pos (by omega), if_neg (by omega), if_neg (by omega)]
      congr 1; omega
theorem atoi_itoa {n : Int} (h0 : -9223372036854775808 ≤ n) (h1 : n ≤ 9223372036854775807) : Lib.atoiAll (Lib.itoa n) = .ok n := by
  have pm : ∀ m : Nat, m < 18446744073709551616 → Lib.parseMag (Lib.decDigits m) = .ok m := by
    intro m hm
    unfold Lib.parseMag
    rw [if_neg (dd_ne m)]
    have := parse_dd m [] hm
    rw [List.append_nil] at this
    rw [this]; rfl
  unfold Lib.itoa
  by_cases hn : n < 0
  · rw [if_pos hn]
    unfold Lib.atoiAll
    simp only
    rw [if_pos (by decide), pm n.natAbs (by omega)]
    simp only
    have h45 : (45 : UInt8).toNat = 45 := rfl
    rw [if_neg (by rw [h45]; simp), if_neg (by omega), if_pos (by rw [h45])]
    congr 1; omega
  · rw [if_neg hn]
    obtain ⟨c, r, e⟩ := List.exists_cons_of_ne_nil (dd_ne n.toNat)
    have hc := dd_digit n.toNat c (by rw [e]; exact List.mem_cons_self ..)
    have hp := pm n.toNat (by omega)
    rw [e] at hp ⊢
    unfold Lib.atoiAll
    simp only
    rw [if_neg (by omega), hp]
    simp only
    rw [if_neg (by omega), if_neg (by omega), if_neg (by omega)]
    congr 1; omega
theorem whole_itoa {n : Int} (h0 : -9223372036854775808 ≤ n) (h1 : n ≤ 9223372036854775807) : wholeS (Lib.itoa n) = (n, true) := by
  unfold wholeS; rw [atoi_itoa h0 h1]; simp
theorem whole_not {l : List UInt8} (h : ¬ ∃ n : Int, -9223372036854775808 ≤ n ∧ n ≤ 9223372036854775807 ∧ Lib.itoa n = l) : wholeS l = (0, false) := by
  unfold wholeS
  cases ha : Lib.atoiAll l with
  | ok n =>
    have hn := atoi_range ha
    simp only
    rw [if_neg (fun e => h ⟨n, hn.1, hn.2, e⟩)]
  | range => rfl
  | _ => rfl

theorem strOf_one (v : Int) : strOfNums [v] = mkS [UInt8.ofNat v.toNat] := by
  apply B_inj; rw [B_mkS]; simp [strOfNums, B]
theorem rdec_l0 (below : Bool) (sg : Int) (hsg : sg = 1 ∨ sg = -1) (m : Nat) : ∀ (x3 : ByteArray), 0 < m → m ≤ 9223372036854775808 → 2 * x3.size + m ≤ 9223372036854775808 + 1000 →
    Ev (fun k => tendrilref02_Decimal.l0 k (sg * (m : Int)) x3 below) (mkS ((if below = true then [45] else []) ++ Lib.decDigits m ++ B x3)) := by
  induction m using Nat.strongRecOn with
  | _ m ih =>
    intro x3 hm hmx hsz
    have et : Int.tmod (sg * (m : Int)) 10 = sg * ((m % 10 : Nat) : Int) := by
      rcases hsg with rfl | rfl
      · rw [Int.one_mul, Int.one_mul, show (10 : Int) = ((10 : Nat) : Int) from rfl, ← Int.ofNat_tmod]
      · rw [show (-1 : Int) * (m : Int) = -(m : Int) by omega, Int.neg_tmod, show (10 : Int) = ((10 : Nat) : Int) from rfl, ← Int.ofNat_tmod]; omega
    have ed : Int.tdiv (sg * (m : Int)) 10 = sg * ((m / 10 : Nat) : Int) := by
      rcases hsg with rfl | rfl
      · rw [Int.one_mul, Int.one_mul, show (10 : Int) = ((10 : Nat) : Int) from rfl, ← Int.ofNat_tdiv]
      · rw [show (-1 : Int) * (m : Int) = -(m : Int) by omega, Int.neg_tdiv, show (10 : Int) = ((10 : Nat) : Int) from rfl, ← Int.ofNat_tdiv]; omega
    have ew : wrap64 (sg * ((m / 10 : Nat) : Int)) = sg * ((m / 10 : Nat) : Int) := by rcases hsg with rfl | rfl <;> (rw [w64 (by omega) (by omega)])
    have e10 : m % 10 < 10 := Nat.mod_lt _ (by decide)
    have sz1 : (mkS [UInt8.ofNat (48 + m % 10)]).size = 1 := rfl
    have step : ∀ k, tendrilref02_Decimal.l0 (k + 1) (sg * (m : Int)) x3 below = tendrilref02_Decimal.l0 k (sg * ((m / 10 : Nat) : Int)) (mkS [UInt8.ofNat (48 + m % 10)] ++ x3) below := by
      intro k
      simp only [tendrilref02_Decimal.l0]
      rw [et, ed, ew, if_neg (by rcases hsg with rfl | rfl <;> omega)]
      have hb : (48 + ((m % 10 : Nat) : Int)) % 256 = ((48 + m % 10 : Nat) : Int) := by omega
      by_cases hneg : sg * ((m % 10 : Nat) : Int) < 0
      · rw [if_pos hneg]
        have : -(sg * ((m % 10 : Nat) : Int)) = ((m % 10 : Nat) : Int) := by rcases hsg with rfl | rfl <;> omega
        rw [this, w64 (n := ((m % 10 : Nat) : Int)) (by omega) (by omega), w64 (n := 48 + ((m % 10 : Nat) : Int)) (by omega) (by omega), hb, Option.bind_some, strOf_one, Int.toNat_natCast, if_pos (by rw [sz1]; omega)]
      · rw [if_neg hneg]
        have : sg * ((m % 10 : Nat) : Int) = ((m % 10 : Nat) : Int) := by rcases hsg with rfl | rfl <;> omega
        rw [this, w64 (n := 48 + ((m % 10 : Nat) : Int)) (by omega) (by omega), hb, Option.bind_some, strOf_one, Int.toNat_natCast, if_pos (by rw [sz1]; omega)]
    by_cases h : m < 10
    · have h0 : m / 10 = 0 := by omega
      rw [dd_lt h]
      rw [h0, show m % 10 = m by omega] at step
      refine Ev.step step (Ev.step (f := fun _ => some (mkS ((if below = true then [45] else []) ++ [UInt8.ofNat (48 + m)] ++ B x3))) (fun k => ?_) (Ev.now _))
      simp only [tendrilref02_Decimal.l0]
      rw [if_pos (by rcases hsg with rfl | rfl <;> omega)]
      by_cases hb : below = true
      · rw [if_pos hb, if_pos (by rw [ByteArray.size_append]; show 1 + (1 + x3.size) ≤ _; omega), if_pos hb]
        congr 1
      · rw [if_neg hb, if_neg hb]
        congr 1
    · have hn := ih (m / 10) (by omega) (mkS [UInt8.ofNat (48 + m % 10)] ++ x3) (by omega) (by omega) (by rw [ByteArray.size_append, sz1]; omega)
      have er : mkS ((if below = true then [45] else []) ++ Lib.decDigits m ++ B x3) = mkS ((if below = true then [45] else []) ++ Lib.decDigits (m / 10) ++ B (mkS [UInt8.ofNat (48 + m % 10)] ++ x3)) := by
        rw [dd_ge (by omega), B_append, B_mkS]; simp
      rw [er]
      exact Ev.step step hn
theorem rdec_ev (n : Int) (h0 : -9223372036854775808 ≤ n) (h1 : n ≤ 9223372036854775807) : Ev (fun k => tendrilref02_Decimal.f k n) (mkS (Lib.itoa n)) := by
  unfold tendrilref02_Decimal.f Lib.itoa
  by_cases hz : n = 0
  · subst hz
    exact Ev.congr (fun k => by rw [if_pos rfl]) (by rw [if_neg (by omega), show (0 : Int).toNat = 0 from rfl, dd_lt (by decide)]; exact Ev.now _)
  · by_cases hn : n < 0
    · have := rdec_l0 true (-1) (.inr rfl) n.natAbs ⟨#[]⟩ (by omega) (by omega) (by show 2 * 0 + _ ≤ _; omega)
      rw [if_pos hn]
      refine Ev.congr (f := fun k => tendrilref02_Decimal.l0 k (-1 * (n.natAbs : Int)) ⟨#[]⟩ true) (fun k => ?_) (by simpa [B] using this)
      rw [if_neg hz, decide_eq_true hn, show -1 * (n.natAbs : Int) = n by omega]
    · have := rdec_l0 false 1 (.inl rfl) n.toNat ⟨#[]⟩ (by omega) (by omega) (by show 2 * 0 + _ ≤ _; omega)
      rw [if_neg hn]
      refine Ev.congr (f := fun k => tendrilref02_Decimal.l0 k (1 * (n.toNat : Int)) ⟨#[]⟩ false) (fun k => ?_) (by simpa [B] using this)
      rw [if_neg hz, decide_eq_false hn, show 1 * (n.toNat : Int) = n by omega]
theorem decimal_f (n : Int) (h0 : -9223372036854775808 ≤ n) (h1 : n ≤ 9223372036854775807) : chars_Decimal.f n = some (mkS (Lib.itoa n)) := by
  unfold chars_Decimal.f strconv_Itoa.f; rw [if_pos ⟨h0, h1⟩]; rfl
end Go.Proofs.YtpanmmpkdbhofaaDoor.M02

namespace Go.Proofs.YtpanmmpkdbhofaaDoor.M02
open Go Go.RowKit Go.Proofs.YtpanmmpkdbhofaaDoor.P12r Go.Proofs.YtpanmmpkdbhofaaDoorE Go.Proofs.YtpanmmpkdbhofaaDoorW.PrintWords Go.Proofs.YtpanmmpkdbhofaaDoorW.PrintLast Go.Proofs.YtpanmmpkdbhofaaDoorW.PrintMore

def isDig (c : UInt8) : Bool := decide (48 ≤ c.toNat ∧ c.toNat ≤ 57)
def dv (v : Nat) : List UInt8 → Nat
  | [] => v
  | c :: t => dv (v * 10 + (c.toNat - 48)) t
theorem dv_mono : ∀ (t : List UInt8) (v : Nat), v ≤ dv v t
  | [], _ => Nat.le_refl _
  | c :: t, v => Nat.le_trans (by omega) (dv_mono t (v * 10 + (c.toNat - 48)))
theorem dv_dd (m : Nat) : ∀ rest, dv 0 (Lib.decDigits m ++ rest) = dv m rest := by
  induction m using Nat.strongRecOn with
  | _ m ih =>
    intro rest
    by_cases h : m < 10
    · rw [dd_lt h, List.singleton_append]
      show dv (0 * 10 + ((UInt8.ofNat (48 + m)).toNat - 48)) rest = _
      rw [dig_nat h, show 0 * 10 + (48 + m - 48) = m by omega]
    · rw [dd_ge (by omega), List.append_assoc, ih (m / 10) (by omega), List.singleton_append]
      show dv (m / 10 * 10 + ((UInt8.ofNat (48 + m % 10)).toNat - 48)) rest = _
      rw [dig_nat (show m % 10 < 10 by omega), show m / 10 * 10 + (48 + m % 10 - 48) = m by omega]
theorem isDig_iff (c : UInt8) : isDig c = true ↔ 48 ≤ c.toNat ∧ c.toNat ≤ 57 := by simp [isDig]
section
variable (s t : ByteArray) (below : Bool)
/-- One round: a byte that is no digit, a number that is too great, or on. -/
theorem rw_round (ht : t.size ≤ 1000) {i v : Nat} (hi : i < (B t).length) (hv : v ≤ 9223372036854775808) (k : Nat) :
    tendrilref02_Whole.l0 (k + 2) s t below (-(v : Int)) (t.size : Int) (i : Int) =
      if isDig (B t)[i] = true then (if v * 10 + ((B t)[i].toNat - 48) ≤ 9223372036854775808 then tendrilref02_Whole.l0 k s t below (-((v * 10 + ((B t)[i].toNat - 48) : Nat) : Int)) (t.size : Int) ((i + 1 : Nat) : Int) else some (0, false)) else some (0, false) := by
  have hL := B_len t
  have hc := u8_lt (B t)[i]
  have ei : wrap64 ((i : Int) + 1) = ((i + 1 : Nat) : Int) := by rw [w64 (by omega) (by omega)]; omega
  have j4f : ∀ b : Bool, (b = true ↔ ¬ isDig (B t)[i] = true) → tendrilref02_Whole.j4 (k + 1) s t below (-(v : Int)) (i : Int) (t.size : Int) (i : Int) b = if isDig (B t)[i] = true then (if v * 10 + ((B t)[i].toNat - 48) ≤ 9223372036854775808 then tendrilref02_Whole.l0 k s t below (-((v * 10 + ((B t)[i].toNat - 48) : Nat) : Int)) (t.size : Int) ((i + 1 : Nat) : Int) else some (0, false)) else some (0, false) := by
    intro b hb
    simp only [tendrilref02_Whole.j4]
    by_cases hd : isDig (B t)[i] = true
    · have hbf : ¬ b = true := fun h => (hb.1 h) hd
      have hdd : 48 ≤ (B t)[i].toNat ∧ (B t)[i].toNat ≤ 57 := by simpa [isDig] using hd
      rw [if_neg hbf, if_pos (by omega), if_pos (by omega), if_pos hd, bt_nat hi, w64 (n := ((B t)[i].toNat : Int)) (by omega) (by omega), w64 (n := ((B t)[i].toNat : Int) - 48) (by omega) (by omega), ei]
      by_cases h1 : -(v : Int) < -922337203685477580
      · rw [if_pos h1, if_neg (by omega)]
      · rw [if_neg h1]
        by_cases h2 : -(v : Int) = -922337203685477580
        · rw [if_pos h2]
          by_cases h3 : ((B t)[i].toNat : Int) - 48 > 8
          · rw [if_pos h3, if_neg (by omega)]
          · rw [if_neg h3, if_pos (by omega), w64 (n := 10 * -(v : Int)) (by omega) (by omega), w64 (by omega) (by omega)]
            congr 1; omega
        · rw [if_neg h2, if_pos (by omega), w64 (n := 10 * -(v : Int)) (by omega) (by omega), w64 (by omega) (by omega)]
          congr 1; omega
    · rw [if_pos (hb.2 hd), if_neg hd]
  have e1 : k + 2 = (k + 1) + 1 := rfl
  rw [e1]
  simp only [tendrilref02_Whole.l0]
  rw [if_pos (by omega), if_pos (by omega), if_pos (by omega), bt_nat hi]
  by_cases h1 : ((B t)[i].toNat : Int) < 48
  · rw [if_pos h1]; exact j4f true (by rw [isDig_iff]; constructor <;> intro _ <;> first | rfl | omega)
  · rw [if_neg h1]; exact j4f (decide (((B t)[i].toNat : Int) > 57)) (by rw [decide_eq_true_eq, isDig_iff]; omega)
theorem Ev.two {α : Type} {g f : Nat → Option α} {r : α} (h : ∀ k, g (k + 2) = f k) (k : Ev f r) : Ev g r := by
  obtain ⟨K, k⟩ := k
  refine ⟨K + 2, fun n hn => ?_⟩
  obtain ⟨m, rfl⟩ : ∃ m, n = m + 2 := ⟨n - 2, by omega⟩
  rw [h]; exact k m (by omega)
/-- If no number has this text, it is refused, wherever the reading stands. -/
theorem rw_none (hno : ¬ ∃ n : Int, -9223372036854775808 ≤ n ∧ n ≤ 9223372036854775807 ∧ Lib.itoa n = B s) (ht : t.size ≤ 1000) (d : Nat) : ∀ i v : Nat, i + d = t.size → v ≤ 9223372036854775808 →
    Ev (fun k => tendrilref02_Whole.l0 k s t below (-(v : Int)) (t.size : Int) (i : Int)) (0, false) := by
  have hL := B_len t
  have fin : ∀ n : Int, -9223372036854775808 ≤ n → n ≤ 9223372036854775807 → Ev (fun k => (tendrilref02_Decimal.f k n).bind fun u => if u.toList = s.toList then some (n, true) else some (0, false)) (0, false) := by
    intro n h0 h1
    refine Ev.bind (rdec_ev n h0 h1) (Ev.congr (f := fun _ => some (0, false)) (fun k => ?_) (Ev.now _))
    rw [toList_B, toList_B, B_mkS, if_neg (fun e => hno ⟨n, h0, h1, e⟩)]
  have j5 : ∀ v : Nat, v ≤ 9223372036854775808 → ∀ b : Bool, (b = true ↔ (below = false ∧ v = 9223372036854775808)) → Ev (fun k => tendrilref02_Whole.j5 k s below (-(v : Int)) b) (0, false) := by
    intro v hv b hb
    by_cases h : b = true
    · exact Ev.step (f := fun _ => some (0, false)) (fun k => by simp only [tendrilref02_Whole.j5]; rw [if_pos h]) (Ev.now _)
    · have hb2 : ¬ (below = false ∧ v = 9223372036854775808) := fun h2 => h (hb.2 h2)
      by_cases hbl : below = true
      · refine Ev.step (fun k => ?_) (fin (-(v : Int)) (by omega) (by omega))
        simp only [tendrilref02_Whole.j5]; rw [if_neg h, if_pos hbl]
      · have hv2 : v ≠ 9223372036854775808 := fun h2 => hb2 ⟨by simpa using hbl, h2⟩
        refine Ev.step (fun k => ?_) (fin (v : Int) (by omega) (by omega))
        simp only [tendrilref02_Whole.j5]; rw [if_neg h, if_neg hbl, Int.neg_neg, w64 (by omega) (by omega)]
  induction d with
  | zero =>
    intro i v hi hv
    by_cases hbl : below = true
    · refine Ev.step (fun k => ?_) (j5 v hv false (by rw [hbl]; simp))
      simp only [tendrilref02_Whole.l0]; rw [if_neg (by omega), if_pos hbl]
    · refine Ev.step (fun k => ?_) (j5 v hv (-(v : Int) == -9223372036854775808) (by rw [beq_iff_eq]; simp at hbl; simp [hbl]; omega))
      simp only [tendrilref02_Whole.l0]; rw [if_neg (by omega), if_neg hbl]
  | succ d ih =>
    intro i v hi hv
    have hlt : i < (B t).length := by omega
    have hr := rw_round s t below ht hlt hv
    by_cases hd : isDig (B t)[i] = true
    · by_cases hm : v * 10 + ((B t)[i].toNat - 48) ≤ 9223372036854775808
      · exact Ev.two (fun k => by rw [hr, if_pos hd, if_pos hm]) (ih (i + 1) _ (by omega) hm)
      · exact Ev.two (f := fun _ => some (0, false)) (fun k => by rw [hr, if_pos hd, if_neg hm]) (Ev.now _)
    · exact Ev.two (f := fun _ => some (0, false)) (fun k => by rw [hr, if_neg hd]) (Ev.now _)
set_option maxHeartbeats 1000000 in
/-- If it is a number's text, it is read. -/
theorem rw_some (n : Int) (h0 : -9223372036854775808 ≤ n) (h1 : n ≤ 9223372036854775807) (he : B s = Lib.itoa n) (hbl : below = decide (n < 0)) (ht : t.size ≤ 1000) (hdg : ∀ c ∈ B t, 48 ≤ c.toNat ∧ c.toNat ≤ 57) (d : Nat) :
    ∀ i v : Nat, i + d = t.size → dv v ((B t).drop i) = n.natAbs → Ev (fun k => tendrilref02_Whole.l0 k s t below (-(v : Int)) (t.size : Int) (i : Int)) (n, true) := by
  have hL := B_len t
  have fin : Ev (fun k => (tendrilref02_Decimal.f k n).bind fun u => if u.toList = s.toList then some (n, true) else some (0, false)) (n, true) := by
    refine Ev.bind (rdec_ev n h0 h1) (Ev.congr (f := fun _ => some (n, true)) (fun k => ?_) (Ev.now _))
    rw [toList_B, toList_B, B_mkS, if_pos he.symm]
  induction d with
  | zero =>
    intro i v hi hv
    obtain rfl : v = n.natAbs := by
      rw [List.drop_eq_nil_of_le (by omega)] at hv
      exact hv
    by_cases hn : n < 0
    · have hbt : below = true := by rw [hbl]; exact decide_eq_true hn
      refine Ev.step (f := fun k => tendrilref02_Whole.j5 k s below (-(n.natAbs : Int)) false) (fun k => ?_) (Ev.step (fun k => ?_) fin)
      · simp only [tendrilref02_Whole.l0]; rw [if_neg (by omega), if_pos hbt]
      · simp only [tendrilref02_Whole.j5]; rw [if_neg (by decide), if_pos hbt, show -(n.natAbs : Int) = n by omega]
    · have hbt : ¬ below = true := by rw [hbl]; simpa using hn
      have hb : (-(n.natAbs : Int) == -9223372036854775808) = false := by rw [beq_eq_false_iff_ne]; omega
      refine Ev.step (f := fun k => tendrilref02_Whole.j5 k s below (-(n.natAbs : Int)) false) (fun k => ?_) (Ev.step (fun k => ?_) fin)
      · simp only [tendrilref02_Whole.l0]; rw [if_neg (by omega), if_neg hbt, hb]
      · simp only [tendrilref02_Whole.j5]; rw [if_neg (by decide), if_neg hbt, Int.neg_neg, show (n.natAbs : Int) = n by omega, w64 (by omega) (by omega)]
  | succ d ih =>
    intro i v hi hv
    have hlt : i < (B t).length := by omega
    rw [List.drop_eq_getElem_cons hlt] at hv
    replace hv : dv (v * 10 + ((B t)[i].toNat - 48)) ((B t).drop (i + 1)) = n.natAbs := hv
    have hm := dv_mono ((B t).drop (i + 1)) (v * 10 + ((B t)[i].toNat - 48))
    have hr := rw_round s t below ht hlt (v := v) (by omega)
    have hc := hdg (B t)[i] (List.getElem_mem hlt)
    exact Ev.two (fun k => by rw [hr, if_pos (by unfold isDig; rw [decide_eq_true_eq]; exact hc), if_pos (by omega)]) (ih (i + 1) _ (by omega) hv)
end
theorem rwhole_ev (s : ByteArray) (hs : s.size ≤ 1000) : Ev (fun k => tendrilref02_Whole.f k s) (wholeS (B s)) := by
  have hL := B_len s
  have base : ∀ (t : ByteArray) (below : Bool), t.size ≤ 1000 → Ev (fun k => tendrilref02_Whole.l0 k s t below (-((0 : Nat) : Int)) (t.size : Int) ((0 : Nat) : Int)) (wholeS (B s)) → (t.size < 1 ∨ t.size > 19 → wholeS (B s) = (0, false)) → Ev (fun k => tendrilref02_Whole.j1 k s t below) (wholeS (B s)) := by
    intro t below ht h hno
    have j2 : ∀ b : Bool, (b = true ↔ (t.size < 1 ∨ t.size > 19)) → Ev (fun k => tendrilref02_Whole.j2 k s t below b) (wholeS (B s)) := by
      intro b hb
      by_cases h1 : b = true
      · rw [hno (hb.1 h1)]
        exact Ev.step (f := fun _ => some (0, false)) (fun k => by simp only [tendrilref02_Whole.j2]; rw [if_pos h1]) (Ev.now _)
      · refine Ev.step (fun k => ?_) h
        simp only [tendrilref02_Whole.j2]; rw [if_neg h1]; rfl
    by_cases h1 : (t.size : Int) < 1
    · exact Ev.step (fun k => by simp only [tendrilref02_Whole.j1]; rw [if_pos h1]) (j2 true ⟨fun _ => .inl (by omega), fun _ => rfl⟩)
    · exact Ev.step (fun k => by simp only [tendrilref02_Whole.j1]; rw [if_neg h1]) (j2 (decide ((t.size : Int) > 19)) (by simp only [decide_eq_true_eq]; omega))
  have goj0 : ∀ b : Bool, (b = true ↔ ∃ r, B s = 45 :: r ∧ r ≠ []) → Ev (fun k => tendrilref02_Whole.j0 k s s b) (wholeS (B s)) := by
    intro b hb
    obtain ⟨t, hte, htb⟩ : ∃ t : ByteArray, t = (if b = true then s.extract 1 s.size else s) ∧ B t = (if b = true then (B s).drop 1 else B s) := by
      refine ⟨_, rfl, ?_⟩
      split
      · rw [B_extract, List.take_of_length_le (by rw [List.length_drop]; omega)]
      · rfl
    have hts : t.size ≤ 1000 := by
      have := B_len t
      rw [htb] at this
      split at this
      · rw [List.length_drop] at this; omega
      · omega
    have step : ∀ k, tendrilref02_Whole.j0 (k + 1) s s b = tendrilref02_Whole.j1 k s t b := by
      intro k
      simp only [tendrilref02_Whole.j0]
      rw [hte]
      by_cases h : b = true
      · obtain ⟨r, e, _⟩ := hb.1 h
        rw [e] at hL
        simp only [List.length_cons] at hL
        rw [if_pos h, if_pos h, if_pos (by omega)]
      · rw [if_neg h, if_neg h]
    refine Ev.step step (base t b hts ?_ ?_)
    · by_cases hex : ∃ n : Int, -9223372036854775808 ≤ n ∧ n ≤ 9223372036854775807 ∧ Lib.itoa n = B s
      · obtain ⟨n, h0, h1, he⟩ := hex
        rw [← he, whole_itoa h0 h1]
        have hbt : b = decide (n < 0) ∧ B t = Lib.decDigits n.natAbs := by
          by_cases hn : n < 0
          · have e1 : B s = 45 :: Lib.decDigits n.natAbs := by rw [← he]; unfold Lib.itoa; rw [if_pos hn]
            have hbb : b = true := hb.2 ⟨_, e1, dd_ne _⟩
            refine ⟨by rw [hbb, decide_eq_true hn], ?_⟩
            rw [htb, if_pos hbb, e1]; rfl
          · have e1 : B s = Lib.decDigits n.natAbs := by rw [← he]; unfold Lib.itoa; rw [if_neg hn, show n.toNat = n.natAbs by omega]
            have hbb : ¬ b = true := by
              intro hbt
              obtain ⟨r, e2, _⟩ := hb.1 hbt
              have := dd_digit n.natAbs 45 (by rw [← e1, e2]; exact List.mem_cons_self ..)
              revert this; decide
            refine ⟨by rw [Bool.eq_false_iff.2 hbb, decide_eq_false hn], ?_⟩
            rw [htb, if_neg hbb, e1]
        exact rw_some s t b n h0 h1 he.symm hbt.1 hts (by rw [hbt.2]; exact dd_digit _) t.size 0 0 (by omega) (by
          rw [List.drop_zero, hbt.2]
          have := dv_dd n.natAbs []
          rw [List.append_nil] at this
          rw [this]; rfl)
      · rw [whole_not hex]
        exact rw_none s t b hex hts t.size 0 0 (by omega) (by omega)
    · intro hsz
      apply whole_not
      rintro ⟨n, h0, h1, he⟩
      have ht2 := B_len t
      by_cases hn : n < 0
      · have e1 : B s = 45 :: Lib.decDigits n.natAbs := by rw [← he]; unfold Lib.itoa; rw [if_pos hn]
        have hbb : b = true := hb.2 ⟨_, e1, dd_ne _⟩
        rw [htb, if_pos hbb, e1, List.drop_succ_cons, List.drop_zero] at ht2
        have := dd_len 18 n.natAbs (by omega)
        have h2 := List.length_pos_iff.2 (dd_ne n.natAbs)
        omega
      · have e1 : B s = Lib.decDigits n.natAbs := by rw [← he]; unfold Lib.itoa; rw [if_neg hn, show n.toNat = n.natAbs by omega]
        have hbb : ¬ b = true := by
          intro hbt
          obtain ⟨r, e2, _⟩ := hb.1 hbt
          have := dd_digit n.natAbs 45 (by rw [← e1, e2]; exact List.mem_cons_self ..)
          revert this; decide
        rw [htb, if_neg hbb, e1] at ht2
        have := dd_len 18 n.natAbs (by omega)
        have h2 := List.length_pos_iff.2 (dd_ne n.natAbs)
        omega
  unfold tendrilref02_Whole.f
  by_cases h : (s.size : Int) > 1
  · have hlt : 0 < (B s).length := by omega
    have hb0 := bt_nat (s := s) (i := 0) hlt
    refine Ev.congr (fun k => by rw [if_pos h, if_pos (by omega)]) (goj0 (bt s 0 == 45) ?_)
    rw [beq_iff_eq, show (0 : Int) = ((0 : Nat) : Int) from rfl, hb0]
    obtain ⟨c, r, e⟩ := List.exists_cons_of_ne_nil (l := B s) (by intro h2; rw [h2] at hlt; simp at hlt)
    simp only [e, List.getElem_cons_zero, List.cons.injEq]
    constructor
    · intro hc
      refine ⟨r, ⟨UInt8.toNat_inj.1 (by rw [show (45 : UInt8).toNat = 45 from rfl]; omega), rfl⟩, ?_⟩
      intro hr; rw [e, hr] at hL; simp at hL; omega
    · rintro ⟨r', ⟨rfl, rfl⟩, _⟩; rfl
  · refine Ev.congr (fun k => by rw [if_neg h]) (goj0 false ?_)
    simp only [Bool.false_eq_true, false_iff]
    rintro ⟨r, e, hr⟩
    rw [e] at hL
    have := List.length_pos_iff.2 hr
    simp only [List.length_cons] at hL; omega

end Go.Proofs.YtpanmmpkdbhofaaDoor.M02

namespace Go.Proofs.YtpanmmpkdbhofaaDoor.P03o
open Go.RowKit Go.Proofs.YtpanmmpkdbhofaaDoorE Go.Proofs.YtpanmmpkdbhofaaDoorW.PrintWords Go.Proofs.YtpanmmpkdbhofaaDoorW.PrintLast Go.Proofs.YtpanmmpkdbhofaaDoorW.PrintMore
attribute [local go_sem] max2_int min2_int max_two min_two max_three min_three max_four min_four   -- for this text's walks alone
set_option linter.unusedVariables false
set_option linter.unusedSimpArgs false

def errW : Option Int → Value
  | none => .nilIface
  | some c => .iface 0 (.int .i64 c)
theorem errW_none : errW none = .nilIface := rfl
theorem errW_some (c : Int) : errW (some c) = .iface 0 (.int .i64 c) := rfl

end Go.Proofs.YtpanmmpkdbhofaaDoor.P03o

namespace Go.Proofs.YtpanmmpkdbhofaaDoor.L03
open Go Go.RowKit Go.Proofs.YtpanmmpkdbhofaaDoorE Go.Proofs.YtpanmmpkdbhofaaDoorW.PrintWords
theorem escB_of {n : Nat} (hn : n ≤ 255) (h : formL n ≠ []) : escB ((n : Int).toNat.toUInt8) = formL n := by
  have e : ((n : Int).toNat.toUInt8).toNat = n := by simp; omega
  unfold escB
  rw [e, if_neg h]
theorem ref_esc (l : List UInt8) (h : (refS l).2.toNat ≠ 0) : escB ((refS l).1.toNat.toUInt8) = l.take (refS l).2.toNat := by
  revert h
  unfold refS
  split
  · rename_i c hc
    intro h
    have h1 := List.find?_some hc
    have h2 := List.mem_of_find?_eq_some hc
    have h3 : c ≤ 255 := by
      have := List.mem_of_mem_take h2
      simp [signs] at this
      omega
    have h4 := List.prefix_iff_eq_take.1 (List.isPrefixOf_iff_prefix.1 h1)
    have h5 : formL c ≠ [] := by intro e; rw [e] at h; simp at h
    rw [escB_of h3 h5]
    simpa using h4
  · split
    · rename_i hp
      have hix := index_num _ hp
      unfold numS
      split
      · intro h; simp at h
      · split
        · split
          · rename_i n _ hn
            intro h
            obtain ⟨n0, n1, he⟩ := hn
            obtain ⟨m, rfl⟩ := Int.eq_ofNat_of_zero_le n0
            have hne : formL m ≠ [] := by
              intro e
              rw [Int.toNat_natCast, e] at he
              have := congrArg List.length he
              rw [List.length_take, List.length_nil] at this
              omega
            simp only
            rw [escB_of (by omega) hne, ← show (m : Int).toNat = m from rfl, he]
            congr 1
            omega
          · intro h; simp at h
        · intro h; simp at h
    · intro h; simp at h
theorem step_esc (l : List UInt8) (h : (stepU l).2 ≠ 0) : (stepU l).2 ≤ l.length ∧ escB (stepU l).1 = l.take (stepU l).2 := by
  cases l with
  | nil => simp [stepU] at h
  | cons c t =>
    simp only [stepU] at h ⊢
    split
    · rename_i hc
      rw [if_pos hc] at h
      have hr := refS_range (c :: t)
      exact ⟨by simp only; omega, ref_esc _ h⟩
    · rename_i hc
      rw [if_neg hc] at h
      split
      · rename_i hf
        refine ⟨by simp, ?_⟩
        unfold escB
        rw [if_pos hf]; rfl
      · rename_i hf
        rw [if_neg hf] at h
        exact absurd rfl h
end Go.Proofs.YtpanmmpkdbhofaaDoor.L03
namespace Go.Proofs.YtpanmmpkdbhofaaDoor.Pure
open Go Go.RowKit Go.Proofs.YtpanmmpkdbhofaaDoor.P03o Go.Proofs.YtpanmmpkdbhofaaDoorE Go.Proofs.YtpanmmpkdbhofaaDoor.L03 Go.Proofs.YtpanmmpkdbhofaaDoorW.PrintWords
end Go.Proofs.YtpanmmpkdbhofaaDoor.Pure

namespace Go.Proofs.YtpanmmpkdbhofaaDoor.M03
open Go Go.RowKit Go.Proofs.YtpanmmpkdbhofaaDoor.P12r Go.Proofs.YtpanmmpkdbhofaaDoorE Go.Proofs.YtpanmmpkdbhofaaDoor.L03 Go.Proofs.YtpanmmpkdbhofaaDoorW.PrintWords Go.Proofs.YtpanmmpkdbhofaaDoorW.PrintLast Go.Proofs.YtpanmmpkdbhofaaDoorW.PrintMore
theorem ref_form (c : Nat) (hc : c = 38 ∨ c = 60 ∨ c = 62 ∨ c = 34 ∨ c = 127 ∨ c < 32) (rest : List UInt8) : refS (formL c ++ rest) = ((c : Int), ((formL c).length : Int)) := by
  have h : c = 0 ∨ c = 1 ∨ c = 2 ∨ c = 3 ∨ c = 4 ∨ c = 5 ∨ c = 6 ∨ c = 7 ∨ c = 8 ∨ c = 9 ∨ c = 10 ∨ c = 11 ∨ c = 12 ∨ c = 13 ∨ c = 14 ∨ c = 15 ∨ c = 16 ∨ c = 17 ∨ c = 18 ∨ c = 19 ∨ c = 20 ∨ c = 21 ∨ c = 22 ∨ c = 23 ∨ c = 24 ∨ c = 25 ∨ c = 26 ∨ c = 27 ∨ c = 28 ∨ c = 29 ∨ c = 30 ∨ c = 31 ∨ c = 34 ∨ c = 38 ∨ c = 60 ∨ c = 62 ∨ c = 127 := by omega
  rcases h with rfl | rfl | rfl | rfl | rfl | rfl | rfl | rfl | rfl | rfl | rfl | rfl | rfl | rfl | rfl | rfl | rfl | rfl | rfl | rfl | rfl | rfl | rfl | rfl | rfl | rfl | rfl | rfl | rfl | rfl | rfl | rfl | rfl | rfl | rfl | rfl | rfl
  · have h : refS (formL 0 ++ rest) = (((0 : Nat) : Int), ((formL 0).length : Int)) := by kernel_rfl
    exact h
  · have h : refS (formL 1 ++ rest) = (((1 : Nat) : Int), ((formL 1).length : Int)) := by kernel_rfl
    exact h
  · have h : refS (formL 2 ++ rest) = (((2 : Nat) : Int), ((formL 2).length : Int)) := by kernel_rfl
    exact h
  · have h : refS (formL 3 ++ rest) = (((3 : Nat) : Int), ((formL 3).length : Int)) := by kernel_rfl
    exact h
  · have h : refS (formL 4 ++ rest) = (((4 : Nat) : Int), ((formL 4).length : Int)) := by kernel_rfl
    exact h
  · have h : refS (formL 5 ++ rest) = (((5 : Nat) : Int), ((formL 5).length : Int)) := by kernel_rfl
    exact h
  · have h : refS (formL 6 ++ rest) = (((6 : Nat) : Int), ((formL 6).length : Int)) := by kernel_rfl
    exact h
  · have h : refS (formL 7 ++ rest) = (((7 : Nat) : Int), ((formL 7).length : Int)) := by kernel_rfl
    exact h
  · have h : refS (formL 8 ++ rest) = (((8 : Nat) : Int), ((formL 8).length : Int)) := by kernel_rfl
    exact h
  · have h : refS (formL 9 ++ rest) = (((9 : Nat) : Int), ((formL 9).length : Int)) := by kernel_rfl
    exact h
  · have h : refS (formL 10 ++ rest) = (((10 : Nat) : Int), ((formL 10).length : Int)) := by kernel_rfl
    exact h
  · have h : refS (formL 11 ++ rest) = (((11 : Nat) : Int), ((formL 11).length : Int)) := by kernel_rfl
    exact h
  · have h : refS (formL 12 ++ rest) = (((12 : Nat) : Int), ((formL 12).length : Int)) := by kernel_rfl
    exact h
  · have h : refS (formL 13 ++ rest) = (((13 : Nat) : Int), ((formL 13).length : Int)) := by kernel_rfl
    exact h
  · have h : refS (formL 14 ++ rest) = (((14 : Nat) : Int), ((formL 14).length : Int)) := by kernel_rfl
    exact h
  · have h : refS (formL 15 ++ rest) = (((15 : Nat) : Int), ((formL 15).length : Int)) := by kernel_rfl
    exact h
  · have h : refS (formL 16 ++ rest) = (((16 : Nat) : Int), ((formL 16).length : Int)) := by kernel_rfl
    exact h
  · have h : refS (formL 17 ++ rest) = (((17 : Nat) : Int), ((formL 17).length : Int)) := by kernel_rfl
    exact h
  · have h : refS (formL 18 ++ rest) = (((18 : Nat) : Int), ((formL 18).length : Int)) := by kernel_rfl
    exact h
  · have h : refS (formL 19 ++ rest) = (((19 : Nat) : Int), ((formL 19).length : Int)) := by kernel_rfl
    exact h
  · have h : refS (formL 20 ++ rest) = (((20 : Nat) : Int), ((formL 20).length : Int)) := by kernel_rfl
    exact h
  · have h : refS (formL 21 ++ rest) = (((21 : Nat) : Int), ((formL 21).length : Int)) := by kernel_rfl
    exact h
  · have h : refS (formL 22 ++ rest) = (((22 : Nat) : Int), ((formL 22).length : Int)) := by kernel_rfl
    exact h
  · have h : refS (formL 23 ++ rest) = (((23 : Nat) : Int), ((formL 23).length : Int)) := by kernel_rfl
    exact h
  · have h : refS (formL 24 ++ rest) = (((24 : Nat) : Int), ((formL 24).length : Int)) := by kernel_rfl
    exact h
  · have h : refS (formL 25 ++ rest) = (((25 : Nat) : Int), ((formL 25).length : Int)) := by kernel_rfl
    exact h
  · have h : refS (formL 26 ++ rest) = (((26 : Nat) : Int), ((formL 26).length : Int)) := by kernel_rfl
    exact h
  · have h : refS (formL 27 ++ rest) = (((27 : Nat) : Int), ((formL 27).length : Int)) := by kernel_rfl
    exact h
  · have h : refS (formL 28 ++ rest) = (((28 : Nat) : Int), ((formL 28).length : Int)) := by kernel_rfl
    exact h
  · have h : refS (formL 29 ++ rest) = (((29 : Nat) : Int), ((formL 29).length : Int)) := by kernel_rfl
    exact h
  · have h : refS (formL 30 ++ rest) = (((30 : Nat) : Int), ((formL 30).length : Int)) := by kernel_rfl
    exact h
  · have h : refS (formL 31 ++ rest) = (((31 : Nat) : Int), ((formL 31).length : Int)) := by kernel_rfl
    exact h
  · have h : refS (formL 34 ++ rest) = (((34 : Nat) : Int), ((formL 34).length : Int)) := by kernel_rfl
    exact h
  · have h : refS (formL 38 ++ rest) = (((38 : Nat) : Int), ((formL 38).length : Int)) := by kernel_rfl
    exact h
  · have h : refS (formL 60 ++ rest) = (((60 : Nat) : Int), ((formL 60).length : Int)) := by kernel_rfl
    exact h
  · have h : refS (formL 62 ++ rest) = (((62 : Nat) : Int), ((formL 62).length : Int)) := by kernel_rfl
    exact h
  · have h : refS (formL 127 ++ rest) = (((127 : Nat) : Int), ((formL 127).length : Int)) := by kernel_rfl
    exact h
theorem step_form (c : UInt8) (rest : List UInt8) : stepU (escB c ++ rest) = (c, (escB c).length) := by
  unfold escB
  by_cases hf : formL c.toNat = []
  · rw [if_pos hf]
    have hn : c.toNat ≠ 38 := by intro e; rw [e] at hf; exact absurd hf (by decide)
    simp only [List.cons_append, List.nil_append, stepU]
    rw [if_neg hn, if_pos hf]
    rfl
  · rw [if_neg hf]
    have hc : c.toNat = 38 ∨ c.toNat = 60 ∨ c.toNat = 62 ∨ c.toNat = 34 ∨ c.toNat = 127 ∨ c.toNat < 32 := by
      unfold formL at hf
      by_cases h1 : c.toNat = 38
      · exact .inl h1
      · rw [if_neg h1] at hf
        by_cases h2 : c.toNat = 60
        · exact .inr (.inl h2)
        · rw [if_neg h2] at hf
          by_cases h3 : c.toNat = 62
          · exact .inr (.inr (.inl h3))
          · rw [if_neg h3] at hf
            by_cases h4 : c.toNat = 34
            · exact .inr (.inr (.inr (.inl h4)))
            · rw [if_neg h4] at hf
              by_cases h5 : c.toNat = 127 ∨ c.toNat < 32
              · exact .inr (.inr (.inr (.inr h5)))
              · rw [if_neg h5] at hf
                exact absurd rfl hf
    have hr := ref_form c.toNat hc rest
    obtain ⟨t, ht⟩ : ∃ t, formL c.toNat = 38 :: t := by
      unfold formL
      rcases hc with h | h | h | h | h | h
      · rw [if_pos h]; exact ⟨_, rfl⟩
      · rw [if_neg (by omega), if_pos h]; exact ⟨_, rfl⟩
      · rw [if_neg (by omega), if_neg (by omega), if_pos h]; exact ⟨_, rfl⟩
      · rw [if_neg (by omega), if_neg (by omega), if_neg (by omega), if_pos h]; exact ⟨_, rfl⟩
      · rw [if_neg (by omega), if_neg (by omega), if_neg (by omega), if_neg (by omega), if_pos (.inl h)]; exact ⟨_, rfl⟩
      · rw [if_neg (by omega), if_neg (by omega), if_neg (by omega), if_neg (by omega), if_pos (.inr h)]; exact ⟨_, rfl⟩
    rw [ht] at hr ⊢
    simp only [List.cons_append, stepU]
    rw [List.cons_append] at hr
    rw [if_pos (by decide), hr]
    simp
/-- What is written is read, whatever follows. -/
theorem un_escS : ∀ (l : List UInt8) (pos : Nat) (out : List UInt8), unS (escS l) pos out = (out ++ l, 0, 0)
  | [], pos, out => by
    rw [show escS [] = [] from rfl, unS_nil, List.append_nil]
  | c :: t, pos, out => by
    have he : escS (c :: t) = escB c ++ escS t := by simp [escS]
    have hp : escB c ≠ [] := by
      unfold escB
      split
      · simp
      · assumption
    have hl : 0 < (escB c).length := List.length_pos_iff.2 hp
    rw [he, unS_cons _ (by intro e; exact hp (List.append_eq_nil_iff.1 e).1), step_form, if_neg (by simp only; omega)]
    simp only
    rw [List.drop_left, un_escS t]
    simp
theorem form_all : ∀ c : Fin 256, tendrilref03_Form.f 8 (c.val : Int) = some ⟨(escB (UInt8.ofNat c.val)).toArray⟩ := by decide +kernel
theorem form_ev (c : UInt8) : Ev (fun k => tendrilref03_Form.f k (c.toNat : Int)) ⟨(escB c).toArray⟩ := by
  have h := form_all ⟨c.toNat, c.toNat_lt⟩
  simp only [UInt8.ofNat_toNat] at h
  exact Ev.of (fun k => tendrilref03_Form.mono _ k) h
theorem starts_f (s t : ByteArray) : tendrilref03_starts.f s t = some (t.data.toList.isPrefixOf s.data.toList) := by
  have h1 := dlen s
  have h2 := dlen t
  unfold tendrilref03_starts.f
  by_cases h : (s.size : Int) ≥ (t.size : Int)
  · rw [if_pos h, if_pos (by omega), if_pos (by omega), tl, tl, ext_list, List.drop_zero, Nat.sub_zero, Int.toNat_natCast]
    congr 1
    rw [Bool.eq_iff_iff, beq_iff_eq, List.isPrefixOf_iff_prefix, List.prefix_iff_eq_take, h2]
    exact eq_comm
  · rw [if_neg h]
    congr 1
    symm
    rw [Bool.eq_false_iff, ne_eq, List.isPrefixOf_iff_prefix]
    intro hp
    have := hp.length_le
    omega
theorem one_step (s : ByteArray) (n : Nat) (hn : n < 256) (R : Int) (h : Ev (fun k => if (escB (UInt8.ofNat n)).isPrefixOf s.data.toList = true then some (n : Int) else tendrilref03_one.l0 k s ((n + 1 : Nat) : Int)) R) : Ev (fun k => tendrilref03_one.l0 k s (n : Int)) R := by
  refine Ev.step (f := fun k => (tendrilref03_Form.f k (n : Int)).bind fun t119 => ((tendrilref03_starts.f s t119).bind fun t120 => (if t120 = true then (some (n : Int)) else (tendrilref03_one.l0 k s ((n + 1 : Nat) : Int))))) (fun k => ?_) ?_
  · simp only [tendrilref03_one.l0]
    rw [if_pos (by omega), show (n : Int) % 256 = (n : Int) by omega, L03.w64 (by omega) (by omega)]
    rfl
  · have hf := form_ev (UInt8.ofNat n)
    rw [show ((UInt8.ofNat n).toNat : Int) = (n : Int) by simp; omega] at hf
    refine Ev.bind hf ?_
    simp only [starts_f, Option.bind_some]
    exact h
theorem one_run (s : ByteArray) (R : Int) : ∀ n : Nat, n ≤ 256 → (∀ c : Nat, c < n → (escB (UInt8.ofNat c)).isPrefixOf s.data.toList = false) → Ev (fun k => tendrilref03_one.l0 k s (n : Int)) R → Ev (fun k => tendrilref03_one.l0 k s 0) R
  | 0, _, _, h => h
  | n + 1, hn, hno, h => by
    refine one_run s R n (by omega) (fun c hc => hno c (by omega)) (one_step s n (by omega) R ?_)
    rw [hno n (by omega)]
    simpa using h
/-- At most one form begins a text, and the reading finds it. -/
theorem pre_step (l : List UInt8) (c : UInt8) (h : (escB c).isPrefixOf l = true) : stepU l = (c, (escB c).length) := by
  obtain ⟨rest, rfl⟩ := List.isPrefixOf_iff_prefix.1 h
  exact step_form c rest
theorem one_hit (s : ByteArray) (hs : (stepU s.data.toList).2 ≠ 0) : Ev (fun k => tendrilref03_one.f k s) ((stepU s.data.toList).1.toNat : Int) := by
  obtain ⟨h1, h2⟩ := step_esc s.data.toList hs
  generalize hst : stepU s.data.toList = st at hs h1 h2 ⊢
  obtain ⟨c, n⟩ := st
  simp only at hs h1 h2 ⊢
  have hp : (escB c).isPrefixOf s.data.toList = true := by
    rw [List.isPrefixOf_iff_prefix, h2]
    exact List.take_prefix _ _
  refine one_run s _ c.toNat (Nat.le_of_lt c.toNat_lt) (fun b hb => ?_) (one_step s c.toNat c.toNat_lt _ ?_)
  · rw [Bool.eq_false_iff]
    intro hq
    have := pre_step _ _ hq
    rw [hst] at this
    injection this with this
    have h3 := congrArg UInt8.toNat this
    have hcl := c.toNat_lt
    simp at h3
    omega
  · rw [UInt8.ofNat_toNat]
    simp only [hp, if_true]
    exact Ev.now _
theorem one_miss (s : ByteArray) (hs : (stepU s.data.toList).2 = 0) : Ev (fun k => tendrilref03_one.f k s) (-1) := by
  refine one_run s _ 256 (Nat.le_refl _) (fun b hb => ?_) ?_
  · rw [Bool.eq_false_iff]
    intro hq
    have := pre_step _ _ hq
    rw [this] at hs
    have hp : escB (UInt8.ofNat b) ≠ [] := by
      unfold escB
      split
      · simp
      · assumption
    have := List.length_pos_iff.2 hp
    simp only at hs
    omega
  · refine Ev.step (f := fun _ => some (-1)) (fun k => ?_) (Ev.now _)
    simp only [tendrilref03_one.l0]
    rw [if_neg (by decide)]
/-- Bytes as numbers. -/
def ints (l : List UInt8) : List Int := l.map fun b => (b.toNat : Int)
theorem str_ints (l : List UInt8) : strOfNums (ints l) = ⟨l.toArray⟩ := by
  unfold strOfNums ints
  rw [List.map_map]
  have : l.map ((fun n : Int => UInt8.ofNat n.toNat) ∘ fun b : UInt8 => (b.toNat : Int)) = l := by
    conv => rhs; rw [← List.map_id l]
    refine List.map_congr_left fun b _ => ?_
    simp
  rw [this]
theorem un_ev (s : ByteArray) (hs : s.size ≤ 1000000) (d : Nat) : ∀ (pos : Nat) (o : List UInt8), s.size - pos ≤ d → pos ≤ s.size → o.length ≤ pos →
    Ev (fun k => tendrilref03_Unescape.l0 k s (ints o) (pos : Int)) (⟨(unS (s.data.toList.drop pos) pos o).1.toArray⟩, (unS (s.data.toList.drop pos) pos o).2.1, (unS (s.data.toList.drop pos) pos o).2.2) := by
  induction d with
  | zero =>
    intro pos o hd hp ho
    rw [List.drop_of_length_le (by rw [dlen]; omega), unS_nil]
    refine Ev.step (f := fun _ => some (⟨o.toArray⟩, 0, 0)) (fun k => ?_) (Ev.now _)
    simp only [tendrilref03_Unescape.l0]
    rw [if_neg (by omega), str_ints]
  | succ d ih =>
    intro pos o hd hp ho
    by_cases hlt : pos < s.size
    · have hne : s.data.toList.drop pos ≠ [] := by
        intro e
        have := congrArg List.length e
        rw [List.length_drop, dlen, List.length_nil] at this
        omega
      have hx : (s.extract pos s.size).data.toList = s.data.toList.drop pos := by
        rw [ext_list, List.take_of_length_le (by rw [List.length_drop, dlen]; omega)]
      have hlen : (s.data.toList.drop pos).length = s.size - pos := by rw [List.length_drop, dlen]
      rw [unS_cons _ hne]
      refine Ev.step (f := fun k => (tendrilref03_one.f k (s.extract pos s.size)).bind fun t121 => (if t121 < 0 then (some ((⟨#[]⟩ : ByteArray), (pos : Int), 2)) else ((tendrilref03_Form.f k (t121 % 256)).bind fun t125 => (tendrilref03_Unescape.l0 k s (ints o ++ [t121 % 256]) (wrap64 ((pos : Int) + (t125.size : Int))))))) (fun k => ?_) ?_
      · simp only [tendrilref03_Unescape.l0]
        rw [if_pos (by omega), if_pos (by omega), if_pos (by omega), Int.toNat_natCast]
        congr 1
        funext t
        split
        · rfl
        · rw [if_pos (by unfold ints; rw [List.length_map]; omega)]
      · by_cases h0 : (stepU (s.data.toList.drop pos)).2 = 0
        · rw [if_pos h0]
          refine Ev.bind (one_miss _ (by rw [hx]; exact h0)) ?_
          simp only [show ((-1 : Int) < 0) = True from eq_true (by decide), if_true]
          exact Ev.now _
        · rw [if_neg h0]
          obtain ⟨h1, h2⟩ := step_esc _ h0
          have hq := one_hit (s.extract pos s.size) (by rw [hx]; exact h0)
          rw [hx] at hq
          generalize stepU (s.data.toList.drop pos) = st at h0 h1 h2 hq ⊢
          obtain ⟨c, n⟩ := st
          simp only at h0 h1 h2 hq ⊢
          have hc := c.toNat_lt
          have hm : ((c.toNat : Int)) % 256 = (c.toNat : Int) := by omega
          refine Ev.bind hq ?_
          simp only [show ((c.toNat : Int) < 0) = False from eq_false (by omega), if_false, hm]
          refine Ev.bind (form_ev c) ?_
          have hsz : (⟨(escB c).toArray⟩ : ByteArray).size = n := by
            rw [sizeL, h2, List.length_take]; omega
          simp only [hsz]
          rw [L03.w64 (by omega) (by omega), show (pos : Int) + (n : Int) = ((pos + n : Nat) : Int) by omega, show ints o ++ [(c.toNat : Int)] = ints (o ++ [c]) by simp [ints], List.drop_drop]
          exact ih (pos + n) (o ++ [c]) (by omega) (by omega) (by rw [List.length_append, List.length_singleton]; omega)
    · have : pos = s.size := by omega
      subst this
      rw [List.drop_of_length_le (by rw [dlen]; omega), unS_nil]
      refine Ev.step (f := fun _ => some (⟨o.toArray⟩, 0, 0)) (fun k => ?_) (Ev.now _)
      simp only [tendrilref03_Unescape.l0]
      rw [if_neg (by omega), str_ints]
theorem run_ev (s : ByteArray) (hs : s.size ≤ 1000000) : Ev (fun k => tendrilref03_Unescape.f k s) (⟨(unS s.data.toList 0 []).1.toArray⟩, (unS s.data.toList 0 []).2.1, (unS s.data.toList 0 []).2.2) := un_ev s hs s.size 0 [] (by omega) (by omega) (by simp)
end Go.Proofs.YtpanmmpkdbhofaaDoor.M03

namespace Go.Proofs.YtpanmmpkdbhofaaDoor.M03
open Go Go.RowKit Go.Proofs.YtpanmmpkdbhofaaDoor.P12r Go.Proofs.YtpanmmpkdbhofaaDoorE Go.Proofs.YtpanmmpkdbhofaaDoor.L03 Go.Proofs.YtpanmmpkdbhofaaDoorW.PrintWords Go.Proofs.YtpanmmpkdbhofaaDoorW.PrintLast Go.Proofs.YtpanmmpkdbhofaaDoorW.PrintMore
theorem bt_at (s : ByteArray) (i : Nat) (h : i < s.data.toList.length) : bt s (i : Int) = ((s.data.toList[i]'h).toNat : Int) := by
  have hs : i < s.size := by rw [← dlen]; exact h
  unfold bt
  rw [dif_pos (by simpa using hs)]
  simp only [Int.toNat_natCast]
  rfl
end Go.Proofs.YtpanmmpkdbhofaaDoor.M03

namespace Go.Proofs.YtpanmmpkdbhofaaDoorE
open Go Go.RowKit Go.Proofs.YtpanmmpkdbhofaaDoorW.PrintWords Go.Proofs.YtpanmmpkdbhofaaDoorX Go.Proofs.YtpanmmpkdbhofaaDoor.P12r Go.Proofs.YtpanmmpkdbhofaaDoor.M02
set_option linter.unusedVariables false
abbrev RL := ByteArray × ByteArray × Int × Int
/-- What the place i tells of a text: a label, or nothing. -/
def tryR (s : ByteArray) (i : Nat) : Option RL :=
  if namedS false ((B s).take i) = true then
    if (B s)[i]? = some 58 ∧ (wholeS ((B s).drop (i + 1))).2 = true ∧ 1 ≤ (wholeS ((B s).drop (i + 1))).1 then some (s.extract 0 i, ⟨#[]⟩, (wholeS ((B s).drop (i + 1))).1, 0)
    else if (B s)[i]? = some 35 ∧ (unS ((B s).drop (i + 1)) 0 []).2.2 = 0 ∧ (unS ((B s).drop (i + 1)) 0 []).1 ≠ [] ∧ (unS ((B s).drop (i + 1)) 0 []).1.length ≤ 65536 then some (s.extract 0 i, ⟨(unS ((B s).drop (i + 1)) 0 []).1.toArray⟩, 0, 0)
    else none
  else none
def readFrom (s : ByteArray) (i : Nat) : RL :=
  if h : i < s.size then
    match tryR s i with
    | some r => r
    | none => readFrom s (i + ((Utf8.decode s i).2 - 1) + 1)
  else (⟨#[]⟩, ⟨#[]⟩, 0, 2)
termination_by s.size - i
decreasing_by omega
theorem readFrom_hit (s : ByteArray) (i : Nat) (h : i < s.size) (r : RL) (hr : tryR s i = some r) : readFrom s i = r := by rw [readFrom, dif_pos h, hr]
theorem readFrom_miss (s : ByteArray) (i : Nat) (h : i < s.size) (hr : tryR s i = none) : readFrom s i = readFrom s (i + ((Utf8.decode s i).2 - 1) + 1) := by rw [readFrom, dif_pos h, hr]
theorem readFrom_end (s : ByteArray) : readFrom s s.size = (⟨#[]⟩, ⟨#[]⟩, 0, 2) := by rw [readFrom, dif_neg (by omega)]
theorem named_c (t : ByteArray) (ht : t.size ≤ 1000) (W : World) (hgl : GL W) : Calls Tryd.prog 22 #[.string t, .bool false] W fun e w' => e = .returned (.bool (namedS false (B t))) ∧ Drawn0 W w' := by
  obtain ⟨k, hk⟩ := rnamed_ev t false (by omega)
  exact tendrilref02_Named.calls k t false _ W hgl (hk k (Nat.le_refl _))
theorem whole_c (t : ByteArray) (ht : t.size ≤ 1000) (W : World) (hgl : GL W) : Calls Tryd.prog 18 #[.string t] W fun e w' => e = .returned (.tuple #[.int .i64 (wholeS (B t)).1, .bool (wholeS (B t)).2]) ∧ Below W.heap.size W w' := by
  obtain ⟨k, hk⟩ := rwhole_ev t ht
  exact tendrilref02_Whole.calls k t _ _ W hgl (hk k (Nat.le_refl _))
theorem unesc_c (t : ByteArray) (ht : t.size ≤ 1000) (W : World) (hgl : GL W) : Calls Tryd.prog 32 #[.string t] W fun e w' => e = .returned (.tuple #[.string ⟨(unS (B t) 0 []).1.toArray⟩, .int .i64 (unS (B t) 0 []).2.1, .int .i64 (unS (B t) 0 []).2.2]) ∧ Below W.heap.size W w' := by
  obtain ⟨k, hk⟩ := Go.Proofs.YtpanmmpkdbhofaaDoor.M03.run_ev t (by omega)
  exact tendrilref03_Unescape.calls k t _ _ _ W hgl (hk k (Nat.le_refl _))
theorem B_upto (s : ByteArray) (i : Nat) : B (s.extract 0 i) = (B s).take i := by rw [B_extract]; simp
theorem B_from (s : ByteArray) (i : Nat) : B (s.extract i s.size) = (B s).drop i := by rw [B_extract, List.take_of_length_le (by rw [List.length_drop, B_len]; omega)]
theorem B_at (s : ByteArray) (i : Nat) (hi : i < s.size) : (B s)[i]? = some (s[i]'hi) := by
  have h : i < (B s).length := by rw [B_len]; exact hi
  rw [List.getElem?_eq_getElem h]; simp [B]; rfl
theorem ext_size (s : ByteArray) (i j : Nat) : (s.extract i j).size ≤ s.size := by rw [ByteArray.size_extract]; omega
theorem width_pos (s : ByteArray) (i : Nat) : 1 ≤ (Utf8.decode s i).2 := by
  simp only [Utf8.decode]
  repeat' split
  all_goals simp
theorem width_le (s : ByteArray) (i : Nat) (h : i < s.size) : i + (Utf8.decode s i).2 ≤ s.size := by
  by_cases hx : (s[i]'h).toNat < 128
  · rw [decode_ascii s i h hx]; show i + 1 ≤ _; omega
  · exact (decode_bytes s i h (by omega)).1
theorem iterAt_other (w : World) (k : Nat) (s : ByteArray) (p : Nat) {j : Nat} (h : j ≠ k) : (w.iterAt k s p).heap[j]? = w.heap[j]? := by
  simp [World.iterAt, Ne.symm h]
theorem iterAt_le {w wx : World} {k : Nat} {s : ByteArray} {p : Nat} (h : Below w.heap.size w wx) (hk : w.heap.size ≤ k) : Below w.heap.size w (wx.iterAt k s p) :=
  ⟨h.os, h.tape, h.output, by simpa [World.iterAt] using h.size, fun j hj => (iterAt_other wx k s p (by omega)).trans (h.block j hj)⟩
theorem blk_lt5 {w : World} {g : Nat} {o : Obj} (h : w.heap[g]? = some o) : g < w.heap.size := by
  rcases Nat.lt_or_ge g w.heap.size with h' | h'
  · exact h'
  · simp [Array.getElem?_eq_none h'] at h
set_option maxHeartbeats 4000000 in
set_option maxRecDepth 100000 in
theorem rread_c (s : ByteArray) (hs : s.size ≤ 1000) (w : World) (hgl : GL w) :
    Calls Tryd.prog 47 #[.string s] w fun e w' => e = .returned (.tuple #[.agg #[.string (readFrom s 0).1, .string (readFrom s 0).2.1, .int .i64 (readFrom s 0).2.2.1], .int .i64 (readFrom s 0).2.2.2]) ∧ Below w.heap.size w w' := by
  have HGL := Aside0.mk hgl
  clear hgl
  go_enter Tryd.func47, Tryd.ntmps47
  go_wp2_with fail
  have H2 := Aside0.mk (two_old w (.cells #[.string ⟨#[]⟩, .string ⟨#[]⟩, .int .i64 0] 56) (.stringIter s 0))
  have HI := Aside0.mk (two_new w (.cells #[.string ⟨#[]⟩, .string ⟨#[]⟩, .int .i64 0] 56) (.stringIter s 0))
  have HB0 := Aside0.mk (below_alloc (below_alloc (Below.refl w.heap.size w) (.cells #[.string ⟨#[]⟩, .string ⟨#[]⟩, .int .i64 0] 56)) (.stringIter s 0))
  go_loopg [4] s.size (fun gk _ wx => ∃ i : Nat, i + gk = s.size ∧ wx.heap[w.heap.size + 1]? = some (.stringIter s i) ∧ wx.heap[w.heap.size]? = some (.cells #[.string ⟨#[]⟩, .string ⟨#[]⟩, .int .i64 0] 56 (0, 0)) ∧ Below w.heap.size w wx ∧ readFrom s i = readFrom s 0)
  case atStart => exact ⟨0, by omega, HI.out, H2.out, HB0.out, rfl⟩
  case round =>
    obtain ⟨i, hig, hit, h2, hb, hrf⟩ := hrel
    clear H2 HI HB0
    have HI := Aside0.mk hit
    have H2 := Aside0.mk h2
    have HB := Aside0.mk hb
    have HR := Aside0.mk hrf
    have HB2 := Aside0.mk (show w.heap.size + 2 ≤ wr.heap.size from blk_lt5 hit)
    clear hit h2 hb hrf
    by_cases hi : i < s.size
    · have hnx := fun ty => Lib.run_next_any_at (P := Tryd.prog) wr (w.heap.size + 1) s i ty HI.out hi
      have hwd := width_pos s i
      have hnx2 : i + ((Utf8.decode s i).2 - 1) + 1 = i + (Utf8.decode s i).2 := by omega
      have hwl : i + (Utf8.decode s i).2 ≤ s.size := width_le s i hi
      have hmiss := readFrom_miss s i hi
      rw [hnx2] at hmiss
      generalize Utf8.decode s i = d at hnx hwd hwl hmiss
      obtain ⟨rn, nw⟩ := d
      simp only at hnx hwd hwl hmiss
      have HMI := Aside0.mk hmiss
      clear hmiss hnx2
      go_wp2_with fail
      have hgs : (wr.iterAt (w.heap.size + 1) s (i + nw)).heap.size = wr.heap.size := by simp [World.iterAt]
      have hk2 : w.heap.size + 2 ≤ wr.heap.size := HB2.out
      obtain ⟨W1, hW1⟩ : ∃ W, W = (wr.iterAt (w.heap.size + 1) s (i + nw)).alloc (.cells #[.string (s.extract 0 i), .string ⟨#[]⟩, .int .i64 0] 56) := ⟨_, rfl⟩
      rw [← hW1]
      obtain ⟨g, hgg⟩ : ∃ g, g = (wr.iterAt (w.heap.size + 1) s (i + nw)).heap.size := ⟨_, rfl⟩
      rw [← hgg]
      have hk3 : w.heap.size + 2 ≤ g := by rw [hgg, hgs]; exact hk2
      have b5 : W1.heap[g]? = some (.cells #[.string (s.extract 0 i), .string ⟨#[]⟩, .int .i64 0] 56 (0, 0)) := by rw [hW1, hgg]; exact heap_alloc_new _ _
      have i5 : W1.heap[w.heap.size + 1]? = some (.stringIter s (i + nw)) := by rw [hW1]; exact ((below_alloc (Below.refl _ _) _).block _ (by rw [hgs]; omega)).trans (Lib.iterAt_heap _ _ _ _ _ HI.out)
      have a5 : W1.heap[w.heap.size]? = some (.cells #[.string ⟨#[]⟩, .string ⟨#[]⟩, .int .i64 0] 56 (0, 0)) := by rw [hW1]; exact ((below_alloc (Below.refl _ _) _).block _ (by rw [hgs]; omega)).trans ((iterAt_other _ _ _ _ (by omega)).trans H2.out)
      have HB5 := Aside0.mk (show Below w.heap.size w W1 by rw [hW1]; exact below_alloc (iterAt_le HB.out (by omega)) _)
      have hs5 : g < W1.heap.size := blk_lt5 b5
      clear hW1 hgs hnx hgg hk2
      refine (named_c (s.extract 0 i) (Nat.le_trans (ext_size s 0 i) hs) W1 (HGL.out.below HB5.out)).mono ?_
      rintro e w1 ⟨rfl, ⟨m1, rfl⟩⟩
      rw [B_upto]
      have x50 : W1.cell? ⟨g, 0, none⟩ = some (.string (s.extract 0 i)) := cell_blk b5 rfl
      by_cases hnm : namedS false ((B s).take i) = true
      · rw [hnm]
        go_wp2_with fail
        have hg2 : GL (W1.drewN m1) := HGL.out.below (pw_below_drewN HB5.out m1)
        have hB5 : Below w.heap.size w (W1.drewN m1) := pw_below_drewN HB5.out m1
        have hB51 : Below (wr.heap.size + 1) W1 (W1.drewN m1) := pw_below_drewN (Below.refl _ W1) m1
        refine (whole_c (s.extract (i + 1) s.size) (Nat.le_trans (ext_size s _ _) hs) (W1.drewN m1) hg2).mono ?_
        rintro e w2 ⟨rfl, hw2⟩
        rw [B_from]
        have b6 : w2.heap[g]? = some (.cells #[.string (s.extract 0 i), .string ⟨#[]⟩, .int .i64 0] 56 (0, 0)) := (hw2.block g (by simpa using hs5)).trans (blk_drewN b5 _)
        have a6 : w2.heap[w.heap.size]? = some (.cells #[.string ⟨#[]⟩, .string ⟨#[]⟩, .int .i64 0] 56 (0, 0)) := (hw2.block _ (by simpa using Nat.lt_of_lt_of_le (by omega) (Nat.le_of_lt hs5))).trans (blk_drewN a5 _)
        have i6 : w2.heap[w.heap.size + 1]? = some (.stringIter s (i + nw)) := (hw2.block _ (by simpa using Nat.lt_of_lt_of_le (by omega) (Nat.le_of_lt hs5))).trans (blk_drewN i5 _)
        have HB6 := Aside0.mk (below_step hB5 hw2)
        have hs6 : g < w2.heap.size := blk_lt5 b6
        clear x50 b5 a5 i5 hB5 hB51 hw2 hg2 hs5 HB5
        have HB6' := Aside0.mk b6
        have HA6 := Aside0.mk a6
        have HI6 := Aside0.mk i6
        have x0 : w2.cell? ⟨g, 0, none⟩ = some (.string (s.extract 0 i)) := cell_blk b6 rfl
        have x1 : w2.cell? ⟨g, 1, none⟩ = some (.string ⟨#[]⟩) := cell_blk b6 rfl
        have x2 : w2.cell? ⟨g, 2, none⟩ = some (.int .i64 0) := cell_blk b6 rfl
        have y0 : w2.cell? ⟨w.heap.size, 0, none⟩ = some (.string ⟨#[]⟩) := cell_blk a6 rfl
        have y1 : w2.cell? ⟨w.heap.size, 1, none⟩ = some (.string ⟨#[]⟩) := cell_blk a6 rfl
        have y2 : w2.cell? ⟨w.heap.size, 2, none⟩ = some (.int .i64 0) := cell_blk a6 rfl
        have hf0 := blk_frozen b6 0
        have hf1 := blk_frozen b6 1
        have hf2 := blk_frozen b6 2
        have hq0 := blk_frozen a6 0
        have hq1 := blk_frozen a6 1
        have hq2 := blk_frozen a6 2
        have hne : (w.heap.size == g) = false := by rw [beq_eq_false_iff_ne]; omega
        have hne' : (g == w.heap.size) = false := by rw [beq_eq_false_iff_ne]; omega
        clear b6 a6 i6
        have hbi : (B s)[i]? = some (s[i]'hi) := B_at s i hi
        obtain ⟨n, ok, hwh⟩ : ∃ n ok, wholeS ((B s).drop (i + 1)) = (n, ok) := ⟨_, _, rfl⟩
        obtain ⟨l, at0, er, hun⟩ : ∃ l at0 er, unS ((B s).drop (i + 1)) 0 [] = (l, at0, er) := ⟨_, _, _, rfl⟩
        rw [hwh]
        by_cases h58 : s[i]'hi = 58
        · have hn35 : ¬ (s[i]'hi = 35) := by rw [h58]; decide
          cases ok with
          | true =>
            by_cases hn : 1 ≤ n
            · have htr : tryR s i = some (s.extract 0 i, ⟨#[]⟩, n, 0) := by unfold tryR; rw [if_pos hnm, hbi, hwh, if_pos ⟨by rw [h58], rfl, hn⟩]
              have hd : decide (1 ≤ n) = true := decide_eq_true hn
              go_wp2_with fail
              refine bodyPost_ret (results_ct rfl _ _ w.heap.size 56 #[.string (s.extract 0 i), .string ⟨#[]⟩, .int .i64 n] (0, 0) _ rfl ?blk Tryd.underlying56 rfl (by kernel_rfl)) rfl ?_
              case blk =>
                refine blk_put (cs := #[.string (s.extract 0 i), .string ⟨#[]⟩, .int .i64 0]) ?_ 2 _ rfl
                refine blk_put (cs := #[.string (s.extract 0 i), .string ⟨#[]⟩, .int .i64 0]) ?_ 1 _ rfl
                refine blk_put (cs := #[.string ⟨#[]⟩, .string ⟨#[]⟩, .int .i64 0]) ?_ 0 _ rfl
                exact blk_far HA6.out (show w.heap.size ≠ g by omega) _
              refine ⟨?_, below_set (below_set (below_set (below_set HB6.out (show w.heap.size ≤ g by omega)) (Nat.le_refl _)) (Nat.le_refl _)) (Nat.le_refl _)⟩
              rw [← HR.out, readFrom_hit s i hi _ htr]
              rfl
            · have htr : tryR s i = none := by
                unfold tryR
                rw [if_pos hnm, hbi, hwh, if_neg (fun h => hn h.2.2), if_neg (fun h => hn35 (Option.some.inj h.1))]
              have hd : decide (1 ≤ n) = false := decide_eq_false hn
              go_wp2_with fail
              have hg6 : GL w2 := HGL.out.below HB6.out
              refine (unesc_c (s.extract (i + 1) s.size) (Nat.le_trans (ext_size s _ _) hs) w2 hg6).mono ?_
              rintro e w3 ⟨rfl, hw3⟩
              rw [B_from]
              have b7 : w3.heap[g]? = some (.cells #[.string (s.extract 0 i), .string ⟨#[]⟩, .int .i64 0] 56 (0, 0)) := (hw3.block _ (by omega)).trans HB6'.out
              have i7 : w3.heap[w.heap.size + 1]? = some (.stringIter s (i + nw)) := (hw3.block _ (by omega)).trans HI6.out
              have a7 : w3.heap[w.heap.size]? = some (.cells #[.string ⟨#[]⟩, .string ⟨#[]⟩, .int .i64 0] 56 (0, 0)) := (hw3.block _ (by omega)).trans HA6.out
              have HB7 := Aside0.mk (below_step HB6.out hw3)
              have hs7 : g < w3.heap.size := blk_lt5 b7
              clear x0 x1 x2 y0 y1 y2 hf0 hf1 hf2 hq0 hq1 hq2 hw3
              rw [hun]
              go_wp2_with fail
              go_roundg (s.size - (i + nw))
              case measure => omega
              case rel => exact ⟨i + nw, by omega, i7, a7, HB7.out, (HMI.out htr).symm.trans HR.out⟩
          | false =>
            have htr : tryR s i = none := by
              unfold tryR
              rw [if_pos hnm, hbi, hwh, if_neg (fun h => Bool.false_ne_true h.2.1), if_neg (fun h => hn35 (Option.some.inj h.1))]
            go_wp2_with fail
            have hg6 : GL w2 := HGL.out.below HB6.out
            refine (unesc_c (s.extract (i + 1) s.size) (Nat.le_trans (ext_size s _ _) hs) w2 hg6).mono ?_
            rintro e w3 ⟨rfl, hw3⟩
            rw [B_from]
            have b7 : w3.heap[g]? = some (.cells #[.string (s.extract 0 i), .string ⟨#[]⟩, .int .i64 0] 56 (0, 0)) := (hw3.block _ (by omega)).trans HB6'.out
            have i7 : w3.heap[w.heap.size + 1]? = some (.stringIter s (i + nw)) := (hw3.block _ (by omega)).trans HI6.out
            have a7 : w3.heap[w.heap.size]? = some (.cells #[.string ⟨#[]⟩, .string ⟨#[]⟩, .int .i64 0] 56 (0, 0)) := (hw3.block _ (by omega)).trans HA6.out
            have HB7 := Aside0.mk (below_step HB6.out hw3)
            have hs7 : g < w3.heap.size := blk_lt5 b7
            clear x0 x1 x2 y0 y1 y2 hf0 hf1 hf2 hq0 hq1 hq2 hw3
            rw [hun]
            go_wp2_with fail
            go_roundg (s.size - (i + nw))
            case measure => omega
            case rel => exact ⟨i + nw, by omega, i7, a7, HB7.out, (HMI.out htr).symm.trans HR.out⟩
        · have hz58 : ((s[i]'hi).toNat : Int) ≠ 58 := fun h => h58 (UInt8.toNat_inj.1 (by show (s[i]'hi).toNat = 58; omega))
          go_wp2_with fail
          have hg6 : GL w2 := HGL.out.below HB6.out
          refine (unesc_c (s.extract (i + 1) s.size) (Nat.le_trans (ext_size s _ _) hs) w2 hg6).mono ?_
          rintro e w3 ⟨rfl, hw3⟩
          rw [B_from]
          have b7 : w3.heap[g]? = some (.cells #[.string (s.extract 0 i), .string ⟨#[]⟩, .int .i64 0] 56 (0, 0)) := (hw3.block _ (by omega)).trans HB6'.out
          have i7 : w3.heap[w.heap.size + 1]? = some (.stringIter s (i + nw)) := (hw3.block _ (by omega)).trans HI6.out
          have a7 : w3.heap[w.heap.size]? = some (.cells #[.string ⟨#[]⟩, .string ⟨#[]⟩, .int .i64 0] 56 (0, 0)) := (hw3.block _ (by omega)).trans HA6.out
          have HB7 := Aside0.mk (below_step HB6.out hw3)
          have hs7 : g < w3.heap.size := blk_lt5 b7
          clear x0 x1 x2 y0 y1 y2 hf0 hf1 hf2 hq0 hq1 hq2 hw3
          rw [hun]
          obtain ⟨k, hk⟩ : ∃ k : ByteArray, k = ⟨l.toArray⟩ := ⟨_, rfl⟩
          rw [← hk]
          have hkl : B k = l := by rw [hk]
          clear hk
          by_cases h35 : s[i]'hi = 35
          · have hz35 : ((s[i]'hi).toNat : Int) = 35 := by rw [h35]; rfl
            have hn58 : ∀ X Y : Prop, ¬ ((some (s[i]'hi) = some 58) ∧ X ∧ Y) := fun X Y h => h58 (Option.some.inj h.1)
            by_cases her : er = 0
            · by_cases hl0 : l = []
              · have hk0 : k.toList = [] := by rw [toList_B, hkl, hl0]
                have hk1 : k.toList.isEmpty = true := by rw [hk0]; rfl
                have htr : tryR s i = none := by
                  unfold tryR
                  rw [if_pos hnm, hbi, hwh, if_neg (hn58 _ _), hun, if_neg (fun h => h.2.2.1 hl0)]
                go_wp2_with fail
                go_roundg (s.size - (i + nw))
                case measure => omega
                case rel => exact ⟨i + nw, by omega, i7, a7, HB7.out, (HMI.out htr).symm.trans HR.out⟩
              · have hk0 : k.toList ≠ [] := by rw [toList_B, hkl]; exact hl0
                have hk1 : k.toList.isEmpty = false := by rw [Bool.eq_false_iff]; intro h; exact hk0 (List.isEmpty_iff.1 h)
                have hks : k.size = l.length := by rw [← hkl, B_len]
                by_cases h64 : l.length ≤ 65536
                · have htr : tryR s i = some (s.extract 0 i, ⟨l.toArray⟩, 0, 0) := by
                    unfold tryR
                    rw [if_pos hnm, hbi, hwh, if_neg (hn58 _ _), hun, if_pos ⟨by rw [h35], her, hl0, h64⟩]
                  have hk6 : (k.size : Int) ≤ 65536 := by omega
                  have hk7 := decide_eq_true hk6
                  have x0 : w3.cell? ⟨g, 0, none⟩ = some (.string (s.extract 0 i)) := cell_blk b7 rfl
                  have x1 : w3.cell? ⟨g, 1, none⟩ = some (.string ⟨#[]⟩) := cell_blk b7 rfl
                  have x2 : w3.cell? ⟨g, 2, none⟩ = some (.int .i64 0) := cell_blk b7 rfl
                  have y0 : w3.cell? ⟨w.heap.size, 0, none⟩ = some (.string ⟨#[]⟩) := cell_blk a7 rfl
                  have y1 : w3.cell? ⟨w.heap.size, 1, none⟩ = some (.string ⟨#[]⟩) := cell_blk a7 rfl
                  have y2 : w3.cell? ⟨w.heap.size, 2, none⟩ = some (.int .i64 0) := cell_blk a7 rfl
                  have hf0 := blk_frozen b7 0
                  have hf1 := blk_frozen b7 1
                  have hf2 := blk_frozen b7 2
                  have hq0 := blk_frozen a7 0
                  have hq1 := blk_frozen a7 1
                  have hq2 := blk_frozen a7 2
                  go_wp2_with fail
                  have hkk : k = ⟨l.toArray⟩ := B_inj (by rw [hkl])
                  refine bodyPost_ret (results_ct rfl _ _ w.heap.size 56 #[.string (s.extract 0 i), .string k, .int .i64 0] (0, 0) _ rfl ?blk Tryd.underlying56 rfl (by kernel_rfl)) rfl ?_
                  case blk =>
                    refine blk_put (cs := #[.string (s.extract 0 i), .string k, .int .i64 0]) ?_ 2 _ rfl
                    refine blk_put (cs := #[.string (s.extract 0 i), .string ⟨#[]⟩, .int .i64 0]) ?_ 1 _ rfl
                    refine blk_put (cs := #[.string ⟨#[]⟩, .string ⟨#[]⟩, .int .i64 0]) ?_ 0 _ rfl
                    exact blk_far a7 (show w.heap.size ≠ g by omega) _
                  refine ⟨?_, below_set (below_set (below_set (below_set HB7.out (show w.heap.size ≤ g by omega)) (Nat.le_refl _)) (Nat.le_refl _)) (Nat.le_refl _)⟩
                  rw [← HR.out, readFrom_hit s i hi _ htr, hkk]
                  rfl
                · have htr : tryR s i = none := by
                    unfold tryR
                    rw [if_pos hnm, hbi, hwh, if_neg (hn58 _ _), hun, if_neg (fun h => h64 h.2.2.2)]
                  have hk6 : ¬ (k.size : Int) ≤ 65536 := by omega
                  have hk7 := decide_eq_false hk6
                  go_wp2_with fail
                  go_roundg (s.size - (i + nw))
                  case measure => omega
                  case rel => exact ⟨i + nw, by omega, i7, a7, HB7.out, (HMI.out htr).symm.trans HR.out⟩
            · have htr : tryR s i = none := by
                unfold tryR
                rw [if_pos hnm, hbi, hwh, if_neg (hn58 _ _), hun, if_neg (fun h => her h.2.1)]
              have her' : (er == 0) = false := beq_eq_false_iff_ne.2 her
              go_wp2_with fail
              go_roundg (s.size - (i + nw))
              case measure => omega
              case rel => exact ⟨i + nw, by omega, i7, a7, HB7.out, (HMI.out htr).symm.trans HR.out⟩
          · have hz35 : ((s[i]'hi).toNat : Int) ≠ 35 := fun h => h35 (UInt8.toNat_inj.1 (by show (s[i]'hi).toNat = 35; omega))
            have htr : tryR s i = none := by
              unfold tryR
              rw [if_pos hnm, hbi, hwh, if_neg (fun h => h58 (Option.some.inj h.1)), if_neg (fun h => h35 (Option.some.inj h.1))]
            go_wp2_with fail
            go_roundg (s.size - (i + nw))
            case measure => omega
            case rel => exact ⟨i + nw, by omega, i7, a7, HB7.out, (HMI.out htr).symm.trans HR.out⟩
      · have hnf : namedS false ((B s).take i) = false := by simpa using hnm
        rw [hnf]
        have htr : tryR s i = none := by unfold tryR; rw [if_neg hnm]
        go_wp2_with fail
        go_roundg (s.size - (i + nw))
        case measure => omega
        case rel => exact ⟨i + nw, by omega, i5, a5, pw_below_drewN HB5.out _, (HMI.out htr).symm.trans HR.out⟩
    · have his : i = s.size := by omega
      have hnx := fun ty => Lib.run_next_end_at (P := Tryd.prog) wr (w.heap.size + 1) s i ty HI.out (by omega)
      have y0 : wr.cell? ⟨w.heap.size, 0, none⟩ = some (.string ⟨#[]⟩) := cell_blk H2.out rfl
      have y1 : wr.cell? ⟨w.heap.size, 1, none⟩ = some (.string ⟨#[]⟩) := cell_blk H2.out rfl
      have y2 : wr.cell? ⟨w.heap.size, 2, none⟩ = some (.int .i64 0) := cell_blk H2.out rfl
      have hq0 := blk_frozen H2.out 0
      have hq1 := blk_frozen H2.out 1
      have hq2 := blk_frozen H2.out 2
      go_wp2_with fail
      refine bodyPost_ret (results_ct rfl _ _ w.heap.size 56 #[.string ⟨#[]⟩, .string ⟨#[]⟩, .int .i64 0] (0, 0) _ rfl ?blk Tryd.underlying56 rfl (by kernel_rfl)) rfl ?_
      case blk =>
        refine blk_put (cs := #[.string ⟨#[]⟩, .string ⟨#[]⟩, .int .i64 0]) ?_ 2 _ rfl
        refine blk_put (cs := #[.string ⟨#[]⟩, .string ⟨#[]⟩, .int .i64 0]) ?_ 1 _ rfl
        refine blk_put (cs := #[.string ⟨#[]⟩, .string ⟨#[]⟩, .int .i64 0]) ?_ 0 _ rfl
        exact H2.out
      refine ⟨?_, below_set (below_set (below_set HB.out (Nat.le_refl _)) (Nat.le_refl _)) (Nat.le_refl _)⟩
      rw [← HR.out, his, readFrom_end]
      rfl
end Go.Proofs.YtpanmmpkdbhofaaDoorE

namespace Go.Proofs.YtpanmmpkdbhofaaDoorE
open Go Go.RowKit Go.Proofs.YtpanmmpkdbhofaaDoorW.PrintWords Go.Proofs.YtpanmmpkdbhofaaDoorX Go.Proofs.YtpanmmpkdbhofaaDoor.P12r Go.Proofs.YtpanmmpkdbhofaaDoor.M02 Go.Proofs.YtpanmmpkdbhofaaDoorW.PrintMore Go.Proofs.YtpanmmpkdbhofaaDoorW.PrintLast
set_option linter.unusedVariables false
def sg2 : List UInt8 := [35, 58]
def stop2 (l : List UInt8) : Nat := l.findIdx fun b => sg2.contains b
theorem stop2_le (l : List UInt8) : stop2 l ≤ l.length := List.findIdx_le_length
theorem stop2_no (l : List UInt8) : Lib.NoAny l sg2 (stop2 l) := by
  intro j b hj hb
  obtain ⟨hlt, rfl⟩ := List.getElem?_eq_some_iff.1 hb
  have := List.not_of_lt_findIdx hj
  simpa using this
theorem stop2_hit (l : List UInt8) (h : stop2 l < l.length) : sg2.contains (l[stop2 l]'h) = true := List.findIdx_getElem (w := h)
theorem any_stop2 (l : List UInt8) : Lib.indexAny l sg2 = if stop2 l < l.length then (stop2 l : Int) else -1 := by
  split
  · rename_i h
    exact Lib.indexAny_hit (stop2_no l) (List.getElem?_eq_getElem h) (stop2_hit l h)
  · rename_i h
    exact Lib.indexAny_none (by rw [show l.length = stop2 l by have := stop2_le l; omega]; exact stop2_no l)
theorem any_f2 (s : ByteArray) (h : s.size ≤ 1000000) : strings_IndexAny.f s ⟨#[35, 58]⟩ = some (if stop2 (B s) < (B s).length then (stop2 (B s) : Int) else -1) := by
  unfold strings_IndexAny.f
  rw [if_pos ⟨by omega, by decide, by decide, by decide⟩]
  congr 1
  exact any_stop2 _
abbrev noR : RL := (⟨#[]⟩, ⟨#[]⟩, 0, 2)
theorem tryR_plain (s : ByteArray) (i : Nat) (h58 : (B s)[i]? ≠ some 58) (h35 : (B s)[i]? ≠ some 35) : tryR s i = none := by
  unfold tryR
  split
  · rw [if_neg (fun e => h58 e.1), if_neg (fun e => h35 e.1)]
  · rfl
theorem readFrom_none (s : ByteArray) : ∀ d i, s.size - i ≤ d → (∀ j, i ≤ j → j < s.size → tryR s j = none) → readFrom s i = noR := by
  intro d
  induction d with
  | zero => intro i hd _; rw [readFrom, dif_neg (by omega)]
  | succ d ih =>
    intro i hd h
    by_cases hi : i < s.size
    · rw [readFrom_miss s i hi (h i (Nat.le_refl _) hi)]
      have := width_pos s i
      exact ih _ (by omega) (fun j hj hjs => h j (by omega) hjs)
    · rw [readFrom, dif_neg hi]
theorem readFrom_skip (s : ByteArray) (p : Nat) (hp : p < s.size) (ha : (s[p]'hp).toNat < 128) : ∀ d i, p - i ≤ d → i ≤ p → (∀ j, i ≤ j → j < p → tryR s j = none) → readFrom s i = readFrom s p := by
  intro d
  induction d with
  | zero => intro i hd hip _; rw [show i = p by omega]
  | succ d ih =>
    intro i hd hip h
    by_cases he : i = p
    · rw [he]
    · have hi : i < s.size := by omega
      rw [readFrom_miss s i hi (h i (Nat.le_refl _) (by omega))]
      have hw := width_pos s i
      have hle : i + (Utf8.decode s i).2 ≤ p := by
        by_cases hx : (s[i]'hi).toNat < 128
        · rw [decode_ascii s i hi hx]; show i + 1 ≤ p; omega
        · have hb := (decode_bytes s i hi (by omega)).2
          rcases Nat.lt_or_ge p (i + (Utf8.decode s i).2) with hlt | hge
          · have h1 := hb (p - i) (by omega) (by omega)
            have e : i + (p - i) = p := by omega
            simp only [e] at h1
            omega
          · exact hge
      exact ih _ (by omega) (by omega) (fun j hj hjs => h j (by omega) hjs)
theorem tryR_later (s : ByteArray) (p j : Nat) (hp : p < (B s).length) (hc : (B s)[p] = 58 ∨ (B s)[p] = 35) (hj : p < j) : tryR s j = none := by
  unfold tryR
  rw [if_neg]
  intro hn
  have hm : (B s)[p] ∈ (B s).take j := List.mem_take_iff_getElem.2 ⟨p, by omega, rfl⟩
  generalize (B s).take j = l at hn hm
  cases l with
  | nil => simp at hm
  | cons c t =>
    rw [namedS_cons] at hn
    simp only [Bool.and_eq_true, List.all_eq_true] at hn
    have := hn.2 _ hm
    rcases hc with hc | hc <;> rw [hc] at this <;> exact absurd this (by decide)
theorem readFrom_eq (s : ByteArray) : readFrom s 0 = if h : stop2 (B s) < (B s).length then ((tryR s (stop2 (B s))).getD noR) else noR := by
  have hno := stop2_no (B s)
  have hpl : ∀ j, j < stop2 (B s) → tryR s j = none := by
    intro j hj
    refine tryR_plain s j (fun e => ?_) (fun e => ?_)
    · have := hno j 58 hj e; exact absurd this (by decide)
    · have := hno j 35 hj e; exact absurd this (by decide)
  split
  · rename_i h
    have hh := stop2_hit (B s) h
    have hps : stop2 (B s) < s.size := by rw [← B_len]; exact h
    have hc : (B s)[stop2 (B s)] = 58 ∨ (B s)[stop2 (B s)] = 35 := by
      simp [sg2] at hh
      rcases hh with hh | hh
      · exact Or.inr hh
      · exact Or.inl hh
    have hgt : (B s)[stop2 (B s)]'h = s[stop2 (B s)]'hps := by
      have := B_at s _ hps
      rw [List.getElem?_eq_getElem h] at this
      exact Option.some.inj this
    have ha : (s[stop2 (B s)]'hps).toNat < 128 := by
      rw [← hgt]
      rcases hc with hc | hc <;> rw [hc] <;> decide
    rw [readFrom_skip s _ hps ha _ 0 (Nat.le_refl _) (Nat.zero_le _) (fun j _ hj => hpl j hj)]
    cases htr : tryR s (stop2 (B s)) with
    | some r => rw [readFrom_hit s _ hps r htr]; rfl
    | none =>
      rw [readFrom_miss s _ hps htr]
      have := width_pos s (stop2 (B s))
      exact readFrom_none s _ _ (Nat.le_refl _) (fun j hj hjs => tryR_later s _ j h hc (by omega))
  · rename_i h
    exact readFrom_none s _ 0 (Nat.le_refl _) (fun j _ hj => hpl j (by have := B_len s; omega))
theorem lread_ev (s : ByteArray) (hs : s.size ≤ 1000000) : Ev (fun k => Go.Proofs.YtpanmmpkdbhofaaDoor.P12r.label_Read.f k s) (readFrom s 0) := by
  rw [readFrom_eq]
  have hBl := B_len s
  by_cases h : stop2 (B s) < (B s).length
  · rw [dif_pos h]
    have hh := stop2_hit (B s) h
    obtain ⟨k0, hk0⟩ := tag_ev (s.extract 0 (stop2 (B s))) (by have := ext_size s 0 (stop2 (B s)); omega)
    rw [B_upto] at hk0
    refine ⟨k0 + 1, fun k hk => ?_⟩
    obtain ⟨k, rfl⟩ : ∃ m, k = m + 1 := ⟨k - 1, by omega⟩
    have hbt : bt s (stop2 (B s) : Int) = ((B s)[stop2 (B s)]'h).toNat := bt_nat h
    have hget : (B s)[stop2 (B s)]? = some ((B s)[stop2 (B s)]'h) := List.getElem?_eq_getElem h
    have hc : (B s)[stop2 (B s)]'h = 58 ∨ (B s)[stop2 (B s)]'h = 35 := by
      simp [sg2] at hh
      rcases hh with hh | hh
      · exact Or.inr hh
      · exact Or.inl hh
    generalize (B s)[stop2 (B s)]'h = c at hbt hget hc
    generalize hp : stop2 (B s) = p at *
    have hp1 : (wrap64 ((p : Int) + 1)).toNat = p + 1 := by rw [w64 (by omega) (by omega)]; omega
    have hp2 : 0 ≤ wrap64 ((p : Int) + 1) := by rw [w64 (by omega) (by omega)]; omega
    have hp3 : wrap64 ((p : Int) + 1) ≤ (s.size : Int) := by rw [w64 (by omega) (by omega)]; omega
    have hsz := ext_size s (p + 1) s.size
    have hwf : chars_Whole.f (s.extract (p + 1) s.size) = some (wholeS ((B s).drop (p + 1))) := by
      unfold chars_Whole.f; rw [if_pos (by omega)]; congr 2; exact B_from s (p + 1)
    have huf : escape_Unescape.f (s.extract (p + 1) s.size) = some (⟨(unS ((B s).drop (p + 1)) 0 []).1.toArray⟩, (unS ((B s).drop (p + 1)) 0 []).2.1, (unS ((B s).drop (p + 1)) 0 []).2.2) := by
      unfold escape_Unescape.f
      rw [if_pos (by omega)]
      have e : (s.extract (p + 1) s.size).data.toList = (B s).drop (p + 1) := B_from s (p + 1)
      rw [e]
    simp only [label_Read.f]
    rw [any_f2 s (by omega), hp, if_pos h]
    simp only [Option.bind_some]
    rw [if_neg (by omega), if_pos (by omega), if_pos (by omega), Int.toNat_natCast, show chars_Tag.f (k + 1) (s.extract 0 p) = _ from hk0 (k + 1) (by omega)]
    simp only [Option.bind_some]
    unfold tryR
    cases hn : namedS false ((B s).take p) with
    | false => simp [label_Read.j0]
    | true =>
      simp only [label_Read.j0, Bool.not_true, Bool.false_eq_true, if_false, if_true]
      rw [if_pos (by omega), if_pos (by omega), if_pos (by omega), hbt, hp1, hget, hwf, huf, Int.toNat_natCast]
      simp only [if_pos hp2, if_pos hp3]
      generalize wholeS ((B s).drop (p + 1)) = nw
      obtain ⟨n, ok⟩ := nw
      generalize unS ((B s).drop (p + 1)) 0 [] = u
      obtain ⟨l, at0, er⟩ := u
      simp only [Option.bind_some]
      rcases hc with rfl | rfl
      · rw [if_pos (by decide)]
        rw [if_neg (c := (some (58 : UInt8) = some 35 ∧ _)) (fun e => absurd e.1 (by decide))]
        cases ok with
        | false => simp
        | true =>
          by_cases hn1 : 1 ≤ n
          · rw [if_pos (c := (some (58 : UInt8) = some 58 ∧ _)) ⟨rfl, rfl, hn1⟩, if_pos rfl, if_neg (by omega)]; rfl
          · rw [if_neg (c := (some (58 : UInt8) = some 58 ∧ _)) (fun e => hn1 e.2.2), if_pos rfl, if_pos (by omega)]; rfl
      · rw [if_neg (by decide)]
        rw [if_neg (c := (some (35 : UInt8) = some 58 ∧ _)) (fun e => absurd e.1 (by decide))]
        by_cases her : er = 0
        · rw [if_pos her]
          by_cases hl0 : l = []
          · rw [if_pos (by rw [toList_B, hl0]), if_neg (c := (some (35 : UInt8) = some 35 ∧ _)) (fun e => e.2.2.1 hl0)]; rfl
          · rw [if_neg (by rw [toList_B]; exact hl0)]
            simp only [chars_Fits.f, Option.bind_some]
            have hz : (⟨l.toArray⟩ : ByteArray).size = l.length := by rw [← B_len]
            rw [hz]
            by_cases h64 : l.length ≤ 65536
            · rw [if_pos (c := (True ∧ _)) ⟨trivial, her, hl0, h64⟩, if_pos (decide_eq_true (by omega))]; rfl
            · rw [if_neg (c := (True ∧ _)) (fun e => h64 e.2.2.2), if_neg (by rw [decide_eq_true_iff]; omega)]; rfl
        · rw [if_neg her, if_neg (c := (some (35 : UInt8) = some 35 ∧ _)) (fun e => her e.2.1)]; rfl
  · rw [dif_neg h]
    refine ⟨1, fun k hk => ?_⟩
    obtain ⟨k, rfl⟩ : ∃ m, k = m + 1 := ⟨k - 1, by omega⟩
    simp only [label_Read.f]
    rw [any_f2 s (by omega), if_neg h]
    simp [label_Read.j0]

def textS (a b : ByteArray) (n : Int) : ByteArray := if B b = [] then (a ++ ⟨#[58]⟩) ++ mkS (Lib.itoa n) else (a ++ ⟨#[35]⟩) ++ ⟨(escS (B b)).toArray⟩
theorem itoa_len (n : Int) (h0 : -9223372036854775808 ≤ n) (h1 : n ≤ 9223372036854775807) : (mkS (Lib.itoa n)).size ≤ 1000 := by
  rw [← B_len, B_mkS]
  unfold Lib.itoa
  split
  · have := dd_len 20 n.natAbs (by omega); simp only [List.length_cons]; omega
  · have := dd_len 20 n.toNat (by omega); omega
theorem esc_size (b : ByteArray) (hb : b.size ≤ 1000000) : (⟨(escS (B b)).toArray⟩ : ByteArray).size ≤ 6000000 := by
  rw [← B_len]
  have := escS_len (B b)
  have h2 := B_len b
  show (escS (B b)).length ≤ _
  omega
theorem ltext_f (a b : ByteArray) (n : Int) (ha : a.size ≤ 1000000) (hb : b.size ≤ 1000000) (h0 : -9223372036854775808 ≤ n) (h1 : n ≤ 9223372036854775807) : Go.Proofs.YtpanmmpkdbhofaaDoor.P12r.label_Text.f a b n = some (textS a b n) := by
  have hi := itoa_len n h0 h1
  have he := esc_size b hb
  unfold Go.Proofs.YtpanmmpkdbhofaaDoor.P12r.label_Text.f textS
  rw [toList_B, decimal_f n h0 h1]
  simp only [escape_Escape.f, if_pos (show b.size ≤ 1000000000000 by omega), Option.bind_some, if_pos (show a.size + 1 ≤ 9223372036854775807 by omega)]
  by_cases h : B b = []
  · rw [if_pos h, if_pos h, if_pos (by rw [ByteArray.size_append]; show a.size + 1 + _ ≤ _; omega)]
  · rw [if_neg h, if_neg h, if_pos (by rw [ByteArray.size_append]; show a.size + 1 + (⟨(escS (B b)).toArray⟩ : ByteArray).size ≤ _; omega)]

def label_Read.f (a0 : ByteArray) : Option RL := if a0.size ≤ 1000 then some (readFrom a0 0) else none
theorem label_Read.calls (a0 r1 r2 : ByteArray) (r3 r4 : Int) (w : World) (hgl : GL w) (h : Go.Proofs.YtpanmmpkdbhofaaDoorE.label_Read.f a0 = some (r1, r2, r3, r4)) :
    Calls Tryd.prog 43 #[.string a0] w fun e w' => e = .returned (.tuple #[.agg #[.string r1, .string r2, .int .i64 r3], .int .i64 r4]) ∧ Below w.heap.size w w' := by
  unfold Go.Proofs.YtpanmmpkdbhofaaDoorE.label_Read.f at h
  split at h
  · rename_i hs
    injection h with h
    obtain ⟨k, hk⟩ := (lread_ev a0 (by omega)).rounds
    rw [h] at hk
    exact Go.Proofs.YtpanmmpkdbhofaaDoor.P12r.label_Read.calls k a0 r1 r2 r3 r4 w hgl hk
  · simp at h
def tendrilref12_Read.f (a0 : ByteArray) : Option RL := if a0.size ≤ 1000 then some (readFrom a0 0) else none
theorem tendrilref12_Read.calls (a0 r1 r2 : ByteArray) (r3 r4 : Int) (w : World) (hgl : GL w) (h : Go.Proofs.YtpanmmpkdbhofaaDoorE.tendrilref12_Read.f a0 = some (r1, r2, r3, r4)) :
    Calls Tryd.prog 47 #[.string a0] w fun e w' => e = .returned (.tuple #[.agg #[.string r1, .string r2, .int .i64 r3], .int .i64 r4]) ∧ Below w.heap.size w w' := by
  unfold Go.Proofs.YtpanmmpkdbhofaaDoorE.tendrilref12_Read.f at h
  split at h
  · rename_i hs
    injection h with h
    have := rread_c a0 hs w hgl
    rw [h] at this
    exact this
  · simp at h
def label_Text.f (a0_0 a0_1 : ByteArray) (a0_2 : Int) : Option ByteArray := if a0_0.size ≤ 1000000 ∧ a0_1.size ≤ 1000000 ∧ -9223372036854775808 ≤ a0_2 ∧ a0_2 ≤ 9223372036854775807 then some (textS a0_0 a0_1 a0_2) else none
theorem label_Text.calls (a0_0 a0_1 : ByteArray) (a0_2 : Int) (r : ByteArray) (w : World) (hgl : GL w) (h : Go.Proofs.YtpanmmpkdbhofaaDoorE.label_Text.f a0_0 a0_1 a0_2 = some r) :
    Calls Tryd.prog 44 #[.agg #[.string a0_0, .string a0_1, .int .i64 a0_2]] w fun e w' => e = .returned (.string r) ∧ Below w.heap.size w w' := by
  unfold Go.Proofs.YtpanmmpkdbhofaaDoorE.label_Text.f at h
  split at h
  · rename_i hs
    injection h with h
    exact Go.Proofs.YtpanmmpkdbhofaaDoor.P12r.label_Text.calls a0_0 a0_1 a0_2 r w hgl (by rw [ltext_f _ _ _ hs.1 hs.2.1 hs.2.2.1 hs.2.2.2, h])
  · simp at h
end Go.Proofs.YtpanmmpkdbhofaaDoorE

namespace Go.Proofs.YtpanmmpkdbhofaaDoorE
open Go Go.RowKit Go.Proofs.YtpanmmpkdbhofaaDoorW.PrintWords Go.Proofs.YtpanmmpkdbhofaaDoorX Go.Proofs.YtpanmmpkdbhofaaDoor.P12r
set_option linter.unusedVariables false
theorem alone_mono (x : S49) (k m : Nat) (r : Int) (hkm : k ≤ m) (h : aloneF k x = some r) : aloneF m x = some r := by
  induction m with
  | zero => obtain rfl : k = 0 := by omega
            exact h
  | succ m ih =>
    by_cases e : k = m + 1
    · rw [← e]; exact h
    · exact tendrilref11_Alone.mono _ _ _ _ _ m r (ih (by omega))
theorem alone_one (x : S49) (k m : Nat) (r s : Int) (h : aloneF k x = some r) (h2 : aloneF m x = some s) : r = s := by
  have a := alone_mono x k (max k m) r (by omega) h
  have b := alone_mono x m (max k m) s (by omega) h2
  rw [a] at b
  injection b
def clashB (l : List It) (i k : Nat) : Bool := decide (0 ≤ (rdIt l i).up) && decide ((rdIt l k).up = (rdIt l i).up) && decide ((rdIt l i).n.f1.size ≠ 0) && decide ((rdIt l k).n.f1 = (rdIt l i).n.f1)
theorem clashB_iff (l : List It) (i k : Nat) : clashB l i k = true ↔ clash l i k := by
  unfold clashB clash
  simp only [Bool.and_eq_true, decide_eq_true_eq, and_assoc]
def rightK (k : Nat) (l : List It) : Bool := (List.range l.length).all fun i => decide (i ≠ 4096) && decide ((rdIt l i).dep ≤ 64) && (aloneF k (rdIt l i).n == some 0) && (List.range i).all fun j => !clashB l i j
def knownK (k : Nat) (l : List It) : Bool := (List.range l.length).all fun i => (aloneF k (rdIt l i).n).isSome
theorem known_at {k : Nat} {l : List It} (h : knownK k l = true) (i : Nat) (hi : i < l.length) : ∃ r, aloneF k (rdIt l i).n = some r := by
  unfold knownK at h
  rw [List.all_eq_true] at h
  exact Option.isSome_iff_exists.1 (h i (List.mem_range.2 hi))
theorem right_iff {k : Nat} {l : List It} (h : knownK k l = true) : rightK k l = true ↔ good l := by
  unfold rightK good goodAt
  rw [List.all_eq_true]
  constructor
  · intro hr i hi
    have := hr i (List.mem_range.2 hi)
    simp only [Bool.and_eq_true, decide_eq_true_eq, beq_iff_eq, List.all_eq_true] at this
    obtain ⟨⟨⟨h1, h2⟩, h3⟩, h4⟩ := this
    refine ⟨h1, h2, ⟨k, h3⟩, fun j hj hc => ?_⟩
    have := h4 j (List.mem_range.2 hj)
    rw [(clashB_iff l i j).2 hc] at this
    exact absurd this (by decide)
  · intro hg i hi
    obtain ⟨h1, h2, ⟨k', h3⟩, h4⟩ := hg i (List.mem_range.1 hi)
    obtain ⟨r, hr⟩ := known_at h i (List.mem_range.1 hi)
    have e := alone_one _ _ _ _ _ hr h3
    subst e
    simp only [Bool.and_eq_true, decide_eq_true_eq, beq_iff_eq, List.all_eq_true]
    refine ⟨⟨⟨h1, h2⟩, hr⟩, fun j hj => ?_⟩
    have := h4 j (List.mem_range.1 hj)
    rw [← clashB_iff] at this
    simpa using this
def rightS (k : Nat) (l : List It) : Option Bool := if knownK k l = true then some (rightK k l) else none
theorem rightS_mono (k : Nat) (l : List It) : LeO (rightS k l) (rightS (k + 1) l) := by
  intro r h
  unfold rightS at h ⊢
  by_cases hk : knownK k l = true
  · rw [if_pos hk] at h
    have hk2 : knownK (k + 1) l = true := by
      unfold knownK
      rw [List.all_eq_true]
      intro i hi
      obtain ⟨v, hv⟩ := known_at hk i (List.mem_range.1 hi)
      rw [alone_mono _ k (k + 1) v (by omega) hv]
      rfl
    rw [if_pos hk2, ← h]
    congr 1
    have a := right_iff hk
    have b := right_iff hk2
    cases h1 : rightK k l <;> cases h2 : rightK (k + 1) l
    · rfl
    · exact absurd (a.2 (b.1 h2)) (by rw [h1]; decide)
    · exact absurd (b.2 (a.1 h1)) (by rw [h2]; decide)
    · rfl
  · rw [if_neg hk] at h; simp at h
def itemsS (x : S49) : List It := belowS 66 [] x 1 (-1)
def tendrilref11_Right.f (k : Nat) (a0_0 a0_1 a0_2 : ByteArray) (l0_3 : List S98) (l0_4 : List S49) : Option Bool := rightS k (itemsS ⟨a0_0, a0_1, a0_2, l0_3, l0_4⟩)
theorem tendrilref11_Right.mono : ∀ a0 a1 a2 a3 a4 k, LeO (tendrilref11_Right.f k a0 a1 a2 a3 a4) (tendrilref11_Right.f (k + 1) a0 a1 a2 a3 a4) := fun a0 a1 a2 a3 a4 k => rightS_mono k _
theorem tendrilref11_Right.calls (k : Nat) (a0_0 : ByteArray) (a0_1 : ByteArray) (a0_2 : ByteArray) (A0_3 : Option Addr) (c0_3 : Nat) (l0_3 : List (S98)) (A0_4 : Option Addr) (c0_4 : Nat) (l0_4 : List (S49)) (r : Bool) (w : World) (hgl : GL w) (hr0_3 : Kd.C k98 w A0_3 l0_3.length l0_3) (hc0_3 : l0_3.length ≤ c0_3) (hr0_4 : Kd.C k49 w A0_4 l0_4.length l0_4) (hc0_4 : l0_4.length ≤ c0_4) (h : tendrilref11_Right.f k a0_0 a0_1 a0_2 l0_3 l0_4 = some r) :
    Calls Tryd.prog 42 #[.agg #[.string a0_0, .string a0_1, .string a0_2, .slice A0_3 l0_3.length c0_3, .slice A0_4 l0_4.length c0_4]] w fun e w' => e = .returned (.bool r) ∧ Below w.heap.size w w' := by
  unfold tendrilref11_Right.f rightS at h
  split at h
  · rename_i hk
    injection h with h
    refine (Right_c ⟨a0_0, a0_1, a0_2, l0_3, l0_4⟩ w hgl A0_3 c0_3 A0_4 c0_4 hc0_3 hr0_3 hc0_4 hr0_4 (fun i hi => ?_)).mono ?_
    · obtain ⟨v, hv⟩ := known_at hk i hi
      refine ⟨k, v, hv, fun h0 => ⟨k, hv.trans (by rw [h0])⟩, fun ⟨k', h0⟩ => alone_one _ _ _ _ _ hv h0⟩
    · rintro e w' ⟨b, rfl, hb, hB⟩
      refine ⟨?_, hB⟩
      have := right_iff hk
      have hbr : b = r := by
        rw [← h]
        cases b with
        | true => exact (this.2 (hb.1 rfl)).symm
        | false =>
          cases hx : rightK k (itemsS ⟨a0_0, a0_1, a0_2, l0_3, l0_4⟩) with
          | false => rfl
          | true => exact absurd (hb.2 (this.1 hx)) (by decide)
      rw [hbr]
  · simp at h
def tagsB (l : List S49) : Bool := (List.range l.length).all fun i => decide ((rd_T49 l (i : Nat)).f0.size ≤ maxLen)
def label_Of.f (l0 : List S49) : Option (List S56) := if l0.length ≤ 1000000 ∧ tagsB l0 = true then some (labsL l0 l0.length) else none
theorem label_Of.calls (A0 : Option Addr) (c0 : Nat) (l0 : List S49) (r : List S56) (w : World) (hgl : GL w) (hr0 : Kd.C k49 w A0 l0.length l0) (hc0 : l0.length ≤ c0) (h : label_Of.f l0 = some r) :
    Calls Tryd.prog 39 #[.slice A0 l0.length c0] w fun e w' => ∃ v0_ : Value, e = .returned (v0_) ∧ Kd.R k56 56 w' w.heap.size (fun _ => True) v0_ r ∧ Below w.heap.size w w' := by
  unfold label_Of.f at h
  split at h
  · rename_i hs
    injection h with h
    subst h
    refine label_Of_c A0 c0 l0 w hr0 hc0 hs.1 (fun i hi => ?_)
    have := hs.2
    unfold tagsB at this
    rw [List.all_eq_true] at this
    exact of_decide_eq_true (this i (List.mem_range.2 hi))
  · simp at h
def label_Read6.f (a0 : ByteArray) : Option RL := if a0.size ≤ 1000000 then some (readFrom a0 0) else none
theorem label_Read6.calls (a0 r1 r2 : ByteArray) (r3 r4 : Int) (w : World) (hgl : GL w) (h : label_Read6.f a0 = some (r1, r2, r3, r4)) :
    Calls Tryd.prog 43 #[.string a0] w fun e w' => e = .returned (.tuple #[.agg #[.string r1, .string r2, .int .i64 r3], .int .i64 r4]) ∧ Below w.heap.size w w' := by
  unfold label_Read6.f at h
  split at h
  · rename_i hs
    injection h with h
    obtain ⟨k, hk⟩ := (lread_ev a0 hs).rounds
    rw [h] at hk
    exact Go.Proofs.YtpanmmpkdbhofaaDoor.P12r.label_Read.calls k a0 r1 r2 r3 r4 w hgl hk
  · simp at h
def label_Text6.f (a0_0 a0_1 : ByteArray) (a0_2 : Int) : Option ByteArray := if a0_0.size ≤ 1000000 ∧ a0_1.size ≤ 1000000 ∧ -9223372036854775808 ≤ a0_2 ∧ a0_2 ≤ 9223372036854775807 then some (textS a0_0 a0_1 a0_2) else none
theorem label_Text6.calls (a0_0 a0_1 : ByteArray) (a0_2 : Int) (r : ByteArray) (w : World) (hgl : GL w) (h : label_Text6.f a0_0 a0_1 a0_2 = some r) :
    Calls Tryd.prog 44 #[.agg #[.string a0_0, .string a0_1, .int .i64 a0_2]] w fun e w' => e = .returned (.string r) ∧ Below w.heap.size w w' :=
  Go.Proofs.YtpanmmpkdbhofaaDoorE.label_Text.calls a0_0 a0_1 a0_2 r w hgl h
end Go.Proofs.YtpanmmpkdbhofaaDoorE

namespace Go.Proofs.YtpanmmpkdbhofaaDoor.P12o
open Go.RowKit Go.Proofs.YtpanmmpkdbhofaaDoor.P12r Go.Proofs.YtpanmmpkdbhofaaDoorE Go.Proofs.YtpanmmpkdbhofaaDoorW.PrintWords Go.Proofs.YtpanmmpkdbhofaaDoorW.PrintLast Go.Proofs.YtpanmmpkdbhofaaDoorW.PrintMore
attribute [local go_sem] max2_int min2_int max_two min_two max_three min_three max_four min_four   -- for this text's walks alone
set_option linter.unusedVariables false
set_option linter.unusedSimpArgs false

theorem eqA56 (d : Nat) (w : World) (x0 y0 : ByteArray) (x1 y1 : ByteArray) (x2 y2 : Int) :
    (Op.equalIn (d + 2) 56 (.agg #[.string x0, .string x1, .int .i64 x2]) (.agg #[.string y0, .string y1, .int .i64 y2])).run Tryd.prog w = .ok (x0.toList == y0.toList && (x1.toList == y1.toList && (x2 == y2))) w := by
  refine eqA_of Tryd.underlying56 (by kernel_rfl) ?_
  refine eqf_cons (by rfl) (by go_simp; rfl) (by go_simp; rfl) (by go_simp) ?_
  refine eqf_cons (by rfl) (by go_simp; rfl) (by go_simp; rfl) (by go_simp) ?_
  exact eqf_last (by rfl) (by go_simp; rfl) (by go_simp; rfl) (by go_simp)
end Go.Proofs.YtpanmmpkdbhofaaDoor.P12o

namespace Go.Proofs.YtpanmmpkdbhofaaDoor.P12o
open Go.RowKit Go.Proofs.YtpanmmpkdbhofaaDoor.P12r Go.Proofs.YtpanmmpkdbhofaaDoorE Go.Proofs.YtpanmmpkdbhofaaDoorW.PrintWords Go.Proofs.YtpanmmpkdbhofaaDoorW.PrintLast Go.Proofs.YtpanmmpkdbhofaaDoorW.PrintMore
attribute [local go_sem] max2_int min2_int max_two min_two max_three min_three max_four min_four   -- for this text's walks alone
set_option linter.unusedVariables false
set_option linter.unusedSimpArgs false

attribute [local go_sem high] eqA56

mutual
def tendrilplain_weigh.j0 : Nat → Int → Int → Bool → ByteArray → ByteArray → ByteArray → List (S98) → List (S49) → Option (Int)
  | 0, _, _, _, _, _, _, _, _ => none
  | k + 1, x1, x2, x29, x102000, x102001, x102002, x102003, x102004 => if x29 = true then (some (-1)) else (tendrilplain_weigh.l0 k x1 x2 (x102003.length : Int) 0 x102000 x102001 x102002 x102003 x102004)
def tendrilplain_weigh.l0 : Nat → Int → Int → Int → Int → ByteArray → ByteArray → ByteArray → List (S98) → List (S49) → Option (Int)
  | 0, _, _, _, _, _, _, _, _, _ => none
  | k + 1, x1, x2, x32, x33, x102000, x102001, x102002, x102003, x102004 => if x33 < x32 then (if 0 ≤ x33 then (if x33 < (x102003.length : Int) then (tendrilplain_weigh.l0 k (wrap64 ((wrap64 (x1 - (wrap64 ((((rd_T98 x102003 x33).f1).size : Int) / 4096)))) - (wrap64 ((((rd_T98 x102003 x33).f0).size : Int) / 4096)))) x2 x32 (wrap64 (x33 + 1)) x102000 x102001 x102002 x102003 x102004) else (none)) else (none)) else (tendrilplain_weigh.l1 k x1 x2 (x102004.length : Int) 0 x102000 x102001 x102002 x102003 x102004)
def tendrilplain_weigh.l1 : Nat → Int → Int → Int → Int → ByteArray → ByteArray → ByteArray → List (S98) → List (S49) → Option (Int)
  | 0, _, _, _, _, _, _, _, _, _ => none
  | k + 1, x1, x2, x58, x59, x102000, x102001, x102002, x102003, x102004 => if x59 < x58 then (if x1 < 0 then (some (-1)) else (if 0 ≤ x59 then (if x59 < (x102004.length : Int) then ((tendrilplain_weigh.f k ((rd_T49 x102004 x59).f0) ((rd_T49 x102004 x59).f1) ((rd_T49 x102004 x59).f2) ((rd_T49 x102004 x59).f3) ((rd_T49 x102004 x59).f4) x1 (wrap64 (x2 + 1))).bind fun t105 => (tendrilplain_weigh.l1 k t105 x2 x58 (wrap64 (x59 + 1)) x102000 x102001 x102002 x102003 x102004)) else (none)) else (none))) else (some x1)
def tendrilplain_weigh.f : Nat → ByteArray → ByteArray → ByteArray → List (S98) → List (S49) → Int → Int → Option (Int)
  | 0, _, _, _, _, _, _, _ => none
  | k + 1, a0_0, a0_1, a0_2, l0_3, l0_4, a1, a2 => if (wrap64 ((wrap64 ((wrap64 (a1 - 1)) - (l0_3.length : Int))) - (wrap64 (Int.tdiv (wrap64 ((a0_2.size : Int) + (a0_1.size : Int))) 4096)))) < 0 then (tendrilplain_weigh.j0 k (wrap64 ((wrap64 ((wrap64 (a1 - 1)) - (l0_3.length : Int))) - (wrap64 (Int.tdiv (wrap64 ((a0_2.size : Int) + (a0_1.size : Int))) 4096)))) a2 true a0_0 a0_1 a0_2 l0_3 l0_4) else (tendrilplain_weigh.j0 k (wrap64 ((wrap64 ((wrap64 (a1 - 1)) - (l0_3.length : Int))) - (wrap64 (Int.tdiv (wrap64 ((a0_2.size : Int) + (a0_1.size : Int))) 4096)))) a2 (decide (a2 > 80)) a0_0 a0_1 a0_2 l0_3 l0_4)
end
theorem tendrilplain_weigh.mono_l : ∀ k, (∀ y0 y1 y2 y3 y4 y5 y6, LeO (tendrilplain_weigh.f k y0 y1 y2 y3 y4 y5 y6) (tendrilplain_weigh.f (k + 1) y0 y1 y2 y3 y4 y5 y6)) ∧ (∀ y0 y1 y2 y3 y4 y5 y6 y7, LeO (tendrilplain_weigh.j0 k y0 y1 y2 y3 y4 y5 y6 y7) (tendrilplain_weigh.j0 (k + 1) y0 y1 y2 y3 y4 y5 y6 y7)) ∧ (∀ y0 y1 y2 y3 y4 y5 y6 y7 y8, LeO (tendrilplain_weigh.l0 k y0 y1 y2 y3 y4 y5 y6 y7 y8) (tendrilplain_weigh.l0 (k + 1) y0 y1 y2 y3 y4 y5 y6 y7 y8)) ∧ (∀ y0 y1 y2 y3 y4 y5 y6 y7 y8, LeO (tendrilplain_weigh.l1 k y0 y1 y2 y3 y4 y5 y6 y7 y8) (tendrilplain_weigh.l1 (k + 1) y0 y1 y2 y3 y4 y5 y6 y7 y8))
  | 0 => ⟨fun _ _ _ _ _ _ _ r h => by simp [tendrilplain_weigh.f] at h, fun _ _ _ _ _ _ _ _ r h => by simp [tendrilplain_weigh.j0] at h, fun _ _ _ _ _ _ _ _ _ r h => by simp [tendrilplain_weigh.l0] at h, fun _ _ _ _ _ _ _ _ _ r h => by simp [tendrilplain_weigh.l1] at h⟩
  | k + 1 => by
    obtain ⟨ih0, ih1, ih2, ih3⟩ := tendrilplain_weigh.mono_l k
    refine ⟨?_, ?_, ?_, ?_⟩
    · intro y0 y1 y2 y3 y4 y5 y6
      unfold tendrilplain_weigh.f
      repeat' first
      | (with_reducible exact ih0 _ _ _ _ _ _ _)
      | (with_reducible exact ih1 _ _ _ _ _ _ _ _)
      | (with_reducible exact ih2 _ _ _ _ _ _ _ _ _)
      | (with_reducible exact ih3 _ _ _ _ _ _ _ _ _)
      | (with_reducible exact LeO.refl _)
      | (with_reducible exact LeO.none _)
      | (with_reducible refine LeO.ite ?_ ?_)
      | (with_reducible refine LeO.bind ?_ (fun _ => ?_))
      | exact ih0 _ _ _ _ _ _ _
      | exact ih1 _ _ _ _ _ _ _ _
      | exact ih2 _ _ _ _ _ _ _ _ _
      | exact ih3 _ _ _ _ _ _ _ _ _
      | exact LeO.none _
      | refine LeO.ite ?_ ?_
      | refine LeO.bind ?_ (fun _ => ?_)
    · intro y0 y1 y2 y3 y4 y5 y6 y7
      unfold tendrilplain_weigh.j0
      repeat' first
      | (with_reducible exact ih0 _ _ _ _ _ _ _)
      | (with_reducible exact ih1 _ _ _ _ _ _ _ _)
      | (with_reducible exact ih2 _ _ _ _ _ _ _ _ _)
      | (with_reducible exact ih3 _ _ _ _ _ _ _ _ _)
      | (with_reducible exact LeO.refl _)
      | (with_reducible exact LeO.none _)
      | (with_reducible refine LeO.ite ?_ ?_)
      | (with_reducible refine LeO.bind ?_ (fun _ => ?_))
      | exact ih0 _ _ _ _ _ _ _
      | exact ih1 _ _ _ _ _ _ _ _
      | exact ih2 _ _ _ _ _ _ _ _ _
      | exact ih3 _ _ _ _ _ _ _ _ _
      | exact LeO.none _
      | refine LeO.ite ?_ ?_
      | refine LeO.bind ?_ (fun _ => ?_)
    · intro y0 y1 y2 y3 y4 y5 y6 y7 y8
      unfold tendrilplain_weigh.l0
      repeat' first
      | (with_reducible exact ih0 _ _ _ _ _ _ _)
      | (with_reducible exact ih1 _ _ _ _ _ _ _ _)
      | (with_reducible exact ih2 _ _ _ _ _ _ _ _ _)
      | (with_reducible exact ih3 _ _ _ _ _ _ _ _ _)
      | (with_reducible exact LeO.refl _)
      | (with_reducible exact LeO.none _)
      | (with_reducible refine LeO.ite ?_ ?_)
      | (with_reducible refine LeO.bind ?_ (fun _ => ?_))
      | exact ih0 _ _ _ _ _ _ _
      | exact ih1 _ _ _ _ _ _ _ _
      | exact ih2 _ _ _ _ _ _ _ _ _
      | exact ih3 _ _ _ _ _ _ _ _ _
      | exact LeO.none _
      | refine LeO.ite ?_ ?_
      | refine LeO.bind ?_ (fun _ => ?_)
    · intro y0 y1 y2 y3 y4 y5 y6 y7 y8
      unfold tendrilplain_weigh.l1
      repeat' first
      | (with_reducible exact ih0 _ _ _ _ _ _ _)
      | (with_reducible exact ih1 _ _ _ _ _ _ _ _)
      | (with_reducible exact ih2 _ _ _ _ _ _ _ _ _)
      | (with_reducible exact ih3 _ _ _ _ _ _ _ _ _)
      | (with_reducible exact LeO.refl _)
      | (with_reducible exact LeO.none _)
      | (with_reducible refine LeO.ite ?_ ?_)
      | (with_reducible refine LeO.bind ?_ (fun _ => ?_))
      | exact ih0 _ _ _ _ _ _ _
      | exact ih1 _ _ _ _ _ _ _ _
      | exact ih2 _ _ _ _ _ _ _ _ _
      | exact ih3 _ _ _ _ _ _ _ _ _
      | exact LeO.none _
      | refine LeO.ite ?_ ?_
      | refine LeO.bind ?_ (fun _ => ?_)
theorem tendrilplain_weigh.mono : ∀ a0 a1 a2 a3 a4 a5 a6 k, LeO (tendrilplain_weigh.f k a0 a1 a2 a3 a4 a5 a6) (tendrilplain_weigh.f (k + 1) a0 a1 a2 a3 a4 a5 a6) := by
  intro a0 a1 a2 a3 a4 a5 a6 k
  obtain ⟨ih0, ih1, ih2, ih3⟩ := tendrilplain_weigh.mono_l k
  exact ih0 a0 a1 a2 a3 a4 a5 a6
set_option maxHeartbeats 8000000 in
set_option maxRecDepth 100000 in
theorem tendrilplain_weigh.calls (k : Nat) : ∀ (a0_0 : ByteArray) (a0_1 : ByteArray) (a0_2 : ByteArray) (A0_3 : Option Addr) (c0_3 : Nat) (l0_3 : List (S98)) (A0_4 : Option Addr) (c0_4 : Nat) (l0_4 : List (S49)) (a1 : Int) (a2 : Int) (r : Int) (w : World) (hgl : Go.Proofs.YtpanmmpkdbhofaaDoorX.GL w) (hr0_3 : Kd.C k98 w A0_3 l0_3.length l0_3) (hc0_3 : l0_3.length ≤ c0_3) (hr0_4 : Kd.C k49 w A0_4 l0_4.length l0_4) (hc0_4 : l0_4.length ≤ c0_4) (h : tendrilplain_weigh.f k a0_0 a0_1 a0_2 l0_3 l0_4 a1 a2 = some r),
    Calls Tryd.prog 65 #[.agg #[.string a0_0, .string a0_1, .string a0_2, .slice A0_3 l0_3.length c0_3, .slice A0_4 l0_4.length c0_4], .int .i64 a1, .int .i64 a2] w fun e w' => e = .returned (.int .i64 r) ∧ Below w.heap.size w w' := by
  induction k using Nat.strongRecOn with
  | _ k ih =>
  intro a0_0 a0_1 a0_2 A0_3 c0_3 l0_3 A0_4 c0_4 l0_4 a1 a2 r w hgl hr0_3 hc0_3 hr0_4 hc0_4 h
  cases k with
  | zero => exact absurd h (by simp [tendrilplain_weigh.f])
  | succ k =>
  simp only [tendrilplain_weigh.f] at h
  have hu49 := Tryd.underlying49
  have HR0_3 := Aside0.mk hr0_3
  have HC0_3 := Aside0.mk hc0_3
  clear hr0_3 hc0_3
  have HR0_4 := Aside0.mk hr0_4
  have HC0_4 := Aside0.mk hc0_4
  clear hr0_4 hc0_4
  have HGL := Aside0.mk hgl
  clear hgl
  have HB := Aside0.mk (Below.refl w.heap.size w)
  have H : (if (wrap64 ((wrap64 ((wrap64 (a1 - 1)) - (l0_3.length : Int))) - (wrap64 (Int.tdiv (wrap64 ((a0_2.size : Int) + (a0_1.size : Int))) 4096)))) < 0 then (tendrilplain_weigh.j0 k (wrap64 ((wrap64 ((wrap64 (a1 - 1)) - (l0_3.length : Int))) - (wrap64 (Int.tdiv (wrap64 ((a0_2.size : Int) + (a0_1.size : Int))) 4096)))) a2 true a0_0 a0_1 a0_2 l0_3 l0_4) else (tendrilplain_weigh.j0 k (wrap64 ((wrap64 ((wrap64 (a1 - 1)) - (l0_3.length : Int))) - (wrap64 (Int.tdiv (wrap64 ((a0_2.size : Int) + (a0_1.size : Int))) 4096)))) a2 (decide (a2 > 80)) a0_0 a0_1 a0_2 l0_3 l0_4)) = some r := h
  clear h
  have HC4 := Aside0.mk H
  clear H
  go_enter Tryd.func65, Tryd.ntmps65
  go_upto_region 2 with (first | ((with_reducible refine gate_dst (N := 3) rfl ?_); refine box_event ?hg (N := 3) ?hd (cs := #[.string a0_0, .string a0_1, .string a0_2, .slice A0_3 l0_3.length c0_3, .slice A0_4 l0_4.length c0_4]) (t := 49) ?hr ?_; (case hd => rfl); (case hg => rfl); (case hr => first | (go_simp; done) | (go_simp; rfl)); intro gb101 hg w5 hbox hb; have n0_ := Aside0.mk (below_step (by repeat (first | (with_reducible first | exact HB.out | apply below_alloc | apply pw_below_drewN | apply below_drew1) | exact HB.out)) hb); have n1_ := Aside0.mk (hbox); have n2_ := Aside0.mk ((by rw [hg]; exact (below_size (by repeat (first | (with_reducible first | exact HB.out | apply below_alloc | apply pw_below_drewN | apply below_drew1) | exact HB.out))) : w.heap.size ≤ gb101)); have n3_ := Aside0.mk ((by rw [hg]; exact (below_size (by repeat (first | (with_reducible first | exact HB.out | apply below_alloc | apply pw_below_drewN | apply below_drew1) | exact HB.out))) : w.heap.size ≤ gb101)); clear HB; have HB := n0_; have BK101 := n1_; have GW101 := n2_; have GE101 := n3_; clear n0_ n1_ n2_ n3_; clear hb hbox hg; have hcz6_0 : w5.cell? ⟨gb101, 0, none⟩ = some (.string a0_0) := (blk_cell BK101.out 0).trans rfl; have hcz6_1 : w5.cell? ⟨gb101, 1, none⟩ = some (.string a0_1) := (blk_cell BK101.out 1).trans rfl; have hcz6_2 : w5.cell? ⟨gb101, 2, none⟩ = some (.string a0_2) := (blk_cell BK101.out 2).trans rfl; have hcz6_3 : w5.cell? ⟨gb101, 3, none⟩ = some (.slice A0_3 l0_3.length c0_3) := (blk_cell BK101.out 3).trans rfl; have hcz6_4 : w5.cell? ⟨gb101, 4, none⟩ = some (.slice A0_4 l0_4.length c0_4) := (blk_cell BK101.out 4).trans rfl; have hfz6_0 := blk_frozen BK101.out 0; have hfz6_1 := blk_frozen BK101.out 1; have hfz6_2 := blk_frozen BK101.out 2; have hfz6_3 := blk_frozen BK101.out 3; have hfz6_4 := blk_frozen BK101.out 4))
  repeat (go_quiet (first | ((with_reducible refine gate_dst (N := 3) rfl ?_); refine box_event ?hg (N := 3) ?hd (cs := #[.string a0_0, .string a0_1, .string a0_2, .slice A0_3 l0_3.length c0_3, .slice A0_4 l0_4.length c0_4]) (t := 49) ?hr ?_; (case hd => rfl); (case hg => rfl); (case hr => first | (go_simp; done) | (go_simp; rfl)); intro gb101 hg w5 hbox hb; have n0_ := Aside0.mk (below_step (by repeat (first | (with_reducible first | exact HB.out | apply below_alloc | apply pw_below_drewN | apply below_drew1) | exact HB.out)) hb); have n1_ := Aside0.mk (hbox); have n2_ := Aside0.mk ((by rw [hg]; exact (below_size (by repeat (first | (with_reducible first | exact HB.out | apply below_alloc | apply pw_below_drewN | apply below_drew1) | exact HB.out))) : w.heap.size ≤ gb101)); have n3_ := Aside0.mk ((by rw [hg]; exact (below_size (by repeat (first | (with_reducible first | exact HB.out | apply below_alloc | apply pw_below_drewN | apply below_drew1) | exact HB.out))) : w.heap.size ≤ gb101)); clear HB; have HB := n0_; have BK101 := n1_; have GW101 := n2_; have GE101 := n3_; clear n0_ n1_ n2_ n3_; clear hb hbox hg; have hcz6_0 : w5.cell? ⟨gb101, 0, none⟩ = some (.string a0_0) := (blk_cell BK101.out 0).trans rfl; have hcz6_1 : w5.cell? ⟨gb101, 1, none⟩ = some (.string a0_1) := (blk_cell BK101.out 1).trans rfl; have hcz6_2 : w5.cell? ⟨gb101, 2, none⟩ = some (.string a0_2) := (blk_cell BK101.out 2).trans rfl; have hcz6_3 : w5.cell? ⟨gb101, 3, none⟩ = some (.slice A0_3 l0_3.length c0_3) := (blk_cell BK101.out 3).trans rfl; have hcz6_4 : w5.cell? ⟨gb101, 4, none⟩ = some (.slice A0_4 l0_4.length c0_4) := (blk_cell BK101.out 4).trans rfl; have hfz6_0 := blk_frozen BK101.out 0; have hfz6_1 := blk_frozen BK101.out 1; have hfz6_2 := blk_frozen BK101.out 2; have hfz6_3 := blk_frozen BK101.out 3; have hfz6_4 := blk_frozen BK101.out 4)); go_upto_region 2 with (first | ((with_reducible refine gate_dst (N := 3) rfl ?_); refine box_event ?hg (N := 3) ?hd (cs := #[.string a0_0, .string a0_1, .string a0_2, .slice A0_3 l0_3.length c0_3, .slice A0_4 l0_4.length c0_4]) (t := 49) ?hr ?_; (case hd => rfl); (case hg => rfl); (case hr => first | (go_simp; done) | (go_simp; rfl)); intro gb101 hg w5 hbox hb; have n0_ := Aside0.mk (below_step (by repeat (first | (with_reducible first | exact HB.out | apply below_alloc | apply pw_below_drewN | apply below_drew1) | exact HB.out)) hb); have n1_ := Aside0.mk (hbox); have n2_ := Aside0.mk ((by rw [hg]; exact (below_size (by repeat (first | (with_reducible first | exact HB.out | apply below_alloc | apply pw_below_drewN | apply below_drew1) | exact HB.out))) : w.heap.size ≤ gb101)); have n3_ := Aside0.mk ((by rw [hg]; exact (below_size (by repeat (first | (with_reducible first | exact HB.out | apply below_alloc | apply pw_below_drewN | apply below_drew1) | exact HB.out))) : w.heap.size ≤ gb101)); clear HB; have HB := n0_; have BK101 := n1_; have GW101 := n2_; have GE101 := n3_; clear n0_ n1_ n2_ n3_; clear hb hbox hg; have hcz6_0 : w5.cell? ⟨gb101, 0, none⟩ = some (.string a0_0) := (blk_cell BK101.out 0).trans rfl; have hcz6_1 : w5.cell? ⟨gb101, 1, none⟩ = some (.string a0_1) := (blk_cell BK101.out 1).trans rfl; have hcz6_2 : w5.cell? ⟨gb101, 2, none⟩ = some (.string a0_2) := (blk_cell BK101.out 2).trans rfl; have hcz6_3 : w5.cell? ⟨gb101, 3, none⟩ = some (.slice A0_3 l0_3.length c0_3) := (blk_cell BK101.out 3).trans rfl; have hcz6_4 : w5.cell? ⟨gb101, 4, none⟩ = some (.slice A0_4 l0_4.length c0_4) := (blk_cell BK101.out 4).trans rfl; have hfz6_0 := blk_frozen BK101.out 0; have hfz6_1 := blk_frozen BK101.out 1; have hfz6_2 := blk_frozen BK101.out 2; have hfz6_3 := blk_frozen BK101.out 3; have hfz6_4 := blk_frozen BK101.out 4)))
  (try simp only [Act.put, List.setIfInBounds_toArray, List.set_cons_zero, List.set_cons_succ])
  go_cut [29] (fun v29 wc => ∃ (kq : Nat) (x29_3 : Bool), v29 = .bool x29_3 ∧ Aside0 (tendrilplain_weigh.j0 kq (wrap64 ((wrap64 ((wrap64 (a1 - 1)) - (l0_3.length : Int))) - (wrap64 (Int.tdiv (wrap64 ((a0_2.size : Int) + (a0_1.size : Int))) 4096)))) a2 x29_3 a0_0 a0_1 a0_2 l0_3 l0_4 = some r) ∧ Aside0 (kq ≤ k) ∧ Aside0 (wc.heap[gb101]? = some (.cells #[.string a0_0, .string a0_1, .string a0_2, (.slice A0_3 l0_3.length c0_3), (.slice A0_4 l0_4.length c0_4)] 49 (0, 0))) ∧ Aside0 (Below w.heap.size w wc))
  case first =>
    have H := HC4.out
    clear HC4
    by_cases c7 : (wrap64 ((wrap64 ((wrap64 (a1 - 1)) - (l0_3.length : Int))) - (wrap64 (Int.tdiv (wrap64 ((a0_2.size : Int) + (a0_1.size : Int))) 4096)))) < 0
    · rw [if_pos c7] at H
      have c7b0 : decide ((wrap64 ((wrap64 ((wrap64 (a1 - 1)) - (l0_3.length : Int))) - (wrap64 (Int.tdiv (wrap64 ((a0_2.size : Int) + (a0_1.size : Int))) 4096)))) < 0) = true := decide_eq_true c7
      clear c7
      (first | rw [c7b0] | (simp only [i64_w, i32_w]; rw [c7b0]) | skip)
      have H' := Aside0.mk H
      clear H
      go_wp2
      repeat (go_quiet (fail); try go_wp2)
      go_meet
      case rel => exact ⟨_, (true), (by first | rfl | (simp; done) | (simp [*]; done)), H', ⟨by first | omega | exact Nat.le_refl _⟩, ⟨by (with_reducible repeat (first | refine blk_drewN ?_ _ | refine blk_drew ?_ | refine blk_alloc ?_ _)); exact BK101.out⟩, ⟨by repeat (first | (with_reducible first | exact HB.out | apply below_alloc | apply pw_below_drewN | apply below_drew1 | refine below_set ?_ GE101.out) | exact HB.out)⟩⟩
    · rw [if_neg c7] at H
      have c7b0 : decide ((wrap64 ((wrap64 ((wrap64 (a1 - 1)) - (l0_3.length : Int))) - (wrap64 (Int.tdiv (wrap64 ((a0_2.size : Int) + (a0_1.size : Int))) 4096)))) < 0) = false := decide_eq_false c7
      clear c7
      (first | rw [c7b0] | (simp only [i64_w, i32_w]; rw [c7b0]) | skip)
      have H' := Aside0.mk H
      clear H
      go_wp2
      repeat (go_quiet (fail); try go_wp2)
      go_meet
      case rel => exact ⟨_, (decide (a2 > 80)), (by first | rfl | (simp; done) | (simp [*]; done)), H', ⟨by first | omega | exact Nat.le_refl _⟩, ⟨by (with_reducible repeat (first | refine blk_drewN ?_ _ | refine blk_drew ?_ | refine blk_alloc ?_ _)); exact BK101.out⟩, ⟨by repeat (first | (with_reducible first | exact HB.out | apply below_alloc | apply pw_below_drewN | apply below_drew1 | refine below_set ?_ GE101.out) | exact HB.out)⟩⟩
  case rest =>
    clear HC4
    try clear p2
    try clear c6
    try clear p6
    try clear c7
    try clear c7b0
    try clear hcz6_0
    try clear hcz6_1
    try clear hcz6_2
    try clear hcz6_3
    try clear hcz6_4
    try clear hfz6_0
    try clear hfz6_1
    try clear hfz6_2
    try clear hfz6_3
    try clear hfz6_4
    obtain ⟨kq, x29_3, rfl, HA, HJ3, BK101, HB⟩ := hcut
    cases kq with
    | zero => exact absurd HA.out (by simp [tendrilplain_weigh.j0])
    | succ kj3 =>
      have H := HA.out
      clear HA
      simp only [tendrilplain_weigh.j0] at H
      by_cases c8 : x29_3 = true
      · subst c8
        have H1 : (some (-1)) = some r := by rw [if_pos rfl] at H; exact H
        clear H
        have H := H1
        clear H1
        obtain rfl := Option.some.inj H
        go_wp2
        repeat (go_quiet (fail); try go_wp2)
        go_ret
        exact ⟨by first | rfl | (simp [errW_none, errW_some] <;> rfl) | (simp [*, errW_none, errW_some] <;> rfl), by repeat (first | (with_reducible first | exact HB.out | apply below_alloc | apply pw_below_drewN | apply below_drew1 | refine below_set ?_ GE101.out) | exact HB.out)⟩
      · replace c8 := Bool.eq_false_iff.mpr c8
        subst c8
        have H1 : (tendrilplain_weigh.l0 kj3 (wrap64 ((wrap64 ((wrap64 (a1 - 1)) - (l0_3.length : Int))) - (wrap64 (Int.tdiv (wrap64 ((a0_2.size : Int) + (a0_1.size : Int))) 4096)))) a2 (l0_3.length : Int) 0 a0_0 a0_1 a0_2 l0_3 l0_4) = some r := by rw [if_neg (show ¬ (false = true) by decide)] at H; exact H
        clear H
        have H := H1
        clear H1
        have H' := Aside0.mk H
        clear H
        have hcz9_0 : wc.cell? ⟨gb101, 0, none⟩ = some (.string a0_0) := (blk_cell BK101.out 0).trans rfl
        have hcz9_1 : wc.cell? ⟨gb101, 1, none⟩ = some (.string a0_1) := (blk_cell BK101.out 1).trans rfl
        have hcz9_2 : wc.cell? ⟨gb101, 2, none⟩ = some (.string a0_2) := (blk_cell BK101.out 2).trans rfl
        have hcz9_3 : wc.cell? ⟨gb101, 3, none⟩ = some (.slice A0_3 l0_3.length c0_3) := (blk_cell BK101.out 3).trans rfl
        have hcz9_4 : wc.cell? ⟨gb101, 4, none⟩ = some (.slice A0_4 l0_4.length c0_4) := (blk_cell BK101.out 4).trans rfl
        have hfz9_0 := blk_frozen BK101.out 0
        have hfz9_1 := blk_frozen BK101.out 1
        have hfz9_2 := blk_frozen BK101.out 2
        have hfz9_3 := blk_frozen BK101.out 3
        have hfz9_4 := blk_frozen BK101.out 4
        go_wp2
        repeat (go_quiet (fail); try go_wp2)
        go_loopg [1, 33] kj3 (fun kq v1 v33 w' => ∃ (x1_2 : Int) (x33_2 : Int), v1 = .int .i64 x1_2 ∧ v33 = .int .i64 x33_2 ∧ Aside0 (tendrilplain_weigh.l0 kq x1_2 a2 (l0_3.length : Int) x33_2 a0_0 a0_1 a0_2 l0_3 l0_4 = some r) ∧ Aside0 (kq ≤ kj3) ∧ Aside0 (w'.heap[gb101]? = some (.cells #[.string a0_0, .string a0_1, .string a0_2, (.slice A0_3 l0_3.length c0_3), (.slice A0_4 l0_4.length c0_4)] 49 (0, 0))) ∧ Aside0 (Below w.heap.size w w'))
        case atStart => exact ⟨((wrap64 ((wrap64 ((wrap64 (a1 - 1)) - (l0_3.length : Int))) - (wrap64 (Int.tdiv (wrap64 ((a0_2.size : Int) + (a0_1.size : Int))) 4096))))), (0), (by first | rfl | (simp; done) | (simp [*]; done)), (by first | rfl | (simp; done) | (simp [*]; done)), H', ⟨Nat.le_refl _⟩, ⟨by (with_reducible repeat (first | refine blk_drewN ?_ _ | refine blk_drew ?_ | refine blk_alloc ?_ _)); exact BK101.out⟩, ⟨by repeat (first | (with_reducible first | exact HB.out | apply below_alloc | apply pw_below_drewN | apply below_drew1 | refine below_set ?_ GE101.out) | exact HB.out)⟩⟩
        case round =>
          clear H'
          try clear p2
          try clear c6
          try clear p6
          try clear c7
          try clear c7b0
          try clear c8
          try clear hcz6_0
          try clear hcz6_1
          try clear hcz6_2
          try clear hcz6_3
          try clear hcz6_4
          try clear hcz9_0
          try clear hcz9_1
          try clear hcz9_2
          try clear hcz9_3
          try clear hcz9_4
          try clear hfz6_0
          try clear hfz6_1
          try clear hfz6_2
          try clear hfz6_3
          try clear hfz6_4
          try clear hfz9_0
          try clear hfz9_1
          try clear hfz9_2
          try clear hfz9_3
          try clear hfz9_4
          try clear p2
          try clear p6
          obtain ⟨x1_2, x33_2, rfl, rfl, HA, HK2, BK101, HB⟩ := hrel
          cases gk with
          | zero => exact absurd HA.out (by simp [tendrilplain_weigh.l0])
          | succ k2 =>
            have H := HA.out
            clear HA
            simp only [tendrilplain_weigh.l0] at H
            by_cases c10 : x33_2 < (l0_3.length : Int)
            · rw [if_pos c10] at H
              have c10b0 : decide (x33_2 < (l0_3.length : Int)) = true := decide_eq_true c10
              clear c10
              by_cases c11 : 0 ≤ x33_2
              · rw [if_pos c11] at H
                have c11b0 : decide (0 ≤ x33_2) = true := decide_eq_true c11
                clear c11
                by_cases c12 : x33_2 < (l0_3.length : Int)
                · rw [if_pos c12] at H
                  have c12b0 : decide (x33_2 < (l0_3.length : Int)) = true := decide_eq_true c12
                  clear c12
                  have H' := Aside0.mk H
                  clear H
                  have hcz13_0 : wr.cell? ⟨gb101, 0, none⟩ = some (.string a0_0) := (blk_cell BK101.out 0).trans rfl
                  have hcz13_1 : wr.cell? ⟨gb101, 1, none⟩ = some (.string a0_1) := (blk_cell BK101.out 1).trans rfl
                  have hcz13_2 : wr.cell? ⟨gb101, 2, none⟩ = some (.string a0_2) := (blk_cell BK101.out 2).trans rfl
                  have hcz13_3 : wr.cell? ⟨gb101, 3, none⟩ = some (.slice A0_3 l0_3.length c0_3) := (blk_cell BK101.out 3).trans rfl
                  have hcz13_4 : wr.cell? ⟨gb101, 4, none⟩ = some (.slice A0_4 l0_4.length c0_4) := (blk_cell BK101.out 4).trans rfl
                  have hfz13_0 := blk_frozen BK101.out 0
                  have hfz13_1 := blk_frozen BK101.out 1
                  have hfz13_2 := blk_frozen BK101.out 2
                  have hfz13_3 := blk_frozen BK101.out 3
                  have hfz13_4 := blk_frozen BK101.out 4
                  have p102 : 0 ≤ (x33_2 : Int) := of_decide_eq_true (by first | (with_reducible assumption) | assumption)
                  have q102 : x33_2 < (l0_3.length : Int) := of_decide_eq_true (by first | (with_reducible assumption) | assumption)
                  obtain ⟨ad102, e102, hx102_0, hx102_1⟩ := at_T98 HR0_3.out x33_2 p102 q102
                  cases e102
                  replace hx102_0 := (HB.out.cell (World.block_lt_of_cell? w _ hx102_0)).trans hx102_0
                  replace hx102_1 := (HB.out.cell (World.block_lt_of_cell? w _ hx102_1)).trans hx102_1
                  replace p102 := eq_true p102
                  replace q102 := eq_true q102
                  have p103 : 0 ≤ (x33_2 : Int) := of_decide_eq_true (by first | (with_reducible assumption) | assumption)
                  have q103 : x33_2 < (l0_3.length : Int) := of_decide_eq_true (by first | (with_reducible assumption) | assumption)
                  obtain ⟨ad103, e103, hx103_0, hx103_1⟩ := at_T98 HR0_3.out x33_2 p103 q103
                  obtain rfl : ad102 = ad103 := (by injection e103)
                  replace hx103_0 := (HB.out.cell (World.block_lt_of_cell? w _ hx103_0)).trans hx103_0
                  replace hx103_1 := (HB.out.cell (World.block_lt_of_cell? w _ hx103_1)).trans hx103_1
                  replace p103 := eq_true p103
                  replace q103 := eq_true q103
                  go_wp2
                  repeat (go_quiet (fail); try go_wp2)
                  go_roundg k2
                  case measure => have := HJ3.out; have := HK2.out; omega
                  case rel => exact ⟨(wrap64 ((wrap64 (x1_2 - (wrap64 ((((rd_T98 l0_3 x33_2).f1).size : Int) / 4096)))) - (wrap64 ((((rd_T98 l0_3 x33_2).f0).size : Int) / 4096)))), (wrap64 (x33_2 + 1)), (by first | rfl | (simp; done) | (simp [*]; done)), (by first | rfl | (simp; done) | (simp [*]; done)), H', ⟨by have := HJ3.out; have := HK2.out; omega⟩, ⟨by (with_reducible repeat (first | refine blk_drewN ?_ _ | refine blk_drew ?_ | refine blk_alloc ?_ _)); exact BK101.out⟩, ⟨by repeat (first | (with_reducible first | exact HB.out | apply below_alloc | apply pw_below_drewN | apply below_drew1 | refine below_set ?_ GE101.out) | exact HB.out)⟩⟩
                · rw [if_neg c12] at H
                  exact absurd H (by simp)
              · rw [if_neg c11] at H
                exact absurd H (by simp)
            · rw [if_neg c10] at H
              have c10b0 : decide (x33_2 < (l0_3.length : Int)) = false := decide_eq_false c10
              clear c10
              have H' := Aside0.mk H
              clear H
              have hcz14_0 : wr.cell? ⟨gb101, 0, none⟩ = some (.string a0_0) := (blk_cell BK101.out 0).trans rfl
              have hcz14_1 : wr.cell? ⟨gb101, 1, none⟩ = some (.string a0_1) := (blk_cell BK101.out 1).trans rfl
              have hcz14_2 : wr.cell? ⟨gb101, 2, none⟩ = some (.string a0_2) := (blk_cell BK101.out 2).trans rfl
              have hcz14_3 : wr.cell? ⟨gb101, 3, none⟩ = some (.slice A0_3 l0_3.length c0_3) := (blk_cell BK101.out 3).trans rfl
              have hcz14_4 : wr.cell? ⟨gb101, 4, none⟩ = some (.slice A0_4 l0_4.length c0_4) := (blk_cell BK101.out 4).trans rfl
              have hfz14_0 := blk_frozen BK101.out 0
              have hfz14_1 := blk_frozen BK101.out 1
              have hfz14_2 := blk_frozen BK101.out 2
              have hfz14_3 := blk_frozen BK101.out 3
              have hfz14_4 := blk_frozen BK101.out 4
              go_wp2
              repeat (go_quiet (fail); try go_wp2)
              go_loopg [1, 59] k2 (fun kq v1 v59 w' => ∃ (x1_3 : Int) (x59_3 : Int), v1 = .int .i64 x1_3 ∧ v59 = .int .i64 x59_3 ∧ Aside0 (tendrilplain_weigh.l1 kq x1_3 a2 (l0_4.length : Int) x59_3 a0_0 a0_1 a0_2 l0_3 l0_4 = some r) ∧ Aside0 (kq ≤ k2) ∧ Aside0 (w'.heap[gb101]? = some (.cells #[.string a0_0, .string a0_1, .string a0_2, (.slice A0_3 l0_3.length c0_3), (.slice A0_4 l0_4.length c0_4)] 49 (0, 0))) ∧ Aside0 (Below w.heap.size w w'))
              case atStart => exact ⟨(x1_2), (0), (by first | rfl | (simp; done) | (simp [*]; done)), (by first | rfl | (simp; done) | (simp [*]; done)), H', ⟨Nat.le_refl _⟩, ⟨by (with_reducible repeat (first | refine blk_drewN ?_ _ | refine blk_drew ?_ | refine blk_alloc ?_ _)); exact BK101.out⟩, ⟨by repeat (first | (with_reducible first | exact HB.out | apply below_alloc | apply pw_below_drewN | apply below_drew1 | refine below_set ?_ GE101.out) | exact HB.out)⟩⟩
              case round =>
                clear H'
                try clear c1
                try clear p1
                try clear q1
                try clear hx1
                try clear p2
                try clear c6
                try clear p6
                try clear c7
                try clear c7b0
                try clear c8
                try clear c10
                try clear c10b0
                try clear p10
                try clear q10
                try clear hx10
                try clear c11
                try clear c11b0
                try clear c12
                try clear c12b0
                try clear hcz13_0
                try clear hcz13_1
                try clear hcz13_2
                try clear hcz13_3
                try clear hcz13_4
                try clear hcz14_0
                try clear hcz14_1
                try clear hcz14_2
                try clear hcz14_3
                try clear hcz14_4
                try clear hcz6_0
                try clear hcz6_1
                try clear hcz6_2
                try clear hcz6_3
                try clear hcz6_4
                try clear hcz9_0
                try clear hcz9_1
                try clear hcz9_2
                try clear hcz9_3
                try clear hcz9_4
                try clear hfz13_0
                try clear hfz13_1
                try clear hfz13_2
                try clear hfz13_3
                try clear hfz13_4
                try clear hfz14_0
                try clear hfz14_1
                try clear hfz14_2
                try clear hfz14_3
                try clear hfz14_4
                try clear hfz6_0
                try clear hfz6_1
                try clear hfz6_2
                try clear hfz6_3
                try clear hfz6_4
                try clear hfz9_0
                try clear hfz9_1
                try clear hfz9_2
                try clear hfz9_3
                try clear hfz9_4
                try clear hx102_0
                try clear hx102_1
                try clear hx103_0
                try clear hx103_1
                try clear p102
                try clear p103
                try clear p2
                try clear p6
                try clear q102
                try clear q103
                obtain ⟨x1_3, x59_3, rfl, rfl, HA, HK3, BK101, HB⟩ := hrel
                cases gk with
                | zero => exact absurd HA.out (by simp [tendrilplain_weigh.l1])
                | succ k3 =>
                  have H := HA.out
                  clear HA
                  simp only [tendrilplain_weigh.l1] at H
                  by_cases c15 : x59_3 < (l0_4.length : Int)
                  · rw [if_pos c15] at H
                    have c15b0 : decide (x59_3 < (l0_4.length : Int)) = true := decide_eq_true c15
                    clear c15
                    by_cases c16 : x1_3 < 0
                    · rw [if_pos c16] at H
                      have c16b0 : decide (x1_3 < 0) = true := decide_eq_true c16
                      clear c16
                      obtain rfl := Option.some.inj H
                      go_wp2
                      repeat (go_quiet (fail); try go_wp2)
                      go_ret
                      exact ⟨by first | rfl | (simp [errW_none, errW_some] <;> rfl) | (simp [*, errW_none, errW_some] <;> rfl), by repeat (first | (with_reducible first | exact HB.out | apply below_alloc | apply pw_below_drewN | apply below_drew1 | refine below_set ?_ GE101.out) | exact HB.out)⟩
                    · rw [if_neg c16] at H
                      have c16b0 : decide (x1_3 < 0) = false := decide_eq_false c16
                      clear c16
                      by_cases c17 : 0 ≤ x59_3
                      · rw [if_pos c17] at H
                        have c17b0 : decide (0 ≤ x59_3) = true := decide_eq_true c17
                        clear c17
                        by_cases c18 : x59_3 < (l0_4.length : Int)
                        · rw [if_pos c18] at H
                          have c18b0 : decide (x59_3 < (l0_4.length : Int)) = true := decide_eq_true c18
                          clear c18
                          replace H := Option.bind_eq_some_iff.mp H
                          obtain ⟨t105, A190, H⟩ := H
                          replace H : (tendrilplain_weigh.l1 k3 t105 a2 (l0_4.length : Int) (wrap64 (x59_3 + 1)) a0_0 a0_1 a0_2 l0_3 l0_4) = some r := H
                          have A19 := Aside0.mk A190
                          clear A190
                          have H' := Aside0.mk H
                          clear H
                          have hcz20_0 : wr.cell? ⟨gb101, 0, none⟩ = some (.string a0_0) := (blk_cell BK101.out 0).trans rfl
                          have hcz20_1 : wr.cell? ⟨gb101, 1, none⟩ = some (.string a0_1) := (blk_cell BK101.out 1).trans rfl
                          have hcz20_2 : wr.cell? ⟨gb101, 2, none⟩ = some (.string a0_2) := (blk_cell BK101.out 2).trans rfl
                          have hcz20_3 : wr.cell? ⟨gb101, 3, none⟩ = some (.slice A0_3 l0_3.length c0_3) := (blk_cell BK101.out 3).trans rfl
                          have hcz20_4 : wr.cell? ⟨gb101, 4, none⟩ = some (.slice A0_4 l0_4.length c0_4) := (blk_cell BK101.out 4).trans rfl
                          have hfz20_0 := blk_frozen BK101.out 0
                          have hfz20_1 := blk_frozen BK101.out 1
                          have hfz20_2 := blk_frozen BK101.out 2
                          have hfz20_3 := blk_frozen BK101.out 3
                          have hfz20_4 := blk_frozen BK101.out 4
                          have p104 : 0 ≤ (x59_3 : Int) := of_decide_eq_true (by first | (with_reducible assumption) | assumption)
                          have q104 : x59_3 < (l0_4.length : Int) := of_decide_eq_true (by first | (with_reducible assumption) | assumption)
                          obtain ⟨ad104, A104_3, c104_3, A104_4, c104_4, e104, hx104_0, hx104_1, hx104_2, hx104_3, hx104_4, hl104_3, hi104_3, hl104_4, hi104_4⟩ := at_T49 HR0_4.out x59_3 p104 q104
                          cases e104
                          replace hx104_0 := (HB.out.cell (World.block_lt_of_cell? w _ hx104_0)).trans hx104_0
                          replace hx104_1 := (HB.out.cell (World.block_lt_of_cell? w _ hx104_1)).trans hx104_1
                          replace hx104_2 := (HB.out.cell (World.block_lt_of_cell? w _ hx104_2)).trans hx104_2
                          replace hx104_3 := (HB.out.cell (World.block_lt_of_cell? w _ hx104_3)).trans hx104_3
                          replace hx104_4 := (HB.out.cell (World.block_lt_of_cell? w _ hx104_4)).trans hx104_4
                          have HR104_3 := Aside0.mk hi104_3
                          have HC104_3 := Aside0.mk hl104_3
                          clear hi104_3 hl104_3
                          have HR104_4 := Aside0.mk hi104_4
                          have HC104_4 := Aside0.mk hl104_4
                          clear hi104_4 hl104_4
                          replace p104 := eq_true p104
                          replace q104 := eq_true q104
                          go_wp2_with (first | (go_at_call 65; (with_reducible refine (ih k3 (by have := HJ3.out; have := HK2.out; have := HK3.out; omega) ((rd_T49 l0_4 x59_3).f0) ((rd_T49 l0_4 x59_3).f1) ((rd_T49 l0_4 x59_3).f2) _ _ ((rd_T49 l0_4 x59_3).f3) _ _ ((rd_T49 l0_4 x59_3).f4) x1_3 (wrap64 (a2 + 1)) t105 _ ?side1 ?side2 ?side3 ?side4 ?side5 A19.out).mono ?_); (case side1 => first | exact HGL.out | exact (Go.Proofs.YtpanmmpkdbhofaaDoorX.GL.below HGL.out (by repeat (first | (with_reducible first | exact HB.out | apply below_alloc | apply pw_below_drewN | apply below_drew1 | refine below_set ?_ GE101.out) | exact HB.out))) | (repeat (first | exact HGL.out | (with_reducible refine Go.Proofs.YtpanmmpkdbhofaaDoorX.GL.drewN ?_ _) | (with_reducible refine Go.Proofs.YtpanmmpkdbhofaaDoorX.GL.drew ?_)))); (case side2 => repeat (first | exact (Kd.C_below HR104_3.out HB.out) | (with_reducible refine Kd.C_alloc ?_ _) | (with_reducible refine Kd.C_drewN ?_ _) | (with_reducible refine Kd.C_drew ?_))); (case side3 => exact HC104_3.out); (case side4 => repeat (first | exact (Kd.C_below HR104_4.out HB.out) | (with_reducible refine Kd.C_alloc ?_ _) | (with_reducible refine Kd.C_drewN ?_ _) | (with_reducible refine Kd.C_drew ?_))); (case side5 => exact HC104_4.out); rintro e w21 ⟨rfl, hb⟩; have n0_ := Aside0.mk (blk_below (g := gb101) (o := .cells #[.string a0_0, .string a0_1, .string a0_2, .slice A0_3 l0_3.length c0_3, .slice (some ad104) l0_4.length c0_4] 49 (0, 0)) (by (with_reducible repeat (first | refine blk_drewN ?_ _ | refine blk_drew ?_ | refine blk_alloc ?_ _)); exact BK101.out) hb); have n1_ := Aside0.mk (below_step (by repeat (first | (with_reducible first | exact HB.out | apply below_alloc | apply pw_below_drewN | apply below_drew1 | refine below_set ?_ GE101.out) | exact HB.out)) hb); clear BK101; clear HB; have BK101 := n0_; have HB := n1_; clear n0_ n1_; (try clear hb); (try clear hb2); (try clear hk); (try clear hi)))
                          repeat (go_quiet (first | (go_at_call 65; (with_reducible refine (ih k3 (by have := HJ3.out; have := HK2.out; have := HK3.out; omega) ((rd_T49 l0_4 x59_3).f0) ((rd_T49 l0_4 x59_3).f1) ((rd_T49 l0_4 x59_3).f2) _ _ ((rd_T49 l0_4 x59_3).f3) _ _ ((rd_T49 l0_4 x59_3).f4) x1_3 (wrap64 (a2 + 1)) t105 _ ?side1 ?side2 ?side3 ?side4 ?side5 A19.out).mono ?_); (case side1 => first | exact HGL.out | exact (Go.Proofs.YtpanmmpkdbhofaaDoorX.GL.below HGL.out (by repeat (first | (with_reducible first | exact HB.out | apply below_alloc | apply pw_below_drewN | apply below_drew1 | refine below_set ?_ GE101.out) | exact HB.out))) | (repeat (first | exact HGL.out | (with_reducible refine Go.Proofs.YtpanmmpkdbhofaaDoorX.GL.drewN ?_ _) | (with_reducible refine Go.Proofs.YtpanmmpkdbhofaaDoorX.GL.drew ?_)))); (case side2 => repeat (first | exact (Kd.C_below HR104_3.out HB.out) | (with_reducible refine Kd.C_alloc ?_ _) | (with_reducible refine Kd.C_drewN ?_ _) | (with_reducible refine Kd.C_drew ?_))); (case side3 => exact HC104_3.out); (case side4 => repeat (first | exact (Kd.C_below HR104_4.out HB.out) | (with_reducible refine Kd.C_alloc ?_ _) | (with_reducible refine Kd.C_drewN ?_ _) | (with_reducible refine Kd.C_drew ?_))); (case side5 => exact HC104_4.out); rintro e w21 ⟨rfl, hb⟩; have n0_ := Aside0.mk (blk_below (g := gb101) (o := .cells #[.string a0_0, .string a0_1, .string a0_2, .slice A0_3 l0_3.length c0_3, .slice (some ad104) l0_4.length c0_4] 49 (0, 0)) (by (with_reducible repeat (first | refine blk_drewN ?_ _ | refine blk_drew ?_ | refine blk_alloc ?_ _)); exact BK101.out) hb); have n1_ := Aside0.mk (below_step (by repeat (first | (with_reducible first | exact HB.out | apply below_alloc | apply pw_below_drewN | apply below_drew1 | refine below_set ?_ GE101.out) | exact HB.out)) hb); clear BK101; clear HB; have BK101 := n0_; have HB := n1_; clear n0_ n1_; (try clear hb); (try clear hb2); (try clear hk); (try clear hi))); try go_wp2_with (first | (go_at_call 65; (with_reducible refine (ih k3 (by have := HJ3.out; have := HK2.out; have := HK3.out; omega) ((rd_T49 l0_4 x59_3).f0) ((rd_T49 l0_4 x59_3).f1) ((rd_T49 l0_4 x59_3).f2) _ _ ((rd_T49 l0_4 x59_3).f3) _ _ ((rd_T49 l0_4 x59_3).f4) x1_3 (wrap64 (a2 + 1)) t105 _ ?side1 ?side2 ?side3 ?side4 ?side5 A19.out).mono ?_); (case side1 => first | exact HGL.out | exact (Go.Proofs.YtpanmmpkdbhofaaDoorX.GL.below HGL.out (by repeat (first | (with_reducible first | exact HB.out | apply below_alloc | apply pw_below_drewN | apply below_drew1 | refine below_set ?_ GE101.out) | exact HB.out))) | (repeat (first | exact HGL.out | (with_reducible refine Go.Proofs.YtpanmmpkdbhofaaDoorX.GL.drewN ?_ _) | (with_reducible refine Go.Proofs.YtpanmmpkdbhofaaDoorX.GL.drew ?_)))); (case side2 => repeat (first | exact (Kd.C_below HR104_3.out HB.out) | (with_reducible refine Kd.C_alloc ?_ _) | (with_reducible refine Kd.C_drewN ?_ _) | (with_reducible refine Kd.C_drew ?_))); (case side3 => exact HC104_3.out); (case side4 => repeat (first | exact (Kd.C_below HR104_4.out HB.out) | (with_reducible refine Kd.C_alloc ?_ _) | (with_reducible refine Kd.C_drewN ?_ _) | (with_reducible refine Kd.C_drew ?_))); (case side5 => exact HC104_4.out); rintro e w21 ⟨rfl, hb⟩; have n0_ := Aside0.mk (blk_below (g := gb101) (o := .cells #[.string a0_0, .string a0_1, .string a0_2, .slice A0_3 l0_3.length c0_3, .slice (some ad104) l0_4.length c0_4] 49 (0, 0)) (by (with_reducible repeat (first | refine blk_drewN ?_ _ | refine blk_drew ?_ | refine blk_alloc ?_ _)); exact BK101.out) hb); have n1_ := Aside0.mk (below_step (by repeat (first | (with_reducible first | exact HB.out | apply below_alloc | apply pw_below_drewN | apply below_drew1 | refine below_set ?_ GE101.out) | exact HB.out)) hb); clear BK101; clear HB; have BK101 := n0_; have HB := n1_; clear n0_ n1_; (try clear hb); (try clear hb2); (try clear hk); (try clear hi))))
                          go_roundg k3
                          case measure => have := HJ3.out; have := HK2.out; have := HK3.out; omega
                          case rel => exact ⟨(t105), (wrap64 (x59_3 + 1)), (by first | rfl | (simp; done) | (simp [*]; done)), (by first | rfl | (simp; done) | (simp [*]; done)), H', ⟨by have := HJ3.out; have := HK2.out; have := HK3.out; omega⟩, ⟨by (with_reducible repeat (first | refine blk_drewN ?_ _ | refine blk_drew ?_ | refine blk_alloc ?_ _)); exact BK101.out⟩, ⟨by repeat (first | (with_reducible first | exact HB.out | apply below_alloc | apply pw_below_drewN | apply below_drew1 | refine below_set ?_ GE101.out) | exact HB.out)⟩⟩
                        · rw [if_neg c18] at H
                          exact absurd H (by simp)
                      · rw [if_neg c17] at H
                        exact absurd H (by simp)
                  · rw [if_neg c15] at H
                    have c15b0 : decide (x59_3 < (l0_4.length : Int)) = false := decide_eq_false c15
                    clear c15
                    obtain rfl := Option.some.inj H
                    go_wp2
                    repeat (go_quiet (fail); try go_wp2)
                    go_ret
                    exact ⟨by first | rfl | (simp [errW_none, errW_some] <;> rfl) | (simp [*, errW_none, errW_some] <;> rfl), by repeat (first | (with_reducible first | exact HB.out | apply below_alloc | apply pw_below_drewN | apply below_drew1 | refine below_set ?_ GE101.out) | exact HB.out)⟩

def tendrilplain_Few.f (k : Nat) (a0_0 : ByteArray) (a0_1 : ByteArray) (a0_2 : ByteArray) (l0_3 : List (S98)) (l0_4 : List (S49)) (a1 : Int) : Option (Bool) := (tendrilplain_weigh.f k a0_0 a0_1 a0_2 l0_3 l0_4 a1 0).bind fun t107 => (some (decide (t107 ≥ 0)))
theorem tendrilplain_Few.mono : ∀ a0 a1 a2 a3 a4 a5 k, LeO (tendrilplain_Few.f k a0 a1 a2 a3 a4 a5) (tendrilplain_Few.f (k + 1) a0 a1 a2 a3 a4 a5) := by
  intro a0 a1 a2 a3 a4 a5 k
  unfold tendrilplain_Few.f
  repeat' first
      | (with_reducible exact tendrilplain_weigh.mono _ _ _ _ _ _ _ _)
      | (with_reducible exact LeO.refl _)
      | (with_reducible exact LeO.none _)
      | (with_reducible refine LeO.ite ?_ ?_)
      | (with_reducible refine LeO.bind ?_ (fun _ => ?_))
      | exact tendrilplain_weigh.mono _ _ _ _ _ _ _ _
      | exact LeO.none _
      | refine LeO.ite ?_ ?_
      | refine LeO.bind ?_ (fun _ => ?_)
set_option maxHeartbeats 8000000 in
set_option maxRecDepth 100000 in
theorem tendrilplain_Few.calls (k : Nat) (a0_0 : ByteArray) (a0_1 : ByteArray) (a0_2 : ByteArray) (A0_3 : Option Addr) (c0_3 : Nat) (l0_3 : List (S98)) (A0_4 : Option Addr) (c0_4 : Nat) (l0_4 : List (S49)) (a1 : Int) (r : Bool) (w : World) (hgl : Go.Proofs.YtpanmmpkdbhofaaDoorX.GL w) (hr0_3 : Kd.C k98 w A0_3 l0_3.length l0_3) (hc0_3 : l0_3.length ≤ c0_3) (hr0_4 : Kd.C k49 w A0_4 l0_4.length l0_4) (hc0_4 : l0_4.length ≤ c0_4) (h : tendrilplain_Few.f k a0_0 a0_1 a0_2 l0_3 l0_4 a1 = some r) :
    Calls Tryd.prog 37 #[.agg #[.string a0_0, .string a0_1, .string a0_2, .slice A0_3 l0_3.length c0_3, .slice A0_4 l0_4.length c0_4], .int .i64 a1] w fun e w' => e = .returned (.bool r) ∧ Below w.heap.size w w' := by
  have hu49 := Tryd.underlying49
  have HR0_3 := Aside0.mk hr0_3
  have HC0_3 := Aside0.mk hc0_3
  clear hr0_3 hc0_3
  have HR0_4 := Aside0.mk hr0_4
  have HC0_4 := Aside0.mk hc0_4
  clear hr0_4 hc0_4
  have HGL := Aside0.mk hgl
  clear hgl
  have HB := Aside0.mk (Below.refl w.heap.size w)
  have H : ((tendrilplain_weigh.f k a0_0 a0_1 a0_2 l0_3 l0_4 a1 0).bind fun t107 => (some (decide (t107 ≥ 0)))) = some r := h
  clear h
  replace H := Option.bind_eq_some_iff.mp H
  obtain ⟨t107, A30, H⟩ := H
  replace H : (some (decide (t107 ≥ 0))) = some r := H
  have A3 := Aside0.mk A30
  clear A30
  obtain rfl := Option.some.inj H
  go_enter Tryd.func37, Tryd.ntmps37
  go_wp2_with (first | ((with_reducible refine gate_dst (N := 2) rfl ?_); refine box_event ?hg (N := 2) ?hd (cs := #[.string a0_0, .string a0_1, .string a0_2, .slice A0_3 l0_3.length c0_3, .slice A0_4 l0_4.length c0_4]) (t := 49) ?hr ?_; (case hd => rfl); (case hg => rfl); (case hr => first | (go_simp; done) | (go_simp; rfl)); intro gb106 hg w4 hbox hb; have n0_ := Aside0.mk (below_step (by repeat (first | (with_reducible first | exact HB.out | apply below_alloc | apply pw_below_drewN | apply below_drew1) | exact HB.out)) hb); have n1_ := Aside0.mk (hbox); have n2_ := Aside0.mk ((by rw [hg]; exact (below_size (by repeat (first | (with_reducible first | exact HB.out | apply below_alloc | apply pw_below_drewN | apply below_drew1) | exact HB.out))) : w.heap.size ≤ gb106)); have n3_ := Aside0.mk ((by rw [hg]; exact (below_size (by repeat (first | (with_reducible first | exact HB.out | apply below_alloc | apply pw_below_drewN | apply below_drew1) | exact HB.out))) : w.heap.size ≤ gb106)); clear HB; have HB := n0_; have BK106 := n1_; have GW106 := n2_; have GE106 := n3_; clear n0_ n1_ n2_ n3_; clear hb hbox hg; have hcz5_0 : w4.cell? ⟨gb106, 0, none⟩ = some (.string a0_0) := (blk_cell BK106.out 0).trans rfl; have hcz5_1 : w4.cell? ⟨gb106, 1, none⟩ = some (.string a0_1) := (blk_cell BK106.out 1).trans rfl; have hcz5_2 : w4.cell? ⟨gb106, 2, none⟩ = some (.string a0_2) := (blk_cell BK106.out 2).trans rfl; have hcz5_3 : w4.cell? ⟨gb106, 3, none⟩ = some (.slice A0_3 l0_3.length c0_3) := (blk_cell BK106.out 3).trans rfl; have hcz5_4 : w4.cell? ⟨gb106, 4, none⟩ = some (.slice A0_4 l0_4.length c0_4) := (blk_cell BK106.out 4).trans rfl; have hfz5_0 := blk_frozen BK106.out 0; have hfz5_1 := blk_frozen BK106.out 1; have hfz5_2 := blk_frozen BK106.out 2; have hfz5_3 := blk_frozen BK106.out 3; have hfz5_4 := blk_frozen BK106.out 4) | ((with_reducible refine gate_callee (f := 65) rfl ?_); refine goesL_ (some 7) rfl rfl Tryd.func65 (by kernel_rfl) rfl #[.agg #[.string a0_0, .string a0_1, .string a0_2, .slice A0_3 l0_3.length c0_3, .slice A0_4 l0_4.length c0_4], .int .i64 a1, .int .i64 0] rfl (by (try simp only [List.map_toArray, List.map_cons, List.map_nil]); first | done | rfl | (simp only [List.length_drop, List.length_take]; rfl)) ?_; (with_reducible refine (tendrilplain_weigh.calls k a0_0 a0_1 a0_2 _ _ l0_3 _ _ l0_4 a1 0 t107 _ ?side1 ?side2 ?side3 ?side4 ?side5 A3.out).mono ?_); (case side1 => first | exact HGL.out | exact (Go.Proofs.YtpanmmpkdbhofaaDoorX.GL.below HGL.out (by repeat (first | (with_reducible first | exact HB.out | apply below_alloc | apply pw_below_drewN | apply below_drew1 | refine below_set ?_ GE106.out) | exact HB.out))) | (repeat (first | exact HGL.out | (with_reducible refine Go.Proofs.YtpanmmpkdbhofaaDoorX.GL.drewN ?_ _) | (with_reducible refine Go.Proofs.YtpanmmpkdbhofaaDoorX.GL.drew ?_)))); (case side2 => repeat (first | exact (Kd.C_below HR0_3.out HB.out) | (with_reducible refine Kd.C_alloc ?_ _) | (with_reducible refine Kd.C_drewN ?_ _) | (with_reducible refine Kd.C_drew ?_))); (case side3 => exact HC0_3.out); (case side4 => repeat (first | exact (Kd.C_below HR0_4.out HB.out) | (with_reducible refine Kd.C_alloc ?_ _) | (with_reducible refine Kd.C_drewN ?_ _) | (with_reducible refine Kd.C_drew ?_))); (case side5 => exact HC0_4.out); rintro e w6 ⟨rfl, hb⟩; refine ⟨_, rfl, ?_⟩; have n0_ := Aside0.mk (blk_below (g := gb106) (o := .cells #[.string a0_0, .string a0_1, .string a0_2, .slice A0_3 l0_3.length c0_3, .slice A0_4 l0_4.length c0_4] 49 (0, 0)) (by (with_reducible repeat (first | refine blk_drewN ?_ _ | refine blk_drew ?_ | refine blk_alloc ?_ _)); exact BK106.out) hb); have n1_ := Aside0.mk (below_step (by repeat (first | (with_reducible first | exact HB.out | apply below_alloc | apply pw_below_drewN | apply below_drew1 | refine below_set ?_ GE106.out) | exact HB.out)) hb); clear BK106; clear HB; have BK106 := n0_; have HB := n1_; clear n0_ n1_; (try clear hb); (try clear hb2); (try clear hk); (try clear hi)))
  go_ret
  exact ⟨by first | rfl | (simp [errW_none, errW_some] <;> rfl) | (simp [*, errW_none, errW_some] <;> rfl), by repeat (first | (with_reducible first | exact HB.out | apply below_alloc | apply pw_below_drewN | apply below_drew1 | refine below_set ?_ GE106.out) | exact HB.out)⟩

def tendrilplain_Labels.l0 : Nat → List (S56) → List (S56) → Int → Int → Option (Bool)
  | 0, _, _, _, _ => none
  | k + 1, x0, x1, x12, x13 => if x13 < x12 then (if 0 ≤ x13 then (if x13 < (x0.length : Int) then (if x13 < (x1.length : Int) then (if (!((((rd_T56 x0 x13).f0).toList) == (((rd_T56 x1 x13).f0).toList)) || (!((((rd_T56 x0 x13).f1).toList) == (((rd_T56 x1 x13).f1).toList)) || (!(((rd_T56 x0 x13).f2) == ((rd_T56 x1 x13).f2))))) = true then (some false) else (tendrilplain_Labels.l0 k x0 x1 x12 (wrap64 (x13 + 1)))) else (none)) else (none)) else (none)) else (some true)
def tendrilplain_Labels.f (k : Nat) (l0 : List (S56)) (l1 : List (S56)) : Option (Bool) := if (l0.length : Int) = (l1.length : Int) then (tendrilplain_Labels.l0 k l0 l1 (l0.length : Int) 0) else (some false)
theorem tendrilplain_Labels.mono_l : ∀ k, (∀ y0 y1 y2 y3, LeO (tendrilplain_Labels.l0 k y0 y1 y2 y3) (tendrilplain_Labels.l0 (k + 1) y0 y1 y2 y3))
  | 0 => fun _ _ _ _ r h => by simp [tendrilplain_Labels.l0] at h
  | k + 1 => by
    have ih0 := tendrilplain_Labels.mono_l k
    · intro y0 y1 y2 y3
      unfold tendrilplain_Labels.l0
      repeat' first
      | (with_reducible exact ih0 _ _ _ _)
      | (with_reducible exact LeO.refl _)
      | (with_reducible exact LeO.none _)
      | (with_reducible refine LeO.ite ?_ ?_)
      | (with_reducible refine LeO.bind ?_ (fun _ => ?_))
      | exact ih0 _ _ _ _
      | exact LeO.none _
      | refine LeO.ite ?_ ?_
      | refine LeO.bind ?_ (fun _ => ?_)
theorem tendrilplain_Labels.mono : ∀ a0 a1 k, LeO (tendrilplain_Labels.f k a0 a1) (tendrilplain_Labels.f (k + 1) a0 a1) := by
  intro a0 a1 k
  have ih0 := tendrilplain_Labels.mono_l k
  unfold tendrilplain_Labels.f
  repeat' first
      | (with_reducible exact ih0 _ _ _ _)
      | (with_reducible exact LeO.refl _)
      | (with_reducible exact LeO.none _)
      | (with_reducible refine LeO.ite ?_ ?_)
      | (with_reducible refine LeO.bind ?_ (fun _ => ?_))
      | exact ih0 _ _ _ _
      | exact LeO.none _
      | refine LeO.ite ?_ ?_
      | refine LeO.bind ?_ (fun _ => ?_)
set_option maxHeartbeats 8000000 in
set_option maxRecDepth 100000 in
theorem tendrilplain_Labels.calls (k : Nat) (A0 : Option Addr) (c0 : Nat) (l0 : List (S56)) (A1 : Option Addr) (c1 : Nat) (l1 : List (S56)) (r : Bool) (w : World) (hgl : Go.Proofs.YtpanmmpkdbhofaaDoorX.GL w) (hr0 : Kd.C k56 w A0 l0.length l0) (hc0 : l0.length ≤ c0) (hr1 : Kd.C k56 w A1 l1.length l1) (hc1 : l1.length ≤ c1) (h : tendrilplain_Labels.f k l0 l1 = some r) :
    Calls Tryd.prog 40 #[.slice A0 l0.length c0, .slice A1 l1.length c1] w fun e w' => e = .returned (.bool r) ∧ Drawn0 w w' := by
  have hu56 := Tryd.underlying56
  have HR0 := Aside0.mk hr0
  have HC0 := Aside0.mk hc0
  clear hr0 hc0
  have HR1 := Aside0.mk hr1
  have HC1 := Aside0.mk hc1
  clear hr1 hc1
  have HGL := Aside0.mk hgl
  clear hgl
  have H : (if (l0.length : Int) = (l1.length : Int) then (tendrilplain_Labels.l0 k l0 l1 (l0.length : Int) 0) else (some false)) = some r := h
  clear h
  by_cases c3 : (l0.length : Int) = (l1.length : Int)
  · rw [if_pos c3] at H
    have c3b0 : ((l0.length : Int) == (l1.length : Int)) = true := beq_iff_eq.mpr c3
    have c3b1 : ((l0.length : Int) != (l1.length : Int)) = false := bne_eq_false_iff_eq.mpr c3
    have c3b2 : (l0.length == l1.length) = true := by first | simpa using c3 | (simp at c3 ⊢; omega)
    clear c3
    have H' := Aside0.mk H
    clear H
    go_enter Tryd.func40, Tryd.ntmps40
    go_wp2
    repeat (go_quiet (fail); try go_wp2)
    go_loopg [13] k (fun kq v13 w' => ∃ (x13_1 : Int), v13 = .int .i64 x13_1 ∧ Aside0 (tendrilplain_Labels.l0 kq l0 l1 (l0.length : Int) x13_1 = some r) ∧ Aside0 (kq ≤ k) ∧ Drawn0 w w')
    case atStart => exact ⟨(0), (by first | rfl | (simp; done) | (simp [*]; done)), H', ⟨Nat.le_refl _⟩, by repeat (first | exact Drawn0.refl _ | apply Drawn0.step)⟩
    case round =>
      clear H'
      try clear c1
      try clear p2
      try clear c3
      try clear c3b0
      try clear c3b1
      try clear c3b2
      obtain ⟨x13_1, rfl, HA, HK1, ⟨m1, rfl⟩⟩ := hrel
      cases gk with
      | zero => exact absurd HA.out (by simp [tendrilplain_Labels.l0])
      | succ k1 =>
        have H := HA.out
        clear HA
        simp only [tendrilplain_Labels.l0] at H
        by_cases c4 : x13_1 < (l0.length : Int)
        · rw [if_pos c4] at H
          have c4b0 : decide (x13_1 < (l0.length : Int)) = true := decide_eq_true c4
          clear c4
          by_cases c5 : 0 ≤ x13_1
          · rw [if_pos c5] at H
            have c5b0 : decide (0 ≤ x13_1) = true := decide_eq_true c5
            clear c5
            by_cases c6 : x13_1 < (l0.length : Int)
            · rw [if_pos c6] at H
              have c6b0 : decide (x13_1 < (l0.length : Int)) = true := decide_eq_true c6
              clear c6
              by_cases c7 : x13_1 < (l1.length : Int)
              · rw [if_pos c7] at H
                have c7b0 : decide (x13_1 < (l1.length : Int)) = true := decide_eq_true c7
                clear c7
                by_cases c8 : (!((((rd_T56 l0 x13_1).f0).toList) == (((rd_T56 l1 x13_1).f0).toList)) || (!((((rd_T56 l0 x13_1).f1).toList) == (((rd_T56 l1 x13_1).f1).toList)) || (!(((rd_T56 l0 x13_1).f2) == ((rd_T56 l1 x13_1).f2))))) = true
                · rw [if_pos c8] at H
                  have c8b0 : (!((((rd_T56 l0 x13_1).f0).toList) == (((rd_T56 l1 x13_1).f0).toList)) || (!((((rd_T56 l0 x13_1).f1).toList) == (((rd_T56 l1 x13_1).f1).toList)) || (!(((rd_T56 l0 x13_1).f2) == ((rd_T56 l1 x13_1).f2))))) = true := c8
                  clear c8
                  obtain rfl := Option.some.inj H
                  have p108 : 0 ≤ (x13_1 : Int) := of_decide_eq_true (by first | (with_reducible assumption) | assumption)
                  have q108 : x13_1 < (l0.length : Int) := of_decide_eq_true (by first | (with_reducible assumption) | assumption)
                  obtain ⟨ad108, e108, hx108_0, hx108_1, hx108_2⟩ := at_T56 HR0.out x13_1 p108 q108
                  cases e108
                  replace p108 := eq_true p108
                  replace q108 := eq_true q108
                  have p109 : 0 ≤ (x13_1 : Int) := of_decide_eq_true (by first | (with_reducible assumption) | assumption)
                  have q109 : x13_1 < (l1.length : Int) := of_decide_eq_true (by first | (with_reducible assumption) | assumption)
                  obtain ⟨ad109, e109, hx109_0, hx109_1, hx109_2⟩ := at_T56 HR1.out x13_1 p109 q109
                  cases e109
                  replace p109 := eq_true p109
                  replace q109 := eq_true q109
                  go_wp2
                  repeat (go_quiet (fail); try go_wp2)
                  go_ret
                  exact ⟨by first | rfl | (simp; done) | (simp [*]; done), by repeat (first | exact Drawn0.refl _ | apply Drawn0.step)⟩
                · rw [if_neg c8] at H
                  have c8b0 : (!((((rd_T56 l0 x13_1).f0).toList) == (((rd_T56 l1 x13_1).f0).toList)) || (!((((rd_T56 l0 x13_1).f1).toList) == (((rd_T56 l1 x13_1).f1).toList)) || (!(((rd_T56 l0 x13_1).f2) == ((rd_T56 l1 x13_1).f2))))) = false := by simpa using c8
                  clear c8
                  have H' := Aside0.mk H
                  clear H
                  have p108 : 0 ≤ (x13_1 : Int) := of_decide_eq_true (by first | (with_reducible assumption) | assumption)
                  have q108 : x13_1 < (l0.length : Int) := of_decide_eq_true (by first | (with_reducible assumption) | assumption)
                  obtain ⟨ad108, e108, hx108_0, hx108_1, hx108_2⟩ := at_T56 HR0.out x13_1 p108 q108
                  cases e108
                  replace p108 := eq_true p108
                  replace q108 := eq_true q108
                  have p109 : 0 ≤ (x13_1 : Int) := of_decide_eq_true (by first | (with_reducible assumption) | assumption)
                  have q109 : x13_1 < (l1.length : Int) := of_decide_eq_true (by first | (with_reducible assumption) | assumption)
                  obtain ⟨ad109, e109, hx109_0, hx109_1, hx109_2⟩ := at_T56 HR1.out x13_1 p109 q109
                  cases e109
                  replace p109 := eq_true p109
                  replace q109 := eq_true q109
                  go_wp2
                  repeat (go_quiet (fail); try go_wp2)
                  go_roundg k1
                  case measure => have := HK1.out; omega
                  case rel => exact ⟨(wrap64 (x13_1 + 1)), (by first | rfl | (simp; done) | (simp [*]; done)), H', ⟨by have := HK1.out; omega⟩, by repeat (first | exact Drawn0.refl _ | apply Drawn0.step)⟩
              · rw [if_neg c7] at H
                exact absurd H (by simp)
            · rw [if_neg c6] at H
              exact absurd H (by simp)
          · rw [if_neg c5] at H
            exact absurd H (by simp)
        · rw [if_neg c4] at H
          have c4b0 : decide (x13_1 < (l0.length : Int)) = false := decide_eq_false c4
          clear c4
          obtain rfl := Option.some.inj H
          go_wp2
          repeat (go_quiet (fail); try go_wp2)
          go_ret
          exact ⟨by first | rfl | (simp; done) | (simp [*]; done), by repeat (first | exact Drawn0.refl _ | apply Drawn0.step)⟩
  · rw [if_neg c3] at H
    have c3b0 : ((l0.length : Int) == (l1.length : Int)) = false := beq_eq_false_iff_ne.mpr c3
    have c3b1 : ((l0.length : Int) != (l1.length : Int)) = true := bne_iff_ne.mpr c3
    have c3b2 : (l0.length == l1.length) = false := by first | simpa using c3 | (simp at c3 ⊢; omega)
    obtain rfl := Option.some.inj H
    go_enter Tryd.func40, Tryd.ntmps40
    go_wp2
    repeat (go_quiet (fail); try go_wp2)
    go_ret
    exact ⟨by first | rfl | (simp; done) | (simp [*]; done), by repeat (first | exact Drawn0.refl _ | apply Drawn0.step)⟩

end Go.Proofs.YtpanmmpkdbhofaaDoor.P12o
