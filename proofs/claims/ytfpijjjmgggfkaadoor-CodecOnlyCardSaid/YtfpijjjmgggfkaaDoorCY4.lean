/- The row and the card of CodecOnly: whatever the input, the law returns true. -/
import Derived.Test.YtfpijjjmgggfkaaDoorCY3
import Derived.OwnWalk
import Derived.Laws.Rows
import Derived.Recover
import Derived.Defers
import Derived.Test.YtfpijjjmgggfkaaDoorRows
import Derived.Test.YtfpijjjmgggfkaaDoorCards
import Derived.Test.YtfpijjjmgggfkaaDoorTie
import Derived.WalkKit
import Derived.ProofKit
import Derived.OpenShut
import Derived.ShutString
import Derived.ChangeOld
import Derived.Below
import Derived.SizedLaws
import Derived.LaidMore
import Derived.Stop.Joined
import Derived.SevenTiedAt
import Derived.MakeChecks
import Derived.Handed
import Derived.Lib.SmallJoins
import Derived.Carry

namespace Go.Proofs.YtfpijjjmgggfkaaDoorE
open Go Go.RowKit Go.Proofs.YtfpijjjmgggfkaaDoorW.PrintWords Go.Proofs.YtfpijjjmgggfkaaDoorW.PrintMore Go.Proofs.YtfpijjjmgggfkaaDoor.P01 Go.Proofs.YtfpijjjmgggfkaaDoor.L01
set_option maxRecDepth 100000
set_option linter.unusedVariables false
theorem clone_c (A : Option Addr) (c : Nat) (xs : List Int) (w : World) (hC : Kd.C (Kd.int .u8) w A xs.length xs) (hlen : xs.length ≤ 140737488355328) :
    Calls Tryd.prog 33 #[.slice A xs.length c] w fun e w' => (∃ v, e = .returned v ∧ own8 w.heap.size v xs w') ∧ Below w.heap.size w w' := by
  have HC := Aside0.mk hC
  clear hC
  rcases A with _ | ad
  · have h0 : xs = [] := by
      by_cases h : 0 < xs.length
      · obtain ⟨ad, h, _⟩ := HC.out.2.2 h; cases h
      · exact List.eq_nil_of_length_eq_zero (by omega)
    subst h0
    have he : ∀ w : World, (binOp .eql 25 (.slice none 0 c) (.slice none 0 0)).run Tryd.prog w = .ok (.bool true) w := fun _ => rfl
    go_enter Tryd.func33, Tryd.ntmps33
    go_wp2_with fail
    go_ret
    exact ⟨⟨_, rfl, Kd.R_nil _ _ _ _ _⟩, Below.refl _ _⟩
  · have he : ∀ w : World, (binOp .eql 25 (.slice (some ad) xs.length c) (.slice none 0 0)).run Tryd.prog w = .ok (.bool false) w := fun _ => rfl
    go_enter Tryd.func33, Tryd.ntmps33
    have hO : own8 w.heap.size (.slice (some ⟨w.heap.size, 0, none⟩) 0 0) [] (w.alloc (.cells #[] 5)) := Kd.R_of_own (enc := Value.int .u8) (h1 := fun _ => rfl) (World.ownsRow_made w #[] 0 (Nat.le_refl _) (by decide) (by decide)) (fun _ _ => trivial)
    have HO := Aside0.mk hO
    clear hO
    go_wp2_with (at_builtin; refine Kd.R_append_row (w0 := w) (Value.int .u8) (0 : Int) (h1 := fun _ => rfl) w.heap.size rfl _ _ 25 5 (.int .u8 0) 1 rfl Tryd.underlying25 info_byte rfl (by decide) _ [] xs (some ad) xs.length c (fun _ => True) rfl rfl (fun _ _ => trivial) HO.out (Kd.C_alloc HC.out _) (below_alloc (Below.refl _ _) _) ?_ ?_ ?_)
    · simp
    · simpa using hlen
    intro v' w' hown hbel hgr hhat
    have H1 := Aside0.mk hown
    have H2 := Aside0.mk hbel
    clear hown hbel hgr hhat
    go_wp2_with fail
    go_ret
    exact ⟨⟨_, rfl, H1.out⟩, H2.out⟩
theorem own8_reads {B : Nat} {v : Value} {xs : List Int} {w : World} (h : own8 B v xs w) : ∃ A c, v = .slice A xs.length c ∧ xs.length ≤ c ∧ Kd.C (Kd.int .u8) w A xs.length xs := Kd.R_reads h
theorem w_bytes (B p g : Nat) (v : Value) (bs : List Int) (w : World) (h : AtW B p g v bs w) (hlen : bs.length ≤ 140737488355328) :
    Calls Tryd.prog 19 #[.pointer (some ⟨p, 0, none⟩)] w fun e w' => (∃ v', e = .returned v' ∧ own8 w.heap.size v' bs w') ∧ Below w.heap.size w w' := by
  obtain ⟨h1, h2, hp, hg, HR⟩ := h
  obtain ⟨A, c, rfl, hc, hC⟩ := own8_reads HR
  have c0 : w.cell? ⟨p, 0, none⟩ = some (.pointer (some ⟨g, 0, none⟩)) := by rw [Lib.cell_of_heap hp]; rfl
  have d0 : w.cell? ⟨g, 0, none⟩ = some (.slice A bs.length c) := by rw [Lib.cell_of_heap hg]; rfl
  have HC := Aside0.mk hC
  clear HR hC
  go_enter Tryd.func19, Tryd.ntmps19
  go_wp2_with fail
  refine (ready_c p g w hp).mono ?_
  rintro e w1 ⟨rfl, rfl⟩
  go_wp2_with fail
  refine (clone_c A c bs _ HC.out hlen).mono ?_
  rintro e w2 ⟨⟨v', rfl, hO⟩, hb⟩
  have H1 := Aside0.mk hO
  have H2 := Aside0.mk hb
  clear hO hb
  go_wp2_with fail
  go_ret
  exact ⟨⟨_, rfl, H1.out⟩, H2.out⟩
theorem own8_F {B : Nat} {A : Option Addr} {c : Nat} {xs : List Int} {W : World} (h : own8 B (.slice A xs.length c) xs W) : Kd.F (Kd.int .u8) W (fun k => B ≤ k ∧ k < W.heap.size) A xs.length xs :=
  fun W' hm => (Kd.R_reads' (Kd.R_step (Kd.R_bound (Kd.R_tight rfl h)) (fun k hk hlt => hm k ⟨hk.2.1, hk.2.2.1⟩ hlt))).2.2
/-- A reader of bytes: its row is its own. -/
theorem read_c (A : Option Addr) (c : Nat) (xs : List Int) (hB : Bytes xs) (w : World) (hC : Kd.C (Kd.int .u8) w A xs.length xs) (hlen : xs.length ≤ 140737488355328) :
    Calls Tryd.prog 39 #[.slice A xs.length c] w fun e w' => (∃ p, e = .returned (.pointer (some ⟨p, 0, none⟩)) ∧ w.heap.size ≤ p ∧ AtR 107 p (fun k => w.heap.size ≤ k ∧ k < p) xs 0 w') ∧ Below w.heap.size w w' := by
  have HC := Aside0.mk hC
  clear hC
  go_enter Tryd.func39, Tryd.ntmps39
  go_wp2_with fail
  refine (clone_c A c xs _ HC.out hlen).mono ?_
  rintro e w2 ⟨⟨v', rfl, hO⟩, hb⟩
  obtain ⟨A', c', rfl, hc', hC'⟩ := own8_reads hO
  have H1 := Aside0.mk hO
  have H2 := Aside0.mk hb
  have H3 := Aside0.mk hC'
  clear hO hb hC'
  go_wp2_with fail
  go_ret
  refine ⟨⟨_, rfl, H2.out.size, fun h => Nat.lt_irrefl _ h.2, hB, A', c', heap_alloc_new _ _, hc', Kd.F_alloc ?_ _⟩, below_alloc H2.out _⟩
  exact own8_F H1.out
theorem new_c (w : World) : Calls Tryd.prog 16 #[] w fun e w' => (∃ p g, e = .returned (.pointer (some ⟨p, 0, none⟩)) ∧ AtW w.heap.size p g (.slice none 0 0) [] w') ∧ Below w.heap.size w w' := by
  go_enter Tryd.func16, Tryd.ntmps16
  go_wp2_with fail
  go_ret
  refine ⟨⟨_, _, rfl, Nat.le_succ _, Nat.le_refl _, ?_, ?_, Kd.R_nil _ _ _ _ _⟩, below_alloc (below_alloc (Below.refl _ _) _) _⟩
  · have := heap_alloc_new (w.alloc (.cells #[.slice none 0 0] 70)) (.cells #[.pointer (some ⟨w.heap.size, 0, none⟩)] 72)
    simpa using this
  · have := heap_alloc_new w (.cells #[.slice none 0 0] 70)
    rw [(below_alloc (Below.refl (w.alloc (.cells #[.slice none 0 0] 70)).heap.size (w.alloc (.cells #[.slice none 0 0] 70))) _).block _ (by simp)]
    exact this
end Go.Proofs.YtfpijjjmgggfkaaDoorE

namespace Go.Proofs.YtfpijjjmgggfkaaDoorE
open Go Go.RowKit Go.Proofs.YtfpijjjmgggfkaaDoorW.PrintWords Go.Proofs.YtfpijjjmgggfkaaDoorW.PrintMore Go.Proofs.YtfpijjjmgggfkaaDoor.P01 Go.Proofs.YtfpijjjmgggfkaaDoor.L01
set_option maxRecDepth 100000
set_option linter.unusedVariables false
theorem str_bytesI (s : ByteArray) : strOfNums (bytesI s) = s := by
  unfold strOfNums bytesI
  rw [List.map_map]
  have : (s.data.toList.map ((fun n : Int => UInt8.ofNat n.toNat) ∘ fun b : UInt8 => (b.toNat : Int))) = s.data.toList := by
    conv => rhs; rw [← List.map_id s.data.toList]
    refine List.map_congr_left fun b _ => ?_
    simp
  rw [this]
end Go.Proofs.YtfpijjjmgggfkaaDoorE

namespace Go.Proofs.YtfpijjjmgggfkaaDoorE
open Go Go.RowKit Go.Proofs.YtfpijjjmgggfkaaDoorW.PrintWords Go.Proofs.YtfpijjjmgggfkaaDoorW.PrintMore Go.Proofs.YtfpijjjmgggfkaaDoorX Go.Proofs.YtfpijjjmgggfkaaDoor.P26 Go.Proofs.YtfpijjjmgggfkaaDoor.L01
set_option linter.unusedVariables false
set_option linter.unusedSimpArgs false
/-- The ending of a reading that is stopped by an error. -/
def stopE (n : Int) : Ending := .panicked [{ v := .iface 82 (.int .i64 n), recovered := false }]
theorem must_ok (w : World) : Calls Tryd.prog 42 #[.int .i64 0] w fun e w' => e = .returned (.tuple #[]) ∧ w' = w := by
  go_enter Tryd.func42, Tryd.ntmps42
  go_wp2_with fail
  go_end0
  exact ⟨rfl, rfl⟩
theorem must_bad (n : Int) (h : n ≠ 0) (w : World) : Calls Tryd.prog 42 #[.int .i64 n] w fun e w' => e = stopE n ∧ w' = w := by
  have h1 : (n == 0) = false := by simpa using h
  have h2 : (n != 0) = true := by simpa using h
  unfold stopE
  go_enter Tryd.func42, Tryd.ntmps42
  go_wp2_with fail
  exact ⟨rfl, rfl, rfl⟩
theorem AtR.al {T p : Nat} {ok : Nat → Prop} {bs : List Int} {er : Int} {w : World} (h : AtR T p ok bs er w) (o : Obj) : AtR T p ok bs er (w.alloc o) := h.but ((But.refl (fun _ => False) w).alloc o) (fun _ h => h.elim)
/-- What is left of a reading that goes on. -/
def Rd (p : Nat) (ok : Nat → Prop) (bs : List Int) (er : Int) (w w' : World) : Prop := AtR 107 p ok bs er w' ∧ But (· = p) w w'
theorem num_ok (p : Nat) (ok : Nat → Prop) (bs : List Int) (er most : Int) (w : World) (h : AtR 107 p ok bs er w) (he : (numR bs er most).1.2 = 0) (h0 : 0 ≤ (numR bs er most).1.1) (h1 : (numR bs er most).1.1 ≤ 4294967295) :
    Calls Tryd.prog 40 #[.agg #[.pointer (some ⟨p, 0, none⟩)], .int .u64 most] w fun e w' => e = .returned (.int .i64 (numR bs er most).1.1) ∧ Rd p ok (numR bs er most).2.1 (numR bs er most).2.2 w w' := by
  have HR := Aside0.mk (r_num p ok bs er most _ (h.al (.cells #[.pointer (some ⟨p, 0, none⟩)] 87)))
  obtain ⟨R, hR⟩ : ∃ R, R = numR bs er most := ⟨_, rfl⟩
  rw [← hR] at HR he h0 h1 ⊢
  rw [he] at HR
  clear hR h he
  go_enter Tryd.func40, Tryd.ntmps40
  go_wp2_with (first
    | (go_at_call 59; (with_reducible refine (HR.out).mono ?_); rintro e w1 ⟨rfl, h2, h3⟩; have H2 := Aside0.mk h2; have H3 := Aside0.mk h3; clear h2 h3)
    | (go_at_call 42; (with_reducible refine (must_ok _).mono ?_); rintro e w2 ⟨rfl, rfl⟩))
  go_ret
  exact ⟨rfl, H2.out, ((But.refl _ w).alloc _).then_ H3.out⟩
theorem num_bad (p : Nat) (ok : Nat → Prop) (bs : List Int) (er most : Int) (w : World) (h : AtR 107 p ok bs er w) (he : (numR bs er most).1.2 ≠ 0) :
    Calls Tryd.prog 40 #[.agg #[.pointer (some ⟨p, 0, none⟩)], .int .u64 most] w fun e w' => e = stopE (numR bs er most).1.2 ∧ But (· = p) w w' := by
  have HR := Aside0.mk (r_num p ok bs er most _ (h.al (.cells #[.pointer (some ⟨p, 0, none⟩)] 87)))
  obtain ⟨R, hR⟩ : ∃ R, R = numR bs er most := ⟨_, rfl⟩
  rw [← hR] at HR he ⊢
  have HM := Aside0.mk (must_bad R.1.2 he)
  unfold stopE at HM ⊢
  clear hR h he
  go_enter Tryd.func40, Tryd.ntmps40
  go_wp2_with (first
    | (go_at_call 59; (with_reducible refine (HR.out).mono ?_); rintro e w1 ⟨rfl, h2, h3⟩; have H3 := Aside0.mk h3; clear h2 h3)
    | (go_at_call 42; (with_reducible refine (HM.out _).mono ?_); rintro e w2 ⟨rfl, rfl⟩))
  exact ⟨rfl, rfl, ((But.refl _ w).alloc _).then_ H3.out⟩
theorem text_ok (p : Nat) (ok : Nat → Prop) (bs : List Int) (er : Int) (w : World) (hlen : bs.length ≤ 9223372036854775807) (h : AtR 107 p ok bs er w) (he : (textR bs er 65536).1.2 = 0) :
    Calls Tryd.prog 60 #[.agg #[.pointer (some ⟨p, 0, none⟩)]] w fun e w' => e = .returned (.string (textR bs er 65536).1.1) ∧ Rd p ok (textR bs er 65536).2.1 (textR bs er 65536).2.2 w w' := by
  have HR := Aside0.mk (r_text p ok bs er 65536 (by omega) (by omega) hlen _ (h.al (.cells #[.pointer (some ⟨p, 0, none⟩)] 87)))
  obtain ⟨R, hR⟩ : ∃ R, R = textR bs er 65536 := ⟨_, rfl⟩
  rw [← hR] at HR he ⊢
  rw [he] at HR
  clear hR h he
  go_enter Tryd.func60, Tryd.ntmps60
  go_wp2_with (first
    | (go_at_call 72; (with_reducible refine (HR.out).mono ?_); rintro e w1 ⟨rfl, h2, h3⟩; have H2 := Aside0.mk h2; have H3 := Aside0.mk h3; clear h2 h3)
    | (go_at_call 42; (with_reducible refine (must_ok _).mono ?_); rintro e w2 ⟨rfl, rfl⟩))
  go_ret
  exact ⟨rfl, H2.out, ((But.refl _ w).alloc _).then_ H3.out⟩
theorem text_bad (p : Nat) (ok : Nat → Prop) (bs : List Int) (er : Int) (w : World) (hlen : bs.length ≤ 9223372036854775807) (h : AtR 107 p ok bs er w) (he : (textR bs er 65536).1.2 ≠ 0) :
    Calls Tryd.prog 60 #[.agg #[.pointer (some ⟨p, 0, none⟩)]] w fun e w' => e = stopE (textR bs er 65536).1.2 ∧ But (· = p) w w' := by
  have HR := Aside0.mk (r_text p ok bs er 65536 (by omega) (by omega) hlen _ (h.al (.cells #[.pointer (some ⟨p, 0, none⟩)] 87)))
  obtain ⟨R, hR⟩ : ∃ R, R = textR bs er 65536 := ⟨_, rfl⟩
  rw [← hR] at HR he ⊢
  have HM := Aside0.mk (must_bad R.1.2 he)
  unfold stopE at HM ⊢
  clear hR h he
  go_enter Tryd.func60, Tryd.ntmps60
  go_wp2_with (first
    | (go_at_call 72; (with_reducible refine (HR.out).mono ?_); rintro e w1 ⟨rfl, h2, h3⟩; have H3 := Aside0.mk h3; clear h2 h3)
    | (go_at_call 42; (with_reducible refine (HM.out _).mono ?_); rintro e w2 ⟨rfl, rfl⟩))
  exact ⟨rfl, rfl, ((But.refl _ w).alloc _).then_ H3.out⟩
theorem handle_ok (p : Nat) (ok : Nat → Prop) (bs : List Int) (er : Int) (w : World) (h : AtR 107 p ok bs er w) (he : (numR bs er 4294967295).1.2 = 0) (h0 : 0 ≤ (numR bs er 4294967295).1.1) (h1 : (numR bs er 4294967295).1.1 ≤ 4294967295) :
    Calls Tryd.prog 61 #[.agg #[.pointer (some ⟨p, 0, none⟩)]] w fun e w' => e = .returned (.int .i64 (numR bs er 4294967295).1.1) ∧ Rd p ok (numR bs er 4294967295).2.1 (numR bs er 4294967295).2.2 w w' := by
  have HR := Aside0.mk (num_ok p ok bs er 4294967295 _ (h.al (.cells #[.pointer (some ⟨p, 0, none⟩)] 87)) he h0 h1)
  clear h he h0 h1
  go_enter Tryd.func61, Tryd.ntmps61
  go_wp2_with (go_at_call 40; (with_reducible refine (HR.out).mono ?_); rintro e w1 ⟨rfl, h2, h3⟩; have H2 := Aside0.mk h2; have H3 := Aside0.mk h3; clear h2 h3)
  go_ret
  exact ⟨rfl, H2.out, ((But.refl _ w).alloc _).then_ H3.out⟩
theorem handle_bad (p : Nat) (ok : Nat → Prop) (bs : List Int) (er : Int) (w : World) (h : AtR 107 p ok bs er w) (he : (numR bs er 4294967295).1.2 ≠ 0) :
    Calls Tryd.prog 61 #[.agg #[.pointer (some ⟨p, 0, none⟩)]] w fun e w' => e = stopE (numR bs er 4294967295).1.2 ∧ But (· = p) w w' := by
  have HR := Aside0.mk (num_bad p ok bs er 4294967295 _ (h.al (.cells #[.pointer (some ⟨p, 0, none⟩)] 87)) he)
  unfold stopE at HR ⊢
  clear h he
  go_enter Tryd.func61, Tryd.ntmps61
  go_wp2_with (go_at_call 40; (with_reducible refine (HR.out).mono ?_); rintro e w1 ⟨rfl, h3⟩; have H3 := Aside0.mk h3; clear h3)
  exact ⟨rfl, rfl, ((But.refl _ w).alloc _).then_ H3.out⟩
end Go.Proofs.YtfpijjjmgggfkaaDoorE

namespace Go.Proofs.YtfpijjjmgggfkaaDoorE
open Go Go.RowKit Go.Proofs.YtfpijjjmgggfkaaDoorW.PrintWords Go.Proofs.YtfpijjjmgggfkaaDoorW.PrintMore Go.Proofs.YtfpijjjmgggfkaaDoorX Go.Proofs.YtfpijjjmgggfkaaDoor.P26 Go.Proofs.YtfpijjjmgggfkaaDoor.L01
set_option linter.unusedVariables false
set_option linter.unusedSimpArgs false
/-- What is left, and the first error. -/
abbrev St := List Int × Int
def nS (s : St) (m : Int) : (Int × Int) × St := numR s.1 s.2 m
def tS (s : St) : (ByteArray × Int) × St := textR s.1 s.2 65536
def attrsR : Nat → St → List S44 × St
  | 0, s => ([], s)
  | d + 1, s => (⟨(tS s).1.1, (tS (tS s).2).1.1⟩ :: (attrsR d (tS (tS s).2).2).1, (attrsR d (tS (tS s).2).2).2)
def hS (s : St) : (Int × Int) × St := nS s 4294967295
def bodyR (k : Int) (s : St) : S42 × St :=
  if k = 1 then (⟨1, 0, 0, 0, (tS s).1.1, (tS (tS s).2).1.1, em, (tS (tS (tS s).2).2).1.1, (attrsR (nS (tS (tS (tS s).2).2).2 64).1.1.toNat (nS (tS (tS (tS s).2).2).2 64).2).1⟩, (attrsR (nS (tS (tS (tS s).2).2).2 64).1.1.toNat (nS (tS (tS (tS s).2).2).2 64).2).2)
  else if k = 2 then (⟨2, (hS s).1.1, (hS (hS s).2).1.1, (hS (hS (hS s).2).2).1.1, em, em, em, em, []⟩, (hS (hS (hS s).2).2).2)
  else if k = 3 then (⟨3, (hS s).1.1, 0, (hS (hS s).2).1.1, em, em, em, em, []⟩, (hS (hS s).2).2)
  else if k = 4 then (⟨4, (hS s).1.1, 0, 0, em, em, em, em, []⟩, (hS s).2)
  else if k = 5 then (⟨5, (hS s).1.1, 0, 0, em, em, (tS (hS s).2).1.1, (tS (tS (hS s).2).2).1.1, []⟩, (tS (tS (hS s).2).2).2)
  else if k = 6 then (⟨6, (hS s).1.1, 0, 0, em, em, (tS (hS s).2).1.1, em, []⟩, (tS (hS s).2).2)
  else (⟨7, (hS s).1.1, 0, 0, em, em, em, (tS (hS s).2).1.1, []⟩, (tS (hS s).2).2)
def opR (s : St) : (S42 × Int) × St :=
  if (nS s 7).1.2 ≠ 0 then ((⟨(nS s 7).1.1, 0, 0, 0, em, em, em, em, []⟩, (nS s 7).1.2), (nS s 7).2)
  else if (nS s 7).1.1 = 0 then ((⟨0, 0, 0, 0, em, em, em, em, []⟩, 6), (nS s 7).2)
  else if (bodyR (nS s 7).1.1 (nS s 7).2).2.2 ≠ 0 then (((bodyR (nS s 7).1.1 (nS s 7).2).1, (bodyR (nS s 7).1.1 (nS s 7).2).2.2), (bodyR (nS s 7).1.1 (nS s 7).2).2)
  else (((bodyR (nS s 7).1.1 (nS s 7).2).1, chk (bodyR (nS s 7).1.1 (nS s 7).2).1), (bodyR (nS s 7).1.1 (nS s 7).2).2)
/-- Read operations from the i-th on, d to go: what was read, and the error that ended it. -/
def opsR : Nat → St → List S42 × Int × St
  | 0, s => ([], 0, s)
  | d + 1, s => if (opR s).1.2 ≠ 0 then ([], (opR s).1.2, (opR s).2) else ((opR s).1.1 :: (opsR d (opR s).2).1, (opsR d (opR s).2).2)
theorem nS_err (s : St) (m : Int) : (nS s m).1.2 = (nS s m).2.2 := by
  unfold nS numR
  repeat' split
  all_goals rfl
theorem tS_err (s : St) : (tS s).1.2 = (tS s).2.2 := by
  unfold tS textR
  repeat' split
  all_goals rfl
theorem nS_stick (s : St) (m : Int) (h : s.2 ≠ 0) : nS s m = ((0, s.2), s) := by
  unfold nS numR
  rw [if_pos h]
theorem tS_stick (s : St) (h : s.2 ≠ 0) : tS s = ((em, s.2), s) := by
  unfold tS textR
  rw [if_pos h]
theorem attrsR_stick : ∀ (d : Nat) (s : St), s.2 ≠ 0 → (attrsR d s).2 = s := by
  intro d
  induction d with
  | zero => intro s _; rfl
  | succ d ih =>
    intro s h
    have e1 := tS_stick s h
    unfold attrsR
    simp only [e1]
    exact ih s h
theorem nS_val (s : St) (m : Int) (hB : Bytes s.1) (hm : 0 ≤ m) : 0 ≤ (nS s m).1.1 ∧ (nS s m).1.1 ≤ m := by
  unfold nS numR
  split
  · exact ⟨Int.le_refl _, hm⟩
  · split
    · exact ⟨Int.le_refl _, hm⟩
    · split
      · exact ⟨Int.le_refl _, hm⟩
      · rename_i h1 h2 h3
        obtain ⟨n, j, e, -⟩ := takeS_ok s.1 hB (by simpa using h2)
        rw [e] at h3 ⊢
        simp only at h3 ⊢
        omega
theorem nS_bytes (s : St) (m : Int) (hB : Bytes s.1) : Bytes (nS s m).2.1 ∧ (nS s m).2.1.length ≤ s.1.length := by
  unfold nS numR
  split
  · exact ⟨hB, Nat.le_refl _⟩
  · split
    · exact ⟨hB, Nat.le_refl _⟩
    · split
      · exact ⟨hB, Nat.le_refl _⟩
      · exact ⟨hB.drop _, by rw [List.length_drop]; omega⟩
theorem tS_bytes (s : St) (hB : Bytes s.1) : Bytes (tS s).2.1 ∧ (tS s).2.1.length ≤ s.1.length := by
  unfold tS textR
  split
  · exact ⟨hB, Nat.le_refl _⟩
  · split
    · exact ⟨hB, Nat.le_refl _⟩
    · split
      · exact ⟨hB, Nat.le_refl _⟩
      · split
        · exact ⟨hB, Nat.le_refl _⟩
        · exact ⟨hB.drop _, by rw [List.length_drop]; omega⟩
theorem tS_size (s : St) (hB : Bytes s.1) : (tS s).1.1.size ≤ 65536 := by
  unfold tS textR
  have h0 : em.size ≤ 65536 := by show 0 ≤ _; omega
  split
  · exact h0
  · split
    · exact h0
    · split
      · exact h0
      · split
        · exact h0
        · rename_i h1 h2 h3 h4
          obtain ⟨n, j, e, -⟩ := takeS_ok s.1 hB (by simpa using h2)
          rw [e] at h3 h4 ⊢
          simp only at h3 h4 ⊢
          unfold strOfNums
          show (List.map _ _).toArray.size ≤ _
          rw [List.size_toArray, List.length_map, List.length_drop, List.length_take]
          omega
end Go.Proofs.YtfpijjjmgggfkaaDoorE

namespace Go.Proofs.YtfpijjjmgggfkaaDoorE
open Go Go.RowKit Go.Proofs.YtfpijjjmgggfkaaDoorW.PrintWords Go.Proofs.YtfpijjjmgggfkaaDoorW.PrintMore Go.Proofs.YtfpijjjmgggfkaaDoorX Go.Proofs.YtfpijjjmgggfkaaDoor.P26 Go.Proofs.YtfpijjjmgggfkaaDoor.L01
set_option linter.unusedVariables false
set_option linter.unusedSimpArgs false
def boxN (xs : List Int) (T : TypeId) : Obj := .cells (xs.map (Value.int .u64)).toArray T (0, 0)
def boxS (l : List ByteArray) (T : TypeId) : Obj := .cells (l.map Value.string).toArray T (0, 0)
theorem boxN_C {W : World} {b T : Nat} {xs : List Int} (h : W.heap[b]? = some (boxN xs T)) (hx : xs.length ≤ 9223372036854775807) : Kd.C (Kd.int .u64) W (some ⟨b, 0, none⟩) xs.length xs := by
  refine ⟨rfl, hx, fun _ => ⟨_, rfl, ?_⟩⟩
  intro j p hp
  refine ⟨[.int .u64 p], rfl, rfl, ?_⟩
  intro i u hu
  match i, hu with
  | 0, hu =>
    simp at hu
    subst hu
    show W.cell? ((⟨b, 0, none⟩ : Addr).add (j * 1 + 0)) = _
    rw [add_plain, Lib.cell_of_heap h]
    simp [hp]
theorem boxS_F {W : World} {b T : Nat} {l : List ByteArray} {ok : Nat → Prop} (h : W.heap[b]? = some (boxS l T)) (hb : ok b) (hx : l.length ≤ 9223372036854775807) : Kd.F Kd.string W ok (some ⟨b, 0, none⟩) l.length l := by
  intro W' hW'
  have h' : W'.heap[b]? = some (boxS l T) := (hW' b hb (blk_lt' h)).trans h
  refine ⟨rfl, hx, fun _ => ⟨_, rfl, ?_⟩⟩
  intro j p hp
  refine ⟨[.string p], rfl, rfl, ?_⟩
  intro i u hu
  match i, hu with
  | 0, hu =>
    simp at hu
    subst hu
    show W'.cell? ((⟨b, 0, none⟩ : Addr).add (j * 1 + 0)) = _
    rw [add_plain, Lib.cell_of_heap h']
    simp [hp]
theorem w_numL (B p g : Nat) (v : Value) (bs xs : List Int) (n : Nat) (hn : xs.length = n) (w : World) (hBw : B ≤ w.heap.size) (h : AtW B p g v bs w) (hN : Nums xs) (hl : xs.length ≤ 1000000000000) (hlen : bs.length + (encs xs).length ≤ 140737488355328) :
    Calls Tryd.prog 17 #[.pointer (some ⟨p, 0, none⟩), .slice (some ⟨w.heap.size, 0, none⟩) n n] (w.alloc (boxN xs 50)) fun e w' => e = .returned (.tuple #[]) ∧ StepW B p g v (bs ++ encs xs) w w' := by
  subst hn
  have hb : Below w.heap.size w (w.alloc (boxN xs 50)) := below_alloc (Below.refl _ _) _
  refine (w_num B p g v bs xs (some ⟨w.heap.size, 0, none⟩) xs.length _ (Nat.le_trans hBw hb.size) (h.below hb) (boxN_C (one_new_ w _) (by omega)) (Nat.le_refl _) hN hl hlen).mono ?_
  rintro e w' ⟨rfl, v', hW, hB, hh⟩
  exact ⟨rfl, v', hW, ((But.refl _ w).below hb).then_ hB, hat_up hh hb.size⟩
theorem w_textL (B p g : Nat) (v : Value) (bs : List Int) (l : List ByteArray) (n : Nat) (hn : l.length = n) (w : World) (hBw : B ≤ w.heap.size) (h : AtW B p g v bs w) (hl : l.length ≤ 9223372036854775807) (hlen : bs.length + (encTs l).length ≤ 140737488355328) :
    Calls Tryd.prog 32 #[.pointer (some ⟨p, 0, none⟩), .slice (some ⟨w.heap.size, 0, none⟩) n n] (w.alloc (boxS l 9)) fun e w' => e = .returned (.tuple #[]) ∧ StepW B p g v (bs ++ encTs l) w w' := by
  subst hn
  have hb : Below w.heap.size w (w.alloc (boxS l 9)) := below_alloc (Below.refl _ _) _
  refine (w_text B p g v bs l ⟨w.heap.size, 0, none⟩ l.length _ (Nat.le_trans hBw hb.size) (h.below hb) (boxS_F (one_new_ w _) ⟨?_, ?_⟩ hl) (Nat.le_refl _) hl hlen).mono ?_
  · have := blk_lt' h.2.2.2.1; omega
  · intro e
    have := Kd.R_lt h.2.2.2.2 _ e.symm
    omega
  · rintro e w' ⟨rfl, v', hW, hB, hh⟩
    exact ⟨rfl, v', hW, ((But.refl _ w).below hb).then_ hB, hat_up hh hb.size⟩
/-- A writer that has gathered bs, and a box o beside it; all since w0. -/
def InvB (w0 : World) (p g o : Nat) (cs : Obj) (bs : List Int) (w : World) : Prop := Below w0.heap.size w0 w ∧ w.heap[o]? = some cs ∧ ∃ v, AtW w0.heap.size p g v bs w ∧ o ≠ g ∧ some o ≠ v.ownBlock
theorem AtW_below {w0 w w' : World} {p g : Nat} {v : Value} {bs : List Int} (h : AtW w0.heap.size p g v bs w) (hb : Below w0.heap.size w0 w) (hB : But (fun k => k = g ∨ some k = v.ownBlock) w w') : Below w0.heap.size w0 w' :=
  ⟨hB.os.trans hb.os, hB.tape.trans hb.tape, hB.output.trans hb.output, Nat.le_trans hb.size hB.size, fun k hk => (hB.block k (Nat.lt_of_lt_of_le hk hb.size) (by
    rintro (rfl | e)
    · exact absurd h.2.1 (by omega)
    · exact absurd (Kd.R_base h.2.2.2.2 k e.symm) (by omega))).trans (hb.block k hk)⟩
theorem InvB.step {w0 : World} {p g o : Nat} {cs : Obj} {bs bs' : List Int} {w w' : World} (hb : Below w0.heap.size w0 w) (ho : w.heap[o]? = some cs) {v : Value} (hv : AtW w0.heap.size p g v bs w) (h1 : o ≠ g) (h2 : some o ≠ v.ownBlock) (hs : StepW w0.heap.size p g v bs' w w') : InvB w0 p g o cs bs' w' := by
  obtain ⟨v', hW, hB, hh⟩ := hs
  refine ⟨AtW_below hv hb hB, (hB.block o (blk_lt' ho) (by
    rintro (e | e)
    · exact h1 e
    · exact h2 e)).trans ho, v', hW, h1, ?_⟩
  intro e
  rcases hh with hh | ⟨b, hb1, hb2⟩
  · exact h2 (e.trans hh)
  · rw [hb1] at e
    injection e with e
    have := blk_lt' ho
    omega
theorem InvB.alloc {w0 : World} {p g o : Nat} {cs : Obj} {bs : List Int} {w : World} (h : InvB w0 p g o cs bs w) (x : Obj) : InvB w0 p g o cs bs (w.alloc x) := by
  obtain ⟨hb, ho, v, hv, h1, h2⟩ := h
  exact ⟨below_alloc hb x, ((below_alloc (Below.refl _ w) x).block o (blk_lt' ho)).trans ho, v, hv.below (below_alloc (Below.refl _ _) x), h1, h2⟩
theorem InvB.num {w0 : World} {p g o : Nat} {cs : Obj} {bs : List Int} {w : World} (h : InvB w0 p g o cs bs w) (xs : List Int) (n : Nat) (hn : xs.length = n) (hN : Nums xs) (hl : xs.length ≤ 1000000000000) (hlen : bs.length + (encs xs).length ≤ 140737488355328) :
    Calls Tryd.prog 17 #[.pointer (some ⟨p, 0, none⟩), .slice (some ⟨w.heap.size, 0, none⟩) n n] (w.alloc (boxN xs 50)) fun e w' => e = .returned (.tuple #[]) ∧ InvB w0 p g o cs (bs ++ encs xs) w' := by
  obtain ⟨hb, ho, v, hv, h1, h2⟩ := h
  exact (w_numL _ p g v bs xs n hn w hb.size hv hN hl hlen).mono fun e w' ⟨he, hs⟩ => ⟨he, InvB.step hb ho hv h1 h2 hs⟩
theorem InvB.text {w0 : World} {p g o : Nat} {cs : Obj} {bs : List Int} {w : World} (h : InvB w0 p g o cs bs w) (l : List ByteArray) (n : Nat) (hn : l.length = n) (hl : l.length ≤ 9223372036854775807) (hlen : bs.length + (encTs l).length ≤ 140737488355328) :
    Calls Tryd.prog 32 #[.pointer (some ⟨p, 0, none⟩), .slice (some ⟨w.heap.size, 0, none⟩) n n] (w.alloc (boxS l 9)) fun e w' => e = .returned (.tuple #[]) ∧ InvB w0 p g o cs (bs ++ encTs l) w' := by
  obtain ⟨hb, ho, v, hv, h1, h2⟩ := h
  exact (w_textL _ p g v bs l n hn w hb.size hv hl hlen).mono fun e w' ⟨he, hs⟩ => ⟨he, InvB.step hb ho hv h1 h2 hs⟩
theorem nums1 {n : Int} (h0 : 0 ≤ n) (h1 : n < 18446744073709551616) : Nums [n] := by
  intro x hx
  simp at hx
  subst hx
  exact ⟨h0, h1⟩
def num32 (n : Int) : Prop := 0 ≤ n ∧ n ≤ 4294967295
theorem InvB.num1 {w0 : World} {p g o : Nat} {cs : Obj} {bs : List Int} {w : World} (h : InvB w0 p g o cs bs w) (n0 : Int) (b : Nat) (hb : b = w.heap.size) (hN : Nums [n0]) (hlen : bs.length + 10 ≤ 140737488355328) :
    Calls Tryd.prog 17 #[.pointer (some ⟨p, 0, none⟩), .slice (some ⟨b, 0, none⟩) 1 1] (w.alloc (.cells #[.int .u64 n0] 50)) fun e w' => e = .returned (.tuple #[]) ∧ InvB w0 p g o cs (bs ++ encs [n0]) w' := by
  subst hb
  exact h.num [n0] 1 rfl hN (by show 1 ≤ _; omega) (by have := encs_len hN; simp only [List.length_cons, List.length_nil] at this; omega)
theorem InvB.text1 {w0 : World} {p g o : Nat} {cs : Obj} {bs : List Int} {w : World} (h : InvB w0 p g o cs bs w) (s0 : ByteArray) (b : Nat) (hb : b = w.heap.size) (hlen : bs.length + (encTs [s0]).length ≤ 140737488355328) :
    Calls Tryd.prog 32 #[.pointer (some ⟨p, 0, none⟩), .slice (some ⟨b, 0, none⟩) 1 1] (w.alloc (.cells #[.string s0] 9)) fun e w' => e = .returned (.tuple #[]) ∧ InvB w0 p g o cs (bs ++ encTs [s0]) w' := by
  subst hb
  exact h.text [s0] 1 rfl (by show 1 ≤ _; omega) hlen
theorem InvB.num2 {w0 : World} {p g o : Nat} {cs : Obj} {bs : List Int} {w : World} (h : InvB w0 p g o cs bs w) (n0 n1 : Int) (b : Nat) (hb : b = w.heap.size) (hN : Nums [n0, n1]) (hlen : bs.length + 20 ≤ 140737488355328) :
    Calls Tryd.prog 17 #[.pointer (some ⟨p, 0, none⟩), .slice (some ⟨b, 0, none⟩) 2 2] (w.alloc (.cells #[.int .u64 n0, .int .u64 n1] 50)) fun e w' => e = .returned (.tuple #[]) ∧ InvB w0 p g o cs (bs ++ encs [n0, n1]) w' := by
  subst hb
  exact h.num [n0, n1] 2 rfl hN (by show 2 ≤ _; omega) (by have := encs_len hN; simp only [List.length_cons, List.length_nil] at this; omega)
theorem InvB.text2 {w0 : World} {p g o : Nat} {cs : Obj} {bs : List Int} {w : World} (h : InvB w0 p g o cs bs w) (s0 s1 : ByteArray) (b : Nat) (hb : b = w.heap.size) (hlen : bs.length + (encTs [s0, s1]).length ≤ 140737488355328) :
    Calls Tryd.prog 32 #[.pointer (some ⟨p, 0, none⟩), .slice (some ⟨b, 0, none⟩) 2 2] (w.alloc (.cells #[.string s0, .string s1] 9)) fun e w' => e = .returned (.tuple #[]) ∧ InvB w0 p g o cs (bs ++ encTs [s0, s1]) w' := by
  subst hb
  exact h.text [s0, s1] 2 rfl (by show 2 ≤ _; omega) hlen
theorem InvB.num3 {w0 : World} {p g o : Nat} {cs : Obj} {bs : List Int} {w : World} (h : InvB w0 p g o cs bs w) (n0 n1 n2 : Int) (b : Nat) (hb : b = w.heap.size) (hN : Nums [n0, n1, n2]) (hlen : bs.length + 30 ≤ 140737488355328) :
    Calls Tryd.prog 17 #[.pointer (some ⟨p, 0, none⟩), .slice (some ⟨b, 0, none⟩) 3 3] (w.alloc (.cells #[.int .u64 n0, .int .u64 n1, .int .u64 n2] 50)) fun e w' => e = .returned (.tuple #[]) ∧ InvB w0 p g o cs (bs ++ encs [n0, n1, n2]) w' := by
  subst hb
  exact h.num [n0, n1, n2] 3 rfl hN (by show 3 ≤ _; omega) (by have := encs_len hN; simp only [List.length_cons, List.length_nil] at this; omega)
theorem InvB.text3 {w0 : World} {p g o : Nat} {cs : Obj} {bs : List Int} {w : World} (h : InvB w0 p g o cs bs w) (s0 s1 s2 : ByteArray) (b : Nat) (hb : b = w.heap.size) (hlen : bs.length + (encTs [s0, s1, s2]).length ≤ 140737488355328) :
    Calls Tryd.prog 32 #[.pointer (some ⟨p, 0, none⟩), .slice (some ⟨b, 0, none⟩) 3 3] (w.alloc (.cells #[.string s0, .string s1, .string s2] 9)) fun e w' => e = .returned (.tuple #[]) ∧ InvB w0 p g o cs (bs ++ encTs [s0, s1, s2]) w' := by
  subst hb
  exact h.text [s0, s1, s2] 3 rfl (by show 3 ≤ _; omega) hlen
theorem num32s {n : Int} (h : num32 n) : 0 ≤ n ∧ n < 18446744073709551616 := ⟨h.1, by have := h.2; omega⟩
def opC (a0 a1 a2 a3 : Int) (b0 b1 b2 b3 : ByteArray) (v8 : Value) : Obj := .cells #[.int .i64 a0, .int .i64 a1, .int .i64 a2, .int .i64 a3, .string b0, .string b1, .string b2, .string b3, v8] 42
theorem box_new {w0 w : World} {p g : Nat} {v : Value} {bs : List Int} (hb : Below w0.heap.size w0 w) (h : AtW w0.heap.size p g v bs w) (cs : Obj) : InvB w0 p g w.heap.size cs bs (w.alloc cs) := by
  refine ⟨below_alloc hb _, one_new_ w cs, v, h.below (below_alloc (Below.refl _ _) _), ?_, ?_⟩
  · have := blk_lt' h.2.2.2.1; omega
  · intro e
    have := Kd.R_lt h.2.2.2.2 _ e.symm
    omega
theorem wrap_num {n : Int} (h : num32 n) : IntKind.u64.wrap n = n := by
  obtain ⟨h0, h1⟩ := h
  have : IntKind.u64.wrap n = n % 18446744073709551616 := rfl
  rw [this]; omega
theorem nums1w {a : Int} (h : num32 a) : Nums [IntKind.u64.wrap a] := by
  rw [wrap_num h]; exact nums1 h.1 (num32s h).2
theorem nums2w {a b : Int} (h : num32 a) (h' : num32 b) : Nums [IntKind.u64.wrap a, IntKind.u64.wrap b] := by
  rw [wrap_num h, wrap_num h']
  intro x hx
  simp at hx
  rcases hx with rfl | rfl
  · exact num32s h
  · exact num32s h'
theorem nums3w {a b c : Int} (h : num32 a) (h' : num32 b) (h'' : num32 c) : Nums [IntKind.u64.wrap a, IntKind.u64.wrap b, IntKind.u64.wrap c] := by
  rw [wrap_num h, wrap_num h', wrap_num h'']
  intro x hx
  simp at hx
  rcases hx with rfl | rfl | rfl
  · exact num32s h
  · exact num32s h'
  · exact num32s h''
theorem encT_le (s : ByteArray) (h : s.size ≤ 65536) : (encT s).length ≤ 70000 := by
  have h1 : (enc s.size).length ≤ 10 := enc_le10 (by omega)
  unfold encT
  rw [List.length_append, bytesI_len]; omega
theorem encTs1_le (s : ByteArray) (h : s.size ≤ 65536) : (encTs [s]).length ≤ 70000 := by
  have := encT_le s h
  simp only [encTs, List.flatMap_cons, List.flatMap_nil, List.append_nil]; exact this
theorem encTs2_le (s t : ByteArray) (h : s.size ≤ 65536) (h' : t.size ≤ 65536) : (encTs [s, t]).length ≤ 140000 := by
  have := encT_le s h
  have := encT_le t h'
  simp only [encTs, List.flatMap_cons, List.flatMap_nil, List.append_nil, List.length_append]; omega
theorem encTs3_le (s t u : ByteArray) (h : s.size ≤ 65536) (h' : t.size ≤ 65536) (h'' : u.size ≤ 65536) : (encTs [s, t, u]).length ≤ 210000 := by
  have := encT_le s h
  have := encT_le t h'
  have := encT_le u h''
  simp only [encTs, List.flatMap_cons, List.flatMap_nil, List.append_nil, List.length_append]; omega

set_option maxHeartbeats 1000000 in
set_option maxRecDepth 100000 in
theorem write_2 (f1 f2 f3 : Int) (f4 f5 f6 f7 : ByteArray) (v8 : Value) (w0 : World) (p g : Nat) (v : Value) (bs : List Int) (w : World) (hb : Below w0.heap.size w0 w) (h : AtW w0.heap.size p g v bs w) (hn1 : num32 f1) (hn2 : num32 f2) (hn3 : num32 f3) (hs6 : f6.size ≤ 65536) (hs7 : f7.size ≤ 65536) (hlen : bs.length + 10000000 ≤ 140737488355328) :
    Calls Tryd.prog 18 #[.pointer (some ⟨p, 0, none⟩), opV 2 f1 f2 f3 f4 f5 f6 f7 v8] w fun e w' => e = .returned (.tuple #[]) ∧ ∃ o cs, InvB w0 p g o cs (bs ++ encs [2] ++ encs [f1, f2, f3]) w' := by
  have H0 := Aside0.mk (box_new hb h (opC 2 f1 f2 f3 f4 f5 f6 f7 v8))
  unfold opV
  unfold opC at H0
  clear hb h
  go_enter Tryd.func18, Tryd.ntmps18
  go_wp2_with (first
    | (go_at_call 17; (with_reducible refine (InvB.num1 H0.out 2 _ ?hb (nums1 (by omega) (by omega)) ?hl).mono ?_); (case hb => simp); (case hl => omega); rintro e w1 ⟨rfl, hI⟩; have HI1 := Aside0.mk hI; have HL1 : Aside0 ((bs ++ encs [2]).length + 9000000 ≤ 140737488355328) := ⟨by have e1 := encs_len (nums1 (n := 2) (by omega) (by omega)); rw [List.length_append]; simp only [List.length_cons, List.length_nil] at e1; omega⟩; have hc := hI.2.1; clear hI; have q0 := cell_blk (j := 0) hc rfl; have q1 := cell_blk (j := 1) hc rfl; have q2 := cell_blk (j := 2) hc rfl; have q3 := cell_blk (j := 3) hc rfl; have q4 := cell_blk (j := 4) hc rfl; have q5 := cell_blk (j := 5) hc rfl; have q6 := cell_blk (j := 6) hc rfl; have q7 := cell_blk (j := 7) hc rfl; have q8 := cell_blk (j := 8) hc rfl; clear hc)
    | (go_at_call 17; (with_reducible refine (InvB.num3 HI1.out _ _ _ _ ?hb (nums3w hn1 hn2 hn3) ?hl).mono ?_); (case hb => simp); (case hl => have := HL1.out; omega); rintro e w2 ⟨rfl, hI⟩; have HI2 := Aside0.mk hI;  have hc := hI.2.1; clear hI;  clear hc))
  go_end0
  have hfin := HI2.out
  simp only [wrap_num hn1, wrap_num hn2, wrap_num hn3] at hfin
  exact ⟨rfl, _, _, hfin⟩
set_option maxHeartbeats 1000000 in
set_option maxRecDepth 100000 in
theorem write_3 (f1 f2 f3 : Int) (f4 f5 f6 f7 : ByteArray) (v8 : Value) (w0 : World) (p g : Nat) (v : Value) (bs : List Int) (w : World) (hb : Below w0.heap.size w0 w) (h : AtW w0.heap.size p g v bs w) (hn1 : num32 f1) (hn2 : num32 f2) (hn3 : num32 f3) (hs6 : f6.size ≤ 65536) (hs7 : f7.size ≤ 65536) (hlen : bs.length + 10000000 ≤ 140737488355328) :
    Calls Tryd.prog 18 #[.pointer (some ⟨p, 0, none⟩), opV 3 f1 f2 f3 f4 f5 f6 f7 v8] w fun e w' => e = .returned (.tuple #[]) ∧ ∃ o cs, InvB w0 p g o cs (bs ++ encs [3] ++ encs [f1, f3]) w' := by
  have H0 := Aside0.mk (box_new hb h (opC 3 f1 f2 f3 f4 f5 f6 f7 v8))
  unfold opV
  unfold opC at H0
  clear hb h
  go_enter Tryd.func18, Tryd.ntmps18
  go_wp2_with (first
    | (go_at_call 17; (with_reducible refine (InvB.num1 H0.out 3 _ ?hb (nums1 (by omega) (by omega)) ?hl).mono ?_); (case hb => simp); (case hl => omega); rintro e w1 ⟨rfl, hI⟩; have HI1 := Aside0.mk hI; have HL1 : Aside0 ((bs ++ encs [3]).length + 9000000 ≤ 140737488355328) := ⟨by have e1 := encs_len (nums1 (n := 3) (by omega) (by omega)); rw [List.length_append]; simp only [List.length_cons, List.length_nil] at e1; omega⟩; have hc := hI.2.1; clear hI; have q0 := cell_blk (j := 0) hc rfl; have q1 := cell_blk (j := 1) hc rfl; have q2 := cell_blk (j := 2) hc rfl; have q3 := cell_blk (j := 3) hc rfl; have q4 := cell_blk (j := 4) hc rfl; have q5 := cell_blk (j := 5) hc rfl; have q6 := cell_blk (j := 6) hc rfl; have q7 := cell_blk (j := 7) hc rfl; have q8 := cell_blk (j := 8) hc rfl; clear hc)
    | (go_at_call 17; (with_reducible refine (InvB.num2 HI1.out _ _ _ ?hb (nums2w hn1 hn3) ?hl).mono ?_); (case hb => simp); (case hl => have := HL1.out; omega); rintro e w2 ⟨rfl, hI⟩; have HI2 := Aside0.mk hI;  have hc := hI.2.1; clear hI;  clear hc))
  go_end0
  have hfin := HI2.out
  simp only [wrap_num hn1, wrap_num hn2, wrap_num hn3] at hfin
  exact ⟨rfl, _, _, hfin⟩
set_option maxHeartbeats 1000000 in
set_option maxRecDepth 100000 in
theorem write_4 (f1 f2 f3 : Int) (f4 f5 f6 f7 : ByteArray) (v8 : Value) (w0 : World) (p g : Nat) (v : Value) (bs : List Int) (w : World) (hb : Below w0.heap.size w0 w) (h : AtW w0.heap.size p g v bs w) (hn1 : num32 f1) (hn2 : num32 f2) (hn3 : num32 f3) (hs6 : f6.size ≤ 65536) (hs7 : f7.size ≤ 65536) (hlen : bs.length + 10000000 ≤ 140737488355328) :
    Calls Tryd.prog 18 #[.pointer (some ⟨p, 0, none⟩), opV 4 f1 f2 f3 f4 f5 f6 f7 v8] w fun e w' => e = .returned (.tuple #[]) ∧ ∃ o cs, InvB w0 p g o cs (bs ++ encs [4] ++ encs [f1]) w' := by
  have H0 := Aside0.mk (box_new hb h (opC 4 f1 f2 f3 f4 f5 f6 f7 v8))
  unfold opV
  unfold opC at H0
  clear hb h
  go_enter Tryd.func18, Tryd.ntmps18
  go_wp2_with (first
    | (go_at_call 17; (with_reducible refine (InvB.num1 H0.out 4 _ ?hb (nums1 (by omega) (by omega)) ?hl).mono ?_); (case hb => simp); (case hl => omega); rintro e w1 ⟨rfl, hI⟩; have HI1 := Aside0.mk hI; have HL1 : Aside0 ((bs ++ encs [4]).length + 9000000 ≤ 140737488355328) := ⟨by have e1 := encs_len (nums1 (n := 4) (by omega) (by omega)); rw [List.length_append]; simp only [List.length_cons, List.length_nil] at e1; omega⟩; have hc := hI.2.1; clear hI; have q0 := cell_blk (j := 0) hc rfl; have q1 := cell_blk (j := 1) hc rfl; have q2 := cell_blk (j := 2) hc rfl; have q3 := cell_blk (j := 3) hc rfl; have q4 := cell_blk (j := 4) hc rfl; have q5 := cell_blk (j := 5) hc rfl; have q6 := cell_blk (j := 6) hc rfl; have q7 := cell_blk (j := 7) hc rfl; have q8 := cell_blk (j := 8) hc rfl; clear hc)
    | (go_at_call 17; (with_reducible refine (InvB.num1 HI1.out _ _ ?hb (nums1w hn1) ?hl).mono ?_); (case hb => simp); (case hl => have := HL1.out; omega); rintro e w2 ⟨rfl, hI⟩; have HI2 := Aside0.mk hI;  have hc := hI.2.1; clear hI;  clear hc))
  go_end0
  have hfin := HI2.out
  simp only [wrap_num hn1, wrap_num hn2, wrap_num hn3] at hfin
  exact ⟨rfl, _, _, hfin⟩
set_option maxHeartbeats 1000000 in
set_option maxRecDepth 100000 in
theorem write_5 (f1 f2 f3 : Int) (f4 f5 f6 f7 : ByteArray) (v8 : Value) (w0 : World) (p g : Nat) (v : Value) (bs : List Int) (w : World) (hb : Below w0.heap.size w0 w) (h : AtW w0.heap.size p g v bs w) (hn1 : num32 f1) (hn2 : num32 f2) (hn3 : num32 f3) (hs6 : f6.size ≤ 65536) (hs7 : f7.size ≤ 65536) (hlen : bs.length + 10000000 ≤ 140737488355328) :
    Calls Tryd.prog 18 #[.pointer (some ⟨p, 0, none⟩), opV 5 f1 f2 f3 f4 f5 f6 f7 v8] w fun e w' => e = .returned (.tuple #[]) ∧ ∃ o cs, InvB w0 p g o cs (bs ++ encs [5] ++ encs [f1] ++ encTs [f6, f7]) w' := by
  have H0 := Aside0.mk (box_new hb h (opC 5 f1 f2 f3 f4 f5 f6 f7 v8))
  have HTf6f7 := Aside0.mk (encTs2_le f6 f7 hs6 hs7)
  unfold opV
  unfold opC at H0
  clear hb h
  go_enter Tryd.func18, Tryd.ntmps18
  go_wp2_with (first
    | (go_at_call 17; (with_reducible refine (InvB.num1 H0.out 5 _ ?hb (nums1 (by omega) (by omega)) ?hl).mono ?_); (case hb => simp); (case hl => omega); rintro e w1 ⟨rfl, hI⟩; have HI1 := Aside0.mk hI; have HL1 : Aside0 ((bs ++ encs [5]).length + 9000000 ≤ 140737488355328) := ⟨by have e1 := encs_len (nums1 (n := 5) (by omega) (by omega)); rw [List.length_append]; simp only [List.length_cons, List.length_nil] at e1; omega⟩; have hc := hI.2.1; clear hI; have q0 := cell_blk (j := 0) hc rfl; have q1 := cell_blk (j := 1) hc rfl; have q2 := cell_blk (j := 2) hc rfl; have q3 := cell_blk (j := 3) hc rfl; have q4 := cell_blk (j := 4) hc rfl; have q5 := cell_blk (j := 5) hc rfl; have q6 := cell_blk (j := 6) hc rfl; have q7 := cell_blk (j := 7) hc rfl; have q8 := cell_blk (j := 8) hc rfl; clear hc)
    | (go_at_call 17; (with_reducible refine (InvB.num1 HI1.out _ _ ?hb (nums1w hn1) ?hl).mono ?_); (case hb => simp); (case hl => have := HL1.out; omega); rintro e w2 ⟨rfl, hI⟩; have HI2 := Aside0.mk hI; have HL2 : Aside0 ((bs ++ encs [5] ++ encs [IntKind.u64.wrap f1]).length + 8000000 ≤ 140737488355328) := ⟨by have e1 := encs_len (nums1w hn1); have e2 := HL1.out; rw [List.length_append]; simp only [List.length_cons, List.length_nil] at e1; omega⟩; have hc := hI.2.1; clear hI; have q0 := cell_blk (j := 0) hc rfl; have q1 := cell_blk (j := 1) hc rfl; have q2 := cell_blk (j := 2) hc rfl; have q3 := cell_blk (j := 3) hc rfl; have q4 := cell_blk (j := 4) hc rfl; have q5 := cell_blk (j := 5) hc rfl; have q6 := cell_blk (j := 6) hc rfl; have q7 := cell_blk (j := 7) hc rfl; have q8 := cell_blk (j := 8) hc rfl; clear hc)
    | (go_at_call 32; (with_reducible refine (InvB.text2 HI2.out f6 f7 _ ?hb ?hl).mono ?_); (case hb => simp); (case hl => have := HL2.out; have := HTf6f7.out; omega); rintro e w3 ⟨rfl, hI⟩; have HI3 := Aside0.mk hI;  have hc := hI.2.1; clear hI;  clear hc))
  go_end0
  have hfin := HI3.out
  simp only [wrap_num hn1, wrap_num hn2, wrap_num hn3] at hfin
  exact ⟨rfl, _, _, hfin⟩
set_option maxHeartbeats 1000000 in
set_option maxRecDepth 100000 in
theorem write_6 (f1 f2 f3 : Int) (f4 f5 f6 f7 : ByteArray) (v8 : Value) (w0 : World) (p g : Nat) (v : Value) (bs : List Int) (w : World) (hb : Below w0.heap.size w0 w) (h : AtW w0.heap.size p g v bs w) (hn1 : num32 f1) (hn2 : num32 f2) (hn3 : num32 f3) (hs6 : f6.size ≤ 65536) (hs7 : f7.size ≤ 65536) (hlen : bs.length + 10000000 ≤ 140737488355328) :
    Calls Tryd.prog 18 #[.pointer (some ⟨p, 0, none⟩), opV 6 f1 f2 f3 f4 f5 f6 f7 v8] w fun e w' => e = .returned (.tuple #[]) ∧ ∃ o cs, InvB w0 p g o cs (bs ++ encs [6] ++ encs [f1] ++ encTs [f6]) w' := by
  have H0 := Aside0.mk (box_new hb h (opC 6 f1 f2 f3 f4 f5 f6 f7 v8))
  have HTf6 := Aside0.mk (encTs1_le f6 hs6)
  unfold opV
  unfold opC at H0
  clear hb h
  go_enter Tryd.func18, Tryd.ntmps18
  go_wp2_with (first
    | (go_at_call 17; (with_reducible refine (InvB.num1 H0.out 6 _ ?hb (nums1 (by omega) (by omega)) ?hl).mono ?_); (case hb => simp); (case hl => omega); rintro e w1 ⟨rfl, hI⟩; have HI1 := Aside0.mk hI; have HL1 : Aside0 ((bs ++ encs [6]).length + 9000000 ≤ 140737488355328) := ⟨by have e1 := encs_len (nums1 (n := 6) (by omega) (by omega)); rw [List.length_append]; simp only [List.length_cons, List.length_nil] at e1; omega⟩; have hc := hI.2.1; clear hI; have q0 := cell_blk (j := 0) hc rfl; have q1 := cell_blk (j := 1) hc rfl; have q2 := cell_blk (j := 2) hc rfl; have q3 := cell_blk (j := 3) hc rfl; have q4 := cell_blk (j := 4) hc rfl; have q5 := cell_blk (j := 5) hc rfl; have q6 := cell_blk (j := 6) hc rfl; have q7 := cell_blk (j := 7) hc rfl; have q8 := cell_blk (j := 8) hc rfl; clear hc)
    | (go_at_call 17; (with_reducible refine (InvB.num1 HI1.out _ _ ?hb (nums1w hn1) ?hl).mono ?_); (case hb => simp); (case hl => have := HL1.out; omega); rintro e w2 ⟨rfl, hI⟩; have HI2 := Aside0.mk hI; have HL2 : Aside0 ((bs ++ encs [6] ++ encs [IntKind.u64.wrap f1]).length + 8000000 ≤ 140737488355328) := ⟨by have e1 := encs_len (nums1w hn1); have e2 := HL1.out; rw [List.length_append]; simp only [List.length_cons, List.length_nil] at e1; omega⟩; have hc := hI.2.1; clear hI; have q0 := cell_blk (j := 0) hc rfl; have q1 := cell_blk (j := 1) hc rfl; have q2 := cell_blk (j := 2) hc rfl; have q3 := cell_blk (j := 3) hc rfl; have q4 := cell_blk (j := 4) hc rfl; have q5 := cell_blk (j := 5) hc rfl; have q6 := cell_blk (j := 6) hc rfl; have q7 := cell_blk (j := 7) hc rfl; have q8 := cell_blk (j := 8) hc rfl; clear hc)
    | (go_at_call 32; (with_reducible refine (InvB.text1 HI2.out f6 _ ?hb ?hl).mono ?_); (case hb => simp); (case hl => have := HL2.out; have := HTf6.out; omega); rintro e w3 ⟨rfl, hI⟩; have HI3 := Aside0.mk hI;  have hc := hI.2.1; clear hI;  clear hc))
  go_end0
  have hfin := HI3.out
  simp only [wrap_num hn1, wrap_num hn2, wrap_num hn3] at hfin
  exact ⟨rfl, _, _, hfin⟩
set_option maxHeartbeats 1000000 in
set_option maxRecDepth 100000 in
theorem write_7 (f1 f2 f3 : Int) (f4 f5 f6 f7 : ByteArray) (v8 : Value) (w0 : World) (p g : Nat) (v : Value) (bs : List Int) (w : World) (hb : Below w0.heap.size w0 w) (h : AtW w0.heap.size p g v bs w) (hn1 : num32 f1) (hn2 : num32 f2) (hn3 : num32 f3) (hs6 : f6.size ≤ 65536) (hs7 : f7.size ≤ 65536) (hlen : bs.length + 10000000 ≤ 140737488355328) :
    Calls Tryd.prog 18 #[.pointer (some ⟨p, 0, none⟩), opV 7 f1 f2 f3 f4 f5 f6 f7 v8] w fun e w' => e = .returned (.tuple #[]) ∧ ∃ o cs, InvB w0 p g o cs (bs ++ encs [7] ++ encs [f1] ++ encTs [f7]) w' := by
  have H0 := Aside0.mk (box_new hb h (opC 7 f1 f2 f3 f4 f5 f6 f7 v8))
  have HTf7 := Aside0.mk (encTs1_le f7 hs7)
  unfold opV
  unfold opC at H0
  clear hb h
  go_enter Tryd.func18, Tryd.ntmps18
  go_wp2_with (first
    | (go_at_call 17; (with_reducible refine (InvB.num1 H0.out 7 _ ?hb (nums1 (by omega) (by omega)) ?hl).mono ?_); (case hb => simp); (case hl => omega); rintro e w1 ⟨rfl, hI⟩; have HI1 := Aside0.mk hI; have HL1 : Aside0 ((bs ++ encs [7]).length + 9000000 ≤ 140737488355328) := ⟨by have e1 := encs_len (nums1 (n := 7) (by omega) (by omega)); rw [List.length_append]; simp only [List.length_cons, List.length_nil] at e1; omega⟩; have hc := hI.2.1; clear hI; have q0 := cell_blk (j := 0) hc rfl; have q1 := cell_blk (j := 1) hc rfl; have q2 := cell_blk (j := 2) hc rfl; have q3 := cell_blk (j := 3) hc rfl; have q4 := cell_blk (j := 4) hc rfl; have q5 := cell_blk (j := 5) hc rfl; have q6 := cell_blk (j := 6) hc rfl; have q7 := cell_blk (j := 7) hc rfl; have q8 := cell_blk (j := 8) hc rfl; clear hc)
    | (go_at_call 17; (with_reducible refine (InvB.num1 HI1.out _ _ ?hb (nums1w hn1) ?hl).mono ?_); (case hb => simp); (case hl => have := HL1.out; omega); rintro e w2 ⟨rfl, hI⟩; have HI2 := Aside0.mk hI; have HL2 : Aside0 ((bs ++ encs [7] ++ encs [IntKind.u64.wrap f1]).length + 8000000 ≤ 140737488355328) := ⟨by have e1 := encs_len (nums1w hn1); have e2 := HL1.out; rw [List.length_append]; simp only [List.length_cons, List.length_nil] at e1; omega⟩; have hc := hI.2.1; clear hI; have q0 := cell_blk (j := 0) hc rfl; have q1 := cell_blk (j := 1) hc rfl; have q2 := cell_blk (j := 2) hc rfl; have q3 := cell_blk (j := 3) hc rfl; have q4 := cell_blk (j := 4) hc rfl; have q5 := cell_blk (j := 5) hc rfl; have q6 := cell_blk (j := 6) hc rfl; have q7 := cell_blk (j := 7) hc rfl; have q8 := cell_blk (j := 8) hc rfl; clear hc)
    | (go_at_call 32; (with_reducible refine (InvB.text1 HI2.out f7 _ ?hb ?hl).mono ?_); (case hb => simp); (case hl => have := HL2.out; have := HTf7.out; omega); rintro e w3 ⟨rfl, hI⟩; have HI3 := Aside0.mk hI;  have hc := hI.2.1; clear hI;  clear hc))
  go_end0
  have hfin := HI3.out
  simp only [wrap_num hn1, wrap_num hn2, wrap_num hn3] at hfin
  exact ⟨rfl, _, _, hfin⟩

/-- The bytes of attributes. -/
def attrB (l : List S44) : List Int := l.flatMap fun a => encTs [a.f0, a.f1]
theorem attrB_snoc (l : List S44) (k : Nat) (hk : k < l.length) : attrB (l.take (k + 1)) = attrB (l.take k) ++ encTs [(rd_T44 l (k : Int)).f0, (rd_T44 l (k : Int)).f1] := by
  have e : l.take (k + 1) = l.take k ++ [rd_T44 l (k : Int)] := by
    rw [List.take_add_one, List.getElem?_eq_getElem hk]
    unfold rd_T44
    rw [Int.toNat_natCast, List.getD_eq_getElem?_getD, List.getElem?_eq_getElem hk]
    rfl
  rw [e]
  unfold attrB
  rw [List.flatMap_append]
  simp
theorem attrB_le (l : List S44) (h : ∀ i : Nat, i < l.length → (rd_T44 l i).f0.size ≤ 65536 ∧ (rd_T44 l i).f1.size ≤ 65536) : ∀ k : Nat, k ≤ l.length → (attrB (l.take k)).length ≤ 140000 * k := by
  intro k
  induction k with
  | zero => intro _; simp [attrB]
  | succ k ih =>
    intro hk
    have h1 := ih (by omega)
    have h2 := h k (by omega)
    have h3 := encTs2_le _ _ h2.1 h2.2
    rw [attrB_snoc l k (by omega), List.length_append]
    omega
set_option maxHeartbeats 1000000 in
set_option maxRecDepth 100000 in
theorem write_1 (f1 f2 f3 : Int) (f4 f5 f6 f7 : ByteArray) (A : Option Addr) (c : Nat) (l : List S44) (w0 : World) (p g : Nat) (v : Value) (bs : List Int) (w : World) (hb : Below w0.heap.size w0 w) (h : AtW w0.heap.size p g v bs w) (hs4 : f4.size ≤ 65536) (hs5 : f5.size ≤ 65536) (hs7 : f7.size ≤ 65536) (hl : Kd.C k44 w0 A l.length l) (hll : l.length ≤ 64) (ha : ∀ i : Nat, i < l.length → (rd_T44 l i).f0.size ≤ 65536 ∧ (rd_T44 l i).f1.size ≤ 65536) (hlen : bs.length + 10000000 ≤ 140737488355328) :
    Calls Tryd.prog 18 #[.pointer (some ⟨p, 0, none⟩), opV 1 f1 f2 f3 f4 f5 f6 f7 (.slice A l.length c)] w fun e w' => e = .returned (.tuple #[]) ∧ ∃ o cs, InvB w0 p g o cs (bs ++ encs [1] ++ encTs [f4, f5, f7] ++ encs [(l.length : Int)] ++ attrB l) w' := by
  have H0 := Aside0.mk (box_new hb h (opC 1 f1 f2 f3 f4 f5 f6 f7 (.slice A l.length c)))
  have HT := Aside0.mk (encTs3_le f4 f5 f7 hs4 hs5 hs7)
  have HL := Aside0.mk hl
  have HA := Aside0.mk ha
  have HAL := Aside0.mk (attrB_le l ha)
  obtain ⟨b3, hb3⟩ : ∃ b3, b3 = bs ++ encs [1] ++ encTs [f4, f5, f7] ++ encs [(l.length : Int)] := ⟨_, rfl⟩
  rw [← hb3]
  have HB3 := Aside0.mk hb3
  clear hb3
  have HNN : Aside0 (Nums [(l.length : Int)]) := ⟨nums1 (by omega) (by omega)⟩
  unfold opV
  unfold opC at H0
  clear hb h hl ha
  go_enter Tryd.func18, Tryd.ntmps18
  go_wp2_with (first
    | (go_at_call 17; (with_reducible refine (InvB.num1 H0.out 1 _ ?hb (nums1 (by omega) (by omega)) ?hl).mono ?_); (case hb => simp); (case hl => omega); rintro e w1 ⟨rfl, hI⟩; have HI1 := Aside0.mk hI; have HL1 : Aside0 ((bs ++ encs [1]).length + 9900000 ≤ 140737488355328) := ⟨by have e1 := encs_len (nums1 (n := 1) (by omega) (by omega)); rw [List.length_append]; simp only [List.length_cons, List.length_nil] at e1; omega⟩; have hc := hI.2.1; clear hI; have q0 := cell_blk (j := 0) hc rfl; have q1 := cell_blk (j := 1) hc rfl; have q2 := cell_blk (j := 2) hc rfl; have q3 := cell_blk (j := 3) hc rfl; have q4 := cell_blk (j := 4) hc rfl; have q5 := cell_blk (j := 5) hc rfl; have q6 := cell_blk (j := 6) hc rfl; have q7 := cell_blk (j := 7) hc rfl; have q8 := cell_blk (j := 8) hc rfl; clear hc)
    | (go_at_call 32; (with_reducible refine (InvB.text3 HI1.out f4 f5 f7 _ ?hb ?hl).mono ?_); (case hb => simp); (case hl => have e1 := HL1.out; have e2 := HT.out; omega); rintro e w2 ⟨rfl, hI⟩; have HI2 := Aside0.mk hI; have HL2 : Aside0 ((bs ++ encs [1] ++ encTs [f4, f5, f7]).length + 9600000 ≤ 140737488355328) := ⟨by have e1 := HT.out; have e2 := HL1.out; rw [List.length_append]; omega⟩; have hc := hI.2.1; clear hI; have q0 := cell_blk (j := 0) hc rfl; have q1 := cell_blk (j := 1) hc rfl; have q2 := cell_blk (j := 2) hc rfl; have q3 := cell_blk (j := 3) hc rfl; have q4 := cell_blk (j := 4) hc rfl; have q5 := cell_blk (j := 5) hc rfl; have q6 := cell_blk (j := 6) hc rfl; have q7 := cell_blk (j := 7) hc rfl; have q8 := cell_blk (j := 8) hc rfl; clear hc)
    | (go_at_call 17; (with_reducible refine (InvB.num1 HI2.out _ _ ?hb HNN.out ?hl).mono ?_); (case hb => simp); (case hl => have e1 := HL2.out; omega); rintro e w3 ⟨rfl, hI⟩; have HI3 := Aside0.mk hI; have HL3 : Aside0 ((bs ++ encs [1] ++ encTs [f4, f5, f7] ++ encs [(l.length : Int)]).length + 9500000 ≤ 140737488355328) := ⟨by have e1 := encs_len HNN.out; have e2 := HL2.out; rw [List.length_append]; simp only [List.length_cons, List.length_nil] at e1; omega⟩; have hc := hI.2.1; clear hI; have q0 := cell_blk (j := 0) hc rfl; have q1 := cell_blk (j := 1) hc rfl; have q2 := cell_blk (j := 2) hc rfl; have q3 := cell_blk (j := 3) hc rfl; have q4 := cell_blk (j := 4) hc rfl; have q5 := cell_blk (j := 5) hc rfl; have q6 := cell_blk (j := 6) hc rfl; have q7 := cell_blk (j := 7) hc rfl; have q8 := cell_blk (j := 8) hc rfl; clear hc))
  rw [← HB3.out] at HI3 HL3
  go_loopw [39] (fun i wr => ∃ k : Nat, k ≤ l.length ∧ i = .int .i64 k ∧ Aside0 (∃ o cs, InvB w0 p g o cs (b3 ++ attrB (l.take k)) wr)) (fun i _ => l.length - (intOf i).toNat)
  case atStart => exact ⟨0, Nat.zero_le _, rfl, ⟨_, _, by have := HI3.out; rw [List.take_zero]; simpa [attrB] using this⟩⟩
  case round =>
    obtain ⟨k, hk, rfl, HR⟩ := hrel
    by_cases hlt : k < l.length
    · obtain ⟨ad, rfl, e0, e1⟩ := at_T44 HL.out (k : Int) (by omega) (by omega)
      rw [Int.toNat_natCast] at e0 e1
      obtain ⟨o, cs, hI⟩ := HR.out
      have d0 := pw_cell_below hI.1 e0
      have d1 := pw_cell_below hI.1 e1
      clear e0 e1 HR
      have hsn := attrB_snoc l k hlt
      have hax := HA.out k hlt
      have HLK : Aside0 ((b3 ++ attrB (l.take k)).length + 140000 ≤ 140737488355328) := ⟨by have e1 := HL3.out; have e2 := HAL.out k (by omega); rw [List.length_append]; omega⟩
      obtain ⟨X, hX⟩ : ∃ X, X = rd_T44 l (k : Int) := ⟨_, rfl⟩
      rw [← hX] at d0 d1 hsn hax
      have HS := Aside0.mk hsn
      have HX2 := Aside0.mk (encTs2_le _ _ hax.1 hax.2)
      have HI := Aside0.mk hI
      clear hX hsn hax hI
      go_wp2_with (go_at_call 32; (with_reducible refine (InvB.text2 (InvB.alloc HI.out _) X.f0 X.f1 _ ?hb ?hl).mono ?_); (case hb => simp); (case hl => have e1 := HLK.out; have e2 := HX2.out; omega); rintro e w4 ⟨rfl, hI⟩; have HI4 := Aside0.mk hI; clear hI)
      go_roundw
      case rel => exact ⟨k + 1, by omega, by go_num, ⟨o, cs, by rw [HS.out, ← List.append_assoc]; exact HI4.out⟩⟩
      case measure => simp [intOf]; omega
    · obtain rfl : k = l.length := by omega
      go_wp2_with fail
      go_end0
      obtain ⟨o, cs, hI⟩ := HR.out
      rw [List.take_length] at hI
      exact ⟨rfl, o, cs, hI⟩
end Go.Proofs.YtfpijjjmgggfkaaDoorE

namespace Go.Proofs.YtfpijjjmgggfkaaDoorE
open Go Go.RowKit Go.Proofs.YtfpijjjmgggfkaaDoorW.PrintWords Go.Proofs.YtfpijjjmgggfkaaDoorW.PrintMore Go.Proofs.YtfpijjjmgggfkaaDoorX Go.Proofs.YtfpijjjmgggfkaaDoor.P26 Go.Proofs.YtfpijjjmgggfkaaDoor.L01
set_option linter.unusedVariables false
set_option linter.unusedSimpArgs false
/-- An operation's bytes. -/
def oneB (x : S42) : List Int :=
  encs [x.f0] ++ (if x.f0 = 1 then encTs [x.f4, x.f5, x.f7] ++ encs [(x.f8.length : Int)] ++ attrB x.f8
  else if x.f0 = 2 then encs [x.f1, x.f2, x.f3]
  else if x.f0 = 3 then encs [x.f1, x.f3]
  else if x.f0 = 4 then encs [x.f1]
  else if x.f0 = 5 then encs [x.f1] ++ encTs [x.f6, x.f7]
  else if x.f0 = 6 then encs [x.f1] ++ encTs [x.f6]
  else encs [x.f1] ++ encTs [x.f7])
/-- What an operation that may be has. -/
def okW (x : S42) : Prop := (1 ≤ x.f0 ∧ x.f0 ≤ 7) ∧ num32 x.f1 ∧ num32 x.f2 ∧ num32 x.f3 ∧ x.f4.size ≤ 65536 ∧ x.f5.size ≤ 65536 ∧ x.f6.size ≤ 65536 ∧ x.f7.size ≤ 65536 ∧ x.f8.length ≤ 64 ∧ ∀ i : Nat, i < x.f8.length → (rd_T44 x.f8 i).f0.size ≤ 65536 ∧ (rd_T44 x.f8 i).f1.size ≤ 65536
theorem write_c (x : S42) (A : Option Addr) (c : Nat) (w0 : World) (p g : Nat) (v : Value) (bs : List Int) (w : World) (hb : Below w0.heap.size w0 w) (h : AtW w0.heap.size p g v bs w) (hx : okW x) (hl : Kd.C k44 w0 A x.f8.length x.f8) (hlen : bs.length + 10000000 ≤ 140737488355328) :
    Calls Tryd.prog 18 #[.pointer (some ⟨p, 0, none⟩), opOf x A c] w fun e w' => e = .returned (.tuple #[]) ∧ ∃ o cs, InvB w0 p g o cs (bs ++ oneB x) w' := by
  obtain ⟨f0, f1, f2, f3, f4, f5, f6, f7, f8⟩ := x
  obtain ⟨hk, h1, h2, h3, h4, h5, h6, h7, h8, h9⟩ := hx
  simp only at hk h1 h2 h3 h4 h5 h6 h7 h8 h9 hl
  have hc : f0 = 1 ∨ f0 = 2 ∨ f0 = 3 ∨ f0 = 4 ∨ f0 = 5 ∨ f0 = 6 ∨ f0 = 7 := by omega
  rcases hc with rfl | rfl | rfl | rfl | rfl | rfl | rfl
  · refine (write_1 f1 f2 f3 f4 f5 f6 f7 A c f8 w0 p g v bs w hb h h4 h5 h7 hl h8 h9 hlen).mono ?_
    rintro e w' ⟨rfl, o, cs, hI⟩
    exact ⟨rfl, o, cs, by simp only [oneB, if_pos, ← List.append_assoc]; exact hI⟩
  · refine (write_2 f1 f2 f3 f4 f5 f6 f7 _ w0 p g v bs w hb h h1 h2 h3 h6 h7 hlen).mono ?_
    rintro e w' ⟨rfl, o, cs, hI⟩
    exact ⟨rfl, o, cs, by simp only [oneB]; simpa [List.append_assoc] using hI⟩
  · refine (write_3 f1 f2 f3 f4 f5 f6 f7 _ w0 p g v bs w hb h h1 h2 h3 h6 h7 hlen).mono ?_
    rintro e w' ⟨rfl, o, cs, hI⟩
    exact ⟨rfl, o, cs, by simp only [oneB]; simpa [List.append_assoc] using hI⟩
  · refine (write_4 f1 f2 f3 f4 f5 f6 f7 _ w0 p g v bs w hb h h1 h2 h3 h6 h7 hlen).mono ?_
    rintro e w' ⟨rfl, o, cs, hI⟩
    exact ⟨rfl, o, cs, by simp only [oneB]; simpa [List.append_assoc] using hI⟩
  · refine (write_5 f1 f2 f3 f4 f5 f6 f7 _ w0 p g v bs w hb h h1 h2 h3 h6 h7 hlen).mono ?_
    rintro e w' ⟨rfl, o, cs, hI⟩
    exact ⟨rfl, o, cs, by simp only [oneB]; simpa [List.append_assoc] using hI⟩
  · refine (write_6 f1 f2 f3 f4 f5 f6 f7 _ w0 p g v bs w hb h h1 h2 h3 h6 h7 hlen).mono ?_
    rintro e w' ⟨rfl, o, cs, hI⟩
    exact ⟨rfl, o, cs, by simp only [oneB]; simpa [List.append_assoc] using hI⟩
  · refine (write_7 f1 f2 f3 f4 f5 f6 f7 _ w0 p g v bs w hb h h1 h2 h3 h6 h7 hlen).mono ?_
    rintro e w' ⟨rfl, o, cs, hI⟩
    exact ⟨rfl, o, cs, by simp only [oneB]; simpa [List.append_assoc] using hI⟩
theorem oneB_le (x : S42) (hx : okW x) : (oneB x).length ≤ 9500000 := by
  obtain ⟨f0, f1, f2, f3, f4, f5, f6, f7, f8⟩ := x
  obtain ⟨hk, h1, h2, h3, h4, h5, h6, h7, h8, h9⟩ := hx
  simp only at hk h1 h2 h3 h4 h5 h6 h7 h8 h9
  have n1 : Nums [f1] := nums1 h1.1 (num32s h1).2
  have e0 := encs_len (nums1 (n := f0) (by omega) (by omega))
  have e1 := encs_len n1
  have e2 := encs_len (show Nums [f1, f3] by have := nums2w h1 h3; rwa [wrap_num h1, wrap_num h3] at this)
  have e3 := encs_len (show Nums [f1, f2, f3] by have := nums3w h1 h2 h3; rwa [wrap_num h1, wrap_num h2, wrap_num h3] at this)
  have e4 := encs_len (nums1 (n := (f8.length : Int)) (by omega) (by omega))
  have t1 := encTs3_le f4 f5 f7 h4 h5 h7
  have t2 := encTs2_le f6 f7 h6 h7
  have t3 := encTs1_le f6 h6
  have t4 := encTs1_le f7 h7
  have a1 := attrB_le f8 h9 f8.length (Nat.le_refl _)
  rw [List.take_length] at a1
  simp only [List.length_cons, List.length_nil] at e0 e1 e2 e3 e4
  unfold oneB
  simp only
  rw [List.length_append]
  repeat' split
  all_goals (try rw [List.length_append])
  all_goals (try rw [List.length_append])
  all_goals omega
/-- A script's bytes. -/
def opsB (l : List S42) : List Int := l.flatMap oneB
def encB (l : List S42) : List Int := encs [(l.length : Int)] ++ opsB l
theorem rd_take (l : List S42) (k : Nat) (hk : k < l.length) : l.take (k + 1) = l.take k ++ [rd_T42 l (k : Int)] := by
  rw [List.take_add_one, List.getElem?_eq_getElem hk]
  unfold rd_T42
  rw [Int.toNat_natCast, List.getD_eq_getElem?_getD, List.getElem?_eq_getElem hk]
  rfl
theorem opsB_snoc (l : List S42) (k : Nat) (hk : k < l.length) : opsB (l.take (k + 1)) = opsB (l.take k) ++ oneB (rd_T42 l (k : Int)) := by
  rw [rd_take l k hk]
  unfold opsB
  rw [List.flatMap_append]
  simp
theorem opsB_le (l : List S42) (h : ∀ i : Nat, i < l.length → okW (rd_T42 l i)) : ∀ k : Nat, k ≤ l.length → (opsB (l.take k)).length ≤ 9500000 * k := by
  intro k
  induction k with
  | zero => intro _; simp [opsB]
  | succ k ih =>
    intro hk
    have h1 := ih (by omega)
    have h2 := oneB_le _ (h k (by omega))
    rw [opsB_snoc l k (by omega), List.length_append]
    omega
/-- A writer that has gathered bs; all since w0. -/
def InvA (w0 : World) (p g : Nat) (bs : List Int) (w : World) : Prop := Below w0.heap.size w0 w ∧ ∃ v, AtW w0.heap.size p g v bs w
theorem InvB.a {w0 : World} {p g o : Nat} {cs : Obj} {bs : List Int} {w : World} (h : InvB w0 p g o cs bs w) : InvA w0 p g bs w := by
  obtain ⟨hb, -, v, hv, -⟩ := h
  exact ⟨hb, v, hv⟩
theorem InvA.alloc {w0 : World} {p g : Nat} {bs : List Int} {w : World} (h : InvA w0 p g bs w) (x : Obj) : InvA w0 p g bs (w.alloc x) := by
  obtain ⟨hb, v, hv⟩ := h
  exact ⟨below_alloc hb x, v, hv.below (below_alloc (Below.refl _ _) x)⟩
theorem InvA.num1 {w0 : World} {p g : Nat} {bs : List Int} {w : World} (h : InvA w0 p g bs w) (n0 : Int) (b : Nat) (hb : b = w.heap.size) (hN : Nums [n0]) (hlen : bs.length + 10 ≤ 140737488355328) :
    Calls Tryd.prog 17 #[.pointer (some ⟨p, 0, none⟩), .slice (some ⟨b, 0, none⟩) 1 1] (w.alloc (.cells #[.int .u64 n0] 50)) fun e w' => e = .returned (.tuple #[]) ∧ InvA w0 p g (bs ++ encs [n0]) w' := by
  subst hb
  obtain ⟨hb, v, hv⟩ := h
  refine (w_numL _ p g v bs [n0] 1 rfl w hb.size hv hN (by show 1 ≤ _; omega) (by have := encs_len hN; simp only [List.length_cons, List.length_nil] at this; omega)).mono ?_
  rintro e w' ⟨rfl, v', hW, hB, hh⟩
  exact ⟨rfl, AtW_below hv hb hB, v', hW⟩
theorem InvA.write {w0 : World} {p g : Nat} {bs : List Int} {w : World} (h : InvA w0 p g bs w) (x : S42) (A : Option Addr) (c : Nat) (hx : okW x) (hl : Kd.C k44 w0 A x.f8.length x.f8) (hlen : bs.length + 10000000 ≤ 140737488355328) :
    Calls Tryd.prog 18 #[.pointer (some ⟨p, 0, none⟩), .agg #[.int .i64 x.f0, .int .i64 x.f1, .int .i64 x.f2, .int .i64 x.f3, .string x.f4, .string x.f5, .string x.f6, .string x.f7, .slice A x.f8.length c]] w fun e w' => e = .returned (.tuple #[]) ∧ InvA w0 p g (bs ++ oneB x) w' := by
  obtain ⟨hb, v, hv⟩ := h
  refine (write_c x A c w0 p g v bs w hb hv hx hl hlen).mono ?_
  rintro e w' ⟨rfl, o, cs, hI⟩
  exact ⟨rfl, hI.a⟩
theorem InvA.bytes {w0 : World} {p g : Nat} {bs : List Int} {w : World} (h : InvA w0 p g bs w) (hlen : bs.length ≤ 140737488355328) :
    Calls Tryd.prog 19 #[.pointer (some ⟨p, 0, none⟩)] w fun e w' => (∃ v' B, e = .returned v' ∧ w0.heap.size ≤ B ∧ own8 B v' bs w') ∧ Below w0.heap.size w0 w' := by
  obtain ⟨hb, v, hv⟩ := h
  refine (w_bytes _ p g v bs w hv hlen).mono ?_
  rintro e w' ⟨⟨v', rfl, ho⟩, hB⟩
  exact ⟨⟨v', _, rfl, hb.size, ho⟩, below_then hb hb.size hB⟩
theorem new_a (w : World) : Calls Tryd.prog 16 #[] w fun e w' => ∃ p g, e = .returned (.pointer (some ⟨p, 0, none⟩)) ∧ InvA w p g [] w' := by
  refine (new_c w).mono ?_
  rintro e w' ⟨⟨p, g, rfl, h⟩, hb⟩
  exact ⟨p, g, rfl, hb, _, h⟩
set_option maxHeartbeats 1000000 in
set_option maxRecDepth 100000 in
theorem Encode_ok (A : Option Addr) (c : Nat) (l : List S42) (w : World) (hgl : GL w) (hl : Kd.C k42 w A l.length l) (hc : l.length ≤ c) (hx : ∀ i : Nat, i < l.length → okX (rd_T42 l i)) (he : (firstS l).2 = 0) (hw : ∀ i : Nat, i < l.length → okW (rd_T42 l i)) (hn : l.length ≤ 1048576) :
    Calls Tryd.prog 9 #[.slice A l.length c] w fun e w' => (∃ v B, e = .returned (.tuple #[v, .int .i64 0, .int .i64 0]) ∧ w.heap.size ≤ B ∧ own8 B v (encB l) w') ∧ Below w.heap.size w w' := by
  have HF := Aside0.mk (First_o A c l w hgl hl hc hx)
  rw [he] at HF
  have HL := Aside0.mk hl
  have HW := Aside0.mk hw
  have HOL := Aside0.mk (opsB_le l hw)
  have HNN : Aside0 (Nums [(l.length : Int)]) := ⟨nums1 (by omega) (by omega)⟩
  obtain ⟨b0, hb0⟩ : ∃ b0, b0 = encs [(l.length : Int)] := ⟨_, rfl⟩
  have HB0 := Aside0.mk hb0
  have HL0 : Aside0 (b0.length ≤ 10) := ⟨by have e1 := encs_len HNN.out; rw [hb0]; simpa using e1⟩
  obtain ⟨R, hR⟩ : ∃ R, R = encB l := ⟨_, rfl⟩
  have HR0 := Aside0.mk hR
  rw [← hR]
  clear hl hx hw hb0 hR
  go_enter Tryd.func9, Tryd.ntmps9
  go_wp2_with (first
    | (go_at_call 15; (refine (HF.out).mono ?_); rintro e w1 ⟨rfl, hb⟩; have HBW := Aside0.mk hb; have HL1 := Aside0.mk (Kd.C_below HL.out hb); clear hb)
    | (go_at_call 16; (refine (new_a _).mono ?_); rintro e w2 ⟨p, g, rfl, hI⟩; have HI2 := Aside0.mk hI; clear hI)
    | (go_at_call 17; (with_reducible refine (InvA.num1 HI2.out _ _ ?hb HNN.out ?hl).mono ?_); (case hb => simp); (case hl => simp); rintro e w3 ⟨rfl, hI⟩; have HI3 := Aside0.mk hI; clear hI))
  rw [List.nil_append, ← HB0.out] at HI3
  go_loopw [28] (fun i wr => ∃ k : Nat, k ≤ l.length ∧ i = .int .i64 k ∧ Aside0 (InvA w1 p g (b0 ++ opsB (l.take k)) wr)) (fun i _ => l.length - (intOf i).toNat)
  case atStart => exact ⟨0, Nat.zero_le _, rfl, ⟨by have := HI3.out; rw [List.take_zero]; simpa [opsB] using this⟩⟩
  case round =>
    obtain ⟨k, hk, rfl, HR⟩ := hrel
    by_cases hlt : k < l.length
    · obtain ⟨ad, A8, c8, rfl, e0, e1, e2, e3, e4, e5, e6, e7, e8, hl8, hi8⟩ := at_T42 HL1.out (k : Int) (by omega) (by omega)
      rw [Int.toNat_natCast] at e0 e1 e2 e3 e4 e5 e6 e7 e8
      have hwk := HW.out k hlt
      have hsn := opsB_snoc l k hlt
      obtain ⟨X, hX⟩ : ∃ X, X = rd_T42 l (k : Int) := ⟨_, rfl⟩
      rw [← hX] at e0 e1 e2 e3 e4 e5 e6 e7 e8 hl8 hi8 hwk hsn
      clear hX
      have d0 := pw_cell_below HR.out.1 e0
      have d1 := pw_cell_below HR.out.1 e1
      have d2 := pw_cell_below HR.out.1 e2
      have d3 := pw_cell_below HR.out.1 e3
      have d4 := pw_cell_below HR.out.1 e4
      have d5 := pw_cell_below HR.out.1 e5
      have d6 := pw_cell_below HR.out.1 e6
      have d7 := pw_cell_below HR.out.1 e7
      have d8 := pw_cell_below HR.out.1 e8
      clear e0 e1 e2 e3 e4 e5 e6 e7 e8
      have HS := Aside0.mk hsn
      have HX := Aside0.mk hwk
      have H8 := Aside0.mk hi8
      have HLK : Aside0 ((b0 ++ opsB (l.take k)).length + 10000000 ≤ 140737488355328) := ⟨by have e1 := HL0.out; have e2 := HOL.out k (by omega); rw [List.length_append]; omega⟩
      clear hsn hwk hi8
      go_wp2_with (go_at_call 18; (refine (InvA.write (InvA.alloc HR.out _) X A8 c8 HX.out H8.out HLK.out).mono ?_); rintro e w4 ⟨rfl, hI⟩; have HI4 := Aside0.mk hI; clear hI)
      go_roundw
      case rel => exact ⟨k + 1, by omega, by go_num, ⟨by rw [HS.out, ← List.append_assoc]; exact HI4.out⟩⟩
      case measure => simp [intOf]; omega
    · obtain rfl : k = l.length := by omega
      have HLK : Aside0 ((b0 ++ opsB (l.take l.length)).length ≤ 140737488355328) := ⟨by have e1 := HL0.out; have e2 := HOL.out l.length (by omega); rw [List.length_append]; omega⟩
      go_wp2_with (go_at_call 19; (refine (InvA.bytes HR.out HLK.out).mono ?_); rintro e w5 ⟨⟨v', B, rfl, hB, ho⟩, hb⟩)
      go_ret3
      refine ⟨⟨v', B, rfl, Nat.le_trans HBW.out.size hB, ?_⟩, below_then HBW.out HBW.out.size hb⟩
      rw [List.take_length, HB0.out] at ho
      rw [HR0.out]
      exact ho
end Go.Proofs.YtfpijjjmgggfkaaDoorE

namespace Go.Proofs.YtfpijjjmgggfkaaDoorE
open Go Go.RowKit Go.Proofs.YtfpijjjmgggfkaaDoorW.PrintWords Go.Proofs.YtfpijjjmgggfkaaDoorX Go.Proofs.YtfpijjjmgggfkaaDoor.P26 Go.Proofs.YtfpijjjmgggfkaaDoor.M02
set_option linter.unusedVariables false
set_option linter.unusedSimpArgs false
theorem named_le (more : Bool) (s : ByteArray) (h : namedS more (B s) = true) : s.size ≤ 32 := by
  rw [← B_len]
  cases e : B s with
  | nil => simp
  | cons c t =>
    rw [e, namedS_cons] at h
    simp only [Bool.and_eq_true, decide_eq_true_eq] at h
    simp only [List.length_cons]
    omega
theorem attrsN_ok (l : List S44) (nm : Nat → Bool) : ∀ d i : Nat, i + d = l.length → i ≤ 64 → (attrsN l nm d i).2 = 0 → l.length ≤ 64 ∧ ∀ j : Nat, i ≤ j → j < l.length → nm j = true ∧ (rd_T44 l j).f1.size ≤ 65536 := by
  intro d
  induction d with
  | zero => intro i hi h64 _; exact ⟨by omega, fun j h1 h2 => by omega⟩
  | succ d ih =>
    intro i hi h64 h
    unfold attrsN at h
    by_cases h1 : i = 64
    · rw [if_pos h1] at h; simp at h
    · rw [if_neg h1] at h
      by_cases h2 : nm i = true
      · rw [if_pos h2] at h
        by_cases h3 : (rd_T44 l i).f1.size > 65536
        · rw [if_pos h3] at h; simp at h
        · rw [if_neg h3] at h
          split at h
          · simp at h
          · split at h
            · simp at h
            · obtain ⟨g1, g2⟩ := ih (i + 1) (by omega) (by omega) h
              refine ⟨g1, fun j hj hl => ?_⟩
              by_cases hji : j = i
              · subst hji; exact ⟨h2, by omega⟩
              · exact g2 j (by omega) hl
      · rw [if_neg h2] at h; simp at h
theorem over_num {a : Int} (h : overO a ≠ true) : num32 a := by
  unfold overO at h
  simp at h
  exact ⟨by omega, by omega⟩
theorem chk_okW (x : S42) (h : chk x = 0) : okW x := by
  unfold chk checkO at h
  by_cases h1 : x.f0 < 1 ∨ x.f0 > 7
  · rw [if_pos h1] at h; simp at h
  rw [if_neg h1] at h
  by_cases h2 : overO x.f1 = true ∨ overO x.f2 = true ∨ overO x.f3 = true
  · rw [if_pos h2] at h; simp at h
  rw [if_neg h2] at h
  by_cases h3 : noneO x = true
  · rw [if_pos h3] at h; simp at h
  rw [if_neg h3] at h
  by_cases h4 : x.f0 = 1 ∧ tgO x = false
  · rw [if_pos h4] at h; simp at h
  rw [if_neg h4] at h
  by_cases h5 : (x.f0 = 5 ∨ x.f0 = 6) ∧ nmO x = false
  · rw [if_pos h5] at h; simp at h
  rw [if_neg h5] at h
  by_cases h6 : x.f5.size > 65536 ∨ x.f7.size > 65536
  · rw [if_pos h6] at h; simp at h
  rw [if_neg h6] at h
  obtain ⟨a1, a2⟩ := attrsN_ok x.f8 (naO x) x.f8.length 0 (by omega) (by omega) h
  have h3' : noneO x = false := by simpa using h3
  unfold noneO at h3'
  refine ⟨by omega, over_num (fun e => h2 (Or.inl e)), over_num (fun e => h2 (Or.inr (Or.inl e))), over_num (fun e => h2 (Or.inr (Or.inr e))), ?_, by omega, ?_, by omega, a1, fun i hi => ⟨?_, (a2 i (by omega) hi).2⟩⟩
  · by_cases e : x.f0 = 1
    · have : tgO x = true := by
        cases ht : tgO x with
        | true => rfl
        | false => exact absurd ⟨e, ht⟩ h4
      have := named_le false x.f4 this
      omega
    · have h40 : x.f4.size = 0 := Decidable.byContradiction fun g => by simp only [Bool.or_eq_false_iff, Bool.and_eq_false_iff, decide_eq_false_iff_not] at h3'; omega
      omega
  · by_cases e : x.f0 = 5 ∨ x.f0 = 6
    · have : nmO x = true := by
        cases ht : nmO x with
        | true => rfl
        | false => exact absurd ⟨e, ht⟩ h5
      have := named_le true x.f6 this
      omega
    · have e5 : x.f0 ≠ 5 := fun g => e (Or.inl g)
      have e6 : x.f0 ≠ 6 := fun g => e (Or.inr g)
      have h60 : x.f6.size = 0 := Decidable.byContradiction fun g => by simp only [Bool.or_eq_false_iff, Bool.and_eq_false_iff, decide_eq_false_iff_not] at h3'; omega
      omega
  · have := named_le true _ (a2 i (by omega) hi).1
    omega
theorem firstN_ok (ch : Nat → Int) : ∀ d i : Nat, i ≤ 1048576 → (firstN ch d i).2 = 0 → i + d ≤ 1048576 ∧ ∀ j : Nat, i ≤ j → j < i + d → ch j = 0 := by
  intro d
  induction d with
  | zero => intro i hi _; exact ⟨by omega, fun j h1 h2 => by omega⟩
  | succ d ih =>
    intro i hi h
    unfold firstN at h
    by_cases h1 : i = 1048576
    · rw [if_pos h1] at h; simp at h
    · rw [if_neg h1] at h
      by_cases h2 : ch i = 0
      · rw [if_pos h2] at h
        obtain ⟨g1, g2⟩ := ih (i + 1) (by omega) h
        refine ⟨by omega, fun j hj hl => ?_⟩
        by_cases hji : j = i
        · subst hji; exact h2
        · exact g2 j (by omega) (by omega)
      · rw [if_neg h2] at h; exact absurd h h2
theorem firstN_no (ch : Nat → Int) : ∀ d i : Nat, i + d ≤ 1048576 → (∀ j : Nat, i ≤ j → j < i + d → ch j = 0) → firstN ch d i = (0, 0) := by
  intro d
  induction d with
  | zero => intro i _ _; rfl
  | succ d ih =>
    intro i hi h
    unfold firstN
    rw [if_neg (by omega), if_pos (h i (Nat.le_refl _) (by omega))]
    exact ih (i + 1) (by omega) (fun j h1 h2 => h j (by omega) (by omega))
theorem firstS_ok (l : List S42) (h : (firstS l).2 = 0) : l.length ≤ 1048576 ∧ ∀ i : Nat, i < l.length → chk (rd_T42 l i) = 0 := by
  obtain ⟨h1, h2⟩ := firstN_ok _ l.length 0 (by omega) h
  exact ⟨by omega, fun i hi => h2 i (by omega) (by omega)⟩
/-- codec.Encode, of a script that may be. -/
theorem Encode_c (A : Option Addr) (c : Nat) (l : List S42) (w : World) (hgl : GL w) (hl : Kd.C k42 w A l.length l) (hc : l.length ≤ c) (hx : ∀ i : Nat, i < l.length → okX (rd_T42 l i)) (he : (firstS l).2 = 0) :
    Calls Tryd.prog 9 #[.slice A l.length c] w fun e w' => (∃ v B, e = .returned (.tuple #[v, .int .i64 0, .int .i64 0]) ∧ w.heap.size ≤ B ∧ own8 B v (encB l) w') ∧ Below w.heap.size w w' := by
  obtain ⟨h1, h2⟩ := firstS_ok l he
  exact Encode_ok A c l w hgl hl hc hx he (fun i hi => chk_okW _ (h2 i hi)) h1
end Go.Proofs.YtfpijjjmgggfkaaDoorE

namespace Go.Proofs.YtfpijjjmgggfkaaDoorE
open Go Go.RowKit Go.Proofs.YtfpijjjmgggfkaaDoorW.PrintWords Go.Proofs.YtfpijjjmgggfkaaDoorW.PrintMore Go.Proofs.YtfpijjjmgggfkaaDoorX Go.Proofs.YtfpijjjmgggfkaaDoor.P26 Go.Proofs.YtfpijjjmgggfkaaDoor.L01
set_option linter.unusedVariables false
set_option linter.unusedSimpArgs false
theorem AtR.len {T p : Nat} {ok : Nat → Prop} {bs : List Int} {er : Int} {w : World} (h : AtR T p ok bs er w) : bs.length ≤ 9223372036854775807 := by
  obtain ⟨-, -, A, c, -, -, hf⟩ := h
  exact (Kd.F_now hf).2.1
theorem AtR.lt {T p : Nat} {ok : Nat → Prop} {bs : List Int} {er : Int} {w : World} (h : AtR T p ok bs er w) : p < w.heap.size := by
  obtain ⟨-, -, A, c, hp, -⟩ := h
  exact blk_lt' hp
/-- Three blocks of the call's own, beside a reader at p. -/
structure Lie (W : World) (p : Nat) (ok : Nat → Prop) (b1 b2 b3 : Nat) : Prop where
  p1 : p < W.heap.size
  h1 : W.heap.size ≤ b1
  h2 : W.heap.size ≤ b2
  h3 : W.heap.size ≤ b3
  n13 : b1 ≠ b3
  n23 : b2 ≠ b3
  okp : ∀ k, ok k → k < p
/-- A reader at the state s since W, and three blocks beside it. -/
structure InvO (T : Nat) (W : World) (p : Nat) (ok : Nat → Prop) (b1 : Nat) (o1 : Obj) (b2 : Nat) (o2 : Obj) (b3 : Nat) (o3 : Obj) (s : St) (w : World) : Prop where
  but : But (· = p) W w
  at_ : AtR T p ok s.1 s.2 w
  k1 : w.heap[b1]? = some o1
  k2 : w.heap[b2]? = some o2
  k3 : w.heap[b3]? = some o3
section
variable {T : Nat} {W : World} {p : Nat} {ok : Nat → Prop} {b1 : Nat} {o1 : Obj} {b2 : Nat} {o2 : Obj} {b3 : Nat} {o3 : Obj} {s : St} {w : World}
theorem InvO.go {s' : St} {w' : World} (h : InvO T W p ok b1 o1 b2 o2 b3 o3 s w) (L : Lie W p ok b1 b2 b3) (hr : AtR T p ok s'.1 s'.2 w') (hb : But (· = p) w w') : InvO T W p ok b1 o1 b2 o2 b3 o3 s' w' := by
  have := L.p1
  have := L.h1
  have := L.h2
  have := L.h3
  exact ⟨h.but.then_ hb, hr, (hb.block b1 (blk_lt' h.k1) (by omega)).trans h.k1, (hb.block b2 (blk_lt' h.k2) (by omega)).trans h.k2, (hb.block b3 (blk_lt' h.k3) (by omega)).trans h.k3⟩
theorem InvO.below {w' : World} (h : InvO T W p ok b1 o1 b2 o2 b3 o3 s w) (L : Lie W p ok b1 b2 b3) (hb : Below w.heap.size w w') : InvO T W p ok b1 o1 b2 o2 b3 o3 s w' :=
  h.go L (h.at_.but ((But.refl (fun _ => False) w).below hb) (fun _ h => h.elim)) ((But.refl _ w).below hb)
theorem InvO.al (h : InvO T W p ok b1 o1 b2 o2 b3 o3 s w) (L : Lie W p ok b1 b2 b3) (o : Obj) : InvO T W p ok b1 o1 b2 o2 b3 o3 s (w.alloc o) := h.below L (below_alloc (Below.refl _ _) o)
theorem InvO.set {cs : Array Value} {t : TypeId} (h : InvO T W p ok b1 o1 b2 o2 b3 (.cells cs t (0, 0)) s w) (L : Lie W p ok b1 b2 b3) (j : Nat) (v : Value) : InvO T W p ok b1 o1 b2 o2 b3 (.cells (cs.setIfInBounds j v) t (0, 0)) s (w.setCell ⟨b3, j, none⟩ v) := by
  have hp := L.p1
  have h3 := L.h3
  have hB : But (· = b3) w (w.setCell ⟨b3, j, none⟩ v) := But.put (S := (· = b3)) (But.refl _ w) (j := j) rfl v
  refine ⟨h.but.setCell (.inr L.h3) v, h.at_.but hB (fun k hk => by rw [hk]; exact ⟨by omega, fun e => by have := L.okp _ e; omega⟩), (hB.block b1 (blk_lt' h.k1) L.n13).trans h.k1, (hB.block b2 (blk_lt' h.k2) L.n23).trans h.k2, set_blk h.k3 v⟩
end
/-- A reader since W. -/
structure AtB (T : Nat) (W : World) (p : Nat) (ok : Nat → Prop) (s : St) (w : World) : Prop where
  but : But (· = p) W w
  at_ : AtR T p ok s.1 s.2 w
theorem AtB.set {T : Nat} {W : World} {p : Nat} {ok : Nat → Prop} {s : St} {w : World} (h : AtB T W p ok s w) {b : Nat} (hp : p < W.heap.size) (hb : W.heap.size ≤ b) (hok : ∀ k, ok k → k < p) (j : Nat) (v : Value) : AtB T W p ok s (w.setCell ⟨b, j, none⟩ v) := by
  have hB : But (· = b) w (w.setCell ⟨b, j, none⟩ v) := But.put (S := (· = b)) (But.refl _ w) (j := j) rfl v
  exact ⟨h.but.setCell (.inr hb) v, h.at_.but hB (fun k hk => by rw [hk]; exact ⟨by omega, fun e => by have := hok _ e; omega⟩)⟩
theorem lie_start (W : World) (p : Nat) (ok : Nat → Prop) (o1 o2 : Obj) (w1 : World) (hp : p < W.heap.size) (hok : ∀ k, ok k → k < p) (h3 : But (· = p) ((W.alloc o1).alloc o2) w1) : Lie W p ok W.heap.size (W.heap.size + 1) w1.heap.size := by
  have := h3.size
  simp at this
  exact ⟨hp, Nat.le_refl _, by omega, by omega, by omega, by omega, hok⟩
theorem inv_start (T : Nat) (W : World) (p : Nat) (ok : Nat → Prop) (o1 o2 o3 : Obj) (s : St) (w1 : World) (hp : p < W.heap.size) (h2 : AtR T p ok s.1 s.2 w1) (h3 : But (· = p) ((W.alloc o1).alloc o2) w1) : InvO T W p ok W.heap.size o1 (W.heap.size + 1) o2 w1.heap.size o3 s (w1.alloc o3) := by
  have hs := h3.size
  simp at hs
  have hb : Below w1.heap.size w1 (w1.alloc o3) := below_alloc (Below.refl _ _) o3
  refine ⟨(((But.refl _ W).alloc o1).alloc o2).then_ (h3.below hb), h2.but ((But.refl (fun _ => False) w1).below hb) (fun _ h => h.elim), ?_, ?_, one_new_ w1 o3⟩
  · exact (hb.block _ (by omega)).trans ((h3.block _ (by simp; omega) (by omega)).trans (two_old_ W o1 o2))
  · exact (hb.block _ (by omega)).trans ((h3.block _ (by simp) (by omega)).trans (two_new_ W o1 o2))
theorem hS_err (s : St) : (hS s).1.2 = (hS s).2.2 := nS_err s _
theorem hS_stick (s : St) (h : s.2 ≠ 0) : hS s = ((0, s.2), s) := nS_stick s _ h
theorem handle_d (p : Nat) (ok : Nat → Prop) (s : St) (w : World) (h : AtR 107 p ok s.1 s.2 w) :
    Calls Tryd.prog 61 #[.agg #[.pointer (some ⟨p, 0, none⟩)]] w fun e w' => (((hS s).2.2 = 0 ∧ e = .returned (.int .i64 (hS s).1.1) ∧ AtR 107 p ok (hS s).2.1 (hS s).2.2 w') ∨ ((hS s).2.2 ≠ 0 ∧ e = stopE (hS s).2.2)) ∧ But (· = p) w w' := by
  have hv := nS_val s 4294967295 h.2.1 (by omega)
  have he := hS_err s
  by_cases h0 : (hS s).2.2 = 0
  · exact (handle_ok p ok s.1 s.2 w h (he.trans h0) hv.1 hv.2).mono fun e w' ⟨h1, h2⟩ => ⟨.inl ⟨h0, h1, h2.1⟩, h2.2⟩
  · refine (handle_bad p ok s.1 s.2 w h (fun e => h0 (he.symm.trans e))).mono fun e w' ⟨h1, h2⟩ => ⟨.inr ⟨h0, h1.trans ?_⟩, h2⟩
    exact congrArg stopE he
theorem num_d (m : Int) (hm : 0 ≤ m ∧ m ≤ 4294967295) (p : Nat) (ok : Nat → Prop) (s : St) (w : World) (h : AtR 107 p ok s.1 s.2 w) :
    Calls Tryd.prog 40 #[.agg #[.pointer (some ⟨p, 0, none⟩)], .int .u64 m] w fun e w' => (((nS s m).2.2 = 0 ∧ e = .returned (.int .i64 (nS s m).1.1) ∧ AtR 107 p ok (nS s m).2.1 (nS s m).2.2 w') ∨ ((nS s m).2.2 ≠ 0 ∧ e = stopE (nS s m).2.2)) ∧ But (· = p) w w' := by
  have hv := nS_val s m h.2.1 hm.1
  have he := nS_err s m
  by_cases h0 : (nS s m).2.2 = 0
  · exact (num_ok p ok s.1 s.2 m w h (he.trans h0) hv.1 (Int.le_trans hv.2 hm.2)).mono fun e w' ⟨h1, h2⟩ => ⟨.inl ⟨h0, h1, h2.1⟩, h2.2⟩
  · refine (num_bad p ok s.1 s.2 m w h (fun e => h0 (he.symm.trans e))).mono fun e w' ⟨h1, h2⟩ => ⟨.inr ⟨h0, h1.trans ?_⟩, h2⟩
    exact congrArg stopE he
theorem text_d (p : Nat) (ok : Nat → Prop) (s : St) (w : World) (h : AtR 107 p ok s.1 s.2 w) :
    Calls Tryd.prog 60 #[.agg #[.pointer (some ⟨p, 0, none⟩)]] w fun e w' => (((tS s).2.2 = 0 ∧ e = .returned (.string (tS s).1.1) ∧ AtR 107 p ok (tS s).2.1 (tS s).2.2 w') ∨ ((tS s).2.2 ≠ 0 ∧ e = stopE (tS s).2.2)) ∧ But (· = p) w w' := by
  have he := tS_err s
  by_cases h0 : (tS s).2.2 = 0
  · exact (text_ok p ok s.1 s.2 w h.len h (he.trans h0)).mono fun e w' ⟨h1, h2⟩ => ⟨.inl ⟨h0, h1, h2.1⟩, h2.2⟩
  · refine (text_bad p ok s.1 s.2 w h.len h (fun e => h0 (he.symm.trans e))).mono fun e w' ⟨h1, h2⟩ => ⟨.inr ⟨h0, h1.trans ?_⟩, h2⟩
    exact congrArg stopE he
theorem must_d (n : Int) (w : World) : Calls Tryd.prog 42 #[.int .i64 n] w fun e w' => ((n = 0 ∧ e = .returned (.tuple #[])) ∨ (n ≠ 0 ∧ e = stopE n)) ∧ w' = w := by
  by_cases h : n = 0
  · subst h
    exact (must_ok w).mono fun e w' ⟨h1, h2⟩ => ⟨.inl ⟨rfl, h1⟩, h2⟩
  · exact (must_bad n h w).mono fun e w' ⟨h1, h2⟩ => ⟨.inr ⟨h, h1⟩, h2⟩
section
variable {W : World} {p : Nat} {ok : Nat → Prop} {b1 : Nat} {o1 : Obj} {b2 : Nat} {o2 : Obj} {b3 : Nat} {o3 : Obj} {s : St} {w : World}
theorem InvO.handle (h : InvO 107 W p ok b1 o1 b2 o2 b3 o3 s w) (L : Lie W p ok b1 b2 b3) :
    Calls Tryd.prog 61 #[.agg #[.pointer (some ⟨p, 0, none⟩)]] w fun e w' => ((hS s).2.2 = 0 ∧ e = .returned (.int .i64 (hS s).1.1) ∧ num32 (hS s).1.1 ∧ InvO 107 W p ok b1 o1 b2 o2 b3 o3 (hS s).2 w') ∨ ((hS s).2.2 ≠ 0 ∧ e = stopE (hS s).2.2 ∧ But (· = p) W w') := by
  have hv := nS_val s 4294967295 h.at_.2.1 (by omega)
  refine (handle_d p ok s w h.at_).mono ?_
  rintro e w' ⟨⟨h0, he, ha⟩ | ⟨h0, he⟩, hb⟩
  · exact .inl ⟨h0, he, hv, h.go L ha hb⟩
  · exact .inr ⟨h0, he, h.but.then_ hb⟩
theorem InvO.text (h : InvO 107 W p ok b1 o1 b2 o2 b3 o3 s w) (L : Lie W p ok b1 b2 b3) :
    Calls Tryd.prog 60 #[.agg #[.pointer (some ⟨p, 0, none⟩)]] w fun e w' => ((tS s).2.2 = 0 ∧ e = .returned (.string (tS s).1.1) ∧ (tS s).1.1.size ≤ 65536 ∧ InvO 107 W p ok b1 o1 b2 o2 b3 o3 (tS s).2 w') ∨ ((tS s).2.2 ≠ 0 ∧ e = stopE (tS s).2.2 ∧ But (· = p) W w') := by
  have hv := tS_size s h.at_.2.1
  refine (text_d p ok s w h.at_).mono ?_
  rintro e w' ⟨⟨h0, he, ha⟩ | ⟨h0, he⟩, hb⟩
  · exact .inl ⟨h0, he, hv, h.go L ha hb⟩
  · exact .inr ⟨h0, he, h.but.then_ hb⟩
theorem InvO.num (h : InvO 107 W p ok b1 o1 b2 o2 b3 o3 s w) (L : Lie W p ok b1 b2 b3) (m : Int) (hm : 0 ≤ m ∧ m ≤ 4294967295) :
    Calls Tryd.prog 40 #[.agg #[.pointer (some ⟨p, 0, none⟩)], .int .u64 m] w fun e w' => ((nS s m).2.2 = 0 ∧ e = .returned (.int .i64 (nS s m).1.1) ∧ (0 ≤ (nS s m).1.1 ∧ (nS s m).1.1 ≤ m) ∧ InvO 107 W p ok b1 o1 b2 o2 b3 o3 (nS s m).2 w') ∨ ((nS s m).2.2 ≠ 0 ∧ e = stopE (nS s m).2.2 ∧ But (· = p) W w') := by
  have hv := nS_val s m h.at_.2.1 hm.1
  refine (num_d m hm p ok s w h.at_).mono ?_
  rintro e w' ⟨⟨h0, he, ha⟩ | ⟨h0, he⟩, hb⟩
  · exact .inl ⟨h0, he, hv, h.go L ha hb⟩
  · exact .inr ⟨h0, he, h.but.then_ hb⟩
end
theorem i64_32 {n : Int} (h : num32 n) : i64 n := ⟨by have := h.1; omega, by have := h.2; omega⟩
theorem i64_k (n : Int) (h : -100 ≤ n ∧ n ≤ 100) : i64 n := ⟨by omega, by omega⟩
theorem size_up {s : ByteArray} (h : s.size ≤ 65536) : s.size ≤ 140737488351232 := by omega
/-- What codec's reading of an operation tells. -/
def opPost (W : World) (p : Nat) (ok : Nat → Prop) (R : (S42 × Int) × St) (e : Ending) (w' : World) : Prop :=
  But (· = p) W w' ∧ ((R.1.2 = 0 ∧ ∃ v8, e = .returned (opV R.1.1.f0 R.1.1.f1 R.1.1.f2 R.1.1.f3 R.1.1.f4 R.1.1.f5 R.1.1.f6 R.1.1.f7 v8) ∧ k44.R 44 w' W.heap.size (fun _ => True) v8 R.1.1.f8 ∧ AtR 107 p ok R.2.1 R.2.2 w') ∨ (R.1.2 ≠ 0 ∧ e = stopE R.1.2))
theorem opPost_stop {W : World} {p : Nat} {ok : Nat → Prop} {R : (S42 × Int) × St} {w' : World} {n : Int} (hb : But (· = p) W w') (hn : n ≠ 0) (he : R.1.2 = n) : opPost W p ok R (stopE n) w' :=
  ⟨hb, .inr ⟨by rw [he]; exact hn, by rw [he]⟩⟩
theorem opPost_ok {W : World} {p : Nat} {ok : Nat → Prop} {x : S42} {n : Int} {s' : St} {w' : World} {e : Ending} (HF : AtB 107 W p ok s' w') (h0 : n = 0) (v8 : Value) (he : e = .returned (opV x.f0 x.f1 x.f2 x.f3 x.f4 x.f5 x.f6 x.f7 v8)) (hR : k44.R 44 w' W.heap.size (fun _ => True) v8 x.f8) : opPost W p ok ((x, n), s') e w' :=
  ⟨HF.but, .inl ⟨h0, v8, he, hR, HF.at_⟩⟩
theorem opR_bad (s : St) {s1 : St} (hs1 : s1 = (nS s 7).2) (k n : Int) (hk : (nS s 7).1 = (k, 0)) (hk0 : k ≠ 0) (h : (bodyR k s1).2.2 = n) (hn : n ≠ 0) : (opR s).1.2 = n := by
  subst h hs1
  unfold opR
  rw [hk]
  simp only
  rw [if_neg (by simp), if_neg hk0, if_pos hn]
theorem opR_good (s : St) {s1 : St} (hs1 : s1 = (nS s 7).2) (k : Int) (hk : (nS s 7).1 = (k, 0)) (hk0 : k ≠ 0) (h : (bodyR k s1).2.2 = 0) : opR s = (((bodyR k s1).1, chk (bodyR k s1).1), (bodyR k s1).2) := by
  subst hs1
  unfold opR
  rw [hk]
  simp only
  rw [if_neg (by simp), if_neg hk0, if_neg (by simp [h])]
end Go.Proofs.YtfpijjjmgggfkaaDoorE

namespace Go.Proofs.YtfpijjjmgggfkaaDoorE
open Go Go.RowKit Go.Proofs.YtfpijjjmgggfkaaDoorW.PrintWords Go.Proofs.YtfpijjjmgggfkaaDoorW.PrintMore Go.Proofs.YtfpijjjmgggfkaaDoorW.PrintLast Go.Proofs.YtfpijjjmgggfkaaDoorX Go.Proofs.YtfpijjjmgggfkaaDoor.P26 Go.Proofs.YtfpijjjmgggfkaaDoor.L01
set_option linter.unusedVariables false
set_option linter.unusedSimpArgs false
theorem info_attr : (Tryd.prog.info? 44).map (fun i => (i.zero, i.size, i.bytes)) = some (some (.agg #[.string ⟨#[]⟩, .string ⟨#[]⟩]), k44.sz, 32) := by kernel_rfl
theorem cell_far {w : World} {a : Addr} {v u : Value} {b j : Nat} (h : w.cell? a = some v) (hne : ¬ a.block = b) : (w.setCell ⟨b, j, none⟩ u).cell? a = some v := by
  rw [World.cell?_setCell_other _ _ _ _ (fun e => hne (by rw [← e]))]; exact h
theorem InvO.drew {T : Nat} {W : World} {p : Nat} {ok : Nat → Prop} {b1 : Nat} {o1 : Obj} {b2 : Nat} {o2 : Obj} {b3 : Nat} {o3 : Obj} {s : St} {w : World} (h : InvO T W p ok b1 o1 b2 o2 b3 o3 s w) (L : Lie W p ok b1 b2 b3) : InvO T W p ok b1 o1 b2 o2 b3 o3 s w.drew := h.below L (below_drew (Below.refl _ _))
/-- A call in a drawn region that may end in a panic. -/
theorem goesD_ {P : Program} {ops : Array Oper} {Q : Exit → Act → World → Prop} {oi : Oper} {N : Option Tmp} {a : Act} {w : World} {K : Act → World → Prop} {f : FuncId} {fn : Func} {ag : Array Operand} {ts : Array TypeId} (hf : P.funcs[f]? = some fn) (hname : (fn.name == "runtime.NumGoroutine") = false) (hb : fn.body.isSome = true) (args : Array Value)
    (hw : Region.wanted oi (yielded ops a.tmps) = true) (hN : oi.dst = N) (hop : oi.op = .call { callee := .value (.func f), args := ag, argTypes := ts }) (hargs : ag.map a.eval = args)
    (h : Calls P f args w fun e w' => (∃ v, e = .returned v ∧ K (a.put N v) w') ∨ (∃ ps, e = .panicked ps ∧ Q (.panic ps) a w')) : if Region.wanted oi (yielded ops a.tmps) = true then Oper.wp P oi a w K Q else K (a.put N undef) w := by
  have he := enters_ hf hname hb args w
  have hrun : (execOp a.eval oi).run P w = .ok (.enter f args) w := by
    unfold execOp
    simp [hop, resolve, Deferred.ofValue, invoke, Act.eval, hargs, he]
  rw [if_pos hw]
  subst hN
  unfold Oper.wp
  rw [hrun, Oper.upon_enter]
  refine h.mono fun e w'' hh => ?_
  rcases hh with ⟨v, rfl, hk⟩ | ⟨ps, rfl, hk⟩
  · exact hk
  · exact hk
theorem InvO.textB {W : World} {p : Nat} {ok : Nat → Prop} {b1 : Nat} {o1 : Obj} {b2 : Nat} {o2 : Obj} {b3 : Nat} {o3 : Obj} {s : St} {w : World} (h : InvO 107 W p ok b1 o1 b2 o2 b3 o3 s w) (L : Lie W p ok b1 b2 b3) :
    Calls Tryd.prog 60 #[.agg #[.pointer (some ⟨p, 0, none⟩)]] w fun e w' => ((tS s).2.2 = 0 ∧ e = .returned (.string (tS s).1.1) ∧ (tS s).1.1.size ≤ 65536 ∧ (∀ j, j < w.heap.size → j ≠ p → w'.heap[j]? = w.heap[j]?) ∧ InvO 107 W p ok b1 o1 b2 o2 b3 o3 (tS s).2 w') ∨ ((tS s).2.2 ≠ 0 ∧ e = stopE (tS s).2.2 ∧ But (· = p) W w') := by
  have hv := tS_size s h.at_.2.1
  refine (text_d p ok s w h.at_).mono ?_
  rintro e w' ⟨⟨h0, he, ha⟩ | ⟨h0, he⟩, hb⟩
  · exact .inl ⟨h0, he, hv, fun j h1 h2 => hb.block j h1 h2, h.go L ha hb⟩
  · exact .inr ⟨h0, he, h.but.then_ hb⟩
theorem attrsR_bad1 (d : Nat) (s : St) (h : (tS s).2.2 ≠ 0) : (attrsR (d + 1) s).2 = (tS s).2 := by
  show (attrsR d (tS (tS s).2).2).2 = _
  rw [tS_stick _ h]
  exact attrsR_stick d _ h
theorem attrsR_bad2 (d : Nat) (s : St) (h : (tS (tS s).2).2.2 ≠ 0) : (attrsR (d + 1) s).2 = (tS (tS s).2).2 := attrsR_stick d _ h
/-- What holds behind k attributes. -/
def InvL (w : World) (p : Nat) (ok : Nat → Prop) (c n : Nat) (s5 : St) (t1 t2 t3 : ByteArray) (k : Nat) (wr : World) : Prop :=
  ∃ (l : List S44) (sk : St) (v8 : Value), l.length = k ∧ attrsR n s5 = (l ++ (attrsR (n - k) sk).1, (attrsR (n - k) sk).2) ∧ sk.2 = 0 ∧ (∀ x ∈ l, x.f0.size ≤ 65536 ∧ x.f1.size ≤ 65536) ∧
    InvO 107 w p ok w.heap.size (.cells #[.pointer (some ⟨p, 0, none⟩)] 87) (w.heap.size + 1) (.cells #[.int .i64 0, .int .i64 0, .int .i64 0, .int .i64 0, .string ⟨#[]⟩, .string ⟨#[]⟩, .string ⟨#[]⟩, .string ⟨#[]⟩, .slice none 0 0] 42) c (.cells #[.int .i64 1, .int .i64 0, .int .i64 0, .int .i64 0, .string t1, .string t2, .string ⟨#[]⟩, .string t3, v8] 42) sk wr ∧
    k44.R 44 wr w.heap.size (fun b => b ≠ p ∧ b ≠ w.heap.size ∧ b ≠ w.heap.size + 1 ∧ b ≠ c) v8 l
theorem InvO.grown {T : Nat} {W : World} {p : Nat} {ok : Nat → Prop} {b1 : Nat} {o1 : Obj} {b2 : Nat} {o2 : Obj} {b3 : Nat} {o3 : Obj} {s : St} {w w' : World} (h : InvO T W p ok b1 o1 b2 o2 b3 o3 s w) (L : Lie W p ok b1 b2 b3) {row : Option Nat} (g : w.grownBy w' row) (hr : ∀ k, row = some k → W.heap.size ≤ k ∧ k ≠ b1 ∧ k ≠ b2 ∧ k ≠ b3) : InvO T W p ok b1 o1 b2 o2 b3 o3 s w' := by
  have hp := L.p1
  refine ⟨h.but.grown g (fun k hk => .inr (hr k hk).1), h.at_.but ((But.refl (fun k => row = some k) w).grown g (fun k hk => .inl hk)) (fun k hk => ⟨by have := (hr k hk).1; omega, fun e => by have := L.okp _ e; have := (hr k hk).1; omega⟩), ?_, ?_, ?_⟩
  · exact (g.block b1 (blk_lt' h.k1) (fun e => (hr b1 e.symm).2.1 rfl)).trans h.k1
  · exact (g.block b2 (blk_lt' h.k2) (fun e => (hr b2 e.symm).2.2.1 rfl)).trans h.k2
  · exact (g.block b3 (blk_lt' h.k3) (fun e => (hr b3 e.symm).2.2.2 rfl)).trans h.k3
set_option maxHeartbeats 2000000 in
set_option maxRecDepth 100000 in
theorem op_1 (w0 : World) (hgl : GL w0) (p : Nat) (ok : Nat → Prop) (s : St) (w : World) (hok : ∀ k, ok k → k < p) (hw : Below w0.heap.size w0 w) (hw0 : w0.heap.size ≤ p) (h : AtR 107 p ok s.1 s.2 w) (hk : (nS s 7).1 = (1, 0)) :
    Calls Tryd.prog 41 #[.agg #[.pointer (some ⟨p, 0, none⟩)]] w fun e w' => opPost w p ok (opR s) e w' := by
  have hpw := h.lt
  have H := Aside0.mk h
  have he7 : (nS s 7).2.2 = 0 := by rw [← nS_err, hk]
  have HN : Aside0 (∀ W, AtR 107 p ok s.1 s.2 W → Calls Tryd.prog 40 #[.agg #[.pointer (some ⟨p, 0, none⟩)], .int .u64 7] W fun e w' => e = .returned (.int .i64 1) ∧ AtR 107 p ok (nS s 7).2.1 (nS s 7).2.2 w' ∧ But (· = p) W w') := ⟨fun W hW => (num_d 7 (by omega) p ok s W hW).mono (by
    rintro e w' ⟨⟨h0, he, ha⟩ | ⟨h0, he⟩, hb⟩
    · rw [hk] at he
      exact ⟨he, ha, hb⟩
    · exact absurd he7 h0)⟩
  obtain ⟨s1, hs1⟩ : ∃ s1, s1 = (nS s 7).2 := ⟨_, rfl⟩
  rw [← hs1] at HN
  have HG := Aside0.mk hgl
  have HWW := Aside0.mk hw
  have HS1 := Aside0.mk hs1
  clear h hgl he7 hs1 hw
  go_enter Tryd.func41, Tryd.ntmps41
  go_wp2_with (first
    | (go_at_call 40; (refine (HN.out _ (AtR.al (AtR.al H.out _) _)).mono ?_); rintro e w1 ⟨rfl, h2, h3⟩; have HI0 := Aside0.mk (inv_start 107 w p ok (.cells #[.pointer (some ⟨p, 0, none⟩)] 87) (.cells #[.int .i64 0, .int .i64 0, .int .i64 0, .int .i64 0, .string ⟨#[]⟩, .string ⟨#[]⟩, .string ⟨#[]⟩, .string ⟨#[]⟩, .slice none 0 0] 42) (.cells #[.int .i64 1, .int .i64 0, .int .i64 0, .int .i64 0, .string ⟨#[]⟩, .string ⟨#[]⟩, .string ⟨#[]⟩, .string ⟨#[]⟩, .slice none 0 0] 42) s1 w1 hpw h2 h3); have L := Aside0.mk (lie_start w p ok _ _ w1 hpw hok h3); obtain ⟨c, hc⟩ : ∃ c, c = w1.heap.size := ⟨_, rfl⟩; have hne : ¬ w.heap.size = w1.heap.size := L.out.n13; have hne2 : ¬ w.heap.size + 1 = w1.heap.size := L.out.n23; have q0 := cell_blk (j := 0) (v := .pointer (some ⟨p, 0, none⟩)) HI0.out.k1 rfl; clear h2 h3 hc))
  have HI0' := Aside0.mk (HI0.out.drew L.out)
  have hq0 := cell_drew q0
  clear q0
  refine start_ (n := 12) (S := fun w' => w'.cell? ⟨w.heap.size, 0, none⟩ = some (.pointer (some ⟨p, 0, none⟩))) (ds := []) #[false, false, false, false, false, false, false, false, false, false, false, false] (by kernel_rfl) rfl rfl hq0 (fun hHeld => ?_)
  refine take_ (i := 0) (N := some 14) (v := ?_) (a' := ?_) #[true, false, false, false, false, false, false, false, false, false, false, false] rfl rfl (by kernel_rfl) (fun _ _ _ h => h) (Or.inl ⟨by rfl, ?_⟩) hHeld ?_ ?_
  rotate_left
  · intro w' s0
    go_split_ands
    go_simp
    with_reducible rfl
  rotate_left
  · simp only [Act.put, List.setIfInBounds_toArray, List.set_cons_zero, List.set_cons_succ, i64_w, i32_w]
    rfl
  refine take_ (i := 2) (N := some 16) (v := ?_) (a' := ?_) #[true, false, true, false, false, false, false, false, false, false, false, false] rfl rfl (by kernel_rfl) (fun _ _ _ h => h) (Or.inl ⟨by rfl, ?_⟩) hHeld ?_ ?_
  rotate_left
  · intro w' s0
    go_split_ands
    go_simp
    with_reducible rfl
  rotate_left
  · simp only [Act.put, List.setIfInBounds_toArray, List.set_cons_zero, List.set_cons_succ, i64_w, i32_w]
    rfl
  refine take_ (i := 4) (N := some 18) (v := ?_) (a' := ?_) #[true, false, true, false, true, false, false, false, false, false, false, false] rfl rfl (by kernel_rfl) (fun _ _ _ h => h) (Or.inl ⟨by rfl, ?_⟩) hHeld ?_ ?_
  rotate_left
  · intro w' s0
    go_split_ands
    go_simp
    with_reducible rfl
  rotate_left
  · simp only [Act.put, List.setIfInBounds_toArray, List.set_cons_zero, List.set_cons_succ, i64_w, i32_w]
    rfl
  refine one_ (i := 1) (N := some 15) #[true, true, true, false, true, false, false, false, false, false, false, false] rfl rfl (by kernel_rfl) (by decide) (fun K hK => ?_)
  refine goesD_ Tryd.func60 (by kernel_rfl) rfl #[.agg #[.pointer (some ⟨p, 0, none⟩)]] (by rfl) rfl rfl (by (try simp only [List.map_toArray, List.map_cons, List.map_nil]); first | done | rfl) ?_
  refine (InvO.text HI0'.out L.out).mono ?_
  rintro e w' (⟨he1, rfl, hv1, hI⟩ | ⟨he, rfl, hb⟩)
  rotate_left
  · exact .inr ⟨_, rfl, ⟨rfl, opPost_stop hb he (opR_bad s HS1.out 1 _ hk (by decide) (by simp [bodyR, hS_stick (tS s1).2 he, tS_stick (tS s1).2 he, nS_stick (tS s1).2 64 he, attrsR]) he)⟩⟩
  refine .inl ⟨_, rfl, ?_⟩
  have HI1 := Aside0.mk hI
  have HE1 := Aside0.mk he1
  have HV1 := Aside0.mk hv1
  clear hI he1 hv1
  have q1 := cell_blk (j := 0) (v := (.pointer (some ⟨p, 0, none⟩))) HI1.out.k1 rfl
  refine hK.out _ _ q1 (fun hHeld => ?_)
  clear hK K
  refine norm_ (a' := ?_) ?_ ?_
  rotate_left
  · show Act.put _ (some 15) _ = _
    simp only [Act.put, List.setIfInBounds_toArray, List.set_cons_zero, List.set_cons_succ, i64_w, i32_w]
    rfl
  refine pure_ (i := 6) (N := some 20) (v := ?_) (a' := ?_) #[true, true, true, false, true, false, true, false, false, false, false, false] rfl rfl (by kernel_rfl) (fun _ _ _ h => h) (Or.inl ⟨by rfl, ?_⟩) ?_ ?_
  rotate_left
  · intro w'
    go_simp
    with_reducible rfl
  rotate_left
  · simp only [Act.put, List.setIfInBounds_toArray, List.set_cons_zero, List.set_cons_succ, i64_w, i32_w]
    rfl
  refine one_ (i := 3) (N := some 17) #[true, true, true, true, true, false, true, false, false, false, false, false] rfl rfl (by kernel_rfl) (by decide) (fun K hK => ?_)
  refine goesD_ Tryd.func60 (by kernel_rfl) rfl #[.agg #[.pointer (some ⟨p, 0, none⟩)]] (by rfl) rfl rfl (by (try simp only [List.map_toArray, List.map_cons, List.map_nil]); first | done | rfl) ?_
  refine (InvO.text HI1.out L.out).mono ?_
  rintro e w' (⟨he2, rfl, hv2, hI⟩ | ⟨he, rfl, hb⟩)
  rotate_left
  · exact .inr ⟨_, rfl, ⟨rfl, opPost_stop hb he (opR_bad s HS1.out 1 _ hk (by decide) (by simp [bodyR, hS_stick (tS (tS s1).2).2 he, tS_stick (tS (tS s1).2).2 he, nS_stick (tS (tS s1).2).2 64 he, attrsR]) he)⟩⟩
  refine .inl ⟨_, rfl, ?_⟩
  have HI2 := Aside0.mk hI
  have HE2 := Aside0.mk he2
  have HV2 := Aside0.mk hv2
  clear hI he2 hv2
  have q2 := cell_blk (j := 0) (v := (.pointer (some ⟨p, 0, none⟩))) HI2.out.k1 rfl
  refine hK.out _ _ q2 (fun hHeld => ?_)
  clear hK K
  refine norm_ (a' := ?_) ?_ ?_
  rotate_left
  · show Act.put _ (some 17) _ = _
    simp only [Act.put, List.setIfInBounds_toArray, List.set_cons_zero, List.set_cons_succ, i64_w, i32_w]
    rfl
  refine one_ (i := 5) (N := some 19) #[true, true, true, true, true, true, true, false, false, false, false, false] rfl rfl (by kernel_rfl) (by decide) (fun K hK => ?_)
  refine goesD_ Tryd.func60 (by kernel_rfl) rfl #[.agg #[.pointer (some ⟨p, 0, none⟩)]] (by rfl) rfl rfl (by (try simp only [List.map_toArray, List.map_cons, List.map_nil]); first | done | rfl) ?_
  refine (InvO.text HI2.out L.out).mono ?_
  rintro e w' (⟨he3, rfl, hv3, hI⟩ | ⟨he, rfl, hb⟩)
  rotate_left
  · exact .inr ⟨_, rfl, ⟨rfl, opPost_stop hb he (opR_bad s HS1.out 1 _ hk (by decide) (by simp [bodyR, hS_stick (tS (tS (tS s1).2).2).2 he, tS_stick (tS (tS (tS s1).2).2).2 he, nS_stick (tS (tS (tS s1).2).2).2 64 he, attrsR]) he)⟩⟩
  refine .inl ⟨_, rfl, ?_⟩
  have HI3 := Aside0.mk hI
  have HE3 := Aside0.mk he3
  have HV3 := Aside0.mk hv3
  clear hI he3 hv3
  have q3 := cell_blk (j := 0) (v := (.pointer (some ⟨p, 0, none⟩))) HI3.out.k1 rfl
  refine hK.out _ _ q3 (fun hHeld => ?_)
  clear hK K
  refine norm_ (a' := ?_) ?_ ?_
  rotate_left
  · show Act.put _ (some 19) _ = _
    simp only [Act.put, List.setIfInBounds_toArray, List.set_cons_zero, List.set_cons_succ, i64_w, i32_w]
    rfl
  have x4 := cell_blk (j := 4) (v := .string ⟨#[]⟩) HI3.out.k3 rfl
  have z4 := Lib.frozen_of_heap HI3.out.k3 4
  have x5 := cell_blk (j := 5) (v := .string ⟨#[]⟩) HI3.out.k3 rfl
  have z5 := Lib.frozen_of_heap HI3.out.k3 5
  have x7 := cell_blk (j := 7) (v := .string ⟨#[]⟩) HI3.out.k3 rfl
  have z7 := Lib.frozen_of_heap HI3.out.k3 7
  refine one_ (i := 7) (N := none) #[true, true, true, true, true, true, true, true, false, false, false, false] rfl rfl (by kernel_rfl) (by decide) (fun K hK => ?_)
  refine skip_ (w1 := ?_) (by rfl) rfl ?_ ?_
  rotate_left
  · go_simp
    rfl
  refine hK.out _ _ (cell_far q3 hne) (fun hHeld => ?_)
  clear hK K
  refine pure_ (i := 8) (N := some 21) (v := ?_) (a' := ?_) #[true, true, true, true, true, true, true, true, true, false, false, false] rfl rfl (by kernel_rfl) (fun _ _ _ h => h) (Or.inl ⟨by rfl, ?_⟩) ?_ ?_
  rotate_left
  · intro w'
    go_simp
    with_reducible rfl
  rotate_left
  · simp only [Act.put, List.setIfInBounds_toArray, List.set_cons_zero, List.set_cons_succ, i64_w, i32_w]
    rfl
  refine one_ (i := 9) (N := none) #[true, true, true, true, true, true, true, true, true, true, false, false] rfl rfl (by kernel_rfl) (by decide) (fun K hK => ?_)
  refine skip_ (w1 := ?_) (by rfl) rfl ?_ ?_
  rotate_left
  · go_simp
    rfl
  refine hK.out _ _ (cell_far (cell_far q3 hne) hne) (fun hHeld => ?_)
  clear hK K
  refine pure_ (i := 10) (N := some 22) (v := ?_) (a' := ?_) #[true, true, true, true, true, true, true, true, true, true, true, false] rfl rfl (by kernel_rfl) (fun _ _ _ h => h) (Or.inl ⟨by rfl, ?_⟩) ?_ ?_
  rotate_left
  · intro w'
    go_simp
    with_reducible rfl
  rotate_left
  · simp only [Act.put, List.setIfInBounds_toArray, List.set_cons_zero, List.set_cons_succ, i64_w, i32_w]
    rfl
  refine one_ (i := 11) (N := none) #[true, true, true, true, true, true, true, true, true, true, true, true] rfl rfl (by kernel_rfl) (by decide) (fun K hK => ?_)
  refine skip_ (w1 := ?_) (by rfl) rfl ?_ ?_
  rotate_left
  · go_simp
    rfl
  refine hK.out _ _ (cell_far (cell_far (cell_far q3 hne) hne) hne) (fun hHeld => ?_)
  clear hK K
  refine done_ (by kernel_rfl) ?_
  have HI4 := Aside0.mk (InvO.set (InvO.set (InvO.set HI3.out L.out 4 (.string (tS s1).1.1)) L.out 5 (.string (tS (tS s1).2).1.1)) L.out 7 (.string (tS (tS (tS s1).2).2).1.1))
  have q4 := cell_far (j := 7) (u := .string (tS (tS (tS s1).2).2).1.1) (cell_far (j := 5) (u := .string (tS (tS s1).2).1.1) (cell_far (j := 4) (u := .string (tS s1).1.1) q3 hne) hne) hne
  clear q1 q2 q3 x4 x5 x7 z4 z5 z7 hq0 hHeld
  try clear hHeld
  try clear hHeld
  obtain ⟨s4, hs4⟩ : ∃ s4, s4 = (tS (tS (tS s1).2).2).2 := ⟨_, rfl⟩
  rw [← hs4] at HI4
  have HB1 : Aside0 (bodyR 1 s1 = (⟨1, 0, 0, 0, (tS s1).1.1, (tS (tS s1).2).1.1, em, (tS (tS (tS s1).2).2).1.1, (attrsR (nS s4 64).1.1.toNat (nS s4 64).2).1⟩, (attrsR (nS s4 64).1.1.toNat (nS s4 64).2).2)) := ⟨by rw [hs4]; rfl⟩
  clear hs4
  obtain ⟨t1, ht1⟩ : ∃ t1, t1 = (tS s1).1.1 := ⟨_, rfl⟩
  obtain ⟨t2, ht2⟩ : ∃ t2, t2 = (tS (tS s1).2).1.1 := ⟨_, rfl⟩
  obtain ⟨t3, ht3⟩ : ∃ t3, t3 = (tS (tS (tS s1).2).2).1.1 := ⟨_, rfl⟩
  rw [← ht1] at HI4 HB1 HV1 q4 ⊢
  rw [← ht2] at HI4 HB1 HV2 q4 ⊢
  rw [← ht3] at HI4 HB1 HV3 q4 ⊢
  clear ht1 ht2 ht3
  go_wp2_with (go_at_call 40; (refine (InvO.num HI4.out L.out 64 (by omega)).mono ?_); rintro e w5 (⟨he4, rfl, hv4, hI⟩ | ⟨he, rfl, hb⟩); rotate_left; go_loud (focus (unfold stopE; go_wp2_with fail; exact ⟨rfl, opPost_stop hb he (opR_bad s HS1.out 1 _ hk (by decide) (by rw [HB1.out]; exact congrArg Prod.snd (attrsR_stick _ _ he)) he)⟩)); have HI5 := Aside0.mk hI; have HV4 := Aside0.mk hv4; have HE4 := Aside0.mk he4; clear hI hv4 he4)
  obtain ⟨n, hn⟩ : ∃ n : Nat, (nS s4 64).1.1 = (n : Int) := ⟨(nS s4 64).1.1.toNat, by have := HV4.out.1; omega⟩
  obtain ⟨s5, hs5⟩ : ∃ s5, s5 = (nS s4 64).2 := ⟨_, rfl⟩
  have hn64 : n ≤ 64 := by have := HV4.out.2; omega
  rw [hn] at HB1 ⊢
  rw [← hs5] at HB1 HI5 HE4
  simp only [Int.toNat_natCast] at HB1
  clear hn hs5 HV4
  have HL0 : Aside0 (InvL w p ok w1.heap.size n s5 t1 t2 t3 0 w5) := ⟨[], s5, .slice none 0 0, rfl, by simp, HE4.out, by simp, HI5.out, Kd.R_nil k44 44 _ _ _⟩
  clear HI5 q4
  go_loopw [25] (fun i wr => ∃ k : Nat, k ≤ n ∧ i = .int .i64 k ∧ Aside0 (InvL w p ok w1.heap.size n s5 t1 t2 t3 k wr)) (fun i _ => n - (intOf i).toNat)
  case atStart => exact ⟨0, Nat.zero_le _, rfl, HL0⟩
  case round =>
    obtain ⟨k, hkn, rfl, HR⟩ := hrel
    by_cases hlt : k < n
    · obtain ⟨l, sk, v8, hl, hat, hs0, hsz, hI, hR⟩ := HR.out
      obtain ⟨d, hd⟩ : ∃ d, n - k = d + 1 := ⟨n - k - 1, by omega⟩
      rw [hd] at hat
      have HAT := Aside0.mk hat
      have HSZ := Aside0.mk hsz
      have HL := Aside0.mk hl
      have HRR := Aside0.mk (Kd.R_drew hR)
      have HI6 := Aside0.mk (hI.drew L.out)
      have q6 := cell_blk (j := 0) (v := (.pointer (some ⟨p, 0, none⟩))) HI6.out.k1 rfl
      have y6 := cell_blk (j := 8) (v := v8) HI6.out.k3 rfl
      obtain ⟨A8, c8, rfl⟩ := Kd.R_slice hR
      clear hl hat hs0 hsz hI hR
      go_wp2_with fail
      refine start_ (n := 11) (S := fun w' => w'.cell? ⟨w.heap.size, 0, none⟩ = some (.pointer (some ⟨p, 0, none⟩)) ∧ w'.cell? ⟨w1.heap.size, 8, none⟩ = some (.slice A8 l.length c8)) (ds := [10]) #[false, false, false, false, false, false, false, false, false, false, false] (by kernel_rfl) rfl rfl ⟨q6, y6⟩ (fun hHeld => ?_)
      refine pure_ (i := 0) (N := some 27) (v := ?_) (a' := ?_) #[true, false, false, false, false, false, false, false, false, false, false] rfl rfl (by kernel_rfl) (fun _ _ _ h => h) (Or.inl ⟨by rfl, ?_⟩) ?_ ?_
      rotate_left
      · intro w'
        go_simp
        with_reducible rfl
      rotate_left
      · simp only [Act.put, List.setIfInBounds_toArray, List.set_cons_zero, List.set_cons_succ, i64_w, i32_w]
        rfl
      refine take_ (i := 2) (N := some 29) (v := ?_) (a' := ?_) #[true, false, true, false, false, false, false, false, false, false, false] rfl rfl (by kernel_rfl) (fun _ _ _ h => h) (Or.inl ⟨by rfl, ?_⟩) hHeld ?_ ?_
      rotate_left
      · intro w' s0
        go_split_ands
        go_simp
        with_reducible rfl
      rotate_left
      · simp only [Act.put, List.setIfInBounds_toArray, List.set_cons_zero, List.set_cons_succ, i64_w, i32_w]
        rfl
      refine take_ (i := 4) (N := some 31) (v := ?_) (a' := ?_) #[true, false, true, false, true, false, false, false, false, false, false] rfl rfl (by kernel_rfl) (fun _ _ _ h => h) (Or.inl ⟨by rfl, ?_⟩) hHeld ?_ ?_
      rotate_left
      · intro w' s0
        go_split_ands
        go_simp
        with_reducible rfl
      rotate_left
      · simp only [Act.put, List.setIfInBounds_toArray, List.set_cons_zero, List.set_cons_succ, i64_w, i32_w]
        rfl
      refine take_ (i := 1) (N := some 28) (v := ?_) (a' := ?_) #[true, true, true, false, true, false, false, false, false, false, false] rfl rfl (by kernel_rfl) (fun _ _ _ h => h) (Or.inl ⟨by rfl, ?_⟩) hHeld ?_ ?_
      rotate_left
      · intro w' s0
        go_split_ands
        go_simp
        with_reducible rfl
      rotate_left
      · simp only [Act.put, List.setIfInBounds_toArray, List.set_cons_zero, List.set_cons_succ, i64_w, i32_w]
        rfl
      refine one_ (i := 3) (N := some 30) #[true, true, true, true, true, false, false, false, false, false, false] rfl rfl (by kernel_rfl) (by decide) (fun K hK => ?_)
      refine goesD_ Tryd.func60 (by kernel_rfl) rfl #[.agg #[.pointer (some ⟨p, 0, none⟩)]] (by rfl) rfl rfl (by (try simp only [List.map_toArray, List.map_cons, List.map_nil]); first | done | rfl) ?_
      refine (InvO.textB HI6.out L.out).mono ?_
      rintro e w' (⟨he7, rfl, hv7, hblk, hI⟩ | ⟨he, rfl, hb⟩)
      rotate_left
      · exact .inr ⟨_, rfl, ⟨rfl, opPost_stop hb he (opR_bad s HS1.out 1 _ hk (by decide) (by rw [HB1.out, HAT.out]; exact congrArg Prod.snd (attrsR_bad1 d sk he)) he)⟩⟩
      refine .inl ⟨_, rfl, ?_⟩
      have HRR := Aside0.mk (Kd.R_step HRR.out (fun j hj hlt => hblk j hlt hj.1))
      have HI7 := Aside0.mk hI
      have HE7 := Aside0.mk he7
      have HV7 := Aside0.mk hv7
      clear hI he7 hv7 hblk
      have q7 := cell_blk (j := 0) (v := (.pointer (some ⟨p, 0, none⟩))) HI7.out.k1 rfl
      have y7 := cell_blk (j := 8) (v := .slice A8 l.length c8) HI7.out.k3 rfl
      refine hK.out _ _ ⟨q7, y7⟩ (fun hHeld => ?_)
      clear hK K
      refine norm_ (a' := ?_) ?_ ?_
      rotate_left
      · show Act.put _ (some 30) _ = _
        simp only [Act.put, List.setIfInBounds_toArray, List.set_cons_zero, List.set_cons_succ, i64_w, i32_w]
        rfl
      refine one_ (i := 5) (N := some 32) #[true, true, true, true, true, true, false, false, false, false, false] rfl rfl (by kernel_rfl) (by decide) (fun K hK => ?_)
      refine goesD_ Tryd.func60 (by kernel_rfl) rfl #[.agg #[.pointer (some ⟨p, 0, none⟩)]] (by rfl) rfl rfl (by (try simp only [List.map_toArray, List.map_cons, List.map_nil]); first | done | rfl) ?_
      refine (InvO.textB HI7.out L.out).mono ?_
      rintro e w' (⟨he8, rfl, hv8, hblk, hI⟩ | ⟨he, rfl, hb⟩)
      rotate_left
      · exact .inr ⟨_, rfl, ⟨rfl, opPost_stop hb he (opR_bad s HS1.out 1 _ hk (by decide) (by rw [HB1.out, HAT.out]; exact congrArg Prod.snd (attrsR_bad2 d sk he)) he)⟩⟩
      refine .inl ⟨_, rfl, ?_⟩
      have HRR := Aside0.mk (Kd.R_step HRR.out (fun j hj hlt => hblk j hlt hj.1))
      have HI8 := Aside0.mk hI
      have HE8 := Aside0.mk he8
      have HV8 := Aside0.mk hv8
      clear hI he8 hv8 hblk
      have q8 := cell_blk (j := 0) (v := (.pointer (some ⟨p, 0, none⟩))) HI8.out.k1 rfl
      have y8 := cell_blk (j := 8) (v := .slice A8 l.length c8) HI8.out.k3 rfl
      refine hK.out _ _ ⟨q8, y8⟩ (fun hHeld => ?_)
      clear hK K
      refine norm_ (a' := ?_) ?_ ?_
      rotate_left
      · show Act.put _ (some 32) _ = _
        simp only [Act.put, List.setIfInBounds_toArray, List.set_cons_zero, List.set_cons_succ, i64_w, i32_w]
        rfl
      refine pure_ (i := 6) (N := some 33) (v := ?_) (a' := ?_) #[true, true, true, true, true, true, true, false, false, false, false] rfl rfl (by kernel_rfl) (fun _ _ _ h => h) (Or.inl ⟨by rfl, ?_⟩) ?_ ?_
      rotate_left
      · intro w'
        go_simp
        with_reducible rfl
      rotate_left
      · simp only [Act.put, List.setIfInBounds_toArray, List.set_cons_zero, List.set_cons_succ, i64_w, i32_w]
        rfl
      refine one_ (i := 7) (N := some 34) #[true, true, true, true, true, true, true, true, false, false, false] rfl rfl (by kernel_rfl) (by decide) (fun K hK => ?_)
      refine value_ (w1 := World.alloc w' (.cells #[.string (tS sk).1.1, .string (tS (tS sk).2).1.1] 44)) (v := .slice (some ⟨w'.heap.size, 0, none⟩) 1 1) (by rfl) rfl ?_ ?_
      · go_simp
      refine hK.out _ _ ⟨pw_cell_below (below_alloc (Below.refl _ _) _) q8, pw_cell_below (below_alloc (Below.refl _ _) _) y8⟩ (fun hHeld => ?_)
      clear hK K
      refine norm_ (a' := ?_) ?_ ?_
      rotate_left
      · show Act.put _ (some 34) _ = _
        simp only [Act.put, List.setIfInBounds_toArray, List.set_cons_zero, List.set_cons_succ, i64_w, i32_w]
        rfl
      refine one_ (i := 8) (N := some 35) #[true, true, true, true, true, true, true, true, true, false, false] rfl rfl (by kernel_rfl) (by decide) (fun K hK => ?_)
      refine Kd.R_append_step (w0 := w') (W := w') k44 w.heap.size (by rfl) (.tmp 28) (.tmp 34) 40 44 (.agg #[.string ⟨#[]⟩, .string ⟨#[]⟩]) 32 rfl Tryd.underlying40 info_attr rfl (by decide) (by decide) (.slice A8 l.length c8) l ⟨(tS sk).1.1, (tS (tS sk).2).1.1⟩ [.string (tS sk).1.1, .string (tS (tS sk).2).1.1] (fun b => b ≠ p ∧ b ≠ w.heap.size ∧ b ≠ w.heap.size + 1 ∧ b ≠ w1.heap.size) (fun _ => False) rfl rfl (k44_mkM w' w.heap.size _ ⟨(tS sk).1.1, (tS (tS sk).2).1.1⟩) (fun _ h => h.elim) (fun j hj => ?_) HRR.out (Below.refl _ _) HI8.out.but.size ?_ ?_
      · have a1 := blk_lt' HI8.out.k1
        have a2 := blk_lt' HI8.out.k2
        have a3 := blk_lt' HI8.out.k3
        have a4 := L.out.p1
        exact ⟨by omega, by omega, by omega, by omega⟩
      · have := HL.out; omega
      intro v1 wa hR1 hb1 hg1 hat1
      obtain ⟨A9, c9, rfl⟩ := Kd.R_slice hR1
      have hown : ∀ j, (Value.slice A8 l.length c8).ownBlock = some j → w.heap.size ≤ j ∧ j ≠ w.heap.size ∧ j ≠ w.heap.size + 1 ∧ j ≠ w1.heap.size := fun j hj => ⟨Kd.R_base HRR.out j hj, (HRR.out.1 j hj).2⟩
      have HI9 := Aside0.mk (HI8.out.grown L.out hg1 hown)
      have HR9 := Aside0.mk hR1
      clear hR1 hb1 hg1 hat1 hown
      have q9 := cell_blk (j := 0) (v := (.pointer (some ⟨p, 0, none⟩))) HI9.out.k1 rfl
      have y9 := cell_blk (j := 8) (v := .slice A8 l.length c8) HI9.out.k3 rfl
      have z9 := Lib.frozen_of_heap HI9.out.k3 8
      refine hK.out _ _ ⟨q9, y9⟩ (fun hHeld => ?_)
      clear hK K
      refine norm_ (a' := ?_) ?_ ?_
      rotate_left
      · show Act.put _ (some 35) _ = _
        simp only [Act.put, List.setIfInBounds_toArray, List.set_cons_zero, List.set_cons_succ, i64_w, i32_w]
        rfl
      refine pure_ (i := 9) (N := some 36) (v := ?_) (a' := ?_) #[true, true, true, true, true, true, true, true, true, true, false] rfl rfl (by kernel_rfl) (fun _ _ _ h => h) (Or.inl ⟨by rfl, ?_⟩) ?_ ?_
      rotate_left
      · intro w'
        go_simp
        with_reducible rfl
      rotate_left
      · simp only [Act.put, List.setIfInBounds_toArray, List.set_cons_zero, List.set_cons_succ, i64_w, i32_w]
        rfl
      refine last_ (i := 10) (N := none) #[true, true, true, true, true, true, true, true, true, true, true] rfl rfl (by kernel_rfl) (by decide) (fun K hK => ?_)
      refine skip_ (w1 := ?_) (by rfl) rfl ?_ ?_
      rotate_left
      · go_simp
        rfl
      refine hK.out _ _ ?_
      clear hK K
      refine done_ (by kernel_rfl) ?_
      go_wp2_with fail
      go_roundw
      case rel =>
        refine ⟨k + 1, by omega, by go_num, ⟨l ++ [⟨(tS sk).1.1, (tS (tS sk).2).1.1⟩], (tS (tS sk).2).2, _, by rw [List.length_append, HL.out]; rfl, ?_, HE8.out, ?_, InvO.set HI9.out L.out 8 _, by have h9 := Kd.R_far HR9.out (p := ⟨w1.heap.size, 8, none⟩) (fun j hj => hj.2.2.2) (.slice A9 (l.length + 1) c9); rw [List.length_append] at h9; exact h9⟩⟩
        · rw [HAT.out, show n - (k + 1) = d by omega]
          show (l ++ _ :: _, _) = _
          rw [List.append_assoc]
          rfl
        · intro x hx
          rcases List.mem_append.1 hx with hx | hx
          · exact HSZ.out x hx
          · obtain rfl := List.mem_singleton.1 hx
            exact ⟨HV7.out, HV8.out⟩
      case measure => simp [intOf]; omega
    · obtain rfl : k = n := by omega
      obtain ⟨l, sk, v8, hl, hat, hs0, hsz, hI, hR⟩ := HR.out
      obtain ⟨A8, c8, rfl, hc8, hC8⟩ := Kd.R_reads hR
      rw [Nat.sub_self] at hat
      have hat' : attrsR k s5 = (l, sk) := by rw [hat]; simp [attrsR]
      rw [hat'] at HB1
      have HRR := Aside0.mk hR
      have HI6 := Aside0.mk hI
      have HS0 := Aside0.mk hs0
      have HCK : Aside0 (Calls Tryd.prog 28 #[.agg #[.int .i64 1, .int .i64 0, .int .i64 0, .int .i64 0, .string t1, .string t2, .string ⟨#[]⟩, .string t3, .slice A8 l.length c8]] wr fun e w' => e = .returned (.int .i64 (chk ⟨1, 0, 0, 0, t1, t2, em, t3, l⟩)) ∧ Below wr.heap.size wr w') := ⟨by
        have hw := HWW.out
        have hb : Below w0.heap.size w0 wr := ⟨hI.but.os.trans hw.os, hI.but.tape.trans hw.tape, hI.but.output.trans hw.output, Nat.le_trans hw.size hI.but.size, fun k hk => (hI.but.block k (Nat.lt_of_lt_of_le hk hw.size) (by omega)).trans (hw.block k hk)⟩
        refine Check_x ⟨1, 0, 0, 0, t1, t2, em, t3, l⟩ A8 c8 wr (HG.out.below hb) hC8 hc8 ⟨i64_k 1 (by omega), i64_k 0 (by omega), i64_k 0 (by omega), i64_k 0 (by omega), size_up HV1.out, size_up HV2.out, Nat.zero_le _, size_up HV3.out, by simp only [hl]; omega, fun i hi => ?_⟩
        have hm : rd_T44 l (i : Int) ∈ l := by
          simp only at hi
          unfold rd_T44
          rw [Int.toNat_natCast, List.getD_eq_getElem?_getD, List.getElem?_eq_getElem hi]
          exact List.getElem_mem hi
        exact ⟨size_up (hsz _ hm).1, size_up (hsz _ hm).2⟩⟩
      have HC := hI.k3
      have x0 := cell_blk (j := 0) (v := .int .i64 1) HC rfl; have x1 := cell_blk (j := 1) (v := .int .i64 0) HC rfl; have x2 := cell_blk (j := 2) (v := .int .i64 0) HC rfl; have x3 := cell_blk (j := 3) (v := .int .i64 0) HC rfl; have x4 := cell_blk (j := 4) (v := .string t1) HC rfl; have x5 := cell_blk (j := 5) (v := .string t2) HC rfl; have x6 := cell_blk (j := 6) (v := .string ⟨#[]⟩) HC rfl; have x7 := cell_blk (j := 7) (v := .string t3) HC rfl; have x8 := cell_blk (j := 8) (v := .slice A8 l.length c8) HC rfl; 
      clear hl hat hat' hs0 hsz hI hR hC8 HC
      go_wp2_with (first
        | (go_at_call 28; (refine (HCK.out).mono ?_); rintro e w6 ⟨rfl, hb⟩; have HIC := Aside0.mk (HI6.out.below L.out hb); have HRC := Aside0.mk (Kd.R_below HRR.out hb); clear hb x0 x1 x2 x3 x4 x5 x6 x7 x8; have HC := HIC.out.k3; have x0 := cell_blk (j := 0) (v := .int .i64 1) HC rfl; have x1 := cell_blk (j := 1) (v := .int .i64 0) HC rfl; have x2 := cell_blk (j := 2) (v := .int .i64 0) HC rfl; have x3 := cell_blk (j := 3) (v := .int .i64 0) HC rfl; have x4 := cell_blk (j := 4) (v := .string t1) HC rfl; have x5 := cell_blk (j := 5) (v := .string t2) HC rfl; have x6 := cell_blk (j := 6) (v := .string ⟨#[]⟩) HC rfl; have x7 := cell_blk (j := 7) (v := .string t3) HC rfl; have x8 := cell_blk (j := 8) (v := .slice A8 l.length c8) HC rfl;  have hY := InvO.k2 HIC.out; have HY := Aside0.mk hY; have y0 := cell_blk (j := 0) (v := .int .i64 0) hY rfl; have z0 := Lib.frozen_of_heap hY 0; have y1 := cell_blk (j := 1) (v := .int .i64 0) hY rfl; have z1 := Lib.frozen_of_heap hY 1; have y2 := cell_blk (j := 2) (v := .int .i64 0) hY rfl; have z2 := Lib.frozen_of_heap hY 2; have y3 := cell_blk (j := 3) (v := .int .i64 0) hY rfl; have z3 := Lib.frozen_of_heap hY 3; have y4 := cell_blk (j := 4) (v := .string ⟨#[]⟩) hY rfl; have z4 := Lib.frozen_of_heap hY 4; have y5 := cell_blk (j := 5) (v := .string ⟨#[]⟩) hY rfl; have z5 := Lib.frozen_of_heap hY 5; have y6 := cell_blk (j := 6) (v := .string ⟨#[]⟩) hY rfl; have z6 := Lib.frozen_of_heap hY 6; have y7 := cell_blk (j := 7) (v := .string ⟨#[]⟩) hY rfl; have z7 := Lib.frozen_of_heap hY 7; have y8 := cell_blk (j := 8) (v := .slice none 0 0) hY rfl; have z8 := Lib.frozen_of_heap hY 8; clear HC hY)
        | (go_at_call 42; (refine (must_d _ _).mono ?_); rintro e w7 ⟨⟨hc, rfl⟩ | ⟨hc, rfl⟩, rfl⟩; rotate_left; go_loud (focus (unfold stopE; go_wp2_with fail; exact ⟨rfl, opPost_stop HIC.out.but hc (by rw [opR_good s HS1.out 1 hk (by decide) (by rw [HB1.out]; exact HS0.out), HB1.out])⟩))))
      have hpz := L.out.h2
      have hgood := opR_good s HS1.out 1 hk (by decide) (by rw [HB1.out]; exact HS0.out)
      rw [HB1.out] at hgood
      refine bodyPost_ret (results_cell_row rfl _ _ (w.heap.size + 1) 42 _ (0, 0) _ rfl (set_blk (j := 8) (set_blk (j := 7) (set_blk (j := 6) (set_blk (j := 5) (set_blk (j := 4) (set_blk (j := 3) (set_blk (j := 2) (set_blk (j := 1) (set_blk (j := 0) (HY.out) _) _) _) _) _) _) _) _) _) Tryd.underlying42 rfl (by kernel_rfl)) rfl ?_
      rw [hgood]
      exact opPost_ok (AtB.set (AtB.set (AtB.set (AtB.set (AtB.set (AtB.set (AtB.set (AtB.set (AtB.set ⟨HIC.out.but, HIC.out.at_⟩ hpw hpz hok 0 _) hpw hpz hok 1 _) hpw hpz hok 2 _) hpw hpz hok 3 _) hpw hpz hok 4 _) hpw hpz hok 5 _) hpw hpz hok 6 _) hpw hpz hok 7 _) hpw hpz hok 8 _) hc (.slice A8 l.length c8) rfl (Kd.R_mono (Kd.R_far (Kd.R_far (Kd.R_far (Kd.R_far (Kd.R_far (Kd.R_far (Kd.R_far (Kd.R_far (Kd.R_far (HRC.out) (fun j hj => hj.2.2.1) _) (fun j hj => hj.2.2.1) _) (fun j hj => hj.2.2.1) _) (fun j hj => hj.2.2.1) _) (fun j hj => hj.2.2.1) _) (fun j hj => hj.2.2.1) _) (fun j hj => hj.2.2.1) _) (fun j hj => hj.2.2.1) _) (fun j hj => hj.2.2.1) _) (fun _ _ => trivial))
end Go.Proofs.YtfpijjjmgggfkaaDoorE

namespace Go.Proofs.YtfpijjjmgggfkaaDoorE
open Go Go.RowKit Go.Proofs.YtfpijjjmgggfkaaDoorW.PrintWords Go.Proofs.YtfpijjjmgggfkaaDoorW.PrintMore Go.Proofs.YtfpijjjmgggfkaaDoorX Go.Proofs.YtfpijjjmgggfkaaDoor.P26 Go.Proofs.YtfpijjjmgggfkaaDoor.L01
set_option linter.unusedVariables false
set_option linter.unusedSimpArgs false
section
variable {W : World} {p : Nat} {ok : Nat → Prop} {b1 : Nat} {o1 : Obj} {b2 : Nat} {o2 : Obj} {b3 : Nat} {o3 : Obj} {s : St} {w : World}
end
theorem AtB.drew {T : Nat} {W : World} {p : Nat} {ok : Nat → Prop} {s : St} {w : World} (h : AtB T W p ok s w) : AtB T W p ok s w.drew :=
  ⟨h.but.drew, h.at_.but ((But.refl (fun _ => False) w).below (below_drew (Below.refl _ _))) (fun _ h => h.elim)⟩
end Go.Proofs.YtfpijjjmgggfkaaDoorE

namespace Go.Proofs.YtfpijjjmgggfkaaDoorE
open Go Go.RowKit Go.Proofs.YtfpijjjmgggfkaaDoorW.PrintWords Go.Proofs.YtfpijjjmgggfkaaDoorW.PrintMore Go.Proofs.YtfpijjjmgggfkaaDoorW.PrintLast Go.Proofs.YtfpijjjmgggfkaaDoorX Go.Proofs.YtfpijjjmgggfkaaDoor.P26 Go.Proofs.YtfpijjjmgggfkaaDoor.L01
set_option linter.unusedVariables false
set_option linter.unusedSimpArgs false
set_option maxRecDepth 100000
theorem InvO.far {T : Nat} {W : World} {p : Nat} {ok : Nat → Prop} {b1 : Nat} {o1 : Obj} {b2 : Nat} {o2 : Obj} {b3 : Nat} {o3 : Obj} {s : St} {w : World} (h : InvO T W p ok b1 o1 b2 o2 b3 o3 s w) (L : Lie W p ok b1 b2 b3) {b : Nat} (hb : W.heap.size ≤ b ∧ b ≠ b1 ∧ b ≠ b2 ∧ b ≠ b3) (j : Nat) (v : Value) : InvO T W p ok b1 o1 b2 o2 b3 o3 s (w.setCell ⟨b, j, none⟩ v) := by
  have hp := L.p1
  have hB : But (· = b) w (w.setCell ⟨b, j, none⟩ v) := But.put (S := (· = b)) (But.refl _ w) (j := j) rfl v
  refine ⟨h.but.setCell (.inr hb.1) v, h.at_.but hB (fun k hk => by rw [hk]; exact ⟨by omega, fun e => by have := L.okp _ e; omega⟩), (hB.block b1 (blk_lt' h.k1) (fun e => hb.2.1 e.symm)).trans h.k1, (hB.block b2 (blk_lt' h.k2) (fun e => hb.2.2.1 e.symm)).trans h.k2, (hB.block b3 (blk_lt' h.k3) (fun e => hb.2.2.2 e.symm)).trans h.k3⟩
end Go.Proofs.YtfpijjjmgggfkaaDoorE

namespace Go.Proofs.YtfpijjjmgggfkaaDoorE
open Go Go.RowKit Go.Proofs.YtfpijjjmgggfkaaDoorW.PrintWords Go.Proofs.YtfpijjjmgggfkaaDoorW.PrintMore Go.Proofs.YtfpijjjmgggfkaaDoorX Go.Proofs.YtfpijjjmgggfkaaDoor.P26 Go.Proofs.YtfpijjjmgggfkaaDoor.L01
set_option linter.unusedVariables false
set_option linter.unusedSimpArgs false
set_option maxHeartbeats 2000000 in
set_option maxRecDepth 100000 in
theorem op_2 (w0 : World) (hgl : GL w0) (p : Nat) (ok : Nat → Prop) (s : St) (w : World) (hok : ∀ k, ok k → k < p) (hw : Below w0.heap.size w0 w) (hw0 : w0.heap.size ≤ p) (h : AtR 107 p ok s.1 s.2 w) (hk : (nS s 7).1 = (2, 0)) :
    Calls Tryd.prog 41 #[.agg #[.pointer (some ⟨p, 0, none⟩)]] w fun e w' => opPost w p ok (opR s) e w' := by
  have hpw := h.lt
  have H := Aside0.mk h
  have he7 : (nS s 7).2.2 = 0 := by rw [← nS_err, hk]
  have HN : Aside0 (∀ W, AtR 107 p ok s.1 s.2 W → Calls Tryd.prog 40 #[.agg #[.pointer (some ⟨p, 0, none⟩)], .int .u64 7] W fun e w' => e = .returned (.int .i64 2) ∧ AtR 107 p ok (nS s 7).2.1 (nS s 7).2.2 w' ∧ But (· = p) W w') := ⟨fun W hW => (num_d 7 (by omega) p ok s W hW).mono (by
    rintro e w' ⟨⟨h0, he, ha⟩ | ⟨h0, he⟩, hb⟩
    · rw [hk] at he
      exact ⟨he, ha, hb⟩
    · exact absurd he7 h0)⟩
  obtain ⟨s1, hs1⟩ : ∃ s1, s1 = (nS s 7).2 := ⟨_, rfl⟩
  rw [← hs1] at HN
  have hB0 := H.out.2.1
  have hB1 := (nS_bytes s 7 hB0).1
  rw [← hs1] at hB1
  have hn1 : num32 (hS s1).1.1 := nS_val s1 4294967295 hB1 (by omega)
  have hB2 := (nS_bytes s1 4294967295 hB1).1
  have hn2 : num32 (hS (hS s1).2).1.1 := nS_val (hS s1).2 4294967295 hB2 (by omega)
  have hB3 := (nS_bytes (hS s1).2 4294967295 hB2).1
  have hn3 : num32 (hS (hS (hS s1).2).2).1.1 := nS_val (hS (hS s1).2).2 4294967295 hB3 (by omega)
  have hB4 := (nS_bytes (hS (hS s1).2).2 4294967295 hB3).1
  have HCK : Aside0 (∀ {b1 b2 b3 : Nat} {o1 o2 o3 : Obj} W, InvO 107 w p ok b1 o1 b2 o2 b3 o3 (hS (hS (hS s1).2).2).2 W ∧ Lie w p ok b1 b2 b3 → Calls Tryd.prog 28 #[.agg #[.int .i64 2, .int .i64 (hS s1).1.1, .int .i64 (hS (hS s1).2).1.1, .int .i64 (hS (hS (hS s1).2).2).1.1, .string ⟨#[]⟩, .string ⟨#[]⟩, .string ⟨#[]⟩, .string ⟨#[]⟩, .slice none 0 0]] W fun e w' => e = .returned (.int .i64 (chk ⟨2, (hS s1).1.1, (hS (hS s1).2).1.1, (hS (hS (hS s1).2).2).1.1, em, em, em, em, []⟩)) ∧ InvO 107 w p ok b1 o1 b2 o2 b3 o3 (hS (hS (hS s1).2).2).2 w') := ⟨fun W hW => by
    have hb : Below w0.heap.size w0 W := ⟨hW.1.but.os.trans hw.os, hW.1.but.tape.trans hw.tape, hW.1.but.output.trans hw.output, Nat.le_trans hw.size hW.1.but.size, fun k hk => (hW.1.but.block k (Nat.lt_of_lt_of_le hk hw.size) (by omega)).trans (hw.block k hk)⟩
    have := Check_x ⟨2, (hS s1).1.1, (hS (hS s1).2).1.1, (hS (hS (hS s1).2).2).1.1, em, em, em, em, []⟩ none 0 W (hgl.below hb) (Kd.C_nil k44 W) (Nat.le_refl 0) ⟨i64_k 2 (by omega), i64_32 hn1, i64_32 hn2, i64_32 hn3, Nat.zero_le _, Nat.zero_le _, Nat.zero_le _, Nat.zero_le _, Nat.zero_le _, fun i hi => absurd hi (Nat.not_lt_zero i)⟩
    exact this.mono fun e w' h => ⟨h.1, hW.1.below hW.2 h.2⟩⟩
  have HG := Aside0.mk hgl
  have HS1 := Aside0.mk hs1
  clear h hgl hw he7 hs1 hB0 hB1 hB2 hB3 hB4 hn1 hn2 hn3
  go_enter Tryd.func41, Tryd.ntmps41
  go_wp2_with (first
    | (go_at_call 40; (refine (HN.out _ (AtR.al (AtR.al H.out _) _)).mono ?_); rintro e w1 ⟨rfl, h2, h3⟩; have HI0 := Aside0.mk (inv_start 107 w p ok (.cells #[.pointer (some ⟨p, 0, none⟩)] 87) (.cells #[.int .i64 0, .int .i64 0, .int .i64 0, .int .i64 0, .string ⟨#[]⟩, .string ⟨#[]⟩, .string ⟨#[]⟩, .string ⟨#[]⟩, .slice none 0 0] 42) (.cells #[.int .i64 2, .int .i64 0, .int .i64 0, .int .i64 0, .string ⟨#[]⟩, .string ⟨#[]⟩, .string ⟨#[]⟩, .string ⟨#[]⟩, .slice none 0 0] 42) s1 w1 hpw h2 h3); have L := Aside0.mk (lie_start w p ok _ _ w1 hpw hok h3); have hne : ¬ w.heap.size = w1.heap.size := L.out.n13; have hne2 : ¬ w.heap.size + 1 = w1.heap.size := L.out.n23; have q0 := cell_blk (j := 0) (v := .pointer (some ⟨p, 0, none⟩)) HI0.out.k1 rfl; clear h2 h3)
    | (go_at_call 61; (refine (InvO.handle HI0.out L.out).mono ?_); rintro e w2 (⟨he1, rfl, hv1, hI⟩ | ⟨he, rfl, hb⟩); rotate_left; go_loud (focus (unfold stopE; go_wp2_with fail; exact ⟨rfl, opPost_stop hb he (opR_bad s HS1.out 2 _ hk (by decide) (by simp [bodyR, hS_stick (hS s1).2 he, tS_stick (hS s1).2 he]) he)⟩)); have HI1 := Aside0.mk hI; clear hI; have HV1 := Aside0.mk hv1; have HE1 := Aside0.mk he1; clear hv1 he1 q0; have q0 := cell_blk (j := 0) (v := .pointer (some ⟨p, 0, none⟩)) HI1.out.k1 rfl; have fz := Lib.frozen_of_heap HI1.out.k3 1; have HC := InvO.k3 HI1.out; have x0 := cell_blk (j := 0) (v := .int .i64 2) HC rfl; have x1 := cell_blk (j := 1) (v := .int .i64 0) HC rfl; have x2 := cell_blk (j := 2) (v := .int .i64 0) HC rfl; have x3 := cell_blk (j := 3) (v := .int .i64 0) HC rfl; have x4 := cell_blk (j := 4) (v := .string ⟨#[]⟩) HC rfl; have x5 := cell_blk (j := 5) (v := .string ⟨#[]⟩) HC rfl; have x6 := cell_blk (j := 6) (v := .string ⟨#[]⟩) HC rfl; have x7 := cell_blk (j := 7) (v := .string ⟨#[]⟩) HC rfl; have x8 := cell_blk (j := 8) (v := .slice none 0 0) HC rfl; clear HC)
    | (go_at_call 61; (refine (InvO.handle (InvO.set HI1.out L.out 1 (.int .i64 (hS s1).1.1)) L.out).mono ?_); rintro e w3 (⟨he2, rfl, hv2, hI⟩ | ⟨he, rfl, hb⟩); rotate_left; go_loud (focus (unfold stopE; go_wp2_with fail; exact ⟨rfl, opPost_stop hb he (opR_bad s HS1.out 2 _ hk (by decide) (by simp [bodyR, hS_stick (hS (hS s1).2).2 he, tS_stick (hS (hS s1).2).2 he]) he)⟩)); have HI2 := Aside0.mk hI; clear hI; have HV2 := Aside0.mk hv2; have HE2 := Aside0.mk he2; clear hv2 he2 q0 fz; clear x0 x1 x2 x3 x4 x5 x6 x7 x8; have q0 := cell_blk (j := 0) (v := .pointer (some ⟨p, 0, none⟩)) HI2.out.k1 rfl; have fz := Lib.frozen_of_heap HI2.out.k3 2; have HC := InvO.k3 HI2.out; have x0 := cell_blk (j := 0) (v := .int .i64 2) HC rfl; have x1 := cell_blk (j := 1) (v := .int .i64 (hS s1).1.1) HC rfl; have x2 := cell_blk (j := 2) (v := .int .i64 0) HC rfl; have x3 := cell_blk (j := 3) (v := .int .i64 0) HC rfl; have x4 := cell_blk (j := 4) (v := .string ⟨#[]⟩) HC rfl; have x5 := cell_blk (j := 5) (v := .string ⟨#[]⟩) HC rfl; have x6 := cell_blk (j := 6) (v := .string ⟨#[]⟩) HC rfl; have x7 := cell_blk (j := 7) (v := .string ⟨#[]⟩) HC rfl; have x8 := cell_blk (j := 8) (v := .slice none 0 0) HC rfl; clear HC)
    | (go_at_call 61; (refine (InvO.handle (InvO.set HI2.out L.out 2 (.int .i64 (hS (hS s1).2).1.1)) L.out).mono ?_); rintro e w4 (⟨he3, rfl, hv3, hI⟩ | ⟨he, rfl, hb⟩); rotate_left; go_loud (focus (unfold stopE; go_wp2_with fail; exact ⟨rfl, opPost_stop hb he (opR_bad s HS1.out 2 _ hk (by decide) (by simp [bodyR, hS_stick (hS (hS (hS s1).2).2).2 he, tS_stick (hS (hS (hS s1).2).2).2 he]) he)⟩)); have HI3 := Aside0.mk hI; clear hI; have HV3 := Aside0.mk hv3; have HE3 := Aside0.mk he3; clear hv3 he3 q0 fz; clear x0 x1 x2 x3 x4 x5 x6 x7 x8; have q0 := cell_blk (j := 0) (v := .pointer (some ⟨p, 0, none⟩)) HI3.out.k1 rfl; have fz := Lib.frozen_of_heap HI3.out.k3 3; have HC := InvO.k3 HI3.out; have x0 := cell_blk (j := 0) (v := .int .i64 2) HC rfl; have x1 := cell_blk (j := 1) (v := .int .i64 (hS s1).1.1) HC rfl; have x2 := cell_blk (j := 2) (v := .int .i64 (hS (hS s1).2).1.1) HC rfl; have x3 := cell_blk (j := 3) (v := .int .i64 0) HC rfl; have x4 := cell_blk (j := 4) (v := .string ⟨#[]⟩) HC rfl; have x5 := cell_blk (j := 5) (v := .string ⟨#[]⟩) HC rfl; have x6 := cell_blk (j := 6) (v := .string ⟨#[]⟩) HC rfl; have x7 := cell_blk (j := 7) (v := .string ⟨#[]⟩) HC rfl; have x8 := cell_blk (j := 8) (v := .slice none 0 0) HC rfl; clear HC)
    | (go_at_call 28; (refine (HCK.out _ ⟨(InvO.set HI3.out L.out 3 (.int .i64 (hS (hS (hS s1).2).2).1.1)), L.out⟩).mono ?_); rintro e w5 ⟨rfl, hI⟩; have HIC := Aside0.mk hI; clear hI q0 fz x0 x1 x2 x3 x4 x5 x6 x7 x8; have HC := InvO.k3 HIC.out; have x0 := cell_blk (j := 0) (v := .int .i64 2) HC rfl; have x1 := cell_blk (j := 1) (v := .int .i64 (hS s1).1.1) HC rfl; have x2 := cell_blk (j := 2) (v := .int .i64 (hS (hS s1).2).1.1) HC rfl; have x3 := cell_blk (j := 3) (v := .int .i64 (hS (hS (hS s1).2).2).1.1) HC rfl; have x4 := cell_blk (j := 4) (v := .string ⟨#[]⟩) HC rfl; have x5 := cell_blk (j := 5) (v := .string ⟨#[]⟩) HC rfl; have x6 := cell_blk (j := 6) (v := .string ⟨#[]⟩) HC rfl; have x7 := cell_blk (j := 7) (v := .string ⟨#[]⟩) HC rfl; have x8 := cell_blk (j := 8) (v := .slice none 0 0) HC rfl; have hY := InvO.k2 HIC.out; have HY := Aside0.mk hY; have y0 := cell_blk (j := 0) (v := .int .i64 0) hY rfl; have z0 := Lib.frozen_of_heap hY 0; have y1 := cell_blk (j := 1) (v := .int .i64 0) hY rfl; have z1 := Lib.frozen_of_heap hY 1; have y2 := cell_blk (j := 2) (v := .int .i64 0) hY rfl; have z2 := Lib.frozen_of_heap hY 2; have y3 := cell_blk (j := 3) (v := .int .i64 0) hY rfl; have z3 := Lib.frozen_of_heap hY 3; have y4 := cell_blk (j := 4) (v := .string ⟨#[]⟩) hY rfl; have z4 := Lib.frozen_of_heap hY 4; have y5 := cell_blk (j := 5) (v := .string ⟨#[]⟩) hY rfl; have z5 := Lib.frozen_of_heap hY 5; have y6 := cell_blk (j := 6) (v := .string ⟨#[]⟩) hY rfl; have z6 := Lib.frozen_of_heap hY 6; have y7 := cell_blk (j := 7) (v := .string ⟨#[]⟩) hY rfl; have z7 := Lib.frozen_of_heap hY 7; have y8 := cell_blk (j := 8) (v := .slice none 0 0) hY rfl; have z8 := Lib.frozen_of_heap hY 8; clear HC hY)
    | (go_at_call 42; (refine (must_d _ _).mono ?_); rintro e w6 ⟨⟨hc, rfl⟩ | ⟨hc, rfl⟩, rfl⟩; rotate_left; focus (unfold stopE; go_wp2_with fail; exact ⟨rfl, opPost_stop HIC.out.but hc (by rw [opR_good s HS1.out 2 hk (by decide) (by simpa [bodyR] using HE3.out)]; simp [bodyR])⟩)))
  have hpz := L.out.h2
  have hgood := opR_good s HS1.out 2 hk (by decide) (by simpa [bodyR] using HE3.out)
  refine bodyPost_ret (results_cell_row rfl _ _ (w.heap.size + 1) 42 _ (0, 0) _ rfl (set_blk (j := 8) (set_blk (j := 7) (set_blk (j := 6) (set_blk (j := 5) (set_blk (j := 4) (set_blk (j := 3) (set_blk (j := 2) (set_blk (j := 1) (set_blk (j := 0) (HY.out) _) _) _) _) _) _) _) _) _) Tryd.underlying42 rfl (by kernel_rfl)) rfl ?_
  simp only [bodyR, Int.reduceEq, if_false, if_true] at hgood
  rw [hgood]
  exact opPost_ok (AtB.set (AtB.set (AtB.set (AtB.set (AtB.set (AtB.set (AtB.set (AtB.set (AtB.set ⟨HIC.out.but, HIC.out.at_⟩ hpw hpz hok 0 _) hpw hpz hok 1 _) hpw hpz hok 2 _) hpw hpz hok 3 _) hpw hpz hok 4 _) hpw hpz hok 5 _) hpw hpz hok 6 _) hpw hpz hok 7 _) hpw hpz hok 8 _) hc (.slice none 0 0) rfl (Kd.R_nil k44 44 _ _ _)
set_option maxHeartbeats 2000000 in
set_option maxRecDepth 100000 in
theorem op_3 (w0 : World) (hgl : GL w0) (p : Nat) (ok : Nat → Prop) (s : St) (w : World) (hok : ∀ k, ok k → k < p) (hw : Below w0.heap.size w0 w) (hw0 : w0.heap.size ≤ p) (h : AtR 107 p ok s.1 s.2 w) (hk : (nS s 7).1 = (3, 0)) :
    Calls Tryd.prog 41 #[.agg #[.pointer (some ⟨p, 0, none⟩)]] w fun e w' => opPost w p ok (opR s) e w' := by
  have hpw := h.lt
  have H := Aside0.mk h
  have he7 : (nS s 7).2.2 = 0 := by rw [← nS_err, hk]
  have HN : Aside0 (∀ W, AtR 107 p ok s.1 s.2 W → Calls Tryd.prog 40 #[.agg #[.pointer (some ⟨p, 0, none⟩)], .int .u64 7] W fun e w' => e = .returned (.int .i64 3) ∧ AtR 107 p ok (nS s 7).2.1 (nS s 7).2.2 w' ∧ But (· = p) W w') := ⟨fun W hW => (num_d 7 (by omega) p ok s W hW).mono (by
    rintro e w' ⟨⟨h0, he, ha⟩ | ⟨h0, he⟩, hb⟩
    · rw [hk] at he
      exact ⟨he, ha, hb⟩
    · exact absurd he7 h0)⟩
  obtain ⟨s1, hs1⟩ : ∃ s1, s1 = (nS s 7).2 := ⟨_, rfl⟩
  rw [← hs1] at HN
  have hB0 := H.out.2.1
  have hB1 := (nS_bytes s 7 hB0).1
  rw [← hs1] at hB1
  have hn1 : num32 (hS s1).1.1 := nS_val s1 4294967295 hB1 (by omega)
  have hB2 := (nS_bytes s1 4294967295 hB1).1
  have hn3 : num32 (hS (hS s1).2).1.1 := nS_val (hS s1).2 4294967295 hB2 (by omega)
  have hB3 := (nS_bytes (hS s1).2 4294967295 hB2).1
  have HCK : Aside0 (∀ {b1 b2 b3 : Nat} {o1 o2 o3 : Obj} W, InvO 107 w p ok b1 o1 b2 o2 b3 o3 (hS (hS s1).2).2 W ∧ Lie w p ok b1 b2 b3 → Calls Tryd.prog 28 #[.agg #[.int .i64 3, .int .i64 (hS s1).1.1, .int .i64 0, .int .i64 (hS (hS s1).2).1.1, .string ⟨#[]⟩, .string ⟨#[]⟩, .string ⟨#[]⟩, .string ⟨#[]⟩, .slice none 0 0]] W fun e w' => e = .returned (.int .i64 (chk ⟨3, (hS s1).1.1, 0, (hS (hS s1).2).1.1, em, em, em, em, []⟩)) ∧ InvO 107 w p ok b1 o1 b2 o2 b3 o3 (hS (hS s1).2).2 w') := ⟨fun W hW => by
    have hb : Below w0.heap.size w0 W := ⟨hW.1.but.os.trans hw.os, hW.1.but.tape.trans hw.tape, hW.1.but.output.trans hw.output, Nat.le_trans hw.size hW.1.but.size, fun k hk => (hW.1.but.block k (Nat.lt_of_lt_of_le hk hw.size) (by omega)).trans (hw.block k hk)⟩
    have := Check_x ⟨3, (hS s1).1.1, 0, (hS (hS s1).2).1.1, em, em, em, em, []⟩ none 0 W (hgl.below hb) (Kd.C_nil k44 W) (Nat.le_refl 0) ⟨i64_k 3 (by omega), i64_32 hn1, i64_k 0 (by omega), i64_32 hn3, Nat.zero_le _, Nat.zero_le _, Nat.zero_le _, Nat.zero_le _, Nat.zero_le _, fun i hi => absurd hi (Nat.not_lt_zero i)⟩
    exact this.mono fun e w' h => ⟨h.1, hW.1.below hW.2 h.2⟩⟩
  have HG := Aside0.mk hgl
  have HS1 := Aside0.mk hs1
  clear h hgl hw he7 hs1 hB0 hB1 hB2 hB3 hn1 hn3
  go_enter Tryd.func41, Tryd.ntmps41
  go_wp2_with (first
    | (go_at_call 40; (refine (HN.out _ (AtR.al (AtR.al H.out _) _)).mono ?_); rintro e w1 ⟨rfl, h2, h3⟩; have HI0 := Aside0.mk (inv_start 107 w p ok (.cells #[.pointer (some ⟨p, 0, none⟩)] 87) (.cells #[.int .i64 0, .int .i64 0, .int .i64 0, .int .i64 0, .string ⟨#[]⟩, .string ⟨#[]⟩, .string ⟨#[]⟩, .string ⟨#[]⟩, .slice none 0 0] 42) (.cells #[.int .i64 3, .int .i64 0, .int .i64 0, .int .i64 0, .string ⟨#[]⟩, .string ⟨#[]⟩, .string ⟨#[]⟩, .string ⟨#[]⟩, .slice none 0 0] 42) s1 w1 hpw h2 h3); have L := Aside0.mk (lie_start w p ok _ _ w1 hpw hok h3); have hne : ¬ w.heap.size = w1.heap.size := L.out.n13; have hne2 : ¬ w.heap.size + 1 = w1.heap.size := L.out.n23; have q0 := cell_blk (j := 0) (v := .pointer (some ⟨p, 0, none⟩)) HI0.out.k1 rfl; clear h2 h3)
    | (go_at_call 61; (refine (InvO.handle HI0.out L.out).mono ?_); rintro e w2 (⟨he1, rfl, hv1, hI⟩ | ⟨he, rfl, hb⟩); rotate_left; go_loud (focus (unfold stopE; go_wp2_with fail; exact ⟨rfl, opPost_stop hb he (opR_bad s HS1.out 3 _ hk (by decide) (by simp [bodyR, hS_stick (hS s1).2 he, tS_stick (hS s1).2 he]) he)⟩)); have HI1 := Aside0.mk hI; clear hI; have HV1 := Aside0.mk hv1; have HE1 := Aside0.mk he1; clear hv1 he1 q0; have q0 := cell_blk (j := 0) (v := .pointer (some ⟨p, 0, none⟩)) HI1.out.k1 rfl; have fz := Lib.frozen_of_heap HI1.out.k3 1; have HC := InvO.k3 HI1.out; have x0 := cell_blk (j := 0) (v := .int .i64 3) HC rfl; have x1 := cell_blk (j := 1) (v := .int .i64 0) HC rfl; have x2 := cell_blk (j := 2) (v := .int .i64 0) HC rfl; have x3 := cell_blk (j := 3) (v := .int .i64 0) HC rfl; have x4 := cell_blk (j := 4) (v := .string ⟨#[]⟩) HC rfl; have x5 := cell_blk (j := 5) (v := .string ⟨#[]⟩) HC rfl; have x6 := cell_blk (j := 6) (v := .string ⟨#[]⟩) HC rfl; have x7 := cell_blk (j := 7) (v := .string ⟨#[]⟩) HC rfl; have x8 := cell_blk (j := 8) (v := .slice none 0 0) HC rfl; clear HC)
    | (go_at_call 61; (refine (InvO.handle (InvO.set HI1.out L.out 1 (.int .i64 (hS s1).1.1)) L.out).mono ?_); rintro e w3 (⟨he2, rfl, hv2, hI⟩ | ⟨he, rfl, hb⟩); rotate_left; go_loud (focus (unfold stopE; go_wp2_with fail; exact ⟨rfl, opPost_stop hb he (opR_bad s HS1.out 3 _ hk (by decide) (by simp [bodyR, hS_stick (hS (hS s1).2).2 he, tS_stick (hS (hS s1).2).2 he]) he)⟩)); have HI2 := Aside0.mk hI; clear hI; have HV2 := Aside0.mk hv2; have HE2 := Aside0.mk he2; clear hv2 he2 q0 fz; clear x0 x1 x2 x3 x4 x5 x6 x7 x8; have q0 := cell_blk (j := 0) (v := .pointer (some ⟨p, 0, none⟩)) HI2.out.k1 rfl; have fz := Lib.frozen_of_heap HI2.out.k3 3; have HC := InvO.k3 HI2.out; have x0 := cell_blk (j := 0) (v := .int .i64 3) HC rfl; have x1 := cell_blk (j := 1) (v := .int .i64 (hS s1).1.1) HC rfl; have x2 := cell_blk (j := 2) (v := .int .i64 0) HC rfl; have x3 := cell_blk (j := 3) (v := .int .i64 0) HC rfl; have x4 := cell_blk (j := 4) (v := .string ⟨#[]⟩) HC rfl; have x5 := cell_blk (j := 5) (v := .string ⟨#[]⟩) HC rfl; have x6 := cell_blk (j := 6) (v := .string ⟨#[]⟩) HC rfl; have x7 := cell_blk (j := 7) (v := .string ⟨#[]⟩) HC rfl; have x8 := cell_blk (j := 8) (v := .slice none 0 0) HC rfl; clear HC)
    | (go_at_call 28; (refine (HCK.out _ ⟨(InvO.set HI2.out L.out 3 (.int .i64 (hS (hS s1).2).1.1)), L.out⟩).mono ?_); rintro e w4 ⟨rfl, hI⟩; have HIC := Aside0.mk hI; clear hI q0 fz x0 x1 x2 x3 x4 x5 x6 x7 x8; have HC := InvO.k3 HIC.out; have x0 := cell_blk (j := 0) (v := .int .i64 3) HC rfl; have x1 := cell_blk (j := 1) (v := .int .i64 (hS s1).1.1) HC rfl; have x2 := cell_blk (j := 2) (v := .int .i64 0) HC rfl; have x3 := cell_blk (j := 3) (v := .int .i64 (hS (hS s1).2).1.1) HC rfl; have x4 := cell_blk (j := 4) (v := .string ⟨#[]⟩) HC rfl; have x5 := cell_blk (j := 5) (v := .string ⟨#[]⟩) HC rfl; have x6 := cell_blk (j := 6) (v := .string ⟨#[]⟩) HC rfl; have x7 := cell_blk (j := 7) (v := .string ⟨#[]⟩) HC rfl; have x8 := cell_blk (j := 8) (v := .slice none 0 0) HC rfl; have hY := InvO.k2 HIC.out; have HY := Aside0.mk hY; have y0 := cell_blk (j := 0) (v := .int .i64 0) hY rfl; have z0 := Lib.frozen_of_heap hY 0; have y1 := cell_blk (j := 1) (v := .int .i64 0) hY rfl; have z1 := Lib.frozen_of_heap hY 1; have y2 := cell_blk (j := 2) (v := .int .i64 0) hY rfl; have z2 := Lib.frozen_of_heap hY 2; have y3 := cell_blk (j := 3) (v := .int .i64 0) hY rfl; have z3 := Lib.frozen_of_heap hY 3; have y4 := cell_blk (j := 4) (v := .string ⟨#[]⟩) hY rfl; have z4 := Lib.frozen_of_heap hY 4; have y5 := cell_blk (j := 5) (v := .string ⟨#[]⟩) hY rfl; have z5 := Lib.frozen_of_heap hY 5; have y6 := cell_blk (j := 6) (v := .string ⟨#[]⟩) hY rfl; have z6 := Lib.frozen_of_heap hY 6; have y7 := cell_blk (j := 7) (v := .string ⟨#[]⟩) hY rfl; have z7 := Lib.frozen_of_heap hY 7; have y8 := cell_blk (j := 8) (v := .slice none 0 0) hY rfl; have z8 := Lib.frozen_of_heap hY 8; clear HC hY)
    | (go_at_call 42; (refine (must_d _ _).mono ?_); rintro e w5 ⟨⟨hc, rfl⟩ | ⟨hc, rfl⟩, rfl⟩; rotate_left; focus (unfold stopE; go_wp2_with fail; exact ⟨rfl, opPost_stop HIC.out.but hc (by rw [opR_good s HS1.out 3 hk (by decide) (by simpa [bodyR] using HE2.out)]; simp [bodyR])⟩)))
  have hpz := L.out.h2
  have hgood := opR_good s HS1.out 3 hk (by decide) (by simpa [bodyR] using HE2.out)
  refine bodyPost_ret (results_cell_row rfl _ _ (w.heap.size + 1) 42 _ (0, 0) _ rfl (set_blk (j := 8) (set_blk (j := 7) (set_blk (j := 6) (set_blk (j := 5) (set_blk (j := 4) (set_blk (j := 3) (set_blk (j := 2) (set_blk (j := 1) (set_blk (j := 0) (HY.out) _) _) _) _) _) _) _) _) _) Tryd.underlying42 rfl (by kernel_rfl)) rfl ?_
  simp only [bodyR, Int.reduceEq, if_false, if_true] at hgood
  rw [hgood]
  exact opPost_ok (AtB.set (AtB.set (AtB.set (AtB.set (AtB.set (AtB.set (AtB.set (AtB.set (AtB.set ⟨HIC.out.but, HIC.out.at_⟩ hpw hpz hok 0 _) hpw hpz hok 1 _) hpw hpz hok 2 _) hpw hpz hok 3 _) hpw hpz hok 4 _) hpw hpz hok 5 _) hpw hpz hok 6 _) hpw hpz hok 7 _) hpw hpz hok 8 _) hc (.slice none 0 0) rfl (Kd.R_nil k44 44 _ _ _)
set_option maxHeartbeats 2000000 in
set_option maxRecDepth 100000 in
theorem op_4 (w0 : World) (hgl : GL w0) (p : Nat) (ok : Nat → Prop) (s : St) (w : World) (hok : ∀ k, ok k → k < p) (hw : Below w0.heap.size w0 w) (hw0 : w0.heap.size ≤ p) (h : AtR 107 p ok s.1 s.2 w) (hk : (nS s 7).1 = (4, 0)) :
    Calls Tryd.prog 41 #[.agg #[.pointer (some ⟨p, 0, none⟩)]] w fun e w' => opPost w p ok (opR s) e w' := by
  have hpw := h.lt
  have H := Aside0.mk h
  have he7 : (nS s 7).2.2 = 0 := by rw [← nS_err, hk]
  have HN : Aside0 (∀ W, AtR 107 p ok s.1 s.2 W → Calls Tryd.prog 40 #[.agg #[.pointer (some ⟨p, 0, none⟩)], .int .u64 7] W fun e w' => e = .returned (.int .i64 4) ∧ AtR 107 p ok (nS s 7).2.1 (nS s 7).2.2 w' ∧ But (· = p) W w') := ⟨fun W hW => (num_d 7 (by omega) p ok s W hW).mono (by
    rintro e w' ⟨⟨h0, he, ha⟩ | ⟨h0, he⟩, hb⟩
    · rw [hk] at he
      exact ⟨he, ha, hb⟩
    · exact absurd he7 h0)⟩
  obtain ⟨s1, hs1⟩ : ∃ s1, s1 = (nS s 7).2 := ⟨_, rfl⟩
  rw [← hs1] at HN
  have hB0 := H.out.2.1
  have hB1 := (nS_bytes s 7 hB0).1
  rw [← hs1] at hB1
  have hn1 : num32 (hS s1).1.1 := nS_val s1 4294967295 hB1 (by omega)
  have hB2 := (nS_bytes s1 4294967295 hB1).1
  have HCK : Aside0 (∀ {b1 b2 b3 : Nat} {o1 o2 o3 : Obj} W, InvO 107 w p ok b1 o1 b2 o2 b3 o3 (hS s1).2 W ∧ Lie w p ok b1 b2 b3 → Calls Tryd.prog 28 #[.agg #[.int .i64 4, .int .i64 (hS s1).1.1, .int .i64 0, .int .i64 0, .string ⟨#[]⟩, .string ⟨#[]⟩, .string ⟨#[]⟩, .string ⟨#[]⟩, .slice none 0 0]] W fun e w' => e = .returned (.int .i64 (chk ⟨4, (hS s1).1.1, 0, 0, em, em, em, em, []⟩)) ∧ InvO 107 w p ok b1 o1 b2 o2 b3 o3 (hS s1).2 w') := ⟨fun W hW => by
    have hb : Below w0.heap.size w0 W := ⟨hW.1.but.os.trans hw.os, hW.1.but.tape.trans hw.tape, hW.1.but.output.trans hw.output, Nat.le_trans hw.size hW.1.but.size, fun k hk => (hW.1.but.block k (Nat.lt_of_lt_of_le hk hw.size) (by omega)).trans (hw.block k hk)⟩
    have := Check_x ⟨4, (hS s1).1.1, 0, 0, em, em, em, em, []⟩ none 0 W (hgl.below hb) (Kd.C_nil k44 W) (Nat.le_refl 0) ⟨i64_k 4 (by omega), i64_32 hn1, i64_k 0 (by omega), i64_k 0 (by omega), Nat.zero_le _, Nat.zero_le _, Nat.zero_le _, Nat.zero_le _, Nat.zero_le _, fun i hi => absurd hi (Nat.not_lt_zero i)⟩
    exact this.mono fun e w' h => ⟨h.1, hW.1.below hW.2 h.2⟩⟩
  have HG := Aside0.mk hgl
  have HS1 := Aside0.mk hs1
  clear h hgl hw he7 hs1 hB0 hB1 hB2 hn1
  go_enter Tryd.func41, Tryd.ntmps41
  go_wp2_with (first
    | (go_at_call 40; (refine (HN.out _ (AtR.al (AtR.al H.out _) _)).mono ?_); rintro e w1 ⟨rfl, h2, h3⟩; have HI0 := Aside0.mk (inv_start 107 w p ok (.cells #[.pointer (some ⟨p, 0, none⟩)] 87) (.cells #[.int .i64 0, .int .i64 0, .int .i64 0, .int .i64 0, .string ⟨#[]⟩, .string ⟨#[]⟩, .string ⟨#[]⟩, .string ⟨#[]⟩, .slice none 0 0] 42) (.cells #[.int .i64 4, .int .i64 0, .int .i64 0, .int .i64 0, .string ⟨#[]⟩, .string ⟨#[]⟩, .string ⟨#[]⟩, .string ⟨#[]⟩, .slice none 0 0] 42) s1 w1 hpw h2 h3); have L := Aside0.mk (lie_start w p ok _ _ w1 hpw hok h3); have hne : ¬ w.heap.size = w1.heap.size := L.out.n13; have hne2 : ¬ w.heap.size + 1 = w1.heap.size := L.out.n23; have q0 := cell_blk (j := 0) (v := .pointer (some ⟨p, 0, none⟩)) HI0.out.k1 rfl; clear h2 h3)
    | (go_at_call 61; (refine (InvO.handle HI0.out L.out).mono ?_); rintro e w2 (⟨he1, rfl, hv1, hI⟩ | ⟨he, rfl, hb⟩); rotate_left; go_loud (focus (unfold stopE; go_wp2_with fail; exact ⟨rfl, opPost_stop hb he (opR_bad s HS1.out 4 _ hk (by decide) (by simp [bodyR, hS_stick (hS s1).2 he, tS_stick (hS s1).2 he]) he)⟩)); have HI1 := Aside0.mk hI; clear hI; have HV1 := Aside0.mk hv1; have HE1 := Aside0.mk he1; clear hv1 he1 q0; have q0 := cell_blk (j := 0) (v := .pointer (some ⟨p, 0, none⟩)) HI1.out.k1 rfl; have fz := Lib.frozen_of_heap HI1.out.k3 1; have HC := InvO.k3 HI1.out; have x0 := cell_blk (j := 0) (v := .int .i64 4) HC rfl; have x1 := cell_blk (j := 1) (v := .int .i64 0) HC rfl; have x2 := cell_blk (j := 2) (v := .int .i64 0) HC rfl; have x3 := cell_blk (j := 3) (v := .int .i64 0) HC rfl; have x4 := cell_blk (j := 4) (v := .string ⟨#[]⟩) HC rfl; have x5 := cell_blk (j := 5) (v := .string ⟨#[]⟩) HC rfl; have x6 := cell_blk (j := 6) (v := .string ⟨#[]⟩) HC rfl; have x7 := cell_blk (j := 7) (v := .string ⟨#[]⟩) HC rfl; have x8 := cell_blk (j := 8) (v := .slice none 0 0) HC rfl; clear HC)
    | (go_at_call 28; (refine (HCK.out _ ⟨(InvO.set HI1.out L.out 1 (.int .i64 (hS s1).1.1)), L.out⟩).mono ?_); rintro e w3 ⟨rfl, hI⟩; have HIC := Aside0.mk hI; clear hI q0 fz x0 x1 x2 x3 x4 x5 x6 x7 x8; have HC := InvO.k3 HIC.out; have x0 := cell_blk (j := 0) (v := .int .i64 4) HC rfl; have x1 := cell_blk (j := 1) (v := .int .i64 (hS s1).1.1) HC rfl; have x2 := cell_blk (j := 2) (v := .int .i64 0) HC rfl; have x3 := cell_blk (j := 3) (v := .int .i64 0) HC rfl; have x4 := cell_blk (j := 4) (v := .string ⟨#[]⟩) HC rfl; have x5 := cell_blk (j := 5) (v := .string ⟨#[]⟩) HC rfl; have x6 := cell_blk (j := 6) (v := .string ⟨#[]⟩) HC rfl; have x7 := cell_blk (j := 7) (v := .string ⟨#[]⟩) HC rfl; have x8 := cell_blk (j := 8) (v := .slice none 0 0) HC rfl; have hY := InvO.k2 HIC.out; have HY := Aside0.mk hY; have y0 := cell_blk (j := 0) (v := .int .i64 0) hY rfl; have z0 := Lib.frozen_of_heap hY 0; have y1 := cell_blk (j := 1) (v := .int .i64 0) hY rfl; have z1 := Lib.frozen_of_heap hY 1; have y2 := cell_blk (j := 2) (v := .int .i64 0) hY rfl; have z2 := Lib.frozen_of_heap hY 2; have y3 := cell_blk (j := 3) (v := .int .i64 0) hY rfl; have z3 := Lib.frozen_of_heap hY 3; have y4 := cell_blk (j := 4) (v := .string ⟨#[]⟩) hY rfl; have z4 := Lib.frozen_of_heap hY 4; have y5 := cell_blk (j := 5) (v := .string ⟨#[]⟩) hY rfl; have z5 := Lib.frozen_of_heap hY 5; have y6 := cell_blk (j := 6) (v := .string ⟨#[]⟩) hY rfl; have z6 := Lib.frozen_of_heap hY 6; have y7 := cell_blk (j := 7) (v := .string ⟨#[]⟩) hY rfl; have z7 := Lib.frozen_of_heap hY 7; have y8 := cell_blk (j := 8) (v := .slice none 0 0) hY rfl; have z8 := Lib.frozen_of_heap hY 8; clear HC hY)
    | (go_at_call 42; (refine (must_d _ _).mono ?_); rintro e w4 ⟨⟨hc, rfl⟩ | ⟨hc, rfl⟩, rfl⟩; rotate_left; focus (unfold stopE; go_wp2_with fail; exact ⟨rfl, opPost_stop HIC.out.but hc (by rw [opR_good s HS1.out 4 hk (by decide) (by simpa [bodyR] using HE1.out)]; simp [bodyR])⟩)))
  have hpz := L.out.h2
  have hgood := opR_good s HS1.out 4 hk (by decide) (by simpa [bodyR] using HE1.out)
  refine bodyPost_ret (results_cell_row rfl _ _ (w.heap.size + 1) 42 _ (0, 0) _ rfl (set_blk (j := 8) (set_blk (j := 7) (set_blk (j := 6) (set_blk (j := 5) (set_blk (j := 4) (set_blk (j := 3) (set_blk (j := 2) (set_blk (j := 1) (set_blk (j := 0) (HY.out) _) _) _) _) _) _) _) _) _) Tryd.underlying42 rfl (by kernel_rfl)) rfl ?_
  simp only [bodyR, Int.reduceEq, if_false, if_true] at hgood
  rw [hgood]
  exact opPost_ok (AtB.set (AtB.set (AtB.set (AtB.set (AtB.set (AtB.set (AtB.set (AtB.set (AtB.set ⟨HIC.out.but, HIC.out.at_⟩ hpw hpz hok 0 _) hpw hpz hok 1 _) hpw hpz hok 2 _) hpw hpz hok 3 _) hpw hpz hok 4 _) hpw hpz hok 5 _) hpw hpz hok 6 _) hpw hpz hok 7 _) hpw hpz hok 8 _) hc (.slice none 0 0) rfl (Kd.R_nil k44 44 _ _ _)
end Go.Proofs.YtfpijjjmgggfkaaDoorE

namespace Go.Proofs.YtfpijjjmgggfkaaDoorE
open Go Go.RowKit Go.Proofs.YtfpijjjmgggfkaaDoorW.PrintWords Go.Proofs.YtfpijjjmgggfkaaDoorW.PrintMore Go.Proofs.YtfpijjjmgggfkaaDoorX Go.Proofs.YtfpijjjmgggfkaaDoor.P26 Go.Proofs.YtfpijjjmgggfkaaDoor.L01
set_option linter.unusedVariables false
set_option linter.unusedSimpArgs false
set_option maxHeartbeats 2000000 in
set_option maxRecDepth 100000 in
theorem op_5 (w0 : World) (hgl : GL w0) (p : Nat) (ok : Nat → Prop) (s : St) (w : World) (hok : ∀ k, ok k → k < p) (hw : Below w0.heap.size w0 w) (hw0 : w0.heap.size ≤ p) (h : AtR 107 p ok s.1 s.2 w) (hk : (nS s 7).1 = (5, 0)) :
    Calls Tryd.prog 41 #[.agg #[.pointer (some ⟨p, 0, none⟩)]] w fun e w' => opPost w p ok (opR s) e w' := by
  have hpw := h.lt
  have H := Aside0.mk h
  have he7 : (nS s 7).2.2 = 0 := by rw [← nS_err, hk]
  have HN : Aside0 (∀ W, AtR 107 p ok s.1 s.2 W → Calls Tryd.prog 40 #[.agg #[.pointer (some ⟨p, 0, none⟩)], .int .u64 7] W fun e w' => e = .returned (.int .i64 5) ∧ AtR 107 p ok (nS s 7).2.1 (nS s 7).2.2 w' ∧ But (· = p) W w') := ⟨fun W hW => (num_d 7 (by omega) p ok s W hW).mono (by
    rintro e w' ⟨⟨h0, he, ha⟩ | ⟨h0, he⟩, hb⟩
    · rw [hk] at he
      exact ⟨he, ha, hb⟩
    · exact absurd he7 h0)⟩
  obtain ⟨s1, hs1⟩ : ∃ s1, s1 = (nS s 7).2 := ⟨_, rfl⟩
  rw [← hs1] at HN
  have hB0 := H.out.2.1
  have hB1 := (nS_bytes s 7 hB0).1
  rw [← hs1] at hB1
  have hn1 : num32 (hS s1).1.1 := nS_val s1 4294967295 hB1 (by omega)
  have hB2 := (nS_bytes s1 4294967295 hB1).1
  have hs6 : ((tS (hS s1).2).1.1).size ≤ 65536 := tS_size (hS s1).2 hB2
  have hB3 := (tS_bytes (hS s1).2 hB2).1
  have hs7 : ((tS (tS (hS s1).2).2).1.1).size ≤ 65536 := tS_size (tS (hS s1).2).2 hB3
  have hB4 := (tS_bytes (tS (hS s1).2).2 hB3).1
  have HCK : Aside0 (∀ {b1 b2 b3 : Nat} {o1 o2 o3 : Obj} W, InvO 107 w p ok b1 o1 b2 o2 b3 o3 (tS (tS (hS s1).2).2).2 W ∧ Lie w p ok b1 b2 b3 → Calls Tryd.prog 28 #[.agg #[.int .i64 5, .int .i64 (hS s1).1.1, .int .i64 0, .int .i64 0, .string ⟨#[]⟩, .string ⟨#[]⟩, .string (tS (hS s1).2).1.1, .string (tS (tS (hS s1).2).2).1.1, .slice none 0 0]] W fun e w' => e = .returned (.int .i64 (chk ⟨5, (hS s1).1.1, 0, 0, em, em, (tS (hS s1).2).1.1, (tS (tS (hS s1).2).2).1.1, []⟩)) ∧ InvO 107 w p ok b1 o1 b2 o2 b3 o3 (tS (tS (hS s1).2).2).2 w') := ⟨fun W hW => by
    have hb : Below w0.heap.size w0 W := ⟨hW.1.but.os.trans hw.os, hW.1.but.tape.trans hw.tape, hW.1.but.output.trans hw.output, Nat.le_trans hw.size hW.1.but.size, fun k hk => (hW.1.but.block k (Nat.lt_of_lt_of_le hk hw.size) (by omega)).trans (hw.block k hk)⟩
    have := Check_x ⟨5, (hS s1).1.1, 0, 0, em, em, (tS (hS s1).2).1.1, (tS (tS (hS s1).2).2).1.1, []⟩ none 0 W (hgl.below hb) (Kd.C_nil k44 W) (Nat.le_refl 0) ⟨i64_k 5 (by omega), i64_32 hn1, i64_k 0 (by omega), i64_k 0 (by omega), Nat.zero_le _, Nat.zero_le _, size_up hs6, size_up hs7, Nat.zero_le _, fun i hi => absurd hi (Nat.not_lt_zero i)⟩
    exact this.mono fun e w' h => ⟨h.1, hW.1.below hW.2 h.2⟩⟩
  have HG := Aside0.mk hgl
  have HS1 := Aside0.mk hs1
  clear h hgl hw he7 hs1 hB0 hB1 hB2 hB3 hB4 hn1 hs6 hs7
  go_enter Tryd.func41, Tryd.ntmps41
  go_wp2_with (first
    | (go_at_call 40; (refine (HN.out _ (AtR.al (AtR.al H.out _) _)).mono ?_); rintro e w1 ⟨rfl, h2, h3⟩; have HI0 := Aside0.mk (inv_start 107 w p ok (.cells #[.pointer (some ⟨p, 0, none⟩)] 87) (.cells #[.int .i64 0, .int .i64 0, .int .i64 0, .int .i64 0, .string ⟨#[]⟩, .string ⟨#[]⟩, .string ⟨#[]⟩, .string ⟨#[]⟩, .slice none 0 0] 42) (.cells #[.int .i64 5, .int .i64 0, .int .i64 0, .int .i64 0, .string ⟨#[]⟩, .string ⟨#[]⟩, .string ⟨#[]⟩, .string ⟨#[]⟩, .slice none 0 0] 42) s1 w1 hpw h2 h3); have L := Aside0.mk (lie_start w p ok _ _ w1 hpw hok h3); have hne : ¬ w.heap.size = w1.heap.size := L.out.n13; have hne2 : ¬ w.heap.size + 1 = w1.heap.size := L.out.n23; have q0 := cell_blk (j := 0) (v := .pointer (some ⟨p, 0, none⟩)) HI0.out.k1 rfl; clear h2 h3)
    | (go_at_call 61; (refine (InvO.handle HI0.out L.out).mono ?_); rintro e w2 (⟨he1, rfl, hv1, hI⟩ | ⟨he, rfl, hb⟩); rotate_left; go_loud (focus (unfold stopE; go_wp2_with fail; exact ⟨rfl, opPost_stop hb he (opR_bad s HS1.out 5 _ hk (by decide) (by simp [bodyR, hS_stick (hS s1).2 he, tS_stick (hS s1).2 he]) he)⟩)); have HI1 := Aside0.mk hI; clear hI; have HV1 := Aside0.mk hv1; have HE1 := Aside0.mk he1; clear hv1 he1 q0; have q0 := cell_blk (j := 0) (v := .pointer (some ⟨p, 0, none⟩)) HI1.out.k1 rfl; have fz := Lib.frozen_of_heap HI1.out.k3 1; have HC := InvO.k3 HI1.out; have x0 := cell_blk (j := 0) (v := .int .i64 5) HC rfl; have x1 := cell_blk (j := 1) (v := .int .i64 0) HC rfl; have x2 := cell_blk (j := 2) (v := .int .i64 0) HC rfl; have x3 := cell_blk (j := 3) (v := .int .i64 0) HC rfl; have x4 := cell_blk (j := 4) (v := .string ⟨#[]⟩) HC rfl; have x5 := cell_blk (j := 5) (v := .string ⟨#[]⟩) HC rfl; have x6 := cell_blk (j := 6) (v := .string ⟨#[]⟩) HC rfl; have x7 := cell_blk (j := 7) (v := .string ⟨#[]⟩) HC rfl; have x8 := cell_blk (j := 8) (v := .slice none 0 0) HC rfl; clear HC)
    | (go_at_call 60; (refine (InvO.text (InvO.set HI1.out L.out 1 (.int .i64 (hS s1).1.1)) L.out).mono ?_); rintro e w3 (⟨he2, rfl, hv2, hI⟩ | ⟨he, rfl, hb⟩); rotate_left; go_loud (focus (unfold stopE; go_wp2_with fail; exact ⟨rfl, opPost_stop hb he (opR_bad s HS1.out 5 _ hk (by decide) (by simp [bodyR, hS_stick (tS (hS s1).2).2 he, tS_stick (tS (hS s1).2).2 he]) he)⟩)); have HI2 := Aside0.mk hI; clear hI; have HV2 := Aside0.mk hv2; have HE2 := Aside0.mk he2; clear hv2 he2 q0 fz; clear x0 x1 x2 x3 x4 x5 x6 x7 x8; have q0 := cell_blk (j := 0) (v := .pointer (some ⟨p, 0, none⟩)) HI2.out.k1 rfl; have fz := Lib.frozen_of_heap HI2.out.k3 6; have HC := InvO.k3 HI2.out; have x0 := cell_blk (j := 0) (v := .int .i64 5) HC rfl; have x1 := cell_blk (j := 1) (v := .int .i64 (hS s1).1.1) HC rfl; have x2 := cell_blk (j := 2) (v := .int .i64 0) HC rfl; have x3 := cell_blk (j := 3) (v := .int .i64 0) HC rfl; have x4 := cell_blk (j := 4) (v := .string ⟨#[]⟩) HC rfl; have x5 := cell_blk (j := 5) (v := .string ⟨#[]⟩) HC rfl; have x6 := cell_blk (j := 6) (v := .string ⟨#[]⟩) HC rfl; have x7 := cell_blk (j := 7) (v := .string ⟨#[]⟩) HC rfl; have x8 := cell_blk (j := 8) (v := .slice none 0 0) HC rfl; clear HC)
    | (go_at_call 60; (refine (InvO.text (InvO.set HI2.out L.out 6 (.string (tS (hS s1).2).1.1)) L.out).mono ?_); rintro e w4 (⟨he3, rfl, hv3, hI⟩ | ⟨he, rfl, hb⟩); rotate_left; go_loud (focus (unfold stopE; go_wp2_with fail; exact ⟨rfl, opPost_stop hb he (opR_bad s HS1.out 5 _ hk (by decide) (by simp [bodyR, hS_stick (tS (tS (hS s1).2).2).2 he, tS_stick (tS (tS (hS s1).2).2).2 he]) he)⟩)); have HI3 := Aside0.mk hI; clear hI; have HV3 := Aside0.mk hv3; have HE3 := Aside0.mk he3; clear hv3 he3 q0 fz; clear x0 x1 x2 x3 x4 x5 x6 x7 x8; have q0 := cell_blk (j := 0) (v := .pointer (some ⟨p, 0, none⟩)) HI3.out.k1 rfl; have fz := Lib.frozen_of_heap HI3.out.k3 7; have HC := InvO.k3 HI3.out; have x0 := cell_blk (j := 0) (v := .int .i64 5) HC rfl; have x1 := cell_blk (j := 1) (v := .int .i64 (hS s1).1.1) HC rfl; have x2 := cell_blk (j := 2) (v := .int .i64 0) HC rfl; have x3 := cell_blk (j := 3) (v := .int .i64 0) HC rfl; have x4 := cell_blk (j := 4) (v := .string ⟨#[]⟩) HC rfl; have x5 := cell_blk (j := 5) (v := .string ⟨#[]⟩) HC rfl; have x6 := cell_blk (j := 6) (v := .string (tS (hS s1).2).1.1) HC rfl; have x7 := cell_blk (j := 7) (v := .string ⟨#[]⟩) HC rfl; have x8 := cell_blk (j := 8) (v := .slice none 0 0) HC rfl; clear HC)
    | (go_at_call 28; (refine (HCK.out _ ⟨(InvO.set HI3.out L.out 7 (.string (tS (tS (hS s1).2).2).1.1)), L.out⟩).mono ?_); rintro e w5 ⟨rfl, hI⟩; have HIC := Aside0.mk hI; clear hI q0 fz x0 x1 x2 x3 x4 x5 x6 x7 x8; have HC := InvO.k3 HIC.out; have x0 := cell_blk (j := 0) (v := .int .i64 5) HC rfl; have x1 := cell_blk (j := 1) (v := .int .i64 (hS s1).1.1) HC rfl; have x2 := cell_blk (j := 2) (v := .int .i64 0) HC rfl; have x3 := cell_blk (j := 3) (v := .int .i64 0) HC rfl; have x4 := cell_blk (j := 4) (v := .string ⟨#[]⟩) HC rfl; have x5 := cell_blk (j := 5) (v := .string ⟨#[]⟩) HC rfl; have x6 := cell_blk (j := 6) (v := .string (tS (hS s1).2).1.1) HC rfl; have x7 := cell_blk (j := 7) (v := .string (tS (tS (hS s1).2).2).1.1) HC rfl; have x8 := cell_blk (j := 8) (v := .slice none 0 0) HC rfl; have hY := InvO.k2 HIC.out; have HY := Aside0.mk hY; have y0 := cell_blk (j := 0) (v := .int .i64 0) hY rfl; have z0 := Lib.frozen_of_heap hY 0; have y1 := cell_blk (j := 1) (v := .int .i64 0) hY rfl; have z1 := Lib.frozen_of_heap hY 1; have y2 := cell_blk (j := 2) (v := .int .i64 0) hY rfl; have z2 := Lib.frozen_of_heap hY 2; have y3 := cell_blk (j := 3) (v := .int .i64 0) hY rfl; have z3 := Lib.frozen_of_heap hY 3; have y4 := cell_blk (j := 4) (v := .string ⟨#[]⟩) hY rfl; have z4 := Lib.frozen_of_heap hY 4; have y5 := cell_blk (j := 5) (v := .string ⟨#[]⟩) hY rfl; have z5 := Lib.frozen_of_heap hY 5; have y6 := cell_blk (j := 6) (v := .string ⟨#[]⟩) hY rfl; have z6 := Lib.frozen_of_heap hY 6; have y7 := cell_blk (j := 7) (v := .string ⟨#[]⟩) hY rfl; have z7 := Lib.frozen_of_heap hY 7; have y8 := cell_blk (j := 8) (v := .slice none 0 0) hY rfl; have z8 := Lib.frozen_of_heap hY 8; clear HC hY)
    | (go_at_call 42; (refine (must_d _ _).mono ?_); rintro e w6 ⟨⟨hc, rfl⟩ | ⟨hc, rfl⟩, rfl⟩; rotate_left; focus (unfold stopE; go_wp2_with fail; exact ⟨rfl, opPost_stop HIC.out.but hc (by rw [opR_good s HS1.out 5 hk (by decide) (by simpa [bodyR] using HE3.out)]; simp [bodyR])⟩)))
  have hpz := L.out.h2
  have hgood := opR_good s HS1.out 5 hk (by decide) (by simpa [bodyR] using HE3.out)
  refine bodyPost_ret (results_cell_row rfl _ _ (w.heap.size + 1) 42 _ (0, 0) _ rfl (set_blk (j := 8) (set_blk (j := 7) (set_blk (j := 6) (set_blk (j := 5) (set_blk (j := 4) (set_blk (j := 3) (set_blk (j := 2) (set_blk (j := 1) (set_blk (j := 0) (HY.out) _) _) _) _) _) _) _) _) _) Tryd.underlying42 rfl (by kernel_rfl)) rfl ?_
  simp only [bodyR, Int.reduceEq, if_false, if_true] at hgood
  rw [hgood]
  exact opPost_ok (AtB.set (AtB.set (AtB.set (AtB.set (AtB.set (AtB.set (AtB.set (AtB.set (AtB.set ⟨HIC.out.but, HIC.out.at_⟩ hpw hpz hok 0 _) hpw hpz hok 1 _) hpw hpz hok 2 _) hpw hpz hok 3 _) hpw hpz hok 4 _) hpw hpz hok 5 _) hpw hpz hok 6 _) hpw hpz hok 7 _) hpw hpz hok 8 _) hc (.slice none 0 0) rfl (Kd.R_nil k44 44 _ _ _)
set_option maxHeartbeats 2000000 in
set_option maxRecDepth 100000 in
theorem op_6 (w0 : World) (hgl : GL w0) (p : Nat) (ok : Nat → Prop) (s : St) (w : World) (hok : ∀ k, ok k → k < p) (hw : Below w0.heap.size w0 w) (hw0 : w0.heap.size ≤ p) (h : AtR 107 p ok s.1 s.2 w) (hk : (nS s 7).1 = (6, 0)) :
    Calls Tryd.prog 41 #[.agg #[.pointer (some ⟨p, 0, none⟩)]] w fun e w' => opPost w p ok (opR s) e w' := by
  have hpw := h.lt
  have H := Aside0.mk h
  have he7 : (nS s 7).2.2 = 0 := by rw [← nS_err, hk]
  have HN : Aside0 (∀ W, AtR 107 p ok s.1 s.2 W → Calls Tryd.prog 40 #[.agg #[.pointer (some ⟨p, 0, none⟩)], .int .u64 7] W fun e w' => e = .returned (.int .i64 6) ∧ AtR 107 p ok (nS s 7).2.1 (nS s 7).2.2 w' ∧ But (· = p) W w') := ⟨fun W hW => (num_d 7 (by omega) p ok s W hW).mono (by
    rintro e w' ⟨⟨h0, he, ha⟩ | ⟨h0, he⟩, hb⟩
    · rw [hk] at he
      exact ⟨he, ha, hb⟩
    · exact absurd he7 h0)⟩
  obtain ⟨s1, hs1⟩ : ∃ s1, s1 = (nS s 7).2 := ⟨_, rfl⟩
  rw [← hs1] at HN
  have hB0 := H.out.2.1
  have hB1 := (nS_bytes s 7 hB0).1
  rw [← hs1] at hB1
  have hn1 : num32 (hS s1).1.1 := nS_val s1 4294967295 hB1 (by omega)
  have hB2 := (nS_bytes s1 4294967295 hB1).1
  have hs6 : ((tS (hS s1).2).1.1).size ≤ 65536 := tS_size (hS s1).2 hB2
  have hB3 := (tS_bytes (hS s1).2 hB2).1
  have HCK : Aside0 (∀ {b1 b2 b3 : Nat} {o1 o2 o3 : Obj} W, InvO 107 w p ok b1 o1 b2 o2 b3 o3 (tS (hS s1).2).2 W ∧ Lie w p ok b1 b2 b3 → Calls Tryd.prog 28 #[.agg #[.int .i64 6, .int .i64 (hS s1).1.1, .int .i64 0, .int .i64 0, .string ⟨#[]⟩, .string ⟨#[]⟩, .string (tS (hS s1).2).1.1, .string ⟨#[]⟩, .slice none 0 0]] W fun e w' => e = .returned (.int .i64 (chk ⟨6, (hS s1).1.1, 0, 0, em, em, (tS (hS s1).2).1.1, em, []⟩)) ∧ InvO 107 w p ok b1 o1 b2 o2 b3 o3 (tS (hS s1).2).2 w') := ⟨fun W hW => by
    have hb : Below w0.heap.size w0 W := ⟨hW.1.but.os.trans hw.os, hW.1.but.tape.trans hw.tape, hW.1.but.output.trans hw.output, Nat.le_trans hw.size hW.1.but.size, fun k hk => (hW.1.but.block k (Nat.lt_of_lt_of_le hk hw.size) (by omega)).trans (hw.block k hk)⟩
    have := Check_x ⟨6, (hS s1).1.1, 0, 0, em, em, (tS (hS s1).2).1.1, em, []⟩ none 0 W (hgl.below hb) (Kd.C_nil k44 W) (Nat.le_refl 0) ⟨i64_k 6 (by omega), i64_32 hn1, i64_k 0 (by omega), i64_k 0 (by omega), Nat.zero_le _, Nat.zero_le _, size_up hs6, Nat.zero_le _, Nat.zero_le _, fun i hi => absurd hi (Nat.not_lt_zero i)⟩
    exact this.mono fun e w' h => ⟨h.1, hW.1.below hW.2 h.2⟩⟩
  have HG := Aside0.mk hgl
  have HS1 := Aside0.mk hs1
  clear h hgl hw he7 hs1 hB0 hB1 hB2 hB3 hn1 hs6
  go_enter Tryd.func41, Tryd.ntmps41
  go_wp2_with (first
    | (go_at_call 40; (refine (HN.out _ (AtR.al (AtR.al H.out _) _)).mono ?_); rintro e w1 ⟨rfl, h2, h3⟩; have HI0 := Aside0.mk (inv_start 107 w p ok (.cells #[.pointer (some ⟨p, 0, none⟩)] 87) (.cells #[.int .i64 0, .int .i64 0, .int .i64 0, .int .i64 0, .string ⟨#[]⟩, .string ⟨#[]⟩, .string ⟨#[]⟩, .string ⟨#[]⟩, .slice none 0 0] 42) (.cells #[.int .i64 6, .int .i64 0, .int .i64 0, .int .i64 0, .string ⟨#[]⟩, .string ⟨#[]⟩, .string ⟨#[]⟩, .string ⟨#[]⟩, .slice none 0 0] 42) s1 w1 hpw h2 h3); have L := Aside0.mk (lie_start w p ok _ _ w1 hpw hok h3); have hne : ¬ w.heap.size = w1.heap.size := L.out.n13; have hne2 : ¬ w.heap.size + 1 = w1.heap.size := L.out.n23; have q0 := cell_blk (j := 0) (v := .pointer (some ⟨p, 0, none⟩)) HI0.out.k1 rfl; clear h2 h3)
    | (go_at_call 61; (refine (InvO.handle HI0.out L.out).mono ?_); rintro e w2 (⟨he1, rfl, hv1, hI⟩ | ⟨he, rfl, hb⟩); rotate_left; go_loud (focus (unfold stopE; go_wp2_with fail; exact ⟨rfl, opPost_stop hb he (opR_bad s HS1.out 6 _ hk (by decide) (by simp [bodyR, hS_stick (hS s1).2 he, tS_stick (hS s1).2 he]) he)⟩)); have HI1 := Aside0.mk hI; clear hI; have HV1 := Aside0.mk hv1; have HE1 := Aside0.mk he1; clear hv1 he1 q0; have q0 := cell_blk (j := 0) (v := .pointer (some ⟨p, 0, none⟩)) HI1.out.k1 rfl; have fz := Lib.frozen_of_heap HI1.out.k3 1; have HC := InvO.k3 HI1.out; have x0 := cell_blk (j := 0) (v := .int .i64 6) HC rfl; have x1 := cell_blk (j := 1) (v := .int .i64 0) HC rfl; have x2 := cell_blk (j := 2) (v := .int .i64 0) HC rfl; have x3 := cell_blk (j := 3) (v := .int .i64 0) HC rfl; have x4 := cell_blk (j := 4) (v := .string ⟨#[]⟩) HC rfl; have x5 := cell_blk (j := 5) (v := .string ⟨#[]⟩) HC rfl; have x6 := cell_blk (j := 6) (v := .string ⟨#[]⟩) HC rfl; have x7 := cell_blk (j := 7) (v := .string ⟨#[]⟩) HC rfl; have x8 := cell_blk (j := 8) (v := .slice none 0 0) HC rfl; clear HC)
    | (go_at_call 60; (refine (InvO.text (InvO.set HI1.out L.out 1 (.int .i64 (hS s1).1.1)) L.out).mono ?_); rintro e w3 (⟨he2, rfl, hv2, hI⟩ | ⟨he, rfl, hb⟩); rotate_left; go_loud (focus (unfold stopE; go_wp2_with fail; exact ⟨rfl, opPost_stop hb he (opR_bad s HS1.out 6 _ hk (by decide) (by simp [bodyR, hS_stick (tS (hS s1).2).2 he, tS_stick (tS (hS s1).2).2 he]) he)⟩)); have HI2 := Aside0.mk hI; clear hI; have HV2 := Aside0.mk hv2; have HE2 := Aside0.mk he2; clear hv2 he2 q0 fz; clear x0 x1 x2 x3 x4 x5 x6 x7 x8; have q0 := cell_blk (j := 0) (v := .pointer (some ⟨p, 0, none⟩)) HI2.out.k1 rfl; have fz := Lib.frozen_of_heap HI2.out.k3 6; have HC := InvO.k3 HI2.out; have x0 := cell_blk (j := 0) (v := .int .i64 6) HC rfl; have x1 := cell_blk (j := 1) (v := .int .i64 (hS s1).1.1) HC rfl; have x2 := cell_blk (j := 2) (v := .int .i64 0) HC rfl; have x3 := cell_blk (j := 3) (v := .int .i64 0) HC rfl; have x4 := cell_blk (j := 4) (v := .string ⟨#[]⟩) HC rfl; have x5 := cell_blk (j := 5) (v := .string ⟨#[]⟩) HC rfl; have x6 := cell_blk (j := 6) (v := .string ⟨#[]⟩) HC rfl; have x7 := cell_blk (j := 7) (v := .string ⟨#[]⟩) HC rfl; have x8 := cell_blk (j := 8) (v := .slice none 0 0) HC rfl; clear HC)
    | (go_at_call 28; (refine (HCK.out _ ⟨(InvO.set HI2.out L.out 6 (.string (tS (hS s1).2).1.1)), L.out⟩).mono ?_); rintro e w4 ⟨rfl, hI⟩; have HIC := Aside0.mk hI; clear hI q0 fz x0 x1 x2 x3 x4 x5 x6 x7 x8; have HC := InvO.k3 HIC.out; have x0 := cell_blk (j := 0) (v := .int .i64 6) HC rfl; have x1 := cell_blk (j := 1) (v := .int .i64 (hS s1).1.1) HC rfl; have x2 := cell_blk (j := 2) (v := .int .i64 0) HC rfl; have x3 := cell_blk (j := 3) (v := .int .i64 0) HC rfl; have x4 := cell_blk (j := 4) (v := .string ⟨#[]⟩) HC rfl; have x5 := cell_blk (j := 5) (v := .string ⟨#[]⟩) HC rfl; have x6 := cell_blk (j := 6) (v := .string (tS (hS s1).2).1.1) HC rfl; have x7 := cell_blk (j := 7) (v := .string ⟨#[]⟩) HC rfl; have x8 := cell_blk (j := 8) (v := .slice none 0 0) HC rfl; have hY := InvO.k2 HIC.out; have HY := Aside0.mk hY; have y0 := cell_blk (j := 0) (v := .int .i64 0) hY rfl; have z0 := Lib.frozen_of_heap hY 0; have y1 := cell_blk (j := 1) (v := .int .i64 0) hY rfl; have z1 := Lib.frozen_of_heap hY 1; have y2 := cell_blk (j := 2) (v := .int .i64 0) hY rfl; have z2 := Lib.frozen_of_heap hY 2; have y3 := cell_blk (j := 3) (v := .int .i64 0) hY rfl; have z3 := Lib.frozen_of_heap hY 3; have y4 := cell_blk (j := 4) (v := .string ⟨#[]⟩) hY rfl; have z4 := Lib.frozen_of_heap hY 4; have y5 := cell_blk (j := 5) (v := .string ⟨#[]⟩) hY rfl; have z5 := Lib.frozen_of_heap hY 5; have y6 := cell_blk (j := 6) (v := .string ⟨#[]⟩) hY rfl; have z6 := Lib.frozen_of_heap hY 6; have y7 := cell_blk (j := 7) (v := .string ⟨#[]⟩) hY rfl; have z7 := Lib.frozen_of_heap hY 7; have y8 := cell_blk (j := 8) (v := .slice none 0 0) hY rfl; have z8 := Lib.frozen_of_heap hY 8; clear HC hY)
    | (go_at_call 42; (refine (must_d _ _).mono ?_); rintro e w5 ⟨⟨hc, rfl⟩ | ⟨hc, rfl⟩, rfl⟩; rotate_left; focus (unfold stopE; go_wp2_with fail; exact ⟨rfl, opPost_stop HIC.out.but hc (by rw [opR_good s HS1.out 6 hk (by decide) (by simpa [bodyR] using HE2.out)]; simp [bodyR])⟩)))
  have hpz := L.out.h2
  have hgood := opR_good s HS1.out 6 hk (by decide) (by simpa [bodyR] using HE2.out)
  refine bodyPost_ret (results_cell_row rfl _ _ (w.heap.size + 1) 42 _ (0, 0) _ rfl (set_blk (j := 8) (set_blk (j := 7) (set_blk (j := 6) (set_blk (j := 5) (set_blk (j := 4) (set_blk (j := 3) (set_blk (j := 2) (set_blk (j := 1) (set_blk (j := 0) (HY.out) _) _) _) _) _) _) _) _) _) Tryd.underlying42 rfl (by kernel_rfl)) rfl ?_
  simp only [bodyR, Int.reduceEq, if_false, if_true] at hgood
  rw [hgood]
  exact opPost_ok (AtB.set (AtB.set (AtB.set (AtB.set (AtB.set (AtB.set (AtB.set (AtB.set (AtB.set ⟨HIC.out.but, HIC.out.at_⟩ hpw hpz hok 0 _) hpw hpz hok 1 _) hpw hpz hok 2 _) hpw hpz hok 3 _) hpw hpz hok 4 _) hpw hpz hok 5 _) hpw hpz hok 6 _) hpw hpz hok 7 _) hpw hpz hok 8 _) hc (.slice none 0 0) rfl (Kd.R_nil k44 44 _ _ _)
set_option maxHeartbeats 2000000 in
set_option maxRecDepth 100000 in
theorem op_7 (w0 : World) (hgl : GL w0) (p : Nat) (ok : Nat → Prop) (s : St) (w : World) (hok : ∀ k, ok k → k < p) (hw : Below w0.heap.size w0 w) (hw0 : w0.heap.size ≤ p) (h : AtR 107 p ok s.1 s.2 w) (hk : (nS s 7).1 = (7, 0)) :
    Calls Tryd.prog 41 #[.agg #[.pointer (some ⟨p, 0, none⟩)]] w fun e w' => opPost w p ok (opR s) e w' := by
  have hpw := h.lt
  have H := Aside0.mk h
  have he7 : (nS s 7).2.2 = 0 := by rw [← nS_err, hk]
  have HN : Aside0 (∀ W, AtR 107 p ok s.1 s.2 W → Calls Tryd.prog 40 #[.agg #[.pointer (some ⟨p, 0, none⟩)], .int .u64 7] W fun e w' => e = .returned (.int .i64 7) ∧ AtR 107 p ok (nS s 7).2.1 (nS s 7).2.2 w' ∧ But (· = p) W w') := ⟨fun W hW => (num_d 7 (by omega) p ok s W hW).mono (by
    rintro e w' ⟨⟨h0, he, ha⟩ | ⟨h0, he⟩, hb⟩
    · rw [hk] at he
      exact ⟨he, ha, hb⟩
    · exact absurd he7 h0)⟩
  obtain ⟨s1, hs1⟩ : ∃ s1, s1 = (nS s 7).2 := ⟨_, rfl⟩
  rw [← hs1] at HN
  have hB0 := H.out.2.1
  have hB1 := (nS_bytes s 7 hB0).1
  rw [← hs1] at hB1
  have hn1 : num32 (hS s1).1.1 := nS_val s1 4294967295 hB1 (by omega)
  have hB2 := (nS_bytes s1 4294967295 hB1).1
  have hs7 : ((tS (hS s1).2).1.1).size ≤ 65536 := tS_size (hS s1).2 hB2
  have hB3 := (tS_bytes (hS s1).2 hB2).1
  have HCK : Aside0 (∀ {b1 b2 b3 : Nat} {o1 o2 o3 : Obj} W, InvO 107 w p ok b1 o1 b2 o2 b3 o3 (tS (hS s1).2).2 W ∧ Lie w p ok b1 b2 b3 → Calls Tryd.prog 28 #[.agg #[.int .i64 7, .int .i64 (hS s1).1.1, .int .i64 0, .int .i64 0, .string ⟨#[]⟩, .string ⟨#[]⟩, .string ⟨#[]⟩, .string (tS (hS s1).2).1.1, .slice none 0 0]] W fun e w' => e = .returned (.int .i64 (chk ⟨7, (hS s1).1.1, 0, 0, em, em, em, (tS (hS s1).2).1.1, []⟩)) ∧ InvO 107 w p ok b1 o1 b2 o2 b3 o3 (tS (hS s1).2).2 w') := ⟨fun W hW => by
    have hb : Below w0.heap.size w0 W := ⟨hW.1.but.os.trans hw.os, hW.1.but.tape.trans hw.tape, hW.1.but.output.trans hw.output, Nat.le_trans hw.size hW.1.but.size, fun k hk => (hW.1.but.block k (Nat.lt_of_lt_of_le hk hw.size) (by omega)).trans (hw.block k hk)⟩
    have := Check_x ⟨7, (hS s1).1.1, 0, 0, em, em, em, (tS (hS s1).2).1.1, []⟩ none 0 W (hgl.below hb) (Kd.C_nil k44 W) (Nat.le_refl 0) ⟨i64_k 7 (by omega), i64_32 hn1, i64_k 0 (by omega), i64_k 0 (by omega), Nat.zero_le _, Nat.zero_le _, Nat.zero_le _, size_up hs7, Nat.zero_le _, fun i hi => absurd hi (Nat.not_lt_zero i)⟩
    exact this.mono fun e w' h => ⟨h.1, hW.1.below hW.2 h.2⟩⟩
  have HG := Aside0.mk hgl
  have HS1 := Aside0.mk hs1
  clear h hgl hw he7 hs1 hB0 hB1 hB2 hB3 hn1 hs7
  go_enter Tryd.func41, Tryd.ntmps41
  go_wp2_with (first
    | (go_at_call 40; (refine (HN.out _ (AtR.al (AtR.al H.out _) _)).mono ?_); rintro e w1 ⟨rfl, h2, h3⟩; have HI0 := Aside0.mk (inv_start 107 w p ok (.cells #[.pointer (some ⟨p, 0, none⟩)] 87) (.cells #[.int .i64 0, .int .i64 0, .int .i64 0, .int .i64 0, .string ⟨#[]⟩, .string ⟨#[]⟩, .string ⟨#[]⟩, .string ⟨#[]⟩, .slice none 0 0] 42) (.cells #[.int .i64 7, .int .i64 0, .int .i64 0, .int .i64 0, .string ⟨#[]⟩, .string ⟨#[]⟩, .string ⟨#[]⟩, .string ⟨#[]⟩, .slice none 0 0] 42) s1 w1 hpw h2 h3); have L := Aside0.mk (lie_start w p ok _ _ w1 hpw hok h3); have hne : ¬ w.heap.size = w1.heap.size := L.out.n13; have hne2 : ¬ w.heap.size + 1 = w1.heap.size := L.out.n23; have q0 := cell_blk (j := 0) (v := .pointer (some ⟨p, 0, none⟩)) HI0.out.k1 rfl; clear h2 h3)
    | (go_at_call 61; (refine (InvO.handle HI0.out L.out).mono ?_); rintro e w2 (⟨he1, rfl, hv1, hI⟩ | ⟨he, rfl, hb⟩); rotate_left; go_loud (focus (unfold stopE; go_wp2_with fail; exact ⟨rfl, opPost_stop hb he (opR_bad s HS1.out 7 _ hk (by decide) (by simp [bodyR, hS_stick (hS s1).2 he, tS_stick (hS s1).2 he]) he)⟩)); have HI1 := Aside0.mk hI; clear hI; have HV1 := Aside0.mk hv1; have HE1 := Aside0.mk he1; clear hv1 he1 q0; have q0 := cell_blk (j := 0) (v := .pointer (some ⟨p, 0, none⟩)) HI1.out.k1 rfl; have fz := Lib.frozen_of_heap HI1.out.k3 1; have HC := InvO.k3 HI1.out; have x0 := cell_blk (j := 0) (v := .int .i64 7) HC rfl; have x1 := cell_blk (j := 1) (v := .int .i64 0) HC rfl; have x2 := cell_blk (j := 2) (v := .int .i64 0) HC rfl; have x3 := cell_blk (j := 3) (v := .int .i64 0) HC rfl; have x4 := cell_blk (j := 4) (v := .string ⟨#[]⟩) HC rfl; have x5 := cell_blk (j := 5) (v := .string ⟨#[]⟩) HC rfl; have x6 := cell_blk (j := 6) (v := .string ⟨#[]⟩) HC rfl; have x7 := cell_blk (j := 7) (v := .string ⟨#[]⟩) HC rfl; have x8 := cell_blk (j := 8) (v := .slice none 0 0) HC rfl; clear HC)
    | (go_at_call 60; (refine (InvO.text (InvO.set HI1.out L.out 1 (.int .i64 (hS s1).1.1)) L.out).mono ?_); rintro e w3 (⟨he2, rfl, hv2, hI⟩ | ⟨he, rfl, hb⟩); rotate_left; go_loud (focus (unfold stopE; go_wp2_with fail; exact ⟨rfl, opPost_stop hb he (opR_bad s HS1.out 7 _ hk (by decide) (by simp [bodyR, hS_stick (tS (hS s1).2).2 he, tS_stick (tS (hS s1).2).2 he]) he)⟩)); have HI2 := Aside0.mk hI; clear hI; have HV2 := Aside0.mk hv2; have HE2 := Aside0.mk he2; clear hv2 he2 q0 fz; clear x0 x1 x2 x3 x4 x5 x6 x7 x8; have q0 := cell_blk (j := 0) (v := .pointer (some ⟨p, 0, none⟩)) HI2.out.k1 rfl; have fz := Lib.frozen_of_heap HI2.out.k3 7; have HC := InvO.k3 HI2.out; have x0 := cell_blk (j := 0) (v := .int .i64 7) HC rfl; have x1 := cell_blk (j := 1) (v := .int .i64 (hS s1).1.1) HC rfl; have x2 := cell_blk (j := 2) (v := .int .i64 0) HC rfl; have x3 := cell_blk (j := 3) (v := .int .i64 0) HC rfl; have x4 := cell_blk (j := 4) (v := .string ⟨#[]⟩) HC rfl; have x5 := cell_blk (j := 5) (v := .string ⟨#[]⟩) HC rfl; have x6 := cell_blk (j := 6) (v := .string ⟨#[]⟩) HC rfl; have x7 := cell_blk (j := 7) (v := .string ⟨#[]⟩) HC rfl; have x8 := cell_blk (j := 8) (v := .slice none 0 0) HC rfl; clear HC)
    | (go_at_call 28; (refine (HCK.out _ ⟨(InvO.set HI2.out L.out 7 (.string (tS (hS s1).2).1.1)), L.out⟩).mono ?_); rintro e w4 ⟨rfl, hI⟩; have HIC := Aside0.mk hI; clear hI q0 fz x0 x1 x2 x3 x4 x5 x6 x7 x8; have HC := InvO.k3 HIC.out; have x0 := cell_blk (j := 0) (v := .int .i64 7) HC rfl; have x1 := cell_blk (j := 1) (v := .int .i64 (hS s1).1.1) HC rfl; have x2 := cell_blk (j := 2) (v := .int .i64 0) HC rfl; have x3 := cell_blk (j := 3) (v := .int .i64 0) HC rfl; have x4 := cell_blk (j := 4) (v := .string ⟨#[]⟩) HC rfl; have x5 := cell_blk (j := 5) (v := .string ⟨#[]⟩) HC rfl; have x6 := cell_blk (j := 6) (v := .string ⟨#[]⟩) HC rfl; have x7 := cell_blk (j := 7) (v := .string (tS (hS s1).2).1.1) HC rfl; have x8 := cell_blk (j := 8) (v := .slice none 0 0) HC rfl; have hY := InvO.k2 HIC.out; have HY := Aside0.mk hY; have y0 := cell_blk (j := 0) (v := .int .i64 0) hY rfl; have z0 := Lib.frozen_of_heap hY 0; have y1 := cell_blk (j := 1) (v := .int .i64 0) hY rfl; have z1 := Lib.frozen_of_heap hY 1; have y2 := cell_blk (j := 2) (v := .int .i64 0) hY rfl; have z2 := Lib.frozen_of_heap hY 2; have y3 := cell_blk (j := 3) (v := .int .i64 0) hY rfl; have z3 := Lib.frozen_of_heap hY 3; have y4 := cell_blk (j := 4) (v := .string ⟨#[]⟩) hY rfl; have z4 := Lib.frozen_of_heap hY 4; have y5 := cell_blk (j := 5) (v := .string ⟨#[]⟩) hY rfl; have z5 := Lib.frozen_of_heap hY 5; have y6 := cell_blk (j := 6) (v := .string ⟨#[]⟩) hY rfl; have z6 := Lib.frozen_of_heap hY 6; have y7 := cell_blk (j := 7) (v := .string ⟨#[]⟩) hY rfl; have z7 := Lib.frozen_of_heap hY 7; have y8 := cell_blk (j := 8) (v := .slice none 0 0) hY rfl; have z8 := Lib.frozen_of_heap hY 8; clear HC hY)
    | (go_at_call 42; (refine (must_d _ _).mono ?_); rintro e w5 ⟨⟨hc, rfl⟩ | ⟨hc, rfl⟩, rfl⟩; rotate_left; focus (unfold stopE; go_wp2_with fail; exact ⟨rfl, opPost_stop HIC.out.but hc (by rw [opR_good s HS1.out 7 hk (by decide) (by simpa [bodyR] using HE2.out)]; simp [bodyR])⟩)))
  have hpz := L.out.h2
  have hgood := opR_good s HS1.out 7 hk (by decide) (by simpa [bodyR] using HE2.out)
  refine bodyPost_ret (results_cell_row rfl _ _ (w.heap.size + 1) 42 _ (0, 0) _ rfl (set_blk (j := 8) (set_blk (j := 7) (set_blk (j := 6) (set_blk (j := 5) (set_blk (j := 4) (set_blk (j := 3) (set_blk (j := 2) (set_blk (j := 1) (set_blk (j := 0) (HY.out) _) _) _) _) _) _) _) _) _) Tryd.underlying42 rfl (by kernel_rfl)) rfl ?_
  simp only [bodyR, Int.reduceEq, if_false, if_true] at hgood
  rw [hgood]
  exact opPost_ok (AtB.set (AtB.set (AtB.set (AtB.set (AtB.set (AtB.set (AtB.set (AtB.set (AtB.set ⟨HIC.out.but, HIC.out.at_⟩ hpw hpz hok 0 _) hpw hpz hok 1 _) hpw hpz hok 2 _) hpw hpz hok 3 _) hpw hpz hok 4 _) hpw hpz hok 5 _) hpw hpz hok 6 _) hpw hpz hok 7 _) hpw hpz hok 8 _) hc (.slice none 0 0) rfl (Kd.R_nil k44 44 _ _ _)
end Go.Proofs.YtfpijjjmgggfkaaDoorE

namespace Go.Proofs.YtfpijjjmgggfkaaDoorE
open Go Go.RowKit Go.Proofs.YtfpijjjmgggfkaaDoorW.PrintWords Go.Proofs.YtfpijjjmgggfkaaDoorW.PrintMore Go.Proofs.YtfpijjjmgggfkaaDoorX Go.Proofs.YtfpijjjmgggfkaaDoor.P26 Go.Proofs.YtfpijjjmgggfkaaDoor.L01
set_option linter.unusedVariables false
set_option linter.unusedSimpArgs false
set_option maxHeartbeats 2000000 in
set_option maxRecDepth 100000 in
theorem op_bad (p : Nat) (ok : Nat → Prop) (s : St) (w : World) (h : AtR 107 p ok s.1 s.2 w) (hn : (nS s 7).2.2 ≠ 0) :
    Calls Tryd.prog 41 #[.agg #[.pointer (some ⟨p, 0, none⟩)]] w fun e w' => opPost w p ok (opR s) e w' := by
  have hpw := h.lt
  have HN := Aside0.mk (num_d 7 (by omega) p ok s _ (AtR.al (AtR.al h (.cells #[.pointer (some ⟨p, 0, none⟩)] 87)) (.cells #[.int .i64 0, .int .i64 0, .int .i64 0, .int .i64 0, .string ⟨#[]⟩, .string ⟨#[]⟩, .string ⟨#[]⟩, .string ⟨#[]⟩, .slice none 0 0] 42)))
  have he : (opR s).1.2 = (nS s 7).2.2 := by
    unfold opR
    rw [if_pos (by rw [nS_err]; exact hn), nS_err]
  have HE := Aside0.mk he
  obtain ⟨R, hR⟩ : ∃ R, R = opR s := ⟨_, rfl⟩
  rw [← hR] at HE ⊢
  obtain ⟨t, ht⟩ : ∃ t, t = (nS s 7) := ⟨_, rfl⟩
  rw [← ht] at HE HN hn
  have HN0 := Aside0.mk hn
  clear h he hR ht hn
  go_enter Tryd.func41, Tryd.ntmps41
  go_wp2_with (first
    | (go_at_call 40; (refine (HN.out).mono ?_); rintro e w1 ⟨⟨h0, rfl, ha⟩ | ⟨h0, rfl⟩, hb⟩; (exact absurd h0 HN0.out); unfold stopE; have HB := Aside0.mk hb; clear hb h0))
  exact ⟨rfl, opPost_stop ((((But.refl _ w).alloc _).alloc _).then_ HB.out) HN0.out HE.out⟩
set_option maxHeartbeats 2000000 in
set_option maxRecDepth 100000 in
theorem op_0 (p : Nat) (ok : Nat → Prop) (s : St) (w : World) (h : AtR 107 p ok s.1 s.2 w) (hk : (nS s 7).1 = (0, 0)) :
    Calls Tryd.prog 41 #[.agg #[.pointer (some ⟨p, 0, none⟩)]] w fun e w' => opPost w p ok (opR s) e w' := by
  have hpw := h.lt
  have he7 : (nS s 7).2.2 = 0 := by rw [← nS_err, hk]
  have HN : Aside0 (∀ W, AtR 107 p ok s.1 s.2 W → Calls Tryd.prog 40 #[.agg #[.pointer (some ⟨p, 0, none⟩)], .int .u64 7] W fun e w' => e = .returned (.int .i64 0) ∧ But (· = p) W w') := ⟨fun W hW => (num_d 7 (by omega) p ok s W hW).mono (by
    rintro e w' ⟨⟨h0, he, ha⟩ | ⟨h0, he⟩, hb⟩
    · rw [hk] at he
      exact ⟨he, hb⟩
    · exact absurd he7 h0)⟩
  have H := Aside0.mk h
  have he : (opR s).1.2 = 6 := by
    unfold opR
    rw [hk, if_neg (by simp), if_pos rfl]
  have HE := Aside0.mk he
  obtain ⟨R, hR⟩ : ∃ R, R = opR s := ⟨_, rfl⟩
  rw [← hR] at HE ⊢
  clear h he hR he7 hk
  go_enter Tryd.func41, Tryd.ntmps41
  go_wp2_with (first
    | (go_at_call 40; (refine (HN.out _ (AtR.al (AtR.al H.out _) _)).mono ?_); rintro e w1 ⟨rfl, hb⟩; have HB := Aside0.mk hb; clear hb)
    | (go_at_call 42; (refine (must_bad 6 (by decide) _).mono ?_); rintro e w2 ⟨rfl, rfl⟩; unfold stopE))
  exact ⟨rfl, opPost_stop (((((But.refl _ w).alloc _).alloc _).then_ HB.out).alloc _) (by decide) HE.out⟩
/-- codec.reader.op. -/
theorem op_c (w0 : World) (hgl : GL w0) (p : Nat) (ok : Nat → Prop) (s : St) (w : World) (hok : ∀ k, ok k → k < p) (hw : Below w0.heap.size w0 w) (hw0 : w0.heap.size ≤ p) (h : AtR 107 p ok s.1 s.2 w) :
    Calls Tryd.prog 41 #[.agg #[.pointer (some ⟨p, 0, none⟩)]] w fun e w' => opPost w p ok (opR s) e w' := by
  by_cases he : (nS s 7).2.2 = 0
  · obtain ⟨k, hk⟩ : ∃ k, (nS s 7).1 = (k, 0) := ⟨(nS s 7).1.1, by rw [← he, ← nS_err]⟩
    have hv := nS_val s 7 h.2.1 (by omega)
    rw [hk] at hv
    simp only at hv
    have hc : k = 0 ∨ k = 1 ∨ k = 2 ∨ k = 3 ∨ k = 4 ∨ k = 5 ∨ k = 6 ∨ k = 7 := by omega
    rcases hc with rfl | rfl | rfl | rfl | rfl | rfl | rfl | rfl
    · exact op_0 p ok s w h hk
    · exact op_1 w0 hgl p ok s w hok hw hw0 h hk
    · exact op_2 w0 hgl p ok s w hok hw hw0 h hk
    · exact op_3 w0 hgl p ok s w hok hw hw0 h hk
    · exact op_4 w0 hgl p ok s w hok hw hw0 h hk
    · exact op_5 w0 hgl p ok s w hok hw hw0 h hk
    · exact op_6 w0 hgl p ok s w hok hw hw0 h hk
    · exact op_7 w0 hgl p ok s w hok hw hw0 h hk
  · exact op_bad p ok s w h he
end Go.Proofs.YtfpijjjmgggfkaaDoorE

namespace Go.Proofs.YtfpijjjmgggfkaaDoorE
open Go Go.RowKit Go.Proofs.YtfpijjjmgggfkaaDoorW.PrintWords Go.Proofs.YtfpijjjmgggfkaaDoorW.PrintMore Go.Proofs.YtfpijjjmgggfkaaDoorX Go.Proofs.YtfpijjjmgggfkaaDoor.P26 Go.Proofs.YtfpijjjmgggfkaaDoor.L01
set_option linter.unusedVariables false
set_option linter.unusedSimpArgs false
set_option maxRecDepth 100000
theorem catch_stop (g : Nat) (x n : Int) (w : World) (hc : w.cell? ⟨g, 0, none⟩ = some (.int .i64 x)) (hz : w.frozen? ⟨g, 0, none⟩ = false) :
    CallsD Tryd.prog 38 #[.pointer (some ⟨g, 0, none⟩)] (.panicking ({ v := .iface 82 (.int .i64 n), recovered := false } :: [])) w fun e u' w' =>
      e = .returned (.tuple #[]) ∧ u' = .panicking ({ v := .iface 82 (.int .i64 n), recovered := true } :: []) ∧ w' = w.setCell ⟨g, 0, none⟩ (.int .i64 n) := by
  have hta : ∀ (v : Value) (w : World), (Instr.typeAssert (Value.iface 82 v) 20 82 true).run Tryd.prog w = .ok (.tuple #[v, .bool true]) w := fun _ _ => rfl
  refine callsD_of_wpS Tryd.func38 rfl fun c₀ cs hu => ?_
  apply wpS_seq
  apply wpS_region
  simp [wpOpsS, go_sem, recoverD, hu, Tryd.ntmps38, Exit.thenS]
  apply wpS_seq
  apply wpS_region
  simp [wpOpsS, go_sem, Exit.thenS]
  refine wpS_cond (t := true) (by simp [Act.eval, Array.replicate]) ?_
  simp only [if_true]
  apply wpS_seq
  apply wpS_region
  simp [wpOpsS, go_sem, Exit.thenS, hta]
  apply wpS_seq
  apply wpS_seq
  apply wpS_region
  simp [wpOpsS, go_sem, Exit.thenS]
  refine wpS_cond (t := false) (by simp [Act.eval, Array.replicate]) ?_
  simp only [Bool.false_eq_true, if_false]
  refine wpS_of_wp (wp_skip ?_)
  simp only [Exit.thenS]
  apply wpS_region
  simp [wpOpsS, go_sem, Exit.thenS, hc, hz, bodyPostS, results, Tryd.results38]
theorem catch_idle (g : Nat) (w : World) :
    CallsD Tryd.prog 38 #[.pointer (some ⟨g, 0, none⟩)] .returning w fun e u' w' => e = .returned (.tuple #[]) ∧ u' = .returning ∧ w' = w := by
  refine callsD_of_wpS Tryd.func38 rfl fun c₀ cs hu => ?_
  apply wpS_seq
  apply wpS_region
  simp [wpOpsS, go_sem, recoverD, hu, Tryd.ntmps38, Exit.thenS]
  apply wpS_seq
  apply wpS_region
  simp [wpOpsS, go_sem, Exit.thenS]
  refine wpS_cond (t := false) (by simp [Act.eval, Array.replicate]) ?_
  simp only [Bool.false_eq_true, if_false]
  refine wpS_of_wp (wp_skip ?_)
  cases c₀
  simp_all [bodyPostS, results, Tryd.results38]
end Go.Proofs.YtfpijjjmgggfkaaDoorE

namespace Go.Proofs.YtfpijjjmgggfkaaDoorE
open Go Go.RowKit Go.Proofs.YtfpijjjmgggfkaaDoorW.PrintWords Go.Proofs.YtfpijjjmgggfkaaDoorW.PrintMore Go.Proofs.YtfpijjjmgggfkaaDoorX Go.Proofs.YtfpijjjmgggfkaaDoor.P26 Go.Proofs.YtfpijjjmgggfkaaDoor.L01
set_option linter.unusedVariables false
set_option linter.unusedSimpArgs false
set_option maxRecDepth 100000
/-- What a script's bytes say: the operations read, and the error that ended it. -/
def readR (bs : List Int) : List S42 × Int :=
  if (nS (bs, 0) 1048576).2.2 ≠ 0 then ([], (nS (bs, 0) 1048576).2.2)
  else if (opsR (nS (bs, 0) 1048576).1.1.toNat (nS (bs, 0) 1048576).2).2.1 ≠ 0 then ((opsR (nS (bs, 0) 1048576).1.1.toNat (nS (bs, 0) 1048576).2).1, (opsR (nS (bs, 0) 1048576).1.1.toNat (nS (bs, 0) 1048576).2).2.1)
  else ((opsR (nS (bs, 0) 1048576).1.1.toNat (nS (bs, 0) 1048576).2).1, endR (opsR (nS (bs, 0) 1048576).1.1.toNat (nS (bs, 0) 1048576).2).2.2.1 (opsR (nS (bs, 0) 1048576).1.1.toNat (nS (bs, 0) 1048576).2).2.2.2)
theorem info_op : (Tryd.prog.info? 42).map (fun i => (i.zero, i.size, i.bytes)) = some (some (.agg #[.int .i64 0, .int .i64 0, .int .i64 0, .int .i64 0, .string ⟨#[]⟩, .string ⟨#[]⟩, .string ⟨#[]⟩, .string ⟨#[]⟩, .slice none 0 0]), k42.sz, 120) := by kernel_rfl
/-- What codec.read tells. -/
def readPost (w : World) (bs : List Int) (e : Ending) (w' : World) : Prop :=
  (∃ v, e = .returned (.tuple #[v, .int .i64 (readR bs).2]) ∧ k42.R 42 w' w.heap.size (fun _ => True) v (readR bs).1) ∧ Below w.heap.size w w'
/-- The door of codec.read, where a reading has been stopped. -/
theorem door_stop {Φ : Ending → World → Prop} {g : Nat} {v0 v1 v v4 v5 v6 v7 v8 v9 v10 v11 v12 v13 v14 v15 v16 v17 v18 v19 v20 v21 v22 v23 : Value} {n : Int} {w4 : World} (hc : w4.heap[g]? = some (.cells #[.int .i64 0] 26 (0, 0)))
    (h : Φ (.returned (.tuple #[v, .int .i64 n])) (w4.setCell ⟨g, 0, none⟩ (.int .i64 n))) :
    bodyPostD Tryd.prog Tryd.f21 Φ (Exit.panic [{ v := .iface 82 (.int .i64 n), recovered := false }]) { tmps := #[v0, v1, v, .pointer (some ⟨g, 0, none⟩), v4, v5, v6, v7, v8, v9, v10, v11, v12, v13, v14, v15, v16, v17, v18, v19, v20, v21, v22, v23], defers := [{ target := Target.fn (Fn.func 38) #[.pointer (some ⟨g, 0, none⟩)], args := #[] }] } w4 := by
  have c0 := cell_blk (j := 0) (v := .int .i64 0) hc rfl
  have hlt := blk_lt' hc
  refine leaves_cons (f := 38) (args := #[.pointer (some ⟨g, 0, none⟩)]) (by simp) (by simp [go_sem]) ?_
  refine (catch_stop g 0 n w4 c0 (Lib.frozen_of_heap hc 0)).mono ?_
  rintro e u' w'' ⟨rfl, rfl, rfl⟩
  have c1 : (w4.setCell ⟨g, 0, none⟩ (.int .i64 n)).cell? ⟨g, 0, none⟩ = some (.int .i64 n) := by rw [Lib.cell_of_heap (set_blk hc _)]; rfl
  simp [Leaves, settle, results, Tryd.results21, go_sem, c1]
  exact h
/-- The door of codec.read behind a return. -/
theorem door_ret {Φ : Ending → World → Prop} {g : Nat} {v0 v1 v v4 v5 v6 v7 v8 v9 v10 v11 v12 v13 v14 v15 v16 v17 v18 v19 v20 v21 v22 v23 : Value} {n : Int} {w4 : World} (hc : w4.heap[g]? = some (.cells #[.int .i64 n] 26 (0, 0)))
    (h : Φ (.returned (.tuple #[v, .int .i64 n])) w4) :
    bodyPostD Tryd.prog Tryd.f21 Φ Exit.ret { tmps := #[v0, v1, v, .pointer (some ⟨g, 0, none⟩), v4, v5, v6, v7, v8, v9, v10, v11, v12, v13, v14, v15, v16, v17, v18, v19, v20, v21, v22, v23], defers := [{ target := Target.fn (Fn.func 38) #[.pointer (some ⟨g, 0, none⟩)], args := #[] }] } w4 := by
  have c0 := cell_blk (j := 0) (v := .int .i64 n) hc rfl
  refine leaves_cons (f := 38) (args := #[.pointer (some ⟨g, 0, none⟩)]) (by simp) (by simp [go_sem]) ?_
  refine (catch_idle g w4).mono ?_
  rintro e u' w'' ⟨rfl, rfl, rfl⟩
  simp [Leaves, settle, results, Tryd.results21, go_sem, c0]
  exact h
theorem readPost_mk {w w' : World} {bs : List Int} {v : Value} {n : Int} (l : List S42) (hR : readR bs = (l, n)) (hrow : k42.R 42 w' w.heap.size (fun _ => True) v l) (hb : Below w.heap.size w w') : readPost w bs (.returned (.tuple #[v, .int .i64 n])) w' := by
  unfold readPost
  rw [hR]
  exact ⟨⟨v, rfl, hrow⟩, hb⟩
theorem below_but {w w3 w4 : World} {p : Nat} (h : Below w.heap.size w w3) (hb : But (· = p) w3 w4) (hp : w.heap.size ≤ p) : Below w.heap.size w w4 :=
  ⟨hb.os.trans h.os, hb.tape.trans h.tape, hb.output.trans h.output, Nat.le_trans h.size hb.size, fun k hk => (hb.block k (Nat.lt_of_lt_of_le hk h.size) (by omega)).trans (h.block k hk)⟩
theorem below_put {w w4 : World} (h : Below w.heap.size w w4) (v : Value) : Below w.heap.size w (w4.setCell ⟨w.heap.size, 0, none⟩ v) := by
  have hB : But (· = w.heap.size) w4 (w4.setCell ⟨w.heap.size, 0, none⟩ v) := But.put (S := (· = w.heap.size)) (But.refl _ w4) (j := 0) rfl v
  exact below_but h hB (Nat.le_refl _)
/-- The numbers of a script: what codec.read makes of it. -/
theorem readR_1 (bs : List Int) (h : (nS (bs, 0) 1048576).2.2 ≠ 0) : readR bs = ([], (nS (bs, 0) 1048576).2.2) := by
  unfold readR
  rw [if_pos h]
theorem readR_2 (bs : List Int) {n : Nat} {s1 : St} (hn : (nS (bs, 0) 1048576).1.1 = (n : Int)) (hs : s1 = (nS (bs, 0) 1048576).2) (h : s1.2 = 0) {l : List S42} {e : Int} {s' : St} (ho : opsR n s1 = (l, e, s')) (he : e ≠ 0) : readR bs = (l, e) := by
  subst hs
  unfold readR
  rw [if_neg (by simp [h]), hn, Int.toNat_natCast, ho, if_pos he]
theorem readR_3 (bs : List Int) {n : Nat} {s1 : St} (hn : (nS (bs, 0) 1048576).1.1 = (n : Int)) (hs : s1 = (nS (bs, 0) 1048576).2) (h : s1.2 = 0) {l : List S42} {s' : St} (ho : opsR n s1 = (l, 0, s')) : readR bs = (l, endR s'.1 s'.2) := by
  subst hs
  unfold readR
  rw [if_neg (by simp [h]), hn, Int.toNat_natCast, ho, if_neg (by simp)]
theorem opsR_stop (d : Nat) (s : St) (h : (opR s).1.2 ≠ 0) : opsR (d + 1) s = ([], (opR s).1.2, (opR s).2) := by
  show (if (opR s).1.2 ≠ 0 then _ else _) = _
  rw [if_pos h]
theorem opsR_go (d : Nat) (s : St) (h : (opR s).1.2 = 0) : opsR (d + 1) s = ((opR s).1.1 :: (opsR d (opR s).2).1, (opsR d (opR s).2).2) := by
  show (if (opR s).1.2 ≠ 0 then _ else _) = _
  rw [if_neg (by simp [h])]
theorem R_since {w w3 : World} {v : Value} {l : List S42} {n : Nat} (hn : n ≤ w3.heap.size) (h : k42.R 42 w w3.heap.size (fun j => w3.heap.size ≤ j) v l) : k42.R 42 w n (fun _ => True) v l := Kd.R_mono (Kd.R_lower h hn) (fun _ _ => trivial)
theorem AtB.grown {T : Nat} {W : World} {p : Nat} {ok : Nat → Prop} {s : St} {w w' : World} (h : AtB T W p ok s w) (hp : p < W.heap.size) (hok : ∀ k, ok k → k < p) {row : Option Nat} (g : w.grownBy w' row) (hr : ∀ k, row = some k → W.heap.size ≤ k) : AtB T W p ok s w' :=
  ⟨h.but.grown g (fun k hk => .inr (hr k hk)), h.at_.but ((But.refl (fun k => row = some k) w).grown g (fun k hk => .inl hk)) (fun k hk => ⟨by have := hr k hk; omega, fun e => by have := hok _ e; have := hr k hk; omega⟩)⟩
/-- What holds behind k operations. -/
def InvR (w3 : World) (p : Nat) (ok : Nat → Prop) (n : Nat) (s1 : St) (k : Nat) (v : Value) (wr : World) : Prop :=
  ∃ (l : List S42) (sk : St), l.length = k ∧ opsR n s1 = (l ++ (opsR (n - k) sk).1, (opsR (n - k) sk).2) ∧ AtB 107 w3 p ok sk wr ∧ k42.R 42 wr w3.heap.size (fun j => w3.heap.size ≤ j) v l
set_option maxHeartbeats 2000000 in
theorem cread_c (A : Option Addr) (c : Nat) (bs : List Int) (w : World) (hgl : GL w) (hC : Kd.C (Kd.int .u8) w A bs.length bs) (hc : bs.length ≤ c) (hB : Bytes bs) (hlen : bs.length ≤ 140737488355328) :
    Calls Tryd.prog 21 #[.slice A bs.length c] w fun e w' => readPost w bs e w' := by
  have hmf : ∀ (fn : Fn) (first cap : Array Value) (w : World), (Instr.makeFunc fn first cap).run Tryd.prog w = .ok (.func fn first cap) w := fun _ _ _ _ => rfl
  have HRD := Aside0.mk (read_c A c bs hB (w.alloc (.cells #[.int .i64 0] 26)) (Kd.C_below hC (below_alloc (Below.refl _ _) _)) hlen)
  have HG := Aside0.mk hgl
  obtain ⟨R, hR⟩ : ∃ R, R = readR bs := ⟨_, rfl⟩
  have HRS := Aside0.mk hR
  have HBY := Aside0.mk hB
  clear hC hB hgl hR
  go_enter_defers Tryd.func21, Tryd.ntmps21
  go_wp2_with (first
    | (go_at_call 39; (refine (HRD.out).mono ?_); rintro e w2 ⟨⟨p, rfl, hp, ha⟩, hb⟩; simp at hp; obtain ⟨ok, hok, ha⟩ : ∃ ok : Nat → Prop, (∀ k, ok k → k < p) ∧ AtR 107 p ok bs 0 w2 := ⟨_, fun k hk => hk.2, ha⟩; have HA := Aside0.mk (AtR.al ha (.cells #[.pointer (some ⟨p, 0, none⟩)] 87)); have hpw := ha.lt; have HB := Aside0.mk (below_then (below_alloc (Below.refl _ w) (.cells #[.int .i64 0] 26)) (by simp) hb); have hg2 := (hb.block w.heap.size (by simp)).trans (one_new_ w (.cells #[.int .i64 0] 26)); have hg3 := ((below_alloc (Below.refl _ w2) (.cells #[.pointer (some ⟨p, 0, none⟩)] 87)).block w.heap.size (blk_lt' hg2)).trans hg2; have hr3 := one_new_ w2 (.cells #[.pointer (some ⟨p, 0, none⟩)] 87); have HG3 := Aside0.mk hg3; have HR3 := Aside0.mk hr3; have q3 := cell_blk (j := 0) (v := .pointer (some ⟨p, 0, none⟩)) hr3 rfl; have hsz2 := HB.out.size; clear ha hb hg2 hg3 hr3)
    | (go_at_call 40; (refine (num_d 1048576 (by omega) p ok (bs, 0) _ HA.out).mono ?_); rintro e w4 ⟨⟨he, rfl, ha⟩ | ⟨he, rfl⟩, hb⟩; rotate_left; go_loud (focus (unfold stopE; go_wp2_with fail; refine door_stop ((hb.block _ (blk_lt' HG3.out) (by omega)).trans HG3.out) (readPost_mk [] (readR_1 bs he) (Kd.R_nil k42 42 _ _ _) (below_put (below_but (below_alloc HB.out _) hb (by omega)) _)))); have HAB := Aside0.mk (AtB.mk (T := 107) hb ha); have HE := Aside0.mk he; clear ha hb he))
  obtain ⟨n, hn⟩ : ∃ n : Nat, (nS (bs, 0) 1048576).1.1 = (n : Int) := ⟨(nS (bs, 0) 1048576).1.1.toNat, by have := (nS_val (bs, 0) 1048576 HBY.out (by omega)).1; omega⟩
  have hn1 : n ≤ 1048576 := by have := (nS_val (bs, 0) 1048576 HBY.out (by omega)).2; omega
  obtain ⟨s1, hs1⟩ : ∃ s1, s1 = (nS (bs, 0) 1048576).2 := ⟨_, rfl⟩
  rw [← hs1] at HAB HE
  have HNN := Aside0.mk hn
  have HS1 := Aside0.mk hs1
  rw [hn]
  clear hs1 hn
  obtain ⟨w3, hw3⟩ : ∃ w3, w3 = w2.alloc (.cells #[.pointer (some ⟨p, 0, none⟩)] 87) := ⟨_, rfl⟩
  have hs3 : w3.heap.size = w2.heap.size + 1 := by rw [hw3]; simp
  rw [← hw3] at HAB HG3 HR3
  have HB3 : Aside0 (Below w.heap.size w w3) := ⟨by rw [hw3]; exact below_alloc HB.out _⟩
  clear hw3 q3
  have HL0 : Aside0 (InvR w3 p ok n s1 0 (.slice none 0 0) w4) := ⟨[], s1, rfl, by simp, HAB.out, Kd.R_nil k42 42 _ _ _⟩
  go_loopw [2, 11] (fun v i wr => ∃ k : Nat, k ≤ n ∧ i = .int .i64 k ∧ Aside0 (InvR w3 p ok n s1 k v wr)) (fun _ i _ => n - (intOf i).toNat)
  case atStart => exact ⟨0, Nat.zero_le _, rfl, HL0⟩
  case round =>
    obtain ⟨k, hkn, rfl, HI⟩ := hrel
    obtain ⟨l, sk, hl, hop, hab, hR⟩ := HI.out
    obtain ⟨A8, c8, rfl⟩ := Kd.R_slice hR
    have hbw := below_but HB3.out hab.but (by omega)
    have hgr := (hab.but.block w.heap.size (blk_lt' HG3.out) (by omega)).trans HG3.out
    have hrr := (hab.but.block w2.heap.size (blk_lt' HR3.out) (by omega)).trans HR3.out
    have qr := cell_blk (j := 0) (v := .pointer (some ⟨p, 0, none⟩)) hrr rfl
    by_cases hlt : k < n
    · obtain ⟨d, hd⟩ : ∃ d, n - k = d + 1 := ⟨n - k - 1, by omega⟩
      rw [hd] at hop
      have HOP := Aside0.mk hop
      have HL := Aside0.mk hl
      have HAB2 := Aside0.mk hab
      have HRW := Aside0.mk hR
      have HBW := Aside0.mk hbw
      have HGR := Aside0.mk hgr
      clear hop hab hR hbw hgr hrr hl
      go_wp2_with (first
        | (go_at_call 41; (refine (op_c w HG.out p ok sk _ hok HBW.out (by omega) HAB2.out.at_).mono ?_); rintro e w5 ⟨hb, ⟨h0, v8, rfl, hr8, ha⟩ | ⟨h0, rfl⟩⟩; rotate_left; go_loud (focus (unfold stopE; go_wp2_with fail; exact door_stop ((hb.block _ (blk_lt' HGR.out) (by omega)).trans HGR.out) (readPost_mk l (readR_2 bs HNN.out HS1.out HE.out (by rw [HOP.out, opsR_stop d sk h0, List.append_nil]) h0) (R_since HB3.out.size (Kd.R_far (Kd.R_step HRW.out (fun j hj hlt => hb.block j hlt (by omega))) (fun j hj => by show j ≠ w.heap.size; omega) _)) (below_put (below_but HBW.out hb (by omega)) _)))); unfold opV; have HB5 := Aside0.mk hb; have HR8 := Aside0.mk (Kd.R_lower (Kd.R_mono (Kd.R_bound hr8) (fun j hj => hj.2.1)) HAB2.out.but.size); have HA5 := Aside0.mk ha; have H0 := Aside0.mk h0; clear hb hr8 ha h0)
        | (at_builtin; refine Kd.R_append (w0 := w5) (W := w5) k42 w3.heap.size rfl (.tmp 13) (.tmp 16) 22 42 (.agg #[.int .i64 0, .int .i64 0, .int .i64 0, .int .i64 0, .string ⟨#[]⟩, .string ⟨#[]⟩, .string ⟨#[]⟩, .string ⟨#[]⟩, .slice none 0 0]) 120 rfl Tryd.underlying22 info_op rfl (by decide) (by decide) (.slice A8 l.length c8) l (opR sk).1.1 [.int .i64 (opR sk).1.1.f0, .int .i64 (opR sk).1.1.f1, .int .i64 (opR sk).1.1.f2, .int .i64 (opR sk).1.1.f3, .string (opR sk).1.1.f4, .string (opR sk).1.1.f5, .string (opR sk).1.1.f6, .string (opR sk).1.1.f7, v8] (fun j => w3.heap.size ≤ j) (fun j => wr.heap.size ≤ j) rfl rfl (k42_mkM w5 w3.heap.size _ (opR sk).1.1 HR8.out) ?hokp ?hfr (Kd.R_step HRW.out (fun j hj hlt => HB5.out.block j hlt (by omega))) (Below.refl _ _) ?hbase ?hlen ?hk; (case hokp => intro j hj; exact ⟨Nat.le_trans HAB2.out.but.size hj, fun e => by have := Kd.R_lt HRW.out j e.symm; omega⟩); (case hfr => intro j hj; have := HAB2.out.but.size; have := HB5.out.size; omega); (case hbase => have := HAB2.out.but.size; have := HB5.out.size; omega); (case hlen => have := HL.out; omega); intro v1 w6 hR1 hb1 hg1 hat1; obtain ⟨A9, c9, rfl⟩ := Kd.R_slice hR1; have HR9 := Aside0.mk hR1; have HAB9 := Aside0.mk (AtB.grown ⟨HAB2.out.but.then_ HB5.out, HA5.out⟩ (by omega) hok hg1 (fun j hj => Kd.R_base HRW.out j hj)); clear hR1 hb1 hg1 hat1))
      go_roundw
      case rel =>
        refine ⟨k + 1, by omega, by go_num, ⟨l ++ [(opR sk).1.1], (opR sk).2, by rw [List.length_append, HL.out]; rfl, ?_, HAB9.out, by have h9 := HR9.out; rw [List.length_append] at h9; exact h9⟩⟩
        rw [HOP.out, opsR_go d sk H0.out, show n - (k + 1) = d by omega, List.append_assoc]
        rfl
      case measure => simp [intOf]; omega
    · obtain rfl : k = n := by omega
      rw [Nat.sub_self] at hop
      have hop' : opsR k s1 = (l, 0, sk) := by rw [hop]; simp [opsR]
      have HOP := Aside0.mk hop'
      have HL := Aside0.mk hl
      have HAB2 := Aside0.mk hab
      have HRW := Aside0.mk hR
      have HBW := Aside0.mk hbw
      have HGR := Aside0.mk hgr
      have g0 := cell_blk (j := 0) (v := .int .i64 0) hgr rfl
      have gz := Lib.frozen_of_heap hgr 0
      clear hop hop' hab hR hbw hgr hrr hl
      go_wp2_with (first
        | (go_at_call 43; (refine (r_end p ok sk.1 sk.2 _ HAB2.out.at_).mono ?_); rintro e w5 ⟨rfl, rfl⟩)
        | (go_at_call 42; (refine (must_d _ _).mono ?_); rintro e w7 ⟨⟨he, rfl⟩ | ⟨he, rfl⟩, rfl⟩; rotate_left; go_loud (focus (unfold stopE; go_wp2_with fail; exact door_stop HGR.out (readPost_mk l (readR_3 bs HNN.out HS1.out HE.out HOP.out) (R_since HB3.out.size (Kd.R_far HRW.out (fun j hj => by show j ≠ w.heap.size; omega) _)) (below_put HBW.out _)))); have HEE := Aside0.mk he; clear he))
      refine door_ret (set_blk HGR.out _) (readPost_mk l (by rw [readR_3 bs HNN.out HS1.out HE.out HOP.out, HEE.out]) (R_since HB3.out.size (Kd.R_far HRW.out (fun j hj => by show j ≠ w.heap.size; omega) _)) (below_put HBW.out _))
end Go.Proofs.YtfpijjjmgggfkaaDoorE

namespace Go.Proofs.YtfpijjjmgggfkaaDoorE
open Go Go.RowKit Go.Proofs.YtfpijjjmgggfkaaDoorW.PrintWords Go.Proofs.YtfpijjjmgggfkaaDoorW.PrintMore Go.Proofs.YtfpijjjmgggfkaaDoorX Go.Proofs.YtfpijjjmgggfkaaDoor.P26 Go.Proofs.YtfpijjjmgggfkaaDoor.L01
set_option linter.unusedVariables false
set_option linter.unusedSimpArgs false
set_option maxRecDepth 100000
/-- What Decode tells: the script, the place, the error. -/
def decS (bs : List Int) : List S42 × Int × Int := if (readR bs).2 ≠ 0 then ([], ((readR bs).1.length : Int), (readR bs).2) else ((readR bs).1, 0, 0)
theorem decS_bad {bs : List Int} (h : (readR bs).2 ≠ 0) : decS bs = ([], ((readR bs).1.length : Int), (readR bs).2) := by
  unfold decS
  rw [if_pos h]
theorem decS_ok {bs : List Int} (h : (readR bs).2 = 0) : decS bs = ((readR bs).1, 0, 0) := by
  unfold decS
  rw [if_neg (by simp [h])]
def decPost (D : List S42 × Int × Int) (w : World) (e : Ending) (w' : World) : Prop :=
  (∃ v, e = .returned (.tuple #[v, .int .i64 D.2.1, .int .i64 D.2.2]) ∧ k42.R 42 w' w.heap.size (fun _ => True) v D.1) ∧ Below w.heap.size w w'
set_option maxHeartbeats 2000000 in
theorem Decode_c (A : Option Addr) (c : Nat) (bs : List Int) (w : World) (hgl : GL w) (hC : Kd.C (Kd.int .u8) w A bs.length bs) (hc : bs.length ≤ c) (hB : Bytes bs) (hlen : bs.length ≤ 140737488355328) :
    Calls Tryd.prog 11 #[.slice A bs.length c] w fun e w' => decPost (decS bs) w e w' := by
  have HR := Aside0.mk (cread_c A c bs w hgl hC hc hB hlen)
  clear hC hB hgl hc hlen
  by_cases he : (readR bs).2 = 0
  · rw [decS_ok he]
    have HE := Aside0.mk he
    clear he
    go_enter Tryd.func11, Tryd.ntmps11
    go_wp2_with (go_at_call 21; (refine (HR.out).mono ?_); rintro e w1 ⟨⟨v, rfl, hv⟩, hb⟩; have HV := Aside0.mk hv; have HB := Aside0.mk hb; rw [HE.out]; obtain ⟨A1, c1, rfl⟩ := Kd.R_slice hv; clear hv hb)
    go_ret3
    exact ⟨⟨_, rfl, HV.out⟩, HB.out⟩
  · rw [decS_bad he]
    obtain ⟨R, hR⟩ : ∃ R, R = readR bs := ⟨_, rfl⟩
    have HR2 : Aside0 (Calls Tryd.prog 21 #[.slice A bs.length c] w fun e w' => (∃ v, e = .returned (.tuple #[v, .int .i64 R.2]) ∧ k42.R 42 w' w.heap.size (fun _ => True) v R.1) ∧ Below w.heap.size w w') := ⟨by rw [hR]; exact HR.out⟩
    rw [← hR] at he ⊢
    clear HR hR
    have h1 : (R.2 == 0) = false := by simpa using he
    have h2 : (R.2 != 0) = true := by simpa using he
    go_enter Tryd.func11, Tryd.ntmps11
    go_wp2_with (go_at_call 21; (refine (HR2.out).mono ?_); rintro e w1 ⟨⟨v, rfl, hv⟩, hb⟩; have HB := Aside0.mk hb; obtain ⟨A1, c1, rfl⟩ := Kd.R_slice hv; clear hv hb)
    go_ret3
    exact ⟨⟨_, rfl, Kd.R_nil k42 42 _ _ _⟩, HB.out⟩
end Go.Proofs.YtfpijjjmgggfkaaDoorE

namespace Go.Proofs.YtfpijjjmgggfkaaDoorE
open Go Go.RowKit Go.Proofs.YtfpijjjmgggfkaaDoorW.PrintWords Go.Proofs.YtfpijjjmgggfkaaDoorW.PrintMore Go.Proofs.YtfpijjjmgggfkaaDoorX Go.Proofs.YtfpijjjmgggfkaaDoor.P26 Go.Proofs.YtfpijjjmgggfkaaDoor.L01
set_option linter.unusedVariables false
set_option linter.unusedSimpArgs false
theorem nS_put (n : Nat) (m : Int) (hn : (n : Int) ≤ m) (hm : m ≤ 4294967295) (rest : List Int) : nS (enc n ++ rest, 0) m = (((n : Int), 0), (rest, 0)) := by
  unfold nS numR
  simp only
  rw [if_neg (by simp), takeS_put (by omega) rest, if_neg (by simp), if_neg (by simp; omega)]
  simp
theorem hS_put (n : Nat) (hn : n ≤ 4294967295) (rest : List Int) : hS (enc n ++ rest, 0) = (((n : Int), 0), (rest, 0)) := nS_put n 4294967295 (by omega) (by omega) rest
theorem tS_put (s : ByteArray) (hs : s.size ≤ 65536) (rest : List Int) : tS (encT s ++ rest, 0) = ((s, 0), (rest, 0)) := by
  have h1 : encT s ++ rest = enc s.size ++ (bytesI s ++ rest) := by simp [encT]
  have hl := bytesI_len s
  unfold tS textR
  simp only
  rw [h1, if_neg (by simp), takeS_put (by omega) _, if_neg (by simp), if_neg (by simp; omega), if_neg (by simp [hl]; omega)]
  simp only [Int.toNat_natCast]
  have h2 : ((enc s.size ++ (bytesI s ++ rest)).take ((enc s.size).length + s.size)).drop (enc s.size).length = bytesI s := by
    rw [List.drop_take, List.drop_left, show (enc s.size).length + s.size - (enc s.size).length = s.size by omega, ← hl, List.take_left]
  have h3 : (enc s.size ++ (bytesI s ++ rest)).drop ((enc s.size).length + s.size) = rest := by
    rw [← List.drop_drop, List.drop_left, ← hl, List.drop_left]
  rw [h2, h3, str_bytesI]
theorem nS_inv (s : St) (m : Int) (hB : Bytes s.1) (h : (nS s m).2.2 = 0) : ∃ n : Nat, s.1 = enc n ++ (nS s m).2.1 ∧ (nS s m).1 = ((n : Int), 0) ∧ s.2 = 0 ∧ (n : Int) ≤ m ∧ nS s m = (((n : Int), 0), ((nS s m).2.1, 0)) := by
  have h0 : s.2 = 0 := by
    by_cases h0 : s.2 = 0
    · exact h0
    · rw [nS_stick s m h0] at h; exact absurd h h0
  have he : nS s m = nS s m := rfl
  unfold nS numR at h he ⊢
  rw [if_neg (by simp [h0])] at h ⊢
  by_cases h1 : (takeS 0 s.1).2.2 ≠ 0
  · rw [if_pos h1] at h; exact absurd h h1
  · rw [if_neg h1] at h ⊢
    obtain ⟨n, j, e, -, hj, h3, h4⟩ := takeS_ok s.1 hB (by simpa using h1)
    rw [e] at h ⊢
    simp only at h ⊢
    by_cases h2 : m < (n : Int)
    · rw [if_pos h2] at h; simp at h
    · rw [if_neg h2] at h ⊢
      refine ⟨n, ?_, rfl, h0, by omega, rfl⟩
      simp only [Int.toNat_natCast]
      rw [hj, List.take_append_drop]
theorem bytesI_str (l : List Int) (h : Bytes l) : bytesI (strOfNums l) = l := by
  unfold bytesI strOfNums
  simp only [List.map_map]
  conv => rhs; rw [← List.map_id l]
  refine List.map_congr_left fun b hb => ?_
  have := h b hb
  simp
  omega
theorem size_str (l : List Int) : (strOfNums l).size = l.length := by
  unfold strOfNums
  show (List.map _ _).toArray.size = _
  rw [List.size_toArray, List.length_map]
theorem tS_inv (s : St) (hB : Bytes s.1) (h : (tS s).2.2 = 0) : s.1 = encT (tS s).1.1 ++ (tS s).2.1 ∧ (tS s).1.1.size ≤ 65536 ∧ s.2 = 0 := by
  have hz := tS_size s hB
  have h0 : s.2 = 0 := by
    by_cases h0 : s.2 = 0
    · exact h0
    · rw [tS_stick s h0] at h; exact absurd h h0
  refine ⟨?_, hz, h0⟩
  clear hz
  unfold tS textR at h ⊢
  rw [if_neg (by simp [h0])] at h ⊢
  by_cases h1 : (takeS 0 s.1).2.2 ≠ 0
  · rw [if_pos h1] at h; exact absurd h h1
  · rw [if_neg h1] at h ⊢
    obtain ⟨n, j, e, -, hj, h3, h4⟩ := takeS_ok s.1 hB (by simpa using h1)
    rw [e] at h ⊢
    simp only at h ⊢
    by_cases h2 : (65536 : Int) < 0 ∨ (65536 : Int) < (n : Int)
    · rw [if_pos h2] at h; simp at h
    · rw [if_neg h2] at h ⊢
      by_cases h5 : (s.1.length : Int) - (j : Int) < (n : Int)
      · rw [if_pos h5] at h; simp at h
      · rw [if_neg h5]
        simp only [Int.toNat_natCast]
        have hb : Bytes ((s.1.take (j + n)).drop j) := fun x hx => hB x (List.mem_of_mem_take (List.mem_of_mem_drop hx))
        have hn : ((s.1.take (j + n)).drop j).length = n := by rw [List.length_drop, List.length_take]; omega
        unfold encT
        rw [size_str, hn, bytesI_str _ hb, hj, List.append_assoc, List.drop_take, show j + n - j = n by omega]
        rw [show s.1.drop (j + n) = (s.1.drop j).drop n by rw [List.drop_drop], List.take_append_drop, List.take_append_drop]
theorem attrsR_put : ∀ (l : List S44) (h : ∀ a ∈ l, a.f0.size ≤ 65536 ∧ a.f1.size ≤ 65536) (rest : List Int), attrsR l.length (attrB l ++ rest, 0) = (l, (rest, 0)) := by
  intro l
  induction l with
  | nil => intro _ rest; rfl
  | cons a t ih =>
    intro h rest
    have ha := h a (List.mem_cons_self ..)
    have e1 : attrB (a :: t) ++ rest = encT a.f0 ++ (encT a.f1 ++ (attrB t ++ rest)) := by simp [attrB, encTs]
    rw [e1]
    show (_ :: _, _) = _
    simp only [tS_put _ ha.1, tS_put _ ha.2, ih (fun x hx => h x (List.mem_cons_of_mem _ hx)) rest]
theorem attrsR_inv : ∀ (d : Nat) (s : St) (hB : Bytes s.1) (h : (attrsR d s).2.2 = 0), s.1 = attrB (attrsR d s).1 ++ (attrsR d s).2.1 ∧ (attrsR d s).1.length = d ∧ s.2 = 0 ∧ Bytes (attrsR d s).2.1 := by
  intro d
  induction d with
  | zero => intro s hB h; exact ⟨by simp [attrsR, attrB], rfl, h, hB⟩
  | succ d ih =>
    intro s hB h
    have hB1 := (tS_bytes s hB).1
    have hB2 := (tS_bytes _ hB1).1
    obtain ⟨i1, i2, i3, i4⟩ := ih (tS (tS s).2).2 hB2 h
    obtain ⟨j1, -, j3⟩ := tS_inv (tS s).2 hB1 i3
    obtain ⟨k1, -, k3⟩ := tS_inv s hB j3
    refine ⟨?_, by show (_ :: _).length = _; rw [List.length_cons, i2], k3, i4⟩
    show s.1 = attrB (_ :: (attrsR d (tS (tS s).2).2).1) ++ (attrsR d (tS (tS s).2).2).2.1
    rw [k1, j1]
    conv => lhs; rw [i1]
    simp [attrB, encTs]
end Go.Proofs.YtfpijjjmgggfkaaDoorE

namespace Go.Proofs.YtfpijjjmgggfkaaDoorE
open Go Go.RowKit Go.Proofs.YtfpijjjmgggfkaaDoorW.PrintWords Go.Proofs.YtfpijjjmgggfkaaDoorW.PrintMore Go.Proofs.YtfpijjjmgggfkaaDoorX Go.Proofs.YtfpijjjmgggfkaaDoor.P26 Go.Proofs.YtfpijjjmgggfkaaDoor.L01
set_option linter.unusedVariables false
set_option linter.unusedSimpArgs false
theorem em_of (s : ByteArray) (h : s.size = 0) : s = em := by
  have h1 : s.data = #[] := by
    have : s.data.size = 0 := h
    exact Array.eq_empty_of_size_eq_zero this
  cases s
  simp only at h1
  rw [h1]
/-- What an operation that may be does not have. -/
theorem chk_none (x : S42) (h : chk x = 0) : noneO x = false := by
  unfold chk checkO at h
  by_cases h1 : x.f0 < 1 ∨ x.f0 > 7
  · rw [if_pos h1] at h; simp at h
  rw [if_neg h1] at h
  by_cases h2 : overO x.f1 = true ∨ overO x.f2 = true ∨ overO x.f3 = true
  · rw [if_pos h2] at h; simp at h
  rw [if_neg h2] at h
  by_cases h3 : noneO x = true
  · rw [if_pos h3] at h; simp at h
  simpa using h3
theorem oneB_body (x : S42) : oneB x = enc x.f0.toNat ++ (if x.f0 = 1 then encT x.f4 ++ (encT x.f5 ++ (encT x.f7 ++ (enc x.f8.length ++ attrB x.f8)))
  else if x.f0 = 2 then enc x.f1.toNat ++ (enc x.f2.toNat ++ enc x.f3.toNat)
  else if x.f0 = 3 then enc x.f1.toNat ++ enc x.f3.toNat
  else if x.f0 = 4 then enc x.f1.toNat
  else if x.f0 = 5 then enc x.f1.toNat ++ (encT x.f6 ++ encT x.f7)
  else if x.f0 = 6 then enc x.f1.toNat ++ encT x.f6
  else enc x.f1.toNat ++ encT x.f7) := by
  unfold oneB
  repeat' split
  all_goals simp [Go.Proofs.YtfpijjjmgggfkaaDoor.L01.encs, encTs]
theorem opR_put (x : S42) (hc : chk x = 0) (rest : List Int) : opR (oneB x ++ rest, 0) = ((x, 0), (rest, 0)) := by
  have hn := chk_none x hc
  obtain ⟨hk, h1, h2, h3, h4, h5, h6, h7, h8, h9⟩ := chk_okW x hc
  have e0 : x.f0 = ((x.f0.toNat : Nat) : Int) := by omega
  have e1 : x.f1 = ((x.f1.toNat : Nat) : Int) := by have := h1.1; omega
  have e2 : x.f2 = ((x.f2.toNat : Nat) : Int) := by have := h2.1; omega
  have e3 : x.f3 = ((x.f3.toNat : Nat) : Int) := by have := h3.1; omega
  have g1 : x.f1.toNat ≤ 4294967295 := by have := h1.2; omega
  have g2 : x.f2.toNat ≤ 4294967295 := by have := h2.2; omega
  have g3 : x.f3.toNat ≤ 4294967295 := by have := h3.2; omega
  have hat : ∀ a ∈ x.f8, a.f0.size ≤ 65536 ∧ a.f1.size ≤ 65536 := by
    intro a ha
    obtain ⟨i, hi, rfl⟩ := List.getElem_of_mem ha
    have := h9 i hi
    unfold rd_T44 at this
    rwa [Int.toNat_natCast, List.getD_eq_getElem?_getD, List.getElem?_eq_getElem hi] at this
  have hbody : bodyR x.f0 ((oneB x).drop (enc x.f0.toNat).length ++ rest, 0) = (x, (rest, 0)) := by
    rw [oneB_body, List.drop_left]
    unfold noneO at hn
    simp only [Bool.or_eq_false_iff, Bool.and_eq_false_iff, decide_eq_false_iff_not, ne_eq, Classical.not_not] at hn
    obtain ⟨f0, f1, f2, f3, f4, f5, f6, f7, f8⟩ := x
    simp only at *
    have hcs : f0 = 1 ∨ f0 = 2 ∨ f0 = 3 ∨ f0 = 4 ∨ f0 = 5 ∨ f0 = 6 ∨ f0 = 7 := by omega
    rcases hcs with rfl | rfl | rfl | rfl | rfl | rfl | rfl
    · have hz : f1 = 0 ∧ f2 = 0 ∧ f3 = 0 ∧ f6.size = 0 := by simp at hn; simp [hn]
      obtain ⟨z1, z2, z3, z6⟩ := hz
      have z6 := em_of f6 z6
      subst z1 z2 z3 z6
      simp only [bodyR, Int.reduceEq, if_false, if_true, List.append_assoc, tS_put _ h4, tS_put _ h5, tS_put _ h7, nS_put _ 64 (by omega : (f8.length : Int) ≤ 64) (by omega), attrsR_put f8 hat rest, Int.toNat_natCast]
    · have hz : f4.size = 0 ∧ f5.size = 0 ∧ f6.size = 0 ∧ f7.size = 0 ∧ f8 = [] := by simp at hn; simp [hn]
      obtain ⟨z4, z5, z6, z7, z8⟩ := hz
      have z4 := em_of f4 z4
      have z5 := em_of f5 z5
      have z6 := em_of f6 z6
      have z7 := em_of f7 z7
      subst z4 z5 z6 z7 z8
      simp only [bodyR, Int.reduceEq, if_false, if_true, List.append_assoc, hS_put _ g1, hS_put _ g2, hS_put _ g3, ← e1, ← e2, ← e3]
    · have hz : f2 = 0 ∧ f4.size = 0 ∧ f5.size = 0 ∧ f6.size = 0 ∧ f7.size = 0 ∧ f8 = [] := by simp at hn; simp [hn]
      obtain ⟨z2, z4, z5, z6, z7, z8⟩ := hz
      have z4 := em_of f4 z4
      have z5 := em_of f5 z5
      have z6 := em_of f6 z6
      have z7 := em_of f7 z7
      subst z2 z4 z5 z6 z7 z8
      simp only [bodyR, Int.reduceEq, if_false, if_true, List.append_assoc, hS_put _ g1, hS_put _ g3, ← e1, ← e3]
    · have hz : f2 = 0 ∧ f3 = 0 ∧ f4.size = 0 ∧ f5.size = 0 ∧ f6.size = 0 ∧ f7.size = 0 ∧ f8 = [] := by simp at hn; simp [hn]
      obtain ⟨z2, z3, z4, z5, z6, z7, z8⟩ := hz
      have z4 := em_of f4 z4
      have z5 := em_of f5 z5
      have z6 := em_of f6 z6
      have z7 := em_of f7 z7
      subst z2 z3 z4 z5 z6 z7 z8
      simp only [bodyR, Int.reduceEq, if_false, if_true, List.append_assoc, hS_put _ g1, ← e1]
    · have hz : f2 = 0 ∧ f3 = 0 ∧ f4.size = 0 ∧ f5.size = 0 ∧ f8 = [] := by simp at hn; simp [hn]
      obtain ⟨z2, z3, z4, z5, z8⟩ := hz
      have z4 := em_of f4 z4
      have z5 := em_of f5 z5
      subst z2 z3 z4 z5 z8
      simp only [bodyR, Int.reduceEq, if_false, if_true, List.append_assoc, hS_put _ g1, tS_put _ h6, tS_put _ h7, ← e1]
    · have hz : f2 = 0 ∧ f3 = 0 ∧ f4.size = 0 ∧ f5.size = 0 ∧ f7.size = 0 ∧ f8 = [] := by simp at hn; simp [hn]
      obtain ⟨z2, z3, z4, z5, z7, z8⟩ := hz
      have z4 := em_of f4 z4
      have z5 := em_of f5 z5
      have z7 := em_of f7 z7
      subst z2 z3 z4 z5 z7 z8
      simp only [bodyR, Int.reduceEq, if_false, if_true, List.append_assoc, hS_put _ g1, tS_put _ h6, ← e1]
    · have hz : f2 = 0 ∧ f3 = 0 ∧ f4.size = 0 ∧ f5.size = 0 ∧ f6.size = 0 ∧ f8 = [] := by simp at hn; simp [hn]
      obtain ⟨z2, z3, z4, z5, z6, z8⟩ := hz
      have z4 := em_of f4 z4
      have z5 := em_of f5 z5
      have z6 := em_of f6 z6
      subst z2 z3 z4 z5 z6 z8
      simp only [bodyR, Int.reduceEq, if_false, if_true, List.append_assoc, hS_put _ g1, tS_put _ h7, ← e1]
  have hnum : nS (oneB x ++ rest, 0) 7 = ((x.f0, 0), ((oneB x).drop (enc x.f0.toNat).length ++ rest, 0)) := by
    have e : oneB x = enc x.f0.toNat ++ (oneB x).drop (enc x.f0.toNat).length := by
      rw [oneB_body, List.drop_left]
    rw [e, List.append_assoc, nS_put _ 7 (by omega) (by omega), List.drop_left, ← e0]
  unfold opR
  rw [hnum]
  simp only
  rw [if_neg (by simp), if_neg (by omega), hbody]
  simp [hc]
theorem hS_inv (s : St) (hB : Bytes s.1) (h : (hS s).2.2 = 0) : s.1 = enc (hS s).1.1.toNat ++ (hS s).2.1 ∧ s.2 = 0 := by
  obtain ⟨n, h1, h2, h3, -⟩ := nS_inv s 4294967295 hB h
  refine ⟨?_, h3⟩
  show s.1 = enc (nS s 4294967295).1.1.toNat ++ (nS s 4294967295).2.1
  rw [h2]
  exact h1
theorem bodyR_inv (k : Int) (hk : 1 ≤ k ∧ k ≤ 7) (s : St) (hB : Bytes s.1) (h : (bodyR k s).2.2 = 0) : enc k.toNat ++ s.1 = oneB (bodyR k s).1 ++ (bodyR k s).2.1 ∧ s.2 = 0 ∧ Bytes (bodyR k s).2.1 := by
  rw [oneB_body]
  have hcs : k = 1 ∨ k = 2 ∨ k = 3 ∨ k = 4 ∨ k = 5 ∨ k = 6 ∨ k = 7 := by omega
  rcases hcs with rfl | rfl | rfl | rfl | rfl | rfl | rfl
  · simp only [bodyR, Int.reduceEq, if_false, if_true] at h ⊢
    have b0 := (tS_bytes s hB).1
    have b1 := (tS_bytes (tS s).2 b0).1
    have b2 := (tS_bytes (tS (tS s).2).2 b1).1
    have b3 := (nS_bytes (tS (tS (tS s).2).2).2 64 b2).1
    obtain ⟨i4, l4, j4, bz⟩ := attrsR_inv _ _ b3 h
    obtain ⟨n0, i3, m3, j3, -⟩ := nS_inv (tS (tS (tS s).2).2).2 64 b2 j4
    obtain ⟨i2, -, j2⟩ := tS_inv (tS (tS s).2).2 b1 j3
    obtain ⟨i1, -, j1⟩ := tS_inv (tS s).2 b0 j2
    obtain ⟨i0, -, j0⟩ := tS_inv s hB j1
    refine ⟨?_, j0, bz⟩
    rw [m3] at i4 l4 ⊢
    simp only [Int.toNat_natCast] at i4 l4 ⊢
    conv => lhs; rw [i0, i1, i2, i3, i4]
    simp only [l4, List.append_assoc]
  · simp only [bodyR, Int.reduceEq, if_false, if_true] at h ⊢
    have b0 := (nS_bytes s 4294967295 hB).1
    have b1 := (nS_bytes (hS s).2 4294967295 b0).1
    have b2 := (nS_bytes (hS (hS s).2).2 4294967295 b1).1
    obtain ⟨i2, j2⟩ := hS_inv (hS (hS s).2).2 b1 h
    obtain ⟨i1, j1⟩ := hS_inv (hS s).2 b0 j2
    obtain ⟨i0, j0⟩ := hS_inv s hB j1
    refine ⟨?_, j0, b2⟩
    conv => lhs; rw [i0, i1, i2]
    simp only [List.append_assoc]
  · simp only [bodyR, Int.reduceEq, if_false, if_true] at h ⊢
    have b0 := (nS_bytes s 4294967295 hB).1
    have b1 := (nS_bytes (hS s).2 4294967295 b0).1
    obtain ⟨i1, j1⟩ := hS_inv (hS s).2 b0 h
    obtain ⟨i0, j0⟩ := hS_inv s hB j1
    refine ⟨?_, j0, b1⟩
    conv => lhs; rw [i0, i1]
    simp only [List.append_assoc]
  · simp only [bodyR, Int.reduceEq, if_false, if_true] at h ⊢
    have b0 := (nS_bytes s 4294967295 hB).1
    obtain ⟨i0, j0⟩ := hS_inv s hB h
    refine ⟨?_, j0, b0⟩
    conv => lhs; rw [i0]
    simp only [List.append_assoc]
  · simp only [bodyR, Int.reduceEq, if_false, if_true] at h ⊢
    have b0 := (nS_bytes s 4294967295 hB).1
    have b1 := (tS_bytes (hS s).2 b0).1
    have b2 := (tS_bytes (tS (hS s).2).2 b1).1
    obtain ⟨i2, -, j2⟩ := tS_inv (tS (hS s).2).2 b1 h
    obtain ⟨i1, -, j1⟩ := tS_inv (hS s).2 b0 j2
    obtain ⟨i0, j0⟩ := hS_inv s hB j1
    refine ⟨?_, j0, b2⟩
    conv => lhs; rw [i0, i1, i2]
    simp only [List.append_assoc]
  · simp only [bodyR, Int.reduceEq, if_false, if_true] at h ⊢
    have b0 := (nS_bytes s 4294967295 hB).1
    have b1 := (tS_bytes (hS s).2 b0).1
    obtain ⟨i1, -, j1⟩ := tS_inv (hS s).2 b0 h
    obtain ⟨i0, j0⟩ := hS_inv s hB j1
    refine ⟨?_, j0, b1⟩
    conv => lhs; rw [i0, i1]
    simp only [List.append_assoc]
  · simp only [bodyR, Int.reduceEq, if_false, if_true] at h ⊢
    have b0 := (nS_bytes s 4294967295 hB).1
    have b1 := (tS_bytes (hS s).2 b0).1
    obtain ⟨i1, -, j1⟩ := tS_inv (hS s).2 b0 h
    obtain ⟨i0, j0⟩ := hS_inv s hB j1
    refine ⟨?_, j0, b1⟩
    conv => lhs; rw [i0, i1]
    simp only [List.append_assoc]
theorem opR_inv (s : St) (hB : Bytes s.1) (h : (opR s).1.2 = 0) : s.1 = oneB (opR s).1.1 ++ (opR s).2.1 ∧ chk (opR s).1.1 = 0 ∧ s.2 = 0 ∧ (opR s).2.2 = 0 ∧ Bytes (opR s).2.1 := by
  by_cases h1 : (nS s 7).1.2 ≠ 0
  · unfold opR at h
    rw [if_pos h1] at h
    exact absurd h h1
  · have h1' : (nS s 7).2.2 = 0 := by rw [← nS_err]; simpa using h1
    obtain ⟨n, i1, i2, i3, i4, -⟩ := nS_inv s 7 hB h1'
    by_cases h2 : (nS s 7).1.1 = 0
    · unfold opR at h
      rw [if_neg h1, if_pos h2] at h
      simp at h
    · by_cases h3 : (bodyR (nS s 7).1.1 (nS s 7).2).2.2 ≠ 0
      · unfold opR at h
        rw [if_neg h1, if_neg h2, if_pos h3] at h
        exact absurd h h3
      · have e : opR s = (((bodyR (nS s 7).1.1 (nS s 7).2).1, chk (bodyR (nS s 7).1.1 (nS s 7).2).1), (bodyR (nS s 7).1.1 (nS s 7).2).2) := by
          unfold opR
          rw [if_neg h1, if_neg h2, if_neg h3]
        rw [e] at h ⊢
        have hk : 1 ≤ (nS s 7).1.1 ∧ (nS s 7).1.1 ≤ 7 := by rw [i2] at h2 ⊢; simp only at h2 ⊢; omega
        obtain ⟨k1, -, k3⟩ := bodyR_inv _ hk (nS s 7).2 (nS_bytes s 7 hB).1 (by simpa using h3)
        refine ⟨?_, h, i3, by simpa using h3, k3⟩
        rw [← k1, i2]
        exact i1
theorem opsR_put : ∀ (l : List S42) (h : ∀ x ∈ l, chk x = 0) (rest : List Int), opsR l.length (opsB l ++ rest, 0) = (l, 0, (rest, 0)) := by
  intro l
  induction l with
  | nil => intro _ rest; rfl
  | cons a t ih =>
    intro h rest
    have e1 : opsB (a :: t) ++ rest = oneB a ++ (opsB t ++ rest) := by simp [opsB]
    have e2 := opR_put a (h a (List.mem_cons_self ..)) (opsB t ++ rest)
    rw [e1, List.length_cons, opsR_go _ _ (by rw [e2]), e2, ih (fun x hx => h x (List.mem_cons_of_mem _ hx)) rest]
theorem opsR_inv : ∀ (d : Nat) (s : St) (hB : Bytes s.1) (h : (opsR d s).2.1 = 0), s.1 = opsB (opsR d s).1 ++ (opsR d s).2.2.1 ∧ (opsR d s).1.length = d ∧ (∀ x ∈ (opsR d s).1, chk x = 0) ∧ ((opsR d s).2.2.2 = 0 → s.2 = 0) := by
  intro d
  induction d with
  | zero => intro s hB h; exact ⟨by simp [opsR, opsB], rfl, fun x hx => absurd hx (List.not_mem_nil), fun h => h⟩
  | succ d ih =>
    intro s hB h
    by_cases h0 : (opR s).1.2 = 0
    · rw [opsR_go d s h0] at h ⊢
      obtain ⟨k1, k2, k3, k4, k5⟩ := opR_inv s hB h0
      obtain ⟨i1, i2, i3, i4⟩ := ih (opR s).2 k5 h
      refine ⟨?_, by rw [List.length_cons, i2], ?_, fun _ => k3⟩
      · conv => lhs; rw [k1, i1]
        simp [opsB]
      · intro x hx
        rcases List.mem_cons.1 hx with rfl | hx
        · exact k2
        · exact i3 x hx
    · rw [opsR_stop d s h0] at h
      exact absurd h h0
theorem readR_put (l : List S42) (hn : l.length ≤ 1048576) (h : ∀ x ∈ l, chk x = 0) (rest : List Int) : readR (encB l ++ rest) = (l, if rest = [] then 0 else 2) := by
  have e1 : encB l ++ rest = enc l.length ++ (opsB l ++ rest) := by
    unfold encB
    rw [encs_one, Int.toNat_natCast, List.append_assoc]
  have e2 := nS_put l.length 1048576 (by omega) (by omega) (opsB l ++ rest)
  rw [e1]
  rw [readR_3 (enc l.length ++ (opsB l ++ rest)) (n := l.length) (s1 := (opsB l ++ rest, 0)) (by rw [e2]) (by rw [e2]) rfl (opsR_put l h rest)]
  unfold endR
  simp
theorem readR_inv (bs : List Int) (hB : Bytes bs) (h : (readR bs).2 = 0) : bs = encB (readR bs).1 ∧ (readR bs).1.length ≤ 1048576 ∧ ∀ x ∈ (readR bs).1, chk x = 0 := by
  by_cases h1 : (nS (bs, 0) 1048576).2.2 = 0
  · obtain ⟨n, i1, i2, -, i4, -⟩ := nS_inv (bs, 0) 1048576 hB h1
    have hB1 := (nS_bytes (bs, 0) 1048576 hB).1
    have hn : (nS (bs, 0) 1048576).1.1 = (n : Int) := by rw [i2]
    obtain ⟨l, e, s', ho⟩ : ∃ l e s', opsR n (nS (bs, 0) 1048576).2 = (l, e, s') := ⟨_, _, _, rfl⟩
    by_cases he : e = 0
    · subst he
      rw [readR_3 bs hn rfl h1 ho] at h ⊢
      obtain ⟨k1, k2, k3, k4⟩ := opsR_inv n (nS (bs, 0) 1048576).2 hB1 (by rw [ho])
      rw [ho] at k1 k2 k3
      simp only at k1 k2 k3 h ⊢
      have hs : s'.1 = [] := by
        unfold endR at h
        by_cases hq : s'.2 ≠ 0
        · rw [if_pos hq] at h; exact absurd h hq
        · rw [if_neg hq] at h
          by_cases hp : s'.1 = []
          · exact hp
          · rw [if_neg hp] at h; simp at h
      refine ⟨?_, by rw [k2]; omega, k3⟩
      have : bs = enc n ++ (nS (bs, 0) 1048576).2.1 := i1
      unfold encB
      rw [encs_one, Int.toNat_natCast, k2, this.trans (by rw [k1, hs, List.append_nil])]
    · rw [readR_2 bs hn rfl h1 ho he] at h
      exact absurd h he
  · rw [readR_1 bs h1] at h
    exact absurd h h1
end Go.Proofs.YtfpijjjmgggfkaaDoorE

namespace Go.Proofs.YtfpijjjmgggfkaaDoorE
open Go Go.RowKit Go.Proofs.YtfpijjjmgggfkaaDoorW.PrintWords Go.Proofs.YtfpijjjmgggfkaaDoorW.PrintMore Go.Proofs.YtfpijjjmgggfkaaDoorX Go.Proofs.YtfpijjjmgggfkaaDoor.P26 Go.Proofs.YtfpijjjmgggfkaaDoor.L01
set_option linter.unusedVariables false
set_option linter.unusedSimpArgs false
set_option maxRecDepth 100000

def X43 : S42 := ⟨4, 3, 0, 0, em, em, em, em, []⟩
theorem chk43 : chk X43 = 0 := by
  unfold chk checkO X43
  simp [overO, noneO, attrsN]
  decide
theorem enc_small (n : Nat) (h : n < 128) : enc n = [(n : Int)] := enc_lt h
theorem encB43 : encB [X43] = [1, 4, 3] := by
  unfold encB opsB
  simp only [List.flatMap_cons, List.flatMap_nil, List.append_nil]
  rw [oneB_body]
  simp [X43, Go.Proofs.YtfpijjjmgggfkaaDoor.L01.encs, enc_small]
theorem decS43 : decS [1, 4, 3] = ([X43], 0, 0) := by
  have h := readR_put [X43] (by decide) (by intro x hx; obtain rfl := List.mem_singleton.1 hx; exact chk43) []
  rw [List.append_nil, encB43] at h
  rw [decS_ok (by rw [h]; rfl), h]
theorem bytes14 : Bytes [1, 4] := by intro x hx; simp at hx; omega
theorem decS14 : decS [1, 4] = ([], 0, 4) := by
  have h1 : nS ([1, 4], 0) 1048576 = ((1, 0), ([4], 0)) := by
    have := nS_put 1 1048576 (by omega) (by omega) [4]
    rw [enc_small 1 (by omega)] at this
    exact this
  have h2 : nS ([4], 0) 7 = ((4, 0), ([], 0)) := by
    have := nS_put 4 7 (by omega) (by omega) []
    rw [enc_small 4 (by omega)] at this
    exact this
  have h3 : (opR ([4], 0)).1.2 = 4 := by
    refine opR_bad ([4], 0) (s1 := ([], 0)) (by rw [h2]) 4 4 (by rw [h2]) (by decide) ?_ (by decide)
    simp [bodyR]
    rfl
  have hr : readR [1, 4] = ([], 4) := readR_2 [1, 4] (n := 1) (s1 := ([4], 0)) (by rw [h1]; rfl) (by rw [h1]) rfl (l := []) (e := 4) (s' := (opR ([4], 0)).2) (by rw [opsR_stop 0 ([4], 0) (by rw [h3]; decide), h3]) (by decide)
  rw [decS_bad (by rw [hr]; decide), hr]
  rfl
theorem firstS43 : (firstS [X43]).2 = 0 := by
  unfold firstS
  simp [firstN, rd_T42, chk43]
end Go.Proofs.YtfpijjjmgggfkaaDoorE

namespace Go.Proofs.YtfpijjjmgggfkaaDoorE
open Go Go.RowKit Go.Proofs.YtfpijjjmgggfkaaDoorW.PrintWords Go.Proofs.YtfpijjjmgggfkaaDoorW.PrintMore Go.Proofs.YtfpijjjmgggfkaaDoorX Go.Proofs.YtfpijjjmgggfkaaDoor.P26 Go.Proofs.YtfpijjjmgggfkaaDoor.L01
set_option linter.unusedVariables false
set_option linter.unusedSimpArgs false
set_option maxRecDepth 100000
theorem box8_C {W : World} {b T : Nat} {xs : List Int} (h : W.heap[b]? = some (.cells (xs.map (Value.int .u8)).toArray T (0, 0))) (hx : xs.length ≤ 9223372036854775807) : Kd.C (Kd.int .u8) W (some ⟨b, 0, none⟩) xs.length xs := by
  refine ⟨rfl, hx, fun _ => ⟨_, rfl, ?_⟩⟩
  intro j p hp
  refine ⟨[.int .u8 p], rfl, rfl, ?_⟩
  intro i u hu
  match i, hu with
  | 0, hu =>
    simp at hu
    subst hu
    show W.cell? ((⟨b, 0, none⟩ : Addr).add (j * 1 + 0)) = _
    rw [add_plain, Lib.cell_of_heap h]
    simp [hp]
theorem box43_C {W : World} {b T : Nat} (h : W.heap[b]? = some (.cells #[.int .i64 4, .int .i64 3, .int .i64 0, .int .i64 0, .string ⟨#[]⟩, .string ⟨#[]⟩, .string ⟨#[]⟩, .string ⟨#[]⟩, .slice none 0 0] T (0, 0))) : Kd.C k42 W (some ⟨b, 0, none⟩) [X43].length [X43] := by
  refine ⟨rfl, by show 1 ≤ _; omega, fun _ => ⟨_, rfl, ?_⟩⟩
  intro j p hp
  match j, hp with
  | 0, hp =>
    simp at hp
    subst hp
    refine ⟨[.int .i64 4, .int .i64 3, .int .i64 0, .int .i64 0, .string ⟨#[]⟩, .string ⟨#[]⟩, .string ⟨#[]⟩, .string ⟨#[]⟩, .slice none 0 0], rfl, k42_mk W X43 (A8 := none) (c8 := 0) (Nat.le_refl 0) (Kd.C_nil k44 W), ?_⟩
    intro i u hu
    show W.cell? ((⟨b, 0, none⟩ : Addr).add (0 * 9 + i)) = _
    rw [add_plain, Lib.cell_of_heap h]
    rw [Nat.zero_mul, Nat.zero_add]
    simpa using hu
theorem enc43_c (b : Nat) (W : World) (hgl : GL W) (h : W.heap[b]? = some (.cells #[.int .i64 4, .int .i64 3, .int .i64 0, .int .i64 0, .string ⟨#[]⟩, .string ⟨#[]⟩, .string ⟨#[]⟩, .string ⟨#[]⟩, .slice none 0 0] 42)) : Calls Tryd.prog 9 #[.slice (some ⟨b, 0, none⟩) 1 1] W fun e w' => (∃ A c, e = .returned (.tuple #[.slice A 3 c, .int .i64 0, .int .i64 0]) ∧ Kd.C (Kd.int .u8) w' A 3 [1, 4, 3]) ∧ Below W.heap.size W w' := by
  refine (Encode_c (some ⟨b, 0, none⟩) 1 [X43] W hgl (box43_C h) (Nat.le_refl 1) (fun i hi => by
    have : i = 0 := by simp at hi; omega
    subst this
    exact ⟨i64_k 4 (by omega), i64_k 3 (by omega), i64_k 0 (by omega), i64_k 0 (by omega), Nat.zero_le _, Nat.zero_le _, Nat.zero_le _, Nat.zero_le _, Nat.zero_le _, fun i hi => absurd hi (Nat.not_lt_zero i)⟩) firstS43).mono ?_
  rintro e w1 ⟨⟨v, B, rfl, hB, hO⟩, hb⟩
  rw [encB43] at hO
  obtain ⟨A1, c1, rfl, hc1, hC1⟩ := own8_reads hO
  exact ⟨⟨A1, c1, rfl, hC1⟩, hb⟩
theorem dec143_c (b : Nat) (W : World) (hgl : GL W) (h : W.heap[b]? = some (.cells #[.int .u8 1, .int .u8 4, .int .u8 3] 5)) : Calls Tryd.prog 11 #[.slice (some ⟨b, 0, none⟩) 3 3] W fun e w' => (∃ A c, e = .returned (.tuple #[.slice A 1 c, .int .i64 0, .int .i64 0]) ∧ Kd.C k42 w' A 1 [X43]) ∧ Below W.heap.size W w' := by
  refine (Decode_c (some ⟨b, 0, none⟩) 3 [1, 4, 3] W hgl (box8_C h (by show 3 ≤ _; omega)) (Nat.le_refl 3) (by intro x hx; simp at hx; omega) (by show 3 ≤ _; omega)).mono ?_
  rintro e w1 ⟨⟨v, rfl, hR⟩, hb⟩
  rw [decS43] at hR ⊢
  obtain ⟨A1, c1, rfl, hc1, hC1⟩ := Kd.R_reads hR
  exact ⟨⟨A1, c1, rfl, hC1⟩, hb⟩
theorem dec14_c (b : Nat) (W : World) (hgl : GL W) (h : W.heap[b]? = some (.cells #[.int .u8 1, .int .u8 4] 5)) : Calls Tryd.prog 11 #[.slice (some ⟨b, 0, none⟩) 2 2] W fun e w' => (∃ v, e = .returned (.tuple #[v, .int .i64 0, .int .i64 4])) ∧ Below W.heap.size W w' := by
  refine (Decode_c (some ⟨b, 0, none⟩) 2 [1, 4] W hgl (box8_C h (by show 2 ≤ _; omega)) (Nat.le_refl 2) bytes14 (by show 2 ≤ _; omega)).mono ?_
  rintro e w1 ⟨⟨v, rfl, hR⟩, hb⟩
  rw [decS14]
  exact ⟨⟨v, rfl⟩, hb⟩
set_option maxHeartbeats 2000000 in
theorem lsame_c (w : World) (hgl : GL w) : Calls Tryd.prog 8 #[] w fun e w' => e = .returned (.bool true) ∧ Below w.heap.size w w' := by
  have hb0 : Below w.heap.size w (w.alloc (.cells #[.int .i64 4, .int .i64 3, .int .i64 0, .int .i64 0, .string ⟨#[]⟩, .string ⟨#[]⟩, .string ⟨#[]⟩, .string ⟨#[]⟩, .slice none 0 0] 42)) := below_alloc (Below.refl _ _) _
  have HE := Aside0.mk (enc43_c w.heap.size _ (hgl.below hb0) (one_new_ w _))
  have HG := Aside0.mk hgl
  have HB0 := Aside0.mk hb0
  have hs0 : strOfNums [1, 4, 3] = (⟨#[1, 4, 3]⟩ : ByteArray) := rfl
  have HS0 := Aside0.mk hs0
  clear hgl hb0 hs0
  go_enter Tryd.func8, Tryd.ntmps8
  go_wp2_with (first
    | (go_at_call 9; (with_reducible refine (HE.out).mono ?_); rintro e w1 ⟨⟨A1, c1, rfl, hC1⟩, hb⟩; have HC1 := Aside0.mk hC1; have HB1 := Aside0.mk (below_then HB0.out HB0.out.size hb); clear hb hC1)
    | (go_at_call 11; (with_reducible refine (dec143_c w1.heap.size _ (HG.out.below (below_alloc HB1.out _)) (one_new_ w1 _)).mono ?_); rintro e w2 ⟨⟨A2, c2, rfl, hC2⟩, hb⟩; have HC2 := Aside0.mk hC2; have HB2 := Aside0.mk (below_then (below_alloc HB1.out _) (by have := HB1.out.size; simp; omega) hb); have HC1' := Aside0.mk (Kd.C_below HC1.out (below_then (below_alloc (Below.refl _ w1) _) (by simp) hb)); clear hb hC2)
    | (go_at_call 11; (with_reducible refine (dec14_c w2.heap.size _ (HG.out.below (below_alloc HB2.out _)) (one_new_ w2 _)).mono ?_); rintro e w3 ⟨⟨v3, rfl⟩, hb⟩; have HB3 := Aside0.mk (below_then (below_alloc HB2.out _) (by have := HB2.out.size; simp; omega) hb); have hw23 := below_then (below_alloc (Below.refl _ w2) (.cells #[.int .u8 1, .int .u8 4] 5)) (by simp) hb; have hs1 := Kd.C_string (dst := 9) (c := c1) Tryd.underlying25 Tryd.underlying5 Tryd.underlying9 (Kd.C_below HC1'.out hw23); rw [HS0.out] at hs1; obtain ⟨ad, A8, c8, rfl, e0, e1, e2, e3, e4, e5, e6, e7, e8, -, -⟩ := at_T42 (Kd.C_below HC2.out hw23) 0 (by omega) (by omega); have e1' : w3.cell? ⟨ad.block, ad.off + 1, none⟩ = some (.int .i64 3) := e1; clear hb hw23 e0 e2 e3 e4 e5 e6 e7 e8))
  go_ret
  exact ⟨rfl, HB3.out⟩
end Go.Proofs.YtfpijjjmgggfkaaDoorE

namespace Go.Proofs.YtfpijjjmgggfkaaDoorE
open Go Go.RowKit Go.Proofs.YtfpijjjmgggfkaaDoorW.PrintWords Go.Proofs.YtfpijjjmgggfkaaDoorW.PrintMore Go.Proofs.YtfpijjjmgggfkaaDoorX Go.Proofs.YtfpijjjmgggfkaaDoor.P26 Go.Proofs.YtfpijjjmgggfkaaDoor.L01
set_option linter.unusedVariables false
set_option linter.unusedSimpArgs false
set_option maxRecDepth 100000
theorem dec_c (A : Option Addr) (c : Nat) (bs : List Int) (w : World) (hgl : GL w) (hC : Kd.C (Kd.int .u8) w A bs.length bs) (hc : bs.length ≤ c) (hB : Bytes bs) (hlen : bs.length ≤ 140737488355328) :
    Calls Tryd.prog 11 #[.slice A bs.length c] w fun e w' => (∃ A1 c1, e = .returned (.tuple #[.slice A1 (decS bs).1.length c1, .int .i64 (decS bs).2.1, .int .i64 (decS bs).2.2]) ∧ (decS bs).1.length ≤ c1 ∧ Kd.C k42 w' A1 (decS bs).1.length (decS bs).1) ∧ Below w.heap.size w w' := by
  refine (Decode_c A c bs w hgl hC hc hB hlen).mono ?_
  rintro e w1 ⟨⟨v, rfl, hR⟩, hb⟩
  obtain ⟨A1, c1, rfl, hc1, hC1⟩ := Kd.R_reads hR
  exact ⟨⟨A1, c1, rfl, hc1, hC1⟩, hb⟩
theorem okX_of {x : S42} (h : okW x) : okX x := by
  obtain ⟨hk, h1, h2, h3, h4, h5, h6, h7, h8, h9⟩ := h
  exact ⟨⟨by omega, by omega⟩, i64_32 h1, i64_32 h2, i64_32 h3, size_up h4, size_up h5, size_up h6, size_up h7, by omega, fun i hi => ⟨size_up (h9 i hi).1, size_up (h9 i hi).2⟩⟩
theorem rd_mem (l : List S42) (i : Nat) (hi : i < l.length) : rd_T42 l (i : Int) ∈ l := by
  unfold rd_T42
  rw [Int.toNat_natCast, List.getD_eq_getElem?_getD, List.getElem?_eq_getElem hi]
  exact List.getElem_mem hi
theorem firstS_all (l : List S42) (hn : l.length ≤ 1048576) (h : ∀ x ∈ l, chk x = 0) : (firstS l).2 = 0 := by
  unfold firstS
  rw [firstN_no _ l.length 0 (by omega) (fun j _ hj => h _ (rd_mem l j (by omega)))]
theorem enc_c (A : Option Addr) (c : Nat) (l : List S42) (w : World) (hgl : GL w) (hl : Kd.C k42 w A l.length l) (hc : l.length ≤ c) (hn : l.length ≤ 1048576) (h : ∀ x ∈ l, chk x = 0) :
    Calls Tryd.prog 9 #[.slice A l.length c] w fun e w' => (∃ A1 c1, e = .returned (.tuple #[.slice A1 (encB l).length c1, .int .i64 0, .int .i64 0]) ∧ (encB l).length ≤ c1 ∧ Kd.C (Kd.int .u8) w' A1 (encB l).length (encB l)) ∧ Below w.heap.size w w' := by
  refine (Encode_c A c l w hgl hl hc (fun i hi => okX_of (chk_okW _ (h _ (rd_mem l i hi)))) (firstS_all l hn h)).mono ?_
  rintro e w1 ⟨⟨v, B, rfl, hB, hO⟩, hb⟩
  obtain ⟨A1, c1, rfl, hc1, hC1⟩ := own8_reads hO
  exact ⟨⟨A1, c1, rfl, hc1, hC1⟩, hb⟩
set_option maxHeartbeats 2000000 in
theorem codecOnly_w (A : Option Addr) (n c : Nat) (bs : List Int) (w : World) (hgl : GL w) (h0 : n = bs.length ∧ n ≤ c ∧ Kd.C (Kd.int .u8) w A bs.length bs ∧ bs.length ≤ 140737488351232 ∧ Bytes bs) :
    Calls Tryd.prog 5 #[.slice A n c] w fun e w' => e = .returned (.bool true) ∧ Below w.heap.size w w' := by
  obtain ⟨rfl, hc, hC, hlen, hB⟩ := h0
  have HD := Aside0.mk (dec_c A c bs w hgl hC hc hB (by omega))
  have HG := Aside0.mk hgl
  have HCB := Aside0.mk hC
  by_cases hbig : 3000 < bs.length
  · clear hgl hC hB
    go_enter Tryd.func5, Tryd.ntmps5
    go_wp2_with (first
      | (go_at_call 8; (with_reducible refine (lsame_c _ HG.out).mono ?_); rintro e w1 ⟨rfl, hb⟩; have HB1 := Aside0.mk hb; clear hb))
    go_ret
    exact ⟨rfl, HB1.out⟩
  by_cases he : (readR bs).2 = 0
  · rw [decS_ok he] at HD
    obtain ⟨e1, e2, e3⟩ := readR_inv bs hB he
    obtain ⟨l, hl⟩ : ∃ l, l = (readR bs).1 := ⟨_, rfl⟩
    rw [← hl] at HD e1 e2 e3
    have HE1 := Aside0.mk e1
    have HE2 := Aside0.mk e2
    have HE3 := Aside0.mk e3
    clear hgl hC hB hl e1 e2 e3 he
    go_enter Tryd.func5, Tryd.ntmps5
    go_wp2_with (first
      | (go_at_call 11; (with_reducible refine (HD.out).mono ?_); rintro e w1 ⟨⟨A1, c1, rfl, hc1, hC1⟩, hb⟩; have HC1 := Aside0.mk hC1; have HL1 := Aside0.mk hc1; have HB1 := Aside0.mk hb; clear hb hC1 hc1)
      | (go_at_call 9; (with_reducible refine (enc_c A1 c1 l _ (HG.out.below HB1.out) HC1.out HL1.out HE2.out HE3.out).mono ?_); rintro e w2 ⟨⟨A2, c2, rfl, hc2, hC2⟩, hb⟩; have HB2 := Aside0.mk (below_then HB1.out HB1.out.size hb); rw [← HE1.out] at hC2 ⊢; have hs1 := Kd.C_string (dst := 9) (c := c2) Tryd.underlying25 Tryd.underlying5 Tryd.underlying9 hC2; have hs2 := Kd.C_string (dst := 9) (c := c) Tryd.underlying25 Tryd.underlying5 Tryd.underlying9 (Kd.C_below HCB.out HB2.out); clear hb hC2 hc2)
      | (go_at_call 8; (with_reducible refine (lsame_c _ (HG.out.below HB2.out)).mono ?_); rintro e w4 ⟨rfl, hb⟩; have HB4 := Aside0.mk (below_then HB2.out HB2.out.size hb); clear hb))
    go_ret
    exact ⟨rfl, HB4.out⟩
  · rw [decS_bad he] at HD
    obtain ⟨E, hE⟩ : ∃ E, E = (readR bs).2 := ⟨_, rfl⟩
    obtain ⟨P, hP⟩ : ∃ P : Int, P = ((readR bs).1.length : Int) := ⟨_, rfl⟩
    have HD2 : Aside0 (Calls Tryd.prog 11 #[.slice A bs.length c] w fun e w' => (∃ A1 c1, e = .returned (.tuple #[.slice A1 0 c1, .int .i64 P, .int .i64 E])) ∧ Below w.heap.size w w') := ⟨by
      rw [hE, hP]
      refine HD.out.mono ?_
      rintro e w1 ⟨⟨A1, c1, rfl, -, -⟩, hb⟩
      exact ⟨⟨A1, c1, rfl⟩, hb⟩⟩
    rw [← hE] at he
    have h1 : (E == 0) = false := by simpa using he
    have h2 : (E != 0) = true := by simpa using he
    clear hgl hC hB hE hP HD
    go_enter Tryd.func5, Tryd.ntmps5
    go_wp2_with (first
      | (go_at_call 11; (with_reducible refine (HD2.out).mono ?_); rintro e w1 ⟨⟨A1, c1, rfl⟩, hb⟩; have HB1 := Aside0.mk hb; clear hb)
      | (go_at_call 8; (with_reducible refine (lsame_c _ (HG.out.below HB1.out)).mono ?_); rintro e w4 ⟨rfl, hb⟩; have HB4 := Aside0.mk (below_then HB1.out HB1.out.size hb); clear hb))
    go_ret
    exact ⟨rfl, HB4.out⟩
end Go.Proofs.YtfpijjjmgggfkaaDoorE

namespace Go.Proofs.YtfpijjjmgggfkaaDoorE
open Go Go.RowKit Go.ChangeShapes Go.WideShapes Go.Proofs.YtfpijjjmgggfkaaDoorW.PrintWords Go.Proofs.YtfpijjjmgggfkaaDoor.P26 Go.Proofs.YtfpijjjmgggfkaaDoor.L01 Go.Proofs.YtfpijjjmgggfkaaDoor.M02
set_option linter.unusedVariables false
set_option linter.unusedSimpArgs false
theorem wf_u8' {x : Int} (h : (Lit.int .u8 x).wf = true) : 0 ≤ x ∧ x ≤ 255 := by
  simp [Lit.wf, IntKind.min, IntKind.max, IntKind.bits, IntKind.signed] at h
  omega
theorem cellsO5 : Tryd.prog.cellsOf 5 = 1 := by kernel_rfl
def openB8T (W : World) (A : Option Addr) (n c : Nat) : Prop := ∃ l : List Int, n = l.length ∧ n ≤ c ∧ Kd.C (Kd.int .u8) W A l.length l ∧ l.length ≤ 140737488351232 ∧ Bytes l
theorem openB8 {H : Type} {enc : TypeId × Value → H} {W : World} {base : Nat} {spare : Nat → Bool} {held : Bool} {A : Option Addr} {n c fuel : Nat} {d : DataW H} {ps : List MemPlace}
    (hf : DataW.trod enc Tryd.prog W base spare held fuel 25 (Value.slice A n c).cells.toList = some (d, ps)) (hs : ∀ m ∈ d.weights Tryd.prog 25, m ≤ 140737488351232) : openB8T W A n c := by
  cases fuel with
  | zero => simp [DataW.trod] at hf
  | succ f =>
    obtain ⟨l, h1, h2, h3, h4, -, h5⟩ := Op.arg (Op.slice Tryd.underlying25 cellsO5.symm (Op.int (fuel := f) Tryd.underlying5)) hf hs
    exact ⟨l, h1, h2, h3, Nat.le_trans (Nat.le_mul_of_pos_right _ (of_decide_eq_true (by kernel_rfl))) h4, fun x hx => wf_u8' (h5 x hx)⟩
end Go.Proofs.YtfpijjjmgggfkaaDoorE

namespace Go.Proofs.YtfpijjjmgggfkaaDoor.codecOnly
open Go.ChangeShapes Go.WideShapes Go.ChangeAt Go.RowKit
open Go.ChangeMaps (open_string shut_string)
set_option linter.unusedVariables false
theorem own : ownKnob Tryd.prog.godebug = none := by kernel_rfl
theorem door_met (os : Os) (args : Array Value) : laidMetH Tryd.prog Rows.codecOnlyRow.laid ((World.doorLaid Tryd.prog 62 os).forCall (fun _ _ => 0) ⟨#[], args, []⟩).memory :=
  laidMetH_of_parts3 (fuel := 8) (laidMet_of_run' 8 (by kernel_rfl) (by kernel_rfl)) (by kernel_rfl) (by kernel_rfl)
theorem gl {W : World} (h : laidMetH Tryd.prog Rows.codecOnlyRow.laid W) : Go.Proofs.YtfpijjjmgggfkaaDoorX.GL W := by
  rw [MakeChecks.laidMetH_plain _ _ _ (by kernel_rfl)] at h
  exact Go.Proofs.YtfpijjjmgggfkaaDoorX.gl_of h
theorem laidOut : laidOutB Tryd.prog = true := by kernel_rfl
set_option maxRecDepth 100000 in
theorem lifted (os : Os) (started : os.Started) (H : Type) (enc : TypeId × Value → H) :
    ReturnsInHanded {} Tryd.checked os 5 .any (fun w args => (Rows.codecOnlySpec.pre enc Tryd.prog Tryd.f5 [] false w args ∧ laidMetH Tryd.prog Rows.codecOnlyRow.laid w) ∧ sizedMet enc Tryd.prog Tryd.f5 (OpenSpec.ofChange Rows.codecOnlySpec) false w args) (Rows.codecOnlySpec.post enc Tryd.prog Tryd.f5 false true false false) := by
  refine returnsInHanded_of_change_and (C := Tryd.checked) (X := fun w _ => laidMetH Tryd.prog Rows.codecOnlyRow.laid w) (fun _ _ _ hh h => h.of_heap hh) own started (by kernel_rfl) Tryd.func5
    (ChangeSpec.witness_shaped (enc := enc) (C := Tryd.checked) (os := os) (X := fun w _ => laidMetH Tryd.prog Rows.codecOnlyRow.laid w) false (World.doorLaid Tryd.prog 62 os) #[.slice none 0 0] 8 rfl (World.shaped_of_RefB (by kernel_rfl) (by kernel_rfl)) (by kernel_rfl) (by kernel_rfl) (by kernel_rfl) (door_met os _)) ?_
  intro W base args ds gs before hval0 hW _ hsz0 hL _
  have hgl := gl hL
  have hsz : (DataW.weightsEach Tryd.prog (Tryd.f5.params.toList ++ Rows.codecOnlySpec.plain.varTypes Tryd.prog) (ds ++ gs)).all (· ≤ reachBytes) = true := hsz0
  have hval : ∀ (j : Nat) t v, Tryd.f5.params[j]? = some t → args[j]? = some v → Value.okWide Tryd.prog W .any base t v := hval0
  have hW' := hW
  obtain ⟨p, q, hA0, hV, rfl, hfz, hnd⟩ := hW
  have hA : DataW.TrodAll enc Tryd.prog W 0 (fun _ => true) true Tryd.f5.params.toList args.toList ds p := hA0
  rw [Tryd.params5] at hA hval hsz
  obtain ⟨v0, vs0, d0, ds0, p0, q0, hargs, rfl, rfl, h0, r0⟩ := trodAll_cons hA
  obtain ⟨rfl, rfl, rfl⟩ := trodAll_nil r0
  obtain rfl : args = #[v0] := by cases args; simp_all
  obtain ⟨rfl, rfl⟩ := trodVars_none hV
  have k0 := h0
  have lt0 : ∀ x ∈ p0, x.block < W.heap.size := by obtain ⟨m, hm⟩ := k0; exact DataW.trod_lt m _ _ _ hm
  obtain ⟨a0, len0, cap0, rfl⟩ := okWide_slice Tryd.underlying25 (hval 0 25 v0 rfl rfl)
  obtain ⟨b0, w0⟩ := (by
    obtain ⟨fuel, hf⟩ := h0
    exact Go.Proofs.YtfpijjjmgggfkaaDoorE.openB8 hf (fun n hn => of_decide_eq_true (List.all_eq_true.1 hsz n (DataW.weights_mem_each (j := 0) (t := 25) rfl rfl n hn))) : Go.Proofs.YtfpijjjmgggfkaaDoorE.openB8T W a0 len0 cap0)
  clear hA0 hval0 hsz0 hsz hL
  refine (Go.Proofs.YtfpijjjmgggfkaaDoorE.codecOnly_w a0 len0 cap0 b0 W hgl w0).mono fun e W' ⟨he, bel⟩ => ?_
  subst he
  exact ⟨_, rfl, _, _, _, [], _, [], hW', trodAll_mk1 (shut_bool Tryd.underlying4 _), (trodAll_cons_mk (Below.trod laidOut (by kernel_rfl) (of_decide_eq_true (by kernel_rfl)) k0 bel lt0) trodAll_mk0), rfl, bel.frame _, fun h => by cases h⟩
theorem over : Rows.codecOnlyRow.holds Tryd.pinned (OpenSpec.ofChange Rows.codecOnlySpec) :=
  OpenClaim.holds_of_wide 5 Tryd.f5 rfl rfl rfl rfl rfl rfl rfl ⟨rfl, rfl, rfl, rfl, rfl⟩ rfl rfl rfl rfl rfl (by kernel_rfl) Tryd.func5 (by kernel_rfl)
    (of_decide_eq_true (by kernel_rfl)) (by unfold Func.isWrapper; first | (rw [if_pos (by decide +kernel)]; kernel_rfl) | (rw [if_neg (by decide +kernel)]; exact ⟨rfl, rfl⟩))
    (fun os started H enc _ => lifted os started H enc)
theorem wants : ∀ (j : Nat) (t : TypeId), Tryd.f5.params[j]? = some t → Tryd.prog.wantsStandIn t = false := by
  intro j t ht
  rw [Tryd.params5] at ht
  rcases j with _ | j
  · have h3 : t = 25 := by simpa using ht.symm
    subst h3
    exact (show Tryd.prog.wantsStandIn 25 = false by kernel_rfl)
  simp at ht
theorem proved : Rows.CodecOnlyCardSaid :=
  Claim7.holds_tied_plain_at .later [] [.data, .data, .data] true (true, "e651c56637a872e7731d1c4fd1cb8e9780fa61b54909fcf8245d51d4264785a9") true
    over (fun _ h => by cases h) (by kernel_rfl) (fun _ h => by cases h) codecOnly_row_tie rfl ⟨rfl, rfl⟩ (by kernel_rfl) rfl
    (fun f fn hf hfn => by
      obtain rfl : f = 5 := Option.some.inj ((show Tryd.prog.funcNamed "tendril/tendrillaw26.CodecOnly" = some 5 by kernel_rfl).symm.trans hf) |>.symm
      obtain rfl : fn = Tryd.f5 := (Option.some.inj (Tryd.func5.symm.trans hfn)).symm
      exact ⟨by kernel_rfl, wants⟩)
    (by kernel_rfl)
end Go.Proofs.YtfpijjjmgggfkaaDoor.codecOnly
namespace Go.Proofs.YtfpijjjmgggfkaaDoor
/-- The card, under a short name, for the claim. -/
theorem codecOnly_holds : Rows.CodecOnlyCardSaid := codecOnly.proved
end Go.Proofs.YtfpijjjmgggfkaaDoor
