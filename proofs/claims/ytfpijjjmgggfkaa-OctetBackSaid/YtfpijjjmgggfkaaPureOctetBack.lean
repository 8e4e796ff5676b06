/- Take decodes what Put encodes, whatever follows, and Size is the length of the encoding: the law OctetBack answers true at every input. No condition. -/
import Derived.Test.YtfpijjjmgggfkaaL01b
namespace Go.Proofs.Ytfpijjjmgggfkaa.Pure
open Go Go.RowKit Go.Proofs.Ytfpijjjmgggfkaa.P01 Go.Proofs.Ytfpijjjmgggfkaa.L01 Go.Proofs.YtfpijjjmgggfkaaW.PrintWords Go.Proofs.YtfpijjjmgggfkaaW.PrintLast
theorem back_l0 (l more : List Int) (hn : Nums l) (hb : Bytes more) (hlen : l.length ≤ 1000) (d : Nat) : ∀ i : Nat, i + d = l.length →
    Ev (fun k => tendrillaw01_OctetBack.l0 k l more (encs (l.drop i) ++ more) (l.length : Int) (i : Int)) true := by
  have tail : Ev (fun k => (tendrillaw01_same.f k).bind fun t => some t) true := Ev.bind law_same (Ev.now true)
  induction d with
  | zero =>
    intro i hi
    obtain rfl : i = l.length := by omega
    refine Ev.step (fun k => ?_) tail
    simp only [tendrillaw01_OctetBack.l0]
    rw [if_neg (by omega), if_pos (by rw [List.drop_length]; rfl)]
  | succ d ih =>
    intro i hi
    have hlt : i < l.length := by omega
    have hx := hn.at hlt
    have hbs : Bytes (encs (l.drop i) ++ more) := by
      intro x hx
      rcases List.mem_append.1 hx with h | h
      · exact encs_bytes _ x h
      · exact hb x h
    have ht := take_ev _ hbs
    have e : encs (l.drop i) ++ more = enc l[i].toNat ++ (encs (l.drop (i + 1)) ++ more) := by
      rw [List.drop_eq_getElem_cons hlt, encs_cons, List.append_assoc]
    rw [e] at ht ⊢
    rw [takeS_put (by omega)] at ht
    have hp := enc_pos l[i].toNat
    refine Ev.step (f := fun k => (octet_Take.f k (enc l[i].toNat ++ (encs (l.drop (i + 1)) ++ more))).bind fun t => if t.2.2 = 0 then (if 0 ≤ (i : Int) then (if (i : Int) < (l.length : Int) then (if t.1 = (rd l (i : Int)) then (if t.2.1 < 1 then (some false) else (if t.2.1 > ((enc l[i].toNat ++ (encs (l.drop (i + 1)) ++ more)).length : Int) then (some false) else (if 0 ≤ t.2.1 then (if t.2.1 ≤ ((enc l[i].toNat ++ (encs (l.drop (i + 1)) ++ more)).length : Int) then (tendrillaw01_OctetBack.l0 k l more ((enc l[i].toNat ++ (encs (l.drop (i + 1)) ++ more)).drop (t.2.1 : Int).toNat) (l.length : Int) (wrap64 ((i : Int) + 1))) else (none)) else (none)))) else (some false)) else (none)) else (none)) else (some false)) (fun k => ?_) (Ev.bind ht (Ev.congr (f := fun k => tendrillaw01_OctetBack.l0 k l more (encs (l.drop (i + 1)) ++ more) (l.length : Int) ((i + 1 : Nat) : Int)) (fun k => ?_) (ih (i + 1) (by omega))))
    · simp only [tendrillaw01_OctetBack.l0]
      rw [if_pos (by omega)]
    · have hL : ((enc l[i].toNat).length : Int) ≤ ((enc l[i].toNat ++ (encs (l.drop (i + 1)) ++ more)).length : Int) := by rw [List.length_append]; omega
      rw [if_pos rfl, if_pos (by omega), if_pos (by omega), if_pos (by rw [rd_nat hlt]; show ((l[i].toNat : Nat) : Int) = _; omega), if_neg (by show ¬ ((enc l[i].toNat).length : Int) < 1; omega), if_neg (by show ¬ ((enc l[i].toNat).length : Int) > _; omega), if_pos (by show 0 ≤ ((enc l[i].toNat).length : Int); omega), if_pos hL, Int.toNat_natCast, List.drop_left, w64 (by omega) (by omega)]
      rfl
theorem OctetBack : tendrillaw01_OctetBack.Pure := by
  intro l more hm _ hw hm2 _ hw2
  refine Ev.rounds (g := fun k => tendrillaw01_OctetBack.f k l more) ?_
  have hn : Nums l := fun x hx => wf_u64 (hw x hx)
  have hb : Bytes more := fun x hx => wf_u8 (hw2 x hx)
  have tail : Ev (fun k => (tendrillaw01_same.f k).bind fun t => some t) true := Ev.bind law_same (Ev.now true)
  have big : Ev (fun k => tendrillaw01_OctetBack.j0 k l more true) true := Ev.step (fun k => by simp only [tendrillaw01_OctetBack.j0]; rw [if_pos trivial]) tail
  unfold tendrillaw01_OctetBack.f
  by_cases h : (l.length : Int) > 200
  · exact Ev.congr (fun k => by rw [if_pos h]) big
  by_cases h2 : (more.length : Int) > 200
  · exact Ev.congr (fun k => by rw [if_neg h, decide_eq_true h2]) big
  have hlen := encs_len hn
  refine Ev.congr (f := fun k => tendrillaw01_OctetBack.j0 k l more false) (fun k => by rw [if_neg h, decide_eq_false h2]) ?_
  have hj2 : Ev (fun k => tendrillaw01_OctetBack.j2 k l more (encs l) false) true := by
    have := back_l0 l more hn hb (by omega) l.length 0 (by omega)
    rw [List.drop_zero] at this
    refine Ev.step (fun k => ?_) this
    simp only [tendrillaw01_OctetBack.j2]
    rw [if_neg (by decide), if_pos (by omega)]; rfl
  have hj1 : Ev (fun k => tendrillaw01_OctetBack.j1 k l more (encs l) false) true := by
    have ha := all_encs l [] hn (by simp; omega)
    rw [List.nil_append] at ha
    refine Ev.step (f := fun k => (octet_All.f k (encs l)).bind fun t => if t.2 = 0 then (tendrilref01_Same.f k t.1 l).bind (fun u => tendrillaw01_OctetBack.j2 k l more (encs l) (!u)) else tendrillaw01_OctetBack.j2 k l more (encs l) true) (fun k => ?_) (Ev.bind (g := fun k => octet_All.f k (encs l)) ha ?_)
    · simp only [tendrillaw01_OctetBack.j1]; rw [if_neg (by decide)]
    · exact Ev.congr (f := fun k => (tendrilref01_Same.f k l l).bind (fun u => tendrillaw01_OctetBack.j2 k l more (encs l) (!u))) (fun k => by rw [if_pos rfl]) (Ev.bind (same_ev l (by omega)) hj2)
  refine Ev.step (f := fun k => (octet_Put.f k l).bind fun t => (tendrilref01_Put.f k l).bind fun u => if (strOfNums t).toList = (strOfNums u).toList then (octet_Size.f k l).bind (fun s => tendrillaw01_OctetBack.j1 k l more t (s != (t.length : Int))) else tendrillaw01_OctetBack.j1 k l more t true) (fun k => ?_) (Ev.bind (put_ev l hn (by omega)) (Ev.bind (rput_ev l hn (by omega)) ?_))
  · simp only [tendrillaw01_OctetBack.j0]; rw [if_neg (by decide)]
  · exact Ev.congr (f := fun k => (octet_Size.f k l).bind (fun s => tendrillaw01_OctetBack.j1 k l more (encs l) (s != ((encs l).length : Int)))) (fun k => by rw [if_pos rfl]) (Ev.bind (size_ev l hn (by omega)) (by rw [bne_self_eq_false]; exact hj1))
end Go.Proofs.Ytfpijjjmgggfkaa.Pure
