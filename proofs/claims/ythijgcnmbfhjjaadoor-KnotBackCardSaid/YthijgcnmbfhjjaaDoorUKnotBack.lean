/- KnotBack, the plain law: there and back, strand by strand, cut off. -/
import Derived.Test.YthijgcnmbfhjjaaDoorVs
import Derived.Test.YthijgcnmbfhjjaaDoorPx6
namespace Go.Proofs.YthijgcnmbfhjjaaDoor.U
set_option linter.unusedVariables false
set_option linter.unusedSimpArgs false
set_option linter.unnecessarySimpa false
open Go.RowKit Go.Proofs.YthijgcnmbfhjjaaDoorW.PrintWords Go.Proofs.YthijgcnmbfhjjaaDoorW.PrintLast Go.Proofs.YthijgcnmbfhjjaaDoorW.PrintMore Go.Proofs.YthijgcnmbfhjjaaDoor.P Go.Proofs.YthijgcnmbfhjjaaDoor.K Go.Proofs.YthijgcnmbfhjjaaDoor.A Go.Proofs.YthijgcnmbfhjjaaDoor.V
/-- A knot at the front of a knot ties its first strands. -/
theorem tie_front : ∀ (p ss : List (List UInt8)) (rest : List UInt8), (tie ss).length ≤ 1048576 → tie p ++ rest = tie ss → ∃ q, ss = p ++ q ∧ rest = tie q
  | [], ss, rest, _, h => ⟨ss, rfl, h⟩
  | x :: p, [], rest, _, h => by
    rw [tie_cons, List.append_assoc] at h
    have := congrArg List.length h
    rw [List.length_append, strand_length] at this
    simp [tie] at this
  | x :: p, y :: ss, rest, hl, h => by
    have hxl : (strand x).length ≤ 1048576 := by
      have := congrArg List.length h
      rw [tie_cons, List.append_assoc, List.length_append] at this
      omega
    have hyl : (strand y).length ≤ 1048576 := by rw [tie_cons, List.length_append] at hl; omega
    have hsl : (tie ss).length ≤ 1048576 := by rw [tie_cons, List.length_append] at hl; omega
    rw [tie_cons, tie_cons, List.append_assoc] at h
    have h1 := firstL_strand x (tie p ++ rest) hxl
    rw [h, firstL_strand y _ hyl] at h1
    injection h1 with h1
    injection h1 with h2 h3
    obtain ⟨q, hq, hr⟩ := tie_front p ss rest hsl h3.symm
    exact ⟨q, by rw [h2, hq]; rfl, hr⟩
theorem datas_append_B (p q : List (List UInt8)) (l : List ByteArray) (h : datas l = p ++ q) : p.map B = l.take p.length ∧ l.length = p.length + q.length := by
  have e : l = p.map B ++ q.map B := by rw [← List.map_append, ← h, B_datas]
  constructor
  · rw [e, List.take_append_of_le_length (by simp), List.take_of_length_le (by simp)]
  · rw [e]; simp
theorem j2 (l : List ByteArray) (hl : l.length ≤ 100) (ht : (tie (datas l)).length ≤ 22200) (cut : Int) (b : Bool) (hb : b = false → 0 ≤ cut ∧ cut < ((B (tie (datas l))).size : Int)) :
    Ev (fun k => furlonglaw01_KnotBack.j2 k l cut (B (tie (datas l))) b) true := by
  refine Ev.shift ?_
  simp only [furlonglaw01_KnotBack.j2]
  refine Ev.ite (fun _ => Ev.bind live_ev (Ev.now _)) (fun h => ?_)
  obtain ⟨h0, h1⟩ := hb (by simpa using h)
  obtain ⟨n, rfl⟩ : ∃ n : Nat, cut = n := ⟨cut.toNat, by omega⟩
  rw [B_size] at h1
  refine Ev.ite (fun _ => ?_) (fun h => absurd h0 h)
  refine Ev.ite (fun _ => ?_) (fun h => absurd (by rw [B_size]; omega) h)
  rw [Int.toNat_natCast, B_extract, List.drop_zero, Nat.sub_zero]
  refine Ev.bind (untie_ev _) ?_
  simp only [furlonglaw01_num.f, Option.bind_some]
  unfold untieR
  rw [B_data]
  cases hu : untieL ((tie (datas l)).take n) with
  | none =>
    simp only
    refine Ev.ite (fun h => absurd h (by omega)) (fun _ => Ev.ite (fun _ => Ev.bind live_ev (Ev.now _)) (fun h => absurd rfl h))
  | some p =>
    obtain ⟨h2, h3, h4⟩ := untieL_some hu
    obtain ⟨q, hq, hr⟩ := tie_front p (datas l) ((tie (datas l)).drop n) (by omega) (by rw [← h2, List.take_append_drop])
    obtain ⟨h5, h6⟩ := datas_append_B p q l hq
    have h7 : q ≠ [] := by
      intro h
      rw [h] at hr
      have := congrArg List.length hr
      have e0 : (tie ([] : List (List UInt8))).length = 0 := rfl
      rw [List.length_drop, e0] at this
      omega
    have h8 := List.length_pos_iff.2 h7
    simp only [List.length_map]
    refine Ev.ite (fun _ => ?_) (fun h => absurd trivial h)
    refine Ev.ite (fun _ => ?_) (fun h => absurd (by omega) h)
    refine Ev.ite (fun _ => ?_) (fun h => absurd (by omega) h)
    refine Ev.ite (fun _ => ?_) (fun h => absurd (by omega) h)
    rw [Int.toNat_natCast, ← h5]
    refine Ev.bind (same_ev _ _ (by simp; omega)) ?_
    refine Ev.ite (fun _ => Ev.bind live_ev (Ev.now _)) (fun h => absurd (by simp) h)
theorem l0_loop (l : List ByteArray) (hl : l.length ≤ 100) (ht : (tie (datas l)).length ≤ 22200) (cut : Int) (d : Nat) : ∀ (i : Nat), l.length - i = d → i ≤ l.length → (tie (datas (l.drop i))).length ≤ 22200 →
    Ev (fun k => furlonglaw01_KnotBack.l0 k l cut (B (tie (datas l))) (B (tie (datas (l.drop i)))) (i : Int)) true := by
  induction d with
  | zero =>
    intro i hd hi hsz
    have hlt : ¬ (i : Int) < (l.length : Int) := by omega
    have e : l.drop i = [] := List.drop_of_length_le (by omega)
    rw [e]
    refine Ev.shift ?_
    simp only [furlonglaw01_KnotBack.l0, if_neg hlt]
    refine Ev.ite (fun _ => ?_) (fun h => absurd (by rw [B_toList]; rfl) h)
    refine Ev.ite (fun _ => j2 l hl ht cut true (fun h => by cases h)) (fun h0 => ?_)
    refine j2 l hl ht cut _ (fun h => ?_)
    have := of_decide_eq_false h
    omega
  | succ d ih =>
    intro i hd hi hsz
    have hlt : i < l.length := by omega
    have a1 : (i : Int) < (l.length : Int) := by omega
    have a2 : 0 ≤ (i : Int) := by omega
    have hi1 : l.length - (i + 1) = d := by omega
    have hi2 : i + 1 ≤ l.length := by omega
    have e2 : wrap64 ((i : Int) + 1) = ((i + 1 : Nat) : Int) := by rw [wrap_in (by omega) (by omega)]; rfl
    have hdrop : l.drop i = l[i] :: l.drop (i + 1) := List.drop_eq_getElem_cons hlt
    have ht2 : tie (datas (l.drop i)) = strand l[i].data.toList ++ tie (datas (l.drop (i + 1))) := by rw [hdrop]; rfl
    have hlen := congrArg List.length ht2
    rw [List.length_append, strand_length] at hlen
    have hrd : rdOf ByteArray.empty l (i : Int) = l[i] := by simp [rdOf, hlt]
    have hf : firstR (B (tie (datas (l.drop i)))) = (l[i], B (tie (datas (l.drop (i + 1)))), 0) := by
      unfold firstR
      rw [B_data, ht2, firstL_strand _ _ (by rw [strand_length]; omega)]
      simp only [B_of]
    have ih' := ih (i + 1) hi1 hi2 (by omega)
    refine Ev.shift ?_
    have hz : ¬ ((B (tie (datas (l.drop (i + 1))))).size : Int) ≥ ((B (tie (datas (l.drop i)))).size : Int) := by rw [B_size, B_size]; omega
    simp only [furlonglaw01_KnotBack.l0, if_pos a1, first_eq (s := B (tie (datas (l.drop i)))) (by rw [B_size]; omega), hf, furlonglaw01_num.f, Option.bind_some, if_true, if_pos a2, hrd, if_neg hz, e2]
    exact ih'
theorem KnotBack : ∀ (l0 : List ByteArray), (l0.length * 16 ≤ reachBytes ∧ l0.length ≤ maxLen ∧ ∀ x ∈ l0, x.size ≤ reachBytes) → ∀ (a1 : Int), (Lit.int .i64 a1).wf = true → ∃ k, furlonglaw01_KnotBack.f k l0 a1 = some true := by
  intro l ⟨h1, _, h3⟩ cut _
  refine Ev.rounds ?_
  obtain ⟨b, hE, hb⟩ := small_ev l h3 h1
  refine Ev.bind hE ?_
  refine Ev.ite (fun h => ?_) (fun h => Ev.bind live_ev (Ev.now _))
  obtain ⟨h4, h5⟩ := hb h
  have ht := tie_small h3 h4 h5
  simp only [ktie (l := l) (by omega), Option.bind_some]
  refine Ev.bind (untie_ev _) ?_
  simp only [untieR_tie (l := l) (by omega) (by omega), furlonglaw01_num.f, Option.bind_some]
  refine Ev.ite (fun _ => ?_) (fun h => absurd trivial h)
  refine Ev.bind (same_ev _ _ (by omega)) ?_
  refine Ev.shift ?_
  simp only [furlonglaw01_KnotBack.j0]
  refine Ev.ite (fun h => absurd h (by simp)) (fun _ => ?_)
  have := l0_loop l h4 ht cut _ 0 rfl (Nat.zero_le _) (by simpa using ht)
  exact this
end Go.Proofs.YthijgcnmbfhjjaaDoor.U
