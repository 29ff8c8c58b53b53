/- The statements' own bound (small) on lists of texts, and what follows on their knots. -/
import Derived.Test.YthijgcnmbfhjjaaDoorV
import Derived.Test.YthijgcnmbfhjjaaDoorPx2
namespace Go.Proofs.YthijgcnmbfhjjaaDoor.V
open Go.RowKit Go.Proofs.YthijgcnmbfhjjaaDoorW.PrintWords Go.Proofs.YthijgcnmbfhjjaaDoorW.PrintLast Go.Proofs.YthijgcnmbfhjjaaDoorW.PrintMore Go.Proofs.YthijgcnmbfhjjaaDoor.P Go.Proofs.YthijgcnmbfhjjaaDoor.K Go.Proofs.YthijgcnmbfhjjaaDoor.A
def total (l : List ByteArray) : Nat := (l.map fun s => s.size).sum
theorem total_take (l : List ByteArray) (i : Nat) (h : i < l.length) : total (l.take (i + 1)) = total (l.take i) + l[i].size := by
  unfold total
  rw [List.take_succ_eq_append_getElem h, List.map_append, List.sum_append]
  simp
theorem small_loop (l : List ByteArray) (hr : ∀ x ∈ l, x.size ≤ reachBytes) (hm : l.length ≤ 9223372036854775806) (d : Nat) : ∀ (i : Nat), l.length - i = d → i ≤ l.length → total (l.take i) ≤ 20000 + reachBytes →
    ∃ b, Ev (fun k => furlonglaw01_small.l0 k l (total (l.take i) : Int) (i : Int)) b ∧ (b = true → l.length ≤ 100 ∧ total l ≤ 20000) := by
  have hreach : reachBytes = 140737488351232 := rfl
  induction d with
  | zero =>
    intro i hd hi ht
    have : i = l.length := by omega
    subst this
    rw [List.take_length] at ht ⊢
    by_cases h : l.length ≤ 100
    · refine ⟨decide ((total l : Int) ≤ 20000), Ev.step (f := fun _ => some (decide ((total l : Int) ≤ 20000))) (fun k => ?_) (Ev.now _), fun hb => ⟨h, by have := of_decide_eq_true hb; omega⟩⟩
      simp only [furlonglaw01_small.l0]
      rw [if_neg (by omega), if_pos (by omega)]
    · refine ⟨false, Ev.step (f := fun _ => some false) (fun k => ?_) (Ev.now _), fun hb => by cases hb⟩
      simp only [furlonglaw01_small.l0]
      rw [if_neg (by omega), if_neg (by omega)]
  | succ d ih =>
    intro i hd hi ht
    have hlt : i < l.length := by omega
    have hsz := hr l[i] (List.getElem_mem hlt)
    have hrd : rdOf ByteArray.empty l (i : Int) = l[i] := by simp [rdOf, hlt]
    by_cases h1 : i ≤ 100
    · by_cases h2 : total (l.take i) ≤ 20000
      · obtain ⟨b, hE, hb⟩ := ih (i + 1) (by omega) (by omega) (by rw [total_take l i hlt]; omega)
        refine ⟨b, Ev.step (f := fun k => furlonglaw01_small.l0 k l (total (l.take (i + 1)) : Int) ((i + 1 : Nat) : Int)) (fun k => ?_) hE, hb⟩
        simp only [furlonglaw01_small.l0]
        rw [if_pos (by omega), if_pos (by omega), if_pos (by omega), if_pos (by omega), hrd, wrap_in (by omega) (by omega), wrap_in (by omega) (by omega), total_take l i hlt]
        rfl
      · by_cases h3 : l.length ≤ 100
        · refine ⟨false, Ev.step (f := fun _ => some false) (fun k => ?_) (Ev.now _), fun hb => by cases hb⟩
          simp only [furlonglaw01_small.l0]
          rw [if_pos (by omega), if_pos (by omega), if_neg (by omega), if_pos (by omega), decide_eq_false (by omega)]
        · refine ⟨false, Ev.step (f := fun _ => some false) (fun k => ?_) (Ev.now _), fun hb => by cases hb⟩
          simp only [furlonglaw01_small.l0]
          rw [if_pos (by omega), if_pos (by omega), if_neg (by omega), if_neg (by omega)]
    · refine ⟨false, Ev.step (f := fun _ => some false) (fun k => ?_) (Ev.now _), fun hb => by cases hb⟩
      simp only [furlonglaw01_small.l0]
      rw [if_pos (by omega), if_neg (by omega), if_neg (by omega)]
theorem small_ev (l : List ByteArray) (hr : ∀ x ∈ l, x.size ≤ reachBytes) (hm : l.length * 16 ≤ reachBytes) : ∃ b, Ev (fun k => furlonglaw01_small.f k l) b ∧ (b = true → l.length ≤ 100 ∧ total l ≤ 20000) := by
  have hreach : reachBytes = 140737488351232 := rfl
  exact small_loop l hr (by omega) _ 0 rfl (Nat.zero_le _) (by simp [total])
def datas (l : List ByteArray) : List (List UInt8) := l.map fun s => s.data.toList
theorem datas_B (ss : List (List UInt8)) : datas (ss.map B) = ss := by
  unfold datas; rw [List.map_map]
  conv => rhs; rw [← List.map_id ss]
  exact List.map_congr_left fun s _ => B_data s
theorem B_datas (l : List ByteArray) : (datas l).map B = l := by
  unfold datas; rw [List.map_map]
  conv => rhs; rw [← List.map_id l]
  exact List.map_congr_left fun s _ => B_of s
theorem tie_total (l : List ByteArray) (hr : ∀ x ∈ l, x.size ≤ reachBytes) : (tie (datas l)).length ≤ total l + 22 * l.length := by
  have hreach : reachBytes = 140737488351232 := rfl
  induction l with
  | nil => simp [tie, datas]
  | cons s l ih =>
    have h1 := ih (fun x hx => hr x (by simp [hx]))
    have h2 := hr s (by simp)
    have h3 := itoa_le s.size (by omega)
    have hz := Lib.size_eq s
    show (tie (s.data.toList :: datas l)).length ≤ _
    rw [tie_cons, List.length_append, strand_length, ← hz]
    simp only [total, List.map_cons, List.sum_cons, List.length_cons] at h1 ⊢
    omega
theorem tie_small {l : List ByteArray} (hr : ∀ x ∈ l, x.size ≤ reachBytes) (h1 : l.length ≤ 100) (h2 : total l ≤ 20000) : (tie (datas l)).length ≤ 22200 := by
  have := tie_total l hr; omega
theorem ktie {l : List ByteArray} (h : (tie (datas l)).length ≤ 140737488355328) : knot_Tie.f l = some (B (tie (datas l))) := tie_eq h
theorem rtie {l : List ByteArray} (h : (tie (datas l)).length ≤ 140737488355328) : furlongref01_Tie.f l = some (B (tie (datas l))) := by
  unfold furlongref01_Tie.f tieB; rw [if_pos (by unfold datas at h; omega)]; rfl
/-- Untie, of what was tied. -/
theorem untieR_tie {l : List ByteArray} (h1 : l.length ≤ 4096) (h2 : (tie (datas l)).length ≤ 1048576) : untieR (B (tie (datas l))) = (l, 0) := by
  unfold untieR
  rw [B_data, untieL_tie (datas l) (by simpa [datas] using h1) h2]
  simp only [B_datas]
end Go.Proofs.YthijgcnmbfhjjaaDoor.V
