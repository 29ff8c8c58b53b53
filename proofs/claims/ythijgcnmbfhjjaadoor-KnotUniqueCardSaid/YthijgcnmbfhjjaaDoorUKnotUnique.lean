/- KnotUnique, the plain law: what is read is the text of what was read. -/
import Derived.Test.YthijgcnmbfhjjaaDoorVs
import Derived.Test.YthijgcnmbfhjjaaDoorVo
import Derived.Test.YthijgcnmbfhjjaaDoorPx5
namespace Go.Proofs.YthijgcnmbfhjjaaDoor.U
set_option linter.unusedVariables false
set_option linter.unusedSimpArgs false
set_option linter.unnecessarySimpa false
open Go.RowKit Go.Proofs.YthijgcnmbfhjjaaDoorW.PrintWords Go.Proofs.YthijgcnmbfhjjaaDoorW.PrintLast Go.Proofs.YthijgcnmbfhjjaaDoorW.PrintMore Go.Proofs.YthijgcnmbfhjjaaDoor.P Go.Proofs.YthijgcnmbfhjjaaDoor.K Go.Proofs.YthijgcnmbfhjjaaDoor.A Go.Proofs.YthijgcnmbfhjjaaDoor.V
theorem j1 (s : ByteArray) (hs : s.size ≤ 20000) : Ev (fun k => furlonglaw01_KnotUnique.j1 k s false) true := by
  have hz : (openR s).1.size ≤ 140737488355328 := by
    unfold openR
    split
    · have := extract_le s (s.size - 8)
      simp only
      omega
    · exact Nat.zero_le _
  have hso := seal_eq hz
  refine Ev.shift ?_
  simp only [furlonglaw01_KnotUnique.j1]
  refine Ev.ite (fun h => absurd h (by simp)) (fun _ => ?_)
  simp only [open_eq (s := s) (by omega), furlonglaw01_num.f, Option.bind_some]
  refine Ev.ite (fun h => ?_) (fun h => ?_)
  · refine Ev.ite (fun _ => ?_) (fun h' => absurd h h')
    simp only [hso, Option.bind_some]
    refine Ev.ite (fun _ => Ev.bind live_ev (Ev.now _)) (fun h' => absurd ?_ h')
    rw [toList_inj]
    unfold openR at h ⊢
    by_cases hc : 8 ≤ s.size ∧ sealB (s.extract 0 (s.size - 8)) = s
    · rw [if_pos hc]; exact hc.2
    · rw [if_neg hc] at h; exact absurd h (by decide)
  · refine Ev.ite (fun _ => Ev.bind live_ev (Ev.now _)) (fun h' => absurd ?_ h')
    unfold openR at h ⊢
    by_cases hc : 8 ≤ s.size ∧ sealB (s.extract 0 (s.size - 8)) = s
    · rw [if_pos hc] at h; exact absurd rfl h
    · rw [if_neg hc, toList_nil]
theorem j0 (s : ByteArray) (hs : s.size ≤ 20000) : Ev (fun k => furlonglaw01_KnotUnique.j0 k s false) true := by
  refine Ev.shift ?_
  simp only [furlonglaw01_KnotUnique.j0]
  refine Ev.ite (fun h => absurd h (by simp)) (fun _ => ?_)
  refine Ev.bind (untie_ev s) ?_
  simp only [furlonglaw01_num.f, Option.bind_some]
  unfold untieR
  cases hu : untieL s.data.toList with
  | none =>
    simp only
    refine Ev.ite (fun h => absurd h (by omega)) (fun _ => Ev.ite (fun h => absurd h (by omega)) (fun _ => ?_))
    exact j1 s hs
  | some ss =>
    obtain ⟨h1, h2, h3⟩ := untieL_some hu
    simp only
    refine Ev.ite (fun _ => ?_) (fun h => absurd trivial h)
    have hd : datas (ss.map B) = ss := datas_B ss
    have hk := ktie (l := ss.map B) (by rw [hd, ← h1]; omega)
    rw [hd, ← h1, B_of] at hk
    rw [hk]
    simp only [Option.bind_some]
    refine Ev.ite (fun _ => Ev.ite (fun _ => j1 s hs) (fun h => absurd (by trivial) h)) (fun h => absurd (by trivial) h)
theorem KnotUnique : ∀ (a0 : ByteArray), a0.size ≤ reachBytes → ∃ k, furlonglaw01_KnotUnique.f k a0 = some true := by
  intro s hs
  refine Ev.rounds ?_
  refine Ev.ite (fun h => Ev.bind live_ev (Ev.now _)) (fun h => ?_)
  have hs2 : s.size ≤ 20000 := by omega
  simp only [int_eq (s := s) (by omega), Option.bind_some, furlonglaw01_num.f]
  cases hp : pz s.data.toList with
  | none =>
    simp only
    refine Ev.ite (fun h => absurd h (by omega)) (fun _ => Ev.ite (fun h => absurd h (by omega)) (fun _ => ?_))
    exact j0 s hs2
  | some n =>
    simp only
    have hn : knot_Num.f n = some s := by
      unfold pz at hp
      split at hp
      · rename_i v hv
        split at hp
        · rename_i he
          injection hp with hp; subst hp
          rw [num_eq (parseIntB_bound hv), he, B_of]
        · cases hp
      · cases hp
    rw [hn]
    simp only [Option.bind_some]
    exact Ev.ite (fun _ => Ev.ite (fun _ => Ev.ite (fun _ => j0 s hs2) (fun h => absurd trivial h)) (fun h => absurd trivial h)) (fun h => absurd trivial h)
end Go.Proofs.YthijgcnmbfhjjaaDoor.U
