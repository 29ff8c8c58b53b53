/- KnotTies, the plain law: the program's Tie answers as the reference's. -/
import Derived.Test.YthijgcnmbfhjjaaDoorVs
import Derived.Test.YthijgcnmbfhjjaaDoorPx2
namespace Go.Proofs.YthijgcnmbfhjjaaDoor.U
open Go.RowKit Go.Proofs.YthijgcnmbfhjjaaDoorW.PrintWords Go.Proofs.YthijgcnmbfhjjaaDoorW.PrintLast Go.Proofs.YthijgcnmbfhjjaaDoorW.PrintMore Go.Proofs.YthijgcnmbfhjjaaDoor.P Go.Proofs.YthijgcnmbfhjjaaDoor.K Go.Proofs.YthijgcnmbfhjjaaDoor.A Go.Proofs.YthijgcnmbfhjjaaDoor.V
theorem KnotTies : ∀ (l0 : List ByteArray), (l0.length * 16 ≤ reachBytes ∧ l0.length ≤ maxLen ∧ ∀ x ∈ l0, x.size ≤ reachBytes) → ∃ k, furlonglaw01_KnotTies.f k l0 = some true := by
  intro l ⟨h1, _, h3⟩
  have hreach : reachBytes = 140737488351232 := rfl
  refine Ev.rounds ?_
  obtain ⟨b, hE, hb⟩ := small_ev l h3 h1
  refine Ev.bind hE ?_
  refine Ev.ite (fun h => ?_) (fun h => Ev.bind live_ev (Ev.now _))
  obtain ⟨h4, h5⟩ := hb h
  have ht := tie_small h3 h4 h5
  simp only [Option.bind_some, List.nil_append, List.length_nil]
  refine Ev.ite (fun _ => ?_) (fun h => absurd h (by omega))
  simp only [ktie (l := l) (by omega), rtie (l := l) (by omega), Option.bind_some, if_true]
  exact Ev.bind live_ev (Ev.now _)
end Go.Proofs.YthijgcnmbfhjjaaDoor.U
