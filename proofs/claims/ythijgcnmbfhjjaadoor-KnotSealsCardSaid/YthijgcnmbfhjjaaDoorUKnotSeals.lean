/- KnotSeals, the plain law. -/
import Derived.Test.YthijgcnmbfhjjaaDoorVz
import Derived.Test.YthijgcnmbfhjjaaDoorPx3
namespace Go.Proofs.YthijgcnmbfhjjaaDoor.U
set_option linter.unusedVariables false
set_option linter.unusedSimpArgs false
set_option linter.unnecessarySimpa false
open Go.RowKit Go.Proofs.YthijgcnmbfhjjaaDoorW.PrintWords Go.Proofs.YthijgcnmbfhjjaaDoorW.PrintLast Go.Proofs.YthijgcnmbfhjjaaDoorW.PrintMore Go.Proofs.YthijgcnmbfhjjaaDoor.P Go.Proofs.YthijgcnmbfhjjaaDoor.K Go.Proofs.YthijgcnmbfhjjaaDoor.A Go.Proofs.YthijgcnmbfhjjaaDoor.V
theorem KnotSeals : ∀ (a0 : ByteArray), a0.size ≤ reachBytes → ∃ k, furlonglaw01_KnotSeals.f k a0 = some true := by
  intro s hs
  refine Ev.rounds ?_
  refine Ev.ite (fun h => Ev.bind live_ev (Ev.now _)) (fun h => ?_)
  have hs2 : s.size ≤ 140737488355328 := by omega
  simp only [open_eq hs2, sum_eq (s := s) (by omega), seal_eq hs2, furlonglaw01_num.f, Option.bind_some]
  refine Ev.bind (ropen_ev s hs2) (Ev.bind (rsum_ev s (by omega)) ?_)
  refine Ev.ite (fun _ => ?_) (fun h => absurd rfl h)
  refine Ev.bind (rseal_ev s hs2) ?_
  refine Ev.ite (fun _ => Ev.ite (fun _ => Ev.ite (fun _ => Ev.bind live_ev (Ev.now _)) (fun h => absurd rfl h)) (fun h => absurd rfl h)) (fun h => absurd rfl h)
end Go.Proofs.YthijgcnmbfhjjaaDoor.U
