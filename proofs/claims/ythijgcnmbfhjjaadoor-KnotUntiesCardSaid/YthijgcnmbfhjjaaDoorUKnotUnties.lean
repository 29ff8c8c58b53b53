/- KnotUnties, the plain law: the program's Untie and First answer as the reference's. -/
import Derived.Test.YthijgcnmbfhjjaaDoorV
import Derived.Test.YthijgcnmbfhjjaaDoorPx3
namespace Go.Proofs.YthijgcnmbfhjjaaDoor.U
open Go.RowKit Go.Proofs.YthijgcnmbfhjjaaDoorW.PrintWords Go.Proofs.YthijgcnmbfhjjaaDoorW.PrintLast Go.Proofs.YthijgcnmbfhjjaaDoorW.PrintMore Go.Proofs.YthijgcnmbfhjjaaDoor.P Go.Proofs.YthijgcnmbfhjjaaDoor.K Go.Proofs.YthijgcnmbfhjjaaDoor.A Go.Proofs.YthijgcnmbfhjjaaDoor.V
theorem KnotUnties : ∀ (a0 : ByteArray), a0.size ≤ reachBytes → ∃ k, furlonglaw01_KnotUnties.f k a0 = some true := by
  intro s hs
  refine Ev.rounds ?_
  refine Ev.ite (fun h => Ev.bind live_ev (Ev.now _)) (fun h => ?_)
  refine Ev.bind (untie_ev s) (Ev.bind (runtie_ev s) ?_)
  have hR : furlongref01_First.f s = some (firstR s) := by unfold furlongref01_First.f; rw [if_pos (by omega)]
  simp only [first_eq (s := s) (by omega), hR, Option.bind_some]
  have hl : (untieR s).1.length ≤ 9223372036854775806 := by
    unfold untieR
    cases hu : untieL s.data.toList with
    | none => simp
    | some ss => have := (untieL_some hu).2.1; simp; omega
  refine Ev.bind (same_ev _ _ hl) ?_
  simp only [furlonglaw01_num.f, decide_true, if_true, Option.bind_some]
  exact Ev.bind live_ev (Ev.now _)
end Go.Proofs.YthijgcnmbfhjjaaDoor.U
