/- KnotNums, the plain law: numbers' texts and texts' numbers are the reference's. -/
import Derived.Test.YthijgcnmbfhjjaaDoorVi
import Derived.Test.YthijgcnmbfhjjaaDoorPx2
namespace Go.Proofs.YthijgcnmbfhjjaaDoor.U
open Go.RowKit Go.Proofs.YthijgcnmbfhjjaaDoorW.PrintWords Go.Proofs.YthijgcnmbfhjjaaDoorW.PrintLast Go.Proofs.YthijgcnmbfhjjaaDoorW.PrintMore Go.Proofs.YthijgcnmbfhjjaaDoor.P Go.Proofs.YthijgcnmbfhjjaaDoor.K Go.Proofs.YthijgcnmbfhjjaaDoor.A Go.Proofs.YthijgcnmbfhjjaaDoor.V
theorem KnotNums : ∀ (a0 : Int), (Lit.int .i64 a0).wf = true → ∀ (a1 : ByteArray), a1.size ≤ reachBytes → ∃ k, furlonglaw01_KnotNums.f k a0 a1 = some true := by
  intro n hn s hs
  have hreach : reachBytes = 140737488351232 := rfl
  have hI := isI_wf hn
  refine Ev.rounds ?_
  refine Ev.ite (fun h => Ev.bind live_ev (Ev.now _)) (fun h => ?_)
  have hz : (B (Lib.itoa n)).size ≤ 281474976710656 := by rw [B_size]; have := Lib.itoa_length_le n hI.1 hI.2; omega
  simp only [int_eq (s := s) (by omega), num_eq hI, Option.bind_some, int_eq hz, B_data, pz_itoa hI]
  refine Ev.bind (rint_ev s) ?_
  have hr : furlongref01_Num.f n = some (B (Lib.itoa n)) := by unfold furlongref01_Num.f; rw [if_pos hI.1, if_pos hI.2]; rfl
  simp only [hr, Option.bind_some, if_true, furlonglaw01_num.f]
  unfold intA
  cases pz s.data.toList with
  | none => simp only [if_true]; exact Ev.bind live_ev (Ev.now _)
  | some v => simp only [if_true]; exact Ev.bind live_ev (Ev.now _)
end Go.Proofs.YthijgcnmbfhjjaaDoor.U
