/- Sum, Seal and Open, told plainly: the program's Open. -/
import Derived.Test.YthijgcnmbfhjjaaDoorV
namespace Go.Proofs.YthijgcnmbfhjjaaDoor.V
open Go.RowKit Go.Proofs.YthijgcnmbfhjjaaDoorW.PrintWords Go.Proofs.YthijgcnmbfhjjaaDoorW.PrintLast Go.Proofs.YthijgcnmbfhjjaaDoorW.PrintMore Go.Proofs.YthijgcnmbfhjjaaDoor.P Go.Proofs.YthijgcnmbfhjjaaDoor.K Go.Proofs.YthijgcnmbfhjjaaDoor.A
def openR (s : ByteArray) : ByteArray × Int := if 8 ≤ s.size ∧ sealB (s.extract 0 (s.size - 8)) = s then (s.extract 0 (s.size - 8), 0) else (⟨#[]⟩, 11)
theorem seal_eq {s : ByteArray} (h : s.size ≤ 140737488355328) : knot_Seal.f s = some (sealB s) := by
  unfold knot_Seal.f; rw [if_pos h]
theorem sum_eq {s : ByteArray} (h : s.size ≤ 9223372036854775807) : knot_Sum.f s = some (sumI s.data.toList) := by
  unfold knot_Sum.f; rw [if_pos h]
theorem extract_le (s : ByteArray) (n : Nat) : (s.extract 0 n).size ≤ s.size := by
  rw [ByteArray.size_extract]; omega
theorem open_eq {s : ByteArray} (h : s.size ≤ 140737488355328) : knot_Open.f s = some (openR s) := by
  unfold knot_Open.f openR
  rw [wrap_in (n := (s.size : Int) - 8) (by omega) (by omega)]
  by_cases h8 : 8 ≤ s.size
  · rw [if_neg (by omega), if_pos (by omega), if_pos (by omega)]
    have e : ((s.size : Int) - 8).toNat = s.size - 8 := by omega
    rw [e, seal_eq (by have := extract_le s (s.size - 8); omega)]
    simp only [Option.bind_some, toList_inj]
    by_cases hs : sealB (s.extract 0 (s.size - 8)) = s
    · rw [if_pos hs, if_pos ⟨h8, hs⟩]
    · rw [if_neg hs, if_neg (fun h => hs h.2)]
  · rw [if_pos (by omega), if_neg (fun h => h8 h.1)]
end Go.Proofs.YthijgcnmbfhjjaaDoor.V
