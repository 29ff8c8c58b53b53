/- KnotJoins, the plain law. -/
import Derived.Test.YthijgcnmbfhjjaaDoorVs
import Derived.Test.YthijgcnmbfhjjaaDoorPx4
namespace Go.Proofs.YthijgcnmbfhjjaaDoor.U
set_option linter.unusedVariables false
set_option linter.unusedSimpArgs false
set_option linter.unnecessarySimpa false
open Go.RowKit Go.Proofs.YthijgcnmbfhjjaaDoorW.PrintWords Go.Proofs.YthijgcnmbfhjjaaDoorW.PrintLast Go.Proofs.YthijgcnmbfhjjaaDoorW.PrintMore Go.Proofs.YthijgcnmbfhjjaaDoor.P Go.Proofs.YthijgcnmbfhjjaaDoor.K Go.Proofs.YthijgcnmbfhjjaaDoor.A Go.Proofs.YthijgcnmbfhjjaaDoor.V
theorem joined (a b : List ByteArray) (ha : (a.length ≤ 100 ∧ total a ≤ 20000) ∧ ∀ x ∈ a, x.size ≤ reachBytes) (hb : (b.length ≤ 100 ∧ total b ≤ 20000) ∧ ∀ x ∈ b, x.size ≤ reachBytes) : Ev (fun k => furlonglaw01_KnotJoins.j0 k a b false) true := by
  have h1 := tie_small ha.2 ha.1.1 ha.1.2
  have h2 := tie_small hb.2 hb.1.1 hb.1.2
  have hl1 := ha.1.1
  have hl2 := hb.1.1
  have e : tie (datas a) ++ tie (datas b) = tie (datas (a ++ b)) := by rw [← tie_append]; unfold datas; rw [List.map_append]
  have h3 : (tie (datas (a ++ b))).length ≤ 1048576 := by rw [← e, List.length_append]; omega
  have h4 : (a ++ b).length ≤ 4096 := by rw [List.length_append]; omega
  have hu := untieR_tie h4 h3
  have hnil : knot_Tie.f [] = some (B []) := ktie (l := []) (by decide)
  refine Ev.shift ?_
  simp only [furlonglaw01_KnotJoins.j0]
  refine Ev.ite (fun h => absurd h (by simp)) (fun _ => ?_)
  simp only [ktie (l := a) (by omega), ktie (l := b) (by omega), Option.bind_some, B_append, e]
  refine Ev.ite (fun _ => ?_) (fun h => absurd (by rw [B_size, B_size]; omega) h)
  refine Ev.bind (untie_ev _) ?_
  simp only [hu, furlonglaw01_num.f, Option.bind_some, hnil, List.nil_append, List.length_nil]
  refine Ev.ite (fun _ => ?_) (fun h => absurd trivial h)
  refine Ev.ite (fun _ => ?_) (fun h => absurd (by omega) h)
  refine Ev.ite (fun _ => ?_) (fun h => absurd (by omega) h)
  refine Ev.bind (same_ev _ _ (by omega)) ?_
  refine Ev.ite (fun _ => ?_) (fun h => absurd (by simp) h)
  refine Ev.ite (fun _ => Ev.bind live_ev (Ev.now _)) (fun h => absurd ?_ h)
  rw [B_toList]
theorem KnotJoins : ∀ (l0 : List ByteArray), (l0.length * 16 ≤ reachBytes ∧ l0.length ≤ maxLen ∧ ∀ x ∈ l0, x.size ≤ reachBytes) → ∀ (l1 : List ByteArray), (l1.length * 16 ≤ reachBytes ∧ l1.length ≤ maxLen ∧ ∀ x ∈ l1, x.size ≤ reachBytes) → ∃ k, furlonglaw01_KnotJoins.f k l0 l1 = some true := by
  intro a ⟨h1, _, h3⟩ b ⟨g1, _, g3⟩
  refine Ev.rounds ?_
  have hbad : Ev (fun k => furlonglaw01_KnotJoins.j0 k a b true) true := by
    refine Ev.shift ?_
    simp only [furlonglaw01_KnotJoins.j0]
    exact Ev.ite (fun _ => Ev.bind live_ev (Ev.now _)) (fun h => absurd trivial h)
  obtain ⟨x, hE, hb⟩ := small_ev a h3 h1
  obtain ⟨y, gE, gb⟩ := small_ev b g3 g1
  refine Ev.bind hE ?_
  refine Ev.ite (fun h => ?_) (fun h => hbad)
  refine Ev.bind gE ?_
  cases y with
  | false => exact hbad
  | true => exact joined a b ⟨hb h, h3⟩ ⟨gb rfl, g3⟩
end Go.Proofs.YthijgcnmbfhjjaaDoor.U
