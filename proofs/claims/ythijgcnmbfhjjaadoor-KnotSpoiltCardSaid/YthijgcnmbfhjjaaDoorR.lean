/- What the rows of this seat use: that the library's variables lie as the walks ask, out of what the row lists and of the world's shape; a world for the witness; arguments laid open. -/
import Derived.Test.YthijgcnmbfhjjaaDoorRows
import Derived.Test.YthijgcnmbfhjjaaDoorCards
import Derived.Test.YthijgcnmbfhjjaaDoorTie
import Derived.Test.YthijgcnmbfhjjaaDoorK
import Derived.WalkKit
import Derived.ProofKit
import Derived.OpenShut
import Derived.ShutString
import Derived.ChangeOld
import Derived.SizedLaws
import Derived.Deep.DeepHandedRow
import Derived.Deep.DeepWitnessRowRef
import Derived.Lib.LaidTab
import Derived.LaidMore
import Derived.LaidHandle
import Derived.Shelf.Vars
namespace Go.Proofs.YthijgcnmbfhjjaaDoor.K
open Go.RowKit Go.Proofs.YthijgcnmbfhjjaaDoorW.PrintWords

theorem own : ownKnob Tryd.prog.godebug = none := by kernel_rfl
theorem laidOut : laidOutB Tryd.prog = true := by kernel_rfl
def laidHere : List (String × DataW Unit) := [("math/bits.deBruijn32tab", Rows.laid_math_bits_deBruijn32tab), ("math/bits.deBruijn64tab", Rows.laid_math_bits_deBruijn64tab), ("internal/strconv.uint64pow10", Rows.laid_internal_strconv_uint64pow10), ("strconv.ErrRange", Rows.laid_strconv_ErrRange), ("strconv.ErrSyntax", Rows.laid_strconv_ErrSyntax)]
theorem laid_iface {P : Program} {n nm : String} {d : DataW Unit} {r : List (String × DataW Unit)} {W : World} {g : Nat} {ti : TypeId} {ms : Array (String × TypeId)}
    (h : laidMet P ((n, .iface nm d) :: r) W) (hg : P.globalNamed n = some g) (ht : (P.globals[g]?).map (·.type) = some ti) (hi : P.underlying ti = some (.interface ms)) :
    ∃ ev, W.cell? ⟨g, 0, none⟩ = some ev ∧ (ev = .nilIface ∨ ∃ te pe, ev = .iface te pe) := by
  obtain ⟨ps, ⟨g0, t0, cs0, f0, p0, q0, hg0, ht0, hv0, hd0, _, e0⟩, _, hrows⟩ := h
  obtain rfl := Option.some.inj (hg.symm.trans hg0)
  obtain rfl := Option.some.inj (ht.symm.trans ht0)
  have hc := World.var?_cell hg0 hv0 0
  cases f0 with
  | zero => simp [DataW.trod] at hd0
  | succ f =>
    obtain ⟨l⟩ := cs0
    cases l with
    | nil => simp [DataW.trod, hi] at hd0
    | cons v l =>
      cases l with
      | cons _ _ => simp [DataW.trod, hi] at hd0
      | nil =>
        have hc' : W.cell? ⟨g, 0, none⟩ = some v := by rw [hc]; rfl
        refine ⟨v, hc', ?_⟩
        cases v <;> first | exact .inl rfl | exact .inr ⟨_, _, rfl⟩ | (simp [DataW.trod, hi] at hd0)

theorem gType : (Tryd.prog.globals[2]?).map (·.type) = some 96 := by kernel_rfl
theorem cellsTab : Tryd.prog.cellsOf 96 = 20 := by kernel_rfl
theorem cellsU64 : Tryd.prog.cellsOf 59 = 1 := by kernel_rfl
theorem theG_of {W : World} (hL : laidMetH Tryd.prog laidHere W) (hsh : W.ShapedOpen Tryd.prog) : TheG W := by
  have h1 : laidMetH Tryd.prog [("internal/strconv.uint64pow10", Rows.laid_internal_strconv_uint64pow10)] W := by
    have := hL.filter (fun x => x.1 == "internal/strconv.uint64pow10")
    rw [show laidHere.filter (fun x => x.1 == "internal/strconv.uint64pow10") = [("internal/strconv.uint64pow10", Rows.laid_internal_strconv_uint64pow10)] from by rfl] at this
    exact this
  have h2 : laidMet Tryd.prog [("internal/strconv.uint64pow10", Lib.tabData .u64 Lib.pow10Tab)] W := by
    rw [MakeChecks.laidMetH_plain _ _ _ (by kernel_rfl)] at h1
    exact h1
  refine ⟨Lib.tabIs_of_head (rest := []) g_tab gType Tryd.underlying96 Tryd.underlying59 cellsU64 cellsTab h2, ?_, ?_, ?_⟩
  · have h1 := hL.filter (fun x => x.1 == "strconv.ErrSyntax")
    rw [show laidHere.filter (fun x => x.1 == "strconv.ErrSyntax") = [("strconv.ErrSyntax", Rows.laid_strconv_ErrSyntax)] from by rfl, MakeChecks.laidMetH_plain _ _ _ (by kernel_rfl)] at h1
    exact laid_iface (g := 0) (ti := 56) h1 (by kernel_rfl) (by kernel_rfl) Tryd.underlying56
  · have h1 := hL.filter (fun x => x.1 == "strconv.ErrRange")
    rw [show laidHere.filter (fun x => x.1 == "strconv.ErrRange") = [("strconv.ErrRange", Rows.laid_strconv_ErrRange)] from by rfl, MakeChecks.laidMetH_plain _ _ _ (by kernel_rfl)] at h1
    exact laid_iface (g := 1) (ti := 56) h1 (by kernel_rfl) (by kernel_rfl) Tryd.underlying56
  · exact cell_of_shapedOpen_int (zero := #[.int .i64 0]) (t := 3) hsh (of_decide_eq_true (by kernel_rfl)) (by kernel_rfl) rfl (by kernel_rfl) (by kernel_rfl) Tryd.underlying3

/-- The heap that the variables' own initialisers leave: a start that fits. -/
theorem door_met (os : Os) (args : Array Value) : laidMetH Tryd.prog laidHere ((World.doorLaid Tryd.prog 62 os).forCall (fun _ _ => 0) ⟨#[], args, []⟩).memory :=
  laidMetH_of_parts3 (fuel := 8) (laidMet_of_run' 8 (by kernel_rfl) (by kernel_rfl)) (by kernel_rfl) (by kernel_rfl)
end Go.Proofs.YthijgcnmbfhjjaaDoor.K
