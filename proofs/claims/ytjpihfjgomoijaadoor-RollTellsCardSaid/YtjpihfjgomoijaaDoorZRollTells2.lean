import Derived.Test.YtjpihfjgomoijaaDoorZRollTells0
import Derived.Test.YtjpihfjgomoijaaDoorZRollTells1
import Derived.ArgAppend
import Derived.Deep.DrawnRows
import Derived.Deep.RegionHeld3
import Derived.Lib.Hide
import Derived.Lib.SliceRun
import Derived.Maps.AppendAt
import Derived.OwnWalk
set_option linter.unusedVariables false
set_option linter.unusedSimpArgs false
set_option linter.unnecessarySimpa false
section
-- Written by a program of this session (wip/tools/pr.py), over the kit's printer; functions named in the texts imported below are given by hand.
namespace Go.Proofs.YtjpihfjgomoijaaDoor.P
open Go.RowKit Go.Proofs.YtjpihfjgomoijaaDoor.K Go.Proofs.YtjpihfjgomoijaaDoorW.PrintWords Go.Proofs.YtjpihfjgomoijaaDoorW.PrintLast Go.Proofs.YtjpihfjgomoijaaDoorW.PrintMore
attribute [local go_sem] max2_int min2_int max_two min_two max_three min_three max_four min_four   -- for this text's walks alone
/-! ### r11_Is: function 14 -/
mutual
def r11_Is.j0 : Nat → Bool → Int → Int → List (S54) → Option (Bool)
  | 0, _, _, _, _ => none
  | k + 1, x31, x231000, x231001, x231002 => if x31 = true then (some false) else (r11_Is.l0 k x231001 0 x231000 x231001 x231002)
def r11_Is.l0 : Nat → Int → Int → Int → Int → List (S54) → Option (Bool)
  | 0, _, _, _, _, _ => none
  | k + 1, x3, x4, x231000, x231001, x231002 => if x4 < (x231002.length : Int) then (if 0 ≤ x4 then (if ((rd_T54 x231002 x4).f0) < x3 then (some false) else (if ((rd_T54 x231002 x4).f0) > 1099511627776 then (some false) else (r11_Is.l0 k ((rd_T54 x231002 x4).f0) (wrap64 (x4 + 1)) x231000 x231001 x231002))) else (none)) else (some true)
end
def r11_Is.f (k : Nat) (a0_0 : Int) (a0_1 : Int) (l0_2 : List (S54)) : Option (Bool) := if a0_0 < 0 then (r11_Is.j0 k true a0_0 a0_1 l0_2) else (if a0_0 > 1099511627776 then (r11_Is.j0 k true a0_0 a0_1 l0_2) else (if a0_1 < 0 then (r11_Is.j0 k true a0_0 a0_1 l0_2) else (if a0_1 > 1099511627776 then (r11_Is.j0 k true a0_0 a0_1 l0_2) else (r11_Is.j0 k (decide ((l0_2.length : Int) > (wrap64 (1099511627776 - a0_0)))) a0_0 a0_1 l0_2))))
theorem r11_Is.mono_l : ∀ k, (∀ y0 y1 y2 y3, LeO (r11_Is.j0 k y0 y1 y2 y3) (r11_Is.j0 (k + 1) y0 y1 y2 y3)) ∧ (∀ y0 y1 y2 y3 y4, LeO (r11_Is.l0 k y0 y1 y2 y3 y4) (r11_Is.l0 (k + 1) y0 y1 y2 y3 y4))
  | 0 => ⟨fun _ _ _ _ r h => by simp [r11_Is.j0] at h, fun _ _ _ _ _ r h => by simp [r11_Is.l0] at h⟩
  | k + 1 => by
    obtain ⟨ih0, ih1⟩ := r11_Is.mono_l k
    refine ⟨?_, ?_⟩
    · intro y0 y1 y2 y3
      unfold r11_Is.j0
      repeat' first
      | (with_reducible exact ih0 _ _ _ _)
      | (with_reducible exact ih1 _ _ _ _ _)
      | (with_reducible exact LeO.refl _)
      | (with_reducible exact LeO.none _)
      | (with_reducible refine LeO.ite ?_ ?_)
      | (with_reducible refine LeO.bind ?_ (fun _ => ?_))
      | exact ih0 _ _ _ _
      | exact ih1 _ _ _ _ _
      | exact LeO.none _
      | refine LeO.ite ?_ ?_
      | refine LeO.bind ?_ (fun _ => ?_)
    · intro y0 y1 y2 y3 y4
      unfold r11_Is.l0
      repeat' first
      | (with_reducible exact ih0 _ _ _ _)
      | (with_reducible exact ih1 _ _ _ _ _)
      | (with_reducible exact LeO.refl _)
      | (with_reducible exact LeO.none _)
      | (with_reducible refine LeO.ite ?_ ?_)
      | (with_reducible refine LeO.bind ?_ (fun _ => ?_))
      | exact ih0 _ _ _ _
      | exact ih1 _ _ _ _ _
      | exact LeO.none _
      | refine LeO.ite ?_ ?_
      | refine LeO.bind ?_ (fun _ => ?_)
theorem r11_Is.mono : ∀ a0 a1 a2 k, LeO (r11_Is.f k a0 a1 a2) (r11_Is.f (k + 1) a0 a1 a2) := by
  intro a0 a1 a2 k
  obtain ⟨ih0, ih1⟩ := r11_Is.mono_l k
  unfold r11_Is.f
  repeat' first
      | (with_reducible exact ih0 _ _ _ _)
      | (with_reducible exact ih1 _ _ _ _ _)
      | (with_reducible exact LeO.refl _)
      | (with_reducible exact LeO.none _)
      | (with_reducible refine LeO.ite ?_ ?_)
      | (with_reducible refine LeO.bind ?_ (fun _ => ?_))
      | exact ih0 _ _ _ _
      | exact ih1 _ _ _ _ _
      | exact LeO.none _
      | refine LeO.ite ?_ ?_
      | refine LeO.bind ?_ (fun _ => ?_)
set_option maxHeartbeats 8000000 in
set_option maxRecDepth 100000 in
theorem r11_Is.calls (k : Nat) (a0_0 : Int) (a0_1 : Int) (A0_2 : Option Addr) (c0_2 : Nat) (l0_2 : List (S54)) (r : Bool) (w : World) (hG : TheG w) (hr0_2 : Kd.C k54 w A0_2 l0_2.length l0_2) (hc0_2 : l0_2.length ≤ c0_2) (h : r11_Is.f k a0_0 a0_1 l0_2 = some r) :
    Calls Tryd.prog 14 #[.agg #[.int .i64 a0_0, .int .i64 a0_1, .slice A0_2 l0_2.length c0_2]] w fun e w' => e = .returned (.bool r) ∧ Below w.heap.size w w' := by
  have hu24 := Tryd.underlying24
  have HR0_2 := Az.mk hr0_2
  have HC0_2 := Az.mk hc0_2
  clear hr0_2 hc0_2
  have HB := Az.mk (Below.refl w.heap.size w)
  have H : (if a0_0 < 0 then (r11_Is.j0 k true a0_0 a0_1 l0_2) else (if a0_0 > 1099511627776 then (r11_Is.j0 k true a0_0 a0_1 l0_2) else (if a0_1 < 0 then (r11_Is.j0 k true a0_0 a0_1 l0_2) else (if a0_1 > 1099511627776 then (r11_Is.j0 k true a0_0 a0_1 l0_2) else (r11_Is.j0 k (decide ((l0_2.length : Int) > (wrap64 (1099511627776 - a0_0)))) a0_0 a0_1 l0_2))))) = some r := h
  clear h
  have HC2 := Az.mk H
  clear H
  go_enter Tryd.func14, Tryd.ntmps14
  go_upto_region 1 with (first | ((with_reducible refine gate_dst (N := 1) rfl ?_); (try (refine gate_guard (by rfl) ?_; dsimp only)); refine box_event ?hg (N := 1) ?hd (cs := #[.int .i64 a0_0, .int .i64 a0_1, .slice A0_2 l0_2.length c0_2]) (t := 24) ?hr ?_; (case hd => rfl); (case hg => rfl); (case hr => first | (go_simp; done) | (go_simp; rfl)); intro gb230 hg w3 hbox hb; have n0_ := Az.mk (pbT (by repeat (first | (with_reducible first | exact HB.out | apply pbA | apply pbN | apply pb1) | exact HB.out)) hb); have n1_ := Az.mk (hbox); have n2_ := Az.mk ((by rw [hg]; exact (pbZ (by repeat (first | (with_reducible first | exact HB.out | apply pbA | apply pbN | apply pb1) | exact HB.out))) : w.heap.size ≤ gb230)); have n3_ := Az.mk ((by rw [hg]; exact (pbZ (by repeat (first | (with_reducible first | exact HB.out | apply pbA | apply pbN | apply pb1) | exact HB.out))) : w.heap.size ≤ gb230)); clear HB; have HB := n0_; have BK230 := n1_; have GW230 := n2_; have GE230 := n3_; clear n0_ n1_ n2_ n3_; clear hb hbox hg))
  (try simp only [Act.put, List.setIfInBounds_toArray, List.set_cons_zero, List.set_cons_succ])
  go_cut [31] (fun v31 wc => ∃ (kq : Nat) (x31_1 : Bool), v31 = .bool x31_1 ∧ Az (r11_Is.j0 kq x31_1 a0_0 a0_1 l0_2 = some r) ∧ Az (kq ≤ k) ∧ Az (wc.heap[gb230]? = some (.cells #[.int .i64 a0_0, .int .i64 a0_1, (.slice A0_2 l0_2.length c0_2)] 24 (0, 0))) ∧ Az (Below w.heap.size w wc))
  case first =>
    have H := HC2.out
    clear HC2
    by_cases c4 : a0_0 < 0
    · rw [if_pos c4] at H
      have c4b0 : decide (a0_0 < 0) = true := decide_eq_true c4
      clear c4
      (first | rw [c4b0] | (simp only [i64_w, i32_w]; rw [c4b0]) | skip)
      have H' := Az.mk H
      clear H
      have hcz5_0 : w3.cell? ⟨gb230, 0, none⟩ = some (.int .i64 a0_0) := (bkC BK230.out 0).trans rfl
      have hcz5_1 : w3.cell? ⟨gb230, 1, none⟩ = some (.int .i64 a0_1) := (bkC BK230.out 1).trans rfl
      have hcz5_2 : w3.cell? ⟨gb230, 2, none⟩ = some (.slice A0_2 l0_2.length c0_2) := (bkC BK230.out 2).trans rfl
      have hfz5_0 := bkF BK230.out 0
      have hfz5_1 := bkF BK230.out 1
      have hfz5_2 := bkF BK230.out 2
      go_wp2
      go_meet
      case rel => exact ⟨_, (true), (by first | rfl | (simp; done) | (simp [*]; done)), H', ⟨by first | omega | exact Nat.le_refl _⟩, ⟨by (with_reducible repeat (first | refine bkN ?_ _ | refine bkD ?_ | refine bkA ?_ _)); exact BK230.out⟩, ⟨by repeat (first | (with_reducible first | exact HB.out | apply pbA | apply pbN | apply pb1 | refine pbS ?_ GE230.out) | exact HB.out)⟩⟩
    · rw [if_neg c4] at H
      have c4b0 : decide (a0_0 < 0) = false := decide_eq_false c4
      clear c4
      (first | rw [c4b0] | (simp only [i64_w, i32_w]; rw [c4b0]) | skip)
      by_cases c6 : a0_0 > 1099511627776
      · rw [if_pos c6] at H
        have c6b0 : decide (1099511627776 < a0_0) = true := decide_eq_true c6
        clear c6
        have H' := Az.mk H
        clear H
        have hcz7_0 : w3.cell? ⟨gb230, 0, none⟩ = some (.int .i64 a0_0) := (bkC BK230.out 0).trans rfl
        have hcz7_1 : w3.cell? ⟨gb230, 1, none⟩ = some (.int .i64 a0_1) := (bkC BK230.out 1).trans rfl
        have hcz7_2 : w3.cell? ⟨gb230, 2, none⟩ = some (.slice A0_2 l0_2.length c0_2) := (bkC BK230.out 2).trans rfl
        have hfz7_0 := bkF BK230.out 0
        have hfz7_1 := bkF BK230.out 1
        have hfz7_2 := bkF BK230.out 2
        go_wp2
        go_meet
        case rel => exact ⟨_, (true), (by first | rfl | (simp; done) | (simp [*]; done)), H', ⟨by first | omega | exact Nat.le_refl _⟩, ⟨by (with_reducible repeat (first | refine bkN ?_ _ | refine bkD ?_ | refine bkA ?_ _)); exact BK230.out⟩, ⟨by repeat (first | (with_reducible first | exact HB.out | apply pbA | apply pbN | apply pb1 | refine pbS ?_ GE230.out) | exact HB.out)⟩⟩
      · rw [if_neg c6] at H
        have c6b0 : decide (1099511627776 < a0_0) = false := decide_eq_false c6
        clear c6
        by_cases c8 : a0_1 < 0
        · rw [if_pos c8] at H
          have c8b0 : decide (a0_1 < 0) = true := decide_eq_true c8
          clear c8
          have H' := Az.mk H
          clear H
          have hcz9_0 : w3.cell? ⟨gb230, 0, none⟩ = some (.int .i64 a0_0) := (bkC BK230.out 0).trans rfl
          have hcz9_1 : w3.cell? ⟨gb230, 1, none⟩ = some (.int .i64 a0_1) := (bkC BK230.out 1).trans rfl
          have hcz9_2 : w3.cell? ⟨gb230, 2, none⟩ = some (.slice A0_2 l0_2.length c0_2) := (bkC BK230.out 2).trans rfl
          have hfz9_0 := bkF BK230.out 0
          have hfz9_1 := bkF BK230.out 1
          have hfz9_2 := bkF BK230.out 2
          go_wp2
          go_meet
          case rel => exact ⟨_, (true), (by first | rfl | (simp; done) | (simp [*]; done)), H', ⟨by first | omega | exact Nat.le_refl _⟩, ⟨by (with_reducible repeat (first | refine bkN ?_ _ | refine bkD ?_ | refine bkA ?_ _)); exact BK230.out⟩, ⟨by repeat (first | (with_reducible first | exact HB.out | apply pbA | apply pbN | apply pb1 | refine pbS ?_ GE230.out) | exact HB.out)⟩⟩
        · rw [if_neg c8] at H
          have c8b0 : decide (a0_1 < 0) = false := decide_eq_false c8
          clear c8
          by_cases c10 : a0_1 > 1099511627776
          · rw [if_pos c10] at H
            have c10b0 : decide (1099511627776 < a0_1) = true := decide_eq_true c10
            clear c10
            have H' := Az.mk H
            clear H
            have hcz11_0 : w3.cell? ⟨gb230, 0, none⟩ = some (.int .i64 a0_0) := (bkC BK230.out 0).trans rfl
            have hcz11_1 : w3.cell? ⟨gb230, 1, none⟩ = some (.int .i64 a0_1) := (bkC BK230.out 1).trans rfl
            have hcz11_2 : w3.cell? ⟨gb230, 2, none⟩ = some (.slice A0_2 l0_2.length c0_2) := (bkC BK230.out 2).trans rfl
            have hfz11_0 := bkF BK230.out 0
            have hfz11_1 := bkF BK230.out 1
            have hfz11_2 := bkF BK230.out 2
            go_wp2
            go_meet
            case rel => exact ⟨_, (true), (by first | rfl | (simp; done) | (simp [*]; done)), H', ⟨by first | omega | exact Nat.le_refl _⟩, ⟨by (with_reducible repeat (first | refine bkN ?_ _ | refine bkD ?_ | refine bkA ?_ _)); exact BK230.out⟩, ⟨by repeat (first | (with_reducible first | exact HB.out | apply pbA | apply pbN | apply pb1 | refine pbS ?_ GE230.out) | exact HB.out)⟩⟩
          · rw [if_neg c10] at H
            have c10b0 : decide (1099511627776 < a0_1) = false := decide_eq_false c10
            clear c10
            have H' := Az.mk H
            clear H
            have hcz12_0 : w3.cell? ⟨gb230, 0, none⟩ = some (.int .i64 a0_0) := (bkC BK230.out 0).trans rfl
            have hcz12_1 : w3.cell? ⟨gb230, 1, none⟩ = some (.int .i64 a0_1) := (bkC BK230.out 1).trans rfl
            have hcz12_2 : w3.cell? ⟨gb230, 2, none⟩ = some (.slice A0_2 l0_2.length c0_2) := (bkC BK230.out 2).trans rfl
            have hfz12_0 := bkF BK230.out 0
            have hfz12_1 := bkF BK230.out 1
            have hfz12_2 := bkF BK230.out 2
            go_wp2
            go_meet
            case rel => exact ⟨_, (decide ((l0_2.length : Int) > (wrap64 (1099511627776 - a0_0)))), (by first | rfl | (simp; done) | (simp [*]; done)), H', ⟨by first | omega | exact Nat.le_refl _⟩, ⟨by (with_reducible repeat (first | refine bkN ?_ _ | refine bkD ?_ | refine bkA ?_ _)); exact BK230.out⟩, ⟨by repeat (first | (with_reducible first | exact HB.out | apply pbA | apply pbN | apply pb1 | refine pbS ?_ GE230.out) | exact HB.out)⟩⟩
  case rest =>
    clear HC2
    try clear c1
    try clear p2
    try clear c4
    try clear c4b0
    try clear c6
    try clear c6b0
    try clear p6
    try clear c8
    try clear c8b0
    try clear c10
    try clear c10b0
    try clear hcz11_0
    try clear hcz11_1
    try clear hcz11_2
    try clear hcz12_0
    try clear hcz12_1
    try clear hcz12_2
    try clear hcz5_0
    try clear hcz5_1
    try clear hcz5_2
    try clear hcz7_0
    try clear hcz7_1
    try clear hcz7_2
    try clear hcz9_0
    try clear hcz9_1
    try clear hcz9_2
    try clear hfz11_0
    try clear hfz11_1
    try clear hfz11_2
    try clear hfz12_0
    try clear hfz12_1
    try clear hfz12_2
    try clear hfz5_0
    try clear hfz5_1
    try clear hfz5_2
    try clear hfz7_0
    try clear hfz7_1
    try clear hfz7_2
    try clear hfz9_0
    try clear hfz9_1
    try clear hfz9_2
    obtain ⟨kq, x31_1, rfl, HA, HJ1, BK230, HB⟩ := hcut
    cases kq with
    | zero => exact absurd HA.out (by simp [r11_Is.j0])
    | succ kj1 =>
      have H := HA.out
      clear HA
      simp only [r11_Is.j0] at H
      by_cases c13 : x31_1 = true
      · subst c13
        have H1 : (some false) = some r := by rw [if_pos rfl] at H; exact H
        clear H
        have H := H1
        clear H1
        obtain rfl := Option.some.inj H
        go_wp2
        go_ret
        exact ⟨by first | rfl | (simp [errW_none, errW_some] <;> rfl) | (simp [*, errW_none, errW_some] <;> rfl), by repeat (first | (with_reducible first | exact HB.out | apply pbA | apply pbN | apply pb1 | refine pbS ?_ GE230.out) | exact HB.out)⟩
      · replace c13 := Bool.eq_false_iff.mpr c13
        subst c13
        have H1 : (r11_Is.l0 kj1 a0_1 0 a0_0 a0_1 l0_2) = some r := by rw [if_neg (show ¬ (false = true) by decide)] at H; exact H
        clear H
        have H := H1
        clear H1
        have H' := Az.mk H
        clear H
        have hcz14_0 : wc.cell? ⟨gb230, 0, none⟩ = some (.int .i64 a0_0) := (bkC BK230.out 0).trans rfl
        have hcz14_1 : wc.cell? ⟨gb230, 1, none⟩ = some (.int .i64 a0_1) := (bkC BK230.out 1).trans rfl
        have hcz14_2 : wc.cell? ⟨gb230, 2, none⟩ = some (.slice A0_2 l0_2.length c0_2) := (bkC BK230.out 2).trans rfl
        have hfz14_0 := bkF BK230.out 0
        have hfz14_1 := bkF BK230.out 1
        have hfz14_2 := bkF BK230.out 2
        go_wp2
        go_loopg [3, 4] kj1 (fun kq v3 v4 w' => ∃ (x3_2 : Int) (x4_2 : Int), v3 = .int .i64 x3_2 ∧ v4 = .int .i64 x4_2 ∧ Az (r11_Is.l0 kq x3_2 x4_2 a0_0 a0_1 l0_2 = some r) ∧ Az (kq ≤ kj1) ∧ Az (w'.heap[gb230]? = some (.cells #[.int .i64 a0_0, .int .i64 a0_1, (.slice A0_2 l0_2.length c0_2)] 24 (0, 0))) ∧ Az (Below w.heap.size w w'))
        case atStart => exact ⟨(a0_1), (0), (by first | rfl | (simp; done) | (simp [*]; done)), (by first | rfl | (simp; done) | (simp [*]; done)), H', ⟨Nat.le_refl _⟩, ⟨by (with_reducible repeat (first | refine bkN ?_ _ | refine bkD ?_ | refine bkA ?_ _)); exact BK230.out⟩, ⟨by repeat (first | (with_reducible first | exact HB.out | apply pbA | apply pbN | apply pb1 | refine pbS ?_ GE230.out) | exact HB.out)⟩⟩
        case round =>
          clear H'
          try clear c1
          try clear p2
          try clear c4
          try clear c4b0
          try clear c6
          try clear c6b0
          try clear p6
          try clear c8
          try clear c8b0
          try clear c10
          try clear c10b0
          try clear c13
          try clear c14
          try clear hcz11_0
          try clear hcz11_1
          try clear hcz11_2
          try clear hcz12_0
          try clear hcz12_1
          try clear hcz12_2
          try clear hcz14_0
          try clear hcz14_1
          try clear hcz14_2
          try clear hcz5_0
          try clear hcz5_1
          try clear hcz5_2
          try clear hcz7_0
          try clear hcz7_1
          try clear hcz7_2
          try clear hcz9_0
          try clear hcz9_1
          try clear hcz9_2
          try clear hfz11_0
          try clear hfz11_1
          try clear hfz11_2
          try clear hfz12_0
          try clear hfz12_1
          try clear hfz12_2
          try clear hfz14_0
          try clear hfz14_1
          try clear hfz14_2
          try clear hfz5_0
          try clear hfz5_1
          try clear hfz5_2
          try clear hfz7_0
          try clear hfz7_1
          try clear hfz7_2
          try clear hfz9_0
          try clear hfz9_1
          try clear hfz9_2
          try clear p2
          try clear p6
          obtain ⟨x3_2, x4_2, rfl, rfl, HA, HK2, BK230, HB⟩ := hrel
          cases gk with
          | zero => exact absurd HA.out (by simp [r11_Is.l0])
          | succ k2 =>
            have H := HA.out
            clear HA
            simp only [r11_Is.l0] at H
            by_cases c15 : x4_2 < (l0_2.length : Int)
            · rw [if_pos c15] at H
              have c15b0 : decide (x4_2 < (l0_2.length : Int)) = true := decide_eq_true c15
              clear c15
              by_cases c16 : 0 ≤ x4_2
              · rw [if_pos c16] at H
                have c16b0 : decide (0 ≤ x4_2) = true := decide_eq_true c16
                clear c16
                by_cases c17 : ((rd_T54 l0_2 x4_2).f0) < x3_2
                · rw [if_pos c17] at H
                  have c17b0 : decide (((rd_T54 l0_2 x4_2).f0) < x3_2) = true := decide_eq_true c17
                  clear c17
                  obtain rfl := Option.some.inj H
                  have hcz18_0 : wr.cell? ⟨gb230, 0, none⟩ = some (.int .i64 a0_0) := (bkC BK230.out 0).trans rfl
                  have hcz18_1 : wr.cell? ⟨gb230, 1, none⟩ = some (.int .i64 a0_1) := (bkC BK230.out 1).trans rfl
                  have hcz18_2 : wr.cell? ⟨gb230, 2, none⟩ = some (.slice A0_2 l0_2.length c0_2) := (bkC BK230.out 2).trans rfl
                  have hfz18_0 := bkF BK230.out 0
                  have hfz18_1 := bkF BK230.out 1
                  have hfz18_2 := bkF BK230.out 2
                  have p231 : 0 ≤ (x4_2 : Int) := of_decide_eq_true (by first | (with_reducible assumption) | assumption)
                  have q231 : x4_2 < (l0_2.length : Int) := of_decide_eq_true (by first | (with_reducible assumption) | assumption)
                  obtain ⟨ad231, e231, hx231_0, hx231_1⟩ := at_T54 HR0_2.out x4_2 p231 q231
                  cases e231
                  replace hx231_0 := (HB.out.cell (World.block_lt_of_cell? w _ hx231_0)).trans hx231_0
                  replace hx231_1 := (HB.out.cell (World.block_lt_of_cell? w _ hx231_1)).trans hx231_1
                  replace p231 := eq_true p231
                  replace q231 := eq_true q231
                  go_wp2
                  go_ret
                  exact ⟨by first | rfl | (simp [errW_none, errW_some] <;> rfl) | (simp [*, errW_none, errW_some] <;> rfl), by repeat (first | (with_reducible first | exact HB.out | apply pbA | apply pbN | apply pb1 | refine pbS ?_ GE230.out) | exact HB.out)⟩
                · rw [if_neg c17] at H
                  have c17b0 : decide (((rd_T54 l0_2 x4_2).f0) < x3_2) = false := decide_eq_false c17
                  clear c17
                  by_cases c19 : ((rd_T54 l0_2 x4_2).f0) > 1099511627776
                  · rw [if_pos c19] at H
                    have c19b0 : decide (1099511627776 < ((rd_T54 l0_2 x4_2).f0)) = true := decide_eq_true c19
                    clear c19
                    obtain rfl := Option.some.inj H
                    have hcz20_0 : wr.cell? ⟨gb230, 0, none⟩ = some (.int .i64 a0_0) := (bkC BK230.out 0).trans rfl
                    have hcz20_1 : wr.cell? ⟨gb230, 1, none⟩ = some (.int .i64 a0_1) := (bkC BK230.out 1).trans rfl
                    have hcz20_2 : wr.cell? ⟨gb230, 2, none⟩ = some (.slice A0_2 l0_2.length c0_2) := (bkC BK230.out 2).trans rfl
                    have hfz20_0 := bkF BK230.out 0
                    have hfz20_1 := bkF BK230.out 1
                    have hfz20_2 := bkF BK230.out 2
                    have p231 : 0 ≤ (x4_2 : Int) := of_decide_eq_true (by first | (with_reducible assumption) | assumption)
                    have q231 : x4_2 < (l0_2.length : Int) := of_decide_eq_true (by first | (with_reducible assumption) | assumption)
                    obtain ⟨ad231, e231, hx231_0, hx231_1⟩ := at_T54 HR0_2.out x4_2 p231 q231
                    cases e231
                    replace hx231_0 := (HB.out.cell (World.block_lt_of_cell? w _ hx231_0)).trans hx231_0
                    replace hx231_1 := (HB.out.cell (World.block_lt_of_cell? w _ hx231_1)).trans hx231_1
                    replace p231 := eq_true p231
                    replace q231 := eq_true q231
                    have p232 : 0 ≤ (x4_2 : Int) := of_decide_eq_true (by first | (with_reducible assumption) | assumption)
                    have q232 : x4_2 < (l0_2.length : Int) := of_decide_eq_true (by first | (with_reducible assumption) | assumption)
                    obtain ⟨ad232, e232, hx232_0, hx232_1⟩ := at_T54 HR0_2.out x4_2 p232 q232
                    obtain rfl : ad231 = ad232 := (by injection e232)
                    replace hx232_0 := (HB.out.cell (World.block_lt_of_cell? w _ hx232_0)).trans hx232_0
                    replace hx232_1 := (HB.out.cell (World.block_lt_of_cell? w _ hx232_1)).trans hx232_1
                    replace p232 := eq_true p232
                    replace q232 := eq_true q232
                    go_wp2
                    go_ret
                    exact ⟨by first | rfl | (simp [errW_none, errW_some] <;> rfl) | (simp [*, errW_none, errW_some] <;> rfl), by repeat (first | (with_reducible first | exact HB.out | apply pbA | apply pbN | apply pb1 | refine pbS ?_ GE230.out) | exact HB.out)⟩
                  · rw [if_neg c19] at H
                    have c19b0 : decide (1099511627776 < ((rd_T54 l0_2 x4_2).f0)) = false := decide_eq_false c19
                    clear c19
                    have H' := Az.mk H
                    clear H
                    have hcz21_0 : wr.cell? ⟨gb230, 0, none⟩ = some (.int .i64 a0_0) := (bkC BK230.out 0).trans rfl
                    have hcz21_1 : wr.cell? ⟨gb230, 1, none⟩ = some (.int .i64 a0_1) := (bkC BK230.out 1).trans rfl
                    have hcz21_2 : wr.cell? ⟨gb230, 2, none⟩ = some (.slice A0_2 l0_2.length c0_2) := (bkC BK230.out 2).trans rfl
                    have hfz21_0 := bkF BK230.out 0
                    have hfz21_1 := bkF BK230.out 1
                    have hfz21_2 := bkF BK230.out 2
                    have p231 : 0 ≤ (x4_2 : Int) := of_decide_eq_true (by first | (with_reducible assumption) | assumption)
                    have q231 : x4_2 < (l0_2.length : Int) := of_decide_eq_true (by first | (with_reducible assumption) | assumption)
                    obtain ⟨ad231, e231, hx231_0, hx231_1⟩ := at_T54 HR0_2.out x4_2 p231 q231
                    cases e231
                    replace hx231_0 := (HB.out.cell (World.block_lt_of_cell? w _ hx231_0)).trans hx231_0
                    replace hx231_1 := (HB.out.cell (World.block_lt_of_cell? w _ hx231_1)).trans hx231_1
                    replace p231 := eq_true p231
                    replace q231 := eq_true q231
                    have p232 : 0 ≤ (x4_2 : Int) := of_decide_eq_true (by first | (with_reducible assumption) | assumption)
                    have q232 : x4_2 < (l0_2.length : Int) := of_decide_eq_true (by first | (with_reducible assumption) | assumption)
                    obtain ⟨ad232, e232, hx232_0, hx232_1⟩ := at_T54 HR0_2.out x4_2 p232 q232
                    obtain rfl : ad231 = ad232 := (by injection e232)
                    replace hx232_0 := (HB.out.cell (World.block_lt_of_cell? w _ hx232_0)).trans hx232_0
                    replace hx232_1 := (HB.out.cell (World.block_lt_of_cell? w _ hx232_1)).trans hx232_1
                    replace p232 := eq_true p232
                    replace q232 := eq_true q232
                    have p233 : 0 ≤ (x4_2 : Int) := of_decide_eq_true (by first | (with_reducible assumption) | assumption)
                    have q233 : x4_2 < (l0_2.length : Int) := of_decide_eq_true (by first | (with_reducible assumption) | assumption)
                    obtain ⟨ad233, e233, hx233_0, hx233_1⟩ := at_T54 HR0_2.out x4_2 p233 q233
                    obtain rfl : ad231 = ad233 := (by injection e233)
                    replace hx233_0 := (HB.out.cell (World.block_lt_of_cell? w _ hx233_0)).trans hx233_0
                    replace hx233_1 := (HB.out.cell (World.block_lt_of_cell? w _ hx233_1)).trans hx233_1
                    replace p233 := eq_true p233
                    replace q233 := eq_true q233
                    go_wp2
                    go_roundg k2
                    case measure => have := HJ1.out; have := HK2.out; omega
                    case rel => exact ⟨((rd_T54 l0_2 x4_2).f0), (wrap64 (x4_2 + 1)), (by first | rfl | (simp; done) | (simp [*]; done)), (by first | rfl | (simp; done) | (simp [*]; done)), H', ⟨by have := HJ1.out; have := HK2.out; omega⟩, ⟨by (with_reducible repeat (first | refine bkN ?_ _ | refine bkD ?_ | refine bkA ?_ _)); exact BK230.out⟩, ⟨by repeat (first | (with_reducible first | exact HB.out | apply pbA | apply pbN | apply pb1 | refine pbS ?_ GE230.out) | exact HB.out)⟩⟩
              · rw [if_neg c16] at H
                exact absurd H (by simp)
            · rw [if_neg c15] at H
              have c15b0 : decide (x4_2 < (l0_2.length : Int)) = false := decide_eq_false c15
              clear c15
              obtain rfl := Option.some.inj H
              have hcz22_0 : wr.cell? ⟨gb230, 0, none⟩ = some (.int .i64 a0_0) := (bkC BK230.out 0).trans rfl
              have hcz22_1 : wr.cell? ⟨gb230, 1, none⟩ = some (.int .i64 a0_1) := (bkC BK230.out 1).trans rfl
              have hcz22_2 : wr.cell? ⟨gb230, 2, none⟩ = some (.slice A0_2 l0_2.length c0_2) := (bkC BK230.out 2).trans rfl
              have hfz22_0 := bkF BK230.out 0
              have hfz22_1 := bkF BK230.out 1
              have hfz22_2 := bkF BK230.out 2
              go_wp2
              go_ret
              exact ⟨by first | rfl | (simp [errW_none, errW_some] <;> rfl) | (simp [*, errW_none, errW_some] <;> rfl), by repeat (first | (with_reducible first | exact HB.out | apply pbA | apply pbN | apply pb1 | refine pbS ?_ GE230.out) | exact HB.out)⟩
end Go.Proofs.YtjpihfjgomoijaaDoor.P
end
section
-- Written by a program of this session (wip/tools/pr.py), over the kit's printer; functions named in the texts imported below are given by hand.
namespace Go.Proofs.YtjpihfjgomoijaaDoor.P
open Go.RowKit Go.Proofs.YtjpihfjgomoijaaDoor.K Go.Proofs.YtjpihfjgomoijaaDoorW.PrintWords Go.Proofs.YtjpihfjgomoijaaDoorW.PrintLast Go.Proofs.YtjpihfjgomoijaaDoorW.PrintMore
attribute [local go_sem] max2_int min2_int max_two min_two max_three min_three max_four min_four   -- for this text's walks alone
/-! ### roll_Put: function 15 -/
def roll_Put.l0 : Nat → List ByteArray → List (S54) → Int → Int → Option (ByteArray)
  | 0, _, _, _, _ => none
  | k + 1, x3, x14, x15, x16 => if x16 < x15 then (if 0 ≤ x16 then (if x16 < (x14.length : Int) then ((knot_Num.f ((rd_T54 x14 x16).f0)).bind fun t144 => ((some (([t144, (rd_T54 x14 x16).f1] : List ByteArray) : List ByteArray)).bind fun y145 => (if x3.length + y145.length < 8796093022208 then (roll_Put.l0 k (x3 ++ y145) x14 x15 (wrap64 (x16 + 1))) else (none)))) else (none)) else (none)) else ((knot_Tie.f x3).bind fun t151 => (some t151))
def roll_Put.f (k : Nat) (a0_0 : Int) (a0_1 : Int) (l0_2 : List (S54)) : Option (ByteArray) := (knot_Num.f a0_0).bind fun t137 => ((knot_Num.f a0_1).bind fun t138 => (roll_Put.l0 k (([t137, t138] : List ByteArray)) l0_2 (l0_2.length : Int) 0))
theorem roll_Put.mono_l : ∀ k, (∀ y0 y1 y2 y3, LeO (roll_Put.l0 k y0 y1 y2 y3) (roll_Put.l0 (k + 1) y0 y1 y2 y3))
  | 0 => fun _ _ _ _ r h => by simp [roll_Put.l0] at h
  | k + 1 => by
    have ih0 := roll_Put.mono_l k
    · intro y0 y1 y2 y3
      unfold roll_Put.l0
      repeat' first
      | (with_reducible exact ih0 _ _ _ _)
      | (with_reducible exact LeO.refl _)
      | (with_reducible exact LeO.none _)
      | (with_reducible refine LeO.ite ?_ ?_)
      | (with_reducible refine LeO.bind ?_ (fun _ => ?_))
      | exact ih0 _ _ _ _
      | exact LeO.none _
      | refine LeO.ite ?_ ?_
      | refine LeO.bind ?_ (fun _ => ?_)
theorem roll_Put.mono : ∀ a0 a1 a2 k, LeO (roll_Put.f k a0 a1 a2) (roll_Put.f (k + 1) a0 a1 a2) := by
  intro a0 a1 a2 k
  have ih0 := roll_Put.mono_l k
  unfold roll_Put.f
  repeat' first
      | (with_reducible exact ih0 _ _ _ _)
      | (with_reducible exact LeO.refl _)
      | (with_reducible exact LeO.none _)
      | (with_reducible refine LeO.ite ?_ ?_)
      | (with_reducible refine LeO.bind ?_ (fun _ => ?_))
      | exact ih0 _ _ _ _
      | exact LeO.none _
      | refine LeO.ite ?_ ?_
      | refine LeO.bind ?_ (fun _ => ?_)
def roll_Put.T1 : Bool × List (List Nat × List Nat) := (true, [([], []), ([0], [0]), ([1], [1]), ([], []), ([3], [3]), ([4, 2], [4]), ([2, 5], [2, 5]), ([6, 5, 0, 1, 2, 3, 4, 5, 6], [6])])
def roll_Put.B1 : List Nat := [0, 1, 3, 0, 8, 31, 63, 127]
theorem roll_Put.tab1 : rtab .any (opsOf Tryd.f15 1) = roll_Put.T1 := by kernel_rfl
theorem roll_Put.bits1 : waitsOk roll_Put.T1.2 roll_Put.B1 = true := by kernel_rfl
def roll_Put.T5 : Bool × List (List Nat × List Nat) := (true, [([], []), ([], []), ([1], [1]), ([2], [2]), ([], []), ([4], [4]), ([3, 5], [3, 5]), ([0, 6, 3], [0, 6]), ([7, 7, 0, 1, 2, 3, 4, 5, 6, 7], [0, 7])])
def roll_Put.B5 : List Nat := [0, 0, 2, 6, 0, 16, 62, 127, 255]
theorem roll_Put.tab5 : rtab .any (opsOf Tryd.f15 5) = roll_Put.T5 := by kernel_rfl
theorem roll_Put.bits5 : waitsOk roll_Put.T5.2 roll_Put.B5 = true := by kernel_rfl
set_option maxHeartbeats 8000000 in
set_option maxRecDepth 100000 in
theorem roll_Put.calls (k : Nat) (a0_0 : Int) (a0_1 : Int) (A0_2 : Option Addr) (c0_2 : Nat) (l0_2 : List (S54)) (r : ByteArray) (w : World) (hG : TheG w) (hr0_2 : Kd.C k54 w A0_2 l0_2.length l0_2) (hc0_2 : l0_2.length ≤ c0_2) (h : roll_Put.f k a0_0 a0_1 l0_2 = some r) :
    Calls Tryd.prog 15 #[.agg #[.int .i64 a0_0, .int .i64 a0_1, .slice A0_2 l0_2.length c0_2]] w fun e w' => e = .returned (.string r) ∧ Below w.heap.size w w' := by
  have hu24 := Tryd.underlying24
  have hu54 := Tryd.underlying54
  have HR0_2 := Az.mk hr0_2
  have HC0_2 := Az.mk hc0_2
  clear hr0_2 hc0_2
  have HB := Az.mk (Below.refl w.heap.size w)
  have H : ((knot_Num.f a0_0).bind fun t137 => ((knot_Num.f a0_1).bind fun t138 => (roll_Put.l0 k (([t137, t138] : List ByteArray)) l0_2 (l0_2.length : Int) 0))) = some r := h
  clear h
  replace H := Option.bind_eq_some_iff.mp H
  obtain ⟨t137, A20, H⟩ := H
  replace H : ((knot_Num.f a0_1).bind fun t138 => (roll_Put.l0 k (([t137, t138] : List ByteArray)) l0_2 (l0_2.length : Int) 0)) = some r := H
  have A2 := Az.mk A20
  clear A20
  replace H := Option.bind_eq_some_iff.mp H
  obtain ⟨t138, A30, H⟩ := H
  replace H : (roll_Put.l0 k (([t137, t138] : List ByteArray)) l0_2 (l0_2.length : Int) 0) = some r := H
  have A3 := Az.mk A30
  clear A30
  obtain ⟨y139, hy139⟩ : ∃ y_ : List ByteArray, y_ = (([t137, t138] : List ByteArray)) := ⟨_, rfl⟩
  replace H : (roll_Put.l0 k y139 l0_2 (l0_2.length : Int) 0) = some r := by first | (rw [hy139]; with_reducible exact H) | (have H2_ := (Option.bind_some _ _).symm.trans H; rw [hy139]; with_reducible exact H2_) | (have H2_ := (Option.bind_some _ _).symm.trans H; with_reducible exact H2_) | with_reducible exact H | (rw [hy139]; exact H) | exact H
  have Ny139 := Az.mk hy139
  clear hy139
  have H' := Az.mk H
  clear H
  go_enter Tryd.func15, Tryd.ntmps15
  try go_wp2_with (first | ((with_reducible refine gate_dst (N := 1) rfl ?_); refine box_event ?hg (N := 1) ?hd (cs := #[.int .i64 a0_0, .int .i64 a0_1, .slice A0_2 l0_2.length c0_2]) (t := 24) ?hr ?_; (case hd => rfl); (case hg => rfl); (case hr => first | (go_simp; done) | (go_simp; rfl)); intro gb136 hg w4 hbox hb; have n0_ := Az.mk (pbT (by repeat (first | (with_reducible first | exact HB.out | apply pbA | apply pbN | apply pb1) | exact HB.out)) hb); have n1_ := Az.mk (hbox); have n2_ := Az.mk ((by rw [hg]; exact (pbZ (by repeat (first | (with_reducible first | exact HB.out | apply pbA | apply pbN | apply pb1) | exact HB.out))) : w.heap.size ≤ gb136)); have n3_ := Az.mk ((by rw [hg]; exact (pbZ (by repeat (first | (with_reducible first | exact HB.out | apply pbA | apply pbN | apply pb1) | exact HB.out))) : w.heap.size ≤ gb136)); clear HB; have HB := n0_; have BK136 := n1_; have GW136 := n2_; have GE136 := n3_; clear n0_ n1_ n2_ n3_; clear hb hbox hg))
  have n0_ := Az.mk (bkD BK136.out)
  have n1_ := Az.mk (pb1 HB.out)
  clear BK136
  clear HB
  have BK136 := n0_
  have HB := n1_
  clear n0_ n1_
  refine start_ (n := 8) (S := fun w' => w'.cell? ⟨gb136, 0, none⟩ = some (.int .i64 a0_0) ∧ w'.cell? ⟨gb136, 1, none⟩ = some (.int .i64 a0_1) ∧ w'.cell? ⟨gb136, 2, none⟩ = some (.slice A0_2 l0_2.length c0_2)) (ds := []) #[false, false, false, false, false, false, false, false] (by kernel_rfl) rfl rfl ⟨(bkC BK136.out 0).trans rfl, (bkC BK136.out 1).trans rfl, (bkC BK136.out 2).trans rfl⟩ (fun hHeld => ?_); refine with_tabW roll_Put.tab1 roll_Put.bits1 (fun HT_ HW_ => ?_)
  generalize w4.drew = w5 at BK136 HB hHeld ⊢
  refine pure_ (i := 0) (N := some 6) (v := ?_) (a' := ?_) #[true, false, false, false, false, false, false, false] rfl rfl (any_of HT_.out (by kernel_rfl)) (fun _ _ _ h => h) (Or.inl ⟨by rfl, ?_⟩) ?_ ?_
  rotate_left
  · intro w'
    go_simp
    with_reducible rfl
  rotate_left
  · simp only [Act.put, List.setIfInBounds_toArray, List.set_cons_zero, List.set_cons_succ, i64_w, i32_w]
    rfl
  refine pure_ (i := 3) (N := some 9) (v := ?_) (a' := ?_) #[true, false, false, true, false, false, false, false] rfl rfl (any_of HT_.out (by kernel_rfl)) (fun _ _ _ h => h) (Or.inl ⟨by rfl, ?_⟩) ?_ ?_
  rotate_left
  · intro w'
    go_simp
    with_reducible rfl
  rotate_left
  · simp only [Act.put, List.setIfInBounds_toArray, List.set_cons_zero, List.set_cons_succ, i64_w, i32_w]
    rfl
  refine take_ (i := 1) (N := some 7) (v := ?_) (a' := ?_) #[true, true, false, true, false, false, false, false] rfl rfl (take_ofW HT_.out HW_.out (by kernel_rfl)) (fun _ _ _ h => h) (Or.inl ⟨by rfl, ?_⟩) hHeld ?_ ?_
  rotate_left
  · rintro w' ⟨s0, s1, s2⟩
    go_simp
    with_reducible rfl
  rotate_left
  · simp only [Act.put, List.setIfInBounds_toArray, List.set_cons_zero, List.set_cons_succ, i64_w, i32_w]
    rfl
  refine take_ (i := 4) (N := some 10) (v := ?_) (a' := ?_) #[true, true, false, true, true, false, false, false] rfl rfl (take_ofW HT_.out HW_.out (by kernel_rfl)) (fun _ _ _ h => h) (Or.inl ⟨by rfl, ?_⟩) hHeld ?_ ?_
  rotate_left
  · rintro w' ⟨s0, s1, s2⟩
    go_simp
    with_reducible rfl
  rotate_left
  · simp only [Act.put, List.setIfInBounds_toArray, List.set_cons_zero, List.set_cons_succ, i64_w, i32_w]
    rfl
  refine one_ (i := 2) (N := some 8) #[true, true, true, true, true, false, false, false] rfl rfl (one_of HT_.out (by kernel_rfl)) (by decide) (fun K hK => ?_)
  refine goes_ Tryd.func40 (by kernel_rfl) rfl #[.int .i64 a0_0] (by rfl) rfl rfl (by (try simp only [List.map_toArray, List.map_cons, List.map_nil]); first | done | rfl | (simp only [List.length_drop, List.length_take]; rfl)) ?_
  with_reducible refine (knot_Num.calls a0_0 t137 _ ?side1 A2.out).mono ?_
  (case side1 => exact hG.below (by repeat (first | (with_reducible first | exact HB.out | apply pbA | apply pbN | apply pb1 | refine pbS ?_ GE136.out) | exact HB.out)))
  rintro e w6 ⟨rfl, hb⟩
  refine ⟨_, rfl, ?_⟩
  have n0_ := Az.mk (bkB (g := gb136) (o := .cells #[.int .i64 a0_0, .int .i64 a0_1, .slice A0_2 l0_2.length c0_2] 24 (0, 0)) (by (with_reducible repeat (first | refine bkN ?_ _ | refine bkD ?_ | refine bkA ?_ _)); exact BK136.out) hb)
  have n1_ := Az.mk (pbT (by repeat (first | (with_reducible first | exact HB.out | apply pbA | apply pbN | apply pb1 | refine pbS ?_ GE136.out) | exact HB.out)) hb)
  clear BK136
  clear HB
  have BK136 := n0_
  have HB := n1_
  clear n0_ n1_
  (try clear hb)
  (try clear hb2)
  (try clear hk)
  (try clear hi)
  refine hK.out _ _ ⟨(bkC BK136.out 0).trans rfl, (bkC BK136.out 1).trans rfl, (bkC BK136.out 2).trans rfl⟩ (fun hHeld => ?_)
  clear hK K
  refine norm_ (a' := ?_) ?_ ?_
  rotate_left
  · show Act.put _ (some 8) _ = _
    simp only [Act.put, List.setIfInBounds_toArray, List.set_cons_zero, List.set_cons_succ, i64_w, i32_w]
    rfl
  refine one_ (i := 5) (N := some 11) #[true, true, true, true, true, true, false, false] rfl rfl (one_of HT_.out (by kernel_rfl)) (by decide) (fun K hK => ?_)
  refine goes_ Tryd.func40 (by kernel_rfl) rfl #[.int .i64 a0_1] (by rfl) rfl rfl (by (try simp only [List.map_toArray, List.map_cons, List.map_nil]); first | done | rfl | (simp only [List.length_drop, List.length_take]; rfl)) ?_
  with_reducible refine (knot_Num.calls a0_1 t138 _ ?side1 A3.out).mono ?_
  (case side1 => exact hG.below (by repeat (first | (with_reducible first | exact HB.out | apply pbA | apply pbN | apply pb1 | refine pbS ?_ GE136.out) | exact HB.out)))
  rintro e w7 ⟨rfl, hb⟩
  refine ⟨_, rfl, ?_⟩
  have n0_ := Az.mk (bkB (g := gb136) (o := .cells #[.int .i64 a0_0, .int .i64 a0_1, .slice A0_2 l0_2.length c0_2] 24 (0, 0)) (by (with_reducible repeat (first | refine bkN ?_ _ | refine bkD ?_ | refine bkA ?_ _)); exact BK136.out) hb)
  have n1_ := Az.mk (pbT (by repeat (first | (with_reducible first | exact HB.out | apply pbA | apply pbN | apply pb1 | refine pbS ?_ GE136.out) | exact HB.out)) hb)
  clear BK136
  clear HB
  have BK136 := n0_
  have HB := n1_
  clear n0_ n1_
  (try clear hb)
  (try clear hb2)
  (try clear hk)
  (try clear hi)
  refine hK.out _ _ ⟨(bkC BK136.out 0).trans rfl, (bkC BK136.out 1).trans rfl, (bkC BK136.out 2).trans rfl⟩ (fun hHeld => ?_)
  clear hK K
  refine norm_ (a' := ?_) ?_ ?_
  rotate_left
  · show Act.put _ (some 11) _ = _
    simp only [Act.put, List.setIfInBounds_toArray, List.set_cons_zero, List.set_cons_succ, i64_w, i32_w]
    rfl
  refine one_ (i := 6) (N := some 12) #[true, true, true, true, true, true, true, false] rfl rfl (one_of HT_.out (by kernel_rfl)) (by decide) (fun K hK => ?_)
  refine Kd.R_lit_step Kd.string _ 9 ?hg (N := 12) ?hd (xs := ([t137, t138] : List ByteArray)) (inner := [.string t137, .string t138]) (ok := fun _ => True) (okp := fun _ => True) ?hr ?hp (fun _ hk => hk) trivial (Below.refl _ _) (Nat.le_refl _) (by simp) ?_; (case hd => rfl); (case hg => rfl); (case hr => first | (go_simp; done) | (go_simp; rfl)); (case hp => exact (Reps.one (show Kd.M Kd.string _ _ _ t137 [.string t137] from rfl) (Reps.one (show Kd.M Kd.string _ _ _ t138 [.string t138] from rfl) (Reps.none _ _))))
  intro v140 w8 ho9 hb hg_ hnew_
  clear hg_ hnew_
  (first | rw [← Ny139.out] at ho9 | (simp only [Int.reduceToNat] at ho9; rw [← Ny139.out] at ho9))
  have n0_ := Az.mk (Kd.R_lower ho9 (pbZ (by repeat (first | (with_reducible first | exact HB.out | apply pbA | apply pbN | apply pb1 | refine pbS ?_ GE136.out) | exact HB.out))))
  have n1_ := Az.mk (bkB (g := gb136) (o := .cells #[.int .i64 a0_0, .int .i64 a0_1, .slice A0_2 l0_2.length c0_2] 24 (0, 0)) (by (with_reducible repeat (first | refine bkN ?_ _ | refine bkD ?_ | refine bkA ?_ _)); exact BK136.out) hb)
  have n2_ := Az.mk (pbT (by repeat (first | (with_reducible first | exact HB.out | apply pbA | apply pbN | apply pb1 | refine pbS ?_ GE136.out) | exact HB.out)) hb)
  clear BK136
  clear HB
  have HO141 := n0_
  have BK136 := n1_
  have HB := n2_
  clear n0_ n1_ n2_
  clear hb ho9
  refine hK.out _ _ ⟨(bkC BK136.out 0).trans rfl, (bkC BK136.out 1).trans rfl, (bkC BK136.out 2).trans rfl⟩ (fun hHeld => ?_)
  clear hK K
  refine norm_ (a' := ?_) ?_ ?_
  rotate_left
  · show Act.put _ (some 12) _ = _
    simp only [Act.put, List.setIfInBounds_toArray, List.set_cons_zero, List.set_cons_succ, i64_w, i32_w]
    rfl
  refine pure_ (i := 7) (N := some 3) (v := ?_) (a' := ?_) #[true, true, true, true, true, true, true, true] rfl rfl (any_of HT_.out (by kernel_rfl)) (fun _ _ _ h => h) (Or.inl ⟨by rfl, ?_⟩) ?_ ?_
  rotate_left
  · intro w'
    go_simp
    with_reducible rfl
  rotate_left
  · simp only [Act.put, List.setIfInBounds_toArray, List.set_cons_zero, List.set_cons_succ, i64_w, i32_w]
    rfl
  refine done_ (done_of HT_.out (by kernel_rfl)) ?_
  have hcz10_0 : w8.cell? ⟨gb136, 0, none⟩ = some (.int .i64 a0_0) := (bkC BK136.out 0).trans rfl
  have hcz10_1 : w8.cell? ⟨gb136, 1, none⟩ = some (.int .i64 a0_1) := (bkC BK136.out 1).trans rfl
  have hcz10_2 : w8.cell? ⟨gb136, 2, none⟩ = some (.slice A0_2 l0_2.length c0_2) := (bkC BK136.out 2).trans rfl
  have hfz10_0 := bkF BK136.out 0
  have hfz10_1 := bkF BK136.out 1
  have hfz10_2 := bkF BK136.out 2
  try go_wp2
  go_loopg [3, 16] k (fun kq v3 v16 w' => ∃ (x3_1 : List ByteArray) (x16_1 : Int), v16 = .int .i64 x16_1 ∧ Az (roll_Put.l0 kq x3_1 l0_2 (l0_2.length : Int) x16_1 = some r) ∧ Az (kq ≤ k) ∧ Az (Kd.R Kd.string 9 w' w.heap.size (fun _ => True) v3 x3_1) ∧ Az (w'.heap[gb136]? = some (.cells #[.int .i64 a0_0, .int .i64 a0_1, (.slice A0_2 l0_2.length c0_2)] 24 (0, 0))) ∧ Az (Below w.heap.size w w'))
  case atStart => exact ⟨(y139), (0), (by first | rfl | (simp; done) | (simp [*]; done)), H', ⟨Nat.le_refl _⟩, ⟨by (with_reducible repeat (first | apply Kd.R_alloc | apply Kd.R_drewN | apply Kd.R_drew)); exact HO141.out⟩, ⟨by (with_reducible repeat (first | refine bkN ?_ _ | refine bkD ?_ | refine bkA ?_ _)); exact BK136.out⟩, ⟨by repeat (first | (with_reducible first | exact HB.out | apply pbA | apply pbN | apply pb1 | refine pbS ?_ GE136.out) | exact HB.out)⟩⟩
  case round =>
    clear H'
    try clear c1
    try clear p2
    try clear c4
    try clear hcz10_0
    try clear hcz10_1
    try clear hcz10_2
    try clear hfz10_0
    try clear hfz10_1
    try clear hfz10_2
    obtain ⟨x3_1, x16_1, rfl, HA, HK1, HO_3, BK136, HB⟩ := hrel
    cases gk with
    | zero => exact absurd HA.out (by simp [roll_Put.l0])
    | succ k1 =>
      have H := HA.out
      clear HA
      simp only [roll_Put.l0] at H
      by_cases c11 : x16_1 < (l0_2.length : Int)
      · rw [if_pos c11] at H
        have c11b0 : decide (x16_1 < (l0_2.length : Int)) = true := decide_eq_true c11
        clear c11
        by_cases c12 : 0 ≤ x16_1
        · rw [if_pos c12] at H
          have c12b0 : decide (0 ≤ x16_1) = true := decide_eq_true c12
          clear c12
          by_cases c13 : x16_1 < (l0_2.length : Int)
          · rw [if_pos c13] at H
            have c13b0 : decide (x16_1 < (l0_2.length : Int)) = true := decide_eq_true c13
            clear c13
            replace H := Option.bind_eq_some_iff.mp H
            obtain ⟨t144, A140, H⟩ := H
            replace H : ((some (([t144, (rd_T54 l0_2 x16_1).f1] : List ByteArray) : List ByteArray)).bind fun y145 => (if x3_1.length + y145.length < 8796093022208 then (roll_Put.l0 k1 (x3_1 ++ y145) l0_2 (l0_2.length : Int) (wrap64 (x16_1 + 1))) else (none))) = some r := H
            have A14 := Az.mk A140
            clear A140
            obtain ⟨y145, hy145⟩ : ∃ y_ : List ByteArray, y_ = (([t144, (rd_T54 l0_2 x16_1).f1] : List ByteArray)) := ⟨_, rfl⟩
            replace H : (if x3_1.length + y145.length < 8796093022208 then (roll_Put.l0 k1 (x3_1 ++ y145) l0_2 (l0_2.length : Int) (wrap64 (x16_1 + 1))) else (none)) = some r := by first | (rw [hy145]; with_reducible exact H) | (have H2_ := (Option.bind_some _ _).symm.trans H; rw [hy145]; with_reducible exact H2_) | (have H2_ := (Option.bind_some _ _).symm.trans H; with_reducible exact H2_) | with_reducible exact H | (rw [hy145]; exact H) | exact H
            have Ny145 := Az.mk hy145
            clear hy145
            by_cases c15 : x3_1.length + y145.length < 8796093022208
            · rw [if_pos c15] at H
              have LMc15 := Az.mk c15
              clear c15
              obtain ⟨y148, hy148⟩ : ∃ y_ : List ByteArray, y_ = (x3_1 ++ y145) := ⟨_, rfl⟩
              replace H : (roll_Put.l0 k1 y148 l0_2 (l0_2.length : Int) (wrap64 (x16_1 + 1))) = some r := by first | (rw [hy148]; with_reducible exact H) | (have H2_ := (Option.bind_some _ _).symm.trans H; rw [hy148]; with_reducible exact H2_) | (have H2_ := (Option.bind_some _ _).symm.trans H; with_reducible exact H2_) | with_reducible exact H | (rw [hy148]; exact H) | exact H
              have Ny148 := Az.mk hy148
              clear hy148
              have H' := Az.mk H
              clear H
              have p142 : 0 ≤ (x16_1 : Int) := of_decide_eq_true (by first | (with_reducible assumption) | assumption)
              have q142 : x16_1 < (l0_2.length : Int) := of_decide_eq_true (by first | (with_reducible assumption) | assumption)
              obtain ⟨ad142, e142, hx142_0, hx142_1⟩ := at_T54 HR0_2.out x16_1 p142 q142
              cases e142
              replace hx142_0 := (HB.out.cell (World.block_lt_of_cell? w _ hx142_0)).trans hx142_0
              replace hx142_1 := (HB.out.cell (World.block_lt_of_cell? w _ hx142_1)).trans hx142_1
              replace p142 := eq_true p142
              replace q142 := eq_true q142
              try go_wp2_with (first | ((with_reducible refine gate_dst (N := 5) rfl ?_); refine box_event ?hg (N := 5) ?hd (cs := #[.int .i64 0, .string (⟨#[]⟩ : ByteArray)]) (t := 54) ?hr ?_; (case hd => rfl); (case hg => rfl); (case hr => first | (go_simp; done) | (go_simp; rfl)); intro gb143 hg w16 hbox hb; have n0_ := Az.mk (Kd.R_below (by (with_reducible repeat (first | apply Kd.R_alloc | apply Kd.R_drewN | apply Kd.R_drew)); exact HO_3.out) hb); have n1_ := Az.mk (bkB (g := gb136) (o := .cells #[.int .i64 a0_0, .int .i64 a0_1, .slice (some ad142) l0_2.length c0_2] 24 (0, 0)) (by (with_reducible repeat (first | refine bkN ?_ _ | refine bkD ?_ | refine bkA ?_ _)); exact BK136.out) hb); have n2_ := Az.mk (pbT (by repeat (first | (with_reducible first | exact HB.out | apply pbA | apply pbN | apply pb1 | refine pbS ?_ GE136.out) | exact HB.out)) hb); have n3_ := Az.mk (hbox); have n4_ := Az.mk ((by rw [hg]; exact (pbZ (by repeat (first | (with_reducible first | exact HB.out | apply pbA | apply pbN | apply pb1 | refine pbS ?_ GE136.out) | exact HB.out))) : w.heap.size ≤ gb143)); have n5_ := Az.mk ((by rw [hg]; exact (pbZ (by repeat (first | (with_reducible first | exact HB.out | apply pbA | apply pbN | apply pb1 | refine pbS ?_ GE136.out) | exact HB.out))) : w.heap.size ≤ gb143)); have n6_ := Az.mk ((by rw [hg]; exact Nat.ne_of_lt (blk_lt (g := gb136) (o := .cells #[.int .i64 a0_0, .int .i64 a0_1, .slice (some ad142) l0_2.length c0_2] 24 (0, 0)) (by (with_reducible repeat (first | refine bkN ?_ _ | refine bkD ?_ | refine bkA ?_ _)); exact BK136.out)) : gb136 ≠ gb143)); have n7_ := Az.mk ((by rw [hg]; exact Nat.ne_of_gt (blk_lt (g := gb136) (o := .cells #[.int .i64 a0_0, .int .i64 a0_1, .slice (some ad142) l0_2.length c0_2] 24 (0, 0)) (by (with_reducible repeat (first | refine bkN ?_ _ | refine bkD ?_ | refine bkA ?_ _)); exact BK136.out)) : gb143 ≠ gb136)); clear HO_3; clear BK136; clear HB; have HO_3 := n0_; have BK136 := n1_; have HB := n2_; have BK143 := n3_; have GW143 := n4_; have GE143 := n5_; have NB136_143 := n6_; have NB143_136 := n7_; clear n0_ n1_ n2_ n3_ n4_ n5_ n6_ n7_; clear hb hbox hg; have hnb17 := NB143_136.out; have hnc17 := NB136_143.out; have hcz18_0 : w16.cell? ⟨gb143, 0, none⟩ = some (.int .i64 0) := (bkC BK143.out 0).trans rfl; have hcz18_1 : w16.cell? ⟨gb143, 1, none⟩ = some (.string (⟨#[]⟩ : ByteArray)) := (bkC BK143.out 1).trans rfl; have hfz18_0 := bkF BK143.out 0; have hfz18_1 := bkF BK143.out 1))
              have n0_ : Az (Kd.R Kd.string 9 ((w16.setCell ⟨gb143, 0, none⟩ (.int .i64 ((rd_T54 l0_2 x16_1).f0))).setCell ⟨gb143, 1, none⟩ (.string ((rd_T54 l0_2 x16_1).f1))) w.heap.size (fun _ => True) u3 x3_1) := ⟨by (with_reducible repeat (first | apply Kd.R_alloc | apply Kd.R_drewN | apply Kd.R_drew)); exact Kd.R_mono (Kd.R_far (p := ⟨gb143, 1, none⟩) (Kd.R_far (p := ⟨gb143, 0, none⟩) (Kd.R_types HO_3.out BK143.out (by decide)) (fun _ hk => hk.2) (.int .i64 ((rd_T54 l0_2 x16_1).f0))) (fun _ hk => hk.2) (.string ((rd_T54 l0_2 x16_1).f1))) (fun _ hk => trivial)⟩
              have n1_ : Az (((w16.setCell ⟨gb143, 0, none⟩ (.int .i64 ((rd_T54 l0_2 x16_1).f0))).setCell ⟨gb143, 1, none⟩ (.string ((rd_T54 l0_2 x16_1).f1))).heap[gb136]? = some (.cells #[.int .i64 a0_0, .int .i64 a0_1, .slice (some ad142) l0_2.length c0_2] 24 (0, 0))) := ⟨by (with_reducible repeat (first | refine bkN ?_ _ | refine bkD ?_ | refine bkA ?_ _)); refine blk_far ?_ NB136_143.out _; (with_reducible repeat (first | refine bkN ?_ _ | refine bkD ?_ | refine bkA ?_ _)); refine blk_far ?_ NB136_143.out _; (with_reducible repeat (first | refine bkN ?_ _ | refine bkD ?_ | refine bkA ?_ _)); exact BK136.out⟩
              have n2_ : Az (((w16.setCell ⟨gb143, 0, none⟩ (.int .i64 ((rd_T54 l0_2 x16_1).f0))).setCell ⟨gb143, 1, none⟩ (.string ((rd_T54 l0_2 x16_1).f1))).heap[gb143]? = some (.cells #[.int .i64 ((rd_T54 l0_2 x16_1).f0), .string ((rd_T54 l0_2 x16_1).f1)] 54 (0, 0))) := ⟨by (with_reducible repeat (first | refine bkN ?_ _ | refine bkD ?_ | refine bkA ?_ _)); refine blk_put (cs := #[.int .i64 ((rd_T54 l0_2 x16_1).f0), .string (⟨#[]⟩ : ByteArray)]) ?_ 1 _ rfl; (with_reducible repeat (first | refine bkN ?_ _ | refine bkD ?_ | refine bkA ?_ _)); refine blk_put (cs := #[.int .i64 0, .string (⟨#[]⟩ : ByteArray)]) ?_ 0 _ rfl; (with_reducible repeat (first | refine bkN ?_ _ | refine bkD ?_ | refine bkA ?_ _)); exact BK143.out⟩
              have n3_ : Az (Below w.heap.size w ((w16.setCell ⟨gb143, 0, none⟩ (.int .i64 ((rd_T54 l0_2 x16_1).f0))).setCell ⟨gb143, 1, none⟩ (.string ((rd_T54 l0_2 x16_1).f1)))) := ⟨by repeat (first | (with_reducible first | exact HB.out | apply pbA | apply pbN | apply pb1 | refine pbS ?_ GE136.out | refine pbS ?_ GE143.out) | exact HB.out)⟩
              (try clear HO_3)
              (try clear BK136)
              (try clear BK143)
              (try clear HB)
              generalize ((w16.setCell ⟨gb143, 0, none⟩ (.int .i64 ((rd_T54 l0_2 x16_1).f0))).setCell ⟨gb143, 1, none⟩ (.string ((rd_T54 l0_2 x16_1).f1))) = w19 at n0_ n1_ n2_ n3_ ⊢
              have HO_3 := n0_
              have BK136 := n1_
              have BK143 := n2_
              have HB := n3_
              clear n0_ n1_ n2_ n3_
              have n0_ := Az.mk (Kd.R_drew HO_3.out)
              have n1_ := Az.mk (bkD BK136.out)
              have n2_ := Az.mk (bkD BK143.out)
              have n3_ := Az.mk (pb1 HB.out)
              clear HO_3
              clear BK136
              clear BK143
              clear HB
              have HO_3 := n0_
              have BK136 := n1_
              have BK143 := n2_
              have HB := n3_
              clear n0_ n1_ n2_ n3_
              refine start_ (n := 9) (S := fun w' => w'.cell? ⟨gb143, 0, none⟩ = some (.int .i64 ((rd_T54 l0_2 x16_1).f0)) ∧ w'.cell? ⟨gb143, 1, none⟩ = some (.string ((rd_T54 l0_2 x16_1).f1))) (ds := []) #[false, false, false, false, false, false, false, false, false] (by kernel_rfl) rfl rfl ⟨(bkC BK143.out 0).trans rfl, (bkC BK143.out 1).trans rfl⟩ (fun hHeld => ?_); refine with_tabW roll_Put.tab5 roll_Put.bits5 (fun HT_ HW_ => ?_)
              generalize w19.drew = w20 at HO_3 BK136 BK143 HB hHeld ⊢
              refine pure_ (i := 0) (N := some 20) (v := ?_) (a' := ?_) #[true, false, false, false, false, false, false, false, false] rfl rfl (any_of HT_.out (by kernel_rfl)) (fun _ _ _ h => h) (Or.inl ⟨by rfl, ?_⟩) ?_ ?_
              rotate_left
              · intro w'
                go_simp
                with_reducible rfl
              rotate_left
              · simp only [Act.put, List.setIfInBounds_toArray, List.set_cons_zero, List.set_cons_succ, i64_w, i32_w]
                rfl
              refine pure_ (i := 1) (N := some 21) (v := ?_) (a' := ?_) #[true, true, false, false, false, false, false, false, false] rfl rfl (any_of HT_.out (by kernel_rfl)) (fun _ _ _ h => h) (Or.inl ⟨by rfl, ?_⟩) ?_ ?_
              rotate_left
              · intro w'
                go_simp
                with_reducible rfl
              rotate_left
              · simp only [Act.put, List.setIfInBounds_toArray, List.set_cons_zero, List.set_cons_succ, i64_w, i32_w]
                rfl
              refine pure_ (i := 4) (N := some 24) (v := ?_) (a' := ?_) #[true, true, false, false, true, false, false, false, false] rfl rfl (any_of HT_.out (by kernel_rfl)) (fun _ _ _ h => h) (Or.inl ⟨by rfl, ?_⟩) ?_ ?_
              rotate_left
              · intro w'
                go_simp
                with_reducible rfl
              rotate_left
              · simp only [Act.put, List.setIfInBounds_toArray, List.set_cons_zero, List.set_cons_succ, i64_w, i32_w]
                rfl
              refine take_ (i := 2) (N := some 22) (v := ?_) (a' := ?_) #[true, true, true, false, true, false, false, false, false] rfl rfl (take_ofW HT_.out HW_.out (by kernel_rfl)) (fun _ _ _ h => h) (Or.inl ⟨by rfl, ?_⟩) hHeld ?_ ?_
              rotate_left
              · rintro w' ⟨s0, s1⟩
                go_simp
                with_reducible rfl
              rotate_left
              · simp only [Act.put, List.setIfInBounds_toArray, List.set_cons_zero, List.set_cons_succ, i64_w, i32_w]
                rfl
              refine take_ (i := 5) (N := some 25) (v := ?_) (a' := ?_) #[true, true, true, false, true, true, false, false, false] rfl rfl (take_ofW HT_.out HW_.out (by kernel_rfl)) (fun _ _ _ h => h) (Or.inl ⟨by rfl, ?_⟩) hHeld ?_ ?_
              rotate_left
              · rintro w' ⟨s0, s1⟩
                go_simp
                with_reducible rfl
              rotate_left
              · simp only [Act.put, List.setIfInBounds_toArray, List.set_cons_zero, List.set_cons_succ, i64_w, i32_w]
                rfl
              refine one_ (i := 3) (N := some 23) #[true, true, true, true, true, true, false, false, false] rfl rfl (one_of HT_.out (by kernel_rfl)) (by decide) (fun K hK => ?_)
              refine goes_ Tryd.func40 (by kernel_rfl) rfl #[.int .i64 ((rd_T54 l0_2 x16_1).f0)] (by rfl) rfl rfl (by (try simp only [List.map_toArray, List.map_cons, List.map_nil]); first | done | rfl | (simp only [List.length_drop, List.length_take]; rfl)) ?_
              with_reducible refine (knot_Num.calls ((rd_T54 l0_2 x16_1).f0) t144 _ ?side1 A14.out).mono ?_
              (case side1 => exact hG.below (by repeat (first | (with_reducible first | exact HB.out | apply pbA | apply pbN | apply pb1 | refine pbS ?_ GE136.out | refine pbS ?_ GE143.out) | exact HB.out)))
              rintro e w21 ⟨rfl, hb⟩
              refine ⟨_, rfl, ?_⟩
              have n0_ := Az.mk (Kd.R_below (by (with_reducible repeat (first | apply Kd.R_alloc | apply Kd.R_drewN | apply Kd.R_drew)); exact HO_3.out) hb)
              have n1_ := Az.mk (bkB (g := gb136) (o := .cells #[.int .i64 a0_0, .int .i64 a0_1, .slice (some ad142) l0_2.length c0_2] 24 (0, 0)) (by (with_reducible repeat (first | refine bkN ?_ _ | refine bkD ?_ | refine bkA ?_ _)); exact BK136.out) hb)
              have n2_ := Az.mk (bkB (g := gb143) (o := .cells #[.int .i64 ((rd_T54 l0_2 x16_1).f0), .string ((rd_T54 l0_2 x16_1).f1)] 54 (0, 0)) (by (with_reducible repeat (first | refine bkN ?_ _ | refine bkD ?_ | refine bkA ?_ _)); exact BK143.out) hb)
              have n3_ := Az.mk (pbT (by repeat (first | (with_reducible first | exact HB.out | apply pbA | apply pbN | apply pb1 | refine pbS ?_ GE136.out | refine pbS ?_ GE143.out) | exact HB.out)) hb)
              clear HO_3
              clear BK136
              clear BK143
              clear HB
              have HO_3 := n0_
              have BK136 := n1_
              have BK143 := n2_
              have HB := n3_
              clear n0_ n1_ n2_ n3_
              (try clear hb)
              (try clear hb2)
              (try clear hk)
              (try clear hi)
              refine hK.out _ _ ⟨(bkC BK143.out 0).trans rfl, (bkC BK143.out 1).trans rfl⟩ (fun hHeld => ?_)
              clear hK K
              refine norm_ (a' := ?_) ?_ ?_
              rotate_left
              · show Act.put _ (some 23) _ = _
                simp only [Act.put, List.setIfInBounds_toArray, List.set_cons_zero, List.set_cons_succ, i64_w, i32_w]
                rfl
              refine one_ (i := 6) (N := some 26) #[true, true, true, true, true, true, true, false, false] rfl rfl (one_of HT_.out (by kernel_rfl)) (by decide) (fun K hK => ?_)
              refine Kd.R_lit_step Kd.string _ 9 ?hg (N := 26) ?hd (xs := ([t144, (rd_T54 l0_2 x16_1).f1] : List ByteArray)) (inner := [.string t144, .string ((rd_T54 l0_2 x16_1).f1)]) (ok := fun _ => True) (okp := fun _ => True) ?hr ?hp (fun _ hk => hk) trivial (Below.refl _ _) (Nat.le_refl _) (by simp) ?_; (case hd => rfl); (case hg => rfl); (case hr => first | (go_simp; done) | (go_simp; rfl)); (case hp => exact (Reps.one (show Kd.M Kd.string _ _ _ t144 [.string t144] from rfl) (Reps.one (show Kd.M Kd.string _ _ _ ((rd_T54 l0_2 x16_1).f1) [.string ((rd_T54 l0_2 x16_1).f1)] from rfl) (Reps.none _ _))))
              intro v146 w22 ho23 hb hg_ hnew_
              clear hg_ hnew_
              (first | rw [← Ny145.out] at ho23 | (simp only [Int.reduceToNat] at ho23; rw [← Ny145.out] at ho23))
              have n0_ := Az.mk (Kd.R_elder' (by (with_reducible repeat (first | apply Kd.R_alloc | apply Kd.R_drewN | apply Kd.R_drew)); exact HO_3.out) (Kd.R_base ho23) hb)
              have n1_ := Az.mk (Kd.R_lower (Kd.R_new' ho23 (Kd.R_lt (by (with_reducible repeat (first | apply Kd.R_alloc | apply Kd.R_drewN | apply Kd.R_drew)); exact HO_3.out))) (pbZ (by repeat (first | (with_reducible first | exact HB.out | apply pbA | apply pbN | apply pb1 | refine pbS ?_ GE136.out | refine pbS ?_ GE143.out) | exact HB.out))))
              have n2_ := Az.mk (bkB (g := gb136) (o := .cells #[.int .i64 a0_0, .int .i64 a0_1, .slice (some ad142) l0_2.length c0_2] 24 (0, 0)) (by (with_reducible repeat (first | refine bkN ?_ _ | refine bkD ?_ | refine bkA ?_ _)); exact BK136.out) hb)
              have n3_ := Az.mk (bkB (g := gb143) (o := .cells #[.int .i64 ((rd_T54 l0_2 x16_1).f0), .string ((rd_T54 l0_2 x16_1).f1)] 54 (0, 0)) (by (with_reducible repeat (first | refine bkN ?_ _ | refine bkD ?_ | refine bkA ?_ _)); exact BK143.out) hb)
              have n4_ := Az.mk (pbT (by repeat (first | (with_reducible first | exact HB.out | apply pbA | apply pbN | apply pb1 | refine pbS ?_ GE136.out | refine pbS ?_ GE143.out) | exact HB.out)) hb)
              clear HO_3
              clear BK136
              clear BK143
              clear HB
              have HO_3 := n0_
              have HO147 := n1_
              have BK136 := n2_
              have BK143 := n3_
              have HB := n4_
              clear n0_ n1_ n2_ n3_ n4_
              clear hb ho23
              obtain ⟨Ao25, co25, eo25⟩ := Kd.R_slice HO147.out
              (first | subst eo25 | (injection eo25 with f1_ f2_ f3_; have f4_ := f1_.symm; have f5_ := f3_.symm; clear f1_ f2_ f3_; subst f4_; subst f5_))
              refine hK.out _ _ ⟨(bkC BK143.out 0).trans rfl, (bkC BK143.out 1).trans rfl⟩ (fun hHeld => ?_)
              clear hK K
              refine norm_ (a' := ?_) ?_ ?_
              rotate_left
              · show Act.put _ (some 26) _ = _
                simp only [Act.put, List.setIfInBounds_toArray, List.set_cons_zero, List.set_cons_succ, i64_w, i32_w]
                rfl
              refine one_ (i := 7) (N := some 27) #[true, true, true, true, true, true, true, true, false] rfl rfl (one_of HT_.out (by kernel_rfl)) (by decide) (fun K hK => ?_)
              refine Kd.R_append_rows_step Kd.string (w0 := w) w.heap.size (by rfl) (.tmp 20) (.tmp 26) 56 9 (.string ⟨#[]⟩) 16 rfl Tryd.underlying56 info9 rfl (by decide) (by omega) u3 x3_1 y145 _ _ _ (fun k_ => some k_ ≠ (.slice Ao25 y145.length co25 : Value).ownBlock) (fun _ => False) rfl rfl ?aO ?aR (fun _ _ h => h) (fun _ h => h.elim) ?aF ?aB ?aS ?aL ?_
              (case aR => repeat (first | exact (Kd.R_reads' HO147.out).2.2 | (with_reducible refine Kd.C_alloc ?_ _) | (with_reducible refine Kd.C_drewN ?_ _) | (with_reducible refine Kd.C_drew ?_)))
              (case aB => exact (by repeat (first | (with_reducible first | exact HB.out | apply pbA | apply pbN | apply pb1 | refine pbS ?_ GE136.out | refine pbS ?_ GE143.out) | exact HB.out)))
              (case aF => exact (fun k_ hk => Kd.fresh' (Kd.R_lt (by (with_reducible repeat (first | apply Kd.R_alloc | apply Kd.R_drewN | apply Kd.R_drew)); exact HO147.out)) k_ hk))
              (case aO => exact (by (with_reducible repeat (first | apply Kd.R_alloc | apply Kd.R_drewN | apply Kd.R_drew)); exact Kd.R_mono HO_3.out (fun _ hk => hk.2)))
              (case aS => exact (pbZ (by repeat (first | (with_reducible first | exact HB.out | apply pbA | apply pbN | apply pb1 | refine pbS ?_ GE136.out | refine pbS ?_ GE143.out) | exact HB.out))))
              (case aL => have := LMc15.out; omega)
              intro v149 w24 ho hb hg hat
              rw [← Ny148.out] at ho
              have n0_ := Az.mk (blk_grown (g := gb136) (o := .cells #[.int .i64 a0_0, .int .i64 a0_1, .slice (some ad142) l0_2.length c0_2] 24 (0, 0)) (by (with_reducible repeat (first | refine bkN ?_ _ | refine bkD ?_ | refine bkA ?_ _)); exact BK136.out) hg (Kd.R_ne HO_3.out BK136.out (by decide)))
              have n1_ := Az.mk (blk_grown (g := gb143) (o := .cells #[.int .i64 ((rd_T54 l0_2 x16_1).f0), .string ((rd_T54 l0_2 x16_1).f1)] 54 (0, 0)) (by (with_reducible repeat (first | refine bkN ?_ _ | refine bkD ?_ | refine bkA ?_ _)); exact BK143.out) hg (Kd.R_ne HO_3.out BK143.out (by decide)))
              have n2_ := Az.mk (Kd.R_after (ok := (fun _ => True)) (by (with_reducible repeat (first | apply Kd.R_alloc | apply Kd.R_drewN | apply Kd.R_drew)); exact HO147.out) hg hat)
              have n3_ := Az.mk (hb)
              have n4_ := Az.mk (ho)
              clear BK136
              clear BK143
              clear HO147
              clear HB
              clear HO_3
              have BK136 := n0_
              have BK143 := n1_
              have HO147 := n2_
              have HB := n3_
              have HO150 := n4_
              clear n0_ n1_ n2_ n3_ n4_
              clear ho hb hg hat
              refine hK.out _ _ ⟨(bkC BK143.out 0).trans rfl, (bkC BK143.out 1).trans rfl⟩ (fun hHeld => ?_)
              clear hK K
              refine norm_ (a' := ?_) ?_ ?_
              rotate_left
              · show Act.put _ (some 27) _ = _
                simp only [Act.put, List.setIfInBounds_toArray, List.set_cons_zero, List.set_cons_succ, i64_w, i32_w]
                rfl
              refine pure_ (i := 8) (N := some 3) (v := ?_) (a' := ?_) #[true, true, true, true, true, true, true, true, true] rfl rfl (any_of HT_.out (by kernel_rfl)) (fun _ _ _ h => h) (Or.inl ⟨by rfl, ?_⟩) ?_ ?_
              rotate_left
              · intro w'
                go_simp
                with_reducible rfl
              rotate_left
              · simp only [Act.put, List.setIfInBounds_toArray, List.set_cons_zero, List.set_cons_succ, i64_w, i32_w]
                rfl
              refine done_ (done_of HT_.out (by kernel_rfl)) ?_
              try go_wp2
              go_roundg k1
              case measure => have := HK1.out; omega
              case rel => exact ⟨(y148), (wrap64 (x16_1 + 1)), (by first | rfl | (simp; done) | (simp [*]; done)), H', ⟨by have := HK1.out; omega⟩, ⟨by (with_reducible repeat (first | apply Kd.R_alloc | apply Kd.R_drewN | apply Kd.R_drew)); exact Kd.R_mono HO150.out (fun _ hk => trivial)⟩, ⟨by (with_reducible repeat (first | refine bkN ?_ _ | refine bkD ?_ | refine bkA ?_ _)); exact BK136.out⟩, ⟨by repeat (first | (with_reducible first | exact HB.out | apply pbA | apply pbN | apply pb1 | refine pbS ?_ GE136.out | refine pbS ?_ GE143.out) | exact HB.out)⟩⟩
            · rw [if_neg c15] at H
              exact absurd H (by simp)
          · rw [if_neg c13] at H
            exact absurd H (by simp)
        · rw [if_neg c12] at H
          exact absurd H (by simp)
      · rw [if_neg c11] at H
        have c11b0 : decide (x16_1 < (l0_2.length : Int)) = false := decide_eq_false c11
        clear c11
        replace H := Option.bind_eq_some_iff.mp H
        obtain ⟨t151, A260, H⟩ := H
        replace H : (some t151) = some r := H
        have A26 := Az.mk A260
        clear A260
        obtain rfl := Option.some.inj H
        obtain ⟨Ao27, co27, eo27⟩ := Kd.R_slice HO_3.out
        subst eo27
        go_wp2_with (first | ((with_reducible refine gtc (f := 41) rfl ?_); refine goesL_ (some 30) rfl rfl Tryd.func41 (by kernel_rfl) rfl #[.slice Ao27 x3_1.length co27] rfl (by (try simp only [List.map_toArray, List.map_cons, List.map_nil]); first | done | rfl | (simp only [List.length_drop, List.length_take]; rfl)) ?_; (with_reducible refine (knot_Tie.calls _ _ x3_1 t151 _ ?side1 ?side2 ?side3 A26.out).mono ?_); (case side1 => exact hG.below (by repeat (first | (with_reducible first | exact HB.out | apply pbA | apply pbN | apply pb1 | refine pbS ?_ GE136.out) | exact HB.out))); (case side2 => repeat (first | exact (Kd.R_reads' HO_3.out).2.2 | (with_reducible refine Kd.C_alloc ?_ _) | (with_reducible refine Kd.C_drewN ?_ _) | (with_reducible refine Kd.C_drew ?_))); (case side3 => exact (Kd.R_reads' HO_3.out).2.1); rintro e w28 ⟨rfl, hb⟩; refine ⟨_, rfl, ?_⟩; have n0_ := Az.mk (Kd.R_below (by (with_reducible repeat (first | apply Kd.R_alloc | apply Kd.R_drewN | apply Kd.R_drew)); exact HO_3.out) hb); have n1_ := Az.mk (bkB (g := gb136) (o := .cells #[.int .i64 a0_0, .int .i64 a0_1, .slice A0_2 l0_2.length c0_2] 24 (0, 0)) (by (with_reducible repeat (first | refine bkN ?_ _ | refine bkD ?_ | refine bkA ?_ _)); exact BK136.out) hb); have n2_ := Az.mk (pbT (by repeat (first | (with_reducible first | exact HB.out | apply pbA | apply pbN | apply pb1 | refine pbS ?_ GE136.out) | exact HB.out)) hb); clear HO_3; clear BK136; clear HB; have HO_3 := n0_; have BK136 := n1_; have HB := n2_; clear n0_ n1_ n2_; (try clear hb); (try clear hb2); (try clear hk); (try clear hi)))
        go_ret
        exact ⟨by first | rfl | (simp [errW_none, errW_some] <;> rfl) | (simp [*, errW_none, errW_some] <;> rfl), by repeat (first | (with_reducible first | exact HB.out | apply pbA | apply pbN | apply pb1 | refine pbS ?_ GE136.out) | exact HB.out)⟩
end Go.Proofs.YtjpihfjgomoijaaDoor.P
end
section
-- Written by a program of this session (wip/tools/pr.py), over the kit's printer; functions named in the texts imported below are given by hand.
namespace Go.Proofs.YtjpihfjgomoijaaDoor.P
open Go.RowKit Go.Proofs.YtjpihfjgomoijaaDoor.K Go.Proofs.YtjpihfjgomoijaaDoorW.PrintWords Go.Proofs.YtjpihfjgomoijaaDoorW.PrintLast Go.Proofs.YtjpihfjgomoijaaDoorW.PrintMore
attribute [local go_sem] max2_int min2_int max_two min_two max_three min_three max_four min_four   -- for this text's walks alone
/-! ### r11_Put: function 17 -/
def r11_Put.l0 : Nat → List ByteArray → Int → Int → Int → List (S54) → Option (ByteArray)
  | 0, _, _, _, _, _ => none
  | k + 1, x3, x4, x271000, x271001, x271002 => if x4 < (x271002.length : Int) then (if 0 ≤ x4 then ((r01_Num.f ((rd_T54 x271002 x4).f0)).bind fun t277 => ((some (([t277, (rd_T54 x271002 x4).f1] : List ByteArray) : List ByteArray)).bind fun y279 => (if x3.length + y279.length < 8796093022208 then (r11_Put.l0 k (x3 ++ y279) (wrap64 (x4 + 1)) x271000 x271001 x271002) else (none)))) else (none)) else ((r01_Tie.f x3).bind fun t285 => (some t285))
def r11_Put.f (k : Nat) (a0_0 : Int) (a0_1 : Int) (l0_2 : List (S54)) : Option (ByteArray) := (r01_Num.f a0_0).bind fun t271 => ((r01_Num.f a0_1).bind fun t272 => (r11_Put.l0 k (([t271, t272] : List ByteArray)) 0 a0_0 a0_1 l0_2))
theorem r11_Put.mono_l : ∀ k, (∀ y0 y1 y2 y3 y4, LeO (r11_Put.l0 k y0 y1 y2 y3 y4) (r11_Put.l0 (k + 1) y0 y1 y2 y3 y4))
  | 0 => fun _ _ _ _ _ r h => by simp [r11_Put.l0] at h
  | k + 1 => by
    have ih0 := r11_Put.mono_l k
    · intro y0 y1 y2 y3 y4
      unfold r11_Put.l0
      repeat' first
      | (with_reducible exact ih0 _ _ _ _ _)
      | (with_reducible exact LeO.refl _)
      | (with_reducible exact LeO.none _)
      | (with_reducible refine LeO.ite ?_ ?_)
      | (with_reducible refine LeO.bind ?_ (fun _ => ?_))
      | exact ih0 _ _ _ _ _
      | exact LeO.none _
      | refine LeO.ite ?_ ?_
      | refine LeO.bind ?_ (fun _ => ?_)
theorem r11_Put.mono : ∀ a0 a1 a2 k, LeO (r11_Put.f k a0 a1 a2) (r11_Put.f (k + 1) a0 a1 a2) := by
  intro a0 a1 a2 k
  have ih0 := r11_Put.mono_l k
  unfold r11_Put.f
  repeat' first
      | (with_reducible exact ih0 _ _ _ _ _)
      | (with_reducible exact LeO.refl _)
      | (with_reducible exact LeO.none _)
      | (with_reducible refine LeO.ite ?_ ?_)
      | (with_reducible refine LeO.bind ?_ (fun _ => ?_))
      | exact ih0 _ _ _ _ _
      | exact LeO.none _
      | refine LeO.ite ?_ ?_
      | refine LeO.bind ?_ (fun _ => ?_)
def r11_Put.T1 : Bool × List (List Nat × List Nat) := (true, [([], []), ([0], [0]), ([1], [1]), ([], []), ([3], [3]), ([4, 2], [4]), ([2, 5], [2, 5]), ([6, 5, 0, 1, 2, 3, 4, 5, 6], [6])])
def r11_Put.B1 : List Nat := [0, 1, 3, 0, 8, 31, 63, 127]
theorem r11_Put.tab1 : rtab .any (opsOf Tryd.f17 1) = r11_Put.T1 := by kernel_rfl
theorem r11_Put.bits1 : waitsOk r11_Put.T1.2 r11_Put.B1 = true := by kernel_rfl
def r11_Put.T5 : Bool × List (List Nat × List Nat) := (true, [([], []), ([], []), ([1], [1]), ([], []), ([2, 3], [2, 3]), ([4], [4]), ([5], [5]), ([6], [6]), ([], []), ([8], [8]), ([], []), ([9, 10], [9, 10]), ([11], [11]), ([12], [12]), ([7, 13], [7, 13]), ([0, 14, 7], [0, 14]), ([15, 15, 0, 1, 2, 3, 4, 5, 6, 7, 8, 9, 10, 11, 12, 13, 14, 15], [0, 15])])
def r11_Put.B5 : List Nat := [0, 0, 2, 0, 14, 30, 62, 126, 0, 256, 0, 1792, 3840, 7936, 16382, 32767, 65535]
theorem r11_Put.tab5 : rtab .any (opsOf Tryd.f17 5) = r11_Put.T5 := by kernel_rfl
theorem r11_Put.bits5 : waitsOk r11_Put.T5.2 r11_Put.B5 = true := by kernel_rfl
set_option maxHeartbeats 8000000 in
set_option maxRecDepth 100000 in
theorem r11_Put.calls (k : Nat) (a0_0 : Int) (a0_1 : Int) (A0_2 : Option Addr) (c0_2 : Nat) (l0_2 : List (S54)) (r : ByteArray) (w : World) (hG : TheG w) (hr0_2 : Kd.C k54 w A0_2 l0_2.length l0_2) (hc0_2 : l0_2.length ≤ c0_2) (h : r11_Put.f k a0_0 a0_1 l0_2 = some r) :
    Calls Tryd.prog 17 #[.agg #[.int .i64 a0_0, .int .i64 a0_1, .slice A0_2 l0_2.length c0_2]] w fun e w' => e = .returned (.string r) ∧ Below w.heap.size w w' := by
  have hu24 := Tryd.underlying24
  have HR0_2 := Az.mk hr0_2
  have HC0_2 := Az.mk hc0_2
  clear hr0_2 hc0_2
  have HB := Az.mk (Below.refl w.heap.size w)
  have H : ((r01_Num.f a0_0).bind fun t271 => ((r01_Num.f a0_1).bind fun t272 => (r11_Put.l0 k (([t271, t272] : List ByteArray)) 0 a0_0 a0_1 l0_2))) = some r := h
  clear h
  replace H := Option.bind_eq_some_iff.mp H
  obtain ⟨t271, A20, H⟩ := H
  replace H : ((r01_Num.f a0_1).bind fun t272 => (r11_Put.l0 k (([t271, t272] : List ByteArray)) 0 a0_0 a0_1 l0_2)) = some r := H
  have A2 := Az.mk A20
  clear A20
  replace H := Option.bind_eq_some_iff.mp H
  obtain ⟨t272, A30, H⟩ := H
  replace H : (r11_Put.l0 k (([t271, t272] : List ByteArray)) 0 a0_0 a0_1 l0_2) = some r := H
  have A3 := Az.mk A30
  clear A30
  obtain ⟨y273, hy273⟩ : ∃ y_ : List ByteArray, y_ = (([t271, t272] : List ByteArray)) := ⟨_, rfl⟩
  replace H : (r11_Put.l0 k y273 0 a0_0 a0_1 l0_2) = some r := by first | (rw [hy273]; with_reducible exact H) | (have H2_ := (Option.bind_some _ _).symm.trans H; rw [hy273]; with_reducible exact H2_) | (have H2_ := (Option.bind_some _ _).symm.trans H; with_reducible exact H2_) | with_reducible exact H | (rw [hy273]; exact H) | exact H
  have Ny273 := Az.mk hy273
  clear hy273
  have H' := Az.mk H
  clear H
  go_enter Tryd.func17, Tryd.ntmps17
  try go_wp2_with (first | ((with_reducible refine gate_dst (N := 1) rfl ?_); refine box_event ?hg (N := 1) ?hd (cs := #[.int .i64 a0_0, .int .i64 a0_1, .slice A0_2 l0_2.length c0_2]) (t := 24) ?hr ?_; (case hd => rfl); (case hg => rfl); (case hr => first | (go_simp; done) | (go_simp; rfl)); intro gb270 hg w4 hbox hb; have n0_ := Az.mk (pbT (by repeat (first | (with_reducible first | exact HB.out | apply pbA | apply pbN | apply pb1) | exact HB.out)) hb); have n1_ := Az.mk (hbox); have n2_ := Az.mk ((by rw [hg]; exact (pbZ (by repeat (first | (with_reducible first | exact HB.out | apply pbA | apply pbN | apply pb1) | exact HB.out))) : w.heap.size ≤ gb270)); have n3_ := Az.mk ((by rw [hg]; exact (pbZ (by repeat (first | (with_reducible first | exact HB.out | apply pbA | apply pbN | apply pb1) | exact HB.out))) : w.heap.size ≤ gb270)); clear HB; have HB := n0_; have BK270 := n1_; have GW270 := n2_; have GE270 := n3_; clear n0_ n1_ n2_ n3_; clear hb hbox hg))
  have n0_ := Az.mk (bkD BK270.out)
  have n1_ := Az.mk (pb1 HB.out)
  clear BK270
  clear HB
  have BK270 := n0_
  have HB := n1_
  clear n0_ n1_
  refine start_ (n := 8) (S := fun w' => w'.cell? ⟨gb270, 0, none⟩ = some (.int .i64 a0_0) ∧ w'.cell? ⟨gb270, 1, none⟩ = some (.int .i64 a0_1) ∧ w'.cell? ⟨gb270, 2, none⟩ = some (.slice A0_2 l0_2.length c0_2)) (ds := []) #[false, false, false, false, false, false, false, false] (by kernel_rfl) rfl rfl ⟨(bkC BK270.out 0).trans rfl, (bkC BK270.out 1).trans rfl, (bkC BK270.out 2).trans rfl⟩ (fun hHeld => ?_); refine with_tabW r11_Put.tab1 r11_Put.bits1 (fun HT_ HW_ => ?_)
  generalize w4.drew = w5 at BK270 HB hHeld ⊢
  refine pure_ (i := 0) (N := some 5) (v := ?_) (a' := ?_) #[true, false, false, false, false, false, false, false] rfl rfl (any_of HT_.out (by kernel_rfl)) (fun _ _ _ h => h) (Or.inl ⟨by rfl, ?_⟩) ?_ ?_
  rotate_left
  · intro w'
    go_simp
    with_reducible rfl
  rotate_left
  · simp only [Act.put, List.setIfInBounds_toArray, List.set_cons_zero, List.set_cons_succ, i64_w, i32_w]
    rfl
  refine pure_ (i := 3) (N := some 8) (v := ?_) (a' := ?_) #[true, false, false, true, false, false, false, false] rfl rfl (any_of HT_.out (by kernel_rfl)) (fun _ _ _ h => h) (Or.inl ⟨by rfl, ?_⟩) ?_ ?_
  rotate_left
  · intro w'
    go_simp
    with_reducible rfl
  rotate_left
  · simp only [Act.put, List.setIfInBounds_toArray, List.set_cons_zero, List.set_cons_succ, i64_w, i32_w]
    rfl
  refine take_ (i := 1) (N := some 6) (v := ?_) (a' := ?_) #[true, true, false, true, false, false, false, false] rfl rfl (take_ofW HT_.out HW_.out (by kernel_rfl)) (fun _ _ _ h => h) (Or.inl ⟨by rfl, ?_⟩) hHeld ?_ ?_
  rotate_left
  · rintro w' ⟨s0, s1, s2⟩
    go_simp
    with_reducible rfl
  rotate_left
  · simp only [Act.put, List.setIfInBounds_toArray, List.set_cons_zero, List.set_cons_succ, i64_w, i32_w]
    rfl
  refine take_ (i := 4) (N := some 9) (v := ?_) (a' := ?_) #[true, true, false, true, true, false, false, false] rfl rfl (take_ofW HT_.out HW_.out (by kernel_rfl)) (fun _ _ _ h => h) (Or.inl ⟨by rfl, ?_⟩) hHeld ?_ ?_
  rotate_left
  · rintro w' ⟨s0, s1, s2⟩
    go_simp
    with_reducible rfl
  rotate_left
  · simp only [Act.put, List.setIfInBounds_toArray, List.set_cons_zero, List.set_cons_succ, i64_w, i32_w]
    rfl
  refine one_ (i := 2) (N := some 7) #[true, true, true, true, true, false, false, false] rfl rfl (one_of HT_.out (by kernel_rfl)) (by decide) (fun K hK => ?_)
  refine goes_ Tryd.func42 (by kernel_rfl) rfl #[.int .i64 a0_0] (by rfl) rfl rfl (by (try simp only [List.map_toArray, List.map_cons, List.map_nil]); first | done | rfl | (simp only [List.length_drop, List.length_take]; rfl)) ?_
  with_reducible refine (r01_Num.calls a0_0 t271 _ ?side1 A2.out).mono ?_
  (case side1 => exact hG.below (by repeat (first | (with_reducible first | exact HB.out | apply pbA | apply pbN | apply pb1 | refine pbS ?_ GE270.out) | exact HB.out)))
  rintro e w' ⟨rfl, ⟨nd, rfl⟩⟩
  refine ⟨_, rfl, ?_⟩
  refine hK.out _ _ ⟨(bkC BK270.out 0).trans rfl, (bkC BK270.out 1).trans rfl, (bkC BK270.out 2).trans rfl⟩ (fun hHeld => ?_)
  clear hK K
  refine norm_ (a' := ?_) ?_ ?_
  rotate_left
  · show Act.put _ (some 7) _ = _
    simp only [Act.put, List.setIfInBounds_toArray, List.set_cons_zero, List.set_cons_succ, i64_w, i32_w]
    rfl
  refine one_ (i := 5) (N := some 10) #[true, true, true, true, true, true, false, false] rfl rfl (one_of HT_.out (by kernel_rfl)) (by decide) (fun K hK => ?_)
  refine goes_ Tryd.func42 (by kernel_rfl) rfl #[.int .i64 a0_1] (by rfl) rfl rfl (by (try simp only [List.map_toArray, List.map_cons, List.map_nil]); first | done | rfl | (simp only [List.length_drop, List.length_take]; rfl)) ?_
  with_reducible refine (r01_Num.calls a0_1 t272 _ ?side1 A3.out).mono ?_
  (case side1 => exact hG.below (by repeat (first | (with_reducible first | exact HB.out | apply pbA | apply pbN | apply pb1 | refine pbS ?_ GE270.out) | exact HB.out)))
  rintro e w' ⟨rfl, ⟨nd, rfl⟩⟩
  refine ⟨_, rfl, ?_⟩
  refine hK.out _ _ ⟨(bkC BK270.out 0).trans rfl, (bkC BK270.out 1).trans rfl, (bkC BK270.out 2).trans rfl⟩ (fun hHeld => ?_)
  clear hK K
  refine norm_ (a' := ?_) ?_ ?_
  rotate_left
  · show Act.put _ (some 10) _ = _
    simp only [Act.put, List.setIfInBounds_toArray, List.set_cons_zero, List.set_cons_succ, i64_w, i32_w]
    rfl
  refine one_ (i := 6) (N := some 11) #[true, true, true, true, true, true, true, false] rfl rfl (one_of HT_.out (by kernel_rfl)) (by decide) (fun K hK => ?_)
  refine Kd.R_lit_step Kd.string _ 9 ?hg (N := 11) ?hd (xs := ([t271, t272] : List ByteArray)) (inner := [.string t271, .string t272]) (ok := fun _ => True) (okp := fun _ => True) ?hr ?hp (fun _ hk => hk) trivial (Below.refl _ _) (Nat.le_refl _) (by simp) ?_; (case hd => rfl); (case hg => rfl); (case hr => first | (go_simp; done) | (go_simp; rfl)); (case hp => exact (Reps.one (show Kd.M Kd.string _ _ _ t271 [.string t271] from rfl) (Reps.one (show Kd.M Kd.string _ _ _ t272 [.string t272] from rfl) (Reps.none _ _))))
  intro v274 w6 ho7 hb hg_ hnew_
  clear hg_ hnew_
  (first | rw [← Ny273.out] at ho7 | (simp only [Int.reduceToNat] at ho7; rw [← Ny273.out] at ho7))
  have n0_ := Az.mk (Kd.R_lower ho7 (pbZ (by repeat (first | (with_reducible first | exact HB.out | apply pbA | apply pbN | apply pb1 | refine pbS ?_ GE270.out) | exact HB.out))))
  have n1_ := Az.mk (bkB (g := gb270) (o := .cells #[.int .i64 a0_0, .int .i64 a0_1, .slice A0_2 l0_2.length c0_2] 24 (0, 0)) (by (with_reducible repeat (first | refine bkN ?_ _ | refine bkD ?_ | refine bkA ?_ _)); exact BK270.out) hb)
  have n2_ := Az.mk (pbT (by repeat (first | (with_reducible first | exact HB.out | apply pbA | apply pbN | apply pb1 | refine pbS ?_ GE270.out) | exact HB.out)) hb)
  clear BK270
  clear HB
  have HO275 := n0_
  have BK270 := n1_
  have HB := n2_
  clear n0_ n1_ n2_
  clear hb ho7
  refine hK.out _ _ ⟨(bkC BK270.out 0).trans rfl, (bkC BK270.out 1).trans rfl, (bkC BK270.out 2).trans rfl⟩ (fun hHeld => ?_)
  clear hK K
  refine norm_ (a' := ?_) ?_ ?_
  rotate_left
  · show Act.put _ (some 11) _ = _
    simp only [Act.put, List.setIfInBounds_toArray, List.set_cons_zero, List.set_cons_succ, i64_w, i32_w]
    rfl
  refine pure_ (i := 7) (N := some 3) (v := ?_) (a' := ?_) #[true, true, true, true, true, true, true, true] rfl rfl (any_of HT_.out (by kernel_rfl)) (fun _ _ _ h => h) (Or.inl ⟨by rfl, ?_⟩) ?_ ?_
  rotate_left
  · intro w'
    go_simp
    with_reducible rfl
  rotate_left
  · simp only [Act.put, List.setIfInBounds_toArray, List.set_cons_zero, List.set_cons_succ, i64_w, i32_w]
    rfl
  refine done_ (done_of HT_.out (by kernel_rfl)) ?_
  try go_wp2
  go_loopg [3, 4] k (fun kq v3 v4 w' => ∃ (x3_1 : List ByteArray) (x4_1 : Int), v4 = .int .i64 x4_1 ∧ Az (r11_Put.l0 kq x3_1 x4_1 a0_0 a0_1 l0_2 = some r) ∧ Az (kq ≤ k) ∧ Az (Kd.R Kd.string 9 w' w.heap.size (fun _ => True) v3 x3_1) ∧ Az (w'.heap[gb270]? = some (.cells #[.int .i64 a0_0, .int .i64 a0_1, (.slice A0_2 l0_2.length c0_2)] 24 (0, 0))) ∧ Az (Below w.heap.size w w'))
  case atStart => exact ⟨(y273), (0), (by first | rfl | (simp; done) | (simp [*]; done)), H', ⟨Nat.le_refl _⟩, ⟨by (with_reducible repeat (first | apply Kd.R_alloc | apply Kd.R_drewN | apply Kd.R_drew)); exact HO275.out⟩, ⟨by (with_reducible repeat (first | refine bkN ?_ _ | refine bkD ?_ | refine bkA ?_ _)); exact BK270.out⟩, ⟨by repeat (first | (with_reducible first | exact HB.out | apply pbA | apply pbN | apply pb1 | refine pbS ?_ GE270.out) | exact HB.out)⟩⟩
  case round =>
    clear H'
    try clear c1
    try clear p2
    try clear c4
    obtain ⟨x3_1, x4_1, rfl, HA, HK1, HO_3, BK270, HB⟩ := hrel
    cases gk with
    | zero => exact absurd HA.out (by simp [r11_Put.l0])
    | succ k1 =>
      have H := HA.out
      clear HA
      simp only [r11_Put.l0] at H
      by_cases c8 : x4_1 < (l0_2.length : Int)
      · rw [if_pos c8] at H
        have c8b0 : decide (x4_1 < (l0_2.length : Int)) = true := decide_eq_true c8
        clear c8
        by_cases c9 : 0 ≤ x4_1
        · rw [if_pos c9] at H
          have c9b0 : decide (0 ≤ x4_1) = true := decide_eq_true c9
          clear c9
          replace H := Option.bind_eq_some_iff.mp H
          obtain ⟨t277, A100, H⟩ := H
          replace H : ((some (([t277, (rd_T54 l0_2 x4_1).f1] : List ByteArray) : List ByteArray)).bind fun y279 => (if x3_1.length + y279.length < 8796093022208 then (r11_Put.l0 k1 (x3_1 ++ y279) (wrap64 (x4_1 + 1)) a0_0 a0_1 l0_2) else (none))) = some r := H
          have A10 := Az.mk A100
          clear A100
          obtain ⟨y279, hy279⟩ : ∃ y_ : List ByteArray, y_ = (([t277, (rd_T54 l0_2 x4_1).f1] : List ByteArray)) := ⟨_, rfl⟩
          replace H : (if x3_1.length + y279.length < 8796093022208 then (r11_Put.l0 k1 (x3_1 ++ y279) (wrap64 (x4_1 + 1)) a0_0 a0_1 l0_2) else (none)) = some r := by first | (rw [hy279]; with_reducible exact H) | (have H2_ := (Option.bind_some _ _).symm.trans H; rw [hy279]; with_reducible exact H2_) | (have H2_ := (Option.bind_some _ _).symm.trans H; with_reducible exact H2_) | with_reducible exact H | (rw [hy279]; exact H) | exact H
          have Ny279 := Az.mk hy279
          clear hy279
          by_cases c11 : x3_1.length + y279.length < 8796093022208
          · rw [if_pos c11] at H
            have LMc11 := Az.mk c11
            clear c11
            obtain ⟨y282, hy282⟩ : ∃ y_ : List ByteArray, y_ = (x3_1 ++ y279) := ⟨_, rfl⟩
            replace H : (r11_Put.l0 k1 y282 (wrap64 (x4_1 + 1)) a0_0 a0_1 l0_2) = some r := by first | (rw [hy282]; with_reducible exact H) | (have H2_ := (Option.bind_some _ _).symm.trans H; rw [hy282]; with_reducible exact H2_) | (have H2_ := (Option.bind_some _ _).symm.trans H; with_reducible exact H2_) | with_reducible exact H | (rw [hy282]; exact H) | exact H
            have Ny282 := Az.mk hy282
            clear hy282
            have H' := Az.mk H
            clear H
            have hcz12_0 : wr.cell? ⟨gb270, 0, none⟩ = some (.int .i64 a0_0) := (bkC BK270.out 0).trans rfl
            have hcz12_1 : wr.cell? ⟨gb270, 1, none⟩ = some (.int .i64 a0_1) := (bkC BK270.out 1).trans rfl
            have hcz12_2 : wr.cell? ⟨gb270, 2, none⟩ = some (.slice A0_2 l0_2.length c0_2) := (bkC BK270.out 2).trans rfl
            have hfz12_0 := bkF BK270.out 0
            have hfz12_1 := bkF BK270.out 1
            have hfz12_2 := bkF BK270.out 2
            try go_wp2
            have n0_ := Az.mk (Kd.R_drew HO_3.out)
            have n1_ := Az.mk (bkD BK270.out)
            have n2_ := Az.mk (pb1 HB.out)
            clear HO_3
            clear BK270
            clear HB
            have HO_3 := n0_
            have BK270 := n1_
            have HB := n2_
            clear n0_ n1_ n2_
            have p276 : 0 ≤ (x4_1 : Int) := of_decide_eq_true (by first | (with_reducible assumption) | assumption)
            have q276 : x4_1 < (l0_2.length : Int) := of_decide_eq_true (by first | (with_reducible assumption) | assumption)
            obtain ⟨ad276, e276, hx276_0, hx276_1⟩ := at_T54 HR0_2.out x4_1 p276 q276
            have hw276_1 := hx276_1
            have hw276_0 := hx276_0
            cases e276
            replace hx276_0 := (HB.out.cell (World.block_lt_of_cell? w _ hx276_0)).trans hx276_0
            replace hx276_1 := (HB.out.cell (World.block_lt_of_cell? w _ hx276_1)).trans hx276_1
            replace p276 := eq_true p276
            replace q276 := eq_true q276
            have p278 : 0 ≤ (x4_1 : Int) := of_decide_eq_true (by first | (with_reducible assumption) | assumption)
            have q278 : x4_1 < (l0_2.length : Int) := of_decide_eq_true (by first | (with_reducible assumption) | assumption)
            obtain ⟨ad278, e278, hx278_0, hx278_1⟩ := at_T54 HR0_2.out x4_1 p278 q278
            have hw278_1 := hx278_1
            have hw278_0 := hx278_0
            obtain rfl : ad276 = ad278 := (by injection e278)
            replace hx278_0 := (HB.out.cell (World.block_lt_of_cell? w _ hx278_0)).trans hx278_0
            replace hx278_1 := (HB.out.cell (World.block_lt_of_cell? w _ hx278_1)).trans hx278_1
            replace p278 := eq_true p278
            replace q278 := eq_true q278
            refine start_ (n := 17) (S := fun w' => w'.cell? ⟨gb270, 0, none⟩ = some (.int .i64 a0_0) ∧ w'.cell? ⟨gb270, 1, none⟩ = some (.int .i64 a0_1) ∧ w'.cell? ⟨gb270, 2, none⟩ = some (.slice (some ad276) l0_2.length c0_2) ∧ w'.cell? (ad276.add ((x4_1).toNat * 2)) = some (.int .i64 ((rd_T54 l0_2 x4_1).f0)) ∧ w'.cell? ⟨(ad276.add ((x4_1).toNat * 2)).block, (ad276.add ((x4_1).toNat * 2)).off + 1, none⟩ = some (.string ((rd_T54 l0_2 x4_1).f1)) ∧ w'.cell? (ad276.add ((x4_1).toNat * 2)) = some (.int .i64 ((rd_T54 l0_2 x4_1).f0)) ∧ w'.cell? ⟨(ad276.add ((x4_1).toNat * 2)).block, (ad276.add ((x4_1).toNat * 2)).off + 1, none⟩ = some (.string ((rd_T54 l0_2 x4_1).f1))) (ds := []) #[false, false, false, false, false, false, false, false, false, false, false, false, false, false, false, false, false] (by kernel_rfl) rfl rfl ⟨(bkC BK270.out 0).trans rfl, (bkC BK270.out 1).trans rfl, (bkC BK270.out 2).trans rfl, ((HB.out.cell (World.block_lt_of_cell? w _ hw276_0)).trans hw276_0), ((HB.out.cell (World.block_lt_of_cell? w _ hw276_1)).trans hw276_1), ((HB.out.cell (World.block_lt_of_cell? w _ hw278_0)).trans hw278_0), ((HB.out.cell (World.block_lt_of_cell? w _ hw278_1)).trans hw278_1)⟩ (fun hHeld => ?_); refine with_tabW r11_Put.tab5 r11_Put.bits5 (fun HT_ HW_ => ?_)
            generalize wr.drew = w13 at HO_3 BK270 HB hx276_0 hx276_1 hx278_0 hx278_1 hHeld ⊢
            refine pure_ (i := 0) (N := some 19) (v := ?_) (a' := ?_) #[true, false, false, false, false, false, false, false, false, false, false, false, false, false, false, false, false] rfl rfl (any_of HT_.out (by kernel_rfl)) (fun _ _ _ h => h) (Or.inl ⟨by rfl, ?_⟩) ?_ ?_
            rotate_left
            · intro w'
              go_simp
              with_reducible rfl
            rotate_left
            · simp only [Act.put, List.setIfInBounds_toArray, List.set_cons_zero, List.set_cons_succ, i64_w, i32_w]
              rfl
            refine pure_ (i := 1) (N := some 20) (v := ?_) (a' := ?_) #[true, true, false, false, false, false, false, false, false, false, false, false, false, false, false, false, false] rfl rfl (any_of HT_.out (by kernel_rfl)) (fun _ _ _ h => h) (Or.inl ⟨by rfl, ?_⟩) ?_ ?_
            rotate_left
            · intro w'
              go_simp
              with_reducible rfl
            rotate_left
            · simp only [Act.put, List.setIfInBounds_toArray, List.set_cons_zero, List.set_cons_succ, i64_w, i32_w]
              rfl
            refine pure_ (i := 3) (N := some 22) (v := ?_) (a' := ?_) #[true, true, false, true, false, false, false, false, false, false, false, false, false, false, false, false, false] rfl rfl (any_of HT_.out (by kernel_rfl)) (fun _ _ _ h => h) (Or.inl ⟨by rfl, ?_⟩) ?_ ?_
            rotate_left
            · intro w'
              go_simp
              with_reducible rfl
            rotate_left
            · simp only [Act.put, List.setIfInBounds_toArray, List.set_cons_zero, List.set_cons_succ, i64_w, i32_w]
              rfl
            refine pure_ (i := 8) (N := some 27) (v := ?_) (a' := ?_) #[true, true, false, true, false, false, false, false, true, false, false, false, false, false, false, false, false] rfl rfl (any_of HT_.out (by kernel_rfl)) (fun _ _ _ h => h) (Or.inl ⟨by rfl, ?_⟩) ?_ ?_
            rotate_left
            · intro w'
              go_simp
              with_reducible rfl
            rotate_left
            · simp only [Act.put, List.setIfInBounds_toArray, List.set_cons_zero, List.set_cons_succ, i64_w, i32_w]
              rfl
            refine pure_ (i := 10) (N := some 29) (v := ?_) (a' := ?_) #[true, true, false, true, false, false, false, false, true, false, true, false, false, false, false, false, false] rfl rfl (any_of HT_.out (by kernel_rfl)) (fun _ _ _ h => h) (Or.inl ⟨by rfl, ?_⟩) ?_ ?_
            rotate_left
            · intro w'
              go_simp
              with_reducible rfl
            rotate_left
            · simp only [Act.put, List.setIfInBounds_toArray, List.set_cons_zero, List.set_cons_succ, i64_w, i32_w]
              rfl
            refine take_ (i := 2) (N := some 21) (v := ?_) (a' := ?_) #[true, true, true, true, false, false, false, false, true, false, true, false, false, false, false, false, false] rfl rfl (take_ofW HT_.out HW_.out (by kernel_rfl)) (fun _ _ _ h => h) (Or.inl ⟨by rfl, ?_⟩) hHeld ?_ ?_
            rotate_left
            · rintro w' ⟨s0, s1, s2, s3, s4, s5, s6⟩
              go_simp
              with_reducible rfl
            rotate_left
            · simp only [Act.put, List.setIfInBounds_toArray, List.set_cons_zero, List.set_cons_succ, i64_w, i32_w]
              rfl
            refine pure_ (i := 4) (N := some 23) (v := ?_) (a' := ?_) #[true, true, true, true, true, false, false, false, true, false, true, false, false, false, false, false, false] rfl rfl (any_of HT_.out (by kernel_rfl)) (fun _ _ _ h => h) (Or.inl ⟨by rfl, ?_⟩) ?_ ?_
            rotate_left
            · intro w'
              go_simp
              with_reducible rfl
            rotate_left
            · simp only [Act.put, List.setIfInBounds_toArray, List.set_cons_zero, List.set_cons_succ, i64_w, i32_w]
              rfl
            refine pure_ (i := 5) (N := some 24) (v := ?_) (a' := ?_) #[true, true, true, true, true, true, false, false, true, false, true, false, false, false, false, false, false] rfl rfl (any_of HT_.out (by kernel_rfl)) (fun _ _ _ h => h) (Or.inl ⟨by rfl, ?_⟩) ?_ ?_
            rotate_left
            · intro w'
              go_simp
              with_reducible rfl
            rotate_left
            · simp only [Act.put, List.setIfInBounds_toArray, List.set_cons_zero, List.set_cons_succ, i64_w, i32_w]
              rfl
            refine take_ (i := 6) (N := some 25) (v := ?_) (a' := ?_) #[true, true, true, true, true, true, true, false, true, false, true, false, false, false, false, false, false] rfl rfl (take_ofW HT_.out HW_.out (by kernel_rfl)) (fun _ _ _ h => h) (Or.inl ⟨by rfl, ?_⟩) hHeld ?_ ?_
            rotate_left
            · rintro w' ⟨s0, s1, s2, s3, s4, s5, s6⟩
              go_simp
              with_reducible rfl
            rotate_left
            · simp only [Act.put, List.setIfInBounds_toArray, List.set_cons_zero, List.set_cons_succ, i64_w, i32_w]
              rfl
            refine take_ (i := 9) (N := some 28) (v := ?_) (a' := ?_) #[true, true, true, true, true, true, true, false, true, true, true, false, false, false, false, false, false] rfl rfl (take_ofW HT_.out HW_.out (by kernel_rfl)) (fun _ _ _ h => h) (Or.inl ⟨by rfl, ?_⟩) hHeld ?_ ?_
            rotate_left
            · rintro w' ⟨s0, s1, s2, s3, s4, s5, s6⟩
              go_simp
              with_reducible rfl
            rotate_left
            · simp only [Act.put, List.setIfInBounds_toArray, List.set_cons_zero, List.set_cons_succ, i64_w, i32_w]
              rfl
            refine pure_ (i := 11) (N := some 30) (v := ?_) (a' := ?_) #[true, true, true, true, true, true, true, false, true, true, true, true, false, false, false, false, false] rfl rfl (any_of HT_.out (by kernel_rfl)) (fun _ _ _ h => h) (Or.inl ⟨by rfl, ?_⟩) ?_ ?_
            rotate_left
            · intro w'
              go_simp
              with_reducible rfl
            rotate_left
            · simp only [Act.put, List.setIfInBounds_toArray, List.set_cons_zero, List.set_cons_succ, i64_w, i32_w]
              rfl
            refine pure_ (i := 12) (N := some 31) (v := ?_) (a' := ?_) #[true, true, true, true, true, true, true, false, true, true, true, true, true, false, false, false, false] rfl rfl (any_of HT_.out (by kernel_rfl)) (fun _ _ _ h => h) (Or.inl ⟨by rfl, ?_⟩) ?_ ?_
            rotate_left
            · intro w'
              go_simp
              with_reducible rfl
            rotate_left
            · simp only [Act.put, List.setIfInBounds_toArray, List.set_cons_zero, List.set_cons_succ, i64_w, i32_w]
              rfl
            refine take_ (i := 13) (N := some 32) (v := ?_) (a' := ?_) #[true, true, true, true, true, true, true, false, true, true, true, true, true, true, false, false, false] rfl rfl (take_ofW HT_.out HW_.out (by kernel_rfl)) (fun _ _ _ h => h) (Or.inl ⟨by rfl, ?_⟩) hHeld ?_ ?_
            rotate_left
            · rintro w' ⟨s0, s1, s2, s3, s4, s5, s6⟩
              go_simp
              with_reducible rfl
            rotate_left
            · simp only [Act.put, List.setIfInBounds_toArray, List.set_cons_zero, List.set_cons_succ, i64_w, i32_w]
              rfl
            refine one_ (i := 7) (N := some 26) #[true, true, true, true, true, true, true, true, true, true, true, true, true, true, false, false, false] rfl rfl (one_of HT_.out (by kernel_rfl)) (by decide) (fun K hK => ?_)
            refine goes_ Tryd.func42 (by kernel_rfl) rfl #[.int .i64 ((rd_T54 l0_2 x4_1).f0)] (by rfl) rfl rfl (by (try simp only [List.map_toArray, List.map_cons, List.map_nil]); first | done | rfl | (simp only [List.length_drop, List.length_take]; rfl)) ?_
            with_reducible refine (r01_Num.calls ((rd_T54 l0_2 x4_1).f0) t277 _ ?side1 A10.out).mono ?_
            (case side1 => exact hG.below (by repeat (first | (with_reducible first | exact HB.out | apply pbA | apply pbN | apply pb1 | refine pbS ?_ GE270.out) | exact HB.out)))
            rintro e w' ⟨rfl, ⟨nd, rfl⟩⟩
            refine ⟨_, rfl, ?_⟩
            refine hK.out _ _ ⟨(bkC BK270.out 0).trans rfl, (bkC BK270.out 1).trans rfl, (bkC BK270.out 2).trans rfl, ((HB.out.cell (World.block_lt_of_cell? w _ hw276_0)).trans hw276_0), ((HB.out.cell (World.block_lt_of_cell? w _ hw276_1)).trans hw276_1), ((HB.out.cell (World.block_lt_of_cell? w _ hw278_0)).trans hw278_0), ((HB.out.cell (World.block_lt_of_cell? w _ hw278_1)).trans hw278_1)⟩ (fun hHeld => ?_)
            clear hK K
            refine norm_ (a' := ?_) ?_ ?_
            rotate_left
            · show Act.put _ (some 26) _ = _
              simp only [Act.put, List.setIfInBounds_toArray, List.set_cons_zero, List.set_cons_succ, i64_w, i32_w]
              rfl
            refine one_ (i := 14) (N := some 33) #[true, true, true, true, true, true, true, true, true, true, true, true, true, true, true, false, false] rfl rfl (one_of HT_.out (by kernel_rfl)) (by decide) (fun K hK => ?_)
            refine Kd.R_lit_step Kd.string _ 9 ?hg (N := 33) ?hd (xs := ([t277, (rd_T54 l0_2 x4_1).f1] : List ByteArray)) (inner := [.string t277, .string ((rd_T54 l0_2 x4_1).f1)]) (ok := fun _ => True) (okp := fun _ => True) ?hr ?hp (fun _ hk => hk) trivial (Below.refl _ _) (Nat.le_refl _) (by simp) ?_; (case hd => rfl); (case hg => rfl); (case hr => first | (go_simp; done) | (go_simp; rfl)); (case hp => exact (Reps.one (show Kd.M Kd.string _ _ _ t277 [.string t277] from rfl) (Reps.one (show Kd.M Kd.string _ _ _ ((rd_T54 l0_2 x4_1).f1) [.string ((rd_T54 l0_2 x4_1).f1)] from rfl) (Reps.none _ _))))
            intro v280 w14 ho15 hb hg_ hnew_
            clear hg_ hnew_
            (first | rw [← Ny279.out] at ho15 | (simp only [Int.reduceToNat] at ho15; rw [← Ny279.out] at ho15))
            have n0_ := Az.mk (Kd.R_elder' (by (with_reducible repeat (first | apply Kd.R_alloc | apply Kd.R_drewN | apply Kd.R_drew)); exact HO_3.out) (Kd.R_base ho15) hb)
            have n1_ := Az.mk (Kd.R_lower (Kd.R_new' ho15 (Kd.R_lt (by (with_reducible repeat (first | apply Kd.R_alloc | apply Kd.R_drewN | apply Kd.R_drew)); exact HO_3.out))) (pbZ (by repeat (first | (with_reducible first | exact HB.out | apply pbA | apply pbN | apply pb1 | refine pbS ?_ GE270.out) | exact HB.out))))
            have n2_ := Az.mk (bkB (g := gb270) (o := .cells #[.int .i64 a0_0, .int .i64 a0_1, .slice (some ad276) l0_2.length c0_2] 24 (0, 0)) (by (with_reducible repeat (first | refine bkN ?_ _ | refine bkD ?_ | refine bkA ?_ _)); exact BK270.out) hb)
            have n3_ := Az.mk (pbT (by repeat (first | (with_reducible first | exact HB.out | apply pbA | apply pbN | apply pb1 | refine pbS ?_ GE270.out) | exact HB.out)) hb)
            clear HO_3
            clear BK270
            clear HB
            have HO_3 := n0_
            have HO281 := n1_
            have BK270 := n2_
            have HB := n3_
            clear n0_ n1_ n2_ n3_
            clear hb ho15
            obtain ⟨Ao17, co17, eo17⟩ := Kd.R_slice HO281.out
            (first | subst eo17 | (injection eo17 with f1_ f2_ f3_; have f4_ := f1_.symm; have f5_ := f3_.symm; clear f1_ f2_ f3_; subst f4_; subst f5_))
            refine hK.out _ _ ⟨(bkC BK270.out 0).trans rfl, (bkC BK270.out 1).trans rfl, (bkC BK270.out 2).trans rfl, ((HB.out.cell (World.block_lt_of_cell? w _ hw276_0)).trans hw276_0), ((HB.out.cell (World.block_lt_of_cell? w _ hw276_1)).trans hw276_1), ((HB.out.cell (World.block_lt_of_cell? w _ hw278_0)).trans hw278_0), ((HB.out.cell (World.block_lt_of_cell? w _ hw278_1)).trans hw278_1)⟩ (fun hHeld => ?_)
            clear hK K
            refine norm_ (a' := ?_) ?_ ?_
            rotate_left
            · show Act.put _ (some 33) _ = _
              simp only [Act.put, List.setIfInBounds_toArray, List.set_cons_zero, List.set_cons_succ, i64_w, i32_w]
              rfl
            refine one_ (i := 15) (N := some 34) #[true, true, true, true, true, true, true, true, true, true, true, true, true, true, true, true, false] rfl rfl (one_of HT_.out (by kernel_rfl)) (by decide) (fun K hK => ?_)
            refine Kd.R_append_rows_step Kd.string (w0 := w) w.heap.size (by rfl) (.tmp 19) (.tmp 33) 56 9 (.string ⟨#[]⟩) 16 rfl Tryd.underlying56 info9 rfl (by decide) (by omega) u3 x3_1 y279 _ _ _ (fun k_ => some k_ ≠ (.slice Ao17 y279.length co17 : Value).ownBlock) (fun _ => False) rfl rfl ?aO ?aR (fun _ _ h => h) (fun _ h => h.elim) ?aF ?aB ?aS ?aL ?_
            (case aR => repeat (first | exact (Kd.R_reads' HO281.out).2.2 | (with_reducible refine Kd.C_alloc ?_ _) | (with_reducible refine Kd.C_drewN ?_ _) | (with_reducible refine Kd.C_drew ?_)))
            (case aB => exact (by repeat (first | (with_reducible first | exact HB.out | apply pbA | apply pbN | apply pb1 | refine pbS ?_ GE270.out) | exact HB.out)))
            (case aF => exact (fun k_ hk => Kd.fresh' (Kd.R_lt (by (with_reducible repeat (first | apply Kd.R_alloc | apply Kd.R_drewN | apply Kd.R_drew)); exact HO281.out)) k_ hk))
            (case aO => exact (by (with_reducible repeat (first | apply Kd.R_alloc | apply Kd.R_drewN | apply Kd.R_drew)); exact Kd.R_mono HO_3.out (fun _ hk => hk.2)))
            (case aS => exact (pbZ (by repeat (first | (with_reducible first | exact HB.out | apply pbA | apply pbN | apply pb1 | refine pbS ?_ GE270.out) | exact HB.out))))
            (case aL => have := LMc11.out; omega)
            intro v283 w16 ho hb hg hat
            rw [← Ny282.out] at ho
            have n0_ := Az.mk (blk_grown (g := gb270) (o := .cells #[.int .i64 a0_0, .int .i64 a0_1, .slice (some ad276) l0_2.length c0_2] 24 (0, 0)) (by (with_reducible repeat (first | refine bkN ?_ _ | refine bkD ?_ | refine bkA ?_ _)); exact BK270.out) hg (Kd.R_ne HO_3.out BK270.out (by decide)))
            have n1_ := Az.mk (Kd.R_after (ok := (fun _ => True)) (by (with_reducible repeat (first | apply Kd.R_alloc | apply Kd.R_drewN | apply Kd.R_drew)); exact HO281.out) hg hat)
            have n2_ := Az.mk (hb)
            have n3_ := Az.mk (ho)
            clear BK270
            clear HO281
            clear HB
            clear HO_3
            have BK270 := n0_
            have HO281 := n1_
            have HB := n2_
            have HO284 := n3_
            clear n0_ n1_ n2_ n3_
            clear ho hb hg hat
            refine hK.out _ _ ⟨(bkC BK270.out 0).trans rfl, (bkC BK270.out 1).trans rfl, (bkC BK270.out 2).trans rfl, ((HB.out.cell (World.block_lt_of_cell? w _ hw276_0)).trans hw276_0), ((HB.out.cell (World.block_lt_of_cell? w _ hw276_1)).trans hw276_1), ((HB.out.cell (World.block_lt_of_cell? w _ hw278_0)).trans hw278_0), ((HB.out.cell (World.block_lt_of_cell? w _ hw278_1)).trans hw278_1)⟩ (fun hHeld => ?_)
            clear hK K
            refine norm_ (a' := ?_) ?_ ?_
            rotate_left
            · show Act.put _ (some 34) _ = _
              simp only [Act.put, List.setIfInBounds_toArray, List.set_cons_zero, List.set_cons_succ, i64_w, i32_w]
              rfl
            refine pure_ (i := 16) (N := some 3) (v := ?_) (a' := ?_) #[true, true, true, true, true, true, true, true, true, true, true, true, true, true, true, true, true] rfl rfl (any_of HT_.out (by kernel_rfl)) (fun _ _ _ h => h) (Or.inl ⟨by rfl, ?_⟩) ?_ ?_
            rotate_left
            · intro w'
              go_simp
              with_reducible rfl
            rotate_left
            · simp only [Act.put, List.setIfInBounds_toArray, List.set_cons_zero, List.set_cons_succ, i64_w, i32_w]
              rfl
            refine done_ (done_of HT_.out (by kernel_rfl)) ?_
            try go_wp2
            go_roundg k1
            case measure => have := HK1.out; omega
            case rel => exact ⟨(y282), (wrap64 (x4_1 + 1)), (by first | rfl | (simp; done) | (simp [*]; done)), H', ⟨by have := HK1.out; omega⟩, ⟨by (with_reducible repeat (first | apply Kd.R_alloc | apply Kd.R_drewN | apply Kd.R_drew)); exact Kd.R_mono HO284.out (fun _ hk => trivial)⟩, ⟨by (with_reducible repeat (first | refine bkN ?_ _ | refine bkD ?_ | refine bkA ?_ _)); exact BK270.out⟩, ⟨by repeat (first | (with_reducible first | exact HB.out | apply pbA | apply pbN | apply pb1 | refine pbS ?_ GE270.out) | exact HB.out)⟩⟩
          · rw [if_neg c11] at H
            exact absurd H (by simp)
        · rw [if_neg c9] at H
          exact absurd H (by simp)
      · rw [if_neg c8] at H
        have c8b0 : decide (x4_1 < (l0_2.length : Int)) = false := decide_eq_false c8
        clear c8
        replace H := Option.bind_eq_some_iff.mp H
        obtain ⟨t285, A180, H⟩ := H
        replace H : (some t285) = some r := H
        have A18 := Az.mk A180
        clear A180
        obtain rfl := Option.some.inj H
        have hcz19_0 : wr.cell? ⟨gb270, 0, none⟩ = some (.int .i64 a0_0) := (bkC BK270.out 0).trans rfl
        have hcz19_1 : wr.cell? ⟨gb270, 1, none⟩ = some (.int .i64 a0_1) := (bkC BK270.out 1).trans rfl
        have hcz19_2 : wr.cell? ⟨gb270, 2, none⟩ = some (.slice A0_2 l0_2.length c0_2) := (bkC BK270.out 2).trans rfl
        have hfz19_0 := bkF BK270.out 0
        have hfz19_1 := bkF BK270.out 1
        have hfz19_2 := bkF BK270.out 2
        obtain ⟨Ao20, co20, eo20⟩ := Kd.R_slice HO_3.out
        subst eo20
        go_wp2_with (first | ((with_reducible refine gtc (f := 43) rfl ?_); refine goesL_ (some 36) rfl rfl Tryd.func43 (by kernel_rfl) rfl #[.slice Ao20 x3_1.length co20] rfl (by (try simp only [List.map_toArray, List.map_cons, List.map_nil]); first | done | rfl | (simp only [List.length_drop, List.length_take]; rfl)) ?_; (with_reducible refine (r01_Tie.calls _ _ x3_1 t285 _ ?side1 ?side2 ?side3 A18.out).mono ?_); (case side1 => exact hG.below (by repeat (first | (with_reducible first | exact HB.out | apply pbA | apply pbN | apply pb1 | refine pbS ?_ GE270.out) | exact HB.out))); (case side2 => repeat (first | exact (Kd.R_reads' HO_3.out).2.2 | (with_reducible refine Kd.C_alloc ?_ _) | (with_reducible refine Kd.C_drewN ?_ _) | (with_reducible refine Kd.C_drew ?_))); (case side3 => exact (Kd.R_reads' HO_3.out).2.1); rintro e w' ⟨rfl, ⟨nd, rfl⟩⟩; refine ⟨_, rfl, ?_⟩))
        go_ret
        exact ⟨by first | rfl | (simp [errW_none, errW_some] <;> rfl) | (simp [*, errW_none, errW_some] <;> rfl), by repeat (first | (with_reducible first | exact HB.out | apply pbA | apply pbN | apply pb1 | refine pbS ?_ GE270.out) | exact HB.out)⟩
end Go.Proofs.YtjpihfjgomoijaaDoor.P
end
section
/- roll: Check, Is, Put, Parse and the reference's, told plainly. -/
namespace Go.Proofs.YtjpihfjgomoijaaDoor.V
open Go.RowKit Go.Proofs.YtjpihfjgomoijaaDoorW.PrintWords Go.Proofs.YtjpihfjgomoijaaDoorW.PrintLast Go.Proofs.YtjpihfjgomoijaaDoorW.PrintMore Go.Proofs.YtjpihfjgomoijaaDoor.P Go.Proofs.YtjpihfjgomoijaaDoor.K Go.Proofs.YtjpihfjgomoijaaDoor.A
/-- The entries' terms rise, from t on. -/
def rising (t : Int) : List S54 → Bool
  | [] => true
  | e :: r => decide (t ≤ e.f0) && decide (e.f0 ≤ 1099511627776) && rising e.f0 r
def okR (b bt : Int) (l : List S54) : Bool := decide (0 ≤ b ∧ b ≤ 1099511627776 ∧ 0 ≤ bt ∧ bt ≤ 1099511627776 ∧ (l.length : Int) ≤ 1099511627776 - b) && rising bt l
theorem within_eq (n a b : Int) : roll_within.f n a b = some (decide (a ≤ n ∧ n ≤ b)) := by
  unfold roll_within.f
  by_cases h1 : a ≤ n
  · by_cases h2 : n ≤ b
    · simp [h1, h2]
    · simp [h1, h2]
  · simp [h1]
theorem rd_lt {l : List S54} {i : Nat} (h : i < l.length) : rd_T54 l (i : Int) = l[i] := by simp [rd_T54, h]
theorem check_loop (l : List S54) (hm : l.length ≤ 1000000000) (t : Int) : Ev (fun k => roll_Check.l0 k t l (l.length : Int) 0) (if rising t l then 0 else 110) := by
  have := Ev.upto (F := fun k (t : Int) i => roll_Check.l0 k t l (l.length : Int) i) (n := l.length) (G := fun t i => if rising t (l.drop i) then (0 : Int) else 110) (I := fun _ _ => True)
    (by
      intro t i hi _ ih
      have hdrop : l.drop i = l[i] :: l.drop (i + 1) := List.drop_eq_getElem_cons hi
      simp only [roll_Check.l0, if_pos (lt_cast hi), if_pos (nn i), within_eq, Option.bind_some, wrap_nat (n := i) (by omega), rd_lt hi, hdrop, rising]
      refine Ev.ite (fun h => ?_) (fun h => ?_)
      · obtain ⟨h1, h2⟩ := of_decide_eq_true h
        rw [decide_eq_true h1, decide_eq_true h2, Bool.true_and, Bool.true_and]
        exact ih _ trivial
      · have : (decide (t ≤ l[i].f0) && decide (l[i].f0 ≤ 1099511627776)) = false := by
          rw [← Bool.decide_and]; exact decide_eq_false (fun h' => h (decide_eq_true h'))
        rw [this, Bool.false_and, if_neg (by simp)]
        exact Ev.now _)
    (by
      intro t _
      simp only [roll_Check.l0, if_neg (Int.lt_irrefl _), List.drop_length, rising, if_true]
      exact Ev.now _) 0 (Nat.zero_le _) t trivial
  exact this
theorem check_ev (b bt : Int) (l : List S54) (hm : l.length ≤ 1000000000) (hb : isI b) : Ev (fun k => roll_Check.f k b bt l) (if okR b bt l then 0 else 110) := by
  unfold isI at hb
  have hbad : Ev (fun k => roll_Check.j0 k true b bt l) 110 := by
    refine Ev.shift ?_
    simp only [roll_Check.j0, if_true]
    exact Ev.now _
  simp only [roll_Check.f, within_eq, Option.bind_some]
  refine Ev.ite (fun h1 => ?_) (fun h1 => ?_)
  · obtain ⟨h2, h3⟩ := of_decide_eq_true h1
    refine Ev.ite (fun h4 => ?_) (fun h4 => ?_)
    · obtain ⟨h5, h6⟩ := of_decide_eq_true h4
      rw [wrap_in (by omega) (by omega)]
      by_cases h7 : (l.length : Int) > 1099511627776 - b
      · have : okR b bt l = false := by unfold okR; rw [decide_eq_false (by omega)]; rfl
        rw [this, decide_eq_true h7]
        exact hbad
      · have : okR b bt l = rising bt l := by unfold okR; rw [decide_eq_true (by omega)]; rfl
        rw [this, decide_eq_false h7]
        refine Ev.shift ?_
        simp only [roll_Check.j0]
        exact Ev.ite (fun h => absurd h (by simp)) (fun _ => check_loop l hm bt)
    · have : okR b bt l = false := by unfold okR; rw [decide_eq_false (fun h => h4 (decide_eq_true ⟨h.2.2.1, h.2.2.2.1⟩))]; rfl
      rw [this]
      exact hbad
  · have : okR b bt l = false := by unfold okR; rw [decide_eq_false (fun h => h1 (decide_eq_true ⟨h.1, h.2.1⟩))]; rfl
    rw [this]
    exact hbad
theorem is_loop (b bt : Int) (l : List S54) (hm : l.length ≤ 1000000000) (t : Int) : Ev (fun k => r11_Is.l0 k t 0 b bt l) (rising t l) := by
  have := Ev.upto (F := fun k (t : Int) i => r11_Is.l0 k t i b bt l) (n := l.length) (G := fun t i => rising t (l.drop i)) (I := fun _ _ => True)
    (by
      intro t i hi _ ih
      have hdrop : l.drop i = l[i] :: l.drop (i + 1) := List.drop_eq_getElem_cons hi
      simp only [r11_Is.l0, if_pos (lt_cast hi), if_pos (nn i), wrap_nat (n := i) (by omega), rd_lt hi, hdrop, rising]
      refine Ev.ite (fun h => ?_) (fun h => Ev.ite (fun h2 => ?_) (fun h2 => ?_))
      · rw [decide_eq_false (by omega)]; exact Ev.now _
      · rw [decide_eq_false (p := l[i].f0 ≤ 1099511627776) (by omega), Bool.and_false, Bool.false_and]; exact Ev.now _
      · rw [decide_eq_true (by omega), decide_eq_true (p := l[i].f0 ≤ 1099511627776) (by omega), Bool.true_and, Bool.true_and]
        exact ih _ trivial)
    (by
      intro t _
      simp only [r11_Is.l0, if_neg (Int.lt_irrefl _), List.drop_length, rising]
      exact Ev.now _) 0 (Nat.zero_le _) t trivial
  exact this
theorem is_ev (b bt : Int) (l : List S54) (hm : l.length ≤ 1000000000) : Ev (fun k => r11_Is.f k b bt l) (okR b bt l) := by
  have hbad : Ev (fun k => r11_Is.j0 k true b bt l) false := by
    refine Ev.shift ?_
    simp only [r11_Is.j0, if_true]
    exact Ev.now _
  refine Ev.ite (fun h1 => ?_) (fun h1 => Ev.ite (fun h2 => ?_) (fun h2 => Ev.ite (fun h3 => ?_) (fun h3 => Ev.ite (fun h4 => ?_) (fun h4 => ?_))))
  iterate 4
    · have : okR b bt l = false := by unfold okR; rw [decide_eq_false (by omega)]; rfl
      rw [this]; exact hbad
  rw [wrap_in (by omega) (by omega)]
  by_cases h7 : (l.length : Int) > 1099511627776 - b
  · have : okR b bt l = false := by unfold okR; rw [decide_eq_false (by omega)]; rfl
    rw [this, decide_eq_true h7]
    exact hbad
  · have : okR b bt l = rising bt l := by unfold okR; rw [decide_eq_true (by omega)]; rfl
    rw [this, decide_eq_false h7]
    refine Ev.shift ?_
    simp only [r11_Is.j0]
    exact Ev.ite (fun h => absurd h (by simp)) (fun _ => is_loop b bt l hm bt)
/-! ### Put -/
def putE (l : List S54) : List ByteArray := l.flatMap fun e => [B (Lib.itoa e.f0), e.f1]
def putR (b bt : Int) (l : List S54) : List ByteArray := [B (Lib.itoa b), B (Lib.itoa bt)] ++ putE l
theorem putE_length (l : List S54) : (putE l).length = 2 * l.length := by
  induction l with
  | nil => rfl
  | cons e l ih => simp only [putE, List.flatMap_cons, List.length_append, List.length_cons, List.length_nil] at ih ⊢; omega
theorem put_ev (b bt : Int) (l : List S54) (hm : l.length ≤ 1000000) (hb : isI b) (hbt : isI bt) (he : ∀ e ∈ l, isI e.f0) (ht : (tieD (datas (putR b bt l))).length ≤ 140737488355328) : Ev (fun k => roll_Put.f k b bt l) (B (tieD (datas (putR b bt l)))) := by
  simp only [roll_Put.f, num_eq hb, num_eq hbt, Option.bind_some]
  have := Ev.upto (F := fun k (s : List ByteArray) i => roll_Put.l0 k s l (l.length : Int) i) (n := l.length) (G := fun s i => B (tieD (datas (s ++ putE (l.drop i))))) (I := fun s i => s.length ≤ 2 + 2 * i ∧ (tieD (datas (s ++ putE (l.drop i)))).length ≤ 140737488355328)
    (by
      intro s i hi hI ih
      have hdrop : l.drop i = l[i] :: l.drop (i + 1) := List.drop_eq_getElem_cons hi
      have hl : s.length + 2 < 8796093022208 := by omega
      simp only [roll_Put.l0, if_pos (lt_cast hi), if_pos (nn i), wrap_nat (n := i) (by omega), rd_lt hi, num_eq (he _ (List.getElem_mem hi)), Option.bind_some, List.length_cons, List.length_nil, Nat.zero_add, Nat.reduceAdd, if_pos hl]
      have e : s ++ putE (l.drop i) = (s ++ [B (Lib.itoa l[i].f0), l[i].f1]) ++ putE (l.drop (i + 1)) := by rw [hdrop, List.append_assoc]; rfl
      rw [e]
      refine ih _ ⟨by simp; omega, ?_⟩
      rw [← e]; exact hI.2)
    (by
      intro s hI
      have h2 := hI.2
      rw [List.drop_length] at h2 ⊢
      have e : s ++ putE [] = s := by simp [putE]
      rw [e] at h2 ⊢
      simp only [roll_Put.l0, if_neg (Int.lt_irrefl _), ktie h2, Option.bind_some]
      exact Ev.now _) 0 (Nat.zero_le _) [B (Lib.itoa b), B (Lib.itoa bt)] ⟨by simp, by rw [List.drop_zero]; exact ht⟩
  exact this
theorem rput_ev (b bt : Int) (l : List S54) (hm : l.length ≤ 1000000) (hb : isI b) (hbt : isI bt) (he : ∀ e ∈ l, isI e.f0) (ht : (tieD (datas (putR b bt l))).length ≤ 140737488355328) : Ev (fun k => r11_Put.f k b bt l) (B (tieD (datas (putR b bt l)))) := by
  simp only [r11_Put.f, rnum_eq hb, rnum_eq hbt, Option.bind_some]
  have := Ev.upto (F := fun k (s : List ByteArray) i => r11_Put.l0 k s i b bt l) (n := l.length) (G := fun s i => B (tieD (datas (s ++ putE (l.drop i))))) (I := fun s i => s.length ≤ 2 + 2 * i ∧ (tieD (datas (s ++ putE (l.drop i)))).length ≤ 140737488355328)
    (by
      intro s i hi hI ih
      have hdrop : l.drop i = l[i] :: l.drop (i + 1) := List.drop_eq_getElem_cons hi
      have hl : s.length + 2 < 8796093022208 := by omega
      simp only [r11_Put.l0, if_pos (lt_cast hi), if_pos (nn i), wrap_nat (n := i) (by omega), rd_lt hi, rnum_eq (he _ (List.getElem_mem hi)), Option.bind_some, List.length_cons, List.length_nil, Nat.zero_add, Nat.reduceAdd, if_pos hl]
      have e : s ++ putE (l.drop i) = (s ++ [B (Lib.itoa l[i].f0), l[i].f1]) ++ putE (l.drop (i + 1)) := by rw [hdrop, List.append_assoc]; rfl
      rw [e]
      refine ih _ ⟨by simp; omega, ?_⟩
      rw [← e]; exact hI.2)
    (by
      intro s hI
      have h2 := hI.2
      rw [List.drop_length] at h2 ⊢
      have e : s ++ putE [] = s := by simp [putE]
      rw [e] at h2 ⊢
      simp only [r11_Put.l0, if_neg (Int.lt_irrefl _), rtie (show (tieD (datas s)).length ≤ 140737488355328 from h2), Option.bind_some]
      exact Ev.now _) 0 (Nat.zero_le _) [B (Lib.itoa b), B (Lib.itoa bt)] ⟨by simp, by rw [List.drop_zero]; exact ht⟩
  exact this
end Go.Proofs.YtjpihfjgomoijaaDoor.V
end
section
-- Written by a program of this session (wip/tools/pr.py), over the kit's printer; functions named in the texts imported below are given by hand.
namespace Go.Proofs.YtjpihfjgomoijaaDoor.P
open Go.RowKit Go.Proofs.YtjpihfjgomoijaaDoor.K Go.Proofs.YtjpihfjgomoijaaDoorW.PrintWords Go.Proofs.YtjpihfjgomoijaaDoorW.PrintLast Go.Proofs.YtjpihfjgomoijaaDoorW.PrintMore
attribute [local go_sem] max2_int min2_int max_two min_two max_three min_three max_four min_four   -- for this text's walks alone
/-! ### l11_small: function 8 -/
def l11_small.l0 : Nat → Int → Int → Int → Int → List (S54) → Option (Bool)
  | 0, _, _, _, _, _ => none
  | k + 1, x3, x4, x102000, x102001, x102002 => if x4 < (x102002.length : Int) then (if x4 ≤ 60 then (if x3 ≤ 10000 then (if 0 ≤ x4 then (l11_small.l0 k (wrap64 (x3 + (((rd_T54 x102002 x4).f1).size : Int))) (wrap64 (x4 + 1)) x102000 x102001 x102002) else (none)) else (if (x102002.length : Int) ≤ 60 then (some (decide (x3 ≤ 10000))) else (some false))) else (if (x102002.length : Int) ≤ 60 then (some (decide (x3 ≤ 10000))) else (some false))) else (if (x102002.length : Int) ≤ 60 then (some (decide (x3 ≤ 10000))) else (some false))
def l11_small.f (k : Nat) (a0_0 : Int) (a0_1 : Int) (l0_2 : List (S54)) : Option (Bool) := l11_small.l0 k 0 0 a0_0 a0_1 l0_2
theorem l11_small.mono_l : ∀ k, (∀ y0 y1 y2 y3 y4, LeO (l11_small.l0 k y0 y1 y2 y3 y4) (l11_small.l0 (k + 1) y0 y1 y2 y3 y4))
  | 0 => fun _ _ _ _ _ r h => by simp [l11_small.l0] at h
  | k + 1 => by
    have ih0 := l11_small.mono_l k
    · intro y0 y1 y2 y3 y4
      unfold l11_small.l0
      repeat' first
      | (with_reducible exact ih0 _ _ _ _ _)
      | (with_reducible exact LeO.refl _)
      | (with_reducible exact LeO.none _)
      | (with_reducible refine LeO.ite ?_ ?_)
      | (with_reducible refine LeO.bind ?_ (fun _ => ?_))
      | exact ih0 _ _ _ _ _
      | exact LeO.none _
      | refine LeO.ite ?_ ?_
      | refine LeO.bind ?_ (fun _ => ?_)
theorem l11_small.mono : ∀ a0 a1 a2 k, LeO (l11_small.f k a0 a1 a2) (l11_small.f (k + 1) a0 a1 a2) := by
  intro a0 a1 a2 k
  have ih0 := l11_small.mono_l k
  unfold l11_small.f
  repeat' first
      | (with_reducible exact ih0 _ _ _ _ _)
      | (with_reducible exact LeO.refl _)
      | (with_reducible exact LeO.none _)
      | (with_reducible refine LeO.ite ?_ ?_)
      | (with_reducible refine LeO.bind ?_ (fun _ => ?_))
      | exact ih0 _ _ _ _ _
      | exact LeO.none _
      | refine LeO.ite ?_ ?_
      | refine LeO.bind ?_ (fun _ => ?_)
set_option maxHeartbeats 8000000 in
set_option maxRecDepth 100000 in
theorem l11_small.calls (k : Nat) (a0_0 : Int) (a0_1 : Int) (A0_2 : Option Addr) (c0_2 : Nat) (l0_2 : List (S54)) (r : Bool) (w : World) (hG : TheG w) (hr0_2 : Kd.C k54 w A0_2 l0_2.length l0_2) (hc0_2 : l0_2.length ≤ c0_2) (h : l11_small.f k a0_0 a0_1 l0_2 = some r) :
    Calls Tryd.prog 8 #[.agg #[.int .i64 a0_0, .int .i64 a0_1, .slice A0_2 l0_2.length c0_2]] w fun e w' => e = .returned (.bool r) ∧ Below w.heap.size w w' := by
  have hu24 := Tryd.underlying24
  have HR0_2 := Az.mk hr0_2
  have HC0_2 := Az.mk hc0_2
  clear hr0_2 hc0_2
  have HB := Az.mk (Below.refl w.heap.size w)
  have H : (l11_small.l0 k 0 0 a0_0 a0_1 l0_2) = some r := h
  clear h
  have H' := Az.mk H
  clear H
  go_enter Tryd.func8, Tryd.ntmps8
  go_wp2_with (first | ((with_reducible refine gate_dst (N := 1) rfl ?_); refine box_event ?hg (N := 1) ?hd (cs := #[.int .i64 a0_0, .int .i64 a0_1, .slice A0_2 l0_2.length c0_2]) (t := 24) ?hr ?_; (case hd => rfl); (case hg => rfl); (case hr => first | (go_simp; done) | (go_simp; rfl)); intro gb101 hg w2 hbox hb; have n0_ := Az.mk (pbT (by repeat (first | (with_reducible first | exact HB.out | apply pbA | apply pbN | apply pb1) | exact HB.out)) hb); have n1_ := Az.mk (hbox); have n2_ := Az.mk ((by rw [hg]; exact (pbZ (by repeat (first | (with_reducible first | exact HB.out | apply pbA | apply pbN | apply pb1) | exact HB.out))) : w.heap.size ≤ gb101)); have n3_ := Az.mk ((by rw [hg]; exact (pbZ (by repeat (first | (with_reducible first | exact HB.out | apply pbA | apply pbN | apply pb1) | exact HB.out))) : w.heap.size ≤ gb101)); clear HB; have HB := n0_; have BK101 := n1_; have GW101 := n2_; have GE101 := n3_; clear n0_ n1_ n2_ n3_; clear hb hbox hg))
  go_loopg [3, 4] k (fun kq v3 v4 w' => ∃ (x3_1 : Int) (x4_1 : Int), v3 = .int .i64 x3_1 ∧ v4 = .int .i64 x4_1 ∧ Az (l11_small.l0 kq x3_1 x4_1 a0_0 a0_1 l0_2 = some r) ∧ Az (kq ≤ k) ∧ Az (w'.heap[gb101]? = some (.cells #[.int .i64 a0_0, .int .i64 a0_1, (.slice A0_2 l0_2.length c0_2)] 24 (0, 0))) ∧ Az (Below w.heap.size w w'))
  case atStart => exact ⟨(0), (0), (by first | rfl | (simp; done) | (simp [*]; done)), (by first | rfl | (simp; done) | (simp [*]; done)), H', ⟨Nat.le_refl _⟩, ⟨by (with_reducible repeat (first | refine bkN ?_ _ | refine bkD ?_ | refine bkA ?_ _)); exact BK101.out⟩, ⟨by repeat (first | (with_reducible first | exact HB.out | apply pbA | apply pbN | apply pb1 | refine pbS ?_ GE101.out) | exact HB.out)⟩⟩
  case round =>
    clear H'
    try clear p2
    obtain ⟨x3_1, x4_1, rfl, rfl, HA, HK1, BK101, HB⟩ := hrel
    cases gk with
    | zero => exact absurd HA.out (by simp [l11_small.l0])
    | succ k1 =>
      have H := HA.out
      clear HA
      simp only [l11_small.l0] at H
      by_cases c3 : x4_1 < (l0_2.length : Int)
      · rw [if_pos c3] at H
        have c3b0 : decide (x4_1 < (l0_2.length : Int)) = true := decide_eq_true c3
        clear c3
        by_cases c4 : x4_1 ≤ 60
        · rw [if_pos c4] at H
          have c4b0 : decide (x4_1 ≤ 60) = true := decide_eq_true c4
          clear c4
          by_cases c5 : x3_1 ≤ 10000
          · rw [if_pos c5] at H
            have c5b0 : decide (x3_1 ≤ 10000) = true := decide_eq_true c5
            clear c5
            by_cases c6 : 0 ≤ x4_1
            · rw [if_pos c6] at H
              have c6b0 : decide (0 ≤ x4_1) = true := decide_eq_true c6
              clear c6
              have H' := Az.mk H
              clear H
              have hcz7_0 : wr.cell? ⟨gb101, 0, none⟩ = some (.int .i64 a0_0) := (bkC BK101.out 0).trans rfl
              have hcz7_1 : wr.cell? ⟨gb101, 1, none⟩ = some (.int .i64 a0_1) := (bkC BK101.out 1).trans rfl
              have hcz7_2 : wr.cell? ⟨gb101, 2, none⟩ = some (.slice A0_2 l0_2.length c0_2) := (bkC BK101.out 2).trans rfl
              have hfz7_0 := bkF BK101.out 0
              have hfz7_1 := bkF BK101.out 1
              have hfz7_2 := bkF BK101.out 2
              have p102 : 0 ≤ (x4_1 : Int) := of_decide_eq_true (by first | (with_reducible assumption) | assumption)
              have q102 : x4_1 < (l0_2.length : Int) := of_decide_eq_true (by first | (with_reducible assumption) | assumption)
              obtain ⟨ad102, e102, hx102_0, hx102_1⟩ := at_T54 HR0_2.out x4_1 p102 q102
              cases e102
              replace hx102_0 := (HB.out.cell (World.block_lt_of_cell? w _ hx102_0)).trans hx102_0
              replace hx102_1 := (HB.out.cell (World.block_lt_of_cell? w _ hx102_1)).trans hx102_1
              replace p102 := eq_true p102
              replace q102 := eq_true q102
              go_wp2
              go_roundg k1
              case measure => have := HK1.out; omega
              case rel => exact ⟨(wrap64 (x3_1 + (((rd_T54 l0_2 x4_1).f1).size : Int))), (wrap64 (x4_1 + 1)), (by first | rfl | (simp; done) | (simp [*]; done)), (by first | rfl | (simp; done) | (simp [*]; done)), H', ⟨by have := HK1.out; omega⟩, ⟨by (with_reducible repeat (first | refine bkN ?_ _ | refine bkD ?_ | refine bkA ?_ _)); exact BK101.out⟩, ⟨by repeat (first | (with_reducible first | exact HB.out | apply pbA | apply pbN | apply pb1 | refine pbS ?_ GE101.out) | exact HB.out)⟩⟩
            · rw [if_neg c6] at H
              exact absurd H (by simp)
          · rw [if_neg c5] at H
            have c5b0 : decide (x3_1 ≤ 10000) = false := decide_eq_false c5
            clear c5
            by_cases c8 : (l0_2.length : Int) ≤ 60
            · rw [if_pos c8] at H
              have c8b0 : decide ((l0_2.length : Int) ≤ 60) = true := decide_eq_true c8
              have c8b1 : decide (l0_2.length ≤ 60) = true := decide_eq_true (by omega)
              clear c8
              obtain rfl := Option.some.inj H
              have hcz9_0 : wr.cell? ⟨gb101, 0, none⟩ = some (.int .i64 a0_0) := (bkC BK101.out 0).trans rfl
              have hcz9_1 : wr.cell? ⟨gb101, 1, none⟩ = some (.int .i64 a0_1) := (bkC BK101.out 1).trans rfl
              have hcz9_2 : wr.cell? ⟨gb101, 2, none⟩ = some (.slice A0_2 l0_2.length c0_2) := (bkC BK101.out 2).trans rfl
              have hfz9_0 := bkF BK101.out 0
              have hfz9_1 := bkF BK101.out 1
              have hfz9_2 := bkF BK101.out 2
              go_wp2
              go_ret
              exact ⟨by first | rfl | (simp [errW_none, errW_some] <;> rfl) | (simp [*, errW_none, errW_some] <;> rfl), by repeat (first | (with_reducible first | exact HB.out | apply pbA | apply pbN | apply pb1 | refine pbS ?_ GE101.out) | exact HB.out)⟩
            · rw [if_neg c8] at H
              have c8b0 : decide ((l0_2.length : Int) ≤ 60) = false := decide_eq_false c8
              have c8b1 : decide (l0_2.length ≤ 60) = false := decide_eq_false (by omega)
              clear c8
              obtain rfl := Option.some.inj H
              have hcz10_0 : wr.cell? ⟨gb101, 0, none⟩ = some (.int .i64 a0_0) := (bkC BK101.out 0).trans rfl
              have hcz10_1 : wr.cell? ⟨gb101, 1, none⟩ = some (.int .i64 a0_1) := (bkC BK101.out 1).trans rfl
              have hcz10_2 : wr.cell? ⟨gb101, 2, none⟩ = some (.slice A0_2 l0_2.length c0_2) := (bkC BK101.out 2).trans rfl
              have hfz10_0 := bkF BK101.out 0
              have hfz10_1 := bkF BK101.out 1
              have hfz10_2 := bkF BK101.out 2
              go_wp2
              go_ret
              exact ⟨by first | rfl | (simp [errW_none, errW_some] <;> rfl) | (simp [*, errW_none, errW_some] <;> rfl), by repeat (first | (with_reducible first | exact HB.out | apply pbA | apply pbN | apply pb1 | refine pbS ?_ GE101.out) | exact HB.out)⟩
        · rw [if_neg c4] at H
          have c4b0 : decide (x4_1 ≤ 60) = false := decide_eq_false c4
          clear c4
          by_cases c11 : (l0_2.length : Int) ≤ 60
          · rw [if_pos c11] at H
            have c11b0 : decide ((l0_2.length : Int) ≤ 60) = true := decide_eq_true c11
            have c11b1 : decide (l0_2.length ≤ 60) = true := decide_eq_true (by omega)
            clear c11
            obtain rfl := Option.some.inj H
            have hcz12_0 : wr.cell? ⟨gb101, 0, none⟩ = some (.int .i64 a0_0) := (bkC BK101.out 0).trans rfl
            have hcz12_1 : wr.cell? ⟨gb101, 1, none⟩ = some (.int .i64 a0_1) := (bkC BK101.out 1).trans rfl
            have hcz12_2 : wr.cell? ⟨gb101, 2, none⟩ = some (.slice A0_2 l0_2.length c0_2) := (bkC BK101.out 2).trans rfl
            have hfz12_0 := bkF BK101.out 0
            have hfz12_1 := bkF BK101.out 1
            have hfz12_2 := bkF BK101.out 2
            go_wp2
            go_ret
            exact ⟨by first | rfl | (simp [errW_none, errW_some] <;> rfl) | (simp [*, errW_none, errW_some] <;> rfl), by repeat (first | (with_reducible first | exact HB.out | apply pbA | apply pbN | apply pb1 | refine pbS ?_ GE101.out) | exact HB.out)⟩
          · rw [if_neg c11] at H
            have c11b0 : decide ((l0_2.length : Int) ≤ 60) = false := decide_eq_false c11
            have c11b1 : decide (l0_2.length ≤ 60) = false := decide_eq_false (by omega)
            clear c11
            obtain rfl := Option.some.inj H
            have hcz13_0 : wr.cell? ⟨gb101, 0, none⟩ = some (.int .i64 a0_0) := (bkC BK101.out 0).trans rfl
            have hcz13_1 : wr.cell? ⟨gb101, 1, none⟩ = some (.int .i64 a0_1) := (bkC BK101.out 1).trans rfl
            have hcz13_2 : wr.cell? ⟨gb101, 2, none⟩ = some (.slice A0_2 l0_2.length c0_2) := (bkC BK101.out 2).trans rfl
            have hfz13_0 := bkF BK101.out 0
            have hfz13_1 := bkF BK101.out 1
            have hfz13_2 := bkF BK101.out 2
            go_wp2
            go_ret
            exact ⟨by first | rfl | (simp [errW_none, errW_some] <;> rfl) | (simp [*, errW_none, errW_some] <;> rfl), by repeat (first | (with_reducible first | exact HB.out | apply pbA | apply pbN | apply pb1 | refine pbS ?_ GE101.out) | exact HB.out)⟩
      · rw [if_neg c3] at H
        have c3b0 : decide (x4_1 < (l0_2.length : Int)) = false := decide_eq_false c3
        clear c3
        by_cases c14 : (l0_2.length : Int) ≤ 60
        · rw [if_pos c14] at H
          have c14b0 : decide ((l0_2.length : Int) ≤ 60) = true := decide_eq_true c14
          have c14b1 : decide (l0_2.length ≤ 60) = true := decide_eq_true (by omega)
          clear c14
          obtain rfl := Option.some.inj H
          have hcz15_0 : wr.cell? ⟨gb101, 0, none⟩ = some (.int .i64 a0_0) := (bkC BK101.out 0).trans rfl
          have hcz15_1 : wr.cell? ⟨gb101, 1, none⟩ = some (.int .i64 a0_1) := (bkC BK101.out 1).trans rfl
          have hcz15_2 : wr.cell? ⟨gb101, 2, none⟩ = some (.slice A0_2 l0_2.length c0_2) := (bkC BK101.out 2).trans rfl
          have hfz15_0 := bkF BK101.out 0
          have hfz15_1 := bkF BK101.out 1
          have hfz15_2 := bkF BK101.out 2
          go_wp2
          go_ret
          exact ⟨by first | rfl | (simp [errW_none, errW_some] <;> rfl) | (simp [*, errW_none, errW_some] <;> rfl), by repeat (first | (with_reducible first | exact HB.out | apply pbA | apply pbN | apply pb1 | refine pbS ?_ GE101.out) | exact HB.out)⟩
        · rw [if_neg c14] at H
          have c14b0 : decide ((l0_2.length : Int) ≤ 60) = false := decide_eq_false c14
          have c14b1 : decide (l0_2.length ≤ 60) = false := decide_eq_false (by omega)
          clear c14
          obtain rfl := Option.some.inj H
          have hcz16_0 : wr.cell? ⟨gb101, 0, none⟩ = some (.int .i64 a0_0) := (bkC BK101.out 0).trans rfl
          have hcz16_1 : wr.cell? ⟨gb101, 1, none⟩ = some (.int .i64 a0_1) := (bkC BK101.out 1).trans rfl
          have hcz16_2 : wr.cell? ⟨gb101, 2, none⟩ = some (.slice A0_2 l0_2.length c0_2) := (bkC BK101.out 2).trans rfl
          have hfz16_0 := bkF BK101.out 0
          have hfz16_1 := bkF BK101.out 1
          have hfz16_2 := bkF BK101.out 2
          go_wp2
          go_ret
          exact ⟨by first | rfl | (simp [errW_none, errW_some] <;> rfl) | (simp [*, errW_none, errW_some] <;> rfl), by repeat (first | (with_reducible first | exact HB.out | apply pbA | apply pbN | apply pb1 | refine pbS ?_ GE101.out) | exact HB.out)⟩
end Go.Proofs.YtjpihfjgomoijaaDoor.P
end
section
-- Written by a program of this session (wip/tools/pr.py), over the kit's printer; functions named in the texts imported below are given by hand.
namespace Go.Proofs.YtjpihfjgomoijaaDoor.P
open Go.RowKit Go.Proofs.YtjpihfjgomoijaaDoor.K Go.Proofs.YtjpihfjgomoijaaDoorW.PrintWords Go.Proofs.YtjpihfjgomoijaaDoorW.PrintLast Go.Proofs.YtjpihfjgomoijaaDoorW.PrintMore
attribute [local go_sem] max2_int min2_int max_two min_two max_three min_three max_four min_four   -- for this text's walks alone
theorem eqA54 (d : Nat) (w : World) (x0 y0 : Int) (x1 y1 : ByteArray) :
    (Op.equalIn (d + 2) 54 (.agg #[.int .i64 x0, .string x1]) (.agg #[.int .i64 y0, .string y1])).run Tryd.prog w = .ok (x0 == y0 && (x1.toList == y1.toList)) w := by
  refine eqA_of Tryd.underlying54 (by kernel_rfl) ?_
  refine eqf_cons (by rfl) (by go_simp; rfl) (by go_simp; rfl) (by go_simp) ?_
  exact eqf_last (by rfl) (by go_simp; rfl) (by go_simp; rfl) (by go_simp)
end Go.Proofs.YtjpihfjgomoijaaDoor.P
end
section
-- Written by a program of this session (wip/tools/pr.py), over the kit's printer; functions named in the texts imported below are given by hand.
namespace Go.Proofs.YtjpihfjgomoijaaDoor.P
open Go.RowKit Go.Proofs.YtjpihfjgomoijaaDoor.K Go.Proofs.YtjpihfjgomoijaaDoorW.PrintWords Go.Proofs.YtjpihfjgomoijaaDoorW.PrintLast Go.Proofs.YtjpihfjgomoijaaDoorW.PrintMore
attribute [local go_sem] max2_int min2_int max_two min_two max_three min_three max_four min_four   -- for this text's walks alone
attribute [local go_sem high] eqA54
/-! ### r11_Entries: function 25 -/
def r11_Entries.l0 : Nat → List (S54) → List (S54) → Int → Option (Bool)
  | 0, _, _, _ => none
  | k + 1, x0, x1, x5 => if x5 < (x0.length : Int) then (if 0 ≤ x5 then (if x5 < (x1.length : Int) then (if (!(((rd_T54 x0 x5).f0) == ((rd_T54 x1 x5).f0)) || (!((((rd_T54 x0 x5).f1).toList) == (((rd_T54 x1 x5).f1).toList)))) = true then (some false) else (r11_Entries.l0 k x0 x1 (wrap64 (x5 + 1)))) else (none)) else (none)) else (some true)
def r11_Entries.f (k : Nat) (l0 : List (S54)) (l1 : List (S54)) : Option (Bool) := if (l0.length : Int) = (l1.length : Int) then (r11_Entries.l0 k l0 l1 0) else (some false)
theorem r11_Entries.mono_l : ∀ k, (∀ y0 y1 y2, LeO (r11_Entries.l0 k y0 y1 y2) (r11_Entries.l0 (k + 1) y0 y1 y2))
  | 0 => fun _ _ _ r h => by simp [r11_Entries.l0] at h
  | k + 1 => by
    have ih0 := r11_Entries.mono_l k
    · intro y0 y1 y2
      unfold r11_Entries.l0
      repeat' first
      | (with_reducible exact ih0 _ _ _)
      | (with_reducible exact LeO.refl _)
      | (with_reducible exact LeO.none _)
      | (with_reducible refine LeO.ite ?_ ?_)
      | (with_reducible refine LeO.bind ?_ (fun _ => ?_))
      | exact ih0 _ _ _
      | exact LeO.none _
      | refine LeO.ite ?_ ?_
      | refine LeO.bind ?_ (fun _ => ?_)
theorem r11_Entries.mono : ∀ a0 a1 k, LeO (r11_Entries.f k a0 a1) (r11_Entries.f (k + 1) a0 a1) := by
  intro a0 a1 k
  have ih0 := r11_Entries.mono_l k
  unfold r11_Entries.f
  repeat' first
      | (with_reducible exact ih0 _ _ _)
      | (with_reducible exact LeO.refl _)
      | (with_reducible exact LeO.none _)
      | (with_reducible refine LeO.ite ?_ ?_)
      | (with_reducible refine LeO.bind ?_ (fun _ => ?_))
      | exact ih0 _ _ _
      | exact LeO.none _
      | refine LeO.ite ?_ ?_
      | refine LeO.bind ?_ (fun _ => ?_)
set_option maxHeartbeats 8000000 in
set_option maxRecDepth 100000 in
theorem r11_Entries.calls (k : Nat) (A0 : Option Addr) (c0 : Nat) (l0 : List (S54)) (A1 : Option Addr) (c1 : Nat) (l1 : List (S54)) (r : Bool) (w : World) (hG : TheG w) (hr0 : Kd.C k54 w A0 l0.length l0) (hc0 : l0.length ≤ c0) (hr1 : Kd.C k54 w A1 l1.length l1) (hc1 : l1.length ≤ c1) (h : r11_Entries.f k l0 l1 = some r) :
    Calls Tryd.prog 25 #[.slice A0 l0.length c0, .slice A1 l1.length c1] w fun e w' => e = .returned (.bool r) ∧ Drawn0 w w' := by
  have hu54 := Tryd.underlying54
  have HR0 := Az.mk hr0
  have HC0 := Az.mk hc0
  clear hr0 hc0
  have HR1 := Az.mk hr1
  have HC1 := Az.mk hc1
  clear hr1 hc1
  have H : (if (l0.length : Int) = (l1.length : Int) then (r11_Entries.l0 k l0 l1 0) else (some false)) = some r := h
  clear h
  by_cases c3 : (l0.length : Int) = (l1.length : Int)
  · rw [if_pos c3] at H
    have c3b0 : ((l0.length : Int) == (l1.length : Int)) = true := beq_iff_eq.mpr c3
    have c3b1 : ((l0.length : Int) != (l1.length : Int)) = false := bne_eq_false_iff_eq.mpr c3
    have c3b2 : (l0.length == l1.length) = true := by first | simpa using c3 | (simp at c3 ⊢; omega)
    clear c3
    have H' := Az.mk H
    clear H
    go_enter Tryd.func25, Tryd.ntmps25
    go_wp2
    repeat (go_quiet (fail); try go_wp2)
    go_loopg [5] k (fun kq v5 w' => ∃ (x5_1 : Int), v5 = .int .i64 x5_1 ∧ Az (r11_Entries.l0 kq l0 l1 x5_1 = some r) ∧ Az (kq ≤ k) ∧ Drawn0 w w')
    case atStart => exact ⟨(0), (by first | rfl | (simp; done) | (simp [*]; done)), H', ⟨Nat.le_refl _⟩, by repeat (first | exact Drawn0.refl _ | apply Drawn0.step)⟩
    case round =>
      clear H'
      try clear c1
      try clear c2
      try clear p2
      try clear c3
      try clear c3b0
      try clear c3b1
      try clear c3b2
      obtain ⟨x5_1, rfl, HA, HK1, ⟨m1, rfl⟩⟩ := hrel
      cases gk with
      | zero => exact absurd HA.out (by simp [r11_Entries.l0])
      | succ k1 =>
        have H := HA.out
        clear HA
        simp only [r11_Entries.l0] at H
        by_cases c4 : x5_1 < (l0.length : Int)
        · rw [if_pos c4] at H
          have c4b0 : decide (x5_1 < (l0.length : Int)) = true := decide_eq_true c4
          clear c4
          by_cases c5 : 0 ≤ x5_1
          · rw [if_pos c5] at H
            have c5b0 : decide (0 ≤ x5_1) = true := decide_eq_true c5
            clear c5
            by_cases c6 : x5_1 < (l1.length : Int)
            · rw [if_pos c6] at H
              have c6b0 : decide (x5_1 < (l1.length : Int)) = true := decide_eq_true c6
              clear c6
              by_cases c7 : (!(((rd_T54 l0 x5_1).f0) == ((rd_T54 l1 x5_1).f0)) || (!((((rd_T54 l0 x5_1).f1).toList) == (((rd_T54 l1 x5_1).f1).toList)))) = true
              · rw [if_pos c7] at H
                have c7b0 : (!(((rd_T54 l0 x5_1).f0) == ((rd_T54 l1 x5_1).f0)) || (!((((rd_T54 l0 x5_1).f1).toList) == (((rd_T54 l1 x5_1).f1).toList)))) = true := c7
                clear c7
                obtain rfl := Option.some.inj H
                have p152 : 0 ≤ (x5_1 : Int) := of_decide_eq_true (by first | (with_reducible assumption) | assumption)
                have q152 : x5_1 < (l0.length : Int) := of_decide_eq_true (by first | (with_reducible assumption) | assumption)
                obtain ⟨ad152, e152, hx152_0, hx152_1⟩ := at_T54 HR0.out x5_1 p152 q152
                cases e152
                replace p152 := eq_true p152
                replace q152 := eq_true q152
                have p153 : 0 ≤ (x5_1 : Int) := of_decide_eq_true (by first | (with_reducible assumption) | assumption)
                have q153 : x5_1 < (l1.length : Int) := of_decide_eq_true (by first | (with_reducible assumption) | assumption)
                obtain ⟨ad153, e153, hx153_0, hx153_1⟩ := at_T54 HR1.out x5_1 p153 q153
                cases e153
                replace p153 := eq_true p153
                replace q153 := eq_true q153
                go_wp2
                repeat (go_quiet (fail); try go_wp2)
                go_ret
                exact ⟨by first | rfl | (simp; done) | (simp [*]; done), by repeat (first | exact Drawn0.refl _ | apply Drawn0.step)⟩
              · rw [if_neg c7] at H
                have c7b0 : (!(((rd_T54 l0 x5_1).f0) == ((rd_T54 l1 x5_1).f0)) || (!((((rd_T54 l0 x5_1).f1).toList) == (((rd_T54 l1 x5_1).f1).toList)))) = false := by simpa using c7
                clear c7
                have H' := Az.mk H
                clear H
                have p152 : 0 ≤ (x5_1 : Int) := of_decide_eq_true (by first | (with_reducible assumption) | assumption)
                have q152 : x5_1 < (l0.length : Int) := of_decide_eq_true (by first | (with_reducible assumption) | assumption)
                obtain ⟨ad152, e152, hx152_0, hx152_1⟩ := at_T54 HR0.out x5_1 p152 q152
                cases e152
                replace p152 := eq_true p152
                replace q152 := eq_true q152
                have p153 : 0 ≤ (x5_1 : Int) := of_decide_eq_true (by first | (with_reducible assumption) | assumption)
                have q153 : x5_1 < (l1.length : Int) := of_decide_eq_true (by first | (with_reducible assumption) | assumption)
                obtain ⟨ad153, e153, hx153_0, hx153_1⟩ := at_T54 HR1.out x5_1 p153 q153
                cases e153
                replace p153 := eq_true p153
                replace q153 := eq_true q153
                go_wp2
                repeat (go_quiet (fail); try go_wp2)
                go_roundg k1
                case measure => have := HK1.out; omega
                case rel => exact ⟨(wrap64 (x5_1 + 1)), (by first | rfl | (simp; done) | (simp [*]; done)), H', ⟨by have := HK1.out; omega⟩, by repeat (first | exact Drawn0.refl _ | apply Drawn0.step)⟩
            · rw [if_neg c6] at H
              exact absurd H (by simp)
          · rw [if_neg c5] at H
            exact absurd H (by simp)
        · rw [if_neg c4] at H
          have c4b0 : decide (x5_1 < (l0.length : Int)) = false := decide_eq_false c4
          clear c4
          obtain rfl := Option.some.inj H
          go_wp2
          repeat (go_quiet (fail); try go_wp2)
          go_ret
          exact ⟨by first | rfl | (simp; done) | (simp [*]; done), by repeat (first | exact Drawn0.refl _ | apply Drawn0.step)⟩
  · rw [if_neg c3] at H
    have c3b0 : ((l0.length : Int) == (l1.length : Int)) = false := beq_eq_false_iff_ne.mpr c3
    have c3b1 : ((l0.length : Int) != (l1.length : Int)) = true := bne_iff_ne.mpr c3
    have c3b2 : (l0.length == l1.length) = false := by first | simpa using c3 | (simp at c3 ⊢; omega)
    obtain rfl := Option.some.inj H
    go_enter Tryd.func25, Tryd.ntmps25
    go_wp2
    repeat (go_quiet (fail); try go_wp2)
    go_ret
    exact ⟨by first | rfl | (simp; done) | (simp [*]; done), by repeat (first | exact Drawn0.refl _ | apply Drawn0.step)⟩
end Go.Proofs.YtjpihfjgomoijaaDoor.P
end
section
-- Written by a program of this session (wip/tools/pr.py), over the kit's printer; functions named in the texts imported below are given by hand.
namespace Go.Proofs.YtjpihfjgomoijaaDoor.P
open Go.RowKit Go.Proofs.YtjpihfjgomoijaaDoor.K Go.Proofs.YtjpihfjgomoijaaDoorW.PrintWords Go.Proofs.YtjpihfjgomoijaaDoorW.PrintLast Go.Proofs.YtjpihfjgomoijaaDoorW.PrintMore
attribute [local go_sem] max2_int min2_int max_two min_two max_three min_three max_four min_four   -- for this text's walks alone
/-! ### r11_Same: function 18 -/
def r11_Same.f (k : Nat) (a0_0 : Int) (a0_1 : Int) (l0_2 : List (S54)) (a1_0 : Int) (a1_1 : Int) (l1_2 : List (S54)) : Option (Bool) := if a0_0 = a1_0 then (if a0_1 = a1_1 then ((r11_Entries.f k l0_2 l1_2).bind fun t156 => (some t156)) else (some false)) else (some false)
theorem r11_Same.mono : ∀ a0 a1 a2 a3 a4 a5 k, LeO (r11_Same.f k a0 a1 a2 a3 a4 a5) (r11_Same.f (k + 1) a0 a1 a2 a3 a4 a5) := by
  intro a0 a1 a2 a3 a4 a5 k
  unfold r11_Same.f
  repeat' first
      | (with_reducible exact r11_Entries.mono _ _ _)
      | (with_reducible exact LeO.refl _)
      | (with_reducible exact LeO.none _)
      | (with_reducible refine LeO.ite ?_ ?_)
      | (with_reducible refine LeO.bind ?_ (fun _ => ?_))
      | exact r11_Entries.mono _ _ _
      | exact LeO.none _
      | refine LeO.ite ?_ ?_
      | refine LeO.bind ?_ (fun _ => ?_)
set_option maxHeartbeats 8000000 in
set_option maxRecDepth 100000 in
theorem r11_Same.calls (k : Nat) (a0_0 : Int) (a0_1 : Int) (A0_2 : Option Addr) (c0_2 : Nat) (l0_2 : List (S54)) (a1_0 : Int) (a1_1 : Int) (A1_2 : Option Addr) (c1_2 : Nat) (l1_2 : List (S54)) (r : Bool) (w : World) (hG : TheG w) (hr0_2 : Kd.C k54 w A0_2 l0_2.length l0_2) (hc0_2 : l0_2.length ≤ c0_2) (hr1_2 : Kd.C k54 w A1_2 l1_2.length l1_2) (hc1_2 : l1_2.length ≤ c1_2) (h : r11_Same.f k a0_0 a0_1 l0_2 a1_0 a1_1 l1_2 = some r) :
    Calls Tryd.prog 18 #[.agg #[.int .i64 a0_0, .int .i64 a0_1, .slice A0_2 l0_2.length c0_2], .agg #[.int .i64 a1_0, .int .i64 a1_1, .slice A1_2 l1_2.length c1_2]] w fun e w' => e = .returned (.bool r) ∧ Below w.heap.size w w' := by
  have hu24 := Tryd.underlying24
  have HR0_2 := Az.mk hr0_2
  have HC0_2 := Az.mk hc0_2
  clear hr0_2 hc0_2
  have HR1_2 := Az.mk hr1_2
  have HC1_2 := Az.mk hc1_2
  clear hr1_2 hc1_2
  have HB := Az.mk (Below.refl w.heap.size w)
  have H : (if a0_0 = a1_0 then (if a0_1 = a1_1 then ((r11_Entries.f k l0_2 l1_2).bind fun t156 => (some t156)) else (some false)) else (some false)) = some r := h
  clear h
  by_cases c3 : a0_0 = a1_0
  · rw [if_pos c3] at H
    have c3b0 : (a0_0 == a1_0) = true := beq_iff_eq.mpr c3
    have c3b1 : (a0_0 != a1_0) = false := bne_eq_false_iff_eq.mpr c3
    clear c3
    by_cases c4 : a0_1 = a1_1
    · rw [if_pos c4] at H
      have c4b0 : (a0_1 == a1_1) = true := beq_iff_eq.mpr c4
      have c4b1 : (a0_1 != a1_1) = false := bne_eq_false_iff_eq.mpr c4
      clear c4
      replace H := Option.bind_eq_some_iff.mp H
      obtain ⟨t156, A50, H⟩ := H
      replace H : (some t156) = some r := H
      have A5 := Az.mk A50
      clear A50
      obtain rfl := Option.some.inj H
      go_enter Tryd.func18, Tryd.ntmps18
      go_wp2_with (first | ((with_reducible refine gate_dst (N := 2) rfl ?_); refine box_event ?hg (N := 2) ?hd (cs := #[.int .i64 a0_0, .int .i64 a0_1, .slice A0_2 l0_2.length c0_2]) (t := 24) ?hr ?_; (case hd => rfl); (case hg => rfl); (case hr => first | (go_simp; done) | (go_simp; rfl)); intro gb154 hg w6 hbox hb; have n0_ := Az.mk (pbT (by repeat (first | (with_reducible first | exact HB.out | apply pbA | apply pbN | apply pb1) | exact HB.out)) hb); have n1_ := Az.mk (hbox); have n2_ := Az.mk ((by rw [hg]; exact (pbZ (by repeat (first | (with_reducible first | exact HB.out | apply pbA | apply pbN | apply pb1) | exact HB.out))) : w.heap.size ≤ gb154)); have n3_ := Az.mk ((by rw [hg]; exact (pbZ (by repeat (first | (with_reducible first | exact HB.out | apply pbA | apply pbN | apply pb1) | exact HB.out))) : w.heap.size ≤ gb154)); clear HB; have HB := n0_; have BK154 := n1_; have GW154 := n2_; have GE154 := n3_; clear n0_ n1_ n2_ n3_; clear hb hbox hg) | ((with_reducible refine gate_dst (N := 3) rfl ?_); refine box_event ?hg (N := 3) ?hd (cs := #[.int .i64 a1_0, .int .i64 a1_1, .slice A1_2 l1_2.length c1_2]) (t := 24) ?hr ?_; (case hd => rfl); (case hg => rfl); (case hr => first | (go_simp; done) | (go_simp; rfl)); intro gb155 hg w7 hbox hb; have n0_ := Az.mk (bkB (g := gb154) (o := .cells #[.int .i64 a0_0, .int .i64 a0_1, .slice A0_2 l0_2.length c0_2] 24 (0, 0)) (by (with_reducible repeat (first | refine bkN ?_ _ | refine bkD ?_ | refine bkA ?_ _)); exact BK154.out) hb); have n1_ := Az.mk (pbT (by repeat (first | (with_reducible first | exact HB.out | apply pbA | apply pbN | apply pb1 | refine pbS ?_ GE154.out) | exact HB.out)) hb); have n2_ := Az.mk (hbox); have n3_ := Az.mk ((by rw [hg]; exact (pbZ (by repeat (first | (with_reducible first | exact HB.out | apply pbA | apply pbN | apply pb1 | refine pbS ?_ GE154.out) | exact HB.out))) : w.heap.size ≤ gb155)); have n4_ := Az.mk ((by rw [hg]; exact (pbZ (by repeat (first | (with_reducible first | exact HB.out | apply pbA | apply pbN | apply pb1 | refine pbS ?_ GE154.out) | exact HB.out))) : w.heap.size ≤ gb155)); have n5_ := Az.mk ((by rw [hg]; exact Nat.ne_of_lt (blk_lt (g := gb154) (o := .cells #[.int .i64 a0_0, .int .i64 a0_1, .slice A0_2 l0_2.length c0_2] 24 (0, 0)) (by (with_reducible repeat (first | refine bkN ?_ _ | refine bkD ?_ | refine bkA ?_ _)); exact BK154.out)) : gb154 ≠ gb155)); have n6_ := Az.mk ((by rw [hg]; exact Nat.ne_of_gt (blk_lt (g := gb154) (o := .cells #[.int .i64 a0_0, .int .i64 a0_1, .slice A0_2 l0_2.length c0_2] 24 (0, 0)) (by (with_reducible repeat (first | refine bkN ?_ _ | refine bkD ?_ | refine bkA ?_ _)); exact BK154.out)) : gb155 ≠ gb154)); clear BK154; clear HB; have BK154 := n0_; have HB := n1_; have BK155 := n2_; have GW155 := n3_; have GE155 := n4_; have NB154_155 := n5_; have NB155_154 := n6_; clear n0_ n1_ n2_ n3_ n4_ n5_ n6_; clear hb hbox hg; have hnb8 := NB154_155.out; have hnc8 := NB155_154.out; have hcz9_0 : w7.cell? ⟨gb154, 0, none⟩ = some (.int .i64 a0_0) := (bkC BK154.out 0).trans rfl; have hcz9_1 : w7.cell? ⟨gb154, 1, none⟩ = some (.int .i64 a0_1) := (bkC BK154.out 1).trans rfl; have hcz9_2 : w7.cell? ⟨gb154, 2, none⟩ = some (.slice A0_2 l0_2.length c0_2) := (bkC BK154.out 2).trans rfl; have hfz9_0 := bkF BK154.out 0; have hfz9_1 := bkF BK154.out 1; have hfz9_2 := bkF BK154.out 2; have hcz10_0 : w7.cell? ⟨gb155, 0, none⟩ = some (.int .i64 a1_0) := (bkC BK155.out 0).trans rfl; have hcz10_1 : w7.cell? ⟨gb155, 1, none⟩ = some (.int .i64 a1_1) := (bkC BK155.out 1).trans rfl; have hcz10_2 : w7.cell? ⟨gb155, 2, none⟩ = some (.slice A1_2 l1_2.length c1_2) := (bkC BK155.out 2).trans rfl; have hfz10_0 := bkF BK155.out 0; have hfz10_1 := bkF BK155.out 1; have hfz10_2 := bkF BK155.out 2) | (go_at_call 25; (with_reducible refine (r11_Entries.calls k _ _ l0_2 _ _ l1_2 t156 _ ?side1 ?side2 ?side3 ?side4 ?side5 A5.out).mono ?_); (case side1 => exact hG.below (by repeat (first | (with_reducible first | exact HB.out | apply pbA | apply pbN | apply pb1 | refine pbS ?_ GE154.out | refine pbS ?_ GE155.out) | exact HB.out))); (case side2 => repeat (first | exact (Kd.C_below HR0_2.out HB.out) | (with_reducible refine Kd.C_alloc ?_ _) | (with_reducible refine Kd.C_drewN ?_ _) | (with_reducible refine Kd.C_drew ?_))); (case side3 => exact HC0_2.out); (case side4 => repeat (first | exact (Kd.C_below HR1_2.out HB.out) | (with_reducible refine Kd.C_alloc ?_ _) | (with_reducible refine Kd.C_drewN ?_ _) | (with_reducible refine Kd.C_drew ?_))); (case side5 => exact HC1_2.out); rintro e w' ⟨rfl, ⟨nd, rfl⟩⟩))
      go_ret
      exact ⟨by first | rfl | (simp [errW_none, errW_some] <;> rfl) | (simp [*, errW_none, errW_some] <;> rfl), by repeat (first | (with_reducible first | exact HB.out | apply pbA | apply pbN | apply pb1 | refine pbS ?_ GE154.out | refine pbS ?_ GE155.out) | exact HB.out)⟩
    · rw [if_neg c4] at H
      have c4b0 : (a0_1 == a1_1) = false := beq_eq_false_iff_ne.mpr c4
      have c4b1 : (a0_1 != a1_1) = true := bne_iff_ne.mpr c4
      obtain rfl := Option.some.inj H
      go_enter Tryd.func18, Tryd.ntmps18
      go_wp2_with (first | ((with_reducible refine gate_dst (N := 2) rfl ?_); refine box_event ?hg (N := 2) ?hd (cs := #[.int .i64 a0_0, .int .i64 a0_1, .slice A0_2 l0_2.length c0_2]) (t := 24) ?hr ?_; (case hd => rfl); (case hg => rfl); (case hr => first | (go_simp; done) | (go_simp; rfl)); intro gb154 hg w11 hbox hb; have n0_ := Az.mk (pbT (by repeat (first | (with_reducible first | exact HB.out | apply pbA | apply pbN | apply pb1) | exact HB.out)) hb); have n1_ := Az.mk (hbox); have n2_ := Az.mk ((by rw [hg]; exact (pbZ (by repeat (first | (with_reducible first | exact HB.out | apply pbA | apply pbN | apply pb1) | exact HB.out))) : w.heap.size ≤ gb154)); have n3_ := Az.mk ((by rw [hg]; exact (pbZ (by repeat (first | (with_reducible first | exact HB.out | apply pbA | apply pbN | apply pb1) | exact HB.out))) : w.heap.size ≤ gb154)); clear HB; have HB := n0_; have BK154 := n1_; have GW154 := n2_; have GE154 := n3_; clear n0_ n1_ n2_ n3_; clear hb hbox hg) | ((with_reducible refine gate_dst (N := 3) rfl ?_); refine box_event ?hg (N := 3) ?hd (cs := #[.int .i64 a1_0, .int .i64 a1_1, .slice A1_2 l1_2.length c1_2]) (t := 24) ?hr ?_; (case hd => rfl); (case hg => rfl); (case hr => first | (go_simp; done) | (go_simp; rfl)); intro gb155 hg w12 hbox hb; have n0_ := Az.mk (bkB (g := gb154) (o := .cells #[.int .i64 a0_0, .int .i64 a0_1, .slice A0_2 l0_2.length c0_2] 24 (0, 0)) (by (with_reducible repeat (first | refine bkN ?_ _ | refine bkD ?_ | refine bkA ?_ _)); exact BK154.out) hb); have n1_ := Az.mk (pbT (by repeat (first | (with_reducible first | exact HB.out | apply pbA | apply pbN | apply pb1 | refine pbS ?_ GE154.out) | exact HB.out)) hb); have n2_ := Az.mk (hbox); have n3_ := Az.mk ((by rw [hg]; exact (pbZ (by repeat (first | (with_reducible first | exact HB.out | apply pbA | apply pbN | apply pb1 | refine pbS ?_ GE154.out) | exact HB.out))) : w.heap.size ≤ gb155)); have n4_ := Az.mk ((by rw [hg]; exact (pbZ (by repeat (first | (with_reducible first | exact HB.out | apply pbA | apply pbN | apply pb1 | refine pbS ?_ GE154.out) | exact HB.out))) : w.heap.size ≤ gb155)); have n5_ := Az.mk ((by rw [hg]; exact Nat.ne_of_lt (blk_lt (g := gb154) (o := .cells #[.int .i64 a0_0, .int .i64 a0_1, .slice A0_2 l0_2.length c0_2] 24 (0, 0)) (by (with_reducible repeat (first | refine bkN ?_ _ | refine bkD ?_ | refine bkA ?_ _)); exact BK154.out)) : gb154 ≠ gb155)); have n6_ := Az.mk ((by rw [hg]; exact Nat.ne_of_gt (blk_lt (g := gb154) (o := .cells #[.int .i64 a0_0, .int .i64 a0_1, .slice A0_2 l0_2.length c0_2] 24 (0, 0)) (by (with_reducible repeat (first | refine bkN ?_ _ | refine bkD ?_ | refine bkA ?_ _)); exact BK154.out)) : gb155 ≠ gb154)); clear BK154; clear HB; have BK154 := n0_; have HB := n1_; have BK155 := n2_; have GW155 := n3_; have GE155 := n4_; have NB154_155 := n5_; have NB155_154 := n6_; clear n0_ n1_ n2_ n3_ n4_ n5_ n6_; clear hb hbox hg; have hnb13 := NB154_155.out; have hnc13 := NB155_154.out; have hcz14_0 : w12.cell? ⟨gb154, 0, none⟩ = some (.int .i64 a0_0) := (bkC BK154.out 0).trans rfl; have hcz14_1 : w12.cell? ⟨gb154, 1, none⟩ = some (.int .i64 a0_1) := (bkC BK154.out 1).trans rfl; have hcz14_2 : w12.cell? ⟨gb154, 2, none⟩ = some (.slice A0_2 l0_2.length c0_2) := (bkC BK154.out 2).trans rfl; have hfz14_0 := bkF BK154.out 0; have hfz14_1 := bkF BK154.out 1; have hfz14_2 := bkF BK154.out 2; have hcz15_0 : w12.cell? ⟨gb155, 0, none⟩ = some (.int .i64 a1_0) := (bkC BK155.out 0).trans rfl; have hcz15_1 : w12.cell? ⟨gb155, 1, none⟩ = some (.int .i64 a1_1) := (bkC BK155.out 1).trans rfl; have hcz15_2 : w12.cell? ⟨gb155, 2, none⟩ = some (.slice A1_2 l1_2.length c1_2) := (bkC BK155.out 2).trans rfl; have hfz15_0 := bkF BK155.out 0; have hfz15_1 := bkF BK155.out 1; have hfz15_2 := bkF BK155.out 2))
      go_ret
      exact ⟨by first | rfl | (simp [errW_none, errW_some] <;> rfl) | (simp [*, errW_none, errW_some] <;> rfl), by repeat (first | (with_reducible first | exact HB.out | apply pbA | apply pbN | apply pb1 | refine pbS ?_ GE154.out | refine pbS ?_ GE155.out) | exact HB.out)⟩
  · rw [if_neg c3] at H
    have c3b0 : (a0_0 == a1_0) = false := beq_eq_false_iff_ne.mpr c3
    have c3b1 : (a0_0 != a1_0) = true := bne_iff_ne.mpr c3
    obtain rfl := Option.some.inj H
    go_enter Tryd.func18, Tryd.ntmps18
    go_wp2_with (first | ((with_reducible refine gate_dst (N := 2) rfl ?_); refine box_event ?hg (N := 2) ?hd (cs := #[.int .i64 a0_0, .int .i64 a0_1, .slice A0_2 l0_2.length c0_2]) (t := 24) ?hr ?_; (case hd => rfl); (case hg => rfl); (case hr => first | (go_simp; done) | (go_simp; rfl)); intro gb154 hg w16 hbox hb; have n0_ := Az.mk (pbT (by repeat (first | (with_reducible first | exact HB.out | apply pbA | apply pbN | apply pb1) | exact HB.out)) hb); have n1_ := Az.mk (hbox); have n2_ := Az.mk ((by rw [hg]; exact (pbZ (by repeat (first | (with_reducible first | exact HB.out | apply pbA | apply pbN | apply pb1) | exact HB.out))) : w.heap.size ≤ gb154)); have n3_ := Az.mk ((by rw [hg]; exact (pbZ (by repeat (first | (with_reducible first | exact HB.out | apply pbA | apply pbN | apply pb1) | exact HB.out))) : w.heap.size ≤ gb154)); clear HB; have HB := n0_; have BK154 := n1_; have GW154 := n2_; have GE154 := n3_; clear n0_ n1_ n2_ n3_; clear hb hbox hg) | ((with_reducible refine gate_dst (N := 3) rfl ?_); refine box_event ?hg (N := 3) ?hd (cs := #[.int .i64 a1_0, .int .i64 a1_1, .slice A1_2 l1_2.length c1_2]) (t := 24) ?hr ?_; (case hd => rfl); (case hg => rfl); (case hr => first | (go_simp; done) | (go_simp; rfl)); intro gb155 hg w17 hbox hb; have n0_ := Az.mk (bkB (g := gb154) (o := .cells #[.int .i64 a0_0, .int .i64 a0_1, .slice A0_2 l0_2.length c0_2] 24 (0, 0)) (by (with_reducible repeat (first | refine bkN ?_ _ | refine bkD ?_ | refine bkA ?_ _)); exact BK154.out) hb); have n1_ := Az.mk (pbT (by repeat (first | (with_reducible first | exact HB.out | apply pbA | apply pbN | apply pb1 | refine pbS ?_ GE154.out) | exact HB.out)) hb); have n2_ := Az.mk (hbox); have n3_ := Az.mk ((by rw [hg]; exact (pbZ (by repeat (first | (with_reducible first | exact HB.out | apply pbA | apply pbN | apply pb1 | refine pbS ?_ GE154.out) | exact HB.out))) : w.heap.size ≤ gb155)); have n4_ := Az.mk ((by rw [hg]; exact (pbZ (by repeat (first | (with_reducible first | exact HB.out | apply pbA | apply pbN | apply pb1 | refine pbS ?_ GE154.out) | exact HB.out))) : w.heap.size ≤ gb155)); have n5_ := Az.mk ((by rw [hg]; exact Nat.ne_of_lt (blk_lt (g := gb154) (o := .cells #[.int .i64 a0_0, .int .i64 a0_1, .slice A0_2 l0_2.length c0_2] 24 (0, 0)) (by (with_reducible repeat (first | refine bkN ?_ _ | refine bkD ?_ | refine bkA ?_ _)); exact BK154.out)) : gb154 ≠ gb155)); have n6_ := Az.mk ((by rw [hg]; exact Nat.ne_of_gt (blk_lt (g := gb154) (o := .cells #[.int .i64 a0_0, .int .i64 a0_1, .slice A0_2 l0_2.length c0_2] 24 (0, 0)) (by (with_reducible repeat (first | refine bkN ?_ _ | refine bkD ?_ | refine bkA ?_ _)); exact BK154.out)) : gb155 ≠ gb154)); clear BK154; clear HB; have BK154 := n0_; have HB := n1_; have BK155 := n2_; have GW155 := n3_; have GE155 := n4_; have NB154_155 := n5_; have NB155_154 := n6_; clear n0_ n1_ n2_ n3_ n4_ n5_ n6_; clear hb hbox hg; have hnb18 := NB154_155.out; have hnc18 := NB155_154.out; have hcz19_0 : w17.cell? ⟨gb154, 0, none⟩ = some (.int .i64 a0_0) := (bkC BK154.out 0).trans rfl; have hcz19_1 : w17.cell? ⟨gb154, 1, none⟩ = some (.int .i64 a0_1) := (bkC BK154.out 1).trans rfl; have hcz19_2 : w17.cell? ⟨gb154, 2, none⟩ = some (.slice A0_2 l0_2.length c0_2) := (bkC BK154.out 2).trans rfl; have hfz19_0 := bkF BK154.out 0; have hfz19_1 := bkF BK154.out 1; have hfz19_2 := bkF BK154.out 2; have hcz20_0 : w17.cell? ⟨gb155, 0, none⟩ = some (.int .i64 a1_0) := (bkC BK155.out 0).trans rfl; have hcz20_1 : w17.cell? ⟨gb155, 1, none⟩ = some (.int .i64 a1_1) := (bkC BK155.out 1).trans rfl; have hcz20_2 : w17.cell? ⟨gb155, 2, none⟩ = some (.slice A1_2 l1_2.length c1_2) := (bkC BK155.out 2).trans rfl; have hfz20_0 := bkF BK155.out 0; have hfz20_1 := bkF BK155.out 1; have hfz20_2 := bkF BK155.out 2))
    go_ret
    exact ⟨by first | rfl | (simp [errW_none, errW_some] <;> rfl) | (simp [*, errW_none, errW_some] <;> rfl), by repeat (first | (with_reducible first | exact HB.out | apply pbA | apply pbN | apply pb1 | refine pbS ?_ GE154.out | refine pbS ?_ GE155.out) | exact HB.out)⟩
end Go.Proofs.YtjpihfjgomoijaaDoor.P
end
section
-- Written by a program of this session (wip/tools/pr.py), over the kit's printer; functions named in the texts imported below are given by hand.
namespace Go.Proofs.YtjpihfjgomoijaaDoor.P
open Go.RowKit Go.Proofs.YtjpihfjgomoijaaDoor.K Go.Proofs.YtjpihfjgomoijaaDoorW.PrintWords Go.Proofs.YtjpihfjgomoijaaDoorW.PrintLast Go.Proofs.YtjpihfjgomoijaaDoorW.PrintMore
attribute [local go_sem] max2_int min2_int max_two min_two max_three min_three max_four min_four   -- for this text's walks alone
/-! ### l11_own: function 16 -/
def l11_own.f (a0_0 : Int) (a0_1 : Int) (l0_2 : List (S54)) : Option (Int × Int × (List (S54))) := (some (([] : List (S54)) : List (S54))).bind fun y264 => (if y264.length + l0_2.length < 5864062014805 then (some (a0_0, a0_1, (y264 ++ l0_2))) else (none))
set_option maxHeartbeats 8000000 in
set_option maxRecDepth 100000 in
theorem l11_own.calls (a0_0 : Int) (a0_1 : Int) (A0_2 : Option Addr) (c0_2 : Nat) (l0_2 : List (S54)) (r1 : Int) (r2 : Int) (r3 : List (S54)) (w : World) (hG : TheG w) (hr0_2 : Kd.C k54 w A0_2 l0_2.length l0_2) (hc0_2 : l0_2.length ≤ c0_2) (h : l11_own.f a0_0 a0_1 l0_2 = some (r1, r2, r3)) :
    Calls Tryd.prog 16 #[.agg #[.int .i64 a0_0, .int .i64 a0_1, .slice A0_2 l0_2.length c0_2]] w fun e w' => ∃ v2_ : Value, e = .returned (.agg #[.int .i64 r1, .int .i64 r2, v2_]) ∧ Kd.R k54 54 w' w.heap.size (fun _ => True) v2_ r3 ∧ Below w.heap.size w w' := by
  have hu24 := Tryd.underlying24
  have HR0_2 := Az.mk hr0_2
  have HC0_2 := Az.mk hc0_2
  clear hr0_2 hc0_2
  have HB := Az.mk (Below.refl w.heap.size w)
  have H : ((some (([] : List (S54)) : List (S54))).bind fun y264 => (if y264.length + l0_2.length < 5864062014805 then (some (a0_0, a0_1, (y264 ++ l0_2))) else (none))) = some (r1, r2, r3) := h
  clear h
  obtain ⟨y264, hy264⟩ : ∃ y_ : List (S54), y_ = (([] : List (S54))) := ⟨_, rfl⟩
  replace H : (if y264.length + l0_2.length < 5864062014805 then (some (a0_0, a0_1, (y264 ++ l0_2))) else (none)) = some (r1, r2, r3) := by first | (rw [hy264]; with_reducible exact H) | (have H2_ := (Option.bind_some _ _).symm.trans H; rw [hy264]; with_reducible exact H2_) | (have H2_ := (Option.bind_some _ _).symm.trans H; with_reducible exact H2_) | with_reducible exact H | (rw [hy264]; exact H) | exact H
  have Ny264 := Az.mk hy264
  clear hy264
  by_cases c2 : y264.length + l0_2.length < 5864062014805
  · rw [if_pos c2] at H
    have LMc2 := Az.mk c2
    clear c2
    obtain ⟨y267, hy267⟩ : ∃ y_ : List (S54), y_ = (y264 ++ l0_2) := ⟨_, rfl⟩
    replace H : (some (a0_0, a0_1, y267)) = some (r1, r2, r3) := by first | (rw [hy267]; with_reducible exact H) | (have H2_ := (Option.bind_some _ _).symm.trans H; rw [hy267]; with_reducible exact H2_) | (have H2_ := (Option.bind_some _ _).symm.trans H; with_reducible exact H2_) | with_reducible exact H | (rw [hy267]; exact H) | exact H
    have Ny267 := Az.mk hy267
    clear hy267
    simp only [Option.some.injEq, Prod.mk.injEq] at H
    obtain ⟨rfl, rfl, rfl⟩ := H
    go_enter Tryd.func16, Tryd.ntmps16
    go_wp2_with (first | ((with_reducible refine gate_dst (N := 1) rfl ?_); refine box_event ?hg (N := 1) ?hd (cs := #[.int .i64 a0_0, .int .i64 a0_1, .slice A0_2 l0_2.length c0_2]) (t := 24) ?hr ?_; (case hd => rfl); (case hg => rfl); (case hr => first | (go_simp; done) | (go_simp; rfl)); intro gb262 hg w3 hbox hb; have n0_ := Az.mk (pbT (by repeat (first | (with_reducible first | exact HB.out | apply pbA | apply pbN | apply pb1) | exact HB.out)) hb); have n1_ := Az.mk (hbox); have n2_ := Az.mk ((by rw [hg]; exact (pbZ (by repeat (first | (with_reducible first | exact HB.out | apply pbA | apply pbN | apply pb1) | exact HB.out))) : w.heap.size ≤ gb262)); have n3_ := Az.mk ((by rw [hg]; exact (pbZ (by repeat (first | (with_reducible first | exact HB.out | apply pbA | apply pbN | apply pb1) | exact HB.out))) : w.heap.size ≤ gb262)); clear HB; have HB := n0_; have BK262 := n1_; have GW262 := n2_; have GE262 := n3_; clear n0_ n1_ n2_ n3_; clear hb hbox hg) | ((with_reducible refine gate_dst (N := 2) rfl ?_); refine box_event ?hg (N := 2) ?hd (cs := #[.int .i64 0, .int .i64 0, .slice none 0 0]) (t := 24) ?hr ?_; (case hd => rfl); (case hg => rfl); (case hr => first | (go_simp; done) | (go_simp; rfl)); intro gb263 hg w4 hbox hb; have n0_ := Az.mk (bkB (g := gb262) (o := .cells #[.int .i64 a0_0, .int .i64 a0_1, .slice A0_2 l0_2.length c0_2] 24 (0, 0)) (by (with_reducible repeat (first | refine bkN ?_ _ | refine bkD ?_ | refine bkA ?_ _)); exact BK262.out) hb); have n1_ := Az.mk (pbT (by repeat (first | (with_reducible first | exact HB.out | apply pbA | apply pbN | apply pb1 | refine pbS ?_ GE262.out) | exact HB.out)) hb); have n2_ := Az.mk (hbox); have n3_ := Az.mk ((by rw [hg]; exact (pbZ (by repeat (first | (with_reducible first | exact HB.out | apply pbA | apply pbN | apply pb1 | refine pbS ?_ GE262.out) | exact HB.out))) : w.heap.size ≤ gb263)); have n4_ := Az.mk ((by rw [hg]; exact (pbZ (by repeat (first | (with_reducible first | exact HB.out | apply pbA | apply pbN | apply pb1 | refine pbS ?_ GE262.out) | exact HB.out))) : w.heap.size ≤ gb263)); have n5_ := Az.mk ((by rw [hg]; exact Nat.ne_of_lt (blk_lt (g := gb262) (o := .cells #[.int .i64 a0_0, .int .i64 a0_1, .slice A0_2 l0_2.length c0_2] 24 (0, 0)) (by (with_reducible repeat (first | refine bkN ?_ _ | refine bkD ?_ | refine bkA ?_ _)); exact BK262.out)) : gb262 ≠ gb263)); have n6_ := Az.mk ((by rw [hg]; exact Nat.ne_of_gt (blk_lt (g := gb262) (o := .cells #[.int .i64 a0_0, .int .i64 a0_1, .slice A0_2 l0_2.length c0_2] 24 (0, 0)) (by (with_reducible repeat (first | refine bkN ?_ _ | refine bkD ?_ | refine bkA ?_ _)); exact BK262.out)) : gb263 ≠ gb262)); clear BK262; clear HB; have BK262 := n0_; have HB := n1_; have BK263 := n2_; have GW263 := n3_; have GE263 := n4_; have NB262_263 := n5_; have NB263_262 := n6_; clear n0_ n1_ n2_ n3_ n4_ n5_ n6_; clear hb hbox hg) | ((with_reducible refine gate_dst (N := 3) rfl ?_); refine Kd.R_lit k54 _ 54 ?hg (N := 3) ?hd (xs := ([] : List (S54))) (inner := []) (ok := fun _ => True) (okp := fun _ => True) ?hr ?hp (fun _ hk => hk) trivial (Below.refl _ _) (Nat.le_refl _) (by simp) ?_; (case hd => rfl); (case hg => rfl); (case hr => first | (go_simp; done) | (go_simp; rfl)); (case hp => exact (Reps.none _ _)); intro v265 w5 ho6 hb hg_ hnew_; clear hg_ hnew_; (first | rw [← Ny264.out] at ho6 | (simp only [Int.reduceToNat] at ho6; rw [← Ny264.out] at ho6)); have n0_ := Az.mk (Kd.R_lower ho6 (pbZ (by repeat (first | (with_reducible first | exact HB.out | apply pbA | apply pbN | apply pb1 | refine pbS ?_ GE262.out | refine pbS ?_ GE263.out) | exact HB.out)))); have n1_ := Az.mk (bkB (g := gb262) (o := .cells #[.int .i64 a0_0, .int .i64 a0_1, .slice A0_2 l0_2.length c0_2] 24 (0, 0)) (by (with_reducible repeat (first | refine bkN ?_ _ | refine bkD ?_ | refine bkA ?_ _)); exact BK262.out) hb); have n2_ := Az.mk (bkB (g := gb263) (o := .cells #[.int .i64 0, .int .i64 0, .slice none 0 0] 24 (0, 0)) (by (with_reducible repeat (first | refine bkN ?_ _ | refine bkD ?_ | refine bkA ?_ _)); exact BK263.out) hb); have n3_ := Az.mk (pbT (by repeat (first | (with_reducible first | exact HB.out | apply pbA | apply pbN | apply pb1 | refine pbS ?_ GE262.out | refine pbS ?_ GE263.out) | exact HB.out)) hb); clear BK262; clear BK263; clear HB; have HO266 := n0_; have BK262 := n1_; have BK263 := n2_; have HB := n3_; clear n0_ n1_ n2_ n3_; clear hb ho6; have hnb7 := NB262_263.out; have hnc7 := NB263_262.out; have hcz8_0 : w5.cell? ⟨gb262, 0, none⟩ = some (.int .i64 a0_0) := (bkC BK262.out 0).trans rfl; have hcz8_1 : w5.cell? ⟨gb262, 1, none⟩ = some (.int .i64 a0_1) := (bkC BK262.out 1).trans rfl; have hcz8_2 : w5.cell? ⟨gb262, 2, none⟩ = some (.slice A0_2 l0_2.length c0_2) := (bkC BK262.out 2).trans rfl; have hfz8_0 := bkF BK262.out 0; have hfz8_1 := bkF BK262.out 1; have hfz8_2 := bkF BK262.out 2) | ((with_reducible refine gate_builtin (b := .append) (xs := #[.tmp 3, .tmp 5]) rfl ?_); at_builtin; refine Kd.R_append_rows k54 (w0 := w) w.heap.size rfl (.tmp 3) (.tmp 5) 22 54 (.agg #[(.int .i64 0), (.string ⟨#[]⟩)]) 24 rfl Tryd.underlying22 info54 rfl (by decide) (by omega) v265 y264 l0_2 _ _ _ (fun _ => True) (fun _ => False) rfl rfl ?aO ?aR (fun _ _ h => h) (fun _ h => h.elim) ?aF ?aB ?aS ?aL ?_; (case aR => repeat (first | exact (Kd.C_below HR0_2.out HB.out) | (with_reducible refine Kd.C_alloc ?_ _) | (with_reducible refine Kd.C_drewN ?_ _) | (with_reducible refine Kd.C_drew ?_))); (case aB => exact (by repeat (first | (with_reducible first | exact HB.out | apply pbA | apply pbN | apply pb1 | refine pbS ?_ GE262.out | refine pbS ?_ GE263.out) | exact HB.out))); (case aF => exact (fun _ _ => trivial)); (case aO => exact (by (with_reducible repeat (first | apply Kd.R_alloc | apply Kd.R_drewN | apply Kd.R_drew)); exact HO266.out)); (case aS => exact (pbZ (by repeat (first | (with_reducible first | exact HB.out | apply pbA | apply pbN | apply pb1 | refine pbS ?_ GE262.out | refine pbS ?_ GE263.out) | exact HB.out)))); (case aL => have := LMc2.out; omega); intro v268 w9 ho hb hg hat; rw [← Ny267.out] at ho; have n0_ := Az.mk (blk_grown (g := gb262) (o := .cells #[.int .i64 a0_0, .int .i64 a0_1, .slice A0_2 l0_2.length c0_2] 24 (0, 0)) (by (with_reducible repeat (first | refine bkN ?_ _ | refine bkD ?_ | refine bkA ?_ _)); exact BK262.out) hg (Kd.R_ne HO266.out BK262.out (by decide))); have n1_ := Az.mk (blk_grown (g := gb263) (o := .cells #[.int .i64 0, .int .i64 0, .slice none 0 0] 24 (0, 0)) (by (with_reducible repeat (first | refine bkN ?_ _ | refine bkD ?_ | refine bkA ?_ _)); exact BK263.out) hg (Kd.R_ne HO266.out BK263.out (by decide))); have n2_ := Az.mk (hb); have n3_ := Az.mk (ho); clear BK262; clear BK263; clear HB; clear HO266; have BK262 := n0_; have BK263 := n1_; have HB := n2_; have HO269 := n3_; clear n0_ n1_ n2_ n3_; clear ho hb hg hat; obtain ⟨Ao10, co10, eo10⟩ := Kd.R_slice HO269.out; subst eo10; have hcz11_0 : w9.cell? ⟨gb262, 0, none⟩ = some (.int .i64 a0_0) := (bkC BK262.out 0).trans rfl; have hcz11_1 : w9.cell? ⟨gb262, 1, none⟩ = some (.int .i64 a0_1) := (bkC BK262.out 1).trans rfl; have hcz11_2 : w9.cell? ⟨gb262, 2, none⟩ = some (.slice A0_2 l0_2.length c0_2) := (bkC BK262.out 2).trans rfl; have hfz11_0 := bkF BK262.out 0; have hfz11_1 := bkF BK262.out 1; have hfz11_2 := bkF BK262.out 2; have hcz12_0 : w9.cell? ⟨gb263, 0, none⟩ = some (.int .i64 0) := (bkC BK263.out 0).trans rfl; have hcz12_1 : w9.cell? ⟨gb263, 1, none⟩ = some (.int .i64 0) := (bkC BK263.out 1).trans rfl; have hcz12_2 : w9.cell? ⟨gb263, 2, none⟩ = some (.slice none 0 0) := (bkC BK263.out 2).trans rfl; have hfz12_0 := bkF BK263.out 0; have hfz12_1 := bkF BK263.out 1; have hfz12_2 := bkF BK263.out 2))
    refine bodyPost_ret (results_cell_row rfl _ _ gb263 24 #[.int .i64 a0_0, .int .i64 a0_1, .slice Ao10 y267.length co10] (0, 0) _ rfl (by (with_reducible repeat (first | refine bkN ?_ _ | refine bkD ?_ | refine bkA ?_ _)); refine blk_put (cs := #[.int .i64 a0_0, .int .i64 a0_1, .slice none 0 0]) ?_ 2 _ rfl; (with_reducible repeat (first | refine bkN ?_ _ | refine bkD ?_ | refine bkA ?_ _)); refine blk_put (cs := #[.int .i64 a0_0, .int .i64 0, .slice none 0 0]) ?_ 1 _ rfl; (with_reducible repeat (first | refine bkN ?_ _ | refine bkD ?_ | refine bkA ?_ _)); refine blk_put (cs := #[.int .i64 0, .int .i64 0, .slice none 0 0]) ?_ 0 _ rfl; (with_reducible repeat (first | refine bkN ?_ _ | refine bkD ?_ | refine bkA ?_ _)); refine blk_far ?_ NB263_262.out _; (with_reducible repeat (first | refine bkN ?_ _ | refine bkD ?_ | refine bkA ?_ _)); exact BK263.out) Tryd.underlying24 rfl (by kernel_rfl)) rfl ?_
    exact ⟨_, by first | rfl | (simp [errW_none, errW_some] <;> rfl) | (simp [*, errW_none, errW_some] <;> rfl), by (with_reducible repeat (first | apply Kd.R_alloc | apply Kd.R_drewN | apply Kd.R_drew)); exact Kd.R_mono (Kd.R_far (p := ⟨gb263, 2, none⟩) (Kd.R_far (p := ⟨gb263, 1, none⟩) (Kd.R_far (p := ⟨gb263, 0, none⟩) (Kd.R_far (p := ⟨gb262, 2, none⟩) (Kd.R_types (Kd.R_types HO269.out BK262.out (by decide)) BK263.out (by decide)) (fun _ hk => hk.1.2) (.slice Ao10 y267.length co10)) (fun _ hk => hk.2) (.int .i64 a0_0)) (fun _ hk => hk.2) (.int .i64 a0_1)) (fun _ hk => hk.2) (.slice Ao10 y267.length co10)) (fun _ hk => trivial), by repeat (first | (with_reducible first | exact HB.out | apply pbA | apply pbN | apply pb1 | refine pbS ?_ GE262.out | refine pbS ?_ GE263.out) | exact HB.out)⟩
  · rw [if_neg c2] at H
    exact absurd H (by simp)
end Go.Proofs.YtjpihfjgomoijaaDoor.P
end
section
/- roll: the statements' own bound (small), Same and Entries. -/
namespace Go.Proofs.YtjpihfjgomoijaaDoor.V
open Go.RowKit Go.Proofs.YtjpihfjgomoijaaDoorW.PrintWords Go.Proofs.YtjpihfjgomoijaaDoorW.PrintLast Go.Proofs.YtjpihfjgomoijaaDoorW.PrintMore Go.Proofs.YtjpihfjgomoijaaDoor.P Go.Proofs.YtjpihfjgomoijaaDoor.K Go.Proofs.YtjpihfjgomoijaaDoor.A
def sumT (l : List S54) : Nat := (l.map fun e => e.f1.size).sum
/-- What small answers behind a sum of n at i of len entries. -/
def smallG (len : Nat) : List S54 → Nat → Nat → Bool
  | [], _, n => decide (len ≤ 60) && decide (n ≤ 10000)
  | e :: r, i, n => if i ≤ 60 then if n ≤ 10000 then smallG len r (i + 1) (n + e.f1.size) else false else false
theorem smallG_true {len : Nat} : ∀ {l : List S54} {i n : Nat}, smallG len l i n = true → len ≤ 60 ∧ n + sumT l ≤ 10000
  | [], i, n, h => by simp [smallG] at h; simp [sumT]; exact h
  | e :: r, i, n, h => by
    simp only [smallG] at h
    split at h
    · split at h
      · have := smallG_true h; simp only [sumT, List.map_cons, List.sum_cons] at this ⊢; omega
      · cases h
    · cases h
theorem small_ev (b bt : Int) (l : List S54) (hr : ∀ x ∈ l, x.f1.size ≤ reachBytes) (hm : l.length ≤ 9223372036854775000) : Ev (fun k => l11_small.f k b bt l) (smallG l.length l 0 0) := by
  have hreach : reachBytes = 140737488351232 := rfl
  have := Ev.upto (F := fun k (n : Nat) i => l11_small.l0 k (n : Int) i b bt l) (n := l.length) (G := fun n i => smallG l.length (l.drop i) i n) (I := fun n i => n ≤ 10000 + reachBytes)
    (by
      intro n i hi hI ih
      have hdrop : l.drop i = l[i] :: l.drop (i + 1) := List.drop_eq_getElem_cons hi
      have hsz := hr l[i] (List.getElem_mem hi)
      simp only [l11_small.l0, if_pos (lt_cast hi), if_pos (nn i), rd_lt hi, hdrop, smallG]
      by_cases h1 : i ≤ 60
      · have h1' : (i : Int) ≤ 60 := by omega
        by_cases h2 : n ≤ 10000
        · have h2' : (n : Int) ≤ 10000 := by omega
          have h3 : n + l[i].f1.size ≤ 10000 + reachBytes := by omega
          have h4 : wrap64 ((n : Int) + (l[i].f1.size : Int)) = ((n + l[i].f1.size : Nat) : Int) := by rw [wrap_in (by omega) (by omega)]; rfl
          simp only [if_pos h1, if_pos h1', if_pos h2, if_pos h2', h4, wrap_nat (n := i) (by omega)]
          exact ih _ h3
        · have h2' : ¬ (n : Int) ≤ 10000 := by omega
          simp only [if_pos h1, if_pos h1', if_neg h2, if_neg h2', decide_eq_false h2']
          exact Ev.ite (fun _ => Ev.now _) (fun _ => Ev.now _)
      · have h1' : ¬ (i : Int) ≤ 60 := by omega
        have h5 : ¬ (l.length : Int) ≤ 60 := by omega
        simp only [if_neg h1, if_neg h1', if_neg h5]
        exact Ev.now _)
    (by
      intro n hI
      simp only [l11_small.l0, if_neg (Int.lt_irrefl _), List.drop_length, smallG]
      refine Ev.ite (fun h => ?_) (fun h => ?_)
      · rw [decide_eq_true (show l.length ≤ 60 by omega), Bool.true_and, show decide ((n : Int) ≤ 10000) = decide (n ≤ 10000) from decide_eq_decide.2 (by omega)]; exact Ev.now _
      · rw [decide_eq_false (show ¬ l.length ≤ 60 by omega), Bool.false_and]; exact Ev.now _) 0 (Nat.zero_le _) 0 (Nat.zero_le _)
  exact this
/-! ### Entries, Same -/
instance : DecidableEq S54 := fun a b => decidable_of_iff (a.f0 = b.f0 ∧ a.f1 = b.f1) ⟨fun h => by cases a; cases b; simp at h; rw [h.1, h.2], fun h => by rw [h]; exact ⟨rfl, rfl⟩⟩
theorem S54_ext {a b : S54} (h0 : a.f0 = b.f0) (h1 : a.f1 = b.f1) : a = b := by cases a; cases b; simp at h0 h1; rw [h0, h1]
theorem entries_ev (a b : List S54) (hm : a.length ≤ 9223372036854775000) : Ev (fun k => r11_Entries.f k a b) (decide (a = b)) := by
  refine Ev.ite (fun h => ?_) (fun h => ?_)
  · have hl : a.length = b.length := by omega
    have := Ev.upto (F := fun k (_ : Unit) i => r11_Entries.l0 k a b i) (n := a.length) (G := fun _ i => decide (a.drop i = b.drop i)) (I := fun _ _ => True)
      (by
        intro _ i hi _ ih
        have hi2 : i < b.length := by omega
        have hd1 : a.drop i = a[i] :: a.drop (i + 1) := List.drop_eq_getElem_cons hi
        have hd2 : b.drop i = b[i] :: b.drop (i + 1) := List.drop_eq_getElem_cons hi2
        simp only [r11_Entries.l0, if_pos (lt_cast hi), if_pos (nn i), if_pos (lt_cast hi2), rd_lt hi, rd_lt hi2, hd1, hd2, wrap_nat (n := i) (by omega)]
        refine Ev.ite (fun h => ?_) (fun h => ?_)
        · rw [decide_eq_false (fun e => ?_)]
          · exact Ev.now _
          · injection e with e1 _
            rw [e1] at h
            simp at h
        · have e1 : a[i] = b[i] := by
            simp only [Bool.or_eq_true, Bool.not_eq_true', beq_eq_false_iff_ne, not_or, ne_eq, Classical.not_not] at h
            exact S54_ext h.1 (toList_inj.1 h.2)
          rw [show decide (a[i] :: a.drop (i + 1) = b[i] :: b.drop (i + 1)) = decide (a.drop (i + 1) = b.drop (i + 1)) from decide_eq_decide.2 ⟨fun h => by injection h, fun h => by rw [e1, h]⟩]
          exact ih () trivial)
      (by
        intro _ _
        have e : decide (a.drop a.length = b.drop a.length) = true := decide_eq_true (by rw [List.drop_length, hl, List.drop_length])
        rw [e]
        simp only [r11_Entries.l0, if_neg (Int.lt_irrefl _)]
        exact Ev.now _) 0 (Nat.zero_le _) () trivial
    exact this
  · rw [decide_eq_false (fun e => h (by rw [e]))]; exact Ev.now _
theorem same_ev (b bt : Int) (l : List S54) (b2 bt2 : Int) (l2 : List S54) (hm : l.length ≤ 9223372036854775000) : Ev (fun k => r11_Same.f k b bt l b2 bt2 l2) (decide (b = b2 ∧ bt = bt2 ∧ l = l2)) := by
  refine Ev.ite (fun h1 => Ev.ite (fun h2 => ?_) (fun h2 => ?_)) (fun h1 => ?_)
  · refine Ev.bind (entries_ev l l2 hm) ?_
    rw [show decide (b = b2 ∧ bt = bt2 ∧ l = l2) = decide (l = l2) from decide_eq_decide.2 (by simp [h1, h2])]
    exact Ev.now _
  · rw [decide_eq_false (fun h => h2 h.2.1)]; exact Ev.now _
  · rw [decide_eq_false (fun h => h1 h.1)]; exact Ev.now _
theorem own_eq {b bt : Int} {l : List S54} (h : l.length ≤ 1000000) : l11_own.f b bt l = some (b, bt, l) := by
  unfold l11_own.f
  simp only [Option.bind_some, List.length_nil, List.nil_append]
  rw [if_pos (by omega)]
end Go.Proofs.YtjpihfjgomoijaaDoor.V
end
section
/- Rows of flat elements: what an append onto a full slice (xs[:n:n]) leaves. -/
namespace Go.Proofs.YtjpihfjgomoijaaDoor.K
open Go Go.RowKit Go.Proofs.YtjpihfjgomoijaaDoorW.PrintWords Go.Proofs.YtjpihfjgomoijaaDoorW.PrintLast Go.Proofs.YtjpihfjgomoijaaDoorW.PrintMore
section
variable {P : Program} {α : Type}
/-- A kind whose cells tell all: none of it lies elsewhere. -/
def Flat (d : Kd α) : Prop := ∀ (w w' : World) x c, d.K w x c → d.K w' x c
theorem V_own {d : Kd α} (hf : Flat d) {W W1 : World} {base b2 : Nat} {e : TypeId} {v : Value} {xs : List α} {inner : List Value} (hown : W1.ownsRow base e d.sz v xs.length inner) (hr : Reps (d.K W) d.sz xs inner) (ok : Nat → Prop) (hok : ∀ k, v.ownBlock = some k → ok k) : Kd.V d e W1 b2 ok v xs := by
  obtain ⟨hlen, hown⟩ := hown
  rcases hown with ⟨rfl, h0⟩ | ⟨g, cap, cur, rfl, hg, hheap, hcap, hmax, hsz, htake⟩
  · obtain rfl : xs = [] := List.eq_nil_of_length_eq_zero h0
    exact ⟨none, 0, rfl, Nat.le_refl _, Kd.F_nil d W1 ok⟩
  · refine ⟨some ⟨g, 0, none⟩, cap, rfl, hcap, fun W' hW => ?_⟩
    have hlt : g < W1.heap.size := by
      rcases Nat.lt_or_ge g W1.heap.size with h | h
      · exact h
      · rw [Array.getElem?_eq_none h] at hheap; cases hheap
    have hh : W'.heap[g]? = some (.cells cur e (0, 0)) := (hW g (hok g rfl) hlt).trans hheap
    have ho : OwnRow (d.K W') e d.sz W' base (.slice (some ⟨g, 0, none⟩) xs.length cap) xs := ⟨inner, ⟨hlen, .inr ⟨g, cap, cur, rfl, hg, hh, hcap, hmax, hsz, htake⟩⟩, hr.imp_ (fun p c hp => hf _ _ _ _ hp)⟩
    obtain ⟨A, c, he, _, hR⟩ := ho.reads
    injection he with h1
    subst h1
    exact hR
theorem F_flat {d : Kd α} {W : World} {ok : Nat → Prop} {A : Option Addr} {n : Nat} {xs : List α} (h : Kd.F d W ok A n xs) : Kd.C d W A n xs := Kd.F_now h
/-- What is read of flat elements is so in every world that has the same blocks. -/
theorem F_of_C {d : Kd α} (hf : Flat d) {W : World} {A : Option Addr} {n : Nat} {xs : List α} (h : Kd.C d W A n xs) : Kd.F d W (fun _ => True) A n xs := by
  intro W' hW
  obtain ⟨h1, h2, h3⟩ := h
  refine ⟨h1, h2, fun hn => ?_⟩
  obtain ⟨ad, e, hc⟩ := h3 hn
  refine ⟨ad, e, fun j p hp => ?_⟩
  obtain ⟨c, hl, hK, hcell⟩ := hc j p hp
  refine ⟨c, hl, hf _ _ _ _ hK, fun i u hu => ?_⟩
  have hold := hcell i u hu
  have hlt : (ad.add (j * d.sz + i)).block < W.heap.size := by
    rcases Nat.lt_or_ge (ad.add (j * d.sz + i)).block W.heap.size with h | h
    · exact h
    · simp [World.cell?, Array.getElem?_eq_none h] at hold
  rw [World.cell?_of_block (hW _ trivial hlt)]
  exact hold
theorem V_of_C {d : Kd α} (hf : Flat d) {W : World} {A : Option Addr} {c : Nat} {xs : List α} {e base : Nat} (h : Kd.C d W A xs.length xs) (hc : xs.length ≤ c) : Kd.V d e W base (fun _ => True) (.slice A xs.length c) xs := ⟨A, c, rfl, hc, F_of_C hf h⟩
/-- append(xs[:n:n], ys..): a new row, or, with nothing to append, xs[:n:n] itself. -/
theorem run_app_cut (d : Kd α) (hf : Flat d) (W : World) (t ty e : TypeId) (i : TypeInfo) (z : Value) (bytes : Nat) (ht : P.underlying t = some (.slice e)) (hi : P.info? e = some i) (hz : i.zero = some z) (hsize : i.size = d.sz) (hby : i.bytes = bytes) (hzs : z.cells.size = d.sz) (hsz : 0 < d.sz) (hb0 : 0 < bytes)
    (A : Option Addr) (n : Nat) (xs : List α) (A2 : Option Addr) (m c : Nat) (ys : List α) (ok : Nat → Prop) (base : Nat) (HX : Kd.F d W ok A n xs) (HY : Kd.C d W A2 m ys) (hl : (n + m) * bytes ≤ 140737488355328) :
    ∃ v1 w1, (Builtin.append_ #[t, t] ty #[.slice A n n, .slice A2 m c]).run P W = .ok v1 w1 ∧ Below W.heap.size W w1 ∧ Kd.V d e w1 base (fun k => ok k ∨ W.heap.size ≤ k) v1 (xs ++ ys) := by
  have HX0 := F_flat HX
  have hn : xs.length = n := HX0.1
  have hm : ys.length = m := HY.1
  have hlen : n + m ≤ 140737488355328 := Nat.le_trans (Nat.le_mul_of_pos_right _ hb0) hl
  rcases Nat.eq_zero_or_pos m with h0 | hp
  · subst h0
    obtain rfl : ys = [] := List.eq_nil_of_length_eq_zero hm
    refine ⟨.slice A n n, W, ?_, Below.refl _ _, ?_⟩
    · rcases A with _ | ad
      · have hn0 : n = 0 := by
          rcases Nat.eq_zero_or_pos n with h | h
          · exact h
          · obtain ⟨ad, h, _⟩ := HX0.2.2 h; cases h
        subst hn0
        rcases A2 with _ | a2
        · simp [Builtin.append_, run_underlying ht, sizeOf, typeInfo, hi, Builtin.lenOf, Builtin.firstCells]
        · simp [Builtin.append_, run_underlying ht, sizeOf, typeInfo, hi, Builtin.lenOf, Builtin.firstCells, loadCells, loadCellsFrom]
      · rcases A2 with _ | a2
        · simp [Builtin.append_, run_underlying ht, sizeOf, typeInfo, hi, Builtin.lenOf, Builtin.firstCells, storeCells]
        · simp [Builtin.append_, run_underlying ht, sizeOf, typeInfo, hi, Builtin.lenOf, Builtin.firstCells, storeCells, loadCells, loadCellsFrom]
    · rw [List.append_nil]
      subst hn
      exact ⟨A, xs.length, rfl, Nat.le_refl _, Kd.F_mono HX (fun k hk => .inl hk)⟩
  · obtain ⟨a2, rfl, _⟩ := HY.2.2 hp
    obtain ⟨news, hnr, hnc⟩ := ReadsRow.inner_ HY
    have hone : ∀ u ∈ news, u.oneCell' = true := by
      intro u hu
      obtain ⟨q, hq, rfl⟩ := List.mem_iff_getElem.1 hu
      have hql : q / d.sz < ys.length := by rw [Nat.div_lt_iff_lt_mul hsz, ← hnr.1]; exact hq
      have hc := hnr.2 (q / d.sz) _ (List.getElem?_eq_getElem hql)
      refine d.K_one hc _ ?_
      rw [List.mem_iff_getElem?]
      refine ⟨q % d.sz, ?_⟩
      rw [List.getElem?_take, if_pos (Nat.mod_lt _ hsz), List.getElem?_drop, Nat.mul_comm, Nat.div_add_mod, List.getElem?_eq_getElem hq]
    have hnl : news.length = m * d.sz := by rw [hnr.1, hm]
    have fin : ∀ (olds : List Value) v1 w1, Reps (d.K W) d.sz xs olds → w1.ownsRow W.heap.size e d.sz v1 (n + m) (olds ++ news) → W.grownBy w1 none → Below W.heap.size W w1 ∧ Kd.V d e w1 base (fun k => ok k ∨ W.heap.size ≤ k) v1 (xs ++ ys) := by
      intro olds v1 w1 hxr hown hg
      refine ⟨⟨hg.os, hg.tape, hg.output, hg.size, fun k hk => hg.block k hk (by simp)⟩, V_own hf (xs := xs ++ ys) (by rw [List.length_append, hn, hm]; exact hown) (Kd.reps_append hxr hnr) _ (fun k hk => .inr ?_)⟩
      rcases hown.2 with ⟨rfl, h⟩ | ⟨g, cap, cur, rfl, hgb, _⟩
      · omega
      · have : g = k := by simpa [Value.ownBlock] using hk
        omega
    rcases A with _ | ad
    · have hn0 : n = 0 := by
        rcases Nat.eq_zero_or_pos n with h | h
        · exact h
        · obtain ⟨ad, h, _⟩ := HX0.2.2 h; cases h
      subst hn0
      obtain rfl : xs = [] := List.eq_nil_of_length_eq_zero hn
      obtain ⟨v1, w1, hrun, h2, hg, _⟩ := run_append_own_at (P := P) W W.heap.size t ty e i z d.sz bytes ht hi hz hsize hby hzs hsz (.slice none 0 0) 0 [] (own_nil _ _ _ _) a2 m c news hnl hnc hone (by simp only [maxLen]; omega) hl (Nat.le_refl _)
      exact ⟨v1, w1, hrun, fin [] v1 w1 (Reps.none _ _) h2 hg⟩
    · obtain ⟨olds, hxr, hxc⟩ := ReadsRow.inner_ HX0
      obtain ⟨v1, w1, hrun, h2, hg⟩ := run_append_arg_grows (P := P) W t ty e i z d.sz bytes ht hi hz hsize hby hzs hsz ad n n olds (by rw [hxr.1, hn]) hxc a2 m c news hnl hnc (by omega) (by simp only [maxLen]; omega) hl
      exact ⟨v1, w1, hrun, fin olds v1 w1 hxr h2 hg⟩
variable {ops : Array Oper} {rest : List Oper} {o : Oper} {a : Act} {Q : Exit → Act → World → Prop}
theorem V_append_cut (d : Kd α) (hf : Flat d) {W : World} (base : Nat) (hgd : o.guard = none) (s x : Operand) (t e : TypeId) (z : Value) (bytes : Nat)
    (ho : o.op = .call { callee := .builtin .append, args := #[s, x], argTypes := #[t, t] })
    (ht : P.underlying t = some (.slice e)) (hinfo : (P.info? e).map (fun i => (i.zero, i.size, i.bytes)) = some (some z, d.sz, bytes)) (hz : z.cells.size = d.sz) (hs0 : 0 < d.sz) (hb0 : 0 < bytes)
    (A : Option Addr) (n : Nat) (xs : List α) (A2 : Option Addr) (m c : Nat) (ys : List α) (ok : Nat → Prop) (hs : a.eval s = .slice A n n) (hx : a.eval x = .slice A2 m c)
    (HX : Kd.F d W ok A n xs) (HY : Kd.C d W A2 m ys) (hl : (n + m) * bytes ≤ 140737488355328)
    (h : ∀ v1 w1, Kd.V d e w1 base (fun k => ok k ∨ W.heap.size ≤ k) v1 (xs ++ ys) → Below W.heap.size W w1 → wpList P ops Q rest (a.put o.dst v1) w1) :
    wpList P ops Q (o :: rest) a W := by
  obtain ⟨i0, hi, hzz⟩ := Option.map_eq_some_iff.1 hinfo
  simp only [Prod.mk.injEq] at hzz
  obtain ⟨hz0, hz1, hz2⟩ := hzz
  obtain ⟨v1, w1, hr1, hb, hv⟩ := run_app_cut (P := P) d hf W t o.type e i0 z bytes ht hi hz0 hz1 hz2 hz hs0 hb0 A n xs A2 m c ys ok base HX HY hl
  refine wpList_plain hgd fun K hK => ?_
  unfold Oper.wp execOp
  simp only [ho, resolve, invoke, builtin, Sem.run_bind, Sem.run_pure, Result.andThen_ok, List.map_toArray, List.map_cons, List.map_nil, hs, hx, hr1]
  exact hK _ _ (h v1 w1 hv hb)
theorem step_append_cut (d : Kd α) (hf : Flat d) {W : World} {K : Act → World → Prop} {E : Prop} (base : Nat) (hgd : o.guard = none) (s x : Operand) (t e : TypeId) (z : Value) (bytes : Nat)
    (ho : o.op = .call { callee := .builtin .append, args := #[s, x], argTypes := #[t, t] })
    (ht : P.underlying t = some (.slice e)) (hinfo : (P.info? e).map (fun i => (i.zero, i.size, i.bytes)) = some (some z, d.sz, bytes)) (hz : z.cells.size = d.sz) (hs0 : 0 < d.sz) (hb0 : 0 < bytes)
    (A : Option Addr) (n : Nat) (xs : List α) (A2 : Option Addr) (m c : Nat) (ys : List α) (ok : Nat → Prop) (hs : a.eval s = .slice A n n) (hx : a.eval x = .slice A2 m c)
    (HX : Kd.F d W ok A n xs) (HY : Kd.C d W A2 m ys) (hl : (n + m) * bytes ≤ 140737488355328)
    (h : ∀ v1 w1, Kd.V d e w1 base (fun k => ok k ∨ W.heap.size ≤ k) v1 (xs ++ ys) → Below W.heap.size W w1 → K (a.put o.dst v1) w1) :
    if Region.wanted o (yielded ops a.tmps) = true then Oper.wp P o a W K Q else E := by
  obtain ⟨i0, hi, hzz⟩ := Option.map_eq_some_iff.1 hinfo
  simp only [Prod.mk.injEq] at hzz
  obtain ⟨hz0, hz1, hz2⟩ := hzz
  obtain ⟨v1, w1, hr1, hb, hv⟩ := run_app_cut (P := P) d hf W t o.type e i0 z bytes ht hi hz0 hz1 hz2 hz hs0 hb0 A n xs A2 m c ys ok base HX HY hl
  have hw : Region.wanted o (yielded ops a.tmps) = true := by simp [Region.wanted, hgd]
  rw [if_pos hw]
  unfold Oper.wp execOp
  simp only [ho, resolve, invoke, builtin, Sem.run_bind, Sem.run_pure, Result.andThen_ok, List.map_toArray, List.map_cons, List.map_nil, hs, hx, hr1]
  exact h v1 w1 hv hb
end
end Go.Proofs.YtjpihfjgomoijaaDoor.K
end
section
/- slices.Clone of entries, roll.Append: by hand. -/
namespace Go.Proofs.YtjpihfjgomoijaaDoor.P
open Go.RowKit Go.Proofs.YtjpihfjgomoijaaDoor.K Go.Proofs.YtjpihfjgomoijaaDoorW.PrintWords Go.Proofs.YtjpihfjgomoijaaDoorW.PrintLast Go.Proofs.YtjpihfjgomoijaaDoorW.PrintMore
def api_Entry.f (l0 : List S54) : Option (List S54) := if l0.length < 5864062014805 then some l0 else none
set_option maxHeartbeats 2000000 in
set_option maxRecDepth 100000 in
theorem api_Entry.calls (A0 : Option Addr) (c0 : Nat) (l0 : List S54) (r : List S54) (w : World) (hG : TheG w) (hr0 : Kd.C k54 w A0 l0.length l0) (hc0 : l0.length ≤ c0) (h : api_Entry.f l0 = some r) :
    Calls Tryd.prog 44 #[.slice A0 l0.length c0] w fun e w' => ∃ v : Value, e = .returned v ∧ Kd.R k54 54 w' w.heap.size (fun _ => True) v r ∧ Below w.heap.size w w' := by
  unfold api_Entry.f at h
  split at h
  case isFalse => exact absurd h (by simp)
  case isTrue hl =>
  obtain rfl := Option.some.inj h
  clear h
  rcases A0 with _ | ad
  · have h0 : l0 = [] := by
      rcases l0 with _ | ⟨x, l⟩
      · rfl
      · obtain ⟨ad, h, _⟩ := hr0.2.2 (by simp); cases h
    subst h0
    have hbin := fun w => Lib.run_eql_slice_nil (P := Tryd.prog) w 22 54 none 0 c0 0 0 Tryd.underlying22
    go_enter Tryd.func44, Tryd.ntmps44
    go_wp2
    go_ret
    exact ⟨_, rfl, Kd.R_nil _ _ _ _ _, Below.refl _ _⟩
  · have HC := Lib.hid hr0
    clear hr0
    have hbin := fun w => Lib.run_eql_slice_nil (P := Tryd.prog) w 22 54 (some ad) l0.length c0 0 0 Tryd.underlying22
    go_enter Tryd.func44, Tryd.ntmps44
    go_wp2_with (first | ((with_reducible refine gate_dst (N := 5) rfl ?_); refine Kd.R_lit k54 _ 54 ?hg (N := 5) ?hd (xs := ([] : List (S54))) (inner := []) (ok := fun _ => True) (okp := fun _ => True) ?hr ?hp (fun _ hk => hk) trivial (Below.refl _ _) (Nat.le_refl _) (by simp) ?_; (case hd => rfl); (case hg => rfl); (case hr => first | (go_simp; done) | (go_simp; rfl)); (case hp => exact (Reps.none _ _)); intro v1 w1 ho1 hb1 _ _) | ((with_reducible refine gate_builtin (b := .append) (xs := #[.tmp 5, .tmp 6]) rfl ?_); at_builtin; refine Kd.R_append_rows k54 (w0 := w) w.heap.size rfl (.tmp 5) (.tmp 6) 22 54 (.agg #[(.int .i64 0), (.string ⟨#[]⟩)]) 24 rfl Tryd.underlying22 info54 rfl (by decide) (by omega) v1 [] l0 _ _ _ (fun _ => True) (fun _ => False) rfl rfl ?aO ?aR (fun _ _ h => h) (fun _ h => h.elim) ?aF ?aB ?aS ?aL ?_; (case aR => exact Kd.C_below HC.out hb1); (case aF => exact fun _ _ => trivial); (case aB => exact hb1); (case aS => exact hb1.size); (case aL => simp; omega); (case aO => exact ho1); intro v2 w2 ho2 hb2 _ _) | fail)
    obtain ⟨A3, c3, rfl⟩ := Kd.R_slice ho2
    go_ret
    exact ⟨_, rfl, ho2, hb2⟩
theorem flat54 : Flat k54 := by
  intro w w' x c h
  obtain rfl := k54_open h
  exact k54_mk w' x
theorem two_old {w w2 : World} {c1 c2 : Array Value} {t : TypeId} (hb : Below ((w.alloc (.cells c1 t)).alloc (.cells c2 t)).heap.size ((w.alloc (.cells c1 t)).alloc (.cells c2 t)) w2) (_ _ : Unit) : w2.heap[w.heap.size]? = some (.cells c1 t (0, 0)) := by
  have h1 : (w.alloc (.cells c1 t)).heap.size = w.heap.size + 1 := by simp
  have h2 : ((w.alloc (.cells c1 t)).alloc (.cells c2 t)).heap.size = w.heap.size + 2 := by simp
  rw [hb.block w.heap.size (by omega), heap_alloc_old _ _ (by omega)]
  exact heap_alloc_new w _
theorem two_new {w w2 : World} {c1 c2 : Array Value} {t : TypeId} (hb : Below ((w.alloc (.cells c1 t)).alloc (.cells c2 t)).heap.size ((w.alloc (.cells c1 t)).alloc (.cells c2 t)) w2) (_ _ : Unit) : w2.heap[w.heap.size + 1]? = some (.cells c2 t (0, 0)) := by
  have h1 : (w.alloc (.cells c1 t)).heap.size = w.heap.size + 1 := by simp
  have h2 : ((w.alloc (.cells c1 t)).alloc (.cells c2 t)).heap.size = w.heap.size + 2 := by simp
  rw [hb.block (w.heap.size + 1) (by omega), ← h1]
  exact heap_alloc_new _ _
def roll_Append.f (a0_0 a0_1 : Int) (l0_2 l1 : List S54) : Option (Int × Int × List S54) := if l0_2.length + l1.length < 5864062014805 then some (a0_0, a0_1, l0_2 ++ l1) else none
set_option maxHeartbeats 4000000 in
set_option maxRecDepth 100000 in
theorem roll_Append.calls (a0_0 : Int) (a0_1 : Int) (P0_2_ : Nat → Prop) (A0_2 : Option Addr) (c0_2 : Nat) (l0_2 : List (S54)) (A1 : Option Addr) (c1 : Nat) (l1 : List S54) (r1 : Int) (r2 : Int) (r3 : List (S54)) (w : World) (hG : TheG w) (hs0_2 : Kd.V k54 54 w w.heap.size (fun k_ => P0_2_ k_) (.slice A0_2 l0_2.length c0_2) l0_2) (hr1 : Kd.C k54 w A1 l1.length l1) (hc1 : l1.length ≤ c1) (h : roll_Append.f a0_0 a0_1 l0_2 l1 = some (r1, r2, r3)) :
    Calls Tryd.prog 30 #[.agg #[.int .i64 a0_0, .int .i64 a0_1, .slice A0_2 l0_2.length c0_2], .slice A1 l1.length c1] w fun e w' => ∃ v2_ : Value, e = .returned (.agg #[.int .i64 r1, .int .i64 r2, v2_]) ∧ Kd.V k54 54 w' w.heap.size (fun k_ => (P0_2_ k_ ∨ w.heap.size ≤ k_)) v2_ r3 ∧ Below w.heap.size w w' := by
  unfold roll_Append.f at h
  split at h
  case isFalse => exact absurd h (by simp)
  case isTrue hl =>
  simp only [Option.some.injEq, Prod.mk.injEq] at h
  obtain ⟨rfl, rfl, rfl⟩ := h
  obtain ⟨A, c, he, hcl, hF⟩ := hs0_2
  injection he with e1 e2 e3
  subst e1
  subst e3
  have HF := Lib.hid (Kd.F_bound hF)
  have HC := Lib.hid hr1
  clear hF hr1
  have hu24 := Tryd.underlying24
  go_enter Tryd.func30, Tryd.ntmps30
  go_wp2_with (first | ((with_reducible refine gate_builtin (b := .append) (xs := #[.tmp 13, .tmp 14]) rfl ?_); at_builtin; refine V_append_cut k54 flat54 w.heap.size rfl (.tmp 13) (.tmp 14) 22 54 (.agg #[(.int .i64 0), (.string ⟨#[]⟩)]) 24 rfl Tryd.underlying22 info54 rfl (by decide) (by omega) A0_2 l0_2.length l0_2 A1 l1.length c1 l1 (fun k_ => P0_2_ k_ ∧ k_ < w.heap.size) rfl rfl ?aX ?aY ?aL ?_; (case aX => exact Kd.F_alloc (Kd.F_alloc HF.out _) _); (case aY => exact Kd.C_alloc (Kd.C_alloc HC.out _) _); (case aL => omega); intro v2 w2 hv hb; obtain ⟨A3, c3, rfl, hc3, hF3⟩ := hv; have BK : w2.heap[w.heap.size]? = some (.cells #[.int .i64 a0_0, .int .i64 a0_1, .slice A0_2 l0_2.length c0_2] 24 (0, 0)) := two_old hb () (); have BL : w2.heap[w.heap.size + 1]? = some (.cells #[.int .i64 0, .int .i64 0, .slice none 0 0] 24 (0, 0)) := two_new hb () (); have z0 := (bkC BK 0).trans rfl; have z1 := (bkC BK 1).trans rfl; have z2 := (bkC BK 2).trans rfl; have f0 := bkF BK 0; have f1 := bkF BK 1; have f2 := bkF BK 2; have y0 := (bkC BL 0).trans rfl; have y1 := (bkC BL 1).trans rfl; have y2 := (bkC BL 2).trans rfl; have g0 := bkF BL 0; have g1 := bkF BL 1; have g2 := bkF BL 2) | fail)
  have h1 : (w.alloc (.cells #[.int .i64 a0_0, .int .i64 a0_1, .slice A0_2 l0_2.length c0_2] 24)).heap.size = w.heap.size + 1 := by simp
  have h2 : ((w.alloc (.cells #[.int .i64 a0_0, .int .i64 a0_1, .slice A0_2 l0_2.length c0_2] 24)).alloc (.cells #[.int .i64 0, .int .i64 0, .slice none 0 0] 24)).heap.size = w.heap.size + 2 := by simp
  rw [h2] at hF3
  have hB : Below w.heap.size w w2 := pbT (pbA (pbA (Below.refl _ _) _) _) hb
  refine bodyPost_ret (results_cell_row rfl _ _ (w.heap.size + 1) 24 #[.int .i64 a0_0, .int .i64 a0_1, .slice A3 (l0_2.length + l1.length) c3] (0, 0) _ rfl (by refine blk_put (cs := #[.int .i64 a0_0, .int .i64 a0_1, .slice none 0 0]) ?_ 2 _ rfl; refine blk_put (cs := #[.int .i64 a0_0, .int .i64 0, .slice none 0 0]) ?_ 1 _ rfl; refine blk_put (cs := #[.int .i64 0, .int .i64 0, .slice none 0 0]) ?_ 0 _ rfl; refine blk_far ?_ (by simp) _; exact BL) Tryd.underlying24 rfl (by kernel_rfl)) rfl ?_
  refine ⟨_, rfl, ⟨A3, c3, by rw [List.length_append], hc3, ?_⟩, ?_⟩
  · refine Kd.F_mono (ok := fun k => P0_2_ k ∧ k < w.heap.size ∨ w.heap.size + 2 ≤ k) ?_ (fun k hk => hk.imp (fun h => h.1) (fun h => by omega))
    refine Kd.F_far (Kd.F_far (Kd.F_far (Kd.F_far hF3 ?_ _) ?_ _) ?_ _) ?_ _
    all_goals (intro k hk; simp only; omega)
  · exact (((hB.setCell (Nat.le_refl _) _).setCell (Nat.le_succ _) _).setCell (Nat.le_succ _) _).setCell (Nat.le_succ _) _
end Go.Proofs.YtjpihfjgomoijaaDoor.P
end
section
-- Written by a program of this session (wip/tools/pr.py), over the kit's printer; functions named in the texts imported below are given by hand.
namespace Go.Proofs.YtjpihfjgomoijaaDoor.P
open Go.RowKit Go.Proofs.YtjpihfjgomoijaaDoor.K Go.Proofs.YtjpihfjgomoijaaDoorW.PrintWords Go.Proofs.YtjpihfjgomoijaaDoorW.PrintLast Go.Proofs.YtjpihfjgomoijaaDoorW.PrintMore
attribute [local go_sem] max2_int min2_int max_two min_two max_three min_three max_four min_four   -- for this text's walks alone
/-! ### roll_Term: function 24 -/
def roll_Term.j0 : Nat → Int → Bool → Int → Int → List (S54) → Option (Int × Bool)
  | 0, _, _, _, _, _ => none
  | k + 1, x1, x6, x158000, x158001, x158002 => if x6 = true then (some (0, false)) else (if x1 = x158000 then (some (x158001, true)) else (if 0 ≤ (wrap64 ((wrap64 (x1 - x158000)) - 1)) then (if (wrap64 ((wrap64 (x1 - x158000)) - 1)) < (x158002.length : Int) then (some ((rd_T54 x158002 (wrap64 ((wrap64 (x1 - x158000)) - 1))).f0, true)) else (none)) else (none)))
def roll_Term.f (k : Nat) (a0_0 : Int) (a0_1 : Int) (l0_2 : List (S54)) (a1 : Int) : Option (Int × Bool) := if a1 < a0_0 then (roll_Term.j0 k a1 true a0_0 a0_1 l0_2) else (roll_Term.j0 k a1 (decide ((wrap64 (a1 - a0_0)) > (l0_2.length : Int))) a0_0 a0_1 l0_2)
theorem roll_Term.mono_l : ∀ k, (∀ y0 y1 y2 y3 y4, LeO (roll_Term.j0 k y0 y1 y2 y3 y4) (roll_Term.j0 (k + 1) y0 y1 y2 y3 y4))
  | 0 => fun _ _ _ _ _ r h => by simp [roll_Term.j0] at h
  | k + 1 => by
    have ih0 := roll_Term.mono_l k
    · intro y0 y1 y2 y3 y4
      unfold roll_Term.j0
      repeat' first
      | (with_reducible exact ih0 _ _ _ _ _)
      | (with_reducible exact LeO.refl _)
      | (with_reducible exact LeO.none _)
      | (with_reducible refine LeO.ite ?_ ?_)
      | (with_reducible refine LeO.bind ?_ (fun _ => ?_))
      | exact ih0 _ _ _ _ _
      | exact LeO.none _
      | refine LeO.ite ?_ ?_
      | refine LeO.bind ?_ (fun _ => ?_)
theorem roll_Term.mono : ∀ a0 a1 a2 a3 k, LeO (roll_Term.f k a0 a1 a2 a3) (roll_Term.f (k + 1) a0 a1 a2 a3) := by
  intro a0 a1 a2 a3 k
  have ih0 := roll_Term.mono_l k
  unfold roll_Term.f
  repeat' first
      | (with_reducible exact ih0 _ _ _ _ _)
      | (with_reducible exact LeO.refl _)
      | (with_reducible exact LeO.none _)
      | (with_reducible refine LeO.ite ?_ ?_)
      | (with_reducible refine LeO.bind ?_ (fun _ => ?_))
      | exact ih0 _ _ _ _ _
      | exact LeO.none _
      | refine LeO.ite ?_ ?_
      | refine LeO.bind ?_ (fun _ => ?_)
set_option maxHeartbeats 8000000 in
set_option maxRecDepth 100000 in
theorem roll_Term.calls (k : Nat) (a0_0 : Int) (a0_1 : Int) (A0_2 : Option Addr) (c0_2 : Nat) (l0_2 : List (S54)) (a1 : Int) (r1 : Int) (r2 : Bool) (w : World) (hG : TheG w) (hr0_2 : Kd.C k54 w A0_2 l0_2.length l0_2) (hc0_2 : l0_2.length ≤ c0_2) (h : roll_Term.f k a0_0 a0_1 l0_2 a1 = some (r1, r2)) :
    Calls Tryd.prog 24 #[.agg #[.int .i64 a0_0, .int .i64 a0_1, .slice A0_2 l0_2.length c0_2], .int .i64 a1] w fun e w' => e = .returned (.tuple #[.int .i64 r1, .bool r2]) ∧ Below w.heap.size w w' := by
  have hu24 := Tryd.underlying24
  have HR0_2 := Az.mk hr0_2
  have HC0_2 := Az.mk hc0_2
  clear hr0_2 hc0_2
  have HB := Az.mk (Below.refl w.heap.size w)
  have H : (if a1 < a0_0 then (roll_Term.j0 k a1 true a0_0 a0_1 l0_2) else (roll_Term.j0 k a1 (decide ((wrap64 (a1 - a0_0)) > (l0_2.length : Int))) a0_0 a0_1 l0_2)) = some (r1, r2) := h
  clear h
  have HC3 := Az.mk H
  clear H
  go_enter Tryd.func24, Tryd.ntmps24
  go_upto_region 1 with (first | ((with_reducible refine gate_dst (N := 2) rfl ?_); (try (refine gate_guard (by rfl) ?_; dsimp only)); refine box_event ?hg (N := 2) ?hd (cs := #[.int .i64 a0_0, .int .i64 a0_1, .slice A0_2 l0_2.length c0_2]) (t := 24) ?hr ?_; (case hd => rfl); (case hg => rfl); (case hr => first | (go_simp; done) | (go_simp; rfl)); intro gb157 hg w4 hbox hb; have n0_ := Az.mk (pbT (by repeat (first | (with_reducible first | exact HB.out | apply pbA | apply pbN | apply pb1) | exact HB.out)) hb); have n1_ := Az.mk (hbox); have n2_ := Az.mk ((by rw [hg]; exact (pbZ (by repeat (first | (with_reducible first | exact HB.out | apply pbA | apply pbN | apply pb1) | exact HB.out))) : w.heap.size ≤ gb157)); have n3_ := Az.mk ((by rw [hg]; exact (pbZ (by repeat (first | (with_reducible first | exact HB.out | apply pbA | apply pbN | apply pb1) | exact HB.out))) : w.heap.size ≤ gb157)); clear HB; have HB := n0_; have BK157 := n1_; have GW157 := n2_; have GE157 := n3_; clear n0_ n1_ n2_ n3_; clear hb hbox hg))
  (try simp only [Act.put, List.setIfInBounds_toArray, List.set_cons_zero, List.set_cons_succ])
  go_cut [6] (fun v6 wc => ∃ (kq : Nat) (x6_2 : Bool), v6 = .bool x6_2 ∧ Az (roll_Term.j0 kq a1 x6_2 a0_0 a0_1 l0_2 = some (r1, r2)) ∧ Az (kq ≤ k) ∧ Az (wc.heap[gb157]? = some (.cells #[.int .i64 a0_0, .int .i64 a0_1, (.slice A0_2 l0_2.length c0_2)] 24 (0, 0))) ∧ Az (Below w.heap.size w wc))
  case first =>
    have H := HC3.out
    clear HC3
    by_cases c5 : a1 < a0_0
    · rw [if_pos c5] at H
      have c5b0 : decide (a1 < a0_0) = true := decide_eq_true c5
      clear c5
      (first | rw [c5b0] | (simp only [i64_w, i32_w]; rw [c5b0]) | skip)
      have H' := Az.mk H
      clear H
      have hcz6_0 : w4.cell? ⟨gb157, 0, none⟩ = some (.int .i64 a0_0) := (bkC BK157.out 0).trans rfl
      have hcz6_1 : w4.cell? ⟨gb157, 1, none⟩ = some (.int .i64 a0_1) := (bkC BK157.out 1).trans rfl
      have hcz6_2 : w4.cell? ⟨gb157, 2, none⟩ = some (.slice A0_2 l0_2.length c0_2) := (bkC BK157.out 2).trans rfl
      have hfz6_0 := bkF BK157.out 0
      have hfz6_1 := bkF BK157.out 1
      have hfz6_2 := bkF BK157.out 2
      go_wp2
      go_meet
      case rel => exact ⟨_, (true), (by first | rfl | (simp; done) | (simp [*]; done)), H', ⟨by first | omega | exact Nat.le_refl _⟩, ⟨by (with_reducible repeat (first | refine bkN ?_ _ | refine bkD ?_ | refine bkA ?_ _)); exact BK157.out⟩, ⟨by repeat (first | (with_reducible first | exact HB.out | apply pbA | apply pbN | apply pb1 | refine pbS ?_ GE157.out) | exact HB.out)⟩⟩
    · rw [if_neg c5] at H
      have c5b0 : decide (a1 < a0_0) = false := decide_eq_false c5
      clear c5
      (first | rw [c5b0] | (simp only [i64_w, i32_w]; rw [c5b0]) | skip)
      have H' := Az.mk H
      clear H
      have hcz7_0 : w4.cell? ⟨gb157, 0, none⟩ = some (.int .i64 a0_0) := (bkC BK157.out 0).trans rfl
      have hcz7_1 : w4.cell? ⟨gb157, 1, none⟩ = some (.int .i64 a0_1) := (bkC BK157.out 1).trans rfl
      have hcz7_2 : w4.cell? ⟨gb157, 2, none⟩ = some (.slice A0_2 l0_2.length c0_2) := (bkC BK157.out 2).trans rfl
      have hfz7_0 := bkF BK157.out 0
      have hfz7_1 := bkF BK157.out 1
      have hfz7_2 := bkF BK157.out 2
      go_wp2
      go_meet
      case rel => exact ⟨_, (decide ((wrap64 (a1 - a0_0)) > (l0_2.length : Int))), (by first | rfl | (simp; done) | (simp [*]; done)), H', ⟨by first | omega | exact Nat.le_refl _⟩, ⟨by (with_reducible repeat (first | refine bkN ?_ _ | refine bkD ?_ | refine bkA ?_ _)); exact BK157.out⟩, ⟨by repeat (first | (with_reducible first | exact HB.out | apply pbA | apply pbN | apply pb1 | refine pbS ?_ GE157.out) | exact HB.out)⟩⟩
  case rest =>
    clear HC3
    try clear c2
    try clear p2
    try clear c5
    try clear c5b0
    try clear p6
    try clear hcz6_0
    try clear hcz6_1
    try clear hcz6_2
    try clear hcz7_0
    try clear hcz7_1
    try clear hcz7_2
    try clear hfz6_0
    try clear hfz6_1
    try clear hfz6_2
    try clear hfz7_0
    try clear hfz7_1
    try clear hfz7_2
    obtain ⟨kq, x6_2, rfl, HA, HJ2, BK157, HB⟩ := hcut
    cases kq with
    | zero => exact absurd HA.out (by simp [roll_Term.j0])
    | succ kj2 =>
      have H := HA.out
      clear HA
      simp only [roll_Term.j0] at H
      by_cases c8 : x6_2 = true
      · subst c8
        have H1 : (some (0, false)) = some (r1, r2) := by rw [if_pos rfl] at H; exact H
        clear H
        have H := H1
        clear H1
        simp only [Option.some.injEq, Prod.mk.injEq] at H
        obtain ⟨rfl, rfl⟩ := H
        go_wp2
        go_ret2
        exact ⟨by first | rfl | (simp [errW_none, errW_some] <;> rfl) | (simp [*, errW_none, errW_some] <;> rfl), by repeat (first | (with_reducible first | exact HB.out | apply pbA | apply pbN | apply pb1 | refine pbS ?_ GE157.out) | exact HB.out)⟩
      · replace c8 := Bool.eq_false_iff.mpr c8
        subst c8
        have H1 : (if a1 = a0_0 then (some (a0_1, true)) else (if 0 ≤ (wrap64 ((wrap64 (a1 - a0_0)) - 1)) then (if (wrap64 ((wrap64 (a1 - a0_0)) - 1)) < (l0_2.length : Int) then (some ((rd_T54 l0_2 (wrap64 ((wrap64 (a1 - a0_0)) - 1))).f0, true)) else (none)) else (none))) = some (r1, r2) := by rw [if_neg (show ¬ (false = true) by decide)] at H; exact H
        clear H
        have H := H1
        clear H1
        by_cases c9 : a1 = a0_0
        · rw [if_pos c9] at H
          have c9b0 : (a1 == a0_0) = true := beq_iff_eq.mpr c9
          have c9b1 : (a1 != a0_0) = false := bne_eq_false_iff_eq.mpr c9
          clear c9
          simp only [Option.some.injEq, Prod.mk.injEq] at H
          obtain ⟨rfl, rfl⟩ := H
          have hcz10_0 : wc.cell? ⟨gb157, 0, none⟩ = some (.int .i64 a0_0) := (bkC BK157.out 0).trans rfl
          have hcz10_1 : wc.cell? ⟨gb157, 1, none⟩ = some (.int .i64 a0_1) := (bkC BK157.out 1).trans rfl
          have hcz10_2 : wc.cell? ⟨gb157, 2, none⟩ = some (.slice A0_2 l0_2.length c0_2) := (bkC BK157.out 2).trans rfl
          have hfz10_0 := bkF BK157.out 0
          have hfz10_1 := bkF BK157.out 1
          have hfz10_2 := bkF BK157.out 2
          go_wp2
          go_ret2
          exact ⟨by first | rfl | (simp [errW_none, errW_some] <;> rfl) | (simp [*, errW_none, errW_some] <;> rfl), by repeat (first | (with_reducible first | exact HB.out | apply pbA | apply pbN | apply pb1 | refine pbS ?_ GE157.out) | exact HB.out)⟩
        · rw [if_neg c9] at H
          have c9b0 : (a1 == a0_0) = false := beq_eq_false_iff_ne.mpr c9
          have c9b1 : (a1 != a0_0) = true := bne_iff_ne.mpr c9
          obtain ⟨ji11, hji11⟩ : ∃ j_ : Int, (wrap64 ((wrap64 (a1 - a0_0)) - 1)) = j_ := ⟨_, rfl⟩
          replace H : (if 0 ≤ (ji11) then (if (ji11) < (l0_2.length : Int) then (some ((rd_T54 l0_2 (ji11)).f0, true)) else (none)) else (none)) = some (r1, r2) := by first | (rw [hji11] at H; exact H) | (simp only [hji11] at H ⊢; exact H)
          have hji11w : (IntKind.i64.wrap ((wrap64 (a1 - a0_0)) - 1)) = ji11 := (i64_w _).trans hji11
          by_cases c12 : 0 ≤ (ji11)
          · rw [if_pos c12] at H
            have c12b0 : decide (0 ≤ (ji11)) = true := decide_eq_true c12
            clear c12
            by_cases c13 : (ji11) < (l0_2.length : Int)
            · rw [if_pos c13] at H
              have c13b0 : decide ((ji11) < (l0_2.length : Int)) = true := decide_eq_true c13
              clear c13
              simp only [Option.some.injEq, Prod.mk.injEq] at H
              obtain ⟨rfl, rfl⟩ := H
              have hcz14_0 : wc.cell? ⟨gb157, 0, none⟩ = some (.int .i64 a0_0) := (bkC BK157.out 0).trans rfl
              have hcz14_1 : wc.cell? ⟨gb157, 1, none⟩ = some (.int .i64 a0_1) := (bkC BK157.out 1).trans rfl
              have hcz14_2 : wc.cell? ⟨gb157, 2, none⟩ = some (.slice A0_2 l0_2.length c0_2) := (bkC BK157.out 2).trans rfl
              have hfz14_0 := bkF BK157.out 0
              have hfz14_1 := bkF BK157.out 1
              have hfz14_2 := bkF BK157.out 2
              have p158 : 0 ≤ ((ji11) : Int) := of_decide_eq_true (by first | (with_reducible assumption) | assumption)
              have q158 : (ji11) < (l0_2.length : Int) := of_decide_eq_true (by first | (with_reducible assumption) | assumption)
              obtain ⟨ad158, e158, hx158_0, hx158_1⟩ := at_T54 HR0_2.out (ji11) p158 q158
              cases e158
              replace hx158_0 := (HB.out.cell (World.block_lt_of_cell? w _ hx158_0)).trans hx158_0
              replace hx158_1 := (HB.out.cell (World.block_lt_of_cell? w _ hx158_1)).trans hx158_1
              replace p158 := eq_true p158
              replace q158 := eq_true q158
              go_wp2
              go_ret2
              exact ⟨by first | rfl | (simp [errW_none, errW_some] <;> rfl) | (simp only [← hji11]; first | rfl | (simp [errW_none, errW_some] <;> rfl)) | (simp [*, errW_none, errW_some] <;> rfl), by repeat (first | (with_reducible first | exact HB.out | apply pbA | apply pbN | apply pb1 | refine pbS ?_ GE157.out) | exact HB.out)⟩
            · rw [if_neg c13] at H
              exact absurd H (by simp)
          · rw [if_neg c12] at H
            exact absurd H (by simp)
end Go.Proofs.YtjpihfjgomoijaaDoor.P
end
section
/- roll.Merge: by hand. -/
namespace Go.Proofs.YtjpihfjgomoijaaDoor.P
open Go.RowKit Go.Proofs.YtjpihfjgomoijaaDoor.K Go.Proofs.YtjpihfjgomoijaaDoorW.PrintWords Go.Proofs.YtjpihfjgomoijaaDoorW.PrintLast Go.Proofs.YtjpihfjgomoijaaDoorW.PrintMore
attribute [local go_sem ↓] Go.wp_at_zero Go.wp_at_succ
/-- An entry's term in a roll. -/
def termR (b bt : Int) (l : List S54) (i : Int) : Int × Bool := if i < b then (0, false) else if i - b > (l.length : Int) then (0, false) else if i = b then (bt, true) else ((rd_T54 l (i - b - 1)).f0, true)
theorem term_eq {b bt : Int} {l : List S54} {i : Int} (h0 : 0 ≤ b) (h1 : l.length ≤ 9223372036854775807) (h2 : i ≤ 9223372036854775807) : roll_Term.f 1 b bt l i = some (termR b bt l i) := by
  unfold roll_Term.f termR
  by_cases c1 : i < b
  · rw [if_pos c1, if_pos c1]; rfl
  · have e : wrap64 (i - b) = i - b := by unfold wrap64; omega
    have e2 : wrap64 (i - b - 1) = i - b - 1 := by unfold wrap64; omega
    rw [if_neg c1, if_neg c1]
    simp only [roll_Term.j0, e, e2]
    by_cases c2 : i - b > (l.length : Int)
    · rw [if_pos (decide_eq_true c2), if_pos c2]
    · rw [if_neg (by simpa using c2), if_neg c2]
      by_cases c3 : i = b
      · rw [if_pos c3, if_pos c3]
      · rw [if_neg c3, if_neg c3, if_pos (by omega), if_pos (by omega)]
/-- How many of the entries stand there already. -/
def sameN (b bt : Int) (l : List S54) (i : Int) : List S54 → Nat
  | [] => 0
  | x :: r => if termR b bt l i = (x.f0, true) then sameN b bt l (i + 1) r + 1 else 0
def roll_Merge.f (a0_0 a0_1 : Int) (l0_2 : List S54) (a1 a2 : Int) (l3 : List S54) : Option (Int × Int × List S54 × Bool) :=
  if 0 ≤ a0_0 ∧ -9223372036854775808 ≤ a1 ∧ a1 ≤ 9223372036854775807 ∧ l3.length ≤ 1000000000 ∧ l0_2.length ≤ 1000000000 then
    if termR a0_0 a0_1 l0_2 a1 = (a2, true) then
      if ¬ a1 ≤ 4611686018427387904 then none
      else if sameN a0_0 a0_1 l0_2 (a1 + 1) l3 = l3.length then some (a0_0, a0_1, l0_2, true)
      else some (a0_0, a0_1, l0_2.take (a1 - a0_0 + (sameN a0_0 a0_1 l0_2 (a1 + 1) l3 : Nat)).toNat ++ l3.drop (sameN a0_0 a0_1 l0_2 (a1 + 1) l3), true)
    else some (a0_0, a0_1, l0_2, false)
  else none
theorem termR_in {b bt : Int} {l : List S54} {i t : Int} (h : termR b bt l i = (t, true)) : b ≤ i ∧ i - b ≤ (l.length : Int) := by
  unfold termR at h
  split at h
  · cases h
  · split at h
    · cases h
    · omega
theorem sameN_in {b bt : Int} {l : List S54} : ∀ (r : List S54) (i : Int), b ≤ i - 1 → i - 1 - b ≤ (l.length : Int) → i - 1 - b + (sameN b bt l i r : Int) ≤ (l.length : Int)
  | [], i, _, h => by simp [sameN]; exact h
  | x :: r, i, h0, h => by
    simp only [sameN]
    split
    · rename_i e
      obtain ⟨h1, h2⟩ := termR_in e
      have := sameN_in (b := b) (bt := bt) (l := l) r (i + 1) (by omega) (by omega)
      omega
    · simp; exact h
theorem sameN_le {b bt : Int} {l : List S54} : ∀ (r : List S54) (i : Int), sameN b bt l i r ≤ r.length
  | [], i => Nat.le_refl _
  | x :: r, i => by
    simp only [sameN]
    split
    · have := sameN_le (b := b) (bt := bt) (l := l) r (i + 1); simp; omega
    · exact Nat.zero_le _
theorem put3 {w1 : World} {B : Nat} {t : TypeId} {x y v : Value} (BL : w1.heap[B]? = some (.cells #[.int .i64 0, .int .i64 0, .slice none 0 0] t (0, 0))) : (((w1.setCell ⟨B, 0, none⟩ x).setCell ⟨B, 1, none⟩ y).setCell ⟨B, 2, none⟩ v).heap[B]? = some (.cells #[x, y, v] t (0, 0)) := by
  refine blk_put (cs := #[x, y, .slice none 0 0]) ?_ 2 _ rfl
  refine blk_put (cs := #[x, .int .i64 0, .slice none 0 0]) ?_ 1 _ rfl
  exact blk_put (cs := #[.int .i64 0, .int .i64 0, .slice none 0 0]) BL 0 _ rfl
theorem F_put3 {α : Type} {d : Kd α} {w1 : World} {ok : Nat → Prop} {A : Option Addr} {n : Nat} {xs : List α} {B : Nat} {x y v : Value} (h : Kd.F d w1 ok A n xs) (hB : ∀ k, ok k → k ≠ B) : Kd.F d (((w1.setCell ⟨B, 0, none⟩ x).setCell ⟨B, 1, none⟩ y).setCell ⟨B, 2, none⟩ v) ok A n xs :=
  Kd.F_far (Kd.F_far (Kd.F_far h hB _) hB _) hB _
theorem take_row {w : World} {ok : Nat → Prop} {A : Option Addr} {l : List S54} {N : Nat} (h : Kd.F k54 w ok A l.length l) (hn : N ≤ l.length) : Kd.F k54 w ok A N (l.take N) := by
  have := Kd.F_take h hn
  rwa [List.length_take, Nat.min_eq_left hn] at this
theorem drop_row {w : World} {ad : Addr} {c k : Nat} {l : List S54} (h : Kd.C k54 w (some ad) l.length l) (hc : l.length ≤ c) (hk : k < l.length) : Kd.C k54 w (some (ad.add (k * 2))) (l.length - k) (l.drop k) := by
  have := Kd.C_drop h (Nat.le_of_lt hk) hc
  rw [if_neg (by omega), List.length_drop] at this
  exact this
set_option maxHeartbeats 8000000 in
set_option maxRecDepth 100000 in
theorem roll_Merge.calls (a0_0 : Int) (a0_1 : Int) (P0_2_ : Nat → Prop) (A0_2 : Option Addr) (c0_2 : Nat) (l0_2 : List (S54)) (a1 : Int) (a2 : Int) (A3 : Option Addr) (c3 : Nat) (l3 : List (S54)) (r1 : Int) (r2 : Int) (r3 : List (S54)) (r4 : Bool) (w : World) (hG : TheG w) (hs0_2 : Kd.V k54 54 w w.heap.size (fun k_ => P0_2_ k_) (.slice A0_2 l0_2.length c0_2) l0_2) (hr3 : Kd.C k54 w A3 l3.length l3) (hc3 : l3.length ≤ c3) (h : roll_Merge.f a0_0 a0_1 l0_2 a1 a2 l3 = some (r1, r2, r3, r4)) :
    Calls Tryd.prog 19 #[.agg #[.int .i64 a0_0, .int .i64 a0_1, .slice A0_2 l0_2.length c0_2], .int .i64 a1, .int .i64 a2, .slice A3 l3.length c3] w fun e w' => ∃ v2_ : Value, e = .returned (.tuple #[.agg #[.int .i64 r1, .int .i64 r2, v2_], .bool r4]) ∧ Kd.V k54 54 w' w.heap.size (fun k_ => (P0_2_ k_ ∨ w.heap.size ≤ k_)) v2_ r3 ∧ Below w.heap.size w w' := by
  unfold roll_Merge.f at h
  split at h
  case isFalse => exact absurd h (by simp)
  case isTrue hbd =>
  obtain ⟨hb0, hi0, hi1, hl3, hl0⟩ := hbd
  obtain ⟨A, c, he, hcl, hF⟩ := hs0_2
  injection he with e1 e2 e3
  subst e1
  subst e3
  clear e2
  have HF := Lib.hid (Kd.F_bound hF)
  have HC := Lib.hid (Kd.F_now hF)
  have HC3 := Lib.hid hr3
  clear hF hr3
  have hu24 := Tryd.underlying24
  have HT := Lib.hid (term_eq (bt := a0_1) (l := l0_2) (i := a1) hb0 (by omega) (by omega))
  by_cases hm : termR a0_0 a0_1 l0_2 a1 = (a2, true)
  · rw [if_pos hm] at h
    have hi2 : a1 ≤ 4611686018427387904 := Classical.byContradiction fun hn => by rw [if_pos hn] at h; cases h
    rw [if_neg (Classical.not_not.2 hi2)] at h
    replace hi1 := hi2
    clear hi2
    rw [hm] at HT
    have hin := termR_in hm
    have hqa : (a2 != a2) = false := by simp
    have Hh := Lib.hid h
    clear h hm
    obtain ⟨hin0, hin1⟩ := hin
    go_enter Tryd.func19, Tryd.ntmps19
    go_wp2_with (first | (go_at_call 24; refine (roll_Term.calls 1 a0_0 a0_1 A0_2 c0_2 l0_2 _ a2 true _ (hG.below (pbA (pbA (Below.refl _ _) _) _)) (Kd.C_alloc (Kd.C_alloc HC.out _) _) hcl HT.out).mono ?_; rintro e w1 ⟨rfl, hb⟩; have BK := two_old hb () (); have BL := two_new hb () (); have z0 := (bkC BK 0).trans rfl; have z1 := (bkC BK 1).trans rfl; have z2 := (bkC BK 2).trans rfl; have g0 := bkF BL 0; have g1 := bkF BL 1; have g2 := bkF BL 2; have y0 := (bkC BL 0).trans rfl; have y1 := (bkC BL 1).trans rfl; have y2 := (bkC BL 2).trans rfl) | fail)
    have hB : Below w.heap.size w w1 := pbT (pbA (pbA (Below.refl _ _) _) _) hb
    have HBK := Lib.hid BK
    have HBL := Lib.hid BL
    have HB := Lib.hid hB
    clear hb BK BL z0 z1 z2 g0 g1 g2 y0 y1 y2 hB
    go_loopw [12] (fun i wr => ∃ k : Nat, k ≤ l3.length ∧ i = .int .i64 k ∧ Hid (sameN a0_0 a0_1 l0_2 (a1 + 1) l3 = k + sameN a0_0 a0_1 l0_2 (a1 + 1 + k) (l3.drop k)) ∧ Hid (wr.heap[w.heap.size]? = some (.cells #[.int .i64 a0_0, .int .i64 a0_1, .slice A0_2 l0_2.length c0_2] 24 (0, 0))) ∧ Hid (wr.heap[w.heap.size + 1]? = some (.cells #[.int .i64 0, .int .i64 0, .slice none 0 0] 24 (0, 0))) ∧ Hid (Below w.heap.size w wr)) (fun i _ => l3.length - (intOf i).toNat)
    case atStart => exact ⟨0, Nat.zero_le _, rfl, Lib.hid (by simp), HBK, HBL, HB⟩
    case round =>
      clear HBK HBL HB HT
      obtain ⟨k, hk, rfl, HN, HBK, HBL, HB⟩ := hrel
      have zz0 := (bkC HBK.out 0).trans rfl
      have zz1 := (bkC HBK.out 1).trans rfl
      have zz2 := (bkC HBK.out 2).trans rfl
      have gg0 := bkF HBL.out 0
      have gg1 := bkF HBL.out 1
      have gg2 := bkF HBL.out 2
      have yy0 := (bkC HBL.out 0).trans rfl
      have yy1 := (bkC HBL.out 1).trans rfl
      have yy2 := (bkC HBL.out 2).trans rfl
      by_cases hlt : k < l3.length
      · have hk0 : (0 : Int) ≤ (k : Int) := by omega
        have hk1 : (k : Int) < (l3.length : Int) := by omega
        obtain ⟨ad, ea, _⟩ := at_T54 HC3.out (k : Int) hk0 (by omega)
        subst ea
        have HT2 := Lib.hid (term_eq (bt := a0_1) (l := l0_2) (i := a1 + 1 + (k : Int)) hb0 (by omega) (by omega))
        have hdrop : l3.drop k = l3[k] :: l3.drop (k + 1) := List.drop_eq_getElem_cons hlt
        have hrd : rd_T54 l3 (k : Int) = l3[k] := by simp [rd_T54, hlt]
        have hN := HN.out
        rw [hdrop] at hN
        simp only [sameN] at hN
        rw [← hrd] at hN
        rcases hT : termR a0_0 a0_1 l0_2 (a1 + 1 + (k : Int)) with ⟨t, ok⟩
        rw [hT] at HT2 hN
        clear hT hdrop hrd HN
        by_cases hm : ok = true ∧ t = (rd_T54 l3 (k : Int)).f0
        · obtain ⟨rfl, hE⟩ := hm
          rw [if_pos (by rw [hE])] at hN
          have HN := Lib.hid hN
          clear hN
          have hY : (t != (rd_T54 l3 (k : Int)).f0) = false := by rw [hE]; simp
          clear hE
          go_wp2_with (first | (go_at_call 24; refine (roll_Term.calls 1 a0_0 a0_1 A0_2 c0_2 l0_2 _ t true _ (hG.below HB.out) (Kd.C_below HC.out HB.out) hcl HT2.out).mono ?_; rintro e w2 ⟨rfl, hb2⟩; have HB2 := Lib.hid (pbT HB.out hb2); have BK2 := bkB HBK.out hb2; have BL2 := bkB HBL.out hb2; have z0 := (bkC BK2 0).trans rfl; have z1 := (bkC BK2 1).trans rfl; have z2 := (bkC BK2 2).trans rfl; have g0 := bkF BL2 0; have g1 := bkF BL2 1; have g2 := bkF BL2 2; have y0 := (bkC BL2 0).trans rfl; have y1 := (bkC BL2 1).trans rfl; have y2 := (bkC BL2 2).trans rfl; obtain ⟨ad2, ea2, hc0, _⟩ := at_T54 (Kd.C_below HC3.out HB2.out) (k : Int) hk0 hk1; injection ea2 with ea2; subst ea2; rw [Int.toNat_natCast] at hc0; generalize (rd_T54 l3 (k : Int)).f0 = Y at hY hc0) | fail)
          refine ⟨⟨k + 1, hlt, rfl, Lib.hid ?_, Lib.hid BK2, Lib.hid BL2, HB2⟩, by simp [intOf]; omega⟩
          rw [HN.out, show a1 + 1 + ((k + 1 : Nat) : Int) = a1 + 1 + (k : Int) + 1 by omega]
          omega
        · have hq : (!ok || t != (rd_T54 l3 (k : Int)).f0) = true := by
            cases ok
            · rfl
            · rw [Bool.not_true, Bool.false_or, bne_iff_ne]; exact fun e => hm ⟨rfl, e⟩
          rw [if_neg (by intro e; injection e with e1 e2; exact hm ⟨e2, e1⟩), Nat.add_zero] at hN
          have hh := Hh.out
          rw [hN, if_neg (by omega)] at hh
          simp only [Option.some.injEq, Prod.mk.injEq] at hh
          obtain ⟨rfl, rfl, rfl, rfl⟩ := hh
          have hn := sameN_in (b := a0_0) (bt := a0_1) (l := l0_2) l3 (a1 + 1) (by omega) (by omega)
          rw [hN] at hn
          clear hN hm Hh
          obtain ⟨N, hNI⟩ : ∃ N : Nat, a1 - a0_0 + (k : Int) = (N : Int) := ⟨(a1 - a0_0 + (k : Int)).toNat, by omega⟩
          have hn0 : (0 : Int) ≤ (N : Int) := by omega
          have hn1 : (N : Int) ≤ (l0_2.length : Int) := by omega
          have hn2 : (N : Int) ≤ (c0_2 : Int) := by omega
          have hn3 : N ≤ l0_2.length := by omega
          have hkc : (k : Int) ≤ (c3 : Int) := by omega
          have hck : ¬ c3 = k := by omega
          clear hn
          have hkn : ((k : Int) == (l3.length : Int)) = false := by rw [beq_eq_false_iff_ne]; omega
          cases ok
          · clear hq
            go_wp2_with (first | (go_at_call 24; refine (roll_Term.calls 1 a0_0 a0_1 A0_2 c0_2 l0_2 _ t false _ (hG.below HB.out) (Kd.C_below HC.out HB.out) hcl HT2.out).mono ?_; rintro e w2 ⟨rfl, hb2⟩; have HB2 := Lib.hid (pbT HB.out hb2); have BK2 := bkB HBK.out hb2; have BL2 := bkB HBL.out hb2; have z0 := (bkC BK2 0).trans rfl; have z1 := (bkC BK2 1).trans rfl; have z2 := (bkC BK2 2).trans rfl; have g0 := bkF BL2 0; have g1 := bkF BL2 1; have g2 := bkF BL2 2; have y0 := (bkC BL2 0).trans rfl; have y1 := (bkC BL2 1).trans rfl; have y2 := (bkC BL2 2).trans rfl; obtain ⟨ad2, ea2, hc0, _⟩ := at_T54 (Kd.C_below HC3.out HB2.out) (k : Int) hk0 hk1; injection ea2 with ea2; subst ea2; rw [Int.toNat_natCast] at hc0; skip) | fail)
            have HTK := Lib.hid (take_row (N := N) HF.out hn3)
            have HDK := Lib.hid (drop_row HC3.out hc3 hlt)
            go_region_law (refine step_append_cut k54 flat54 w.heap.size (by rfl) (.tmp 71) (.tmp 74) 22 54 (.agg #[(.int .i64 0), (.string ⟨#[]⟩)]) 24 (by rfl) Tryd.underlying22 info54 (by rfl) (by decide) (by omega) A0_2 N (l0_2.take N) (some (ad.add (k * 2))) (l3.length - k) (c3 - k) (l3.drop k) (fun k_ => P0_2_ k_ ∧ k_ < w.heap.size) (by rfl) (by simp [Act.eval, Act.put, hck]) (Kd.F_below HTK.out (pbN HB2.out _)) (Kd.C_below HDK.out (pbN HB2.out _)) (by omega) ?_; intro v3 w3 hv hb3; obtain ⟨A4, c4, rfl, hc4, hF4⟩ := hv; have BK3 := bkB (bkN BK2 _) hb3; have BL3 := bkB (bkN BL2 _) hb3; have HB3 := Lib.hid (pbT (pbN HB2.out _) hb3); have q0 := (bkC BK3 0).trans rfl; have q1 := (bkC BK3 1).trans rfl; have q2 := (bkC BK3 2).trans rfl; have p2 := bkF BK3 2; have x0 := (bkC BL3 0).trans rfl; have x1 := (bkC BL3 1).trans rfl; have x2 := (bkC BL3 2).trans rfl; have h0 := bkF BL3 0; have h1 := bkF BL3 1; have h2 := bkF BL3 2)
            go_wp2
            have eR : l0_2.take (a1 - a0_0 + (k : Int)).toNat ++ l3.drop k = l0_2.take N ++ l3.drop k := by rw [hNI, Int.toNat_natCast]
            have eL : (l0_2.take N ++ l3.drop k).length = N + (l3.length - k) := by rw [List.length_append, List.length_take, List.length_drop, Nat.min_eq_left hn3]
            have hlt2 : w.heap.size + 1 < w2.heap.size := blk_lt BL2
            refine bodyPost_ret (results_ct rfl _ _ (w.heap.size + 1) 24 #[.int .i64 a0_0, .int .i64 a0_1, .slice A4 (N + (l3.length - k)) c4] (0, 0) _ rfl (put3 (blk_far BL3 (by simp) _)) Tryd.underlying24 rfl (by kernel_rfl)) rfl ?_
            refine ⟨_, rfl, ?_, (((HB3.out.setCell (Nat.le_refl _) _).setCell (Nat.le_succ _) _).setCell (Nat.le_succ _) _).setCell (Nat.le_succ _) _⟩
            rw [eR]
            refine ⟨A4, c4, by rw [eL], hc4, ?_⟩
            have hF5 : Kd.F k54 w3 (fun k_ => P0_2_ k_ ∧ k_ < w.heap.size ∨ w.heap.size + 2 ≤ k_) A4 (l0_2.take N ++ l3.drop k).length (l0_2.take N ++ l3.drop k) := Kd.F_mono hF4 (fun k_ hk => hk.imp id (fun h => Nat.le_trans hlt2 h))
            refine Kd.F_mono (F_put3 (Kd.F_far hF5 ?_ _) ?_) (fun k_ hk => hk.imp (fun h => h.1) (fun h => by omega))
            · intro k_ hk; simp only; omega
            · intro k_ hk; omega
          · have hY : (t != (rd_T54 l3 (k : Int)).f0) = true := by rw [Bool.not_true, Bool.false_or] at hq; exact hq
            clear hq
            go_wp2_with (first | (go_at_call 24; refine (roll_Term.calls 1 a0_0 a0_1 A0_2 c0_2 l0_2 _ t true _ (hG.below HB.out) (Kd.C_below HC.out HB.out) hcl HT2.out).mono ?_; rintro e w2 ⟨rfl, hb2⟩; have HB2 := Lib.hid (pbT HB.out hb2); have BK2 := bkB HBK.out hb2; have BL2 := bkB HBL.out hb2; have z0 := (bkC BK2 0).trans rfl; have z1 := (bkC BK2 1).trans rfl; have z2 := (bkC BK2 2).trans rfl; have g0 := bkF BL2 0; have g1 := bkF BL2 1; have g2 := bkF BL2 2; have y0 := (bkC BL2 0).trans rfl; have y1 := (bkC BL2 1).trans rfl; have y2 := (bkC BL2 2).trans rfl; obtain ⟨ad2, ea2, hc0, _⟩ := at_T54 (Kd.C_below HC3.out HB2.out) (k : Int) hk0 hk1; injection ea2 with ea2; subst ea2; rw [Int.toNat_natCast] at hc0; generalize (rd_T54 l3 (k : Int)).f0 = Y at hY hc0) | fail)
            have HTK := Lib.hid (take_row (N := N) HF.out hn3)
            have HDK := Lib.hid (drop_row HC3.out hc3 hlt)
            go_region_law (refine step_append_cut k54 flat54 w.heap.size (by rfl) (.tmp 71) (.tmp 74) 22 54 (.agg #[(.int .i64 0), (.string ⟨#[]⟩)]) 24 (by rfl) Tryd.underlying22 info54 (by rfl) (by decide) (by omega) A0_2 N (l0_2.take N) (some (ad.add (k * 2))) (l3.length - k) (c3 - k) (l3.drop k) (fun k_ => P0_2_ k_ ∧ k_ < w.heap.size) (by rfl) (by simp [Act.eval, Act.put, hck]) (Kd.F_below HTK.out (pbN HB2.out _)) (Kd.C_below HDK.out (pbN HB2.out _)) (by omega) ?_; intro v3 w3 hv hb3; obtain ⟨A4, c4, rfl, hc4, hF4⟩ := hv; have BK3 := bkB (bkN BK2 _) hb3; have BL3 := bkB (bkN BL2 _) hb3; have HB3 := Lib.hid (pbT (pbN HB2.out _) hb3); have q0 := (bkC BK3 0).trans rfl; have q1 := (bkC BK3 1).trans rfl; have q2 := (bkC BK3 2).trans rfl; have p2 := bkF BK3 2; have x0 := (bkC BL3 0).trans rfl; have x1 := (bkC BL3 1).trans rfl; have x2 := (bkC BL3 2).trans rfl; have h0 := bkF BL3 0; have h1 := bkF BL3 1; have h2 := bkF BL3 2)
            go_wp2
            have eR : l0_2.take (a1 - a0_0 + (k : Int)).toNat ++ l3.drop k = l0_2.take N ++ l3.drop k := by rw [hNI, Int.toNat_natCast]
            have eL : (l0_2.take N ++ l3.drop k).length = N + (l3.length - k) := by rw [List.length_append, List.length_take, List.length_drop, Nat.min_eq_left hn3]
            have hlt2 : w.heap.size + 1 < w2.heap.size := blk_lt BL2
            refine bodyPost_ret (results_ct rfl _ _ (w.heap.size + 1) 24 #[.int .i64 a0_0, .int .i64 a0_1, .slice A4 (N + (l3.length - k)) c4] (0, 0) _ rfl (put3 (blk_far BL3 (by simp) _)) Tryd.underlying24 rfl (by kernel_rfl)) rfl ?_
            refine ⟨_, rfl, ?_, (((HB3.out.setCell (Nat.le_refl _) _).setCell (Nat.le_succ _) _).setCell (Nat.le_succ _) _).setCell (Nat.le_succ _) _⟩
            rw [eR]
            refine ⟨A4, c4, by rw [eL], hc4, ?_⟩
            have hF5 : Kd.F k54 w3 (fun k_ => P0_2_ k_ ∧ k_ < w.heap.size ∨ w.heap.size + 2 ≤ k_) A4 (l0_2.take N ++ l3.drop k).length (l0_2.take N ++ l3.drop k) := Kd.F_mono hF4 (fun k_ hk => hk.imp id (fun h => Nat.le_trans hlt2 h))
            refine Kd.F_mono (F_put3 (Kd.F_far hF5 ?_ _) ?_) (fun k_ hk => hk.imp (fun h => h.1) (fun h => by omega))
            · intro k_ hk; simp only; omega
            · intro k_ hk; omega
      · obtain rfl : k = l3.length := by omega
        have hN := HN.out
        rw [List.drop_length] at hN
        simp only [sameN, Nat.add_zero] at hN
        have hh := Hh.out
        rw [if_pos hN] at hh
        simp only [Option.some.injEq, Prod.mk.injEq] at hh
        obtain ⟨rfl, rfl, rfl, rfl⟩ := hh
        have hkn : ((l3.length : Int) == (l3.length : Int)) = true := by simp
        clear hN HN Hh
        go_wp2
        refine bodyPost_ret (results_ct rfl _ _ (w.heap.size + 1) 24 #[.int .i64 a0_0, .int .i64 a0_1, .slice A0_2 l0_2.length c0_2] (0, 0) _ rfl (put3 HBL.out) Tryd.underlying24 rfl (by kernel_rfl)) rfl ?_
        refine ⟨_, rfl, ⟨A0_2, c0_2, rfl, hcl, ?_⟩, ((HB.out.setCell (Nat.le_succ _) _).setCell (Nat.le_succ _) _).setCell (Nat.le_succ _) _⟩
        exact Kd.F_mono (F_put3 (Kd.F_below HF.out HB.out) (fun k hk => by have := hk.2; omega)) (fun k hk => .inl hk.1)
  · rw [if_neg hm] at h
    simp only [Option.some.injEq, Prod.mk.injEq] at h
    obtain ⟨rfl, rfl, rfl, rfl⟩ := h
    have hq : (!(termR a0_0 a0_1 l0_2 a1).2 || (termR a0_0 a0_1 l0_2 a1).1 != a2) = true := by
      rcases ht : termR a0_0 a0_1 l0_2 a1 with ⟨t, ok⟩
      rw [ht] at hm
      cases ok
      · rfl
      · simp only [Bool.not_true, Bool.false_or, bne_iff_ne]; intro e; apply hm; rw [e]
    generalize hT : termR a0_0 a0_1 l0_2 a1 = T at HT hq
    clear hm hT
    obtain ⟨t1, t2⟩ := T
    simp only at hq
    cases t2
    · go_enter Tryd.func19, Tryd.ntmps19
      go_wp2_with (first | (go_at_call 24; refine (roll_Term.calls 1 a0_0 a0_1 A0_2 c0_2 l0_2 _ t1 false _ (hG.below (pbA (pbA (Below.refl _ _) _) _)) (Kd.C_alloc (Kd.C_alloc HC.out _) _) hcl HT.out).mono ?_; rintro e w1 ⟨rfl, hb⟩; have BK := two_old hb () (); have BL := two_new hb () (); have z0 := (bkC BK 0).trans rfl; have z1 := (bkC BK 1).trans rfl; have z2 := (bkC BK 2).trans rfl; have g0 := bkF BL 0; have g1 := bkF BL 1; have g2 := bkF BL 2; have y0 := (bkC BL 0).trans rfl; have y1 := (bkC BL 1).trans rfl; have y2 := (bkC BL 2).trans rfl) | fail)
      have hB : Below w.heap.size w w1 := pbT (pbA (pbA (Below.refl _ _) _) _) hb
      refine bodyPost_ret (results_ct rfl _ _ (w.heap.size + 1) 24 #[.int .i64 a0_0, .int .i64 a0_1, .slice A0_2 l0_2.length c0_2] (0, 0) _ rfl (put3 BL) Tryd.underlying24 rfl (by kernel_rfl)) rfl ?_
      refine ⟨_, rfl, ⟨A0_2, c0_2, rfl, hcl, ?_⟩, ((hB.setCell (Nat.le_succ _) _).setCell (Nat.le_succ _) _).setCell (Nat.le_succ _) _⟩
      exact Kd.F_mono (F_put3 (Kd.F_below HF.out hB) (fun k hk => by have := hk.2; omega)) (fun k hk => .inl hk.1)
    · have hq2 : (t1 != a2) = true := by rw [Bool.not_true, Bool.false_or] at hq; exact hq
      clear hq
      go_enter Tryd.func19, Tryd.ntmps19
      go_wp2_with (first | (go_at_call 24; refine (roll_Term.calls 1 a0_0 a0_1 A0_2 c0_2 l0_2 _ t1 true _ (hG.below (pbA (pbA (Below.refl _ _) _) _)) (Kd.C_alloc (Kd.C_alloc HC.out _) _) hcl HT.out).mono ?_; rintro e w1 ⟨rfl, hb⟩; have BK := two_old hb () (); have BL := two_new hb () (); have z0 := (bkC BK 0).trans rfl; have z1 := (bkC BK 1).trans rfl; have z2 := (bkC BK 2).trans rfl; have g0 := bkF BL 0; have g1 := bkF BL 1; have g2 := bkF BL 2; have y0 := (bkC BL 0).trans rfl; have y1 := (bkC BL 1).trans rfl; have y2 := (bkC BL 2).trans rfl) | fail)
      have hB : Below w.heap.size w w1 := pbT (pbA (pbA (Below.refl _ _) _) _) hb
      refine bodyPost_ret (results_ct rfl _ _ (w.heap.size + 1) 24 #[.int .i64 a0_0, .int .i64 a0_1, .slice A0_2 l0_2.length c0_2] (0, 0) _ rfl (put3 BL) Tryd.underlying24 rfl (by kernel_rfl)) rfl ?_
      refine ⟨_, rfl, ⟨A0_2, c0_2, rfl, hcl, ?_⟩, ((hB.setCell (Nat.le_succ _) _).setCell (Nat.le_succ _) _).setCell (Nat.le_succ _) _⟩
      exact Kd.F_mono (F_put3 (Kd.F_below HF.out hB) (fun k hk => by have := hk.2; omega)) (fun k hk => .inl hk.1)
end Go.Proofs.YtjpihfjgomoijaaDoor.P
end
section
/- roll: Last, Term, Slice, Compact, Newer told plainly, and what is so of them. -/
namespace Go.Proofs.YtjpihfjgomoijaaDoor.V
open Go.RowKit Go.Proofs.YtjpihfjgomoijaaDoorW.PrintWords Go.Proofs.YtjpihfjgomoijaaDoorW.PrintLast Go.Proofs.YtjpihfjgomoijaaDoorW.PrintMore Go.Proofs.YtjpihfjgomoijaaDoor.P Go.Proofs.YtjpihfjgomoijaaDoor.K Go.Proofs.YtjpihfjgomoijaaDoor.A
def lastT (b bt : Int) (l : List S54) : Int := (termR b bt l (b + l.length)).1
def sliceR (b : Int) (l : List S54) (from_ limit : Int) : List S54 := (l.drop (from_ - (b + 1)).toNat).take limit.toNat
def compactR (b bt : Int) (l : List S54) (tq : Int) : Int × Int × List S54 := if (termR b bt l tq).2 = true ∧ b < tq then (tq, (termR b bt l tq).1, l.drop (tq - b).toNat) else (b, bt, l)
def newerR (term index b bt : Int) (l : List S54) : Bool := decide (lastT b bt l < term ∨ term = lastT b bt l ∧ b + l.length ≤ index)
theorem termR_out {b bt : Int} {l : List S54} {i : Int} (h : i < b ∨ b + l.length < i) : termR b bt l i = (0, false) := by
  unfold termR
  by_cases h1 : i < b
  · rw [if_pos h1]
  · rw [if_neg h1, if_pos (by omega)]
theorem termR_base {b bt : Int} {l : List S54} : termR b bt l b = (bt, true) := by
  unfold termR
  rw [if_neg (by omega), if_neg (by omega), if_pos rfl]
theorem termR_at {b bt : Int} {l : List S54} {n : Nat} (h : n < l.length) : termR b bt l (b + 1 + n) = (l[n].f0, true) := by
  unfold termR
  rw [if_neg (by omega), if_neg (by omega), if_neg (by omega), show b + 1 + (n : Int) - b - 1 = (n : Int) by omega, rd_lt h]
theorem termR_in2 {b bt : Int} {l : List S54} {i : Int} (h0 : b ≤ i) (h1 : i ≤ b + l.length) : (termR b bt l i).2 = true := by
  unfold termR
  rw [if_neg (by omega), if_neg (by omega)]
  split <;> rfl
theorem lastT_nil (b bt : Int) : lastT b bt [] = bt := by
  unfold lastT
  rw [show b + (([] : List S54).length : Int) = b by simp, termR_base]
theorem lastT_some {b bt : Int} {l : List S54} {n : Nat} (h : l.length = n + 1) : lastT b bt l = (l[n]'(by omega)).f0 := by
  unfold lastT
  rw [show b + (l.length : Int) = b + 1 + (n : Int) by omega, termR_at (by omega)]
/-! ### rising -/
theorem rising_drop {l : List S54} : ∀ {t : Int}, rising t l = true → ∀ n, (h : n < l.length) → t ≤ l[n].f0 ∧ l[n].f0 ≤ 1099511627776 ∧ rising l[n].f0 (l.drop (n + 1)) = true := by
  induction l with
  | nil => intro t _ n h; exact absurd h (by simp)
  | cons e l ih =>
    intro t hr n h
    simp only [rising, Bool.and_eq_true, decide_eq_true_eq] at hr
    obtain ⟨⟨h1, h2⟩, h3⟩ := hr
    rcases n with _ | n
    · exact ⟨h1, h2, h3⟩
    · obtain ⟨a, b, c⟩ := ih h3 n (by simpa using h)
      exact ⟨by simp only [List.getElem_cons_succ]; omega, b, c⟩
theorem okR_iff {b bt : Int} {l : List S54} : okR b bt l = true ↔ (0 ≤ b ∧ b ≤ 1099511627776 ∧ 0 ≤ bt ∧ bt ≤ 1099511627776 ∧ (l.length : Int) ≤ 1099511627776 - b) ∧ rising bt l = true := by
  unfold okR; rw [Bool.and_eq_true, decide_eq_true_eq]
theorem term_drop {b bt : Int} {l : List S54} {tq i : Int} (h : b < tq) (h2 : tq ≤ b + l.length) (hi : tq ≤ i) : termR tq (termR b bt l tq).1 (l.drop (tq - b).toNat) i = termR b bt l i := by
  obtain ⟨n, hn⟩ : ∃ n : Nat, tq = b + 1 + n := ⟨(tq - b - 1).toNat, by omega⟩
  have hl : n < l.length := by omega
  have hd : (tq - b).toNat = n + 1 := by omega
  rw [hd]
  by_cases h3 : i = tq
  · subst h3
    rw [termR_base, hn, termR_at hl]
  · by_cases h4 : i ≤ b + l.length
    · obtain ⟨m, hm⟩ : ∃ m : Nat, i = tq + 1 + m := ⟨(i - tq - 1).toNat, by omega⟩
      have hm2 : m < (l.drop (n + 1)).length := by rw [List.length_drop]; omega
      rw [hm, termR_at hm2, show tq + 1 + (m : Int) = b + 1 + ((n + 1 + m : Nat) : Int) by omega, termR_at (show n + 1 + m < l.length by omega), List.getElem_drop]
    · rw [termR_out (.inr (by rw [List.length_drop]; omega)), termR_out (.inr (by omega))]
/-! ### Compact -/
theorem compactR_out {b bt : Int} {l : List S54} {tq : Int} (h : tq ≤ b ∨ b + l.length < tq) : compactR b bt l tq = (b, bt, l) := by
  unfold compactR
  rcases h with h | h
  · rw [if_neg (by omega)]
  · rw [termR_out (.inr h), if_neg (by simp)]
theorem compactR_in {b bt : Int} {l : List S54} {tq : Int} (h : b < tq) (h2 : tq ≤ b + l.length) : compactR b bt l tq = (tq, (termR b bt l tq).1, l.drop (tq - b).toNat) := by
  unfold compactR
  rw [if_pos ⟨termR_in2 (by omega) h2, h⟩]
/-- What is so of a compacted roll. -/
theorem compactR_facts {b bt : Int} {l : List S54} (hok : okR b bt l = true) (tq : Int) : ∃ c ct lc, compactR b bt l tq = (c, ct, lc) ∧ okR c ct lc = true ∧ b ≤ c ∧ (c ≤ tq ∨ c ≤ b) ∧ c + lc.length = b + l.length ∧ lc.length ≤ l.length ∧ (∀ i, c ≤ i → termR c ct lc i = termR b bt l i) ∧ (∀ i, i < c → (termR c ct lc i).2 = false) ∧ (b ≤ tq → tq ≤ b + l.length → c = tq ∧ lc = l.drop (tq - b).toNat) ∧ (tq < b ∨ b + l.length < tq → (c, ct, lc) = (b, bt, l)) := by
  by_cases h : b < tq ∧ tq ≤ b + l.length
  · obtain ⟨h1, h2⟩ := h
    refine ⟨_, _, _, compactR_in h1 h2, ?_, by omega, .inl (by omega), ?_, ?_, fun i hi => term_drop h1 h2 hi, fun i hi => by rw [termR_out (.inl hi)], fun _ _ => ⟨rfl, rfl⟩, fun h => by omega⟩
    · obtain ⟨⟨a1, a2, a3, a4, a5⟩, a6⟩ := okR_iff.1 hok
      obtain ⟨n, hn⟩ : ∃ n : Nat, tq = b + 1 + n := ⟨(tq - b - 1).toNat, by omega⟩
      have hl : n < l.length := by omega
      have hd : (tq - b).toNat = n + 1 := by omega
      obtain ⟨c1, c2, c3⟩ := rising_drop a6 n hl
      have ht : (termR b bt l tq).1 = l[n].f0 := by rw [hn, termR_at hl]
      refine okR_iff.2 ⟨⟨by omega, by omega, by rw [ht]; omega, by rw [ht]; omega, by rw [List.length_drop]; omega⟩, by rw [ht, hd]; exact c3⟩
    · rw [List.length_drop]; omega
    · rw [List.length_drop]; omega
  · refine ⟨b, bt, l, compactR_out (by omega), hok, Int.le_refl _, .inr (Int.le_refl _), rfl, Nat.le_refl _, fun _ _ => rfl, fun i hi => by rw [termR_out (.inl hi)], fun h1 h2 => ?_, fun _ => rfl⟩
    have : tq = b := by omega
    subst this
    refine ⟨rfl, ?_⟩
    rw [show (tq - tq).toNat = 0 by omega, List.drop_zero]
end Go.Proofs.YtjpihfjgomoijaaDoor.V
end
section
-- Written by a program of this session (wip/tools/pr.py), over the kit's printer; functions named in the texts imported below are given by hand.
namespace Go.Proofs.YtjpihfjgomoijaaDoor.P
open Go.RowKit Go.Proofs.YtjpihfjgomoijaaDoor.K Go.Proofs.YtjpihfjgomoijaaDoorW.PrintWords Go.Proofs.YtjpihfjgomoijaaDoorW.PrintLast Go.Proofs.YtjpihfjgomoijaaDoorW.PrintMore
attribute [local go_sem] max2_int min2_int max_two min_two max_three min_three max_four min_four   -- for this text's walks alone
/-! ### roll_Last: function 21 -/
def roll_Last.f (k : Nat) (a0_0 : Int) (a0_1 : Int) (l0_2 : List (S54)) : Option (Int × Int) := (roll_Term.f k a0_0 a0_1 l0_2 (wrap64 (a0_0 + (l0_2.length : Int)))).bind fun bt160 => (some (wrap64 (a0_0 + (l0_2.length : Int)), bt160.1))
theorem roll_Last.mono : ∀ a0 a1 a2 k, LeO (roll_Last.f k a0 a1 a2) (roll_Last.f (k + 1) a0 a1 a2) := by
  intro a0 a1 a2 k
  unfold roll_Last.f
  repeat' first
      | (with_reducible exact roll_Term.mono _ _ _ _ _)
      | (with_reducible exact LeO.refl _)
      | (with_reducible exact LeO.none _)
      | (with_reducible refine LeO.ite ?_ ?_)
      | (with_reducible refine LeO.bind ?_ (fun _ => ?_))
      | exact roll_Term.mono _ _ _ _ _
      | exact LeO.none _
      | refine LeO.ite ?_ ?_
      | refine LeO.bind ?_ (fun _ => ?_)
set_option maxHeartbeats 8000000 in
set_option maxRecDepth 100000 in
theorem roll_Last.calls (k : Nat) (a0_0 : Int) (a0_1 : Int) (A0_2 : Option Addr) (c0_2 : Nat) (l0_2 : List (S54)) (r1 : Int) (r2 : Int) (w : World) (hG : TheG w) (hr0_2 : Kd.C k54 w A0_2 l0_2.length l0_2) (hc0_2 : l0_2.length ≤ c0_2) (h : roll_Last.f k a0_0 a0_1 l0_2 = some (r1, r2)) :
    Calls Tryd.prog 21 #[.agg #[.int .i64 a0_0, .int .i64 a0_1, .slice A0_2 l0_2.length c0_2]] w fun e w' => e = .returned (.tuple #[.int .i64 r1, .int .i64 r2]) ∧ Below w.heap.size w w' := by
  have hu24 := Tryd.underlying24
  have HR0_2 := Az.mk hr0_2
  have HC0_2 := Az.mk hc0_2
  clear hr0_2 hc0_2
  have HB := Az.mk (Below.refl w.heap.size w)
  have H : ((roll_Term.f k a0_0 a0_1 l0_2 (wrap64 (a0_0 + (l0_2.length : Int)))).bind fun bt160 => (some (wrap64 (a0_0 + (l0_2.length : Int)), bt160.1))) = some (r1, r2) := h
  clear h
  replace H := Option.bind_eq_some_iff.mp H
  obtain ⟨⟨t160, t161⟩, A20, H⟩ := H
  replace H : (some (wrap64 (a0_0 + (l0_2.length : Int)), t160)) = some (r1, r2) := H
  have A2 := Az.mk A20
  clear A20
  simp only [Option.some.injEq, Prod.mk.injEq] at H
  obtain ⟨rfl, rfl⟩ := H
  go_enter Tryd.func21, Tryd.ntmps21
  go_wp2_with (first | ((with_reducible refine gate_dst (N := 1) rfl ?_); refine box_event ?hg (N := 1) ?hd (cs := #[.int .i64 a0_0, .int .i64 a0_1, .slice A0_2 l0_2.length c0_2]) (t := 24) ?hr ?_; (case hd => rfl); (case hg => rfl); (case hr => first | (go_simp; done) | (go_simp; rfl)); intro gb159 hg w3 hbox hb; have n0_ := Az.mk (pbT (by repeat (first | (with_reducible first | exact HB.out | apply pbA | apply pbN | apply pb1) | exact HB.out)) hb); have n1_ := Az.mk (hbox); have n2_ := Az.mk ((by rw [hg]; exact (pbZ (by repeat (first | (with_reducible first | exact HB.out | apply pbA | apply pbN | apply pb1) | exact HB.out))) : w.heap.size ≤ gb159)); have n3_ := Az.mk ((by rw [hg]; exact (pbZ (by repeat (first | (with_reducible first | exact HB.out | apply pbA | apply pbN | apply pb1) | exact HB.out))) : w.heap.size ≤ gb159)); clear HB; have HB := n0_; have BK159 := n1_; have GW159 := n2_; have GE159 := n3_; clear n0_ n1_ n2_ n3_; clear hb hbox hg; have hcz4_0 : w3.cell? ⟨gb159, 0, none⟩ = some (.int .i64 a0_0) := (bkC BK159.out 0).trans rfl; have hcz4_1 : w3.cell? ⟨gb159, 1, none⟩ = some (.int .i64 a0_1) := (bkC BK159.out 1).trans rfl; have hcz4_2 : w3.cell? ⟨gb159, 2, none⟩ = some (.slice A0_2 l0_2.length c0_2) := (bkC BK159.out 2).trans rfl; have hfz4_0 := bkF BK159.out 0; have hfz4_1 := bkF BK159.out 1; have hfz4_2 := bkF BK159.out 2) | ((with_reducible refine gtc (f := 24) rfl ?_); refine goesL_ (some 16) rfl rfl Tryd.func24 (by kernel_rfl) rfl #[.agg #[.int .i64 a0_0, .int .i64 a0_1, .slice A0_2 l0_2.length c0_2], .int .i64 (wrap64 (a0_0 + (l0_2.length : Int)))] rfl (by (try simp only [List.map_toArray, List.map_cons, List.map_nil]); first | done | rfl | (simp only [List.length_drop, List.length_take]; rfl)) ?_; (with_reducible refine (roll_Term.calls k a0_0 a0_1 _ _ l0_2 (wrap64 (a0_0 + (l0_2.length : Int))) t160 t161 _ ?side1 ?side2 ?side3 A2.out).mono ?_); (case side1 => exact hG.below (by repeat (first | (with_reducible first | exact HB.out | apply pbA | apply pbN | apply pb1 | refine pbS ?_ GE159.out) | exact HB.out))); (case side2 => repeat (first | exact (Kd.C_below HR0_2.out HB.out) | (with_reducible refine Kd.C_alloc ?_ _) | (with_reducible refine Kd.C_drewN ?_ _) | (with_reducible refine Kd.C_drew ?_))); (case side3 => exact HC0_2.out); rintro e w5 ⟨rfl, hb⟩; refine ⟨_, rfl, ?_⟩; have n0_ := Az.mk (bkB (g := gb159) (o := .cells #[.int .i64 a0_0, .int .i64 a0_1, .slice A0_2 l0_2.length c0_2] 24 (0, 0)) (by (with_reducible repeat (first | refine bkN ?_ _ | refine bkD ?_ | refine bkA ?_ _)); exact BK159.out) hb); have n1_ := Az.mk (pbT (by repeat (first | (with_reducible first | exact HB.out | apply pbA | apply pbN | apply pb1 | refine pbS ?_ GE159.out) | exact HB.out)) hb); clear BK159; clear HB; have BK159 := n0_; have HB := n1_; clear n0_ n1_; (try clear hb); (try clear hb2); (try clear hk); (try clear hi)))
  go_ret2
  exact ⟨by first | rfl | (simp [errW_none, errW_some] <;> rfl) | (simp [*, errW_none, errW_some] <;> rfl), by repeat (first | (with_reducible first | exact HB.out | apply pbA | apply pbN | apply pb1 | refine pbS ?_ GE159.out) | exact HB.out)⟩
end Go.Proofs.YtjpihfjgomoijaaDoor.P
end
section
-- Written by a program of this session (wip/tools/pr.py), over the kit's printer; functions named in the texts imported below are given by hand.
namespace Go.Proofs.YtjpihfjgomoijaaDoor.P
open Go.RowKit Go.Proofs.YtjpihfjgomoijaaDoor.K Go.Proofs.YtjpihfjgomoijaaDoorW.PrintWords Go.Proofs.YtjpihfjgomoijaaDoorW.PrintLast Go.Proofs.YtjpihfjgomoijaaDoorW.PrintMore
attribute [local go_sem] max2_int min2_int max_two min_two max_three min_three max_four min_four   -- for this text's walks alone
/-! ### roll_Slice: function 26 -/
def roll_Slice.f (a0_0 : Int) (a0_1 : Int) (l0_2 : List (S54)) (a1 : Int) (a2 : Int) : Option ((List (S54))) := if 0 ≤ (mn (wrap64 ((wrap64 ((mx a1 (wrap64 (a0_0 + 1))) - 1)) - a0_0)) (l0_2.length : Int)) then (if (mn (wrap64 ((wrap64 ((mx a1 (wrap64 (a0_0 + 1))) - 1)) - a0_0)) (l0_2.length : Int)) ≤ (l0_2.length : Int) then ((some (l0_2.drop ((mn (wrap64 ((wrap64 ((mx a1 (wrap64 (a0_0 + 1))) - 1)) - a0_0)) (l0_2.length : Int)) : Int).toNat : List (S54))).bind fun y416 => (if 0 ≤ (mx 0 (mn a2 (y416.length : Int))) then (if (mx 0 (mn a2 (y416.length : Int))) ≤ (y416.length : Int) then ((api_Entry.f (y416.take ((mx 0 (mn a2 (y416.length : Int))) : Int).toNat)).bind fun t424 => (some t424)) else (none)) else (none))) else (none)) else (none)
set_option maxHeartbeats 8000000 in
set_option maxRecDepth 100000 in
theorem roll_Slice.calls (a0_0 : Int) (a0_1 : Int) (A0_2 : Option Addr) (c0_2 : Nat) (l0_2 : List (S54)) (a1 : Int) (a2 : Int) (r : List (S54)) (w : World) (hG : TheG w) (hr0_2 : Kd.C k54 w A0_2 l0_2.length l0_2) (hc0_2 : l0_2.length ≤ c0_2) (h : roll_Slice.f a0_0 a0_1 l0_2 a1 a2 = some r) :
    Calls Tryd.prog 26 #[.agg #[.int .i64 a0_0, .int .i64 a0_1, .slice A0_2 l0_2.length c0_2], .int .i64 a1, .int .i64 a2] w fun e w' => ∃ v0_ : Value, e = .returned (v0_) ∧ Kd.R k54 54 w' w.heap.size (fun _ => True) v0_ r ∧ Below w.heap.size w w' := by
  have hu24 := Tryd.underlying24
  have HR0_2 := Az.mk hr0_2
  have HC0_2 := Az.mk hc0_2
  clear hr0_2 hc0_2
  have HB := Az.mk (Below.refl w.heap.size w)
  have H : (if 0 ≤ (mn (wrap64 ((wrap64 ((mx a1 (wrap64 (a0_0 + 1))) - 1)) - a0_0)) (l0_2.length : Int)) then (if (mn (wrap64 ((wrap64 ((mx a1 (wrap64 (a0_0 + 1))) - 1)) - a0_0)) (l0_2.length : Int)) ≤ (l0_2.length : Int) then ((some (l0_2.drop ((mn (wrap64 ((wrap64 ((mx a1 (wrap64 (a0_0 + 1))) - 1)) - a0_0)) (l0_2.length : Int)) : Int).toNat : List (S54))).bind fun y416 => (if 0 ≤ (mx 0 (mn a2 (y416.length : Int))) then (if (mx 0 (mn a2 (y416.length : Int))) ≤ (y416.length : Int) then ((api_Entry.f (y416.take ((mx 0 (mn a2 (y416.length : Int))) : Int).toNat)).bind fun t424 => (some t424)) else (none)) else (none))) else (none)) else (none)) = some r := h
  clear h
  obtain ⟨ji4, hji4⟩ : ∃ j_ : Int, (mx a1 (wrap64 (a0_0 + 1))) = j_ := ⟨_, rfl⟩
  replace H : (if 0 ≤ (mn (wrap64 ((wrap64 ((ji4) - 1)) - a0_0)) (l0_2.length : Int)) then (if (mn (wrap64 ((wrap64 ((ji4) - 1)) - a0_0)) (l0_2.length : Int)) ≤ (l0_2.length : Int) then ((some (l0_2.drop ((mn (wrap64 ((wrap64 ((ji4) - 1)) - a0_0)) (l0_2.length : Int)) : Int).toNat : List (S54))).bind fun y416 => (if 0 ≤ (mx 0 (mn a2 (y416.length : Int))) then (if (mx 0 (mn a2 (y416.length : Int))) ≤ (y416.length : Int) then ((api_Entry.f (y416.take ((mx 0 (mn a2 (y416.length : Int))) : Int).toNat)).bind fun t424 => (some t424)) else (none)) else (none))) else (none)) else (none)) = some r := by first | (rw [hji4] at H; exact H) | (simp only [hji4] at H ⊢; exact H)
  have hji4_ : (if a1 < (wrap64 (a0_0 + 1)) then (wrap64 (a0_0 + 1)) else a1) = ji4 := hji4
  obtain ⟨ji5, hji5⟩ : ∃ j_ : Int, (mn (wrap64 ((wrap64 ((ji4) - 1)) - a0_0)) (l0_2.length : Int)) = j_ := ⟨_, rfl⟩
  replace H : (if 0 ≤ (ji5) then (if (ji5) ≤ (l0_2.length : Int) then ((some (l0_2.drop ((ji5) : Int).toNat : List (S54))).bind fun y416 => (if 0 ≤ (mx 0 (mn a2 (y416.length : Int))) then (if (mx 0 (mn a2 (y416.length : Int))) ≤ (y416.length : Int) then ((api_Entry.f (y416.take ((mx 0 (mn a2 (y416.length : Int))) : Int).toNat)).bind fun t424 => (some t424)) else (none)) else (none))) else (none)) else (none)) = some r := by first | (rw [hji5] at H; exact H) | (simp only [hji5] at H ⊢; exact H)
  have hji5_ : (if (l0_2.length : Int) < (wrap64 ((wrap64 ((ji4) - 1)) - a0_0)) then (l0_2.length : Int) else (wrap64 ((wrap64 ((ji4) - 1)) - a0_0))) = ji5 := hji5
  by_cases c6 : 0 ≤ (ji5)
  · rw [if_pos c6] at H
    have c6b0 := eq_true c6
    have c6b1 : decide (0 ≤ (ji5)) = true := decide_eq_true c6
    clear c6
    by_cases c7 : (ji5) ≤ (l0_2.length : Int)
    · rw [if_pos c7] at H
      have c7b0 := eq_true c7
      have c7b1 : decide ((ji5) ≤ (l0_2.length : Int)) = true := decide_eq_true c7
      clear c7
      obtain ⟨y416, hy416⟩ : ∃ y_ : List (S54), y_ = (l0_2.drop ((ji5) : Int).toNat) := ⟨_, rfl⟩
      replace H : (if 0 ≤ (mx 0 (mn a2 (y416.length : Int))) then (if (mx 0 (mn a2 (y416.length : Int))) ≤ (y416.length : Int) then ((api_Entry.f (y416.take ((mx 0 (mn a2 (y416.length : Int))) : Int).toNat)).bind fun t424 => (some t424)) else (none)) else (none)) = some r := by first | (rw [hy416]; with_reducible exact H) | (have H2_ := (Option.bind_some _ _).symm.trans H; rw [hy416]; with_reducible exact H2_) | (have H2_ := (Option.bind_some _ _).symm.trans H; with_reducible exact H2_) | with_reducible exact H | (rw [hy416]; exact H) | exact H
      have Ny416 := Az.mk hy416
      clear hy416
      obtain ⟨ji8, hji8⟩ : ∃ j_ : Int, (mn a2 (y416.length : Int)) = j_ := ⟨_, rfl⟩
      replace H : (if 0 ≤ (mx 0 (ji8)) then (if (mx 0 (ji8)) ≤ (y416.length : Int) then ((api_Entry.f (y416.take ((mx 0 (ji8)) : Int).toNat)).bind fun t424 => (some t424)) else (none)) else (none)) = some r := by first | (rw [hji8] at H; exact H) | (simp only [hji8] at H ⊢; exact H)
      have hji8_ : (if (y416.length : Int) < a2 then (y416.length : Int) else a2) = ji8 := hji8
      obtain ⟨ji9, hji9⟩ : ∃ j_ : Int, (mx 0 (ji8)) = j_ := ⟨_, rfl⟩
      replace H : (if 0 ≤ (ji9) then (if (ji9) ≤ (y416.length : Int) then ((api_Entry.f (y416.take ((ji9) : Int).toNat)).bind fun t424 => (some t424)) else (none)) else (none)) = some r := by first | (rw [hji9] at H; exact H) | (simp only [hji9] at H ⊢; exact H)
      have hji9_ : (if 0 < (ji8) then (ji8) else 0) = ji9 := hji9
      by_cases c10 : 0 ≤ (ji9)
      · rw [if_pos c10] at H
        have c10b0 := eq_true c10
        have c10b1 : decide (0 ≤ (ji9)) = true := decide_eq_true c10
        clear c10
        by_cases c11 : (ji9) ≤ (y416.length : Int)
        · rw [if_pos c11] at H
          have c11b0 := eq_true c11
          have c11b1 : decide ((ji9) ≤ (y416.length : Int)) = true := decide_eq_true c11
          clear c11
          obtain ⟨y420, hy420⟩ : ∃ y_ : List (S54), y_ = (y416.take ((ji9) : Int).toNat) := ⟨_, rfl⟩
          replace H : ((api_Entry.f y420).bind fun t424 => (some t424)) = some r := by first | (rw [hy420]; with_reducible exact H) | (have H2_ := (Option.bind_some _ _).symm.trans H; rw [hy420]; with_reducible exact H2_) | (have H2_ := (Option.bind_some _ _).symm.trans H; with_reducible exact H2_) | with_reducible exact H | (rw [hy420]; exact H) | exact H
          have Ny420 := Az.mk hy420
          clear hy420
          replace H := Option.bind_eq_some_iff.mp H
          obtain ⟨t424, A120, H⟩ := H
          replace H : (some t424) = some r := H
          have A12 := Az.mk A120
          clear A120
          obtain rfl := Option.some.inj H
          go_enter Tryd.func26, Tryd.ntmps26
          go_wp2_with (first | ((with_reducible refine gate_dst (N := 3) rfl ?_); refine box_event ?hg (N := 3) ?hd (cs := #[.int .i64 a0_0, .int .i64 a0_1, .slice A0_2 l0_2.length c0_2]) (t := 24) ?hr ?_; (case hd => rfl); (case hg => rfl); (case hr => first | (go_simp; done) | (go_simp; rfl)); intro gb415 hg w13 hbox hb; have n0_ := Az.mk (pbT (by repeat (first | (with_reducible first | exact HB.out | apply pbA | apply pbN | apply pb1) | exact HB.out)) hb); have n1_ := Az.mk (hbox); have n2_ := Az.mk ((by rw [hg]; exact (pbZ (by repeat (first | (with_reducible first | exact HB.out | apply pbA | apply pbN | apply pb1) | exact HB.out))) : w.heap.size ≤ gb415)); have n3_ := Az.mk ((by rw [hg]; exact (pbZ (by repeat (first | (with_reducible first | exact HB.out | apply pbA | apply pbN | apply pb1) | exact HB.out))) : w.heap.size ≤ gb415)); clear HB; have HB := n0_; have BK415 := n1_; have GW415 := n2_; have GE415 := n3_; clear n0_ n1_ n2_ n3_; clear hb hbox hg; have hcz14_0 : w13.cell? ⟨gb415, 0, none⟩ = some (.int .i64 a0_0) := (bkC BK415.out 0).trans rfl; have hcz14_1 : w13.cell? ⟨gb415, 1, none⟩ = some (.int .i64 a0_1) := (bkC BK415.out 1).trans rfl; have hcz14_2 : w13.cell? ⟨gb415, 2, none⟩ = some (.slice A0_2 l0_2.length c0_2) := (bkC BK415.out 2).trans rfl; have hfz14_0 := bkF BK415.out 0; have hfz14_1 := bkF BK415.out 1; have hfz14_2 := bkF BK415.out 2; have q15 : ((ji5) : Int) ≤ ((l0_2.length : Int) : Int) := of_decide_eq_true (by first | (with_reducible assumption) | assumption); obtain ⟨i015, hi015, _, hsz15, _⟩ := info_parts info54; have hroom15 : l0_2.length ≤ c0_2 := HC0_2.out; have hC15 : Kd.C k54 _ A0_2 l0_2.length l0_2 := HR0_2.out; have q015 : (0 : Int) ≤ ((ji5) : Int) := of_decide_eq_true (by first | (with_reducible assumption) | assumption); have hcut15 := cut_from (P := Tryd.prog) 22 54 .i64 Tryd.underlying22 hi015 2 hsz15 A0_2 l0_2.length c0_2 (ji5) q015 q15; have hr15 := Kd.C_drop (m := ((ji5) : Int).toNat) (c := c0_2) hC15 (by omega) hroom15; obtain ⟨A15, hA15⟩ : ∃ A1, A1 = (if c0_2 = ((ji5) : Int).toNat then A0_2 else (A0_2 : Option Addr).map (·.add (((ji5) : Int).toNat * 2))) := ⟨_, rfl⟩; obtain ⟨c15, hc15⟩ : ∃ c1, c1 = c0_2 - ((ji5) : Int).toNat := ⟨_, rfl⟩; have hy15 : y416.length = l0_2.length - ((ji5) : Int).toNat := (by rw [Ny416.out, List.length_drop] <;> omega); rw [show (l0_2).drop ((ji5) : Int).toNat = y416 from Ny416.out.symm] at hr15; replace hr15 : Kd.C k54 _ A15 y416.length y416 := (by rw [hA15]; exact hr15); rw [← hy15, ← hA15, ← hc15] at hcut15; have HR419 := Az.mk hr15; have HC419 := Az.mk (show y416.length ≤ c15 from by rw [hy15, hc15]; exact Nat.sub_le_sub_right hroom15 _); clear hr15 hC15 hroom15 hi015 hsz15 hc15; have KY15 := Az.mk hy15; have KA15 := Az.mk hA15; clear hy15 hA15; replace q15 := eq_true q15; have q16 : ((ji9) : Int) ≤ ((y416.length : Int) : Int) := of_decide_eq_true (by first | (with_reducible assumption) | assumption); obtain ⟨i016, hi016, _, hsz16, _⟩ := info_parts info54; have hroom16 : y416.length ≤ c15 := HC419.out; have hC16 : Kd.C k54 _ A15 y416.length y416 := HR419.out; have hcut16 := cut_to (P := Tryd.prog) 22 54 .i64 Tryd.underlying22 hi016 A15 y416.length c15 (ji9) (of_decide_eq_true (by first | (with_reducible assumption) | assumption)) q16 hroom16; have hr16 := Kd.C_take (m := ((ji9) : Int).toNat) hC16 (by omega); have hy16 : y420.length = ((ji9) : Int).toNat := (by rw [Ny420.out, List.length_take]; omega); rw [← Ny420.out] at hr16; rw [← hy16] at hcut16; have HR423 := Az.mk hr16; have HC423 := Az.mk (show y420.length ≤ c15 from by omega); clear hr16 hC16 hroom16 hi016 hsz16; have KY16 := Az.mk hy16; clear hy16; replace q16 := eq_true q16) | ((with_reducible refine gtc (f := 44) rfl ?_); refine goesL_ (some 33) rfl rfl Tryd.func44 (by kernel_rfl) rfl #[.slice A15 y420.length c15] rfl (by (try simp only [List.map_toArray, List.map_cons, List.map_nil]); first | done | rfl | (simp only [List.length_drop, List.length_take]; rfl)) ?_; (with_reducible refine (api_Entry.calls _ _ y420 t424 _ ?side1 ?side2 ?side3 A12.out).mono ?_); (case side1 => exact hG.below (by repeat (first | (with_reducible first | exact HB.out | apply pbA | apply pbN | apply pb1 | refine pbS ?_ GE415.out) | exact HB.out))); (case side2 => repeat (first | exact (Kd.C_below HR423.out HB.out) | (with_reducible refine Kd.C_alloc ?_ _) | (with_reducible refine Kd.C_drewN ?_ _) | (with_reducible refine Kd.C_drew ?_))); (case side3 => exact HC423.out); rintro e w17 ⟨v425, rfl, ho0, hb⟩; refine ⟨_, rfl, ?_⟩; have n0_ := Az.mk (Kd.R_lower (Kd.R_mono (ok' := fun k_ => True) ho0 (fun _ hk_ => trivial)) (pbZ (by repeat (first | (with_reducible first | exact HB.out | apply pbA | apply pbN | apply pb1 | refine pbS ?_ GE415.out) | exact HB.out)))); have n1_ := Az.mk (bkB (g := gb415) (o := .cells #[.int .i64 a0_0, .int .i64 a0_1, .slice A0_2 l0_2.length c0_2] 24 (0, 0)) (by (with_reducible repeat (first | refine bkN ?_ _ | refine bkD ?_ | refine bkA ?_ _)); exact BK415.out) hb); have n2_ := Az.mk (pbT (by repeat (first | (with_reducible first | exact HB.out | apply pbA | apply pbN | apply pb1 | refine pbS ?_ GE415.out) | exact HB.out)) hb); clear BK415; clear HB; have HO426 := n0_; have BK415 := n1_; have HB := n2_; clear n0_ n1_ n2_; (try clear hb); (try clear hb2); (try clear hk); (try clear hi); (try clear ho0)))
          go_ret
          exact ⟨_, by first | rfl | (simp [errW_none, errW_some] <;> rfl) | (simp only [← hji4, ← hji5, ← hji8, ← hji9]; first | rfl | (simp [errW_none, errW_some] <;> rfl)) | (simp [*, errW_none, errW_some] <;> rfl), by (with_reducible repeat (first | apply Kd.R_alloc | apply Kd.R_drewN | apply Kd.R_drew)); exact HO426.out, by repeat (first | (with_reducible first | exact HB.out | apply pbA | apply pbN | apply pb1 | refine pbS ?_ GE415.out) | exact HB.out)⟩
        · rw [if_neg c11] at H
          exact absurd H (by simp)
      · rw [if_neg c10] at H
        exact absurd H (by simp)
    · rw [if_neg c7] at H
      exact absurd H (by simp)
  · rw [if_neg c6] at H
    exact absurd H (by simp)
end Go.Proofs.YtjpihfjgomoijaaDoor.P
end
section
-- Written by a program of this session (wip/tools/pr.py), over the kit's printer; functions named in the texts imported below are given by hand.
namespace Go.Proofs.YtjpihfjgomoijaaDoor.P
open Go.RowKit Go.Proofs.YtjpihfjgomoijaaDoor.K Go.Proofs.YtjpihfjgomoijaaDoorW.PrintWords Go.Proofs.YtjpihfjgomoijaaDoorW.PrintLast Go.Proofs.YtjpihfjgomoijaaDoorW.PrintMore
attribute [local go_sem] max2_int min2_int max_two min_two max_three min_three max_four min_four   -- for this text's walks alone
/-! ### roll_Newer: function 22 -/
def roll_Newer.f (k : Nat) (a0 : Int) (a1 : Int) (a2_0 : Int) (a2_1 : Int) (l2_2 : List (S54)) : Option (Bool) := (roll_Last.f k a2_0 a2_1 l2_2).bind fun bt163 => (if a0 = bt163.2 then (some (decide (a1 ≥ bt163.1))) else (some (decide (a0 > bt163.2))))
theorem roll_Newer.mono : ∀ a0 a1 a2 a3 a4 k, LeO (roll_Newer.f k a0 a1 a2 a3 a4) (roll_Newer.f (k + 1) a0 a1 a2 a3 a4) := by
  intro a0 a1 a2 a3 a4 k
  unfold roll_Newer.f
  repeat' first
      | (with_reducible exact roll_Last.mono _ _ _ _)
      | (with_reducible exact LeO.refl _)
      | (with_reducible exact LeO.none _)
      | (with_reducible refine LeO.ite ?_ ?_)
      | (with_reducible refine LeO.bind ?_ (fun _ => ?_))
      | exact roll_Last.mono _ _ _ _
      | exact LeO.none _
      | refine LeO.ite ?_ ?_
      | refine LeO.bind ?_ (fun _ => ?_)
set_option maxHeartbeats 8000000 in
set_option maxRecDepth 100000 in
theorem roll_Newer.calls (k : Nat) (a0 : Int) (a1 : Int) (a2_0 : Int) (a2_1 : Int) (A2_2 : Option Addr) (c2_2 : Nat) (l2_2 : List (S54)) (r : Bool) (w : World) (hG : TheG w) (hr2_2 : Kd.C k54 w A2_2 l2_2.length l2_2) (hc2_2 : l2_2.length ≤ c2_2) (h : roll_Newer.f k a0 a1 a2_0 a2_1 l2_2 = some r) :
    Calls Tryd.prog 22 #[.int .i64 a0, .int .i64 a1, .agg #[.int .i64 a2_0, .int .i64 a2_1, .slice A2_2 l2_2.length c2_2]] w fun e w' => e = .returned (.bool r) ∧ Below w.heap.size w w' := by
  have hu24 := Tryd.underlying24
  have HR2_2 := Az.mk hr2_2
  have HC2_2 := Az.mk hc2_2
  clear hr2_2 hc2_2
  have HB := Az.mk (Below.refl w.heap.size w)
  have H : ((roll_Last.f k a2_0 a2_1 l2_2).bind fun bt163 => (if a0 = bt163.2 then (some (decide (a1 ≥ bt163.1))) else (some (decide (a0 > bt163.2))))) = some r := h
  clear h
  replace H := Option.bind_eq_some_iff.mp H
  obtain ⟨⟨t163, t164⟩, A40, H⟩ := H
  replace H : (if a0 = t164 then (some (decide (a1 ≥ t163))) else (some (decide (a0 > t164)))) = some r := H
  have A4 := Az.mk A40
  clear A40
  by_cases c5 : a0 = t164
  · rw [if_pos c5] at H
    have c5b0 : (a0 == t164) = true := beq_iff_eq.mpr c5
    have c5b1 : (a0 != t164) = false := bne_eq_false_iff_eq.mpr c5
    clear c5
    obtain rfl := Option.some.inj H
    go_enter Tryd.func22, Tryd.ntmps22
    go_wp2_with (first | ((with_reducible refine gate_dst (N := 5) rfl ?_); refine box_event ?hg (N := 5) ?hd (cs := #[.int .i64 a2_0, .int .i64 a2_1, .slice A2_2 l2_2.length c2_2]) (t := 24) ?hr ?_; (case hd => rfl); (case hg => rfl); (case hr => first | (go_simp; done) | (go_simp; rfl)); intro gb162 hg w6 hbox hb; have n0_ := Az.mk (pbT (by repeat (first | (with_reducible first | exact HB.out | apply pbA | apply pbN | apply pb1) | exact HB.out)) hb); have n1_ := Az.mk (hbox); have n2_ := Az.mk ((by rw [hg]; exact (pbZ (by repeat (first | (with_reducible first | exact HB.out | apply pbA | apply pbN | apply pb1) | exact HB.out))) : w.heap.size ≤ gb162)); have n3_ := Az.mk ((by rw [hg]; exact (pbZ (by repeat (first | (with_reducible first | exact HB.out | apply pbA | apply pbN | apply pb1) | exact HB.out))) : w.heap.size ≤ gb162)); clear HB; have HB := n0_; have BK162 := n1_; have GW162 := n2_; have GE162 := n3_; clear n0_ n1_ n2_ n3_; clear hb hbox hg; have hcz7_0 : w6.cell? ⟨gb162, 0, none⟩ = some (.int .i64 a2_0) := (bkC BK162.out 0).trans rfl; have hcz7_1 : w6.cell? ⟨gb162, 1, none⟩ = some (.int .i64 a2_1) := (bkC BK162.out 1).trans rfl; have hcz7_2 : w6.cell? ⟨gb162, 2, none⟩ = some (.slice A2_2 l2_2.length c2_2) := (bkC BK162.out 2).trans rfl; have hfz7_0 := bkF BK162.out 0; have hfz7_1 := bkF BK162.out 1; have hfz7_2 := bkF BK162.out 2) | ((with_reducible refine gtc (f := 21) rfl ?_); refine goesL_ (some 11) rfl rfl Tryd.func21 (by kernel_rfl) rfl #[.agg #[.int .i64 a2_0, .int .i64 a2_1, .slice A2_2 l2_2.length c2_2]] rfl (by (try simp only [List.map_toArray, List.map_cons, List.map_nil]); first | done | rfl | (simp only [List.length_drop, List.length_take]; rfl)) ?_; (with_reducible refine (roll_Last.calls k a2_0 a2_1 _ _ l2_2 t163 t164 _ ?side1 ?side2 ?side3 A4.out).mono ?_); (case side1 => exact hG.below (by repeat (first | (with_reducible first | exact HB.out | apply pbA | apply pbN | apply pb1 | refine pbS ?_ GE162.out) | exact HB.out))); (case side2 => repeat (first | exact (Kd.C_below HR2_2.out HB.out) | (with_reducible refine Kd.C_alloc ?_ _) | (with_reducible refine Kd.C_drewN ?_ _) | (with_reducible refine Kd.C_drew ?_))); (case side3 => exact HC2_2.out); rintro e w8 ⟨rfl, hb⟩; refine ⟨_, rfl, ?_⟩; have n0_ := Az.mk (bkB (g := gb162) (o := .cells #[.int .i64 a2_0, .int .i64 a2_1, .slice A2_2 l2_2.length c2_2] 24 (0, 0)) (by (with_reducible repeat (first | refine bkN ?_ _ | refine bkD ?_ | refine bkA ?_ _)); exact BK162.out) hb); have n1_ := Az.mk (pbT (by repeat (first | (with_reducible first | exact HB.out | apply pbA | apply pbN | apply pb1 | refine pbS ?_ GE162.out) | exact HB.out)) hb); clear BK162; clear HB; have BK162 := n0_; have HB := n1_; clear n0_ n1_; (try clear hb); (try clear hb2); (try clear hk); (try clear hi)))
    go_ret
    exact ⟨by first | rfl | (simp [errW_none, errW_some] <;> rfl) | (simp [*, errW_none, errW_some] <;> rfl), by repeat (first | (with_reducible first | exact HB.out | apply pbA | apply pbN | apply pb1 | refine pbS ?_ GE162.out) | exact HB.out)⟩
  · rw [if_neg c5] at H
    have c5b0 : (a0 == t164) = false := beq_eq_false_iff_ne.mpr c5
    have c5b1 : (a0 != t164) = true := bne_iff_ne.mpr c5
    obtain rfl := Option.some.inj H
    go_enter Tryd.func22, Tryd.ntmps22
    go_wp2_with (first | ((with_reducible refine gate_dst (N := 5) rfl ?_); refine box_event ?hg (N := 5) ?hd (cs := #[.int .i64 a2_0, .int .i64 a2_1, .slice A2_2 l2_2.length c2_2]) (t := 24) ?hr ?_; (case hd => rfl); (case hg => rfl); (case hr => first | (go_simp; done) | (go_simp; rfl)); intro gb162 hg w9 hbox hb; have n0_ := Az.mk (pbT (by repeat (first | (with_reducible first | exact HB.out | apply pbA | apply pbN | apply pb1) | exact HB.out)) hb); have n1_ := Az.mk (hbox); have n2_ := Az.mk ((by rw [hg]; exact (pbZ (by repeat (first | (with_reducible first | exact HB.out | apply pbA | apply pbN | apply pb1) | exact HB.out))) : w.heap.size ≤ gb162)); have n3_ := Az.mk ((by rw [hg]; exact (pbZ (by repeat (first | (with_reducible first | exact HB.out | apply pbA | apply pbN | apply pb1) | exact HB.out))) : w.heap.size ≤ gb162)); clear HB; have HB := n0_; have BK162 := n1_; have GW162 := n2_; have GE162 := n3_; clear n0_ n1_ n2_ n3_; clear hb hbox hg; have hcz10_0 : w9.cell? ⟨gb162, 0, none⟩ = some (.int .i64 a2_0) := (bkC BK162.out 0).trans rfl; have hcz10_1 : w9.cell? ⟨gb162, 1, none⟩ = some (.int .i64 a2_1) := (bkC BK162.out 1).trans rfl; have hcz10_2 : w9.cell? ⟨gb162, 2, none⟩ = some (.slice A2_2 l2_2.length c2_2) := (bkC BK162.out 2).trans rfl; have hfz10_0 := bkF BK162.out 0; have hfz10_1 := bkF BK162.out 1; have hfz10_2 := bkF BK162.out 2) | ((with_reducible refine gtc (f := 21) rfl ?_); refine goesL_ (some 11) rfl rfl Tryd.func21 (by kernel_rfl) rfl #[.agg #[.int .i64 a2_0, .int .i64 a2_1, .slice A2_2 l2_2.length c2_2]] rfl (by (try simp only [List.map_toArray, List.map_cons, List.map_nil]); first | done | rfl | (simp only [List.length_drop, List.length_take]; rfl)) ?_; (with_reducible refine (roll_Last.calls k a2_0 a2_1 _ _ l2_2 t163 t164 _ ?side1 ?side2 ?side3 A4.out).mono ?_); (case side1 => exact hG.below (by repeat (first | (with_reducible first | exact HB.out | apply pbA | apply pbN | apply pb1 | refine pbS ?_ GE162.out) | exact HB.out))); (case side2 => repeat (first | exact (Kd.C_below HR2_2.out HB.out) | (with_reducible refine Kd.C_alloc ?_ _) | (with_reducible refine Kd.C_drewN ?_ _) | (with_reducible refine Kd.C_drew ?_))); (case side3 => exact HC2_2.out); rintro e w11 ⟨rfl, hb⟩; refine ⟨_, rfl, ?_⟩; have n0_ := Az.mk (bkB (g := gb162) (o := .cells #[.int .i64 a2_0, .int .i64 a2_1, .slice A2_2 l2_2.length c2_2] 24 (0, 0)) (by (with_reducible repeat (first | refine bkN ?_ _ | refine bkD ?_ | refine bkA ?_ _)); exact BK162.out) hb); have n1_ := Az.mk (pbT (by repeat (first | (with_reducible first | exact HB.out | apply pbA | apply pbN | apply pb1 | refine pbS ?_ GE162.out) | exact HB.out)) hb); clear BK162; clear HB; have BK162 := n0_; have HB := n1_; clear n0_ n1_; (try clear hb); (try clear hb2); (try clear hk); (try clear hi)))
    go_ret
    exact ⟨by first | rfl | (simp [errW_none, errW_some] <;> rfl) | (simp [*, errW_none, errW_some] <;> rfl), by repeat (first | (with_reducible first | exact HB.out | apply pbA | apply pbN | apply pb1 | refine pbS ?_ GE162.out) | exact HB.out)⟩
end Go.Proofs.YtjpihfjgomoijaaDoor.P
end
