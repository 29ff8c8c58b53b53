import Derived.Test.YtjpihfjgomoijaaDoorZRollMerges1
import Derived.Test.YtjpihfjgomoijaaDoorZRollMerges2
import Derived.Test.YtjpihfjgomoijaaDoorZRollMerges3
import Derived.Test.YtjpihfjgomoijaaDoorZRollMerges4
set_option linter.unusedVariables false
set_option linter.unusedSimpArgs false
set_option linter.unnecessarySimpa false
section
-- Written by a program of this session (wip/tools/pr.py), over the kit's printer; functions named in the texts imported below are given by hand.
namespace Go.Proofs.YtjpihfjgomoijaaDoor.P
open Go.RowKit Go.Proofs.YtjpihfjgomoijaaDoor.K Go.Proofs.YtjpihfjgomoijaaDoorW.PrintWords Go.Proofs.YtjpihfjgomoijaaDoorW.PrintLast Go.Proofs.YtjpihfjgomoijaaDoorW.PrintMore
attribute [local go_sem] max2_int min2_int max_two min_two max_three min_three max_four min_four   -- for this text's walks alone
/-! ### l11_RollMerges: function 4 -/
def l11_RollMerges.j0 : Nat → Int → Int → List (S54) → Bool → Int → Int → List (S54) → Option (Bool)
  | 0, _, _, _, _, _, _, _ => none
  | k + 1, x1, x2, x3, x26, x366000, x366001, x366002 => if x26 = true then ((l11_live.f).bind fun t368 => (some t368)) else ((l11_own.f x366000 x366001 x366002).bind fun bt369 => ((some (([] : List (S54)) : List (S54))).bind fun y375 => (if y375.length + x3.length < 5864062014805 then ((roll_Merge.f bt369.1 bt369.2.1 bt369.2.2 x1 x2 (y375 ++ x3)).bind fun bt381 => ((r11_Merge.f k x366000 x366001 x366002 x1 x2 x3).bind fun bt388 => ((r11_Same.f k bt381.1 bt381.2.1 bt381.2.2.1 bt388.1 bt388.2.1 bt388.2.2.1).bind fun t395 => (if t395 = true then (if (bt381.2.2.2 == bt388.2.2.2) = true then ((r11_Same.f k bt369.1 bt369.2.1 bt369.2.2 x366000 x366001 x366002).bind fun t396 => (if t396 = true then ((l11_live.f).bind fun t397 => (some t397)) else (some false))) else (some false)) else (some false))))) else (none))))
def l11_RollMerges.f (k : Nat) (a0_0 : Int) (a0_1 : Int) (l0_2 : List (S54)) (a1 : Int) (a2 : Int) (l3 : List (S54)) : Option (Bool) := (l11_small.f k a0_0 a0_1 l0_2).bind fun t366 => (if t366 = true then ((r11_Is.f k a0_0 a0_1 l0_2).bind fun t367 => (if t367 = true then (l11_RollMerges.j0 k a1 a2 l3 (decide ((l3.length : Int) > 60)) a0_0 a0_1 l0_2) else (l11_RollMerges.j0 k a1 a2 l3 true a0_0 a0_1 l0_2))) else (l11_RollMerges.j0 k a1 a2 l3 true a0_0 a0_1 l0_2))
theorem l11_RollMerges.mono_l : ∀ k, (∀ y0 y1 y2 y3 y4 y5 y6, LeO (l11_RollMerges.j0 k y0 y1 y2 y3 y4 y5 y6) (l11_RollMerges.j0 (k + 1) y0 y1 y2 y3 y4 y5 y6))
  | 0 => fun _ _ _ _ _ _ _ r h => by simp [l11_RollMerges.j0] at h
  | k + 1 => by
    have ih0 := l11_RollMerges.mono_l k
    · intro y0 y1 y2 y3 y4 y5 y6
      unfold l11_RollMerges.j0
      repeat' first
      | (with_reducible exact ih0 _ _ _ _ _ _ _)
      | (with_reducible exact l11_small.mono _ _ _ _)
      | (with_reducible exact r11_Is.mono _ _ _ _)
      | (with_reducible exact r11_Merge.mono _ _ _ _ _ _ _)
      | (with_reducible exact r11_Same.mono _ _ _ _ _ _ _)
      | (with_reducible exact LeO.refl _)
      | (with_reducible exact LeO.none _)
      | (with_reducible refine LeO.ite ?_ ?_)
      | (with_reducible refine LeO.bind ?_ (fun _ => ?_))
      | exact ih0 _ _ _ _ _ _ _
      | exact l11_small.mono _ _ _ _
      | exact r11_Is.mono _ _ _ _
      | exact r11_Merge.mono _ _ _ _ _ _ _
      | exact r11_Same.mono _ _ _ _ _ _ _
      | exact LeO.none _
      | refine LeO.ite ?_ ?_
      | refine LeO.bind ?_ (fun _ => ?_)
theorem l11_RollMerges.mono : ∀ a0 a1 a2 a3 a4 a5 k, LeO (l11_RollMerges.f k a0 a1 a2 a3 a4 a5) (l11_RollMerges.f (k + 1) a0 a1 a2 a3 a4 a5) := by
  intro a0 a1 a2 a3 a4 a5 k
  have ih0 := l11_RollMerges.mono_l k
  unfold l11_RollMerges.f
  repeat' first
      | (with_reducible exact ih0 _ _ _ _ _ _ _)
      | (with_reducible exact l11_small.mono _ _ _ _)
      | (with_reducible exact r11_Is.mono _ _ _ _)
      | (with_reducible exact r11_Merge.mono _ _ _ _ _ _ _)
      | (with_reducible exact r11_Same.mono _ _ _ _ _ _ _)
      | (with_reducible exact LeO.refl _)
      | (with_reducible exact LeO.none _)
      | (with_reducible refine LeO.ite ?_ ?_)
      | (with_reducible refine LeO.bind ?_ (fun _ => ?_))
      | exact ih0 _ _ _ _ _ _ _
      | exact l11_small.mono _ _ _ _
      | exact r11_Is.mono _ _ _ _
      | exact r11_Merge.mono _ _ _ _ _ _ _
      | exact r11_Same.mono _ _ _ _ _ _ _
      | exact LeO.none _
      | refine LeO.ite ?_ ?_
      | refine LeO.bind ?_ (fun _ => ?_)
def l11_RollMerges.T4 : Bool × List (List Nat × List Nat) := (true, [([], []), ([], []), ([], []), ([], []), ([], []), ([3, 4], [3, 4]), ([0, 1, 2, 5, 5], [0, 1, 2, 5]), ([6], [6]), ([7], [7]), ([7], [7]), ([], []), ([10, 8, 6, 0, 1, 2, 3, 4, 5, 6, 7, 8, 10], [8, 10]), ([9, 11, 0, 1, 2, 3, 4, 5, 6, 7, 8, 9, 10, 11], [9])])
def l11_RollMerges.B4 : List Nat := [0, 0, 0, 0, 0, 24, 63, 127, 255, 255, 0, 1535, 4095]
theorem l11_RollMerges.tab4 : rtab .any (opsOf Tryd.f4 4) = l11_RollMerges.T4 := by kernel_rfl
theorem l11_RollMerges.bits4 : waitsOk l11_RollMerges.T4.2 l11_RollMerges.B4 = true := by kernel_rfl
set_option maxHeartbeats 8000000 in
set_option maxRecDepth 100000 in
theorem l11_RollMerges.calls (k : Nat) (a0_0 : Int) (a0_1 : Int) (A0_2 : Option Addr) (c0_2 : Nat) (l0_2 : List (S54)) (a1 : Int) (a2 : Int) (A3 : Option Addr) (c3 : Nat) (l3 : List (S54)) (r : Bool) (w : World) (hG : TheG w) (hr : r = true) (hr0_2 : Kd.C k54 w A0_2 l0_2.length l0_2) (hc0_2 : l0_2.length ≤ c0_2) (hr3 : Kd.C k54 w A3 l3.length l3) (hc3 : l3.length ≤ c3) (h : l11_RollMerges.f k a0_0 a0_1 l0_2 a1 a2 l3 = some r) :
    Calls Tryd.prog 4 #[.agg #[.int .i64 a0_0, .int .i64 a0_1, .slice A0_2 l0_2.length c0_2], .int .i64 a1, .int .i64 a2, .slice A3 l3.length c3] w fun e w' => e = .returned (.bool r) ∧ Below w.heap.size w w' := by
  have hu24 := Tryd.underlying24
  have HR0_2 := Az.mk hr0_2
  have HC0_2 := Az.mk hc0_2
  clear hr0_2 hc0_2
  have HR3 := Az.mk hr3
  have HC3 := Az.mk hc3
  clear hr3 hc3
  have HB := Az.mk (Below.refl w.heap.size w)
  have H : ((l11_small.f k a0_0 a0_1 l0_2).bind fun t366 => (if t366 = true then ((r11_Is.f k a0_0 a0_1 l0_2).bind fun t367 => (if t367 = true then (l11_RollMerges.j0 k a1 a2 l3 (decide ((l3.length : Int) > 60)) a0_0 a0_1 l0_2) else (l11_RollMerges.j0 k a1 a2 l3 true a0_0 a0_1 l0_2))) else (l11_RollMerges.j0 k a1 a2 l3 true a0_0 a0_1 l0_2))) = some r := h
  clear h
  have HC5 := Az.mk H
  clear H
  go_enter Tryd.func4, Tryd.ntmps4
  go_upto_region 1 with (first | ((with_reducible refine gate_dst (N := 4) rfl ?_); (try (refine gate_guard (by rfl) ?_; dsimp only)); refine box_event ?hg (N := 4) ?hd (cs := #[.int .i64 a0_0, .int .i64 a0_1, .slice A0_2 l0_2.length c0_2]) (t := 24) ?hr ?_; (case hd => rfl); (case hg => rfl); (case hr => first | (go_simp; done) | (go_simp; rfl)); intro gb365 hg w6 hbox hb; have n0_ := Az.mk (pbT (by repeat (first | (with_reducible first | exact HB.out | apply pbA | apply pbN | apply pb1) | exact HB.out)) hb); have n1_ := Az.mk (hbox); have n2_ := Az.mk ((by rw [hg]; exact (pbZ (by repeat (first | (with_reducible first | exact HB.out | apply pbA | apply pbN | apply pb1) | exact HB.out))) : w.heap.size ≤ gb365)); have n3_ := Az.mk ((by rw [hg]; exact (pbZ (by repeat (first | (with_reducible first | exact HB.out | apply pbA | apply pbN | apply pb1) | exact HB.out))) : w.heap.size ≤ gb365)); clear HB; have HB := n0_; have BK365 := n1_; have GW365 := n2_; have GE365 := n3_; clear n0_ n1_ n2_ n3_; clear hb hbox hg))
  (try simp only [Act.put, List.setIfInBounds_toArray, List.set_cons_zero, List.set_cons_succ])
  go_cut [26] (fun v26 wc => ∃ (kq : Nat) (x26_4 : Bool), v26 = .bool x26_4 ∧ Az (l11_RollMerges.j0 kq a1 a2 l3 x26_4 a0_0 a0_1 l0_2 = some r) ∧ Az (kq ≤ k) ∧ Az (wc.heap[gb365]? = some (.cells #[.int .i64 a0_0, .int .i64 a0_1, (.slice A0_2 l0_2.length c0_2)] 24 (0, 0))) ∧ Az (Below w.heap.size w wc))
  case first =>
    have H := HC5.out
    clear HC5
    replace H := Option.bind_eq_some_iff.mp H
    obtain ⟨t366, A70, H⟩ := H
    replace H : (if t366 = true then ((r11_Is.f k a0_0 a0_1 l0_2).bind fun t367 => (if t367 = true then (l11_RollMerges.j0 k a1 a2 l3 (decide ((l3.length : Int) > 60)) a0_0 a0_1 l0_2) else (l11_RollMerges.j0 k a1 a2 l3 true a0_0 a0_1 l0_2))) else (l11_RollMerges.j0 k a1 a2 l3 true a0_0 a0_1 l0_2)) = some r := H
    have A7 := Az.mk A70
    clear A70
    by_cases c8 : t366 = true
    · subst c8
      have H1 : ((r11_Is.f k a0_0 a0_1 l0_2).bind fun t367 => (if t367 = true then (l11_RollMerges.j0 k a1 a2 l3 (decide ((l3.length : Int) > 60)) a0_0 a0_1 l0_2) else (l11_RollMerges.j0 k a1 a2 l3 true a0_0 a0_1 l0_2))) = some r := by rw [if_pos rfl] at H; exact H
      clear H
      have H := H1
      clear H1
      replace H := Option.bind_eq_some_iff.mp H
      obtain ⟨t367, A90, H⟩ := H
      replace H : (if t367 = true then (l11_RollMerges.j0 k a1 a2 l3 (decide ((l3.length : Int) > 60)) a0_0 a0_1 l0_2) else (l11_RollMerges.j0 k a1 a2 l3 true a0_0 a0_1 l0_2)) = some r := H
      have A9 := Az.mk A90
      clear A90
      by_cases c10 : t367 = true
      · subst c10
        have H1 : (l11_RollMerges.j0 k a1 a2 l3 (decide ((l3.length : Int) > 60)) a0_0 a0_1 l0_2) = some r := by rw [if_pos rfl] at H; exact H
        clear H
        have H := H1
        clear H1
        have H' := Az.mk H
        clear H
        have hcz11_0 : w6.cell? ⟨gb365, 0, none⟩ = some (.int .i64 a0_0) := (bkC BK365.out 0).trans rfl
        have hcz11_1 : w6.cell? ⟨gb365, 1, none⟩ = some (.int .i64 a0_1) := (bkC BK365.out 1).trans rfl
        have hcz11_2 : w6.cell? ⟨gb365, 2, none⟩ = some (.slice A0_2 l0_2.length c0_2) := (bkC BK365.out 2).trans rfl
        have hfz11_0 := bkF BK365.out 0
        have hfz11_1 := bkF BK365.out 1
        have hfz11_2 := bkF BK365.out 2
        go_wp2_with (first | ((with_reducible refine gtc (f := 8) rfl ?_); refine goesL_ (some 15) rfl rfl Tryd.func8 (by kernel_rfl) rfl #[.agg #[.int .i64 a0_0, .int .i64 a0_1, .slice A0_2 l0_2.length c0_2]] rfl (by (try simp only [List.map_toArray, List.map_cons, List.map_nil]); first | done | rfl | (simp only [List.length_drop, List.length_take]; rfl)) ?_; (with_reducible refine (l11_small.calls k a0_0 a0_1 _ _ l0_2 true _ ?side1 ?side2 ?side3 A7.out).mono ?_); (case side1 => exact hG.below (by repeat (first | (with_reducible first | exact HB.out | apply pbA | apply pbN | apply pb1 | refine pbS ?_ GE365.out) | exact HB.out))); (case side2 => repeat (first | exact (Kd.C_below HR0_2.out HB.out) | (with_reducible refine Kd.C_alloc ?_ _) | (with_reducible refine Kd.C_drewN ?_ _) | (with_reducible refine Kd.C_drew ?_))); (case side3 => exact HC0_2.out); rintro e w12 ⟨rfl, hb⟩; refine ⟨_, rfl, ?_⟩; have n0_ := Az.mk (bkB (g := gb365) (o := .cells #[.int .i64 a0_0, .int .i64 a0_1, .slice A0_2 l0_2.length c0_2] 24 (0, 0)) (by (with_reducible repeat (first | refine bkN ?_ _ | refine bkD ?_ | refine bkA ?_ _)); exact BK365.out) hb); have n1_ := Az.mk (pbT (by repeat (first | (with_reducible first | exact HB.out | apply pbA | apply pbN | apply pb1 | refine pbS ?_ GE365.out) | exact HB.out)) hb); clear BK365; clear HB; have BK365 := n0_; have HB := n1_; clear n0_ n1_; (try clear hb); (try clear hb2); (try clear hk); (try clear hi); have hcz13_0 : w12.cell? ⟨gb365, 0, none⟩ = some (.int .i64 a0_0) := (bkC BK365.out 0).trans rfl; have hcz13_1 : w12.cell? ⟨gb365, 1, none⟩ = some (.int .i64 a0_1) := (bkC BK365.out 1).trans rfl; have hcz13_2 : w12.cell? ⟨gb365, 2, none⟩ = some (.slice A0_2 l0_2.length c0_2) := (bkC BK365.out 2).trans rfl; have hfz13_0 := bkF BK365.out 0; have hfz13_1 := bkF BK365.out 1; have hfz13_2 := bkF BK365.out 2) | (go_at_call 14; (with_reducible refine (r11_Is.calls k a0_0 a0_1 _ _ l0_2 true _ ?side1 ?side2 ?side3 A9.out).mono ?_); (case side1 => exact hG.below (by repeat (first | (with_reducible first | exact HB.out | apply pbA | apply pbN | apply pb1 | refine pbS ?_ GE365.out) | exact HB.out))); (case side2 => repeat (first | exact (Kd.C_below HR0_2.out HB.out) | (with_reducible refine Kd.C_alloc ?_ _) | (with_reducible refine Kd.C_drewN ?_ _) | (with_reducible refine Kd.C_drew ?_))); (case side3 => exact HC0_2.out); rintro e w14 ⟨rfl, hb⟩; have n0_ := Az.mk (bkB (g := gb365) (o := .cells #[.int .i64 a0_0, .int .i64 a0_1, .slice A0_2 l0_2.length c0_2] 24 (0, 0)) (by (with_reducible repeat (first | refine bkN ?_ _ | refine bkD ?_ | refine bkA ?_ _)); exact BK365.out) hb); have n1_ := Az.mk (pbT (by repeat (first | (with_reducible first | exact HB.out | apply pbA | apply pbN | apply pb1 | refine pbS ?_ GE365.out) | exact HB.out)) hb); clear BK365; clear HB; have BK365 := n0_; have HB := n1_; clear n0_ n1_; (try clear hb); (try clear hb2); (try clear hk); (try clear hi)))
        go_meet
        case rel => exact ⟨_, (decide ((l3.length : Int) > 60)), (by first | rfl | (simp; done) | (simp [*]; done)), H', ⟨by first | omega | exact Nat.le_refl _⟩, ⟨by (with_reducible repeat (first | refine bkN ?_ _ | refine bkD ?_ | refine bkA ?_ _)); exact BK365.out⟩, ⟨by repeat (first | (with_reducible first | exact HB.out | apply pbA | apply pbN | apply pb1 | refine pbS ?_ GE365.out) | exact HB.out)⟩⟩
      · replace c10 := Bool.eq_false_iff.mpr c10
        subst c10
        have H1 : (l11_RollMerges.j0 k a1 a2 l3 true a0_0 a0_1 l0_2) = some r := by rw [if_neg (show ¬ (false = true) by decide)] at H; exact H
        clear H
        have H := H1
        clear H1
        have H' := Az.mk H
        clear H
        have hcz15_0 : w6.cell? ⟨gb365, 0, none⟩ = some (.int .i64 a0_0) := (bkC BK365.out 0).trans rfl
        have hcz15_1 : w6.cell? ⟨gb365, 1, none⟩ = some (.int .i64 a0_1) := (bkC BK365.out 1).trans rfl
        have hcz15_2 : w6.cell? ⟨gb365, 2, none⟩ = some (.slice A0_2 l0_2.length c0_2) := (bkC BK365.out 2).trans rfl
        have hfz15_0 := bkF BK365.out 0
        have hfz15_1 := bkF BK365.out 1
        have hfz15_2 := bkF BK365.out 2
        go_wp2_with (first | ((with_reducible refine gtc (f := 8) rfl ?_); refine goesL_ (some 15) rfl rfl Tryd.func8 (by kernel_rfl) rfl #[.agg #[.int .i64 a0_0, .int .i64 a0_1, .slice A0_2 l0_2.length c0_2]] rfl (by (try simp only [List.map_toArray, List.map_cons, List.map_nil]); first | done | rfl | (simp only [List.length_drop, List.length_take]; rfl)) ?_; (with_reducible refine (l11_small.calls k a0_0 a0_1 _ _ l0_2 true _ ?side1 ?side2 ?side3 A7.out).mono ?_); (case side1 => exact hG.below (by repeat (first | (with_reducible first | exact HB.out | apply pbA | apply pbN | apply pb1 | refine pbS ?_ GE365.out) | exact HB.out))); (case side2 => repeat (first | exact (Kd.C_below HR0_2.out HB.out) | (with_reducible refine Kd.C_alloc ?_ _) | (with_reducible refine Kd.C_drewN ?_ _) | (with_reducible refine Kd.C_drew ?_))); (case side3 => exact HC0_2.out); rintro e w16 ⟨rfl, hb⟩; refine ⟨_, rfl, ?_⟩; have n0_ := Az.mk (bkB (g := gb365) (o := .cells #[.int .i64 a0_0, .int .i64 a0_1, .slice A0_2 l0_2.length c0_2] 24 (0, 0)) (by (with_reducible repeat (first | refine bkN ?_ _ | refine bkD ?_ | refine bkA ?_ _)); exact BK365.out) hb); have n1_ := Az.mk (pbT (by repeat (first | (with_reducible first | exact HB.out | apply pbA | apply pbN | apply pb1 | refine pbS ?_ GE365.out) | exact HB.out)) hb); clear BK365; clear HB; have BK365 := n0_; have HB := n1_; clear n0_ n1_; (try clear hb); (try clear hb2); (try clear hk); (try clear hi); have hcz17_0 : w16.cell? ⟨gb365, 0, none⟩ = some (.int .i64 a0_0) := (bkC BK365.out 0).trans rfl; have hcz17_1 : w16.cell? ⟨gb365, 1, none⟩ = some (.int .i64 a0_1) := (bkC BK365.out 1).trans rfl; have hcz17_2 : w16.cell? ⟨gb365, 2, none⟩ = some (.slice A0_2 l0_2.length c0_2) := (bkC BK365.out 2).trans rfl; have hfz17_0 := bkF BK365.out 0; have hfz17_1 := bkF BK365.out 1; have hfz17_2 := bkF BK365.out 2) | (go_at_call 14; (with_reducible refine (r11_Is.calls k a0_0 a0_1 _ _ l0_2 false _ ?side1 ?side2 ?side3 A9.out).mono ?_); (case side1 => exact hG.below (by repeat (first | (with_reducible first | exact HB.out | apply pbA | apply pbN | apply pb1 | refine pbS ?_ GE365.out) | exact HB.out))); (case side2 => repeat (first | exact (Kd.C_below HR0_2.out HB.out) | (with_reducible refine Kd.C_alloc ?_ _) | (with_reducible refine Kd.C_drewN ?_ _) | (with_reducible refine Kd.C_drew ?_))); (case side3 => exact HC0_2.out); rintro e w18 ⟨rfl, hb⟩; have n0_ := Az.mk (bkB (g := gb365) (o := .cells #[.int .i64 a0_0, .int .i64 a0_1, .slice A0_2 l0_2.length c0_2] 24 (0, 0)) (by (with_reducible repeat (first | refine bkN ?_ _ | refine bkD ?_ | refine bkA ?_ _)); exact BK365.out) hb); have n1_ := Az.mk (pbT (by repeat (first | (with_reducible first | exact HB.out | apply pbA | apply pbN | apply pb1 | refine pbS ?_ GE365.out) | exact HB.out)) hb); clear BK365; clear HB; have BK365 := n0_; have HB := n1_; clear n0_ n1_; (try clear hb); (try clear hb2); (try clear hk); (try clear hi)))
        go_meet
        case rel => exact ⟨_, (true), (by first | rfl | (simp; done) | (simp [*]; done)), H', ⟨by first | omega | exact Nat.le_refl _⟩, ⟨by (with_reducible repeat (first | refine bkN ?_ _ | refine bkD ?_ | refine bkA ?_ _)); exact BK365.out⟩, ⟨by repeat (first | (with_reducible first | exact HB.out | apply pbA | apply pbN | apply pb1 | refine pbS ?_ GE365.out) | exact HB.out)⟩⟩
    · replace c8 := Bool.eq_false_iff.mpr c8
      subst c8
      have H1 : (l11_RollMerges.j0 k a1 a2 l3 true a0_0 a0_1 l0_2) = some r := by rw [if_neg (show ¬ (false = true) by decide)] at H; exact H
      clear H
      have H := H1
      clear H1
      have H' := Az.mk H
      clear H
      have hcz19_0 : w6.cell? ⟨gb365, 0, none⟩ = some (.int .i64 a0_0) := (bkC BK365.out 0).trans rfl
      have hcz19_1 : w6.cell? ⟨gb365, 1, none⟩ = some (.int .i64 a0_1) := (bkC BK365.out 1).trans rfl
      have hcz19_2 : w6.cell? ⟨gb365, 2, none⟩ = some (.slice A0_2 l0_2.length c0_2) := (bkC BK365.out 2).trans rfl
      have hfz19_0 := bkF BK365.out 0
      have hfz19_1 := bkF BK365.out 1
      have hfz19_2 := bkF BK365.out 2
      go_wp2_with (first | ((with_reducible refine gtc (f := 8) rfl ?_); refine goesL_ (some 15) rfl rfl Tryd.func8 (by kernel_rfl) rfl #[.agg #[.int .i64 a0_0, .int .i64 a0_1, .slice A0_2 l0_2.length c0_2]] rfl (by (try simp only [List.map_toArray, List.map_cons, List.map_nil]); first | done | rfl | (simp only [List.length_drop, List.length_take]; rfl)) ?_; (with_reducible refine (l11_small.calls k a0_0 a0_1 _ _ l0_2 false _ ?side1 ?side2 ?side3 A7.out).mono ?_); (case side1 => exact hG.below (by repeat (first | (with_reducible first | exact HB.out | apply pbA | apply pbN | apply pb1 | refine pbS ?_ GE365.out) | exact HB.out))); (case side2 => repeat (first | exact (Kd.C_below HR0_2.out HB.out) | (with_reducible refine Kd.C_alloc ?_ _) | (with_reducible refine Kd.C_drewN ?_ _) | (with_reducible refine Kd.C_drew ?_))); (case side3 => exact HC0_2.out); rintro e w20 ⟨rfl, hb⟩; refine ⟨_, rfl, ?_⟩; have n0_ := Az.mk (bkB (g := gb365) (o := .cells #[.int .i64 a0_0, .int .i64 a0_1, .slice A0_2 l0_2.length c0_2] 24 (0, 0)) (by (with_reducible repeat (first | refine bkN ?_ _ | refine bkD ?_ | refine bkA ?_ _)); exact BK365.out) hb); have n1_ := Az.mk (pbT (by repeat (first | (with_reducible first | exact HB.out | apply pbA | apply pbN | apply pb1 | refine pbS ?_ GE365.out) | exact HB.out)) hb); clear BK365; clear HB; have BK365 := n0_; have HB := n1_; clear n0_ n1_; (try clear hb); (try clear hb2); (try clear hk); (try clear hi)))
      go_meet
      case rel => exact ⟨_, (true), (by first | rfl | (simp; done) | (simp [*]; done)), H', ⟨by first | omega | exact Nat.le_refl _⟩, ⟨by (with_reducible repeat (first | refine bkN ?_ _ | refine bkD ?_ | refine bkA ?_ _)); exact BK365.out⟩, ⟨by repeat (first | (with_reducible first | exact HB.out | apply pbA | apply pbN | apply pb1 | refine pbS ?_ GE365.out) | exact HB.out)⟩⟩
  case rest =>
    clear HC5
    try clear c1
    try clear p2
    try clear c3
    try clear c4
    try clear c8
    try clear c10
    try clear hcz11_0
    try clear hcz11_1
    try clear hcz11_2
    try clear hcz13_0
    try clear hcz13_1
    try clear hcz13_2
    try clear hcz15_0
    try clear hcz15_1
    try clear hcz15_2
    try clear hcz17_0
    try clear hcz17_1
    try clear hcz17_2
    try clear hcz19_0
    try clear hcz19_1
    try clear hcz19_2
    try clear hfz11_0
    try clear hfz11_1
    try clear hfz11_2
    try clear hfz13_0
    try clear hfz13_1
    try clear hfz13_2
    try clear hfz15_0
    try clear hfz15_1
    try clear hfz15_2
    try clear hfz17_0
    try clear hfz17_1
    try clear hfz17_2
    try clear hfz19_0
    try clear hfz19_1
    try clear hfz19_2
    obtain ⟨kq, x26_4, rfl, HA, HJ4, BK365, HB⟩ := hcut
    cases kq with
    | zero => exact absurd HA.out (by simp [l11_RollMerges.j0])
    | succ kj4 =>
      have H := HA.out
      clear HA
      simp only [l11_RollMerges.j0] at H
      by_cases c21 : x26_4 = true
      · subst c21
        have H1 : ((l11_live.f).bind fun t368 => (some t368)) = some r := by rw [if_pos rfl] at H; exact H
        clear H
        have H := H1
        clear H1
        replace H := Option.bind_eq_some_iff.mp H
        obtain ⟨t368, A220, H⟩ := H
        replace H : (some t368) = some r := H
        have A22 := Az.mk A220
        clear A220
        obtain rfl := Option.some.inj H
        go_wp2_with (first | ((with_reducible refine gtc (f := 9) rfl ?_); refine goesL_ (some 27) rfl rfl Tryd.func9 (by kernel_rfl) rfl #[] rfl (by (try simp only [List.map_toArray, List.map_cons, List.map_nil]); first | done | rfl | (simp only [List.length_drop, List.length_take]; rfl)) ?_; (with_reducible refine (l11_live.calls  t368 _ ?side1 A22.out).mono ?_); (case side1 => exact hG.below (by repeat (first | (with_reducible first | exact HB.out | apply pbA | apply pbN | apply pb1 | refine pbS ?_ GE365.out) | exact HB.out))); rintro e w23 ⟨rfl, hb⟩; refine ⟨_, rfl, ?_⟩; have n0_ := Az.mk (bkB (g := gb365) (o := .cells #[.int .i64 a0_0, .int .i64 a0_1, .slice A0_2 l0_2.length c0_2] 24 (0, 0)) (by (with_reducible repeat (first | refine bkN ?_ _ | refine bkD ?_ | refine bkA ?_ _)); exact BK365.out) hb); have n1_ := Az.mk (pbT (by repeat (first | (with_reducible first | exact HB.out | apply pbA | apply pbN | apply pb1 | refine pbS ?_ GE365.out) | exact HB.out)) hb); clear BK365; clear HB; have BK365 := n0_; have HB := n1_; clear n0_ n1_; (try clear hb); (try clear hb2); (try clear hk); (try clear hi)))
        go_ret
        exact ⟨by first | rfl | (simp [errW_none, errW_some] <;> rfl) | (simp [*, errW_none, errW_some] <;> rfl), by repeat (first | (with_reducible first | exact HB.out | apply pbA | apply pbN | apply pb1 | refine pbS ?_ GE365.out) | exact HB.out)⟩
      · replace c21 := Bool.eq_false_iff.mpr c21
        subst c21
        have H1 : ((l11_own.f a0_0 a0_1 l0_2).bind fun bt369 => ((some (([] : List (S54)) : List (S54))).bind fun y375 => (if y375.length + l3.length < 5864062014805 then ((roll_Merge.f bt369.1 bt369.2.1 bt369.2.2 a1 a2 (y375 ++ l3)).bind fun bt381 => ((r11_Merge.f kj4 a0_0 a0_1 l0_2 a1 a2 l3).bind fun bt388 => ((r11_Same.f kj4 bt381.1 bt381.2.1 bt381.2.2.1 bt388.1 bt388.2.1 bt388.2.2.1).bind fun t395 => (if t395 = true then (if (bt381.2.2.2 == bt388.2.2.2) = true then ((r11_Same.f kj4 bt369.1 bt369.2.1 bt369.2.2 a0_0 a0_1 l0_2).bind fun t396 => (if t396 = true then ((l11_live.f).bind fun t397 => (some t397)) else (some false))) else (some false)) else (some false))))) else (none)))) = some r := by rw [if_neg (show ¬ (false = true) by decide)] at H; exact H
        clear H
        have H := H1
        clear H1
        replace H := Option.bind_eq_some_iff.mp H
        obtain ⟨⟨t369, t370, t371⟩, A240, H⟩ := H
        replace H : ((some (([] : List (S54)) : List (S54))).bind fun y375 => (if y375.length + l3.length < 5864062014805 then ((roll_Merge.f t369 t370 t371 a1 a2 (y375 ++ l3)).bind fun bt381 => ((r11_Merge.f kj4 a0_0 a0_1 l0_2 a1 a2 l3).bind fun bt388 => ((r11_Same.f kj4 bt381.1 bt381.2.1 bt381.2.2.1 bt388.1 bt388.2.1 bt388.2.2.1).bind fun t395 => (if t395 = true then (if (bt381.2.2.2 == bt388.2.2.2) = true then ((r11_Same.f kj4 t369 t370 t371 a0_0 a0_1 l0_2).bind fun t396 => (if t396 = true then ((l11_live.f).bind fun t397 => (some t397)) else (some false))) else (some false)) else (some false))))) else (none))) = some r := H
        have A24 := Az.mk A240
        clear A240
        obtain ⟨y375, hy375⟩ : ∃ y_ : List (S54), y_ = (([] : List (S54))) := ⟨_, rfl⟩
        replace H : (if y375.length + l3.length < 5864062014805 then ((roll_Merge.f t369 t370 t371 a1 a2 (y375 ++ l3)).bind fun bt381 => ((r11_Merge.f kj4 a0_0 a0_1 l0_2 a1 a2 l3).bind fun bt388 => ((r11_Same.f kj4 bt381.1 bt381.2.1 bt381.2.2.1 bt388.1 bt388.2.1 bt388.2.2.1).bind fun t395 => (if t395 = true then (if (bt381.2.2.2 == bt388.2.2.2) = true then ((r11_Same.f kj4 t369 t370 t371 a0_0 a0_1 l0_2).bind fun t396 => (if t396 = true then ((l11_live.f).bind fun t397 => (some t397)) else (some false))) else (some false)) else (some false))))) else (none)) = some r := by first | (rw [hy375]; with_reducible exact H) | (have H2_ := (Option.bind_some _ _).symm.trans H; rw [hy375]; with_reducible exact H2_) | (have H2_ := (Option.bind_some _ _).symm.trans H; with_reducible exact H2_) | with_reducible exact H | (rw [hy375]; exact H) | exact H
        have Ny375 := Az.mk hy375
        clear hy375
        by_cases c25 : y375.length + l3.length < 5864062014805
        · rw [if_pos c25] at H
          have LMc25 := Az.mk c25
          clear c25
          obtain ⟨y378, hy378⟩ : ∃ y_ : List (S54), y_ = (y375 ++ l3) := ⟨_, rfl⟩
          replace H : ((roll_Merge.f t369 t370 t371 a1 a2 y378).bind fun bt381 => ((r11_Merge.f kj4 a0_0 a0_1 l0_2 a1 a2 l3).bind fun bt388 => ((r11_Same.f kj4 bt381.1 bt381.2.1 bt381.2.2.1 bt388.1 bt388.2.1 bt388.2.2.1).bind fun t395 => (if t395 = true then (if (bt381.2.2.2 == bt388.2.2.2) = true then ((r11_Same.f kj4 t369 t370 t371 a0_0 a0_1 l0_2).bind fun t396 => (if t396 = true then ((l11_live.f).bind fun t397 => (some t397)) else (some false))) else (some false)) else (some false))))) = some r := by first | (rw [hy378]; with_reducible exact H) | (have H2_ := (Option.bind_some _ _).symm.trans H; rw [hy378]; with_reducible exact H2_) | (have H2_ := (Option.bind_some _ _).symm.trans H; with_reducible exact H2_) | with_reducible exact H | (rw [hy378]; exact H) | exact H
          have Ny378 := Az.mk hy378
          clear hy378
          replace H := Option.bind_eq_some_iff.mp H
          obtain ⟨⟨t381, t382, t383, t386⟩, A260, H⟩ := H
          replace H : ((r11_Merge.f kj4 a0_0 a0_1 l0_2 a1 a2 l3).bind fun bt388 => ((r11_Same.f kj4 t381 t382 t383 bt388.1 bt388.2.1 bt388.2.2.1).bind fun t395 => (if t395 = true then (if (t386 == bt388.2.2.2) = true then ((r11_Same.f kj4 t369 t370 t371 a0_0 a0_1 l0_2).bind fun t396 => (if t396 = true then ((l11_live.f).bind fun t397 => (some t397)) else (some false))) else (some false)) else (some false)))) = some r := H
          have A26 := Az.mk A260
          clear A260
          replace H := Option.bind_eq_some_iff.mp H
          obtain ⟨⟨t388, t389, t390, t393⟩, A270, H⟩ := H
          replace H : ((r11_Same.f kj4 t381 t382 t383 t388 t389 t390).bind fun t395 => (if t395 = true then (if (t386 == t393) = true then ((r11_Same.f kj4 t369 t370 t371 a0_0 a0_1 l0_2).bind fun t396 => (if t396 = true then ((l11_live.f).bind fun t397 => (some t397)) else (some false))) else (some false)) else (some false))) = some r := H
          have A27 := Az.mk A270
          clear A270
          replace H := Option.bind_eq_some_iff.mp H
          obtain ⟨t395, A280, H⟩ := H
          replace H : (if t395 = true then (if (t386 == t393) = true then ((r11_Same.f kj4 t369 t370 t371 a0_0 a0_1 l0_2).bind fun t396 => (if t396 = true then ((l11_live.f).bind fun t397 => (some t397)) else (some false))) else (some false)) else (some false)) = some r := H
          have A28 := Az.mk A280
          clear A280
          by_cases c29 : t395 = true
          · subst c29
            have H1 : (if (t386 == t393) = true then ((r11_Same.f kj4 t369 t370 t371 a0_0 a0_1 l0_2).bind fun t396 => (if t396 = true then ((l11_live.f).bind fun t397 => (some t397)) else (some false))) else (some false)) = some r := by rw [if_pos rfl] at H; exact H
            clear H
            have H := H1
            clear H1
            by_cases c30 : (t386 == t393) = true
            · rw [if_pos c30] at H
              have c30b0 : (t386 == t393) = true := c30
              (try (have c30b1 : decide (t386 = t393) = true := by simpa using c30))
              (try (have c30b2 : (t386 == t393) = true := by simpa using c30))
              clear c30
              replace H := Option.bind_eq_some_iff.mp H
              obtain ⟨t396, A310, H⟩ := H
              replace H : (if t396 = true then ((l11_live.f).bind fun t397 => (some t397)) else (some false)) = some r := H
              have A31 := Az.mk A310
              clear A310
              by_cases c32 : t396 = true
              · subst c32
                have H1 : ((l11_live.f).bind fun t397 => (some t397)) = some r := by rw [if_pos rfl] at H; exact H
                clear H
                have H := H1
                clear H1
                replace H := Option.bind_eq_some_iff.mp H
                obtain ⟨t397, A330, H⟩ := H
                replace H : (some t397) = some r := H
                have A33 := Az.mk A330
                clear A330
                obtain rfl := Option.some.inj H
                have hcz34_0 : wc.cell? ⟨gb365, 0, none⟩ = some (.int .i64 a0_0) := (bkC BK365.out 0).trans rfl
                have hcz34_1 : wc.cell? ⟨gb365, 1, none⟩ = some (.int .i64 a0_1) := (bkC BK365.out 1).trans rfl
                have hcz34_2 : wc.cell? ⟨gb365, 2, none⟩ = some (.slice A0_2 l0_2.length c0_2) := (bkC BK365.out 2).trans rfl
                have hfz34_0 := bkF BK365.out 0
                have hfz34_1 := bkF BK365.out 1
                have hfz34_2 := bkF BK365.out 2
                try go_wp2_with (first | ((with_reducible refine gtc (f := 16) rfl ?_); refine goesL_ (some 29) rfl rfl Tryd.func16 (by kernel_rfl) rfl #[.agg #[.int .i64 a0_0, .int .i64 a0_1, .slice A0_2 l0_2.length c0_2]] rfl (by (try simp only [List.map_toArray, List.map_cons, List.map_nil]); first | done | rfl | (simp only [List.length_drop, List.length_take]; rfl)) ?_; (with_reducible refine (l11_own.calls a0_0 a0_1 _ _ l0_2 t369 t370 t371 _ ?side1 ?side2 ?side3 A24.out).mono ?_); (case side1 => exact hG.below (by repeat (first | (with_reducible first | exact HB.out | apply pbA | apply pbN | apply pb1 | refine pbS ?_ GE365.out) | exact HB.out))); (case side2 => repeat (first | exact (Kd.C_below HR0_2.out HB.out) | (with_reducible refine Kd.C_alloc ?_ _) | (with_reducible refine Kd.C_drewN ?_ _) | (with_reducible refine Kd.C_drew ?_))); (case side3 => exact HC0_2.out); rintro e w35 ⟨v372, rfl, ho0, hb⟩; refine ⟨_, rfl, ?_⟩; have n0_ := Az.mk (Kd.R_lower ho0 (pbZ (by repeat (first | (with_reducible first | exact HB.out | apply pbA | apply pbN | apply pb1 | refine pbS ?_ GE365.out) | exact HB.out)))); have n1_ := Az.mk (bkB (g := gb365) (o := .cells #[.int .i64 a0_0, .int .i64 a0_1, .slice A0_2 l0_2.length c0_2] 24 (0, 0)) (by (with_reducible repeat (first | refine bkN ?_ _ | refine bkD ?_ | refine bkA ?_ _)); exact BK365.out) hb); have n2_ := Az.mk (pbT (by repeat (first | (with_reducible first | exact HB.out | apply pbA | apply pbN | apply pb1 | refine pbS ?_ GE365.out) | exact HB.out)) hb); clear BK365; clear HB; have HO373 := n0_; have BK365 := n1_; have HB := n2_; clear n0_ n1_ n2_; (try clear hb); (try clear hb2); (try clear hk); (try clear hi); (try clear ho0)) | ((with_reducible refine gate_dst (N := 9) rfl ?_); (try (refine gate_guard (by rfl) ?_; dsimp only)); refine box_event ?hg (N := 9) ?hd (cs := #[.int .i64 0, .int .i64 0, .slice none 0 0]) (t := 24) ?hr ?_; (case hd => rfl); (case hg => rfl); (case hr => first | (go_simp; done) | (go_simp; rfl)); intro gb374 hg w36 hbox hb; have n0_ := Az.mk (Kd.R_below (by (with_reducible repeat (first | apply Kd.R_alloc | apply Kd.R_drewN | apply Kd.R_drew)); exact HO373.out) hb); have n1_ := Az.mk (bkB (g := gb365) (o := .cells #[.int .i64 a0_0, .int .i64 a0_1, .slice A0_2 l0_2.length c0_2] 24 (0, 0)) (by (with_reducible repeat (first | refine bkN ?_ _ | refine bkD ?_ | refine bkA ?_ _)); exact BK365.out) hb); have n2_ := Az.mk (pbT (by repeat (first | (with_reducible first | exact HB.out | apply pbA | apply pbN | apply pb1 | refine pbS ?_ GE365.out) | exact HB.out)) hb); have n3_ := Az.mk (hbox); have n4_ := Az.mk ((by rw [hg]; exact (pbZ (by repeat (first | (with_reducible first | exact HB.out | apply pbA | apply pbN | apply pb1 | refine pbS ?_ GE365.out) | exact HB.out))) : w.heap.size ≤ gb374)); have n5_ := Az.mk ((by rw [hg]; exact (pbZ (by repeat (first | (with_reducible first | exact HB.out | apply pbA | apply pbN | apply pb1 | refine pbS ?_ GE365.out) | exact HB.out))) : w.heap.size ≤ gb374)); have n6_ := Az.mk ((by rw [hg]; exact Nat.ne_of_lt (blk_lt (g := gb365) (o := .cells #[.int .i64 a0_0, .int .i64 a0_1, .slice A0_2 l0_2.length c0_2] 24 (0, 0)) (by (with_reducible repeat (first | refine bkN ?_ _ | refine bkD ?_ | refine bkA ?_ _)); exact BK365.out)) : gb365 ≠ gb374)); have n7_ := Az.mk ((by rw [hg]; exact Nat.ne_of_gt (blk_lt (g := gb365) (o := .cells #[.int .i64 a0_0, .int .i64 a0_1, .slice A0_2 l0_2.length c0_2] 24 (0, 0)) (by (with_reducible repeat (first | refine bkN ?_ _ | refine bkD ?_ | refine bkA ?_ _)); exact BK365.out)) : gb374 ≠ gb365)); clear HO373; clear BK365; clear HB; have HO373 := n0_; have BK365 := n1_; have HB := n2_; have BK374 := n3_; have GW374 := n4_; have GE374 := n5_; have NB365_374 := n6_; have NB374_365 := n7_; clear n0_ n1_ n2_ n3_ n4_ n5_ n6_ n7_; clear hb hbox hg; have hnb37 := NB374_365.out; have hnc37 := NB365_374.out; have hcz38_0 : w36.cell? ⟨gb374, 0, none⟩ = some (.int .i64 0) := (bkC BK374.out 0).trans rfl; have hcz38_1 : w36.cell? ⟨gb374, 1, none⟩ = some (.int .i64 0) := (bkC BK374.out 1).trans rfl; have hcz38_2 : w36.cell? ⟨gb374, 2, none⟩ = some (.slice none 0 0) := (bkC BK374.out 2).trans rfl; have hfz38_0 := bkF BK374.out 0; have hfz38_1 := bkF BK374.out 1; have hfz38_2 := bkF BK374.out 2; obtain ⟨Ao39, co39, eo39⟩ := Kd.R_slice HO373.out; subst eo39))
                have n0_ : Az (Kd.R k54 54 (((w36.setCell ⟨gb374, 0, none⟩ (.int .i64 t369)).setCell ⟨gb374, 1, none⟩ (.int .i64 t370)).setCell ⟨gb374, 2, none⟩ (.slice Ao39 t371.length co39)) w.heap.size (fun _ => True) (.slice Ao39 t371.length co39) t371) := ⟨by (with_reducible repeat (first | apply Kd.R_alloc | apply Kd.R_drewN | apply Kd.R_drew)); exact Kd.R_mono (Kd.R_far (p := ⟨gb374, 2, none⟩) (Kd.R_far (p := ⟨gb374, 1, none⟩) (Kd.R_far (p := ⟨gb374, 0, none⟩) (Kd.R_types HO373.out BK374.out (by decide)) (fun _ hk => hk.2) (.int .i64 t369)) (fun _ hk => hk.2) (.int .i64 t370)) (fun _ hk => hk.2) (.slice Ao39 t371.length co39)) (fun _ hk => trivial)⟩
                have n1_ : Az ((((w36.setCell ⟨gb374, 0, none⟩ (.int .i64 t369)).setCell ⟨gb374, 1, none⟩ (.int .i64 t370)).setCell ⟨gb374, 2, none⟩ (.slice Ao39 t371.length co39)).heap[gb365]? = some (.cells #[.int .i64 a0_0, .int .i64 a0_1, .slice A0_2 l0_2.length c0_2] 24 (0, 0))) := ⟨by (with_reducible repeat (first | refine bkN ?_ _ | refine bkD ?_ | refine bkA ?_ _)); refine blk_far ?_ NB365_374.out _; (with_reducible repeat (first | refine bkN ?_ _ | refine bkD ?_ | refine bkA ?_ _)); refine blk_far ?_ NB365_374.out _; (with_reducible repeat (first | refine bkN ?_ _ | refine bkD ?_ | refine bkA ?_ _)); refine blk_far ?_ NB365_374.out _; (with_reducible repeat (first | refine bkN ?_ _ | refine bkD ?_ | refine bkA ?_ _)); exact BK365.out⟩
                have n2_ : Az ((((w36.setCell ⟨gb374, 0, none⟩ (.int .i64 t369)).setCell ⟨gb374, 1, none⟩ (.int .i64 t370)).setCell ⟨gb374, 2, none⟩ (.slice Ao39 t371.length co39)).heap[gb374]? = some (.cells #[.int .i64 t369, .int .i64 t370, .slice Ao39 t371.length co39] 24 (0, 0))) := ⟨by (with_reducible repeat (first | refine bkN ?_ _ | refine bkD ?_ | refine bkA ?_ _)); refine blk_put (cs := #[.int .i64 t369, .int .i64 t370, .slice none 0 0]) ?_ 2 _ rfl; (with_reducible repeat (first | refine bkN ?_ _ | refine bkD ?_ | refine bkA ?_ _)); refine blk_put (cs := #[.int .i64 t369, .int .i64 0, .slice none 0 0]) ?_ 1 _ rfl; (with_reducible repeat (first | refine bkN ?_ _ | refine bkD ?_ | refine bkA ?_ _)); refine blk_put (cs := #[.int .i64 0, .int .i64 0, .slice none 0 0]) ?_ 0 _ rfl; (with_reducible repeat (first | refine bkN ?_ _ | refine bkD ?_ | refine bkA ?_ _)); exact BK374.out⟩
                have n3_ : Az (Below w.heap.size w (((w36.setCell ⟨gb374, 0, none⟩ (.int .i64 t369)).setCell ⟨gb374, 1, none⟩ (.int .i64 t370)).setCell ⟨gb374, 2, none⟩ (.slice Ao39 t371.length co39))) := ⟨by repeat (first | (with_reducible first | exact HB.out | apply pbA | apply pbN | apply pb1 | refine pbS ?_ GE365.out | refine pbS ?_ GE374.out) | exact HB.out)⟩
                (try clear HO373)
                (try clear BK365)
                (try clear BK374)
                (try clear HB)
                generalize (((w36.setCell ⟨gb374, 0, none⟩ (.int .i64 t369)).setCell ⟨gb374, 1, none⟩ (.int .i64 t370)).setCell ⟨gb374, 2, none⟩ (.slice Ao39 t371.length co39)) = w40 at n0_ n1_ n2_ n3_ ⊢
                have HO373 := n0_
                have BK365 := n1_
                have BK374 := n2_
                have HB := n3_
                clear n0_ n1_ n2_ n3_
                have n0_ := Az.mk (Kd.R_drew HO373.out)
                have n1_ := Az.mk (bkD BK365.out)
                have n2_ := Az.mk (bkD BK374.out)
                have n3_ := Az.mk (pb1 HB.out)
                clear HO373
                clear BK365
                clear BK374
                clear HB
                have HO373 := n0_
                have BK365 := n1_
                have BK374 := n2_
                have HB := n3_
                clear n0_ n1_ n2_ n3_
                refine start_ (n := 13) (S := fun w' => w'.cell? ⟨gb374, 0, none⟩ = some (.int .i64 t369) ∧ w'.cell? ⟨gb374, 1, none⟩ = some (.int .i64 t370) ∧ w'.cell? ⟨gb374, 2, none⟩ = some (.slice Ao39 t371.length co39)) (ds := []) #[false, false, false, false, false, false, false, false, false, false, false, false, false] (by kernel_rfl) rfl rfl ⟨(bkC BK374.out 0).trans rfl, (bkC BK374.out 1).trans rfl, (bkC BK374.out 2).trans rfl⟩ (fun hHeld => ?_); refine with_tabW l11_RollMerges.tab4 l11_RollMerges.bits4 (fun HT_ HW_ => ?_)
                generalize w40.drew = w41 at HO373 BK365 BK374 HB hHeld ⊢
                refine pure_ (i := 1) (N := some 32) (v := ?_) (a' := ?_) #[false, true, false, false, false, false, false, false, false, false, false, false, false] rfl rfl (any_of HT_.out (by kernel_rfl)) (fun _ _ _ h => h) (Or.inl ⟨by rfl, ?_⟩) ?_ ?_
                rotate_left
                · intro w'
                  go_simp
                  with_reducible rfl
                rotate_left
                · simp only [Act.put, List.setIfInBounds_toArray, List.set_cons_zero, List.set_cons_succ, i64_w, i32_w]
                  rfl
                refine pure_ (i := 2) (N := some 33) (v := ?_) (a' := ?_) #[false, true, true, false, false, false, false, false, false, false, false, false, false] rfl rfl (any_of HT_.out (by kernel_rfl)) (fun _ _ _ h => h) (Or.inl ⟨by rfl, ?_⟩) ?_ ?_
                rotate_left
                · intro w'
                  go_simp
                  with_reducible rfl
                rotate_left
                · simp only [Act.put, List.setIfInBounds_toArray, List.set_cons_zero, List.set_cons_succ, i64_w, i32_w]
                  rfl
                refine pure_ (i := 4) (N := some 35) (v := ?_) (a' := ?_) #[false, true, true, false, true, false, false, false, false, false, false, false, false] rfl rfl (any_of HT_.out (by kernel_rfl)) (fun _ _ _ h => h) (Or.inl ⟨by rfl, ?_⟩) ?_ ?_
                rotate_left
                · intro w'
                  go_simp
                  with_reducible rfl
                rotate_left
                · simp only [Act.put, List.setIfInBounds_toArray, List.set_cons_zero, List.set_cons_succ, i64_w, i32_w]
                  rfl
                refine take_ (i := 0) (N := some 31) (v := ?_) (a' := ?_) #[true, true, true, false, true, false, false, false, false, false, false, false, false] rfl rfl (take_ofW HT_.out HW_.out (by kernel_rfl)) (fun _ _ _ h => h) (Or.inl ⟨by rfl, ?_⟩) hHeld ?_ ?_
                rotate_left
                · rintro w' ⟨s0, s1, s2⟩
                  go_simp
                  with_reducible rfl
                rotate_left
                · simp only [Act.put, List.setIfInBounds_toArray, List.set_cons_zero, List.set_cons_succ, i64_w, i32_w]
                  rfl
                refine join_ (σ := Value × Value × Value × Nat) 2 #[true, true, true, true, true, true, true, true, true, true, true, false, false] (fun s_ => [(34, s_.1), (36, s_.2.1), (37, .tuple #[.agg #[.int .i64 t381, .int .i64 t382, s_.2.2.1], .bool t386]), (10, .pointer (some ⟨s_.2.2.2, 0, none⟩)), (30, .tuple #[.agg #[.int .i64 t381, .int .i64 t382, s_.2.2.1], .bool t386]), (38, .agg #[.int .i64 t381, .int .i64 t382, s_.2.2.1]), (39, .bool t386)]) (fun s_ w' => (w'.cell? ⟨gb374, 0, none⟩ = some (.int .i64 t369) ∧ w'.cell? ⟨gb374, 1, none⟩ = some (.int .i64 t370) ∧ w'.cell? ⟨gb374, 2, none⟩ = some (.slice Ao39 t371.length co39)) ∧ (Kd.R k54 54 w' w.heap.size (fun k_ => some k_ ≠ (s_.2.1 : Value).ownBlock) (.slice Ao39 t371.length co39) t371) ∧ (Kd.R k54 54 w' w.heap.size (fun k_ => some k_ ≠ (.slice Ao39 t371.length co39 : Value).ownBlock) s_.2.1 y378) ∧ (Kd.V k54 54 w' w.heap.size (fun k_ => some k_ ≠ (s_.2.1 : Value).ownBlock ∧ k_ ≠ gb365 ∧ k_ ≠ gb374 ∧ k_ ≠ s_.2.2.2) s_.2.2.1 t383) ∧ (w'.heap[gb365]? = some (.cells #[.int .i64 a0_0, .int .i64 a0_1, .slice A0_2 l0_2.length c0_2] 24 (0, 0))) ∧ (w'.heap[gb374]? = some (.cells #[.int .i64 t369, .int .i64 t370, .slice Ao39 t371.length co39] 24 (0, 0))) ∧ (w'.heap[s_.2.2.2]? = some (.cells #[.int .i64 0, .int .i64 0, .slice none 0 0] 24 (0, 0))) ∧ (w.heap.size ≤ s_.2.2.2) ∧ (w.heap.size ≤ s_.2.2.2) ∧ (gb365 ≠ s_.2.2.2) ∧ (s_.2.2.2 ≠ gb365) ∧ (gb374 ≠ s_.2.2.2) ∧ (s_.2.2.2 ≠ gb374) ∧ (Below w.heap.size w w')) ?_ ?_
                rotate_left
                · intro hCont
                  refine two_ (i := 3) (j := 10) (Ni := some 34) (Nj := some 10) #[true, true, true, true, true, false, false, false, false, false, false, false, false] #[true, true, true, false, true, false, false, false, false, false, true, false, false] rfl rfl rfl rfl (two_of HT_.out (by kernel_rfl)) (by decide) (by decide) (fun K hK => ?_) (fun K hK => ?_)
                  · skip
                    refine Kd.R_lit_step k54 _ 54 ?hg (N := 34) ?hd (xs := ([] : List (S54))) (inner := []) (ok := fun _ => True) (okp := fun _ => True) ?hr ?hp (fun _ hk => hk) trivial (Below.refl _ _) (Nat.le_refl _) (by simp) ?_; (case hd => rfl); (case hg => rfl); (case hr => first | (go_simp; done) | (go_simp; rfl)); (case hp => exact (Reps.none _ _))
                    intro v376 w42 ho43 hb hg_ hnew_
                    clear hg_ hnew_
                    (first | rw [← Ny375.out] at ho43 | (simp only [Int.reduceToNat] at ho43; rw [← Ny375.out] at ho43))
                    have n0_ := Az.mk (Kd.R_elder' (by (with_reducible repeat (first | apply Kd.R_alloc | apply Kd.R_drewN | apply Kd.R_drew)); exact HO373.out) (Kd.R_base ho43) hb)
                    have n1_ := Az.mk (Kd.R_lower (Kd.R_new' ho43 (Kd.R_lt (by (with_reducible repeat (first | apply Kd.R_alloc | apply Kd.R_drewN | apply Kd.R_drew)); exact HO373.out))) (pbZ (by repeat (first | (with_reducible first | exact HB.out | apply pbA | apply pbN | apply pb1 | refine pbS ?_ GE365.out | refine pbS ?_ GE374.out) | exact HB.out))))
                    have n2_ := Az.mk (bkB (g := gb365) (o := .cells #[.int .i64 a0_0, .int .i64 a0_1, .slice A0_2 l0_2.length c0_2] 24 (0, 0)) (by (with_reducible repeat (first | refine bkN ?_ _ | refine bkD ?_ | refine bkA ?_ _)); exact BK365.out) hb)
                    have n3_ := Az.mk (bkB (g := gb374) (o := .cells #[.int .i64 t369, .int .i64 t370, .slice Ao39 t371.length co39] 24 (0, 0)) (by (with_reducible repeat (first | refine bkN ?_ _ | refine bkD ?_ | refine bkA ?_ _)); exact BK374.out) hb)
                    have n4_ := Az.mk (pbT (by repeat (first | (with_reducible first | exact HB.out | apply pbA | apply pbN | apply pb1 | refine pbS ?_ GE365.out | refine pbS ?_ GE374.out) | exact HB.out)) hb)
                    clear HO373
                    clear BK365
                    clear BK374
                    clear HB
                    have HO373 := n0_
                    have HO377 := n1_
                    have BK365 := n2_
                    have BK374 := n3_
                    have HB := n4_
                    clear n0_ n1_ n2_ n3_ n4_
                    clear hb ho43
                    refine hK.out _ _ ⟨(bkC BK374.out 0).trans rfl, (bkC BK374.out 1).trans rfl, (bkC BK374.out 2).trans rfl⟩ (fun hHeld => ?_)
                    clear hK K
                    refine norm_ (a' := ?_) ?_ ?_
                    rotate_left
                    · show Act.put _ (some 34) _ = _
                      simp only [Act.put, List.setIfInBounds_toArray, List.set_cons_zero, List.set_cons_succ, i64_w, i32_w]
                      rfl
                    refine two_ (i := 5) (j := 10) (Ni := some 36) (Nj := some 10) #[true, true, true, true, true, true, false, false, false, false, false, false, false] #[true, true, true, true, true, false, false, false, false, false, true, false, false] rfl rfl rfl rfl (two_of HT_.out (by kernel_rfl)) (by decide) (by decide) (fun K hK => ?_) (fun K hK => ?_)
                    · skip
                      refine Kd.R_append_rows_step k54 (w0 := w) w.heap.size (by rfl) (.tmp 34) (.tmp 35) 22 54 (.agg #[(.int .i64 0), (.string ⟨#[]⟩)]) 24 rfl Tryd.underlying22 info54 rfl (by decide) (by omega) v376 y375 l3 _ _ _ (fun k_ => some k_ ≠ (.slice Ao39 t371.length co39 : Value).ownBlock) (fun _ => False) rfl rfl ?aO ?aR (fun _ _ h => h) (fun _ h => h.elim) ?aF ?aB ?aS ?aL ?_
                      (case aR => repeat (first | exact (Kd.C_below HR3.out HB.out) | (with_reducible refine Kd.C_alloc ?_ _) | (with_reducible refine Kd.C_drewN ?_ _) | (with_reducible refine Kd.C_drew ?_)))
                      (case aB => exact (by repeat (first | (with_reducible first | exact HB.out | apply pbA | apply pbN | apply pb1 | refine pbS ?_ GE365.out | refine pbS ?_ GE374.out) | exact HB.out)))
                      (case aF => exact (fun k_ hk => Kd.fresh' (Kd.R_lt (by (with_reducible repeat (first | apply Kd.R_alloc | apply Kd.R_drewN | apply Kd.R_drew)); exact HO373.out)) k_ hk))
                      (case aO => exact (by (with_reducible repeat (first | apply Kd.R_alloc | apply Kd.R_drewN | apply Kd.R_drew)); exact Kd.R_mono HO377.out (fun _ hk => hk.2)))
                      (case aS => exact (pbZ (by repeat (first | (with_reducible first | exact HB.out | apply pbA | apply pbN | apply pb1 | refine pbS ?_ GE365.out | refine pbS ?_ GE374.out) | exact HB.out))))
                      (case aL => have := LMc25.out; omega)
                      intro v379 w44 ho hb hg hat
                      rw [← Ny378.out] at ho
                      have n0_ := Az.mk (blk_grown (g := gb365) (o := .cells #[.int .i64 a0_0, .int .i64 a0_1, .slice A0_2 l0_2.length c0_2] 24 (0, 0)) (by (with_reducible repeat (first | refine bkN ?_ _ | refine bkD ?_ | refine bkA ?_ _)); exact BK365.out) hg (Kd.R_ne HO377.out BK365.out (by decide)))
                      have n1_ := Az.mk (Kd.R_after (ok := (fun _ => True)) (by (with_reducible repeat (first | apply Kd.R_alloc | apply Kd.R_drewN | apply Kd.R_drew)); exact HO373.out) hg hat)
                      have n2_ := Az.mk (blk_grown (g := gb374) (o := .cells #[.int .i64 t369, .int .i64 t370, .slice Ao39 t371.length co39] 24 (0, 0)) (by (with_reducible repeat (first | refine bkN ?_ _ | refine bkD ?_ | refine bkA ?_ _)); exact BK374.out) hg (Kd.R_ne HO377.out BK374.out (by decide)))
                      have n3_ := Az.mk (hb)
                      have n4_ := Az.mk (ho)
                      clear BK365
                      clear HO373
                      clear BK374
                      clear HB
                      clear HO377
                      have BK365 := n0_
                      have HO373 := n1_
                      have BK374 := n2_
                      have HB := n3_
                      have HO380 := n4_
                      clear n0_ n1_ n2_ n3_ n4_
                      clear ho hb hg hat
                      obtain ⟨Ao45, co45, eo45⟩ := Kd.R_slice HO380.out
                      (first | subst eo45 | (injection eo45 with f1_ f2_ f3_; have f4_ := f1_.symm; have f5_ := f3_.symm; clear f1_ f2_ f3_; subst f4_; subst f5_))
                      refine hK.out _ _ ⟨(bkC BK374.out 0).trans rfl, (bkC BK374.out 1).trans rfl, (bkC BK374.out 2).trans rfl⟩ (fun hHeld => ?_)
                      clear hK K
                      refine norm_ (a' := ?_) ?_ ?_
                      rotate_left
                      · show Act.put _ (some 36) _ = _
                        simp only [Act.put, List.setIfInBounds_toArray, List.set_cons_zero, List.set_cons_succ, i64_w, i32_w]
                        rfl
                      refine two_ (i := 6) (j := 10) (Ni := some 37) (Nj := some 10) #[true, true, true, true, true, true, true, false, false, false, false, false, false] #[true, true, true, true, true, true, false, false, false, false, true, false, false] rfl rfl rfl rfl (two_of HT_.out (by kernel_rfl)) (by decide) (by decide) (fun K hK => ?_) (fun K hK => ?_)
                      · skip
                        refine goes_ Tryd.func19 (by kernel_rfl) rfl #[.agg #[.int .i64 t369, .int .i64 t370, .slice Ao39 t371.length co39], .int .i64 a1, .int .i64 a2, .slice Ao45 y378.length co45] (by rfl) rfl rfl (by (try simp only [List.map_toArray, List.map_cons, List.map_nil]); first | done | rfl | (simp only [List.length_drop, List.length_take]; rfl)) ?_
                        with_reducible refine (roll_Merge.calls t369 t370 (fun k_ => some k_ = (.slice Ao39 t371.length co39 : Value).ownBlock) _ _ t371 a1 a2 _ _ y378 t381 t382 t383 t386 _ ?side1 ?side2 ?side3 ?side4 A26.out).mono ?_
                        (case side1 => exact hG.below (by repeat (first | (with_reducible first | exact HB.out | apply pbA | apply pbN | apply pb1 | refine pbS ?_ GE365.out | refine pbS ?_ GE374.out) | exact HB.out)))
                        (case side2 => exact Kd.R_V (Kd.R_tight rfl (Kd.R_types (Kd.R_types (HO373.out) BK365.out (by decide)) BK374.out (by decide))))
                        (case side3 => repeat (first | exact (Kd.R_reads' HO380.out).2.2 | (with_reducible refine Kd.C_alloc ?_ _) | (with_reducible refine Kd.C_drewN ?_ _) | (with_reducible refine Kd.C_drew ?_)))
                        (case side4 => exact (Kd.R_reads' HO380.out).2.1)
                        rintro e w46 ⟨v384, rfl, ho0, hb⟩
                        refine ⟨_, rfl, ?_⟩
                        have n0_ := Az.mk (Kd.R_below (by (with_reducible repeat (first | apply Kd.R_alloc | apply Kd.R_drewN | apply Kd.R_drew)); exact HO373.out) hb)
                        have n1_ := Az.mk (Kd.R_below (by (with_reducible repeat (first | apply Kd.R_alloc | apply Kd.R_drewN | apply Kd.R_drew)); exact HO380.out) hb)
                        have n2_ := Az.mk (Kd.V_lower (Kd.V_mono (ok' := fun k_ => some k_ ≠ (.slice Ao45 y378.length co45 : Value).ownBlock ∧ k_ ≠ gb365 ∧ k_ ≠ gb374) ho0 (fun k_ hk_ => ⟨Or.elim hk_ (fun hs_ => ((Kd.R_types (Kd.R_types (HO373.out) BK365.out (by decide)) BK374.out (by decide)).1 k_ hs_.symm).1.1.2) (fun hn_ => (Kd.fresh' (Kd.R_lt (by (with_reducible repeat (first | apply Kd.R_alloc | apply Kd.R_drewN | apply Kd.R_drew)); exact HO380.out)) k_ hn_)), Or.elim hk_ (fun hs_ => ((Kd.R_types (Kd.R_types (HO373.out) BK365.out (by decide)) BK374.out (by decide)).1 k_ hs_.symm).1.2) (fun hn_ => (Kd.freshB (g := gb365) (o := .cells #[.int .i64 a0_0, .int .i64 a0_1, .slice A0_2 l0_2.length c0_2] 24 (0, 0)) (by (with_reducible repeat (first | refine bkN ?_ _ | refine bkD ?_ | refine bkA ?_ _)); exact BK365.out) k_ hn_)), Or.elim hk_ (fun hs_ => ((Kd.R_types (Kd.R_types (HO373.out) BK365.out (by decide)) BK374.out (by decide)).1 k_ hs_.symm).2) (fun hn_ => (Kd.freshB (g := gb374) (o := .cells #[.int .i64 t369, .int .i64 t370, .slice Ao39 t371.length co39] 24 (0, 0)) (by (with_reducible repeat (first | refine bkN ?_ _ | refine bkD ?_ | refine bkA ?_ _)); exact BK374.out) k_ hn_))⟩)) (pbZ (by repeat (first | (with_reducible first | exact HB.out | apply pbA | apply pbN | apply pb1 | refine pbS ?_ GE365.out | refine pbS ?_ GE374.out) | exact HB.out))))
                        have n3_ := Az.mk (bkB (g := gb365) (o := .cells #[.int .i64 a0_0, .int .i64 a0_1, .slice A0_2 l0_2.length c0_2] 24 (0, 0)) (by (with_reducible repeat (first | refine bkN ?_ _ | refine bkD ?_ | refine bkA ?_ _)); exact BK365.out) hb)
                        have n4_ := Az.mk (bkB (g := gb374) (o := .cells #[.int .i64 t369, .int .i64 t370, .slice Ao39 t371.length co39] 24 (0, 0)) (by (with_reducible repeat (first | refine bkN ?_ _ | refine bkD ?_ | refine bkA ?_ _)); exact BK374.out) hb)
                        have n5_ := Az.mk (pbT (by repeat (first | (with_reducible first | exact HB.out | apply pbA | apply pbN | apply pb1 | refine pbS ?_ GE365.out | refine pbS ?_ GE374.out) | exact HB.out)) hb)
                        clear HO373
                        clear HO380
                        clear BK365
                        clear BK374
                        clear HB
                        have HO373 := n0_
                        have HO380 := n1_
                        have HO385 := n2_
                        have BK365 := n3_
                        have BK374 := n4_
                        have HB := n5_
                        clear n0_ n1_ n2_ n3_ n4_ n5_
                        (try clear hb)
                        (try clear hb2)
                        (try clear hk)
                        (try clear hi)
                        (try clear ho0)
                        refine hK.out _ _ ⟨(bkC BK374.out 0).trans rfl, (bkC BK374.out 1).trans rfl, (bkC BK374.out 2).trans rfl⟩ (fun hHeld => ?_)
                        clear hK K
                        refine norm_ (a' := ?_) ?_ ?_
                        rotate_left
                        · show Act.put _ (some 37) _ = _
                          simp only [Act.put, List.setIfInBounds_toArray, List.set_cons_zero, List.set_cons_succ, i64_w, i32_w]
                          rfl
                        refine pure_ (i := 7) (N := some 30) (v := ?_) (a' := ?_) #[true, true, true, true, true, true, true, true, false, false, false, false, false] rfl rfl (any_of HT_.out (by kernel_rfl)) (fun _ _ _ h => h) (Or.inl ⟨by rfl, ?_⟩) ?_ ?_
                        rotate_left
                        · intro w'
                          go_simp
                          with_reducible rfl
                        rotate_left
                        · simp only [Act.put, List.setIfInBounds_toArray, List.set_cons_zero, List.set_cons_succ, i64_w, i32_w]
                          rfl
                        refine pure_ (i := 8) (N := some 38) (v := ?_) (a' := ?_) #[true, true, true, true, true, true, true, true, true, false, false, false, false] rfl rfl (any_of HT_.out (by kernel_rfl)) (fun _ _ _ h => h) (Or.inl ⟨by rfl, ?_⟩) ?_ ?_
                        rotate_left
                        · intro w'
                          go_simp
                          with_reducible rfl
                        rotate_left
                        · simp only [Act.put, List.setIfInBounds_toArray, List.set_cons_zero, List.set_cons_succ, i64_w, i32_w]
                          rfl
                        refine pure_ (i := 9) (N := some 39) (v := ?_) (a' := ?_) #[true, true, true, true, true, true, true, true, true, true, false, false, false] rfl rfl (any_of HT_.out (by kernel_rfl)) (fun _ _ _ h => h) (Or.inl ⟨by rfl, ?_⟩) ?_ ?_
                        rotate_left
                        · intro w'
                          go_simp
                          with_reducible rfl
                        rotate_left
                        · simp only [Act.put, List.setIfInBounds_toArray, List.set_cons_zero, List.set_cons_succ, i64_w, i32_w]
                          rfl
                        refine one_ (i := 10) (N := some 10) #[true, true, true, true, true, true, true, true, true, true, true, false, false] rfl rfl (one_of HT_.out (by kernel_rfl)) (by decide) (fun K hK => ?_)
                        refine box_step ?hg (N := 10) ?hd (cs := #[.int .i64 0, .int .i64 0, .slice none 0 0]) (t := 24) ?hr ?_; (case hd => rfl); (case hg => rfl); (case hr => first | (go_simp; done) | (go_simp; rfl))
                        intro gb387 hg w47 hbox hb
                        have n0_ := Az.mk (Kd.R_below (by (with_reducible repeat (first | apply Kd.R_alloc | apply Kd.R_drewN | apply Kd.R_drew)); exact HO373.out) hb)
                        have n1_ := Az.mk (Kd.R_below (by (with_reducible repeat (first | apply Kd.R_alloc | apply Kd.R_drewN | apply Kd.R_drew)); exact HO380.out) hb)
                        have n2_ := Az.mk (Kd.V_below (Kd.V_elderB (by (with_reducible repeat (first | apply Kd.V_alloc | apply Kd.V_drewN | apply Kd.V_drew)); exact HO385.out) gb387 (Nat.le_of_eq hg.symm)) hb)
                        have n3_ := Az.mk (bkB (g := gb365) (o := .cells #[.int .i64 a0_0, .int .i64 a0_1, .slice A0_2 l0_2.length c0_2] 24 (0, 0)) (by (with_reducible repeat (first | refine bkN ?_ _ | refine bkD ?_ | refine bkA ?_ _)); exact BK365.out) hb)
                        have n4_ := Az.mk (bkB (g := gb374) (o := .cells #[.int .i64 t369, .int .i64 t370, .slice Ao39 t371.length co39] 24 (0, 0)) (by (with_reducible repeat (first | refine bkN ?_ _ | refine bkD ?_ | refine bkA ?_ _)); exact BK374.out) hb)
                        have n5_ := Az.mk (pbT (by repeat (first | (with_reducible first | exact HB.out | apply pbA | apply pbN | apply pb1 | refine pbS ?_ GE365.out | refine pbS ?_ GE374.out) | exact HB.out)) hb)
                        have n6_ := Az.mk (hbox)
                        have n7_ := Az.mk ((by rw [hg]; exact (pbZ (by repeat (first | (with_reducible first | exact HB.out | apply pbA | apply pbN | apply pb1 | refine pbS ?_ GE365.out | refine pbS ?_ GE374.out) | exact HB.out))) : w.heap.size ≤ gb387))
                        have n8_ := Az.mk ((by rw [hg]; exact (pbZ (by repeat (first | (with_reducible first | exact HB.out | apply pbA | apply pbN | apply pb1 | refine pbS ?_ GE365.out | refine pbS ?_ GE374.out) | exact HB.out))) : w.heap.size ≤ gb387))
                        have n9_ := Az.mk ((by rw [hg]; exact Nat.ne_of_lt (blk_lt (g := gb365) (o := .cells #[.int .i64 a0_0, .int .i64 a0_1, .slice A0_2 l0_2.length c0_2] 24 (0, 0)) (by (with_reducible repeat (first | refine bkN ?_ _ | refine bkD ?_ | refine bkA ?_ _)); exact BK365.out)) : gb365 ≠ gb387))
                        have n10_ := Az.mk ((by rw [hg]; exact Nat.ne_of_gt (blk_lt (g := gb365) (o := .cells #[.int .i64 a0_0, .int .i64 a0_1, .slice A0_2 l0_2.length c0_2] 24 (0, 0)) (by (with_reducible repeat (first | refine bkN ?_ _ | refine bkD ?_ | refine bkA ?_ _)); exact BK365.out)) : gb387 ≠ gb365))
                        have n11_ := Az.mk ((by rw [hg]; exact Nat.ne_of_lt (blk_lt (g := gb374) (o := .cells #[.int .i64 t369, .int .i64 t370, .slice Ao39 t371.length co39] 24 (0, 0)) (by (with_reducible repeat (first | refine bkN ?_ _ | refine bkD ?_ | refine bkA ?_ _)); exact BK374.out)) : gb374 ≠ gb387))
                        have n12_ := Az.mk ((by rw [hg]; exact Nat.ne_of_gt (blk_lt (g := gb374) (o := .cells #[.int .i64 t369, .int .i64 t370, .slice Ao39 t371.length co39] 24 (0, 0)) (by (with_reducible repeat (first | refine bkN ?_ _ | refine bkD ?_ | refine bkA ?_ _)); exact BK374.out)) : gb387 ≠ gb374))
                        clear HO373
                        clear HO380
                        clear HO385
                        clear BK365
                        clear BK374
                        clear HB
                        have HO373 := n0_
                        have HO380 := n1_
                        have HO385 := n2_
                        have BK365 := n3_
                        have BK374 := n4_
                        have HB := n5_
                        have BK387 := n6_
                        have GW387 := n7_
                        have GE387 := n8_
                        have NB365_387 := n9_
                        have NB387_365 := n10_
                        have NB374_387 := n11_
                        have NB387_374 := n12_
                        clear n0_ n1_ n2_ n3_ n4_ n5_ n6_ n7_ n8_ n9_ n10_ n11_ n12_
                        clear hb hbox hg
                        refine hK.out _ _ ⟨(bkC BK374.out 0).trans rfl, (bkC BK374.out 1).trans rfl, (bkC BK374.out 2).trans rfl⟩ (fun hHeld => ?_)
                        clear hK K
                        refine norm_ (a' := ?_) ?_ ?_
                        rotate_left
                        · show Act.put _ (some 10) _ = _
                          simp only [Act.put, List.setIfInBounds_toArray, List.set_cons_zero, List.set_cons_succ, i64_w, i32_w]
                          rfl
                        exact norm_ (by simp only [putAll, Act.put, List.setIfInBounds_toArray, List.set_cons_zero, List.set_cons_succ]) (hCont (v376, .slice Ao45 y378.length co45, v384, gb387) _ ⟨hHeld, (by (with_reducible repeat (first | apply Kd.R_alloc | apply Kd.R_drewN | apply Kd.R_drew)); exact Kd.R_mono HO373.out (fun _ hk => hk.2)), (by (with_reducible repeat (first | apply Kd.R_alloc | apply Kd.R_drewN | apply Kd.R_drew)); exact HO380.out), (by (with_reducible repeat (first | apply Kd.V_alloc | apply Kd.V_drewN | apply Kd.V_drew)); exact Kd.V_mono HO385.out (fun _ hk => ⟨hk.1.1, ⟨hk.1.2.1, ⟨hk.1.2.2, hk.2⟩⟩⟩)), (by (with_reducible repeat (first | refine bkN ?_ _ | refine bkD ?_ | refine bkA ?_ _)); exact BK365.out), (by (with_reducible repeat (first | refine bkN ?_ _ | refine bkD ?_ | refine bkA ?_ _)); exact BK374.out), (by (with_reducible repeat (first | refine bkN ?_ _ | refine bkD ?_ | refine bkA ?_ _)); exact BK387.out), GW387.out, GE387.out, NB365_387.out, NB387_365.out, NB374_387.out, NB387_374.out, (by repeat (first | (with_reducible first | exact HB.out | apply pbA | apply pbN | apply pb1 | refine pbS ?_ GE365.out | refine pbS ?_ GE374.out | refine pbS ?_ GE387.out) | exact HB.out))⟩)
                      · skip
                        refine box_step ?hg (N := 10) ?hd (cs := #[.int .i64 0, .int .i64 0, .slice none 0 0]) (t := 24) ?hr ?_; (case hd => rfl); (case hg => rfl); (case hr => first | (go_simp; done) | (go_simp; rfl))
                        intro gb387 hg w45 hbox hb
                        have n0_ := Az.mk (Kd.R_below (by (with_reducible repeat (first | apply Kd.R_alloc | apply Kd.R_drewN | apply Kd.R_drew)); exact HO373.out) hb)
                        have n1_ := Az.mk (Kd.R_below (by (with_reducible repeat (first | apply Kd.R_alloc | apply Kd.R_drewN | apply Kd.R_drew)); exact HO380.out) hb)
                        have n2_ := Az.mk (bkB (g := gb365) (o := .cells #[.int .i64 a0_0, .int .i64 a0_1, .slice A0_2 l0_2.length c0_2] 24 (0, 0)) (by (with_reducible repeat (first | refine bkN ?_ _ | refine bkD ?_ | refine bkA ?_ _)); exact BK365.out) hb)
                        have n3_ := Az.mk (bkB (g := gb374) (o := .cells #[.int .i64 t369, .int .i64 t370, .slice Ao39 t371.length co39] 24 (0, 0)) (by (with_reducible repeat (first | refine bkN ?_ _ | refine bkD ?_ | refine bkA ?_ _)); exact BK374.out) hb)
                        have n4_ := Az.mk (pbT (by repeat (first | (with_reducible first | exact HB.out | apply pbA | apply pbN | apply pb1 | refine pbS ?_ GE365.out | refine pbS ?_ GE374.out) | exact HB.out)) hb)
                        have n5_ := Az.mk (hbox)
                        have n6_ := Az.mk ((by rw [hg]; exact (pbZ (by repeat (first | (with_reducible first | exact HB.out | apply pbA | apply pbN | apply pb1 | refine pbS ?_ GE365.out | refine pbS ?_ GE374.out) | exact HB.out))) : w.heap.size ≤ gb387))
                        have n7_ := Az.mk ((by rw [hg]; exact (pbZ (by repeat (first | (with_reducible first | exact HB.out | apply pbA | apply pbN | apply pb1 | refine pbS ?_ GE365.out | refine pbS ?_ GE374.out) | exact HB.out))) : w.heap.size ≤ gb387))
                        have n8_ := Az.mk ((by rw [hg]; exact Nat.ne_of_lt (blk_lt (g := gb365) (o := .cells #[.int .i64 a0_0, .int .i64 a0_1, .slice A0_2 l0_2.length c0_2] 24 (0, 0)) (by (with_reducible repeat (first | refine bkN ?_ _ | refine bkD ?_ | refine bkA ?_ _)); exact BK365.out)) : gb365 ≠ gb387))
                        have n9_ := Az.mk ((by rw [hg]; exact Nat.ne_of_gt (blk_lt (g := gb365) (o := .cells #[.int .i64 a0_0, .int .i64 a0_1, .slice A0_2 l0_2.length c0_2] 24 (0, 0)) (by (with_reducible repeat (first | refine bkN ?_ _ | refine bkD ?_ | refine bkA ?_ _)); exact BK365.out)) : gb387 ≠ gb365))
                        have n10_ := Az.mk ((by rw [hg]; exact Nat.ne_of_lt (blk_lt (g := gb374) (o := .cells #[.int .i64 t369, .int .i64 t370, .slice Ao39 t371.length co39] 24 (0, 0)) (by (with_reducible repeat (first | refine bkN ?_ _ | refine bkD ?_ | refine bkA ?_ _)); exact BK374.out)) : gb374 ≠ gb387))
                        have n11_ := Az.mk ((by rw [hg]; exact Nat.ne_of_gt (blk_lt (g := gb374) (o := .cells #[.int .i64 t369, .int .i64 t370, .slice Ao39 t371.length co39] 24 (0, 0)) (by (with_reducible repeat (first | refine bkN ?_ _ | refine bkD ?_ | refine bkA ?_ _)); exact BK374.out)) : gb387 ≠ gb374))
                        clear HO373
                        clear HO380
                        clear BK365
                        clear BK374
                        clear HB
                        have HO373 := n0_
                        have HO380 := n1_
                        have BK365 := n2_
                        have BK374 := n3_
                        have HB := n4_
                        have BK387 := n5_
                        have GW387 := n6_
                        have GE387 := n7_
                        have NB365_387 := n8_
                        have NB387_365 := n9_
                        have NB374_387 := n10_
                        have NB387_374 := n11_
                        clear n0_ n1_ n2_ n3_ n4_ n5_ n6_ n7_ n8_ n9_ n10_ n11_
                        clear hb hbox hg
                        obtain ⟨Ao46, co46, eo46⟩ := Kd.R_slice HO380.out
                        (first | subst eo46 | (injection eo46 with f1_ f2_ f3_; have f4_ := f1_.symm; have f5_ := f3_.symm; clear f1_ f2_ f3_; subst f4_; subst f5_))
                        refine hK.out _ _ ⟨(bkC BK374.out 0).trans rfl, (bkC BK374.out 1).trans rfl, (bkC BK374.out 2).trans rfl⟩ (fun hHeld => ?_)
                        clear hK K
                        refine norm_ (a' := ?_) ?_ ?_
                        rotate_left
                        · show Act.put _ (some 10) _ = _
                          simp only [Act.put, List.setIfInBounds_toArray, List.set_cons_zero, List.set_cons_succ, i64_w, i32_w]
                          rfl
                        refine one_ (i := 6) (N := some 37) #[true, true, true, true, true, true, true, false, false, false, true, false, false] rfl rfl (one_of HT_.out (by kernel_rfl)) (by decide) (fun K hK => ?_)
                        refine goes_ Tryd.func19 (by kernel_rfl) rfl #[.agg #[.int .i64 t369, .int .i64 t370, .slice Ao39 t371.length co39], .int .i64 a1, .int .i64 a2, .slice Ao46 y378.length co46] (by rfl) rfl rfl (by (try simp only [List.map_toArray, List.map_cons, List.map_nil]); first | done | rfl | (simp only [List.length_drop, List.length_take]; rfl)) ?_
                        with_reducible refine (roll_Merge.calls t369 t370 (fun k_ => some k_ = (.slice Ao39 t371.length co39 : Value).ownBlock) _ _ t371 a1 a2 _ _ y378 t381 t382 t383 t386 _ ?side1 ?side2 ?side3 ?side4 A26.out).mono ?_
                        (case side1 => exact hG.below (by repeat (first | (with_reducible first | exact HB.out | apply pbA | apply pbN | apply pb1 | refine pbS ?_ GE365.out | refine pbS ?_ GE374.out | refine pbS ?_ GE387.out) | exact HB.out)))
                        (case side2 => exact Kd.R_V (Kd.R_tight rfl (Kd.R_types (Kd.R_types (Kd.R_types (HO373.out) BK365.out (by decide)) BK374.out (by decide)) BK387.out (by decide))))
                        (case side3 => repeat (first | exact (Kd.R_reads' HO380.out).2.2 | (with_reducible refine Kd.C_alloc ?_ _) | (with_reducible refine Kd.C_drewN ?_ _) | (with_reducible refine Kd.C_drew ?_)))
                        (case side4 => exact (Kd.R_reads' HO380.out).2.1)
                        rintro e w47 ⟨v384, rfl, ho0, hb⟩
                        refine ⟨_, rfl, ?_⟩
                        have n0_ := Az.mk (Kd.R_below (by (with_reducible repeat (first | apply Kd.R_alloc | apply Kd.R_drewN | apply Kd.R_drew)); exact HO373.out) hb)
                        have n1_ := Az.mk (Kd.R_below (by (with_reducible repeat (first | apply Kd.R_alloc | apply Kd.R_drewN | apply Kd.R_drew)); exact HO380.out) hb)
                        have n2_ := Az.mk (Kd.V_lower (Kd.V_mono (ok' := fun k_ => some k_ ≠ (.slice Ao46 y378.length co46 : Value).ownBlock ∧ k_ ≠ gb365 ∧ k_ ≠ gb374 ∧ k_ ≠ gb387) ho0 (fun k_ hk_ => ⟨Or.elim hk_ (fun hs_ => ((Kd.R_types (Kd.R_types (Kd.R_types (HO373.out) BK365.out (by decide)) BK374.out (by decide)) BK387.out (by decide)).1 k_ hs_.symm).1.1.1.2) (fun hn_ => (Kd.fresh' (Kd.R_lt (by (with_reducible repeat (first | apply Kd.R_alloc | apply Kd.R_drewN | apply Kd.R_drew)); exact HO380.out)) k_ hn_)), Or.elim hk_ (fun hs_ => ((Kd.R_types (Kd.R_types (Kd.R_types (HO373.out) BK365.out (by decide)) BK374.out (by decide)) BK387.out (by decide)).1 k_ hs_.symm).1.1.2) (fun hn_ => (Kd.freshB (g := gb365) (o := .cells #[.int .i64 a0_0, .int .i64 a0_1, .slice A0_2 l0_2.length c0_2] 24 (0, 0)) (by (with_reducible repeat (first | refine bkN ?_ _ | refine bkD ?_ | refine bkA ?_ _)); exact BK365.out) k_ hn_)), Or.elim hk_ (fun hs_ => ((Kd.R_types (Kd.R_types (Kd.R_types (HO373.out) BK365.out (by decide)) BK374.out (by decide)) BK387.out (by decide)).1 k_ hs_.symm).1.2) (fun hn_ => (Kd.freshB (g := gb374) (o := .cells #[.int .i64 t369, .int .i64 t370, .slice Ao39 t371.length co39] 24 (0, 0)) (by (with_reducible repeat (first | refine bkN ?_ _ | refine bkD ?_ | refine bkA ?_ _)); exact BK374.out) k_ hn_)), Or.elim hk_ (fun hs_ => ((Kd.R_types (Kd.R_types (Kd.R_types (HO373.out) BK365.out (by decide)) BK374.out (by decide)) BK387.out (by decide)).1 k_ hs_.symm).2) (fun hn_ => (Kd.freshB (g := gb387) (o := .cells #[.int .i64 0, .int .i64 0, .slice none 0 0] 24 (0, 0)) (by (with_reducible repeat (first | refine bkN ?_ _ | refine bkD ?_ | refine bkA ?_ _)); exact BK387.out) k_ hn_))⟩)) (pbZ (by repeat (first | (with_reducible first | exact HB.out | apply pbA | apply pbN | apply pb1 | refine pbS ?_ GE365.out | refine pbS ?_ GE374.out | refine pbS ?_ GE387.out) | exact HB.out))))
                        have n3_ := Az.mk (bkB (g := gb365) (o := .cells #[.int .i64 a0_0, .int .i64 a0_1, .slice A0_2 l0_2.length c0_2] 24 (0, 0)) (by (with_reducible repeat (first | refine bkN ?_ _ | refine bkD ?_ | refine bkA ?_ _)); exact BK365.out) hb)
                        have n4_ := Az.mk (bkB (g := gb374) (o := .cells #[.int .i64 t369, .int .i64 t370, .slice Ao39 t371.length co39] 24 (0, 0)) (by (with_reducible repeat (first | refine bkN ?_ _ | refine bkD ?_ | refine bkA ?_ _)); exact BK374.out) hb)
                        have n5_ := Az.mk (bkB (g := gb387) (o := .cells #[.int .i64 0, .int .i64 0, .slice none 0 0] 24 (0, 0)) (by (with_reducible repeat (first | refine bkN ?_ _ | refine bkD ?_ | refine bkA ?_ _)); exact BK387.out) hb)
                        have n6_ := Az.mk (pbT (by repeat (first | (with_reducible first | exact HB.out | apply pbA | apply pbN | apply pb1 | refine pbS ?_ GE365.out | refine pbS ?_ GE374.out | refine pbS ?_ GE387.out) | exact HB.out)) hb)
                        clear HO373
                        clear HO380
                        clear BK365
                        clear BK374
                        clear BK387
                        clear HB
                        have HO373 := n0_
                        have HO380 := n1_
                        have HO385 := n2_
                        have BK365 := n3_
                        have BK374 := n4_
                        have BK387 := n5_
                        have HB := n6_
                        clear n0_ n1_ n2_ n3_ n4_ n5_ n6_
                        (try clear hb)
                        (try clear hb2)
                        (try clear hk)
                        (try clear hi)
                        (try clear ho0)
                        refine hK.out _ _ ⟨(bkC BK374.out 0).trans rfl, (bkC BK374.out 1).trans rfl, (bkC BK374.out 2).trans rfl⟩ (fun hHeld => ?_)
                        clear hK K
                        refine norm_ (a' := ?_) ?_ ?_
                        rotate_left
                        · show Act.put _ (some 37) _ = _
                          simp only [Act.put, List.setIfInBounds_toArray, List.set_cons_zero, List.set_cons_succ, i64_w, i32_w]
                          rfl
                        refine pure_ (i := 7) (N := some 30) (v := ?_) (a' := ?_) #[true, true, true, true, true, true, true, true, false, false, true, false, false] rfl rfl (any_of HT_.out (by kernel_rfl)) (fun _ _ _ h => h) (Or.inl ⟨by rfl, ?_⟩) ?_ ?_
                        rotate_left
                        · intro w'
                          go_simp
                          with_reducible rfl
                        rotate_left
                        · simp only [Act.put, List.setIfInBounds_toArray, List.set_cons_zero, List.set_cons_succ, i64_w, i32_w]
                          rfl
                        refine pure_ (i := 8) (N := some 38) (v := ?_) (a' := ?_) #[true, true, true, true, true, true, true, true, true, false, true, false, false] rfl rfl (any_of HT_.out (by kernel_rfl)) (fun _ _ _ h => h) (Or.inl ⟨by rfl, ?_⟩) ?_ ?_
                        rotate_left
                        · intro w'
                          go_simp
                          with_reducible rfl
                        rotate_left
                        · simp only [Act.put, List.setIfInBounds_toArray, List.set_cons_zero, List.set_cons_succ, i64_w, i32_w]
                          rfl
                        refine pure_ (i := 9) (N := some 39) (v := ?_) (a' := ?_) #[true, true, true, true, true, true, true, true, true, true, true, false, false] rfl rfl (any_of HT_.out (by kernel_rfl)) (fun _ _ _ h => h) (Or.inl ⟨by rfl, ?_⟩) ?_ ?_
                        rotate_left
                        · intro w'
                          go_simp
                          with_reducible rfl
                        rotate_left
                        · simp only [Act.put, List.setIfInBounds_toArray, List.set_cons_zero, List.set_cons_succ, i64_w, i32_w]
                          rfl
                        exact norm_ (by simp only [putAll, Act.put, List.setIfInBounds_toArray, List.set_cons_zero, List.set_cons_succ]) (hCont (v376, .slice Ao46 y378.length co46, v384, gb387) _ ⟨hHeld, (by (with_reducible repeat (first | apply Kd.R_alloc | apply Kd.R_drewN | apply Kd.R_drew)); exact Kd.R_mono HO373.out (fun _ hk => hk.2)), (by (with_reducible repeat (first | apply Kd.R_alloc | apply Kd.R_drewN | apply Kd.R_drew)); exact HO380.out), (by (with_reducible repeat (first | apply Kd.V_alloc | apply Kd.V_drewN | apply Kd.V_drew)); exact HO385.out), (by (with_reducible repeat (first | refine bkN ?_ _ | refine bkD ?_ | refine bkA ?_ _)); exact BK365.out), (by (with_reducible repeat (first | refine bkN ?_ _ | refine bkD ?_ | refine bkA ?_ _)); exact BK374.out), (by (with_reducible repeat (first | refine bkN ?_ _ | refine bkD ?_ | refine bkA ?_ _)); exact BK387.out), GW387.out, GE387.out, NB365_387.out, NB387_365.out, NB374_387.out, NB387_374.out, (by repeat (first | (with_reducible first | exact HB.out | apply pbA | apply pbN | apply pb1 | refine pbS ?_ GE365.out | refine pbS ?_ GE374.out | refine pbS ?_ GE387.out) | exact HB.out))⟩)
                    · skip
                      refine box_step ?hg (N := 10) ?hd (cs := #[.int .i64 0, .int .i64 0, .slice none 0 0]) (t := 24) ?hr ?_; (case hd => rfl); (case hg => rfl); (case hr => first | (go_simp; done) | (go_simp; rfl))
                      intro gb387 hg w44 hbox hb
                      have n0_ := Az.mk (Kd.R_below (by (with_reducible repeat (first | apply Kd.R_alloc | apply Kd.R_drewN | apply Kd.R_drew)); exact HO373.out) hb)
                      have n1_ := Az.mk (Kd.R_below (by (with_reducible repeat (first | apply Kd.R_alloc | apply Kd.R_drewN | apply Kd.R_drew)); exact HO377.out) hb)
                      have n2_ := Az.mk (bkB (g := gb365) (o := .cells #[.int .i64 a0_0, .int .i64 a0_1, .slice A0_2 l0_2.length c0_2] 24 (0, 0)) (by (with_reducible repeat (first | refine bkN ?_ _ | refine bkD ?_ | refine bkA ?_ _)); exact BK365.out) hb)
                      have n3_ := Az.mk (bkB (g := gb374) (o := .cells #[.int .i64 t369, .int .i64 t370, .slice Ao39 t371.length co39] 24 (0, 0)) (by (with_reducible repeat (first | refine bkN ?_ _ | refine bkD ?_ | refine bkA ?_ _)); exact BK374.out) hb)
                      have n4_ := Az.mk (pbT (by repeat (first | (with_reducible first | exact HB.out | apply pbA | apply pbN | apply pb1 | refine pbS ?_ GE365.out | refine pbS ?_ GE374.out) | exact HB.out)) hb)
                      have n5_ := Az.mk (hbox)
                      have n6_ := Az.mk ((by rw [hg]; exact (pbZ (by repeat (first | (with_reducible first | exact HB.out | apply pbA | apply pbN | apply pb1 | refine pbS ?_ GE365.out | refine pbS ?_ GE374.out) | exact HB.out))) : w.heap.size ≤ gb387))
                      have n7_ := Az.mk ((by rw [hg]; exact (pbZ (by repeat (first | (with_reducible first | exact HB.out | apply pbA | apply pbN | apply pb1 | refine pbS ?_ GE365.out | refine pbS ?_ GE374.out) | exact HB.out))) : w.heap.size ≤ gb387))
                      have n8_ := Az.mk ((by rw [hg]; exact Nat.ne_of_lt (blk_lt (g := gb365) (o := .cells #[.int .i64 a0_0, .int .i64 a0_1, .slice A0_2 l0_2.length c0_2] 24 (0, 0)) (by (with_reducible repeat (first | refine bkN ?_ _ | refine bkD ?_ | refine bkA ?_ _)); exact BK365.out)) : gb365 ≠ gb387))
                      have n9_ := Az.mk ((by rw [hg]; exact Nat.ne_of_gt (blk_lt (g := gb365) (o := .cells #[.int .i64 a0_0, .int .i64 a0_1, .slice A0_2 l0_2.length c0_2] 24 (0, 0)) (by (with_reducible repeat (first | refine bkN ?_ _ | refine bkD ?_ | refine bkA ?_ _)); exact BK365.out)) : gb387 ≠ gb365))
                      have n10_ := Az.mk ((by rw [hg]; exact Nat.ne_of_lt (blk_lt (g := gb374) (o := .cells #[.int .i64 t369, .int .i64 t370, .slice Ao39 t371.length co39] 24 (0, 0)) (by (with_reducible repeat (first | refine bkN ?_ _ | refine bkD ?_ | refine bkA ?_ _)); exact BK374.out)) : gb374 ≠ gb387))
                      have n11_ := Az.mk ((by rw [hg]; exact Nat.ne_of_gt (blk_lt (g := gb374) (o := .cells #[.int .i64 t369, .int .i64 t370, .slice Ao39 t371.length co39] 24 (0, 0)) (by (with_reducible repeat (first | refine bkN ?_ _ | refine bkD ?_ | refine bkA ?_ _)); exact BK374.out)) : gb387 ≠ gb374))
                      clear HO373
                      clear HO377
                      clear BK365
                      clear BK374
                      clear HB
                      have HO373 := n0_
                      have HO377 := n1_
                      have BK365 := n2_
                      have BK374 := n3_
                      have HB := n4_
                      have BK387 := n5_
                      have GW387 := n6_
                      have GE387 := n7_
                      have NB365_387 := n8_
                      have NB387_365 := n9_
                      have NB374_387 := n10_
                      have NB387_374 := n11_
                      clear n0_ n1_ n2_ n3_ n4_ n5_ n6_ n7_ n8_ n9_ n10_ n11_
                      clear hb hbox hg
                      refine hK.out _ _ ⟨(bkC BK374.out 0).trans rfl, (bkC BK374.out 1).trans rfl, (bkC BK374.out 2).trans rfl⟩ (fun hHeld => ?_)
                      clear hK K
                      refine norm_ (a' := ?_) ?_ ?_
                      rotate_left
                      · show Act.put _ (some 10) _ = _
                        simp only [Act.put, List.setIfInBounds_toArray, List.set_cons_zero, List.set_cons_succ, i64_w, i32_w]
                        rfl
                      refine one_ (i := 5) (N := some 36) #[true, true, true, true, true, true, false, false, false, false, true, false, false] rfl rfl (one_of HT_.out (by kernel_rfl)) (by decide) (fun K hK => ?_)
                      refine Kd.R_append_rows_step k54 (w0 := w) w.heap.size (by rfl) (.tmp 34) (.tmp 35) 22 54 (.agg #[(.int .i64 0), (.string ⟨#[]⟩)]) 24 rfl Tryd.underlying22 info54 rfl (by decide) (by omega) v376 y375 l3 _ _ _ (fun k_ => some k_ ≠ (.slice Ao39 t371.length co39 : Value).ownBlock) (fun _ => False) rfl rfl ?aO ?aR (fun _ _ h => h) (fun _ h => h.elim) ?aF ?aB ?aS ?aL ?_
                      (case aR => repeat (first | exact (Kd.C_below HR3.out HB.out) | (with_reducible refine Kd.C_alloc ?_ _) | (with_reducible refine Kd.C_drewN ?_ _) | (with_reducible refine Kd.C_drew ?_)))
                      (case aB => exact (by repeat (first | (with_reducible first | exact HB.out | apply pbA | apply pbN | apply pb1 | refine pbS ?_ GE365.out | refine pbS ?_ GE374.out | refine pbS ?_ GE387.out) | exact HB.out)))
                      (case aF => exact (fun k_ hk => Kd.fresh' (Kd.R_lt (by (with_reducible repeat (first | apply Kd.R_alloc | apply Kd.R_drewN | apply Kd.R_drew)); exact HO373.out)) k_ hk))
                      (case aO => exact (by (with_reducible repeat (first | apply Kd.R_alloc | apply Kd.R_drewN | apply Kd.R_drew)); exact Kd.R_mono HO377.out (fun _ hk => hk.2)))
                      (case aS => exact (pbZ (by repeat (first | (with_reducible first | exact HB.out | apply pbA | apply pbN | apply pb1 | refine pbS ?_ GE365.out | refine pbS ?_ GE374.out | refine pbS ?_ GE387.out) | exact HB.out))))
                      (case aL => have := LMc25.out; omega)
                      intro v379 w45 ho hb hg hat
                      rw [← Ny378.out] at ho
                      have n0_ := Az.mk (blk_grown (g := gb365) (o := .cells #[.int .i64 a0_0, .int .i64 a0_1, .slice A0_2 l0_2.length c0_2] 24 (0, 0)) (by (with_reducible repeat (first | refine bkN ?_ _ | refine bkD ?_ | refine bkA ?_ _)); exact BK365.out) hg (Kd.R_ne HO377.out BK365.out (by decide)))
                      have n1_ := Az.mk (Kd.R_after (ok := (fun _ => True)) (by (with_reducible repeat (first | apply Kd.R_alloc | apply Kd.R_drewN | apply Kd.R_drew)); exact HO373.out) hg hat)
                      have n2_ := Az.mk (blk_grown (g := gb374) (o := .cells #[.int .i64 t369, .int .i64 t370, .slice Ao39 t371.length co39] 24 (0, 0)) (by (with_reducible repeat (first | refine bkN ?_ _ | refine bkD ?_ | refine bkA ?_ _)); exact BK374.out) hg (Kd.R_ne HO377.out BK374.out (by decide)))
                      have n3_ := Az.mk (blk_grown (g := gb387) (o := .cells #[.int .i64 0, .int .i64 0, .slice none 0 0] 24 (0, 0)) (by (with_reducible repeat (first | refine bkN ?_ _ | refine bkD ?_ | refine bkA ?_ _)); exact BK387.out) hg (Kd.R_ne HO377.out BK387.out (by decide)))
                      have n4_ := Az.mk (hb)
                      have n5_ := Az.mk (ho)
                      clear BK365
                      clear HO373
                      clear BK374
                      clear BK387
                      clear HB
                      clear HO377
                      have BK365 := n0_
                      have HO373 := n1_
                      have BK374 := n2_
                      have BK387 := n3_
                      have HB := n4_
                      have HO380 := n5_
                      clear n0_ n1_ n2_ n3_ n4_ n5_
                      clear ho hb hg hat
                      obtain ⟨Ao46, co46, eo46⟩ := Kd.R_slice HO380.out
                      (first | subst eo46 | (injection eo46 with f1_ f2_ f3_; have f4_ := f1_.symm; have f5_ := f3_.symm; clear f1_ f2_ f3_; subst f4_; subst f5_))
                      refine hK.out _ _ ⟨(bkC BK374.out 0).trans rfl, (bkC BK374.out 1).trans rfl, (bkC BK374.out 2).trans rfl⟩ (fun hHeld => ?_)
                      clear hK K
                      refine norm_ (a' := ?_) ?_ ?_
                      rotate_left
                      · show Act.put _ (some 36) _ = _
                        simp only [Act.put, List.setIfInBounds_toArray, List.set_cons_zero, List.set_cons_succ, i64_w, i32_w]
                        rfl
                      refine one_ (i := 6) (N := some 37) #[true, true, true, true, true, true, true, false, false, false, true, false, false] rfl rfl (one_of HT_.out (by kernel_rfl)) (by decide) (fun K hK => ?_)
                      refine goes_ Tryd.func19 (by kernel_rfl) rfl #[.agg #[.int .i64 t369, .int .i64 t370, .slice Ao39 t371.length co39], .int .i64 a1, .int .i64 a2, .slice Ao46 y378.length co46] (by rfl) rfl rfl (by (try simp only [List.map_toArray, List.map_cons, List.map_nil]); first | done | rfl | (simp only [List.length_drop, List.length_take]; rfl)) ?_
                      with_reducible refine (roll_Merge.calls t369 t370 (fun k_ => some k_ = (.slice Ao39 t371.length co39 : Value).ownBlock) _ _ t371 a1 a2 _ _ y378 t381 t382 t383 t386 _ ?side1 ?side2 ?side3 ?side4 A26.out).mono ?_
                      (case side1 => exact hG.below (by repeat (first | (with_reducible first | exact HB.out | apply pbA | apply pbN | apply pb1 | refine pbS ?_ GE365.out | refine pbS ?_ GE374.out | refine pbS ?_ GE387.out) | exact HB.out)))
                      (case side2 => exact Kd.R_V (Kd.R_tight rfl (Kd.R_types (Kd.R_types (Kd.R_types (HO373.out) BK365.out (by decide)) BK374.out (by decide)) BK387.out (by decide))))
                      (case side3 => repeat (first | exact (Kd.R_reads' HO380.out).2.2 | (with_reducible refine Kd.C_alloc ?_ _) | (with_reducible refine Kd.C_drewN ?_ _) | (with_reducible refine Kd.C_drew ?_)))
                      (case side4 => exact (Kd.R_reads' HO380.out).2.1)
                      rintro e w47 ⟨v384, rfl, ho0, hb⟩
                      refine ⟨_, rfl, ?_⟩
                      have n0_ := Az.mk (Kd.R_below (by (with_reducible repeat (first | apply Kd.R_alloc | apply Kd.R_drewN | apply Kd.R_drew)); exact HO373.out) hb)
                      have n1_ := Az.mk (Kd.R_below (by (with_reducible repeat (first | apply Kd.R_alloc | apply Kd.R_drewN | apply Kd.R_drew)); exact HO380.out) hb)
                      have n2_ := Az.mk (Kd.V_lower (Kd.V_mono (ok' := fun k_ => some k_ ≠ (.slice Ao46 y378.length co46 : Value).ownBlock ∧ k_ ≠ gb365 ∧ k_ ≠ gb374 ∧ k_ ≠ gb387) ho0 (fun k_ hk_ => ⟨Or.elim hk_ (fun hs_ => ((Kd.R_types (Kd.R_types (Kd.R_types (HO373.out) BK365.out (by decide)) BK374.out (by decide)) BK387.out (by decide)).1 k_ hs_.symm).1.1.1.2) (fun hn_ => (Kd.fresh' (Kd.R_lt (by (with_reducible repeat (first | apply Kd.R_alloc | apply Kd.R_drewN | apply Kd.R_drew)); exact HO380.out)) k_ hn_)), Or.elim hk_ (fun hs_ => ((Kd.R_types (Kd.R_types (Kd.R_types (HO373.out) BK365.out (by decide)) BK374.out (by decide)) BK387.out (by decide)).1 k_ hs_.symm).1.1.2) (fun hn_ => (Kd.freshB (g := gb365) (o := .cells #[.int .i64 a0_0, .int .i64 a0_1, .slice A0_2 l0_2.length c0_2] 24 (0, 0)) (by (with_reducible repeat (first | refine bkN ?_ _ | refine bkD ?_ | refine bkA ?_ _)); exact BK365.out) k_ hn_)), Or.elim hk_ (fun hs_ => ((Kd.R_types (Kd.R_types (Kd.R_types (HO373.out) BK365.out (by decide)) BK374.out (by decide)) BK387.out (by decide)).1 k_ hs_.symm).1.2) (fun hn_ => (Kd.freshB (g := gb374) (o := .cells #[.int .i64 t369, .int .i64 t370, .slice Ao39 t371.length co39] 24 (0, 0)) (by (with_reducible repeat (first | refine bkN ?_ _ | refine bkD ?_ | refine bkA ?_ _)); exact BK374.out) k_ hn_)), Or.elim hk_ (fun hs_ => ((Kd.R_types (Kd.R_types (Kd.R_types (HO373.out) BK365.out (by decide)) BK374.out (by decide)) BK387.out (by decide)).1 k_ hs_.symm).2) (fun hn_ => (Kd.freshB (g := gb387) (o := .cells #[.int .i64 0, .int .i64 0, .slice none 0 0] 24 (0, 0)) (by (with_reducible repeat (first | refine bkN ?_ _ | refine bkD ?_ | refine bkA ?_ _)); exact BK387.out) k_ hn_))⟩)) (pbZ (by repeat (first | (with_reducible first | exact HB.out | apply pbA | apply pbN | apply pb1 | refine pbS ?_ GE365.out | refine pbS ?_ GE374.out | refine pbS ?_ GE387.out) | exact HB.out))))
                      have n3_ := Az.mk (bkB (g := gb365) (o := .cells #[.int .i64 a0_0, .int .i64 a0_1, .slice A0_2 l0_2.length c0_2] 24 (0, 0)) (by (with_reducible repeat (first | refine bkN ?_ _ | refine bkD ?_ | refine bkA ?_ _)); exact BK365.out) hb)
                      have n4_ := Az.mk (bkB (g := gb374) (o := .cells #[.int .i64 t369, .int .i64 t370, .slice Ao39 t371.length co39] 24 (0, 0)) (by (with_reducible repeat (first | refine bkN ?_ _ | refine bkD ?_ | refine bkA ?_ _)); exact BK374.out) hb)
                      have n5_ := Az.mk (bkB (g := gb387) (o := .cells #[.int .i64 0, .int .i64 0, .slice none 0 0] 24 (0, 0)) (by (with_reducible repeat (first | refine bkN ?_ _ | refine bkD ?_ | refine bkA ?_ _)); exact BK387.out) hb)
                      have n6_ := Az.mk (pbT (by repeat (first | (with_reducible first | exact HB.out | apply pbA | apply pbN | apply pb1 | refine pbS ?_ GE365.out | refine pbS ?_ GE374.out | refine pbS ?_ GE387.out) | exact HB.out)) hb)
                      clear HO373
                      clear HO380
                      clear BK365
                      clear BK374
                      clear BK387
                      clear HB
                      have HO373 := n0_
                      have HO380 := n1_
                      have HO385 := n2_
                      have BK365 := n3_
                      have BK374 := n4_
                      have BK387 := n5_
                      have HB := n6_
                      clear n0_ n1_ n2_ n3_ n4_ n5_ n6_
                      (try clear hb)
                      (try clear hb2)
                      (try clear hk)
                      (try clear hi)
                      (try clear ho0)
                      refine hK.out _ _ ⟨(bkC BK374.out 0).trans rfl, (bkC BK374.out 1).trans rfl, (bkC BK374.out 2).trans rfl⟩ (fun hHeld => ?_)
                      clear hK K
                      refine norm_ (a' := ?_) ?_ ?_
                      rotate_left
                      · show Act.put _ (some 37) _ = _
                        simp only [Act.put, List.setIfInBounds_toArray, List.set_cons_zero, List.set_cons_succ, i64_w, i32_w]
                        rfl
                      refine pure_ (i := 7) (N := some 30) (v := ?_) (a' := ?_) #[true, true, true, true, true, true, true, true, false, false, true, false, false] rfl rfl (any_of HT_.out (by kernel_rfl)) (fun _ _ _ h => h) (Or.inl ⟨by rfl, ?_⟩) ?_ ?_
                      rotate_left
                      · intro w'
                        go_simp
                        with_reducible rfl
                      rotate_left
                      · simp only [Act.put, List.setIfInBounds_toArray, List.set_cons_zero, List.set_cons_succ, i64_w, i32_w]
                        rfl
                      refine pure_ (i := 8) (N := some 38) (v := ?_) (a' := ?_) #[true, true, true, true, true, true, true, true, true, false, true, false, false] rfl rfl (any_of HT_.out (by kernel_rfl)) (fun _ _ _ h => h) (Or.inl ⟨by rfl, ?_⟩) ?_ ?_
                      rotate_left
                      · intro w'
                        go_simp
                        with_reducible rfl
                      rotate_left
                      · simp only [Act.put, List.setIfInBounds_toArray, List.set_cons_zero, List.set_cons_succ, i64_w, i32_w]
                        rfl
                      refine pure_ (i := 9) (N := some 39) (v := ?_) (a' := ?_) #[true, true, true, true, true, true, true, true, true, true, true, false, false] rfl rfl (any_of HT_.out (by kernel_rfl)) (fun _ _ _ h => h) (Or.inl ⟨by rfl, ?_⟩) ?_ ?_
                      rotate_left
                      · intro w'
                        go_simp
                        with_reducible rfl
                      rotate_left
                      · simp only [Act.put, List.setIfInBounds_toArray, List.set_cons_zero, List.set_cons_succ, i64_w, i32_w]
                        rfl
                      exact norm_ (by simp only [putAll, Act.put, List.setIfInBounds_toArray, List.set_cons_zero, List.set_cons_succ]) (hCont (v376, .slice Ao46 y378.length co46, v384, gb387) _ ⟨hHeld, (by (with_reducible repeat (first | apply Kd.R_alloc | apply Kd.R_drewN | apply Kd.R_drew)); exact Kd.R_mono HO373.out (fun _ hk => hk.2)), (by (with_reducible repeat (first | apply Kd.R_alloc | apply Kd.R_drewN | apply Kd.R_drew)); exact HO380.out), (by (with_reducible repeat (first | apply Kd.V_alloc | apply Kd.V_drewN | apply Kd.V_drew)); exact HO385.out), (by (with_reducible repeat (first | refine bkN ?_ _ | refine bkD ?_ | refine bkA ?_ _)); exact BK365.out), (by (with_reducible repeat (first | refine bkN ?_ _ | refine bkD ?_ | refine bkA ?_ _)); exact BK374.out), (by (with_reducible repeat (first | refine bkN ?_ _ | refine bkD ?_ | refine bkA ?_ _)); exact BK387.out), GW387.out, GE387.out, NB365_387.out, NB387_365.out, NB374_387.out, NB387_374.out, (by repeat (first | (with_reducible first | exact HB.out | apply pbA | apply pbN | apply pb1 | refine pbS ?_ GE365.out | refine pbS ?_ GE374.out | refine pbS ?_ GE387.out) | exact HB.out))⟩)
                  · skip
                    refine box_step ?hg (N := 10) ?hd (cs := #[.int .i64 0, .int .i64 0, .slice none 0 0]) (t := 24) ?hr ?_; (case hd => rfl); (case hg => rfl); (case hr => first | (go_simp; done) | (go_simp; rfl))
                    intro gb387 hg w42 hbox hb
                    have n0_ := Az.mk (Kd.R_below (by (with_reducible repeat (first | apply Kd.R_alloc | apply Kd.R_drewN | apply Kd.R_drew)); exact HO373.out) hb)
                    have n1_ := Az.mk (bkB (g := gb365) (o := .cells #[.int .i64 a0_0, .int .i64 a0_1, .slice A0_2 l0_2.length c0_2] 24 (0, 0)) (by (with_reducible repeat (first | refine bkN ?_ _ | refine bkD ?_ | refine bkA ?_ _)); exact BK365.out) hb)
                    have n2_ := Az.mk (bkB (g := gb374) (o := .cells #[.int .i64 t369, .int .i64 t370, .slice Ao39 t371.length co39] 24 (0, 0)) (by (with_reducible repeat (first | refine bkN ?_ _ | refine bkD ?_ | refine bkA ?_ _)); exact BK374.out) hb)
                    have n3_ := Az.mk (pbT (by repeat (first | (with_reducible first | exact HB.out | apply pbA | apply pbN | apply pb1 | refine pbS ?_ GE365.out | refine pbS ?_ GE374.out) | exact HB.out)) hb)
                    have n4_ := Az.mk (hbox)
                    have n5_ := Az.mk ((by rw [hg]; exact (pbZ (by repeat (first | (with_reducible first | exact HB.out | apply pbA | apply pbN | apply pb1 | refine pbS ?_ GE365.out | refine pbS ?_ GE374.out) | exact HB.out))) : w.heap.size ≤ gb387))
                    have n6_ := Az.mk ((by rw [hg]; exact (pbZ (by repeat (first | (with_reducible first | exact HB.out | apply pbA | apply pbN | apply pb1 | refine pbS ?_ GE365.out | refine pbS ?_ GE374.out) | exact HB.out))) : w.heap.size ≤ gb387))
                    have n7_ := Az.mk ((by rw [hg]; exact Nat.ne_of_lt (blk_lt (g := gb365) (o := .cells #[.int .i64 a0_0, .int .i64 a0_1, .slice A0_2 l0_2.length c0_2] 24 (0, 0)) (by (with_reducible repeat (first | refine bkN ?_ _ | refine bkD ?_ | refine bkA ?_ _)); exact BK365.out)) : gb365 ≠ gb387))
                    have n8_ := Az.mk ((by rw [hg]; exact Nat.ne_of_gt (blk_lt (g := gb365) (o := .cells #[.int .i64 a0_0, .int .i64 a0_1, .slice A0_2 l0_2.length c0_2] 24 (0, 0)) (by (with_reducible repeat (first | refine bkN ?_ _ | refine bkD ?_ | refine bkA ?_ _)); exact BK365.out)) : gb387 ≠ gb365))
                    have n9_ := Az.mk ((by rw [hg]; exact Nat.ne_of_lt (blk_lt (g := gb374) (o := .cells #[.int .i64 t369, .int .i64 t370, .slice Ao39 t371.length co39] 24 (0, 0)) (by (with_reducible repeat (first | refine bkN ?_ _ | refine bkD ?_ | refine bkA ?_ _)); exact BK374.out)) : gb374 ≠ gb387))
                    have n10_ := Az.mk ((by rw [hg]; exact Nat.ne_of_gt (blk_lt (g := gb374) (o := .cells #[.int .i64 t369, .int .i64 t370, .slice Ao39 t371.length co39] 24 (0, 0)) (by (with_reducible repeat (first | refine bkN ?_ _ | refine bkD ?_ | refine bkA ?_ _)); exact BK374.out)) : gb387 ≠ gb374))
                    clear HO373
                    clear BK365
                    clear BK374
                    clear HB
                    have HO373 := n0_
                    have BK365 := n1_
                    have BK374 := n2_
                    have HB := n3_
                    have BK387 := n4_
                    have GW387 := n5_
                    have GE387 := n6_
                    have NB365_387 := n7_
                    have NB387_365 := n8_
                    have NB374_387 := n9_
                    have NB387_374 := n10_
                    clear n0_ n1_ n2_ n3_ n4_ n5_ n6_ n7_ n8_ n9_ n10_
                    clear hb hbox hg
                    refine hK.out _ _ ⟨(bkC BK374.out 0).trans rfl, (bkC BK374.out 1).trans rfl, (bkC BK374.out 2).trans rfl⟩ (fun hHeld => ?_)
                    clear hK K
                    refine norm_ (a' := ?_) ?_ ?_
                    rotate_left
                    · show Act.put _ (some 10) _ = _
                      simp only [Act.put, List.setIfInBounds_toArray, List.set_cons_zero, List.set_cons_succ, i64_w, i32_w]
                      rfl
                    refine one_ (i := 3) (N := some 34) #[true, true, true, true, true, false, false, false, false, false, true, false, false] rfl rfl (one_of HT_.out (by kernel_rfl)) (by decide) (fun K hK => ?_)
                    refine Kd.R_lit_step k54 _ 54 ?hg (N := 34) ?hd (xs := ([] : List (S54))) (inner := []) (ok := fun _ => True) (okp := fun _ => True) ?hr ?hp (fun _ hk => hk) trivial (Below.refl _ _) (Nat.le_refl _) (by simp) ?_; (case hd => rfl); (case hg => rfl); (case hr => first | (go_simp; done) | (go_simp; rfl)); (case hp => exact (Reps.none _ _))
                    intro v376 w43 ho44 hb hg_ hnew_
                    clear hg_ hnew_
                    (first | rw [← Ny375.out] at ho44 | (simp only [Int.reduceToNat] at ho44; rw [← Ny375.out] at ho44))
                    have n0_ := Az.mk (Kd.R_elder' (by (with_reducible repeat (first | apply Kd.R_alloc | apply Kd.R_drewN | apply Kd.R_drew)); exact HO373.out) (Kd.R_base ho44) hb)
                    have n1_ := Az.mk (Kd.R_lower (Kd.R_new' ho44 (Kd.R_lt (by (with_reducible repeat (first | apply Kd.R_alloc | apply Kd.R_drewN | apply Kd.R_drew)); exact HO373.out))) (pbZ (by repeat (first | (with_reducible first | exact HB.out | apply pbA | apply pbN | apply pb1 | refine pbS ?_ GE365.out | refine pbS ?_ GE374.out | refine pbS ?_ GE387.out) | exact HB.out))))
                    have n2_ := Az.mk (bkB (g := gb365) (o := .cells #[.int .i64 a0_0, .int .i64 a0_1, .slice A0_2 l0_2.length c0_2] 24 (0, 0)) (by (with_reducible repeat (first | refine bkN ?_ _ | refine bkD ?_ | refine bkA ?_ _)); exact BK365.out) hb)
                    have n3_ := Az.mk (bkB (g := gb374) (o := .cells #[.int .i64 t369, .int .i64 t370, .slice Ao39 t371.length co39] 24 (0, 0)) (by (with_reducible repeat (first | refine bkN ?_ _ | refine bkD ?_ | refine bkA ?_ _)); exact BK374.out) hb)
                    have n4_ := Az.mk (bkB (g := gb387) (o := .cells #[.int .i64 0, .int .i64 0, .slice none 0 0] 24 (0, 0)) (by (with_reducible repeat (first | refine bkN ?_ _ | refine bkD ?_ | refine bkA ?_ _)); exact BK387.out) hb)
                    have n5_ := Az.mk (pbT (by repeat (first | (with_reducible first | exact HB.out | apply pbA | apply pbN | apply pb1 | refine pbS ?_ GE365.out | refine pbS ?_ GE374.out | refine pbS ?_ GE387.out) | exact HB.out)) hb)
                    clear HO373
                    clear BK365
                    clear BK374
                    clear BK387
                    clear HB
                    have HO373 := n0_
                    have HO377 := n1_
                    have BK365 := n2_
                    have BK374 := n3_
                    have BK387 := n4_
                    have HB := n5_
                    clear n0_ n1_ n2_ n3_ n4_ n5_
                    clear hb ho44
                    refine hK.out _ _ ⟨(bkC BK374.out 0).trans rfl, (bkC BK374.out 1).trans rfl, (bkC BK374.out 2).trans rfl⟩ (fun hHeld => ?_)
                    clear hK K
                    refine norm_ (a' := ?_) ?_ ?_
                    rotate_left
                    · show Act.put _ (some 34) _ = _
                      simp only [Act.put, List.setIfInBounds_toArray, List.set_cons_zero, List.set_cons_succ, i64_w, i32_w]
                      rfl
                    refine one_ (i := 5) (N := some 36) #[true, true, true, true, true, true, false, false, false, false, true, false, false] rfl rfl (one_of HT_.out (by kernel_rfl)) (by decide) (fun K hK => ?_)
                    refine Kd.R_append_rows_step k54 (w0 := w) w.heap.size (by rfl) (.tmp 34) (.tmp 35) 22 54 (.agg #[(.int .i64 0), (.string ⟨#[]⟩)]) 24 rfl Tryd.underlying22 info54 rfl (by decide) (by omega) v376 y375 l3 _ _ _ (fun k_ => some k_ ≠ (.slice Ao39 t371.length co39 : Value).ownBlock) (fun _ => False) rfl rfl ?aO ?aR (fun _ _ h => h) (fun _ h => h.elim) ?aF ?aB ?aS ?aL ?_
                    (case aR => repeat (first | exact (Kd.C_below HR3.out HB.out) | (with_reducible refine Kd.C_alloc ?_ _) | (with_reducible refine Kd.C_drewN ?_ _) | (with_reducible refine Kd.C_drew ?_)))
                    (case aB => exact (by repeat (first | (with_reducible first | exact HB.out | apply pbA | apply pbN | apply pb1 | refine pbS ?_ GE365.out | refine pbS ?_ GE374.out | refine pbS ?_ GE387.out) | exact HB.out)))
                    (case aF => exact (fun k_ hk => Kd.fresh' (Kd.R_lt (by (with_reducible repeat (first | apply Kd.R_alloc | apply Kd.R_drewN | apply Kd.R_drew)); exact HO373.out)) k_ hk))
                    (case aO => exact (by (with_reducible repeat (first | apply Kd.R_alloc | apply Kd.R_drewN | apply Kd.R_drew)); exact Kd.R_mono HO377.out (fun _ hk => hk.2)))
                    (case aS => exact (pbZ (by repeat (first | (with_reducible first | exact HB.out | apply pbA | apply pbN | apply pb1 | refine pbS ?_ GE365.out | refine pbS ?_ GE374.out | refine pbS ?_ GE387.out) | exact HB.out))))
                    (case aL => have := LMc25.out; omega)
                    intro v379 w45 ho hb hg hat
                    rw [← Ny378.out] at ho
                    have n0_ := Az.mk (blk_grown (g := gb365) (o := .cells #[.int .i64 a0_0, .int .i64 a0_1, .slice A0_2 l0_2.length c0_2] 24 (0, 0)) (by (with_reducible repeat (first | refine bkN ?_ _ | refine bkD ?_ | refine bkA ?_ _)); exact BK365.out) hg (Kd.R_ne HO377.out BK365.out (by decide)))
                    have n1_ := Az.mk (Kd.R_after (ok := (fun _ => True)) (by (with_reducible repeat (first | apply Kd.R_alloc | apply Kd.R_drewN | apply Kd.R_drew)); exact HO373.out) hg hat)
                    have n2_ := Az.mk (blk_grown (g := gb374) (o := .cells #[.int .i64 t369, .int .i64 t370, .slice Ao39 t371.length co39] 24 (0, 0)) (by (with_reducible repeat (first | refine bkN ?_ _ | refine bkD ?_ | refine bkA ?_ _)); exact BK374.out) hg (Kd.R_ne HO377.out BK374.out (by decide)))
                    have n3_ := Az.mk (blk_grown (g := gb387) (o := .cells #[.int .i64 0, .int .i64 0, .slice none 0 0] 24 (0, 0)) (by (with_reducible repeat (first | refine bkN ?_ _ | refine bkD ?_ | refine bkA ?_ _)); exact BK387.out) hg (Kd.R_ne HO377.out BK387.out (by decide)))
                    have n4_ := Az.mk (hb)
                    have n5_ := Az.mk (ho)
                    clear BK365
                    clear HO373
                    clear BK374
                    clear BK387
                    clear HB
                    clear HO377
                    have BK365 := n0_
                    have HO373 := n1_
                    have BK374 := n2_
                    have BK387 := n3_
                    have HB := n4_
                    have HO380 := n5_
                    clear n0_ n1_ n2_ n3_ n4_ n5_
                    clear ho hb hg hat
                    obtain ⟨Ao46, co46, eo46⟩ := Kd.R_slice HO380.out
                    (first | subst eo46 | (injection eo46 with f1_ f2_ f3_; have f4_ := f1_.symm; have f5_ := f3_.symm; clear f1_ f2_ f3_; subst f4_; subst f5_))
                    refine hK.out _ _ ⟨(bkC BK374.out 0).trans rfl, (bkC BK374.out 1).trans rfl, (bkC BK374.out 2).trans rfl⟩ (fun hHeld => ?_)
                    clear hK K
                    refine norm_ (a' := ?_) ?_ ?_
                    rotate_left
                    · show Act.put _ (some 36) _ = _
                      simp only [Act.put, List.setIfInBounds_toArray, List.set_cons_zero, List.set_cons_succ, i64_w, i32_w]
                      rfl
                    refine one_ (i := 6) (N := some 37) #[true, true, true, true, true, true, true, false, false, false, true, false, false] rfl rfl (one_of HT_.out (by kernel_rfl)) (by decide) (fun K hK => ?_)
                    refine goes_ Tryd.func19 (by kernel_rfl) rfl #[.agg #[.int .i64 t369, .int .i64 t370, .slice Ao39 t371.length co39], .int .i64 a1, .int .i64 a2, .slice Ao46 y378.length co46] (by rfl) rfl rfl (by (try simp only [List.map_toArray, List.map_cons, List.map_nil]); first | done | rfl | (simp only [List.length_drop, List.length_take]; rfl)) ?_
                    with_reducible refine (roll_Merge.calls t369 t370 (fun k_ => some k_ = (.slice Ao39 t371.length co39 : Value).ownBlock) _ _ t371 a1 a2 _ _ y378 t381 t382 t383 t386 _ ?side1 ?side2 ?side3 ?side4 A26.out).mono ?_
                    (case side1 => exact hG.below (by repeat (first | (with_reducible first | exact HB.out | apply pbA | apply pbN | apply pb1 | refine pbS ?_ GE365.out | refine pbS ?_ GE374.out | refine pbS ?_ GE387.out) | exact HB.out)))
                    (case side2 => exact Kd.R_V (Kd.R_tight rfl (Kd.R_types (Kd.R_types (Kd.R_types (HO373.out) BK365.out (by decide)) BK374.out (by decide)) BK387.out (by decide))))
                    (case side3 => repeat (first | exact (Kd.R_reads' HO380.out).2.2 | (with_reducible refine Kd.C_alloc ?_ _) | (with_reducible refine Kd.C_drewN ?_ _) | (with_reducible refine Kd.C_drew ?_)))
                    (case side4 => exact (Kd.R_reads' HO380.out).2.1)
                    rintro e w47 ⟨v384, rfl, ho0, hb⟩
                    refine ⟨_, rfl, ?_⟩
                    have n0_ := Az.mk (Kd.R_below (by (with_reducible repeat (first | apply Kd.R_alloc | apply Kd.R_drewN | apply Kd.R_drew)); exact HO373.out) hb)
                    have n1_ := Az.mk (Kd.R_below (by (with_reducible repeat (first | apply Kd.R_alloc | apply Kd.R_drewN | apply Kd.R_drew)); exact HO380.out) hb)
                    have n2_ := Az.mk (Kd.V_lower (Kd.V_mono (ok' := fun k_ => some k_ ≠ (.slice Ao46 y378.length co46 : Value).ownBlock ∧ k_ ≠ gb365 ∧ k_ ≠ gb374 ∧ k_ ≠ gb387) ho0 (fun k_ hk_ => ⟨Or.elim hk_ (fun hs_ => ((Kd.R_types (Kd.R_types (Kd.R_types (HO373.out) BK365.out (by decide)) BK374.out (by decide)) BK387.out (by decide)).1 k_ hs_.symm).1.1.1.2) (fun hn_ => (Kd.fresh' (Kd.R_lt (by (with_reducible repeat (first | apply Kd.R_alloc | apply Kd.R_drewN | apply Kd.R_drew)); exact HO380.out)) k_ hn_)), Or.elim hk_ (fun hs_ => ((Kd.R_types (Kd.R_types (Kd.R_types (HO373.out) BK365.out (by decide)) BK374.out (by decide)) BK387.out (by decide)).1 k_ hs_.symm).1.1.2) (fun hn_ => (Kd.freshB (g := gb365) (o := .cells #[.int .i64 a0_0, .int .i64 a0_1, .slice A0_2 l0_2.length c0_2] 24 (0, 0)) (by (with_reducible repeat (first | refine bkN ?_ _ | refine bkD ?_ | refine bkA ?_ _)); exact BK365.out) k_ hn_)), Or.elim hk_ (fun hs_ => ((Kd.R_types (Kd.R_types (Kd.R_types (HO373.out) BK365.out (by decide)) BK374.out (by decide)) BK387.out (by decide)).1 k_ hs_.symm).1.2) (fun hn_ => (Kd.freshB (g := gb374) (o := .cells #[.int .i64 t369, .int .i64 t370, .slice Ao39 t371.length co39] 24 (0, 0)) (by (with_reducible repeat (first | refine bkN ?_ _ | refine bkD ?_ | refine bkA ?_ _)); exact BK374.out) k_ hn_)), Or.elim hk_ (fun hs_ => ((Kd.R_types (Kd.R_types (Kd.R_types (HO373.out) BK365.out (by decide)) BK374.out (by decide)) BK387.out (by decide)).1 k_ hs_.symm).2) (fun hn_ => (Kd.freshB (g := gb387) (o := .cells #[.int .i64 0, .int .i64 0, .slice none 0 0] 24 (0, 0)) (by (with_reducible repeat (first | refine bkN ?_ _ | refine bkD ?_ | refine bkA ?_ _)); exact BK387.out) k_ hn_))⟩)) (pbZ (by repeat (first | (with_reducible first | exact HB.out | apply pbA | apply pbN | apply pb1 | refine pbS ?_ GE365.out | refine pbS ?_ GE374.out | refine pbS ?_ GE387.out) | exact HB.out))))
                    have n3_ := Az.mk (bkB (g := gb365) (o := .cells #[.int .i64 a0_0, .int .i64 a0_1, .slice A0_2 l0_2.length c0_2] 24 (0, 0)) (by (with_reducible repeat (first | refine bkN ?_ _ | refine bkD ?_ | refine bkA ?_ _)); exact BK365.out) hb)
                    have n4_ := Az.mk (bkB (g := gb374) (o := .cells #[.int .i64 t369, .int .i64 t370, .slice Ao39 t371.length co39] 24 (0, 0)) (by (with_reducible repeat (first | refine bkN ?_ _ | refine bkD ?_ | refine bkA ?_ _)); exact BK374.out) hb)
                    have n5_ := Az.mk (bkB (g := gb387) (o := .cells #[.int .i64 0, .int .i64 0, .slice none 0 0] 24 (0, 0)) (by (with_reducible repeat (first | refine bkN ?_ _ | refine bkD ?_ | refine bkA ?_ _)); exact BK387.out) hb)
                    have n6_ := Az.mk (pbT (by repeat (first | (with_reducible first | exact HB.out | apply pbA | apply pbN | apply pb1 | refine pbS ?_ GE365.out | refine pbS ?_ GE374.out | refine pbS ?_ GE387.out) | exact HB.out)) hb)
                    clear HO373
                    clear HO380
                    clear BK365
                    clear BK374
                    clear BK387
                    clear HB
                    have HO373 := n0_
                    have HO380 := n1_
                    have HO385 := n2_
                    have BK365 := n3_
                    have BK374 := n4_
                    have BK387 := n5_
                    have HB := n6_
                    clear n0_ n1_ n2_ n3_ n4_ n5_ n6_
                    (try clear hb)
                    (try clear hb2)
                    (try clear hk)
                    (try clear hi)
                    (try clear ho0)
                    refine hK.out _ _ ⟨(bkC BK374.out 0).trans rfl, (bkC BK374.out 1).trans rfl, (bkC BK374.out 2).trans rfl⟩ (fun hHeld => ?_)
                    clear hK K
                    refine norm_ (a' := ?_) ?_ ?_
                    rotate_left
                    · show Act.put _ (some 37) _ = _
                      simp only [Act.put, List.setIfInBounds_toArray, List.set_cons_zero, List.set_cons_succ, i64_w, i32_w]
                      rfl
                    refine pure_ (i := 7) (N := some 30) (v := ?_) (a' := ?_) #[true, true, true, true, true, true, true, true, false, false, true, false, false] rfl rfl (any_of HT_.out (by kernel_rfl)) (fun _ _ _ h => h) (Or.inl ⟨by rfl, ?_⟩) ?_ ?_
                    rotate_left
                    · intro w'
                      go_simp
                      with_reducible rfl
                    rotate_left
                    · simp only [Act.put, List.setIfInBounds_toArray, List.set_cons_zero, List.set_cons_succ, i64_w, i32_w]
                      rfl
                    refine pure_ (i := 8) (N := some 38) (v := ?_) (a' := ?_) #[true, true, true, true, true, true, true, true, true, false, true, false, false] rfl rfl (any_of HT_.out (by kernel_rfl)) (fun _ _ _ h => h) (Or.inl ⟨by rfl, ?_⟩) ?_ ?_
                    rotate_left
                    · intro w'
                      go_simp
                      with_reducible rfl
                    rotate_left
                    · simp only [Act.put, List.setIfInBounds_toArray, List.set_cons_zero, List.set_cons_succ, i64_w, i32_w]
                      rfl
                    refine pure_ (i := 9) (N := some 39) (v := ?_) (a' := ?_) #[true, true, true, true, true, true, true, true, true, true, true, false, false] rfl rfl (any_of HT_.out (by kernel_rfl)) (fun _ _ _ h => h) (Or.inl ⟨by rfl, ?_⟩) ?_ ?_
                    rotate_left
                    · intro w'
                      go_simp
                      with_reducible rfl
                    rotate_left
                    · simp only [Act.put, List.setIfInBounds_toArray, List.set_cons_zero, List.set_cons_succ, i64_w, i32_w]
                      rfl
                    exact norm_ (by simp only [putAll, Act.put, List.setIfInBounds_toArray, List.set_cons_zero, List.set_cons_succ]) (hCont (v376, .slice Ao46 y378.length co46, v384, gb387) _ ⟨hHeld, (by (with_reducible repeat (first | apply Kd.R_alloc | apply Kd.R_drewN | apply Kd.R_drew)); exact Kd.R_mono HO373.out (fun _ hk => hk.2)), (by (with_reducible repeat (first | apply Kd.R_alloc | apply Kd.R_drewN | apply Kd.R_drew)); exact HO380.out), (by (with_reducible repeat (first | apply Kd.V_alloc | apply Kd.V_drewN | apply Kd.V_drew)); exact HO385.out), (by (with_reducible repeat (first | refine bkN ?_ _ | refine bkD ?_ | refine bkA ?_ _)); exact BK365.out), (by (with_reducible repeat (first | refine bkN ?_ _ | refine bkD ?_ | refine bkA ?_ _)); exact BK374.out), (by (with_reducible repeat (first | refine bkN ?_ _ | refine bkD ?_ | refine bkA ?_ _)); exact BK387.out), GW387.out, GE387.out, NB365_387.out, NB387_365.out, NB374_387.out, NB387_374.out, (by repeat (first | (with_reducible first | exact HB.out | apply pbA | apply pbN | apply pb1 | refine pbS ?_ GE365.out | refine pbS ?_ GE374.out | refine pbS ?_ GE387.out) | exact HB.out))⟩)
                rintro ⟨v376, v379, v384, gb387⟩ w48 ⟨hS_, h0_, h1_, h2_, h3_, h4_, h5_, h6_, h7_, h8_, h9_, h10_, h11_, h12_⟩
                have n0_ : Az (Kd.R k54 54 w48 w.heap.size (fun k_ => some k_ ≠ (v379 : Value).ownBlock) (.slice Ao39 t371.length co39) t371) := ⟨h0_⟩
                have n1_ : Az (Kd.R k54 54 w48 w.heap.size (fun k_ => some k_ ≠ (.slice Ao39 t371.length co39 : Value).ownBlock) v379 y378) := ⟨h1_⟩
                have n2_ : Az (Kd.V k54 54 w48 w.heap.size (fun k_ => some k_ ≠ (v379 : Value).ownBlock ∧ k_ ≠ gb365 ∧ k_ ≠ gb374 ∧ k_ ≠ gb387) v384 t383) := ⟨h2_⟩
                have n3_ : Az (w48.heap[gb365]? = some (.cells #[.int .i64 a0_0, .int .i64 a0_1, .slice A0_2 l0_2.length c0_2] 24 (0, 0))) := ⟨h3_⟩
                have n4_ : Az (w48.heap[gb374]? = some (.cells #[.int .i64 t369, .int .i64 t370, .slice Ao39 t371.length co39] 24 (0, 0))) := ⟨h4_⟩
                have n5_ : Az (w48.heap[gb387]? = some (.cells #[.int .i64 0, .int .i64 0, .slice none 0 0] 24 (0, 0))) := ⟨h5_⟩
                have n6_ : Az (w.heap.size ≤ gb387) := ⟨h6_⟩
                have n7_ : Az (w.heap.size ≤ gb387) := ⟨h7_⟩
                have n8_ : Az (gb365 ≠ gb387) := ⟨h8_⟩
                have n9_ : Az (gb387 ≠ gb365) := ⟨h9_⟩
                have n10_ : Az (gb374 ≠ gb387) := ⟨h10_⟩
                have n11_ : Az (gb387 ≠ gb374) := ⟨h11_⟩
                have n12_ : Az (Below w.heap.size w w48) := ⟨h12_⟩
                clear HO373
                clear BK365
                clear BK374
                clear HB
                clear h0_ h1_ h2_ h3_ h4_ h5_ h6_ h7_ h8_ h9_ h10_ h11_ h12_
                have HO373 := n0_
                have HO380 := n1_
                have HO385 := n2_
                have BK365 := n3_
                have BK374 := n4_
                have BK387 := n5_
                have GW387 := n6_
                have GE387 := n7_
                have NB365_387 := n8_
                have NB387_365 := n9_
                have NB374_387 := n10_
                have NB387_374 := n11_
                have HB := n12_
                clear n0_ n1_ n2_ n3_ n4_ n5_ n6_ n7_ n8_ n9_ n10_ n11_ n12_
                have hHeld : w48.cell? ⟨gb374, 0, none⟩ = some (.int .i64 t369) ∧ w48.cell? ⟨gb374, 1, none⟩ = some (.int .i64 t370) ∧ w48.cell? ⟨gb374, 2, none⟩ = some (.slice Ao39 t371.length co39) := hS_
                obtain ⟨Ao51, co51, eo51⟩ := Kd.V_slice HO385.out
                (first | subst eo51 | (injection eo51 with f1_ f2_ f3_; have f4_ := f1_.symm; have f5_ := f3_.symm; clear f1_ f2_ f3_; subst f4_; subst f5_))
                refine norm_ (a' := ?_) ?_ ?_
                rotate_left
                · simp only [putAll, Act.put, List.setIfInBounds_toArray, List.set_cons_zero, List.set_cons_succ]
                  rfl
                refine one_ (i := 11) (N := none) #[true, true, true, true, true, true, true, true, true, true, true, true, false] rfl rfl (one_of HT_.out (by kernel_rfl)) (by decide) (fun K hK => ?_)
                have hs49 : w48.cell? ⟨gb387, 0, none⟩ = some (.int .i64 0) := (bkC BK387.out 0).trans rfl
                have hfs49 := bkF BK387.out 0
                have hns49_0 := NB365_387.out
                have hns49_1 := NB374_387.out
                have hms49_0 := NB387_365.out
                have hms49_1 := NB387_374.out
                have hs50 : w48.cell? ⟨gb387, 1, none⟩ = some (.int .i64 0) := (bkC BK387.out 1).trans rfl
                have hfs50 := bkF BK387.out 1
                have hns50_0 := NB365_387.out
                have hns50_1 := NB374_387.out
                have hms50_0 := NB387_365.out
                have hms50_1 := NB387_374.out
                have hs52 : w48.cell? ⟨gb387, 2, none⟩ = some (.slice none 0 0) := (bkC BK387.out 2).trans rfl
                have hfs52 := bkF BK387.out 2
                have hns52_0 := NB365_387.out
                have hns52_1 := NB374_387.out
                have hms52_0 := NB387_365.out
                have hms52_1 := NB387_374.out
                refine skip_ (w1 := ?_) (by rfl) rfl ?_ ?_
                rotate_left
                · go_simp
                  rfl
                refine hK.out _ _ ⟨((cell_far (p := ⟨gb387, _, none⟩) NB374_387.out _).trans (((cell_far (p := ⟨gb387, _, none⟩) NB374_387.out _).trans (((cell_far (p := ⟨gb387, _, none⟩) NB374_387.out _).trans (hHeld.1)))))), ((cell_far (p := ⟨gb387, _, none⟩) NB374_387.out _).trans (((cell_far (p := ⟨gb387, _, none⟩) NB374_387.out _).trans (((cell_far (p := ⟨gb387, _, none⟩) NB374_387.out _).trans (hHeld.2.1)))))), ((cell_far (p := ⟨gb387, _, none⟩) NB374_387.out _).trans (((cell_far (p := ⟨gb387, _, none⟩) NB374_387.out _).trans (((cell_far (p := ⟨gb387, _, none⟩) NB374_387.out _).trans (hHeld.2.2))))))⟩ (fun hHeld => ?_)
                clear hK K
                refine pure_ (i := 12) (N := some 11) (v := ?_) (a' := ?_) #[true, true, true, true, true, true, true, true, true, true, true, true, true] rfl rfl (any_of HT_.out (by kernel_rfl)) (fun _ _ _ h => h) (Or.inl ⟨by rfl, ?_⟩) ?_ ?_
                rotate_left
                · intro w'
                  go_simp
                  with_reducible rfl
                rotate_left
                · simp only [Act.put, List.setIfInBounds_toArray, List.set_cons_zero, List.set_cons_succ, i64_w, i32_w]
                  rfl
                refine done_ (done_of HT_.out (by kernel_rfl)) ?_
                have n0_ : Az (Kd.R k54 54 (((w48.setCell ⟨gb387, 0, none⟩ (.int .i64 t381)).setCell ⟨gb387, 1, none⟩ (.int .i64 t382)).setCell ⟨gb387, 2, none⟩ (.slice Ao51 t383.length co51)) w.heap.size (fun k_ => some k_ ≠ (v379 : Value).ownBlock) (.slice Ao39 t371.length co39) t371) := ⟨by (with_reducible repeat (first | apply Kd.R_alloc | apply Kd.R_drewN | apply Kd.R_drew)); exact Kd.R_mono (Kd.R_far (p := ⟨gb387, 2, none⟩) (Kd.R_far (p := ⟨gb387, 1, none⟩) (Kd.R_far (p := ⟨gb387, 0, none⟩) (Kd.R_types HO373.out BK387.out (by decide)) (fun _ hk => hk.2) (.int .i64 t381)) (fun _ hk => hk.2) (.int .i64 t382)) (fun _ hk => hk.2) (.slice Ao51 t383.length co51)) (fun _ hk => hk.1)⟩
                have n1_ : Az (Kd.R k54 54 (((w48.setCell ⟨gb387, 0, none⟩ (.int .i64 t381)).setCell ⟨gb387, 1, none⟩ (.int .i64 t382)).setCell ⟨gb387, 2, none⟩ (.slice Ao51 t383.length co51)) w.heap.size (fun k_ => some k_ ≠ (.slice Ao39 t371.length co39 : Value).ownBlock) v379 y378) := ⟨by (with_reducible repeat (first | apply Kd.R_alloc | apply Kd.R_drewN | apply Kd.R_drew)); exact Kd.R_mono (Kd.R_far (p := ⟨gb387, 2, none⟩) (Kd.R_far (p := ⟨gb387, 1, none⟩) (Kd.R_far (p := ⟨gb387, 0, none⟩) (Kd.R_types HO380.out BK387.out (by decide)) (fun _ hk => hk.2) (.int .i64 t381)) (fun _ hk => hk.2) (.int .i64 t382)) (fun _ hk => hk.2) (.slice Ao51 t383.length co51)) (fun _ hk => hk.1)⟩
                have n2_ : Az (Kd.V k54 54 (((w48.setCell ⟨gb387, 0, none⟩ (.int .i64 t381)).setCell ⟨gb387, 1, none⟩ (.int .i64 t382)).setCell ⟨gb387, 2, none⟩ (.slice Ao51 t383.length co51)) w.heap.size (fun k_ => some k_ ≠ (v379 : Value).ownBlock ∧ k_ ≠ gb365 ∧ k_ ≠ gb374 ∧ k_ ≠ gb387) (.slice Ao51 t383.length co51) t383) := ⟨by (with_reducible repeat (first | apply Kd.V_alloc | apply Kd.V_drewN | apply Kd.V_drew)); exact Kd.V_mono (Kd.V_far (p := ⟨gb387, 2, none⟩) (Kd.V_far (p := ⟨gb387, 1, none⟩) (Kd.V_far (p := ⟨gb387, 0, none⟩) (Kd.V_mono HO385.out (fun k_ hk => (⟨hk, hk.2.2.2⟩ : _ ∧ k_ ≠ gb387))) (fun _ hk => hk.2) (.int .i64 t381)) (fun _ hk => hk.2) (.int .i64 t382)) (fun _ hk => hk.2) (.slice Ao51 t383.length co51)) (fun _ hk => ⟨hk.1.1, ⟨hk.1.2.1, ⟨hk.1.2.2.1, hk.1.2.2.2⟩⟩⟩)⟩
                have n3_ : Az ((((w48.setCell ⟨gb387, 0, none⟩ (.int .i64 t381)).setCell ⟨gb387, 1, none⟩ (.int .i64 t382)).setCell ⟨gb387, 2, none⟩ (.slice Ao51 t383.length co51)).heap[gb365]? = some (.cells #[.int .i64 a0_0, .int .i64 a0_1, .slice A0_2 l0_2.length c0_2] 24 (0, 0))) := ⟨by (with_reducible repeat (first | refine bkN ?_ _ | refine bkD ?_ | refine bkA ?_ _)); refine blk_far ?_ NB365_387.out _; (with_reducible repeat (first | refine bkN ?_ _ | refine bkD ?_ | refine bkA ?_ _)); refine blk_far ?_ NB365_387.out _; (with_reducible repeat (first | refine bkN ?_ _ | refine bkD ?_ | refine bkA ?_ _)); refine blk_far ?_ NB365_387.out _; (with_reducible repeat (first | refine bkN ?_ _ | refine bkD ?_ | refine bkA ?_ _)); exact BK365.out⟩
                have n4_ : Az ((((w48.setCell ⟨gb387, 0, none⟩ (.int .i64 t381)).setCell ⟨gb387, 1, none⟩ (.int .i64 t382)).setCell ⟨gb387, 2, none⟩ (.slice Ao51 t383.length co51)).heap[gb374]? = some (.cells #[.int .i64 t369, .int .i64 t370, .slice Ao39 t371.length co39] 24 (0, 0))) := ⟨by (with_reducible repeat (first | refine bkN ?_ _ | refine bkD ?_ | refine bkA ?_ _)); refine blk_far ?_ NB374_387.out _; (with_reducible repeat (first | refine bkN ?_ _ | refine bkD ?_ | refine bkA ?_ _)); refine blk_far ?_ NB374_387.out _; (with_reducible repeat (first | refine bkN ?_ _ | refine bkD ?_ | refine bkA ?_ _)); refine blk_far ?_ NB374_387.out _; (with_reducible repeat (first | refine bkN ?_ _ | refine bkD ?_ | refine bkA ?_ _)); exact BK374.out⟩
                have n5_ : Az ((((w48.setCell ⟨gb387, 0, none⟩ (.int .i64 t381)).setCell ⟨gb387, 1, none⟩ (.int .i64 t382)).setCell ⟨gb387, 2, none⟩ (.slice Ao51 t383.length co51)).heap[gb387]? = some (.cells #[.int .i64 t381, .int .i64 t382, .slice Ao51 t383.length co51] 24 (0, 0))) := ⟨by (with_reducible repeat (first | refine bkN ?_ _ | refine bkD ?_ | refine bkA ?_ _)); refine blk_put (cs := #[.int .i64 t381, .int .i64 t382, .slice none 0 0]) ?_ 2 _ rfl; (with_reducible repeat (first | refine bkN ?_ _ | refine bkD ?_ | refine bkA ?_ _)); refine blk_put (cs := #[.int .i64 t381, .int .i64 0, .slice none 0 0]) ?_ 1 _ rfl; (with_reducible repeat (first | refine bkN ?_ _ | refine bkD ?_ | refine bkA ?_ _)); refine blk_put (cs := #[.int .i64 0, .int .i64 0, .slice none 0 0]) ?_ 0 _ rfl; (with_reducible repeat (first | refine bkN ?_ _ | refine bkD ?_ | refine bkA ?_ _)); exact BK387.out⟩
                have n6_ : Az (Below w.heap.size w (((w48.setCell ⟨gb387, 0, none⟩ (.int .i64 t381)).setCell ⟨gb387, 1, none⟩ (.int .i64 t382)).setCell ⟨gb387, 2, none⟩ (.slice Ao51 t383.length co51))) := ⟨by repeat (first | (with_reducible first | exact HB.out | apply pbA | apply pbN | apply pb1 | refine pbS ?_ GE365.out | refine pbS ?_ GE374.out | refine pbS ?_ GE387.out) | exact HB.out)⟩
                (try clear HO373)
                (try clear HO380)
                (try clear HO385)
                (try clear BK365)
                (try clear BK374)
                (try clear BK387)
                (try clear HB)
                generalize (((w48.setCell ⟨gb387, 0, none⟩ (.int .i64 t381)).setCell ⟨gb387, 1, none⟩ (.int .i64 t382)).setCell ⟨gb387, 2, none⟩ (.slice Ao51 t383.length co51)) = w53 at n0_ n1_ n2_ n3_ n4_ n5_ n6_ ⊢
                have HO373 := n0_
                have HO380 := n1_
                have HO385 := n2_
                have BK365 := n3_
                have BK374 := n4_
                have BK387 := n5_
                have HB := n6_
                clear n0_ n1_ n2_ n3_ n4_ n5_ n6_
                have hnb54 := NB365_387.out
                have hnc54 := NB387_365.out
                have hcz55_0 : w53.cell? ⟨gb365, 0, none⟩ = some (.int .i64 a0_0) := (bkC BK365.out 0).trans rfl
                have hcz55_1 : w53.cell? ⟨gb365, 1, none⟩ = some (.int .i64 a0_1) := (bkC BK365.out 1).trans rfl
                have hcz55_2 : w53.cell? ⟨gb365, 2, none⟩ = some (.slice A0_2 l0_2.length c0_2) := (bkC BK365.out 2).trans rfl
                have hfz55_0 := bkF BK365.out 0
                have hfz55_1 := bkF BK365.out 1
                have hfz55_2 := bkF BK365.out 2
                try go_wp2_with (first | ((with_reducible refine gtc (f := 20) rfl ?_); refine goesL_ (some 45) rfl rfl Tryd.func20 (by kernel_rfl) rfl #[.agg #[.int .i64 a0_0, .int .i64 a0_1, .slice A0_2 l0_2.length c0_2], .int .i64 a1, .int .i64 a2, .slice A3 l3.length c3] rfl (by (try simp only [List.map_toArray, List.map_cons, List.map_nil]); first | done | rfl | (simp only [List.length_drop, List.length_take]; rfl)) ?_; (with_reducible refine (r11_Merge.calls kj4 a0_0 a0_1 (fun k_ => k_ < w.heap.size) _ _ l0_2 a1 a2 _ _ l3 t388 t389 t390 t393 _ ?side1 ?side2 ?side3 ?side4 A27.out).mono ?_); (case side1 => exact hG.below (by repeat (first | (with_reducible first | exact HB.out | apply pbA | apply pbN | apply pb1 | refine pbS ?_ GE365.out | refine pbS ?_ GE374.out | refine pbS ?_ GE387.out) | exact HB.out))); (case side2 => exact Kd.V_mk HC0_2.out (Kd.F_below (Kd.C_F k54_heap HR0_2.out) (by repeat (first | (with_reducible first | exact HB.out | apply pbA | apply pbN | apply pb1 | refine pbS ?_ GE365.out | refine pbS ?_ GE374.out | refine pbS ?_ GE387.out) | exact HB.out)))); (case side3 => repeat (first | exact (Kd.C_below HR3.out HB.out) | (with_reducible refine Kd.C_alloc ?_ _) | (with_reducible refine Kd.C_drewN ?_ _) | (with_reducible refine Kd.C_drew ?_))); (case side4 => exact HC3.out); rintro e w56 ⟨v391, rfl, ho0, hb⟩; refine ⟨_, rfl, ?_⟩; have n0_ := Az.mk (Kd.R_below (by (with_reducible repeat (first | apply Kd.R_alloc | apply Kd.R_drewN | apply Kd.R_drew)); exact HO373.out) hb); have n1_ := Az.mk (Kd.R_below (by (with_reducible repeat (first | apply Kd.R_alloc | apply Kd.R_drewN | apply Kd.R_drew)); exact HO380.out) hb); have n2_ := Az.mk (Kd.V_below (by (with_reducible repeat (first | apply Kd.V_alloc | apply Kd.V_drewN | apply Kd.V_drew)); exact HO385.out) hb); have n3_ := Az.mk (Kd.V_lower (Kd.V_mono (ok' := fun k_ => some k_ ≠ (.slice Ao39 t371.length co39 : Value).ownBlock ∧ some k_ ≠ (v379 : Value).ownBlock ∧ k_ ≠ gb365 ∧ k_ ≠ gb374 ∧ k_ ≠ gb387) ho0 (fun k_ hk_ => ⟨Or.elim hk_ (fun hs_ => fun e_ => Nat.not_le.2 hs_ (Kd.R_base HO373.out k_ e_.symm)) (fun hn_ => (Kd.fresh' (Kd.R_lt (by (with_reducible repeat (first | apply Kd.R_alloc | apply Kd.R_drewN | apply Kd.R_drew)); exact HO373.out)) k_ hn_)), Or.elim hk_ (fun hs_ => fun e_ => Nat.not_le.2 hs_ (Kd.R_base HO380.out k_ e_.symm)) (fun hn_ => (Kd.fresh' (Kd.R_lt (by (with_reducible repeat (first | apply Kd.R_alloc | apply Kd.R_drewN | apply Kd.R_drew)); exact HO380.out)) k_ hn_)), Or.elim hk_ (fun hs_ => fun e_ => Nat.not_le.2 hs_ (by rw [e_]; exact GW365.out)) (fun hn_ => (Kd.freshB (g := gb365) (o := .cells #[.int .i64 a0_0, .int .i64 a0_1, .slice A0_2 l0_2.length c0_2] 24 (0, 0)) (by (with_reducible repeat (first | refine bkN ?_ _ | refine bkD ?_ | refine bkA ?_ _)); exact BK365.out) k_ hn_)), Or.elim hk_ (fun hs_ => fun e_ => Nat.not_le.2 hs_ (by rw [e_]; exact GW374.out)) (fun hn_ => (Kd.freshB (g := gb374) (o := .cells #[.int .i64 t369, .int .i64 t370, .slice Ao39 t371.length co39] 24 (0, 0)) (by (with_reducible repeat (first | refine bkN ?_ _ | refine bkD ?_ | refine bkA ?_ _)); exact BK374.out) k_ hn_)), Or.elim hk_ (fun hs_ => fun e_ => Nat.not_le.2 hs_ (by rw [e_]; exact GW387.out)) (fun hn_ => (Kd.freshB (g := gb387) (o := .cells #[.int .i64 t381, .int .i64 t382, .slice Ao51 t383.length co51] 24 (0, 0)) (by (with_reducible repeat (first | refine bkN ?_ _ | refine bkD ?_ | refine bkA ?_ _)); exact BK387.out) k_ hn_))⟩)) (pbZ (by repeat (first | (with_reducible first | exact HB.out | apply pbA | apply pbN | apply pb1 | refine pbS ?_ GE365.out | refine pbS ?_ GE374.out | refine pbS ?_ GE387.out) | exact HB.out)))); have n4_ := Az.mk (bkB (g := gb365) (o := .cells #[.int .i64 a0_0, .int .i64 a0_1, .slice A0_2 l0_2.length c0_2] 24 (0, 0)) (by (with_reducible repeat (first | refine bkN ?_ _ | refine bkD ?_ | refine bkA ?_ _)); exact BK365.out) hb); have n5_ := Az.mk (bkB (g := gb374) (o := .cells #[.int .i64 t369, .int .i64 t370, .slice Ao39 t371.length co39] 24 (0, 0)) (by (with_reducible repeat (first | refine bkN ?_ _ | refine bkD ?_ | refine bkA ?_ _)); exact BK374.out) hb); have n6_ := Az.mk (bkB (g := gb387) (o := .cells #[.int .i64 t381, .int .i64 t382, .slice Ao51 t383.length co51] 24 (0, 0)) (by (with_reducible repeat (first | refine bkN ?_ _ | refine bkD ?_ | refine bkA ?_ _)); exact BK387.out) hb); have n7_ := Az.mk (pbT (by repeat (first | (with_reducible first | exact HB.out | apply pbA | apply pbN | apply pb1 | refine pbS ?_ GE365.out | refine pbS ?_ GE374.out | refine pbS ?_ GE387.out) | exact HB.out)) hb); clear HO373; clear HO380; clear HO385; clear BK365; clear BK374; clear BK387; clear HB; have HO373 := n0_; have HO380 := n1_; have HO385 := n2_; have HO392 := n3_; have BK365 := n4_; have BK374 := n5_; have BK387 := n6_; have HB := n7_; clear n0_ n1_ n2_ n3_ n4_ n5_ n6_ n7_; (try clear hb); (try clear hb2); (try clear hk); (try clear hi); (try clear ho0)) | ((with_reducible refine gate_dst (N := 12) rfl ?_); (try (refine gate_guard (by rfl) ?_; dsimp only)); refine box_event ?hg (N := 12) ?hd (cs := #[.int .i64 0, .int .i64 0, .slice none 0 0]) (t := 24) ?hr ?_; (case hd => rfl); (case hg => rfl); (case hr => first | (go_simp; done) | (go_simp; rfl)); intro gb394 hg w57 hbox hb; have n0_ := Az.mk (Kd.R_below (by (with_reducible repeat (first | apply Kd.R_alloc | apply Kd.R_drewN | apply Kd.R_drew)); exact HO373.out) hb); have n1_ := Az.mk (Kd.R_below (by (with_reducible repeat (first | apply Kd.R_alloc | apply Kd.R_drewN | apply Kd.R_drew)); exact HO380.out) hb); have n2_ := Az.mk (Kd.V_below (Kd.V_elderB (by (with_reducible repeat (first | apply Kd.V_alloc | apply Kd.V_drewN | apply Kd.V_drew)); exact HO385.out) gb394 (Nat.le_of_eq hg.symm)) hb); have n3_ := Az.mk (Kd.V_below (Kd.V_elderB (by (with_reducible repeat (first | apply Kd.V_alloc | apply Kd.V_drewN | apply Kd.V_drew)); exact HO392.out) gb394 (Nat.le_of_eq hg.symm)) hb); have n4_ := Az.mk (bkB (g := gb365) (o := .cells #[.int .i64 a0_0, .int .i64 a0_1, .slice A0_2 l0_2.length c0_2] 24 (0, 0)) (by (with_reducible repeat (first | refine bkN ?_ _ | refine bkD ?_ | refine bkA ?_ _)); exact BK365.out) hb); have n5_ := Az.mk (bkB (g := gb374) (o := .cells #[.int .i64 t369, .int .i64 t370, .slice Ao39 t371.length co39] 24 (0, 0)) (by (with_reducible repeat (first | refine bkN ?_ _ | refine bkD ?_ | refine bkA ?_ _)); exact BK374.out) hb); have n6_ := Az.mk (bkB (g := gb387) (o := .cells #[.int .i64 t381, .int .i64 t382, .slice Ao51 t383.length co51] 24 (0, 0)) (by (with_reducible repeat (first | refine bkN ?_ _ | refine bkD ?_ | refine bkA ?_ _)); exact BK387.out) hb); have n7_ := Az.mk (pbT (by repeat (first | (with_reducible first | exact HB.out | apply pbA | apply pbN | apply pb1 | refine pbS ?_ GE365.out | refine pbS ?_ GE374.out | refine pbS ?_ GE387.out) | exact HB.out)) hb); have n8_ := Az.mk (hbox); have n9_ := Az.mk ((by rw [hg]; exact (pbZ (by repeat (first | (with_reducible first | exact HB.out | apply pbA | apply pbN | apply pb1 | refine pbS ?_ GE365.out | refine pbS ?_ GE374.out | refine pbS ?_ GE387.out) | exact HB.out))) : w.heap.size ≤ gb394)); have n10_ := Az.mk ((by rw [hg]; exact (pbZ (by repeat (first | (with_reducible first | exact HB.out | apply pbA | apply pbN | apply pb1 | refine pbS ?_ GE365.out | refine pbS ?_ GE374.out | refine pbS ?_ GE387.out) | exact HB.out))) : w.heap.size ≤ gb394)); have n11_ := Az.mk ((by rw [hg]; exact Nat.ne_of_lt (blk_lt (g := gb365) (o := .cells #[.int .i64 a0_0, .int .i64 a0_1, .slice A0_2 l0_2.length c0_2] 24 (0, 0)) (by (with_reducible repeat (first | refine bkN ?_ _ | refine bkD ?_ | refine bkA ?_ _)); exact BK365.out)) : gb365 ≠ gb394)); have n12_ := Az.mk ((by rw [hg]; exact Nat.ne_of_gt (blk_lt (g := gb365) (o := .cells #[.int .i64 a0_0, .int .i64 a0_1, .slice A0_2 l0_2.length c0_2] 24 (0, 0)) (by (with_reducible repeat (first | refine bkN ?_ _ | refine bkD ?_ | refine bkA ?_ _)); exact BK365.out)) : gb394 ≠ gb365)); have n13_ := Az.mk ((by rw [hg]; exact Nat.ne_of_lt (blk_lt (g := gb374) (o := .cells #[.int .i64 t369, .int .i64 t370, .slice Ao39 t371.length co39] 24 (0, 0)) (by (with_reducible repeat (first | refine bkN ?_ _ | refine bkD ?_ | refine bkA ?_ _)); exact BK374.out)) : gb374 ≠ gb394)); have n14_ := Az.mk ((by rw [hg]; exact Nat.ne_of_gt (blk_lt (g := gb374) (o := .cells #[.int .i64 t369, .int .i64 t370, .slice Ao39 t371.length co39] 24 (0, 0)) (by (with_reducible repeat (first | refine bkN ?_ _ | refine bkD ?_ | refine bkA ?_ _)); exact BK374.out)) : gb394 ≠ gb374)); have n15_ := Az.mk ((by rw [hg]; exact Nat.ne_of_lt (blk_lt (g := gb387) (o := .cells #[.int .i64 t381, .int .i64 t382, .slice Ao51 t383.length co51] 24 (0, 0)) (by (with_reducible repeat (first | refine bkN ?_ _ | refine bkD ?_ | refine bkA ?_ _)); exact BK387.out)) : gb387 ≠ gb394)); have n16_ := Az.mk ((by rw [hg]; exact Nat.ne_of_gt (blk_lt (g := gb387) (o := .cells #[.int .i64 t381, .int .i64 t382, .slice Ao51 t383.length co51] 24 (0, 0)) (by (with_reducible repeat (first | refine bkN ?_ _ | refine bkD ?_ | refine bkA ?_ _)); exact BK387.out)) : gb394 ≠ gb387)); clear HO373; clear HO380; clear HO385; clear HO392; clear BK365; clear BK374; clear BK387; clear HB; have HO373 := n0_; have HO380 := n1_; have HO385 := n2_; have HO392 := n3_; have BK365 := n4_; have BK374 := n5_; have BK387 := n6_; have HB := n7_; have BK394 := n8_; have GW394 := n9_; have GE394 := n10_; have NB365_394 := n11_; have NB394_365 := n12_; have NB374_394 := n13_; have NB394_374 := n14_; have NB387_394 := n15_; have NB394_387 := n16_; clear n0_ n1_ n2_ n3_ n4_ n5_ n6_ n7_ n8_ n9_ n10_ n11_ n12_ n13_ n14_ n15_ n16_; clear hb hbox hg; have hnb58 := NB394_365.out; have hnc58 := NB365_394.out; have hnb59 := NB394_374.out; have hnc59 := NB374_394.out; have hnb60 := NB394_387.out; have hnc60 := NB387_394.out; have hcz61_0 : w57.cell? ⟨gb394, 0, none⟩ = some (.int .i64 0) := (bkC BK394.out 0).trans rfl; have hcz61_1 : w57.cell? ⟨gb394, 1, none⟩ = some (.int .i64 0) := (bkC BK394.out 1).trans rfl; have hcz61_2 : w57.cell? ⟨gb394, 2, none⟩ = some (.slice none 0 0) := (bkC BK394.out 2).trans rfl; have hfz61_0 := bkF BK394.out 0; have hfz61_1 := bkF BK394.out 1; have hfz61_2 := bkF BK394.out 2; obtain ⟨Ao62, co62, eo62⟩ := Kd.V_slice HO392.out; subst eo62; have hnb63 := NB387_374.out; have hnc63 := NB374_387.out; have hcz64_0 : w57.cell? ⟨gb387, 0, none⟩ = some (.int .i64 t381) := (bkC BK387.out 0).trans rfl; have hcz64_1 : w57.cell? ⟨gb387, 1, none⟩ = some (.int .i64 t382) := (bkC BK387.out 1).trans rfl; have hcz64_2 : w57.cell? ⟨gb387, 2, none⟩ = some (.slice Ao51 t383.length co51) := (bkC BK387.out 2).trans rfl; have hfz64_0 := bkF BK387.out 0; have hfz64_1 := bkF BK387.out 1; have hfz64_2 := bkF BK387.out 2) | ((with_reducible refine gtc (f := 18) rfl ?_); refine goesL_ (some 50) rfl rfl Tryd.func18 (by kernel_rfl) rfl #[.agg #[.int .i64 t381, .int .i64 t382, .slice Ao51 t383.length co51], .agg #[.int .i64 t388, .int .i64 t389, .slice Ao62 t390.length co62]] rfl (by (try simp only [List.map_toArray, List.map_cons, List.map_nil]); first | done | rfl | (simp only [List.length_drop, List.length_take]; rfl)) ?_; (with_reducible refine (r11_Same.calls kj4 t381 t382 _ _ t383 t388 t389 _ _ t390 true _ ?side1 ?side2 ?side3 ?side4 ?side5 A28.out).mono ?_); (case side1 => exact hG.below (by repeat (first | (with_reducible first | exact HB.out | apply pbA | apply pbN | apply pb1 | refine pbS ?_ GE365.out | refine pbS ?_ GE374.out | refine pbS ?_ GE387.out | refine pbS ?_ GE394.out) | exact HB.out))); (case side2 => refine (Kd.V_reads' (e := 54) (base := w.heap.size) (ok := fun k_ => ((some k_ ≠ (v379 : Value).ownBlock ∧ (k_ ≠ gb365 ∧ (k_ ≠ gb374 ∧ k_ ≠ gb387))) ∧ k_ ≠ gb394)) (n := t383.length) (c := co51) ?_).2.2; exact (by (with_reducible repeat (first | apply Kd.V_alloc | apply Kd.V_drewN | apply Kd.V_drew)); exact (Kd.V_mono (Kd.V_far (p := ⟨gb394, 2, none⟩) (Kd.V_far (p := ⟨gb394, 1, none⟩) (Kd.V_far (p := ⟨gb394, 0, none⟩) (Kd.V_mono HO385.out (fun k_ hk => (⟨hk, hk.2⟩ : _ ∧ k_ ≠ gb394))) (fun _ hk => hk.2) (.int .i64 t388)) (fun _ hk => hk.2) (.int .i64 t389)) (fun _ hk => hk.2) (.slice Ao62 t390.length co62)) (fun _ h_ => h_.1)))); (case side3 => exact (Kd.V_reads' HO385.out).2.1); (case side4 => refine (Kd.V_reads' (e := 54) (base := w.heap.size) (ok := fun k_ => ((some k_ ≠ (.slice Ao39 t371.length co39 : Value).ownBlock ∧ (some k_ ≠ (v379 : Value).ownBlock ∧ (k_ ≠ gb365 ∧ (k_ ≠ gb374 ∧ k_ ≠ gb387)))) ∧ k_ ≠ gb394)) (n := t390.length) (c := co62) ?_).2.2; exact (by (with_reducible repeat (first | apply Kd.V_alloc | apply Kd.V_drewN | apply Kd.V_drew)); exact (Kd.V_mono (Kd.V_far (p := ⟨gb394, 2, none⟩) (Kd.V_far (p := ⟨gb394, 1, none⟩) (Kd.V_far (p := ⟨gb394, 0, none⟩) (Kd.V_mono HO392.out (fun k_ hk => (⟨hk, hk.2⟩ : _ ∧ k_ ≠ gb394))) (fun _ hk => hk.2) (.int .i64 t388)) (fun _ hk => hk.2) (.int .i64 t389)) (fun _ hk => hk.2) (.slice Ao62 t390.length co62)) (fun _ h_ => h_.1)))); (case side5 => exact (Kd.V_reads' HO392.out).2.1); rintro e w65 ⟨rfl, hb⟩; refine ⟨_, rfl, ?_⟩; have n0_ := Az.mk (Kd.R_below (by (with_reducible repeat (first | apply Kd.R_alloc | apply Kd.R_drewN | apply Kd.R_drew)); exact (Kd.R_mono (Kd.R_far (p := ⟨gb394, 2, none⟩) (Kd.R_far (p := ⟨gb394, 1, none⟩) (Kd.R_far (p := ⟨gb394, 0, none⟩) (Kd.R_types HO373.out BK394.out (by decide)) (fun _ hk => hk.2) (.int .i64 t388)) (fun _ hk => hk.2) (.int .i64 t389)) (fun _ hk => hk.2) (.slice Ao62 t390.length co62)) (fun _ h_ => h_.1))) hb); have n1_ := Az.mk (Kd.R_below (by (with_reducible repeat (first | apply Kd.R_alloc | apply Kd.R_drewN | apply Kd.R_drew)); exact (Kd.R_mono (Kd.R_far (p := ⟨gb394, 2, none⟩) (Kd.R_far (p := ⟨gb394, 1, none⟩) (Kd.R_far (p := ⟨gb394, 0, none⟩) (Kd.R_types HO380.out BK394.out (by decide)) (fun _ hk => hk.2) (.int .i64 t388)) (fun _ hk => hk.2) (.int .i64 t389)) (fun _ hk => hk.2) (.slice Ao62 t390.length co62)) (fun _ h_ => h_.1))) hb); have n2_ := Az.mk (Kd.V_below (by (with_reducible repeat (first | apply Kd.V_alloc | apply Kd.V_drewN | apply Kd.V_drew)); exact (Kd.V_mono (Kd.V_far (p := ⟨gb394, 2, none⟩) (Kd.V_far (p := ⟨gb394, 1, none⟩) (Kd.V_far (p := ⟨gb394, 0, none⟩) (Kd.V_mono HO385.out (fun k_ hk => (⟨hk, hk.2⟩ : _ ∧ k_ ≠ gb394))) (fun _ hk => hk.2) (.int .i64 t388)) (fun _ hk => hk.2) (.int .i64 t389)) (fun _ hk => hk.2) (.slice Ao62 t390.length co62)) (fun _ h_ => h_.1))) hb); have n3_ := Az.mk (Kd.V_below (by (with_reducible repeat (first | apply Kd.V_alloc | apply Kd.V_drewN | apply Kd.V_drew)); exact (Kd.V_mono (Kd.V_far (p := ⟨gb394, 2, none⟩) (Kd.V_far (p := ⟨gb394, 1, none⟩) (Kd.V_far (p := ⟨gb394, 0, none⟩) (Kd.V_mono HO392.out (fun k_ hk => (⟨hk, hk.2⟩ : _ ∧ k_ ≠ gb394))) (fun _ hk => hk.2) (.int .i64 t388)) (fun _ hk => hk.2) (.int .i64 t389)) (fun _ hk => hk.2) (.slice Ao62 t390.length co62)) (fun _ h_ => h_.1))) hb); have n4_ := Az.mk (bkB (g := gb365) (o := .cells #[.int .i64 a0_0, .int .i64 a0_1, .slice A0_2 l0_2.length c0_2] 24 (0, 0)) (by (with_reducible repeat (first | refine bkN ?_ _ | refine bkD ?_ | refine bkA ?_ _)); refine blk_far ?_ NB365_394.out _; (with_reducible repeat (first | refine bkN ?_ _ | refine bkD ?_ | refine bkA ?_ _)); refine blk_far ?_ NB365_394.out _; (with_reducible repeat (first | refine bkN ?_ _ | refine bkD ?_ | refine bkA ?_ _)); refine blk_far ?_ NB365_394.out _; (with_reducible repeat (first | refine bkN ?_ _ | refine bkD ?_ | refine bkA ?_ _)); exact BK365.out) hb); have n5_ := Az.mk (bkB (g := gb374) (o := .cells #[.int .i64 t369, .int .i64 t370, .slice Ao39 t371.length co39] 24 (0, 0)) (by (with_reducible repeat (first | refine bkN ?_ _ | refine bkD ?_ | refine bkA ?_ _)); refine blk_far ?_ NB374_394.out _; (with_reducible repeat (first | refine bkN ?_ _ | refine bkD ?_ | refine bkA ?_ _)); refine blk_far ?_ NB374_394.out _; (with_reducible repeat (first | refine bkN ?_ _ | refine bkD ?_ | refine bkA ?_ _)); refine blk_far ?_ NB374_394.out _; (with_reducible repeat (first | refine bkN ?_ _ | refine bkD ?_ | refine bkA ?_ _)); exact BK374.out) hb); have n6_ := Az.mk (bkB (g := gb387) (o := .cells #[.int .i64 t381, .int .i64 t382, .slice Ao51 t383.length co51] 24 (0, 0)) (by (with_reducible repeat (first | refine bkN ?_ _ | refine bkD ?_ | refine bkA ?_ _)); refine blk_far ?_ NB387_394.out _; (with_reducible repeat (first | refine bkN ?_ _ | refine bkD ?_ | refine bkA ?_ _)); refine blk_far ?_ NB387_394.out _; (with_reducible repeat (first | refine bkN ?_ _ | refine bkD ?_ | refine bkA ?_ _)); refine blk_far ?_ NB387_394.out _; (with_reducible repeat (first | refine bkN ?_ _ | refine bkD ?_ | refine bkA ?_ _)); exact BK387.out) hb); have n7_ := Az.mk (bkB (g := gb394) (o := .cells #[.int .i64 t388, .int .i64 t389, .slice Ao62 t390.length co62] 24 (0, 0)) (by (with_reducible repeat (first | refine bkN ?_ _ | refine bkD ?_ | refine bkA ?_ _)); refine blk_put (cs := #[.int .i64 t388, .int .i64 t389, .slice none 0 0]) ?_ 2 _ rfl; (with_reducible repeat (first | refine bkN ?_ _ | refine bkD ?_ | refine bkA ?_ _)); refine blk_put (cs := #[.int .i64 t388, .int .i64 0, .slice none 0 0]) ?_ 1 _ rfl; (with_reducible repeat (first | refine bkN ?_ _ | refine bkD ?_ | refine bkA ?_ _)); refine blk_put (cs := #[.int .i64 0, .int .i64 0, .slice none 0 0]) ?_ 0 _ rfl; (with_reducible repeat (first | refine bkN ?_ _ | refine bkD ?_ | refine bkA ?_ _)); exact BK394.out) hb); have n8_ := Az.mk (pbT (by repeat (first | (with_reducible first | exact HB.out | apply pbA | apply pbN | apply pb1 | refine pbS ?_ GE365.out | refine pbS ?_ GE374.out | refine pbS ?_ GE387.out | refine pbS ?_ GE394.out) | exact HB.out)) hb); clear HO373; clear HO380; clear HO385; clear HO392; clear BK365; clear BK374; clear BK387; clear BK394; clear HB; have HO373 := n0_; have HO380 := n1_; have HO385 := n2_; have HO392 := n3_; have BK365 := n4_; have BK374 := n5_; have BK387 := n6_; have BK394 := n7_; have HB := n8_; clear n0_ n1_ n2_ n3_ n4_ n5_ n6_ n7_ n8_; (try clear hb); (try clear hb2); (try clear hk); (try clear hi); have hcz66_0 : w65.cell? ⟨gb374, 0, none⟩ = some (.int .i64 t369) := (bkC BK374.out 0).trans rfl; have hcz66_1 : w65.cell? ⟨gb374, 1, none⟩ = some (.int .i64 t370) := (bkC BK374.out 1).trans rfl; have hcz66_2 : w65.cell? ⟨gb374, 2, none⟩ = some (.slice Ao39 t371.length co39) := (bkC BK374.out 2).trans rfl; have hfz66_0 := bkF BK374.out 0; have hfz66_1 := bkF BK374.out 1; have hfz66_2 := bkF BK374.out 2; have hcz67_0 : w65.cell? ⟨gb365, 0, none⟩ = some (.int .i64 a0_0) := (bkC BK365.out 0).trans rfl; have hcz67_1 : w65.cell? ⟨gb365, 1, none⟩ = some (.int .i64 a0_1) := (bkC BK365.out 1).trans rfl; have hcz67_2 : w65.cell? ⟨gb365, 2, none⟩ = some (.slice A0_2 l0_2.length c0_2) := (bkC BK365.out 2).trans rfl; have hfz67_0 := bkF BK365.out 0; have hfz67_1 := bkF BK365.out 1; have hfz67_2 := bkF BK365.out 2) | (go_at_call 18; (with_reducible refine (r11_Same.calls kj4 t369 t370 _ _ t371 a0_0 a0_1 _ _ l0_2 true _ ?side1 ?side2 ?side3 ?side4 ?side5 A31.out).mono ?_); (case side1 => exact hG.below (by repeat (first | (with_reducible first | exact HB.out | apply pbA | apply pbN | apply pb1 | refine pbS ?_ GE365.out | refine pbS ?_ GE374.out | refine pbS ?_ GE387.out | refine pbS ?_ GE394.out) | exact HB.out))); (case side2 => repeat (first | exact (Kd.R_reads' HO373.out).2.2 | (with_reducible refine Kd.C_alloc ?_ _) | (with_reducible refine Kd.C_drewN ?_ _) | (with_reducible refine Kd.C_drew ?_))); (case side3 => exact (Kd.R_reads' HO373.out).2.1); (case side4 => repeat (first | exact (Kd.C_below HR0_2.out HB.out) | (with_reducible refine Kd.C_alloc ?_ _) | (with_reducible refine Kd.C_drewN ?_ _) | (with_reducible refine Kd.C_drew ?_))); (case side5 => exact HC0_2.out); rintro e w68 ⟨rfl, hb⟩; have n0_ := Az.mk (Kd.R_below (by (with_reducible repeat (first | apply Kd.R_alloc | apply Kd.R_drewN | apply Kd.R_drew)); exact HO373.out) hb); have n1_ := Az.mk (Kd.R_below (by (with_reducible repeat (first | apply Kd.R_alloc | apply Kd.R_drewN | apply Kd.R_drew)); exact HO380.out) hb); have n2_ := Az.mk (Kd.V_below (by (with_reducible repeat (first | apply Kd.V_alloc | apply Kd.V_drewN | apply Kd.V_drew)); exact HO385.out) hb); have n3_ := Az.mk (Kd.V_below (by (with_reducible repeat (first | apply Kd.V_alloc | apply Kd.V_drewN | apply Kd.V_drew)); exact HO392.out) hb); have n4_ := Az.mk (bkB (g := gb365) (o := .cells #[.int .i64 a0_0, .int .i64 a0_1, .slice A0_2 l0_2.length c0_2] 24 (0, 0)) (by (with_reducible repeat (first | refine bkN ?_ _ | refine bkD ?_ | refine bkA ?_ _)); exact BK365.out) hb); have n5_ := Az.mk (bkB (g := gb374) (o := .cells #[.int .i64 t369, .int .i64 t370, .slice Ao39 t371.length co39] 24 (0, 0)) (by (with_reducible repeat (first | refine bkN ?_ _ | refine bkD ?_ | refine bkA ?_ _)); exact BK374.out) hb); have n6_ := Az.mk (bkB (g := gb387) (o := .cells #[.int .i64 t381, .int .i64 t382, .slice Ao51 t383.length co51] 24 (0, 0)) (by (with_reducible repeat (first | refine bkN ?_ _ | refine bkD ?_ | refine bkA ?_ _)); exact BK387.out) hb); have n7_ := Az.mk (bkB (g := gb394) (o := .cells #[.int .i64 t388, .int .i64 t389, .slice Ao62 t390.length co62] 24 (0, 0)) (by (with_reducible repeat (first | refine bkN ?_ _ | refine bkD ?_ | refine bkA ?_ _)); exact BK394.out) hb); have n8_ := Az.mk (pbT (by repeat (first | (with_reducible first | exact HB.out | apply pbA | apply pbN | apply pb1 | refine pbS ?_ GE365.out | refine pbS ?_ GE374.out | refine pbS ?_ GE387.out | refine pbS ?_ GE394.out) | exact HB.out)) hb); clear HO373; clear HO380; clear HO385; clear HO392; clear BK365; clear BK374; clear BK387; clear BK394; clear HB; have HO373 := n0_; have HO380 := n1_; have HO385 := n2_; have HO392 := n3_; have BK365 := n4_; have BK374 := n5_; have BK387 := n6_; have BK394 := n7_; have HB := n8_; clear n0_ n1_ n2_ n3_ n4_ n5_ n6_ n7_ n8_; (try clear hb); (try clear hb2); (try clear hk); (try clear hi)) | (go_at_call 9; (with_reducible refine (l11_live.calls  t397 _ ?side1 A33.out).mono ?_); (case side1 => exact hG.below (by repeat (first | (with_reducible first | exact HB.out | apply pbA | apply pbN | apply pb1 | refine pbS ?_ GE365.out | refine pbS ?_ GE374.out | refine pbS ?_ GE387.out | refine pbS ?_ GE394.out) | exact HB.out))); rintro e w69 ⟨rfl, hb⟩; have n0_ := Az.mk (Kd.R_below (by (with_reducible repeat (first | apply Kd.R_alloc | apply Kd.R_drewN | apply Kd.R_drew)); exact HO373.out) hb); have n1_ := Az.mk (Kd.R_below (by (with_reducible repeat (first | apply Kd.R_alloc | apply Kd.R_drewN | apply Kd.R_drew)); exact HO380.out) hb); have n2_ := Az.mk (Kd.V_below (by (with_reducible repeat (first | apply Kd.V_alloc | apply Kd.V_drewN | apply Kd.V_drew)); exact HO385.out) hb); have n3_ := Az.mk (Kd.V_below (by (with_reducible repeat (first | apply Kd.V_alloc | apply Kd.V_drewN | apply Kd.V_drew)); exact HO392.out) hb); have n4_ := Az.mk (bkB (g := gb365) (o := .cells #[.int .i64 a0_0, .int .i64 a0_1, .slice A0_2 l0_2.length c0_2] 24 (0, 0)) (by (with_reducible repeat (first | refine bkN ?_ _ | refine bkD ?_ | refine bkA ?_ _)); exact BK365.out) hb); have n5_ := Az.mk (bkB (g := gb374) (o := .cells #[.int .i64 t369, .int .i64 t370, .slice Ao39 t371.length co39] 24 (0, 0)) (by (with_reducible repeat (first | refine bkN ?_ _ | refine bkD ?_ | refine bkA ?_ _)); exact BK374.out) hb); have n6_ := Az.mk (bkB (g := gb387) (o := .cells #[.int .i64 t381, .int .i64 t382, .slice Ao51 t383.length co51] 24 (0, 0)) (by (with_reducible repeat (first | refine bkN ?_ _ | refine bkD ?_ | refine bkA ?_ _)); exact BK387.out) hb); have n7_ := Az.mk (bkB (g := gb394) (o := .cells #[.int .i64 t388, .int .i64 t389, .slice Ao62 t390.length co62] 24 (0, 0)) (by (with_reducible repeat (first | refine bkN ?_ _ | refine bkD ?_ | refine bkA ?_ _)); exact BK394.out) hb); have n8_ := Az.mk (pbT (by repeat (first | (with_reducible first | exact HB.out | apply pbA | apply pbN | apply pb1 | refine pbS ?_ GE365.out | refine pbS ?_ GE374.out | refine pbS ?_ GE387.out | refine pbS ?_ GE394.out) | exact HB.out)) hb); clear HO373; clear HO380; clear HO385; clear HO392; clear BK365; clear BK374; clear BK387; clear BK394; clear HB; have HO373 := n0_; have HO380 := n1_; have HO385 := n2_; have HO392 := n3_; have BK365 := n4_; have BK374 := n5_; have BK387 := n6_; have BK394 := n7_; have HB := n8_; clear n0_ n1_ n2_ n3_ n4_ n5_ n6_ n7_ n8_; (try clear hb); (try clear hb2); (try clear hk); (try clear hi)))
                go_ret
                exact ⟨by first | rfl | (simp [errW_none, errW_some] <;> rfl) | (simp [*, errW_none, errW_some] <;> rfl), by repeat (first | (with_reducible first | exact HB.out | apply pbA | apply pbN | apply pb1 | refine pbS ?_ GE365.out | refine pbS ?_ GE374.out | refine pbS ?_ GE387.out | refine pbS ?_ GE394.out) | exact HB.out)⟩
              · replace c32 := Bool.eq_false_iff.mpr c32
                subst c32
                have H1 : (some false) = some r := by rw [if_neg (show ¬ (false = true) by decide)] at H; exact H
                clear H
                have H := H1
                clear H1
                exact absurd (Option.some.inj (H.trans (congrArg some hr))) (by decide)
            · rw [if_neg c30] at H
              have c30b0 : (t386 == t393) = false := by simpa using c30
              (try (have c30b1 : decide (t386 = t393) = false := by simpa using c30))
              (try (have c30b2 : (t386 == t393) = false := by simpa using c30))
              (try (have c30b3 : ¬ (t386 = t393) := by simpa using c30))
              clear c30
              exact absurd (Option.some.inj (H.trans (congrArg some hr))) (by decide)
          · replace c29 := Bool.eq_false_iff.mpr c29
            subst c29
            have H1 : (some false) = some r := by rw [if_neg (show ¬ (false = true) by decide)] at H; exact H
            clear H
            have H := H1
            clear H1
            exact absurd (Option.some.inj (H.trans (congrArg some hr))) (by decide)
        · rw [if_neg c25] at H
          exact absurd H (by simp)
end Go.Proofs.YtjpihfjgomoijaaDoor.P
end
section
/- RollMerges, the plain law. -/
namespace Go.Proofs.YtjpihfjgomoijaaDoor.U
open Go.RowKit Go.Proofs.YtjpihfjgomoijaaDoorW.PrintWords Go.Proofs.YtjpihfjgomoijaaDoorW.PrintLast Go.Proofs.YtjpihfjgomoijaaDoorW.PrintMore Go.Proofs.YtjpihfjgomoijaaDoor.P Go.Proofs.YtjpihfjgomoijaaDoor.K Go.Proofs.YtjpihfjgomoijaaDoor.A Go.Proofs.YtjpihfjgomoijaaDoor.V
theorem RollMerges : ∀ (a0_0 : Int), (Lit.int .i64 a0_0).wf = true → ∀ (a0_1 : Int), (Lit.int .i64 a0_1).wf = true → ∀ (l0_2 : List S54), (l0_2.length * 24 ≤ reachBytes ∧ l0_2.length ≤ maxLen ∧ ∀ x ∈ l0_2, ((Lit.int .i64 x.f0).wf = true ∧ x.f1.size ≤ reachBytes)) → ∀ (a1 : Int), (Lit.int .i64 a1).wf = true → ∀ (a2 : Int), (Lit.int .i64 a2).wf = true → ∀ (l3 : List S54), (l3.length * 24 ≤ reachBytes ∧ l3.length ≤ maxLen ∧ ∀ x ∈ l3, ((Lit.int .i64 x.f0).wf = true ∧ x.f1.size ≤ reachBytes)) → ∃ k, l11_RollMerges.f k a0_0 a0_1 l0_2 a1 a2 l3 = some true := by
  intro b _ bt _ l ⟨hl1, _, hl3⟩ i hi0 t _ m ⟨hm1, _, _⟩
  have hreach : reachBytes = 140737488351232 := rfl
  have hi := isI_wf hi0
  refine Ev.rounds ?_
  have hbad : Ev (fun k => l11_RollMerges.j0 k i t m true b bt l) true := by
    refine Ev.shift ?_
    simp only [l11_RollMerges.j0, l11_live.f, if_true, Option.bind_some]
    exact Ev.now _
  refine Ev.bind (small_ev b bt l (fun x hx => (hl3 x hx).2) (by omega)) ?_
  refine Ev.ite (fun hsm => ?_) (fun _ => hbad)
  obtain ⟨h1, h2⟩ := smallG_true hsm
  refine Ev.bind (is_ev b bt l (by omega)) ?_
  refine Ev.ite (fun hok => ?_) (fun _ => hbad)
  have hb : 0 ≤ b ∧ b ≤ 1099511627776 := by have := (okR_iff.1 hok).1; omega
  cases hdec : decide ((m.length : Int) > 60) with
  | true => exact hbad
  | false =>
    have hml : m.length ≤ 60 := by have := of_decide_eq_false hdec; omega
    refine Ev.shift ?_
    have hc : ([] : List S54).length + m.length < 5864062014805 := by simp; omega
    simp only [l11_RollMerges.j0, own_eq (b := b) (bt := bt) (l := l) (by omega), Option.bind_some, if_pos hc, List.nil_append, merge_eq hb (show l.length ≤ 1000000000 by omega) (show m.length ≤ 1000000000 by omega) hi]
    refine Ev.ite (fun h => absurd h (by simp)) (fun _ => ?_)
    refine Ev.bind (rmerge_ev hb (show l.length ≤ 1000000000 by omega) (show m.length ≤ 1000000000 by omega) hi) ?_
    have hml2 : (mergeR b bt l i t m).2.2.1.length ≤ 1000 := by
      unfold mergeR
      split
      · split
        · simp only; omega
        · simp only [List.length_append, List.length_take, List.length_drop]; omega
      · simp only; omega
    generalize mergeR b bt l i t m = g at hml2
    refine Ev.bind (same_ev _ _ _ _ _ _ (by omega)) ?_
    refine Ev.ite (fun _ => ?_) (fun h => absurd (by simp) h)
    refine Ev.ite (fun _ => ?_) (fun h => absurd (by simp) h)
    refine Ev.bind (same_ev _ _ _ _ _ _ (by omega)) ?_
    refine Ev.ite (fun _ => ?_) (fun h => absurd (by simp) h)
    simp only [l11_live.f, Option.bind_some]
    exact Ev.now _
end Go.Proofs.YtjpihfjgomoijaaDoor.U
end
section
/- furlong/furlonglaw11.RollMerges answers true at every input: the row and the tied card, out of its walk and of the plain law. -/
namespace Go.Proofs.YtjpihfjgomoijaaDoor.rollMerges
open Go.ChangeShapes Go.WideShapes Go.ChangeAt Go.RowKit Go.Proofs.YtjpihfjgomoijaaDoor.K
open Go.ChangeMaps (open_string shut_string)
open Go.RowKit Go.Proofs.YtjpihfjgomoijaaDoorW.PrintWords Go.Proofs.YtjpihfjgomoijaaDoorW.PrintLast Go.Proofs.YtjpihfjgomoijaaDoorW.PrintMore Go.Proofs.YtjpihfjgomoijaaDoor.P Go.Proofs.YtjpihfjgomoijaaDoor.K Go.Proofs.YtjpihfjgomoijaaDoor.A Go.Proofs.YtjpihfjgomoijaaDoor.V
set_option maxRecDepth 100000 in
theorem opn54 : O.Opn Tryd.prog 54 P.k54 (fun x => ((Lit.int .i64 x.f0).wf = true ∧ x.f1.size ≤ reachBytes)) := O.Opn.iso (fun y => ⟨y.1, y.2⟩) (fun _ => rfl) (O.Opn.struct Tryd.underlying54 (by kernel_rfl) (O.OpnF.cons rfl (by kernel_rfl) (O.Opn.int Tryd.underlying2) (O.OpnF.one rfl (by kernel_rfl) (O.Opn.string Tryd.underlying9))))
theorem fl54 : K.Flat P.k54 := by
  intro w w' x c h
  obtain rfl := P.k54_open h
  exact P.k54_mk w' x
set_option maxRecDepth 100000 in
theorem contract (H : Type) (enc : TypeId × Value → H) (W : World) (base : Nat) (args : Array Value) (ds gs : List (DataW H)) (before : List MemPlace)
    (hval0 : ∀ (j : Nat) t v, Tryd.f4.params[j]? = some t → args[j]? = some v → Value.okWide Tryd.prog W .any base t v)
    (hW : DataW.Whole enc Tryd.prog Tryd.f4.params.toList Rows.rollMergesSpec.vars false W args.toList ds gs before) (hG : TheG W)
    (hsz0 : (DataW.weightsEach Tryd.prog (Tryd.f4.params.toList ++ Rows.rollMergesSpec.plain.varTypes Tryd.prog) (ds ++ gs)).all (· ≤ reachBytes) = true) :
    Calls Tryd.prog 4 args W fun e W' => ∃ v, e = .returned v ∧ Rows.rollMergesSpec.post enc Tryd.prog Tryd.f4 false true false false W args v W' := by
  have hsz : (DataW.weightsEach Tryd.prog (Tryd.f4.params.toList ++ Rows.rollMergesSpec.plain.varTypes Tryd.prog) (ds ++ gs)).all (· ≤ reachBytes) = true := hsz0
  have hval : ∀ (j : Nat) t v, Tryd.f4.params[j]? = some t → args[j]? = some v → Value.okWide Tryd.prog W .any base t v := hval0
  have hW' := hW
  obtain ⟨p, q, hA0, hV, rfl, hfz, hnd⟩ := hW
  have hA : DataW.TrodAll enc Tryd.prog W 0 (fun _ => true) true Tryd.f4.params.toList args.toList ds p := hA0
  rw [Tryd.params4] at hA hval hsz
  obtain ⟨v0, vs0, d0, ds0, p0, q0, hargs, rfl, rfl, h0, r0⟩ := trodAll_cons hA
  obtain ⟨v1, vs1, d1, ds1, p1, q1, rfl, rfl, rfl, h1, r1⟩ := trodAll_cons r0
  obtain ⟨v2, vs2, d2, ds2, p2, q2, rfl, rfl, rfl, h2, r2⟩ := trodAll_cons r1
  obtain ⟨v3, vs3, d3, ds3, p3, q3, rfl, rfl, rfl, h3, r3⟩ := trodAll_cons r2
  obtain ⟨rfl, rfl, rfl⟩ := trodAll_nil r3
  obtain rfl : args = #[v0, v1, v2, v3] := by cases args; simp_all
  obtain ⟨rfl, rfl⟩ := trodVars_none hV
  have k0 := h0
  have lt0 : ∀ x ∈ p0, x.block < W.heap.size := by obtain ⟨m, hm⟩ := k0; exact DataW.trod_lt m _ _ _ hm
  have wt0 : ∀ n ∈ DataW.weights Tryd.prog 24 d0, n ≤ reachBytes := fun n hn => of_decide_eq_true (List.all_eq_true.1 hsz n (DataW.weights_mem_each (j := 0) rfl rfl n hn))
  obtain ⟨cs0, rfl, _⟩ := okWide_struct Tryd.underlying24 (hval 0 24 v0 rfl rfl)
  obtain ⟨fu0, hf0⟩ := h0
  obtain ⟨s0, hK0, hok0⟩ := (O.Opn.struct Tryd.underlying24 (by kernel_rfl) (O.OpnF.cons rfl (by kernel_rfl) (O.Opn.int Tryd.underlying2) (O.OpnF.cons rfl (by kernel_rfl) (O.Opn.int Tryd.underlying2) (O.OpnF.one rfl (by kernel_rfl) (O.Opn.slice Tryd.underlying22 (by kernel_rfl) (by kernel_rfl) opn54))))) H enc W _ _ _ _ _ _ _ hf0 wt0
  obtain ⟨a0_0, a0_1, l0_2⟩ := s0
  obtain ⟨o0_0, o0_1, o0_2⟩ := hok0
  obtain ⟨_, _, hcs0, rfl, _, _, rfl, rfl, A0_2, c0_2, rfl, hc0_2, hr0_2⟩ := hK0
  obtain rfl : cs0 = #[.int .i64 a0_0, .int .i64 a0_1, .slice A0_2 l0_2.length c0_2] := Array.toList_inj.1 (show cs0.toList = [.int .i64 a0_0, .int .i64 a0_1, .slice A0_2 l0_2.length c0_2] from hcs0)
  have k1 := h1
  have lt1 : ∀ x ∈ p1, x.block < W.heap.size := by obtain ⟨m, hm⟩ := k1; exact DataW.trod_lt m _ _ _ hm
  have wt1 : ∀ n ∈ DataW.weights Tryd.prog 2 d1, n ≤ reachBytes := fun n hn => of_decide_eq_true (List.all_eq_true.1 hsz n (DataW.weights_mem_each (j := 1) rfl rfl n hn))
  obtain ⟨a1, rfl, rfl, rfl, w1⟩ := open_int Tryd.underlying2 (hval 1 2 v1 rfl rfl) h1
  have k2 := h2
  have lt2 : ∀ x ∈ p2, x.block < W.heap.size := by obtain ⟨m, hm⟩ := k2; exact DataW.trod_lt m _ _ _ hm
  have wt2 : ∀ n ∈ DataW.weights Tryd.prog 2 d2, n ≤ reachBytes := fun n hn => of_decide_eq_true (List.all_eq_true.1 hsz n (DataW.weights_mem_each (j := 2) rfl rfl n hn))
  obtain ⟨a2, rfl, rfl, rfl, w2⟩ := open_int Tryd.underlying2 (hval 2 2 v2 rfl rfl) h2
  have k3 := h3
  have lt3 : ∀ x ∈ p3, x.block < W.heap.size := by obtain ⟨m, hm⟩ := k3; exact DataW.trod_lt m _ _ _ hm
  have wt3 : ∀ n ∈ DataW.weights Tryd.prog 22 d3, n ≤ reachBytes := fun n hn => of_decide_eq_true (List.all_eq_true.1 hsz n (DataW.weights_mem_each (j := 3) rfl rfl n hn))
  obtain ⟨a3, len3, cap3, rfl⟩ := okWide_slice Tryd.underlying22 (hval 3 22 v3 rfl rfl)
  obtain ⟨fu3, hf3⟩ := h3
  obtain ⟨l3, ⟨A3, c3, hcs3, hc3, hr3⟩, hok3⟩ := (O.Opn.slice Tryd.underlying22 (by kernel_rfl) (by kernel_rfl) opn54) H enc W _ _ _ _ _ _ _ hf3 wt3
  simp [Value.cells] at hcs3
  obtain ⟨rfl, rfl, rfl⟩ := hcs3
  obtain ⟨k, hp⟩ := U.RollMerges a0_0 o0_0 a0_1 o0_1 l0_2 o0_2 a1 w1 a2 w2 l3 hok3
  refine (l11_RollMerges.calls (k := k) (r := true) (w := W) (hG := hG) (hr := rfl) (hr0_2 := hr0_2) (hc0_2 := hc0_2) (hr3 := hr3) (hc3 := hc3) (h := hp)).mono ?_
  rintro e W' ⟨rfl, bel0⟩
  have bel : Below W.heap.size W W' := by first | exact bel0 | exact bel0.below
  exact ⟨_, rfl, _, _, _, [], _, [], hW', trodAll_mk1 (shut_bool Tryd.underlying4 _), (trodAll_cons_mk (Below.trod laidOut (by kernel_rfl) (of_decide_eq_true (by kernel_rfl)) k0 bel lt0) (trodAll_cons_mk (Below.trod laidOut (by kernel_rfl) (of_decide_eq_true (by kernel_rfl)) k1 bel lt1) (trodAll_cons_mk (Below.trod laidOut (by kernel_rfl) (of_decide_eq_true (by kernel_rfl)) k2 bel lt2) (trodAll_cons_mk (Below.trod laidOut (by kernel_rfl) (of_decide_eq_true (by kernel_rfl)) k3 bel lt3) trodAll_mk0)))), rfl, bel.frame _, fun h => by cases h⟩
set_option maxRecDepth 100000 in
theorem lifted (os : Os) (started : os.Started) (H : Type) (enc : TypeId × Value → H) (F : Stop.Interp) :
    ReturnsInHanded {} Tryd.checked os 4 .any ((OpenSpec.ofChange Rows.rollMergesSpec).preRow enc Tryd.prog Tryd.f4 Rows.rollMergesRow.domain false Rows.rollMergesRow.laid) (((OpenSpec.ofChange Rows.rollMergesSpec).at F).post enc Tryd.prog Tryd.f4 false true false false) := by
  have hx : ∃ places, DataW.whole enc Tryd.prog ((World.doorLaid Tryd.prog 62 os).forCall (fun _ _ => 0) ⟨#[], #[.agg #[.int .i64 0, .int .i64 0, .slice none 0 0], .int .i64 0, .int .i64 0, .slice none 0 0], []⟩).memory Tryd.f4.params.toList Rows.rollMergesSpec.vars false (#[.agg #[.int .i64 0, .int .i64 0, .slice none 0 0], .int .i64 0, .int .i64 0, .slice none 0 0] : Array Value).toList 8 = some ([.agg [.lit (.int .i64 0), .lit (.int .i64 0), .nil], .lit (.int .i64 0), .lit (.int .i64 0), .nil], [], places) := ⟨[], by kernel_rfl⟩
  obtain ⟨places, hx⟩ := hx
  refine returnsInHanded_of_row (C := Tryd.checked) (s := OpenSpec.ofChange Rows.rollMergesSpec) own started (by kernel_rfl) Tryd.func4
    (witness_row_atRef (enc := enc) (C := Tryd.checked) false (World.doorLaid Tryd.prog 62 os) #[.agg #[.int .i64 0, .int .i64 0, .slice none 0 0], .int .i64 0, .int .i64 0, .slice none 0 0] rfl (by kernel_rfl) (by kernel_rfl) (by kernel_rfl)
      (OpenSpec.preRow_of_cond 8 hx (by kernel_rfl) (fun k hk => by cases hk) (by kernel_rfl) (MakeChecks.laidMetH_plain _ _ _ (by kernel_rfl) ▸ door_met os _))) ?_
  intro W base args ds gs before hval hW _ _ hsz hL hsh _
  exact contract H enc W base args ds gs before hval hW (theG_of hL hsh) hsz
theorem said : Rows.RollMergesSaid :=
  OpenClaim.holds_of_cond 4 Tryd.f4 rfl rfl rfl rfl rfl rfl rfl ⟨rfl, rfl, rfl, rfl, rfl⟩ rfl rfl rfl rfl rfl (by kernel_rfl) Tryd.func4 (by kernel_rfl)
    (of_decide_eq_true (by kernel_rfl)) (by unfold Func.isWrapper; first | (rw [if_pos (by decide +kernel)]; kernel_rfl) | (rw [if_neg (by decide +kernel)]; exact ⟨rfl, rfl⟩))
    (fun os started H enc _ F => by rw [OpenClaim.pre_eq_preRow]; exact lifted os started H enc F)
theorem plain (f : FuncId) (fn : Func) (hf : Tryd.pinned.checked.prog.funcNamed "furlong/furlonglaw11.RollMerges" = some f) (hfn : Tryd.pinned.checked.prog.funcs[f]? = some fn) :
    true = Tryd.pinned.checked.prog.looks [] ∧ ∀ (j : Nat) t, fn.params[j]? = some t → Tryd.pinned.checked.prog.wantsStandIn t = false := by
  obtain rfl : f = 4 := Option.some.inj ((show Tryd.prog.funcNamed "furlong/furlonglaw11.RollMerges" = some 4 by kernel_rfl).symm.trans hf) |>.symm
  obtain rfl : fn = Tryd.f4 := (Option.some.inj (Tryd.func4.symm.trans hfn)).symm
  refine ⟨by kernel_rfl, fun j t ht => ?_⟩
  rw [Tryd.params4] at ht
  have hm := Array.mem_of_getElem? ht
  simp only [List.mem_toArray, List.mem_cons, List.not_mem_nil, or_false] at hm
  rcases hm with rfl | rfl | rfl | rfl
  · exact (show Tryd.prog.wantsStandIn 24 = false by kernel_rfl)
  · exact (show Tryd.prog.wantsStandIn 2 = false by kernel_rfl)
  · exact (show Tryd.prog.wantsStandIn 2 = false by kernel_rfl)
  · exact (show Tryd.prog.wantsStandIn 22 = false by kernel_rfl)
/-- The tied card. -/
theorem card : Rows.RollMergesCardSaid :=
  Claim7.holds_tied_plain_at .later [] _ _ _ _ said (fun _ h => by cases h) (by kernel_rfl) (fun _ h => by cases h) rollMerges_row_tie rfl ⟨rfl, rfl⟩ (by kernel_rfl) rfl plain (by kernel_rfl)
#print axioms card
end Go.Proofs.YtjpihfjgomoijaaDoor.rollMerges
namespace Go.Proofs.YtjpihfjgomoijaaDoor
theorem rollMerges_holds : Rows.RollMergesCardSaid := rollMerges.card
end Go.Proofs.YtjpihfjgomoijaaDoor
end
