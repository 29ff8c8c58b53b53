import Derived.Test.YtjpihfjgomoijaaDoorZRollOrder1
import Derived.Test.YtjpihfjgomoijaaDoorZRollOrder2
import Derived.Test.YtjpihfjgomoijaaDoorZRollOrder4
set_option linter.unusedVariables false
set_option linter.unusedSimpArgs false
set_option linter.unnecessarySimpa false
section
-- Written by a program of this session (wip/tools/pr.py), over the kit's printer; functions named in the texts imported below are given by hand.
namespace Go.Proofs.YtjpihfjgomoijaaDoor.P
open Go.RowKit Go.Proofs.YtjpihfjgomoijaaDoor.K Go.Proofs.YtjpihfjgomoijaaDoorW.PrintWords Go.Proofs.YtjpihfjgomoijaaDoorW.PrintLast Go.Proofs.YtjpihfjgomoijaaDoorW.PrintMore
attribute [local go_sem] max2_int min2_int max_two min_two max_three min_three max_four min_four   -- for this text's walks alone
/-! ### l11_RollOrder: function 5 -/
def l11_RollOrder.j0 : Nat → Bool → Int → Int → List (S54) → Int → Int → List (S54) → Option (Bool)
  | 0, _, _, _, _, _, _, _ => none
  | k + 1, x28, x399000, x399001, x399002, x400000, x400001, x400002 => if x28 = true then ((l11_live.f).bind fun t404 => (some t404)) else ((roll_Last.f k x399000 x399001 x399002).bind fun bt405 => ((roll_Last.f k x400000 x400001 x400002).bind fun bt407 => ((roll_Newer.f k bt405.2 bt405.1 x400000 x400001 x400002).bind fun t409 => ((roll_Newer.f k bt407.2 bt407.1 x399000 x399001 x399002).bind fun t410 => (if t409 = true then (if bt405.1 = bt407.1 then (if (t410 == (bt405.2 == bt407.2)) = true then ((l11_live.f).bind fun t411 => (some t411)) else (some false)) else (if (t410 == false) = true then ((l11_live.f).bind fun t412 => (some t412)) else (some false))) else (if t410 = true then (if bt405.1 = bt407.1 then (if (false == (bt405.2 == bt407.2)) = true then ((l11_live.f).bind fun t413 => (some t413)) else (some false)) else (if (false == false) = true then ((l11_live.f).bind fun t414 => (some t414)) else (some false))) else (some false)))))))
def l11_RollOrder.f (k : Nat) (a0_0 : Int) (a0_1 : Int) (l0_2 : List (S54)) (a1_0 : Int) (a1_1 : Int) (l1_2 : List (S54)) : Option (Bool) := (l11_small.f k a0_0 a0_1 l0_2).bind fun t400 => (if t400 = true then ((l11_small.f k a1_0 a1_1 l1_2).bind fun t401 => (if t401 = true then ((r11_Is.f k a0_0 a0_1 l0_2).bind fun t402 => (if t402 = true then ((r11_Is.f k a1_0 a1_1 l1_2).bind fun t403 => (l11_RollOrder.j0 k (!t403) a0_0 a0_1 l0_2 a1_0 a1_1 l1_2)) else (l11_RollOrder.j0 k true a0_0 a0_1 l0_2 a1_0 a1_1 l1_2))) else (l11_RollOrder.j0 k true a0_0 a0_1 l0_2 a1_0 a1_1 l1_2))) else (l11_RollOrder.j0 k true a0_0 a0_1 l0_2 a1_0 a1_1 l1_2))
theorem l11_RollOrder.mono_l : ∀ k, (∀ y0 y1 y2 y3 y4 y5 y6, LeO (l11_RollOrder.j0 k y0 y1 y2 y3 y4 y5 y6) (l11_RollOrder.j0 (k + 1) y0 y1 y2 y3 y4 y5 y6))
  | 0 => fun _ _ _ _ _ _ _ r h => by simp [l11_RollOrder.j0] at h
  | k + 1 => by
    have ih0 := l11_RollOrder.mono_l k
    · intro y0 y1 y2 y3 y4 y5 y6
      unfold l11_RollOrder.j0
      repeat' first
      | (with_reducible exact ih0 _ _ _ _ _ _ _)
      | (with_reducible exact l11_small.mono _ _ _ _)
      | (with_reducible exact r11_Is.mono _ _ _ _)
      | (with_reducible exact roll_Last.mono _ _ _ _)
      | (with_reducible exact roll_Newer.mono _ _ _ _ _ _)
      | (with_reducible exact LeO.refl _)
      | (with_reducible exact LeO.none _)
      | (with_reducible refine LeO.ite ?_ ?_)
      | (with_reducible refine LeO.bind ?_ (fun _ => ?_))
      | exact ih0 _ _ _ _ _ _ _
      | exact l11_small.mono _ _ _ _
      | exact r11_Is.mono _ _ _ _
      | exact roll_Last.mono _ _ _ _
      | exact roll_Newer.mono _ _ _ _ _ _
      | exact LeO.none _
      | refine LeO.ite ?_ ?_
      | refine LeO.bind ?_ (fun _ => ?_)
theorem l11_RollOrder.mono : ∀ a0 a1 a2 a3 a4 a5 k, LeO (l11_RollOrder.f k a0 a1 a2 a3 a4 a5) (l11_RollOrder.f (k + 1) a0 a1 a2 a3 a4 a5) := by
  intro a0 a1 a2 a3 a4 a5 k
  have ih0 := l11_RollOrder.mono_l k
  unfold l11_RollOrder.f
  repeat' first
      | (with_reducible exact ih0 _ _ _ _ _ _ _)
      | (with_reducible exact l11_small.mono _ _ _ _)
      | (with_reducible exact r11_Is.mono _ _ _ _)
      | (with_reducible exact roll_Last.mono _ _ _ _)
      | (with_reducible exact roll_Newer.mono _ _ _ _ _ _)
      | (with_reducible exact LeO.refl _)
      | (with_reducible exact LeO.none _)
      | (with_reducible refine LeO.ite ?_ ?_)
      | (with_reducible refine LeO.bind ?_ (fun _ => ?_))
      | exact ih0 _ _ _ _ _ _ _
      | exact l11_small.mono _ _ _ _
      | exact r11_Is.mono _ _ _ _
      | exact roll_Last.mono _ _ _ _
      | exact roll_Newer.mono _ _ _ _ _ _
      | exact LeO.none _
      | refine LeO.ite ?_ ?_
      | refine LeO.bind ?_ (fun _ => ?_)
def l11_RollOrder.T5 : Bool × List (List Nat × List Nat) := (true, [([], []), ([], []), ([], []), ([0, 1, 2], [0, 1, 2]), ([], []), ([], []), ([], []), ([4, 5, 6, 3], [4, 5, 6]), ([3, 7, 0, 1, 2, 3], [3]), ([7, 8, 0, 1, 2, 3, 4, 5, 6, 7, 8], [7])])
def l11_RollOrder.B5 : List Nat := [0, 0, 0, 7, 0, 0, 0, 127, 255, 511]
theorem l11_RollOrder.tab5 : rtab .any (opsOf Tryd.f5 5) = l11_RollOrder.T5 := by kernel_rfl
theorem l11_RollOrder.bits5 : waitsOk l11_RollOrder.T5.2 l11_RollOrder.B5 = true := by kernel_rfl
set_option maxHeartbeats 8000000 in
set_option maxRecDepth 100000 in
theorem l11_RollOrder.calls (k : Nat) (a0_0 : Int) (a0_1 : Int) (A0_2 : Option Addr) (c0_2 : Nat) (l0_2 : List (S54)) (a1_0 : Int) (a1_1 : Int) (A1_2 : Option Addr) (c1_2 : Nat) (l1_2 : List (S54)) (r : Bool) (w : World) (hG : TheG w) (hr : r = true) (hr0_2 : Kd.C k54 w A0_2 l0_2.length l0_2) (hc0_2 : l0_2.length ≤ c0_2) (hr1_2 : Kd.C k54 w A1_2 l1_2.length l1_2) (hc1_2 : l1_2.length ≤ c1_2) (h : l11_RollOrder.f k a0_0 a0_1 l0_2 a1_0 a1_1 l1_2 = some r) :
    Calls Tryd.prog 5 #[.agg #[.int .i64 a0_0, .int .i64 a0_1, .slice A0_2 l0_2.length c0_2], .agg #[.int .i64 a1_0, .int .i64 a1_1, .slice A1_2 l1_2.length c1_2]] w fun e w' => e = .returned (.bool r) ∧ Below w.heap.size w w' := by
  have hu24 := Tryd.underlying24
  have HR0_2 := Az.mk hr0_2
  have HC0_2 := Az.mk hc0_2
  clear hr0_2 hc0_2
  have HR1_2 := Az.mk hr1_2
  have HC1_2 := Az.mk hc1_2
  clear hr1_2 hc1_2
  have HB := Az.mk (Below.refl w.heap.size w)
  have H : ((l11_small.f k a0_0 a0_1 l0_2).bind fun t400 => (if t400 = true then ((l11_small.f k a1_0 a1_1 l1_2).bind fun t401 => (if t401 = true then ((r11_Is.f k a0_0 a0_1 l0_2).bind fun t402 => (if t402 = true then ((r11_Is.f k a1_0 a1_1 l1_2).bind fun t403 => (l11_RollOrder.j0 k (!t403) a0_0 a0_1 l0_2 a1_0 a1_1 l1_2)) else (l11_RollOrder.j0 k true a0_0 a0_1 l0_2 a1_0 a1_1 l1_2))) else (l11_RollOrder.j0 k true a0_0 a0_1 l0_2 a1_0 a1_1 l1_2))) else (l11_RollOrder.j0 k true a0_0 a0_1 l0_2 a1_0 a1_1 l1_2))) = some r := h
  clear h
  have HC3 := Az.mk H
  clear H
  go_enter Tryd.func5, Tryd.ntmps5
  go_upto_region 1 with (first | ((with_reducible refine gate_dst (N := 2) rfl ?_); refine box_event ?hg (N := 2) ?hd (cs := #[.int .i64 a0_0, .int .i64 a0_1, .slice A0_2 l0_2.length c0_2]) (t := 24) ?hr ?_; (case hd => rfl); (case hg => rfl); (case hr => first | (go_simp; done) | (go_simp; rfl)); intro gb398 hg w4 hbox hb; have n0_ := Az.mk (pbT (by repeat (first | (with_reducible first | exact HB.out | apply pbA | apply pbN | apply pb1) | exact HB.out)) hb); have n1_ := Az.mk (hbox); have n2_ := Az.mk ((by rw [hg]; exact (pbZ (by repeat (first | (with_reducible first | exact HB.out | apply pbA | apply pbN | apply pb1) | exact HB.out))) : w.heap.size ≤ gb398)); have n3_ := Az.mk ((by rw [hg]; exact (pbZ (by repeat (first | (with_reducible first | exact HB.out | apply pbA | apply pbN | apply pb1) | exact HB.out))) : w.heap.size ≤ gb398)); clear HB; have HB := n0_; have BK398 := n1_; have GW398 := n2_; have GE398 := n3_; clear n0_ n1_ n2_ n3_; clear hb hbox hg) | ((with_reducible refine gate_dst (N := 3) rfl ?_); refine box_event ?hg (N := 3) ?hd (cs := #[.int .i64 a1_0, .int .i64 a1_1, .slice A1_2 l1_2.length c1_2]) (t := 24) ?hr ?_; (case hd => rfl); (case hg => rfl); (case hr => first | (go_simp; done) | (go_simp; rfl)); intro gb399 hg w5 hbox hb; have n0_ := Az.mk (bkB (g := gb398) (o := .cells #[.int .i64 a0_0, .int .i64 a0_1, .slice A0_2 l0_2.length c0_2] 24 (0, 0)) (by (with_reducible repeat (first | refine bkN ?_ _ | refine bkD ?_ | refine bkA ?_ _)); exact BK398.out) hb); have n1_ := Az.mk (pbT (by repeat (first | (with_reducible first | exact HB.out | apply pbA | apply pbN | apply pb1 | refine pbS ?_ GE398.out) | exact HB.out)) hb); have n2_ := Az.mk (hbox); have n3_ := Az.mk ((by rw [hg]; exact (pbZ (by repeat (first | (with_reducible first | exact HB.out | apply pbA | apply pbN | apply pb1 | refine pbS ?_ GE398.out) | exact HB.out))) : w.heap.size ≤ gb399)); have n4_ := Az.mk ((by rw [hg]; exact (pbZ (by repeat (first | (with_reducible first | exact HB.out | apply pbA | apply pbN | apply pb1 | refine pbS ?_ GE398.out) | exact HB.out))) : w.heap.size ≤ gb399)); have n5_ := Az.mk ((by rw [hg]; exact Nat.ne_of_lt (blk_lt (g := gb398) (o := .cells #[.int .i64 a0_0, .int .i64 a0_1, .slice A0_2 l0_2.length c0_2] 24 (0, 0)) (by (with_reducible repeat (first | refine bkN ?_ _ | refine bkD ?_ | refine bkA ?_ _)); exact BK398.out)) : gb398 ≠ gb399)); have n6_ := Az.mk ((by rw [hg]; exact Nat.ne_of_gt (blk_lt (g := gb398) (o := .cells #[.int .i64 a0_0, .int .i64 a0_1, .slice A0_2 l0_2.length c0_2] 24 (0, 0)) (by (with_reducible repeat (first | refine bkN ?_ _ | refine bkD ?_ | refine bkA ?_ _)); exact BK398.out)) : gb399 ≠ gb398)); clear BK398; clear HB; have BK398 := n0_; have HB := n1_; have BK399 := n2_; have GW399 := n3_; have GE399 := n4_; have NB398_399 := n5_; have NB399_398 := n6_; clear n0_ n1_ n2_ n3_ n4_ n5_ n6_; clear hb hbox hg))
  (try simp only [Act.put, List.setIfInBounds_toArray, List.set_cons_zero, List.set_cons_succ])
  go_cut [28] (fun v28 wc => ∃ (kq : Nat) (x28_2 : Bool), v28 = .bool x28_2 ∧ Az (l11_RollOrder.j0 kq x28_2 a0_0 a0_1 l0_2 a1_0 a1_1 l1_2 = some r) ∧ Az (kq ≤ k) ∧ Az (wc.heap[gb398]? = some (.cells #[.int .i64 a0_0, .int .i64 a0_1, (.slice A0_2 l0_2.length c0_2)] 24 (0, 0))) ∧ Az (wc.heap[gb399]? = some (.cells #[.int .i64 a1_0, .int .i64 a1_1, (.slice A1_2 l1_2.length c1_2)] 24 (0, 0))) ∧ Az (Below w.heap.size w wc))
  case first =>
    have H := HC3.out
    clear HC3
    replace H := Option.bind_eq_some_iff.mp H
    obtain ⟨t400, A60, H⟩ := H
    replace H : (if t400 = true then ((l11_small.f k a1_0 a1_1 l1_2).bind fun t401 => (if t401 = true then ((r11_Is.f k a0_0 a0_1 l0_2).bind fun t402 => (if t402 = true then ((r11_Is.f k a1_0 a1_1 l1_2).bind fun t403 => (l11_RollOrder.j0 k (!t403) a0_0 a0_1 l0_2 a1_0 a1_1 l1_2)) else (l11_RollOrder.j0 k true a0_0 a0_1 l0_2 a1_0 a1_1 l1_2))) else (l11_RollOrder.j0 k true a0_0 a0_1 l0_2 a1_0 a1_1 l1_2))) else (l11_RollOrder.j0 k true a0_0 a0_1 l0_2 a1_0 a1_1 l1_2)) = some r := H
    have A6 := Az.mk A60
    clear A60
    by_cases c7 : t400 = true
    · subst c7
      have H1 : ((l11_small.f k a1_0 a1_1 l1_2).bind fun t401 => (if t401 = true then ((r11_Is.f k a0_0 a0_1 l0_2).bind fun t402 => (if t402 = true then ((r11_Is.f k a1_0 a1_1 l1_2).bind fun t403 => (l11_RollOrder.j0 k (!t403) a0_0 a0_1 l0_2 a1_0 a1_1 l1_2)) else (l11_RollOrder.j0 k true a0_0 a0_1 l0_2 a1_0 a1_1 l1_2))) else (l11_RollOrder.j0 k true a0_0 a0_1 l0_2 a1_0 a1_1 l1_2))) = some r := by rw [if_pos rfl] at H; exact H
      clear H
      have H := H1
      clear H1
      replace H := Option.bind_eq_some_iff.mp H
      obtain ⟨t401, A80, H⟩ := H
      replace H : (if t401 = true then ((r11_Is.f k a0_0 a0_1 l0_2).bind fun t402 => (if t402 = true then ((r11_Is.f k a1_0 a1_1 l1_2).bind fun t403 => (l11_RollOrder.j0 k (!t403) a0_0 a0_1 l0_2 a1_0 a1_1 l1_2)) else (l11_RollOrder.j0 k true a0_0 a0_1 l0_2 a1_0 a1_1 l1_2))) else (l11_RollOrder.j0 k true a0_0 a0_1 l0_2 a1_0 a1_1 l1_2)) = some r := H
      have A8 := Az.mk A80
      clear A80
      by_cases c9 : t401 = true
      · subst c9
        have H1 : ((r11_Is.f k a0_0 a0_1 l0_2).bind fun t402 => (if t402 = true then ((r11_Is.f k a1_0 a1_1 l1_2).bind fun t403 => (l11_RollOrder.j0 k (!t403) a0_0 a0_1 l0_2 a1_0 a1_1 l1_2)) else (l11_RollOrder.j0 k true a0_0 a0_1 l0_2 a1_0 a1_1 l1_2))) = some r := by rw [if_pos rfl] at H; exact H
        clear H
        have H := H1
        clear H1
        replace H := Option.bind_eq_some_iff.mp H
        obtain ⟨t402, A100, H⟩ := H
        replace H : (if t402 = true then ((r11_Is.f k a1_0 a1_1 l1_2).bind fun t403 => (l11_RollOrder.j0 k (!t403) a0_0 a0_1 l0_2 a1_0 a1_1 l1_2)) else (l11_RollOrder.j0 k true a0_0 a0_1 l0_2 a1_0 a1_1 l1_2)) = some r := H
        have A10 := Az.mk A100
        clear A100
        by_cases c11 : t402 = true
        · subst c11
          have H1 : ((r11_Is.f k a1_0 a1_1 l1_2).bind fun t403 => (l11_RollOrder.j0 k (!t403) a0_0 a0_1 l0_2 a1_0 a1_1 l1_2)) = some r := by rw [if_pos rfl] at H; exact H
          clear H
          have H := H1
          clear H1
          replace H := Option.bind_eq_some_iff.mp H
          obtain ⟨t403, A120, H⟩ := H
          replace H : (l11_RollOrder.j0 k (!t403) a0_0 a0_1 l0_2 a1_0 a1_1 l1_2) = some r := H
          have A12 := Az.mk A120
          clear A120
          have H' := Az.mk H
          clear H
          have hnb13 := NB398_399.out
          have hnc13 := NB399_398.out
          have hcz14_0 : w5.cell? ⟨gb398, 0, none⟩ = some (.int .i64 a0_0) := (bkC BK398.out 0).trans rfl
          have hcz14_1 : w5.cell? ⟨gb398, 1, none⟩ = some (.int .i64 a0_1) := (bkC BK398.out 1).trans rfl
          have hcz14_2 : w5.cell? ⟨gb398, 2, none⟩ = some (.slice A0_2 l0_2.length c0_2) := (bkC BK398.out 2).trans rfl
          have hfz14_0 := bkF BK398.out 0
          have hfz14_1 := bkF BK398.out 1
          have hfz14_2 := bkF BK398.out 2
          go_wp2_with (first | ((with_reducible refine gtc (f := 8) rfl ?_); refine goesL_ (some 12) rfl rfl Tryd.func8 (by kernel_rfl) rfl #[.agg #[.int .i64 a0_0, .int .i64 a0_1, .slice A0_2 l0_2.length c0_2]] rfl (by (try simp only [List.map_toArray, List.map_cons, List.map_nil]); first | done | rfl | (simp only [List.length_drop, List.length_take]; rfl)) ?_; (with_reducible refine (l11_small.calls k a0_0 a0_1 _ _ l0_2 true _ ?side1 ?side2 ?side3 A6.out).mono ?_); (case side1 => exact hG.below (by repeat (first | (with_reducible first | exact HB.out | apply pbA | apply pbN | apply pb1 | refine pbS ?_ GE398.out | refine pbS ?_ GE399.out) | exact HB.out))); (case side2 => repeat (first | exact (Kd.C_below HR0_2.out HB.out) | (with_reducible refine Kd.C_alloc ?_ _) | (with_reducible refine Kd.C_drewN ?_ _) | (with_reducible refine Kd.C_drew ?_))); (case side3 => exact HC0_2.out); rintro e w15 ⟨rfl, hb⟩; refine ⟨_, rfl, ?_⟩; have n0_ := Az.mk (bkB (g := gb398) (o := .cells #[.int .i64 a0_0, .int .i64 a0_1, .slice A0_2 l0_2.length c0_2] 24 (0, 0)) (by (with_reducible repeat (first | refine bkN ?_ _ | refine bkD ?_ | refine bkA ?_ _)); exact BK398.out) hb); have n1_ := Az.mk (bkB (g := gb399) (o := .cells #[.int .i64 a1_0, .int .i64 a1_1, .slice A1_2 l1_2.length c1_2] 24 (0, 0)) (by (with_reducible repeat (first | refine bkN ?_ _ | refine bkD ?_ | refine bkA ?_ _)); exact BK399.out) hb); have n2_ := Az.mk (pbT (by repeat (first | (with_reducible first | exact HB.out | apply pbA | apply pbN | apply pb1 | refine pbS ?_ GE398.out | refine pbS ?_ GE399.out) | exact HB.out)) hb); clear BK398; clear BK399; clear HB; have BK398 := n0_; have BK399 := n1_; have HB := n2_; clear n0_ n1_ n2_; (try clear hb); (try clear hb2); (try clear hk); (try clear hi); have hcz16_0 : w15.cell? ⟨gb399, 0, none⟩ = some (.int .i64 a1_0) := (bkC BK399.out 0).trans rfl; have hcz16_1 : w15.cell? ⟨gb399, 1, none⟩ = some (.int .i64 a1_1) := (bkC BK399.out 1).trans rfl; have hcz16_2 : w15.cell? ⟨gb399, 2, none⟩ = some (.slice A1_2 l1_2.length c1_2) := (bkC BK399.out 2).trans rfl; have hfz16_0 := bkF BK399.out 0; have hfz16_1 := bkF BK399.out 1; have hfz16_2 := bkF BK399.out 2) | (go_at_call 8; (with_reducible refine (l11_small.calls k a1_0 a1_1 _ _ l1_2 true _ ?side1 ?side2 ?side3 A8.out).mono ?_); (case side1 => exact hG.below (by repeat (first | (with_reducible first | exact HB.out | apply pbA | apply pbN | apply pb1 | refine pbS ?_ GE398.out | refine pbS ?_ GE399.out) | exact HB.out))); (case side2 => repeat (first | exact (Kd.C_below HR1_2.out HB.out) | (with_reducible refine Kd.C_alloc ?_ _) | (with_reducible refine Kd.C_drewN ?_ _) | (with_reducible refine Kd.C_drew ?_))); (case side3 => exact HC1_2.out); rintro e w17 ⟨rfl, hb⟩; have n0_ := Az.mk (bkB (g := gb398) (o := .cells #[.int .i64 a0_0, .int .i64 a0_1, .slice A0_2 l0_2.length c0_2] 24 (0, 0)) (by (with_reducible repeat (first | refine bkN ?_ _ | refine bkD ?_ | refine bkA ?_ _)); exact BK398.out) hb); have n1_ := Az.mk (bkB (g := gb399) (o := .cells #[.int .i64 a1_0, .int .i64 a1_1, .slice A1_2 l1_2.length c1_2] 24 (0, 0)) (by (with_reducible repeat (first | refine bkN ?_ _ | refine bkD ?_ | refine bkA ?_ _)); exact BK399.out) hb); have n2_ := Az.mk (pbT (by repeat (first | (with_reducible first | exact HB.out | apply pbA | apply pbN | apply pb1 | refine pbS ?_ GE398.out | refine pbS ?_ GE399.out) | exact HB.out)) hb); clear BK398; clear BK399; clear HB; have BK398 := n0_; have BK399 := n1_; have HB := n2_; clear n0_ n1_ n2_; (try clear hb); (try clear hb2); (try clear hk); (try clear hi); have hcz18_0 : w17.cell? ⟨gb398, 0, none⟩ = some (.int .i64 a0_0) := (bkC BK398.out 0).trans rfl; have hcz18_1 : w17.cell? ⟨gb398, 1, none⟩ = some (.int .i64 a0_1) := (bkC BK398.out 1).trans rfl; have hcz18_2 : w17.cell? ⟨gb398, 2, none⟩ = some (.slice A0_2 l0_2.length c0_2) := (bkC BK398.out 2).trans rfl; have hfz18_0 := bkF BK398.out 0; have hfz18_1 := bkF BK398.out 1; have hfz18_2 := bkF BK398.out 2) | (go_at_call 14; (with_reducible refine (r11_Is.calls k a0_0 a0_1 _ _ l0_2 true _ ?side1 ?side2 ?side3 A10.out).mono ?_); (case side1 => exact hG.below (by repeat (first | (with_reducible first | exact HB.out | apply pbA | apply pbN | apply pb1 | refine pbS ?_ GE398.out | refine pbS ?_ GE399.out) | exact HB.out))); (case side2 => repeat (first | exact (Kd.C_below HR0_2.out HB.out) | (with_reducible refine Kd.C_alloc ?_ _) | (with_reducible refine Kd.C_drewN ?_ _) | (with_reducible refine Kd.C_drew ?_))); (case side3 => exact HC0_2.out); rintro e w19 ⟨rfl, hb⟩; have n0_ := Az.mk (bkB (g := gb398) (o := .cells #[.int .i64 a0_0, .int .i64 a0_1, .slice A0_2 l0_2.length c0_2] 24 (0, 0)) (by (with_reducible repeat (first | refine bkN ?_ _ | refine bkD ?_ | refine bkA ?_ _)); exact BK398.out) hb); have n1_ := Az.mk (bkB (g := gb399) (o := .cells #[.int .i64 a1_0, .int .i64 a1_1, .slice A1_2 l1_2.length c1_2] 24 (0, 0)) (by (with_reducible repeat (first | refine bkN ?_ _ | refine bkD ?_ | refine bkA ?_ _)); exact BK399.out) hb); have n2_ := Az.mk (pbT (by repeat (first | (with_reducible first | exact HB.out | apply pbA | apply pbN | apply pb1 | refine pbS ?_ GE398.out | refine pbS ?_ GE399.out) | exact HB.out)) hb); clear BK398; clear BK399; clear HB; have BK398 := n0_; have BK399 := n1_; have HB := n2_; clear n0_ n1_ n2_; (try clear hb); (try clear hb2); (try clear hk); (try clear hi); have hcz20_0 : w19.cell? ⟨gb399, 0, none⟩ = some (.int .i64 a1_0) := (bkC BK399.out 0).trans rfl; have hcz20_1 : w19.cell? ⟨gb399, 1, none⟩ = some (.int .i64 a1_1) := (bkC BK399.out 1).trans rfl; have hcz20_2 : w19.cell? ⟨gb399, 2, none⟩ = some (.slice A1_2 l1_2.length c1_2) := (bkC BK399.out 2).trans rfl; have hfz20_0 := bkF BK399.out 0; have hfz20_1 := bkF BK399.out 1; have hfz20_2 := bkF BK399.out 2) | (go_at_call 14; (with_reducible refine (r11_Is.calls k a1_0 a1_1 _ _ l1_2 t403 _ ?side1 ?side2 ?side3 A12.out).mono ?_); (case side1 => exact hG.below (by repeat (first | (with_reducible first | exact HB.out | apply pbA | apply pbN | apply pb1 | refine pbS ?_ GE398.out | refine pbS ?_ GE399.out) | exact HB.out))); (case side2 => repeat (first | exact (Kd.C_below HR1_2.out HB.out) | (with_reducible refine Kd.C_alloc ?_ _) | (with_reducible refine Kd.C_drewN ?_ _) | (with_reducible refine Kd.C_drew ?_))); (case side3 => exact HC1_2.out); rintro e w21 ⟨rfl, hb⟩; have n0_ := Az.mk (bkB (g := gb398) (o := .cells #[.int .i64 a0_0, .int .i64 a0_1, .slice A0_2 l0_2.length c0_2] 24 (0, 0)) (by (with_reducible repeat (first | refine bkN ?_ _ | refine bkD ?_ | refine bkA ?_ _)); exact BK398.out) hb); have n1_ := Az.mk (bkB (g := gb399) (o := .cells #[.int .i64 a1_0, .int .i64 a1_1, .slice A1_2 l1_2.length c1_2] 24 (0, 0)) (by (with_reducible repeat (first | refine bkN ?_ _ | refine bkD ?_ | refine bkA ?_ _)); exact BK399.out) hb); have n2_ := Az.mk (pbT (by repeat (first | (with_reducible first | exact HB.out | apply pbA | apply pbN | apply pb1 | refine pbS ?_ GE398.out | refine pbS ?_ GE399.out) | exact HB.out)) hb); clear BK398; clear BK399; clear HB; have BK398 := n0_; have BK399 := n1_; have HB := n2_; clear n0_ n1_ n2_; (try clear hb); (try clear hb2); (try clear hk); (try clear hi)))
          go_meet
          case rel => exact ⟨_, (!t403), (by first | rfl | (simp; done) | (simp [*]; done)), H', ⟨by first | omega | exact Nat.le_refl _⟩, ⟨by (with_reducible repeat (first | refine bkN ?_ _ | refine bkD ?_ | refine bkA ?_ _)); exact BK398.out⟩, ⟨by (with_reducible repeat (first | refine bkN ?_ _ | refine bkD ?_ | refine bkA ?_ _)); exact BK399.out⟩, ⟨by repeat (first | (with_reducible first | exact HB.out | apply pbA | apply pbN | apply pb1 | refine pbS ?_ GE398.out | refine pbS ?_ GE399.out) | exact HB.out)⟩⟩
        · replace c11 := Bool.eq_false_iff.mpr c11
          subst c11
          have H1 : (l11_RollOrder.j0 k true a0_0 a0_1 l0_2 a1_0 a1_1 l1_2) = some r := by rw [if_neg (show ¬ (false = true) by decide)] at H; exact H
          clear H
          have H := H1
          clear H1
          have H' := Az.mk H
          clear H
          have hnb22 := NB398_399.out
          have hnc22 := NB399_398.out
          have hcz23_0 : w5.cell? ⟨gb398, 0, none⟩ = some (.int .i64 a0_0) := (bkC BK398.out 0).trans rfl
          have hcz23_1 : w5.cell? ⟨gb398, 1, none⟩ = some (.int .i64 a0_1) := (bkC BK398.out 1).trans rfl
          have hcz23_2 : w5.cell? ⟨gb398, 2, none⟩ = some (.slice A0_2 l0_2.length c0_2) := (bkC BK398.out 2).trans rfl
          have hfz23_0 := bkF BK398.out 0
          have hfz23_1 := bkF BK398.out 1
          have hfz23_2 := bkF BK398.out 2
          go_wp2_with (first | ((with_reducible refine gtc (f := 8) rfl ?_); refine goesL_ (some 12) rfl rfl Tryd.func8 (by kernel_rfl) rfl #[.agg #[.int .i64 a0_0, .int .i64 a0_1, .slice A0_2 l0_2.length c0_2]] rfl (by (try simp only [List.map_toArray, List.map_cons, List.map_nil]); first | done | rfl | (simp only [List.length_drop, List.length_take]; rfl)) ?_; (with_reducible refine (l11_small.calls k a0_0 a0_1 _ _ l0_2 true _ ?side1 ?side2 ?side3 A6.out).mono ?_); (case side1 => exact hG.below (by repeat (first | (with_reducible first | exact HB.out | apply pbA | apply pbN | apply pb1 | refine pbS ?_ GE398.out | refine pbS ?_ GE399.out) | exact HB.out))); (case side2 => repeat (first | exact (Kd.C_below HR0_2.out HB.out) | (with_reducible refine Kd.C_alloc ?_ _) | (with_reducible refine Kd.C_drewN ?_ _) | (with_reducible refine Kd.C_drew ?_))); (case side3 => exact HC0_2.out); rintro e w24 ⟨rfl, hb⟩; refine ⟨_, rfl, ?_⟩; have n0_ := Az.mk (bkB (g := gb398) (o := .cells #[.int .i64 a0_0, .int .i64 a0_1, .slice A0_2 l0_2.length c0_2] 24 (0, 0)) (by (with_reducible repeat (first | refine bkN ?_ _ | refine bkD ?_ | refine bkA ?_ _)); exact BK398.out) hb); have n1_ := Az.mk (bkB (g := gb399) (o := .cells #[.int .i64 a1_0, .int .i64 a1_1, .slice A1_2 l1_2.length c1_2] 24 (0, 0)) (by (with_reducible repeat (first | refine bkN ?_ _ | refine bkD ?_ | refine bkA ?_ _)); exact BK399.out) hb); have n2_ := Az.mk (pbT (by repeat (first | (with_reducible first | exact HB.out | apply pbA | apply pbN | apply pb1 | refine pbS ?_ GE398.out | refine pbS ?_ GE399.out) | exact HB.out)) hb); clear BK398; clear BK399; clear HB; have BK398 := n0_; have BK399 := n1_; have HB := n2_; clear n0_ n1_ n2_; (try clear hb); (try clear hb2); (try clear hk); (try clear hi); have hcz25_0 : w24.cell? ⟨gb399, 0, none⟩ = some (.int .i64 a1_0) := (bkC BK399.out 0).trans rfl; have hcz25_1 : w24.cell? ⟨gb399, 1, none⟩ = some (.int .i64 a1_1) := (bkC BK399.out 1).trans rfl; have hcz25_2 : w24.cell? ⟨gb399, 2, none⟩ = some (.slice A1_2 l1_2.length c1_2) := (bkC BK399.out 2).trans rfl; have hfz25_0 := bkF BK399.out 0; have hfz25_1 := bkF BK399.out 1; have hfz25_2 := bkF BK399.out 2) | (go_at_call 8; (with_reducible refine (l11_small.calls k a1_0 a1_1 _ _ l1_2 true _ ?side1 ?side2 ?side3 A8.out).mono ?_); (case side1 => exact hG.below (by repeat (first | (with_reducible first | exact HB.out | apply pbA | apply pbN | apply pb1 | refine pbS ?_ GE398.out | refine pbS ?_ GE399.out) | exact HB.out))); (case side2 => repeat (first | exact (Kd.C_below HR1_2.out HB.out) | (with_reducible refine Kd.C_alloc ?_ _) | (with_reducible refine Kd.C_drewN ?_ _) | (with_reducible refine Kd.C_drew ?_))); (case side3 => exact HC1_2.out); rintro e w26 ⟨rfl, hb⟩; have n0_ := Az.mk (bkB (g := gb398) (o := .cells #[.int .i64 a0_0, .int .i64 a0_1, .slice A0_2 l0_2.length c0_2] 24 (0, 0)) (by (with_reducible repeat (first | refine bkN ?_ _ | refine bkD ?_ | refine bkA ?_ _)); exact BK398.out) hb); have n1_ := Az.mk (bkB (g := gb399) (o := .cells #[.int .i64 a1_0, .int .i64 a1_1, .slice A1_2 l1_2.length c1_2] 24 (0, 0)) (by (with_reducible repeat (first | refine bkN ?_ _ | refine bkD ?_ | refine bkA ?_ _)); exact BK399.out) hb); have n2_ := Az.mk (pbT (by repeat (first | (with_reducible first | exact HB.out | apply pbA | apply pbN | apply pb1 | refine pbS ?_ GE398.out | refine pbS ?_ GE399.out) | exact HB.out)) hb); clear BK398; clear BK399; clear HB; have BK398 := n0_; have BK399 := n1_; have HB := n2_; clear n0_ n1_ n2_; (try clear hb); (try clear hb2); (try clear hk); (try clear hi); have hcz27_0 : w26.cell? ⟨gb398, 0, none⟩ = some (.int .i64 a0_0) := (bkC BK398.out 0).trans rfl; have hcz27_1 : w26.cell? ⟨gb398, 1, none⟩ = some (.int .i64 a0_1) := (bkC BK398.out 1).trans rfl; have hcz27_2 : w26.cell? ⟨gb398, 2, none⟩ = some (.slice A0_2 l0_2.length c0_2) := (bkC BK398.out 2).trans rfl; have hfz27_0 := bkF BK398.out 0; have hfz27_1 := bkF BK398.out 1; have hfz27_2 := bkF BK398.out 2) | (go_at_call 14; (with_reducible refine (r11_Is.calls k a0_0 a0_1 _ _ l0_2 false _ ?side1 ?side2 ?side3 A10.out).mono ?_); (case side1 => exact hG.below (by repeat (first | (with_reducible first | exact HB.out | apply pbA | apply pbN | apply pb1 | refine pbS ?_ GE398.out | refine pbS ?_ GE399.out) | exact HB.out))); (case side2 => repeat (first | exact (Kd.C_below HR0_2.out HB.out) | (with_reducible refine Kd.C_alloc ?_ _) | (with_reducible refine Kd.C_drewN ?_ _) | (with_reducible refine Kd.C_drew ?_))); (case side3 => exact HC0_2.out); rintro e w28 ⟨rfl, hb⟩; have n0_ := Az.mk (bkB (g := gb398) (o := .cells #[.int .i64 a0_0, .int .i64 a0_1, .slice A0_2 l0_2.length c0_2] 24 (0, 0)) (by (with_reducible repeat (first | refine bkN ?_ _ | refine bkD ?_ | refine bkA ?_ _)); exact BK398.out) hb); have n1_ := Az.mk (bkB (g := gb399) (o := .cells #[.int .i64 a1_0, .int .i64 a1_1, .slice A1_2 l1_2.length c1_2] 24 (0, 0)) (by (with_reducible repeat (first | refine bkN ?_ _ | refine bkD ?_ | refine bkA ?_ _)); exact BK399.out) hb); have n2_ := Az.mk (pbT (by repeat (first | (with_reducible first | exact HB.out | apply pbA | apply pbN | apply pb1 | refine pbS ?_ GE398.out | refine pbS ?_ GE399.out) | exact HB.out)) hb); clear BK398; clear BK399; clear HB; have BK398 := n0_; have BK399 := n1_; have HB := n2_; clear n0_ n1_ n2_; (try clear hb); (try clear hb2); (try clear hk); (try clear hi)))
          go_meet
          case rel => exact ⟨_, (true), (by first | rfl | (simp; done) | (simp [*]; done)), H', ⟨by first | omega | exact Nat.le_refl _⟩, ⟨by (with_reducible repeat (first | refine bkN ?_ _ | refine bkD ?_ | refine bkA ?_ _)); exact BK398.out⟩, ⟨by (with_reducible repeat (first | refine bkN ?_ _ | refine bkD ?_ | refine bkA ?_ _)); exact BK399.out⟩, ⟨by repeat (first | (with_reducible first | exact HB.out | apply pbA | apply pbN | apply pb1 | refine pbS ?_ GE398.out | refine pbS ?_ GE399.out) | exact HB.out)⟩⟩
      · replace c9 := Bool.eq_false_iff.mpr c9
        subst c9
        have H1 : (l11_RollOrder.j0 k true a0_0 a0_1 l0_2 a1_0 a1_1 l1_2) = some r := by rw [if_neg (show ¬ (false = true) by decide)] at H; exact H
        clear H
        have H := H1
        clear H1
        have H' := Az.mk H
        clear H
        have hnb29 := NB398_399.out
        have hnc29 := NB399_398.out
        have hcz30_0 : w5.cell? ⟨gb398, 0, none⟩ = some (.int .i64 a0_0) := (bkC BK398.out 0).trans rfl
        have hcz30_1 : w5.cell? ⟨gb398, 1, none⟩ = some (.int .i64 a0_1) := (bkC BK398.out 1).trans rfl
        have hcz30_2 : w5.cell? ⟨gb398, 2, none⟩ = some (.slice A0_2 l0_2.length c0_2) := (bkC BK398.out 2).trans rfl
        have hfz30_0 := bkF BK398.out 0
        have hfz30_1 := bkF BK398.out 1
        have hfz30_2 := bkF BK398.out 2
        go_wp2_with (first | ((with_reducible refine gtc (f := 8) rfl ?_); refine goesL_ (some 12) rfl rfl Tryd.func8 (by kernel_rfl) rfl #[.agg #[.int .i64 a0_0, .int .i64 a0_1, .slice A0_2 l0_2.length c0_2]] rfl (by (try simp only [List.map_toArray, List.map_cons, List.map_nil]); first | done | rfl | (simp only [List.length_drop, List.length_take]; rfl)) ?_; (with_reducible refine (l11_small.calls k a0_0 a0_1 _ _ l0_2 true _ ?side1 ?side2 ?side3 A6.out).mono ?_); (case side1 => exact hG.below (by repeat (first | (with_reducible first | exact HB.out | apply pbA | apply pbN | apply pb1 | refine pbS ?_ GE398.out | refine pbS ?_ GE399.out) | exact HB.out))); (case side2 => repeat (first | exact (Kd.C_below HR0_2.out HB.out) | (with_reducible refine Kd.C_alloc ?_ _) | (with_reducible refine Kd.C_drewN ?_ _) | (with_reducible refine Kd.C_drew ?_))); (case side3 => exact HC0_2.out); rintro e w31 ⟨rfl, hb⟩; refine ⟨_, rfl, ?_⟩; have n0_ := Az.mk (bkB (g := gb398) (o := .cells #[.int .i64 a0_0, .int .i64 a0_1, .slice A0_2 l0_2.length c0_2] 24 (0, 0)) (by (with_reducible repeat (first | refine bkN ?_ _ | refine bkD ?_ | refine bkA ?_ _)); exact BK398.out) hb); have n1_ := Az.mk (bkB (g := gb399) (o := .cells #[.int .i64 a1_0, .int .i64 a1_1, .slice A1_2 l1_2.length c1_2] 24 (0, 0)) (by (with_reducible repeat (first | refine bkN ?_ _ | refine bkD ?_ | refine bkA ?_ _)); exact BK399.out) hb); have n2_ := Az.mk (pbT (by repeat (first | (with_reducible first | exact HB.out | apply pbA | apply pbN | apply pb1 | refine pbS ?_ GE398.out | refine pbS ?_ GE399.out) | exact HB.out)) hb); clear BK398; clear BK399; clear HB; have BK398 := n0_; have BK399 := n1_; have HB := n2_; clear n0_ n1_ n2_; (try clear hb); (try clear hb2); (try clear hk); (try clear hi); have hcz32_0 : w31.cell? ⟨gb399, 0, none⟩ = some (.int .i64 a1_0) := (bkC BK399.out 0).trans rfl; have hcz32_1 : w31.cell? ⟨gb399, 1, none⟩ = some (.int .i64 a1_1) := (bkC BK399.out 1).trans rfl; have hcz32_2 : w31.cell? ⟨gb399, 2, none⟩ = some (.slice A1_2 l1_2.length c1_2) := (bkC BK399.out 2).trans rfl; have hfz32_0 := bkF BK399.out 0; have hfz32_1 := bkF BK399.out 1; have hfz32_2 := bkF BK399.out 2) | (go_at_call 8; (with_reducible refine (l11_small.calls k a1_0 a1_1 _ _ l1_2 false _ ?side1 ?side2 ?side3 A8.out).mono ?_); (case side1 => exact hG.below (by repeat (first | (with_reducible first | exact HB.out | apply pbA | apply pbN | apply pb1 | refine pbS ?_ GE398.out | refine pbS ?_ GE399.out) | exact HB.out))); (case side2 => repeat (first | exact (Kd.C_below HR1_2.out HB.out) | (with_reducible refine Kd.C_alloc ?_ _) | (with_reducible refine Kd.C_drewN ?_ _) | (with_reducible refine Kd.C_drew ?_))); (case side3 => exact HC1_2.out); rintro e w33 ⟨rfl, hb⟩; have n0_ := Az.mk (bkB (g := gb398) (o := .cells #[.int .i64 a0_0, .int .i64 a0_1, .slice A0_2 l0_2.length c0_2] 24 (0, 0)) (by (with_reducible repeat (first | refine bkN ?_ _ | refine bkD ?_ | refine bkA ?_ _)); exact BK398.out) hb); have n1_ := Az.mk (bkB (g := gb399) (o := .cells #[.int .i64 a1_0, .int .i64 a1_1, .slice A1_2 l1_2.length c1_2] 24 (0, 0)) (by (with_reducible repeat (first | refine bkN ?_ _ | refine bkD ?_ | refine bkA ?_ _)); exact BK399.out) hb); have n2_ := Az.mk (pbT (by repeat (first | (with_reducible first | exact HB.out | apply pbA | apply pbN | apply pb1 | refine pbS ?_ GE398.out | refine pbS ?_ GE399.out) | exact HB.out)) hb); clear BK398; clear BK399; clear HB; have BK398 := n0_; have BK399 := n1_; have HB := n2_; clear n0_ n1_ n2_; (try clear hb); (try clear hb2); (try clear hk); (try clear hi)))
        go_meet
        case rel => exact ⟨_, (true), (by first | rfl | (simp; done) | (simp [*]; done)), H', ⟨by first | omega | exact Nat.le_refl _⟩, ⟨by (with_reducible repeat (first | refine bkN ?_ _ | refine bkD ?_ | refine bkA ?_ _)); exact BK398.out⟩, ⟨by (with_reducible repeat (first | refine bkN ?_ _ | refine bkD ?_ | refine bkA ?_ _)); exact BK399.out⟩, ⟨by repeat (first | (with_reducible first | exact HB.out | apply pbA | apply pbN | apply pb1 | refine pbS ?_ GE398.out | refine pbS ?_ GE399.out) | exact HB.out)⟩⟩
    · replace c7 := Bool.eq_false_iff.mpr c7
      subst c7
      have H1 : (l11_RollOrder.j0 k true a0_0 a0_1 l0_2 a1_0 a1_1 l1_2) = some r := by rw [if_neg (show ¬ (false = true) by decide)] at H; exact H
      clear H
      have H := H1
      clear H1
      have H' := Az.mk H
      clear H
      have hnb34 := NB398_399.out
      have hnc34 := NB399_398.out
      have hcz35_0 : w5.cell? ⟨gb398, 0, none⟩ = some (.int .i64 a0_0) := (bkC BK398.out 0).trans rfl
      have hcz35_1 : w5.cell? ⟨gb398, 1, none⟩ = some (.int .i64 a0_1) := (bkC BK398.out 1).trans rfl
      have hcz35_2 : w5.cell? ⟨gb398, 2, none⟩ = some (.slice A0_2 l0_2.length c0_2) := (bkC BK398.out 2).trans rfl
      have hfz35_0 := bkF BK398.out 0
      have hfz35_1 := bkF BK398.out 1
      have hfz35_2 := bkF BK398.out 2
      go_wp2_with (first | ((with_reducible refine gtc (f := 8) rfl ?_); refine goesL_ (some 12) rfl rfl Tryd.func8 (by kernel_rfl) rfl #[.agg #[.int .i64 a0_0, .int .i64 a0_1, .slice A0_2 l0_2.length c0_2]] rfl (by (try simp only [List.map_toArray, List.map_cons, List.map_nil]); first | done | rfl | (simp only [List.length_drop, List.length_take]; rfl)) ?_; (with_reducible refine (l11_small.calls k a0_0 a0_1 _ _ l0_2 false _ ?side1 ?side2 ?side3 A6.out).mono ?_); (case side1 => exact hG.below (by repeat (first | (with_reducible first | exact HB.out | apply pbA | apply pbN | apply pb1 | refine pbS ?_ GE398.out | refine pbS ?_ GE399.out) | exact HB.out))); (case side2 => repeat (first | exact (Kd.C_below HR0_2.out HB.out) | (with_reducible refine Kd.C_alloc ?_ _) | (with_reducible refine Kd.C_drewN ?_ _) | (with_reducible refine Kd.C_drew ?_))); (case side3 => exact HC0_2.out); rintro e w36 ⟨rfl, hb⟩; refine ⟨_, rfl, ?_⟩; have n0_ := Az.mk (bkB (g := gb398) (o := .cells #[.int .i64 a0_0, .int .i64 a0_1, .slice A0_2 l0_2.length c0_2] 24 (0, 0)) (by (with_reducible repeat (first | refine bkN ?_ _ | refine bkD ?_ | refine bkA ?_ _)); exact BK398.out) hb); have n1_ := Az.mk (bkB (g := gb399) (o := .cells #[.int .i64 a1_0, .int .i64 a1_1, .slice A1_2 l1_2.length c1_2] 24 (0, 0)) (by (with_reducible repeat (first | refine bkN ?_ _ | refine bkD ?_ | refine bkA ?_ _)); exact BK399.out) hb); have n2_ := Az.mk (pbT (by repeat (first | (with_reducible first | exact HB.out | apply pbA | apply pbN | apply pb1 | refine pbS ?_ GE398.out | refine pbS ?_ GE399.out) | exact HB.out)) hb); clear BK398; clear BK399; clear HB; have BK398 := n0_; have BK399 := n1_; have HB := n2_; clear n0_ n1_ n2_; (try clear hb); (try clear hb2); (try clear hk); (try clear hi)))
      go_meet
      case rel => exact ⟨_, (true), (by first | rfl | (simp; done) | (simp [*]; done)), H', ⟨by first | omega | exact Nat.le_refl _⟩, ⟨by (with_reducible repeat (first | refine bkN ?_ _ | refine bkD ?_ | refine bkA ?_ _)); exact BK398.out⟩, ⟨by (with_reducible repeat (first | refine bkN ?_ _ | refine bkD ?_ | refine bkA ?_ _)); exact BK399.out⟩, ⟨by repeat (first | (with_reducible first | exact HB.out | apply pbA | apply pbN | apply pb1 | refine pbS ?_ GE398.out | refine pbS ?_ GE399.out) | exact HB.out)⟩⟩
  case rest =>
    clear HC3
    try clear c1
    try clear c2
    try clear p2
    try clear c3
    try clear c5
    try clear c7
    try clear c8
    try clear c9
    try clear c11
    try clear c13
    try clear c22
    try clear c29
    try clear c34
    try clear hcz14_0
    try clear hcz14_1
    try clear hcz14_2
    try clear hcz16_0
    try clear hcz16_1
    try clear hcz16_2
    try clear hcz18_0
    try clear hcz18_1
    try clear hcz18_2
    try clear hcz20_0
    try clear hcz20_1
    try clear hcz20_2
    try clear hcz23_0
    try clear hcz23_1
    try clear hcz23_2
    try clear hcz25_0
    try clear hcz25_1
    try clear hcz25_2
    try clear hcz27_0
    try clear hcz27_1
    try clear hcz27_2
    try clear hcz30_0
    try clear hcz30_1
    try clear hcz30_2
    try clear hcz32_0
    try clear hcz32_1
    try clear hcz32_2
    try clear hcz35_0
    try clear hcz35_1
    try clear hcz35_2
    try clear hfz14_0
    try clear hfz14_1
    try clear hfz14_2
    try clear hfz16_0
    try clear hfz16_1
    try clear hfz16_2
    try clear hfz18_0
    try clear hfz18_1
    try clear hfz18_2
    try clear hfz20_0
    try clear hfz20_1
    try clear hfz20_2
    try clear hfz23_0
    try clear hfz23_1
    try clear hfz23_2
    try clear hfz25_0
    try clear hfz25_1
    try clear hfz25_2
    try clear hfz27_0
    try clear hfz27_1
    try clear hfz27_2
    try clear hfz30_0
    try clear hfz30_1
    try clear hfz30_2
    try clear hfz32_0
    try clear hfz32_1
    try clear hfz32_2
    try clear hfz35_0
    try clear hfz35_1
    try clear hfz35_2
    obtain ⟨kq, x28_2, rfl, HA, HJ2, BK398, BK399, HB⟩ := hcut
    cases kq with
    | zero => exact absurd HA.out (by simp [l11_RollOrder.j0])
    | succ kj2 =>
      have H := HA.out
      clear HA
      simp only [l11_RollOrder.j0] at H
      by_cases c37 : x28_2 = true
      · subst c37
        have H1 : ((l11_live.f).bind fun t404 => (some t404)) = some r := by rw [if_pos rfl] at H; exact H
        clear H
        have H := H1
        clear H1
        replace H := Option.bind_eq_some_iff.mp H
        obtain ⟨t404, A380, H⟩ := H
        replace H : (some t404) = some r := H
        have A38 := Az.mk A380
        clear A380
        obtain rfl := Option.some.inj H
        go_wp2_with (first | ((with_reducible refine gtc (f := 9) rfl ?_); refine goesL_ (some 29) rfl rfl Tryd.func9 (by kernel_rfl) rfl #[] rfl (by (try simp only [List.map_toArray, List.map_cons, List.map_nil]); first | done | rfl | (simp only [List.length_drop, List.length_take]; rfl)) ?_; (with_reducible refine (l11_live.calls  t404 _ ?side1 A38.out).mono ?_); (case side1 => exact hG.below (by repeat (first | (with_reducible first | exact HB.out | apply pbA | apply pbN | apply pb1 | refine pbS ?_ GE398.out | refine pbS ?_ GE399.out) | exact HB.out))); rintro e w39 ⟨rfl, hb⟩; refine ⟨_, rfl, ?_⟩; have n0_ := Az.mk (bkB (g := gb398) (o := .cells #[.int .i64 a0_0, .int .i64 a0_1, .slice A0_2 l0_2.length c0_2] 24 (0, 0)) (by (with_reducible repeat (first | refine bkN ?_ _ | refine bkD ?_ | refine bkA ?_ _)); exact BK398.out) hb); have n1_ := Az.mk (bkB (g := gb399) (o := .cells #[.int .i64 a1_0, .int .i64 a1_1, .slice A1_2 l1_2.length c1_2] 24 (0, 0)) (by (with_reducible repeat (first | refine bkN ?_ _ | refine bkD ?_ | refine bkA ?_ _)); exact BK399.out) hb); have n2_ := Az.mk (pbT (by repeat (first | (with_reducible first | exact HB.out | apply pbA | apply pbN | apply pb1 | refine pbS ?_ GE398.out | refine pbS ?_ GE399.out) | exact HB.out)) hb); clear BK398; clear BK399; clear HB; have BK398 := n0_; have BK399 := n1_; have HB := n2_; clear n0_ n1_ n2_; (try clear hb); (try clear hb2); (try clear hk); (try clear hi)))
        go_ret
        exact ⟨by first | rfl | (simp [errW_none, errW_some] <;> rfl) | (simp [*, errW_none, errW_some] <;> rfl), by repeat (first | (with_reducible first | exact HB.out | apply pbA | apply pbN | apply pb1 | refine pbS ?_ GE398.out | refine pbS ?_ GE399.out) | exact HB.out)⟩
      · replace c37 := Bool.eq_false_iff.mpr c37
        subst c37
        have H1 : ((roll_Last.f kj2 a0_0 a0_1 l0_2).bind fun bt405 => ((roll_Last.f kj2 a1_0 a1_1 l1_2).bind fun bt407 => ((roll_Newer.f kj2 bt405.2 bt405.1 a1_0 a1_1 l1_2).bind fun t409 => ((roll_Newer.f kj2 bt407.2 bt407.1 a0_0 a0_1 l0_2).bind fun t410 => (if t409 = true then (if bt405.1 = bt407.1 then (if (t410 == (bt405.2 == bt407.2)) = true then ((l11_live.f).bind fun t411 => (some t411)) else (some false)) else (if (t410 == false) = true then ((l11_live.f).bind fun t412 => (some t412)) else (some false))) else (if t410 = true then (if bt405.1 = bt407.1 then (if (false == (bt405.2 == bt407.2)) = true then ((l11_live.f).bind fun t413 => (some t413)) else (some false)) else (if (false == false) = true then ((l11_live.f).bind fun t414 => (some t414)) else (some false))) else (some false))))))) = some r := by rw [if_neg (show ¬ (false = true) by decide)] at H; exact H
        clear H
        have H := H1
        clear H1
        replace H := Option.bind_eq_some_iff.mp H
        obtain ⟨⟨t405, t406⟩, A400, H⟩ := H
        replace H : ((roll_Last.f kj2 a1_0 a1_1 l1_2).bind fun bt407 => ((roll_Newer.f kj2 t406 t405 a1_0 a1_1 l1_2).bind fun t409 => ((roll_Newer.f kj2 bt407.2 bt407.1 a0_0 a0_1 l0_2).bind fun t410 => (if t409 = true then (if t405 = bt407.1 then (if (t410 == (t406 == bt407.2)) = true then ((l11_live.f).bind fun t411 => (some t411)) else (some false)) else (if (t410 == false) = true then ((l11_live.f).bind fun t412 => (some t412)) else (some false))) else (if t410 = true then (if t405 = bt407.1 then (if (false == (t406 == bt407.2)) = true then ((l11_live.f).bind fun t413 => (some t413)) else (some false)) else (if (false == false) = true then ((l11_live.f).bind fun t414 => (some t414)) else (some false))) else (some false)))))) = some r := H
        have A40 := Az.mk A400
        clear A400
        replace H := Option.bind_eq_some_iff.mp H
        obtain ⟨⟨t407, t408⟩, A410, H⟩ := H
        replace H : ((roll_Newer.f kj2 t406 t405 a1_0 a1_1 l1_2).bind fun t409 => ((roll_Newer.f kj2 t408 t407 a0_0 a0_1 l0_2).bind fun t410 => (if t409 = true then (if t405 = t407 then (if (t410 == (t406 == t408)) = true then ((l11_live.f).bind fun t411 => (some t411)) else (some false)) else (if (t410 == false) = true then ((l11_live.f).bind fun t412 => (some t412)) else (some false))) else (if t410 = true then (if t405 = t407 then (if (false == (t406 == t408)) = true then ((l11_live.f).bind fun t413 => (some t413)) else (some false)) else (if (false == false) = true then ((l11_live.f).bind fun t414 => (some t414)) else (some false))) else (some false))))) = some r := H
        have A41 := Az.mk A410
        clear A410
        replace H := Option.bind_eq_some_iff.mp H
        obtain ⟨t409, A420, H⟩ := H
        replace H : ((roll_Newer.f kj2 t408 t407 a0_0 a0_1 l0_2).bind fun t410 => (if t409 = true then (if t405 = t407 then (if (t410 == (t406 == t408)) = true then ((l11_live.f).bind fun t411 => (some t411)) else (some false)) else (if (t410 == false) = true then ((l11_live.f).bind fun t412 => (some t412)) else (some false))) else (if t410 = true then (if t405 = t407 then (if (false == (t406 == t408)) = true then ((l11_live.f).bind fun t413 => (some t413)) else (some false)) else (if (false == false) = true then ((l11_live.f).bind fun t414 => (some t414)) else (some false))) else (some false)))) = some r := H
        have A42 := Az.mk A420
        clear A420
        replace H := Option.bind_eq_some_iff.mp H
        obtain ⟨t410, A430, H⟩ := H
        replace H : (if t409 = true then (if t405 = t407 then (if (t410 == (t406 == t408)) = true then ((l11_live.f).bind fun t411 => (some t411)) else (some false)) else (if (t410 == false) = true then ((l11_live.f).bind fun t412 => (some t412)) else (some false))) else (if t410 = true then (if t405 = t407 then (if (false == (t406 == t408)) = true then ((l11_live.f).bind fun t413 => (some t413)) else (some false)) else (if (false == false) = true then ((l11_live.f).bind fun t414 => (some t414)) else (some false))) else (some false))) = some r := H
        have A43 := Az.mk A430
        clear A430
        by_cases c44 : t409 = true
        · subst c44
          have H1 : (if t405 = t407 then (if (t410 == (t406 == t408)) = true then ((l11_live.f).bind fun t411 => (some t411)) else (some false)) else (if (t410 == false) = true then ((l11_live.f).bind fun t412 => (some t412)) else (some false))) = some r := by rw [if_pos rfl] at H; exact H
          clear H
          have H := H1
          clear H1
          by_cases c45 : t405 = t407
          · rw [if_pos c45] at H
            have c45b0 : (t405 == t407) = true := beq_iff_eq.mpr c45
            have c45b1 : (t405 != t407) = false := bne_eq_false_iff_eq.mpr c45
            clear c45
            by_cases c46 : (t410 == (t406 == t408)) = true
            · rw [if_pos c46] at H
              have c46b0 : (t410 == (t406 == t408)) = true := c46
              (try (have c46b1 : decide (t410 = (t406 == t408)) = true := by simpa using c46))
              (try (have c46b2 : (t410 == (t406 == t408)) = true := by simpa using c46))
              clear c46
              replace H := Option.bind_eq_some_iff.mp H
              obtain ⟨t411, A470, H⟩ := H
              replace H : (some t411) = some r := H
              have A47 := Az.mk A470
              clear A470
              obtain rfl := Option.some.inj H
              have hnb48 := NB398_399.out
              have hnc48 := NB399_398.out
              have hcz49_0 : wc.cell? ⟨gb398, 0, none⟩ = some (.int .i64 a0_0) := (bkC BK398.out 0).trans rfl
              have hcz49_1 : wc.cell? ⟨gb398, 1, none⟩ = some (.int .i64 a0_1) := (bkC BK398.out 1).trans rfl
              have hcz49_2 : wc.cell? ⟨gb398, 2, none⟩ = some (.slice A0_2 l0_2.length c0_2) := (bkC BK398.out 2).trans rfl
              have hfz49_0 := bkF BK398.out 0
              have hfz49_1 := bkF BK398.out 1
              have hfz49_2 := bkF BK398.out 2
              try go_wp2_with (first | ((with_reducible refine gtc (f := 21) rfl ?_); refine goesL_ (some 32) rfl rfl Tryd.func21 (by kernel_rfl) rfl #[.agg #[.int .i64 a0_0, .int .i64 a0_1, .slice A0_2 l0_2.length c0_2]] rfl (by (try simp only [List.map_toArray, List.map_cons, List.map_nil]); first | done | rfl | (simp only [List.length_drop, List.length_take]; rfl)) ?_; (with_reducible refine (roll_Last.calls kj2 a0_0 a0_1 _ _ l0_2 t405 t406 _ ?side1 ?side2 ?side3 A40.out).mono ?_); (case side1 => exact hG.below (by repeat (first | (with_reducible first | exact HB.out | apply pbA | apply pbN | apply pb1 | refine pbS ?_ GE398.out | refine pbS ?_ GE399.out) | exact HB.out))); (case side2 => repeat (first | exact (Kd.C_below HR0_2.out HB.out) | (with_reducible refine Kd.C_alloc ?_ _) | (with_reducible refine Kd.C_drewN ?_ _) | (with_reducible refine Kd.C_drew ?_))); (case side3 => exact HC0_2.out); rintro e w50 ⟨rfl, hb⟩; refine ⟨_, rfl, ?_⟩; have n0_ := Az.mk (bkB (g := gb398) (o := .cells #[.int .i64 a0_0, .int .i64 a0_1, .slice A0_2 l0_2.length c0_2] 24 (0, 0)) (by (with_reducible repeat (first | refine bkN ?_ _ | refine bkD ?_ | refine bkA ?_ _)); exact BK398.out) hb); have n1_ := Az.mk (bkB (g := gb399) (o := .cells #[.int .i64 a1_0, .int .i64 a1_1, .slice A1_2 l1_2.length c1_2] 24 (0, 0)) (by (with_reducible repeat (first | refine bkN ?_ _ | refine bkD ?_ | refine bkA ?_ _)); exact BK399.out) hb); have n2_ := Az.mk (pbT (by repeat (first | (with_reducible first | exact HB.out | apply pbA | apply pbN | apply pb1 | refine pbS ?_ GE398.out | refine pbS ?_ GE399.out) | exact HB.out)) hb); clear BK398; clear BK399; clear HB; have BK398 := n0_; have BK399 := n1_; have HB := n2_; clear n0_ n1_ n2_; (try clear hb); (try clear hb2); (try clear hk); (try clear hi); have hcz51_0 : w50.cell? ⟨gb399, 0, none⟩ = some (.int .i64 a1_0) := (bkC BK399.out 0).trans rfl; have hcz51_1 : w50.cell? ⟨gb399, 1, none⟩ = some (.int .i64 a1_1) := (bkC BK399.out 1).trans rfl; have hcz51_2 : w50.cell? ⟨gb399, 2, none⟩ = some (.slice A1_2 l1_2.length c1_2) := (bkC BK399.out 2).trans rfl; have hfz51_0 := bkF BK399.out 0; have hfz51_1 := bkF BK399.out 1; have hfz51_2 := bkF BK399.out 2) | ((with_reducible refine gtc (f := 21) rfl ?_); refine goesL_ (some 37) rfl rfl Tryd.func21 (by kernel_rfl) rfl #[.agg #[.int .i64 a1_0, .int .i64 a1_1, .slice A1_2 l1_2.length c1_2]] rfl (by (try simp only [List.map_toArray, List.map_cons, List.map_nil]); first | done | rfl | (simp only [List.length_drop, List.length_take]; rfl)) ?_; (with_reducible refine (roll_Last.calls kj2 a1_0 a1_1 _ _ l1_2 t407 t408 _ ?side1 ?side2 ?side3 A41.out).mono ?_); (case side1 => exact hG.below (by repeat (first | (with_reducible first | exact HB.out | apply pbA | apply pbN | apply pb1 | refine pbS ?_ GE398.out | refine pbS ?_ GE399.out) | exact HB.out))); (case side2 => repeat (first | exact (Kd.C_below HR1_2.out HB.out) | (with_reducible refine Kd.C_alloc ?_ _) | (with_reducible refine Kd.C_drewN ?_ _) | (with_reducible refine Kd.C_drew ?_))); (case side3 => exact HC1_2.out); rintro e w52 ⟨rfl, hb⟩; refine ⟨_, rfl, ?_⟩; have n0_ := Az.mk (bkB (g := gb398) (o := .cells #[.int .i64 a0_0, .int .i64 a0_1, .slice A0_2 l0_2.length c0_2] 24 (0, 0)) (by (with_reducible repeat (first | refine bkN ?_ _ | refine bkD ?_ | refine bkA ?_ _)); exact BK398.out) hb); have n1_ := Az.mk (bkB (g := gb399) (o := .cells #[.int .i64 a1_0, .int .i64 a1_1, .slice A1_2 l1_2.length c1_2] 24 (0, 0)) (by (with_reducible repeat (first | refine bkN ?_ _ | refine bkD ?_ | refine bkA ?_ _)); exact BK399.out) hb); have n2_ := Az.mk (pbT (by repeat (first | (with_reducible first | exact HB.out | apply pbA | apply pbN | apply pb1 | refine pbS ?_ GE398.out | refine pbS ?_ GE399.out) | exact HB.out)) hb); clear BK398; clear BK399; clear HB; have BK398 := n0_; have BK399 := n1_; have HB := n2_; clear n0_ n1_ n2_; (try clear hb); (try clear hb2); (try clear hk); (try clear hi)))
              have n0_ := Az.mk (bkD BK398.out)
              have n1_ := Az.mk (bkD BK399.out)
              have n2_ := Az.mk (pb1 HB.out)
              clear BK398
              clear BK399
              clear HB
              have BK398 := n0_
              have BK399 := n1_
              have HB := n2_
              clear n0_ n1_ n2_
              refine start_ (n := 10) (S := fun w' => w'.cell? ⟨gb399, 0, none⟩ = some (.int .i64 a1_0) ∧ w'.cell? ⟨gb399, 1, none⟩ = some (.int .i64 a1_1) ∧ w'.cell? ⟨gb399, 2, none⟩ = some (.slice A1_2 l1_2.length c1_2) ∧ w'.cell? ⟨gb398, 0, none⟩ = some (.int .i64 a0_0) ∧ w'.cell? ⟨gb398, 1, none⟩ = some (.int .i64 a0_1) ∧ w'.cell? ⟨gb398, 2, none⟩ = some (.slice A0_2 l0_2.length c0_2)) (ds := []) #[false, false, false, false, false, false, false, false, false, false] (by kernel_rfl) rfl rfl ⟨(bkC BK399.out 0).trans rfl, (bkC BK399.out 1).trans rfl, (bkC BK399.out 2).trans rfl, (bkC BK398.out 0).trans rfl, (bkC BK398.out 1).trans rfl, (bkC BK398.out 2).trans rfl⟩ (fun hHeld => ?_); refine with_tabW l11_RollOrder.tab5 l11_RollOrder.bits5 (fun HT_ HW_ => ?_)
              generalize w52.drew = w53 at BK398 BK399 HB hHeld ⊢
              refine pure_ (i := 0) (N := some 40) (v := ?_) (a' := ?_) #[true, false, false, false, false, false, false, false, false, false] rfl rfl (any_of HT_.out (by kernel_rfl)) (fun _ _ _ h => h) (Or.inl ⟨by rfl, ?_⟩) ?_ ?_
              rotate_left
              · intro w'
                go_simp
                with_reducible rfl
              rotate_left
              · simp only [Act.put, List.setIfInBounds_toArray, List.set_cons_zero, List.set_cons_succ, i64_w, i32_w]
                rfl
              refine pure_ (i := 1) (N := some 41) (v := ?_) (a' := ?_) #[true, true, false, false, false, false, false, false, false, false] rfl rfl (any_of HT_.out (by kernel_rfl)) (fun _ _ _ h => h) (Or.inl ⟨by rfl, ?_⟩) ?_ ?_
              rotate_left
              · intro w'
                go_simp
                with_reducible rfl
              rotate_left
              · simp only [Act.put, List.setIfInBounds_toArray, List.set_cons_zero, List.set_cons_succ, i64_w, i32_w]
                rfl
              refine pure_ (i := 4) (N := some 44) (v := ?_) (a' := ?_) #[true, true, false, false, true, false, false, false, false, false] rfl rfl (any_of HT_.out (by kernel_rfl)) (fun _ _ _ h => h) (Or.inl ⟨by rfl, ?_⟩) ?_ ?_
              rotate_left
              · intro w'
                go_simp
                with_reducible rfl
              rotate_left
              · simp only [Act.put, List.setIfInBounds_toArray, List.set_cons_zero, List.set_cons_succ, i64_w, i32_w]
                rfl
              refine pure_ (i := 5) (N := some 45) (v := ?_) (a' := ?_) #[true, true, false, false, true, true, false, false, false, false] rfl rfl (any_of HT_.out (by kernel_rfl)) (fun _ _ _ h => h) (Or.inl ⟨by rfl, ?_⟩) ?_ ?_
              rotate_left
              · intro w'
                go_simp
                with_reducible rfl
              rotate_left
              · simp only [Act.put, List.setIfInBounds_toArray, List.set_cons_zero, List.set_cons_succ, i64_w, i32_w]
                rfl
              refine take_ (i := 2) (N := some 42) (v := ?_) (a' := ?_) #[true, true, true, false, true, true, false, false, false, false] rfl rfl (take_ofW HT_.out HW_.out (by kernel_rfl)) (fun _ _ _ h => h) (Or.inl ⟨by rfl, ?_⟩) hHeld ?_ ?_
              rotate_left
              · rintro w' ⟨s0, s1, s2, s3, s4, s5⟩
                go_simp
                with_reducible rfl
              rotate_left
              · simp only [Act.put, List.setIfInBounds_toArray, List.set_cons_zero, List.set_cons_succ, i64_w, i32_w]
                rfl
              refine take_ (i := 6) (N := some 46) (v := ?_) (a' := ?_) #[true, true, true, false, true, true, true, false, false, false] rfl rfl (take_ofW HT_.out HW_.out (by kernel_rfl)) (fun _ _ _ h => h) (Or.inl ⟨by rfl, ?_⟩) hHeld ?_ ?_
              rotate_left
              · rintro w' ⟨s0, s1, s2, s3, s4, s5⟩
                go_simp
                with_reducible rfl
              rotate_left
              · simp only [Act.put, List.setIfInBounds_toArray, List.set_cons_zero, List.set_cons_succ, i64_w, i32_w]
                rfl
              refine one_ (i := 3) (N := some 43) #[true, true, true, true, true, true, true, false, false, false] rfl rfl (one_of HT_.out (by kernel_rfl)) (by decide) (fun K hK => ?_)
              refine goes_ Tryd.func22 (by kernel_rfl) rfl #[.int .i64 t406, .int .i64 t405, .agg #[.int .i64 a1_0, .int .i64 a1_1, .slice A1_2 l1_2.length c1_2]] (by rfl) rfl rfl (by (try simp only [List.map_toArray, List.map_cons, List.map_nil]); first | done | rfl | (simp only [List.length_drop, List.length_take]; rfl)) ?_
              with_reducible refine (roll_Newer.calls kj2 t406 t405 a1_0 a1_1 _ _ l1_2 true _ ?side1 ?side2 ?side3 A42.out).mono ?_
              (case side1 => exact hG.below (by repeat (first | (with_reducible first | exact HB.out | apply pbA | apply pbN | apply pb1 | refine pbS ?_ GE398.out | refine pbS ?_ GE399.out) | exact HB.out)))
              (case side2 => repeat (first | exact (Kd.C_below HR1_2.out HB.out) | (with_reducible refine Kd.C_alloc ?_ _) | (with_reducible refine Kd.C_drewN ?_ _) | (with_reducible refine Kd.C_drew ?_)))
              (case side3 => exact HC1_2.out)
              rintro e w54 ⟨rfl, hb⟩
              refine ⟨_, rfl, ?_⟩
              have n0_ := Az.mk (bkB (g := gb398) (o := .cells #[.int .i64 a0_0, .int .i64 a0_1, .slice A0_2 l0_2.length c0_2] 24 (0, 0)) (by (with_reducible repeat (first | refine bkN ?_ _ | refine bkD ?_ | refine bkA ?_ _)); exact BK398.out) hb)
              have n1_ := Az.mk (bkB (g := gb399) (o := .cells #[.int .i64 a1_0, .int .i64 a1_1, .slice A1_2 l1_2.length c1_2] 24 (0, 0)) (by (with_reducible repeat (first | refine bkN ?_ _ | refine bkD ?_ | refine bkA ?_ _)); exact BK399.out) hb)
              have n2_ := Az.mk (pbT (by repeat (first | (with_reducible first | exact HB.out | apply pbA | apply pbN | apply pb1 | refine pbS ?_ GE398.out | refine pbS ?_ GE399.out) | exact HB.out)) hb)
              clear BK398
              clear BK399
              clear HB
              have BK398 := n0_
              have BK399 := n1_
              have HB := n2_
              clear n0_ n1_ n2_
              (try clear hb)
              (try clear hb2)
              (try clear hk)
              (try clear hi)
              refine hK.out _ _ ⟨(bkC BK399.out 0).trans rfl, (bkC BK399.out 1).trans rfl, (bkC BK399.out 2).trans rfl, (bkC BK398.out 0).trans rfl, (bkC BK398.out 1).trans rfl, (bkC BK398.out 2).trans rfl⟩ (fun hHeld => ?_)
              clear hK K
              refine norm_ (a' := ?_) ?_ ?_
              rotate_left
              · show Act.put _ (some 43) _ = _
                simp only [Act.put, List.setIfInBounds_toArray, List.set_cons_zero, List.set_cons_succ, i64_w, i32_w]
                rfl
              refine one_ (i := 7) (N := some 47) #[true, true, true, true, true, true, true, true, false, false] rfl rfl (one_of HT_.out (by kernel_rfl)) (by decide) (fun K hK => ?_)
              refine goes_ Tryd.func22 (by kernel_rfl) rfl #[.int .i64 t408, .int .i64 t407, .agg #[.int .i64 a0_0, .int .i64 a0_1, .slice A0_2 l0_2.length c0_2]] (by rfl) rfl rfl (by (try simp only [List.map_toArray, List.map_cons, List.map_nil]); first | done | rfl | (simp only [List.length_drop, List.length_take]; rfl)) ?_
              with_reducible refine (roll_Newer.calls kj2 t408 t407 a0_0 a0_1 _ _ l0_2 t410 _ ?side1 ?side2 ?side3 A43.out).mono ?_
              (case side1 => exact hG.below (by repeat (first | (with_reducible first | exact HB.out | apply pbA | apply pbN | apply pb1 | refine pbS ?_ GE398.out | refine pbS ?_ GE399.out) | exact HB.out)))
              (case side2 => repeat (first | exact (Kd.C_below HR0_2.out HB.out) | (with_reducible refine Kd.C_alloc ?_ _) | (with_reducible refine Kd.C_drewN ?_ _) | (with_reducible refine Kd.C_drew ?_)))
              (case side3 => exact HC0_2.out)
              rintro e w55 ⟨rfl, hb⟩
              refine ⟨_, rfl, ?_⟩
              have n0_ := Az.mk (bkB (g := gb398) (o := .cells #[.int .i64 a0_0, .int .i64 a0_1, .slice A0_2 l0_2.length c0_2] 24 (0, 0)) (by (with_reducible repeat (first | refine bkN ?_ _ | refine bkD ?_ | refine bkA ?_ _)); exact BK398.out) hb)
              have n1_ := Az.mk (bkB (g := gb399) (o := .cells #[.int .i64 a1_0, .int .i64 a1_1, .slice A1_2 l1_2.length c1_2] 24 (0, 0)) (by (with_reducible repeat (first | refine bkN ?_ _ | refine bkD ?_ | refine bkA ?_ _)); exact BK399.out) hb)
              have n2_ := Az.mk (pbT (by repeat (first | (with_reducible first | exact HB.out | apply pbA | apply pbN | apply pb1 | refine pbS ?_ GE398.out | refine pbS ?_ GE399.out) | exact HB.out)) hb)
              clear BK398
              clear BK399
              clear HB
              have BK398 := n0_
              have BK399 := n1_
              have HB := n2_
              clear n0_ n1_ n2_
              (try clear hb)
              (try clear hb2)
              (try clear hk)
              (try clear hi)
              refine hK.out _ _ ⟨(bkC BK399.out 0).trans rfl, (bkC BK399.out 1).trans rfl, (bkC BK399.out 2).trans rfl, (bkC BK398.out 0).trans rfl, (bkC BK398.out 1).trans rfl, (bkC BK398.out 2).trans rfl⟩ (fun hHeld => ?_)
              clear hK K
              refine norm_ (a' := ?_) ?_ ?_
              rotate_left
              · show Act.put _ (some 47) _ = _
                simp only [Act.put, List.setIfInBounds_toArray, List.set_cons_zero, List.set_cons_succ, i64_w, i32_w]
                rfl
              refine pure_ (i := 8) (N := some 9) (v := ?_) (a' := ?_) #[true, true, true, true, true, true, true, true, true, false] rfl rfl (any_of HT_.out (by kernel_rfl)) (fun _ _ _ h => h) (Or.inl ⟨by rfl, ?_⟩) ?_ ?_
              rotate_left
              · intro w'
                go_simp
                with_reducible rfl
              rotate_left
              · simp only [Act.put, List.setIfInBounds_toArray, List.set_cons_zero, List.set_cons_succ, i64_w, i32_w]
                rfl
              refine pure_ (i := 9) (N := some 10) (v := ?_) (a' := ?_) #[true, true, true, true, true, true, true, true, true, true] rfl rfl (any_of HT_.out (by kernel_rfl)) (fun _ _ _ h => h) (Or.inl ⟨by rfl, ?_⟩) ?_ ?_
              rotate_left
              · intro w'
                go_simp
                with_reducible rfl
              rotate_left
              · simp only [Act.put, List.setIfInBounds_toArray, List.set_cons_zero, List.set_cons_succ, i64_w, i32_w]
                rfl
              refine done_ (done_of HT_.out (by kernel_rfl)) ?_
              try go_wp2_with (first | (go_at_call 9; (with_reducible refine (l11_live.calls  t411 _ ?side1 A47.out).mono ?_); (case side1 => exact hG.below (by repeat (first | (with_reducible first | exact HB.out | apply pbA | apply pbN | apply pb1 | refine pbS ?_ GE398.out | refine pbS ?_ GE399.out) | exact HB.out))); rintro e w56 ⟨rfl, hb⟩; have n0_ := Az.mk (bkB (g := gb398) (o := .cells #[.int .i64 a0_0, .int .i64 a0_1, .slice A0_2 l0_2.length c0_2] 24 (0, 0)) (by (with_reducible repeat (first | refine bkN ?_ _ | refine bkD ?_ | refine bkA ?_ _)); exact BK398.out) hb); have n1_ := Az.mk (bkB (g := gb399) (o := .cells #[.int .i64 a1_0, .int .i64 a1_1, .slice A1_2 l1_2.length c1_2] 24 (0, 0)) (by (with_reducible repeat (first | refine bkN ?_ _ | refine bkD ?_ | refine bkA ?_ _)); exact BK399.out) hb); have n2_ := Az.mk (pbT (by repeat (first | (with_reducible first | exact HB.out | apply pbA | apply pbN | apply pb1 | refine pbS ?_ GE398.out | refine pbS ?_ GE399.out) | exact HB.out)) hb); clear BK398; clear BK399; clear HB; have BK398 := n0_; have BK399 := n1_; have HB := n2_; clear n0_ n1_ n2_; (try clear hb); (try clear hb2); (try clear hk); (try clear hi)))
              go_ret
              exact ⟨by first | rfl | (simp [errW_none, errW_some] <;> rfl) | (simp [*, errW_none, errW_some] <;> rfl), by repeat (first | (with_reducible first | exact HB.out | apply pbA | apply pbN | apply pb1 | refine pbS ?_ GE398.out | refine pbS ?_ GE399.out) | exact HB.out)⟩
            · rw [if_neg c46] at H
              have c46b0 : (t410 == (t406 == t408)) = false := by simpa using c46
              (try (have c46b1 : decide (t410 = (t406 == t408)) = false := by simpa using c46))
              (try (have c46b2 : (t410 == (t406 == t408)) = false := by simpa using c46))
              (try (have c46b3 : ¬ (t410 = (t406 == t408)) := by simpa using c46))
              clear c46
              exact absurd (Option.some.inj (H.trans (congrArg some hr))) (by decide)
          · rw [if_neg c45] at H
            have c45b0 : (t405 == t407) = false := beq_eq_false_iff_ne.mpr c45
            have c45b1 : (t405 != t407) = true := bne_iff_ne.mpr c45
            by_cases c57 : (t410 == false) = true
            · rw [if_pos c57] at H
              have c57b0 : (t410 == false) = true := c57
              (try (have c57b1 : decide (t410 = false) = true := by simpa using c57))
              (try (have c57b2 : (t410 == false) = true := by simpa using c57))
              clear c57
              replace H := Option.bind_eq_some_iff.mp H
              obtain ⟨t412, A580, H⟩ := H
              replace H : (some t412) = some r := H
              have A58 := Az.mk A580
              clear A580
              obtain rfl := Option.some.inj H
              have hnb59 := NB398_399.out
              have hnc59 := NB399_398.out
              have hcz60_0 : wc.cell? ⟨gb398, 0, none⟩ = some (.int .i64 a0_0) := (bkC BK398.out 0).trans rfl
              have hcz60_1 : wc.cell? ⟨gb398, 1, none⟩ = some (.int .i64 a0_1) := (bkC BK398.out 1).trans rfl
              have hcz60_2 : wc.cell? ⟨gb398, 2, none⟩ = some (.slice A0_2 l0_2.length c0_2) := (bkC BK398.out 2).trans rfl
              have hfz60_0 := bkF BK398.out 0
              have hfz60_1 := bkF BK398.out 1
              have hfz60_2 := bkF BK398.out 2
              try go_wp2_with (first | ((with_reducible refine gtc (f := 21) rfl ?_); refine goesL_ (some 32) rfl rfl Tryd.func21 (by kernel_rfl) rfl #[.agg #[.int .i64 a0_0, .int .i64 a0_1, .slice A0_2 l0_2.length c0_2]] rfl (by (try simp only [List.map_toArray, List.map_cons, List.map_nil]); first | done | rfl | (simp only [List.length_drop, List.length_take]; rfl)) ?_; (with_reducible refine (roll_Last.calls kj2 a0_0 a0_1 _ _ l0_2 t405 t406 _ ?side1 ?side2 ?side3 A40.out).mono ?_); (case side1 => exact hG.below (by repeat (first | (with_reducible first | exact HB.out | apply pbA | apply pbN | apply pb1 | refine pbS ?_ GE398.out | refine pbS ?_ GE399.out) | exact HB.out))); (case side2 => repeat (first | exact (Kd.C_below HR0_2.out HB.out) | (with_reducible refine Kd.C_alloc ?_ _) | (with_reducible refine Kd.C_drewN ?_ _) | (with_reducible refine Kd.C_drew ?_))); (case side3 => exact HC0_2.out); rintro e w61 ⟨rfl, hb⟩; refine ⟨_, rfl, ?_⟩; have n0_ := Az.mk (bkB (g := gb398) (o := .cells #[.int .i64 a0_0, .int .i64 a0_1, .slice A0_2 l0_2.length c0_2] 24 (0, 0)) (by (with_reducible repeat (first | refine bkN ?_ _ | refine bkD ?_ | refine bkA ?_ _)); exact BK398.out) hb); have n1_ := Az.mk (bkB (g := gb399) (o := .cells #[.int .i64 a1_0, .int .i64 a1_1, .slice A1_2 l1_2.length c1_2] 24 (0, 0)) (by (with_reducible repeat (first | refine bkN ?_ _ | refine bkD ?_ | refine bkA ?_ _)); exact BK399.out) hb); have n2_ := Az.mk (pbT (by repeat (first | (with_reducible first | exact HB.out | apply pbA | apply pbN | apply pb1 | refine pbS ?_ GE398.out | refine pbS ?_ GE399.out) | exact HB.out)) hb); clear BK398; clear BK399; clear HB; have BK398 := n0_; have BK399 := n1_; have HB := n2_; clear n0_ n1_ n2_; (try clear hb); (try clear hb2); (try clear hk); (try clear hi); have hcz62_0 : w61.cell? ⟨gb399, 0, none⟩ = some (.int .i64 a1_0) := (bkC BK399.out 0).trans rfl; have hcz62_1 : w61.cell? ⟨gb399, 1, none⟩ = some (.int .i64 a1_1) := (bkC BK399.out 1).trans rfl; have hcz62_2 : w61.cell? ⟨gb399, 2, none⟩ = some (.slice A1_2 l1_2.length c1_2) := (bkC BK399.out 2).trans rfl; have hfz62_0 := bkF BK399.out 0; have hfz62_1 := bkF BK399.out 1; have hfz62_2 := bkF BK399.out 2) | ((with_reducible refine gtc (f := 21) rfl ?_); refine goesL_ (some 37) rfl rfl Tryd.func21 (by kernel_rfl) rfl #[.agg #[.int .i64 a1_0, .int .i64 a1_1, .slice A1_2 l1_2.length c1_2]] rfl (by (try simp only [List.map_toArray, List.map_cons, List.map_nil]); first | done | rfl | (simp only [List.length_drop, List.length_take]; rfl)) ?_; (with_reducible refine (roll_Last.calls kj2 a1_0 a1_1 _ _ l1_2 t407 t408 _ ?side1 ?side2 ?side3 A41.out).mono ?_); (case side1 => exact hG.below (by repeat (first | (with_reducible first | exact HB.out | apply pbA | apply pbN | apply pb1 | refine pbS ?_ GE398.out | refine pbS ?_ GE399.out) | exact HB.out))); (case side2 => repeat (first | exact (Kd.C_below HR1_2.out HB.out) | (with_reducible refine Kd.C_alloc ?_ _) | (with_reducible refine Kd.C_drewN ?_ _) | (with_reducible refine Kd.C_drew ?_))); (case side3 => exact HC1_2.out); rintro e w63 ⟨rfl, hb⟩; refine ⟨_, rfl, ?_⟩; have n0_ := Az.mk (bkB (g := gb398) (o := .cells #[.int .i64 a0_0, .int .i64 a0_1, .slice A0_2 l0_2.length c0_2] 24 (0, 0)) (by (with_reducible repeat (first | refine bkN ?_ _ | refine bkD ?_ | refine bkA ?_ _)); exact BK398.out) hb); have n1_ := Az.mk (bkB (g := gb399) (o := .cells #[.int .i64 a1_0, .int .i64 a1_1, .slice A1_2 l1_2.length c1_2] 24 (0, 0)) (by (with_reducible repeat (first | refine bkN ?_ _ | refine bkD ?_ | refine bkA ?_ _)); exact BK399.out) hb); have n2_ := Az.mk (pbT (by repeat (first | (with_reducible first | exact HB.out | apply pbA | apply pbN | apply pb1 | refine pbS ?_ GE398.out | refine pbS ?_ GE399.out) | exact HB.out)) hb); clear BK398; clear BK399; clear HB; have BK398 := n0_; have BK399 := n1_; have HB := n2_; clear n0_ n1_ n2_; (try clear hb); (try clear hb2); (try clear hk); (try clear hi)))
              have n0_ := Az.mk (bkD BK398.out)
              have n1_ := Az.mk (bkD BK399.out)
              have n2_ := Az.mk (pb1 HB.out)
              clear BK398
              clear BK399
              clear HB
              have BK398 := n0_
              have BK399 := n1_
              have HB := n2_
              clear n0_ n1_ n2_
              refine start_ (n := 10) (S := fun w' => w'.cell? ⟨gb399, 0, none⟩ = some (.int .i64 a1_0) ∧ w'.cell? ⟨gb399, 1, none⟩ = some (.int .i64 a1_1) ∧ w'.cell? ⟨gb399, 2, none⟩ = some (.slice A1_2 l1_2.length c1_2) ∧ w'.cell? ⟨gb398, 0, none⟩ = some (.int .i64 a0_0) ∧ w'.cell? ⟨gb398, 1, none⟩ = some (.int .i64 a0_1) ∧ w'.cell? ⟨gb398, 2, none⟩ = some (.slice A0_2 l0_2.length c0_2)) (ds := []) #[false, false, false, false, false, false, false, false, false, false] (by kernel_rfl) rfl rfl ⟨(bkC BK399.out 0).trans rfl, (bkC BK399.out 1).trans rfl, (bkC BK399.out 2).trans rfl, (bkC BK398.out 0).trans rfl, (bkC BK398.out 1).trans rfl, (bkC BK398.out 2).trans rfl⟩ (fun hHeld => ?_); refine with_tabW l11_RollOrder.tab5 l11_RollOrder.bits5 (fun HT_ HW_ => ?_)
              generalize w63.drew = w64 at BK398 BK399 HB hHeld ⊢
              refine pure_ (i := 0) (N := some 40) (v := ?_) (a' := ?_) #[true, false, false, false, false, false, false, false, false, false] rfl rfl (any_of HT_.out (by kernel_rfl)) (fun _ _ _ h => h) (Or.inl ⟨by rfl, ?_⟩) ?_ ?_
              rotate_left
              · intro w'
                go_simp
                with_reducible rfl
              rotate_left
              · simp only [Act.put, List.setIfInBounds_toArray, List.set_cons_zero, List.set_cons_succ, i64_w, i32_w]
                rfl
              refine pure_ (i := 1) (N := some 41) (v := ?_) (a' := ?_) #[true, true, false, false, false, false, false, false, false, false] rfl rfl (any_of HT_.out (by kernel_rfl)) (fun _ _ _ h => h) (Or.inl ⟨by rfl, ?_⟩) ?_ ?_
              rotate_left
              · intro w'
                go_simp
                with_reducible rfl
              rotate_left
              · simp only [Act.put, List.setIfInBounds_toArray, List.set_cons_zero, List.set_cons_succ, i64_w, i32_w]
                rfl
              refine pure_ (i := 4) (N := some 44) (v := ?_) (a' := ?_) #[true, true, false, false, true, false, false, false, false, false] rfl rfl (any_of HT_.out (by kernel_rfl)) (fun _ _ _ h => h) (Or.inl ⟨by rfl, ?_⟩) ?_ ?_
              rotate_left
              · intro w'
                go_simp
                with_reducible rfl
              rotate_left
              · simp only [Act.put, List.setIfInBounds_toArray, List.set_cons_zero, List.set_cons_succ, i64_w, i32_w]
                rfl
              refine pure_ (i := 5) (N := some 45) (v := ?_) (a' := ?_) #[true, true, false, false, true, true, false, false, false, false] rfl rfl (any_of HT_.out (by kernel_rfl)) (fun _ _ _ h => h) (Or.inl ⟨by rfl, ?_⟩) ?_ ?_
              rotate_left
              · intro w'
                go_simp
                with_reducible rfl
              rotate_left
              · simp only [Act.put, List.setIfInBounds_toArray, List.set_cons_zero, List.set_cons_succ, i64_w, i32_w]
                rfl
              refine take_ (i := 2) (N := some 42) (v := ?_) (a' := ?_) #[true, true, true, false, true, true, false, false, false, false] rfl rfl (take_ofW HT_.out HW_.out (by kernel_rfl)) (fun _ _ _ h => h) (Or.inl ⟨by rfl, ?_⟩) hHeld ?_ ?_
              rotate_left
              · rintro w' ⟨s0, s1, s2, s3, s4, s5⟩
                go_simp
                with_reducible rfl
              rotate_left
              · simp only [Act.put, List.setIfInBounds_toArray, List.set_cons_zero, List.set_cons_succ, i64_w, i32_w]
                rfl
              refine take_ (i := 6) (N := some 46) (v := ?_) (a' := ?_) #[true, true, true, false, true, true, true, false, false, false] rfl rfl (take_ofW HT_.out HW_.out (by kernel_rfl)) (fun _ _ _ h => h) (Or.inl ⟨by rfl, ?_⟩) hHeld ?_ ?_
              rotate_left
              · rintro w' ⟨s0, s1, s2, s3, s4, s5⟩
                go_simp
                with_reducible rfl
              rotate_left
              · simp only [Act.put, List.setIfInBounds_toArray, List.set_cons_zero, List.set_cons_succ, i64_w, i32_w]
                rfl
              refine one_ (i := 3) (N := some 43) #[true, true, true, true, true, true, true, false, false, false] rfl rfl (one_of HT_.out (by kernel_rfl)) (by decide) (fun K hK => ?_)
              refine goes_ Tryd.func22 (by kernel_rfl) rfl #[.int .i64 t406, .int .i64 t405, .agg #[.int .i64 a1_0, .int .i64 a1_1, .slice A1_2 l1_2.length c1_2]] (by rfl) rfl rfl (by (try simp only [List.map_toArray, List.map_cons, List.map_nil]); first | done | rfl | (simp only [List.length_drop, List.length_take]; rfl)) ?_
              with_reducible refine (roll_Newer.calls kj2 t406 t405 a1_0 a1_1 _ _ l1_2 true _ ?side1 ?side2 ?side3 A42.out).mono ?_
              (case side1 => exact hG.below (by repeat (first | (with_reducible first | exact HB.out | apply pbA | apply pbN | apply pb1 | refine pbS ?_ GE398.out | refine pbS ?_ GE399.out) | exact HB.out)))
              (case side2 => repeat (first | exact (Kd.C_below HR1_2.out HB.out) | (with_reducible refine Kd.C_alloc ?_ _) | (with_reducible refine Kd.C_drewN ?_ _) | (with_reducible refine Kd.C_drew ?_)))
              (case side3 => exact HC1_2.out)
              rintro e w65 ⟨rfl, hb⟩
              refine ⟨_, rfl, ?_⟩
              have n0_ := Az.mk (bkB (g := gb398) (o := .cells #[.int .i64 a0_0, .int .i64 a0_1, .slice A0_2 l0_2.length c0_2] 24 (0, 0)) (by (with_reducible repeat (first | refine bkN ?_ _ | refine bkD ?_ | refine bkA ?_ _)); exact BK398.out) hb)
              have n1_ := Az.mk (bkB (g := gb399) (o := .cells #[.int .i64 a1_0, .int .i64 a1_1, .slice A1_2 l1_2.length c1_2] 24 (0, 0)) (by (with_reducible repeat (first | refine bkN ?_ _ | refine bkD ?_ | refine bkA ?_ _)); exact BK399.out) hb)
              have n2_ := Az.mk (pbT (by repeat (first | (with_reducible first | exact HB.out | apply pbA | apply pbN | apply pb1 | refine pbS ?_ GE398.out | refine pbS ?_ GE399.out) | exact HB.out)) hb)
              clear BK398
              clear BK399
              clear HB
              have BK398 := n0_
              have BK399 := n1_
              have HB := n2_
              clear n0_ n1_ n2_
              (try clear hb)
              (try clear hb2)
              (try clear hk)
              (try clear hi)
              refine hK.out _ _ ⟨(bkC BK399.out 0).trans rfl, (bkC BK399.out 1).trans rfl, (bkC BK399.out 2).trans rfl, (bkC BK398.out 0).trans rfl, (bkC BK398.out 1).trans rfl, (bkC BK398.out 2).trans rfl⟩ (fun hHeld => ?_)
              clear hK K
              refine norm_ (a' := ?_) ?_ ?_
              rotate_left
              · show Act.put _ (some 43) _ = _
                simp only [Act.put, List.setIfInBounds_toArray, List.set_cons_zero, List.set_cons_succ, i64_w, i32_w]
                rfl
              refine one_ (i := 7) (N := some 47) #[true, true, true, true, true, true, true, true, false, false] rfl rfl (one_of HT_.out (by kernel_rfl)) (by decide) (fun K hK => ?_)
              refine goes_ Tryd.func22 (by kernel_rfl) rfl #[.int .i64 t408, .int .i64 t407, .agg #[.int .i64 a0_0, .int .i64 a0_1, .slice A0_2 l0_2.length c0_2]] (by rfl) rfl rfl (by (try simp only [List.map_toArray, List.map_cons, List.map_nil]); first | done | rfl | (simp only [List.length_drop, List.length_take]; rfl)) ?_
              with_reducible refine (roll_Newer.calls kj2 t408 t407 a0_0 a0_1 _ _ l0_2 t410 _ ?side1 ?side2 ?side3 A43.out).mono ?_
              (case side1 => exact hG.below (by repeat (first | (with_reducible first | exact HB.out | apply pbA | apply pbN | apply pb1 | refine pbS ?_ GE398.out | refine pbS ?_ GE399.out) | exact HB.out)))
              (case side2 => repeat (first | exact (Kd.C_below HR0_2.out HB.out) | (with_reducible refine Kd.C_alloc ?_ _) | (with_reducible refine Kd.C_drewN ?_ _) | (with_reducible refine Kd.C_drew ?_)))
              (case side3 => exact HC0_2.out)
              rintro e w66 ⟨rfl, hb⟩
              refine ⟨_, rfl, ?_⟩
              have n0_ := Az.mk (bkB (g := gb398) (o := .cells #[.int .i64 a0_0, .int .i64 a0_1, .slice A0_2 l0_2.length c0_2] 24 (0, 0)) (by (with_reducible repeat (first | refine bkN ?_ _ | refine bkD ?_ | refine bkA ?_ _)); exact BK398.out) hb)
              have n1_ := Az.mk (bkB (g := gb399) (o := .cells #[.int .i64 a1_0, .int .i64 a1_1, .slice A1_2 l1_2.length c1_2] 24 (0, 0)) (by (with_reducible repeat (first | refine bkN ?_ _ | refine bkD ?_ | refine bkA ?_ _)); exact BK399.out) hb)
              have n2_ := Az.mk (pbT (by repeat (first | (with_reducible first | exact HB.out | apply pbA | apply pbN | apply pb1 | refine pbS ?_ GE398.out | refine pbS ?_ GE399.out) | exact HB.out)) hb)
              clear BK398
              clear BK399
              clear HB
              have BK398 := n0_
              have BK399 := n1_
              have HB := n2_
              clear n0_ n1_ n2_
              (try clear hb)
              (try clear hb2)
              (try clear hk)
              (try clear hi)
              refine hK.out _ _ ⟨(bkC BK399.out 0).trans rfl, (bkC BK399.out 1).trans rfl, (bkC BK399.out 2).trans rfl, (bkC BK398.out 0).trans rfl, (bkC BK398.out 1).trans rfl, (bkC BK398.out 2).trans rfl⟩ (fun hHeld => ?_)
              clear hK K
              refine norm_ (a' := ?_) ?_ ?_
              rotate_left
              · show Act.put _ (some 47) _ = _
                simp only [Act.put, List.setIfInBounds_toArray, List.set_cons_zero, List.set_cons_succ, i64_w, i32_w]
                rfl
              refine pure_ (i := 8) (N := some 9) (v := ?_) (a' := ?_) #[true, true, true, true, true, true, true, true, true, false] rfl rfl (any_of HT_.out (by kernel_rfl)) (fun _ _ _ h => h) (Or.inl ⟨by rfl, ?_⟩) ?_ ?_
              rotate_left
              · intro w'
                go_simp
                with_reducible rfl
              rotate_left
              · simp only [Act.put, List.setIfInBounds_toArray, List.set_cons_zero, List.set_cons_succ, i64_w, i32_w]
                rfl
              refine pure_ (i := 9) (N := some 10) (v := ?_) (a' := ?_) #[true, true, true, true, true, true, true, true, true, true] rfl rfl (any_of HT_.out (by kernel_rfl)) (fun _ _ _ h => h) (Or.inl ⟨by rfl, ?_⟩) ?_ ?_
              rotate_left
              · intro w'
                go_simp
                with_reducible rfl
              rotate_left
              · simp only [Act.put, List.setIfInBounds_toArray, List.set_cons_zero, List.set_cons_succ, i64_w, i32_w]
                rfl
              refine done_ (done_of HT_.out (by kernel_rfl)) ?_
              try go_wp2_with (first | (go_at_call 9; (with_reducible refine (l11_live.calls  t412 _ ?side1 A58.out).mono ?_); (case side1 => exact hG.below (by repeat (first | (with_reducible first | exact HB.out | apply pbA | apply pbN | apply pb1 | refine pbS ?_ GE398.out | refine pbS ?_ GE399.out) | exact HB.out))); rintro e w67 ⟨rfl, hb⟩; have n0_ := Az.mk (bkB (g := gb398) (o := .cells #[.int .i64 a0_0, .int .i64 a0_1, .slice A0_2 l0_2.length c0_2] 24 (0, 0)) (by (with_reducible repeat (first | refine bkN ?_ _ | refine bkD ?_ | refine bkA ?_ _)); exact BK398.out) hb); have n1_ := Az.mk (bkB (g := gb399) (o := .cells #[.int .i64 a1_0, .int .i64 a1_1, .slice A1_2 l1_2.length c1_2] 24 (0, 0)) (by (with_reducible repeat (first | refine bkN ?_ _ | refine bkD ?_ | refine bkA ?_ _)); exact BK399.out) hb); have n2_ := Az.mk (pbT (by repeat (first | (with_reducible first | exact HB.out | apply pbA | apply pbN | apply pb1 | refine pbS ?_ GE398.out | refine pbS ?_ GE399.out) | exact HB.out)) hb); clear BK398; clear BK399; clear HB; have BK398 := n0_; have BK399 := n1_; have HB := n2_; clear n0_ n1_ n2_; (try clear hb); (try clear hb2); (try clear hk); (try clear hi)))
              go_ret
              exact ⟨by first | rfl | (simp [errW_none, errW_some] <;> rfl) | (simp [*, errW_none, errW_some] <;> rfl), by repeat (first | (with_reducible first | exact HB.out | apply pbA | apply pbN | apply pb1 | refine pbS ?_ GE398.out | refine pbS ?_ GE399.out) | exact HB.out)⟩
            · rw [if_neg c57] at H
              have c57b0 : (t410 == false) = false := by simpa using c57
              (try (have c57b1 : decide (t410 = false) = false := by simpa using c57))
              (try (have c57b2 : (t410 == false) = false := by simpa using c57))
              (try (have c57b3 : ¬ (t410 = false) := by simpa using c57))
              clear c57
              exact absurd (Option.some.inj (H.trans (congrArg some hr))) (by decide)
        · replace c44 := Bool.eq_false_iff.mpr c44
          subst c44
          have H1 : (if t410 = true then (if t405 = t407 then (if (false == (t406 == t408)) = true then ((l11_live.f).bind fun t413 => (some t413)) else (some false)) else (if (false == false) = true then ((l11_live.f).bind fun t414 => (some t414)) else (some false))) else (some false)) = some r := by rw [if_neg (show ¬ (false = true) by decide)] at H; exact H
          clear H
          have H := H1
          clear H1
          by_cases c68 : t410 = true
          · subst c68
            have H1 : (if t405 = t407 then (if (false == (t406 == t408)) = true then ((l11_live.f).bind fun t413 => (some t413)) else (some false)) else (if (false == false) = true then ((l11_live.f).bind fun t414 => (some t414)) else (some false))) = some r := by rw [if_pos rfl] at H; exact H
            clear H
            have H := H1
            clear H1
            by_cases c69 : t405 = t407
            · rw [if_pos c69] at H
              have c69b0 : (t405 == t407) = true := beq_iff_eq.mpr c69
              have c69b1 : (t405 != t407) = false := bne_eq_false_iff_eq.mpr c69
              clear c69
              by_cases c70 : (false == (t406 == t408)) = true
              · rw [if_pos c70] at H
                have c70b0 : (false == (t406 == t408)) = true := c70
                (try (have c70b1 : decide (false = (t406 == t408)) = true := by simpa using c70))
                (try (have c70b2 : (false == (t406 == t408)) = true := by simpa using c70))
                clear c70
                replace H := Option.bind_eq_some_iff.mp H
                obtain ⟨t413, A710, H⟩ := H
                replace H : (some t413) = some r := H
                have A71 := Az.mk A710
                clear A710
                obtain rfl := Option.some.inj H
                have hnb72 := NB398_399.out
                have hnc72 := NB399_398.out
                have hcz73_0 : wc.cell? ⟨gb398, 0, none⟩ = some (.int .i64 a0_0) := (bkC BK398.out 0).trans rfl
                have hcz73_1 : wc.cell? ⟨gb398, 1, none⟩ = some (.int .i64 a0_1) := (bkC BK398.out 1).trans rfl
                have hcz73_2 : wc.cell? ⟨gb398, 2, none⟩ = some (.slice A0_2 l0_2.length c0_2) := (bkC BK398.out 2).trans rfl
                have hfz73_0 := bkF BK398.out 0
                have hfz73_1 := bkF BK398.out 1
                have hfz73_2 := bkF BK398.out 2
                try go_wp2_with (first | ((with_reducible refine gtc (f := 21) rfl ?_); refine goesL_ (some 32) rfl rfl Tryd.func21 (by kernel_rfl) rfl #[.agg #[.int .i64 a0_0, .int .i64 a0_1, .slice A0_2 l0_2.length c0_2]] rfl (by (try simp only [List.map_toArray, List.map_cons, List.map_nil]); first | done | rfl | (simp only [List.length_drop, List.length_take]; rfl)) ?_; (with_reducible refine (roll_Last.calls kj2 a0_0 a0_1 _ _ l0_2 t405 t406 _ ?side1 ?side2 ?side3 A40.out).mono ?_); (case side1 => exact hG.below (by repeat (first | (with_reducible first | exact HB.out | apply pbA | apply pbN | apply pb1 | refine pbS ?_ GE398.out | refine pbS ?_ GE399.out) | exact HB.out))); (case side2 => repeat (first | exact (Kd.C_below HR0_2.out HB.out) | (with_reducible refine Kd.C_alloc ?_ _) | (with_reducible refine Kd.C_drewN ?_ _) | (with_reducible refine Kd.C_drew ?_))); (case side3 => exact HC0_2.out); rintro e w74 ⟨rfl, hb⟩; refine ⟨_, rfl, ?_⟩; have n0_ := Az.mk (bkB (g := gb398) (o := .cells #[.int .i64 a0_0, .int .i64 a0_1, .slice A0_2 l0_2.length c0_2] 24 (0, 0)) (by (with_reducible repeat (first | refine bkN ?_ _ | refine bkD ?_ | refine bkA ?_ _)); exact BK398.out) hb); have n1_ := Az.mk (bkB (g := gb399) (o := .cells #[.int .i64 a1_0, .int .i64 a1_1, .slice A1_2 l1_2.length c1_2] 24 (0, 0)) (by (with_reducible repeat (first | refine bkN ?_ _ | refine bkD ?_ | refine bkA ?_ _)); exact BK399.out) hb); have n2_ := Az.mk (pbT (by repeat (first | (with_reducible first | exact HB.out | apply pbA | apply pbN | apply pb1 | refine pbS ?_ GE398.out | refine pbS ?_ GE399.out) | exact HB.out)) hb); clear BK398; clear BK399; clear HB; have BK398 := n0_; have BK399 := n1_; have HB := n2_; clear n0_ n1_ n2_; (try clear hb); (try clear hb2); (try clear hk); (try clear hi); have hcz75_0 : w74.cell? ⟨gb399, 0, none⟩ = some (.int .i64 a1_0) := (bkC BK399.out 0).trans rfl; have hcz75_1 : w74.cell? ⟨gb399, 1, none⟩ = some (.int .i64 a1_1) := (bkC BK399.out 1).trans rfl; have hcz75_2 : w74.cell? ⟨gb399, 2, none⟩ = some (.slice A1_2 l1_2.length c1_2) := (bkC BK399.out 2).trans rfl; have hfz75_0 := bkF BK399.out 0; have hfz75_1 := bkF BK399.out 1; have hfz75_2 := bkF BK399.out 2) | ((with_reducible refine gtc (f := 21) rfl ?_); refine goesL_ (some 37) rfl rfl Tryd.func21 (by kernel_rfl) rfl #[.agg #[.int .i64 a1_0, .int .i64 a1_1, .slice A1_2 l1_2.length c1_2]] rfl (by (try simp only [List.map_toArray, List.map_cons, List.map_nil]); first | done | rfl | (simp only [List.length_drop, List.length_take]; rfl)) ?_; (with_reducible refine (roll_Last.calls kj2 a1_0 a1_1 _ _ l1_2 t407 t408 _ ?side1 ?side2 ?side3 A41.out).mono ?_); (case side1 => exact hG.below (by repeat (first | (with_reducible first | exact HB.out | apply pbA | apply pbN | apply pb1 | refine pbS ?_ GE398.out | refine pbS ?_ GE399.out) | exact HB.out))); (case side2 => repeat (first | exact (Kd.C_below HR1_2.out HB.out) | (with_reducible refine Kd.C_alloc ?_ _) | (with_reducible refine Kd.C_drewN ?_ _) | (with_reducible refine Kd.C_drew ?_))); (case side3 => exact HC1_2.out); rintro e w76 ⟨rfl, hb⟩; refine ⟨_, rfl, ?_⟩; have n0_ := Az.mk (bkB (g := gb398) (o := .cells #[.int .i64 a0_0, .int .i64 a0_1, .slice A0_2 l0_2.length c0_2] 24 (0, 0)) (by (with_reducible repeat (first | refine bkN ?_ _ | refine bkD ?_ | refine bkA ?_ _)); exact BK398.out) hb); have n1_ := Az.mk (bkB (g := gb399) (o := .cells #[.int .i64 a1_0, .int .i64 a1_1, .slice A1_2 l1_2.length c1_2] 24 (0, 0)) (by (with_reducible repeat (first | refine bkN ?_ _ | refine bkD ?_ | refine bkA ?_ _)); exact BK399.out) hb); have n2_ := Az.mk (pbT (by repeat (first | (with_reducible first | exact HB.out | apply pbA | apply pbN | apply pb1 | refine pbS ?_ GE398.out | refine pbS ?_ GE399.out) | exact HB.out)) hb); clear BK398; clear BK399; clear HB; have BK398 := n0_; have BK399 := n1_; have HB := n2_; clear n0_ n1_ n2_; (try clear hb); (try clear hb2); (try clear hk); (try clear hi)))
                have n0_ := Az.mk (bkD BK398.out)
                have n1_ := Az.mk (bkD BK399.out)
                have n2_ := Az.mk (pb1 HB.out)
                clear BK398
                clear BK399
                clear HB
                have BK398 := n0_
                have BK399 := n1_
                have HB := n2_
                clear n0_ n1_ n2_
                refine start_ (n := 10) (S := fun w' => w'.cell? ⟨gb399, 0, none⟩ = some (.int .i64 a1_0) ∧ w'.cell? ⟨gb399, 1, none⟩ = some (.int .i64 a1_1) ∧ w'.cell? ⟨gb399, 2, none⟩ = some (.slice A1_2 l1_2.length c1_2) ∧ w'.cell? ⟨gb398, 0, none⟩ = some (.int .i64 a0_0) ∧ w'.cell? ⟨gb398, 1, none⟩ = some (.int .i64 a0_1) ∧ w'.cell? ⟨gb398, 2, none⟩ = some (.slice A0_2 l0_2.length c0_2)) (ds := []) #[false, false, false, false, false, false, false, false, false, false] (by kernel_rfl) rfl rfl ⟨(bkC BK399.out 0).trans rfl, (bkC BK399.out 1).trans rfl, (bkC BK399.out 2).trans rfl, (bkC BK398.out 0).trans rfl, (bkC BK398.out 1).trans rfl, (bkC BK398.out 2).trans rfl⟩ (fun hHeld => ?_); refine with_tabW l11_RollOrder.tab5 l11_RollOrder.bits5 (fun HT_ HW_ => ?_)
                generalize w76.drew = w77 at BK398 BK399 HB hHeld ⊢
                refine pure_ (i := 0) (N := some 40) (v := ?_) (a' := ?_) #[true, false, false, false, false, false, false, false, false, false] rfl rfl (any_of HT_.out (by kernel_rfl)) (fun _ _ _ h => h) (Or.inl ⟨by rfl, ?_⟩) ?_ ?_
                rotate_left
                · intro w'
                  go_simp
                  with_reducible rfl
                rotate_left
                · simp only [Act.put, List.setIfInBounds_toArray, List.set_cons_zero, List.set_cons_succ, i64_w, i32_w]
                  rfl
                refine pure_ (i := 1) (N := some 41) (v := ?_) (a' := ?_) #[true, true, false, false, false, false, false, false, false, false] rfl rfl (any_of HT_.out (by kernel_rfl)) (fun _ _ _ h => h) (Or.inl ⟨by rfl, ?_⟩) ?_ ?_
                rotate_left
                · intro w'
                  go_simp
                  with_reducible rfl
                rotate_left
                · simp only [Act.put, List.setIfInBounds_toArray, List.set_cons_zero, List.set_cons_succ, i64_w, i32_w]
                  rfl
                refine pure_ (i := 4) (N := some 44) (v := ?_) (a' := ?_) #[true, true, false, false, true, false, false, false, false, false] rfl rfl (any_of HT_.out (by kernel_rfl)) (fun _ _ _ h => h) (Or.inl ⟨by rfl, ?_⟩) ?_ ?_
                rotate_left
                · intro w'
                  go_simp
                  with_reducible rfl
                rotate_left
                · simp only [Act.put, List.setIfInBounds_toArray, List.set_cons_zero, List.set_cons_succ, i64_w, i32_w]
                  rfl
                refine pure_ (i := 5) (N := some 45) (v := ?_) (a' := ?_) #[true, true, false, false, true, true, false, false, false, false] rfl rfl (any_of HT_.out (by kernel_rfl)) (fun _ _ _ h => h) (Or.inl ⟨by rfl, ?_⟩) ?_ ?_
                rotate_left
                · intro w'
                  go_simp
                  with_reducible rfl
                rotate_left
                · simp only [Act.put, List.setIfInBounds_toArray, List.set_cons_zero, List.set_cons_succ, i64_w, i32_w]
                  rfl
                refine take_ (i := 2) (N := some 42) (v := ?_) (a' := ?_) #[true, true, true, false, true, true, false, false, false, false] rfl rfl (take_ofW HT_.out HW_.out (by kernel_rfl)) (fun _ _ _ h => h) (Or.inl ⟨by rfl, ?_⟩) hHeld ?_ ?_
                rotate_left
                · rintro w' ⟨s0, s1, s2, s3, s4, s5⟩
                  go_simp
                  with_reducible rfl
                rotate_left
                · simp only [Act.put, List.setIfInBounds_toArray, List.set_cons_zero, List.set_cons_succ, i64_w, i32_w]
                  rfl
                refine take_ (i := 6) (N := some 46) (v := ?_) (a' := ?_) #[true, true, true, false, true, true, true, false, false, false] rfl rfl (take_ofW HT_.out HW_.out (by kernel_rfl)) (fun _ _ _ h => h) (Or.inl ⟨by rfl, ?_⟩) hHeld ?_ ?_
                rotate_left
                · rintro w' ⟨s0, s1, s2, s3, s4, s5⟩
                  go_simp
                  with_reducible rfl
                rotate_left
                · simp only [Act.put, List.setIfInBounds_toArray, List.set_cons_zero, List.set_cons_succ, i64_w, i32_w]
                  rfl
                refine one_ (i := 3) (N := some 43) #[true, true, true, true, true, true, true, false, false, false] rfl rfl (one_of HT_.out (by kernel_rfl)) (by decide) (fun K hK => ?_)
                refine goes_ Tryd.func22 (by kernel_rfl) rfl #[.int .i64 t406, .int .i64 t405, .agg #[.int .i64 a1_0, .int .i64 a1_1, .slice A1_2 l1_2.length c1_2]] (by rfl) rfl rfl (by (try simp only [List.map_toArray, List.map_cons, List.map_nil]); first | done | rfl | (simp only [List.length_drop, List.length_take]; rfl)) ?_
                with_reducible refine (roll_Newer.calls kj2 t406 t405 a1_0 a1_1 _ _ l1_2 false _ ?side1 ?side2 ?side3 A42.out).mono ?_
                (case side1 => exact hG.below (by repeat (first | (with_reducible first | exact HB.out | apply pbA | apply pbN | apply pb1 | refine pbS ?_ GE398.out | refine pbS ?_ GE399.out) | exact HB.out)))
                (case side2 => repeat (first | exact (Kd.C_below HR1_2.out HB.out) | (with_reducible refine Kd.C_alloc ?_ _) | (with_reducible refine Kd.C_drewN ?_ _) | (with_reducible refine Kd.C_drew ?_)))
                (case side3 => exact HC1_2.out)
                rintro e w78 ⟨rfl, hb⟩
                refine ⟨_, rfl, ?_⟩
                have n0_ := Az.mk (bkB (g := gb398) (o := .cells #[.int .i64 a0_0, .int .i64 a0_1, .slice A0_2 l0_2.length c0_2] 24 (0, 0)) (by (with_reducible repeat (first | refine bkN ?_ _ | refine bkD ?_ | refine bkA ?_ _)); exact BK398.out) hb)
                have n1_ := Az.mk (bkB (g := gb399) (o := .cells #[.int .i64 a1_0, .int .i64 a1_1, .slice A1_2 l1_2.length c1_2] 24 (0, 0)) (by (with_reducible repeat (first | refine bkN ?_ _ | refine bkD ?_ | refine bkA ?_ _)); exact BK399.out) hb)
                have n2_ := Az.mk (pbT (by repeat (first | (with_reducible first | exact HB.out | apply pbA | apply pbN | apply pb1 | refine pbS ?_ GE398.out | refine pbS ?_ GE399.out) | exact HB.out)) hb)
                clear BK398
                clear BK399
                clear HB
                have BK398 := n0_
                have BK399 := n1_
                have HB := n2_
                clear n0_ n1_ n2_
                (try clear hb)
                (try clear hb2)
                (try clear hk)
                (try clear hi)
                refine hK.out _ _ ⟨(bkC BK399.out 0).trans rfl, (bkC BK399.out 1).trans rfl, (bkC BK399.out 2).trans rfl, (bkC BK398.out 0).trans rfl, (bkC BK398.out 1).trans rfl, (bkC BK398.out 2).trans rfl⟩ (fun hHeld => ?_)
                clear hK K
                refine norm_ (a' := ?_) ?_ ?_
                rotate_left
                · show Act.put _ (some 43) _ = _
                  simp only [Act.put, List.setIfInBounds_toArray, List.set_cons_zero, List.set_cons_succ, i64_w, i32_w]
                  rfl
                refine one_ (i := 7) (N := some 47) #[true, true, true, true, true, true, true, true, false, false] rfl rfl (one_of HT_.out (by kernel_rfl)) (by decide) (fun K hK => ?_)
                refine goes_ Tryd.func22 (by kernel_rfl) rfl #[.int .i64 t408, .int .i64 t407, .agg #[.int .i64 a0_0, .int .i64 a0_1, .slice A0_2 l0_2.length c0_2]] (by rfl) rfl rfl (by (try simp only [List.map_toArray, List.map_cons, List.map_nil]); first | done | rfl | (simp only [List.length_drop, List.length_take]; rfl)) ?_
                with_reducible refine (roll_Newer.calls kj2 t408 t407 a0_0 a0_1 _ _ l0_2 true _ ?side1 ?side2 ?side3 A43.out).mono ?_
                (case side1 => exact hG.below (by repeat (first | (with_reducible first | exact HB.out | apply pbA | apply pbN | apply pb1 | refine pbS ?_ GE398.out | refine pbS ?_ GE399.out) | exact HB.out)))
                (case side2 => repeat (first | exact (Kd.C_below HR0_2.out HB.out) | (with_reducible refine Kd.C_alloc ?_ _) | (with_reducible refine Kd.C_drewN ?_ _) | (with_reducible refine Kd.C_drew ?_)))
                (case side3 => exact HC0_2.out)
                rintro e w79 ⟨rfl, hb⟩
                refine ⟨_, rfl, ?_⟩
                have n0_ := Az.mk (bkB (g := gb398) (o := .cells #[.int .i64 a0_0, .int .i64 a0_1, .slice A0_2 l0_2.length c0_2] 24 (0, 0)) (by (with_reducible repeat (first | refine bkN ?_ _ | refine bkD ?_ | refine bkA ?_ _)); exact BK398.out) hb)
                have n1_ := Az.mk (bkB (g := gb399) (o := .cells #[.int .i64 a1_0, .int .i64 a1_1, .slice A1_2 l1_2.length c1_2] 24 (0, 0)) (by (with_reducible repeat (first | refine bkN ?_ _ | refine bkD ?_ | refine bkA ?_ _)); exact BK399.out) hb)
                have n2_ := Az.mk (pbT (by repeat (first | (with_reducible first | exact HB.out | apply pbA | apply pbN | apply pb1 | refine pbS ?_ GE398.out | refine pbS ?_ GE399.out) | exact HB.out)) hb)
                clear BK398
                clear BK399
                clear HB
                have BK398 := n0_
                have BK399 := n1_
                have HB := n2_
                clear n0_ n1_ n2_
                (try clear hb)
                (try clear hb2)
                (try clear hk)
                (try clear hi)
                refine hK.out _ _ ⟨(bkC BK399.out 0).trans rfl, (bkC BK399.out 1).trans rfl, (bkC BK399.out 2).trans rfl, (bkC BK398.out 0).trans rfl, (bkC BK398.out 1).trans rfl, (bkC BK398.out 2).trans rfl⟩ (fun hHeld => ?_)
                clear hK K
                refine norm_ (a' := ?_) ?_ ?_
                rotate_left
                · show Act.put _ (some 47) _ = _
                  simp only [Act.put, List.setIfInBounds_toArray, List.set_cons_zero, List.set_cons_succ, i64_w, i32_w]
                  rfl
                refine pure_ (i := 8) (N := some 9) (v := ?_) (a' := ?_) #[true, true, true, true, true, true, true, true, true, false] rfl rfl (any_of HT_.out (by kernel_rfl)) (fun _ _ _ h => h) (Or.inl ⟨by rfl, ?_⟩) ?_ ?_
                rotate_left
                · intro w'
                  go_simp
                  with_reducible rfl
                rotate_left
                · simp only [Act.put, List.setIfInBounds_toArray, List.set_cons_zero, List.set_cons_succ, i64_w, i32_w]
                  rfl
                refine pure_ (i := 9) (N := some 10) (v := ?_) (a' := ?_) #[true, true, true, true, true, true, true, true, true, true] rfl rfl (any_of HT_.out (by kernel_rfl)) (fun _ _ _ h => h) (Or.inl ⟨by rfl, ?_⟩) ?_ ?_
                rotate_left
                · intro w'
                  go_simp
                  with_reducible rfl
                rotate_left
                · simp only [Act.put, List.setIfInBounds_toArray, List.set_cons_zero, List.set_cons_succ, i64_w, i32_w]
                  rfl
                refine done_ (done_of HT_.out (by kernel_rfl)) ?_
                try go_wp2_with (first | (go_at_call 9; (with_reducible refine (l11_live.calls  t413 _ ?side1 A71.out).mono ?_); (case side1 => exact hG.below (by repeat (first | (with_reducible first | exact HB.out | apply pbA | apply pbN | apply pb1 | refine pbS ?_ GE398.out | refine pbS ?_ GE399.out) | exact HB.out))); rintro e w80 ⟨rfl, hb⟩; have n0_ := Az.mk (bkB (g := gb398) (o := .cells #[.int .i64 a0_0, .int .i64 a0_1, .slice A0_2 l0_2.length c0_2] 24 (0, 0)) (by (with_reducible repeat (first | refine bkN ?_ _ | refine bkD ?_ | refine bkA ?_ _)); exact BK398.out) hb); have n1_ := Az.mk (bkB (g := gb399) (o := .cells #[.int .i64 a1_0, .int .i64 a1_1, .slice A1_2 l1_2.length c1_2] 24 (0, 0)) (by (with_reducible repeat (first | refine bkN ?_ _ | refine bkD ?_ | refine bkA ?_ _)); exact BK399.out) hb); have n2_ := Az.mk (pbT (by repeat (first | (with_reducible first | exact HB.out | apply pbA | apply pbN | apply pb1 | refine pbS ?_ GE398.out | refine pbS ?_ GE399.out) | exact HB.out)) hb); clear BK398; clear BK399; clear HB; have BK398 := n0_; have BK399 := n1_; have HB := n2_; clear n0_ n1_ n2_; (try clear hb); (try clear hb2); (try clear hk); (try clear hi)))
                go_ret
                exact ⟨by first | rfl | (simp [errW_none, errW_some] <;> rfl) | (simp [*, errW_none, errW_some] <;> rfl), by repeat (first | (with_reducible first | exact HB.out | apply pbA | apply pbN | apply pb1 | refine pbS ?_ GE398.out | refine pbS ?_ GE399.out) | exact HB.out)⟩
              · rw [if_neg c70] at H
                have c70b0 : (false == (t406 == t408)) = false := by simpa using c70
                (try (have c70b1 : decide (false = (t406 == t408)) = false := by simpa using c70))
                (try (have c70b2 : (false == (t406 == t408)) = false := by simpa using c70))
                (try (have c70b3 : ¬ (false = (t406 == t408)) := by simpa using c70))
                clear c70
                exact absurd (Option.some.inj (H.trans (congrArg some hr))) (by decide)
            · rw [if_neg c69] at H
              have c69b0 : (t405 == t407) = false := beq_eq_false_iff_ne.mpr c69
              have c69b1 : (t405 != t407) = true := bne_iff_ne.mpr c69
              by_cases c81 : (false == false) = true
              · rw [if_pos c81] at H
                have c81b0 : (false == false) = true := c81
                (try (have c81b1 : decide (false = false) = true := by simpa using c81))
                (try (have c81b2 : (false == false) = true := by simpa using c81))
                clear c81
                replace H := Option.bind_eq_some_iff.mp H
                obtain ⟨t414, A820, H⟩ := H
                replace H : (some t414) = some r := H
                have A82 := Az.mk A820
                clear A820
                obtain rfl := Option.some.inj H
                have hnb83 := NB398_399.out
                have hnc83 := NB399_398.out
                have hcz84_0 : wc.cell? ⟨gb398, 0, none⟩ = some (.int .i64 a0_0) := (bkC BK398.out 0).trans rfl
                have hcz84_1 : wc.cell? ⟨gb398, 1, none⟩ = some (.int .i64 a0_1) := (bkC BK398.out 1).trans rfl
                have hcz84_2 : wc.cell? ⟨gb398, 2, none⟩ = some (.slice A0_2 l0_2.length c0_2) := (bkC BK398.out 2).trans rfl
                have hfz84_0 := bkF BK398.out 0
                have hfz84_1 := bkF BK398.out 1
                have hfz84_2 := bkF BK398.out 2
                try go_wp2_with (first | ((with_reducible refine gtc (f := 21) rfl ?_); refine goesL_ (some 32) rfl rfl Tryd.func21 (by kernel_rfl) rfl #[.agg #[.int .i64 a0_0, .int .i64 a0_1, .slice A0_2 l0_2.length c0_2]] rfl (by (try simp only [List.map_toArray, List.map_cons, List.map_nil]); first | done | rfl | (simp only [List.length_drop, List.length_take]; rfl)) ?_; (with_reducible refine (roll_Last.calls kj2 a0_0 a0_1 _ _ l0_2 t405 t406 _ ?side1 ?side2 ?side3 A40.out).mono ?_); (case side1 => exact hG.below (by repeat (first | (with_reducible first | exact HB.out | apply pbA | apply pbN | apply pb1 | refine pbS ?_ GE398.out | refine pbS ?_ GE399.out) | exact HB.out))); (case side2 => repeat (first | exact (Kd.C_below HR0_2.out HB.out) | (with_reducible refine Kd.C_alloc ?_ _) | (with_reducible refine Kd.C_drewN ?_ _) | (with_reducible refine Kd.C_drew ?_))); (case side3 => exact HC0_2.out); rintro e w85 ⟨rfl, hb⟩; refine ⟨_, rfl, ?_⟩; have n0_ := Az.mk (bkB (g := gb398) (o := .cells #[.int .i64 a0_0, .int .i64 a0_1, .slice A0_2 l0_2.length c0_2] 24 (0, 0)) (by (with_reducible repeat (first | refine bkN ?_ _ | refine bkD ?_ | refine bkA ?_ _)); exact BK398.out) hb); have n1_ := Az.mk (bkB (g := gb399) (o := .cells #[.int .i64 a1_0, .int .i64 a1_1, .slice A1_2 l1_2.length c1_2] 24 (0, 0)) (by (with_reducible repeat (first | refine bkN ?_ _ | refine bkD ?_ | refine bkA ?_ _)); exact BK399.out) hb); have n2_ := Az.mk (pbT (by repeat (first | (with_reducible first | exact HB.out | apply pbA | apply pbN | apply pb1 | refine pbS ?_ GE398.out | refine pbS ?_ GE399.out) | exact HB.out)) hb); clear BK398; clear BK399; clear HB; have BK398 := n0_; have BK399 := n1_; have HB := n2_; clear n0_ n1_ n2_; (try clear hb); (try clear hb2); (try clear hk); (try clear hi); have hcz86_0 : w85.cell? ⟨gb399, 0, none⟩ = some (.int .i64 a1_0) := (bkC BK399.out 0).trans rfl; have hcz86_1 : w85.cell? ⟨gb399, 1, none⟩ = some (.int .i64 a1_1) := (bkC BK399.out 1).trans rfl; have hcz86_2 : w85.cell? ⟨gb399, 2, none⟩ = some (.slice A1_2 l1_2.length c1_2) := (bkC BK399.out 2).trans rfl; have hfz86_0 := bkF BK399.out 0; have hfz86_1 := bkF BK399.out 1; have hfz86_2 := bkF BK399.out 2) | ((with_reducible refine gtc (f := 21) rfl ?_); refine goesL_ (some 37) rfl rfl Tryd.func21 (by kernel_rfl) rfl #[.agg #[.int .i64 a1_0, .int .i64 a1_1, .slice A1_2 l1_2.length c1_2]] rfl (by (try simp only [List.map_toArray, List.map_cons, List.map_nil]); first | done | rfl | (simp only [List.length_drop, List.length_take]; rfl)) ?_; (with_reducible refine (roll_Last.calls kj2 a1_0 a1_1 _ _ l1_2 t407 t408 _ ?side1 ?side2 ?side3 A41.out).mono ?_); (case side1 => exact hG.below (by repeat (first | (with_reducible first | exact HB.out | apply pbA | apply pbN | apply pb1 | refine pbS ?_ GE398.out | refine pbS ?_ GE399.out) | exact HB.out))); (case side2 => repeat (first | exact (Kd.C_below HR1_2.out HB.out) | (with_reducible refine Kd.C_alloc ?_ _) | (with_reducible refine Kd.C_drewN ?_ _) | (with_reducible refine Kd.C_drew ?_))); (case side3 => exact HC1_2.out); rintro e w87 ⟨rfl, hb⟩; refine ⟨_, rfl, ?_⟩; have n0_ := Az.mk (bkB (g := gb398) (o := .cells #[.int .i64 a0_0, .int .i64 a0_1, .slice A0_2 l0_2.length c0_2] 24 (0, 0)) (by (with_reducible repeat (first | refine bkN ?_ _ | refine bkD ?_ | refine bkA ?_ _)); exact BK398.out) hb); have n1_ := Az.mk (bkB (g := gb399) (o := .cells #[.int .i64 a1_0, .int .i64 a1_1, .slice A1_2 l1_2.length c1_2] 24 (0, 0)) (by (with_reducible repeat (first | refine bkN ?_ _ | refine bkD ?_ | refine bkA ?_ _)); exact BK399.out) hb); have n2_ := Az.mk (pbT (by repeat (first | (with_reducible first | exact HB.out | apply pbA | apply pbN | apply pb1 | refine pbS ?_ GE398.out | refine pbS ?_ GE399.out) | exact HB.out)) hb); clear BK398; clear BK399; clear HB; have BK398 := n0_; have BK399 := n1_; have HB := n2_; clear n0_ n1_ n2_; (try clear hb); (try clear hb2); (try clear hk); (try clear hi)))
                have n0_ := Az.mk (bkD BK398.out)
                have n1_ := Az.mk (bkD BK399.out)
                have n2_ := Az.mk (pb1 HB.out)
                clear BK398
                clear BK399
                clear HB
                have BK398 := n0_
                have BK399 := n1_
                have HB := n2_
                clear n0_ n1_ n2_
                refine start_ (n := 10) (S := fun w' => w'.cell? ⟨gb399, 0, none⟩ = some (.int .i64 a1_0) ∧ w'.cell? ⟨gb399, 1, none⟩ = some (.int .i64 a1_1) ∧ w'.cell? ⟨gb399, 2, none⟩ = some (.slice A1_2 l1_2.length c1_2) ∧ w'.cell? ⟨gb398, 0, none⟩ = some (.int .i64 a0_0) ∧ w'.cell? ⟨gb398, 1, none⟩ = some (.int .i64 a0_1) ∧ w'.cell? ⟨gb398, 2, none⟩ = some (.slice A0_2 l0_2.length c0_2)) (ds := []) #[false, false, false, false, false, false, false, false, false, false] (by kernel_rfl) rfl rfl ⟨(bkC BK399.out 0).trans rfl, (bkC BK399.out 1).trans rfl, (bkC BK399.out 2).trans rfl, (bkC BK398.out 0).trans rfl, (bkC BK398.out 1).trans rfl, (bkC BK398.out 2).trans rfl⟩ (fun hHeld => ?_); refine with_tabW l11_RollOrder.tab5 l11_RollOrder.bits5 (fun HT_ HW_ => ?_)
                generalize w87.drew = w88 at BK398 BK399 HB hHeld ⊢
                refine pure_ (i := 0) (N := some 40) (v := ?_) (a' := ?_) #[true, false, false, false, false, false, false, false, false, false] rfl rfl (any_of HT_.out (by kernel_rfl)) (fun _ _ _ h => h) (Or.inl ⟨by rfl, ?_⟩) ?_ ?_
                rotate_left
                · intro w'
                  go_simp
                  with_reducible rfl
                rotate_left
                · simp only [Act.put, List.setIfInBounds_toArray, List.set_cons_zero, List.set_cons_succ, i64_w, i32_w]
                  rfl
                refine pure_ (i := 1) (N := some 41) (v := ?_) (a' := ?_) #[true, true, false, false, false, false, false, false, false, false] rfl rfl (any_of HT_.out (by kernel_rfl)) (fun _ _ _ h => h) (Or.inl ⟨by rfl, ?_⟩) ?_ ?_
                rotate_left
                · intro w'
                  go_simp
                  with_reducible rfl
                rotate_left
                · simp only [Act.put, List.setIfInBounds_toArray, List.set_cons_zero, List.set_cons_succ, i64_w, i32_w]
                  rfl
                refine pure_ (i := 4) (N := some 44) (v := ?_) (a' := ?_) #[true, true, false, false, true, false, false, false, false, false] rfl rfl (any_of HT_.out (by kernel_rfl)) (fun _ _ _ h => h) (Or.inl ⟨by rfl, ?_⟩) ?_ ?_
                rotate_left
                · intro w'
                  go_simp
                  with_reducible rfl
                rotate_left
                · simp only [Act.put, List.setIfInBounds_toArray, List.set_cons_zero, List.set_cons_succ, i64_w, i32_w]
                  rfl
                refine pure_ (i := 5) (N := some 45) (v := ?_) (a' := ?_) #[true, true, false, false, true, true, false, false, false, false] rfl rfl (any_of HT_.out (by kernel_rfl)) (fun _ _ _ h => h) (Or.inl ⟨by rfl, ?_⟩) ?_ ?_
                rotate_left
                · intro w'
                  go_simp
                  with_reducible rfl
                rotate_left
                · simp only [Act.put, List.setIfInBounds_toArray, List.set_cons_zero, List.set_cons_succ, i64_w, i32_w]
                  rfl
                refine take_ (i := 2) (N := some 42) (v := ?_) (a' := ?_) #[true, true, true, false, true, true, false, false, false, false] rfl rfl (take_ofW HT_.out HW_.out (by kernel_rfl)) (fun _ _ _ h => h) (Or.inl ⟨by rfl, ?_⟩) hHeld ?_ ?_
                rotate_left
                · rintro w' ⟨s0, s1, s2, s3, s4, s5⟩
                  go_simp
                  with_reducible rfl
                rotate_left
                · simp only [Act.put, List.setIfInBounds_toArray, List.set_cons_zero, List.set_cons_succ, i64_w, i32_w]
                  rfl
                refine take_ (i := 6) (N := some 46) (v := ?_) (a' := ?_) #[true, true, true, false, true, true, true, false, false, false] rfl rfl (take_ofW HT_.out HW_.out (by kernel_rfl)) (fun _ _ _ h => h) (Or.inl ⟨by rfl, ?_⟩) hHeld ?_ ?_
                rotate_left
                · rintro w' ⟨s0, s1, s2, s3, s4, s5⟩
                  go_simp
                  with_reducible rfl
                rotate_left
                · simp only [Act.put, List.setIfInBounds_toArray, List.set_cons_zero, List.set_cons_succ, i64_w, i32_w]
                  rfl
                refine one_ (i := 3) (N := some 43) #[true, true, true, true, true, true, true, false, false, false] rfl rfl (one_of HT_.out (by kernel_rfl)) (by decide) (fun K hK => ?_)
                refine goes_ Tryd.func22 (by kernel_rfl) rfl #[.int .i64 t406, .int .i64 t405, .agg #[.int .i64 a1_0, .int .i64 a1_1, .slice A1_2 l1_2.length c1_2]] (by rfl) rfl rfl (by (try simp only [List.map_toArray, List.map_cons, List.map_nil]); first | done | rfl | (simp only [List.length_drop, List.length_take]; rfl)) ?_
                with_reducible refine (roll_Newer.calls kj2 t406 t405 a1_0 a1_1 _ _ l1_2 false _ ?side1 ?side2 ?side3 A42.out).mono ?_
                (case side1 => exact hG.below (by repeat (first | (with_reducible first | exact HB.out | apply pbA | apply pbN | apply pb1 | refine pbS ?_ GE398.out | refine pbS ?_ GE399.out) | exact HB.out)))
                (case side2 => repeat (first | exact (Kd.C_below HR1_2.out HB.out) | (with_reducible refine Kd.C_alloc ?_ _) | (with_reducible refine Kd.C_drewN ?_ _) | (with_reducible refine Kd.C_drew ?_)))
                (case side3 => exact HC1_2.out)
                rintro e w89 ⟨rfl, hb⟩
                refine ⟨_, rfl, ?_⟩
                have n0_ := Az.mk (bkB (g := gb398) (o := .cells #[.int .i64 a0_0, .int .i64 a0_1, .slice A0_2 l0_2.length c0_2] 24 (0, 0)) (by (with_reducible repeat (first | refine bkN ?_ _ | refine bkD ?_ | refine bkA ?_ _)); exact BK398.out) hb)
                have n1_ := Az.mk (bkB (g := gb399) (o := .cells #[.int .i64 a1_0, .int .i64 a1_1, .slice A1_2 l1_2.length c1_2] 24 (0, 0)) (by (with_reducible repeat (first | refine bkN ?_ _ | refine bkD ?_ | refine bkA ?_ _)); exact BK399.out) hb)
                have n2_ := Az.mk (pbT (by repeat (first | (with_reducible first | exact HB.out | apply pbA | apply pbN | apply pb1 | refine pbS ?_ GE398.out | refine pbS ?_ GE399.out) | exact HB.out)) hb)
                clear BK398
                clear BK399
                clear HB
                have BK398 := n0_
                have BK399 := n1_
                have HB := n2_
                clear n0_ n1_ n2_
                (try clear hb)
                (try clear hb2)
                (try clear hk)
                (try clear hi)
                refine hK.out _ _ ⟨(bkC BK399.out 0).trans rfl, (bkC BK399.out 1).trans rfl, (bkC BK399.out 2).trans rfl, (bkC BK398.out 0).trans rfl, (bkC BK398.out 1).trans rfl, (bkC BK398.out 2).trans rfl⟩ (fun hHeld => ?_)
                clear hK K
                refine norm_ (a' := ?_) ?_ ?_
                rotate_left
                · show Act.put _ (some 43) _ = _
                  simp only [Act.put, List.setIfInBounds_toArray, List.set_cons_zero, List.set_cons_succ, i64_w, i32_w]
                  rfl
                refine one_ (i := 7) (N := some 47) #[true, true, true, true, true, true, true, true, false, false] rfl rfl (one_of HT_.out (by kernel_rfl)) (by decide) (fun K hK => ?_)
                refine goes_ Tryd.func22 (by kernel_rfl) rfl #[.int .i64 t408, .int .i64 t407, .agg #[.int .i64 a0_0, .int .i64 a0_1, .slice A0_2 l0_2.length c0_2]] (by rfl) rfl rfl (by (try simp only [List.map_toArray, List.map_cons, List.map_nil]); first | done | rfl | (simp only [List.length_drop, List.length_take]; rfl)) ?_
                with_reducible refine (roll_Newer.calls kj2 t408 t407 a0_0 a0_1 _ _ l0_2 true _ ?side1 ?side2 ?side3 A43.out).mono ?_
                (case side1 => exact hG.below (by repeat (first | (with_reducible first | exact HB.out | apply pbA | apply pbN | apply pb1 | refine pbS ?_ GE398.out | refine pbS ?_ GE399.out) | exact HB.out)))
                (case side2 => repeat (first | exact (Kd.C_below HR0_2.out HB.out) | (with_reducible refine Kd.C_alloc ?_ _) | (with_reducible refine Kd.C_drewN ?_ _) | (with_reducible refine Kd.C_drew ?_)))
                (case side3 => exact HC0_2.out)
                rintro e w90 ⟨rfl, hb⟩
                refine ⟨_, rfl, ?_⟩
                have n0_ := Az.mk (bkB (g := gb398) (o := .cells #[.int .i64 a0_0, .int .i64 a0_1, .slice A0_2 l0_2.length c0_2] 24 (0, 0)) (by (with_reducible repeat (first | refine bkN ?_ _ | refine bkD ?_ | refine bkA ?_ _)); exact BK398.out) hb)
                have n1_ := Az.mk (bkB (g := gb399) (o := .cells #[.int .i64 a1_0, .int .i64 a1_1, .slice A1_2 l1_2.length c1_2] 24 (0, 0)) (by (with_reducible repeat (first | refine bkN ?_ _ | refine bkD ?_ | refine bkA ?_ _)); exact BK399.out) hb)
                have n2_ := Az.mk (pbT (by repeat (first | (with_reducible first | exact HB.out | apply pbA | apply pbN | apply pb1 | refine pbS ?_ GE398.out | refine pbS ?_ GE399.out) | exact HB.out)) hb)
                clear BK398
                clear BK399
                clear HB
                have BK398 := n0_
                have BK399 := n1_
                have HB := n2_
                clear n0_ n1_ n2_
                (try clear hb)
                (try clear hb2)
                (try clear hk)
                (try clear hi)
                refine hK.out _ _ ⟨(bkC BK399.out 0).trans rfl, (bkC BK399.out 1).trans rfl, (bkC BK399.out 2).trans rfl, (bkC BK398.out 0).trans rfl, (bkC BK398.out 1).trans rfl, (bkC BK398.out 2).trans rfl⟩ (fun hHeld => ?_)
                clear hK K
                refine norm_ (a' := ?_) ?_ ?_
                rotate_left
                · show Act.put _ (some 47) _ = _
                  simp only [Act.put, List.setIfInBounds_toArray, List.set_cons_zero, List.set_cons_succ, i64_w, i32_w]
                  rfl
                refine pure_ (i := 8) (N := some 9) (v := ?_) (a' := ?_) #[true, true, true, true, true, true, true, true, true, false] rfl rfl (any_of HT_.out (by kernel_rfl)) (fun _ _ _ h => h) (Or.inl ⟨by rfl, ?_⟩) ?_ ?_
                rotate_left
                · intro w'
                  go_simp
                  with_reducible rfl
                rotate_left
                · simp only [Act.put, List.setIfInBounds_toArray, List.set_cons_zero, List.set_cons_succ, i64_w, i32_w]
                  rfl
                refine pure_ (i := 9) (N := some 10) (v := ?_) (a' := ?_) #[true, true, true, true, true, true, true, true, true, true] rfl rfl (any_of HT_.out (by kernel_rfl)) (fun _ _ _ h => h) (Or.inl ⟨by rfl, ?_⟩) ?_ ?_
                rotate_left
                · intro w'
                  go_simp
                  with_reducible rfl
                rotate_left
                · simp only [Act.put, List.setIfInBounds_toArray, List.set_cons_zero, List.set_cons_succ, i64_w, i32_w]
                  rfl
                refine done_ (done_of HT_.out (by kernel_rfl)) ?_
                try go_wp2_with (first | (go_at_call 9; (with_reducible refine (l11_live.calls  t414 _ ?side1 A82.out).mono ?_); (case side1 => exact hG.below (by repeat (first | (with_reducible first | exact HB.out | apply pbA | apply pbN | apply pb1 | refine pbS ?_ GE398.out | refine pbS ?_ GE399.out) | exact HB.out))); rintro e w91 ⟨rfl, hb⟩; have n0_ := Az.mk (bkB (g := gb398) (o := .cells #[.int .i64 a0_0, .int .i64 a0_1, .slice A0_2 l0_2.length c0_2] 24 (0, 0)) (by (with_reducible repeat (first | refine bkN ?_ _ | refine bkD ?_ | refine bkA ?_ _)); exact BK398.out) hb); have n1_ := Az.mk (bkB (g := gb399) (o := .cells #[.int .i64 a1_0, .int .i64 a1_1, .slice A1_2 l1_2.length c1_2] 24 (0, 0)) (by (with_reducible repeat (first | refine bkN ?_ _ | refine bkD ?_ | refine bkA ?_ _)); exact BK399.out) hb); have n2_ := Az.mk (pbT (by repeat (first | (with_reducible first | exact HB.out | apply pbA | apply pbN | apply pb1 | refine pbS ?_ GE398.out | refine pbS ?_ GE399.out) | exact HB.out)) hb); clear BK398; clear BK399; clear HB; have BK398 := n0_; have BK399 := n1_; have HB := n2_; clear n0_ n1_ n2_; (try clear hb); (try clear hb2); (try clear hk); (try clear hi)))
                go_ret
                exact ⟨by first | rfl | (simp [errW_none, errW_some] <;> rfl) | (simp [*, errW_none, errW_some] <;> rfl), by repeat (first | (with_reducible first | exact HB.out | apply pbA | apply pbN | apply pb1 | refine pbS ?_ GE398.out | refine pbS ?_ GE399.out) | exact HB.out)⟩
              · rw [if_neg c81] at H
                have c81b0 : (false == false) = false := by simpa using c81
                (try (have c81b1 : decide (false = false) = false := by simpa using c81))
                (try (have c81b2 : (false == false) = false := by simpa using c81))
                (try (have c81b3 : ¬ (false = false) := by simpa using c81))
                clear c81
                exact absurd (Option.some.inj (H.trans (congrArg some hr))) (by decide)
          · replace c68 := Bool.eq_false_iff.mpr c68
            subst c68
            have H1 : (some false) = some r := by rw [if_neg (show ¬ (false = true) by decide)] at H; exact H
            clear H
            have H := H1
            clear H1
            exact absurd (Option.some.inj (H.trans (congrArg some hr))) (by decide)
end Go.Proofs.YtjpihfjgomoijaaDoor.P
end
section
/- RollOrder, the plain law. -/
namespace Go.Proofs.YtjpihfjgomoijaaDoor.U
open Go.RowKit Go.Proofs.YtjpihfjgomoijaaDoorW.PrintWords Go.Proofs.YtjpihfjgomoijaaDoorW.PrintLast Go.Proofs.YtjpihfjgomoijaaDoorW.PrintMore Go.Proofs.YtjpihfjgomoijaaDoor.P Go.Proofs.YtjpihfjgomoijaaDoor.K Go.Proofs.YtjpihfjgomoijaaDoor.A Go.Proofs.YtjpihfjgomoijaaDoor.V
theorem RollOrder : ∀ (a0_0 : Int), (Lit.int .i64 a0_0).wf = true → ∀ (a0_1 : Int), (Lit.int .i64 a0_1).wf = true → ∀ (l0_2 : List S54), (l0_2.length * 24 ≤ reachBytes ∧ l0_2.length ≤ maxLen ∧ ∀ x ∈ l0_2, ((Lit.int .i64 x.f0).wf = true ∧ x.f1.size ≤ reachBytes)) → ∀ (a1_0 : Int), (Lit.int .i64 a1_0).wf = true → ∀ (a1_1 : Int), (Lit.int .i64 a1_1).wf = true → ∀ (l1_2 : List S54), (l1_2.length * 24 ≤ reachBytes ∧ l1_2.length ≤ maxLen ∧ ∀ x ∈ l1_2, ((Lit.int .i64 x.f0).wf = true ∧ x.f1.size ≤ reachBytes)) → ∃ k, l11_RollOrder.f k a0_0 a0_1 l0_2 a1_0 a1_1 l1_2 = some true := by
  intro b _ bt _ l ⟨hl1, _, hl3⟩ c _ ct _ m ⟨hm1, _, hm3⟩
  have hreach : reachBytes = 140737488351232 := rfl
  refine Ev.rounds ?_
  have hlive : Ev (fun _ => (l11_live.f).bind fun x => some x) true := by
    simp only [l11_live.f, Option.bind_some]
    exact Ev.now _
  have hbad : Ev (fun k => l11_RollOrder.j0 k true b bt l c ct m) true := by
    refine Ev.shift ?_
    simp only [l11_RollOrder.j0, if_true]
    exact hlive
  refine Ev.bind (small_ev b bt l (fun x hx => (hl3 x hx).2) (by omega)) ?_
  refine Ev.ite (fun hsm => ?_) (fun _ => hbad)
  obtain ⟨h1, h2⟩ := smallG_true hsm
  refine Ev.bind (small_ev c ct m (fun x hx => (hm3 x hx).2) (by omega)) ?_
  refine Ev.ite (fun hsm => ?_) (fun _ => hbad)
  obtain ⟨h3, h4⟩ := smallG_true hsm
  refine Ev.bind (is_ev b bt l (by omega)) ?_
  refine Ev.ite (fun hok => ?_) (fun _ => hbad)
  have hb : 0 ≤ b ∧ b ≤ 1099511627776 := by have := (okR_iff.1 hok).1; omega
  refine Ev.bind (is_ev c ct m (by omega)) ?_
  cases hok2 : okR c ct m with
  | false => exact hbad
  | true =>
    have hc : 0 ≤ c ∧ c ≤ 1099511627776 := by have := (okR_iff.1 hok2).1; omega
    have hl : l.length ≤ 1000000000 := by omega
    have hm : m.length ≤ 1000000000 := by omega
    refine Ev.shift ?_
    simp only [l11_RollOrder.j0]
    refine Ev.ite (fun h => absurd h (by simp)) (fun _ => ?_)
    refine Ev.bind (last_ev hb hl) (Ev.bind (last_ev hc hm) (Ev.bind (newer_ev hc hm) (Ev.bind (newer_ev hb hl) ?_)))
    unfold newerR
    generalize lastT b bt l = s
    generalize lastT c ct m = t
    generalize b + (l.length : Int) = i
    generalize c + (m.length : Int) = j
    refine Ev.ite (fun c1 => Ev.ite (fun c2 => Ev.ite (fun _ => hlive) (fun h => absurd ?_ h)) (fun c2 => Ev.ite (fun _ => hlive) (fun h => absurd ?_ h))) (fun c1 => Ev.ite (fun c3 => Ev.ite (fun c2 => Ev.ite (fun _ => hlive) (fun h => absurd ?_ h)) (fun c2 => Ev.ite (fun _ => hlive) (fun h => absurd rfl h))) (fun c3 => ?_))
    · simp only [decide_eq_true_eq] at c1 c2
      rw [beq_iff_eq]
      exact decide_eq_decide.2 (by omega)
    · simp only [decide_eq_true_eq] at c1 c2
      rw [beq_iff_eq, decide_eq_false_iff_not]
      omega
    · simp only [decide_eq_true_eq] at c1 c2 c3
      rw [beq_iff_eq, eq_comm]
      exact decide_eq_false (by omega)
    · simp only [decide_eq_true_eq] at c1 c3
      omega
end Go.Proofs.YtjpihfjgomoijaaDoor.U
end
section
/- furlong/furlonglaw11.RollOrder answers true at every input: the row and the tied card, out of its walk and of the plain law. -/
namespace Go.Proofs.YtjpihfjgomoijaaDoor.rollOrder
open Go.ChangeShapes Go.WideShapes Go.ChangeAt Go.RowKit Go.Proofs.YtjpihfjgomoijaaDoor.K
open Go.ChangeMaps (open_string shut_string)
open Go.RowKit Go.Proofs.YtjpihfjgomoijaaDoorW.PrintWords Go.Proofs.YtjpihfjgomoijaaDoorW.PrintLast Go.Proofs.YtjpihfjgomoijaaDoorW.PrintMore Go.Proofs.YtjpihfjgomoijaaDoor.P Go.Proofs.YtjpihfjgomoijaaDoor.K Go.Proofs.YtjpihfjgomoijaaDoor.A Go.Proofs.YtjpihfjgomoijaaDoor.V
set_option maxRecDepth 100000 in
theorem opn54 : O.Opn Tryd.prog 54 P.k54 (fun x => ((Lit.int .i64 x.f0).wf = true ∧ x.f1.size ≤ reachBytes)) := O.Opn.iso (fun y => ⟨y.1, y.2⟩) (fun _ => rfl) (O.Opn.struct Tryd.underlying54 (by kernel_rfl) (O.OpnF.cons rfl (by kernel_rfl) (O.Opn.int Tryd.underlying2) (O.OpnF.one rfl (by kernel_rfl) (O.Opn.string Tryd.underlying9))))
theorem fl54 : K.Flat P.k54 := by
  intro w w' x c h
  obtain rfl := P.k54_open h
  exact P.k54_mk w' x
set_option maxRecDepth 100000 in
theorem contract (H : Type) (enc : TypeId × Value → H) (W : World) (base : Nat) (args : Array Value) (ds gs : List (DataW H)) (before : List MemPlace)
    (hval0 : ∀ (j : Nat) t v, Tryd.f5.params[j]? = some t → args[j]? = some v → Value.okWide Tryd.prog W .any base t v)
    (hW : DataW.Whole enc Tryd.prog Tryd.f5.params.toList Rows.rollOrderSpec.vars false W args.toList ds gs before) (hG : TheG W)
    (hsz0 : (DataW.weightsEach Tryd.prog (Tryd.f5.params.toList ++ Rows.rollOrderSpec.plain.varTypes Tryd.prog) (ds ++ gs)).all (· ≤ reachBytes) = true) :
    Calls Tryd.prog 5 args W fun e W' => ∃ v, e = .returned v ∧ Rows.rollOrderSpec.post enc Tryd.prog Tryd.f5 false true false false W args v W' := by
  have hsz : (DataW.weightsEach Tryd.prog (Tryd.f5.params.toList ++ Rows.rollOrderSpec.plain.varTypes Tryd.prog) (ds ++ gs)).all (· ≤ reachBytes) = true := hsz0
  have hval : ∀ (j : Nat) t v, Tryd.f5.params[j]? = some t → args[j]? = some v → Value.okWide Tryd.prog W .any base t v := hval0
  have hW' := hW
  obtain ⟨p, q, hA0, hV, rfl, hfz, hnd⟩ := hW
  have hA : DataW.TrodAll enc Tryd.prog W 0 (fun _ => true) true Tryd.f5.params.toList args.toList ds p := hA0
  rw [Tryd.params5] at hA hval hsz
  obtain ⟨v0, vs0, d0, ds0, p0, q0, hargs, rfl, rfl, h0, r0⟩ := trodAll_cons hA
  obtain ⟨v1, vs1, d1, ds1, p1, q1, rfl, rfl, rfl, h1, r1⟩ := trodAll_cons r0
  obtain ⟨rfl, rfl, rfl⟩ := trodAll_nil r1
  obtain rfl : args = #[v0, v1] := by cases args; simp_all
  obtain ⟨rfl, rfl⟩ := trodVars_none hV
  have k0 := h0
  have lt0 : ∀ x ∈ p0, x.block < W.heap.size := by obtain ⟨m, hm⟩ := k0; exact DataW.trod_lt m _ _ _ hm
  have wt0 : ∀ n ∈ DataW.weights Tryd.prog 24 d0, n ≤ reachBytes := fun n hn => of_decide_eq_true (List.all_eq_true.1 hsz n (DataW.weights_mem_each (j := 0) rfl rfl n hn))
  obtain ⟨cs0, rfl, _⟩ := okWide_struct Tryd.underlying24 (hval 0 24 v0 rfl rfl)
  obtain ⟨fu0, hf0⟩ := h0
  obtain ⟨s0, hK0, hok0⟩ := (O.Opn.struct Tryd.underlying24 (by kernel_rfl) (O.OpnF.cons rfl (by kernel_rfl) (O.Opn.int Tryd.underlying2) (O.OpnF.cons rfl (by kernel_rfl) (O.Opn.int Tryd.underlying2) (O.OpnF.one rfl (by kernel_rfl) (O.Opn.slice Tryd.underlying22 (by kernel_rfl) (by kernel_rfl) opn54))))) H enc W _ _ _ _ _ _ _ hf0 wt0
  obtain ⟨a0_0, a0_1, l0_2⟩ := s0
  obtain ⟨o0_0, o0_1, o0_2⟩ := hok0
  obtain ⟨_, _, hcs0, rfl, _, _, rfl, rfl, A0_2, c0_2, rfl, hc0_2, hr0_2⟩ := hK0
  obtain rfl : cs0 = #[.int .i64 a0_0, .int .i64 a0_1, .slice A0_2 l0_2.length c0_2] := Array.toList_inj.1 (show cs0.toList = [.int .i64 a0_0, .int .i64 a0_1, .slice A0_2 l0_2.length c0_2] from hcs0)
  have k1 := h1
  have lt1 : ∀ x ∈ p1, x.block < W.heap.size := by obtain ⟨m, hm⟩ := k1; exact DataW.trod_lt m _ _ _ hm
  have wt1 : ∀ n ∈ DataW.weights Tryd.prog 24 d1, n ≤ reachBytes := fun n hn => of_decide_eq_true (List.all_eq_true.1 hsz n (DataW.weights_mem_each (j := 1) rfl rfl n hn))
  obtain ⟨cs1, rfl, _⟩ := okWide_struct Tryd.underlying24 (hval 1 24 v1 rfl rfl)
  obtain ⟨fu1, hf1⟩ := h1
  obtain ⟨s1, hK1, hok1⟩ := (O.Opn.struct Tryd.underlying24 (by kernel_rfl) (O.OpnF.cons rfl (by kernel_rfl) (O.Opn.int Tryd.underlying2) (O.OpnF.cons rfl (by kernel_rfl) (O.Opn.int Tryd.underlying2) (O.OpnF.one rfl (by kernel_rfl) (O.Opn.slice Tryd.underlying22 (by kernel_rfl) (by kernel_rfl) opn54))))) H enc W _ _ _ _ _ _ _ hf1 wt1
  obtain ⟨a1_0, a1_1, l1_2⟩ := s1
  obtain ⟨o1_0, o1_1, o1_2⟩ := hok1
  obtain ⟨_, _, hcs1, rfl, _, _, rfl, rfl, A1_2, c1_2, rfl, hc1_2, hr1_2⟩ := hK1
  obtain rfl : cs1 = #[.int .i64 a1_0, .int .i64 a1_1, .slice A1_2 l1_2.length c1_2] := Array.toList_inj.1 (show cs1.toList = [.int .i64 a1_0, .int .i64 a1_1, .slice A1_2 l1_2.length c1_2] from hcs1)
  obtain ⟨k, hp⟩ := U.RollOrder a0_0 o0_0 a0_1 o0_1 l0_2 o0_2 a1_0 o1_0 a1_1 o1_1 l1_2 o1_2
  refine (l11_RollOrder.calls (k := k) (r := true) (w := W) (hG := hG) (hr := rfl) (hr0_2 := hr0_2) (hc0_2 := hc0_2) (hr1_2 := hr1_2) (hc1_2 := hc1_2) (h := hp)).mono ?_
  rintro e W' ⟨rfl, bel0⟩
  have bel : Below W.heap.size W W' := by first | exact bel0 | exact bel0.below
  exact ⟨_, rfl, _, _, _, [], _, [], hW', trodAll_mk1 (shut_bool Tryd.underlying4 _), (trodAll_cons_mk (Below.trod laidOut (by kernel_rfl) (of_decide_eq_true (by kernel_rfl)) k0 bel lt0) (trodAll_cons_mk (Below.trod laidOut (by kernel_rfl) (of_decide_eq_true (by kernel_rfl)) k1 bel lt1) trodAll_mk0)), rfl, bel.frame _, fun h => by cases h⟩
set_option maxRecDepth 100000 in
theorem lifted (os : Os) (started : os.Started) (H : Type) (enc : TypeId × Value → H) (F : Stop.Interp) :
    ReturnsInHanded {} Tryd.checked os 5 .any ((OpenSpec.ofChange Rows.rollOrderSpec).preRow enc Tryd.prog Tryd.f5 Rows.rollOrderRow.domain false Rows.rollOrderRow.laid) (((OpenSpec.ofChange Rows.rollOrderSpec).at F).post enc Tryd.prog Tryd.f5 false true false false) := by
  have hx : ∃ places, DataW.whole enc Tryd.prog ((World.doorLaid Tryd.prog 62 os).forCall (fun _ _ => 0) ⟨#[], #[.agg #[.int .i64 0, .int .i64 0, .slice none 0 0], .agg #[.int .i64 0, .int .i64 0, .slice none 0 0]], []⟩).memory Tryd.f5.params.toList Rows.rollOrderSpec.vars false (#[.agg #[.int .i64 0, .int .i64 0, .slice none 0 0], .agg #[.int .i64 0, .int .i64 0, .slice none 0 0]] : Array Value).toList 8 = some ([.agg [.lit (.int .i64 0), .lit (.int .i64 0), .nil], .agg [.lit (.int .i64 0), .lit (.int .i64 0), .nil]], [], places) := ⟨[], by kernel_rfl⟩
  obtain ⟨places, hx⟩ := hx
  refine returnsInHanded_of_row (C := Tryd.checked) (s := OpenSpec.ofChange Rows.rollOrderSpec) own started (by kernel_rfl) Tryd.func5
    (witness_row_atRef (enc := enc) (C := Tryd.checked) false (World.doorLaid Tryd.prog 62 os) #[.agg #[.int .i64 0, .int .i64 0, .slice none 0 0], .agg #[.int .i64 0, .int .i64 0, .slice none 0 0]] rfl (by kernel_rfl) (by kernel_rfl) (by kernel_rfl)
      (OpenSpec.preRow_of_cond 8 hx (by kernel_rfl) (fun k hk => by cases hk) (by kernel_rfl) (MakeChecks.laidMetH_plain _ _ _ (by kernel_rfl) ▸ door_met os _))) ?_
  intro W base args ds gs before hval hW _ _ hsz hL hsh _
  exact contract H enc W base args ds gs before hval hW (theG_of hL hsh) hsz
theorem said : Rows.RollOrderSaid :=
  OpenClaim.holds_of_cond 5 Tryd.f5 rfl rfl rfl rfl rfl rfl rfl ⟨rfl, rfl, rfl, rfl, rfl⟩ rfl rfl rfl rfl rfl (by kernel_rfl) Tryd.func5 (by kernel_rfl)
    (of_decide_eq_true (by kernel_rfl)) (by unfold Func.isWrapper; first | (rw [if_pos (by decide +kernel)]; kernel_rfl) | (rw [if_neg (by decide +kernel)]; exact ⟨rfl, rfl⟩))
    (fun os started H enc _ F => by rw [OpenClaim.pre_eq_preRow]; exact lifted os started H enc F)
theorem plain (f : FuncId) (fn : Func) (hf : Tryd.pinned.checked.prog.funcNamed "furlong/furlonglaw11.RollOrder" = some f) (hfn : Tryd.pinned.checked.prog.funcs[f]? = some fn) :
    true = Tryd.pinned.checked.prog.looks [] ∧ ∀ (j : Nat) t, fn.params[j]? = some t → Tryd.pinned.checked.prog.wantsStandIn t = false := by
  obtain rfl : f = 5 := Option.some.inj ((show Tryd.prog.funcNamed "furlong/furlonglaw11.RollOrder" = some 5 by kernel_rfl).symm.trans hf) |>.symm
  obtain rfl : fn = Tryd.f5 := (Option.some.inj (Tryd.func5.symm.trans hfn)).symm
  refine ⟨by kernel_rfl, fun j t ht => ?_⟩
  rw [Tryd.params5] at ht
  have hm := Array.mem_of_getElem? ht
  simp only [List.mem_toArray, List.mem_cons, List.not_mem_nil, or_false] at hm
  rcases hm with rfl | rfl
  · exact (show Tryd.prog.wantsStandIn 24 = false by kernel_rfl)
  · exact (show Tryd.prog.wantsStandIn 24 = false by kernel_rfl)
/-- The tied card. -/
theorem card : Rows.RollOrderCardSaid :=
  Claim7.holds_tied_plain_at .later [] _ _ _ _ said (fun _ h => by cases h) (by kernel_rfl) (fun _ h => by cases h) rollOrder_row_tie rfl ⟨rfl, rfl⟩ (by kernel_rfl) rfl plain (by kernel_rfl)
#print axioms card
end Go.Proofs.YtjpihfjgomoijaaDoor.rollOrder
namespace Go.Proofs.YtjpihfjgomoijaaDoor
theorem rollOrder_holds : Rows.RollOrderCardSaid := rollOrder.card
end Go.Proofs.YtjpihfjgomoijaaDoor
end
