import Derived.Test.YtjpihfjgomoijaaDoorZRollCompacts1
import Derived.Test.YtjpihfjgomoijaaDoorZRollCompacts2
import Derived.Test.YtjpihfjgomoijaaDoorZRollCompacts3
import Derived.Test.YtjpihfjgomoijaaDoorZRollCompacts4
set_option linter.unusedVariables false
set_option linter.unusedSimpArgs false
set_option linter.unnecessarySimpa false
section
-- Written by a program of this session (wip/tools/pr.py), over the kit's printer; functions named in the texts imported below are given by hand.
namespace Go.Proofs.YtjpihfjgomoijaaDoor.P
open Go.RowKit Go.Proofs.YtjpihfjgomoijaaDoor.K Go.Proofs.YtjpihfjgomoijaaDoorW.PrintWords Go.Proofs.YtjpihfjgomoijaaDoorW.PrintLast Go.Proofs.YtjpihfjgomoijaaDoorW.PrintMore
attribute [local go_sem] max2_int min2_int max_two min_two max_three min_three max_four min_four   -- for this text's walks alone
/-! ### l11_RollCompacts: function 6 -/
mutual
def l11_RollCompacts.j0 : Nat → Int → Int → Bool → Int → Int → List (S54) → Option (Bool)
  | 0, _, _, _, _, _, _ => none
  | k + 1, x1, x2, x23, x428000, x428001, x428002 => if x23 = true then ((l11_live.f).bind fun t430 => (some t430)) else ((roll_Compact.f k x428000 x428001 x428002 x1).bind fun bt431 => ((roll_Last.f k x428000 x428001 x428002).bind fun bt437 => ((roll_Last.f k bt431.1 bt431.2.1 bt431.2.2).bind fun bt439 => (if bt437.1 = bt439.1 then (if bt437.2 = bt439.2 then ((roll_Check.f k bt431.1 bt431.2.1 bt431.2.2).bind fun t441 => ((l11_num.f t441).bind fun t442 => (if t442 = 0 then (if bt431.1 < x428000 then (l11_RollCompacts.j1 k x1 x2 bt437.1 true x428000 x428001 x428002 bt431.1 bt431.2.1 bt431.2.2) else (l11_RollCompacts.j1 k x1 x2 bt437.1 (decide (bt431.1 > (mx x1 x428000))) x428000 x428001 x428002 bt431.1 bt431.2.1 bt431.2.2)) else (l11_RollCompacts.j1 k x1 x2 bt437.1 true x428000 x428001 x428002 bt431.1 bt431.2.1 bt431.2.2)))) else (l11_RollCompacts.j1 k x1 x2 bt437.1 true x428000 x428001 x428002 bt431.1 bt431.2.1 bt431.2.2)) else (l11_RollCompacts.j1 k x1 x2 bt437.1 true x428000 x428001 x428002 bt431.1 bt431.2.1 bt431.2.2)))))
def l11_RollCompacts.j1 : Nat → Int → Int → Int → Bool → Int → Int → List (S54) → Int → Int → List (S54) → Option (Bool)
  | 0, _, _, _, _, _, _, _, _, _, _ => none
  | k + 1, x1, x2, x8, x67, x428000, x428001, x428002, x437000, x437001, x437002 => if x67 = true then (some false) else ((roll_Term.f k x428000 x428001 x428002 x2).bind fun bt443 => ((roll_Term.f k x437000 x437001 x437002 x2).bind fun bt445 => (if x2 ≥ x437000 then (if bt443.1 = bt445.1 then (if (bt443.2 != bt445.2) = true then (l11_RollCompacts.j2 k x1 x8 true x428000 x428001 x428002 x437000 x437001 x437002) else (if x2 < x437000 then (l11_RollCompacts.j2 k x1 x8 bt445.2 x428000 x428001 x428002 x437000 x437001 x437002) else (l11_RollCompacts.j2 k x1 x8 false x428000 x428001 x428002 x437000 x437001 x437002))) else (l11_RollCompacts.j2 k x1 x8 true x428000 x428001 x428002 x437000 x437001 x437002)) else (if x2 < x437000 then (l11_RollCompacts.j2 k x1 x8 bt445.2 x428000 x428001 x428002 x437000 x437001 x437002) else (l11_RollCompacts.j2 k x1 x8 false x428000 x428001 x428002 x437000 x437001 x437002)))))
def l11_RollCompacts.j2 : Nat → Int → Int → Bool → Int → Int → List (S54) → Int → Int → List (S54) → Option (Bool)
  | 0, _, _, _, _, _, _, _, _, _ => none
  | k + 1, x1, x8, x102, x428000, x428001, x428002, x437000, x437001, x437002 => if x102 = true then (some false) else (if x1 < x428000 then (l11_RollCompacts.j3 k x1 true x428000 x428001 x428002 x437000 x437001 x437002) else (l11_RollCompacts.j3 k x1 (decide (x1 > x8)) x428000 x428001 x428002 x437000 x437001 x437002))
def l11_RollCompacts.j3 : Nat → Int → Bool → Int → Int → List (S54) → Int → Int → List (S54) → Option (Bool)
  | 0, _, _, _, _, _, _, _, _ => none
  | k + 1, x1, x111, x428000, x428001, x428002, x437000, x437001, x437002 => if x111 = true then ((r11_Same.f k x437000 x437001 x437002 x428000 x428001 x428002).bind fun t447 => (if t447 = true then ((l11_live.f).bind fun t448 => (some t448)) else (some false))) else ((roll_Slice.f x428000 x428001 x428002 (wrap64 (x1 + 1)) 1000).bind fun t449 => ((r11_Entries.f k t449 x437002).bind fun t452 => (if t452 = true then (if x437000 = x1 then ((l11_live.f).bind fun t453 => (some t453)) else (some false)) else (some false))))
end
def l11_RollCompacts.f (k : Nat) (a0_0 : Int) (a0_1 : Int) (l0_2 : List (S54)) (a1 : Int) (a2 : Int) : Option (Bool) := (l11_small.f k a0_0 a0_1 l0_2).bind fun t428 => (if t428 = true then ((r11_Is.f k a0_0 a0_1 l0_2).bind fun t429 => (l11_RollCompacts.j0 k a1 a2 (!t429) a0_0 a0_1 l0_2)) else (l11_RollCompacts.j0 k a1 a2 true a0_0 a0_1 l0_2))
theorem l11_RollCompacts.mono_l : ∀ k, (∀ y0 y1 y2 y3 y4 y5, LeO (l11_RollCompacts.j0 k y0 y1 y2 y3 y4 y5) (l11_RollCompacts.j0 (k + 1) y0 y1 y2 y3 y4 y5)) ∧ (∀ y0 y1 y2 y3 y4 y5 y6 y7 y8 y9, LeO (l11_RollCompacts.j1 k y0 y1 y2 y3 y4 y5 y6 y7 y8 y9) (l11_RollCompacts.j1 (k + 1) y0 y1 y2 y3 y4 y5 y6 y7 y8 y9)) ∧ (∀ y0 y1 y2 y3 y4 y5 y6 y7 y8, LeO (l11_RollCompacts.j2 k y0 y1 y2 y3 y4 y5 y6 y7 y8) (l11_RollCompacts.j2 (k + 1) y0 y1 y2 y3 y4 y5 y6 y7 y8)) ∧ (∀ y0 y1 y2 y3 y4 y5 y6 y7, LeO (l11_RollCompacts.j3 k y0 y1 y2 y3 y4 y5 y6 y7) (l11_RollCompacts.j3 (k + 1) y0 y1 y2 y3 y4 y5 y6 y7))
  | 0 => ⟨fun _ _ _ _ _ _ r h => by simp [l11_RollCompacts.j0] at h, fun _ _ _ _ _ _ _ _ _ _ r h => by simp [l11_RollCompacts.j1] at h, fun _ _ _ _ _ _ _ _ _ r h => by simp [l11_RollCompacts.j2] at h, fun _ _ _ _ _ _ _ _ r h => by simp [l11_RollCompacts.j3] at h⟩
  | k + 1 => by
    obtain ⟨ih0, ih1, ih2, ih3⟩ := l11_RollCompacts.mono_l k
    refine ⟨?_, ?_, ?_, ?_⟩
    · intro y0 y1 y2 y3 y4 y5
      unfold l11_RollCompacts.j0
      repeat' first
      | (with_reducible exact ih0 _ _ _ _ _ _)
      | (with_reducible exact ih1 _ _ _ _ _ _ _ _ _ _)
      | (with_reducible exact ih2 _ _ _ _ _ _ _ _ _)
      | (with_reducible exact ih3 _ _ _ _ _ _ _ _)
      | (with_reducible exact l11_small.mono _ _ _ _)
      | (with_reducible exact r11_Entries.mono _ _ _)
      | (with_reducible exact r11_Is.mono _ _ _ _)
      | (with_reducible exact r11_Same.mono _ _ _ _ _ _ _)
      | (with_reducible exact roll_Check.mono _ _ _ _)
      | (with_reducible exact roll_Compact.mono _ _ _ _ _)
      | (with_reducible exact roll_Last.mono _ _ _ _)
      | (with_reducible exact roll_Term.mono _ _ _ _ _)
      | (with_reducible exact LeO.refl _)
      | (with_reducible exact LeO.none _)
      | (with_reducible refine LeO.ite ?_ ?_)
      | (with_reducible refine LeO.bind ?_ (fun _ => ?_))
      | exact ih0 _ _ _ _ _ _
      | exact ih1 _ _ _ _ _ _ _ _ _ _
      | exact ih2 _ _ _ _ _ _ _ _ _
      | exact ih3 _ _ _ _ _ _ _ _
      | exact l11_small.mono _ _ _ _
      | exact r11_Entries.mono _ _ _
      | exact r11_Is.mono _ _ _ _
      | exact r11_Same.mono _ _ _ _ _ _ _
      | exact roll_Check.mono _ _ _ _
      | exact roll_Compact.mono _ _ _ _ _
      | exact roll_Last.mono _ _ _ _
      | exact roll_Term.mono _ _ _ _ _
      | exact LeO.none _
      | refine LeO.ite ?_ ?_
      | refine LeO.bind ?_ (fun _ => ?_)
    · intro y0 y1 y2 y3 y4 y5 y6 y7 y8 y9
      unfold l11_RollCompacts.j1
      repeat' first
      | (with_reducible exact ih0 _ _ _ _ _ _)
      | (with_reducible exact ih1 _ _ _ _ _ _ _ _ _ _)
      | (with_reducible exact ih2 _ _ _ _ _ _ _ _ _)
      | (with_reducible exact ih3 _ _ _ _ _ _ _ _)
      | (with_reducible exact l11_small.mono _ _ _ _)
      | (with_reducible exact r11_Entries.mono _ _ _)
      | (with_reducible exact r11_Is.mono _ _ _ _)
      | (with_reducible exact r11_Same.mono _ _ _ _ _ _ _)
      | (with_reducible exact roll_Check.mono _ _ _ _)
      | (with_reducible exact roll_Compact.mono _ _ _ _ _)
      | (with_reducible exact roll_Last.mono _ _ _ _)
      | (with_reducible exact roll_Term.mono _ _ _ _ _)
      | (with_reducible exact LeO.refl _)
      | (with_reducible exact LeO.none _)
      | (with_reducible refine LeO.ite ?_ ?_)
      | (with_reducible refine LeO.bind ?_ (fun _ => ?_))
      | exact ih0 _ _ _ _ _ _
      | exact ih1 _ _ _ _ _ _ _ _ _ _
      | exact ih2 _ _ _ _ _ _ _ _ _
      | exact ih3 _ _ _ _ _ _ _ _
      | exact l11_small.mono _ _ _ _
      | exact r11_Entries.mono _ _ _
      | exact r11_Is.mono _ _ _ _
      | exact r11_Same.mono _ _ _ _ _ _ _
      | exact roll_Check.mono _ _ _ _
      | exact roll_Compact.mono _ _ _ _ _
      | exact roll_Last.mono _ _ _ _
      | exact roll_Term.mono _ _ _ _ _
      | exact LeO.none _
      | refine LeO.ite ?_ ?_
      | refine LeO.bind ?_ (fun _ => ?_)
    · intro y0 y1 y2 y3 y4 y5 y6 y7 y8
      unfold l11_RollCompacts.j2
      repeat' first
      | (with_reducible exact ih0 _ _ _ _ _ _)
      | (with_reducible exact ih1 _ _ _ _ _ _ _ _ _ _)
      | (with_reducible exact ih2 _ _ _ _ _ _ _ _ _)
      | (with_reducible exact ih3 _ _ _ _ _ _ _ _)
      | (with_reducible exact l11_small.mono _ _ _ _)
      | (with_reducible exact r11_Entries.mono _ _ _)
      | (with_reducible exact r11_Is.mono _ _ _ _)
      | (with_reducible exact r11_Same.mono _ _ _ _ _ _ _)
      | (with_reducible exact roll_Check.mono _ _ _ _)
      | (with_reducible exact roll_Compact.mono _ _ _ _ _)
      | (with_reducible exact roll_Last.mono _ _ _ _)
      | (with_reducible exact roll_Term.mono _ _ _ _ _)
      | (with_reducible exact LeO.refl _)
      | (with_reducible exact LeO.none _)
      | (with_reducible refine LeO.ite ?_ ?_)
      | (with_reducible refine LeO.bind ?_ (fun _ => ?_))
      | exact ih0 _ _ _ _ _ _
      | exact ih1 _ _ _ _ _ _ _ _ _ _
      | exact ih2 _ _ _ _ _ _ _ _ _
      | exact ih3 _ _ _ _ _ _ _ _
      | exact l11_small.mono _ _ _ _
      | exact r11_Entries.mono _ _ _
      | exact r11_Is.mono _ _ _ _
      | exact r11_Same.mono _ _ _ _ _ _ _
      | exact roll_Check.mono _ _ _ _
      | exact roll_Compact.mono _ _ _ _ _
      | exact roll_Last.mono _ _ _ _
      | exact roll_Term.mono _ _ _ _ _
      | exact LeO.none _
      | refine LeO.ite ?_ ?_
      | refine LeO.bind ?_ (fun _ => ?_)
    · intro y0 y1 y2 y3 y4 y5 y6 y7
      unfold l11_RollCompacts.j3
      repeat' first
      | (with_reducible exact ih0 _ _ _ _ _ _)
      | (with_reducible exact ih1 _ _ _ _ _ _ _ _ _ _)
      | (with_reducible exact ih2 _ _ _ _ _ _ _ _ _)
      | (with_reducible exact ih3 _ _ _ _ _ _ _ _)
      | (with_reducible exact l11_small.mono _ _ _ _)
      | (with_reducible exact r11_Entries.mono _ _ _)
      | (with_reducible exact r11_Is.mono _ _ _ _)
      | (with_reducible exact r11_Same.mono _ _ _ _ _ _ _)
      | (with_reducible exact roll_Check.mono _ _ _ _)
      | (with_reducible exact roll_Compact.mono _ _ _ _ _)
      | (with_reducible exact roll_Last.mono _ _ _ _)
      | (with_reducible exact roll_Term.mono _ _ _ _ _)
      | (with_reducible exact LeO.refl _)
      | (with_reducible exact LeO.none _)
      | (with_reducible refine LeO.ite ?_ ?_)
      | (with_reducible refine LeO.bind ?_ (fun _ => ?_))
      | exact ih0 _ _ _ _ _ _
      | exact ih1 _ _ _ _ _ _ _ _ _ _
      | exact ih2 _ _ _ _ _ _ _ _ _
      | exact ih3 _ _ _ _ _ _ _ _
      | exact l11_small.mono _ _ _ _
      | exact r11_Entries.mono _ _ _
      | exact r11_Is.mono _ _ _ _
      | exact r11_Same.mono _ _ _ _ _ _ _
      | exact roll_Check.mono _ _ _ _
      | exact roll_Compact.mono _ _ _ _ _
      | exact roll_Last.mono _ _ _ _
      | exact roll_Term.mono _ _ _ _ _
      | exact LeO.none _
      | refine LeO.ite ?_ ?_
      | refine LeO.bind ?_ (fun _ => ?_)
theorem l11_RollCompacts.mono : ∀ a0 a1 a2 a3 a4 k, LeO (l11_RollCompacts.f k a0 a1 a2 a3 a4) (l11_RollCompacts.f (k + 1) a0 a1 a2 a3 a4) := by
  intro a0 a1 a2 a3 a4 k
  obtain ⟨ih0, ih1, ih2, ih3⟩ := l11_RollCompacts.mono_l k
  unfold l11_RollCompacts.f
  repeat' first
      | (with_reducible exact ih0 _ _ _ _ _ _)
      | (with_reducible exact ih1 _ _ _ _ _ _ _ _ _ _)
      | (with_reducible exact ih2 _ _ _ _ _ _ _ _ _)
      | (with_reducible exact ih3 _ _ _ _ _ _ _ _)
      | (with_reducible exact l11_small.mono _ _ _ _)
      | (with_reducible exact r11_Entries.mono _ _ _)
      | (with_reducible exact r11_Is.mono _ _ _ _)
      | (with_reducible exact r11_Same.mono _ _ _ _ _ _ _)
      | (with_reducible exact roll_Check.mono _ _ _ _)
      | (with_reducible exact roll_Compact.mono _ _ _ _ _)
      | (with_reducible exact roll_Last.mono _ _ _ _)
      | (with_reducible exact roll_Term.mono _ _ _ _ _)
      | (with_reducible exact LeO.refl _)
      | (with_reducible exact LeO.none _)
      | (with_reducible refine LeO.ite ?_ ?_)
      | (with_reducible refine LeO.bind ?_ (fun _ => ?_))
      | exact ih0 _ _ _ _ _ _
      | exact ih1 _ _ _ _ _ _ _ _ _ _
      | exact ih2 _ _ _ _ _ _ _ _ _
      | exact ih3 _ _ _ _ _ _ _ _
      | exact l11_small.mono _ _ _ _
      | exact r11_Entries.mono _ _ _
      | exact r11_Is.mono _ _ _ _
      | exact r11_Same.mono _ _ _ _ _ _ _
      | exact roll_Check.mono _ _ _ _
      | exact roll_Compact.mono _ _ _ _ _
      | exact roll_Last.mono _ _ _ _
      | exact roll_Term.mono _ _ _ _ _
      | exact LeO.none _
      | refine LeO.ite ?_ ?_
      | refine LeO.bind ?_ (fun _ => ?_)
def l11_RollCompacts.T14 : Bool × List (List Nat × List Nat) := (true, [([], []), ([], []), ([1], [1]), ([0, 2], [0, 2]), ([], []), ([4], [4]), ([3, 5, 3], [3, 5]), ([6, 6], [6]), ([7], [7]), ([8, 7], [7, 8]), ([7], [7]), ([9, 10, 7], [7, 9, 10]), ([7, 11], [7, 11]), ([12, 7], [12]), ([13, 13], [13]), ([13, 14], [13, 14]), ([15, 14, 0, 1, 2, 3, 4, 5, 6, 7, 8, 9, 10, 11, 12, 13, 14, 15], [15])])
def l11_RollCompacts.B14 : List Nat := [0, 0, 2, 7, 0, 16, 63, 127, 255, 511, 255, 2047, 4095, 8191, 16383, 32767, 65535]
theorem l11_RollCompacts.tab14 : rtab .any (opsOf Tryd.f6 14) = l11_RollCompacts.T14 := by kernel_rfl
theorem l11_RollCompacts.bits14 : waitsOk l11_RollCompacts.T14.2 l11_RollCompacts.B14 = true := by kernel_rfl
set_option maxHeartbeats 8000000 in
set_option maxRecDepth 100000 in
theorem l11_RollCompacts.calls (k : Nat) (a0_0 : Int) (a0_1 : Int) (A0_2 : Option Addr) (c0_2 : Nat) (l0_2 : List (S54)) (a1 : Int) (a2 : Int) (r : Bool) (w : World) (hG : TheG w) (hr : r = true) (hr0_2 : Kd.C k54 w A0_2 l0_2.length l0_2) (hc0_2 : l0_2.length ≤ c0_2) (h : l11_RollCompacts.f k a0_0 a0_1 l0_2 a1 a2 = some r) :
    Calls Tryd.prog 6 #[.agg #[.int .i64 a0_0, .int .i64 a0_1, .slice A0_2 l0_2.length c0_2], .int .i64 a1, .int .i64 a2] w fun e w' => e = .returned (.bool r) ∧ Below w.heap.size w w' := by
  have hu24 := Tryd.underlying24
  have HR0_2 := Az.mk hr0_2
  have HC0_2 := Az.mk hc0_2
  clear hr0_2 hc0_2
  have HB := Az.mk (Below.refl w.heap.size w)
  have H : ((l11_small.f k a0_0 a0_1 l0_2).bind fun t428 => (if t428 = true then ((r11_Is.f k a0_0 a0_1 l0_2).bind fun t429 => (l11_RollCompacts.j0 k a1 a2 (!t429) a0_0 a0_1 l0_2)) else (l11_RollCompacts.j0 k a1 a2 true a0_0 a0_1 l0_2))) = some r := h
  clear h
  have HC4 := Az.mk H
  clear H
  go_enter Tryd.func6, Tryd.ntmps6
  go_upto_region 1 with (first | ((with_reducible refine gate_dst (N := 3) rfl ?_); (try (refine gate_guard (by rfl) ?_; dsimp only)); refine box_event ?hg (N := 3) ?hd (cs := #[.int .i64 a0_0, .int .i64 a0_1, .slice A0_2 l0_2.length c0_2]) (t := 24) ?hr ?_; (case hd => rfl); (case hg => rfl); (case hr => first | (go_simp; done) | (go_simp; rfl)); intro gb427 hg w5 hbox hb; have n0_ := Az.mk (pbT (by repeat (first | (with_reducible first | exact HB.out | apply pbA | apply pbN | apply pb1) | exact HB.out)) hb); have n1_ := Az.mk (hbox); have n2_ := Az.mk ((by rw [hg]; exact (pbZ (by repeat (first | (with_reducible first | exact HB.out | apply pbA | apply pbN | apply pb1) | exact HB.out))) : w.heap.size ≤ gb427)); have n3_ := Az.mk ((by rw [hg]; exact (pbZ (by repeat (first | (with_reducible first | exact HB.out | apply pbA | apply pbN | apply pb1) | exact HB.out))) : w.heap.size ≤ gb427)); clear HB; have HB := n0_; have BK427 := n1_; have GW427 := n2_; have GE427 := n3_; clear n0_ n1_ n2_ n3_; clear hb hbox hg))
  (try simp only [Act.put, List.setIfInBounds_toArray, List.set_cons_zero, List.set_cons_succ])
  go_cut [23] (fun v23 wc => ∃ (kq : Nat) (x23_3 : Bool), v23 = .bool x23_3 ∧ Az (l11_RollCompacts.j0 kq a1 a2 x23_3 a0_0 a0_1 l0_2 = some r) ∧ Az (kq ≤ k) ∧ Az (wc.heap[gb427]? = some (.cells #[.int .i64 a0_0, .int .i64 a0_1, (.slice A0_2 l0_2.length c0_2)] 24 (0, 0))) ∧ Az (Below w.heap.size w wc))
  case first =>
    have H := HC4.out
    clear HC4
    replace H := Option.bind_eq_some_iff.mp H
    obtain ⟨t428, A60, H⟩ := H
    replace H : (if t428 = true then ((r11_Is.f k a0_0 a0_1 l0_2).bind fun t429 => (l11_RollCompacts.j0 k a1 a2 (!t429) a0_0 a0_1 l0_2)) else (l11_RollCompacts.j0 k a1 a2 true a0_0 a0_1 l0_2)) = some r := H
    have A6 := Az.mk A60
    clear A60
    by_cases c7 : t428 = true
    · subst c7
      have H1 : ((r11_Is.f k a0_0 a0_1 l0_2).bind fun t429 => (l11_RollCompacts.j0 k a1 a2 (!t429) a0_0 a0_1 l0_2)) = some r := by rw [if_pos rfl] at H; exact H
      clear H
      have H := H1
      clear H1
      replace H := Option.bind_eq_some_iff.mp H
      obtain ⟨t429, A80, H⟩ := H
      replace H : (l11_RollCompacts.j0 k a1 a2 (!t429) a0_0 a0_1 l0_2) = some r := H
      have A8 := Az.mk A80
      clear A80
      have H' := Az.mk H
      clear H
      have hcz9_0 : w5.cell? ⟨gb427, 0, none⟩ = some (.int .i64 a0_0) := (bkC BK427.out 0).trans rfl
      have hcz9_1 : w5.cell? ⟨gb427, 1, none⟩ = some (.int .i64 a0_1) := (bkC BK427.out 1).trans rfl
      have hcz9_2 : w5.cell? ⟨gb427, 2, none⟩ = some (.slice A0_2 l0_2.length c0_2) := (bkC BK427.out 2).trans rfl
      have hfz9_0 := bkF BK427.out 0
      have hfz9_1 := bkF BK427.out 1
      have hfz9_2 := bkF BK427.out 2
      go_wp2_with (first | ((with_reducible refine gtc (f := 8) rfl ?_); refine goesL_ (some 17) rfl rfl Tryd.func8 (by kernel_rfl) rfl #[.agg #[.int .i64 a0_0, .int .i64 a0_1, .slice A0_2 l0_2.length c0_2]] rfl (by (try simp only [List.map_toArray, List.map_cons, List.map_nil]); first | done | rfl | (simp only [List.length_drop, List.length_take]; rfl)) ?_; (with_reducible refine (l11_small.calls k a0_0 a0_1 _ _ l0_2 true _ ?side1 ?side2 ?side3 A6.out).mono ?_); (case side1 => exact hG.below (by repeat (first | (with_reducible first | exact HB.out | apply pbA | apply pbN | apply pb1 | refine pbS ?_ GE427.out) | exact HB.out))); (case side2 => repeat (first | exact (Kd.C_below HR0_2.out HB.out) | (with_reducible refine Kd.C_alloc ?_ _) | (with_reducible refine Kd.C_drewN ?_ _) | (with_reducible refine Kd.C_drew ?_))); (case side3 => exact HC0_2.out); rintro e w10 ⟨rfl, hb⟩; refine ⟨_, rfl, ?_⟩; have n0_ := Az.mk (bkB (g := gb427) (o := .cells #[.int .i64 a0_0, .int .i64 a0_1, .slice A0_2 l0_2.length c0_2] 24 (0, 0)) (by (with_reducible repeat (first | refine bkN ?_ _ | refine bkD ?_ | refine bkA ?_ _)); exact BK427.out) hb); have n1_ := Az.mk (pbT (by repeat (first | (with_reducible first | exact HB.out | apply pbA | apply pbN | apply pb1 | refine pbS ?_ GE427.out) | exact HB.out)) hb); clear BK427; clear HB; have BK427 := n0_; have HB := n1_; clear n0_ n1_; (try clear hb); (try clear hb2); (try clear hk); (try clear hi); have hcz11_0 : w10.cell? ⟨gb427, 0, none⟩ = some (.int .i64 a0_0) := (bkC BK427.out 0).trans rfl; have hcz11_1 : w10.cell? ⟨gb427, 1, none⟩ = some (.int .i64 a0_1) := (bkC BK427.out 1).trans rfl; have hcz11_2 : w10.cell? ⟨gb427, 2, none⟩ = some (.slice A0_2 l0_2.length c0_2) := (bkC BK427.out 2).trans rfl; have hfz11_0 := bkF BK427.out 0; have hfz11_1 := bkF BK427.out 1; have hfz11_2 := bkF BK427.out 2) | (go_at_call 14; (with_reducible refine (r11_Is.calls k a0_0 a0_1 _ _ l0_2 t429 _ ?side1 ?side2 ?side3 A8.out).mono ?_); (case side1 => exact hG.below (by repeat (first | (with_reducible first | exact HB.out | apply pbA | apply pbN | apply pb1 | refine pbS ?_ GE427.out) | exact HB.out))); (case side2 => repeat (first | exact (Kd.C_below HR0_2.out HB.out) | (with_reducible refine Kd.C_alloc ?_ _) | (with_reducible refine Kd.C_drewN ?_ _) | (with_reducible refine Kd.C_drew ?_))); (case side3 => exact HC0_2.out); rintro e w12 ⟨rfl, hb⟩; have n0_ := Az.mk (bkB (g := gb427) (o := .cells #[.int .i64 a0_0, .int .i64 a0_1, .slice A0_2 l0_2.length c0_2] 24 (0, 0)) (by (with_reducible repeat (first | refine bkN ?_ _ | refine bkD ?_ | refine bkA ?_ _)); exact BK427.out) hb); have n1_ := Az.mk (pbT (by repeat (first | (with_reducible first | exact HB.out | apply pbA | apply pbN | apply pb1 | refine pbS ?_ GE427.out) | exact HB.out)) hb); clear BK427; clear HB; have BK427 := n0_; have HB := n1_; clear n0_ n1_; (try clear hb); (try clear hb2); (try clear hk); (try clear hi)))
      go_meet
      case rel => exact ⟨_, (!t429), (by first | rfl | (simp; done) | (simp [*]; done)), H', ⟨by first | omega | exact Nat.le_refl _⟩, ⟨by (with_reducible repeat (first | refine bkN ?_ _ | refine bkD ?_ | refine bkA ?_ _)); exact BK427.out⟩, ⟨by repeat (first | (with_reducible first | exact HB.out | apply pbA | apply pbN | apply pb1 | refine pbS ?_ GE427.out) | exact HB.out)⟩⟩
    · replace c7 := Bool.eq_false_iff.mpr c7
      subst c7
      have H1 : (l11_RollCompacts.j0 k a1 a2 true a0_0 a0_1 l0_2) = some r := by rw [if_neg (show ¬ (false = true) by decide)] at H; exact H
      clear H
      have H := H1
      clear H1
      have H' := Az.mk H
      clear H
      have hcz13_0 : w5.cell? ⟨gb427, 0, none⟩ = some (.int .i64 a0_0) := (bkC BK427.out 0).trans rfl
      have hcz13_1 : w5.cell? ⟨gb427, 1, none⟩ = some (.int .i64 a0_1) := (bkC BK427.out 1).trans rfl
      have hcz13_2 : w5.cell? ⟨gb427, 2, none⟩ = some (.slice A0_2 l0_2.length c0_2) := (bkC BK427.out 2).trans rfl
      have hfz13_0 := bkF BK427.out 0
      have hfz13_1 := bkF BK427.out 1
      have hfz13_2 := bkF BK427.out 2
      go_wp2_with (first | ((with_reducible refine gtc (f := 8) rfl ?_); refine goesL_ (some 17) rfl rfl Tryd.func8 (by kernel_rfl) rfl #[.agg #[.int .i64 a0_0, .int .i64 a0_1, .slice A0_2 l0_2.length c0_2]] rfl (by (try simp only [List.map_toArray, List.map_cons, List.map_nil]); first | done | rfl | (simp only [List.length_drop, List.length_take]; rfl)) ?_; (with_reducible refine (l11_small.calls k a0_0 a0_1 _ _ l0_2 false _ ?side1 ?side2 ?side3 A6.out).mono ?_); (case side1 => exact hG.below (by repeat (first | (with_reducible first | exact HB.out | apply pbA | apply pbN | apply pb1 | refine pbS ?_ GE427.out) | exact HB.out))); (case side2 => repeat (first | exact (Kd.C_below HR0_2.out HB.out) | (with_reducible refine Kd.C_alloc ?_ _) | (with_reducible refine Kd.C_drewN ?_ _) | (with_reducible refine Kd.C_drew ?_))); (case side3 => exact HC0_2.out); rintro e w14 ⟨rfl, hb⟩; refine ⟨_, rfl, ?_⟩; have n0_ := Az.mk (bkB (g := gb427) (o := .cells #[.int .i64 a0_0, .int .i64 a0_1, .slice A0_2 l0_2.length c0_2] 24 (0, 0)) (by (with_reducible repeat (first | refine bkN ?_ _ | refine bkD ?_ | refine bkA ?_ _)); exact BK427.out) hb); have n1_ := Az.mk (pbT (by repeat (first | (with_reducible first | exact HB.out | apply pbA | apply pbN | apply pb1 | refine pbS ?_ GE427.out) | exact HB.out)) hb); clear BK427; clear HB; have BK427 := n0_; have HB := n1_; clear n0_ n1_; (try clear hb); (try clear hb2); (try clear hk); (try clear hi)))
      go_meet
      case rel => exact ⟨_, (true), (by first | rfl | (simp; done) | (simp [*]; done)), H', ⟨by first | omega | exact Nat.le_refl _⟩, ⟨by (with_reducible repeat (first | refine bkN ?_ _ | refine bkD ?_ | refine bkA ?_ _)); exact BK427.out⟩, ⟨by repeat (first | (with_reducible first | exact HB.out | apply pbA | apply pbN | apply pb1 | refine pbS ?_ GE427.out) | exact HB.out)⟩⟩
  case rest =>
    clear HC4
    try clear p2
    try clear c6
    try clear c7
    try clear c8
    try clear hcz11_0
    try clear hcz11_1
    try clear hcz11_2
    try clear hcz13_0
    try clear hcz13_1
    try clear hcz13_2
    try clear hcz9_0
    try clear hcz9_1
    try clear hcz9_2
    try clear hfz11_0
    try clear hfz11_1
    try clear hfz11_2
    try clear hfz13_0
    try clear hfz13_1
    try clear hfz13_2
    try clear hfz9_0
    try clear hfz9_1
    try clear hfz9_2
    obtain ⟨kq, x23_3, rfl, HA, HJ3, BK427, HB⟩ := hcut
    cases kq with
    | zero => exact absurd HA.out (by simp [l11_RollCompacts.j0])
    | succ kj3 =>
      have H := HA.out
      clear HA
      simp only [l11_RollCompacts.j0] at H
      by_cases c15 : x23_3 = true
      · subst c15
        have H1 : ((l11_live.f).bind fun t430 => (some t430)) = some r := by rw [if_pos rfl] at H; exact H
        clear H
        have H := H1
        clear H1
        replace H := Option.bind_eq_some_iff.mp H
        obtain ⟨t430, A160, H⟩ := H
        replace H : (some t430) = some r := H
        have A16 := Az.mk A160
        clear A160
        obtain rfl := Option.some.inj H
        go_wp2_with (first | ((with_reducible refine gtc (f := 9) rfl ?_); refine goesL_ (some 24) rfl rfl Tryd.func9 (by kernel_rfl) rfl #[] rfl (by (try simp only [List.map_toArray, List.map_cons, List.map_nil]); first | done | rfl | (simp only [List.length_drop, List.length_take]; rfl)) ?_; (with_reducible refine (l11_live.calls  t430 _ ?side1 A16.out).mono ?_); (case side1 => exact hG.below (by repeat (first | (with_reducible first | exact HB.out | apply pbA | apply pbN | apply pb1 | refine pbS ?_ GE427.out) | exact HB.out))); rintro e w17 ⟨rfl, hb⟩; refine ⟨_, rfl, ?_⟩; have n0_ := Az.mk (bkB (g := gb427) (o := .cells #[.int .i64 a0_0, .int .i64 a0_1, .slice A0_2 l0_2.length c0_2] 24 (0, 0)) (by (with_reducible repeat (first | refine bkN ?_ _ | refine bkD ?_ | refine bkA ?_ _)); exact BK427.out) hb); have n1_ := Az.mk (pbT (by repeat (first | (with_reducible first | exact HB.out | apply pbA | apply pbN | apply pb1 | refine pbS ?_ GE427.out) | exact HB.out)) hb); clear BK427; clear HB; have BK427 := n0_; have HB := n1_; clear n0_ n1_; (try clear hb); (try clear hb2); (try clear hk); (try clear hi)))
        go_ret
        exact ⟨by first | rfl | (simp [errW_none, errW_some] <;> rfl) | (simp [*, errW_none, errW_some] <;> rfl), by repeat (first | (with_reducible first | exact HB.out | apply pbA | apply pbN | apply pb1 | refine pbS ?_ GE427.out) | exact HB.out)⟩
      · replace c15 := Bool.eq_false_iff.mpr c15
        subst c15
        have H1 : ((roll_Compact.f kj3 a0_0 a0_1 l0_2 a1).bind fun bt431 => ((roll_Last.f kj3 a0_0 a0_1 l0_2).bind fun bt437 => ((roll_Last.f kj3 bt431.1 bt431.2.1 bt431.2.2).bind fun bt439 => (if bt437.1 = bt439.1 then (if bt437.2 = bt439.2 then ((roll_Check.f kj3 bt431.1 bt431.2.1 bt431.2.2).bind fun t441 => ((l11_num.f t441).bind fun t442 => (if t442 = 0 then (if bt431.1 < a0_0 then (l11_RollCompacts.j1 kj3 a1 a2 bt437.1 true a0_0 a0_1 l0_2 bt431.1 bt431.2.1 bt431.2.2) else (l11_RollCompacts.j1 kj3 a1 a2 bt437.1 (decide (bt431.1 > (mx a1 a0_0))) a0_0 a0_1 l0_2 bt431.1 bt431.2.1 bt431.2.2)) else (l11_RollCompacts.j1 kj3 a1 a2 bt437.1 true a0_0 a0_1 l0_2 bt431.1 bt431.2.1 bt431.2.2)))) else (l11_RollCompacts.j1 kj3 a1 a2 bt437.1 true a0_0 a0_1 l0_2 bt431.1 bt431.2.1 bt431.2.2)) else (l11_RollCompacts.j1 kj3 a1 a2 bt437.1 true a0_0 a0_1 l0_2 bt431.1 bt431.2.1 bt431.2.2))))) = some r := by rw [if_neg (show ¬ (false = true) by decide)] at H; exact H
        clear H
        have H := H1
        clear H1
        replace H := Option.bind_eq_some_iff.mp H
        obtain ⟨⟨t431, t432, t433⟩, A180, H⟩ := H
        replace H : ((roll_Last.f kj3 a0_0 a0_1 l0_2).bind fun bt437 => ((roll_Last.f kj3 t431 t432 t433).bind fun bt439 => (if bt437.1 = bt439.1 then (if bt437.2 = bt439.2 then ((roll_Check.f kj3 t431 t432 t433).bind fun t441 => ((l11_num.f t441).bind fun t442 => (if t442 = 0 then (if t431 < a0_0 then (l11_RollCompacts.j1 kj3 a1 a2 bt437.1 true a0_0 a0_1 l0_2 t431 t432 t433) else (l11_RollCompacts.j1 kj3 a1 a2 bt437.1 (decide (t431 > (mx a1 a0_0))) a0_0 a0_1 l0_2 t431 t432 t433)) else (l11_RollCompacts.j1 kj3 a1 a2 bt437.1 true a0_0 a0_1 l0_2 t431 t432 t433)))) else (l11_RollCompacts.j1 kj3 a1 a2 bt437.1 true a0_0 a0_1 l0_2 t431 t432 t433)) else (l11_RollCompacts.j1 kj3 a1 a2 bt437.1 true a0_0 a0_1 l0_2 t431 t432 t433)))) = some r := H
        have A18 := Az.mk A180
        clear A180
        replace H := Option.bind_eq_some_iff.mp H
        obtain ⟨⟨t437, t438⟩, A190, H⟩ := H
        replace H : ((roll_Last.f kj3 t431 t432 t433).bind fun bt439 => (if t437 = bt439.1 then (if t438 = bt439.2 then ((roll_Check.f kj3 t431 t432 t433).bind fun t441 => ((l11_num.f t441).bind fun t442 => (if t442 = 0 then (if t431 < a0_0 then (l11_RollCompacts.j1 kj3 a1 a2 t437 true a0_0 a0_1 l0_2 t431 t432 t433) else (l11_RollCompacts.j1 kj3 a1 a2 t437 (decide (t431 > (mx a1 a0_0))) a0_0 a0_1 l0_2 t431 t432 t433)) else (l11_RollCompacts.j1 kj3 a1 a2 t437 true a0_0 a0_1 l0_2 t431 t432 t433)))) else (l11_RollCompacts.j1 kj3 a1 a2 t437 true a0_0 a0_1 l0_2 t431 t432 t433)) else (l11_RollCompacts.j1 kj3 a1 a2 t437 true a0_0 a0_1 l0_2 t431 t432 t433))) = some r := H
        have A19 := Az.mk A190
        clear A190
        replace H := Option.bind_eq_some_iff.mp H
        obtain ⟨⟨t439, t440⟩, A200, H⟩ := H
        replace H : (if t437 = t439 then (if t438 = t440 then ((roll_Check.f kj3 t431 t432 t433).bind fun t441 => ((l11_num.f t441).bind fun t442 => (if t442 = 0 then (if t431 < a0_0 then (l11_RollCompacts.j1 kj3 a1 a2 t437 true a0_0 a0_1 l0_2 t431 t432 t433) else (l11_RollCompacts.j1 kj3 a1 a2 t437 (decide (t431 > (mx a1 a0_0))) a0_0 a0_1 l0_2 t431 t432 t433)) else (l11_RollCompacts.j1 kj3 a1 a2 t437 true a0_0 a0_1 l0_2 t431 t432 t433)))) else (l11_RollCompacts.j1 kj3 a1 a2 t437 true a0_0 a0_1 l0_2 t431 t432 t433)) else (l11_RollCompacts.j1 kj3 a1 a2 t437 true a0_0 a0_1 l0_2 t431 t432 t433)) = some r := H
        have A20 := Az.mk A200
        clear A200
        have HC21 := Az.mk H
        clear H
        have hcz22_0 : wc.cell? ⟨gb427, 0, none⟩ = some (.int .i64 a0_0) := (bkC BK427.out 0).trans rfl
        have hcz22_1 : wc.cell? ⟨gb427, 1, none⟩ = some (.int .i64 a0_1) := (bkC BK427.out 1).trans rfl
        have hcz22_2 : wc.cell? ⟨gb427, 2, none⟩ = some (.slice A0_2 l0_2.length c0_2) := (bkC BK427.out 2).trans rfl
        have hfz22_0 := bkF BK427.out 0
        have hfz22_1 := bkF BK427.out 1
        have hfz22_2 := bkF BK427.out 2
        go_upto_region 6 with (first | ((with_reducible refine gtc (f := 23) rfl ?_); refine goesL_ (some 27) rfl rfl Tryd.func23 (by kernel_rfl) rfl #[.agg #[.int .i64 a0_0, .int .i64 a0_1, .slice A0_2 l0_2.length c0_2], .int .i64 a1] rfl (by (try simp only [List.map_toArray, List.map_cons, List.map_nil]); first | done | rfl | (simp only [List.length_drop, List.length_take]; rfl)) ?_; (with_reducible refine (roll_Compact.calls kj3 a0_0 a0_1 (fun k_ => k_ < w.heap.size) _ _ l0_2 a1 t431 t432 t433 _ ?side1 ?side2 A18.out).mono ?_); (case side1 => exact hG.below (by repeat (first | (with_reducible first | exact HB.out | apply pbA | apply pbN | apply pb1 | refine pbS ?_ GE427.out) | exact HB.out))); (case side2 => exact Kd.V_mk HC0_2.out (Kd.F_below (Kd.C_F k54_heap HR0_2.out) (by repeat (first | (with_reducible first | exact HB.out | apply pbA | apply pbN | apply pb1 | refine pbS ?_ GE427.out) | exact HB.out)))); rintro e w23 ⟨v434, rfl, ho0, hb⟩; refine ⟨_, rfl, ?_⟩; have n0_ := Az.mk (Kd.V_lower (Kd.V_mono (ok' := fun k_ => k_ ≠ gb427) ho0 (fun k_ hk_ => Or.elim hk_ (fun hs_ => fun e_ => Nat.not_le.2 hs_ (by rw [e_]; exact GW427.out)) (fun hn_ => (Kd.freshB (g := gb427) (o := .cells #[.int .i64 a0_0, .int .i64 a0_1, .slice A0_2 l0_2.length c0_2] 24 (0, 0)) (by (with_reducible repeat (first | refine bkN ?_ _ | refine bkD ?_ | refine bkA ?_ _)); exact BK427.out) k_ hn_)))) (pbZ (by repeat (first | (with_reducible first | exact HB.out | apply pbA | apply pbN | apply pb1 | refine pbS ?_ GE427.out) | exact HB.out)))); have n1_ := Az.mk (bkB (g := gb427) (o := .cells #[.int .i64 a0_0, .int .i64 a0_1, .slice A0_2 l0_2.length c0_2] 24 (0, 0)) (by (with_reducible repeat (first | refine bkN ?_ _ | refine bkD ?_ | refine bkA ?_ _)); exact BK427.out) hb); have n2_ := Az.mk (pbT (by repeat (first | (with_reducible first | exact HB.out | apply pbA | apply pbN | apply pb1 | refine pbS ?_ GE427.out) | exact HB.out)) hb); clear BK427; clear HB; have HO435 := n0_; have BK427 := n1_; have HB := n2_; clear n0_ n1_ n2_; (try clear hb); (try clear hb2); (try clear hk); (try clear hi); (try clear ho0)) | ((with_reducible refine gate_dst (N := 7) rfl ?_); (try (refine gate_guard (by rfl) ?_; dsimp only)); refine box_event ?hg (N := 7) ?hd (cs := #[.int .i64 0, .int .i64 0, .slice none 0 0]) (t := 24) ?hr ?_; (case hd => rfl); (case hg => rfl); (case hr => first | (go_simp; done) | (go_simp; rfl)); intro gb436 hg w24 hbox hb; have n0_ := Az.mk (Kd.V_below (Kd.V_elderB (by (with_reducible repeat (first | apply Kd.V_alloc | apply Kd.V_drewN | apply Kd.V_drew)); exact HO435.out) gb436 (Nat.le_of_eq hg.symm)) hb); have n1_ := Az.mk (bkB (g := gb427) (o := .cells #[.int .i64 a0_0, .int .i64 a0_1, .slice A0_2 l0_2.length c0_2] 24 (0, 0)) (by (with_reducible repeat (first | refine bkN ?_ _ | refine bkD ?_ | refine bkA ?_ _)); exact BK427.out) hb); have n2_ := Az.mk (pbT (by repeat (first | (with_reducible first | exact HB.out | apply pbA | apply pbN | apply pb1 | refine pbS ?_ GE427.out) | exact HB.out)) hb); have n3_ := Az.mk (hbox); have n4_ := Az.mk ((by rw [hg]; exact (pbZ (by repeat (first | (with_reducible first | exact HB.out | apply pbA | apply pbN | apply pb1 | refine pbS ?_ GE427.out) | exact HB.out))) : w.heap.size ≤ gb436)); have n5_ := Az.mk ((by rw [hg]; exact (pbZ (by repeat (first | (with_reducible first | exact HB.out | apply pbA | apply pbN | apply pb1 | refine pbS ?_ GE427.out) | exact HB.out))) : w.heap.size ≤ gb436)); have n6_ := Az.mk ((by rw [hg]; exact Nat.ne_of_lt (blk_lt (g := gb427) (o := .cells #[.int .i64 a0_0, .int .i64 a0_1, .slice A0_2 l0_2.length c0_2] 24 (0, 0)) (by (with_reducible repeat (first | refine bkN ?_ _ | refine bkD ?_ | refine bkA ?_ _)); exact BK427.out)) : gb427 ≠ gb436)); have n7_ := Az.mk ((by rw [hg]; exact Nat.ne_of_gt (blk_lt (g := gb427) (o := .cells #[.int .i64 a0_0, .int .i64 a0_1, .slice A0_2 l0_2.length c0_2] 24 (0, 0)) (by (with_reducible repeat (first | refine bkN ?_ _ | refine bkD ?_ | refine bkA ?_ _)); exact BK427.out)) : gb436 ≠ gb427)); clear HO435; clear BK427; clear HB; have HO435 := n0_; have BK427 := n1_; have HB := n2_; have BK436 := n3_; have GW436 := n4_; have GE436 := n5_; have NB427_436 := n6_; have NB436_427 := n7_; clear n0_ n1_ n2_ n3_ n4_ n5_ n6_ n7_; clear hb hbox hg; have hnb25 := NB436_427.out; have hnc25 := NB427_436.out; have hcz26_0 : w24.cell? ⟨gb436, 0, none⟩ = some (.int .i64 0) := (bkC BK436.out 0).trans rfl; have hcz26_1 : w24.cell? ⟨gb436, 1, none⟩ = some (.int .i64 0) := (bkC BK436.out 1).trans rfl; have hcz26_2 : w24.cell? ⟨gb436, 2, none⟩ = some (.slice none 0 0) := (bkC BK436.out 2).trans rfl; have hfz26_0 := bkF BK436.out 0; have hfz26_1 := bkF BK436.out 1; have hfz26_2 := bkF BK436.out 2; obtain ⟨Ao27, co27, eo27⟩ := Kd.V_slice HO435.out; subst eo27; have hcz28_0 : w24.cell? ⟨gb427, 0, none⟩ = some (.int .i64 a0_0) := (bkC BK427.out 0).trans rfl; have hcz28_1 : w24.cell? ⟨gb427, 1, none⟩ = some (.int .i64 a0_1) := (bkC BK427.out 1).trans rfl; have hcz28_2 : w24.cell? ⟨gb427, 2, none⟩ = some (.slice A0_2 l0_2.length c0_2) := (bkC BK427.out 2).trans rfl; have hfz28_0 := bkF BK427.out 0; have hfz28_1 := bkF BK427.out 1; have hfz28_2 := bkF BK427.out 2) | ((with_reducible refine gtc (f := 21) rfl ?_); refine goesL_ (some 30) rfl rfl Tryd.func21 (by kernel_rfl) rfl #[.agg #[.int .i64 a0_0, .int .i64 a0_1, .slice A0_2 l0_2.length c0_2]] rfl (by (try simp only [List.map_toArray, List.map_cons, List.map_nil]); first | done | rfl | (simp only [List.length_drop, List.length_take]; rfl)) ?_; (with_reducible refine (roll_Last.calls kj3 a0_0 a0_1 _ _ l0_2 t437 t438 _ ?side1 ?side2 ?side3 A19.out).mono ?_); (case side1 => exact hG.below (by repeat (first | (with_reducible first | exact HB.out | apply pbA | apply pbN | apply pb1 | refine pbS ?_ GE427.out | refine pbS ?_ GE436.out) | exact HB.out))); (case side2 => exact Kd.C_below HR0_2.out (by repeat (first | (with_reducible first | exact HB.out | apply pbA | apply pbN | apply pb1 | refine pbS ?_ GE427.out | refine pbS ?_ GE436.out) | exact HB.out))); (case side3 => exact HC0_2.out); rintro e w29 ⟨rfl, hb⟩; refine ⟨_, rfl, ?_⟩; have n0_ := Az.mk (Kd.V_below (by (with_reducible repeat (first | apply Kd.V_alloc | apply Kd.V_drewN | apply Kd.V_drew)); exact (Kd.V_mono (Kd.V_far (p := ⟨gb436, 2, none⟩) (Kd.V_far (p := ⟨gb436, 1, none⟩) (Kd.V_far (p := ⟨gb436, 0, none⟩) (Kd.V_mono HO435.out (fun k_ hk => (⟨hk, hk.2⟩ : _ ∧ k_ ≠ gb436))) (fun _ hk => hk.2) (.int .i64 t431)) (fun _ hk => hk.2) (.int .i64 t432)) (fun _ hk => hk.2) (.slice Ao27 t433.length co27)) (fun _ h_ => h_.1))) hb); have n1_ := Az.mk (bkB (g := gb427) (o := .cells #[.int .i64 a0_0, .int .i64 a0_1, .slice A0_2 l0_2.length c0_2] 24 (0, 0)) (by (with_reducible repeat (first | refine bkN ?_ _ | refine bkD ?_ | refine bkA ?_ _)); refine blk_far ?_ NB427_436.out _; (with_reducible repeat (first | refine bkN ?_ _ | refine bkD ?_ | refine bkA ?_ _)); refine blk_far ?_ NB427_436.out _; (with_reducible repeat (first | refine bkN ?_ _ | refine bkD ?_ | refine bkA ?_ _)); refine blk_far ?_ NB427_436.out _; (with_reducible repeat (first | refine bkN ?_ _ | refine bkD ?_ | refine bkA ?_ _)); exact BK427.out) hb); have n2_ := Az.mk (bkB (g := gb436) (o := .cells #[.int .i64 t431, .int .i64 t432, .slice Ao27 t433.length co27] 24 (0, 0)) (by (with_reducible repeat (first | refine bkN ?_ _ | refine bkD ?_ | refine bkA ?_ _)); refine blk_put (cs := #[.int .i64 t431, .int .i64 t432, .slice none 0 0]) ?_ 2 _ rfl; (with_reducible repeat (first | refine bkN ?_ _ | refine bkD ?_ | refine bkA ?_ _)); refine blk_put (cs := #[.int .i64 t431, .int .i64 0, .slice none 0 0]) ?_ 1 _ rfl; (with_reducible repeat (first | refine bkN ?_ _ | refine bkD ?_ | refine bkA ?_ _)); refine blk_put (cs := #[.int .i64 0, .int .i64 0, .slice none 0 0]) ?_ 0 _ rfl; (with_reducible repeat (first | refine bkN ?_ _ | refine bkD ?_ | refine bkA ?_ _)); exact BK436.out) hb); have n3_ := Az.mk (pbT (by repeat (first | (with_reducible first | exact HB.out | apply pbA | apply pbN | apply pb1 | refine pbS ?_ GE427.out | refine pbS ?_ GE436.out) | exact HB.out)) hb); clear HO435; clear BK427; clear BK436; clear HB; have HO435 := n0_; have BK427 := n1_; have BK436 := n2_; have HB := n3_; clear n0_ n1_ n2_ n3_; (try clear hb); (try clear hb2); (try clear hk); (try clear hi); have hcz30_0 : w29.cell? ⟨gb436, 0, none⟩ = some (.int .i64 t431) := (bkC BK436.out 0).trans rfl; have hcz30_1 : w29.cell? ⟨gb436, 1, none⟩ = some (.int .i64 t432) := (bkC BK436.out 1).trans rfl; have hcz30_2 : w29.cell? ⟨gb436, 2, none⟩ = some (.slice Ao27 t433.length co27) := (bkC BK436.out 2).trans rfl; have hfz30_0 := bkF BK436.out 0; have hfz30_1 := bkF BK436.out 1; have hfz30_2 := bkF BK436.out 2) | ((with_reducible refine gtc (f := 21) rfl ?_); refine goesL_ (some 35) rfl rfl Tryd.func21 (by kernel_rfl) rfl #[.agg #[.int .i64 t431, .int .i64 t432, .slice Ao27 t433.length co27]] rfl (by (try simp only [List.map_toArray, List.map_cons, List.map_nil]); first | done | rfl | (simp only [List.length_drop, List.length_take]; rfl)) ?_; (with_reducible refine (roll_Last.calls kj3 t431 t432 _ _ t433 t439 t440 _ ?side1 ?side2 ?side3 A20.out).mono ?_); (case side1 => exact hG.below (by repeat (first | (with_reducible first | exact HB.out | apply pbA | apply pbN | apply pb1 | refine pbS ?_ GE427.out | refine pbS ?_ GE436.out) | exact HB.out))); (case side2 => repeat (first | exact (Kd.V_reads' HO435.out).2.2 | (with_reducible refine Kd.C_alloc ?_ _) | (with_reducible refine Kd.C_drewN ?_ _) | (with_reducible refine Kd.C_drew ?_))); (case side3 => exact (Kd.V_reads' HO435.out).2.1); rintro e w31 ⟨rfl, hb⟩; refine ⟨_, rfl, ?_⟩; have n0_ := Az.mk (Kd.V_below (by (with_reducible repeat (first | apply Kd.V_alloc | apply Kd.V_drewN | apply Kd.V_drew)); exact HO435.out) hb); have n1_ := Az.mk (bkB (g := gb427) (o := .cells #[.int .i64 a0_0, .int .i64 a0_1, .slice A0_2 l0_2.length c0_2] 24 (0, 0)) (by (with_reducible repeat (first | refine bkN ?_ _ | refine bkD ?_ | refine bkA ?_ _)); exact BK427.out) hb); have n2_ := Az.mk (bkB (g := gb436) (o := .cells #[.int .i64 t431, .int .i64 t432, .slice Ao27 t433.length co27] 24 (0, 0)) (by (with_reducible repeat (first | refine bkN ?_ _ | refine bkD ?_ | refine bkA ?_ _)); exact BK436.out) hb); have n3_ := Az.mk (pbT (by repeat (first | (with_reducible first | exact HB.out | apply pbA | apply pbN | apply pb1 | refine pbS ?_ GE427.out | refine pbS ?_ GE436.out) | exact HB.out)) hb); clear HO435; clear BK427; clear BK436; clear HB; have HO435 := n0_; have BK427 := n1_; have BK436 := n2_; have HB := n3_; clear n0_ n1_ n2_ n3_; (try clear hb); (try clear hb2); (try clear hk); (try clear hi)))
        (try simp only [Act.put, List.setIfInBounds_toArray, List.set_cons_zero, List.set_cons_succ])
        go_cut [67] (fun v67 wc => ∃ (kq : Nat) (x67_20 : Bool), v67 = .bool x67_20 ∧ Az (l11_RollCompacts.j1 kq a1 a2 t437 x67_20 a0_0 a0_1 l0_2 t431 t432 t433 = some r) ∧ Az (kq ≤ kj3) ∧ Az (Kd.V k54 54 wc w.heap.size (fun k_ => k_ ≠ gb427 ∧ k_ ≠ gb436) (.slice Ao27 t433.length co27) t433) ∧ Az (wc.heap[gb427]? = some (.cells #[.int .i64 a0_0, .int .i64 a0_1, (.slice A0_2 l0_2.length c0_2)] 24 (0, 0))) ∧ Az (wc.heap[gb436]? = some (.cells #[.int .i64 t431, .int .i64 t432, (.slice Ao27 t433.length co27)] 24 (0, 0))) ∧ Az (Below w.heap.size w wc))
        case first =>
          have H := HC21.out
          clear HC21
          by_cases c32 : t437 = t439
          · rw [if_pos c32] at H
            have c32b0 : (t437 == t439) = true := beq_iff_eq.mpr c32
            have c32b1 : (t437 != t439) = false := bne_eq_false_iff_eq.mpr c32
            clear c32
            (first | rw [c32b0] | (simp only [i64_w, i32_w]; rw [c32b0]) | skip)
            by_cases c33 : t438 = t440
            · rw [if_pos c33] at H
              have c33b0 : (t438 == t440) = true := beq_iff_eq.mpr c33
              have c33b1 : (t438 != t440) = false := bne_eq_false_iff_eq.mpr c33
              clear c33
              replace H := Option.bind_eq_some_iff.mp H
              obtain ⟨t441, A340, H⟩ := H
              replace H : ((l11_num.f t441).bind fun t442 => (if t442 = 0 then (if t431 < a0_0 then (l11_RollCompacts.j1 kj3 a1 a2 t437 true a0_0 a0_1 l0_2 t431 t432 t433) else (l11_RollCompacts.j1 kj3 a1 a2 t437 (decide (t431 > (mx a1 a0_0))) a0_0 a0_1 l0_2 t431 t432 t433)) else (l11_RollCompacts.j1 kj3 a1 a2 t437 true a0_0 a0_1 l0_2 t431 t432 t433))) = some r := H
              have A34 := Az.mk A340
              clear A340
              replace H := Option.bind_eq_some_iff.mp H
              obtain ⟨t442, A350, H⟩ := H
              replace H : (if t442 = 0 then (if t431 < a0_0 then (l11_RollCompacts.j1 kj3 a1 a2 t437 true a0_0 a0_1 l0_2 t431 t432 t433) else (l11_RollCompacts.j1 kj3 a1 a2 t437 (decide (t431 > (mx a1 a0_0))) a0_0 a0_1 l0_2 t431 t432 t433)) else (l11_RollCompacts.j1 kj3 a1 a2 t437 true a0_0 a0_1 l0_2 t431 t432 t433)) = some r := H
              have A35 := Az.mk A350
              clear A350
              by_cases c36 : t442 = 0
              · rw [if_pos c36] at H
                have c36b0 : (t442 == 0) = true := beq_iff_eq.mpr c36
                have c36b1 : (t442 != 0) = false := bne_eq_false_iff_eq.mpr c36
                clear c36
                by_cases c37 : t431 < a0_0
                · rw [if_pos c37] at H
                  have c37b0 : decide (t431 < a0_0) = true := decide_eq_true c37
                  clear c37
                  have H' := Az.mk H
                  clear H
                  have hnb38 := NB436_427.out
                  have hnc38 := NB427_436.out
                  have hcz39_0 : w31.cell? ⟨gb436, 0, none⟩ = some (.int .i64 t431) := (bkC BK436.out 0).trans rfl
                  have hcz39_1 : w31.cell? ⟨gb436, 1, none⟩ = some (.int .i64 t432) := (bkC BK436.out 1).trans rfl
                  have hcz39_2 : w31.cell? ⟨gb436, 2, none⟩ = some (.slice Ao27 t433.length co27) := (bkC BK436.out 2).trans rfl
                  have hfz39_0 := bkF BK436.out 0
                  have hfz39_1 := bkF BK436.out 1
                  have hfz39_2 := bkF BK436.out 2
                  go_wp2_with (first | (go_at_call 13; (with_reducible refine (roll_Check.calls kj3 t431 t432 _ _ t433 t441 _ ?side1 ?side2 ?side3 A34.out).mono ?_); (case side1 => exact hG.below (by repeat (first | (with_reducible first | exact HB.out | apply pbA | apply pbN | apply pb1 | refine pbS ?_ GE427.out | refine pbS ?_ GE436.out) | exact HB.out))); (case side2 => repeat (first | exact (Kd.V_reads' HO435.out).2.2 | (with_reducible refine Kd.C_alloc ?_ _) | (with_reducible refine Kd.C_drewN ?_ _) | (with_reducible refine Kd.C_drew ?_))); (case side3 => exact (Kd.V_reads' HO435.out).2.1); rintro e w40 ⟨rfl, hb⟩; have n0_ := Az.mk (Kd.V_below (by (with_reducible repeat (first | apply Kd.V_alloc | apply Kd.V_drewN | apply Kd.V_drew)); exact HO435.out) hb); have n1_ := Az.mk (bkB (g := gb427) (o := .cells #[.int .i64 a0_0, .int .i64 a0_1, .slice A0_2 l0_2.length c0_2] 24 (0, 0)) (by (with_reducible repeat (first | refine bkN ?_ _ | refine bkD ?_ | refine bkA ?_ _)); exact BK427.out) hb); have n2_ := Az.mk (bkB (g := gb436) (o := .cells #[.int .i64 t431, .int .i64 t432, .slice Ao27 t433.length co27] 24 (0, 0)) (by (with_reducible repeat (first | refine bkN ?_ _ | refine bkD ?_ | refine bkA ?_ _)); exact BK436.out) hb); have n3_ := Az.mk (pbT (by repeat (first | (with_reducible first | exact HB.out | apply pbA | apply pbN | apply pb1 | refine pbS ?_ GE427.out | refine pbS ?_ GE436.out) | exact HB.out)) hb); clear HO435; clear BK427; clear BK436; clear HB; have HO435 := n0_; have BK427 := n1_; have BK436 := n2_; have HB := n3_; clear n0_ n1_ n2_ n3_; (try clear hb); (try clear hb2); (try clear hk); (try clear hi)) | (go_at_call 12; (with_reducible refine (l11_num.calls t441 t442 _ ?side1 A35.out).mono ?_); (case side1 => exact hG.below (by repeat (first | (with_reducible first | exact HB.out | apply pbA | apply pbN | apply pb1 | refine pbS ?_ GE427.out | refine pbS ?_ GE436.out) | exact HB.out))); rintro e w' ⟨rfl, ⟨nd, rfl⟩⟩; have hcz41_0 : w40.cell? ⟨gb436, 0, none⟩ = some (.int .i64 t431) := (bkC BK436.out 0).trans rfl; have hcz41_1 : w40.cell? ⟨gb436, 1, none⟩ = some (.int .i64 t432) := (bkC BK436.out 1).trans rfl; have hcz41_2 : w40.cell? ⟨gb436, 2, none⟩ = some (.slice Ao27 t433.length co27) := (bkC BK436.out 2).trans rfl; have hfz41_0 := bkF BK436.out 0; have hfz41_1 := bkF BK436.out 1; have hfz41_2 := bkF BK436.out 2; have hcz42_0 : w40.cell? ⟨gb427, 0, none⟩ = some (.int .i64 a0_0) := (bkC BK427.out 0).trans rfl; have hcz42_1 : w40.cell? ⟨gb427, 1, none⟩ = some (.int .i64 a0_1) := (bkC BK427.out 1).trans rfl; have hcz42_2 : w40.cell? ⟨gb427, 2, none⟩ = some (.slice A0_2 l0_2.length c0_2) := (bkC BK427.out 2).trans rfl; have hfz42_0 := bkF BK427.out 0; have hfz42_1 := bkF BK427.out 1; have hfz42_2 := bkF BK427.out 2))
                  go_meet
                  case rel => exact ⟨_, (true), (by first | rfl | (simp; done) | (simp [*]; done)), H', ⟨by have := HJ3.out; first | omega | exact Nat.le_refl _⟩, ⟨by (with_reducible repeat (first | apply Kd.V_alloc | apply Kd.V_drewN | apply Kd.V_drew)); exact HO435.out⟩, ⟨by (with_reducible repeat (first | refine bkN ?_ _ | refine bkD ?_ | refine bkA ?_ _)); exact BK427.out⟩, ⟨by (with_reducible repeat (first | refine bkN ?_ _ | refine bkD ?_ | refine bkA ?_ _)); exact BK436.out⟩, ⟨by repeat (first | (with_reducible first | exact HB.out | apply pbA | apply pbN | apply pb1 | refine pbS ?_ GE427.out | refine pbS ?_ GE436.out) | exact HB.out)⟩⟩
                · rw [if_neg c37] at H
                  have c37b0 : decide (t431 < a0_0) = false := decide_eq_false c37
                  clear c37
                  obtain ⟨ji43, hji43⟩ : ∃ j_ : Int, (mx a1 a0_0) = j_ := ⟨_, rfl⟩
                  replace H : (l11_RollCompacts.j1 kj3 a1 a2 t437 (decide (t431 > (ji43))) a0_0 a0_1 l0_2 t431 t432 t433) = some r := by first | (rw [hji43] at H; exact H) | (simp only [hji43] at H ⊢; exact H)
                  (try rw [hji43] at A34)
                  (try rw [hji43] at A35)
                  have hji43_ : (if a1 < a0_0 then a0_0 else a1) = ji43 := hji43
                  have H' := Az.mk H
                  clear H
                  have hnb44 := NB436_427.out
                  have hnc44 := NB427_436.out
                  have hcz45_0 : w31.cell? ⟨gb436, 0, none⟩ = some (.int .i64 t431) := (bkC BK436.out 0).trans rfl
                  have hcz45_1 : w31.cell? ⟨gb436, 1, none⟩ = some (.int .i64 t432) := (bkC BK436.out 1).trans rfl
                  have hcz45_2 : w31.cell? ⟨gb436, 2, none⟩ = some (.slice Ao27 t433.length co27) := (bkC BK436.out 2).trans rfl
                  have hfz45_0 := bkF BK436.out 0
                  have hfz45_1 := bkF BK436.out 1
                  have hfz45_2 := bkF BK436.out 2
                  go_wp2_with (first | (go_at_call 13; (with_reducible refine (roll_Check.calls kj3 t431 t432 _ _ t433 t441 _ ?side1 ?side2 ?side3 A34.out).mono ?_); (case side1 => exact hG.below (by repeat (first | (with_reducible first | exact HB.out | apply pbA | apply pbN | apply pb1 | refine pbS ?_ GE427.out | refine pbS ?_ GE436.out) | exact HB.out))); (case side2 => repeat (first | exact (Kd.V_reads' HO435.out).2.2 | (with_reducible refine Kd.C_alloc ?_ _) | (with_reducible refine Kd.C_drewN ?_ _) | (with_reducible refine Kd.C_drew ?_))); (case side3 => exact (Kd.V_reads' HO435.out).2.1); rintro e w46 ⟨rfl, hb⟩; have n0_ := Az.mk (Kd.V_below (by (with_reducible repeat (first | apply Kd.V_alloc | apply Kd.V_drewN | apply Kd.V_drew)); exact HO435.out) hb); have n1_ := Az.mk (bkB (g := gb427) (o := .cells #[.int .i64 a0_0, .int .i64 a0_1, .slice A0_2 l0_2.length c0_2] 24 (0, 0)) (by (with_reducible repeat (first | refine bkN ?_ _ | refine bkD ?_ | refine bkA ?_ _)); exact BK427.out) hb); have n2_ := Az.mk (bkB (g := gb436) (o := .cells #[.int .i64 t431, .int .i64 t432, .slice Ao27 t433.length co27] 24 (0, 0)) (by (with_reducible repeat (first | refine bkN ?_ _ | refine bkD ?_ | refine bkA ?_ _)); exact BK436.out) hb); have n3_ := Az.mk (pbT (by repeat (first | (with_reducible first | exact HB.out | apply pbA | apply pbN | apply pb1 | refine pbS ?_ GE427.out | refine pbS ?_ GE436.out) | exact HB.out)) hb); clear HO435; clear BK427; clear BK436; clear HB; have HO435 := n0_; have BK427 := n1_; have BK436 := n2_; have HB := n3_; clear n0_ n1_ n2_ n3_; (try clear hb); (try clear hb2); (try clear hk); (try clear hi)) | (go_at_call 12; (with_reducible refine (l11_num.calls t441 t442 _ ?side1 A35.out).mono ?_); (case side1 => exact hG.below (by repeat (first | (with_reducible first | exact HB.out | apply pbA | apply pbN | apply pb1 | refine pbS ?_ GE427.out | refine pbS ?_ GE436.out) | exact HB.out))); rintro e w' ⟨rfl, ⟨nd, rfl⟩⟩; have hcz47_0 : w46.cell? ⟨gb436, 0, none⟩ = some (.int .i64 t431) := (bkC BK436.out 0).trans rfl; have hcz47_1 : w46.cell? ⟨gb436, 1, none⟩ = some (.int .i64 t432) := (bkC BK436.out 1).trans rfl; have hcz47_2 : w46.cell? ⟨gb436, 2, none⟩ = some (.slice Ao27 t433.length co27) := (bkC BK436.out 2).trans rfl; have hfz47_0 := bkF BK436.out 0; have hfz47_1 := bkF BK436.out 1; have hfz47_2 := bkF BK436.out 2; have hcz48_0 : w46.cell? ⟨gb427, 0, none⟩ = some (.int .i64 a0_0) := (bkC BK427.out 0).trans rfl; have hcz48_1 : w46.cell? ⟨gb427, 1, none⟩ = some (.int .i64 a0_1) := (bkC BK427.out 1).trans rfl; have hcz48_2 : w46.cell? ⟨gb427, 2, none⟩ = some (.slice A0_2 l0_2.length c0_2) := (bkC BK427.out 2).trans rfl; have hfz48_0 := bkF BK427.out 0; have hfz48_1 := bkF BK427.out 1; have hfz48_2 := bkF BK427.out 2))
                  go_meet
                  case rel => exact ⟨_, (decide (t431 > (ji43))), (by first | rfl | (simp; done) | (simp only [← hji43] <;> (first | rfl | simp)) | (simp [*]; done)), H', ⟨by have := HJ3.out; first | omega | exact Nat.le_refl _⟩, ⟨by (with_reducible repeat (first | apply Kd.V_alloc | apply Kd.V_drewN | apply Kd.V_drew)); exact HO435.out⟩, ⟨by (with_reducible repeat (first | refine bkN ?_ _ | refine bkD ?_ | refine bkA ?_ _)); exact BK427.out⟩, ⟨by (with_reducible repeat (first | refine bkN ?_ _ | refine bkD ?_ | refine bkA ?_ _)); exact BK436.out⟩, ⟨by repeat (first | (with_reducible first | exact HB.out | apply pbA | apply pbN | apply pb1 | refine pbS ?_ GE427.out | refine pbS ?_ GE436.out) | exact HB.out)⟩⟩
              · rw [if_neg c36] at H
                have c36b0 : (t442 == 0) = false := beq_eq_false_iff_ne.mpr c36
                have c36b1 : (t442 != 0) = true := bne_iff_ne.mpr c36
                have H' := Az.mk H
                clear H
                have hnb49 := NB436_427.out
                have hnc49 := NB427_436.out
                have hcz50_0 : w31.cell? ⟨gb436, 0, none⟩ = some (.int .i64 t431) := (bkC BK436.out 0).trans rfl
                have hcz50_1 : w31.cell? ⟨gb436, 1, none⟩ = some (.int .i64 t432) := (bkC BK436.out 1).trans rfl
                have hcz50_2 : w31.cell? ⟨gb436, 2, none⟩ = some (.slice Ao27 t433.length co27) := (bkC BK436.out 2).trans rfl
                have hfz50_0 := bkF BK436.out 0
                have hfz50_1 := bkF BK436.out 1
                have hfz50_2 := bkF BK436.out 2
                go_wp2_with (first | (go_at_call 13; (with_reducible refine (roll_Check.calls kj3 t431 t432 _ _ t433 t441 _ ?side1 ?side2 ?side3 A34.out).mono ?_); (case side1 => exact hG.below (by repeat (first | (with_reducible first | exact HB.out | apply pbA | apply pbN | apply pb1 | refine pbS ?_ GE427.out | refine pbS ?_ GE436.out) | exact HB.out))); (case side2 => repeat (first | exact (Kd.V_reads' HO435.out).2.2 | (with_reducible refine Kd.C_alloc ?_ _) | (with_reducible refine Kd.C_drewN ?_ _) | (with_reducible refine Kd.C_drew ?_))); (case side3 => exact (Kd.V_reads' HO435.out).2.1); rintro e w51 ⟨rfl, hb⟩; have n0_ := Az.mk (Kd.V_below (by (with_reducible repeat (first | apply Kd.V_alloc | apply Kd.V_drewN | apply Kd.V_drew)); exact HO435.out) hb); have n1_ := Az.mk (bkB (g := gb427) (o := .cells #[.int .i64 a0_0, .int .i64 a0_1, .slice A0_2 l0_2.length c0_2] 24 (0, 0)) (by (with_reducible repeat (first | refine bkN ?_ _ | refine bkD ?_ | refine bkA ?_ _)); exact BK427.out) hb); have n2_ := Az.mk (bkB (g := gb436) (o := .cells #[.int .i64 t431, .int .i64 t432, .slice Ao27 t433.length co27] 24 (0, 0)) (by (with_reducible repeat (first | refine bkN ?_ _ | refine bkD ?_ | refine bkA ?_ _)); exact BK436.out) hb); have n3_ := Az.mk (pbT (by repeat (first | (with_reducible first | exact HB.out | apply pbA | apply pbN | apply pb1 | refine pbS ?_ GE427.out | refine pbS ?_ GE436.out) | exact HB.out)) hb); clear HO435; clear BK427; clear BK436; clear HB; have HO435 := n0_; have BK427 := n1_; have BK436 := n2_; have HB := n3_; clear n0_ n1_ n2_ n3_; (try clear hb); (try clear hb2); (try clear hk); (try clear hi)) | (go_at_call 12; (with_reducible refine (l11_num.calls t441 t442 _ ?side1 A35.out).mono ?_); (case side1 => exact hG.below (by repeat (first | (with_reducible first | exact HB.out | apply pbA | apply pbN | apply pb1 | refine pbS ?_ GE427.out | refine pbS ?_ GE436.out) | exact HB.out))); rintro e w' ⟨rfl, ⟨nd, rfl⟩⟩))
                go_meet
                case rel => exact ⟨_, (true), (by first | rfl | (simp; done) | (simp [*]; done)), H', ⟨by have := HJ3.out; first | omega | exact Nat.le_refl _⟩, ⟨by (with_reducible repeat (first | apply Kd.V_alloc | apply Kd.V_drewN | apply Kd.V_drew)); exact HO435.out⟩, ⟨by (with_reducible repeat (first | refine bkN ?_ _ | refine bkD ?_ | refine bkA ?_ _)); exact BK427.out⟩, ⟨by (with_reducible repeat (first | refine bkN ?_ _ | refine bkD ?_ | refine bkA ?_ _)); exact BK436.out⟩, ⟨by repeat (first | (with_reducible first | exact HB.out | apply pbA | apply pbN | apply pb1 | refine pbS ?_ GE427.out | refine pbS ?_ GE436.out) | exact HB.out)⟩⟩
            · rw [if_neg c33] at H
              have c33b0 : (t438 == t440) = false := beq_eq_false_iff_ne.mpr c33
              have c33b1 : (t438 != t440) = true := bne_iff_ne.mpr c33
              have H' := Az.mk H
              clear H
              go_wp2
              go_meet
              case rel => exact ⟨_, (true), (by first | rfl | (simp; done) | (simp [*]; done)), H', ⟨by have := HJ3.out; first | omega | exact Nat.le_refl _⟩, ⟨by (with_reducible repeat (first | apply Kd.V_alloc | apply Kd.V_drewN | apply Kd.V_drew)); exact HO435.out⟩, ⟨by (with_reducible repeat (first | refine bkN ?_ _ | refine bkD ?_ | refine bkA ?_ _)); exact BK427.out⟩, ⟨by (with_reducible repeat (first | refine bkN ?_ _ | refine bkD ?_ | refine bkA ?_ _)); exact BK436.out⟩, ⟨by repeat (first | (with_reducible first | exact HB.out | apply pbA | apply pbN | apply pb1 | refine pbS ?_ GE427.out | refine pbS ?_ GE436.out) | exact HB.out)⟩⟩
          · rw [if_neg c32] at H
            have c32b0 : (t437 == t439) = false := beq_eq_false_iff_ne.mpr c32
            have c32b1 : (t437 != t439) = true := bne_iff_ne.mpr c32
            (first | rw [c32b0] | (simp only [i64_w, i32_w]; rw [c32b0]) | skip)
            have H' := Az.mk H
            clear H
            go_wp2
            go_meet
            case rel => exact ⟨_, (true), (by first | rfl | (simp; done) | (simp [*]; done)), H', ⟨by have := HJ3.out; first | omega | exact Nat.le_refl _⟩, ⟨by (with_reducible repeat (first | apply Kd.V_alloc | apply Kd.V_drewN | apply Kd.V_drew)); exact HO435.out⟩, ⟨by (with_reducible repeat (first | refine bkN ?_ _ | refine bkD ?_ | refine bkA ?_ _)); exact BK427.out⟩, ⟨by (with_reducible repeat (first | refine bkN ?_ _ | refine bkD ?_ | refine bkA ?_ _)); exact BK436.out⟩, ⟨by repeat (first | (with_reducible first | exact HB.out | apply pbA | apply pbN | apply pb1 | refine pbS ?_ GE427.out | refine pbS ?_ GE436.out) | exact HB.out)⟩⟩
        case rest =>
          clear HC21
          try clear c1
          try clear c2
          try clear p2
          try clear c3
          try clear c4
          try clear c6
          try clear c7
          try clear c8
          try clear c9
          try clear c15
          try clear c21
          try clear c23
          try clear c25
          try clear c32
          try clear c32b0
          try clear c32b1
          try clear c33
          try clear c33b0
          try clear c33b1
          try clear c36
          try clear c36b0
          try clear c36b1
          try clear c37
          try clear c37b0
          try clear c38
          try clear c44
          try clear c49
          try clear hcz11_0
          try clear hcz11_1
          try clear hcz11_2
          try clear hcz13_0
          try clear hcz13_1
          try clear hcz13_2
          try clear hcz22_0
          try clear hcz22_1
          try clear hcz22_2
          try clear hcz26_0
          try clear hcz26_1
          try clear hcz26_2
          try clear hcz28_0
          try clear hcz28_1
          try clear hcz28_2
          try clear hcz30_0
          try clear hcz30_1
          try clear hcz30_2
          try clear hcz39_0
          try clear hcz39_1
          try clear hcz39_2
          try clear hcz41_0
          try clear hcz41_1
          try clear hcz41_2
          try clear hcz42_0
          try clear hcz42_1
          try clear hcz42_2
          try clear hcz45_0
          try clear hcz45_1
          try clear hcz45_2
          try clear hcz47_0
          try clear hcz47_1
          try clear hcz47_2
          try clear hcz48_0
          try clear hcz48_1
          try clear hcz48_2
          try clear hcz50_0
          try clear hcz50_1
          try clear hcz50_2
          try clear hcz9_0
          try clear hcz9_1
          try clear hcz9_2
          try clear hfz11_0
          try clear hfz11_1
          try clear hfz11_2
          try clear hfz13_0
          try clear hfz13_1
          try clear hfz13_2
          try clear hfz22_0
          try clear hfz22_1
          try clear hfz22_2
          try clear hfz26_0
          try clear hfz26_1
          try clear hfz26_2
          try clear hfz28_0
          try clear hfz28_1
          try clear hfz28_2
          try clear hfz30_0
          try clear hfz30_1
          try clear hfz30_2
          try clear hfz39_0
          try clear hfz39_1
          try clear hfz39_2
          try clear hfz41_0
          try clear hfz41_1
          try clear hfz41_2
          try clear hfz42_0
          try clear hfz42_1
          try clear hfz42_2
          try clear hfz45_0
          try clear hfz45_1
          try clear hfz45_2
          try clear hfz47_0
          try clear hfz47_1
          try clear hfz47_2
          try clear hfz48_0
          try clear hfz48_1
          try clear hfz48_2
          try clear hfz50_0
          try clear hfz50_1
          try clear hfz50_2
          try clear hfz9_0
          try clear hfz9_1
          try clear hfz9_2
          try clear p2
          obtain ⟨kq, x67_20, rfl, HA, HJ20, HO_437002, BK427, BK436, HB⟩ := hcut
          cases kq with
          | zero => exact absurd HA.out (by simp [l11_RollCompacts.j1])
          | succ kj20 =>
            have H := HA.out
            clear HA
            simp only [l11_RollCompacts.j1] at H
            by_cases c52 : x67_20 = true
            · subst c52
              have H1 : (some false) = some r := by rw [if_pos rfl] at H; exact H
              clear H
              have H := H1
              clear H1
              exact absurd (Option.some.inj (H.trans (congrArg some hr))) (by decide)
            · replace c52 := Bool.eq_false_iff.mpr c52
              subst c52
              have H1 : ((roll_Term.f kj20 a0_0 a0_1 l0_2 a2).bind fun bt443 => ((roll_Term.f kj20 t431 t432 t433 a2).bind fun bt445 => (if a2 ≥ t431 then (if bt443.1 = bt445.1 then (if (bt443.2 != bt445.2) = true then (l11_RollCompacts.j2 kj20 a1 t437 true a0_0 a0_1 l0_2 t431 t432 t433) else (if a2 < t431 then (l11_RollCompacts.j2 kj20 a1 t437 bt445.2 a0_0 a0_1 l0_2 t431 t432 t433) else (l11_RollCompacts.j2 kj20 a1 t437 false a0_0 a0_1 l0_2 t431 t432 t433))) else (l11_RollCompacts.j2 kj20 a1 t437 true a0_0 a0_1 l0_2 t431 t432 t433)) else (if a2 < t431 then (l11_RollCompacts.j2 kj20 a1 t437 bt445.2 a0_0 a0_1 l0_2 t431 t432 t433) else (l11_RollCompacts.j2 kj20 a1 t437 false a0_0 a0_1 l0_2 t431 t432 t433))))) = some r := by rw [if_neg (show ¬ (false = true) by decide)] at H; exact H
              clear H
              have H := H1
              clear H1
              replace H := Option.bind_eq_some_iff.mp H
              obtain ⟨⟨t443, t444⟩, A530, H⟩ := H
              replace H : ((roll_Term.f kj20 t431 t432 t433 a2).bind fun bt445 => (if a2 ≥ t431 then (if t443 = bt445.1 then (if (t444 != bt445.2) = true then (l11_RollCompacts.j2 kj20 a1 t437 true a0_0 a0_1 l0_2 t431 t432 t433) else (if a2 < t431 then (l11_RollCompacts.j2 kj20 a1 t437 bt445.2 a0_0 a0_1 l0_2 t431 t432 t433) else (l11_RollCompacts.j2 kj20 a1 t437 false a0_0 a0_1 l0_2 t431 t432 t433))) else (l11_RollCompacts.j2 kj20 a1 t437 true a0_0 a0_1 l0_2 t431 t432 t433)) else (if a2 < t431 then (l11_RollCompacts.j2 kj20 a1 t437 bt445.2 a0_0 a0_1 l0_2 t431 t432 t433) else (l11_RollCompacts.j2 kj20 a1 t437 false a0_0 a0_1 l0_2 t431 t432 t433)))) = some r := H
              have A53 := Az.mk A530
              clear A530
              replace H := Option.bind_eq_some_iff.mp H
              obtain ⟨⟨t445, t446⟩, A540, H⟩ := H
              replace H : (if a2 ≥ t431 then (if t443 = t445 then (if (t444 != t446) = true then (l11_RollCompacts.j2 kj20 a1 t437 true a0_0 a0_1 l0_2 t431 t432 t433) else (if a2 < t431 then (l11_RollCompacts.j2 kj20 a1 t437 t446 a0_0 a0_1 l0_2 t431 t432 t433) else (l11_RollCompacts.j2 kj20 a1 t437 false a0_0 a0_1 l0_2 t431 t432 t433))) else (l11_RollCompacts.j2 kj20 a1 t437 true a0_0 a0_1 l0_2 t431 t432 t433)) else (if a2 < t431 then (l11_RollCompacts.j2 kj20 a1 t437 t446 a0_0 a0_1 l0_2 t431 t432 t433) else (l11_RollCompacts.j2 kj20 a1 t437 false a0_0 a0_1 l0_2 t431 t432 t433))) = some r := H
              have A54 := Az.mk A540
              clear A540
              have HC55 := Az.mk H
              clear H
              have hnb56 := NB427_436.out
              have hnc56 := NB436_427.out
              have hcz57_0 : wc.cell? ⟨gb427, 0, none⟩ = some (.int .i64 a0_0) := (bkC BK427.out 0).trans rfl
              have hcz57_1 : wc.cell? ⟨gb427, 1, none⟩ = some (.int .i64 a0_1) := (bkC BK427.out 1).trans rfl
              have hcz57_2 : wc.cell? ⟨gb427, 2, none⟩ = some (.slice A0_2 l0_2.length c0_2) := (bkC BK427.out 2).trans rfl
              have hfz57_0 := bkF BK427.out 0
              have hfz57_1 := bkF BK427.out 1
              have hfz57_2 := bkF BK427.out 2
              go_upto_region 10 with (first | ((with_reducible refine gtc (f := 24) rfl ?_); refine goesL_ (some 71) rfl rfl Tryd.func24 (by kernel_rfl) rfl #[.agg #[.int .i64 a0_0, .int .i64 a0_1, .slice A0_2 l0_2.length c0_2], .int .i64 a2] rfl (by (try simp only [List.map_toArray, List.map_cons, List.map_nil]); first | done | rfl | (simp only [List.length_drop, List.length_take]; rfl)) ?_; (with_reducible refine (roll_Term.calls kj20 a0_0 a0_1 _ _ l0_2 a2 t443 t444 _ ?side1 ?side2 ?side3 A53.out).mono ?_); (case side1 => exact hG.below (by repeat (first | (with_reducible first | exact HB.out | apply pbA | apply pbN | apply pb1 | refine pbS ?_ GE427.out | refine pbS ?_ GE436.out) | exact HB.out))); (case side2 => repeat (first | exact (Kd.C_below HR0_2.out HB.out) | (with_reducible refine Kd.C_alloc ?_ _) | (with_reducible refine Kd.C_drewN ?_ _) | (with_reducible refine Kd.C_drew ?_))); (case side3 => exact HC0_2.out); rintro e w58 ⟨rfl, hb⟩; refine ⟨_, rfl, ?_⟩; have n0_ := Az.mk (Kd.V_below (by (with_reducible repeat (first | apply Kd.V_alloc | apply Kd.V_drewN | apply Kd.V_drew)); exact HO_437002.out) hb); have n1_ := Az.mk (bkB (g := gb427) (o := .cells #[.int .i64 a0_0, .int .i64 a0_1, .slice A0_2 l0_2.length c0_2] 24 (0, 0)) (by (with_reducible repeat (first | refine bkN ?_ _ | refine bkD ?_ | refine bkA ?_ _)); exact BK427.out) hb); have n2_ := Az.mk (bkB (g := gb436) (o := .cells #[.int .i64 t431, .int .i64 t432, .slice Ao27 t433.length co27] 24 (0, 0)) (by (with_reducible repeat (first | refine bkN ?_ _ | refine bkD ?_ | refine bkA ?_ _)); exact BK436.out) hb); have n3_ := Az.mk (pbT (by repeat (first | (with_reducible first | exact HB.out | apply pbA | apply pbN | apply pb1 | refine pbS ?_ GE427.out | refine pbS ?_ GE436.out) | exact HB.out)) hb); clear HO_437002; clear BK427; clear BK436; clear HB; have HO_437002 := n0_; have BK427 := n1_; have BK436 := n2_; have HB := n3_; clear n0_ n1_ n2_ n3_; (try clear hb); (try clear hb2); (try clear hk); (try clear hi); have hcz59_0 : w58.cell? ⟨gb436, 0, none⟩ = some (.int .i64 t431) := (bkC BK436.out 0).trans rfl; have hcz59_1 : w58.cell? ⟨gb436, 1, none⟩ = some (.int .i64 t432) := (bkC BK436.out 1).trans rfl; have hcz59_2 : w58.cell? ⟨gb436, 2, none⟩ = some (.slice Ao27 t433.length co27) := (bkC BK436.out 2).trans rfl; have hfz59_0 := bkF BK436.out 0; have hfz59_1 := bkF BK436.out 1; have hfz59_2 := bkF BK436.out 2) | ((with_reducible refine gtc (f := 24) rfl ?_); refine goesL_ (some 77) rfl rfl Tryd.func24 (by kernel_rfl) rfl #[.agg #[.int .i64 t431, .int .i64 t432, .slice Ao27 t433.length co27], .int .i64 a2] rfl (by (try simp only [List.map_toArray, List.map_cons, List.map_nil]); first | done | rfl | (simp only [List.length_drop, List.length_take]; rfl)) ?_; (with_reducible refine (roll_Term.calls kj20 t431 t432 _ _ t433 a2 t445 t446 _ ?side1 ?side2 ?side3 A54.out).mono ?_); (case side1 => exact hG.below (by repeat (first | (with_reducible first | exact HB.out | apply pbA | apply pbN | apply pb1 | refine pbS ?_ GE427.out | refine pbS ?_ GE436.out) | exact HB.out))); (case side2 => repeat (first | exact (Kd.V_reads' HO_437002.out).2.2 | (with_reducible refine Kd.C_alloc ?_ _) | (with_reducible refine Kd.C_drewN ?_ _) | (with_reducible refine Kd.C_drew ?_))); (case side3 => exact (Kd.V_reads' HO_437002.out).2.1); rintro e w60 ⟨rfl, hb⟩; refine ⟨_, rfl, ?_⟩; have n0_ := Az.mk (Kd.V_below (by (with_reducible repeat (first | apply Kd.V_alloc | apply Kd.V_drewN | apply Kd.V_drew)); exact HO_437002.out) hb); have n1_ := Az.mk (bkB (g := gb427) (o := .cells #[.int .i64 a0_0, .int .i64 a0_1, .slice A0_2 l0_2.length c0_2] 24 (0, 0)) (by (with_reducible repeat (first | refine bkN ?_ _ | refine bkD ?_ | refine bkA ?_ _)); exact BK427.out) hb); have n2_ := Az.mk (bkB (g := gb436) (o := .cells #[.int .i64 t431, .int .i64 t432, .slice Ao27 t433.length co27] 24 (0, 0)) (by (with_reducible repeat (first | refine bkN ?_ _ | refine bkD ?_ | refine bkA ?_ _)); exact BK436.out) hb); have n3_ := Az.mk (pbT (by repeat (first | (with_reducible first | exact HB.out | apply pbA | apply pbN | apply pb1 | refine pbS ?_ GE427.out | refine pbS ?_ GE436.out) | exact HB.out)) hb); clear HO_437002; clear BK427; clear BK436; clear HB; have HO_437002 := n0_; have BK427 := n1_; have BK436 := n2_; have HB := n3_; clear n0_ n1_ n2_ n3_; (try clear hb); (try clear hb2); (try clear hk); (try clear hi)))
              (try simp only [Act.put, List.setIfInBounds_toArray, List.set_cons_zero, List.set_cons_succ])
              go_cut [102] (fun v102 wc => ∃ (kq : Nat) (x102_54 : Bool), v102 = .bool x102_54 ∧ Az (l11_RollCompacts.j2 kq a1 t437 x102_54 a0_0 a0_1 l0_2 t431 t432 t433 = some r) ∧ Az (kq ≤ kj20) ∧ Az (Kd.V k54 54 wc w.heap.size (fun k_ => k_ ≠ gb427 ∧ k_ ≠ gb436) (.slice Ao27 t433.length co27) t433) ∧ Az (wc.heap[gb427]? = some (.cells #[.int .i64 a0_0, .int .i64 a0_1, (.slice A0_2 l0_2.length c0_2)] 24 (0, 0))) ∧ Az (wc.heap[gb436]? = some (.cells #[.int .i64 t431, .int .i64 t432, (.slice Ao27 t433.length co27)] 24 (0, 0))) ∧ Az (Below w.heap.size w wc))
              case first =>
                have H := HC55.out
                clear HC55
                by_cases c61 : a2 ≥ t431
                · rw [if_pos c61] at H
                  have c61b0 : decide (t431 ≤ a2) = true := decide_eq_true c61
                  clear c61
                  (first | rw [c61b0] | (simp only [i64_w, i32_w]; rw [c61b0]) | skip)
                  by_cases c62 : t443 = t445
                  · rw [if_pos c62] at H
                    have c62b0 : (t443 == t445) = true := beq_iff_eq.mpr c62
                    have c62b1 : (t443 != t445) = false := bne_eq_false_iff_eq.mpr c62
                    clear c62
                    by_cases c63 : (t444 != t446) = true
                    · rw [if_pos c63] at H
                      have c63b0 : (t444 != t446) = true := c63
                      (try (have c63b1 : decide (t444 = t446) = false := by simpa using c63))
                      (try (have c63b2 : (t444 == t446) = false := by simpa using c63))
                      (try (have c63b3 : ¬ (t444 = t446) := by simpa using c63))
                      clear c63
                      have H' := Az.mk H
                      clear H
                      have hnb64 := NB436_427.out
                      have hnc64 := NB427_436.out
                      have hcz65_0 : w60.cell? ⟨gb436, 0, none⟩ = some (.int .i64 t431) := (bkC BK436.out 0).trans rfl
                      have hcz65_1 : w60.cell? ⟨gb436, 1, none⟩ = some (.int .i64 t432) := (bkC BK436.out 1).trans rfl
                      have hcz65_2 : w60.cell? ⟨gb436, 2, none⟩ = some (.slice Ao27 t433.length co27) := (bkC BK436.out 2).trans rfl
                      have hfz65_0 := bkF BK436.out 0
                      have hfz65_1 := bkF BK436.out 1
                      have hfz65_2 := bkF BK436.out 2
                      go_wp2
                      go_meet
                      case rel => exact ⟨_, (true), (by first | rfl | (simp; done) | (simp [*]; done)), H', ⟨by have := HJ3.out; have := HJ20.out; first | omega | exact Nat.le_refl _⟩, ⟨by (with_reducible repeat (first | apply Kd.V_alloc | apply Kd.V_drewN | apply Kd.V_drew)); exact HO_437002.out⟩, ⟨by (with_reducible repeat (first | refine bkN ?_ _ | refine bkD ?_ | refine bkA ?_ _)); exact BK427.out⟩, ⟨by (with_reducible repeat (first | refine bkN ?_ _ | refine bkD ?_ | refine bkA ?_ _)); exact BK436.out⟩, ⟨by repeat (first | (with_reducible first | exact HB.out | apply pbA | apply pbN | apply pb1 | refine pbS ?_ GE427.out | refine pbS ?_ GE436.out) | exact HB.out)⟩⟩
                    · rw [if_neg c63] at H
                      have c63b0 : (t444 != t446) = false := by simpa using c63
                      (try (have c63b1 : decide (t444 = t446) = true := by simpa using c63))
                      (try (have c63b2 : (t444 == t446) = true := by simpa using c63))
                      clear c63
                      by_cases c66 : a2 < t431
                      · rw [if_pos c66] at H
                        have c66b0 : decide (a2 < t431) = true := decide_eq_true c66
                        clear c66
                        have H' := Az.mk H
                        clear H
                        have hnb67 := NB436_427.out
                        have hnc67 := NB427_436.out
                        have hcz68_0 : w60.cell? ⟨gb436, 0, none⟩ = some (.int .i64 t431) := (bkC BK436.out 0).trans rfl
                        have hcz68_1 : w60.cell? ⟨gb436, 1, none⟩ = some (.int .i64 t432) := (bkC BK436.out 1).trans rfl
                        have hcz68_2 : w60.cell? ⟨gb436, 2, none⟩ = some (.slice Ao27 t433.length co27) := (bkC BK436.out 2).trans rfl
                        have hfz68_0 := bkF BK436.out 0
                        have hfz68_1 := bkF BK436.out 1
                        have hfz68_2 := bkF BK436.out 2
                        go_wp2
                        go_meet
                        case rel => exact ⟨_, (t446), (by first | rfl | (simp; done) | (simp [*]; done)), H', ⟨by have := HJ3.out; have := HJ20.out; first | omega | exact Nat.le_refl _⟩, ⟨by (with_reducible repeat (first | apply Kd.V_alloc | apply Kd.V_drewN | apply Kd.V_drew)); exact HO_437002.out⟩, ⟨by (with_reducible repeat (first | refine bkN ?_ _ | refine bkD ?_ | refine bkA ?_ _)); exact BK427.out⟩, ⟨by (with_reducible repeat (first | refine bkN ?_ _ | refine bkD ?_ | refine bkA ?_ _)); exact BK436.out⟩, ⟨by repeat (first | (with_reducible first | exact HB.out | apply pbA | apply pbN | apply pb1 | refine pbS ?_ GE427.out | refine pbS ?_ GE436.out) | exact HB.out)⟩⟩
                      · rw [if_neg c66] at H
                        have c66b0 : decide (a2 < t431) = false := decide_eq_false c66
                        clear c66
                        have H' := Az.mk H
                        clear H
                        have hnb69 := NB436_427.out
                        have hnc69 := NB427_436.out
                        have hcz70_0 : w60.cell? ⟨gb436, 0, none⟩ = some (.int .i64 t431) := (bkC BK436.out 0).trans rfl
                        have hcz70_1 : w60.cell? ⟨gb436, 1, none⟩ = some (.int .i64 t432) := (bkC BK436.out 1).trans rfl
                        have hcz70_2 : w60.cell? ⟨gb436, 2, none⟩ = some (.slice Ao27 t433.length co27) := (bkC BK436.out 2).trans rfl
                        have hfz70_0 := bkF BK436.out 0
                        have hfz70_1 := bkF BK436.out 1
                        have hfz70_2 := bkF BK436.out 2
                        go_wp2
                        go_meet
                        case rel => exact ⟨_, (false), (by first | rfl | (simp; done) | (simp [*]; done)), H', ⟨by have := HJ3.out; have := HJ20.out; first | omega | exact Nat.le_refl _⟩, ⟨by (with_reducible repeat (first | apply Kd.V_alloc | apply Kd.V_drewN | apply Kd.V_drew)); exact HO_437002.out⟩, ⟨by (with_reducible repeat (first | refine bkN ?_ _ | refine bkD ?_ | refine bkA ?_ _)); exact BK427.out⟩, ⟨by (with_reducible repeat (first | refine bkN ?_ _ | refine bkD ?_ | refine bkA ?_ _)); exact BK436.out⟩, ⟨by repeat (first | (with_reducible first | exact HB.out | apply pbA | apply pbN | apply pb1 | refine pbS ?_ GE427.out | refine pbS ?_ GE436.out) | exact HB.out)⟩⟩
                  · rw [if_neg c62] at H
                    have c62b0 : (t443 == t445) = false := beq_eq_false_iff_ne.mpr c62
                    have c62b1 : (t443 != t445) = true := bne_iff_ne.mpr c62
                    have H' := Az.mk H
                    clear H
                    have hnb71 := NB436_427.out
                    have hnc71 := NB427_436.out
                    have hcz72_0 : w60.cell? ⟨gb436, 0, none⟩ = some (.int .i64 t431) := (bkC BK436.out 0).trans rfl
                    have hcz72_1 : w60.cell? ⟨gb436, 1, none⟩ = some (.int .i64 t432) := (bkC BK436.out 1).trans rfl
                    have hcz72_2 : w60.cell? ⟨gb436, 2, none⟩ = some (.slice Ao27 t433.length co27) := (bkC BK436.out 2).trans rfl
                    have hfz72_0 := bkF BK436.out 0
                    have hfz72_1 := bkF BK436.out 1
                    have hfz72_2 := bkF BK436.out 2
                    go_wp2
                    go_meet
                    case rel => exact ⟨_, (true), (by first | rfl | (simp; done) | (simp [*]; done)), H', ⟨by have := HJ3.out; have := HJ20.out; first | omega | exact Nat.le_refl _⟩, ⟨by (with_reducible repeat (first | apply Kd.V_alloc | apply Kd.V_drewN | apply Kd.V_drew)); exact HO_437002.out⟩, ⟨by (with_reducible repeat (first | refine bkN ?_ _ | refine bkD ?_ | refine bkA ?_ _)); exact BK427.out⟩, ⟨by (with_reducible repeat (first | refine bkN ?_ _ | refine bkD ?_ | refine bkA ?_ _)); exact BK436.out⟩, ⟨by repeat (first | (with_reducible first | exact HB.out | apply pbA | apply pbN | apply pb1 | refine pbS ?_ GE427.out | refine pbS ?_ GE436.out) | exact HB.out)⟩⟩
                · rw [if_neg c61] at H
                  have c61b0 : decide (t431 ≤ a2) = false := decide_eq_false c61
                  clear c61
                  (first | rw [c61b0] | (simp only [i64_w, i32_w]; rw [c61b0]) | skip)
                  by_cases c73 : a2 < t431
                  · rw [if_pos c73] at H
                    have c73b0 : decide (a2 < t431) = true := decide_eq_true c73
                    clear c73
                    have H' := Az.mk H
                    clear H
                    have hnb74 := NB436_427.out
                    have hnc74 := NB427_436.out
                    have hcz75_0 : w60.cell? ⟨gb436, 0, none⟩ = some (.int .i64 t431) := (bkC BK436.out 0).trans rfl
                    have hcz75_1 : w60.cell? ⟨gb436, 1, none⟩ = some (.int .i64 t432) := (bkC BK436.out 1).trans rfl
                    have hcz75_2 : w60.cell? ⟨gb436, 2, none⟩ = some (.slice Ao27 t433.length co27) := (bkC BK436.out 2).trans rfl
                    have hfz75_0 := bkF BK436.out 0
                    have hfz75_1 := bkF BK436.out 1
                    have hfz75_2 := bkF BK436.out 2
                    go_wp2
                    go_meet
                    case rel => exact ⟨_, (t446), (by first | rfl | (simp; done) | (simp [*]; done)), H', ⟨by have := HJ3.out; have := HJ20.out; first | omega | exact Nat.le_refl _⟩, ⟨by (with_reducible repeat (first | apply Kd.V_alloc | apply Kd.V_drewN | apply Kd.V_drew)); exact HO_437002.out⟩, ⟨by (with_reducible repeat (first | refine bkN ?_ _ | refine bkD ?_ | refine bkA ?_ _)); exact BK427.out⟩, ⟨by (with_reducible repeat (first | refine bkN ?_ _ | refine bkD ?_ | refine bkA ?_ _)); exact BK436.out⟩, ⟨by repeat (first | (with_reducible first | exact HB.out | apply pbA | apply pbN | apply pb1 | refine pbS ?_ GE427.out | refine pbS ?_ GE436.out) | exact HB.out)⟩⟩
                  · rw [if_neg c73] at H
                    have c73b0 : decide (a2 < t431) = false := decide_eq_false c73
                    clear c73
                    have H' := Az.mk H
                    clear H
                    have hnb76 := NB436_427.out
                    have hnc76 := NB427_436.out
                    have hcz77_0 : w60.cell? ⟨gb436, 0, none⟩ = some (.int .i64 t431) := (bkC BK436.out 0).trans rfl
                    have hcz77_1 : w60.cell? ⟨gb436, 1, none⟩ = some (.int .i64 t432) := (bkC BK436.out 1).trans rfl
                    have hcz77_2 : w60.cell? ⟨gb436, 2, none⟩ = some (.slice Ao27 t433.length co27) := (bkC BK436.out 2).trans rfl
                    have hfz77_0 := bkF BK436.out 0
                    have hfz77_1 := bkF BK436.out 1
                    have hfz77_2 := bkF BK436.out 2
                    go_wp2
                    go_meet
                    case rel => exact ⟨_, (false), (by first | rfl | (simp; done) | (simp [*]; done)), H', ⟨by have := HJ3.out; have := HJ20.out; first | omega | exact Nat.le_refl _⟩, ⟨by (with_reducible repeat (first | apply Kd.V_alloc | apply Kd.V_drewN | apply Kd.V_drew)); exact HO_437002.out⟩, ⟨by (with_reducible repeat (first | refine bkN ?_ _ | refine bkD ?_ | refine bkA ?_ _)); exact BK427.out⟩, ⟨by (with_reducible repeat (first | refine bkN ?_ _ | refine bkD ?_ | refine bkA ?_ _)); exact BK436.out⟩, ⟨by repeat (first | (with_reducible first | exact HB.out | apply pbA | apply pbN | apply pb1 | refine pbS ?_ GE427.out | refine pbS ?_ GE436.out) | exact HB.out)⟩⟩
              case rest =>
                clear HC55
                try clear c1
                try clear c2
                try clear p2
                try clear c3
                try clear c4
                try clear c5
                try clear c6
                try clear c7
                try clear c8
                try clear c9
                try clear c15
                try clear c21
                try clear c23
                try clear c24
                try clear c25
                try clear c32
                try clear c32b0
                try clear c32b1
                try clear c33
                try clear c33b0
                try clear c33b1
                try clear c36
                try clear c36b0
                try clear c36b1
                try clear c37
                try clear c37b0
                try clear c38
                try clear c44
                try clear c49
                try clear c52
                try clear c56
                try clear c61
                try clear c61b0
                try clear c62
                try clear c62b0
                try clear c62b1
                try clear c63
                try clear c63b0
                try clear c63b1
                try clear c63b2
                try clear c64
                try clear c66
                try clear c66b0
                try clear c67
                try clear c69
                try clear c71
                try clear c73
                try clear c73b0
                try clear c74
                try clear c76
                try clear hcz11_0
                try clear hcz11_1
                try clear hcz11_2
                try clear hcz13_0
                try clear hcz13_1
                try clear hcz13_2
                try clear hcz22_0
                try clear hcz22_1
                try clear hcz22_2
                try clear hcz26_0
                try clear hcz26_1
                try clear hcz26_2
                try clear hcz28_0
                try clear hcz28_1
                try clear hcz28_2
                try clear hcz30_0
                try clear hcz30_1
                try clear hcz30_2
                try clear hcz39_0
                try clear hcz39_1
                try clear hcz39_2
                try clear hcz41_0
                try clear hcz41_1
                try clear hcz41_2
                try clear hcz42_0
                try clear hcz42_1
                try clear hcz42_2
                try clear hcz45_0
                try clear hcz45_1
                try clear hcz45_2
                try clear hcz47_0
                try clear hcz47_1
                try clear hcz47_2
                try clear hcz48_0
                try clear hcz48_1
                try clear hcz48_2
                try clear hcz50_0
                try clear hcz50_1
                try clear hcz50_2
                try clear hcz57_0
                try clear hcz57_1
                try clear hcz57_2
                try clear hcz59_0
                try clear hcz59_1
                try clear hcz59_2
                try clear hcz65_0
                try clear hcz65_1
                try clear hcz65_2
                try clear hcz68_0
                try clear hcz68_1
                try clear hcz68_2
                try clear hcz70_0
                try clear hcz70_1
                try clear hcz70_2
                try clear hcz72_0
                try clear hcz72_1
                try clear hcz72_2
                try clear hcz75_0
                try clear hcz75_1
                try clear hcz75_2
                try clear hcz77_0
                try clear hcz77_1
                try clear hcz77_2
                try clear hcz9_0
                try clear hcz9_1
                try clear hcz9_2
                try clear hfz11_0
                try clear hfz11_1
                try clear hfz11_2
                try clear hfz13_0
                try clear hfz13_1
                try clear hfz13_2
                try clear hfz22_0
                try clear hfz22_1
                try clear hfz22_2
                try clear hfz26_0
                try clear hfz26_1
                try clear hfz26_2
                try clear hfz28_0
                try clear hfz28_1
                try clear hfz28_2
                try clear hfz30_0
                try clear hfz30_1
                try clear hfz30_2
                try clear hfz39_0
                try clear hfz39_1
                try clear hfz39_2
                try clear hfz41_0
                try clear hfz41_1
                try clear hfz41_2
                try clear hfz42_0
                try clear hfz42_1
                try clear hfz42_2
                try clear hfz45_0
                try clear hfz45_1
                try clear hfz45_2
                try clear hfz47_0
                try clear hfz47_1
                try clear hfz47_2
                try clear hfz48_0
                try clear hfz48_1
                try clear hfz48_2
                try clear hfz50_0
                try clear hfz50_1
                try clear hfz50_2
                try clear hfz57_0
                try clear hfz57_1
                try clear hfz57_2
                try clear hfz59_0
                try clear hfz59_1
                try clear hfz59_2
                try clear hfz65_0
                try clear hfz65_1
                try clear hfz65_2
                try clear hfz68_0
                try clear hfz68_1
                try clear hfz68_2
                try clear hfz70_0
                try clear hfz70_1
                try clear hfz70_2
                try clear hfz72_0
                try clear hfz72_1
                try clear hfz72_2
                try clear hfz75_0
                try clear hfz75_1
                try clear hfz75_2
                try clear hfz77_0
                try clear hfz77_1
                try clear hfz77_2
                try clear hfz9_0
                try clear hfz9_1
                try clear hfz9_2
                try clear p2
                obtain ⟨kq, x102_54, rfl, HA, HJ54, HO_437002, BK427, BK436, HB⟩ := hcut
                cases kq with
                | zero => exact absurd HA.out (by simp [l11_RollCompacts.j2])
                | succ kj54 =>
                  have H := HA.out
                  clear HA
                  simp only [l11_RollCompacts.j2] at H
                  by_cases c78 : x102_54 = true
                  · subst c78
                    have H1 : (some false) = some r := by rw [if_pos rfl] at H; exact H
                    clear H
                    have H := H1
                    clear H1
                    exact absurd (Option.some.inj (H.trans (congrArg some hr))) (by decide)
                  · replace c78 := Bool.eq_false_iff.mpr c78
                    subst c78
                    have H1 : (if a1 < a0_0 then (l11_RollCompacts.j3 kj54 a1 true a0_0 a0_1 l0_2 t431 t432 t433) else (l11_RollCompacts.j3 kj54 a1 (decide (a1 > t437)) a0_0 a0_1 l0_2 t431 t432 t433)) = some r := by rw [if_neg (show ¬ (false = true) by decide)] at H; exact H
                    clear H
                    have H := H1
                    clear H1
                    have HC79 := Az.mk H
                    clear H
                    go_upto_region 12 with (fail)
                    go_cut [111] (fun v111 wc => ∃ (kq : Nat) (x111_78 : Bool), v111 = .bool x111_78 ∧ Az (l11_RollCompacts.j3 kq a1 x111_78 a0_0 a0_1 l0_2 t431 t432 t433 = some r) ∧ Az (kq ≤ kj54) ∧ Az (Kd.V k54 54 wc w.heap.size (fun k_ => k_ ≠ gb427 ∧ k_ ≠ gb436) (.slice Ao27 t433.length co27) t433) ∧ Az (wc.heap[gb427]? = some (.cells #[.int .i64 a0_0, .int .i64 a0_1, (.slice A0_2 l0_2.length c0_2)] 24 (0, 0))) ∧ Az (wc.heap[gb436]? = some (.cells #[.int .i64 t431, .int .i64 t432, (.slice Ao27 t433.length co27)] 24 (0, 0))) ∧ Az (Below w.heap.size w wc))
                    case first =>
                      have H := HC79.out
                      clear HC79
                      by_cases c80 : a1 < a0_0
                      · rw [if_pos c80] at H
                        have c80b0 : decide (a1 < a0_0) = true := decide_eq_true c80
                        clear c80
                        (first | rw [c80b0] | (simp only [i64_w, i32_w]; rw [c80b0]) | skip)
                        have H' := Az.mk H
                        clear H
                        have hnb81 := NB427_436.out
                        have hnc81 := NB436_427.out
                        have hcz82_0 : wc.cell? ⟨gb427, 0, none⟩ = some (.int .i64 a0_0) := (bkC BK427.out 0).trans rfl
                        have hcz82_1 : wc.cell? ⟨gb427, 1, none⟩ = some (.int .i64 a0_1) := (bkC BK427.out 1).trans rfl
                        have hcz82_2 : wc.cell? ⟨gb427, 2, none⟩ = some (.slice A0_2 l0_2.length c0_2) := (bkC BK427.out 2).trans rfl
                        have hfz82_0 := bkF BK427.out 0
                        have hfz82_1 := bkF BK427.out 1
                        have hfz82_2 := bkF BK427.out 2
                        go_wp2
                        go_meet
                        case rel => exact ⟨_, (true), (by first | rfl | (simp; done) | (simp [*]; done)), H', ⟨by have := HJ3.out; have := HJ20.out; have := HJ54.out; first | omega | exact Nat.le_refl _⟩, ⟨by (with_reducible repeat (first | apply Kd.V_alloc | apply Kd.V_drewN | apply Kd.V_drew)); exact HO_437002.out⟩, ⟨by (with_reducible repeat (first | refine bkN ?_ _ | refine bkD ?_ | refine bkA ?_ _)); exact BK427.out⟩, ⟨by (with_reducible repeat (first | refine bkN ?_ _ | refine bkD ?_ | refine bkA ?_ _)); exact BK436.out⟩, ⟨by repeat (first | (with_reducible first | exact HB.out | apply pbA | apply pbN | apply pb1 | refine pbS ?_ GE427.out | refine pbS ?_ GE436.out) | exact HB.out)⟩⟩
                      · rw [if_neg c80] at H
                        have c80b0 : decide (a1 < a0_0) = false := decide_eq_false c80
                        clear c80
                        (first | rw [c80b0] | (simp only [i64_w, i32_w]; rw [c80b0]) | skip)
                        have H' := Az.mk H
                        clear H
                        have hnb83 := NB427_436.out
                        have hnc83 := NB436_427.out
                        have hcz84_0 : wc.cell? ⟨gb427, 0, none⟩ = some (.int .i64 a0_0) := (bkC BK427.out 0).trans rfl
                        have hcz84_1 : wc.cell? ⟨gb427, 1, none⟩ = some (.int .i64 a0_1) := (bkC BK427.out 1).trans rfl
                        have hcz84_2 : wc.cell? ⟨gb427, 2, none⟩ = some (.slice A0_2 l0_2.length c0_2) := (bkC BK427.out 2).trans rfl
                        have hfz84_0 := bkF BK427.out 0
                        have hfz84_1 := bkF BK427.out 1
                        have hfz84_2 := bkF BK427.out 2
                        go_wp2
                        go_meet
                        case rel => exact ⟨_, (decide (a1 > t437)), (by first | rfl | (simp; done) | (simp [*]; done)), H', ⟨by have := HJ3.out; have := HJ20.out; have := HJ54.out; first | omega | exact Nat.le_refl _⟩, ⟨by (with_reducible repeat (first | apply Kd.V_alloc | apply Kd.V_drewN | apply Kd.V_drew)); exact HO_437002.out⟩, ⟨by (with_reducible repeat (first | refine bkN ?_ _ | refine bkD ?_ | refine bkA ?_ _)); exact BK427.out⟩, ⟨by (with_reducible repeat (first | refine bkN ?_ _ | refine bkD ?_ | refine bkA ?_ _)); exact BK436.out⟩, ⟨by repeat (first | (with_reducible first | exact HB.out | apply pbA | apply pbN | apply pb1 | refine pbS ?_ GE427.out | refine pbS ?_ GE436.out) | exact HB.out)⟩⟩
                    case rest =>
                      clear HC79
                      try clear c1
                      try clear c2
                      try clear p2
                      try clear c3
                      try clear c4
                      try clear c5
                      try clear c6
                      try clear c7
                      try clear c8
                      try clear c9
                      try clear c15
                      try clear c21
                      try clear c23
                      try clear c24
                      try clear c25
                      try clear c32
                      try clear c32b0
                      try clear c32b1
                      try clear c33
                      try clear c33b0
                      try clear c33b1
                      try clear c36
                      try clear c36b0
                      try clear c36b1
                      try clear c37
                      try clear c37b0
                      try clear c38
                      try clear c44
                      try clear c49
                      try clear c52
                      try clear c56
                      try clear c61
                      try clear c61b0
                      try clear c62
                      try clear c62b0
                      try clear c62b1
                      try clear c63
                      try clear c63b0
                      try clear c63b1
                      try clear c63b2
                      try clear c64
                      try clear c66
                      try clear c66b0
                      try clear c67
                      try clear c69
                      try clear c71
                      try clear c73
                      try clear c73b0
                      try clear c74
                      try clear c76
                      try clear c78
                      try clear c80
                      try clear c80b0
                      try clear c81
                      try clear c83
                      try clear hcz11_0
                      try clear hcz11_1
                      try clear hcz11_2
                      try clear hcz13_0
                      try clear hcz13_1
                      try clear hcz13_2
                      try clear hcz22_0
                      try clear hcz22_1
                      try clear hcz22_2
                      try clear hcz26_0
                      try clear hcz26_1
                      try clear hcz26_2
                      try clear hcz28_0
                      try clear hcz28_1
                      try clear hcz28_2
                      try clear hcz30_0
                      try clear hcz30_1
                      try clear hcz30_2
                      try clear hcz39_0
                      try clear hcz39_1
                      try clear hcz39_2
                      try clear hcz41_0
                      try clear hcz41_1
                      try clear hcz41_2
                      try clear hcz42_0
                      try clear hcz42_1
                      try clear hcz42_2
                      try clear hcz45_0
                      try clear hcz45_1
                      try clear hcz45_2
                      try clear hcz47_0
                      try clear hcz47_1
                      try clear hcz47_2
                      try clear hcz48_0
                      try clear hcz48_1
                      try clear hcz48_2
                      try clear hcz50_0
                      try clear hcz50_1
                      try clear hcz50_2
                      try clear hcz57_0
                      try clear hcz57_1
                      try clear hcz57_2
                      try clear hcz59_0
                      try clear hcz59_1
                      try clear hcz59_2
                      try clear hcz65_0
                      try clear hcz65_1
                      try clear hcz65_2
                      try clear hcz68_0
                      try clear hcz68_1
                      try clear hcz68_2
                      try clear hcz70_0
                      try clear hcz70_1
                      try clear hcz70_2
                      try clear hcz72_0
                      try clear hcz72_1
                      try clear hcz72_2
                      try clear hcz75_0
                      try clear hcz75_1
                      try clear hcz75_2
                      try clear hcz77_0
                      try clear hcz77_1
                      try clear hcz77_2
                      try clear hcz82_0
                      try clear hcz82_1
                      try clear hcz82_2
                      try clear hcz84_0
                      try clear hcz84_1
                      try clear hcz84_2
                      try clear hcz9_0
                      try clear hcz9_1
                      try clear hcz9_2
                      try clear hfz11_0
                      try clear hfz11_1
                      try clear hfz11_2
                      try clear hfz13_0
                      try clear hfz13_1
                      try clear hfz13_2
                      try clear hfz22_0
                      try clear hfz22_1
                      try clear hfz22_2
                      try clear hfz26_0
                      try clear hfz26_1
                      try clear hfz26_2
                      try clear hfz28_0
                      try clear hfz28_1
                      try clear hfz28_2
                      try clear hfz30_0
                      try clear hfz30_1
                      try clear hfz30_2
                      try clear hfz39_0
                      try clear hfz39_1
                      try clear hfz39_2
                      try clear hfz41_0
                      try clear hfz41_1
                      try clear hfz41_2
                      try clear hfz42_0
                      try clear hfz42_1
                      try clear hfz42_2
                      try clear hfz45_0
                      try clear hfz45_1
                      try clear hfz45_2
                      try clear hfz47_0
                      try clear hfz47_1
                      try clear hfz47_2
                      try clear hfz48_0
                      try clear hfz48_1
                      try clear hfz48_2
                      try clear hfz50_0
                      try clear hfz50_1
                      try clear hfz50_2
                      try clear hfz57_0
                      try clear hfz57_1
                      try clear hfz57_2
                      try clear hfz59_0
                      try clear hfz59_1
                      try clear hfz59_2
                      try clear hfz65_0
                      try clear hfz65_1
                      try clear hfz65_2
                      try clear hfz68_0
                      try clear hfz68_1
                      try clear hfz68_2
                      try clear hfz70_0
                      try clear hfz70_1
                      try clear hfz70_2
                      try clear hfz72_0
                      try clear hfz72_1
                      try clear hfz72_2
                      try clear hfz75_0
                      try clear hfz75_1
                      try clear hfz75_2
                      try clear hfz77_0
                      try clear hfz77_1
                      try clear hfz77_2
                      try clear hfz82_0
                      try clear hfz82_1
                      try clear hfz82_2
                      try clear hfz84_0
                      try clear hfz84_1
                      try clear hfz84_2
                      try clear hfz9_0
                      try clear hfz9_1
                      try clear hfz9_2
                      try clear p2
                      obtain ⟨kq, x111_78, rfl, HA, HJ78, HO_437002, BK427, BK436, HB⟩ := hcut
                      cases kq with
                      | zero => exact absurd HA.out (by simp [l11_RollCompacts.j3])
                      | succ kj78 =>
                        have H := HA.out
                        clear HA
                        simp only [l11_RollCompacts.j3] at H
                        by_cases c85 : x111_78 = true
                        · subst c85
                          have H1 : ((r11_Same.f kj78 t431 t432 t433 a0_0 a0_1 l0_2).bind fun t447 => (if t447 = true then ((l11_live.f).bind fun t448 => (some t448)) else (some false))) = some r := by rw [if_pos rfl] at H; exact H
                          clear H
                          have H := H1
                          clear H1
                          replace H := Option.bind_eq_some_iff.mp H
                          obtain ⟨t447, A860, H⟩ := H
                          replace H : (if t447 = true then ((l11_live.f).bind fun t448 => (some t448)) else (some false)) = some r := H
                          have A86 := Az.mk A860
                          clear A860
                          by_cases c87 : t447 = true
                          · subst c87
                            have H1 : ((l11_live.f).bind fun t448 => (some t448)) = some r := by rw [if_pos rfl] at H; exact H
                            clear H
                            have H := H1
                            clear H1
                            replace H := Option.bind_eq_some_iff.mp H
                            obtain ⟨t448, A880, H⟩ := H
                            replace H : (some t448) = some r := H
                            have A88 := Az.mk A880
                            clear A880
                            obtain rfl := Option.some.inj H
                            have hnb89 := NB436_427.out
                            have hnc89 := NB427_436.out
                            have hcz90_0 : wc.cell? ⟨gb436, 0, none⟩ = some (.int .i64 t431) := (bkC BK436.out 0).trans rfl
                            have hcz90_1 : wc.cell? ⟨gb436, 1, none⟩ = some (.int .i64 t432) := (bkC BK436.out 1).trans rfl
                            have hcz90_2 : wc.cell? ⟨gb436, 2, none⟩ = some (.slice Ao27 t433.length co27) := (bkC BK436.out 2).trans rfl
                            have hfz90_0 := bkF BK436.out 0
                            have hfz90_1 := bkF BK436.out 1
                            have hfz90_2 := bkF BK436.out 2
                            have hcz91_0 : wc.cell? ⟨gb427, 0, none⟩ = some (.int .i64 a0_0) := (bkC BK427.out 0).trans rfl
                            have hcz91_1 : wc.cell? ⟨gb427, 1, none⟩ = some (.int .i64 a0_1) := (bkC BK427.out 1).trans rfl
                            have hcz91_2 : wc.cell? ⟨gb427, 2, none⟩ = some (.slice A0_2 l0_2.length c0_2) := (bkC BK427.out 2).trans rfl
                            have hfz91_0 := bkF BK427.out 0
                            have hfz91_1 := bkF BK427.out 1
                            have hfz91_2 := bkF BK427.out 2
                            go_wp2_with (first | ((with_reducible refine gtc (f := 18) rfl ?_); refine goesL_ (some 114) rfl rfl Tryd.func18 (by kernel_rfl) rfl #[.agg #[.int .i64 t431, .int .i64 t432, .slice Ao27 t433.length co27], .agg #[.int .i64 a0_0, .int .i64 a0_1, .slice A0_2 l0_2.length c0_2]] rfl (by (try simp only [List.map_toArray, List.map_cons, List.map_nil]); first | done | rfl | (simp only [List.length_drop, List.length_take]; rfl)) ?_; (with_reducible refine (r11_Same.calls kj78 t431 t432 _ _ t433 a0_0 a0_1 _ _ l0_2 true _ ?side1 ?side2 ?side3 ?side4 ?side5 A86.out).mono ?_); (case side1 => exact hG.below (by repeat (first | (with_reducible first | exact HB.out | apply pbA | apply pbN | apply pb1 | refine pbS ?_ GE427.out | refine pbS ?_ GE436.out) | exact HB.out))); (case side2 => repeat (first | exact (Kd.V_reads' HO_437002.out).2.2 | (with_reducible refine Kd.C_alloc ?_ _) | (with_reducible refine Kd.C_drewN ?_ _) | (with_reducible refine Kd.C_drew ?_))); (case side3 => exact (Kd.V_reads' HO_437002.out).2.1); (case side4 => repeat (first | exact (Kd.C_below HR0_2.out HB.out) | (with_reducible refine Kd.C_alloc ?_ _) | (with_reducible refine Kd.C_drewN ?_ _) | (with_reducible refine Kd.C_drew ?_))); (case side5 => exact HC0_2.out); rintro e w92 ⟨rfl, hb⟩; refine ⟨_, rfl, ?_⟩; have n0_ := Az.mk (Kd.V_below (by (with_reducible repeat (first | apply Kd.V_alloc | apply Kd.V_drewN | apply Kd.V_drew)); exact HO_437002.out) hb); have n1_ := Az.mk (bkB (g := gb427) (o := .cells #[.int .i64 a0_0, .int .i64 a0_1, .slice A0_2 l0_2.length c0_2] 24 (0, 0)) (by (with_reducible repeat (first | refine bkN ?_ _ | refine bkD ?_ | refine bkA ?_ _)); exact BK427.out) hb); have n2_ := Az.mk (bkB (g := gb436) (o := .cells #[.int .i64 t431, .int .i64 t432, .slice Ao27 t433.length co27] 24 (0, 0)) (by (with_reducible repeat (first | refine bkN ?_ _ | refine bkD ?_ | refine bkA ?_ _)); exact BK436.out) hb); have n3_ := Az.mk (pbT (by repeat (first | (with_reducible first | exact HB.out | apply pbA | apply pbN | apply pb1 | refine pbS ?_ GE427.out | refine pbS ?_ GE436.out) | exact HB.out)) hb); clear HO_437002; clear BK427; clear BK436; clear HB; have HO_437002 := n0_; have BK427 := n1_; have BK436 := n2_; have HB := n3_; clear n0_ n1_ n2_ n3_; (try clear hb); (try clear hb2); (try clear hk); (try clear hi)) | (go_at_call 9; (with_reducible refine (l11_live.calls  t448 _ ?side1 A88.out).mono ?_); (case side1 => exact hG.below (by repeat (first | (with_reducible first | exact HB.out | apply pbA | apply pbN | apply pb1 | refine pbS ?_ GE427.out | refine pbS ?_ GE436.out) | exact HB.out))); rintro e w93 ⟨rfl, hb⟩; have n0_ := Az.mk (Kd.V_below (by (with_reducible repeat (first | apply Kd.V_alloc | apply Kd.V_drewN | apply Kd.V_drew)); exact HO_437002.out) hb); have n1_ := Az.mk (bkB (g := gb427) (o := .cells #[.int .i64 a0_0, .int .i64 a0_1, .slice A0_2 l0_2.length c0_2] 24 (0, 0)) (by (with_reducible repeat (first | refine bkN ?_ _ | refine bkD ?_ | refine bkA ?_ _)); exact BK427.out) hb); have n2_ := Az.mk (bkB (g := gb436) (o := .cells #[.int .i64 t431, .int .i64 t432, .slice Ao27 t433.length co27] 24 (0, 0)) (by (with_reducible repeat (first | refine bkN ?_ _ | refine bkD ?_ | refine bkA ?_ _)); exact BK436.out) hb); have n3_ := Az.mk (pbT (by repeat (first | (with_reducible first | exact HB.out | apply pbA | apply pbN | apply pb1 | refine pbS ?_ GE427.out | refine pbS ?_ GE436.out) | exact HB.out)) hb); clear HO_437002; clear BK427; clear BK436; clear HB; have HO_437002 := n0_; have BK427 := n1_; have BK436 := n2_; have HB := n3_; clear n0_ n1_ n2_ n3_; (try clear hb); (try clear hb2); (try clear hk); (try clear hi)))
                            go_ret
                            exact ⟨by first | rfl | (simp [errW_none, errW_some] <;> rfl) | (simp [*, errW_none, errW_some] <;> rfl), by repeat (first | (with_reducible first | exact HB.out | apply pbA | apply pbN | apply pb1 | refine pbS ?_ GE427.out | refine pbS ?_ GE436.out) | exact HB.out)⟩
                          · replace c87 := Bool.eq_false_iff.mpr c87
                            subst c87
                            have H1 : (some false) = some r := by rw [if_neg (show ¬ (false = true) by decide)] at H; exact H
                            clear H
                            have H := H1
                            clear H1
                            exact absurd (Option.some.inj (H.trans (congrArg some hr))) (by decide)
                        · replace c85 := Bool.eq_false_iff.mpr c85
                          subst c85
                          have H1 : ((roll_Slice.f a0_0 a0_1 l0_2 (wrap64 (a1 + 1)) 1000).bind fun t449 => ((r11_Entries.f kj78 t449 t433).bind fun t452 => (if t452 = true then (if t431 = a1 then ((l11_live.f).bind fun t453 => (some t453)) else (some false)) else (some false)))) = some r := by rw [if_neg (show ¬ (false = true) by decide)] at H; exact H
                          clear H
                          have H := H1
                          clear H1
                          replace H := Option.bind_eq_some_iff.mp H
                          obtain ⟨t449, A940, H⟩ := H
                          replace H : ((r11_Entries.f kj78 t449 t433).bind fun t452 => (if t452 = true then (if t431 = a1 then ((l11_live.f).bind fun t453 => (some t453)) else (some false)) else (some false))) = some r := H
                          have A94 := Az.mk A940
                          clear A940
                          replace H := Option.bind_eq_some_iff.mp H
                          obtain ⟨t452, A950, H⟩ := H
                          replace H : (if t452 = true then (if t431 = a1 then ((l11_live.f).bind fun t453 => (some t453)) else (some false)) else (some false)) = some r := H
                          have A95 := Az.mk A950
                          clear A950
                          by_cases c96 : t452 = true
                          · subst c96
                            have H1 : (if t431 = a1 then ((l11_live.f).bind fun t453 => (some t453)) else (some false)) = some r := by rw [if_pos rfl] at H; exact H
                            clear H
                            have H := H1
                            clear H1
                            by_cases c97 : t431 = a1
                            · rw [if_pos c97] at H
                              have c97b0 : (t431 == a1) = true := beq_iff_eq.mpr c97
                              have c97b1 : (t431 != a1) = false := bne_eq_false_iff_eq.mpr c97
                              clear c97
                              replace H := Option.bind_eq_some_iff.mp H
                              obtain ⟨t453, A980, H⟩ := H
                              replace H : (some t453) = some r := H
                              have A98 := Az.mk A980
                              clear A980
                              obtain rfl := Option.some.inj H
                              try go_wp2
                              have n0_ := Az.mk (Kd.V_drew HO_437002.out)
                              have n1_ := Az.mk (bkD BK427.out)
                              have n2_ := Az.mk (bkD BK436.out)
                              have n3_ := Az.mk (pb1 HB.out)
                              clear HO_437002
                              clear BK427
                              clear BK436
                              clear HB
                              have HO_437002 := n0_
                              have BK427 := n1_
                              have BK436 := n2_
                              have HB := n3_
                              clear n0_ n1_ n2_ n3_
                              refine start_ (n := 17) (S := fun w' => w'.cell? ⟨gb427, 0, none⟩ = some (.int .i64 a0_0) ∧ w'.cell? ⟨gb427, 1, none⟩ = some (.int .i64 a0_1) ∧ w'.cell? ⟨gb427, 2, none⟩ = some (.slice A0_2 l0_2.length c0_2) ∧ w'.cell? ⟨gb436, 0, none⟩ = some (.int .i64 t431) ∧ w'.cell? ⟨gb436, 1, none⟩ = some (.int .i64 t432) ∧ w'.cell? ⟨gb436, 2, none⟩ = some (.slice Ao27 t433.length co27)) (ds := []) #[false, false, false, false, false, false, false, false, false, false, false, false, false, false, false, false, false] (by kernel_rfl) rfl rfl ⟨(bkC BK427.out 0).trans rfl, (bkC BK427.out 1).trans rfl, (bkC BK427.out 2).trans rfl, (bkC BK436.out 0).trans rfl, (bkC BK436.out 1).trans rfl, (bkC BK436.out 2).trans rfl⟩ (fun hHeld => ?_); refine with_tabW l11_RollCompacts.tab14 l11_RollCompacts.bits14 (fun HT_ HW_ => ?_)
                              generalize wc.drew = w99 at HO_437002 BK427 BK436 HB hHeld ⊢
                              refine pure_ (i := 1) (N := some 119) (v := ?_) (a' := ?_) #[false, true, false, false, false, false, false, false, false, false, false, false, false, false, false, false, false] rfl rfl (any_of HT_.out (by kernel_rfl)) (fun _ _ _ h => h) (Or.inl ⟨by rfl, ?_⟩) ?_ ?_
                              rotate_left
                              · intro w'
                                go_simp
                                with_reducible rfl
                              rotate_left
                              · simp only [Act.put, List.setIfInBounds_toArray, List.set_cons_zero, List.set_cons_succ, i64_w, i32_w]
                                rfl
                              refine pure_ (i := 2) (N := some 120) (v := ?_) (a' := ?_) #[false, true, true, false, false, false, false, false, false, false, false, false, false, false, false, false, false] rfl rfl (any_of HT_.out (by kernel_rfl)) (fun _ _ _ h => h) (Or.inl ⟨by rfl, ?_⟩) ?_ ?_
                              rotate_left
                              · intro w'
                                go_simp
                                with_reducible rfl
                              rotate_left
                              · simp only [Act.put, List.setIfInBounds_toArray, List.set_cons_zero, List.set_cons_succ, i64_w, i32_w]
                                rfl
                              refine pure_ (i := 4) (N := some 122) (v := ?_) (a' := ?_) #[false, true, true, false, true, false, false, false, false, false, false, false, false, false, false, false, false] rfl rfl (any_of HT_.out (by kernel_rfl)) (fun _ _ _ h => h) (Or.inl ⟨by rfl, ?_⟩) ?_ ?_
                              rotate_left
                              · intro w'
                                go_simp
                                with_reducible rfl
                              rotate_left
                              · simp only [Act.put, List.setIfInBounds_toArray, List.set_cons_zero, List.set_cons_succ, i64_w, i32_w]
                                rfl
                              refine take_ (i := 0) (N := some 118) (v := ?_) (a' := ?_) #[true, true, true, false, true, false, false, false, false, false, false, false, false, false, false, false, false] rfl rfl (take_ofW HT_.out HW_.out (by kernel_rfl)) (fun _ _ _ h => h) (Or.inl ⟨by rfl, ?_⟩) hHeld ?_ ?_
                              rotate_left
                              · rintro w' ⟨s0, s1, s2, s3, s4, s5⟩
                                go_simp
                                with_reducible rfl
                              rotate_left
                              · simp only [Act.put, List.setIfInBounds_toArray, List.set_cons_zero, List.set_cons_succ, i64_w, i32_w]
                                rfl
                              refine take_ (i := 5) (N := some 123) (v := ?_) (a' := ?_) #[true, true, true, false, true, true, false, false, false, false, false, false, false, false, false, false, false] rfl rfl (take_ofW HT_.out HW_.out (by kernel_rfl)) (fun _ _ _ h => h) (Or.inl ⟨by rfl, ?_⟩) hHeld ?_ ?_
                              rotate_left
                              · rintro w' ⟨s0, s1, s2, s3, s4, s5⟩
                                go_simp
                                with_reducible rfl
                              rotate_left
                              · simp only [Act.put, List.setIfInBounds_toArray, List.set_cons_zero, List.set_cons_succ, i64_w, i32_w]
                                rfl
                              refine one_ (i := 3) (N := some 121) #[true, true, true, true, true, true, false, false, false, false, false, false, false, false, false, false, false] rfl rfl (one_of HT_.out (by kernel_rfl)) (by decide) (fun K hK => ?_)
                              refine goes_ Tryd.func26 (by kernel_rfl) rfl #[.agg #[.int .i64 a0_0, .int .i64 a0_1, .slice A0_2 l0_2.length c0_2], .int .i64 (wrap64 (a1 + 1)), .int .i64 1000] (by rfl) rfl rfl (by (try simp only [List.map_toArray, List.map_cons, List.map_nil]); first | done | rfl | (simp only [List.length_drop, List.length_take]; rfl)) ?_
                              with_reducible refine (roll_Slice.calls a0_0 a0_1 _ _ l0_2 (wrap64 (a1 + 1)) 1000 t449 _ ?side1 ?side2 ?side3 A94.out).mono ?_
                              (case side1 => exact hG.below (by repeat (first | (with_reducible first | exact HB.out | apply pbA | apply pbN | apply pb1 | refine pbS ?_ GE427.out | refine pbS ?_ GE436.out) | exact HB.out)))
                              (case side2 => repeat (first | exact (Kd.C_below HR0_2.out HB.out) | (with_reducible refine Kd.C_alloc ?_ _) | (with_reducible refine Kd.C_drewN ?_ _) | (with_reducible refine Kd.C_drew ?_)))
                              (case side3 => exact HC0_2.out)
                              rintro e w100 ⟨v450, rfl, ho0, hb⟩
                              refine ⟨_, rfl, ?_⟩
                              have n0_ := Az.mk (Kd.V_elder' (by (with_reducible repeat (first | apply Kd.V_alloc | apply Kd.V_drewN | apply Kd.V_drew)); exact HO_437002.out) (Kd.R_base ho0) hb)
                              have n1_ := Az.mk (Kd.R_lower ho0 (pbZ (by repeat (first | (with_reducible first | exact HB.out | apply pbA | apply pbN | apply pb1 | refine pbS ?_ GE427.out | refine pbS ?_ GE436.out) | exact HB.out))))
                              have n2_ := Az.mk (bkB (g := gb427) (o := .cells #[.int .i64 a0_0, .int .i64 a0_1, .slice A0_2 l0_2.length c0_2] 24 (0, 0)) (by (with_reducible repeat (first | refine bkN ?_ _ | refine bkD ?_ | refine bkA ?_ _)); exact BK427.out) hb)
                              have n3_ := Az.mk (bkB (g := gb436) (o := .cells #[.int .i64 t431, .int .i64 t432, .slice Ao27 t433.length co27] 24 (0, 0)) (by (with_reducible repeat (first | refine bkN ?_ _ | refine bkD ?_ | refine bkA ?_ _)); exact BK436.out) hb)
                              have n4_ := Az.mk (pbT (by repeat (first | (with_reducible first | exact HB.out | apply pbA | apply pbN | apply pb1 | refine pbS ?_ GE427.out | refine pbS ?_ GE436.out) | exact HB.out)) hb)
                              clear HO_437002
                              clear BK427
                              clear BK436
                              clear HB
                              have HO_437002 := n0_
                              have HO451 := n1_
                              have BK427 := n2_
                              have BK436 := n3_
                              have HB := n4_
                              clear n0_ n1_ n2_ n3_ n4_
                              (try clear hb)
                              (try clear hb2)
                              (try clear hk)
                              (try clear hi)
                              (try clear ho0)
                              obtain ⟨Ao101, co101, eo101⟩ := Kd.R_slice HO451.out
                              (first | subst eo101 | (injection eo101 with f1_ f2_ f3_; have f4_ := f1_.symm; have f5_ := f3_.symm; clear f1_ f2_ f3_; subst f4_; subst f5_))
                              refine hK.out _ _ ⟨(bkC BK427.out 0).trans rfl, (bkC BK427.out 1).trans rfl, (bkC BK427.out 2).trans rfl, (bkC BK436.out 0).trans rfl, (bkC BK436.out 1).trans rfl, (bkC BK436.out 2).trans rfl⟩ (fun hHeld => ?_)
                              clear hK K
                              refine norm_ (a' := ?_) ?_ ?_
                              rotate_left
                              · show Act.put _ (some 121) _ = _
                                simp only [Act.put, List.setIfInBounds_toArray, List.set_cons_zero, List.set_cons_succ, i64_w, i32_w]
                                rfl
                              refine one_ (i := 6) (N := some 124) #[true, true, true, true, true, true, true, false, false, false, false, false, false, false, false, false, false] rfl rfl (one_of HT_.out (by kernel_rfl)) (by decide) (fun K hK => ?_)
                              refine goes_ Tryd.func25 (by kernel_rfl) rfl #[.slice Ao101 t449.length co101, .slice Ao27 t433.length co27] (by rfl) rfl rfl (by (try simp only [List.map_toArray, List.map_cons, List.map_nil]); first | done | rfl | (simp only [List.length_drop, List.length_take]; rfl)) ?_
                              with_reducible refine (r11_Entries.calls kj78 _ _ t449 _ _ t433 true _ ?side1 ?side2 ?side3 ?side4 ?side5 A95.out).mono ?_
                              (case side1 => exact hG.below (by repeat (first | (with_reducible first | exact HB.out | apply pbA | apply pbN | apply pb1 | refine pbS ?_ GE427.out | refine pbS ?_ GE436.out) | exact HB.out)))
                              (case side2 => repeat (first | exact (Kd.R_reads' HO451.out).2.2 | (with_reducible refine Kd.C_alloc ?_ _) | (with_reducible refine Kd.C_drewN ?_ _) | (with_reducible refine Kd.C_drew ?_)))
                              (case side3 => exact (Kd.R_reads' HO451.out).2.1)
                              (case side4 => repeat (first | exact (Kd.V_reads' HO_437002.out).2.2 | (with_reducible refine Kd.C_alloc ?_ _) | (with_reducible refine Kd.C_drewN ?_ _) | (with_reducible refine Kd.C_drew ?_)))
                              (case side5 => exact (Kd.V_reads' HO_437002.out).2.1)
                              rintro e w' ⟨rfl, ⟨nd, rfl⟩⟩
                              refine ⟨_, rfl, ?_⟩
                              refine hK.out _ _ ⟨(bkC BK427.out 0).trans rfl, (bkC BK427.out 1).trans rfl, (bkC BK427.out 2).trans rfl, (bkC BK436.out 0).trans rfl, (bkC BK436.out 1).trans rfl, (bkC BK436.out 2).trans rfl⟩ (fun hHeld => ?_)
                              clear hK K
                              refine norm_ (a' := ?_) ?_ ?_
                              rotate_left
                              · show Act.put _ (some 124) _ = _
                                simp only [Act.put, List.setIfInBounds_toArray, List.set_cons_zero, List.set_cons_succ, i64_w, i32_w]
                                rfl
                              refine pure_ (i := 7) (N := some 125) (v := ?_) (a' := ?_) #[true, true, true, true, true, true, true, true, false, false, false, false, false, false, false, false, false] rfl rfl (any_of HT_.out (by kernel_rfl)) (fun _ _ _ h => h) (Or.inl ⟨by rfl, ?_⟩) ?_ ?_
                              rotate_left
                              · intro w'
                                go_simp
                                with_reducible rfl
                              rotate_left
                              · simp only [Act.put, List.setIfInBounds_toArray, List.set_cons_zero, List.set_cons_succ, i64_w, i32_w]
                                rfl
                              refine pure_ (i := 8) (N := some 126) (v := ?_) (a' := ?_) #[true, true, true, true, true, true, true, true, true, false, false, false, false, false, false, false, false] rfl rfl (any_of HT_.out (by kernel_rfl)) (fun _ _ _ h => h) (Or.inl ⟨by rfl, ?_⟩) ?_ ?_
                              rotate_left
                              · intro w'
                                go_simp
                                with_reducible rfl
                              rotate_left
                              · simp only [Act.put, List.setIfInBounds_toArray, List.set_cons_zero, List.set_cons_succ, i64_w, i32_w]
                                rfl
                              refine pure_ (i := 10) (N := some 128) (v := ?_) (a' := ?_) #[true, true, true, true, true, true, true, true, true, false, true, false, false, false, false, false, false] rfl rfl (any_of HT_.out (by kernel_rfl)) (fun _ _ _ h => h) (Or.inl ⟨by rfl, ?_⟩) ?_ ?_
                              rotate_left
                              · intro w'
                                go_simp
                                with_reducible rfl
                              rotate_left
                              · simp only [Act.put, List.setIfInBounds_toArray, List.set_cons_zero, List.set_cons_succ, i64_w, i32_w]
                                rfl
                              refine take_ (i := 9) (N := some 127) (v := ?_) (a' := ?_) #[true, true, true, true, true, true, true, true, true, true, true, false, false, false, false, false, false] rfl rfl (take_ofW HT_.out HW_.out (by kernel_rfl)) (fun _ _ _ h => h) (Or.inl ⟨by rfl, ?_⟩) hHeld ?_ ?_
                              rotate_left
                              · rintro w' ⟨s0, s1, s2, s3, s4, s5⟩
                                go_simp
                                with_reducible rfl
                              rotate_left
                              · simp only [Act.put, List.setIfInBounds_toArray, List.set_cons_zero, List.set_cons_succ, i64_w, i32_w]
                                rfl
                              refine pure_ (i := 11) (N := some 129) (v := ?_) (a' := ?_) #[true, true, true, true, true, true, true, true, true, true, true, true, false, false, false, false, false] rfl rfl (any_of HT_.out (by kernel_rfl)) (fun _ _ _ h => h) (Or.inl ⟨by rfl, ?_⟩) ?_ ?_
                              rotate_left
                              · intro w'
                                go_simp
                                with_reducible rfl
                              rotate_left
                              · simp only [Act.put, List.setIfInBounds_toArray, List.set_cons_zero, List.set_cons_succ, i64_w, i32_w]
                                rfl
                              refine pure_ (i := 12) (N := some 130) (v := ?_) (a' := ?_) #[true, true, true, true, true, true, true, true, true, true, true, true, true, false, false, false, false] rfl rfl (any_of HT_.out (by kernel_rfl)) (fun _ _ _ h => h) (Or.inl ⟨by rfl, ?_⟩) ?_ ?_
                              rotate_left
                              · intro w'
                                go_simp
                                with_reducible rfl
                              rotate_left
                              · simp only [Act.put, List.setIfInBounds_toArray, List.set_cons_zero, List.set_cons_succ, i64_w, i32_w]
                                rfl
                              refine pure_ (i := 13) (N := some 131) (v := ?_) (a' := ?_) #[true, true, true, true, true, true, true, true, true, true, true, true, true, true, false, false, false] rfl rfl (any_of HT_.out (by kernel_rfl)) (fun _ _ _ h => h) (Or.inl ⟨by rfl, ?_⟩) ?_ ?_
                              rotate_left
                              · intro w'
                                go_simp
                                with_reducible rfl
                              rotate_left
                              · simp only [Act.put, List.setIfInBounds_toArray, List.set_cons_zero, List.set_cons_succ, i64_w, i32_w]
                                rfl
                              refine one_ (i := 14) (N := some 132) #[true, true, true, true, true, true, true, true, true, true, true, true, true, true, true, false, false] rfl rfl (one_of HT_.out (by kernel_rfl)) (by decide) (fun K hK => ?_)
                              refine goes_ Tryd.func9 (by kernel_rfl) rfl #[] (by rfl) rfl rfl (by (try simp only [List.map_toArray, List.map_cons, List.map_nil]); first | done | rfl | (simp only [List.length_drop, List.length_take]; rfl)) ?_
                              with_reducible refine (l11_live.calls  t453 _ ?side1 A98.out).mono ?_
                              (case side1 => exact hG.below (by repeat (first | (with_reducible first | exact HB.out | apply pbA | apply pbN | apply pb1 | refine pbS ?_ GE427.out | refine pbS ?_ GE436.out) | exact HB.out)))
                              rintro e w102 ⟨rfl, hb⟩
                              refine ⟨_, rfl, ?_⟩
                              have n0_ := Az.mk (Kd.V_below (by (with_reducible repeat (first | apply Kd.V_alloc | apply Kd.V_drewN | apply Kd.V_drew)); exact HO_437002.out) hb)
                              have n1_ := Az.mk (Kd.R_below (by (with_reducible repeat (first | apply Kd.R_alloc | apply Kd.R_drewN | apply Kd.R_drew)); exact HO451.out) hb)
                              have n2_ := Az.mk (bkB (g := gb427) (o := .cells #[.int .i64 a0_0, .int .i64 a0_1, .slice A0_2 l0_2.length c0_2] 24 (0, 0)) (by (with_reducible repeat (first | refine bkN ?_ _ | refine bkD ?_ | refine bkA ?_ _)); exact BK427.out) hb)
                              have n3_ := Az.mk (bkB (g := gb436) (o := .cells #[.int .i64 t431, .int .i64 t432, .slice Ao27 t433.length co27] 24 (0, 0)) (by (with_reducible repeat (first | refine bkN ?_ _ | refine bkD ?_ | refine bkA ?_ _)); exact BK436.out) hb)
                              have n4_ := Az.mk (pbT (by repeat (first | (with_reducible first | exact HB.out | apply pbA | apply pbN | apply pb1 | refine pbS ?_ GE427.out | refine pbS ?_ GE436.out) | exact HB.out)) hb)
                              clear HO_437002
                              clear HO451
                              clear BK427
                              clear BK436
                              clear HB
                              have HO_437002 := n0_
                              have HO451 := n1_
                              have BK427 := n2_
                              have BK436 := n3_
                              have HB := n4_
                              clear n0_ n1_ n2_ n3_ n4_
                              (try clear hb)
                              (try clear hb2)
                              (try clear hk)
                              (try clear hi)
                              refine hK.out _ _ ⟨(bkC BK427.out 0).trans rfl, (bkC BK427.out 1).trans rfl, (bkC BK427.out 2).trans rfl, (bkC BK436.out 0).trans rfl, (bkC BK436.out 1).trans rfl, (bkC BK436.out 2).trans rfl⟩ (fun hHeld => ?_)
                              clear hK K
                              refine norm_ (a' := ?_) ?_ ?_
                              rotate_left
                              · show Act.put _ (some 132) _ = _
                                simp only [Act.put, List.setIfInBounds_toArray, List.set_cons_zero, List.set_cons_succ, i64_w, i32_w]
                                rfl
                              refine pure_ (i := 15) (N := some 133) (v := ?_) (a' := ?_) #[true, true, true, true, true, true, true, true, true, true, true, true, true, true, true, true, false] rfl rfl (any_of HT_.out (by kernel_rfl)) (fun _ _ _ h => h) (Or.inl ⟨by rfl, ?_⟩) ?_ ?_
                              rotate_left
                              · intro w'
                                go_simp
                                with_reducible rfl
                              rotate_left
                              · simp only [Act.put, List.setIfInBounds_toArray, List.set_cons_zero, List.set_cons_succ, i64_w, i32_w]
                                rfl
                              refine pure_ (i := 16) (N := some 6) (v := ?_) (a' := ?_) #[true, true, true, true, true, true, true, true, true, true, true, true, true, true, true, true, true] rfl rfl (any_of HT_.out (by kernel_rfl)) (fun _ _ _ h => h) (Or.inl ⟨by rfl, ?_⟩) ?_ ?_
                              rotate_left
                              · intro w'
                                go_simp
                                with_reducible rfl
                              rotate_left
                              · simp only [Act.put, List.setIfInBounds_toArray, List.set_cons_zero, List.set_cons_succ, i64_w, i32_w]
                                rfl
                              refine done_ (done_of HT_.out (by kernel_rfl)) ?_
                              try go_wp2
                              go_ret
                              exact ⟨by first | rfl | (simp [errW_none, errW_some] <;> rfl) | (simp [*, errW_none, errW_some] <;> rfl), by repeat (first | (with_reducible first | exact HB.out | apply pbA | apply pbN | apply pb1 | refine pbS ?_ GE427.out | refine pbS ?_ GE436.out) | exact HB.out)⟩
                            · rw [if_neg c97] at H
                              have c97b0 : (t431 == a1) = false := beq_eq_false_iff_ne.mpr c97
                              have c97b1 : (t431 != a1) = true := bne_iff_ne.mpr c97
                              exact absurd (Option.some.inj (H.trans (congrArg some hr))) (by decide)
                          · replace c96 := Bool.eq_false_iff.mpr c96
                            subst c96
                            have H1 : (some false) = some r := by rw [if_neg (show ¬ (false = true) by decide)] at H; exact H
                            clear H
                            have H := H1
                            clear H1
                            exact absurd (Option.some.inj (H.trans (congrArg some hr))) (by decide)
end Go.Proofs.YtjpihfjgomoijaaDoor.P
end
section
/- RollCompacts, the plain law. -/
namespace Go.Proofs.YtjpihfjgomoijaaDoor.U
open Go.RowKit Go.Proofs.YtjpihfjgomoijaaDoorW.PrintWords Go.Proofs.YtjpihfjgomoijaaDoorW.PrintLast Go.Proofs.YtjpihfjgomoijaaDoorW.PrintMore Go.Proofs.YtjpihfjgomoijaaDoor.P Go.Proofs.YtjpihfjgomoijaaDoor.K Go.Proofs.YtjpihfjgomoijaaDoor.A Go.Proofs.YtjpihfjgomoijaaDoor.V
theorem mx_ge {a b c : Int} (h : c ≤ a ∨ c ≤ b) : ¬ c > mx a b := by unfold mx; split <;> omega
theorem RollCompacts : ∀ (a0_0 : Int), (Lit.int .i64 a0_0).wf = true → ∀ (a0_1 : Int), (Lit.int .i64 a0_1).wf = true → ∀ (l0_2 : List S54), (l0_2.length * 24 ≤ reachBytes ∧ l0_2.length ≤ maxLen ∧ ∀ x ∈ l0_2, ((Lit.int .i64 x.f0).wf = true ∧ x.f1.size ≤ reachBytes)) → ∀ (a1 : Int), (Lit.int .i64 a1).wf = true → ∀ (a2 : Int), (Lit.int .i64 a2).wf = true → ∃ k, l11_RollCompacts.f k a0_0 a0_1 l0_2 a1 a2 = some true := by
  intro b _ bt _ l ⟨hl1, _, hl3⟩ q hq0 i hi0
  have hreach : reachBytes = 140737488351232 := rfl
  have hi := isI_wf hi0
  have hq := isI_wf hq0
  refine Ev.rounds ?_
  have hbad : Ev (fun k => l11_RollCompacts.j0 k q i true b bt l) true := by
    refine Ev.shift ?_
    simp only [l11_RollCompacts.j0, l11_live.f, if_true, Option.bind_some]
    exact Ev.now _
  refine Ev.bind (small_ev b bt l (fun x hx => (hl3 x hx).2) (by omega)) ?_
  refine Ev.ite (fun hsm => ?_) (fun _ => hbad)
  obtain ⟨h1, h2⟩ := smallG_true hsm
  refine Ev.bind (is_ev b bt l (by omega)) ?_
  cases hok : okR b bt l with
  | false => exact hbad
  | true =>
    have hb : 0 ≤ b ∧ b ≤ 1099511627776 := by have := (okR_iff.1 hok).1; omega
    have hl : l.length ≤ 1000000000 := by omega
    obtain ⟨c, ct, lc, e, okc, f1, f2, f3, f4, f5, f6, f7, f8⟩ := compactR_facts hok q
    have hc : 0 ≤ c ∧ c ≤ 1099511627776 := by have := (okR_iff.1 okc).1; omega
    have hlc : lc.length ≤ 1000000000 := by omega
    have hlast : lastT c ct lc = lastT b bt l := by unfold V.lastT; rw [f5 _ (by omega), f3]
    refine Ev.shift ?_
    simp only [l11_RollCompacts.j0]
    refine Ev.ite (fun h => absurd h (by simp)) (fun _ => ?_)
    have hce := compact_ev (bt := bt) hb hl hq
    rw [e] at hce
    refine Ev.bind hce (Ev.bind (last_ev hb hl) (Ev.bind (last_ev hc hlc) ?_))
    refine Ev.ite (fun _ => ?_) (fun h => absurd f3.symm h)
    refine Ev.ite (fun _ => ?_) (fun h => absurd hlast.symm h)
    refine Ev.bind (check_ev c ct lc (by omega) ⟨by omega, by omega⟩) ?_
    rw [if_pos okc]
    simp only [l11_num.f, Option.bind_some, if_true]
    refine Ev.ite (fun h => absurd h (by omega)) (fun _ => ?_)
    have hmx : decide (c > mx q b) = false := decide_eq_false (mx_ge f2)
    rw [hmx]
    refine Ev.shift ?_
    simp only [l11_RollCompacts.j1]
    refine Ev.ite (fun h => absurd h (by simp)) (fun _ => ?_)
    refine Ev.bind (term_ev hb.1 hl hi) (Ev.bind (term_ev hc.1 hlc hi) ?_)
    have hj2 : Ev (fun k => l11_RollCompacts.j2 k q (b + l.length) false b bt l c ct lc) true := by
      have hsame : (q < b ∨ b + l.length < q) → Ev (fun k => l11_RollCompacts.j3 k q true b bt l c ct lc) true := by
        intro h
        have h8 := f8 h
        simp only [Prod.mk.injEq] at h8
        obtain ⟨rfl, rfl, rfl⟩ := h8
        refine Ev.shift ?_
        simp only [l11_RollCompacts.j3, if_true]
        refine Ev.bind (same_ev _ _ _ _ _ _ (by omega)) ?_
        refine Ev.ite (fun _ => ?_) (fun h => absurd (by simp) h)
        simp only [l11_live.f, Option.bind_some]
        exact Ev.now _
      refine Ev.shift ?_
      simp only [l11_RollCompacts.j2]
      refine Ev.ite (fun h => absurd h (by simp)) (fun _ => Ev.ite (fun h => hsame (.inl h)) (fun h => ?_))
      by_cases h9 : q > b + l.length
      · rw [decide_eq_true h9]; exact hsame (.inr (by omega))
      · rw [decide_eq_false h9]
        obtain ⟨rfl, rfl⟩ := f7 (by omega) (by omega)
        have hw : wrap64 (c + 1) = c + 1 := wrap_in (by omega) (by omega)
        have hs : sliceR b l (c + 1) 1000 = l.drop (c - b).toNat := by
          unfold sliceR
          rw [show (c + 1 - (b + 1)).toNat = (c - b).toNat by omega]
          exact List.take_of_length_le (by rw [List.length_drop]; omega)
        refine Ev.shift ?_
        simp only [l11_RollCompacts.j3, hw, slice_eq (bt := bt) (q := 1000) hb hl (show isI (c + 1) from ⟨by omega, by omega⟩), Option.bind_some, hs]
        refine Ev.ite (fun h => absurd h (by simp)) (fun _ => ?_)
        refine Ev.bind (entries_ev _ _ (by omega)) ?_
        refine Ev.ite (fun _ => ?_) (fun h => absurd (by simp) h)
        refine Ev.ite (fun _ => ?_) (fun h => absurd trivial h)
        simp only [l11_live.f, Option.bind_some]
        exact Ev.now _
    refine Ev.ite (fun g1 => Ev.ite (fun g2 => Ev.ite (fun g3 => ?_) (fun _ => Ev.ite (fun g4 => absurd g4 (by omega)) (fun _ => hj2))) (fun g2 => ?_)) (fun g1 => Ev.ite (fun g2 => ?_) (fun g2 => absurd g2 (by omega)))
    · rw [f5 i (by omega)] at g3; simp at g3
    · exact absurd (by rw [f5 i (by omega)]) g2
    · rw [f6 i (by omega)]; exact hj2
end Go.Proofs.YtjpihfjgomoijaaDoor.U
end
section
/- furlong/furlonglaw11.RollCompacts answers true at every input: the row and the tied card, out of its walk and of the plain law. -/
namespace Go.Proofs.YtjpihfjgomoijaaDoor.rollCompacts
open Go.ChangeShapes Go.WideShapes Go.ChangeAt Go.RowKit Go.Proofs.YtjpihfjgomoijaaDoor.K
open Go.ChangeMaps (open_string shut_string)
open Go.RowKit Go.Proofs.YtjpihfjgomoijaaDoorW.PrintWords Go.Proofs.YtjpihfjgomoijaaDoorW.PrintLast Go.Proofs.YtjpihfjgomoijaaDoorW.PrintMore Go.Proofs.YtjpihfjgomoijaaDoor.P Go.Proofs.YtjpihfjgomoijaaDoor.K Go.Proofs.YtjpihfjgomoijaaDoor.A Go.Proofs.YtjpihfjgomoijaaDoor.V
set_option maxRecDepth 100000 in
theorem opn54 : O.Opn Tryd.prog 54 P.k54 (fun x => ((Lit.int .i64 x.f0).wf = true ∧ x.f1.size ≤ reachBytes)) := O.Opn.iso (fun y => ⟨y.1, y.2⟩) (fun _ => rfl) (O.Opn.struct Tryd.underlying54 (by kernel_rfl) (O.OpnF.cons rfl (by kernel_rfl) (O.Opn.int Tryd.underlying2) (O.OpnF.one rfl (by kernel_rfl) (O.Opn.string Tryd.underlying9))))
theorem fl54 : K.Flat P.k54 := by
  intro w w' x c h
  obtain rfl := P.k54_open h
  exact P.k54_mk w' x
set_option maxRecDepth 100000 in
theorem contract (H : Type) (enc : TypeId × Value → H) (W : World) (base : Nat) (args : Array Value) (ds gs : List (DataW H)) (before : List MemPlace)
    (hval0 : ∀ (j : Nat) t v, Tryd.f6.params[j]? = some t → args[j]? = some v → Value.okWide Tryd.prog W .any base t v)
    (hW : DataW.Whole enc Tryd.prog Tryd.f6.params.toList Rows.rollCompactsSpec.vars false W args.toList ds gs before) (hG : TheG W)
    (hsz0 : (DataW.weightsEach Tryd.prog (Tryd.f6.params.toList ++ Rows.rollCompactsSpec.plain.varTypes Tryd.prog) (ds ++ gs)).all (· ≤ reachBytes) = true) :
    Calls Tryd.prog 6 args W fun e W' => ∃ v, e = .returned v ∧ Rows.rollCompactsSpec.post enc Tryd.prog Tryd.f6 false true false false W args v W' := by
  have hsz : (DataW.weightsEach Tryd.prog (Tryd.f6.params.toList ++ Rows.rollCompactsSpec.plain.varTypes Tryd.prog) (ds ++ gs)).all (· ≤ reachBytes) = true := hsz0
  have hval : ∀ (j : Nat) t v, Tryd.f6.params[j]? = some t → args[j]? = some v → Value.okWide Tryd.prog W .any base t v := hval0
  have hW' := hW
  obtain ⟨p, q, hA0, hV, rfl, hfz, hnd⟩ := hW
  have hA : DataW.TrodAll enc Tryd.prog W 0 (fun _ => true) true Tryd.f6.params.toList args.toList ds p := hA0
  rw [Tryd.params6] at hA hval hsz
  obtain ⟨v0, vs0, d0, ds0, p0, q0, hargs, rfl, rfl, h0, r0⟩ := trodAll_cons hA
  obtain ⟨v1, vs1, d1, ds1, p1, q1, rfl, rfl, rfl, h1, r1⟩ := trodAll_cons r0
  obtain ⟨v2, vs2, d2, ds2, p2, q2, rfl, rfl, rfl, h2, r2⟩ := trodAll_cons r1
  obtain ⟨rfl, rfl, rfl⟩ := trodAll_nil r2
  obtain rfl : args = #[v0, v1, v2] := by cases args; simp_all
  obtain ⟨rfl, rfl⟩ := trodVars_none hV
  have k0 := h0
  have lt0 : ∀ x ∈ p0, x.block < W.heap.size := by obtain ⟨m, hm⟩ := k0; exact DataW.trod_lt m _ _ _ hm
  have wt0 : ∀ n ∈ DataW.weights Tryd.prog 24 d0, n ≤ reachBytes := fun n hn => of_decide_eq_true (List.all_eq_true.1 hsz n (DataW.weights_mem_each (j := 0) rfl rfl n hn))
  obtain ⟨cs0, rfl, _⟩ := okWide_struct Tryd.underlying24 (hval 0 24 v0 rfl rfl)
  obtain ⟨fu0, hf0⟩ := h0
  obtain ⟨s0, hK0, hok0⟩ := (O.Opn.struct Tryd.underlying24 (by kernel_rfl) (O.OpnF.cons rfl (by kernel_rfl) (O.Opn.int Tryd.underlying2) (O.OpnF.cons rfl (by kernel_rfl) (O.Opn.int Tryd.underlying2) (O.OpnF.one rfl (by kernel_rfl) (O.Opn.slice Tryd.underlying22 (by kernel_rfl) (by kernel_rfl) opn54))))) H enc W _ _ _ _ _ _ _ hf0 wt0
  obtain ⟨a0_0, a0_1, l0_2⟩ := s0
  obtain ⟨o0_0, o0_1, o0_2⟩ := hok0
  obtain ⟨_, _, hcs0, rfl, _, _, rfl, rfl, A0_2, c0_2, rfl, hc0_2, hr0_2⟩ := hK0
  obtain rfl : cs0 = #[.int .i64 a0_0, .int .i64 a0_1, .slice A0_2 l0_2.length c0_2] := Array.toList_inj.1 (show cs0.toList = [.int .i64 a0_0, .int .i64 a0_1, .slice A0_2 l0_2.length c0_2] from hcs0)
  have k1 := h1
  have lt1 : ∀ x ∈ p1, x.block < W.heap.size := by obtain ⟨m, hm⟩ := k1; exact DataW.trod_lt m _ _ _ hm
  have wt1 : ∀ n ∈ DataW.weights Tryd.prog 2 d1, n ≤ reachBytes := fun n hn => of_decide_eq_true (List.all_eq_true.1 hsz n (DataW.weights_mem_each (j := 1) rfl rfl n hn))
  obtain ⟨a1, rfl, rfl, rfl, w1⟩ := open_int Tryd.underlying2 (hval 1 2 v1 rfl rfl) h1
  have k2 := h2
  have lt2 : ∀ x ∈ p2, x.block < W.heap.size := by obtain ⟨m, hm⟩ := k2; exact DataW.trod_lt m _ _ _ hm
  have wt2 : ∀ n ∈ DataW.weights Tryd.prog 2 d2, n ≤ reachBytes := fun n hn => of_decide_eq_true (List.all_eq_true.1 hsz n (DataW.weights_mem_each (j := 2) rfl rfl n hn))
  obtain ⟨a2, rfl, rfl, rfl, w2⟩ := open_int Tryd.underlying2 (hval 2 2 v2 rfl rfl) h2
  obtain ⟨k, hp⟩ := U.RollCompacts a0_0 o0_0 a0_1 o0_1 l0_2 o0_2 a1 w1 a2 w2
  refine (l11_RollCompacts.calls (k := k) (r := true) (w := W) (hG := hG) (hr := rfl) (hr0_2 := hr0_2) (hc0_2 := hc0_2) (h := hp)).mono ?_
  rintro e W' ⟨rfl, bel0⟩
  have bel : Below W.heap.size W W' := by first | exact bel0 | exact bel0.below
  exact ⟨_, rfl, _, _, _, [], _, [], hW', trodAll_mk1 (shut_bool Tryd.underlying4 _), (trodAll_cons_mk (Below.trod laidOut (by kernel_rfl) (of_decide_eq_true (by kernel_rfl)) k0 bel lt0) (trodAll_cons_mk (Below.trod laidOut (by kernel_rfl) (of_decide_eq_true (by kernel_rfl)) k1 bel lt1) (trodAll_cons_mk (Below.trod laidOut (by kernel_rfl) (of_decide_eq_true (by kernel_rfl)) k2 bel lt2) trodAll_mk0))), rfl, bel.frame _, fun h => by cases h⟩
set_option maxRecDepth 100000 in
theorem lifted (os : Os) (started : os.Started) (H : Type) (enc : TypeId × Value → H) (F : Stop.Interp) :
    ReturnsInHanded {} Tryd.checked os 6 .any ((OpenSpec.ofChange Rows.rollCompactsSpec).preRow enc Tryd.prog Tryd.f6 Rows.rollCompactsRow.domain false Rows.rollCompactsRow.laid) (((OpenSpec.ofChange Rows.rollCompactsSpec).at F).post enc Tryd.prog Tryd.f6 false true false false) := by
  have hx : ∃ places, DataW.whole enc Tryd.prog ((World.doorLaid Tryd.prog 62 os).forCall (fun _ _ => 0) ⟨#[], #[.agg #[.int .i64 0, .int .i64 0, .slice none 0 0], .int .i64 0, .int .i64 0], []⟩).memory Tryd.f6.params.toList Rows.rollCompactsSpec.vars false (#[.agg #[.int .i64 0, .int .i64 0, .slice none 0 0], .int .i64 0, .int .i64 0] : Array Value).toList 8 = some ([.agg [.lit (.int .i64 0), .lit (.int .i64 0), .nil], .lit (.int .i64 0), .lit (.int .i64 0)], [], places) := ⟨[], by kernel_rfl⟩
  obtain ⟨places, hx⟩ := hx
  refine returnsInHanded_of_row (C := Tryd.checked) (s := OpenSpec.ofChange Rows.rollCompactsSpec) own started (by kernel_rfl) Tryd.func6
    (witness_row_atRef (enc := enc) (C := Tryd.checked) false (World.doorLaid Tryd.prog 62 os) #[.agg #[.int .i64 0, .int .i64 0, .slice none 0 0], .int .i64 0, .int .i64 0] rfl (by kernel_rfl) (by kernel_rfl) (by kernel_rfl)
      (OpenSpec.preRow_of_cond 8 hx (by kernel_rfl) (fun k hk => by cases hk) (by kernel_rfl) (MakeChecks.laidMetH_plain _ _ _ (by kernel_rfl) ▸ door_met os _))) ?_
  intro W base args ds gs before hval hW _ _ hsz hL hsh _
  exact contract H enc W base args ds gs before hval hW (theG_of hL hsh) hsz
theorem said : Rows.RollCompactsSaid :=
  OpenClaim.holds_of_cond 6 Tryd.f6 rfl rfl rfl rfl rfl rfl rfl ⟨rfl, rfl, rfl, rfl, rfl⟩ rfl rfl rfl rfl rfl (by kernel_rfl) Tryd.func6 (by kernel_rfl)
    (of_decide_eq_true (by kernel_rfl)) (by unfold Func.isWrapper; first | (rw [if_pos (by decide +kernel)]; kernel_rfl) | (rw [if_neg (by decide +kernel)]; exact ⟨rfl, rfl⟩))
    (fun os started H enc _ F => by rw [OpenClaim.pre_eq_preRow]; exact lifted os started H enc F)
theorem plain (f : FuncId) (fn : Func) (hf : Tryd.pinned.checked.prog.funcNamed "furlong/furlonglaw11.RollCompacts" = some f) (hfn : Tryd.pinned.checked.prog.funcs[f]? = some fn) :
    true = Tryd.pinned.checked.prog.looks [] ∧ ∀ (j : Nat) t, fn.params[j]? = some t → Tryd.pinned.checked.prog.wantsStandIn t = false := by
  obtain rfl : f = 6 := Option.some.inj ((show Tryd.prog.funcNamed "furlong/furlonglaw11.RollCompacts" = some 6 by kernel_rfl).symm.trans hf) |>.symm
  obtain rfl : fn = Tryd.f6 := (Option.some.inj (Tryd.func6.symm.trans hfn)).symm
  refine ⟨by kernel_rfl, fun j t ht => ?_⟩
  rw [Tryd.params6] at ht
  have hm := Array.mem_of_getElem? ht
  simp only [List.mem_toArray, List.mem_cons, List.not_mem_nil, or_false] at hm
  rcases hm with rfl | rfl | rfl
  · exact (show Tryd.prog.wantsStandIn 24 = false by kernel_rfl)
  · exact (show Tryd.prog.wantsStandIn 2 = false by kernel_rfl)
  · exact (show Tryd.prog.wantsStandIn 2 = false by kernel_rfl)
/-- The tied card. -/
theorem card : Rows.RollCompactsCardSaid :=
  Claim7.holds_tied_plain_at .later [] _ _ _ _ said (fun _ h => by cases h) (by kernel_rfl) (fun _ h => by cases h) rollCompacts_row_tie rfl ⟨rfl, rfl⟩ (by kernel_rfl) rfl plain (by kernel_rfl)
#print axioms card
end Go.Proofs.YtjpihfjgomoijaaDoor.rollCompacts
namespace Go.Proofs.YtjpihfjgomoijaaDoor
theorem rollCompacts_holds : Rows.RollCompactsCardSaid := rollCompacts.card
end Go.Proofs.YtjpihfjgomoijaaDoor
end
