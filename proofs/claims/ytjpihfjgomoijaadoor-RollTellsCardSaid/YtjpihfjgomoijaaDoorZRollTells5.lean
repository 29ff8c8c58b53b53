import Derived.Test.YtjpihfjgomoijaaDoorZRollTells1
import Derived.Test.YtjpihfjgomoijaaDoorZRollTells2
import Derived.Test.YtjpihfjgomoijaaDoorZRollTells3
import Derived.Test.YtjpihfjgomoijaaDoorZRollTells4
set_option linter.unusedVariables false
set_option linter.unusedSimpArgs false
set_option linter.unnecessarySimpa false
section
-- Written by a program of this session (wip/tools/pr.py), over the kit's printer; functions named in the texts imported below are given by hand.
namespace Go.Proofs.YtjpihfjgomoijaaDoor.P
open Go.RowKit Go.Proofs.YtjpihfjgomoijaaDoor.K Go.Proofs.YtjpihfjgomoijaaDoorW.PrintWords Go.Proofs.YtjpihfjgomoijaaDoorW.PrintLast Go.Proofs.YtjpihfjgomoijaaDoorW.PrintMore
attribute [local go_sem] max2_int min2_int max_two min_two max_three min_three max_four min_four   -- for this text's walks alone
/-! ### l11_RollTells: function 7 -/
mutual
def l11_RollTells.j0 : Nat → Int → Int → Int → Int → List (S54) → Bool → Int → Int → List (S54) → Option (Bool)
  | 0, _, _, _, _, _, _, _, _, _ => none
  | k + 1, x1, x2, x3, x4, x5, x33, x489000, x489001, x489002 => if x33 = true then ((l11_live.f).bind fun t491 => (some t491)) else ((l11_own.f x489000 x489001 x489002).bind fun bt492 => ((roll_Last.f k bt492.1 bt492.2.1 bt492.2.2).bind fun bt497 => ((r11_Last.f x489000 x489001 x489002).bind fun bt499 => ((l11_own.f x489000 x489001 x489002).bind fun bt501 => ((roll_Term.f k bt501.1 bt501.2.1 bt501.2.2 x1).bind fun bt506 => ((r11_Term.f k x489000 x489001 x489002 x1).bind fun bt508 => (if bt497.1 = bt499.1 then (if bt497.2 = bt499.2 then (if bt506.1 = bt508.1 then (if (bt506.2 != bt508.2) = true then (l11_RollTells.j1 k x1 x4 x5 true x489000 x489001 x489002) else ((l11_own.f x489000 x489001 x489002).bind fun bt510 => ((roll_Slice.f bt510.1 bt510.2.1 bt510.2.2 x2 x3).bind fun t515 => ((r11_Slice.f k x489000 x489001 x489002 x2 x3).bind fun t518 => ((r11_Entries.f k t515 t518).bind fun t521 => (l11_RollTells.j1 k x1 x4 x5 (!t521) x489000 x489001 x489002)))))) else (l11_RollTells.j1 k x1 x4 x5 true x489000 x489001 x489002)) else (l11_RollTells.j1 k x1 x4 x5 true x489000 x489001 x489002)) else (l11_RollTells.j1 k x1 x4 x5 true x489000 x489001 x489002))))))))
def l11_RollTells.j1 : Nat → Int → Int → List (S54) → Bool → Int → Int → List (S54) → Option (Bool)
  | 0, _, _, _, _, _, _, _ => none
  | k + 1, x1, x4, x5, x89, x489000, x489001, x489002 => if x89 = true then (some false) else ((l11_own.f x489000 x489001 x489002).bind fun bt522 => ((some (([] : List (S54)) : List (S54))).bind fun y527 => (if y527.length + x5.length < 5864062014805 then ((roll_Append.f bt522.1 bt522.2.1 bt522.2.2 (y527 ++ x5)).bind fun bt533 => ((r11_Append.f x489000 x489001 x489002 x5).bind fun bt538 => ((r11_Same.f k bt533.1 bt533.2.1 bt533.2.2 bt538.1 bt538.2.1 bt538.2.2).bind fun t543 => (if t543 = true then ((l11_own.f x489000 x489001 x489002).bind fun bt544 => ((roll_Compact.f k bt544.1 bt544.2.1 bt544.2.2 x1).bind fun bt549 => ((r11_Compact.f k x489000 x489001 x489002 x1).bind fun bt554 => ((r11_Same.f k bt549.1 bt549.2.1 bt549.2.2 bt554.1 bt554.2.1 bt554.2.2).bind fun t559 => (if t559 = true then ((l11_own.f x489000 x489001 x489002).bind fun bt560 => ((roll_Newer.f k x4 x1 bt560.1 bt560.2.1 bt560.2.2).bind fun t565 => ((r11_Newer.f x4 x1 x489000 x489001 x489002).bind fun t566 => (if (t565 == t566) = true then ((l11_live.f).bind fun t567 => (some t567)) else (some false))))) else (some false)))))) else (some false))))) else (none))))
end
def l11_RollTells.f (k : Nat) (a0_0 : Int) (a0_1 : Int) (l0_2 : List (S54)) (a1 : Int) (a2 : Int) (a3 : Int) (a4 : Int) (l5 : List (S54)) : Option (Bool) := (l11_small.f k a0_0 a0_1 l0_2).bind fun t489 => (if t489 = true then ((r11_Is.f k a0_0 a0_1 l0_2).bind fun t490 => (if t490 = true then (l11_RollTells.j0 k a1 a2 a3 a4 l5 (decide ((l5.length : Int) > 60)) a0_0 a0_1 l0_2) else (l11_RollTells.j0 k a1 a2 a3 a4 l5 true a0_0 a0_1 l0_2))) else (l11_RollTells.j0 k a1 a2 a3 a4 l5 true a0_0 a0_1 l0_2))
theorem l11_RollTells.mono_l : ∀ k, (∀ y0 y1 y2 y3 y4 y5 y6 y7 y8, LeO (l11_RollTells.j0 k y0 y1 y2 y3 y4 y5 y6 y7 y8) (l11_RollTells.j0 (k + 1) y0 y1 y2 y3 y4 y5 y6 y7 y8)) ∧ (∀ y0 y1 y2 y3 y4 y5 y6, LeO (l11_RollTells.j1 k y0 y1 y2 y3 y4 y5 y6) (l11_RollTells.j1 (k + 1) y0 y1 y2 y3 y4 y5 y6))
  | 0 => ⟨fun _ _ _ _ _ _ _ _ _ r h => by simp [l11_RollTells.j0] at h, fun _ _ _ _ _ _ _ r h => by simp [l11_RollTells.j1] at h⟩
  | k + 1 => by
    obtain ⟨ih0, ih1⟩ := l11_RollTells.mono_l k
    refine ⟨?_, ?_⟩
    · intro y0 y1 y2 y3 y4 y5 y6 y7 y8
      unfold l11_RollTells.j0
      repeat' first
      | (with_reducible exact ih0 _ _ _ _ _ _ _ _ _)
      | (with_reducible exact ih1 _ _ _ _ _ _ _)
      | (with_reducible exact l11_small.mono _ _ _ _)
      | (with_reducible exact r11_Compact.mono _ _ _ _ _)
      | (with_reducible exact r11_Entries.mono _ _ _)
      | (with_reducible exact r11_Is.mono _ _ _ _)
      | (with_reducible exact r11_Same.mono _ _ _ _ _ _ _)
      | (with_reducible exact r11_Slice.mono _ _ _ _ _ _)
      | (with_reducible exact r11_Term.mono _ _ _ _ _)
      | (with_reducible exact roll_Compact.mono _ _ _ _ _)
      | (with_reducible exact roll_Last.mono _ _ _ _)
      | (with_reducible exact roll_Newer.mono _ _ _ _ _ _)
      | (with_reducible exact roll_Term.mono _ _ _ _ _)
      | (with_reducible exact LeO.refl _)
      | (with_reducible exact LeO.none _)
      | (with_reducible refine LeO.ite ?_ ?_)
      | (with_reducible refine LeO.bind ?_ (fun _ => ?_))
      | exact ih0 _ _ _ _ _ _ _ _ _
      | exact ih1 _ _ _ _ _ _ _
      | exact l11_small.mono _ _ _ _
      | exact r11_Compact.mono _ _ _ _ _
      | exact r11_Entries.mono _ _ _
      | exact r11_Is.mono _ _ _ _
      | exact r11_Same.mono _ _ _ _ _ _ _
      | exact r11_Slice.mono _ _ _ _ _ _
      | exact r11_Term.mono _ _ _ _ _
      | exact roll_Compact.mono _ _ _ _ _
      | exact roll_Last.mono _ _ _ _
      | exact roll_Newer.mono _ _ _ _ _ _
      | exact roll_Term.mono _ _ _ _ _
      | exact LeO.none _
      | refine LeO.ite ?_ ?_
      | refine LeO.bind ?_ (fun _ => ?_)
    · intro y0 y1 y2 y3 y4 y5 y6
      unfold l11_RollTells.j1
      repeat' first
      | (with_reducible exact ih0 _ _ _ _ _ _ _ _ _)
      | (with_reducible exact ih1 _ _ _ _ _ _ _)
      | (with_reducible exact l11_small.mono _ _ _ _)
      | (with_reducible exact r11_Compact.mono _ _ _ _ _)
      | (with_reducible exact r11_Entries.mono _ _ _)
      | (with_reducible exact r11_Is.mono _ _ _ _)
      | (with_reducible exact r11_Same.mono _ _ _ _ _ _ _)
      | (with_reducible exact r11_Slice.mono _ _ _ _ _ _)
      | (with_reducible exact r11_Term.mono _ _ _ _ _)
      | (with_reducible exact roll_Compact.mono _ _ _ _ _)
      | (with_reducible exact roll_Last.mono _ _ _ _)
      | (with_reducible exact roll_Newer.mono _ _ _ _ _ _)
      | (with_reducible exact roll_Term.mono _ _ _ _ _)
      | (with_reducible exact LeO.refl _)
      | (with_reducible exact LeO.none _)
      | (with_reducible refine LeO.ite ?_ ?_)
      | (with_reducible refine LeO.bind ?_ (fun _ => ?_))
      | exact ih0 _ _ _ _ _ _ _ _ _
      | exact ih1 _ _ _ _ _ _ _
      | exact l11_small.mono _ _ _ _
      | exact r11_Compact.mono _ _ _ _ _
      | exact r11_Entries.mono _ _ _
      | exact r11_Is.mono _ _ _ _
      | exact r11_Same.mono _ _ _ _ _ _ _
      | exact r11_Slice.mono _ _ _ _ _ _
      | exact r11_Term.mono _ _ _ _ _
      | exact roll_Compact.mono _ _ _ _ _
      | exact roll_Last.mono _ _ _ _
      | exact roll_Newer.mono _ _ _ _ _ _
      | exact roll_Term.mono _ _ _ _ _
      | exact LeO.none _
      | refine LeO.ite ?_ ?_
      | refine LeO.bind ?_ (fun _ => ?_)
theorem l11_RollTells.mono : ∀ a0 a1 a2 a3 a4 a5 a6 a7 k, LeO (l11_RollTells.f k a0 a1 a2 a3 a4 a5 a6 a7) (l11_RollTells.f (k + 1) a0 a1 a2 a3 a4 a5 a6 a7) := by
  intro a0 a1 a2 a3 a4 a5 a6 a7 k
  obtain ⟨ih0, ih1⟩ := l11_RollTells.mono_l k
  unfold l11_RollTells.f
  repeat' first
      | (with_reducible exact ih0 _ _ _ _ _ _ _ _ _)
      | (with_reducible exact ih1 _ _ _ _ _ _ _)
      | (with_reducible exact l11_small.mono _ _ _ _)
      | (with_reducible exact r11_Compact.mono _ _ _ _ _)
      | (with_reducible exact r11_Entries.mono _ _ _)
      | (with_reducible exact r11_Is.mono _ _ _ _)
      | (with_reducible exact r11_Same.mono _ _ _ _ _ _ _)
      | (with_reducible exact r11_Slice.mono _ _ _ _ _ _)
      | (with_reducible exact r11_Term.mono _ _ _ _ _)
      | (with_reducible exact roll_Compact.mono _ _ _ _ _)
      | (with_reducible exact roll_Last.mono _ _ _ _)
      | (with_reducible exact roll_Newer.mono _ _ _ _ _ _)
      | (with_reducible exact roll_Term.mono _ _ _ _ _)
      | (with_reducible exact LeO.refl _)
      | (with_reducible exact LeO.none _)
      | (with_reducible refine LeO.ite ?_ ?_)
      | (with_reducible refine LeO.bind ?_ (fun _ => ?_))
      | exact ih0 _ _ _ _ _ _ _ _ _
      | exact ih1 _ _ _ _ _ _ _
      | exact l11_small.mono _ _ _ _
      | exact r11_Compact.mono _ _ _ _ _
      | exact r11_Entries.mono _ _ _
      | exact r11_Is.mono _ _ _ _
      | exact r11_Same.mono _ _ _ _ _ _ _
      | exact r11_Slice.mono _ _ _ _ _ _
      | exact r11_Term.mono _ _ _ _ _
      | exact roll_Compact.mono _ _ _ _ _
      | exact roll_Last.mono _ _ _ _
      | exact roll_Newer.mono _ _ _ _ _ _
      | exact roll_Term.mono _ _ _ _ _
      | exact LeO.none _
      | refine LeO.ite ?_ ?_
      | refine LeO.bind ?_ (fun _ => ?_)
def l11_RollTells.T7 : Bool × List (List Nat × List Nat) := (true, [([], []), ([], []), ([0, 1], [0, 1]), ([2], [2]), ([3], [3]), ([3], [3]), ([4, 5, 3], [3, 4, 5]), ([3, 6], [3, 6]), ([7, 3], [7]), ([8], [8]), ([8], [8]), ([9, 10, 8], [8, 9, 10]), ([8, 11], [8, 11]), ([12, 8], [12]), ([13], [13]), ([13], [13]), ([14, 15, 13], [13, 14, 15]), ([13, 16], [13, 16]), ([17, 13], [17]), ([18], [18]), ([19, 18, 18], [18, 19]), ([18], [18]), ([18], [18]), ([20, 21, 22, 20, 18], [18, 20, 21, 22]), ([18], [18]), ([18], [18]), ([18], [18]), ([24, 25, 26, 23, 18], [18, 24, 25, 26]), ([23, 27, 27, 18], [18, 23, 27]), ([28, 18], [18, 28]), ([18, 29], [18, 29])])
def l11_RollTells.B7 : List Nat := [0, 0, 3, 7, 15, 15, 63, 127, 255, 511, 511, 2047, 4095, 8191, 16383, 16383, 65535, 131071, 262143, 524287, 1048575, 524287, 524287, 8388607, 524287, 524287, 524287, 134217727, 268435455, 536870911, 1073741823]
theorem l11_RollTells.tab7 : rtab .any (opsOf Tryd.f7 7) = l11_RollTells.T7 := by kernel_rfl
theorem l11_RollTells.bits7 : waitsOk l11_RollTells.T7.2 l11_RollTells.B7 = true := by kernel_rfl
def l11_RollTells.T9 : Bool × List (List Nat × List Nat) := (true, [([], []), ([0], [0]), ([], []), ([], []), ([2, 3, 1], [2, 3]), ([1, 4, 4], [1, 4]), ([], []), ([], []), ([6, 7, 5], [6, 7]), ([5, 8, 8], [5, 8]), ([9, 9], [9]), ([10], [10]), ([11, 10, 10], [10, 11]), ([10], [10]), ([12, 13, 12, 10], [10, 12, 13]), ([10], [10]), ([10], [10]), ([15, 16, 14, 10], [10, 15, 16]), ([14, 17, 17, 10], [10, 14, 17]), ([10, 18], [10, 18]), ([19, 18], [19]), ([20], [20]), ([20], [20]), ([20], [20]), ([23, 20, 20], [20, 23]), ([21, 22, 24, 24, 20], [20, 21, 22, 24]), ([20], [20]), ([20], [20]), ([20], [20]), ([26, 27, 28, 25, 20], [20, 26, 27, 28]), ([25, 29, 20], [20, 25, 29]), ([20, 30], [20, 30]), ([31, 29], [31]), ([32, 32], [32]), ([32, 33], [32, 33]), ([34, 33, 0, 1, 2, 3, 4, 5, 6, 7, 8, 9, 10, 11, 12, 13, 14, 15, 16, 17, 18, 19, 20, 21, 22, 23, 24, 25, 26, 27, 28, 29, 30, 31, 32, 33, 34], [34])])
def l11_RollTells.B9 : List Nat := [0, 1, 0, 0, 15, 31, 0, 0, 255, 511, 1023, 2047, 4095, 2047, 16383, 2047, 2047, 131071, 262143, 524287, 1048575, 2097151, 2097151, 2097151, 10485759, 33554431, 2097151, 2097151, 2097151, 536870911, 1073741823, 2147483647, 4294967295, 8589934591, 17179869183, 34359738367]
theorem l11_RollTells.tab9 : rtab .any (opsOf Tryd.f7 9) = l11_RollTells.T9 := by kernel_rfl
theorem l11_RollTells.bits9 : waitsOk l11_RollTells.T9.2 l11_RollTells.B9 = true := by kernel_rfl
set_option maxHeartbeats 8000000 in
set_option maxRecDepth 100000 in
theorem l11_RollTells.calls (k : Nat) (a0_0 : Int) (a0_1 : Int) (A0_2 : Option Addr) (c0_2 : Nat) (l0_2 : List (S54)) (a1 : Int) (a2 : Int) (a3 : Int) (a4 : Int) (A5 : Option Addr) (c5 : Nat) (l5 : List (S54)) (r : Bool) (w : World) (hG : TheG w) (hr : r = true) (hr0_2 : Kd.C k54 w A0_2 l0_2.length l0_2) (hc0_2 : l0_2.length ≤ c0_2) (hr5 : Kd.C k54 w A5 l5.length l5) (hc5 : l5.length ≤ c5) (h : l11_RollTells.f k a0_0 a0_1 l0_2 a1 a2 a3 a4 l5 = some r) :
    Calls Tryd.prog 7 #[.agg #[.int .i64 a0_0, .int .i64 a0_1, .slice A0_2 l0_2.length c0_2], .int .i64 a1, .int .i64 a2, .int .i64 a3, .int .i64 a4, .slice A5 l5.length c5] w fun e w' => e = .returned (.bool r) ∧ Below w.heap.size w w' := by
  have hu24 := Tryd.underlying24
  have HR0_2 := Az.mk hr0_2
  have HC0_2 := Az.mk hc0_2
  clear hr0_2 hc0_2
  have HR5 := Az.mk hr5
  have HC5 := Az.mk hc5
  clear hr5 hc5
  have HB := Az.mk (Below.refl w.heap.size w)
  have H : ((l11_small.f k a0_0 a0_1 l0_2).bind fun t489 => (if t489 = true then ((r11_Is.f k a0_0 a0_1 l0_2).bind fun t490 => (if t490 = true then (l11_RollTells.j0 k a1 a2 a3 a4 l5 (decide ((l5.length : Int) > 60)) a0_0 a0_1 l0_2) else (l11_RollTells.j0 k a1 a2 a3 a4 l5 true a0_0 a0_1 l0_2))) else (l11_RollTells.j0 k a1 a2 a3 a4 l5 true a0_0 a0_1 l0_2))) = some r := h
  clear h
  have HC7 := Az.mk H
  clear H
  go_enter Tryd.func7, Tryd.ntmps7
  go_upto_region 1 with (first | ((with_reducible refine gate_dst (N := 6) rfl ?_); (try (refine gate_guard (by rfl) ?_; dsimp only)); refine box_event ?hg (N := 6) ?hd (cs := #[.int .i64 a0_0, .int .i64 a0_1, .slice A0_2 l0_2.length c0_2]) (t := 24) ?hr ?_; (case hd => rfl); (case hg => rfl); (case hr => first | (go_simp; done) | (go_simp; rfl)); intro gb488 hg w8 hbox hb; have n0_ := Az.mk (pbT (by repeat (first | (with_reducible first | exact HB.out | apply pbA | apply pbN | apply pb1) | exact HB.out)) hb); have n1_ := Az.mk (hbox); have n2_ := Az.mk ((by rw [hg]; exact (pbZ (by repeat (first | (with_reducible first | exact HB.out | apply pbA | apply pbN | apply pb1) | exact HB.out))) : w.heap.size ≤ gb488)); have n3_ := Az.mk ((by rw [hg]; exact (pbZ (by repeat (first | (with_reducible first | exact HB.out | apply pbA | apply pbN | apply pb1) | exact HB.out))) : w.heap.size ≤ gb488)); clear HB; have HB := n0_; have BK488 := n1_; have GW488 := n2_; have GE488 := n3_; clear n0_ n1_ n2_ n3_; clear hb hbox hg))
  (try simp only [Act.put, List.setIfInBounds_toArray, List.set_cons_zero, List.set_cons_succ])
  go_cut [33] (fun v33 wc => ∃ (kq : Nat) (x33_6 : Bool), v33 = .bool x33_6 ∧ Az (l11_RollTells.j0 kq a1 a2 a3 a4 l5 x33_6 a0_0 a0_1 l0_2 = some r) ∧ Az (kq ≤ k) ∧ Az (wc.heap[gb488]? = some (.cells #[.int .i64 a0_0, .int .i64 a0_1, (.slice A0_2 l0_2.length c0_2)] 24 (0, 0))) ∧ Az (Below w.heap.size w wc))
  case first =>
    have H := HC7.out
    clear HC7
    replace H := Option.bind_eq_some_iff.mp H
    obtain ⟨t489, A90, H⟩ := H
    replace H : (if t489 = true then ((r11_Is.f k a0_0 a0_1 l0_2).bind fun t490 => (if t490 = true then (l11_RollTells.j0 k a1 a2 a3 a4 l5 (decide ((l5.length : Int) > 60)) a0_0 a0_1 l0_2) else (l11_RollTells.j0 k a1 a2 a3 a4 l5 true a0_0 a0_1 l0_2))) else (l11_RollTells.j0 k a1 a2 a3 a4 l5 true a0_0 a0_1 l0_2)) = some r := H
    have A9 := Az.mk A90
    clear A90
    by_cases c10 : t489 = true
    · subst c10
      have H1 : ((r11_Is.f k a0_0 a0_1 l0_2).bind fun t490 => (if t490 = true then (l11_RollTells.j0 k a1 a2 a3 a4 l5 (decide ((l5.length : Int) > 60)) a0_0 a0_1 l0_2) else (l11_RollTells.j0 k a1 a2 a3 a4 l5 true a0_0 a0_1 l0_2))) = some r := by rw [if_pos rfl] at H; exact H
      clear H
      have H := H1
      clear H1
      replace H := Option.bind_eq_some_iff.mp H
      obtain ⟨t490, A110, H⟩ := H
      replace H : (if t490 = true then (l11_RollTells.j0 k a1 a2 a3 a4 l5 (decide ((l5.length : Int) > 60)) a0_0 a0_1 l0_2) else (l11_RollTells.j0 k a1 a2 a3 a4 l5 true a0_0 a0_1 l0_2)) = some r := H
      have A11 := Az.mk A110
      clear A110
      by_cases c12 : t490 = true
      · subst c12
        have H1 : (l11_RollTells.j0 k a1 a2 a3 a4 l5 (decide ((l5.length : Int) > 60)) a0_0 a0_1 l0_2) = some r := by rw [if_pos rfl] at H; exact H
        clear H
        have H := H1
        clear H1
        have H' := Az.mk H
        clear H
        have hcz13_0 : w8.cell? ⟨gb488, 0, none⟩ = some (.int .i64 a0_0) := (bkC BK488.out 0).trans rfl
        have hcz13_1 : w8.cell? ⟨gb488, 1, none⟩ = some (.int .i64 a0_1) := (bkC BK488.out 1).trans rfl
        have hcz13_2 : w8.cell? ⟨gb488, 2, none⟩ = some (.slice A0_2 l0_2.length c0_2) := (bkC BK488.out 2).trans rfl
        have hfz13_0 := bkF BK488.out 0
        have hfz13_1 := bkF BK488.out 1
        have hfz13_2 := bkF BK488.out 2
        go_wp2_with (first | ((with_reducible refine gtc (f := 8) rfl ?_); refine goesL_ (some 22) rfl rfl Tryd.func8 (by kernel_rfl) rfl #[.agg #[.int .i64 a0_0, .int .i64 a0_1, .slice A0_2 l0_2.length c0_2]] rfl (by (try simp only [List.map_toArray, List.map_cons, List.map_nil]); first | done | rfl | (simp only [List.length_drop, List.length_take]; rfl)) ?_; (with_reducible refine (l11_small.calls k a0_0 a0_1 _ _ l0_2 true _ ?side1 ?side2 ?side3 A9.out).mono ?_); (case side1 => exact hG.below (by repeat (first | (with_reducible first | exact HB.out | apply pbA | apply pbN | apply pb1 | refine pbS ?_ GE488.out) | exact HB.out))); (case side2 => repeat (first | exact (Kd.C_below HR0_2.out HB.out) | (with_reducible refine Kd.C_alloc ?_ _) | (with_reducible refine Kd.C_drewN ?_ _) | (with_reducible refine Kd.C_drew ?_))); (case side3 => exact HC0_2.out); rintro e w14 ⟨rfl, hb⟩; refine ⟨_, rfl, ?_⟩; have n0_ := Az.mk (bkB (g := gb488) (o := .cells #[.int .i64 a0_0, .int .i64 a0_1, .slice A0_2 l0_2.length c0_2] 24 (0, 0)) (by (with_reducible repeat (first | refine bkN ?_ _ | refine bkD ?_ | refine bkA ?_ _)); exact BK488.out) hb); have n1_ := Az.mk (pbT (by repeat (first | (with_reducible first | exact HB.out | apply pbA | apply pbN | apply pb1 | refine pbS ?_ GE488.out) | exact HB.out)) hb); clear BK488; clear HB; have BK488 := n0_; have HB := n1_; clear n0_ n1_; (try clear hb); (try clear hb2); (try clear hk); (try clear hi); have hcz15_0 : w14.cell? ⟨gb488, 0, none⟩ = some (.int .i64 a0_0) := (bkC BK488.out 0).trans rfl; have hcz15_1 : w14.cell? ⟨gb488, 1, none⟩ = some (.int .i64 a0_1) := (bkC BK488.out 1).trans rfl; have hcz15_2 : w14.cell? ⟨gb488, 2, none⟩ = some (.slice A0_2 l0_2.length c0_2) := (bkC BK488.out 2).trans rfl; have hfz15_0 := bkF BK488.out 0; have hfz15_1 := bkF BK488.out 1; have hfz15_2 := bkF BK488.out 2) | (go_at_call 14; (with_reducible refine (r11_Is.calls k a0_0 a0_1 _ _ l0_2 true _ ?side1 ?side2 ?side3 A11.out).mono ?_); (case side1 => exact hG.below (by repeat (first | (with_reducible first | exact HB.out | apply pbA | apply pbN | apply pb1 | refine pbS ?_ GE488.out) | exact HB.out))); (case side2 => repeat (first | exact (Kd.C_below HR0_2.out HB.out) | (with_reducible refine Kd.C_alloc ?_ _) | (with_reducible refine Kd.C_drewN ?_ _) | (with_reducible refine Kd.C_drew ?_))); (case side3 => exact HC0_2.out); rintro e w16 ⟨rfl, hb⟩; have n0_ := Az.mk (bkB (g := gb488) (o := .cells #[.int .i64 a0_0, .int .i64 a0_1, .slice A0_2 l0_2.length c0_2] 24 (0, 0)) (by (with_reducible repeat (first | refine bkN ?_ _ | refine bkD ?_ | refine bkA ?_ _)); exact BK488.out) hb); have n1_ := Az.mk (pbT (by repeat (first | (with_reducible first | exact HB.out | apply pbA | apply pbN | apply pb1 | refine pbS ?_ GE488.out) | exact HB.out)) hb); clear BK488; clear HB; have BK488 := n0_; have HB := n1_; clear n0_ n1_; (try clear hb); (try clear hb2); (try clear hk); (try clear hi)))
        go_meet
        case rel => exact ⟨_, (decide ((l5.length : Int) > 60)), (by first | rfl | (simp; done) | (simp [*]; done)), H', ⟨by first | omega | exact Nat.le_refl _⟩, ⟨by (with_reducible repeat (first | refine bkN ?_ _ | refine bkD ?_ | refine bkA ?_ _)); exact BK488.out⟩, ⟨by repeat (first | (with_reducible first | exact HB.out | apply pbA | apply pbN | apply pb1 | refine pbS ?_ GE488.out) | exact HB.out)⟩⟩
      · replace c12 := Bool.eq_false_iff.mpr c12
        subst c12
        have H1 : (l11_RollTells.j0 k a1 a2 a3 a4 l5 true a0_0 a0_1 l0_2) = some r := by rw [if_neg (show ¬ (false = true) by decide)] at H; exact H
        clear H
        have H := H1
        clear H1
        have H' := Az.mk H
        clear H
        have hcz17_0 : w8.cell? ⟨gb488, 0, none⟩ = some (.int .i64 a0_0) := (bkC BK488.out 0).trans rfl
        have hcz17_1 : w8.cell? ⟨gb488, 1, none⟩ = some (.int .i64 a0_1) := (bkC BK488.out 1).trans rfl
        have hcz17_2 : w8.cell? ⟨gb488, 2, none⟩ = some (.slice A0_2 l0_2.length c0_2) := (bkC BK488.out 2).trans rfl
        have hfz17_0 := bkF BK488.out 0
        have hfz17_1 := bkF BK488.out 1
        have hfz17_2 := bkF BK488.out 2
        go_wp2_with (first | ((with_reducible refine gtc (f := 8) rfl ?_); refine goesL_ (some 22) rfl rfl Tryd.func8 (by kernel_rfl) rfl #[.agg #[.int .i64 a0_0, .int .i64 a0_1, .slice A0_2 l0_2.length c0_2]] rfl (by (try simp only [List.map_toArray, List.map_cons, List.map_nil]); first | done | rfl | (simp only [List.length_drop, List.length_take]; rfl)) ?_; (with_reducible refine (l11_small.calls k a0_0 a0_1 _ _ l0_2 true _ ?side1 ?side2 ?side3 A9.out).mono ?_); (case side1 => exact hG.below (by repeat (first | (with_reducible first | exact HB.out | apply pbA | apply pbN | apply pb1 | refine pbS ?_ GE488.out) | exact HB.out))); (case side2 => repeat (first | exact (Kd.C_below HR0_2.out HB.out) | (with_reducible refine Kd.C_alloc ?_ _) | (with_reducible refine Kd.C_drewN ?_ _) | (with_reducible refine Kd.C_drew ?_))); (case side3 => exact HC0_2.out); rintro e w18 ⟨rfl, hb⟩; refine ⟨_, rfl, ?_⟩; have n0_ := Az.mk (bkB (g := gb488) (o := .cells #[.int .i64 a0_0, .int .i64 a0_1, .slice A0_2 l0_2.length c0_2] 24 (0, 0)) (by (with_reducible repeat (first | refine bkN ?_ _ | refine bkD ?_ | refine bkA ?_ _)); exact BK488.out) hb); have n1_ := Az.mk (pbT (by repeat (first | (with_reducible first | exact HB.out | apply pbA | apply pbN | apply pb1 | refine pbS ?_ GE488.out) | exact HB.out)) hb); clear BK488; clear HB; have BK488 := n0_; have HB := n1_; clear n0_ n1_; (try clear hb); (try clear hb2); (try clear hk); (try clear hi); have hcz19_0 : w18.cell? ⟨gb488, 0, none⟩ = some (.int .i64 a0_0) := (bkC BK488.out 0).trans rfl; have hcz19_1 : w18.cell? ⟨gb488, 1, none⟩ = some (.int .i64 a0_1) := (bkC BK488.out 1).trans rfl; have hcz19_2 : w18.cell? ⟨gb488, 2, none⟩ = some (.slice A0_2 l0_2.length c0_2) := (bkC BK488.out 2).trans rfl; have hfz19_0 := bkF BK488.out 0; have hfz19_1 := bkF BK488.out 1; have hfz19_2 := bkF BK488.out 2) | (go_at_call 14; (with_reducible refine (r11_Is.calls k a0_0 a0_1 _ _ l0_2 false _ ?side1 ?side2 ?side3 A11.out).mono ?_); (case side1 => exact hG.below (by repeat (first | (with_reducible first | exact HB.out | apply pbA | apply pbN | apply pb1 | refine pbS ?_ GE488.out) | exact HB.out))); (case side2 => repeat (first | exact (Kd.C_below HR0_2.out HB.out) | (with_reducible refine Kd.C_alloc ?_ _) | (with_reducible refine Kd.C_drewN ?_ _) | (with_reducible refine Kd.C_drew ?_))); (case side3 => exact HC0_2.out); rintro e w20 ⟨rfl, hb⟩; have n0_ := Az.mk (bkB (g := gb488) (o := .cells #[.int .i64 a0_0, .int .i64 a0_1, .slice A0_2 l0_2.length c0_2] 24 (0, 0)) (by (with_reducible repeat (first | refine bkN ?_ _ | refine bkD ?_ | refine bkA ?_ _)); exact BK488.out) hb); have n1_ := Az.mk (pbT (by repeat (first | (with_reducible first | exact HB.out | apply pbA | apply pbN | apply pb1 | refine pbS ?_ GE488.out) | exact HB.out)) hb); clear BK488; clear HB; have BK488 := n0_; have HB := n1_; clear n0_ n1_; (try clear hb); (try clear hb2); (try clear hk); (try clear hi)))
        go_meet
        case rel => exact ⟨_, (true), (by first | rfl | (simp; done) | (simp [*]; done)), H', ⟨by first | omega | exact Nat.le_refl _⟩, ⟨by (with_reducible repeat (first | refine bkN ?_ _ | refine bkD ?_ | refine bkA ?_ _)); exact BK488.out⟩, ⟨by repeat (first | (with_reducible first | exact HB.out | apply pbA | apply pbN | apply pb1 | refine pbS ?_ GE488.out) | exact HB.out)⟩⟩
    · replace c10 := Bool.eq_false_iff.mpr c10
      subst c10
      have H1 : (l11_RollTells.j0 k a1 a2 a3 a4 l5 true a0_0 a0_1 l0_2) = some r := by rw [if_neg (show ¬ (false = true) by decide)] at H; exact H
      clear H
      have H := H1
      clear H1
      have H' := Az.mk H
      clear H
      have hcz21_0 : w8.cell? ⟨gb488, 0, none⟩ = some (.int .i64 a0_0) := (bkC BK488.out 0).trans rfl
      have hcz21_1 : w8.cell? ⟨gb488, 1, none⟩ = some (.int .i64 a0_1) := (bkC BK488.out 1).trans rfl
      have hcz21_2 : w8.cell? ⟨gb488, 2, none⟩ = some (.slice A0_2 l0_2.length c0_2) := (bkC BK488.out 2).trans rfl
      have hfz21_0 := bkF BK488.out 0
      have hfz21_1 := bkF BK488.out 1
      have hfz21_2 := bkF BK488.out 2
      go_wp2_with (first | ((with_reducible refine gtc (f := 8) rfl ?_); refine goesL_ (some 22) rfl rfl Tryd.func8 (by kernel_rfl) rfl #[.agg #[.int .i64 a0_0, .int .i64 a0_1, .slice A0_2 l0_2.length c0_2]] rfl (by (try simp only [List.map_toArray, List.map_cons, List.map_nil]); first | done | rfl | (simp only [List.length_drop, List.length_take]; rfl)) ?_; (with_reducible refine (l11_small.calls k a0_0 a0_1 _ _ l0_2 false _ ?side1 ?side2 ?side3 A9.out).mono ?_); (case side1 => exact hG.below (by repeat (first | (with_reducible first | exact HB.out | apply pbA | apply pbN | apply pb1 | refine pbS ?_ GE488.out) | exact HB.out))); (case side2 => repeat (first | exact (Kd.C_below HR0_2.out HB.out) | (with_reducible refine Kd.C_alloc ?_ _) | (with_reducible refine Kd.C_drewN ?_ _) | (with_reducible refine Kd.C_drew ?_))); (case side3 => exact HC0_2.out); rintro e w22 ⟨rfl, hb⟩; refine ⟨_, rfl, ?_⟩; have n0_ := Az.mk (bkB (g := gb488) (o := .cells #[.int .i64 a0_0, .int .i64 a0_1, .slice A0_2 l0_2.length c0_2] 24 (0, 0)) (by (with_reducible repeat (first | refine bkN ?_ _ | refine bkD ?_ | refine bkA ?_ _)); exact BK488.out) hb); have n1_ := Az.mk (pbT (by repeat (first | (with_reducible first | exact HB.out | apply pbA | apply pbN | apply pb1 | refine pbS ?_ GE488.out) | exact HB.out)) hb); clear BK488; clear HB; have BK488 := n0_; have HB := n1_; clear n0_ n1_; (try clear hb); (try clear hb2); (try clear hk); (try clear hi)))
      go_meet
      case rel => exact ⟨_, (true), (by first | rfl | (simp; done) | (simp [*]; done)), H', ⟨by first | omega | exact Nat.le_refl _⟩, ⟨by (with_reducible repeat (first | refine bkN ?_ _ | refine bkD ?_ | refine bkA ?_ _)); exact BK488.out⟩, ⟨by repeat (first | (with_reducible first | exact HB.out | apply pbA | apply pbN | apply pb1 | refine pbS ?_ GE488.out) | exact HB.out)⟩⟩
  case rest =>
    clear HC7
    try clear c1
    try clear p2
    try clear c5
    try clear c7
    try clear c8
    try clear c10
    try clear c12
    try clear hcz13_0
    try clear hcz13_1
    try clear hcz13_2
    try clear hcz15_0
    try clear hcz15_1
    try clear hcz15_2
    try clear hcz17_0
    try clear hcz17_1
    try clear hcz17_2
    try clear hcz19_0
    try clear hcz19_1
    try clear hcz19_2
    try clear hcz21_0
    try clear hcz21_1
    try clear hcz21_2
    try clear hfz13_0
    try clear hfz13_1
    try clear hfz13_2
    try clear hfz15_0
    try clear hfz15_1
    try clear hfz15_2
    try clear hfz17_0
    try clear hfz17_1
    try clear hfz17_2
    try clear hfz19_0
    try clear hfz19_1
    try clear hfz19_2
    try clear hfz21_0
    try clear hfz21_1
    try clear hfz21_2
    obtain ⟨kq, x33_6, rfl, HA, HJ6, BK488, HB⟩ := hcut
    cases kq with
    | zero => exact absurd HA.out (by simp [l11_RollTells.j0])
    | succ kj6 =>
      have H := HA.out
      clear HA
      simp only [l11_RollTells.j0] at H
      by_cases c23 : x33_6 = true
      · subst c23
        have H1 : ((l11_live.f).bind fun t491 => (some t491)) = some r := by rw [if_pos rfl] at H; exact H
        clear H
        have H := H1
        clear H1
        replace H := Option.bind_eq_some_iff.mp H
        obtain ⟨t491, A240, H⟩ := H
        replace H : (some t491) = some r := H
        have A24 := Az.mk A240
        clear A240
        obtain rfl := Option.some.inj H
        go_wp2_with (first | ((with_reducible refine gtc (f := 9) rfl ?_); refine goesL_ (some 34) rfl rfl Tryd.func9 (by kernel_rfl) rfl #[] rfl (by (try simp only [List.map_toArray, List.map_cons, List.map_nil]); first | done | rfl | (simp only [List.length_drop, List.length_take]; rfl)) ?_; (with_reducible refine (l11_live.calls  t491 _ ?side1 A24.out).mono ?_); (case side1 => exact hG.below (by repeat (first | (with_reducible first | exact HB.out | apply pbA | apply pbN | apply pb1 | refine pbS ?_ GE488.out) | exact HB.out))); rintro e w25 ⟨rfl, hb⟩; refine ⟨_, rfl, ?_⟩; have n0_ := Az.mk (bkB (g := gb488) (o := .cells #[.int .i64 a0_0, .int .i64 a0_1, .slice A0_2 l0_2.length c0_2] 24 (0, 0)) (by (with_reducible repeat (first | refine bkN ?_ _ | refine bkD ?_ | refine bkA ?_ _)); exact BK488.out) hb); have n1_ := Az.mk (pbT (by repeat (first | (with_reducible first | exact HB.out | apply pbA | apply pbN | apply pb1 | refine pbS ?_ GE488.out) | exact HB.out)) hb); clear BK488; clear HB; have BK488 := n0_; have HB := n1_; clear n0_ n1_; (try clear hb); (try clear hb2); (try clear hk); (try clear hi)))
        go_ret
        exact ⟨by first | rfl | (simp [errW_none, errW_some] <;> rfl) | (simp [*, errW_none, errW_some] <;> rfl), by repeat (first | (with_reducible first | exact HB.out | apply pbA | apply pbN | apply pb1 | refine pbS ?_ GE488.out) | exact HB.out)⟩
      · replace c23 := Bool.eq_false_iff.mpr c23
        subst c23
        have H1 : ((l11_own.f a0_0 a0_1 l0_2).bind fun bt492 => ((roll_Last.f kj6 bt492.1 bt492.2.1 bt492.2.2).bind fun bt497 => ((r11_Last.f a0_0 a0_1 l0_2).bind fun bt499 => ((l11_own.f a0_0 a0_1 l0_2).bind fun bt501 => ((roll_Term.f kj6 bt501.1 bt501.2.1 bt501.2.2 a1).bind fun bt506 => ((r11_Term.f kj6 a0_0 a0_1 l0_2 a1).bind fun bt508 => (if bt497.1 = bt499.1 then (if bt497.2 = bt499.2 then (if bt506.1 = bt508.1 then (if (bt506.2 != bt508.2) = true then (l11_RollTells.j1 kj6 a1 a4 l5 true a0_0 a0_1 l0_2) else ((l11_own.f a0_0 a0_1 l0_2).bind fun bt510 => ((roll_Slice.f bt510.1 bt510.2.1 bt510.2.2 a2 a3).bind fun t515 => ((r11_Slice.f kj6 a0_0 a0_1 l0_2 a2 a3).bind fun t518 => ((r11_Entries.f kj6 t515 t518).bind fun t521 => (l11_RollTells.j1 kj6 a1 a4 l5 (!t521) a0_0 a0_1 l0_2)))))) else (l11_RollTells.j1 kj6 a1 a4 l5 true a0_0 a0_1 l0_2)) else (l11_RollTells.j1 kj6 a1 a4 l5 true a0_0 a0_1 l0_2)) else (l11_RollTells.j1 kj6 a1 a4 l5 true a0_0 a0_1 l0_2)))))))) = some r := by rw [if_neg (show ¬ (false = true) by decide)] at H; exact H
        clear H
        have H := H1
        clear H1
        replace H := Option.bind_eq_some_iff.mp H
        obtain ⟨⟨t492, t493, t494⟩, A260, H⟩ := H
        replace H : ((roll_Last.f kj6 t492 t493 t494).bind fun bt497 => ((r11_Last.f a0_0 a0_1 l0_2).bind fun bt499 => ((l11_own.f a0_0 a0_1 l0_2).bind fun bt501 => ((roll_Term.f kj6 bt501.1 bt501.2.1 bt501.2.2 a1).bind fun bt506 => ((r11_Term.f kj6 a0_0 a0_1 l0_2 a1).bind fun bt508 => (if bt497.1 = bt499.1 then (if bt497.2 = bt499.2 then (if bt506.1 = bt508.1 then (if (bt506.2 != bt508.2) = true then (l11_RollTells.j1 kj6 a1 a4 l5 true a0_0 a0_1 l0_2) else ((l11_own.f a0_0 a0_1 l0_2).bind fun bt510 => ((roll_Slice.f bt510.1 bt510.2.1 bt510.2.2 a2 a3).bind fun t515 => ((r11_Slice.f kj6 a0_0 a0_1 l0_2 a2 a3).bind fun t518 => ((r11_Entries.f kj6 t515 t518).bind fun t521 => (l11_RollTells.j1 kj6 a1 a4 l5 (!t521) a0_0 a0_1 l0_2)))))) else (l11_RollTells.j1 kj6 a1 a4 l5 true a0_0 a0_1 l0_2)) else (l11_RollTells.j1 kj6 a1 a4 l5 true a0_0 a0_1 l0_2)) else (l11_RollTells.j1 kj6 a1 a4 l5 true a0_0 a0_1 l0_2))))))) = some r := H
        have A26 := Az.mk A260
        clear A260
        replace H := Option.bind_eq_some_iff.mp H
        obtain ⟨⟨t497, t498⟩, A270, H⟩ := H
        replace H : ((r11_Last.f a0_0 a0_1 l0_2).bind fun bt499 => ((l11_own.f a0_0 a0_1 l0_2).bind fun bt501 => ((roll_Term.f kj6 bt501.1 bt501.2.1 bt501.2.2 a1).bind fun bt506 => ((r11_Term.f kj6 a0_0 a0_1 l0_2 a1).bind fun bt508 => (if t497 = bt499.1 then (if t498 = bt499.2 then (if bt506.1 = bt508.1 then (if (bt506.2 != bt508.2) = true then (l11_RollTells.j1 kj6 a1 a4 l5 true a0_0 a0_1 l0_2) else ((l11_own.f a0_0 a0_1 l0_2).bind fun bt510 => ((roll_Slice.f bt510.1 bt510.2.1 bt510.2.2 a2 a3).bind fun t515 => ((r11_Slice.f kj6 a0_0 a0_1 l0_2 a2 a3).bind fun t518 => ((r11_Entries.f kj6 t515 t518).bind fun t521 => (l11_RollTells.j1 kj6 a1 a4 l5 (!t521) a0_0 a0_1 l0_2)))))) else (l11_RollTells.j1 kj6 a1 a4 l5 true a0_0 a0_1 l0_2)) else (l11_RollTells.j1 kj6 a1 a4 l5 true a0_0 a0_1 l0_2)) else (l11_RollTells.j1 kj6 a1 a4 l5 true a0_0 a0_1 l0_2)))))) = some r := H
        have A27 := Az.mk A270
        clear A270
        replace H := Option.bind_eq_some_iff.mp H
        obtain ⟨⟨t499, t500⟩, A280, H⟩ := H
        replace H : ((l11_own.f a0_0 a0_1 l0_2).bind fun bt501 => ((roll_Term.f kj6 bt501.1 bt501.2.1 bt501.2.2 a1).bind fun bt506 => ((r11_Term.f kj6 a0_0 a0_1 l0_2 a1).bind fun bt508 => (if t497 = t499 then (if t498 = t500 then (if bt506.1 = bt508.1 then (if (bt506.2 != bt508.2) = true then (l11_RollTells.j1 kj6 a1 a4 l5 true a0_0 a0_1 l0_2) else ((l11_own.f a0_0 a0_1 l0_2).bind fun bt510 => ((roll_Slice.f bt510.1 bt510.2.1 bt510.2.2 a2 a3).bind fun t515 => ((r11_Slice.f kj6 a0_0 a0_1 l0_2 a2 a3).bind fun t518 => ((r11_Entries.f kj6 t515 t518).bind fun t521 => (l11_RollTells.j1 kj6 a1 a4 l5 (!t521) a0_0 a0_1 l0_2)))))) else (l11_RollTells.j1 kj6 a1 a4 l5 true a0_0 a0_1 l0_2)) else (l11_RollTells.j1 kj6 a1 a4 l5 true a0_0 a0_1 l0_2)) else (l11_RollTells.j1 kj6 a1 a4 l5 true a0_0 a0_1 l0_2))))) = some r := H
        have A28 := Az.mk A280
        clear A280
        replace H := Option.bind_eq_some_iff.mp H
        obtain ⟨⟨t501, t502, t503⟩, A290, H⟩ := H
        replace H : ((roll_Term.f kj6 t501 t502 t503 a1).bind fun bt506 => ((r11_Term.f kj6 a0_0 a0_1 l0_2 a1).bind fun bt508 => (if t497 = t499 then (if t498 = t500 then (if bt506.1 = bt508.1 then (if (bt506.2 != bt508.2) = true then (l11_RollTells.j1 kj6 a1 a4 l5 true a0_0 a0_1 l0_2) else ((l11_own.f a0_0 a0_1 l0_2).bind fun bt510 => ((roll_Slice.f bt510.1 bt510.2.1 bt510.2.2 a2 a3).bind fun t515 => ((r11_Slice.f kj6 a0_0 a0_1 l0_2 a2 a3).bind fun t518 => ((r11_Entries.f kj6 t515 t518).bind fun t521 => (l11_RollTells.j1 kj6 a1 a4 l5 (!t521) a0_0 a0_1 l0_2)))))) else (l11_RollTells.j1 kj6 a1 a4 l5 true a0_0 a0_1 l0_2)) else (l11_RollTells.j1 kj6 a1 a4 l5 true a0_0 a0_1 l0_2)) else (l11_RollTells.j1 kj6 a1 a4 l5 true a0_0 a0_1 l0_2)))) = some r := H
        have A29 := Az.mk A290
        clear A290
        replace H := Option.bind_eq_some_iff.mp H
        obtain ⟨⟨t506, t507⟩, A300, H⟩ := H
        replace H : ((r11_Term.f kj6 a0_0 a0_1 l0_2 a1).bind fun bt508 => (if t497 = t499 then (if t498 = t500 then (if t506 = bt508.1 then (if (t507 != bt508.2) = true then (l11_RollTells.j1 kj6 a1 a4 l5 true a0_0 a0_1 l0_2) else ((l11_own.f a0_0 a0_1 l0_2).bind fun bt510 => ((roll_Slice.f bt510.1 bt510.2.1 bt510.2.2 a2 a3).bind fun t515 => ((r11_Slice.f kj6 a0_0 a0_1 l0_2 a2 a3).bind fun t518 => ((r11_Entries.f kj6 t515 t518).bind fun t521 => (l11_RollTells.j1 kj6 a1 a4 l5 (!t521) a0_0 a0_1 l0_2)))))) else (l11_RollTells.j1 kj6 a1 a4 l5 true a0_0 a0_1 l0_2)) else (l11_RollTells.j1 kj6 a1 a4 l5 true a0_0 a0_1 l0_2)) else (l11_RollTells.j1 kj6 a1 a4 l5 true a0_0 a0_1 l0_2))) = some r := H
        have A30 := Az.mk A300
        clear A300
        replace H := Option.bind_eq_some_iff.mp H
        obtain ⟨⟨t508, t509⟩, A310, H⟩ := H
        replace H : (if t497 = t499 then (if t498 = t500 then (if t506 = t508 then (if (t507 != t509) = true then (l11_RollTells.j1 kj6 a1 a4 l5 true a0_0 a0_1 l0_2) else ((l11_own.f a0_0 a0_1 l0_2).bind fun bt510 => ((roll_Slice.f bt510.1 bt510.2.1 bt510.2.2 a2 a3).bind fun t515 => ((r11_Slice.f kj6 a0_0 a0_1 l0_2 a2 a3).bind fun t518 => ((r11_Entries.f kj6 t515 t518).bind fun t521 => (l11_RollTells.j1 kj6 a1 a4 l5 (!t521) a0_0 a0_1 l0_2)))))) else (l11_RollTells.j1 kj6 a1 a4 l5 true a0_0 a0_1 l0_2)) else (l11_RollTells.j1 kj6 a1 a4 l5 true a0_0 a0_1 l0_2)) else (l11_RollTells.j1 kj6 a1 a4 l5 true a0_0 a0_1 l0_2)) = some r := H
        have A31 := Az.mk A310
        clear A310
        have HC32 := Az.mk H
        clear H
        have hcz33_0 : wc.cell? ⟨gb488, 0, none⟩ = some (.int .i64 a0_0) := (bkC BK488.out 0).trans rfl
        have hcz33_1 : wc.cell? ⟨gb488, 1, none⟩ = some (.int .i64 a0_1) := (bkC BK488.out 1).trans rfl
        have hcz33_2 : wc.cell? ⟨gb488, 2, none⟩ = some (.slice A0_2 l0_2.length c0_2) := (bkC BK488.out 2).trans rfl
        have hfz33_0 := bkF BK488.out 0
        have hfz33_1 := bkF BK488.out 1
        have hfz33_2 := bkF BK488.out 2
        go_upto_region 7 with (first | ((with_reducible refine gtc (f := 16) rfl ?_); refine goesL_ (some 37) rfl rfl Tryd.func16 (by kernel_rfl) rfl #[.agg #[.int .i64 a0_0, .int .i64 a0_1, .slice A0_2 l0_2.length c0_2]] rfl (by (try simp only [List.map_toArray, List.map_cons, List.map_nil]); first | done | rfl | (simp only [List.length_drop, List.length_take]; rfl)) ?_; (with_reducible refine (l11_own.calls a0_0 a0_1 _ _ l0_2 t492 t493 t494 _ ?side1 ?side2 ?side3 A26.out).mono ?_); (case side1 => exact hG.below (by repeat (first | (with_reducible first | exact HB.out | apply pbA | apply pbN | apply pb1 | refine pbS ?_ GE488.out) | exact HB.out))); (case side2 => repeat (first | exact (Kd.C_below HR0_2.out HB.out) | (with_reducible refine Kd.C_alloc ?_ _) | (with_reducible refine Kd.C_drewN ?_ _) | (with_reducible refine Kd.C_drew ?_))); (case side3 => exact HC0_2.out); rintro e w34 ⟨v495, rfl, ho0, hb⟩; refine ⟨_, rfl, ?_⟩; have n0_ := Az.mk (Kd.R_lower ho0 (pbZ (by repeat (first | (with_reducible first | exact HB.out | apply pbA | apply pbN | apply pb1 | refine pbS ?_ GE488.out) | exact HB.out)))); have n1_ := Az.mk (bkB (g := gb488) (o := .cells #[.int .i64 a0_0, .int .i64 a0_1, .slice A0_2 l0_2.length c0_2] 24 (0, 0)) (by (with_reducible repeat (first | refine bkN ?_ _ | refine bkD ?_ | refine bkA ?_ _)); exact BK488.out) hb); have n2_ := Az.mk (pbT (by repeat (first | (with_reducible first | exact HB.out | apply pbA | apply pbN | apply pb1 | refine pbS ?_ GE488.out) | exact HB.out)) hb); clear BK488; clear HB; have HO496 := n0_; have BK488 := n1_; have HB := n2_; clear n0_ n1_ n2_; (try clear hb); (try clear hb2); (try clear hk); (try clear hi); (try clear ho0); obtain ⟨Ao35, co35, eo35⟩ := Kd.R_slice HO496.out; subst eo35) | ((with_reducible refine gtc (f := 21) rfl ?_); refine goesL_ (some 38) rfl rfl Tryd.func21 (by kernel_rfl) rfl #[.agg #[.int .i64 t492, .int .i64 t493, .slice Ao35 t494.length co35]] rfl (by (try simp only [List.map_toArray, List.map_cons, List.map_nil]); first | done | rfl | (simp only [List.length_drop, List.length_take]; rfl)) ?_; (with_reducible refine (roll_Last.calls kj6 t492 t493 _ _ t494 t497 t498 _ ?side1 ?side2 ?side3 A27.out).mono ?_); (case side1 => exact hG.below (by repeat (first | (with_reducible first | exact HB.out | apply pbA | apply pbN | apply pb1 | refine pbS ?_ GE488.out) | exact HB.out))); (case side2 => repeat (first | exact (Kd.R_reads' HO496.out).2.2 | (with_reducible refine Kd.C_alloc ?_ _) | (with_reducible refine Kd.C_drewN ?_ _) | (with_reducible refine Kd.C_drew ?_))); (case side3 => exact (Kd.R_reads' HO496.out).2.1); rintro e w36 ⟨rfl, hb⟩; refine ⟨_, rfl, ?_⟩; have n0_ := Az.mk (Kd.R_below (by (with_reducible repeat (first | apply Kd.R_alloc | apply Kd.R_drewN | apply Kd.R_drew)); exact HO496.out) hb); have n1_ := Az.mk (bkB (g := gb488) (o := .cells #[.int .i64 a0_0, .int .i64 a0_1, .slice A0_2 l0_2.length c0_2] 24 (0, 0)) (by (with_reducible repeat (first | refine bkN ?_ _ | refine bkD ?_ | refine bkA ?_ _)); exact BK488.out) hb); have n2_ := Az.mk (pbT (by repeat (first | (with_reducible first | exact HB.out | apply pbA | apply pbN | apply pb1 | refine pbS ?_ GE488.out) | exact HB.out)) hb); clear HO496; clear BK488; clear HB; have HO496 := n0_; have BK488 := n1_; have HB := n2_; clear n0_ n1_ n2_; (try clear hb); (try clear hb2); (try clear hk); (try clear hi); have hcz37_0 : w36.cell? ⟨gb488, 0, none⟩ = some (.int .i64 a0_0) := (bkC BK488.out 0).trans rfl; have hcz37_1 : w36.cell? ⟨gb488, 1, none⟩ = some (.int .i64 a0_1) := (bkC BK488.out 1).trans rfl; have hcz37_2 : w36.cell? ⟨gb488, 2, none⟩ = some (.slice A0_2 l0_2.length c0_2) := (bkC BK488.out 2).trans rfl; have hfz37_0 := bkF BK488.out 0; have hfz37_1 := bkF BK488.out 1; have hfz37_2 := bkF BK488.out 2) | ((with_reducible refine gtc (f := 27) rfl ?_); refine goesL_ (some 43) rfl rfl Tryd.func27 (by kernel_rfl) rfl #[.agg #[.int .i64 a0_0, .int .i64 a0_1, .slice A0_2 l0_2.length c0_2]] rfl (by (try simp only [List.map_toArray, List.map_cons, List.map_nil]); first | done | rfl | (simp only [List.length_drop, List.length_take]; rfl)) ?_; (with_reducible refine (r11_Last.calls a0_0 a0_1 _ _ l0_2 t499 t500 _ ?side1 ?side2 ?side3 A28.out).mono ?_); (case side1 => exact hG.below (by repeat (first | (with_reducible first | exact HB.out | apply pbA | apply pbN | apply pb1 | refine pbS ?_ GE488.out) | exact HB.out))); (case side2 => repeat (first | exact (Kd.C_below HR0_2.out HB.out) | (with_reducible refine Kd.C_alloc ?_ _) | (with_reducible refine Kd.C_drewN ?_ _) | (with_reducible refine Kd.C_drew ?_))); (case side3 => exact HC0_2.out); rintro e w38 ⟨rfl, hb⟩; refine ⟨_, rfl, ?_⟩; have n0_ := Az.mk (Kd.R_below (by (with_reducible repeat (first | apply Kd.R_alloc | apply Kd.R_drewN | apply Kd.R_drew)); exact HO496.out) hb); have n1_ := Az.mk (bkB (g := gb488) (o := .cells #[.int .i64 a0_0, .int .i64 a0_1, .slice A0_2 l0_2.length c0_2] 24 (0, 0)) (by (with_reducible repeat (first | refine bkN ?_ _ | refine bkD ?_ | refine bkA ?_ _)); exact BK488.out) hb); have n2_ := Az.mk (pbT (by repeat (first | (with_reducible first | exact HB.out | apply pbA | apply pbN | apply pb1 | refine pbS ?_ GE488.out) | exact HB.out)) hb); clear HO496; clear BK488; clear HB; have HO496 := n0_; have BK488 := n1_; have HB := n2_; clear n0_ n1_ n2_; (try clear hb); (try clear hb2); (try clear hk); (try clear hi); have hcz39_0 : w38.cell? ⟨gb488, 0, none⟩ = some (.int .i64 a0_0) := (bkC BK488.out 0).trans rfl; have hcz39_1 : w38.cell? ⟨gb488, 1, none⟩ = some (.int .i64 a0_1) := (bkC BK488.out 1).trans rfl; have hcz39_2 : w38.cell? ⟨gb488, 2, none⟩ = some (.slice A0_2 l0_2.length c0_2) := (bkC BK488.out 2).trans rfl; have hfz39_0 := bkF BK488.out 0; have hfz39_1 := bkF BK488.out 1; have hfz39_2 := bkF BK488.out 2) | ((with_reducible refine gtc (f := 16) rfl ?_); refine goesL_ (some 48) rfl rfl Tryd.func16 (by kernel_rfl) rfl #[.agg #[.int .i64 a0_0, .int .i64 a0_1, .slice A0_2 l0_2.length c0_2]] rfl (by (try simp only [List.map_toArray, List.map_cons, List.map_nil]); first | done | rfl | (simp only [List.length_drop, List.length_take]; rfl)) ?_; (with_reducible refine (l11_own.calls a0_0 a0_1 _ _ l0_2 t501 t502 t503 _ ?side1 ?side2 ?side3 A29.out).mono ?_); (case side1 => exact hG.below (by repeat (first | (with_reducible first | exact HB.out | apply pbA | apply pbN | apply pb1 | refine pbS ?_ GE488.out) | exact HB.out))); (case side2 => repeat (first | exact (Kd.C_below HR0_2.out HB.out) | (with_reducible refine Kd.C_alloc ?_ _) | (with_reducible refine Kd.C_drewN ?_ _) | (with_reducible refine Kd.C_drew ?_))); (case side3 => exact HC0_2.out); rintro e w40 ⟨v504, rfl, ho0, hb⟩; refine ⟨_, rfl, ?_⟩; have n0_ := Az.mk (Kd.R_elder' (by (with_reducible repeat (first | apply Kd.R_alloc | apply Kd.R_drewN | apply Kd.R_drew)); exact HO496.out) (Kd.R_base ho0) hb); have n1_ := Az.mk (Kd.R_lower (Kd.R_new' ho0 (Kd.R_lt (by (with_reducible repeat (first | apply Kd.R_alloc | apply Kd.R_drewN | apply Kd.R_drew)); exact HO496.out))) (pbZ (by repeat (first | (with_reducible first | exact HB.out | apply pbA | apply pbN | apply pb1 | refine pbS ?_ GE488.out) | exact HB.out)))); have n2_ := Az.mk (bkB (g := gb488) (o := .cells #[.int .i64 a0_0, .int .i64 a0_1, .slice A0_2 l0_2.length c0_2] 24 (0, 0)) (by (with_reducible repeat (first | refine bkN ?_ _ | refine bkD ?_ | refine bkA ?_ _)); exact BK488.out) hb); have n3_ := Az.mk (pbT (by repeat (first | (with_reducible first | exact HB.out | apply pbA | apply pbN | apply pb1 | refine pbS ?_ GE488.out) | exact HB.out)) hb); clear HO496; clear BK488; clear HB; have HO496 := n0_; have HO505 := n1_; have BK488 := n2_; have HB := n3_; clear n0_ n1_ n2_ n3_; (try clear hb); (try clear hb2); (try clear hk); (try clear hi); (try clear ho0); obtain ⟨Ao41, co41, eo41⟩ := Kd.R_slice HO505.out; subst eo41) | ((with_reducible refine gtc (f := 24) rfl ?_); refine goesL_ (some 50) rfl rfl Tryd.func24 (by kernel_rfl) rfl #[.agg #[.int .i64 t501, .int .i64 t502, .slice Ao41 t503.length co41], .int .i64 a1] rfl (by (try simp only [List.map_toArray, List.map_cons, List.map_nil]); first | done | rfl | (simp only [List.length_drop, List.length_take]; rfl)) ?_; (with_reducible refine (roll_Term.calls kj6 t501 t502 _ _ t503 a1 t506 t507 _ ?side1 ?side2 ?side3 A30.out).mono ?_); (case side1 => exact hG.below (by repeat (first | (with_reducible first | exact HB.out | apply pbA | apply pbN | apply pb1 | refine pbS ?_ GE488.out) | exact HB.out))); (case side2 => repeat (first | exact (Kd.R_reads' HO505.out).2.2 | (with_reducible refine Kd.C_alloc ?_ _) | (with_reducible refine Kd.C_drewN ?_ _) | (with_reducible refine Kd.C_drew ?_))); (case side3 => exact (Kd.R_reads' HO505.out).2.1); rintro e w42 ⟨rfl, hb⟩; refine ⟨_, rfl, ?_⟩; have n0_ := Az.mk (Kd.R_below (by (with_reducible repeat (first | apply Kd.R_alloc | apply Kd.R_drewN | apply Kd.R_drew)); exact HO496.out) hb); have n1_ := Az.mk (Kd.R_below (by (with_reducible repeat (first | apply Kd.R_alloc | apply Kd.R_drewN | apply Kd.R_drew)); exact HO505.out) hb); have n2_ := Az.mk (bkB (g := gb488) (o := .cells #[.int .i64 a0_0, .int .i64 a0_1, .slice A0_2 l0_2.length c0_2] 24 (0, 0)) (by (with_reducible repeat (first | refine bkN ?_ _ | refine bkD ?_ | refine bkA ?_ _)); exact BK488.out) hb); have n3_ := Az.mk (pbT (by repeat (first | (with_reducible first | exact HB.out | apply pbA | apply pbN | apply pb1 | refine pbS ?_ GE488.out) | exact HB.out)) hb); clear HO496; clear HO505; clear BK488; clear HB; have HO496 := n0_; have HO505 := n1_; have BK488 := n2_; have HB := n3_; clear n0_ n1_ n2_ n3_; (try clear hb); (try clear hb2); (try clear hk); (try clear hi); have hcz43_0 : w42.cell? ⟨gb488, 0, none⟩ = some (.int .i64 a0_0) := (bkC BK488.out 0).trans rfl; have hcz43_1 : w42.cell? ⟨gb488, 1, none⟩ = some (.int .i64 a0_1) := (bkC BK488.out 1).trans rfl; have hcz43_2 : w42.cell? ⟨gb488, 2, none⟩ = some (.slice A0_2 l0_2.length c0_2) := (bkC BK488.out 2).trans rfl; have hfz43_0 := bkF BK488.out 0; have hfz43_1 := bkF BK488.out 1; have hfz43_2 := bkF BK488.out 2) | ((with_reducible refine gtc (f := 28) rfl ?_); refine goesL_ (some 56) rfl rfl Tryd.func28 (by kernel_rfl) rfl #[.agg #[.int .i64 a0_0, .int .i64 a0_1, .slice A0_2 l0_2.length c0_2], .int .i64 a1] rfl (by (try simp only [List.map_toArray, List.map_cons, List.map_nil]); first | done | rfl | (simp only [List.length_drop, List.length_take]; rfl)) ?_; (with_reducible refine (r11_Term.calls kj6 a0_0 a0_1 _ _ l0_2 a1 t508 t509 _ ?side1 ?side2 ?side3 A31.out).mono ?_); (case side1 => exact hG.below (by repeat (first | (with_reducible first | exact HB.out | apply pbA | apply pbN | apply pb1 | refine pbS ?_ GE488.out) | exact HB.out))); (case side2 => repeat (first | exact (Kd.C_below HR0_2.out HB.out) | (with_reducible refine Kd.C_alloc ?_ _) | (with_reducible refine Kd.C_drewN ?_ _) | (with_reducible refine Kd.C_drew ?_))); (case side3 => exact HC0_2.out); rintro e w44 ⟨rfl, hb⟩; refine ⟨_, rfl, ?_⟩; have n0_ := Az.mk (Kd.R_below (by (with_reducible repeat (first | apply Kd.R_alloc | apply Kd.R_drewN | apply Kd.R_drew)); exact HO496.out) hb); have n1_ := Az.mk (Kd.R_below (by (with_reducible repeat (first | apply Kd.R_alloc | apply Kd.R_drewN | apply Kd.R_drew)); exact HO505.out) hb); have n2_ := Az.mk (bkB (g := gb488) (o := .cells #[.int .i64 a0_0, .int .i64 a0_1, .slice A0_2 l0_2.length c0_2] 24 (0, 0)) (by (with_reducible repeat (first | refine bkN ?_ _ | refine bkD ?_ | refine bkA ?_ _)); exact BK488.out) hb); have n3_ := Az.mk (pbT (by repeat (first | (with_reducible first | exact HB.out | apply pbA | apply pbN | apply pb1 | refine pbS ?_ GE488.out) | exact HB.out)) hb); clear HO496; clear HO505; clear BK488; clear HB; have HO496 := n0_; have HO505 := n1_; have BK488 := n2_; have HB := n3_; clear n0_ n1_ n2_ n3_; (try clear hb); (try clear hb2); (try clear hk); (try clear hi)))
        (try simp only [Act.put, List.setIfInBounds_toArray, List.set_cons_zero, List.set_cons_succ])
        go_cut [89] (fun v89 wc => ∃ (kq : Nat) (x89_31 : Bool), v89 = .bool x89_31 ∧ Az (l11_RollTells.j1 kq a1 a4 l5 x89_31 a0_0 a0_1 l0_2 = some r) ∧ Az (kq ≤ kj6) ∧ Az (wc.heap[gb488]? = some (.cells #[.int .i64 a0_0, .int .i64 a0_1, (.slice A0_2 l0_2.length c0_2)] 24 (0, 0))) ∧ Az (Below w.heap.size w wc))
        case first =>
          have H := HC32.out
          clear HC32
          by_cases c45 : t497 = t499
          · rw [if_pos c45] at H
            have c45b0 : (t497 == t499) = true := beq_iff_eq.mpr c45
            have c45b1 : (t497 != t499) = false := bne_eq_false_iff_eq.mpr c45
            clear c45
            (first | rw [c45b0] | (simp only [i64_w, i32_w]; rw [c45b0]) | skip)
            by_cases c46 : t498 = t500
            · rw [if_pos c46] at H
              have c46b0 : (t498 == t500) = true := beq_iff_eq.mpr c46
              have c46b1 : (t498 != t500) = false := bne_eq_false_iff_eq.mpr c46
              clear c46
              by_cases c47 : t506 = t508
              · rw [if_pos c47] at H
                have c47b0 : (t506 == t508) = true := beq_iff_eq.mpr c47
                have c47b1 : (t506 != t508) = false := bne_eq_false_iff_eq.mpr c47
                clear c47
                by_cases c48 : (t507 != t509) = true
                · rw [if_pos c48] at H
                  have c48b0 : (t507 != t509) = true := c48
                  (try (have c48b1 : decide (t507 = t509) = false := by simpa using c48))
                  (try (have c48b2 : (t507 == t509) = false := by simpa using c48))
                  (try (have c48b3 : ¬ (t507 = t509) := by simpa using c48))
                  clear c48
                  have H' := Az.mk H
                  clear H
                  try go_wp2
                  have n0_ := Az.mk (Kd.R_drew HO496.out)
                  have n1_ := Az.mk (Kd.R_drew HO505.out)
                  have n2_ := Az.mk (bkD BK488.out)
                  have n3_ := Az.mk (pb1 HB.out)
                  clear HO496
                  clear HO505
                  clear BK488
                  clear HB
                  have HO496 := n0_
                  have HO505 := n1_
                  have BK488 := n2_
                  have HB := n3_
                  clear n0_ n1_ n2_ n3_
                  refine start_ (n := 31) (S := fun w' => True) (ds := []) #[false, false, false, false, false, false, false, false, false, false, false, false, false, false, false, false, false, false, false, false, false, false, false, false, false, false, false, false, false, false, false] (by kernel_rfl) rfl rfl trivial (fun hHeld => ?_); refine with_tabW l11_RollTells.tab7 l11_RollTells.bits7 (fun HT_ HW_ => ?_)
                  generalize w44.drew = w49 at HO496 HO505 BK488 HB hHeld ⊢
                  refine pure_ (i := 0) (N := some 59) (v := ?_) (a' := ?_) #[true, false, false, false, false, false, false, false, false, false, false, false, false, false, false, false, false, false, false, false, false, false, false, false, false, false, false, false, false, false, false] rfl rfl (any_of HT_.out (by kernel_rfl)) (fun _ _ _ h => h) (Or.inl ⟨by rfl, ?_⟩) ?_ ?_
                  rotate_left
                  · intro w'
                    go_simp
                    with_reducible rfl
                  rotate_left
                  · simp only [Act.put, List.setIfInBounds_toArray, List.set_cons_zero, List.set_cons_succ, i64_w, i32_w]
                    rfl
                  refine pure_ (i := 1) (N := some 60) (v := ?_) (a' := ?_) #[true, true, false, false, false, false, false, false, false, false, false, false, false, false, false, false, false, false, false, false, false, false, false, false, false, false, false, false, false, false, false] rfl rfl (any_of HT_.out (by kernel_rfl)) (fun _ _ _ h => h) (Or.inl ⟨by rfl, ?_⟩) ?_ ?_
                  rotate_left
                  · intro w'
                    go_simp
                    with_reducible rfl
                  rotate_left
                  · simp only [Act.put, List.setIfInBounds_toArray, List.set_cons_zero, List.set_cons_succ, i64_w, i32_w]
                    rfl
                  refine pure_ (i := 2) (N := some 61) (v := ?_) (a' := ?_) #[true, true, true, false, false, false, false, false, false, false, false, false, false, false, false, false, false, false, false, false, false, false, false, false, false, false, false, false, false, false, false] rfl rfl (any_of HT_.out (by kernel_rfl)) (fun _ _ _ h => h) (Or.inl ⟨by rfl, ?_⟩) ?_ ?_
                  rotate_left
                  · intro w'
                    go_simp
                    with_reducible rfl
                  rotate_left
                  · simp only [Act.put, List.setIfInBounds_toArray, List.set_cons_zero, List.set_cons_succ, i64_w, i32_w]
                    rfl
                  refine pure_ (i := 3) (N := some 62) (v := ?_) (a' := ?_) #[true, true, true, true, false, false, false, false, false, false, false, false, false, false, false, false, false, false, false, false, false, false, false, false, false, false, false, false, false, false, false] rfl rfl (any_of HT_.out (by kernel_rfl)) (fun _ _ _ h => h) (Or.inl ⟨by rfl, ?_⟩) ?_ ?_
                  rotate_left
                  · intro w'
                    go_simp
                    with_reducible rfl
                  rotate_left
                  · simp only [Act.put, List.setIfInBounds_toArray, List.set_cons_zero, List.set_cons_succ, i64_w, i32_w]
                    rfl
                  refine pure_ (i := 4) (N := some 63) (v := ?_) (a' := ?_) #[true, true, true, true, true, false, false, false, false, false, false, false, false, false, false, false, false, false, false, false, false, false, false, false, false, false, false, false, false, false, false] rfl rfl (any_of HT_.out (by kernel_rfl)) (fun _ _ _ h => h) (Or.inl ⟨by rfl, ?_⟩) ?_ ?_
                  rotate_left
                  · intro w'
                    go_simp
                    with_reducible rfl
                  rotate_left
                  · simp only [Act.put, List.setIfInBounds_toArray, List.set_cons_zero, List.set_cons_succ, i64_w, i32_w]
                    rfl
                  refine pure_ (i := 5) (N := some 64) (v := ?_) (a' := ?_) #[true, true, true, true, true, true, false, false, false, false, false, false, false, false, false, false, false, false, false, false, false, false, false, false, false, false, false, false, false, false, false] rfl rfl (any_of HT_.out (by kernel_rfl)) (fun _ _ _ h => h) (Or.inl ⟨by rfl, ?_⟩) ?_ ?_
                  rotate_left
                  · intro w'
                    go_simp
                    with_reducible rfl
                  rotate_left
                  · simp only [Act.put, List.setIfInBounds_toArray, List.set_cons_zero, List.set_cons_succ, i64_w, i32_w]
                    rfl
                  refine pure_ (i := 6) (N := some 65) (v := ?_) (a' := ?_) #[true, true, true, true, true, true, true, false, false, false, false, false, false, false, false, false, false, false, false, false, false, false, false, false, false, false, false, false, false, false, false] rfl rfl (any_of HT_.out (by kernel_rfl)) (fun _ _ _ h => h) (Or.inl ⟨by rfl, ?_⟩) ?_ ?_
                  rotate_left
                  · intro w'
                    go_simp
                    with_reducible rfl
                  rotate_left
                  · simp only [Act.put, List.setIfInBounds_toArray, List.set_cons_zero, List.set_cons_succ, i64_w, i32_w]
                    rfl
                  refine pure_ (i := 7) (N := some 66) (v := ?_) (a' := ?_) #[true, true, true, true, true, true, true, true, false, false, false, false, false, false, false, false, false, false, false, false, false, false, false, false, false, false, false, false, false, false, false] rfl rfl (any_of HT_.out (by kernel_rfl)) (fun _ _ _ h => h) (Or.inl ⟨by rfl, ?_⟩) ?_ ?_
                  rotate_left
                  · intro w'
                    go_simp
                    with_reducible rfl
                  rotate_left
                  · simp only [Act.put, List.setIfInBounds_toArray, List.set_cons_zero, List.set_cons_succ, i64_w, i32_w]
                    rfl
                  refine pure_ (i := 8) (N := some 67) (v := ?_) (a' := ?_) #[true, true, true, true, true, true, true, true, true, false, false, false, false, false, false, false, false, false, false, false, false, false, false, false, false, false, false, false, false, false, false] rfl rfl (any_of HT_.out (by kernel_rfl)) (fun _ _ _ h => h) (Or.inl ⟨by rfl, ?_⟩) ?_ ?_
                  rotate_left
                  · intro w'
                    go_simp
                    with_reducible rfl
                  rotate_left
                  · simp only [Act.put, List.setIfInBounds_toArray, List.set_cons_zero, List.set_cons_succ, i64_w, i32_w]
                    rfl
                  refine pure_ (i := 9) (N := some 68) (v := ?_) (a' := ?_) #[true, true, true, true, true, true, true, true, true, true, false, false, false, false, false, false, false, false, false, false, false, false, false, false, false, false, false, false, false, false, false] rfl rfl (any_of HT_.out (by kernel_rfl)) (fun _ _ _ h => h) (Or.inl ⟨by rfl, ?_⟩) ?_ ?_
                  rotate_left
                  · intro w'
                    go_simp
                    with_reducible rfl
                  rotate_left
                  · simp only [Act.put, List.setIfInBounds_toArray, List.set_cons_zero, List.set_cons_succ, i64_w, i32_w]
                    rfl
                  refine pure_ (i := 10) (N := some 69) (v := ?_) (a' := ?_) #[true, true, true, true, true, true, true, true, true, true, true, false, false, false, false, false, false, false, false, false, false, false, false, false, false, false, false, false, false, false, false] rfl rfl (any_of HT_.out (by kernel_rfl)) (fun _ _ _ h => h) (Or.inl ⟨by rfl, ?_⟩) ?_ ?_
                  rotate_left
                  · intro w'
                    go_simp
                    with_reducible rfl
                  rotate_left
                  · simp only [Act.put, List.setIfInBounds_toArray, List.set_cons_zero, List.set_cons_succ, i64_w, i32_w]
                    rfl
                  refine pure_ (i := 11) (N := some 70) (v := ?_) (a' := ?_) #[true, true, true, true, true, true, true, true, true, true, true, true, false, false, false, false, false, false, false, false, false, false, false, false, false, false, false, false, false, false, false] rfl rfl (any_of HT_.out (by kernel_rfl)) (fun _ _ _ h => h) (Or.inl ⟨by rfl, ?_⟩) ?_ ?_
                  rotate_left
                  · intro w'
                    go_simp
                    with_reducible rfl
                  rotate_left
                  · simp only [Act.put, List.setIfInBounds_toArray, List.set_cons_zero, List.set_cons_succ, i64_w, i32_w]
                    rfl
                  refine pure_ (i := 12) (N := some 71) (v := ?_) (a' := ?_) #[true, true, true, true, true, true, true, true, true, true, true, true, true, false, false, false, false, false, false, false, false, false, false, false, false, false, false, false, false, false, false] rfl rfl (any_of HT_.out (by kernel_rfl)) (fun _ _ _ h => h) (Or.inl ⟨by rfl, ?_⟩) ?_ ?_
                  rotate_left
                  · intro w'
                    go_simp
                    with_reducible rfl
                  rotate_left
                  · simp only [Act.put, List.setIfInBounds_toArray, List.set_cons_zero, List.set_cons_succ, i64_w, i32_w]
                    rfl
                  refine pure_ (i := 13) (N := some 72) (v := ?_) (a' := ?_) #[true, true, true, true, true, true, true, true, true, true, true, true, true, true, false, false, false, false, false, false, false, false, false, false, false, false, false, false, false, false, false] rfl rfl (any_of HT_.out (by kernel_rfl)) (fun _ _ _ h => h) (Or.inl ⟨by rfl, ?_⟩) ?_ ?_
                  rotate_left
                  · intro w'
                    go_simp
                    with_reducible rfl
                  rotate_left
                  · simp only [Act.put, List.setIfInBounds_toArray, List.set_cons_zero, List.set_cons_succ, i64_w, i32_w]
                    rfl
                  refine pure_ (i := 14) (N := some 73) (v := ?_) (a' := ?_) #[true, true, true, true, true, true, true, true, true, true, true, true, true, true, true, false, false, false, false, false, false, false, false, false, false, false, false, false, false, false, false] rfl rfl (any_of HT_.out (by kernel_rfl)) (fun _ _ _ h => h) (Or.inl ⟨by rfl, ?_⟩) ?_ ?_
                  rotate_left
                  · intro w'
                    go_simp
                    with_reducible rfl
                  rotate_left
                  · simp only [Act.put, List.setIfInBounds_toArray, List.set_cons_zero, List.set_cons_succ, i64_w, i32_w]
                    rfl
                  refine pure_ (i := 15) (N := some 74) (v := ?_) (a' := ?_) #[true, true, true, true, true, true, true, true, true, true, true, true, true, true, true, true, false, false, false, false, false, false, false, false, false, false, false, false, false, false, false] rfl rfl (any_of HT_.out (by kernel_rfl)) (fun _ _ _ h => h) (Or.inl ⟨by rfl, ?_⟩) ?_ ?_
                  rotate_left
                  · intro w'
                    go_simp
                    with_reducible rfl
                  rotate_left
                  · simp only [Act.put, List.setIfInBounds_toArray, List.set_cons_zero, List.set_cons_succ, i64_w, i32_w]
                    rfl
                  refine pure_ (i := 16) (N := some 75) (v := ?_) (a' := ?_) #[true, true, true, true, true, true, true, true, true, true, true, true, true, true, true, true, true, false, false, false, false, false, false, false, false, false, false, false, false, false, false] rfl rfl (any_of HT_.out (by kernel_rfl)) (fun _ _ _ h => h) (Or.inl ⟨by rfl, ?_⟩) ?_ ?_
                  rotate_left
                  · intro w'
                    go_simp
                    with_reducible rfl
                  rotate_left
                  · simp only [Act.put, List.setIfInBounds_toArray, List.set_cons_zero, List.set_cons_succ, i64_w, i32_w]
                    rfl
                  refine pure_ (i := 17) (N := some 76) (v := ?_) (a' := ?_) #[true, true, true, true, true, true, true, true, true, true, true, true, true, true, true, true, true, true, false, false, false, false, false, false, false, false, false, false, false, false, false] rfl rfl (any_of HT_.out (by kernel_rfl)) (fun _ _ _ h => h) (Or.inl ⟨by rfl, ?_⟩) ?_ ?_
                  rotate_left
                  · intro w'
                    go_simp
                    with_reducible rfl
                  rotate_left
                  · simp only [Act.put, List.setIfInBounds_toArray, List.set_cons_zero, List.set_cons_succ, i64_w, i32_w]
                    rfl
                  refine pure_ (i := 18) (N := some 77) (v := ?_) (a' := ?_) #[true, true, true, true, true, true, true, true, true, true, true, true, true, true, true, true, true, true, true, false, false, false, false, false, false, false, false, false, false, false, false] rfl rfl (any_of HT_.out (by kernel_rfl)) (fun _ _ _ h => h) (Or.inl ⟨by rfl, ?_⟩) ?_ ?_
                  rotate_left
                  · intro w'
                    go_simp
                    with_reducible rfl
                  rotate_left
                  · simp only [Act.put, List.setIfInBounds_toArray, List.set_cons_zero, List.set_cons_succ, i64_w, i32_w]
                    rfl
                  refine pure_ (i := 19) (N := some 78) (v := undef) (a' := ?_) #[true, true, true, true, true, true, true, true, true, true, true, true, true, true, true, true, true, true, true, true, false, false, false, false, false, false, false, false, false, false, false] rfl rfl (any_of HT_.out (by kernel_rfl)) (fun _ _ _ h => h) (Or.inr ⟨by rfl, rfl⟩) ?_ ?_
                  rotate_left
                  · simp only [Act.put, List.setIfInBounds_toArray, List.set_cons_zero, List.set_cons_succ, i64_w, i32_w]
                    rfl
                  refine pure_ (i := 20) (N := some 79) (v := undef) (a' := ?_) #[true, true, true, true, true, true, true, true, true, true, true, true, true, true, true, true, true, true, true, true, true, false, false, false, false, false, false, false, false, false, false] rfl rfl (any_of HT_.out (by kernel_rfl)) (fun _ _ _ h => h) (Or.inr ⟨by rfl, rfl⟩) ?_ ?_
                  rotate_left
                  · simp only [Act.put, List.setIfInBounds_toArray, List.set_cons_zero, List.set_cons_succ, i64_w, i32_w]
                    rfl
                  refine pure_ (i := 21) (N := some 80) (v := undef) (a' := ?_) #[true, true, true, true, true, true, true, true, true, true, true, true, true, true, true, true, true, true, true, true, true, true, false, false, false, false, false, false, false, false, false] rfl rfl (any_of HT_.out (by kernel_rfl)) (fun _ _ _ h => h) (Or.inr ⟨by rfl, rfl⟩) ?_ ?_
                  rotate_left
                  · simp only [Act.put, List.setIfInBounds_toArray, List.set_cons_zero, List.set_cons_succ, i64_w, i32_w]
                    rfl
                  refine pure_ (i := 22) (N := some 81) (v := undef) (a' := ?_) #[true, true, true, true, true, true, true, true, true, true, true, true, true, true, true, true, true, true, true, true, true, true, true, false, false, false, false, false, false, false, false] rfl rfl (any_of HT_.out (by kernel_rfl)) (fun _ _ _ h => h) (Or.inr ⟨by rfl, rfl⟩) ?_ ?_
                  rotate_left
                  · simp only [Act.put, List.setIfInBounds_toArray, List.set_cons_zero, List.set_cons_succ, i64_w, i32_w]
                    rfl
                  refine pure_ (i := 23) (N := some 82) (v := undef) (a' := ?_) #[true, true, true, true, true, true, true, true, true, true, true, true, true, true, true, true, true, true, true, true, true, true, true, true, false, false, false, false, false, false, false] rfl rfl (any_of HT_.out (by kernel_rfl)) (fun _ _ _ h => h) (Or.inr ⟨by rfl, rfl⟩) ?_ ?_
                  rotate_left
                  · simp only [Act.put, List.setIfInBounds_toArray, List.set_cons_zero, List.set_cons_succ, i64_w, i32_w]
                    rfl
                  refine pure_ (i := 24) (N := some 83) (v := undef) (a' := ?_) #[true, true, true, true, true, true, true, true, true, true, true, true, true, true, true, true, true, true, true, true, true, true, true, true, true, false, false, false, false, false, false] rfl rfl (any_of HT_.out (by kernel_rfl)) (fun _ _ _ h => h) (Or.inr ⟨by rfl, rfl⟩) ?_ ?_
                  rotate_left
                  · simp only [Act.put, List.setIfInBounds_toArray, List.set_cons_zero, List.set_cons_succ, i64_w, i32_w]
                    rfl
                  refine pure_ (i := 25) (N := some 84) (v := undef) (a' := ?_) #[true, true, true, true, true, true, true, true, true, true, true, true, true, true, true, true, true, true, true, true, true, true, true, true, true, true, false, false, false, false, false] rfl rfl (any_of HT_.out (by kernel_rfl)) (fun _ _ _ h => h) (Or.inr ⟨by rfl, rfl⟩) ?_ ?_
                  rotate_left
                  · simp only [Act.put, List.setIfInBounds_toArray, List.set_cons_zero, List.set_cons_succ, i64_w, i32_w]
                    rfl
                  refine pure_ (i := 26) (N := some 85) (v := undef) (a' := ?_) #[true, true, true, true, true, true, true, true, true, true, true, true, true, true, true, true, true, true, true, true, true, true, true, true, true, true, true, false, false, false, false] rfl rfl (any_of HT_.out (by kernel_rfl)) (fun _ _ _ h => h) (Or.inr ⟨by rfl, rfl⟩) ?_ ?_
                  rotate_left
                  · simp only [Act.put, List.setIfInBounds_toArray, List.set_cons_zero, List.set_cons_succ, i64_w, i32_w]
                    rfl
                  refine pure_ (i := 27) (N := some 86) (v := undef) (a' := ?_) #[true, true, true, true, true, true, true, true, true, true, true, true, true, true, true, true, true, true, true, true, true, true, true, true, true, true, true, true, false, false, false] rfl rfl (any_of HT_.out (by kernel_rfl)) (fun _ _ _ h => h) (Or.inr ⟨by rfl, rfl⟩) ?_ ?_
                  rotate_left
                  · simp only [Act.put, List.setIfInBounds_toArray, List.set_cons_zero, List.set_cons_succ, i64_w, i32_w]
                    rfl
                  refine pure_ (i := 28) (N := some 87) (v := undef) (a' := ?_) #[true, true, true, true, true, true, true, true, true, true, true, true, true, true, true, true, true, true, true, true, true, true, true, true, true, true, true, true, true, false, false] rfl rfl (any_of HT_.out (by kernel_rfl)) (fun _ _ _ h => h) (Or.inr ⟨by rfl, rfl⟩) ?_ ?_
                  rotate_left
                  · simp only [Act.put, List.setIfInBounds_toArray, List.set_cons_zero, List.set_cons_succ, i64_w, i32_w]
                    rfl
                  refine pure_ (i := 29) (N := some 88) (v := undef) (a' := ?_) #[true, true, true, true, true, true, true, true, true, true, true, true, true, true, true, true, true, true, true, true, true, true, true, true, true, true, true, true, true, true, false] rfl rfl (any_of HT_.out (by kernel_rfl)) (fun _ _ _ h => h) (Or.inr ⟨by rfl, rfl⟩) ?_ ?_
                  rotate_left
                  · simp only [Act.put, List.setIfInBounds_toArray, List.set_cons_zero, List.set_cons_succ, i64_w, i32_w]
                    rfl
                  refine pure_ (i := 30) (N := some 89) (v := ?_) (a' := ?_) #[true, true, true, true, true, true, true, true, true, true, true, true, true, true, true, true, true, true, true, true, true, true, true, true, true, true, true, true, true, true, true] rfl rfl (any_of HT_.out (by kernel_rfl)) (fun _ _ _ h => h) (Or.inl ⟨by rfl, ?_⟩) ?_ ?_
                  rotate_left
                  · intro w'
                    go_simp
                    with_reducible rfl
                  rotate_left
                  · simp only [Act.put, List.setIfInBounds_toArray, List.set_cons_zero, List.set_cons_succ, i64_w, i32_w]
                    rfl
                  refine done_ (done_of HT_.out (by kernel_rfl)) ?_
                  try go_wp2
                  go_meet
                  case rel => exact ⟨_, (true), (by first | rfl | (simp; done) | (simp [*]; done)), H', ⟨by have := HJ6.out; first | omega | exact Nat.le_refl _⟩, ⟨by (with_reducible repeat (first | refine bkN ?_ _ | refine bkD ?_ | refine bkA ?_ _)); exact BK488.out⟩, ⟨by repeat (first | (with_reducible first | exact HB.out | apply pbA | apply pbN | apply pb1 | refine pbS ?_ GE488.out) | exact HB.out)⟩⟩
                · rw [if_neg c48] at H
                  have c48b0 : (t507 != t509) = false := by simpa using c48
                  (try (have c48b1 : decide (t507 = t509) = true := by simpa using c48))
                  (try (have c48b2 : (t507 == t509) = true := by simpa using c48))
                  clear c48
                  replace H := Option.bind_eq_some_iff.mp H
                  obtain ⟨⟨t510, t511, t512⟩, A500, H⟩ := H
                  replace H : ((roll_Slice.f t510 t511 t512 a2 a3).bind fun t515 => ((r11_Slice.f kj6 a0_0 a0_1 l0_2 a2 a3).bind fun t518 => ((r11_Entries.f kj6 t515 t518).bind fun t521 => (l11_RollTells.j1 kj6 a1 a4 l5 (!t521) a0_0 a0_1 l0_2)))) = some r := H
                  have A50 := Az.mk A500
                  clear A500
                  replace H := Option.bind_eq_some_iff.mp H
                  obtain ⟨t515, A510, H⟩ := H
                  replace H : ((r11_Slice.f kj6 a0_0 a0_1 l0_2 a2 a3).bind fun t518 => ((r11_Entries.f kj6 t515 t518).bind fun t521 => (l11_RollTells.j1 kj6 a1 a4 l5 (!t521) a0_0 a0_1 l0_2))) = some r := H
                  have A51 := Az.mk A510
                  clear A510
                  replace H := Option.bind_eq_some_iff.mp H
                  obtain ⟨t518, A520, H⟩ := H
                  replace H : ((r11_Entries.f kj6 t515 t518).bind fun t521 => (l11_RollTells.j1 kj6 a1 a4 l5 (!t521) a0_0 a0_1 l0_2)) = some r := H
                  have A52 := Az.mk A520
                  clear A520
                  replace H := Option.bind_eq_some_iff.mp H
                  obtain ⟨t521, A530, H⟩ := H
                  replace H : (l11_RollTells.j1 kj6 a1 a4 l5 (!t521) a0_0 a0_1 l0_2) = some r := H
                  have A53 := Az.mk A530
                  clear A530
                  have H' := Az.mk H
                  clear H
                  try go_wp2
                  have n0_ := Az.mk (Kd.R_drew HO496.out)
                  have n1_ := Az.mk (Kd.R_drew HO505.out)
                  have n2_ := Az.mk (bkD BK488.out)
                  have n3_ := Az.mk (pb1 HB.out)
                  clear HO496
                  clear HO505
                  clear BK488
                  clear HB
                  have HO496 := n0_
                  have HO505 := n1_
                  have BK488 := n2_
                  have HB := n3_
                  clear n0_ n1_ n2_ n3_
                  refine start_ (n := 31) (S := fun w' => w'.cell? ⟨gb488, 0, none⟩ = some (.int .i64 a0_0) ∧ w'.cell? ⟨gb488, 1, none⟩ = some (.int .i64 a0_1) ∧ w'.cell? ⟨gb488, 2, none⟩ = some (.slice A0_2 l0_2.length c0_2)) (ds := []) #[false, false, false, false, false, false, false, false, false, false, false, false, false, false, false, false, false, false, false, false, false, false, false, false, false, false, false, false, false, false, false] (by kernel_rfl) rfl rfl ⟨(bkC BK488.out 0).trans rfl, (bkC BK488.out 1).trans rfl, (bkC BK488.out 2).trans rfl⟩ (fun hHeld => ?_); refine with_tabW l11_RollTells.tab7 l11_RollTells.bits7 (fun HT_ HW_ => ?_)
                  generalize w44.drew = w54 at HO496 HO505 BK488 HB hHeld ⊢
                  refine pure_ (i := 0) (N := some 59) (v := ?_) (a' := ?_) #[true, false, false, false, false, false, false, false, false, false, false, false, false, false, false, false, false, false, false, false, false, false, false, false, false, false, false, false, false, false, false] rfl rfl (any_of HT_.out (by kernel_rfl)) (fun _ _ _ h => h) (Or.inl ⟨by rfl, ?_⟩) ?_ ?_
                  rotate_left
                  · intro w'
                    go_simp
                    with_reducible rfl
                  rotate_left
                  · simp only [Act.put, List.setIfInBounds_toArray, List.set_cons_zero, List.set_cons_succ, i64_w, i32_w]
                    rfl
                  refine pure_ (i := 1) (N := some 60) (v := ?_) (a' := ?_) #[true, true, false, false, false, false, false, false, false, false, false, false, false, false, false, false, false, false, false, false, false, false, false, false, false, false, false, false, false, false, false] rfl rfl (any_of HT_.out (by kernel_rfl)) (fun _ _ _ h => h) (Or.inl ⟨by rfl, ?_⟩) ?_ ?_
                  rotate_left
                  · intro w'
                    go_simp
                    with_reducible rfl
                  rotate_left
                  · simp only [Act.put, List.setIfInBounds_toArray, List.set_cons_zero, List.set_cons_succ, i64_w, i32_w]
                    rfl
                  refine pure_ (i := 2) (N := some 61) (v := ?_) (a' := ?_) #[true, true, true, false, false, false, false, false, false, false, false, false, false, false, false, false, false, false, false, false, false, false, false, false, false, false, false, false, false, false, false] rfl rfl (any_of HT_.out (by kernel_rfl)) (fun _ _ _ h => h) (Or.inl ⟨by rfl, ?_⟩) ?_ ?_
                  rotate_left
                  · intro w'
                    go_simp
                    with_reducible rfl
                  rotate_left
                  · simp only [Act.put, List.setIfInBounds_toArray, List.set_cons_zero, List.set_cons_succ, i64_w, i32_w]
                    rfl
                  refine pure_ (i := 3) (N := some 62) (v := ?_) (a' := ?_) #[true, true, true, true, false, false, false, false, false, false, false, false, false, false, false, false, false, false, false, false, false, false, false, false, false, false, false, false, false, false, false] rfl rfl (any_of HT_.out (by kernel_rfl)) (fun _ _ _ h => h) (Or.inl ⟨by rfl, ?_⟩) ?_ ?_
                  rotate_left
                  · intro w'
                    go_simp
                    with_reducible rfl
                  rotate_left
                  · simp only [Act.put, List.setIfInBounds_toArray, List.set_cons_zero, List.set_cons_succ, i64_w, i32_w]
                    rfl
                  refine pure_ (i := 4) (N := some 63) (v := ?_) (a' := ?_) #[true, true, true, true, true, false, false, false, false, false, false, false, false, false, false, false, false, false, false, false, false, false, false, false, false, false, false, false, false, false, false] rfl rfl (any_of HT_.out (by kernel_rfl)) (fun _ _ _ h => h) (Or.inl ⟨by rfl, ?_⟩) ?_ ?_
                  rotate_left
                  · intro w'
                    go_simp
                    with_reducible rfl
                  rotate_left
                  · simp only [Act.put, List.setIfInBounds_toArray, List.set_cons_zero, List.set_cons_succ, i64_w, i32_w]
                    rfl
                  refine pure_ (i := 5) (N := some 64) (v := ?_) (a' := ?_) #[true, true, true, true, true, true, false, false, false, false, false, false, false, false, false, false, false, false, false, false, false, false, false, false, false, false, false, false, false, false, false] rfl rfl (any_of HT_.out (by kernel_rfl)) (fun _ _ _ h => h) (Or.inl ⟨by rfl, ?_⟩) ?_ ?_
                  rotate_left
                  · intro w'
                    go_simp
                    with_reducible rfl
                  rotate_left
                  · simp only [Act.put, List.setIfInBounds_toArray, List.set_cons_zero, List.set_cons_succ, i64_w, i32_w]
                    rfl
                  refine pure_ (i := 6) (N := some 65) (v := ?_) (a' := ?_) #[true, true, true, true, true, true, true, false, false, false, false, false, false, false, false, false, false, false, false, false, false, false, false, false, false, false, false, false, false, false, false] rfl rfl (any_of HT_.out (by kernel_rfl)) (fun _ _ _ h => h) (Or.inl ⟨by rfl, ?_⟩) ?_ ?_
                  rotate_left
                  · intro w'
                    go_simp
                    with_reducible rfl
                  rotate_left
                  · simp only [Act.put, List.setIfInBounds_toArray, List.set_cons_zero, List.set_cons_succ, i64_w, i32_w]
                    rfl
                  refine pure_ (i := 7) (N := some 66) (v := ?_) (a' := ?_) #[true, true, true, true, true, true, true, true, false, false, false, false, false, false, false, false, false, false, false, false, false, false, false, false, false, false, false, false, false, false, false] rfl rfl (any_of HT_.out (by kernel_rfl)) (fun _ _ _ h => h) (Or.inl ⟨by rfl, ?_⟩) ?_ ?_
                  rotate_left
                  · intro w'
                    go_simp
                    with_reducible rfl
                  rotate_left
                  · simp only [Act.put, List.setIfInBounds_toArray, List.set_cons_zero, List.set_cons_succ, i64_w, i32_w]
                    rfl
                  refine pure_ (i := 8) (N := some 67) (v := ?_) (a' := ?_) #[true, true, true, true, true, true, true, true, true, false, false, false, false, false, false, false, false, false, false, false, false, false, false, false, false, false, false, false, false, false, false] rfl rfl (any_of HT_.out (by kernel_rfl)) (fun _ _ _ h => h) (Or.inl ⟨by rfl, ?_⟩) ?_ ?_
                  rotate_left
                  · intro w'
                    go_simp
                    with_reducible rfl
                  rotate_left
                  · simp only [Act.put, List.setIfInBounds_toArray, List.set_cons_zero, List.set_cons_succ, i64_w, i32_w]
                    rfl
                  refine pure_ (i := 9) (N := some 68) (v := ?_) (a' := ?_) #[true, true, true, true, true, true, true, true, true, true, false, false, false, false, false, false, false, false, false, false, false, false, false, false, false, false, false, false, false, false, false] rfl rfl (any_of HT_.out (by kernel_rfl)) (fun _ _ _ h => h) (Or.inl ⟨by rfl, ?_⟩) ?_ ?_
                  rotate_left
                  · intro w'
                    go_simp
                    with_reducible rfl
                  rotate_left
                  · simp only [Act.put, List.setIfInBounds_toArray, List.set_cons_zero, List.set_cons_succ, i64_w, i32_w]
                    rfl
                  refine pure_ (i := 10) (N := some 69) (v := ?_) (a' := ?_) #[true, true, true, true, true, true, true, true, true, true, true, false, false, false, false, false, false, false, false, false, false, false, false, false, false, false, false, false, false, false, false] rfl rfl (any_of HT_.out (by kernel_rfl)) (fun _ _ _ h => h) (Or.inl ⟨by rfl, ?_⟩) ?_ ?_
                  rotate_left
                  · intro w'
                    go_simp
                    with_reducible rfl
                  rotate_left
                  · simp only [Act.put, List.setIfInBounds_toArray, List.set_cons_zero, List.set_cons_succ, i64_w, i32_w]
                    rfl
                  refine pure_ (i := 11) (N := some 70) (v := ?_) (a' := ?_) #[true, true, true, true, true, true, true, true, true, true, true, true, false, false, false, false, false, false, false, false, false, false, false, false, false, false, false, false, false, false, false] rfl rfl (any_of HT_.out (by kernel_rfl)) (fun _ _ _ h => h) (Or.inl ⟨by rfl, ?_⟩) ?_ ?_
                  rotate_left
                  · intro w'
                    go_simp
                    with_reducible rfl
                  rotate_left
                  · simp only [Act.put, List.setIfInBounds_toArray, List.set_cons_zero, List.set_cons_succ, i64_w, i32_w]
                    rfl
                  refine pure_ (i := 12) (N := some 71) (v := ?_) (a' := ?_) #[true, true, true, true, true, true, true, true, true, true, true, true, true, false, false, false, false, false, false, false, false, false, false, false, false, false, false, false, false, false, false] rfl rfl (any_of HT_.out (by kernel_rfl)) (fun _ _ _ h => h) (Or.inl ⟨by rfl, ?_⟩) ?_ ?_
                  rotate_left
                  · intro w'
                    go_simp
                    with_reducible rfl
                  rotate_left
                  · simp only [Act.put, List.setIfInBounds_toArray, List.set_cons_zero, List.set_cons_succ, i64_w, i32_w]
                    rfl
                  refine pure_ (i := 13) (N := some 72) (v := ?_) (a' := ?_) #[true, true, true, true, true, true, true, true, true, true, true, true, true, true, false, false, false, false, false, false, false, false, false, false, false, false, false, false, false, false, false] rfl rfl (any_of HT_.out (by kernel_rfl)) (fun _ _ _ h => h) (Or.inl ⟨by rfl, ?_⟩) ?_ ?_
                  rotate_left
                  · intro w'
                    go_simp
                    with_reducible rfl
                  rotate_left
                  · simp only [Act.put, List.setIfInBounds_toArray, List.set_cons_zero, List.set_cons_succ, i64_w, i32_w]
                    rfl
                  refine pure_ (i := 14) (N := some 73) (v := ?_) (a' := ?_) #[true, true, true, true, true, true, true, true, true, true, true, true, true, true, true, false, false, false, false, false, false, false, false, false, false, false, false, false, false, false, false] rfl rfl (any_of HT_.out (by kernel_rfl)) (fun _ _ _ h => h) (Or.inl ⟨by rfl, ?_⟩) ?_ ?_
                  rotate_left
                  · intro w'
                    go_simp
                    with_reducible rfl
                  rotate_left
                  · simp only [Act.put, List.setIfInBounds_toArray, List.set_cons_zero, List.set_cons_succ, i64_w, i32_w]
                    rfl
                  refine pure_ (i := 15) (N := some 74) (v := ?_) (a' := ?_) #[true, true, true, true, true, true, true, true, true, true, true, true, true, true, true, true, false, false, false, false, false, false, false, false, false, false, false, false, false, false, false] rfl rfl (any_of HT_.out (by kernel_rfl)) (fun _ _ _ h => h) (Or.inl ⟨by rfl, ?_⟩) ?_ ?_
                  rotate_left
                  · intro w'
                    go_simp
                    with_reducible rfl
                  rotate_left
                  · simp only [Act.put, List.setIfInBounds_toArray, List.set_cons_zero, List.set_cons_succ, i64_w, i32_w]
                    rfl
                  refine pure_ (i := 16) (N := some 75) (v := ?_) (a' := ?_) #[true, true, true, true, true, true, true, true, true, true, true, true, true, true, true, true, true, false, false, false, false, false, false, false, false, false, false, false, false, false, false] rfl rfl (any_of HT_.out (by kernel_rfl)) (fun _ _ _ h => h) (Or.inl ⟨by rfl, ?_⟩) ?_ ?_
                  rotate_left
                  · intro w'
                    go_simp
                    with_reducible rfl
                  rotate_left
                  · simp only [Act.put, List.setIfInBounds_toArray, List.set_cons_zero, List.set_cons_succ, i64_w, i32_w]
                    rfl
                  refine pure_ (i := 17) (N := some 76) (v := ?_) (a' := ?_) #[true, true, true, true, true, true, true, true, true, true, true, true, true, true, true, true, true, true, false, false, false, false, false, false, false, false, false, false, false, false, false] rfl rfl (any_of HT_.out (by kernel_rfl)) (fun _ _ _ h => h) (Or.inl ⟨by rfl, ?_⟩) ?_ ?_
                  rotate_left
                  · intro w'
                    go_simp
                    with_reducible rfl
                  rotate_left
                  · simp only [Act.put, List.setIfInBounds_toArray, List.set_cons_zero, List.set_cons_succ, i64_w, i32_w]
                    rfl
                  refine pure_ (i := 18) (N := some 77) (v := ?_) (a' := ?_) #[true, true, true, true, true, true, true, true, true, true, true, true, true, true, true, true, true, true, true, false, false, false, false, false, false, false, false, false, false, false, false] rfl rfl (any_of HT_.out (by kernel_rfl)) (fun _ _ _ h => h) (Or.inl ⟨by rfl, ?_⟩) ?_ ?_
                  rotate_left
                  · intro w'
                    go_simp
                    with_reducible rfl
                  rotate_left
                  · simp only [Act.put, List.setIfInBounds_toArray, List.set_cons_zero, List.set_cons_succ, i64_w, i32_w]
                    rfl
                  refine pure_ (i := 21) (N := some 80) (v := ?_) (a' := ?_) #[true, true, true, true, true, true, true, true, true, true, true, true, true, true, true, true, true, true, true, false, false, true, false, false, false, false, false, false, false, false, false] rfl rfl (any_of HT_.out (by kernel_rfl)) (fun _ _ _ h => h) (Or.inl ⟨by rfl, ?_⟩) ?_ ?_
                  rotate_left
                  · intro w'
                    go_simp
                    with_reducible rfl
                  rotate_left
                  · simp only [Act.put, List.setIfInBounds_toArray, List.set_cons_zero, List.set_cons_succ, i64_w, i32_w]
                    rfl
                  refine pure_ (i := 22) (N := some 81) (v := ?_) (a' := ?_) #[true, true, true, true, true, true, true, true, true, true, true, true, true, true, true, true, true, true, true, false, false, true, true, false, false, false, false, false, false, false, false] rfl rfl (any_of HT_.out (by kernel_rfl)) (fun _ _ _ h => h) (Or.inl ⟨by rfl, ?_⟩) ?_ ?_
                  rotate_left
                  · intro w'
                    go_simp
                    with_reducible rfl
                  rotate_left
                  · simp only [Act.put, List.setIfInBounds_toArray, List.set_cons_zero, List.set_cons_succ, i64_w, i32_w]
                    rfl
                  refine pure_ (i := 25) (N := some 84) (v := ?_) (a' := ?_) #[true, true, true, true, true, true, true, true, true, true, true, true, true, true, true, true, true, true, true, false, false, true, true, false, false, true, false, false, false, false, false] rfl rfl (any_of HT_.out (by kernel_rfl)) (fun _ _ _ h => h) (Or.inl ⟨by rfl, ?_⟩) ?_ ?_
                  rotate_left
                  · intro w'
                    go_simp
                    with_reducible rfl
                  rotate_left
                  · simp only [Act.put, List.setIfInBounds_toArray, List.set_cons_zero, List.set_cons_succ, i64_w, i32_w]
                    rfl
                  refine pure_ (i := 26) (N := some 85) (v := ?_) (a' := ?_) #[true, true, true, true, true, true, true, true, true, true, true, true, true, true, true, true, true, true, true, false, false, true, true, false, false, true, true, false, false, false, false] rfl rfl (any_of HT_.out (by kernel_rfl)) (fun _ _ _ h => h) (Or.inl ⟨by rfl, ?_⟩) ?_ ?_
                  rotate_left
                  · intro w'
                    go_simp
                    with_reducible rfl
                  rotate_left
                  · simp only [Act.put, List.setIfInBounds_toArray, List.set_cons_zero, List.set_cons_succ, i64_w, i32_w]
                    rfl
                  refine take_ (i := 19) (N := some 78) (v := ?_) (a' := ?_) #[true, true, true, true, true, true, true, true, true, true, true, true, true, true, true, true, true, true, true, true, false, true, true, false, false, true, true, false, false, false, false] rfl rfl (take_ofW HT_.out HW_.out (by kernel_rfl)) (fun _ _ _ h => h) (Or.inl ⟨by rfl, ?_⟩) hHeld ?_ ?_
                  rotate_left
                  · rintro w' ⟨s0, s1, s2⟩
                    go_simp
                    with_reducible rfl
                  rotate_left
                  · simp only [Act.put, List.setIfInBounds_toArray, List.set_cons_zero, List.set_cons_succ, i64_w, i32_w]
                    rfl
                  refine take_ (i := 24) (N := some 83) (v := ?_) (a' := ?_) #[true, true, true, true, true, true, true, true, true, true, true, true, true, true, true, true, true, true, true, true, false, true, true, false, true, true, true, false, false, false, false] rfl rfl (take_ofW HT_.out HW_.out (by kernel_rfl)) (fun _ _ _ h => h) (Or.inl ⟨by rfl, ?_⟩) hHeld ?_ ?_
                  rotate_left
                  · rintro w' ⟨s0, s1, s2⟩
                    go_simp
                    with_reducible rfl
                  rotate_left
                  · simp only [Act.put, List.setIfInBounds_toArray, List.set_cons_zero, List.set_cons_succ, i64_w, i32_w]
                    rfl
                  refine one_ (i := 20) (N := some 79) #[true, true, true, true, true, true, true, true, true, true, true, true, true, true, true, true, true, true, true, true, true, true, true, false, true, true, true, false, false, false, false] rfl rfl (one_of HT_.out (by kernel_rfl)) (by decide) (fun K hK => ?_)
                  refine goes_ Tryd.func16 (by kernel_rfl) rfl #[.agg #[.int .i64 a0_0, .int .i64 a0_1, .slice A0_2 l0_2.length c0_2]] (by rfl) rfl rfl (by (try simp only [List.map_toArray, List.map_cons, List.map_nil]); first | done | rfl | (simp only [List.length_drop, List.length_take]; rfl)) ?_
                  with_reducible refine (l11_own.calls a0_0 a0_1 _ _ l0_2 t510 t511 t512 _ ?side1 ?side2 ?side3 A50.out).mono ?_
                  (case side1 => exact hG.below (by repeat (first | (with_reducible first | exact HB.out | apply pbA | apply pbN | apply pb1 | refine pbS ?_ GE488.out) | exact HB.out)))
                  (case side2 => repeat (first | exact (Kd.C_below HR0_2.out HB.out) | (with_reducible refine Kd.C_alloc ?_ _) | (with_reducible refine Kd.C_drewN ?_ _) | (with_reducible refine Kd.C_drew ?_)))
                  (case side3 => exact HC0_2.out)
                  rintro e w55 ⟨v513, rfl, ho0, hb⟩
                  refine ⟨_, rfl, ?_⟩
                  have n0_ := Az.mk (Kd.R_elder' (by (with_reducible repeat (first | apply Kd.R_alloc | apply Kd.R_drewN | apply Kd.R_drew)); exact HO496.out) (Kd.R_base ho0) hb)
                  have n1_ := Az.mk (Kd.R_elder' (by (with_reducible repeat (first | apply Kd.R_alloc | apply Kd.R_drewN | apply Kd.R_drew)); exact HO505.out) (Kd.R_base ho0) hb)
                  have n2_ := Az.mk (Kd.R_lower (Kd.R_new' (Kd.R_new' ho0 (Kd.R_lt (by (with_reducible repeat (first | apply Kd.R_alloc | apply Kd.R_drewN | apply Kd.R_drew)); exact HO496.out))) (Kd.R_lt (by (with_reducible repeat (first | apply Kd.R_alloc | apply Kd.R_drewN | apply Kd.R_drew)); exact HO505.out))) (pbZ (by repeat (first | (with_reducible first | exact HB.out | apply pbA | apply pbN | apply pb1 | refine pbS ?_ GE488.out) | exact HB.out))))
                  have n3_ := Az.mk (bkB (g := gb488) (o := .cells #[.int .i64 a0_0, .int .i64 a0_1, .slice A0_2 l0_2.length c0_2] 24 (0, 0)) (by (with_reducible repeat (first | refine bkN ?_ _ | refine bkD ?_ | refine bkA ?_ _)); exact BK488.out) hb)
                  have n4_ := Az.mk (pbT (by repeat (first | (with_reducible first | exact HB.out | apply pbA | apply pbN | apply pb1 | refine pbS ?_ GE488.out) | exact HB.out)) hb)
                  clear HO496
                  clear HO505
                  clear BK488
                  clear HB
                  have HO496 := n0_
                  have HO505 := n1_
                  have HO514 := n2_
                  have BK488 := n3_
                  have HB := n4_
                  clear n0_ n1_ n2_ n3_ n4_
                  (try clear hb)
                  (try clear hb2)
                  (try clear hk)
                  (try clear hi)
                  (try clear ho0)
                  obtain ⟨Ao56, co56, eo56⟩ := Kd.R_slice HO514.out
                  (first | subst eo56 | (injection eo56 with f1_ f2_ f3_; have f4_ := f1_.symm; have f5_ := f3_.symm; clear f1_ f2_ f3_; subst f4_; subst f5_))
                  refine hK.out _ _ ⟨(bkC BK488.out 0).trans rfl, (bkC BK488.out 1).trans rfl, (bkC BK488.out 2).trans rfl⟩ (fun hHeld => ?_)
                  clear hK K
                  refine norm_ (a' := ?_) ?_ ?_
                  rotate_left
                  · show Act.put _ (some 79) _ = _
                    simp only [Act.put, List.setIfInBounds_toArray, List.set_cons_zero, List.set_cons_succ, i64_w, i32_w]
                    rfl
                  refine one_ (i := 23) (N := some 82) #[true, true, true, true, true, true, true, true, true, true, true, true, true, true, true, true, true, true, true, true, true, true, true, true, true, true, true, false, false, false, false] rfl rfl (one_of HT_.out (by kernel_rfl)) (by decide) (fun K hK => ?_)
                  refine goes_ Tryd.func26 (by kernel_rfl) rfl #[.agg #[.int .i64 t510, .int .i64 t511, .slice Ao56 t512.length co56], .int .i64 a2, .int .i64 a3] (by rfl) rfl rfl (by (try simp only [List.map_toArray, List.map_cons, List.map_nil]); first | done | rfl | (simp only [List.length_drop, List.length_take]; rfl)) ?_
                  with_reducible refine (roll_Slice.calls t510 t511 _ _ t512 a2 a3 t515 _ ?side1 ?side2 ?side3 A51.out).mono ?_
                  (case side1 => exact hG.below (by repeat (first | (with_reducible first | exact HB.out | apply pbA | apply pbN | apply pb1 | refine pbS ?_ GE488.out) | exact HB.out)))
                  (case side2 => repeat (first | exact (Kd.R_reads' HO514.out).2.2 | (with_reducible refine Kd.C_alloc ?_ _) | (with_reducible refine Kd.C_drewN ?_ _) | (with_reducible refine Kd.C_drew ?_)))
                  (case side3 => exact (Kd.R_reads' HO514.out).2.1)
                  rintro e w57 ⟨v516, rfl, ho0, hb⟩
                  refine ⟨_, rfl, ?_⟩
                  have n0_ := Az.mk (Kd.R_elder' (by (with_reducible repeat (first | apply Kd.R_alloc | apply Kd.R_drewN | apply Kd.R_drew)); exact HO496.out) (Kd.R_base ho0) hb)
                  have n1_ := Az.mk (Kd.R_elder' (by (with_reducible repeat (first | apply Kd.R_alloc | apply Kd.R_drewN | apply Kd.R_drew)); exact HO505.out) (Kd.R_base ho0) hb)
                  have n2_ := Az.mk (Kd.R_elder' (by (with_reducible repeat (first | apply Kd.R_alloc | apply Kd.R_drewN | apply Kd.R_drew)); exact HO514.out) (Kd.R_base ho0) hb)
                  have n3_ := Az.mk (Kd.R_lower (Kd.R_new' (Kd.R_new' (Kd.R_new' ho0 (Kd.R_lt (by (with_reducible repeat (first | apply Kd.R_alloc | apply Kd.R_drewN | apply Kd.R_drew)); exact HO496.out))) (Kd.R_lt (by (with_reducible repeat (first | apply Kd.R_alloc | apply Kd.R_drewN | apply Kd.R_drew)); exact HO505.out))) (Kd.R_lt (by (with_reducible repeat (first | apply Kd.R_alloc | apply Kd.R_drewN | apply Kd.R_drew)); exact HO514.out))) (pbZ (by repeat (first | (with_reducible first | exact HB.out | apply pbA | apply pbN | apply pb1 | refine pbS ?_ GE488.out) | exact HB.out))))
                  have n4_ := Az.mk (bkB (g := gb488) (o := .cells #[.int .i64 a0_0, .int .i64 a0_1, .slice A0_2 l0_2.length c0_2] 24 (0, 0)) (by (with_reducible repeat (first | refine bkN ?_ _ | refine bkD ?_ | refine bkA ?_ _)); exact BK488.out) hb)
                  have n5_ := Az.mk (pbT (by repeat (first | (with_reducible first | exact HB.out | apply pbA | apply pbN | apply pb1 | refine pbS ?_ GE488.out) | exact HB.out)) hb)
                  clear HO496
                  clear HO505
                  clear HO514
                  clear BK488
                  clear HB
                  have HO496 := n0_
                  have HO505 := n1_
                  have HO514 := n2_
                  have HO517 := n3_
                  have BK488 := n4_
                  have HB := n5_
                  clear n0_ n1_ n2_ n3_ n4_ n5_
                  (try clear hb)
                  (try clear hb2)
                  (try clear hk)
                  (try clear hi)
                  (try clear ho0)
                  refine hK.out _ _ ⟨(bkC BK488.out 0).trans rfl, (bkC BK488.out 1).trans rfl, (bkC BK488.out 2).trans rfl⟩ (fun hHeld => ?_)
                  clear hK K
                  refine norm_ (a' := ?_) ?_ ?_
                  rotate_left
                  · show Act.put _ (some 82) _ = _
                    simp only [Act.put, List.setIfInBounds_toArray, List.set_cons_zero, List.set_cons_succ, i64_w, i32_w]
                    rfl
                  refine one_ (i := 27) (N := some 86) #[true, true, true, true, true, true, true, true, true, true, true, true, true, true, true, true, true, true, true, true, true, true, true, true, true, true, true, true, false, false, false] rfl rfl (one_of HT_.out (by kernel_rfl)) (by decide) (fun K hK => ?_)
                  refine goes_ Tryd.func29 (by kernel_rfl) rfl #[.agg #[.int .i64 a0_0, .int .i64 a0_1, .slice A0_2 l0_2.length c0_2], .int .i64 a2, .int .i64 a3] (by rfl) rfl rfl (by (try simp only [List.map_toArray, List.map_cons, List.map_nil]); first | done | rfl | (simp only [List.length_drop, List.length_take]; rfl)) ?_
                  with_reducible refine (r11_Slice.calls kj6 a0_0 a0_1 _ _ l0_2 a2 a3 t518 _ ?side1 ?side2 ?side3 A52.out).mono ?_
                  (case side1 => exact hG.below (by repeat (first | (with_reducible first | exact HB.out | apply pbA | apply pbN | apply pb1 | refine pbS ?_ GE488.out) | exact HB.out)))
                  (case side2 => repeat (first | exact (Kd.C_below HR0_2.out HB.out) | (with_reducible refine Kd.C_alloc ?_ _) | (with_reducible refine Kd.C_drewN ?_ _) | (with_reducible refine Kd.C_drew ?_)))
                  (case side3 => exact HC0_2.out)
                  rintro e w58 ⟨v519, rfl, ho0, hb⟩
                  refine ⟨_, rfl, ?_⟩
                  have n0_ := Az.mk (Kd.R_elder' (by (with_reducible repeat (first | apply Kd.R_alloc | apply Kd.R_drewN | apply Kd.R_drew)); exact HO496.out) (Kd.R_base ho0) hb)
                  have n1_ := Az.mk (Kd.R_elder' (by (with_reducible repeat (first | apply Kd.R_alloc | apply Kd.R_drewN | apply Kd.R_drew)); exact HO505.out) (Kd.R_base ho0) hb)
                  have n2_ := Az.mk (Kd.R_elder' (by (with_reducible repeat (first | apply Kd.R_alloc | apply Kd.R_drewN | apply Kd.R_drew)); exact HO514.out) (Kd.R_base ho0) hb)
                  have n3_ := Az.mk (Kd.R_elder' (by (with_reducible repeat (first | apply Kd.R_alloc | apply Kd.R_drewN | apply Kd.R_drew)); exact HO517.out) (Kd.R_base ho0) hb)
                  have n4_ := Az.mk (Kd.R_lower (Kd.R_new' (Kd.R_new' (Kd.R_new' (Kd.R_new' ho0 (Kd.R_lt (by (with_reducible repeat (first | apply Kd.R_alloc | apply Kd.R_drewN | apply Kd.R_drew)); exact HO496.out))) (Kd.R_lt (by (with_reducible repeat (first | apply Kd.R_alloc | apply Kd.R_drewN | apply Kd.R_drew)); exact HO505.out))) (Kd.R_lt (by (with_reducible repeat (first | apply Kd.R_alloc | apply Kd.R_drewN | apply Kd.R_drew)); exact HO514.out))) (Kd.R_lt (by (with_reducible repeat (first | apply Kd.R_alloc | apply Kd.R_drewN | apply Kd.R_drew)); exact HO517.out))) (pbZ (by repeat (first | (with_reducible first | exact HB.out | apply pbA | apply pbN | apply pb1 | refine pbS ?_ GE488.out) | exact HB.out))))
                  have n5_ := Az.mk (bkB (g := gb488) (o := .cells #[.int .i64 a0_0, .int .i64 a0_1, .slice A0_2 l0_2.length c0_2] 24 (0, 0)) (by (with_reducible repeat (first | refine bkN ?_ _ | refine bkD ?_ | refine bkA ?_ _)); exact BK488.out) hb)
                  have n6_ := Az.mk (pbT (by repeat (first | (with_reducible first | exact HB.out | apply pbA | apply pbN | apply pb1 | refine pbS ?_ GE488.out) | exact HB.out)) hb)
                  clear HO496
                  clear HO505
                  clear HO514
                  clear HO517
                  clear BK488
                  clear HB
                  have HO496 := n0_
                  have HO505 := n1_
                  have HO514 := n2_
                  have HO517 := n3_
                  have HO520 := n4_
                  have BK488 := n5_
                  have HB := n6_
                  clear n0_ n1_ n2_ n3_ n4_ n5_ n6_
                  (try clear hb)
                  (try clear hb2)
                  (try clear hk)
                  (try clear hi)
                  (try clear ho0)
                  obtain ⟨Ao59, co59, eo59⟩ := Kd.R_slice HO517.out
                  (first | subst eo59 | (injection eo59 with f1_ f2_ f3_; have f4_ := f1_.symm; have f5_ := f3_.symm; clear f1_ f2_ f3_; subst f4_; subst f5_))
                  obtain ⟨Ao60, co60, eo60⟩ := Kd.R_slice HO520.out
                  (first | subst eo60 | (injection eo60 with f1_ f2_ f3_; have f4_ := f1_.symm; have f5_ := f3_.symm; clear f1_ f2_ f3_; subst f4_; subst f5_))
                  refine hK.out _ _ ⟨(bkC BK488.out 0).trans rfl, (bkC BK488.out 1).trans rfl, (bkC BK488.out 2).trans rfl⟩ (fun hHeld => ?_)
                  clear hK K
                  refine norm_ (a' := ?_) ?_ ?_
                  rotate_left
                  · show Act.put _ (some 86) _ = _
                    simp only [Act.put, List.setIfInBounds_toArray, List.set_cons_zero, List.set_cons_succ, i64_w, i32_w]
                    rfl
                  refine one_ (i := 28) (N := some 87) #[true, true, true, true, true, true, true, true, true, true, true, true, true, true, true, true, true, true, true, true, true, true, true, true, true, true, true, true, true, false, false] rfl rfl (one_of HT_.out (by kernel_rfl)) (by decide) (fun K hK => ?_)
                  refine goes_ Tryd.func25 (by kernel_rfl) rfl #[.slice Ao59 t515.length co59, .slice Ao60 t518.length co60] (by rfl) rfl rfl (by (try simp only [List.map_toArray, List.map_cons, List.map_nil]); first | done | rfl | (simp only [List.length_drop, List.length_take]; rfl)) ?_
                  with_reducible refine (r11_Entries.calls kj6 _ _ t515 _ _ t518 t521 _ ?side1 ?side2 ?side3 ?side4 ?side5 A53.out).mono ?_
                  (case side1 => exact hG.below (by repeat (first | (with_reducible first | exact HB.out | apply pbA | apply pbN | apply pb1 | refine pbS ?_ GE488.out) | exact HB.out)))
                  (case side2 => repeat (first | exact (Kd.R_reads' HO517.out).2.2 | (with_reducible refine Kd.C_alloc ?_ _) | (with_reducible refine Kd.C_drewN ?_ _) | (with_reducible refine Kd.C_drew ?_)))
                  (case side3 => exact (Kd.R_reads' HO517.out).2.1)
                  (case side4 => repeat (first | exact (Kd.R_reads' HO520.out).2.2 | (with_reducible refine Kd.C_alloc ?_ _) | (with_reducible refine Kd.C_drewN ?_ _) | (with_reducible refine Kd.C_drew ?_)))
                  (case side5 => exact (Kd.R_reads' HO520.out).2.1)
                  rintro e w' ⟨rfl, ⟨nd, rfl⟩⟩
                  refine ⟨_, rfl, ?_⟩
                  refine hK.out _ _ ⟨(bkC BK488.out 0).trans rfl, (bkC BK488.out 1).trans rfl, (bkC BK488.out 2).trans rfl⟩ (fun hHeld => ?_)
                  clear hK K
                  refine norm_ (a' := ?_) ?_ ?_
                  rotate_left
                  · show Act.put _ (some 87) _ = _
                    simp only [Act.put, List.setIfInBounds_toArray, List.set_cons_zero, List.set_cons_succ, i64_w, i32_w]
                    rfl
                  refine pure_ (i := 29) (N := some 88) (v := ?_) (a' := ?_) #[true, true, true, true, true, true, true, true, true, true, true, true, true, true, true, true, true, true, true, true, true, true, true, true, true, true, true, true, true, true, false] rfl rfl (any_of HT_.out (by kernel_rfl)) (fun _ _ _ h => h) (Or.inl ⟨by rfl, ?_⟩) ?_ ?_
                  rotate_left
                  · intro w'
                    go_simp
                    with_reducible rfl
                  rotate_left
                  · simp only [Act.put, List.setIfInBounds_toArray, List.set_cons_zero, List.set_cons_succ, i64_w, i32_w]
                    rfl
                  refine pure_ (i := 30) (N := some 89) (v := ?_) (a' := ?_) #[true, true, true, true, true, true, true, true, true, true, true, true, true, true, true, true, true, true, true, true, true, true, true, true, true, true, true, true, true, true, true] rfl rfl (any_of HT_.out (by kernel_rfl)) (fun _ _ _ h => h) (Or.inl ⟨by rfl, ?_⟩) ?_ ?_
                  rotate_left
                  · intro w'
                    go_simp
                    with_reducible rfl
                  rotate_left
                  · simp only [Act.put, List.setIfInBounds_toArray, List.set_cons_zero, List.set_cons_succ, i64_w, i32_w]
                    rfl
                  refine done_ (done_of HT_.out (by kernel_rfl)) ?_
                  try go_wp2
                  go_meet
                  case rel => exact ⟨_, (!t521), (by first | rfl | (simp; done) | (simp [*]; done)), H', ⟨by have := HJ6.out; first | omega | exact Nat.le_refl _⟩, ⟨by (with_reducible repeat (first | refine bkN ?_ _ | refine bkD ?_ | refine bkA ?_ _)); exact BK488.out⟩, ⟨by repeat (first | (with_reducible first | exact HB.out | apply pbA | apply pbN | apply pb1 | refine pbS ?_ GE488.out) | exact HB.out)⟩⟩
              · rw [if_neg c47] at H
                have c47b0 : (t506 == t508) = false := beq_eq_false_iff_ne.mpr c47
                have c47b1 : (t506 != t508) = true := bne_iff_ne.mpr c47
                have H' := Az.mk H
                clear H
                try go_wp2
                have n0_ := Az.mk (Kd.R_drew HO496.out)
                have n1_ := Az.mk (Kd.R_drew HO505.out)
                have n2_ := Az.mk (bkD BK488.out)
                have n3_ := Az.mk (pb1 HB.out)
                clear HO496
                clear HO505
                clear BK488
                clear HB
                have HO496 := n0_
                have HO505 := n1_
                have BK488 := n2_
                have HB := n3_
                clear n0_ n1_ n2_ n3_
                refine start_ (n := 31) (S := fun w' => True) (ds := []) #[false, false, false, false, false, false, false, false, false, false, false, false, false, false, false, false, false, false, false, false, false, false, false, false, false, false, false, false, false, false, false] (by kernel_rfl) rfl rfl trivial (fun hHeld => ?_); refine with_tabW l11_RollTells.tab7 l11_RollTells.bits7 (fun HT_ HW_ => ?_)
                generalize w44.drew = w61 at HO496 HO505 BK488 HB hHeld ⊢
                refine pure_ (i := 0) (N := some 59) (v := ?_) (a' := ?_) #[true, false, false, false, false, false, false, false, false, false, false, false, false, false, false, false, false, false, false, false, false, false, false, false, false, false, false, false, false, false, false] rfl rfl (any_of HT_.out (by kernel_rfl)) (fun _ _ _ h => h) (Or.inl ⟨by rfl, ?_⟩) ?_ ?_
                rotate_left
                · intro w'
                  go_simp
                  with_reducible rfl
                rotate_left
                · simp only [Act.put, List.setIfInBounds_toArray, List.set_cons_zero, List.set_cons_succ, i64_w, i32_w]
                  rfl
                refine pure_ (i := 1) (N := some 60) (v := ?_) (a' := ?_) #[true, true, false, false, false, false, false, false, false, false, false, false, false, false, false, false, false, false, false, false, false, false, false, false, false, false, false, false, false, false, false] rfl rfl (any_of HT_.out (by kernel_rfl)) (fun _ _ _ h => h) (Or.inl ⟨by rfl, ?_⟩) ?_ ?_
                rotate_left
                · intro w'
                  go_simp
                  with_reducible rfl
                rotate_left
                · simp only [Act.put, List.setIfInBounds_toArray, List.set_cons_zero, List.set_cons_succ, i64_w, i32_w]
                  rfl
                refine pure_ (i := 2) (N := some 61) (v := ?_) (a' := ?_) #[true, true, true, false, false, false, false, false, false, false, false, false, false, false, false, false, false, false, false, false, false, false, false, false, false, false, false, false, false, false, false] rfl rfl (any_of HT_.out (by kernel_rfl)) (fun _ _ _ h => h) (Or.inl ⟨by rfl, ?_⟩) ?_ ?_
                rotate_left
                · intro w'
                  go_simp
                  with_reducible rfl
                rotate_left
                · simp only [Act.put, List.setIfInBounds_toArray, List.set_cons_zero, List.set_cons_succ, i64_w, i32_w]
                  rfl
                refine pure_ (i := 3) (N := some 62) (v := ?_) (a' := ?_) #[true, true, true, true, false, false, false, false, false, false, false, false, false, false, false, false, false, false, false, false, false, false, false, false, false, false, false, false, false, false, false] rfl rfl (any_of HT_.out (by kernel_rfl)) (fun _ _ _ h => h) (Or.inl ⟨by rfl, ?_⟩) ?_ ?_
                rotate_left
                · intro w'
                  go_simp
                  with_reducible rfl
                rotate_left
                · simp only [Act.put, List.setIfInBounds_toArray, List.set_cons_zero, List.set_cons_succ, i64_w, i32_w]
                  rfl
                refine pure_ (i := 4) (N := some 63) (v := ?_) (a' := ?_) #[true, true, true, true, true, false, false, false, false, false, false, false, false, false, false, false, false, false, false, false, false, false, false, false, false, false, false, false, false, false, false] rfl rfl (any_of HT_.out (by kernel_rfl)) (fun _ _ _ h => h) (Or.inl ⟨by rfl, ?_⟩) ?_ ?_
                rotate_left
                · intro w'
                  go_simp
                  with_reducible rfl
                rotate_left
                · simp only [Act.put, List.setIfInBounds_toArray, List.set_cons_zero, List.set_cons_succ, i64_w, i32_w]
                  rfl
                refine pure_ (i := 5) (N := some 64) (v := ?_) (a' := ?_) #[true, true, true, true, true, true, false, false, false, false, false, false, false, false, false, false, false, false, false, false, false, false, false, false, false, false, false, false, false, false, false] rfl rfl (any_of HT_.out (by kernel_rfl)) (fun _ _ _ h => h) (Or.inl ⟨by rfl, ?_⟩) ?_ ?_
                rotate_left
                · intro w'
                  go_simp
                  with_reducible rfl
                rotate_left
                · simp only [Act.put, List.setIfInBounds_toArray, List.set_cons_zero, List.set_cons_succ, i64_w, i32_w]
                  rfl
                refine pure_ (i := 6) (N := some 65) (v := ?_) (a' := ?_) #[true, true, true, true, true, true, true, false, false, false, false, false, false, false, false, false, false, false, false, false, false, false, false, false, false, false, false, false, false, false, false] rfl rfl (any_of HT_.out (by kernel_rfl)) (fun _ _ _ h => h) (Or.inl ⟨by rfl, ?_⟩) ?_ ?_
                rotate_left
                · intro w'
                  go_simp
                  with_reducible rfl
                rotate_left
                · simp only [Act.put, List.setIfInBounds_toArray, List.set_cons_zero, List.set_cons_succ, i64_w, i32_w]
                  rfl
                refine pure_ (i := 7) (N := some 66) (v := ?_) (a' := ?_) #[true, true, true, true, true, true, true, true, false, false, false, false, false, false, false, false, false, false, false, false, false, false, false, false, false, false, false, false, false, false, false] rfl rfl (any_of HT_.out (by kernel_rfl)) (fun _ _ _ h => h) (Or.inl ⟨by rfl, ?_⟩) ?_ ?_
                rotate_left
                · intro w'
                  go_simp
                  with_reducible rfl
                rotate_left
                · simp only [Act.put, List.setIfInBounds_toArray, List.set_cons_zero, List.set_cons_succ, i64_w, i32_w]
                  rfl
                refine pure_ (i := 8) (N := some 67) (v := ?_) (a' := ?_) #[true, true, true, true, true, true, true, true, true, false, false, false, false, false, false, false, false, false, false, false, false, false, false, false, false, false, false, false, false, false, false] rfl rfl (any_of HT_.out (by kernel_rfl)) (fun _ _ _ h => h) (Or.inl ⟨by rfl, ?_⟩) ?_ ?_
                rotate_left
                · intro w'
                  go_simp
                  with_reducible rfl
                rotate_left
                · simp only [Act.put, List.setIfInBounds_toArray, List.set_cons_zero, List.set_cons_succ, i64_w, i32_w]
                  rfl
                refine pure_ (i := 9) (N := some 68) (v := ?_) (a' := ?_) #[true, true, true, true, true, true, true, true, true, true, false, false, false, false, false, false, false, false, false, false, false, false, false, false, false, false, false, false, false, false, false] rfl rfl (any_of HT_.out (by kernel_rfl)) (fun _ _ _ h => h) (Or.inl ⟨by rfl, ?_⟩) ?_ ?_
                rotate_left
                · intro w'
                  go_simp
                  with_reducible rfl
                rotate_left
                · simp only [Act.put, List.setIfInBounds_toArray, List.set_cons_zero, List.set_cons_succ, i64_w, i32_w]
                  rfl
                refine pure_ (i := 10) (N := some 69) (v := ?_) (a' := ?_) #[true, true, true, true, true, true, true, true, true, true, true, false, false, false, false, false, false, false, false, false, false, false, false, false, false, false, false, false, false, false, false] rfl rfl (any_of HT_.out (by kernel_rfl)) (fun _ _ _ h => h) (Or.inl ⟨by rfl, ?_⟩) ?_ ?_
                rotate_left
                · intro w'
                  go_simp
                  with_reducible rfl
                rotate_left
                · simp only [Act.put, List.setIfInBounds_toArray, List.set_cons_zero, List.set_cons_succ, i64_w, i32_w]
                  rfl
                refine pure_ (i := 11) (N := some 70) (v := ?_) (a' := ?_) #[true, true, true, true, true, true, true, true, true, true, true, true, false, false, false, false, false, false, false, false, false, false, false, false, false, false, false, false, false, false, false] rfl rfl (any_of HT_.out (by kernel_rfl)) (fun _ _ _ h => h) (Or.inl ⟨by rfl, ?_⟩) ?_ ?_
                rotate_left
                · intro w'
                  go_simp
                  with_reducible rfl
                rotate_left
                · simp only [Act.put, List.setIfInBounds_toArray, List.set_cons_zero, List.set_cons_succ, i64_w, i32_w]
                  rfl
                refine pure_ (i := 12) (N := some 71) (v := ?_) (a' := ?_) #[true, true, true, true, true, true, true, true, true, true, true, true, true, false, false, false, false, false, false, false, false, false, false, false, false, false, false, false, false, false, false] rfl rfl (any_of HT_.out (by kernel_rfl)) (fun _ _ _ h => h) (Or.inl ⟨by rfl, ?_⟩) ?_ ?_
                rotate_left
                · intro w'
                  go_simp
                  with_reducible rfl
                rotate_left
                · simp only [Act.put, List.setIfInBounds_toArray, List.set_cons_zero, List.set_cons_succ, i64_w, i32_w]
                  rfl
                refine pure_ (i := 13) (N := some 72) (v := ?_) (a' := ?_) #[true, true, true, true, true, true, true, true, true, true, true, true, true, true, false, false, false, false, false, false, false, false, false, false, false, false, false, false, false, false, false] rfl rfl (any_of HT_.out (by kernel_rfl)) (fun _ _ _ h => h) (Or.inl ⟨by rfl, ?_⟩) ?_ ?_
                rotate_left
                · intro w'
                  go_simp
                  with_reducible rfl
                rotate_left
                · simp only [Act.put, List.setIfInBounds_toArray, List.set_cons_zero, List.set_cons_succ, i64_w, i32_w]
                  rfl
                refine pure_ (i := 14) (N := some 73) (v := undef) (a' := ?_) #[true, true, true, true, true, true, true, true, true, true, true, true, true, true, true, false, false, false, false, false, false, false, false, false, false, false, false, false, false, false, false] rfl rfl (any_of HT_.out (by kernel_rfl)) (fun _ _ _ h => h) (Or.inr ⟨by rfl, rfl⟩) ?_ ?_
                rotate_left
                · simp only [Act.put, List.setIfInBounds_toArray, List.set_cons_zero, List.set_cons_succ, i64_w, i32_w]
                  rfl
                refine pure_ (i := 15) (N := some 74) (v := undef) (a' := ?_) #[true, true, true, true, true, true, true, true, true, true, true, true, true, true, true, true, false, false, false, false, false, false, false, false, false, false, false, false, false, false, false] rfl rfl (any_of HT_.out (by kernel_rfl)) (fun _ _ _ h => h) (Or.inr ⟨by rfl, rfl⟩) ?_ ?_
                rotate_left
                · simp only [Act.put, List.setIfInBounds_toArray, List.set_cons_zero, List.set_cons_succ, i64_w, i32_w]
                  rfl
                refine pure_ (i := 16) (N := some 75) (v := undef) (a' := ?_) #[true, true, true, true, true, true, true, true, true, true, true, true, true, true, true, true, true, false, false, false, false, false, false, false, false, false, false, false, false, false, false] rfl rfl (any_of HT_.out (by kernel_rfl)) (fun _ _ _ h => h) (Or.inr ⟨by rfl, rfl⟩) ?_ ?_
                rotate_left
                · simp only [Act.put, List.setIfInBounds_toArray, List.set_cons_zero, List.set_cons_succ, i64_w, i32_w]
                  rfl
                refine pure_ (i := 17) (N := some 76) (v := ?_) (a' := ?_) #[true, true, true, true, true, true, true, true, true, true, true, true, true, true, true, true, true, true, false, false, false, false, false, false, false, false, false, false, false, false, false] rfl rfl (any_of HT_.out (by kernel_rfl)) (fun _ _ _ h => h) (Or.inl ⟨by rfl, ?_⟩) ?_ ?_
                rotate_left
                · intro w'
                  go_simp
                  with_reducible rfl
                rotate_left
                · simp only [Act.put, List.setIfInBounds_toArray, List.set_cons_zero, List.set_cons_succ, i64_w, i32_w]
                  rfl
                refine pure_ (i := 18) (N := some 77) (v := ?_) (a' := ?_) #[true, true, true, true, true, true, true, true, true, true, true, true, true, true, true, true, true, true, true, false, false, false, false, false, false, false, false, false, false, false, false] rfl rfl (any_of HT_.out (by kernel_rfl)) (fun _ _ _ h => h) (Or.inl ⟨by rfl, ?_⟩) ?_ ?_
                rotate_left
                · intro w'
                  go_simp
                  with_reducible rfl
                rotate_left
                · simp only [Act.put, List.setIfInBounds_toArray, List.set_cons_zero, List.set_cons_succ, i64_w, i32_w]
                  rfl
                refine pure_ (i := 19) (N := some 78) (v := undef) (a' := ?_) #[true, true, true, true, true, true, true, true, true, true, true, true, true, true, true, true, true, true, true, true, false, false, false, false, false, false, false, false, false, false, false] rfl rfl (any_of HT_.out (by kernel_rfl)) (fun _ _ _ h => h) (Or.inr ⟨by rfl, rfl⟩) ?_ ?_
                rotate_left
                · simp only [Act.put, List.setIfInBounds_toArray, List.set_cons_zero, List.set_cons_succ, i64_w, i32_w]
                  rfl
                refine pure_ (i := 20) (N := some 79) (v := undef) (a' := ?_) #[true, true, true, true, true, true, true, true, true, true, true, true, true, true, true, true, true, true, true, true, true, false, false, false, false, false, false, false, false, false, false] rfl rfl (any_of HT_.out (by kernel_rfl)) (fun _ _ _ h => h) (Or.inr ⟨by rfl, rfl⟩) ?_ ?_
                rotate_left
                · simp only [Act.put, List.setIfInBounds_toArray, List.set_cons_zero, List.set_cons_succ, i64_w, i32_w]
                  rfl
                refine pure_ (i := 21) (N := some 80) (v := undef) (a' := ?_) #[true, true, true, true, true, true, true, true, true, true, true, true, true, true, true, true, true, true, true, true, true, true, false, false, false, false, false, false, false, false, false] rfl rfl (any_of HT_.out (by kernel_rfl)) (fun _ _ _ h => h) (Or.inr ⟨by rfl, rfl⟩) ?_ ?_
                rotate_left
                · simp only [Act.put, List.setIfInBounds_toArray, List.set_cons_zero, List.set_cons_succ, i64_w, i32_w]
                  rfl
                refine pure_ (i := 22) (N := some 81) (v := undef) (a' := ?_) #[true, true, true, true, true, true, true, true, true, true, true, true, true, true, true, true, true, true, true, true, true, true, true, false, false, false, false, false, false, false, false] rfl rfl (any_of HT_.out (by kernel_rfl)) (fun _ _ _ h => h) (Or.inr ⟨by rfl, rfl⟩) ?_ ?_
                rotate_left
                · simp only [Act.put, List.setIfInBounds_toArray, List.set_cons_zero, List.set_cons_succ, i64_w, i32_w]
                  rfl
                refine pure_ (i := 23) (N := some 82) (v := undef) (a' := ?_) #[true, true, true, true, true, true, true, true, true, true, true, true, true, true, true, true, true, true, true, true, true, true, true, true, false, false, false, false, false, false, false] rfl rfl (any_of HT_.out (by kernel_rfl)) (fun _ _ _ h => h) (Or.inr ⟨by rfl, rfl⟩) ?_ ?_
                rotate_left
                · simp only [Act.put, List.setIfInBounds_toArray, List.set_cons_zero, List.set_cons_succ, i64_w, i32_w]
                  rfl
                refine pure_ (i := 24) (N := some 83) (v := undef) (a' := ?_) #[true, true, true, true, true, true, true, true, true, true, true, true, true, true, true, true, true, true, true, true, true, true, true, true, true, false, false, false, false, false, false] rfl rfl (any_of HT_.out (by kernel_rfl)) (fun _ _ _ h => h) (Or.inr ⟨by rfl, rfl⟩) ?_ ?_
                rotate_left
                · simp only [Act.put, List.setIfInBounds_toArray, List.set_cons_zero, List.set_cons_succ, i64_w, i32_w]
                  rfl
                refine pure_ (i := 25) (N := some 84) (v := undef) (a' := ?_) #[true, true, true, true, true, true, true, true, true, true, true, true, true, true, true, true, true, true, true, true, true, true, true, true, true, true, false, false, false, false, false] rfl rfl (any_of HT_.out (by kernel_rfl)) (fun _ _ _ h => h) (Or.inr ⟨by rfl, rfl⟩) ?_ ?_
                rotate_left
                · simp only [Act.put, List.setIfInBounds_toArray, List.set_cons_zero, List.set_cons_succ, i64_w, i32_w]
                  rfl
                refine pure_ (i := 26) (N := some 85) (v := undef) (a' := ?_) #[true, true, true, true, true, true, true, true, true, true, true, true, true, true, true, true, true, true, true, true, true, true, true, true, true, true, true, false, false, false, false] rfl rfl (any_of HT_.out (by kernel_rfl)) (fun _ _ _ h => h) (Or.inr ⟨by rfl, rfl⟩) ?_ ?_
                rotate_left
                · simp only [Act.put, List.setIfInBounds_toArray, List.set_cons_zero, List.set_cons_succ, i64_w, i32_w]
                  rfl
                refine pure_ (i := 27) (N := some 86) (v := undef) (a' := ?_) #[true, true, true, true, true, true, true, true, true, true, true, true, true, true, true, true, true, true, true, true, true, true, true, true, true, true, true, true, false, false, false] rfl rfl (any_of HT_.out (by kernel_rfl)) (fun _ _ _ h => h) (Or.inr ⟨by rfl, rfl⟩) ?_ ?_
                rotate_left
                · simp only [Act.put, List.setIfInBounds_toArray, List.set_cons_zero, List.set_cons_succ, i64_w, i32_w]
                  rfl
                refine pure_ (i := 28) (N := some 87) (v := undef) (a' := ?_) #[true, true, true, true, true, true, true, true, true, true, true, true, true, true, true, true, true, true, true, true, true, true, true, true, true, true, true, true, true, false, false] rfl rfl (any_of HT_.out (by kernel_rfl)) (fun _ _ _ h => h) (Or.inr ⟨by rfl, rfl⟩) ?_ ?_
                rotate_left
                · simp only [Act.put, List.setIfInBounds_toArray, List.set_cons_zero, List.set_cons_succ, i64_w, i32_w]
                  rfl
                refine pure_ (i := 29) (N := some 88) (v := undef) (a' := ?_) #[true, true, true, true, true, true, true, true, true, true, true, true, true, true, true, true, true, true, true, true, true, true, true, true, true, true, true, true, true, true, false] rfl rfl (any_of HT_.out (by kernel_rfl)) (fun _ _ _ h => h) (Or.inr ⟨by rfl, rfl⟩) ?_ ?_
                rotate_left
                · simp only [Act.put, List.setIfInBounds_toArray, List.set_cons_zero, List.set_cons_succ, i64_w, i32_w]
                  rfl
                refine pure_ (i := 30) (N := some 89) (v := ?_) (a' := ?_) #[true, true, true, true, true, true, true, true, true, true, true, true, true, true, true, true, true, true, true, true, true, true, true, true, true, true, true, true, true, true, true] rfl rfl (any_of HT_.out (by kernel_rfl)) (fun _ _ _ h => h) (Or.inl ⟨by rfl, ?_⟩) ?_ ?_
                rotate_left
                · intro w'
                  go_simp
                  with_reducible rfl
                rotate_left
                · simp only [Act.put, List.setIfInBounds_toArray, List.set_cons_zero, List.set_cons_succ, i64_w, i32_w]
                  rfl
                refine done_ (done_of HT_.out (by kernel_rfl)) ?_
                try go_wp2
                go_meet
                case rel => exact ⟨_, (true), (by first | rfl | (simp; done) | (simp [*]; done)), H', ⟨by have := HJ6.out; first | omega | exact Nat.le_refl _⟩, ⟨by (with_reducible repeat (first | refine bkN ?_ _ | refine bkD ?_ | refine bkA ?_ _)); exact BK488.out⟩, ⟨by repeat (first | (with_reducible first | exact HB.out | apply pbA | apply pbN | apply pb1 | refine pbS ?_ GE488.out) | exact HB.out)⟩⟩
            · rw [if_neg c46] at H
              have c46b0 : (t498 == t500) = false := beq_eq_false_iff_ne.mpr c46
              have c46b1 : (t498 != t500) = true := bne_iff_ne.mpr c46
              have H' := Az.mk H
              clear H
              try go_wp2
              have n0_ := Az.mk (Kd.R_drew HO496.out)
              have n1_ := Az.mk (Kd.R_drew HO505.out)
              have n2_ := Az.mk (bkD BK488.out)
              have n3_ := Az.mk (pb1 HB.out)
              clear HO496
              clear HO505
              clear BK488
              clear HB
              have HO496 := n0_
              have HO505 := n1_
              have BK488 := n2_
              have HB := n3_
              clear n0_ n1_ n2_ n3_
              refine start_ (n := 31) (S := fun w' => True) (ds := []) #[false, false, false, false, false, false, false, false, false, false, false, false, false, false, false, false, false, false, false, false, false, false, false, false, false, false, false, false, false, false, false] (by kernel_rfl) rfl rfl trivial (fun hHeld => ?_); refine with_tabW l11_RollTells.tab7 l11_RollTells.bits7 (fun HT_ HW_ => ?_)
              generalize w44.drew = w62 at HO496 HO505 BK488 HB hHeld ⊢
              refine pure_ (i := 0) (N := some 59) (v := ?_) (a' := ?_) #[true, false, false, false, false, false, false, false, false, false, false, false, false, false, false, false, false, false, false, false, false, false, false, false, false, false, false, false, false, false, false] rfl rfl (any_of HT_.out (by kernel_rfl)) (fun _ _ _ h => h) (Or.inl ⟨by rfl, ?_⟩) ?_ ?_
              rotate_left
              · intro w'
                go_simp
                with_reducible rfl
              rotate_left
              · simp only [Act.put, List.setIfInBounds_toArray, List.set_cons_zero, List.set_cons_succ, i64_w, i32_w]
                rfl
              refine pure_ (i := 1) (N := some 60) (v := ?_) (a' := ?_) #[true, true, false, false, false, false, false, false, false, false, false, false, false, false, false, false, false, false, false, false, false, false, false, false, false, false, false, false, false, false, false] rfl rfl (any_of HT_.out (by kernel_rfl)) (fun _ _ _ h => h) (Or.inl ⟨by rfl, ?_⟩) ?_ ?_
              rotate_left
              · intro w'
                go_simp
                with_reducible rfl
              rotate_left
              · simp only [Act.put, List.setIfInBounds_toArray, List.set_cons_zero, List.set_cons_succ, i64_w, i32_w]
                rfl
              refine pure_ (i := 2) (N := some 61) (v := ?_) (a' := ?_) #[true, true, true, false, false, false, false, false, false, false, false, false, false, false, false, false, false, false, false, false, false, false, false, false, false, false, false, false, false, false, false] rfl rfl (any_of HT_.out (by kernel_rfl)) (fun _ _ _ h => h) (Or.inl ⟨by rfl, ?_⟩) ?_ ?_
              rotate_left
              · intro w'
                go_simp
                with_reducible rfl
              rotate_left
              · simp only [Act.put, List.setIfInBounds_toArray, List.set_cons_zero, List.set_cons_succ, i64_w, i32_w]
                rfl
              refine pure_ (i := 3) (N := some 62) (v := ?_) (a' := ?_) #[true, true, true, true, false, false, false, false, false, false, false, false, false, false, false, false, false, false, false, false, false, false, false, false, false, false, false, false, false, false, false] rfl rfl (any_of HT_.out (by kernel_rfl)) (fun _ _ _ h => h) (Or.inl ⟨by rfl, ?_⟩) ?_ ?_
              rotate_left
              · intro w'
                go_simp
                with_reducible rfl
              rotate_left
              · simp only [Act.put, List.setIfInBounds_toArray, List.set_cons_zero, List.set_cons_succ, i64_w, i32_w]
                rfl
              refine pure_ (i := 4) (N := some 63) (v := ?_) (a' := ?_) #[true, true, true, true, true, false, false, false, false, false, false, false, false, false, false, false, false, false, false, false, false, false, false, false, false, false, false, false, false, false, false] rfl rfl (any_of HT_.out (by kernel_rfl)) (fun _ _ _ h => h) (Or.inl ⟨by rfl, ?_⟩) ?_ ?_
              rotate_left
              · intro w'
                go_simp
                with_reducible rfl
              rotate_left
              · simp only [Act.put, List.setIfInBounds_toArray, List.set_cons_zero, List.set_cons_succ, i64_w, i32_w]
                rfl
              refine pure_ (i := 5) (N := some 64) (v := ?_) (a' := ?_) #[true, true, true, true, true, true, false, false, false, false, false, false, false, false, false, false, false, false, false, false, false, false, false, false, false, false, false, false, false, false, false] rfl rfl (any_of HT_.out (by kernel_rfl)) (fun _ _ _ h => h) (Or.inl ⟨by rfl, ?_⟩) ?_ ?_
              rotate_left
              · intro w'
                go_simp
                with_reducible rfl
              rotate_left
              · simp only [Act.put, List.setIfInBounds_toArray, List.set_cons_zero, List.set_cons_succ, i64_w, i32_w]
                rfl
              refine pure_ (i := 6) (N := some 65) (v := ?_) (a' := ?_) #[true, true, true, true, true, true, true, false, false, false, false, false, false, false, false, false, false, false, false, false, false, false, false, false, false, false, false, false, false, false, false] rfl rfl (any_of HT_.out (by kernel_rfl)) (fun _ _ _ h => h) (Or.inl ⟨by rfl, ?_⟩) ?_ ?_
              rotate_left
              · intro w'
                go_simp
                with_reducible rfl
              rotate_left
              · simp only [Act.put, List.setIfInBounds_toArray, List.set_cons_zero, List.set_cons_succ, i64_w, i32_w]
                rfl
              refine pure_ (i := 7) (N := some 66) (v := ?_) (a' := ?_) #[true, true, true, true, true, true, true, true, false, false, false, false, false, false, false, false, false, false, false, false, false, false, false, false, false, false, false, false, false, false, false] rfl rfl (any_of HT_.out (by kernel_rfl)) (fun _ _ _ h => h) (Or.inl ⟨by rfl, ?_⟩) ?_ ?_
              rotate_left
              · intro w'
                go_simp
                with_reducible rfl
              rotate_left
              · simp only [Act.put, List.setIfInBounds_toArray, List.set_cons_zero, List.set_cons_succ, i64_w, i32_w]
                rfl
              refine pure_ (i := 8) (N := some 67) (v := ?_) (a' := ?_) #[true, true, true, true, true, true, true, true, true, false, false, false, false, false, false, false, false, false, false, false, false, false, false, false, false, false, false, false, false, false, false] rfl rfl (any_of HT_.out (by kernel_rfl)) (fun _ _ _ h => h) (Or.inl ⟨by rfl, ?_⟩) ?_ ?_
              rotate_left
              · intro w'
                go_simp
                with_reducible rfl
              rotate_left
              · simp only [Act.put, List.setIfInBounds_toArray, List.set_cons_zero, List.set_cons_succ, i64_w, i32_w]
                rfl
              refine pure_ (i := 9) (N := some 68) (v := undef) (a' := ?_) #[true, true, true, true, true, true, true, true, true, true, false, false, false, false, false, false, false, false, false, false, false, false, false, false, false, false, false, false, false, false, false] rfl rfl (any_of HT_.out (by kernel_rfl)) (fun _ _ _ h => h) (Or.inr ⟨by rfl, rfl⟩) ?_ ?_
              rotate_left
              · simp only [Act.put, List.setIfInBounds_toArray, List.set_cons_zero, List.set_cons_succ, i64_w, i32_w]
                rfl
              refine pure_ (i := 10) (N := some 69) (v := undef) (a' := ?_) #[true, true, true, true, true, true, true, true, true, true, true, false, false, false, false, false, false, false, false, false, false, false, false, false, false, false, false, false, false, false, false] rfl rfl (any_of HT_.out (by kernel_rfl)) (fun _ _ _ h => h) (Or.inr ⟨by rfl, rfl⟩) ?_ ?_
              rotate_left
              · simp only [Act.put, List.setIfInBounds_toArray, List.set_cons_zero, List.set_cons_succ, i64_w, i32_w]
                rfl
              refine pure_ (i := 11) (N := some 70) (v := undef) (a' := ?_) #[true, true, true, true, true, true, true, true, true, true, true, true, false, false, false, false, false, false, false, false, false, false, false, false, false, false, false, false, false, false, false] rfl rfl (any_of HT_.out (by kernel_rfl)) (fun _ _ _ h => h) (Or.inr ⟨by rfl, rfl⟩) ?_ ?_
              rotate_left
              · simp only [Act.put, List.setIfInBounds_toArray, List.set_cons_zero, List.set_cons_succ, i64_w, i32_w]
                rfl
              refine pure_ (i := 12) (N := some 71) (v := ?_) (a' := ?_) #[true, true, true, true, true, true, true, true, true, true, true, true, true, false, false, false, false, false, false, false, false, false, false, false, false, false, false, false, false, false, false] rfl rfl (any_of HT_.out (by kernel_rfl)) (fun _ _ _ h => h) (Or.inl ⟨by rfl, ?_⟩) ?_ ?_
              rotate_left
              · intro w'
                go_simp
                with_reducible rfl
              rotate_left
              · simp only [Act.put, List.setIfInBounds_toArray, List.set_cons_zero, List.set_cons_succ, i64_w, i32_w]
                rfl
              refine pure_ (i := 13) (N := some 72) (v := ?_) (a' := ?_) #[true, true, true, true, true, true, true, true, true, true, true, true, true, true, false, false, false, false, false, false, false, false, false, false, false, false, false, false, false, false, false] rfl rfl (any_of HT_.out (by kernel_rfl)) (fun _ _ _ h => h) (Or.inl ⟨by rfl, ?_⟩) ?_ ?_
              rotate_left
              · intro w'
                go_simp
                with_reducible rfl
              rotate_left
              · simp only [Act.put, List.setIfInBounds_toArray, List.set_cons_zero, List.set_cons_succ, i64_w, i32_w]
                rfl
              refine pure_ (i := 14) (N := some 73) (v := undef) (a' := ?_) #[true, true, true, true, true, true, true, true, true, true, true, true, true, true, true, false, false, false, false, false, false, false, false, false, false, false, false, false, false, false, false] rfl rfl (any_of HT_.out (by kernel_rfl)) (fun _ _ _ h => h) (Or.inr ⟨by rfl, rfl⟩) ?_ ?_
              rotate_left
              · simp only [Act.put, List.setIfInBounds_toArray, List.set_cons_zero, List.set_cons_succ, i64_w, i32_w]
                rfl
              refine pure_ (i := 15) (N := some 74) (v := undef) (a' := ?_) #[true, true, true, true, true, true, true, true, true, true, true, true, true, true, true, true, false, false, false, false, false, false, false, false, false, false, false, false, false, false, false] rfl rfl (any_of HT_.out (by kernel_rfl)) (fun _ _ _ h => h) (Or.inr ⟨by rfl, rfl⟩) ?_ ?_
              rotate_left
              · simp only [Act.put, List.setIfInBounds_toArray, List.set_cons_zero, List.set_cons_succ, i64_w, i32_w]
                rfl
              refine pure_ (i := 16) (N := some 75) (v := undef) (a' := ?_) #[true, true, true, true, true, true, true, true, true, true, true, true, true, true, true, true, true, false, false, false, false, false, false, false, false, false, false, false, false, false, false] rfl rfl (any_of HT_.out (by kernel_rfl)) (fun _ _ _ h => h) (Or.inr ⟨by rfl, rfl⟩) ?_ ?_
              rotate_left
              · simp only [Act.put, List.setIfInBounds_toArray, List.set_cons_zero, List.set_cons_succ, i64_w, i32_w]
                rfl
              refine pure_ (i := 17) (N := some 76) (v := ?_) (a' := ?_) #[true, true, true, true, true, true, true, true, true, true, true, true, true, true, true, true, true, true, false, false, false, false, false, false, false, false, false, false, false, false, false] rfl rfl (any_of HT_.out (by kernel_rfl)) (fun _ _ _ h => h) (Or.inl ⟨by rfl, ?_⟩) ?_ ?_
              rotate_left
              · intro w'
                go_simp
                with_reducible rfl
              rotate_left
              · simp only [Act.put, List.setIfInBounds_toArray, List.set_cons_zero, List.set_cons_succ, i64_w, i32_w]
                rfl
              refine pure_ (i := 18) (N := some 77) (v := ?_) (a' := ?_) #[true, true, true, true, true, true, true, true, true, true, true, true, true, true, true, true, true, true, true, false, false, false, false, false, false, false, false, false, false, false, false] rfl rfl (any_of HT_.out (by kernel_rfl)) (fun _ _ _ h => h) (Or.inl ⟨by rfl, ?_⟩) ?_ ?_
              rotate_left
              · intro w'
                go_simp
                with_reducible rfl
              rotate_left
              · simp only [Act.put, List.setIfInBounds_toArray, List.set_cons_zero, List.set_cons_succ, i64_w, i32_w]
                rfl
              refine pure_ (i := 19) (N := some 78) (v := undef) (a' := ?_) #[true, true, true, true, true, true, true, true, true, true, true, true, true, true, true, true, true, true, true, true, false, false, false, false, false, false, false, false, false, false, false] rfl rfl (any_of HT_.out (by kernel_rfl)) (fun _ _ _ h => h) (Or.inr ⟨by rfl, rfl⟩) ?_ ?_
              rotate_left
              · simp only [Act.put, List.setIfInBounds_toArray, List.set_cons_zero, List.set_cons_succ, i64_w, i32_w]
                rfl
              refine pure_ (i := 20) (N := some 79) (v := undef) (a' := ?_) #[true, true, true, true, true, true, true, true, true, true, true, true, true, true, true, true, true, true, true, true, true, false, false, false, false, false, false, false, false, false, false] rfl rfl (any_of HT_.out (by kernel_rfl)) (fun _ _ _ h => h) (Or.inr ⟨by rfl, rfl⟩) ?_ ?_
              rotate_left
              · simp only [Act.put, List.setIfInBounds_toArray, List.set_cons_zero, List.set_cons_succ, i64_w, i32_w]
                rfl
              refine pure_ (i := 21) (N := some 80) (v := undef) (a' := ?_) #[true, true, true, true, true, true, true, true, true, true, true, true, true, true, true, true, true, true, true, true, true, true, false, false, false, false, false, false, false, false, false] rfl rfl (any_of HT_.out (by kernel_rfl)) (fun _ _ _ h => h) (Or.inr ⟨by rfl, rfl⟩) ?_ ?_
              rotate_left
              · simp only [Act.put, List.setIfInBounds_toArray, List.set_cons_zero, List.set_cons_succ, i64_w, i32_w]
                rfl
              refine pure_ (i := 22) (N := some 81) (v := undef) (a' := ?_) #[true, true, true, true, true, true, true, true, true, true, true, true, true, true, true, true, true, true, true, true, true, true, true, false, false, false, false, false, false, false, false] rfl rfl (any_of HT_.out (by kernel_rfl)) (fun _ _ _ h => h) (Or.inr ⟨by rfl, rfl⟩) ?_ ?_
              rotate_left
              · simp only [Act.put, List.setIfInBounds_toArray, List.set_cons_zero, List.set_cons_succ, i64_w, i32_w]
                rfl
              refine pure_ (i := 23) (N := some 82) (v := undef) (a' := ?_) #[true, true, true, true, true, true, true, true, true, true, true, true, true, true, true, true, true, true, true, true, true, true, true, true, false, false, false, false, false, false, false] rfl rfl (any_of HT_.out (by kernel_rfl)) (fun _ _ _ h => h) (Or.inr ⟨by rfl, rfl⟩) ?_ ?_
              rotate_left
              · simp only [Act.put, List.setIfInBounds_toArray, List.set_cons_zero, List.set_cons_succ, i64_w, i32_w]
                rfl
              refine pure_ (i := 24) (N := some 83) (v := undef) (a' := ?_) #[true, true, true, true, true, true, true, true, true, true, true, true, true, true, true, true, true, true, true, true, true, true, true, true, true, false, false, false, false, false, false] rfl rfl (any_of HT_.out (by kernel_rfl)) (fun _ _ _ h => h) (Or.inr ⟨by rfl, rfl⟩) ?_ ?_
              rotate_left
              · simp only [Act.put, List.setIfInBounds_toArray, List.set_cons_zero, List.set_cons_succ, i64_w, i32_w]
                rfl
              refine pure_ (i := 25) (N := some 84) (v := undef) (a' := ?_) #[true, true, true, true, true, true, true, true, true, true, true, true, true, true, true, true, true, true, true, true, true, true, true, true, true, true, false, false, false, false, false] rfl rfl (any_of HT_.out (by kernel_rfl)) (fun _ _ _ h => h) (Or.inr ⟨by rfl, rfl⟩) ?_ ?_
              rotate_left
              · simp only [Act.put, List.setIfInBounds_toArray, List.set_cons_zero, List.set_cons_succ, i64_w, i32_w]
                rfl
              refine pure_ (i := 26) (N := some 85) (v := undef) (a' := ?_) #[true, true, true, true, true, true, true, true, true, true, true, true, true, true, true, true, true, true, true, true, true, true, true, true, true, true, true, false, false, false, false] rfl rfl (any_of HT_.out (by kernel_rfl)) (fun _ _ _ h => h) (Or.inr ⟨by rfl, rfl⟩) ?_ ?_
              rotate_left
              · simp only [Act.put, List.setIfInBounds_toArray, List.set_cons_zero, List.set_cons_succ, i64_w, i32_w]
                rfl
              refine pure_ (i := 27) (N := some 86) (v := undef) (a' := ?_) #[true, true, true, true, true, true, true, true, true, true, true, true, true, true, true, true, true, true, true, true, true, true, true, true, true, true, true, true, false, false, false] rfl rfl (any_of HT_.out (by kernel_rfl)) (fun _ _ _ h => h) (Or.inr ⟨by rfl, rfl⟩) ?_ ?_
              rotate_left
              · simp only [Act.put, List.setIfInBounds_toArray, List.set_cons_zero, List.set_cons_succ, i64_w, i32_w]
                rfl
              refine pure_ (i := 28) (N := some 87) (v := undef) (a' := ?_) #[true, true, true, true, true, true, true, true, true, true, true, true, true, true, true, true, true, true, true, true, true, true, true, true, true, true, true, true, true, false, false] rfl rfl (any_of HT_.out (by kernel_rfl)) (fun _ _ _ h => h) (Or.inr ⟨by rfl, rfl⟩) ?_ ?_
              rotate_left
              · simp only [Act.put, List.setIfInBounds_toArray, List.set_cons_zero, List.set_cons_succ, i64_w, i32_w]
                rfl
              refine pure_ (i := 29) (N := some 88) (v := undef) (a' := ?_) #[true, true, true, true, true, true, true, true, true, true, true, true, true, true, true, true, true, true, true, true, true, true, true, true, true, true, true, true, true, true, false] rfl rfl (any_of HT_.out (by kernel_rfl)) (fun _ _ _ h => h) (Or.inr ⟨by rfl, rfl⟩) ?_ ?_
              rotate_left
              · simp only [Act.put, List.setIfInBounds_toArray, List.set_cons_zero, List.set_cons_succ, i64_w, i32_w]
                rfl
              refine pure_ (i := 30) (N := some 89) (v := ?_) (a' := ?_) #[true, true, true, true, true, true, true, true, true, true, true, true, true, true, true, true, true, true, true, true, true, true, true, true, true, true, true, true, true, true, true] rfl rfl (any_of HT_.out (by kernel_rfl)) (fun _ _ _ h => h) (Or.inl ⟨by rfl, ?_⟩) ?_ ?_
              rotate_left
              · intro w'
                go_simp
                with_reducible rfl
              rotate_left
              · simp only [Act.put, List.setIfInBounds_toArray, List.set_cons_zero, List.set_cons_succ, i64_w, i32_w]
                rfl
              refine done_ (done_of HT_.out (by kernel_rfl)) ?_
              try go_wp2
              go_meet
              case rel => exact ⟨_, (true), (by first | rfl | (simp; done) | (simp [*]; done)), H', ⟨by have := HJ6.out; first | omega | exact Nat.le_refl _⟩, ⟨by (with_reducible repeat (first | refine bkN ?_ _ | refine bkD ?_ | refine bkA ?_ _)); exact BK488.out⟩, ⟨by repeat (first | (with_reducible first | exact HB.out | apply pbA | apply pbN | apply pb1 | refine pbS ?_ GE488.out) | exact HB.out)⟩⟩
          · rw [if_neg c45] at H
            have c45b0 : (t497 == t499) = false := beq_eq_false_iff_ne.mpr c45
            have c45b1 : (t497 != t499) = true := bne_iff_ne.mpr c45
            (first | rw [c45b0] | (simp only [i64_w, i32_w]; rw [c45b0]) | skip)
            have H' := Az.mk H
            clear H
            try go_wp2
            have n0_ := Az.mk (Kd.R_drew HO496.out)
            have n1_ := Az.mk (Kd.R_drew HO505.out)
            have n2_ := Az.mk (bkD BK488.out)
            have n3_ := Az.mk (pb1 HB.out)
            clear HO496
            clear HO505
            clear BK488
            clear HB
            have HO496 := n0_
            have HO505 := n1_
            have BK488 := n2_
            have HB := n3_
            clear n0_ n1_ n2_ n3_
            refine start_ (n := 31) (S := fun w' => True) (ds := []) #[false, false, false, false, false, false, false, false, false, false, false, false, false, false, false, false, false, false, false, false, false, false, false, false, false, false, false, false, false, false, false] (by kernel_rfl) rfl rfl trivial (fun hHeld => ?_); refine with_tabW l11_RollTells.tab7 l11_RollTells.bits7 (fun HT_ HW_ => ?_)
            generalize w44.drew = w63 at HO496 HO505 BK488 HB hHeld ⊢
            refine pure_ (i := 0) (N := some 59) (v := ?_) (a' := ?_) #[true, false, false, false, false, false, false, false, false, false, false, false, false, false, false, false, false, false, false, false, false, false, false, false, false, false, false, false, false, false, false] rfl rfl (any_of HT_.out (by kernel_rfl)) (fun _ _ _ h => h) (Or.inl ⟨by rfl, ?_⟩) ?_ ?_
            rotate_left
            · intro w'
              go_simp
              with_reducible rfl
            rotate_left
            · simp only [Act.put, List.setIfInBounds_toArray, List.set_cons_zero, List.set_cons_succ, i64_w, i32_w]
              rfl
            refine pure_ (i := 1) (N := some 60) (v := ?_) (a' := ?_) #[true, true, false, false, false, false, false, false, false, false, false, false, false, false, false, false, false, false, false, false, false, false, false, false, false, false, false, false, false, false, false] rfl rfl (any_of HT_.out (by kernel_rfl)) (fun _ _ _ h => h) (Or.inl ⟨by rfl, ?_⟩) ?_ ?_
            rotate_left
            · intro w'
              go_simp
              with_reducible rfl
            rotate_left
            · simp only [Act.put, List.setIfInBounds_toArray, List.set_cons_zero, List.set_cons_succ, i64_w, i32_w]
              rfl
            refine pure_ (i := 2) (N := some 61) (v := ?_) (a' := ?_) #[true, true, true, false, false, false, false, false, false, false, false, false, false, false, false, false, false, false, false, false, false, false, false, false, false, false, false, false, false, false, false] rfl rfl (any_of HT_.out (by kernel_rfl)) (fun _ _ _ h => h) (Or.inl ⟨by rfl, ?_⟩) ?_ ?_
            rotate_left
            · intro w'
              go_simp
              with_reducible rfl
            rotate_left
            · simp only [Act.put, List.setIfInBounds_toArray, List.set_cons_zero, List.set_cons_succ, i64_w, i32_w]
              rfl
            refine pure_ (i := 3) (N := some 62) (v := ?_) (a' := ?_) #[true, true, true, true, false, false, false, false, false, false, false, false, false, false, false, false, false, false, false, false, false, false, false, false, false, false, false, false, false, false, false] rfl rfl (any_of HT_.out (by kernel_rfl)) (fun _ _ _ h => h) (Or.inl ⟨by rfl, ?_⟩) ?_ ?_
            rotate_left
            · intro w'
              go_simp
              with_reducible rfl
            rotate_left
            · simp only [Act.put, List.setIfInBounds_toArray, List.set_cons_zero, List.set_cons_succ, i64_w, i32_w]
              rfl
            refine pure_ (i := 4) (N := some 63) (v := undef) (a' := ?_) #[true, true, true, true, true, false, false, false, false, false, false, false, false, false, false, false, false, false, false, false, false, false, false, false, false, false, false, false, false, false, false] rfl rfl (any_of HT_.out (by kernel_rfl)) (fun _ _ _ h => h) (Or.inr ⟨by rfl, rfl⟩) ?_ ?_
            rotate_left
            · simp only [Act.put, List.setIfInBounds_toArray, List.set_cons_zero, List.set_cons_succ, i64_w, i32_w]
              rfl
            refine pure_ (i := 5) (N := some 64) (v := undef) (a' := ?_) #[true, true, true, true, true, true, false, false, false, false, false, false, false, false, false, false, false, false, false, false, false, false, false, false, false, false, false, false, false, false, false] rfl rfl (any_of HT_.out (by kernel_rfl)) (fun _ _ _ h => h) (Or.inr ⟨by rfl, rfl⟩) ?_ ?_
            rotate_left
            · simp only [Act.put, List.setIfInBounds_toArray, List.set_cons_zero, List.set_cons_succ, i64_w, i32_w]
              rfl
            refine pure_ (i := 6) (N := some 65) (v := undef) (a' := ?_) #[true, true, true, true, true, true, true, false, false, false, false, false, false, false, false, false, false, false, false, false, false, false, false, false, false, false, false, false, false, false, false] rfl rfl (any_of HT_.out (by kernel_rfl)) (fun _ _ _ h => h) (Or.inr ⟨by rfl, rfl⟩) ?_ ?_
            rotate_left
            · simp only [Act.put, List.setIfInBounds_toArray, List.set_cons_zero, List.set_cons_succ, i64_w, i32_w]
              rfl
            refine pure_ (i := 7) (N := some 66) (v := ?_) (a' := ?_) #[true, true, true, true, true, true, true, true, false, false, false, false, false, false, false, false, false, false, false, false, false, false, false, false, false, false, false, false, false, false, false] rfl rfl (any_of HT_.out (by kernel_rfl)) (fun _ _ _ h => h) (Or.inl ⟨by rfl, ?_⟩) ?_ ?_
            rotate_left
            · intro w'
              go_simp
              with_reducible rfl
            rotate_left
            · simp only [Act.put, List.setIfInBounds_toArray, List.set_cons_zero, List.set_cons_succ, i64_w, i32_w]
              rfl
            refine pure_ (i := 8) (N := some 67) (v := ?_) (a' := ?_) #[true, true, true, true, true, true, true, true, true, false, false, false, false, false, false, false, false, false, false, false, false, false, false, false, false, false, false, false, false, false, false] rfl rfl (any_of HT_.out (by kernel_rfl)) (fun _ _ _ h => h) (Or.inl ⟨by rfl, ?_⟩) ?_ ?_
            rotate_left
            · intro w'
              go_simp
              with_reducible rfl
            rotate_left
            · simp only [Act.put, List.setIfInBounds_toArray, List.set_cons_zero, List.set_cons_succ, i64_w, i32_w]
              rfl
            refine pure_ (i := 9) (N := some 68) (v := undef) (a' := ?_) #[true, true, true, true, true, true, true, true, true, true, false, false, false, false, false, false, false, false, false, false, false, false, false, false, false, false, false, false, false, false, false] rfl rfl (any_of HT_.out (by kernel_rfl)) (fun _ _ _ h => h) (Or.inr ⟨by rfl, rfl⟩) ?_ ?_
            rotate_left
            · simp only [Act.put, List.setIfInBounds_toArray, List.set_cons_zero, List.set_cons_succ, i64_w, i32_w]
              rfl
            refine pure_ (i := 10) (N := some 69) (v := undef) (a' := ?_) #[true, true, true, true, true, true, true, true, true, true, true, false, false, false, false, false, false, false, false, false, false, false, false, false, false, false, false, false, false, false, false] rfl rfl (any_of HT_.out (by kernel_rfl)) (fun _ _ _ h => h) (Or.inr ⟨by rfl, rfl⟩) ?_ ?_
            rotate_left
            · simp only [Act.put, List.setIfInBounds_toArray, List.set_cons_zero, List.set_cons_succ, i64_w, i32_w]
              rfl
            refine pure_ (i := 11) (N := some 70) (v := undef) (a' := ?_) #[true, true, true, true, true, true, true, true, true, true, true, true, false, false, false, false, false, false, false, false, false, false, false, false, false, false, false, false, false, false, false] rfl rfl (any_of HT_.out (by kernel_rfl)) (fun _ _ _ h => h) (Or.inr ⟨by rfl, rfl⟩) ?_ ?_
            rotate_left
            · simp only [Act.put, List.setIfInBounds_toArray, List.set_cons_zero, List.set_cons_succ, i64_w, i32_w]
              rfl
            refine pure_ (i := 12) (N := some 71) (v := ?_) (a' := ?_) #[true, true, true, true, true, true, true, true, true, true, true, true, true, false, false, false, false, false, false, false, false, false, false, false, false, false, false, false, false, false, false] rfl rfl (any_of HT_.out (by kernel_rfl)) (fun _ _ _ h => h) (Or.inl ⟨by rfl, ?_⟩) ?_ ?_
            rotate_left
            · intro w'
              go_simp
              with_reducible rfl
            rotate_left
            · simp only [Act.put, List.setIfInBounds_toArray, List.set_cons_zero, List.set_cons_succ, i64_w, i32_w]
              rfl
            refine pure_ (i := 13) (N := some 72) (v := ?_) (a' := ?_) #[true, true, true, true, true, true, true, true, true, true, true, true, true, true, false, false, false, false, false, false, false, false, false, false, false, false, false, false, false, false, false] rfl rfl (any_of HT_.out (by kernel_rfl)) (fun _ _ _ h => h) (Or.inl ⟨by rfl, ?_⟩) ?_ ?_
            rotate_left
            · intro w'
              go_simp
              with_reducible rfl
            rotate_left
            · simp only [Act.put, List.setIfInBounds_toArray, List.set_cons_zero, List.set_cons_succ, i64_w, i32_w]
              rfl
            refine pure_ (i := 14) (N := some 73) (v := undef) (a' := ?_) #[true, true, true, true, true, true, true, true, true, true, true, true, true, true, true, false, false, false, false, false, false, false, false, false, false, false, false, false, false, false, false] rfl rfl (any_of HT_.out (by kernel_rfl)) (fun _ _ _ h => h) (Or.inr ⟨by rfl, rfl⟩) ?_ ?_
            rotate_left
            · simp only [Act.put, List.setIfInBounds_toArray, List.set_cons_zero, List.set_cons_succ, i64_w, i32_w]
              rfl
            refine pure_ (i := 15) (N := some 74) (v := undef) (a' := ?_) #[true, true, true, true, true, true, true, true, true, true, true, true, true, true, true, true, false, false, false, false, false, false, false, false, false, false, false, false, false, false, false] rfl rfl (any_of HT_.out (by kernel_rfl)) (fun _ _ _ h => h) (Or.inr ⟨by rfl, rfl⟩) ?_ ?_
            rotate_left
            · simp only [Act.put, List.setIfInBounds_toArray, List.set_cons_zero, List.set_cons_succ, i64_w, i32_w]
              rfl
            refine pure_ (i := 16) (N := some 75) (v := undef) (a' := ?_) #[true, true, true, true, true, true, true, true, true, true, true, true, true, true, true, true, true, false, false, false, false, false, false, false, false, false, false, false, false, false, false] rfl rfl (any_of HT_.out (by kernel_rfl)) (fun _ _ _ h => h) (Or.inr ⟨by rfl, rfl⟩) ?_ ?_
            rotate_left
            · simp only [Act.put, List.setIfInBounds_toArray, List.set_cons_zero, List.set_cons_succ, i64_w, i32_w]
              rfl
            refine pure_ (i := 17) (N := some 76) (v := ?_) (a' := ?_) #[true, true, true, true, true, true, true, true, true, true, true, true, true, true, true, true, true, true, false, false, false, false, false, false, false, false, false, false, false, false, false] rfl rfl (any_of HT_.out (by kernel_rfl)) (fun _ _ _ h => h) (Or.inl ⟨by rfl, ?_⟩) ?_ ?_
            rotate_left
            · intro w'
              go_simp
              with_reducible rfl
            rotate_left
            · simp only [Act.put, List.setIfInBounds_toArray, List.set_cons_zero, List.set_cons_succ, i64_w, i32_w]
              rfl
            refine pure_ (i := 18) (N := some 77) (v := ?_) (a' := ?_) #[true, true, true, true, true, true, true, true, true, true, true, true, true, true, true, true, true, true, true, false, false, false, false, false, false, false, false, false, false, false, false] rfl rfl (any_of HT_.out (by kernel_rfl)) (fun _ _ _ h => h) (Or.inl ⟨by rfl, ?_⟩) ?_ ?_
            rotate_left
            · intro w'
              go_simp
              with_reducible rfl
            rotate_left
            · simp only [Act.put, List.setIfInBounds_toArray, List.set_cons_zero, List.set_cons_succ, i64_w, i32_w]
              rfl
            refine pure_ (i := 19) (N := some 78) (v := undef) (a' := ?_) #[true, true, true, true, true, true, true, true, true, true, true, true, true, true, true, true, true, true, true, true, false, false, false, false, false, false, false, false, false, false, false] rfl rfl (any_of HT_.out (by kernel_rfl)) (fun _ _ _ h => h) (Or.inr ⟨by rfl, rfl⟩) ?_ ?_
            rotate_left
            · simp only [Act.put, List.setIfInBounds_toArray, List.set_cons_zero, List.set_cons_succ, i64_w, i32_w]
              rfl
            refine pure_ (i := 20) (N := some 79) (v := undef) (a' := ?_) #[true, true, true, true, true, true, true, true, true, true, true, true, true, true, true, true, true, true, true, true, true, false, false, false, false, false, false, false, false, false, false] rfl rfl (any_of HT_.out (by kernel_rfl)) (fun _ _ _ h => h) (Or.inr ⟨by rfl, rfl⟩) ?_ ?_
            rotate_left
            · simp only [Act.put, List.setIfInBounds_toArray, List.set_cons_zero, List.set_cons_succ, i64_w, i32_w]
              rfl
            refine pure_ (i := 21) (N := some 80) (v := undef) (a' := ?_) #[true, true, true, true, true, true, true, true, true, true, true, true, true, true, true, true, true, true, true, true, true, true, false, false, false, false, false, false, false, false, false] rfl rfl (any_of HT_.out (by kernel_rfl)) (fun _ _ _ h => h) (Or.inr ⟨by rfl, rfl⟩) ?_ ?_
            rotate_left
            · simp only [Act.put, List.setIfInBounds_toArray, List.set_cons_zero, List.set_cons_succ, i64_w, i32_w]
              rfl
            refine pure_ (i := 22) (N := some 81) (v := undef) (a' := ?_) #[true, true, true, true, true, true, true, true, true, true, true, true, true, true, true, true, true, true, true, true, true, true, true, false, false, false, false, false, false, false, false] rfl rfl (any_of HT_.out (by kernel_rfl)) (fun _ _ _ h => h) (Or.inr ⟨by rfl, rfl⟩) ?_ ?_
            rotate_left
            · simp only [Act.put, List.setIfInBounds_toArray, List.set_cons_zero, List.set_cons_succ, i64_w, i32_w]
              rfl
            refine pure_ (i := 23) (N := some 82) (v := undef) (a' := ?_) #[true, true, true, true, true, true, true, true, true, true, true, true, true, true, true, true, true, true, true, true, true, true, true, true, false, false, false, false, false, false, false] rfl rfl (any_of HT_.out (by kernel_rfl)) (fun _ _ _ h => h) (Or.inr ⟨by rfl, rfl⟩) ?_ ?_
            rotate_left
            · simp only [Act.put, List.setIfInBounds_toArray, List.set_cons_zero, List.set_cons_succ, i64_w, i32_w]
              rfl
            refine pure_ (i := 24) (N := some 83) (v := undef) (a' := ?_) #[true, true, true, true, true, true, true, true, true, true, true, true, true, true, true, true, true, true, true, true, true, true, true, true, true, false, false, false, false, false, false] rfl rfl (any_of HT_.out (by kernel_rfl)) (fun _ _ _ h => h) (Or.inr ⟨by rfl, rfl⟩) ?_ ?_
            rotate_left
            · simp only [Act.put, List.setIfInBounds_toArray, List.set_cons_zero, List.set_cons_succ, i64_w, i32_w]
              rfl
            refine pure_ (i := 25) (N := some 84) (v := undef) (a' := ?_) #[true, true, true, true, true, true, true, true, true, true, true, true, true, true, true, true, true, true, true, true, true, true, true, true, true, true, false, false, false, false, false] rfl rfl (any_of HT_.out (by kernel_rfl)) (fun _ _ _ h => h) (Or.inr ⟨by rfl, rfl⟩) ?_ ?_
            rotate_left
            · simp only [Act.put, List.setIfInBounds_toArray, List.set_cons_zero, List.set_cons_succ, i64_w, i32_w]
              rfl
            refine pure_ (i := 26) (N := some 85) (v := undef) (a' := ?_) #[true, true, true, true, true, true, true, true, true, true, true, true, true, true, true, true, true, true, true, true, true, true, true, true, true, true, true, false, false, false, false] rfl rfl (any_of HT_.out (by kernel_rfl)) (fun _ _ _ h => h) (Or.inr ⟨by rfl, rfl⟩) ?_ ?_
            rotate_left
            · simp only [Act.put, List.setIfInBounds_toArray, List.set_cons_zero, List.set_cons_succ, i64_w, i32_w]
              rfl
            refine pure_ (i := 27) (N := some 86) (v := undef) (a' := ?_) #[true, true, true, true, true, true, true, true, true, true, true, true, true, true, true, true, true, true, true, true, true, true, true, true, true, true, true, true, false, false, false] rfl rfl (any_of HT_.out (by kernel_rfl)) (fun _ _ _ h => h) (Or.inr ⟨by rfl, rfl⟩) ?_ ?_
            rotate_left
            · simp only [Act.put, List.setIfInBounds_toArray, List.set_cons_zero, List.set_cons_succ, i64_w, i32_w]
              rfl
            refine pure_ (i := 28) (N := some 87) (v := undef) (a' := ?_) #[true, true, true, true, true, true, true, true, true, true, true, true, true, true, true, true, true, true, true, true, true, true, true, true, true, true, true, true, true, false, false] rfl rfl (any_of HT_.out (by kernel_rfl)) (fun _ _ _ h => h) (Or.inr ⟨by rfl, rfl⟩) ?_ ?_
            rotate_left
            · simp only [Act.put, List.setIfInBounds_toArray, List.set_cons_zero, List.set_cons_succ, i64_w, i32_w]
              rfl
            refine pure_ (i := 29) (N := some 88) (v := undef) (a' := ?_) #[true, true, true, true, true, true, true, true, true, true, true, true, true, true, true, true, true, true, true, true, true, true, true, true, true, true, true, true, true, true, false] rfl rfl (any_of HT_.out (by kernel_rfl)) (fun _ _ _ h => h) (Or.inr ⟨by rfl, rfl⟩) ?_ ?_
            rotate_left
            · simp only [Act.put, List.setIfInBounds_toArray, List.set_cons_zero, List.set_cons_succ, i64_w, i32_w]
              rfl
            refine pure_ (i := 30) (N := some 89) (v := ?_) (a' := ?_) #[true, true, true, true, true, true, true, true, true, true, true, true, true, true, true, true, true, true, true, true, true, true, true, true, true, true, true, true, true, true, true] rfl rfl (any_of HT_.out (by kernel_rfl)) (fun _ _ _ h => h) (Or.inl ⟨by rfl, ?_⟩) ?_ ?_
            rotate_left
            · intro w'
              go_simp
              with_reducible rfl
            rotate_left
            · simp only [Act.put, List.setIfInBounds_toArray, List.set_cons_zero, List.set_cons_succ, i64_w, i32_w]
              rfl
            refine done_ (done_of HT_.out (by kernel_rfl)) ?_
            try go_wp2
            go_meet
            case rel => exact ⟨_, (true), (by first | rfl | (simp; done) | (simp [*]; done)), H', ⟨by have := HJ6.out; first | omega | exact Nat.le_refl _⟩, ⟨by (with_reducible repeat (first | refine bkN ?_ _ | refine bkD ?_ | refine bkA ?_ _)); exact BK488.out⟩, ⟨by repeat (first | (with_reducible first | exact HB.out | apply pbA | apply pbN | apply pb1 | refine pbS ?_ GE488.out) | exact HB.out)⟩⟩
        case rest =>
          clear HC32
          try clear p2
          try clear c4
          try clear c45
          try clear c45b0
          try clear c45b1
          try clear c46
          try clear c46b0
          try clear c46b1
          obtain ⟨kq, x89_31, rfl, HA, HJ31, BK488, HB⟩ := hcut
          cases kq with
          | zero => exact absurd HA.out (by simp [l11_RollTells.j1])
          | succ kj31 =>
            have H := HA.out
            clear HA
            simp only [l11_RollTells.j1] at H
            by_cases c64 : x89_31 = true
            · subst c64
              have H1 : (some false) = some r := by rw [if_pos rfl] at H; exact H
              clear H
              have H := H1
              clear H1
              exact absurd (Option.some.inj (H.trans (congrArg some hr))) (by decide)
            · replace c64 := Bool.eq_false_iff.mpr c64
              subst c64
              have H1 : ((l11_own.f a0_0 a0_1 l0_2).bind fun bt522 => ((some (([] : List (S54)) : List (S54))).bind fun y527 => (if y527.length + l5.length < 5864062014805 then ((roll_Append.f bt522.1 bt522.2.1 bt522.2.2 (y527 ++ l5)).bind fun bt533 => ((r11_Append.f a0_0 a0_1 l0_2 l5).bind fun bt538 => ((r11_Same.f kj31 bt533.1 bt533.2.1 bt533.2.2 bt538.1 bt538.2.1 bt538.2.2).bind fun t543 => (if t543 = true then ((l11_own.f a0_0 a0_1 l0_2).bind fun bt544 => ((roll_Compact.f kj31 bt544.1 bt544.2.1 bt544.2.2 a1).bind fun bt549 => ((r11_Compact.f kj31 a0_0 a0_1 l0_2 a1).bind fun bt554 => ((r11_Same.f kj31 bt549.1 bt549.2.1 bt549.2.2 bt554.1 bt554.2.1 bt554.2.2).bind fun t559 => (if t559 = true then ((l11_own.f a0_0 a0_1 l0_2).bind fun bt560 => ((roll_Newer.f kj31 a4 a1 bt560.1 bt560.2.1 bt560.2.2).bind fun t565 => ((r11_Newer.f a4 a1 a0_0 a0_1 l0_2).bind fun t566 => (if (t565 == t566) = true then ((l11_live.f).bind fun t567 => (some t567)) else (some false))))) else (some false)))))) else (some false))))) else (none)))) = some r := by rw [if_neg (show ¬ (false = true) by decide)] at H; exact H
              clear H
              have H := H1
              clear H1
              replace H := Option.bind_eq_some_iff.mp H
              obtain ⟨⟨t522, t523, t524⟩, A650, H⟩ := H
              replace H : ((some (([] : List (S54)) : List (S54))).bind fun y527 => (if y527.length + l5.length < 5864062014805 then ((roll_Append.f t522 t523 t524 (y527 ++ l5)).bind fun bt533 => ((r11_Append.f a0_0 a0_1 l0_2 l5).bind fun bt538 => ((r11_Same.f kj31 bt533.1 bt533.2.1 bt533.2.2 bt538.1 bt538.2.1 bt538.2.2).bind fun t543 => (if t543 = true then ((l11_own.f a0_0 a0_1 l0_2).bind fun bt544 => ((roll_Compact.f kj31 bt544.1 bt544.2.1 bt544.2.2 a1).bind fun bt549 => ((r11_Compact.f kj31 a0_0 a0_1 l0_2 a1).bind fun bt554 => ((r11_Same.f kj31 bt549.1 bt549.2.1 bt549.2.2 bt554.1 bt554.2.1 bt554.2.2).bind fun t559 => (if t559 = true then ((l11_own.f a0_0 a0_1 l0_2).bind fun bt560 => ((roll_Newer.f kj31 a4 a1 bt560.1 bt560.2.1 bt560.2.2).bind fun t565 => ((r11_Newer.f a4 a1 a0_0 a0_1 l0_2).bind fun t566 => (if (t565 == t566) = true then ((l11_live.f).bind fun t567 => (some t567)) else (some false))))) else (some false)))))) else (some false))))) else (none))) = some r := H
              have A65 := Az.mk A650
              clear A650
              obtain ⟨y527, hy527⟩ : ∃ y_ : List (S54), y_ = (([] : List (S54))) := ⟨_, rfl⟩
              replace H : (if y527.length + l5.length < 5864062014805 then ((roll_Append.f t522 t523 t524 (y527 ++ l5)).bind fun bt533 => ((r11_Append.f a0_0 a0_1 l0_2 l5).bind fun bt538 => ((r11_Same.f kj31 bt533.1 bt533.2.1 bt533.2.2 bt538.1 bt538.2.1 bt538.2.2).bind fun t543 => (if t543 = true then ((l11_own.f a0_0 a0_1 l0_2).bind fun bt544 => ((roll_Compact.f kj31 bt544.1 bt544.2.1 bt544.2.2 a1).bind fun bt549 => ((r11_Compact.f kj31 a0_0 a0_1 l0_2 a1).bind fun bt554 => ((r11_Same.f kj31 bt549.1 bt549.2.1 bt549.2.2 bt554.1 bt554.2.1 bt554.2.2).bind fun t559 => (if t559 = true then ((l11_own.f a0_0 a0_1 l0_2).bind fun bt560 => ((roll_Newer.f kj31 a4 a1 bt560.1 bt560.2.1 bt560.2.2).bind fun t565 => ((r11_Newer.f a4 a1 a0_0 a0_1 l0_2).bind fun t566 => (if (t565 == t566) = true then ((l11_live.f).bind fun t567 => (some t567)) else (some false))))) else (some false)))))) else (some false))))) else (none)) = some r := by first | (rw [hy527]; with_reducible exact H) | (have H2_ := (Option.bind_some _ _).symm.trans H; rw [hy527]; with_reducible exact H2_) | (have H2_ := (Option.bind_some _ _).symm.trans H; with_reducible exact H2_) | with_reducible exact H | (rw [hy527]; exact H) | exact H
              have Ny527 := Az.mk hy527
              clear hy527
              by_cases c66 : y527.length + l5.length < 5864062014805
              · rw [if_pos c66] at H
                have LMc66 := Az.mk c66
                clear c66
                obtain ⟨y530, hy530⟩ : ∃ y_ : List (S54), y_ = (y527 ++ l5) := ⟨_, rfl⟩
                replace H : ((roll_Append.f t522 t523 t524 y530).bind fun bt533 => ((r11_Append.f a0_0 a0_1 l0_2 l5).bind fun bt538 => ((r11_Same.f kj31 bt533.1 bt533.2.1 bt533.2.2 bt538.1 bt538.2.1 bt538.2.2).bind fun t543 => (if t543 = true then ((l11_own.f a0_0 a0_1 l0_2).bind fun bt544 => ((roll_Compact.f kj31 bt544.1 bt544.2.1 bt544.2.2 a1).bind fun bt549 => ((r11_Compact.f kj31 a0_0 a0_1 l0_2 a1).bind fun bt554 => ((r11_Same.f kj31 bt549.1 bt549.2.1 bt549.2.2 bt554.1 bt554.2.1 bt554.2.2).bind fun t559 => (if t559 = true then ((l11_own.f a0_0 a0_1 l0_2).bind fun bt560 => ((roll_Newer.f kj31 a4 a1 bt560.1 bt560.2.1 bt560.2.2).bind fun t565 => ((r11_Newer.f a4 a1 a0_0 a0_1 l0_2).bind fun t566 => (if (t565 == t566) = true then ((l11_live.f).bind fun t567 => (some t567)) else (some false))))) else (some false)))))) else (some false))))) = some r := by first | (rw [hy530]; with_reducible exact H) | (have H2_ := (Option.bind_some _ _).symm.trans H; rw [hy530]; with_reducible exact H2_) | (have H2_ := (Option.bind_some _ _).symm.trans H; with_reducible exact H2_) | with_reducible exact H | (rw [hy530]; exact H) | exact H
                have Ny530 := Az.mk hy530
                clear hy530
                replace H := Option.bind_eq_some_iff.mp H
                obtain ⟨⟨t533, t534, t535⟩, A670, H⟩ := H
                replace H : ((r11_Append.f a0_0 a0_1 l0_2 l5).bind fun bt538 => ((r11_Same.f kj31 t533 t534 t535 bt538.1 bt538.2.1 bt538.2.2).bind fun t543 => (if t543 = true then ((l11_own.f a0_0 a0_1 l0_2).bind fun bt544 => ((roll_Compact.f kj31 bt544.1 bt544.2.1 bt544.2.2 a1).bind fun bt549 => ((r11_Compact.f kj31 a0_0 a0_1 l0_2 a1).bind fun bt554 => ((r11_Same.f kj31 bt549.1 bt549.2.1 bt549.2.2 bt554.1 bt554.2.1 bt554.2.2).bind fun t559 => (if t559 = true then ((l11_own.f a0_0 a0_1 l0_2).bind fun bt560 => ((roll_Newer.f kj31 a4 a1 bt560.1 bt560.2.1 bt560.2.2).bind fun t565 => ((r11_Newer.f a4 a1 a0_0 a0_1 l0_2).bind fun t566 => (if (t565 == t566) = true then ((l11_live.f).bind fun t567 => (some t567)) else (some false))))) else (some false)))))) else (some false)))) = some r := H
                have A67 := Az.mk A670
                clear A670
                replace H := Option.bind_eq_some_iff.mp H
                obtain ⟨⟨t538, t539, t540⟩, A680, H⟩ := H
                replace H : ((r11_Same.f kj31 t533 t534 t535 t538 t539 t540).bind fun t543 => (if t543 = true then ((l11_own.f a0_0 a0_1 l0_2).bind fun bt544 => ((roll_Compact.f kj31 bt544.1 bt544.2.1 bt544.2.2 a1).bind fun bt549 => ((r11_Compact.f kj31 a0_0 a0_1 l0_2 a1).bind fun bt554 => ((r11_Same.f kj31 bt549.1 bt549.2.1 bt549.2.2 bt554.1 bt554.2.1 bt554.2.2).bind fun t559 => (if t559 = true then ((l11_own.f a0_0 a0_1 l0_2).bind fun bt560 => ((roll_Newer.f kj31 a4 a1 bt560.1 bt560.2.1 bt560.2.2).bind fun t565 => ((r11_Newer.f a4 a1 a0_0 a0_1 l0_2).bind fun t566 => (if (t565 == t566) = true then ((l11_live.f).bind fun t567 => (some t567)) else (some false))))) else (some false)))))) else (some false))) = some r := H
                have A68 := Az.mk A680
                clear A680
                replace H := Option.bind_eq_some_iff.mp H
                obtain ⟨t543, A690, H⟩ := H
                replace H : (if t543 = true then ((l11_own.f a0_0 a0_1 l0_2).bind fun bt544 => ((roll_Compact.f kj31 bt544.1 bt544.2.1 bt544.2.2 a1).bind fun bt549 => ((r11_Compact.f kj31 a0_0 a0_1 l0_2 a1).bind fun bt554 => ((r11_Same.f kj31 bt549.1 bt549.2.1 bt549.2.2 bt554.1 bt554.2.1 bt554.2.2).bind fun t559 => (if t559 = true then ((l11_own.f a0_0 a0_1 l0_2).bind fun bt560 => ((roll_Newer.f kj31 a4 a1 bt560.1 bt560.2.1 bt560.2.2).bind fun t565 => ((r11_Newer.f a4 a1 a0_0 a0_1 l0_2).bind fun t566 => (if (t565 == t566) = true then ((l11_live.f).bind fun t567 => (some t567)) else (some false))))) else (some false)))))) else (some false)) = some r := H
                have A69 := Az.mk A690
                clear A690
                by_cases c70 : t543 = true
                · subst c70
                  have H1 : ((l11_own.f a0_0 a0_1 l0_2).bind fun bt544 => ((roll_Compact.f kj31 bt544.1 bt544.2.1 bt544.2.2 a1).bind fun bt549 => ((r11_Compact.f kj31 a0_0 a0_1 l0_2 a1).bind fun bt554 => ((r11_Same.f kj31 bt549.1 bt549.2.1 bt549.2.2 bt554.1 bt554.2.1 bt554.2.2).bind fun t559 => (if t559 = true then ((l11_own.f a0_0 a0_1 l0_2).bind fun bt560 => ((roll_Newer.f kj31 a4 a1 bt560.1 bt560.2.1 bt560.2.2).bind fun t565 => ((r11_Newer.f a4 a1 a0_0 a0_1 l0_2).bind fun t566 => (if (t565 == t566) = true then ((l11_live.f).bind fun t567 => (some t567)) else (some false))))) else (some false)))))) = some r := by rw [if_pos rfl] at H; exact H
                  clear H
                  have H := H1
                  clear H1
                  replace H := Option.bind_eq_some_iff.mp H
                  obtain ⟨⟨t544, t545, t546⟩, A710, H⟩ := H
                  replace H : ((roll_Compact.f kj31 t544 t545 t546 a1).bind fun bt549 => ((r11_Compact.f kj31 a0_0 a0_1 l0_2 a1).bind fun bt554 => ((r11_Same.f kj31 bt549.1 bt549.2.1 bt549.2.2 bt554.1 bt554.2.1 bt554.2.2).bind fun t559 => (if t559 = true then ((l11_own.f a0_0 a0_1 l0_2).bind fun bt560 => ((roll_Newer.f kj31 a4 a1 bt560.1 bt560.2.1 bt560.2.2).bind fun t565 => ((r11_Newer.f a4 a1 a0_0 a0_1 l0_2).bind fun t566 => (if (t565 == t566) = true then ((l11_live.f).bind fun t567 => (some t567)) else (some false))))) else (some false))))) = some r := H
                  have A71 := Az.mk A710
                  clear A710
                  replace H := Option.bind_eq_some_iff.mp H
                  obtain ⟨⟨t549, t550, t551⟩, A720, H⟩ := H
                  replace H : ((r11_Compact.f kj31 a0_0 a0_1 l0_2 a1).bind fun bt554 => ((r11_Same.f kj31 t549 t550 t551 bt554.1 bt554.2.1 bt554.2.2).bind fun t559 => (if t559 = true then ((l11_own.f a0_0 a0_1 l0_2).bind fun bt560 => ((roll_Newer.f kj31 a4 a1 bt560.1 bt560.2.1 bt560.2.2).bind fun t565 => ((r11_Newer.f a4 a1 a0_0 a0_1 l0_2).bind fun t566 => (if (t565 == t566) = true then ((l11_live.f).bind fun t567 => (some t567)) else (some false))))) else (some false)))) = some r := H
                  have A72 := Az.mk A720
                  clear A720
                  replace H := Option.bind_eq_some_iff.mp H
                  obtain ⟨⟨t554, t555, t556⟩, A730, H⟩ := H
                  replace H : ((r11_Same.f kj31 t549 t550 t551 t554 t555 t556).bind fun t559 => (if t559 = true then ((l11_own.f a0_0 a0_1 l0_2).bind fun bt560 => ((roll_Newer.f kj31 a4 a1 bt560.1 bt560.2.1 bt560.2.2).bind fun t565 => ((r11_Newer.f a4 a1 a0_0 a0_1 l0_2).bind fun t566 => (if (t565 == t566) = true then ((l11_live.f).bind fun t567 => (some t567)) else (some false))))) else (some false))) = some r := H
                  have A73 := Az.mk A730
                  clear A730
                  replace H := Option.bind_eq_some_iff.mp H
                  obtain ⟨t559, A740, H⟩ := H
                  replace H : (if t559 = true then ((l11_own.f a0_0 a0_1 l0_2).bind fun bt560 => ((roll_Newer.f kj31 a4 a1 bt560.1 bt560.2.1 bt560.2.2).bind fun t565 => ((r11_Newer.f a4 a1 a0_0 a0_1 l0_2).bind fun t566 => (if (t565 == t566) = true then ((l11_live.f).bind fun t567 => (some t567)) else (some false))))) else (some false)) = some r := H
                  have A74 := Az.mk A740
                  clear A740
                  by_cases c75 : t559 = true
                  · subst c75
                    have H1 : ((l11_own.f a0_0 a0_1 l0_2).bind fun bt560 => ((roll_Newer.f kj31 a4 a1 bt560.1 bt560.2.1 bt560.2.2).bind fun t565 => ((r11_Newer.f a4 a1 a0_0 a0_1 l0_2).bind fun t566 => (if (t565 == t566) = true then ((l11_live.f).bind fun t567 => (some t567)) else (some false))))) = some r := by rw [if_pos rfl] at H; exact H
                    clear H
                    have H := H1
                    clear H1
                    replace H := Option.bind_eq_some_iff.mp H
                    obtain ⟨⟨t560, t561, t562⟩, A760, H⟩ := H
                    replace H : ((roll_Newer.f kj31 a4 a1 t560 t561 t562).bind fun t565 => ((r11_Newer.f a4 a1 a0_0 a0_1 l0_2).bind fun t566 => (if (t565 == t566) = true then ((l11_live.f).bind fun t567 => (some t567)) else (some false)))) = some r := H
                    have A76 := Az.mk A760
                    clear A760
                    replace H := Option.bind_eq_some_iff.mp H
                    obtain ⟨t565, A770, H⟩ := H
                    replace H : ((r11_Newer.f a4 a1 a0_0 a0_1 l0_2).bind fun t566 => (if (t565 == t566) = true then ((l11_live.f).bind fun t567 => (some t567)) else (some false))) = some r := H
                    have A77 := Az.mk A770
                    clear A770
                    replace H := Option.bind_eq_some_iff.mp H
                    obtain ⟨t566, A780, H⟩ := H
                    replace H : (if (t565 == t566) = true then ((l11_live.f).bind fun t567 => (some t567)) else (some false)) = some r := H
                    have A78 := Az.mk A780
                    clear A780
                    by_cases c79 : (t565 == t566) = true
                    · rw [if_pos c79] at H
                      have c79b0 : (t565 == t566) = true := c79
                      (try (have c79b1 : decide (t565 = t566) = true := by simpa using c79))
                      (try (have c79b2 : (t565 == t566) = true := by simpa using c79))
                      clear c79
                      replace H := Option.bind_eq_some_iff.mp H
                      obtain ⟨t567, A800, H⟩ := H
                      replace H : (some t567) = some r := H
                      have A80 := Az.mk A800
                      clear A800
                      obtain rfl := Option.some.inj H
                      try go_wp2
                      have n0_ := Az.mk (bkD BK488.out)
                      have n1_ := Az.mk (pb1 HB.out)
                      clear BK488
                      clear HB
                      have BK488 := n0_
                      have HB := n1_
                      clear n0_ n1_
                      refine start_ (n := 36) (S := fun w' => w'.cell? ⟨gb488, 0, none⟩ = some (.int .i64 a0_0) ∧ w'.cell? ⟨gb488, 1, none⟩ = some (.int .i64 a0_1) ∧ w'.cell? ⟨gb488, 2, none⟩ = some (.slice A0_2 l0_2.length c0_2)) (ds := []) #[false, false, false, false, false, false, false, false, false, false, false, false, false, false, false, false, false, false, false, false, false, false, false, false, false, false, false, false, false, false, false, false, false, false, false, false] (by kernel_rfl) rfl rfl ⟨(bkC BK488.out 0).trans rfl, (bkC BK488.out 1).trans rfl, (bkC BK488.out 2).trans rfl⟩ (fun hHeld => ?_); refine with_tabW l11_RollTells.tab9 l11_RollTells.bits9 (fun HT_ HW_ => ?_)
                      generalize wc.drew = w81 at BK488 HB hHeld ⊢
                      refine pure_ (i := 3) (N := some 93) (v := ?_) (a' := ?_) #[false, false, false, true, false, false, false, false, false, false, false, false, false, false, false, false, false, false, false, false, false, false, false, false, false, false, false, false, false, false, false, false, false, false, false, false] rfl rfl (any_of HT_.out (by kernel_rfl)) (fun _ _ _ h => h) (Or.inl ⟨by rfl, ?_⟩) ?_ ?_
                      rotate_left
                      · intro w'
                        go_simp
                        with_reducible rfl
                      rotate_left
                      · simp only [Act.put, List.setIfInBounds_toArray, List.set_cons_zero, List.set_cons_succ, i64_w, i32_w]
                        rfl
                      refine pure_ (i := 7) (N := some 97) (v := ?_) (a' := ?_) #[false, false, false, true, false, false, false, true, false, false, false, false, false, false, false, false, false, false, false, false, false, false, false, false, false, false, false, false, false, false, false, false, false, false, false, false] rfl rfl (any_of HT_.out (by kernel_rfl)) (fun _ _ _ h => h) (Or.inl ⟨by rfl, ?_⟩) ?_ ?_
                      rotate_left
                      · intro w'
                        go_simp
                        with_reducible rfl
                      rotate_left
                      · simp only [Act.put, List.setIfInBounds_toArray, List.set_cons_zero, List.set_cons_succ, i64_w, i32_w]
                        rfl
                      refine take_ (i := 0) (N := some 90) (v := ?_) (a' := ?_) #[true, false, false, true, false, false, false, true, false, false, false, false, false, false, false, false, false, false, false, false, false, false, false, false, false, false, false, false, false, false, false, false, false, false, false, false] rfl rfl (take_ofW HT_.out HW_.out (by kernel_rfl)) (fun _ _ _ h => h) (Or.inl ⟨by rfl, ?_⟩) hHeld ?_ ?_
                      rotate_left
                      · rintro w' ⟨s0, s1, s2⟩
                        go_simp
                        with_reducible rfl
                      rotate_left
                      · simp only [Act.put, List.setIfInBounds_toArray, List.set_cons_zero, List.set_cons_succ, i64_w, i32_w]
                        rfl
                      refine take_ (i := 6) (N := some 96) (v := ?_) (a' := ?_) #[true, false, false, true, false, false, true, true, false, false, false, false, false, false, false, false, false, false, false, false, false, false, false, false, false, false, false, false, false, false, false, false, false, false, false, false] rfl rfl (take_ofW HT_.out HW_.out (by kernel_rfl)) (fun _ _ _ h => h) (Or.inl ⟨by rfl, ?_⟩) hHeld ?_ ?_
                      rotate_left
                      · rintro w' ⟨s0, s1, s2⟩
                        go_simp
                        with_reducible rfl
                      rotate_left
                      · simp only [Act.put, List.setIfInBounds_toArray, List.set_cons_zero, List.set_cons_succ, i64_w, i32_w]
                        rfl
                      refine join_ (σ := Value × Value) 30 #[true, true, true, true, false, false, true, true, false, false, false, false, false, false, false, false, false, false, false, false, false, false, false, false, false, false, false, false, false, false, false, false, false, false, false, false] (fun s_ => [(91, .agg #[.int .i64 t522, .int .i64 t523, s_.1]), (92, s_.2)]) (fun s_ w' => (w'.cell? ⟨gb488, 0, none⟩ = some (.int .i64 a0_0) ∧ w'.cell? ⟨gb488, 1, none⟩ = some (.int .i64 a0_1) ∧ w'.cell? ⟨gb488, 2, none⟩ = some (.slice A0_2 l0_2.length c0_2)) ∧ (Kd.R k54 54 w' w.heap.size (fun k_ => some k_ ≠ (s_.2 : Value).ownBlock) s_.1 t524) ∧ (Kd.R k54 54 w' w.heap.size (fun k_ => some k_ ≠ (s_.1 : Value).ownBlock) s_.2 y527) ∧ (w'.heap[gb488]? = some (.cells #[.int .i64 a0_0, .int .i64 a0_1, .slice A0_2 l0_2.length c0_2] 24 (0, 0))) ∧ (Below w.heap.size w w')) ?_ ?_
                      rotate_left
                      · intro hCont
                        refine two_ (i := 1) (j := 2) (Ni := some 91) (Nj := some 92) #[true, true, false, true, false, false, true, true, false, false, false, false, false, false, false, false, false, false, false, false, false, false, false, false, false, false, false, false, false, false, false, false, false, false, false, false] #[true, false, true, true, false, false, true, true, false, false, false, false, false, false, false, false, false, false, false, false, false, false, false, false, false, false, false, false, false, false, false, false, false, false, false, false] rfl rfl rfl rfl (two_of HT_.out (by kernel_rfl)) (by decide) (by decide) (fun K hK => ?_) (fun K hK => ?_)
                        · skip
                          refine goes_ Tryd.func16 (by kernel_rfl) rfl #[.agg #[.int .i64 a0_0, .int .i64 a0_1, .slice A0_2 l0_2.length c0_2]] (by rfl) rfl rfl (by (try simp only [List.map_toArray, List.map_cons, List.map_nil]); first | done | rfl | (simp only [List.length_drop, List.length_take]; rfl)) ?_
                          with_reducible refine (l11_own.calls a0_0 a0_1 _ _ l0_2 t522 t523 t524 _ ?side1 ?side2 ?side3 A65.out).mono ?_
                          (case side1 => exact hG.below (by repeat (first | (with_reducible first | exact HB.out | apply pbA | apply pbN | apply pb1 | refine pbS ?_ GE488.out) | exact HB.out)))
                          (case side2 => repeat (first | exact (Kd.C_below HR0_2.out HB.out) | (with_reducible refine Kd.C_alloc ?_ _) | (with_reducible refine Kd.C_drewN ?_ _) | (with_reducible refine Kd.C_drew ?_)))
                          (case side3 => exact HC0_2.out)
                          rintro e w82 ⟨v525, rfl, ho0, hb⟩
                          refine ⟨_, rfl, ?_⟩
                          have n0_ := Az.mk (Kd.R_lower ho0 (pbZ (by repeat (first | (with_reducible first | exact HB.out | apply pbA | apply pbN | apply pb1 | refine pbS ?_ GE488.out) | exact HB.out))))
                          have n1_ := Az.mk (bkB (g := gb488) (o := .cells #[.int .i64 a0_0, .int .i64 a0_1, .slice A0_2 l0_2.length c0_2] 24 (0, 0)) (by (with_reducible repeat (first | refine bkN ?_ _ | refine bkD ?_ | refine bkA ?_ _)); exact BK488.out) hb)
                          have n2_ := Az.mk (pbT (by repeat (first | (with_reducible first | exact HB.out | apply pbA | apply pbN | apply pb1 | refine pbS ?_ GE488.out) | exact HB.out)) hb)
                          clear BK488
                          clear HB
                          have HO526 := n0_
                          have BK488 := n1_
                          have HB := n2_
                          clear n0_ n1_ n2_
                          (try clear hb)
                          (try clear hb2)
                          (try clear hk)
                          (try clear hi)
                          (try clear ho0)
                          refine hK.out _ _ ⟨(bkC BK488.out 0).trans rfl, (bkC BK488.out 1).trans rfl, (bkC BK488.out 2).trans rfl⟩ (fun hHeld => ?_)
                          clear hK K
                          refine norm_ (a' := ?_) ?_ ?_
                          rotate_left
                          · show Act.put _ (some 91) _ = _
                            simp only [Act.put, List.setIfInBounds_toArray, List.set_cons_zero, List.set_cons_succ, i64_w, i32_w]
                            rfl
                          refine one_ (i := 2) (N := some 92) #[true, true, true, true, false, false, true, true, false, false, false, false, false, false, false, false, false, false, false, false, false, false, false, false, false, false, false, false, false, false, false, false, false, false, false, false] rfl rfl (one_of HT_.out (by kernel_rfl)) (by decide) (fun K hK => ?_)
                          refine Kd.R_lit_step k54 _ 54 ?hg (N := 92) ?hd (xs := ([] : List (S54))) (inner := []) (ok := fun _ => True) (okp := fun _ => True) ?hr ?hp (fun _ hk => hk) trivial (Below.refl _ _) (Nat.le_refl _) (by simp) ?_; (case hd => rfl); (case hg => rfl); (case hr => first | (go_simp; done) | (go_simp; rfl)); (case hp => exact (Reps.none _ _))
                          intro v528 w83 ho84 hb hg_ hnew_
                          clear hg_ hnew_
                          (first | rw [← Ny527.out] at ho84 | (simp only [Int.reduceToNat] at ho84; rw [← Ny527.out] at ho84))
                          have n0_ := Az.mk (Kd.R_elder' (by (with_reducible repeat (first | apply Kd.R_alloc | apply Kd.R_drewN | apply Kd.R_drew)); exact HO526.out) (Kd.R_base ho84) hb)
                          have n1_ := Az.mk (Kd.R_lower (Kd.R_new' ho84 (Kd.R_lt (by (with_reducible repeat (first | apply Kd.R_alloc | apply Kd.R_drewN | apply Kd.R_drew)); exact HO526.out))) (pbZ (by repeat (first | (with_reducible first | exact HB.out | apply pbA | apply pbN | apply pb1 | refine pbS ?_ GE488.out) | exact HB.out))))
                          have n2_ := Az.mk (bkB (g := gb488) (o := .cells #[.int .i64 a0_0, .int .i64 a0_1, .slice A0_2 l0_2.length c0_2] 24 (0, 0)) (by (with_reducible repeat (first | refine bkN ?_ _ | refine bkD ?_ | refine bkA ?_ _)); exact BK488.out) hb)
                          have n3_ := Az.mk (pbT (by repeat (first | (with_reducible first | exact HB.out | apply pbA | apply pbN | apply pb1 | refine pbS ?_ GE488.out) | exact HB.out)) hb)
                          clear HO526
                          clear BK488
                          clear HB
                          have HO526 := n0_
                          have HO529 := n1_
                          have BK488 := n2_
                          have HB := n3_
                          clear n0_ n1_ n2_ n3_
                          clear hb ho84
                          refine hK.out _ _ ⟨(bkC BK488.out 0).trans rfl, (bkC BK488.out 1).trans rfl, (bkC BK488.out 2).trans rfl⟩ (fun hHeld => ?_)
                          clear hK K
                          refine norm_ (a' := ?_) ?_ ?_
                          rotate_left
                          · show Act.put _ (some 92) _ = _
                            simp only [Act.put, List.setIfInBounds_toArray, List.set_cons_zero, List.set_cons_succ, i64_w, i32_w]
                            rfl
                          exact norm_ (by simp only [putAll, Act.put, List.setIfInBounds_toArray, List.set_cons_zero, List.set_cons_succ]) (hCont (v525, v528) _ ⟨hHeld, (by (with_reducible repeat (first | apply Kd.R_alloc | apply Kd.R_drewN | apply Kd.R_drew)); exact Kd.R_mono HO526.out (fun _ hk => hk.2)), (by (with_reducible repeat (first | apply Kd.R_alloc | apply Kd.R_drewN | apply Kd.R_drew)); exact Kd.R_mono HO529.out (fun _ hk => hk.2)), (by (with_reducible repeat (first | refine bkN ?_ _ | refine bkD ?_ | refine bkA ?_ _)); exact BK488.out), (by repeat (first | (with_reducible first | exact HB.out | apply pbA | apply pbN | apply pb1 | refine pbS ?_ GE488.out) | exact HB.out))⟩)
                        · skip
                          refine Kd.R_lit_step k54 _ 54 ?hg (N := 92) ?hd (xs := ([] : List (S54))) (inner := []) (ok := fun _ => True) (okp := fun _ => True) ?hr ?hp (fun _ hk => hk) trivial (Below.refl _ _) (Nat.le_refl _) (by simp) ?_; (case hd => rfl); (case hg => rfl); (case hr => first | (go_simp; done) | (go_simp; rfl)); (case hp => exact (Reps.none _ _))
                          intro v528 w82 ho83 hb hg_ hnew_
                          clear hg_ hnew_
                          (first | rw [← Ny527.out] at ho83 | (simp only [Int.reduceToNat] at ho83; rw [← Ny527.out] at ho83))
                          have n0_ := Az.mk (Kd.R_lower ho83 (pbZ (by repeat (first | (with_reducible first | exact HB.out | apply pbA | apply pbN | apply pb1 | refine pbS ?_ GE488.out) | exact HB.out))))
                          have n1_ := Az.mk (bkB (g := gb488) (o := .cells #[.int .i64 a0_0, .int .i64 a0_1, .slice A0_2 l0_2.length c0_2] 24 (0, 0)) (by (with_reducible repeat (first | refine bkN ?_ _ | refine bkD ?_ | refine bkA ?_ _)); exact BK488.out) hb)
                          have n2_ := Az.mk (pbT (by repeat (first | (with_reducible first | exact HB.out | apply pbA | apply pbN | apply pb1 | refine pbS ?_ GE488.out) | exact HB.out)) hb)
                          clear BK488
                          clear HB
                          have HO529 := n0_
                          have BK488 := n1_
                          have HB := n2_
                          clear n0_ n1_ n2_
                          clear hb ho83
                          refine hK.out _ _ ⟨(bkC BK488.out 0).trans rfl, (bkC BK488.out 1).trans rfl, (bkC BK488.out 2).trans rfl⟩ (fun hHeld => ?_)
                          clear hK K
                          refine norm_ (a' := ?_) ?_ ?_
                          rotate_left
                          · show Act.put _ (some 92) _ = _
                            simp only [Act.put, List.setIfInBounds_toArray, List.set_cons_zero, List.set_cons_succ, i64_w, i32_w]
                            rfl
                          refine one_ (i := 1) (N := some 91) #[true, true, true, true, false, false, true, true, false, false, false, false, false, false, false, false, false, false, false, false, false, false, false, false, false, false, false, false, false, false, false, false, false, false, false, false] rfl rfl (one_of HT_.out (by kernel_rfl)) (by decide) (fun K hK => ?_)
                          refine goes_ Tryd.func16 (by kernel_rfl) rfl #[.agg #[.int .i64 a0_0, .int .i64 a0_1, .slice A0_2 l0_2.length c0_2]] (by rfl) rfl rfl (by (try simp only [List.map_toArray, List.map_cons, List.map_nil]); first | done | rfl | (simp only [List.length_drop, List.length_take]; rfl)) ?_
                          with_reducible refine (l11_own.calls a0_0 a0_1 _ _ l0_2 t522 t523 t524 _ ?side1 ?side2 ?side3 A65.out).mono ?_
                          (case side1 => exact hG.below (by repeat (first | (with_reducible first | exact HB.out | apply pbA | apply pbN | apply pb1 | refine pbS ?_ GE488.out) | exact HB.out)))
                          (case side2 => repeat (first | exact (Kd.C_below HR0_2.out HB.out) | (with_reducible refine Kd.C_alloc ?_ _) | (with_reducible refine Kd.C_drewN ?_ _) | (with_reducible refine Kd.C_drew ?_)))
                          (case side3 => exact HC0_2.out)
                          rintro e w84 ⟨v525, rfl, ho0, hb⟩
                          refine ⟨_, rfl, ?_⟩
                          have n0_ := Az.mk (Kd.R_elder' (by (with_reducible repeat (first | apply Kd.R_alloc | apply Kd.R_drewN | apply Kd.R_drew)); exact HO529.out) (Kd.R_base ho0) hb)
                          have n1_ := Az.mk (Kd.R_lower (Kd.R_new' ho0 (Kd.R_lt (by (with_reducible repeat (first | apply Kd.R_alloc | apply Kd.R_drewN | apply Kd.R_drew)); exact HO529.out))) (pbZ (by repeat (first | (with_reducible first | exact HB.out | apply pbA | apply pbN | apply pb1 | refine pbS ?_ GE488.out) | exact HB.out))))
                          have n2_ := Az.mk (bkB (g := gb488) (o := .cells #[.int .i64 a0_0, .int .i64 a0_1, .slice A0_2 l0_2.length c0_2] 24 (0, 0)) (by (with_reducible repeat (first | refine bkN ?_ _ | refine bkD ?_ | refine bkA ?_ _)); exact BK488.out) hb)
                          have n3_ := Az.mk (pbT (by repeat (first | (with_reducible first | exact HB.out | apply pbA | apply pbN | apply pb1 | refine pbS ?_ GE488.out) | exact HB.out)) hb)
                          clear HO529
                          clear BK488
                          clear HB
                          have HO529 := n0_
                          have HO526 := n1_
                          have BK488 := n2_
                          have HB := n3_
                          clear n0_ n1_ n2_ n3_
                          (try clear hb)
                          (try clear hb2)
                          (try clear hk)
                          (try clear hi)
                          (try clear ho0)
                          refine hK.out _ _ ⟨(bkC BK488.out 0).trans rfl, (bkC BK488.out 1).trans rfl, (bkC BK488.out 2).trans rfl⟩ (fun hHeld => ?_)
                          clear hK K
                          refine norm_ (a' := ?_) ?_ ?_
                          rotate_left
                          · show Act.put _ (some 91) _ = _
                            simp only [Act.put, List.setIfInBounds_toArray, List.set_cons_zero, List.set_cons_succ, i64_w, i32_w]
                            rfl
                          exact norm_ (by simp only [putAll, Act.put, List.setIfInBounds_toArray, List.set_cons_zero, List.set_cons_succ]) (hCont (v525, v528) _ ⟨hHeld, (by (with_reducible repeat (first | apply Kd.R_alloc | apply Kd.R_drewN | apply Kd.R_drew)); exact Kd.R_mono HO526.out (fun _ hk => hk.2)), (by (with_reducible repeat (first | apply Kd.R_alloc | apply Kd.R_drewN | apply Kd.R_drew)); exact Kd.R_mono HO529.out (fun _ hk => hk.2)), (by (with_reducible repeat (first | refine bkN ?_ _ | refine bkD ?_ | refine bkA ?_ _)); exact BK488.out), (by repeat (first | (with_reducible first | exact HB.out | apply pbA | apply pbN | apply pb1 | refine pbS ?_ GE488.out) | exact HB.out))⟩)
                      rintro ⟨v525, v528⟩ w85 ⟨hS_, h0_, h1_, h2_, h3_⟩
                      have n0_ : Az (Kd.R k54 54 w85 w.heap.size (fun k_ => some k_ ≠ (v528 : Value).ownBlock) v525 t524) := ⟨h0_⟩
                      have n1_ : Az (Kd.R k54 54 w85 w.heap.size (fun k_ => some k_ ≠ (v525 : Value).ownBlock) v528 y527) := ⟨h1_⟩
                      have n2_ : Az (w85.heap[gb488]? = some (.cells #[.int .i64 a0_0, .int .i64 a0_1, .slice A0_2 l0_2.length c0_2] 24 (0, 0))) := ⟨h2_⟩
                      have n3_ : Az (Below w.heap.size w w85) := ⟨h3_⟩
                      clear BK488
                      clear HB
                      clear h0_ h1_ h2_ h3_
                      have HO526 := n0_
                      have HO529 := n1_
                      have BK488 := n2_
                      have HB := n3_
                      clear n0_ n1_ n2_ n3_
                      have hHeld : w85.cell? ⟨gb488, 0, none⟩ = some (.int .i64 a0_0) ∧ w85.cell? ⟨gb488, 1, none⟩ = some (.int .i64 a0_1) ∧ w85.cell? ⟨gb488, 2, none⟩ = some (.slice A0_2 l0_2.length c0_2) := hS_
                      refine norm_ (a' := ?_) ?_ ?_
                      rotate_left
                      · simp only [putAll, Act.put, List.setIfInBounds_toArray, List.set_cons_zero, List.set_cons_succ]
                        rfl
                      refine one_ (i := 4) (N := some 94) #[true, true, true, true, true, false, true, true, false, false, false, false, false, false, false, false, false, false, false, false, false, false, false, false, false, false, false, false, false, false, false, false, false, false, false, false] rfl rfl (one_of HT_.out (by kernel_rfl)) (by decide) (fun K hK => ?_)
                      refine Kd.R_append_rows_step k54 (w0 := w) w.heap.size (by rfl) (.tmp 92) (.tmp 93) 22 54 (.agg #[(.int .i64 0), (.string ⟨#[]⟩)]) 24 rfl Tryd.underlying22 info54 rfl (by decide) (by omega) v528 y527 l5 _ _ _ (fun k_ => some k_ ≠ (v525 : Value).ownBlock) (fun _ => False) rfl rfl ?aO ?aR (fun _ _ h => h) (fun _ h => h.elim) ?aF ?aB ?aS ?aL ?_
                      (case aR => repeat (first | exact (Kd.C_below HR5.out HB.out) | (with_reducible refine Kd.C_alloc ?_ _) | (with_reducible refine Kd.C_drewN ?_ _) | (with_reducible refine Kd.C_drew ?_)))
                      (case aB => exact (by repeat (first | (with_reducible first | exact HB.out | apply pbA | apply pbN | apply pb1 | refine pbS ?_ GE488.out) | exact HB.out)))
                      (case aF => exact (fun k_ hk => Kd.fresh' (Kd.R_lt (by (with_reducible repeat (first | apply Kd.R_alloc | apply Kd.R_drewN | apply Kd.R_drew)); exact HO526.out)) k_ hk))
                      (case aO => exact (by (with_reducible repeat (first | apply Kd.R_alloc | apply Kd.R_drewN | apply Kd.R_drew)); exact HO529.out))
                      (case aS => exact (pbZ (by repeat (first | (with_reducible first | exact HB.out | apply pbA | apply pbN | apply pb1 | refine pbS ?_ GE488.out) | exact HB.out))))
                      (case aL => have := LMc66.out; omega)
                      intro v531 w86 ho hb hg hat
                      rw [← Ny530.out] at ho
                      have n0_ := Az.mk (blk_grown (g := gb488) (o := .cells #[.int .i64 a0_0, .int .i64 a0_1, .slice A0_2 l0_2.length c0_2] 24 (0, 0)) (by (with_reducible repeat (first | refine bkN ?_ _ | refine bkD ?_ | refine bkA ?_ _)); exact BK488.out) hg (Kd.R_ne HO529.out BK488.out (by decide)))
                      have n1_ := Az.mk (Kd.R_after (ok := (fun _ => True)) (by (with_reducible repeat (first | apply Kd.R_alloc | apply Kd.R_drewN | apply Kd.R_drew)); exact Kd.R_mono HO526.out (fun _ hk => ⟨trivial, hk⟩)) hg hat)
                      have n2_ := Az.mk (hb)
                      have n3_ := Az.mk (ho)
                      clear BK488
                      clear HO526
                      clear HB
                      clear HO529
                      have BK488 := n0_
                      have HO526 := n1_
                      have HB := n2_
                      have HO532 := n3_
                      clear n0_ n1_ n2_ n3_
                      clear ho hb hg hat
                      obtain ⟨Ao87, co87, eo87⟩ := Kd.R_slice HO526.out
                      (first | subst eo87 | (injection eo87 with f1_ f2_ f3_; have f4_ := f1_.symm; have f5_ := f3_.symm; clear f1_ f2_ f3_; subst f4_; subst f5_))
                      obtain ⟨Ao88, co88, eo88⟩ := Kd.R_slice HO532.out
                      (first | subst eo88 | (injection eo88 with f1_ f2_ f3_; have f4_ := f1_.symm; have f5_ := f3_.symm; clear f1_ f2_ f3_; subst f4_; subst f5_))
                      refine hK.out _ _ ⟨(bkC BK488.out 0).trans rfl, (bkC BK488.out 1).trans rfl, (bkC BK488.out 2).trans rfl⟩ (fun hHeld => ?_)
                      clear hK K
                      refine norm_ (a' := ?_) ?_ ?_
                      rotate_left
                      · show Act.put _ (some 94) _ = _
                        simp only [Act.put, List.setIfInBounds_toArray, List.set_cons_zero, List.set_cons_succ, i64_w, i32_w]
                        rfl
                      refine one_ (i := 5) (N := some 95) #[true, true, true, true, true, true, true, true, false, false, false, false, false, false, false, false, false, false, false, false, false, false, false, false, false, false, false, false, false, false, false, false, false, false, false, false] rfl rfl (one_of HT_.out (by kernel_rfl)) (by decide) (fun K hK => ?_)
                      refine goes_ Tryd.func30 (by kernel_rfl) rfl #[.agg #[.int .i64 t522, .int .i64 t523, .slice Ao87 t524.length co87], .slice Ao88 y530.length co88] (by rfl) rfl rfl (by (try simp only [List.map_toArray, List.map_cons, List.map_nil]); first | done | rfl | (simp only [List.length_drop, List.length_take]; rfl)) ?_
                      with_reducible refine (roll_Append.calls t522 t523 (fun k_ => some k_ = (.slice Ao87 t524.length co87 : Value).ownBlock) _ _ t524 _ _ y530 t533 t534 t535 _ ?side1 ?side2 ?side3 ?side4 A67.out).mono ?_
                      (case side1 => exact hG.below (by repeat (first | (with_reducible first | exact HB.out | apply pbA | apply pbN | apply pb1 | refine pbS ?_ GE488.out) | exact HB.out)))
                      (case side2 => exact Kd.R_V (Kd.R_tight rfl (Kd.R_types (HO526.out) BK488.out (by decide))))
                      (case side3 => repeat (first | exact (Kd.R_reads' HO532.out).2.2 | (with_reducible refine Kd.C_alloc ?_ _) | (with_reducible refine Kd.C_drewN ?_ _) | (with_reducible refine Kd.C_drew ?_)))
                      (case side4 => exact (Kd.R_reads' HO532.out).2.1)
                      rintro e w89 ⟨v536, rfl, ho0, hb⟩
                      refine ⟨_, rfl, ?_⟩
                      have n0_ := Az.mk (Kd.R_below (by (with_reducible repeat (first | apply Kd.R_alloc | apply Kd.R_drewN | apply Kd.R_drew)); exact HO526.out) hb)
                      have n1_ := Az.mk (Kd.R_below (by (with_reducible repeat (first | apply Kd.R_alloc | apply Kd.R_drewN | apply Kd.R_drew)); exact HO532.out) hb)
                      have n2_ := Az.mk (Kd.V_lower (Kd.V_mono (ok' := fun k_ => some k_ ≠ (.slice Ao88 y530.length co88 : Value).ownBlock ∧ k_ ≠ gb488) ho0 (fun k_ hk_ => ⟨Or.elim hk_ (fun hs_ => ((Kd.R_types (HO526.out) BK488.out (by decide)).1 k_ hs_.symm).1.2) (fun hn_ => (Kd.fresh' (Kd.R_lt (by (with_reducible repeat (first | apply Kd.R_alloc | apply Kd.R_drewN | apply Kd.R_drew)); exact HO532.out)) k_ hn_)), Or.elim hk_ (fun hs_ => ((Kd.R_types (HO526.out) BK488.out (by decide)).1 k_ hs_.symm).2) (fun hn_ => (Kd.freshB (g := gb488) (o := .cells #[.int .i64 a0_0, .int .i64 a0_1, .slice A0_2 l0_2.length c0_2] 24 (0, 0)) (by (with_reducible repeat (first | refine bkN ?_ _ | refine bkD ?_ | refine bkA ?_ _)); exact BK488.out) k_ hn_))⟩)) (pbZ (by repeat (first | (with_reducible first | exact HB.out | apply pbA | apply pbN | apply pb1 | refine pbS ?_ GE488.out) | exact HB.out))))
                      have n3_ := Az.mk (bkB (g := gb488) (o := .cells #[.int .i64 a0_0, .int .i64 a0_1, .slice A0_2 l0_2.length c0_2] 24 (0, 0)) (by (with_reducible repeat (first | refine bkN ?_ _ | refine bkD ?_ | refine bkA ?_ _)); exact BK488.out) hb)
                      have n4_ := Az.mk (pbT (by repeat (first | (with_reducible first | exact HB.out | apply pbA | apply pbN | apply pb1 | refine pbS ?_ GE488.out) | exact HB.out)) hb)
                      clear HO526
                      clear HO532
                      clear BK488
                      clear HB
                      have HO526 := n0_
                      have HO532 := n1_
                      have HO537 := n2_
                      have BK488 := n3_
                      have HB := n4_
                      clear n0_ n1_ n2_ n3_ n4_
                      (try clear hb)
                      (try clear hb2)
                      (try clear hk)
                      (try clear hi)
                      (try clear ho0)
                      refine hK.out _ _ ⟨(bkC BK488.out 0).trans rfl, (bkC BK488.out 1).trans rfl, (bkC BK488.out 2).trans rfl⟩ (fun hHeld => ?_)
                      clear hK K
                      refine norm_ (a' := ?_) ?_ ?_
                      rotate_left
                      · show Act.put _ (some 95) _ = _
                        simp only [Act.put, List.setIfInBounds_toArray, List.set_cons_zero, List.set_cons_succ, i64_w, i32_w]
                        rfl
                      refine one_ (i := 8) (N := some 98) #[true, true, true, true, true, true, true, true, true, false, false, false, false, false, false, false, false, false, false, false, false, false, false, false, false, false, false, false, false, false, false, false, false, false, false, false] rfl rfl (one_of HT_.out (by kernel_rfl)) (by decide) (fun K hK => ?_)
                      refine goes_ Tryd.func31 (by kernel_rfl) rfl #[.agg #[.int .i64 a0_0, .int .i64 a0_1, .slice A0_2 l0_2.length c0_2], .slice A5 l5.length c5] (by rfl) rfl rfl (by (try simp only [List.map_toArray, List.map_cons, List.map_nil]); first | done | rfl | (simp only [List.length_drop, List.length_take]; rfl)) ?_
                      with_reducible refine (r11_Append.calls a0_0 a0_1 _ _ l0_2 _ _ l5 t538 t539 t540 _ ?side1 ?side2 ?side3 ?side4 ?side5 A68.out).mono ?_
                      (case side1 => exact hG.below (by repeat (first | (with_reducible first | exact HB.out | apply pbA | apply pbN | apply pb1 | refine pbS ?_ GE488.out) | exact HB.out)))
                      (case side2 => repeat (first | exact (Kd.C_below HR0_2.out HB.out) | (with_reducible refine Kd.C_alloc ?_ _) | (with_reducible refine Kd.C_drewN ?_ _) | (with_reducible refine Kd.C_drew ?_)))
                      (case side3 => exact HC0_2.out)
                      (case side4 => repeat (first | exact (Kd.C_below HR5.out HB.out) | (with_reducible refine Kd.C_alloc ?_ _) | (with_reducible refine Kd.C_drewN ?_ _) | (with_reducible refine Kd.C_drew ?_)))
                      (case side5 => exact HC5.out)
                      rintro e w90 ⟨v541, rfl, ho0, hb⟩
                      refine ⟨_, rfl, ?_⟩
                      have n0_ := Az.mk (Kd.R_elder' (by (with_reducible repeat (first | apply Kd.R_alloc | apply Kd.R_drewN | apply Kd.R_drew)); exact HO526.out) (Kd.R_base ho0) hb)
                      have n1_ := Az.mk (Kd.R_elder' (by (with_reducible repeat (first | apply Kd.R_alloc | apply Kd.R_drewN | apply Kd.R_drew)); exact HO532.out) (Kd.R_base ho0) hb)
                      have n2_ := Az.mk (Kd.V_elder' (by (with_reducible repeat (first | apply Kd.V_alloc | apply Kd.V_drewN | apply Kd.V_drew)); exact HO537.out) (Kd.R_base ho0) hb)
                      have n3_ := Az.mk (Kd.R_lower (Kd.R_new' (Kd.R_new' ho0 (Kd.R_lt (by (with_reducible repeat (first | apply Kd.R_alloc | apply Kd.R_drewN | apply Kd.R_drew)); exact HO526.out))) (Kd.R_lt (by (with_reducible repeat (first | apply Kd.R_alloc | apply Kd.R_drewN | apply Kd.R_drew)); exact HO532.out))) (pbZ (by repeat (first | (with_reducible first | exact HB.out | apply pbA | apply pbN | apply pb1 | refine pbS ?_ GE488.out) | exact HB.out))))
                      have n4_ := Az.mk (bkB (g := gb488) (o := .cells #[.int .i64 a0_0, .int .i64 a0_1, .slice A0_2 l0_2.length c0_2] 24 (0, 0)) (by (with_reducible repeat (first | refine bkN ?_ _ | refine bkD ?_ | refine bkA ?_ _)); exact BK488.out) hb)
                      have n5_ := Az.mk (pbT (by repeat (first | (with_reducible first | exact HB.out | apply pbA | apply pbN | apply pb1 | refine pbS ?_ GE488.out) | exact HB.out)) hb)
                      clear HO526
                      clear HO532
                      clear HO537
                      clear BK488
                      clear HB
                      have HO526 := n0_
                      have HO532 := n1_
                      have HO537 := n2_
                      have HO542 := n3_
                      have BK488 := n4_
                      have HB := n5_
                      clear n0_ n1_ n2_ n3_ n4_ n5_
                      (try clear hb)
                      (try clear hb2)
                      (try clear hk)
                      (try clear hi)
                      (try clear ho0)
                      obtain ⟨Ao91, co91, eo91⟩ := Kd.V_slice HO537.out
                      (first | subst eo91 | (injection eo91 with f1_ f2_ f3_; have f4_ := f1_.symm; have f5_ := f3_.symm; clear f1_ f2_ f3_; subst f4_; subst f5_))
                      obtain ⟨Ao92, co92, eo92⟩ := Kd.R_slice HO542.out
                      (first | subst eo92 | (injection eo92 with f1_ f2_ f3_; have f4_ := f1_.symm; have f5_ := f3_.symm; clear f1_ f2_ f3_; subst f4_; subst f5_))
                      refine hK.out _ _ ⟨(bkC BK488.out 0).trans rfl, (bkC BK488.out 1).trans rfl, (bkC BK488.out 2).trans rfl⟩ (fun hHeld => ?_)
                      clear hK K
                      refine norm_ (a' := ?_) ?_ ?_
                      rotate_left
                      · show Act.put _ (some 98) _ = _
                        simp only [Act.put, List.setIfInBounds_toArray, List.set_cons_zero, List.set_cons_succ, i64_w, i32_w]
                        rfl
                      refine one_ (i := 9) (N := some 99) #[true, true, true, true, true, true, true, true, true, true, false, false, false, false, false, false, false, false, false, false, false, false, false, false, false, false, false, false, false, false, false, false, false, false, false, false] rfl rfl (one_of HT_.out (by kernel_rfl)) (by decide) (fun K hK => ?_)
                      refine goes_ Tryd.func18 (by kernel_rfl) rfl #[.agg #[.int .i64 t533, .int .i64 t534, .slice Ao91 t535.length co91], .agg #[.int .i64 t538, .int .i64 t539, .slice Ao92 t540.length co92]] (by rfl) rfl rfl (by (try simp only [List.map_toArray, List.map_cons, List.map_nil]); first | done | rfl | (simp only [List.length_drop, List.length_take]; rfl)) ?_
                      with_reducible refine (r11_Same.calls kj31 t533 t534 _ _ t535 t538 t539 _ _ t540 true _ ?side1 ?side2 ?side3 ?side4 ?side5 A69.out).mono ?_
                      (case side1 => exact hG.below (by repeat (first | (with_reducible first | exact HB.out | apply pbA | apply pbN | apply pb1 | refine pbS ?_ GE488.out) | exact HB.out)))
                      (case side2 => repeat (first | exact (Kd.V_reads' HO537.out).2.2 | (with_reducible refine Kd.C_alloc ?_ _) | (with_reducible refine Kd.C_drewN ?_ _) | (with_reducible refine Kd.C_drew ?_)))
                      (case side3 => exact (Kd.V_reads' HO537.out).2.1)
                      (case side4 => repeat (first | exact (Kd.R_reads' HO542.out).2.2 | (with_reducible refine Kd.C_alloc ?_ _) | (with_reducible refine Kd.C_drewN ?_ _) | (with_reducible refine Kd.C_drew ?_)))
                      (case side5 => exact (Kd.R_reads' HO542.out).2.1)
                      rintro e w93 ⟨rfl, hb⟩
                      refine ⟨_, rfl, ?_⟩
                      have n0_ := Az.mk (Kd.R_below (by (with_reducible repeat (first | apply Kd.R_alloc | apply Kd.R_drewN | apply Kd.R_drew)); exact HO526.out) hb)
                      have n1_ := Az.mk (Kd.R_below (by (with_reducible repeat (first | apply Kd.R_alloc | apply Kd.R_drewN | apply Kd.R_drew)); exact HO532.out) hb)
                      have n2_ := Az.mk (Kd.V_below (by (with_reducible repeat (first | apply Kd.V_alloc | apply Kd.V_drewN | apply Kd.V_drew)); exact HO537.out) hb)
                      have n3_ := Az.mk (Kd.R_below (by (with_reducible repeat (first | apply Kd.R_alloc | apply Kd.R_drewN | apply Kd.R_drew)); exact HO542.out) hb)
                      have n4_ := Az.mk (bkB (g := gb488) (o := .cells #[.int .i64 a0_0, .int .i64 a0_1, .slice A0_2 l0_2.length c0_2] 24 (0, 0)) (by (with_reducible repeat (first | refine bkN ?_ _ | refine bkD ?_ | refine bkA ?_ _)); exact BK488.out) hb)
                      have n5_ := Az.mk (pbT (by repeat (first | (with_reducible first | exact HB.out | apply pbA | apply pbN | apply pb1 | refine pbS ?_ GE488.out) | exact HB.out)) hb)
                      clear HO526
                      clear HO532
                      clear HO537
                      clear HO542
                      clear BK488
                      clear HB
                      have HO526 := n0_
                      have HO532 := n1_
                      have HO537 := n2_
                      have HO542 := n3_
                      have BK488 := n4_
                      have HB := n5_
                      clear n0_ n1_ n2_ n3_ n4_ n5_
                      (try clear hb)
                      (try clear hb2)
                      (try clear hk)
                      (try clear hi)
                      refine hK.out _ _ ⟨(bkC BK488.out 0).trans rfl, (bkC BK488.out 1).trans rfl, (bkC BK488.out 2).trans rfl⟩ (fun hHeld => ?_)
                      clear hK K
                      refine norm_ (a' := ?_) ?_ ?_
                      rotate_left
                      · show Act.put _ (some 99) _ = _
                        simp only [Act.put, List.setIfInBounds_toArray, List.set_cons_zero, List.set_cons_succ, i64_w, i32_w]
                        rfl
                      refine pure_ (i := 10) (N := some 100) (v := ?_) (a' := ?_) #[true, true, true, true, true, true, true, true, true, true, true, false, false, false, false, false, false, false, false, false, false, false, false, false, false, false, false, false, false, false, false, false, false, false, false, false] rfl rfl (any_of HT_.out (by kernel_rfl)) (fun _ _ _ h => h) (Or.inl ⟨by rfl, ?_⟩) ?_ ?_
                      rotate_left
                      · intro w'
                        go_simp
                        with_reducible rfl
                      rotate_left
                      · simp only [Act.put, List.setIfInBounds_toArray, List.set_cons_zero, List.set_cons_succ, i64_w, i32_w]
                        rfl
                      refine pure_ (i := 13) (N := some 103) (v := ?_) (a' := ?_) #[true, true, true, true, true, true, true, true, true, true, true, false, false, true, false, false, false, false, false, false, false, false, false, false, false, false, false, false, false, false, false, false, false, false, false, false] rfl rfl (any_of HT_.out (by kernel_rfl)) (fun _ _ _ h => h) (Or.inl ⟨by rfl, ?_⟩) ?_ ?_
                      rotate_left
                      · intro w'
                        go_simp
                        with_reducible rfl
                      rotate_left
                      · simp only [Act.put, List.setIfInBounds_toArray, List.set_cons_zero, List.set_cons_succ, i64_w, i32_w]
                        rfl
                      refine pure_ (i := 16) (N := some 106) (v := ?_) (a' := ?_) #[true, true, true, true, true, true, true, true, true, true, true, false, false, true, false, false, true, false, false, false, false, false, false, false, false, false, false, false, false, false, false, false, false, false, false, false] rfl rfl (any_of HT_.out (by kernel_rfl)) (fun _ _ _ h => h) (Or.inl ⟨by rfl, ?_⟩) ?_ ?_
                      rotate_left
                      · intro w'
                        go_simp
                        with_reducible rfl
                      rotate_left
                      · simp only [Act.put, List.setIfInBounds_toArray, List.set_cons_zero, List.set_cons_succ, i64_w, i32_w]
                        rfl
                      refine take_ (i := 11) (N := some 101) (v := ?_) (a' := ?_) #[true, true, true, true, true, true, true, true, true, true, true, true, false, true, false, false, true, false, false, false, false, false, false, false, false, false, false, false, false, false, false, false, false, false, false, false] rfl rfl (take_ofW HT_.out HW_.out (by kernel_rfl)) (fun _ _ _ h => h) (Or.inl ⟨by rfl, ?_⟩) hHeld ?_ ?_
                      rotate_left
                      · rintro w' ⟨s0, s1, s2⟩
                        go_simp
                        with_reducible rfl
                      rotate_left
                      · simp only [Act.put, List.setIfInBounds_toArray, List.set_cons_zero, List.set_cons_succ, i64_w, i32_w]
                        rfl
                      refine take_ (i := 15) (N := some 105) (v := ?_) (a' := ?_) #[true, true, true, true, true, true, true, true, true, true, true, true, false, true, false, true, true, false, false, false, false, false, false, false, false, false, false, false, false, false, false, false, false, false, false, false] rfl rfl (take_ofW HT_.out HW_.out (by kernel_rfl)) (fun _ _ _ h => h) (Or.inl ⟨by rfl, ?_⟩) hHeld ?_ ?_
                      rotate_left
                      · rintro w' ⟨s0, s1, s2⟩
                        go_simp
                        with_reducible rfl
                      rotate_left
                      · simp only [Act.put, List.setIfInBounds_toArray, List.set_cons_zero, List.set_cons_succ, i64_w, i32_w]
                        rfl
                      refine one_ (i := 12) (N := some 102) #[true, true, true, true, true, true, true, true, true, true, true, true, true, true, false, true, true, false, false, false, false, false, false, false, false, false, false, false, false, false, false, false, false, false, false, false] rfl rfl (one_of HT_.out (by kernel_rfl)) (by decide) (fun K hK => ?_)
                      refine goes_ Tryd.func16 (by kernel_rfl) rfl #[.agg #[.int .i64 a0_0, .int .i64 a0_1, .slice A0_2 l0_2.length c0_2]] (by rfl) rfl rfl (by (try simp only [List.map_toArray, List.map_cons, List.map_nil]); first | done | rfl | (simp only [List.length_drop, List.length_take]; rfl)) ?_
                      with_reducible refine (l11_own.calls a0_0 a0_1 _ _ l0_2 t544 t545 t546 _ ?side1 ?side2 ?side3 A71.out).mono ?_
                      (case side1 => exact hG.below (by repeat (first | (with_reducible first | exact HB.out | apply pbA | apply pbN | apply pb1 | refine pbS ?_ GE488.out) | exact HB.out)))
                      (case side2 => repeat (first | exact (Kd.C_below HR0_2.out HB.out) | (with_reducible refine Kd.C_alloc ?_ _) | (with_reducible refine Kd.C_drewN ?_ _) | (with_reducible refine Kd.C_drew ?_)))
                      (case side3 => exact HC0_2.out)
                      rintro e w94 ⟨v547, rfl, ho0, hb⟩
                      refine ⟨_, rfl, ?_⟩
                      have n0_ := Az.mk (Kd.R_elder' (by (with_reducible repeat (first | apply Kd.R_alloc | apply Kd.R_drewN | apply Kd.R_drew)); exact HO526.out) (Kd.R_base ho0) hb)
                      have n1_ := Az.mk (Kd.R_elder' (by (with_reducible repeat (first | apply Kd.R_alloc | apply Kd.R_drewN | apply Kd.R_drew)); exact HO532.out) (Kd.R_base ho0) hb)
                      have n2_ := Az.mk (Kd.V_elder' (by (with_reducible repeat (first | apply Kd.V_alloc | apply Kd.V_drewN | apply Kd.V_drew)); exact HO537.out) (Kd.R_base ho0) hb)
                      have n3_ := Az.mk (Kd.R_elder' (by (with_reducible repeat (first | apply Kd.R_alloc | apply Kd.R_drewN | apply Kd.R_drew)); exact HO542.out) (Kd.R_base ho0) hb)
                      have n4_ := Az.mk (Kd.R_lower (Kd.R_new' (Kd.R_new' (Kd.R_new' ho0 (Kd.R_lt (by (with_reducible repeat (first | apply Kd.R_alloc | apply Kd.R_drewN | apply Kd.R_drew)); exact HO526.out))) (Kd.R_lt (by (with_reducible repeat (first | apply Kd.R_alloc | apply Kd.R_drewN | apply Kd.R_drew)); exact HO532.out))) (Kd.R_lt (by (with_reducible repeat (first | apply Kd.R_alloc | apply Kd.R_drewN | apply Kd.R_drew)); exact HO542.out))) (pbZ (by repeat (first | (with_reducible first | exact HB.out | apply pbA | apply pbN | apply pb1 | refine pbS ?_ GE488.out) | exact HB.out))))
                      have n5_ := Az.mk (bkB (g := gb488) (o := .cells #[.int .i64 a0_0, .int .i64 a0_1, .slice A0_2 l0_2.length c0_2] 24 (0, 0)) (by (with_reducible repeat (first | refine bkN ?_ _ | refine bkD ?_ | refine bkA ?_ _)); exact BK488.out) hb)
                      have n6_ := Az.mk (pbT (by repeat (first | (with_reducible first | exact HB.out | apply pbA | apply pbN | apply pb1 | refine pbS ?_ GE488.out) | exact HB.out)) hb)
                      clear HO526
                      clear HO532
                      clear HO537
                      clear HO542
                      clear BK488
                      clear HB
                      have HO526 := n0_
                      have HO532 := n1_
                      have HO537 := n2_
                      have HO542 := n3_
                      have HO548 := n4_
                      have BK488 := n5_
                      have HB := n6_
                      clear n0_ n1_ n2_ n3_ n4_ n5_ n6_
                      (try clear hb)
                      (try clear hb2)
                      (try clear hk)
                      (try clear hi)
                      (try clear ho0)
                      obtain ⟨Ao95, co95, eo95⟩ := Kd.R_slice HO548.out
                      (first | subst eo95 | (injection eo95 with f1_ f2_ f3_; have f4_ := f1_.symm; have f5_ := f3_.symm; clear f1_ f2_ f3_; subst f4_; subst f5_))
                      refine hK.out _ _ ⟨(bkC BK488.out 0).trans rfl, (bkC BK488.out 1).trans rfl, (bkC BK488.out 2).trans rfl⟩ (fun hHeld => ?_)
                      clear hK K
                      refine norm_ (a' := ?_) ?_ ?_
                      rotate_left
                      · show Act.put _ (some 102) _ = _
                        simp only [Act.put, List.setIfInBounds_toArray, List.set_cons_zero, List.set_cons_succ, i64_w, i32_w]
                        rfl
                      refine one_ (i := 14) (N := some 104) #[true, true, true, true, true, true, true, true, true, true, true, true, true, true, true, true, true, false, false, false, false, false, false, false, false, false, false, false, false, false, false, false, false, false, false, false] rfl rfl (one_of HT_.out (by kernel_rfl)) (by decide) (fun K hK => ?_)
                      refine goes_ Tryd.func23 (by kernel_rfl) rfl #[.agg #[.int .i64 t544, .int .i64 t545, .slice Ao95 t546.length co95], .int .i64 a1] (by rfl) rfl rfl (by (try simp only [List.map_toArray, List.map_cons, List.map_nil]); first | done | rfl | (simp only [List.length_drop, List.length_take]; rfl)) ?_
                      with_reducible refine (roll_Compact.calls kj31 t544 t545 (fun k_ => some k_ = (.slice Ao95 t546.length co95 : Value).ownBlock) _ _ t546 a1 t549 t550 t551 _ ?side1 ?side2 A72.out).mono ?_
                      (case side1 => exact hG.below (by repeat (first | (with_reducible first | exact HB.out | apply pbA | apply pbN | apply pb1 | refine pbS ?_ GE488.out) | exact HB.out)))
                      (case side2 => exact Kd.R_V (Kd.R_tight rfl (Kd.R_types (HO548.out) BK488.out (by decide))))
                      rintro e w96 ⟨v552, rfl, ho0, hb⟩
                      refine ⟨_, rfl, ?_⟩
                      have n0_ := Az.mk (Kd.R_below (by (with_reducible repeat (first | apply Kd.R_alloc | apply Kd.R_drewN | apply Kd.R_drew)); exact HO526.out) hb)
                      have n1_ := Az.mk (Kd.R_below (by (with_reducible repeat (first | apply Kd.R_alloc | apply Kd.R_drewN | apply Kd.R_drew)); exact HO532.out) hb)
                      have n2_ := Az.mk (Kd.V_below (by (with_reducible repeat (first | apply Kd.V_alloc | apply Kd.V_drewN | apply Kd.V_drew)); exact HO537.out) hb)
                      have n3_ := Az.mk (Kd.R_below (by (with_reducible repeat (first | apply Kd.R_alloc | apply Kd.R_drewN | apply Kd.R_drew)); exact HO542.out) hb)
                      have n4_ := Az.mk (Kd.R_below (by (with_reducible repeat (first | apply Kd.R_alloc | apply Kd.R_drewN | apply Kd.R_drew)); exact HO548.out) hb)
                      have n5_ := Az.mk (Kd.V_lower (Kd.V_mono (ok' := fun k_ => some k_ ≠ (.slice Ao87 t524.length co87 : Value).ownBlock ∧ some k_ ≠ (.slice Ao88 y530.length co88 : Value).ownBlock ∧ some k_ ≠ (.slice Ao92 t540.length co92 : Value).ownBlock ∧ k_ ≠ gb488) ho0 (fun k_ hk_ => ⟨Or.elim hk_ (fun hs_ => ((Kd.R_types (HO548.out) BK488.out (by decide)).1 k_ hs_.symm).1.1.1.2) (fun hn_ => (Kd.fresh' (Kd.R_lt (by (with_reducible repeat (first | apply Kd.R_alloc | apply Kd.R_drewN | apply Kd.R_drew)); exact HO526.out)) k_ hn_)), Or.elim hk_ (fun hs_ => ((Kd.R_types (HO548.out) BK488.out (by decide)).1 k_ hs_.symm).1.1.2) (fun hn_ => (Kd.fresh' (Kd.R_lt (by (with_reducible repeat (first | apply Kd.R_alloc | apply Kd.R_drewN | apply Kd.R_drew)); exact HO532.out)) k_ hn_)), Or.elim hk_ (fun hs_ => ((Kd.R_types (HO548.out) BK488.out (by decide)).1 k_ hs_.symm).1.2) (fun hn_ => (Kd.fresh' (Kd.R_lt (by (with_reducible repeat (first | apply Kd.R_alloc | apply Kd.R_drewN | apply Kd.R_drew)); exact HO542.out)) k_ hn_)), Or.elim hk_ (fun hs_ => ((Kd.R_types (HO548.out) BK488.out (by decide)).1 k_ hs_.symm).2) (fun hn_ => (Kd.freshB (g := gb488) (o := .cells #[.int .i64 a0_0, .int .i64 a0_1, .slice A0_2 l0_2.length c0_2] 24 (0, 0)) (by (with_reducible repeat (first | refine bkN ?_ _ | refine bkD ?_ | refine bkA ?_ _)); exact BK488.out) k_ hn_))⟩)) (pbZ (by repeat (first | (with_reducible first | exact HB.out | apply pbA | apply pbN | apply pb1 | refine pbS ?_ GE488.out) | exact HB.out))))
                      have n6_ := Az.mk (bkB (g := gb488) (o := .cells #[.int .i64 a0_0, .int .i64 a0_1, .slice A0_2 l0_2.length c0_2] 24 (0, 0)) (by (with_reducible repeat (first | refine bkN ?_ _ | refine bkD ?_ | refine bkA ?_ _)); exact BK488.out) hb)
                      have n7_ := Az.mk (pbT (by repeat (first | (with_reducible first | exact HB.out | apply pbA | apply pbN | apply pb1 | refine pbS ?_ GE488.out) | exact HB.out)) hb)
                      clear HO526
                      clear HO532
                      clear HO537
                      clear HO542
                      clear HO548
                      clear BK488
                      clear HB
                      have HO526 := n0_
                      have HO532 := n1_
                      have HO537 := n2_
                      have HO542 := n3_
                      have HO548 := n4_
                      have HO553 := n5_
                      have BK488 := n6_
                      have HB := n7_
                      clear n0_ n1_ n2_ n3_ n4_ n5_ n6_ n7_
                      (try clear hb)
                      (try clear hb2)
                      (try clear hk)
                      (try clear hi)
                      (try clear ho0)
                      refine hK.out _ _ ⟨(bkC BK488.out 0).trans rfl, (bkC BK488.out 1).trans rfl, (bkC BK488.out 2).trans rfl⟩ (fun hHeld => ?_)
                      clear hK K
                      refine norm_ (a' := ?_) ?_ ?_
                      rotate_left
                      · show Act.put _ (some 104) _ = _
                        simp only [Act.put, List.setIfInBounds_toArray, List.set_cons_zero, List.set_cons_succ, i64_w, i32_w]
                        rfl
                      refine one_ (i := 17) (N := some 107) #[true, true, true, true, true, true, true, true, true, true, true, true, true, true, true, true, true, true, false, false, false, false, false, false, false, false, false, false, false, false, false, false, false, false, false, false] rfl rfl (one_of HT_.out (by kernel_rfl)) (by decide) (fun K hK => ?_)
                      refine goes_ Tryd.func32 (by kernel_rfl) rfl #[.agg #[.int .i64 a0_0, .int .i64 a0_1, .slice A0_2 l0_2.length c0_2], .int .i64 a1] (by rfl) rfl rfl (by (try simp only [List.map_toArray, List.map_cons, List.map_nil]); first | done | rfl | (simp only [List.length_drop, List.length_take]; rfl)) ?_
                      with_reducible refine (r11_Compact.calls kj31 a0_0 a0_1 (fun k_ => k_ < w.heap.size) _ _ l0_2 a1 t554 t555 t556 _ ?side1 ?side2 A73.out).mono ?_
                      (case side1 => exact hG.below (by repeat (first | (with_reducible first | exact HB.out | apply pbA | apply pbN | apply pb1 | refine pbS ?_ GE488.out) | exact HB.out)))
                      (case side2 => exact Kd.V_mk HC0_2.out (Kd.F_below (Kd.C_F k54_heap HR0_2.out) (by repeat (first | (with_reducible first | exact HB.out | apply pbA | apply pbN | apply pb1 | refine pbS ?_ GE488.out) | exact HB.out))))
                      rintro e w97 ⟨v557, rfl, ho0, hb⟩
                      refine ⟨_, rfl, ?_⟩
                      have n0_ := Az.mk (Kd.R_below (by (with_reducible repeat (first | apply Kd.R_alloc | apply Kd.R_drewN | apply Kd.R_drew)); exact HO526.out) hb)
                      have n1_ := Az.mk (Kd.R_below (by (with_reducible repeat (first | apply Kd.R_alloc | apply Kd.R_drewN | apply Kd.R_drew)); exact HO532.out) hb)
                      have n2_ := Az.mk (Kd.V_below (by (with_reducible repeat (first | apply Kd.V_alloc | apply Kd.V_drewN | apply Kd.V_drew)); exact HO537.out) hb)
                      have n3_ := Az.mk (Kd.R_below (by (with_reducible repeat (first | apply Kd.R_alloc | apply Kd.R_drewN | apply Kd.R_drew)); exact HO542.out) hb)
                      have n4_ := Az.mk (Kd.R_below (by (with_reducible repeat (first | apply Kd.R_alloc | apply Kd.R_drewN | apply Kd.R_drew)); exact HO548.out) hb)
                      have n5_ := Az.mk (Kd.V_below (by (with_reducible repeat (first | apply Kd.V_alloc | apply Kd.V_drewN | apply Kd.V_drew)); exact HO553.out) hb)
                      have n6_ := Az.mk (Kd.V_lower (Kd.V_mono (ok' := fun k_ => some k_ ≠ (.slice Ao87 t524.length co87 : Value).ownBlock ∧ some k_ ≠ (.slice Ao88 y530.length co88 : Value).ownBlock ∧ some k_ ≠ (.slice Ao92 t540.length co92 : Value).ownBlock ∧ some k_ ≠ (.slice Ao95 t546.length co95 : Value).ownBlock ∧ k_ ≠ gb488) ho0 (fun k_ hk_ => ⟨Or.elim hk_ (fun hs_ => fun e_ => Nat.not_le.2 hs_ (Kd.R_base HO526.out k_ e_.symm)) (fun hn_ => (Kd.fresh' (Kd.R_lt (by (with_reducible repeat (first | apply Kd.R_alloc | apply Kd.R_drewN | apply Kd.R_drew)); exact HO526.out)) k_ hn_)), Or.elim hk_ (fun hs_ => fun e_ => Nat.not_le.2 hs_ (Kd.R_base HO532.out k_ e_.symm)) (fun hn_ => (Kd.fresh' (Kd.R_lt (by (with_reducible repeat (first | apply Kd.R_alloc | apply Kd.R_drewN | apply Kd.R_drew)); exact HO532.out)) k_ hn_)), Or.elim hk_ (fun hs_ => fun e_ => Nat.not_le.2 hs_ (Kd.R_base HO542.out k_ e_.symm)) (fun hn_ => (Kd.fresh' (Kd.R_lt (by (with_reducible repeat (first | apply Kd.R_alloc | apply Kd.R_drewN | apply Kd.R_drew)); exact HO542.out)) k_ hn_)), Or.elim hk_ (fun hs_ => fun e_ => Nat.not_le.2 hs_ (Kd.R_base HO548.out k_ e_.symm)) (fun hn_ => (Kd.fresh' (Kd.R_lt (by (with_reducible repeat (first | apply Kd.R_alloc | apply Kd.R_drewN | apply Kd.R_drew)); exact HO548.out)) k_ hn_)), Or.elim hk_ (fun hs_ => fun e_ => Nat.not_le.2 hs_ (by rw [e_]; exact GW488.out)) (fun hn_ => (Kd.freshB (g := gb488) (o := .cells #[.int .i64 a0_0, .int .i64 a0_1, .slice A0_2 l0_2.length c0_2] 24 (0, 0)) (by (with_reducible repeat (first | refine bkN ?_ _ | refine bkD ?_ | refine bkA ?_ _)); exact BK488.out) k_ hn_))⟩)) (pbZ (by repeat (first | (with_reducible first | exact HB.out | apply pbA | apply pbN | apply pb1 | refine pbS ?_ GE488.out) | exact HB.out))))
                      have n7_ := Az.mk (bkB (g := gb488) (o := .cells #[.int .i64 a0_0, .int .i64 a0_1, .slice A0_2 l0_2.length c0_2] 24 (0, 0)) (by (with_reducible repeat (first | refine bkN ?_ _ | refine bkD ?_ | refine bkA ?_ _)); exact BK488.out) hb)
                      have n8_ := Az.mk (pbT (by repeat (first | (with_reducible first | exact HB.out | apply pbA | apply pbN | apply pb1 | refine pbS ?_ GE488.out) | exact HB.out)) hb)
                      clear HO526
                      clear HO532
                      clear HO537
                      clear HO542
                      clear HO548
                      clear HO553
                      clear BK488
                      clear HB
                      have HO526 := n0_
                      have HO532 := n1_
                      have HO537 := n2_
                      have HO542 := n3_
                      have HO548 := n4_
                      have HO553 := n5_
                      have HO558 := n6_
                      have BK488 := n7_
                      have HB := n8_
                      clear n0_ n1_ n2_ n3_ n4_ n5_ n6_ n7_ n8_
                      (try clear hb)
                      (try clear hb2)
                      (try clear hk)
                      (try clear hi)
                      (try clear ho0)
                      obtain ⟨Ao98, co98, eo98⟩ := Kd.V_slice HO553.out
                      (first | subst eo98 | (injection eo98 with f1_ f2_ f3_; have f4_ := f1_.symm; have f5_ := f3_.symm; clear f1_ f2_ f3_; subst f4_; subst f5_))
                      obtain ⟨Ao99, co99, eo99⟩ := Kd.V_slice HO558.out
                      (first | subst eo99 | (injection eo99 with f1_ f2_ f3_; have f4_ := f1_.symm; have f5_ := f3_.symm; clear f1_ f2_ f3_; subst f4_; subst f5_))
                      refine hK.out _ _ ⟨(bkC BK488.out 0).trans rfl, (bkC BK488.out 1).trans rfl, (bkC BK488.out 2).trans rfl⟩ (fun hHeld => ?_)
                      clear hK K
                      refine norm_ (a' := ?_) ?_ ?_
                      rotate_left
                      · show Act.put _ (some 107) _ = _
                        simp only [Act.put, List.setIfInBounds_toArray, List.set_cons_zero, List.set_cons_succ, i64_w, i32_w]
                        rfl
                      refine one_ (i := 18) (N := some 108) #[true, true, true, true, true, true, true, true, true, true, true, true, true, true, true, true, true, true, true, false, false, false, false, false, false, false, false, false, false, false, false, false, false, false, false, false] rfl rfl (one_of HT_.out (by kernel_rfl)) (by decide) (fun K hK => ?_)
                      refine goes_ Tryd.func18 (by kernel_rfl) rfl #[.agg #[.int .i64 t549, .int .i64 t550, .slice Ao98 t551.length co98], .agg #[.int .i64 t554, .int .i64 t555, .slice Ao99 t556.length co99]] (by rfl) rfl rfl (by (try simp only [List.map_toArray, List.map_cons, List.map_nil]); first | done | rfl | (simp only [List.length_drop, List.length_take]; rfl)) ?_
                      with_reducible refine (r11_Same.calls kj31 t549 t550 _ _ t551 t554 t555 _ _ t556 true _ ?side1 ?side2 ?side3 ?side4 ?side5 A74.out).mono ?_
                      (case side1 => exact hG.below (by repeat (first | (with_reducible first | exact HB.out | apply pbA | apply pbN | apply pb1 | refine pbS ?_ GE488.out) | exact HB.out)))
                      (case side2 => repeat (first | exact (Kd.V_reads' HO553.out).2.2 | (with_reducible refine Kd.C_alloc ?_ _) | (with_reducible refine Kd.C_drewN ?_ _) | (with_reducible refine Kd.C_drew ?_)))
                      (case side3 => exact (Kd.V_reads' HO553.out).2.1)
                      (case side4 => repeat (first | exact (Kd.V_reads' HO558.out).2.2 | (with_reducible refine Kd.C_alloc ?_ _) | (with_reducible refine Kd.C_drewN ?_ _) | (with_reducible refine Kd.C_drew ?_)))
                      (case side5 => exact (Kd.V_reads' HO558.out).2.1)
                      rintro e w100 ⟨rfl, hb⟩
                      refine ⟨_, rfl, ?_⟩
                      have n0_ := Az.mk (Kd.R_below (by (with_reducible repeat (first | apply Kd.R_alloc | apply Kd.R_drewN | apply Kd.R_drew)); exact HO526.out) hb)
                      have n1_ := Az.mk (Kd.R_below (by (with_reducible repeat (first | apply Kd.R_alloc | apply Kd.R_drewN | apply Kd.R_drew)); exact HO532.out) hb)
                      have n2_ := Az.mk (Kd.V_below (by (with_reducible repeat (first | apply Kd.V_alloc | apply Kd.V_drewN | apply Kd.V_drew)); exact HO537.out) hb)
                      have n3_ := Az.mk (Kd.R_below (by (with_reducible repeat (first | apply Kd.R_alloc | apply Kd.R_drewN | apply Kd.R_drew)); exact HO542.out) hb)
                      have n4_ := Az.mk (Kd.R_below (by (with_reducible repeat (first | apply Kd.R_alloc | apply Kd.R_drewN | apply Kd.R_drew)); exact HO548.out) hb)
                      have n5_ := Az.mk (Kd.V_below (by (with_reducible repeat (first | apply Kd.V_alloc | apply Kd.V_drewN | apply Kd.V_drew)); exact HO553.out) hb)
                      have n6_ := Az.mk (Kd.V_below (by (with_reducible repeat (first | apply Kd.V_alloc | apply Kd.V_drewN | apply Kd.V_drew)); exact HO558.out) hb)
                      have n7_ := Az.mk (bkB (g := gb488) (o := .cells #[.int .i64 a0_0, .int .i64 a0_1, .slice A0_2 l0_2.length c0_2] 24 (0, 0)) (by (with_reducible repeat (first | refine bkN ?_ _ | refine bkD ?_ | refine bkA ?_ _)); exact BK488.out) hb)
                      have n8_ := Az.mk (pbT (by repeat (first | (with_reducible first | exact HB.out | apply pbA | apply pbN | apply pb1 | refine pbS ?_ GE488.out) | exact HB.out)) hb)
                      clear HO526
                      clear HO532
                      clear HO537
                      clear HO542
                      clear HO548
                      clear HO553
                      clear HO558
                      clear BK488
                      clear HB
                      have HO526 := n0_
                      have HO532 := n1_
                      have HO537 := n2_
                      have HO542 := n3_
                      have HO548 := n4_
                      have HO553 := n5_
                      have HO558 := n6_
                      have BK488 := n7_
                      have HB := n8_
                      clear n0_ n1_ n2_ n3_ n4_ n5_ n6_ n7_ n8_
                      (try clear hb)
                      (try clear hb2)
                      (try clear hk)
                      (try clear hi)
                      refine hK.out _ _ ⟨(bkC BK488.out 0).trans rfl, (bkC BK488.out 1).trans rfl, (bkC BK488.out 2).trans rfl⟩ (fun hHeld => ?_)
                      clear hK K
                      refine norm_ (a' := ?_) ?_ ?_
                      rotate_left
                      · show Act.put _ (some 108) _ = _
                        simp only [Act.put, List.setIfInBounds_toArray, List.set_cons_zero, List.set_cons_succ, i64_w, i32_w]
                        rfl
                      refine pure_ (i := 19) (N := some 109) (v := ?_) (a' := ?_) #[true, true, true, true, true, true, true, true, true, true, true, true, true, true, true, true, true, true, true, true, false, false, false, false, false, false, false, false, false, false, false, false, false, false, false, false] rfl rfl (any_of HT_.out (by kernel_rfl)) (fun _ _ _ h => h) (Or.inl ⟨by rfl, ?_⟩) ?_ ?_
                      rotate_left
                      · intro w'
                        go_simp
                        with_reducible rfl
                      rotate_left
                      · simp only [Act.put, List.setIfInBounds_toArray, List.set_cons_zero, List.set_cons_succ, i64_w, i32_w]
                        rfl
                      refine pure_ (i := 20) (N := some 110) (v := ?_) (a' := ?_) #[true, true, true, true, true, true, true, true, true, true, true, true, true, true, true, true, true, true, true, true, true, false, false, false, false, false, false, false, false, false, false, false, false, false, false, false] rfl rfl (any_of HT_.out (by kernel_rfl)) (fun _ _ _ h => h) (Or.inl ⟨by rfl, ?_⟩) ?_ ?_
                      rotate_left
                      · intro w'
                        go_simp
                        with_reducible rfl
                      rotate_left
                      · simp only [Act.put, List.setIfInBounds_toArray, List.set_cons_zero, List.set_cons_succ, i64_w, i32_w]
                        rfl
                      refine pure_ (i := 21) (N := some 111) (v := ?_) (a' := ?_) #[true, true, true, true, true, true, true, true, true, true, true, true, true, true, true, true, true, true, true, true, true, true, false, false, false, false, false, false, false, false, false, false, false, false, false, false] rfl rfl (any_of HT_.out (by kernel_rfl)) (fun _ _ _ h => h) (Or.inl ⟨by rfl, ?_⟩) ?_ ?_
                      rotate_left
                      · intro w'
                        go_simp
                        with_reducible rfl
                      rotate_left
                      · simp only [Act.put, List.setIfInBounds_toArray, List.set_cons_zero, List.set_cons_succ, i64_w, i32_w]
                        rfl
                      refine pure_ (i := 22) (N := some 112) (v := ?_) (a' := ?_) #[true, true, true, true, true, true, true, true, true, true, true, true, true, true, true, true, true, true, true, true, true, true, true, false, false, false, false, false, false, false, false, false, false, false, false, false] rfl rfl (any_of HT_.out (by kernel_rfl)) (fun _ _ _ h => h) (Or.inl ⟨by rfl, ?_⟩) ?_ ?_
                      rotate_left
                      · intro w'
                        go_simp
                        with_reducible rfl
                      rotate_left
                      · simp only [Act.put, List.setIfInBounds_toArray, List.set_cons_zero, List.set_cons_succ, i64_w, i32_w]
                        rfl
                      refine pure_ (i := 26) (N := some 116) (v := ?_) (a' := ?_) #[true, true, true, true, true, true, true, true, true, true, true, true, true, true, true, true, true, true, true, true, true, true, true, false, false, false, true, false, false, false, false, false, false, false, false, false] rfl rfl (any_of HT_.out (by kernel_rfl)) (fun _ _ _ h => h) (Or.inl ⟨by rfl, ?_⟩) ?_ ?_
                      rotate_left
                      · intro w'
                        go_simp
                        with_reducible rfl
                      rotate_left
                      · simp only [Act.put, List.setIfInBounds_toArray, List.set_cons_zero, List.set_cons_succ, i64_w, i32_w]
                        rfl
                      refine pure_ (i := 27) (N := some 117) (v := ?_) (a' := ?_) #[true, true, true, true, true, true, true, true, true, true, true, true, true, true, true, true, true, true, true, true, true, true, true, false, false, false, true, true, false, false, false, false, false, false, false, false] rfl rfl (any_of HT_.out (by kernel_rfl)) (fun _ _ _ h => h) (Or.inl ⟨by rfl, ?_⟩) ?_ ?_
                      rotate_left
                      · intro w'
                        go_simp
                        with_reducible rfl
                      rotate_left
                      · simp only [Act.put, List.setIfInBounds_toArray, List.set_cons_zero, List.set_cons_succ, i64_w, i32_w]
                        rfl
                      refine take_ (i := 23) (N := some 113) (v := ?_) (a' := ?_) #[true, true, true, true, true, true, true, true, true, true, true, true, true, true, true, true, true, true, true, true, true, true, true, true, false, false, true, true, false, false, false, false, false, false, false, false] rfl rfl (take_ofW HT_.out HW_.out (by kernel_rfl)) (fun _ _ _ h => h) (Or.inl ⟨by rfl, ?_⟩) hHeld ?_ ?_
                      rotate_left
                      · rintro w' ⟨s0, s1, s2⟩
                        go_simp
                        with_reducible rfl
                      rotate_left
                      · simp only [Act.put, List.setIfInBounds_toArray, List.set_cons_zero, List.set_cons_succ, i64_w, i32_w]
                        rfl
                      refine take_ (i := 28) (N := some 118) (v := ?_) (a' := ?_) #[true, true, true, true, true, true, true, true, true, true, true, true, true, true, true, true, true, true, true, true, true, true, true, true, false, false, true, true, true, false, false, false, false, false, false, false] rfl rfl (take_ofW HT_.out HW_.out (by kernel_rfl)) (fun _ _ _ h => h) (Or.inl ⟨by rfl, ?_⟩) hHeld ?_ ?_
                      rotate_left
                      · rintro w' ⟨s0, s1, s2⟩
                        go_simp
                        with_reducible rfl
                      rotate_left
                      · simp only [Act.put, List.setIfInBounds_toArray, List.set_cons_zero, List.set_cons_succ, i64_w, i32_w]
                        rfl
                      refine one_ (i := 24) (N := some 114) #[true, true, true, true, true, true, true, true, true, true, true, true, true, true, true, true, true, true, true, true, true, true, true, true, true, false, true, true, true, false, false, false, false, false, false, false] rfl rfl (one_of HT_.out (by kernel_rfl)) (by decide) (fun K hK => ?_)
                      refine goes_ Tryd.func16 (by kernel_rfl) rfl #[.agg #[.int .i64 a0_0, .int .i64 a0_1, .slice A0_2 l0_2.length c0_2]] (by rfl) rfl rfl (by (try simp only [List.map_toArray, List.map_cons, List.map_nil]); first | done | rfl | (simp only [List.length_drop, List.length_take]; rfl)) ?_
                      with_reducible refine (l11_own.calls a0_0 a0_1 _ _ l0_2 t560 t561 t562 _ ?side1 ?side2 ?side3 A76.out).mono ?_
                      (case side1 => exact hG.below (by repeat (first | (with_reducible first | exact HB.out | apply pbA | apply pbN | apply pb1 | refine pbS ?_ GE488.out) | exact HB.out)))
                      (case side2 => repeat (first | exact (Kd.C_below HR0_2.out HB.out) | (with_reducible refine Kd.C_alloc ?_ _) | (with_reducible refine Kd.C_drewN ?_ _) | (with_reducible refine Kd.C_drew ?_)))
                      (case side3 => exact HC0_2.out)
                      rintro e w101 ⟨v563, rfl, ho0, hb⟩
                      refine ⟨_, rfl, ?_⟩
                      have n0_ := Az.mk (Kd.R_elder' (by (with_reducible repeat (first | apply Kd.R_alloc | apply Kd.R_drewN | apply Kd.R_drew)); exact HO526.out) (Kd.R_base ho0) hb)
                      have n1_ := Az.mk (Kd.R_elder' (by (with_reducible repeat (first | apply Kd.R_alloc | apply Kd.R_drewN | apply Kd.R_drew)); exact HO532.out) (Kd.R_base ho0) hb)
                      have n2_ := Az.mk (Kd.V_elder' (by (with_reducible repeat (first | apply Kd.V_alloc | apply Kd.V_drewN | apply Kd.V_drew)); exact HO537.out) (Kd.R_base ho0) hb)
                      have n3_ := Az.mk (Kd.R_elder' (by (with_reducible repeat (first | apply Kd.R_alloc | apply Kd.R_drewN | apply Kd.R_drew)); exact HO542.out) (Kd.R_base ho0) hb)
                      have n4_ := Az.mk (Kd.R_elder' (by (with_reducible repeat (first | apply Kd.R_alloc | apply Kd.R_drewN | apply Kd.R_drew)); exact HO548.out) (Kd.R_base ho0) hb)
                      have n5_ := Az.mk (Kd.V_elder' (by (with_reducible repeat (first | apply Kd.V_alloc | apply Kd.V_drewN | apply Kd.V_drew)); exact HO553.out) (Kd.R_base ho0) hb)
                      have n6_ := Az.mk (Kd.V_elder' (by (with_reducible repeat (first | apply Kd.V_alloc | apply Kd.V_drewN | apply Kd.V_drew)); exact HO558.out) (Kd.R_base ho0) hb)
                      have n7_ := Az.mk (Kd.R_lower (Kd.R_new' (Kd.R_new' (Kd.R_new' (Kd.R_new' ho0 (Kd.R_lt (by (with_reducible repeat (first | apply Kd.R_alloc | apply Kd.R_drewN | apply Kd.R_drew)); exact HO526.out))) (Kd.R_lt (by (with_reducible repeat (first | apply Kd.R_alloc | apply Kd.R_drewN | apply Kd.R_drew)); exact HO532.out))) (Kd.R_lt (by (with_reducible repeat (first | apply Kd.R_alloc | apply Kd.R_drewN | apply Kd.R_drew)); exact HO542.out))) (Kd.R_lt (by (with_reducible repeat (first | apply Kd.R_alloc | apply Kd.R_drewN | apply Kd.R_drew)); exact HO548.out))) (pbZ (by repeat (first | (with_reducible first | exact HB.out | apply pbA | apply pbN | apply pb1 | refine pbS ?_ GE488.out) | exact HB.out))))
                      have n8_ := Az.mk (bkB (g := gb488) (o := .cells #[.int .i64 a0_0, .int .i64 a0_1, .slice A0_2 l0_2.length c0_2] 24 (0, 0)) (by (with_reducible repeat (first | refine bkN ?_ _ | refine bkD ?_ | refine bkA ?_ _)); exact BK488.out) hb)
                      have n9_ := Az.mk (pbT (by repeat (first | (with_reducible first | exact HB.out | apply pbA | apply pbN | apply pb1 | refine pbS ?_ GE488.out) | exact HB.out)) hb)
                      clear HO526
                      clear HO532
                      clear HO537
                      clear HO542
                      clear HO548
                      clear HO553
                      clear HO558
                      clear BK488
                      clear HB
                      have HO526 := n0_
                      have HO532 := n1_
                      have HO537 := n2_
                      have HO542 := n3_
                      have HO548 := n4_
                      have HO553 := n5_
                      have HO558 := n6_
                      have HO564 := n7_
                      have BK488 := n8_
                      have HB := n9_
                      clear n0_ n1_ n2_ n3_ n4_ n5_ n6_ n7_ n8_ n9_
                      (try clear hb)
                      (try clear hb2)
                      (try clear hk)
                      (try clear hi)
                      (try clear ho0)
                      obtain ⟨Ao102, co102, eo102⟩ := Kd.R_slice HO564.out
                      (first | subst eo102 | (injection eo102 with f1_ f2_ f3_; have f4_ := f1_.symm; have f5_ := f3_.symm; clear f1_ f2_ f3_; subst f4_; subst f5_))
                      refine hK.out _ _ ⟨(bkC BK488.out 0).trans rfl, (bkC BK488.out 1).trans rfl, (bkC BK488.out 2).trans rfl⟩ (fun hHeld => ?_)
                      clear hK K
                      refine norm_ (a' := ?_) ?_ ?_
                      rotate_left
                      · show Act.put _ (some 114) _ = _
                        simp only [Act.put, List.setIfInBounds_toArray, List.set_cons_zero, List.set_cons_succ, i64_w, i32_w]
                        rfl
                      refine one_ (i := 25) (N := some 115) #[true, true, true, true, true, true, true, true, true, true, true, true, true, true, true, true, true, true, true, true, true, true, true, true, true, true, true, true, true, false, false, false, false, false, false, false] rfl rfl (one_of HT_.out (by kernel_rfl)) (by decide) (fun K hK => ?_)
                      refine goes_ Tryd.func22 (by kernel_rfl) rfl #[.int .i64 a4, .int .i64 a1, .agg #[.int .i64 t560, .int .i64 t561, .slice Ao102 t562.length co102]] (by rfl) rfl rfl (by (try simp only [List.map_toArray, List.map_cons, List.map_nil]); first | done | rfl | (simp only [List.length_drop, List.length_take]; rfl)) ?_
                      with_reducible refine (roll_Newer.calls kj31 a4 a1 t560 t561 _ _ t562 t565 _ ?side1 ?side2 ?side3 A77.out).mono ?_
                      (case side1 => exact hG.below (by repeat (first | (with_reducible first | exact HB.out | apply pbA | apply pbN | apply pb1 | refine pbS ?_ GE488.out) | exact HB.out)))
                      (case side2 => repeat (first | exact (Kd.R_reads' HO564.out).2.2 | (with_reducible refine Kd.C_alloc ?_ _) | (with_reducible refine Kd.C_drewN ?_ _) | (with_reducible refine Kd.C_drew ?_)))
                      (case side3 => exact (Kd.R_reads' HO564.out).2.1)
                      rintro e w103 ⟨rfl, hb⟩
                      refine ⟨_, rfl, ?_⟩
                      have n0_ := Az.mk (Kd.R_below (by (with_reducible repeat (first | apply Kd.R_alloc | apply Kd.R_drewN | apply Kd.R_drew)); exact HO526.out) hb)
                      have n1_ := Az.mk (Kd.R_below (by (with_reducible repeat (first | apply Kd.R_alloc | apply Kd.R_drewN | apply Kd.R_drew)); exact HO532.out) hb)
                      have n2_ := Az.mk (Kd.V_below (by (with_reducible repeat (first | apply Kd.V_alloc | apply Kd.V_drewN | apply Kd.V_drew)); exact HO537.out) hb)
                      have n3_ := Az.mk (Kd.R_below (by (with_reducible repeat (first | apply Kd.R_alloc | apply Kd.R_drewN | apply Kd.R_drew)); exact HO542.out) hb)
                      have n4_ := Az.mk (Kd.R_below (by (with_reducible repeat (first | apply Kd.R_alloc | apply Kd.R_drewN | apply Kd.R_drew)); exact HO548.out) hb)
                      have n5_ := Az.mk (Kd.V_below (by (with_reducible repeat (first | apply Kd.V_alloc | apply Kd.V_drewN | apply Kd.V_drew)); exact HO553.out) hb)
                      have n6_ := Az.mk (Kd.V_below (by (with_reducible repeat (first | apply Kd.V_alloc | apply Kd.V_drewN | apply Kd.V_drew)); exact HO558.out) hb)
                      have n7_ := Az.mk (Kd.R_below (by (with_reducible repeat (first | apply Kd.R_alloc | apply Kd.R_drewN | apply Kd.R_drew)); exact HO564.out) hb)
                      have n8_ := Az.mk (bkB (g := gb488) (o := .cells #[.int .i64 a0_0, .int .i64 a0_1, .slice A0_2 l0_2.length c0_2] 24 (0, 0)) (by (with_reducible repeat (first | refine bkN ?_ _ | refine bkD ?_ | refine bkA ?_ _)); exact BK488.out) hb)
                      have n9_ := Az.mk (pbT (by repeat (first | (with_reducible first | exact HB.out | apply pbA | apply pbN | apply pb1 | refine pbS ?_ GE488.out) | exact HB.out)) hb)
                      clear HO526
                      clear HO532
                      clear HO537
                      clear HO542
                      clear HO548
                      clear HO553
                      clear HO558
                      clear HO564
                      clear BK488
                      clear HB
                      have HO526 := n0_
                      have HO532 := n1_
                      have HO537 := n2_
                      have HO542 := n3_
                      have HO548 := n4_
                      have HO553 := n5_
                      have HO558 := n6_
                      have HO564 := n7_
                      have BK488 := n8_
                      have HB := n9_
                      clear n0_ n1_ n2_ n3_ n4_ n5_ n6_ n7_ n8_ n9_
                      (try clear hb)
                      (try clear hb2)
                      (try clear hk)
                      (try clear hi)
                      refine hK.out _ _ ⟨(bkC BK488.out 0).trans rfl, (bkC BK488.out 1).trans rfl, (bkC BK488.out 2).trans rfl⟩ (fun hHeld => ?_)
                      clear hK K
                      refine norm_ (a' := ?_) ?_ ?_
                      rotate_left
                      · show Act.put _ (some 115) _ = _
                        simp only [Act.put, List.setIfInBounds_toArray, List.set_cons_zero, List.set_cons_succ, i64_w, i32_w]
                        rfl
                      refine one_ (i := 29) (N := some 119) #[true, true, true, true, true, true, true, true, true, true, true, true, true, true, true, true, true, true, true, true, true, true, true, true, true, true, true, true, true, true, false, false, false, false, false, false] rfl rfl (one_of HT_.out (by kernel_rfl)) (by decide) (fun K hK => ?_)
                      refine goes_ Tryd.func33 (by kernel_rfl) rfl #[.int .i64 a4, .int .i64 a1, .agg #[.int .i64 a0_0, .int .i64 a0_1, .slice A0_2 l0_2.length c0_2]] (by rfl) rfl rfl (by (try simp only [List.map_toArray, List.map_cons, List.map_nil]); first | done | rfl | (simp only [List.length_drop, List.length_take]; rfl)) ?_
                      with_reducible refine (r11_Newer.calls a4 a1 a0_0 a0_1 _ _ l0_2 t566 _ ?side1 ?side2 ?side3 A78.out).mono ?_
                      (case side1 => exact hG.below (by repeat (first | (with_reducible first | exact HB.out | apply pbA | apply pbN | apply pb1 | refine pbS ?_ GE488.out) | exact HB.out)))
                      (case side2 => repeat (first | exact (Kd.C_below HR0_2.out HB.out) | (with_reducible refine Kd.C_alloc ?_ _) | (with_reducible refine Kd.C_drewN ?_ _) | (with_reducible refine Kd.C_drew ?_)))
                      (case side3 => exact HC0_2.out)
                      rintro e w104 ⟨rfl, hb⟩
                      refine ⟨_, rfl, ?_⟩
                      have n0_ := Az.mk (Kd.R_below (by (with_reducible repeat (first | apply Kd.R_alloc | apply Kd.R_drewN | apply Kd.R_drew)); exact HO526.out) hb)
                      have n1_ := Az.mk (Kd.R_below (by (with_reducible repeat (first | apply Kd.R_alloc | apply Kd.R_drewN | apply Kd.R_drew)); exact HO532.out) hb)
                      have n2_ := Az.mk (Kd.V_below (by (with_reducible repeat (first | apply Kd.V_alloc | apply Kd.V_drewN | apply Kd.V_drew)); exact HO537.out) hb)
                      have n3_ := Az.mk (Kd.R_below (by (with_reducible repeat (first | apply Kd.R_alloc | apply Kd.R_drewN | apply Kd.R_drew)); exact HO542.out) hb)
                      have n4_ := Az.mk (Kd.R_below (by (with_reducible repeat (first | apply Kd.R_alloc | apply Kd.R_drewN | apply Kd.R_drew)); exact HO548.out) hb)
                      have n5_ := Az.mk (Kd.V_below (by (with_reducible repeat (first | apply Kd.V_alloc | apply Kd.V_drewN | apply Kd.V_drew)); exact HO553.out) hb)
                      have n6_ := Az.mk (Kd.V_below (by (with_reducible repeat (first | apply Kd.V_alloc | apply Kd.V_drewN | apply Kd.V_drew)); exact HO558.out) hb)
                      have n7_ := Az.mk (Kd.R_below (by (with_reducible repeat (first | apply Kd.R_alloc | apply Kd.R_drewN | apply Kd.R_drew)); exact HO564.out) hb)
                      have n8_ := Az.mk (bkB (g := gb488) (o := .cells #[.int .i64 a0_0, .int .i64 a0_1, .slice A0_2 l0_2.length c0_2] 24 (0, 0)) (by (with_reducible repeat (first | refine bkN ?_ _ | refine bkD ?_ | refine bkA ?_ _)); exact BK488.out) hb)
                      have n9_ := Az.mk (pbT (by repeat (first | (with_reducible first | exact HB.out | apply pbA | apply pbN | apply pb1 | refine pbS ?_ GE488.out) | exact HB.out)) hb)
                      clear HO526
                      clear HO532
                      clear HO537
                      clear HO542
                      clear HO548
                      clear HO553
                      clear HO558
                      clear HO564
                      clear BK488
                      clear HB
                      have HO526 := n0_
                      have HO532 := n1_
                      have HO537 := n2_
                      have HO542 := n3_
                      have HO548 := n4_
                      have HO553 := n5_
                      have HO558 := n6_
                      have HO564 := n7_
                      have BK488 := n8_
                      have HB := n9_
                      clear n0_ n1_ n2_ n3_ n4_ n5_ n6_ n7_ n8_ n9_
                      (try clear hb)
                      (try clear hb2)
                      (try clear hk)
                      (try clear hi)
                      refine hK.out _ _ ⟨(bkC BK488.out 0).trans rfl, (bkC BK488.out 1).trans rfl, (bkC BK488.out 2).trans rfl⟩ (fun hHeld => ?_)
                      clear hK K
                      refine norm_ (a' := ?_) ?_ ?_
                      rotate_left
                      · show Act.put _ (some 119) _ = _
                        simp only [Act.put, List.setIfInBounds_toArray, List.set_cons_zero, List.set_cons_succ, i64_w, i32_w]
                        rfl
                      refine pure_ (i := 30) (N := some 120) (v := ?_) (a' := ?_) #[true, true, true, true, true, true, true, true, true, true, true, true, true, true, true, true, true, true, true, true, true, true, true, true, true, true, true, true, true, true, true, false, false, false, false, false] rfl rfl (any_of HT_.out (by kernel_rfl)) (fun _ _ _ h => h) (Or.inl ⟨by rfl, ?_⟩) ?_ ?_
                      rotate_left
                      · intro w'
                        go_simp
                        with_reducible rfl
                      rotate_left
                      · simp only [Act.put, List.setIfInBounds_toArray, List.set_cons_zero, List.set_cons_succ, i64_w, i32_w]
                        rfl
                      refine pure_ (i := 31) (N := some 121) (v := ?_) (a' := ?_) #[true, true, true, true, true, true, true, true, true, true, true, true, true, true, true, true, true, true, true, true, true, true, true, true, true, true, true, true, true, true, true, true, false, false, false, false] rfl rfl (any_of HT_.out (by kernel_rfl)) (fun _ _ _ h => h) (Or.inl ⟨by rfl, ?_⟩) ?_ ?_
                      rotate_left
                      · intro w'
                        go_simp
                        with_reducible rfl
                      rotate_left
                      · simp only [Act.put, List.setIfInBounds_toArray, List.set_cons_zero, List.set_cons_succ, i64_w, i32_w]
                        rfl
                      refine pure_ (i := 32) (N := some 122) (v := ?_) (a' := ?_) #[true, true, true, true, true, true, true, true, true, true, true, true, true, true, true, true, true, true, true, true, true, true, true, true, true, true, true, true, true, true, true, true, true, false, false, false] rfl rfl (any_of HT_.out (by kernel_rfl)) (fun _ _ _ h => h) (Or.inl ⟨by rfl, ?_⟩) ?_ ?_
                      rotate_left
                      · intro w'
                        go_simp
                        with_reducible rfl
                      rotate_left
                      · simp only [Act.put, List.setIfInBounds_toArray, List.set_cons_zero, List.set_cons_succ, i64_w, i32_w]
                        rfl
                      refine one_ (i := 33) (N := some 123) #[true, true, true, true, true, true, true, true, true, true, true, true, true, true, true, true, true, true, true, true, true, true, true, true, true, true, true, true, true, true, true, true, true, true, false, false] rfl rfl (one_of HT_.out (by kernel_rfl)) (by decide) (fun K hK => ?_)
                      refine goes_ Tryd.func9 (by kernel_rfl) rfl #[] (by rfl) rfl rfl (by (try simp only [List.map_toArray, List.map_cons, List.map_nil]); first | done | rfl | (simp only [List.length_drop, List.length_take]; rfl)) ?_
                      with_reducible refine (l11_live.calls  t567 _ ?side1 A80.out).mono ?_
                      (case side1 => exact hG.below (by repeat (first | (with_reducible first | exact HB.out | apply pbA | apply pbN | apply pb1 | refine pbS ?_ GE488.out) | exact HB.out)))
                      rintro e w105 ⟨rfl, hb⟩
                      refine ⟨_, rfl, ?_⟩
                      have n0_ := Az.mk (Kd.R_below (by (with_reducible repeat (first | apply Kd.R_alloc | apply Kd.R_drewN | apply Kd.R_drew)); exact HO526.out) hb)
                      have n1_ := Az.mk (Kd.R_below (by (with_reducible repeat (first | apply Kd.R_alloc | apply Kd.R_drewN | apply Kd.R_drew)); exact HO532.out) hb)
                      have n2_ := Az.mk (Kd.V_below (by (with_reducible repeat (first | apply Kd.V_alloc | apply Kd.V_drewN | apply Kd.V_drew)); exact HO537.out) hb)
                      have n3_ := Az.mk (Kd.R_below (by (with_reducible repeat (first | apply Kd.R_alloc | apply Kd.R_drewN | apply Kd.R_drew)); exact HO542.out) hb)
                      have n4_ := Az.mk (Kd.R_below (by (with_reducible repeat (first | apply Kd.R_alloc | apply Kd.R_drewN | apply Kd.R_drew)); exact HO548.out) hb)
                      have n5_ := Az.mk (Kd.V_below (by (with_reducible repeat (first | apply Kd.V_alloc | apply Kd.V_drewN | apply Kd.V_drew)); exact HO553.out) hb)
                      have n6_ := Az.mk (Kd.V_below (by (with_reducible repeat (first | apply Kd.V_alloc | apply Kd.V_drewN | apply Kd.V_drew)); exact HO558.out) hb)
                      have n7_ := Az.mk (Kd.R_below (by (with_reducible repeat (first | apply Kd.R_alloc | apply Kd.R_drewN | apply Kd.R_drew)); exact HO564.out) hb)
                      have n8_ := Az.mk (bkB (g := gb488) (o := .cells #[.int .i64 a0_0, .int .i64 a0_1, .slice A0_2 l0_2.length c0_2] 24 (0, 0)) (by (with_reducible repeat (first | refine bkN ?_ _ | refine bkD ?_ | refine bkA ?_ _)); exact BK488.out) hb)
                      have n9_ := Az.mk (pbT (by repeat (first | (with_reducible first | exact HB.out | apply pbA | apply pbN | apply pb1 | refine pbS ?_ GE488.out) | exact HB.out)) hb)
                      clear HO526
                      clear HO532
                      clear HO537
                      clear HO542
                      clear HO548
                      clear HO553
                      clear HO558
                      clear HO564
                      clear BK488
                      clear HB
                      have HO526 := n0_
                      have HO532 := n1_
                      have HO537 := n2_
                      have HO542 := n3_
                      have HO548 := n4_
                      have HO553 := n5_
                      have HO558 := n6_
                      have HO564 := n7_
                      have BK488 := n8_
                      have HB := n9_
                      clear n0_ n1_ n2_ n3_ n4_ n5_ n6_ n7_ n8_ n9_
                      (try clear hb)
                      (try clear hb2)
                      (try clear hk)
                      (try clear hi)
                      refine hK.out _ _ ⟨(bkC BK488.out 0).trans rfl, (bkC BK488.out 1).trans rfl, (bkC BK488.out 2).trans rfl⟩ (fun hHeld => ?_)
                      clear hK K
                      refine norm_ (a' := ?_) ?_ ?_
                      rotate_left
                      · show Act.put _ (some 123) _ = _
                        simp only [Act.put, List.setIfInBounds_toArray, List.set_cons_zero, List.set_cons_succ, i64_w, i32_w]
                        rfl
                      refine pure_ (i := 34) (N := some 124) (v := ?_) (a' := ?_) #[true, true, true, true, true, true, true, true, true, true, true, true, true, true, true, true, true, true, true, true, true, true, true, true, true, true, true, true, true, true, true, true, true, true, true, false] rfl rfl (any_of HT_.out (by kernel_rfl)) (fun _ _ _ h => h) (Or.inl ⟨by rfl, ?_⟩) ?_ ?_
                      rotate_left
                      · intro w'
                        go_simp
                        with_reducible rfl
                      rotate_left
                      · simp only [Act.put, List.setIfInBounds_toArray, List.set_cons_zero, List.set_cons_succ, i64_w, i32_w]
                        rfl
                      refine pure_ (i := 35) (N := some 12) (v := ?_) (a' := ?_) #[true, true, true, true, true, true, true, true, true, true, true, true, true, true, true, true, true, true, true, true, true, true, true, true, true, true, true, true, true, true, true, true, true, true, true, true] rfl rfl (any_of HT_.out (by kernel_rfl)) (fun _ _ _ h => h) (Or.inl ⟨by rfl, ?_⟩) ?_ ?_
                      rotate_left
                      · intro w'
                        go_simp
                        with_reducible rfl
                      rotate_left
                      · simp only [Act.put, List.setIfInBounds_toArray, List.set_cons_zero, List.set_cons_succ, i64_w, i32_w]
                        rfl
                      refine done_ (done_of HT_.out (by kernel_rfl)) ?_
                      try go_wp2
                      go_ret
                      exact ⟨by first | rfl | (simp [errW_none, errW_some] <;> rfl) | (simp [*, errW_none, errW_some] <;> rfl), by repeat (first | (with_reducible first | exact HB.out | apply pbA | apply pbN | apply pb1 | refine pbS ?_ GE488.out) | exact HB.out)⟩
                    · rw [if_neg c79] at H
                      have c79b0 : (t565 == t566) = false := by simpa using c79
                      (try (have c79b1 : decide (t565 = t566) = false := by simpa using c79))
                      (try (have c79b2 : (t565 == t566) = false := by simpa using c79))
                      (try (have c79b3 : ¬ (t565 = t566) := by simpa using c79))
                      clear c79
                      exact absurd (Option.some.inj (H.trans (congrArg some hr))) (by decide)
                  · replace c75 := Bool.eq_false_iff.mpr c75
                    subst c75
                    have H1 : (some false) = some r := by rw [if_neg (show ¬ (false = true) by decide)] at H; exact H
                    clear H
                    have H := H1
                    clear H1
                    exact absurd (Option.some.inj (H.trans (congrArg some hr))) (by decide)
                · replace c70 := Bool.eq_false_iff.mpr c70
                  subst c70
                  have H1 : (some false) = some r := by rw [if_neg (show ¬ (false = true) by decide)] at H; exact H
                  clear H
                  have H := H1
                  clear H1
                  exact absurd (Option.some.inj (H.trans (congrArg some hr))) (by decide)
              · rw [if_neg c66] at H
                exact absurd H (by simp)
end Go.Proofs.YtjpihfjgomoijaaDoor.P
end
section
/- RollTells, the plain law. -/
namespace Go.Proofs.YtjpihfjgomoijaaDoor.U
open Go.RowKit Go.Proofs.YtjpihfjgomoijaaDoorW.PrintWords Go.Proofs.YtjpihfjgomoijaaDoorW.PrintLast Go.Proofs.YtjpihfjgomoijaaDoorW.PrintMore Go.Proofs.YtjpihfjgomoijaaDoor.P Go.Proofs.YtjpihfjgomoijaaDoor.K Go.Proofs.YtjpihfjgomoijaaDoor.A Go.Proofs.YtjpihfjgomoijaaDoor.V
theorem compactR_short {b bt : Int} {l : List S54} {i : Int} : (compactR b bt l i).2.2.length ≤ l.length := by
  unfold compactR; split
  · simp only [List.length_drop]; omega
  · exact Nat.le_refl _
theorem RollTells : ∀ (a0_0 : Int), (Lit.int .i64 a0_0).wf = true → ∀ (a0_1 : Int), (Lit.int .i64 a0_1).wf = true → ∀ (l0_2 : List S54), (l0_2.length * 24 ≤ reachBytes ∧ l0_2.length ≤ maxLen ∧ ∀ x ∈ l0_2, ((Lit.int .i64 x.f0).wf = true ∧ x.f1.size ≤ reachBytes)) → ∀ (a1 : Int), (Lit.int .i64 a1).wf = true → ∀ (a2 : Int), (Lit.int .i64 a2).wf = true → ∀ (a3 : Int), (Lit.int .i64 a3).wf = true → ∀ (a4 : Int), (Lit.int .i64 a4).wf = true → ∀ (l5 : List S54), (l5.length * 24 ≤ reachBytes ∧ l5.length ≤ maxLen ∧ ∀ x ∈ l5, ((Lit.int .i64 x.f0).wf = true ∧ x.f1.size ≤ reachBytes)) → ∃ k, l11_RollTells.f k a0_0 a0_1 l0_2 a1 a2 a3 a4 l5 = some true := by
  intro b _ bt _ l ⟨hl1, _, hl3⟩ i hi0 fr hf0 q hq0 t _ m ⟨hm1, _, _⟩
  have hreach : reachBytes = 140737488351232 := rfl
  have hi := isI_wf hi0
  have hf := isI_wf hf0
  have hq := isI_wf hq0
  refine Ev.rounds ?_
  have hbad : Ev (fun k => l11_RollTells.j0 k i fr q t m true b bt l) true := by
    refine Ev.shift ?_
    simp only [l11_RollTells.j0, l11_live.f, if_true, Option.bind_some]
    exact Ev.now _
  refine Ev.bind (small_ev b bt l (fun x hx => (hl3 x hx).2) (by omega)) ?_
  refine Ev.ite (fun hsm => ?_) (fun _ => hbad)
  obtain ⟨h1, h2⟩ := smallG_true hsm
  refine Ev.bind (is_ev b bt l (by omega)) ?_
  refine Ev.ite (fun hok => ?_) (fun _ => hbad)
  have hb : 0 ≤ b ∧ b ≤ 1099511627776 := by have := (okR_iff.1 hok).1; omega
  cases hdec : decide ((m.length : Int) > 60) with
  | true => exact hbad
  | false =>
    have hml : m.length ≤ 60 := by have := of_decide_eq_false hdec; omega
    have hl : l.length ≤ 1000000000 := by omega
    have hm : m.length ≤ 1000000000 := by omega
    have hc : ([] : List S54).length + m.length < 5864062014805 := by simp; omega
    have hown := own_eq (b := b) (bt := bt) (l := l) (by omega)
    refine Ev.shift ?_
    simp only [l11_RollTells.j0, hown, Option.bind_some, rlast_eq hb hl, slice_eq hb hl hf]
    refine Ev.ite (fun h => absurd h (by simp)) (fun _ => ?_)
    refine Ev.bind (last_ev hb hl) (Ev.bind (term_ev hb.1 hl hi) (Ev.bind (rterm_ev hb hl hi) ?_))
    refine Ev.ite (fun _ => ?_) (fun h => absurd rfl h)
    refine Ev.ite (fun _ => ?_) (fun h => absurd rfl h)
    refine Ev.ite (fun _ => ?_) (fun h => absurd rfl h)
    refine Ev.ite (fun h => absurd h (by simp)) (fun _ => ?_)
    have hsl : (sliceR b l fr q).length ≤ 60 := by unfold sliceR; rw [List.length_take, List.length_drop]; omega
    refine Ev.bind (rslice_ev hb hl hq) (Ev.bind (entries_ev _ _ (by omega)) ?_)
    rw [decide_eq_true rfl]
    refine Ev.shift ?_
    simp only [l11_RollTells.j1, hown, Option.bind_some, if_pos hc, List.nil_append, append_eq hl hm, rappend_eq hl hm, rnewer_eq hb hl]
    refine Ev.ite (fun h => absurd h (by simp)) (fun _ => ?_)
    refine Ev.bind (same_ev _ _ _ _ _ _ (by rw [List.length_append]; omega)) ?_
    refine Ev.ite (fun _ => ?_) (fun h => absurd (by simp) h)
    refine Ev.bind (compact_ev hb hl hi) (Ev.bind (rcompact_ev hb hl hi) ?_)
    refine Ev.bind (same_ev _ _ _ _ _ _ (by have := compactR_short (b := b) (bt := bt) (l := l) (i := i); omega)) ?_
    refine Ev.ite (fun _ => ?_) (fun h => absurd (by simp) h)
    refine Ev.bind (newer_ev hb hl) ?_
    refine Ev.ite (fun _ => ?_) (fun h => absurd (by simp) h)
    simp only [l11_live.f, Option.bind_some]
    exact Ev.now _
end Go.Proofs.YtjpihfjgomoijaaDoor.U
end
