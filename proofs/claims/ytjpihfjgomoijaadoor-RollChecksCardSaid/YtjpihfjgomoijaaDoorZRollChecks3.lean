import Derived.Test.YtjpihfjgomoijaaDoorZRollChecks0
import Derived.Test.YtjpihfjgomoijaaDoorZRollChecks1
import Derived.Test.YtjpihfjgomoijaaDoorZRollChecks2
import Derived.ArgAppend
import Derived.Deep.DrawnRows
import Derived.Deep.RegionHeld3
import Derived.Lib.Hide
import Derived.Lib.SliceRun
import Derived.Maps.AppendAt
import Derived.OwnWalk
set_option linter.unusedVariables false
set_option linter.unusedSimpArgs false
set_option linter.unnecessarySimpa false
section
-- Written by a program of this session (wip/tools/pr.py), over the kit's printer; functions named in the texts imported below are given by hand.
namespace Go.Proofs.YtjpihfjgomoijaaDoor.P
open Go.RowKit Go.Proofs.YtjpihfjgomoijaaDoor.K Go.Proofs.YtjpihfjgomoijaaDoorW.PrintWords Go.Proofs.YtjpihfjgomoijaaDoorW.PrintLast Go.Proofs.YtjpihfjgomoijaaDoorW.PrintMore
attribute [local go_sem] max2_int min2_int max_two min_two max_three min_three max_four min_four   -- for this text's walks alone
/-! ### r11_Parse: function 11 -/
mutual
def r11_Parse.j0 : Nat → List ByteArray → Bool → Option (Int × Int × (List (S54)) × Int)
  | 0, _, _ => none
  | k + 1, x4, x31 => if x31 = true then (some (0, 0, ([] : List (S54)), 110)) else (if 0 < (x4.length : Int) then ((r01_Int.f k (rdOf ByteArray.empty x4 0)).bind fun bt248 => (if 1 < (x4.length : Int) then ((r01_Int.f k (rdOf ByteArray.empty x4 1)).bind fun bt251 => (r11_Parse.l0 k x4 bt248.2 bt251.2 2 bt248.1 bt251.1 ([] : List (S54)))) else (none))) else (none))
def r11_Parse.l0 : Nat → List ByteArray → Int → Int → Int → Int → Int → List (S54) → Option (Int × Int × (List (S54)) × Int)
  | 0, _, _, _, _, _, _, _ => none
  | k + 1, x4, x7, x9, x11, x254000, x254001, x254002 => if x11 < (x4.length : Int) then (if 0 ≤ x11 then ((r01_Int.f k (rdOf ByteArray.empty x4 x11)).bind fun bt255 => (if bt255.2 = 0 then (if 0 ≤ (wrap64 (x11 + 1)) then (if (wrap64 (x11 + 1)) < (x4.length : Int) then (if x254002.length < 5864062014805 then (r11_Parse.l0 k x4 x7 x9 (wrap64 (x11 + 2)) x254000 x254001 (x254002 ++ [(⟨bt255.1, rdOf ByteArray.empty x4 (wrap64 (x11 + 1))⟩ : S54)])) else (none)) else (none)) else (none)) else (some (0, 0, ([] : List (S54)), 110)))) else (none)) else (if (wrap64 (x7 + x9)) = 0 then ((r11_Is.f k x254000 x254001 x254002).bind fun t261 => (if t261 = true then (some (x254000, x254001, x254002, 0)) else (some (0, 0, ([] : List (S54)), 110)))) else (some (0, 0, ([] : List (S54)), 110)))
end
def r11_Parse.f (k : Nat) (a0 : ByteArray) : Option (Int × Int × (List (S54)) × Int) := (r01_Untie.f k a0).bind fun bt243 => (if bt243.2 = 0 then (if (bt243.1.length : Int) < 2 then (r11_Parse.j0 k bt243.1 true) else (r11_Parse.j0 k bt243.1 (((bt243.1.length : Int) % 2) == 1))) else (r11_Parse.j0 k bt243.1 true))
theorem r11_Parse.mono_l : ∀ k, (∀ y0 y1, LeO (r11_Parse.j0 k y0 y1) (r11_Parse.j0 (k + 1) y0 y1)) ∧ (∀ y0 y1 y2 y3 y4 y5 y6, LeO (r11_Parse.l0 k y0 y1 y2 y3 y4 y5 y6) (r11_Parse.l0 (k + 1) y0 y1 y2 y3 y4 y5 y6))
  | 0 => ⟨fun _ _ r h => by simp [r11_Parse.j0] at h, fun _ _ _ _ _ _ _ r h => by simp [r11_Parse.l0] at h⟩
  | k + 1 => by
    obtain ⟨ih0, ih1⟩ := r11_Parse.mono_l k
    refine ⟨?_, ?_⟩
    · intro y0 y1
      unfold r11_Parse.j0
      repeat' first
      | (with_reducible exact ih0 _ _)
      | (with_reducible exact ih1 _ _ _ _ _ _ _)
      | (with_reducible exact r01_Int.mono _ _)
      | (with_reducible exact r01_Untie.mono _ _)
      | (with_reducible exact r11_Is.mono _ _ _ _)
      | (with_reducible exact LeO.refl _)
      | (with_reducible exact LeO.none _)
      | (with_reducible refine LeO.ite ?_ ?_)
      | (with_reducible refine LeO.bind ?_ (fun _ => ?_))
      | exact ih0 _ _
      | exact ih1 _ _ _ _ _ _ _
      | exact r01_Int.mono _ _
      | exact r01_Untie.mono _ _
      | exact r11_Is.mono _ _ _ _
      | exact LeO.none _
      | refine LeO.ite ?_ ?_
      | refine LeO.bind ?_ (fun _ => ?_)
    · intro y0 y1 y2 y3 y4 y5 y6
      unfold r11_Parse.l0
      repeat' first
      | (with_reducible exact ih0 _ _)
      | (with_reducible exact ih1 _ _ _ _ _ _ _)
      | (with_reducible exact r01_Int.mono _ _)
      | (with_reducible exact r01_Untie.mono _ _)
      | (with_reducible exact r11_Is.mono _ _ _ _)
      | (with_reducible exact LeO.refl _)
      | (with_reducible exact LeO.none _)
      | (with_reducible refine LeO.ite ?_ ?_)
      | (with_reducible refine LeO.bind ?_ (fun _ => ?_))
      | exact ih0 _ _
      | exact ih1 _ _ _ _ _ _ _
      | exact r01_Int.mono _ _
      | exact r01_Untie.mono _ _
      | exact r11_Is.mono _ _ _ _
      | exact LeO.none _
      | refine LeO.ite ?_ ?_
      | refine LeO.bind ?_ (fun _ => ?_)
theorem r11_Parse.mono : ∀ a0 k, LeO (r11_Parse.f k a0) (r11_Parse.f (k + 1) a0) := by
  intro a0 k
  obtain ⟨ih0, ih1⟩ := r11_Parse.mono_l k
  unfold r11_Parse.f
  repeat' first
      | (with_reducible exact ih0 _ _)
      | (with_reducible exact ih1 _ _ _ _ _ _ _)
      | (with_reducible exact r01_Int.mono _ _)
      | (with_reducible exact r01_Untie.mono _ _)
      | (with_reducible exact r11_Is.mono _ _ _ _)
      | (with_reducible exact LeO.refl _)
      | (with_reducible exact LeO.none _)
      | (with_reducible refine LeO.ite ?_ ?_)
      | (with_reducible refine LeO.bind ?_ (fun _ => ?_))
      | exact ih0 _ _
      | exact ih1 _ _ _ _ _ _ _
      | exact r01_Int.mono _ _
      | exact r01_Untie.mono _ _
      | exact r11_Is.mono _ _ _ _
      | exact LeO.none _
      | refine LeO.ite ?_ ?_
      | refine LeO.bind ?_ (fun _ => ?_)
def r11_Parse.T13 : Bool × List (List Nat × List Nat) := (true, [([], []), ([0], [0]), ([], []), ([], []), ([], []), ([4], [4]), ([3, 5], [3, 5]), ([6], [6]), ([2, 7], [2, 7]), ([8], [8]), ([1, 9], [1, 9]), ([0, 1, 2, 3, 4, 5, 6, 7, 8, 9, 10], []), ([11, 10, 10, 0, 1, 2, 3, 4, 5, 6, 7, 8, 9, 10], [10, 11])])
def r11_Parse.B13 : List Nat := [0, 1, 0, 0, 0, 16, 56, 120, 252, 508, 1023, 2047, 4095]
theorem r11_Parse.tab13 : rtab .any (opsOf Tryd.f11 13) = r11_Parse.T13 := by kernel_rfl
theorem r11_Parse.bits13 : waitsOk r11_Parse.T13.2 r11_Parse.B13 = true := by kernel_rfl
set_option maxHeartbeats 8000000 in
set_option maxRecDepth 100000 in
theorem r11_Parse.calls (k : Nat) (a0 : ByteArray) (r1 : Int) (r2 : Int) (r3 : List (S54)) (r4 : Int) (w : World) (hG : TheG w) (h : r11_Parse.f k a0 = some (r1, r2, r3, r4)) :
    Calls Tryd.prog 11 #[.string a0] w fun e w' => ∃ v2_ : Value, e = .returned (.tuple #[.agg #[.int .i64 r1, .int .i64 r2, v2_], .int .i64 r4]) ∧ Kd.R k54 54 w' w.heap.size (fun _ => True) v2_ r3 ∧ Below w.heap.size w w' := by
  have hu24 := Tryd.underlying24
  have hu54 := Tryd.underlying54
  have HB := Az.mk (Below.refl w.heap.size w)
  have H : ((r01_Untie.f k a0).bind fun bt243 => (if bt243.2 = 0 then (if (bt243.1.length : Int) < 2 then (r11_Parse.j0 k bt243.1 true) else (r11_Parse.j0 k bt243.1 (((bt243.1.length : Int) % 2) == 1))) else (r11_Parse.j0 k bt243.1 true))) = some (r1, r2, r3, r4) := h
  clear h
  replace H := Option.bind_eq_some_iff.mp H
  obtain ⟨⟨t243, t244⟩, A20, H⟩ := H
  replace H : (if t244 = 0 then (if (t243.length : Int) < 2 then (r11_Parse.j0 k t243 true) else (r11_Parse.j0 k t243 (((t243.length : Int) % 2) == 1))) else (r11_Parse.j0 k t243 true)) = some (r1, r2, r3, r4) := H
  have A2 := Az.mk A20
  clear A20
  have HC3 := Az.mk H
  clear H
  go_enter Tryd.func11, Tryd.ntmps11
  go_upto_region 2 with (first | ((with_reducible refine gate_dst (N := 2) rfl ?_); (try (refine gate_guard (by rfl) ?_; dsimp only)); refine box_event ?hg (N := 2) ?hd (cs := #[.int .i64 0, .int .i64 0, .slice none 0 0]) (t := 24) ?hr ?_; (case hd => rfl); (case hg => rfl); (case hr => first | (go_simp; done) | (go_simp; rfl)); intro gb242 hg w4 hbox hb; have n0_ := Az.mk (pbT (by repeat (first | (with_reducible first | exact HB.out | apply pbA | apply pbN | apply pb1) | exact HB.out)) hb); have n1_ := Az.mk (hbox); have n2_ := Az.mk ((by rw [hg]; exact (pbZ (by repeat (first | (with_reducible first | exact HB.out | apply pbA | apply pbN | apply pb1) | exact HB.out))) : w.heap.size ≤ gb242)); have n3_ := Az.mk ((by rw [hg]; exact (pbZ (by repeat (first | (with_reducible first | exact HB.out | apply pbA | apply pbN | apply pb1) | exact HB.out))) : w.heap.size ≤ gb242)); clear HB; have HB := n0_; have BK242 := n1_; have GW242 := n2_; have GE242 := n3_; clear n0_ n1_ n2_ n3_; clear hb hbox hg) | ((with_reducible refine gtc (f := 37) rfl ?_); refine goesL_ (some 16) rfl rfl Tryd.func37 (by kernel_rfl) rfl #[.string a0] rfl (by (try simp only [List.map_toArray, List.map_cons, List.map_nil]); first | done | rfl | (simp only [List.length_drop, List.length_take]; rfl)) ?_; (with_reducible refine (r01_Untie.calls k a0 t243 t244 _ ?side1 A2.out).mono ?_); (case side1 => exact hG.below (by repeat (first | (with_reducible first | exact HB.out | apply pbA | apply pbN | apply pb1 | refine pbS ?_ GE242.out) | exact HB.out))); rintro e w5 ⟨v245, rfl, ho0, hb⟩; refine ⟨_, rfl, ?_⟩; have n0_ := Az.mk (Kd.R_lower ho0 (pbZ (by repeat (first | (with_reducible first | exact HB.out | apply pbA | apply pbN | apply pb1 | refine pbS ?_ GE242.out) | exact HB.out)))); have n1_ := Az.mk (bkB (g := gb242) (o := .cells #[.int .i64 0, .int .i64 0, .slice none 0 0] 24 (0, 0)) (by (with_reducible repeat (first | refine bkN ?_ _ | refine bkD ?_ | refine bkA ?_ _)); exact BK242.out) hb); have n2_ := Az.mk (pbT (by repeat (first | (with_reducible first | exact HB.out | apply pbA | apply pbN | apply pb1 | refine pbS ?_ GE242.out) | exact HB.out)) hb); clear BK242; clear HB; have HO246 := n0_; have BK242 := n1_; have HB := n2_; clear n0_ n1_ n2_; (try clear hb); (try clear hb2); (try clear hk); (try clear hi); (try clear ho0)))
  (try simp only [Act.put, List.setIfInBounds_toArray, List.set_cons_zero, List.set_cons_succ])
  go_cut [31] (fun v31 wc => ∃ (kq : Nat) (x31_2 : Bool), v31 = .bool x31_2 ∧ Az (r11_Parse.j0 kq t243 x31_2 = some (r1, r2, r3, r4)) ∧ Az (kq ≤ k) ∧ Az (Kd.R Kd.string 9 wc w.heap.size (fun _ => True) v245 t243) ∧ Az (wc.heap[gb242]? = some (.cells #[.int .i64 0, .int .i64 0, (.slice none 0 0)] 24 (0, 0))) ∧ Az (Below w.heap.size w wc))
  case first =>
    have H := HC3.out
    clear HC3
    by_cases c6 : t244 = 0
    · rw [if_pos c6] at H
      have c6b0 : (t244 == 0) = true := beq_iff_eq.mpr c6
      have c6b1 : (t244 != 0) = false := bne_eq_false_iff_eq.mpr c6
      clear c6
      (first | rw [c6b0] | (simp only [i64_w, i32_w]; rw [c6b0]) | skip)
      by_cases c7 : (t243.length : Int) < 2
      · rw [if_pos c7] at H
        have c7b0 : decide ((t243.length : Int) < 2) = true := decide_eq_true c7
        have c7b1 : decide (t243.length < 2) = true := decide_eq_true (by omega)
        clear c7
        have H' := Az.mk H
        clear H
        obtain ⟨Ao8, co8, eo8⟩ := Kd.R_slice HO246.out
        subst eo8
        go_wp2
        go_meet
        case rel => exact ⟨_, (true), (by first | rfl | (simp; done) | (simp [*]; done)), H', ⟨by first | omega | exact Nat.le_refl _⟩, ⟨by (with_reducible repeat (first | apply Kd.R_alloc | apply Kd.R_drewN | apply Kd.R_drew)); exact HO246.out⟩, ⟨by (with_reducible repeat (first | refine bkN ?_ _ | refine bkD ?_ | refine bkA ?_ _)); exact BK242.out⟩, ⟨by repeat (first | (with_reducible first | exact HB.out | apply pbA | apply pbN | apply pb1 | refine pbS ?_ GE242.out) | exact HB.out)⟩⟩
      · rw [if_neg c7] at H
        have c7b0 : decide ((t243.length : Int) < 2) = false := decide_eq_false c7
        have c7b1 : decide (t243.length < 2) = false := decide_eq_false (by omega)
        clear c7
        have H' := Az.mk H
        clear H
        obtain ⟨Ao9, co9, eo9⟩ := Kd.R_slice HO246.out
        subst eo9
        go_wp2
        go_meet
        case rel => exact ⟨_, ((((t243.length : Int) % 2) == 1)), (by first | rfl | (simp; done) | (simp [*]; done)), H', ⟨by first | omega | exact Nat.le_refl _⟩, ⟨by (with_reducible repeat (first | apply Kd.R_alloc | apply Kd.R_drewN | apply Kd.R_drew)); exact HO246.out⟩, ⟨by (with_reducible repeat (first | refine bkN ?_ _ | refine bkD ?_ | refine bkA ?_ _)); exact BK242.out⟩, ⟨by repeat (first | (with_reducible first | exact HB.out | apply pbA | apply pbN | apply pb1 | refine pbS ?_ GE242.out) | exact HB.out)⟩⟩
    · rw [if_neg c6] at H
      have c6b0 : (t244 == 0) = false := beq_eq_false_iff_ne.mpr c6
      have c6b1 : (t244 != 0) = true := bne_iff_ne.mpr c6
      (first | rw [c6b0] | (simp only [i64_w, i32_w]; rw [c6b0]) | skip)
      have H' := Az.mk H
      clear H
      go_wp2
      go_meet
      case rel => exact ⟨_, (true), (by first | rfl | (simp; done) | (simp [*]; done)), H', ⟨by first | omega | exact Nat.le_refl _⟩, ⟨by (with_reducible repeat (first | apply Kd.R_alloc | apply Kd.R_drewN | apply Kd.R_drew)); exact HO246.out⟩, ⟨by (with_reducible repeat (first | refine bkN ?_ _ | refine bkD ?_ | refine bkA ?_ _)); exact BK242.out⟩, ⟨by repeat (first | (with_reducible first | exact HB.out | apply pbA | apply pbN | apply pb1 | refine pbS ?_ GE242.out) | exact HB.out)⟩⟩
  case rest =>
    clear HC3
    try clear c1
    try clear p2
    try clear c3
    try clear c6
    try clear c6b0
    try clear c6b1
    try clear c7
    try clear c7b0
    try clear c7b1
    obtain ⟨kq, x31_2, rfl, HA, HJ2, HO_4, BK242, HB⟩ := hcut
    cases kq with
    | zero => exact absurd HA.out (by simp [r11_Parse.j0])
    | succ kj2 =>
      have H := HA.out
      clear HA
      simp only [r11_Parse.j0] at H
      by_cases c10 : x31_2 = true
      · subst c10
        have H1 : (some (0, 0, ([] : List (S54)), 110)) = some (r1, r2, r3, r4) := by rw [if_pos rfl] at H; exact H
        clear H
        have H := H1
        clear H1
        simp only [Option.some.injEq, Prod.mk.injEq] at H
        obtain ⟨rfl, rfl, rfl, rfl⟩ := H
        have hcz11_0 : wc.cell? ⟨gb242, 0, none⟩ = some (.int .i64 0) := (bkC BK242.out 0).trans rfl
        have hcz11_1 : wc.cell? ⟨gb242, 1, none⟩ = some (.int .i64 0) := (bkC BK242.out 1).trans rfl
        have hcz11_2 : wc.cell? ⟨gb242, 2, none⟩ = some (.slice none 0 0) := (bkC BK242.out 2).trans rfl
        have hfz11_0 := bkF BK242.out 0
        have hfz11_1 := bkF BK242.out 1
        have hfz11_2 := bkF BK242.out 2
        go_wp2
        refine bodyPost_ret (results_ct rfl _ _ gb242 24 #[.int .i64 0, .int .i64 0, .slice none 0 0] (0, 0) _ rfl (by (with_reducible repeat (first | refine bkN ?_ _ | refine bkD ?_ | refine bkA ?_ _)); refine blk_put (cs := #[.int .i64 0, .int .i64 0, .slice none 0 0]) ?_ 2 _ rfl; (with_reducible repeat (first | refine bkN ?_ _ | refine bkD ?_ | refine bkA ?_ _)); refine blk_put (cs := #[.int .i64 0, .int .i64 0, .slice none 0 0]) ?_ 1 _ rfl; (with_reducible repeat (first | refine bkN ?_ _ | refine bkD ?_ | refine bkA ?_ _)); refine blk_put (cs := #[.int .i64 0, .int .i64 0, .slice none 0 0]) ?_ 0 _ rfl; (with_reducible repeat (first | refine bkN ?_ _ | refine bkD ?_ | refine bkA ?_ _)); exact BK242.out) Tryd.underlying24 rfl (by kernel_rfl)) rfl ?_
        exact ⟨_, by first | rfl | (simp [errW_none, errW_some] <;> rfl) | (simp [*, errW_none, errW_some] <;> rfl), by first | exact Kd.R_nil _ _ _ _ _ | exact Kd.N_nil _ _ _ _ _ | exact Kd.V_nil _ _ _ _ _ | exact Kd.Q_nil _ _ _ _ _ | exact Kd.S_nil _ _ _ _ _, by repeat (first | (with_reducible first | exact HB.out | apply pbA | apply pbN | apply pb1 | refine pbS ?_ GE242.out) | exact HB.out)⟩
      · replace c10 := Bool.eq_false_iff.mpr c10
        subst c10
        have H1 : (if 0 < (t243.length : Int) then ((r01_Int.f kj2 (rdOf ByteArray.empty t243 0)).bind fun bt248 => (if 1 < (t243.length : Int) then ((r01_Int.f kj2 (rdOf ByteArray.empty t243 1)).bind fun bt251 => (r11_Parse.l0 kj2 t243 bt248.2 bt251.2 2 bt248.1 bt251.1 ([] : List (S54)))) else (none))) else (none)) = some (r1, r2, r3, r4) := by rw [if_neg (show ¬ (false = true) by decide)] at H; exact H
        clear H
        have H := H1
        clear H1
        by_cases c12 : 0 < (t243.length : Int)
        · rw [if_pos c12] at H
          have c12b0 : decide (0 < (t243.length : Int)) = true := decide_eq_true c12
          have c12b1 : decide (0 < t243.length) = true := decide_eq_true (by omega)
          clear c12
          replace H := Option.bind_eq_some_iff.mp H
          obtain ⟨⟨t248, t249⟩, A130, H⟩ := H
          replace H : (if 1 < (t243.length : Int) then ((r01_Int.f kj2 (rdOf ByteArray.empty t243 1)).bind fun bt251 => (r11_Parse.l0 kj2 t243 t249 bt251.2 2 t248 bt251.1 ([] : List (S54)))) else (none)) = some (r1, r2, r3, r4) := H
          have A13 := Az.mk A130
          clear A130
          by_cases c14 : 1 < (t243.length : Int)
          · rw [if_pos c14] at H
            have c14b0 : decide (1 < (t243.length : Int)) = true := decide_eq_true c14
            have c14b1 : decide (1 < t243.length) = true := decide_eq_true (by omega)
            clear c14
            replace H := Option.bind_eq_some_iff.mp H
            obtain ⟨⟨t251, t252⟩, A150, H⟩ := H
            replace H : (r11_Parse.l0 kj2 t243 t249 t252 2 t248 t251 ([] : List (S54))) = some (r1, r2, r3, r4) := H
            have A15 := Az.mk A150
            clear A150
            have H' := Az.mk H
            clear H
            obtain ⟨Ao16, co16, eo16⟩ := Kd.R_slice HO_4.out
            subst eo16
            have p247 : 0 ≤ (0 : Int) := (by omega)
            have q247 : 0 < (t243.length : Int) := of_decide_eq_true (by first | (with_reducible assumption) | assumption)
            obtain ⟨ad247, e247, hx247_0⟩ := Kd.at_string (Kd.R_reads' HO_4.out).2.2 0 p247 q247
            cases e247
            have qi247 : (0 < t243.length) = True := eq_true (by omega)
            (try rw [show ((0 : Int)).toNat = 0 from rfl] at hx247_0)
            (try rw [Addr.add_zero'] at hx247_0)
            replace p247 := eq_true p247
            replace q247 := eq_true q247
            go_wp2_with (first | ((with_reducible refine gtc (f := 38) rfl ?_); refine goesL_ (some 37) rfl rfl Tryd.func38 (by kernel_rfl) rfl #[.string (rdOf ByteArray.empty t243 0)] rfl (by (try simp only [List.map_toArray, List.map_cons, List.map_nil]); first | done | rfl | (simp only [List.length_drop, List.length_take]; rfl)) ?_; (with_reducible refine (r01_Int.calls kj2 (rdOf ByteArray.empty t243 0) t248 t249 _ ?side1 A13.out).mono ?_); (case side1 => exact hG.below (by repeat (first | (with_reducible first | exact HB.out | apply pbA | apply pbN | apply pb1 | refine pbS ?_ GE242.out) | exact HB.out))); rintro e w' ⟨rfl, ⟨nd, rfl⟩⟩; refine ⟨_, rfl, ?_⟩; (try (rw [drewN_self wc]; generalize hq_ : World.drewN wc _ = wc; have n0_ : Az (Kd.R Kd.string 9 wc w.heap.size (fun _ => True) (.slice (some ad247) t243.length co16) t243) := ⟨by rw [← hq_]; exact (by (with_reducible repeat (first | apply Kd.R_alloc | apply Kd.R_drewN | apply Kd.R_drew)); exact HO_4.out)⟩; have n1_ : Az (wc.heap[gb242]? = some (.cells #[.int .i64 0, .int .i64 0, .slice none 0 0] 24 (0, 0))) := ⟨by rw [← hq_]; exact (by (with_reducible repeat (first | refine bkN ?_ _ | refine bkD ?_ | refine bkA ?_ _)); exact BK242.out)⟩; have n2_ : Az (Below w.heap.size w wc) := ⟨by rw [← hq_]; exact (by repeat (first | (with_reducible first | exact HB.out | apply pbA | apply pbN | apply pb1 | refine pbS ?_ GE242.out) | exact HB.out))⟩; clear HO_4 BK242 HB hq_; have HO_4 := n0_; have BK242 := n1_; have HB := n2_; clear n0_ n1_ n2_)); have p250 : 0 ≤ (1 : Int) := (by omega); have q250 : 1 < (t243.length : Int) := of_decide_eq_true (by first | (with_reducible assumption) | assumption); obtain ⟨ad250, e250, hx250_0⟩ := Kd.at_string (Kd.R_reads' HO_4.out).2.2 1 p250 q250; obtain rfl : ad247 = ad250 := (by injection e250); (try simp only [show (1 : Int).toNat = 1 from rfl, Nat.reduceMul, Nat.reduceEqDiff, Go.Addr.add, ↓reduceIte] at hx250_0); have qi250 : (1 < t243.length) = True := eq_true (by omega); (try rw [show ((1 : Int)).toNat = 1 from rfl] at hx250_0); replace p250 := eq_true p250; replace q250 := eq_true q250) | ((with_reducible refine gtc (f := 38) rfl ?_); refine goesL_ (some 44) rfl rfl Tryd.func38 (by kernel_rfl) rfl #[.string (rdOf ByteArray.empty t243 1)] rfl (by (try simp only [List.map_toArray, List.map_cons, List.map_nil]); first | done | rfl | (simp only [List.length_drop, List.length_take]; rfl)) ?_; (with_reducible refine (r01_Int.calls kj2 (rdOf ByteArray.empty t243 1) t251 t252 _ ?side1 A15.out).mono ?_); (case side1 => exact hG.below (by repeat (first | (with_reducible first | exact HB.out | apply pbA | apply pbN | apply pb1 | refine pbS ?_ GE242.out) | exact HB.out))); rintro e w' ⟨rfl, ⟨nd, rfl⟩⟩; refine ⟨_, rfl, ?_⟩; (try (rw [drewN_self wc]; generalize hq_ : World.drewN wc _ = wc; have n0_ : Az (Kd.R Kd.string 9 wc w.heap.size (fun _ => True) (.slice (some ad247) t243.length co16) t243) := ⟨by rw [← hq_]; exact (by (with_reducible repeat (first | apply Kd.R_alloc | apply Kd.R_drewN | apply Kd.R_drew)); exact HO_4.out)⟩; have n1_ : Az (wc.heap[gb242]? = some (.cells #[.int .i64 0, .int .i64 0, .slice none 0 0] 24 (0, 0))) := ⟨by rw [← hq_]; exact (by (with_reducible repeat (first | refine bkN ?_ _ | refine bkD ?_ | refine bkA ?_ _)); exact BK242.out)⟩; have n2_ : Az (Below w.heap.size w wc) := ⟨by rw [← hq_]; exact (by repeat (first | (with_reducible first | exact HB.out | apply pbA | apply pbN | apply pb1 | refine pbS ?_ GE242.out) | exact HB.out))⟩; clear HO_4 BK242 HB hq_; have HO_4 := n0_; have BK242 := n1_; have HB := n2_; clear n0_ n1_ n2_))) | ((with_reducible refine gate_dst (N := 10) rfl ?_); (try (refine gate_guard (by rfl) ?_; dsimp only)); refine box_event ?hg (N := 10) ?hd (cs := #[.int .i64 0, .int .i64 0, .slice none 0 0]) (t := 24) ?hr ?_; (case hd => rfl); (case hg => rfl); (case hr => first | (go_simp; done) | (go_simp; rfl)); intro gb253 hg w17 hbox hb; have n0_ := Az.mk (Kd.R_below (by (with_reducible repeat (first | apply Kd.R_alloc | apply Kd.R_drewN | apply Kd.R_drew)); exact HO_4.out) hb); have n1_ := Az.mk (bkB (g := gb242) (o := .cells #[.int .i64 0, .int .i64 0, .slice none 0 0] 24 (0, 0)) (by (with_reducible repeat (first | refine bkN ?_ _ | refine bkD ?_ | refine bkA ?_ _)); exact BK242.out) hb); have n2_ := Az.mk (pbT (by repeat (first | (with_reducible first | exact HB.out | apply pbA | apply pbN | apply pb1 | refine pbS ?_ GE242.out) | exact HB.out)) hb); have n3_ := Az.mk (hbox); have n4_ := Az.mk ((by rw [hg]; exact (pbZ (by repeat (first | (with_reducible first | exact HB.out | apply pbA | apply pbN | apply pb1 | refine pbS ?_ GE242.out) | exact HB.out))) : w.heap.size ≤ gb253)); have n5_ := Az.mk ((by rw [hg]; exact (pbZ (by repeat (first | (with_reducible first | exact HB.out | apply pbA | apply pbN | apply pb1 | refine pbS ?_ GE242.out) | exact HB.out))) : w.heap.size ≤ gb253)); have n6_ := Az.mk ((by rw [hg]; exact Nat.ne_of_lt (blk_lt (g := gb242) (o := .cells #[.int .i64 0, .int .i64 0, .slice none 0 0] 24 (0, 0)) (by (with_reducible repeat (first | refine bkN ?_ _ | refine bkD ?_ | refine bkA ?_ _)); exact BK242.out)) : gb242 ≠ gb253)); have n7_ := Az.mk ((by rw [hg]; exact Nat.ne_of_gt (blk_lt (g := gb242) (o := .cells #[.int .i64 0, .int .i64 0, .slice none 0 0] 24 (0, 0)) (by (with_reducible repeat (first | refine bkN ?_ _ | refine bkD ?_ | refine bkA ?_ _)); exact BK242.out)) : gb253 ≠ gb242)); clear HO_4; clear BK242; clear HB; have HO_4 := n0_; have BK242 := n1_; have HB := n2_; have BK253 := n3_; have GW253 := n4_; have GE253 := n5_; have NB242_253 := n6_; have NB253_242 := n7_; clear n0_ n1_ n2_ n3_ n4_ n5_ n6_ n7_; clear hb hbox hg; have hnb18 := NB253_242.out; have hnc18 := NB242_253.out; have hcz19_0 : w17.cell? ⟨gb253, 0, none⟩ = some (.int .i64 0) := (bkC BK253.out 0).trans rfl; have hcz19_1 : w17.cell? ⟨gb253, 1, none⟩ = some (.int .i64 0) := (bkC BK253.out 1).trans rfl; have hcz19_2 : w17.cell? ⟨gb253, 2, none⟩ = some (.slice none 0 0) := (bkC BK253.out 2).trans rfl; have hfz19_0 := bkF BK253.out 0; have hfz19_1 := bkF BK253.out 1; have hfz19_2 := bkF BK253.out 2))
            go_loopg [11] kj2 (fun kq v11 w' => ∃ (x11_2 : Int) (x243000_2 : Int) (x243001_2 : Int) (x254002_2 : List (S54)) (u254002 : Value), v11 = .int .i64 x11_2 ∧ Az (r11_Parse.l0 kq t243 t249 t252 x11_2 t248 t251 x254002_2 = some (r1, r2, r3, r4)) ∧ Az (kq ≤ kj2) ∧ Az (Kd.R Kd.string 9 w' w.heap.size (fun _ => True) (.slice (some ad247) t243.length co16) t243) ∧ Az (Kd.R k54 54 w' w.heap.size (fun _ => True) u254002 x254002_2) ∧ Az (w'.heap[gb242]? = some (.cells #[.int .i64 x243000_2, .int .i64 x243001_2, (.slice none 0 0)] 24 (0, 0))) ∧ Az (w'.heap[gb253]? = some (.cells #[.int .i64 t248, .int .i64 t251, u254002] 24 (0, 0))) ∧ Az (Below w.heap.size w w'))
            case atStart => exact ⟨(2), (0), (0), (([] : List (S54))), (.slice none 0 0), (by first | rfl | (simp; done) | (simp [*]; done)), H', ⟨Nat.le_refl _⟩, ⟨by (with_reducible repeat (first | apply Kd.R_alloc | apply Kd.R_drewN | apply Kd.R_drew)); exact Kd.R_mono (Kd.R_far (p := ⟨gb253, 2, none⟩) (Kd.R_far (p := ⟨gb253, 1, none⟩) (Kd.R_far (p := ⟨gb253, 0, none⟩) (Kd.R_types HO_4.out BK253.out (by decide)) (fun _ hk => hk.2) (.int .i64 t248)) (fun _ hk => hk.2) (.int .i64 t251)) (fun _ hk => hk.2) (.slice none 0 0)) (fun _ hk => trivial)⟩, ⟨by first | exact Kd.R_nil _ _ _ _ _ | exact Kd.N_nil _ _ _ _ _ | exact Kd.V_nil _ _ _ _ _ | exact Kd.Q_nil _ _ _ _ _ | exact Kd.S_nil _ _ _ _ _⟩, ⟨by (with_reducible repeat (first | refine bkN ?_ _ | refine bkD ?_ | refine bkA ?_ _)); refine blk_far ?_ NB242_253.out _; (with_reducible repeat (first | refine bkN ?_ _ | refine bkD ?_ | refine bkA ?_ _)); refine blk_far ?_ NB242_253.out _; (with_reducible repeat (first | refine bkN ?_ _ | refine bkD ?_ | refine bkA ?_ _)); refine blk_far ?_ NB242_253.out _; (with_reducible repeat (first | refine bkN ?_ _ | refine bkD ?_ | refine bkA ?_ _)); exact BK242.out⟩, ⟨by (with_reducible repeat (first | refine bkN ?_ _ | refine bkD ?_ | refine bkA ?_ _)); refine blk_put (cs := #[.int .i64 t248, .int .i64 t251, .slice none 0 0]) ?_ 2 _ rfl; (with_reducible repeat (first | refine bkN ?_ _ | refine bkD ?_ | refine bkA ?_ _)); refine blk_put (cs := #[.int .i64 t248, .int .i64 0, .slice none 0 0]) ?_ 1 _ rfl; (with_reducible repeat (first | refine bkN ?_ _ | refine bkD ?_ | refine bkA ?_ _)); refine blk_put (cs := #[.int .i64 0, .int .i64 0, .slice none 0 0]) ?_ 0 _ rfl; (with_reducible repeat (first | refine bkN ?_ _ | refine bkD ?_ | refine bkA ?_ _)); exact BK253.out⟩, ⟨by repeat (first | (with_reducible first | exact HB.out | apply pbA | apply pbN | apply pb1 | refine pbS ?_ GE242.out | refine pbS ?_ GE253.out) | exact HB.out)⟩⟩
            case round =>
              clear H'
              try clear c1
              try clear p2
              try clear q2
              try clear hx2
              try clear qi2
              try clear c3
              try clear c6
              try clear c6b0
              try clear c6b1
              try clear c7
              try clear c7b0
              try clear c7b1
              try clear c10
              try clear c11
              try clear c12
              try clear c12b0
              try clear c12b1
              try clear c14
              try clear c14b0
              try clear c14b1
              try clear c18
              try clear hcz11_0
              try clear hcz11_1
              try clear hcz11_2
              try clear hcz19_0
              try clear hcz19_1
              try clear hcz19_2
              try clear hfz11_0
              try clear hfz11_1
              try clear hfz11_2
              try clear hfz19_0
              try clear hfz19_1
              try clear hfz19_2
              try clear hx247_0
              try clear hx250_0
              try clear p2
              try clear p247
              try clear p250
              try clear q247
              try clear q250
              obtain ⟨x11_2, x243000_2, x243001_2, x254002_2, u254002, rfl, HA, HK2, HO_4, HO_254002, BK242, BK253, HB⟩ := hrel
              cases gk with
              | zero => exact absurd HA.out (by simp [r11_Parse.l0])
              | succ k2 =>
                have H := HA.out
                clear HA
                simp only [r11_Parse.l0] at H
                by_cases c20 : x11_2 < (t243.length : Int)
                · rw [if_pos c20] at H
                  have c20b0 : decide (x11_2 < (t243.length : Int)) = true := decide_eq_true c20
                  clear c20
                  by_cases c21 : 0 ≤ x11_2
                  · rw [if_pos c21] at H
                    have c21b0 : decide (0 ≤ x11_2) = true := decide_eq_true c21
                    clear c21
                    replace H := Option.bind_eq_some_iff.mp H
                    obtain ⟨⟨t255, t256⟩, A220, H⟩ := H
                    replace H : (if t256 = 0 then (if 0 ≤ (wrap64 (x11_2 + 1)) then (if (wrap64 (x11_2 + 1)) < (t243.length : Int) then (if x254002_2.length < 5864062014805 then (r11_Parse.l0 k2 t243 t249 t252 (wrap64 (x11_2 + 2)) t248 t251 (x254002_2 ++ [(⟨t255, rdOf ByteArray.empty t243 (wrap64 (x11_2 + 1))⟩ : S54)])) else (none)) else (none)) else (none)) else (some (0, 0, ([] : List (S54)), 110))) = some (r1, r2, r3, r4) := H
                    have A22 := Az.mk A220
                    clear A220
                    by_cases c23 : t256 = 0
                    · rw [if_pos c23] at H
                      have c23b0 : (t256 == 0) = true := beq_iff_eq.mpr c23
                      have c23b1 : (t256 != 0) = false := bne_eq_false_iff_eq.mpr c23
                      clear c23
                      obtain ⟨ji24, hji24⟩ : ∃ j_ : Int, (wrap64 (x11_2 + 1)) = j_ := ⟨_, rfl⟩
                      replace H : (if 0 ≤ (ji24) then (if (ji24) < (t243.length : Int) then (if x254002_2.length < 5864062014805 then (r11_Parse.l0 k2 t243 t249 t252 (wrap64 (x11_2 + 2)) t248 t251 (x254002_2 ++ [(⟨t255, rdOf ByteArray.empty t243 (ji24)⟩ : S54)])) else (none)) else (none)) else (none)) = some (r1, r2, r3, r4) := by first | (rw [hji24] at H; exact H) | (simp only [hji24] at H ⊢; exact H)
                      (try rw [hji24] at A22)
                      have hji24w : (IntKind.i64.wrap (x11_2 + 1)) = ji24 := (i64_w _).trans hji24
                      by_cases c25 : 0 ≤ (ji24)
                      · rw [if_pos c25] at H
                        have c25b0 : decide (0 ≤ (ji24)) = true := decide_eq_true c25
                        clear c25
                        by_cases c26 : (ji24) < (t243.length : Int)
                        · rw [if_pos c26] at H
                          have c26b0 : decide ((ji24) < (t243.length : Int)) = true := decide_eq_true c26
                          clear c26
                          by_cases c27 : x254002_2.length < 5864062014805
                          · rw [if_pos c27] at H
                            have LMc27 := Az.mk c27
                            clear c27
                            obtain ⟨y258, hy258⟩ : ∃ y_ : List (S54), y_ = (x254002_2 ++ [(⟨t255, rdOf ByteArray.empty t243 (ji24)⟩ : S54)]) := ⟨_, rfl⟩
                            replace H : (r11_Parse.l0 k2 t243 t249 t252 (wrap64 (x11_2 + 2)) t248 t251 y258) = some (r1, r2, r3, r4) := by first | (rw [hy258]; with_reducible exact H) | (have H2_ := (Option.bind_some _ _).symm.trans H; rw [hy258]; with_reducible exact H2_) | (have H2_ := (Option.bind_some _ _).symm.trans H; with_reducible exact H2_) | with_reducible exact H | (rw [hy258]; exact H) | exact H
                            have Ny258 := Az.mk hy258
                            clear hy258
                            have H' := Az.mk H
                            clear H
                            have p254 : 0 ≤ (x11_2 : Int) := of_decide_eq_true (by first | (with_reducible assumption) | assumption)
                            have q254 : x11_2 < (t243.length : Int) := of_decide_eq_true (by first | (with_reducible assumption) | assumption)
                            obtain ⟨ad254, e254, hx254_0⟩ := Kd.at_string (Kd.R_reads' HO_4.out).2.2 x11_2 p254 q254
                            obtain rfl : ad247 = ad254 := (by injection e254)
                            replace p254 := eq_true p254
                            replace q254 := eq_true q254
                            try go_wp2_with (first | ((with_reducible refine gtc (f := 38) rfl ?_); refine goesL_ (some 61) rfl rfl Tryd.func38 (by kernel_rfl) rfl #[.string (rdOf ByteArray.empty t243 x11_2)] rfl (by (try simp only [List.map_toArray, List.map_cons, List.map_nil]); first | done | rfl | (simp only [List.length_drop, List.length_take]; rfl)) ?_; (with_reducible refine (r01_Int.calls k2 (rdOf ByteArray.empty t243 x11_2) t255 t256 _ ?side1 A22.out).mono ?_); (case side1 => exact hG.below (by repeat (first | (with_reducible first | exact HB.out | apply pbA | apply pbN | apply pb1 | refine pbS ?_ GE242.out | refine pbS ?_ GE253.out) | exact HB.out))); rintro e w' ⟨rfl, ⟨nd, rfl⟩⟩; refine ⟨_, rfl, ?_⟩; (try (rw [drewN_self wr]; generalize hq_ : World.drewN wr _ = wr; have n0_ : Az (Kd.R k54 54 wr w.heap.size (fun _ => True) u254002 x254002_2) := ⟨by rw [← hq_]; exact (by (with_reducible repeat (first | apply Kd.R_alloc | apply Kd.R_drewN | apply Kd.R_drew)); exact HO_254002.out)⟩; have n1_ : Az (Kd.R Kd.string 9 wr w.heap.size (fun _ => True) (.slice (some ad247) t243.length co16) t243) := ⟨by rw [← hq_]; exact (by (with_reducible repeat (first | apply Kd.R_alloc | apply Kd.R_drewN | apply Kd.R_drew)); exact HO_4.out)⟩; have n2_ : Az (wr.heap[gb242]? = some (.cells #[.int .i64 x243000_2, .int .i64 x243001_2, .slice none 0 0] 24 (0, 0))) := ⟨by rw [← hq_]; exact (by (with_reducible repeat (first | refine bkN ?_ _ | refine bkD ?_ | refine bkA ?_ _)); exact BK242.out)⟩; have n3_ : Az (wr.heap[gb253]? = some (.cells #[.int .i64 t248, .int .i64 t251, u254002] 24 (0, 0))) := ⟨by rw [← hq_]; exact (by (with_reducible repeat (first | refine bkN ?_ _ | refine bkD ?_ | refine bkA ?_ _)); exact BK253.out)⟩; have n4_ : Az (Below w.heap.size w wr) := ⟨by rw [← hq_]; exact (by repeat (first | (with_reducible first | exact HB.out | apply pbA | apply pbN | apply pb1 | refine pbS ?_ GE242.out | refine pbS ?_ GE253.out) | exact HB.out))⟩; clear HO_254002 HO_4 BK242 BK253 HB hq_; have HO_254002 := n0_; have HO_4 := n1_; have BK242 := n2_; have BK253 := n3_; have HB := n4_; clear n0_ n1_ n2_ n3_ n4_))))
                            have n0_ := Az.mk (Kd.R_drew HO_4.out)
                            have n1_ := Az.mk (Kd.R_drew HO_254002.out)
                            have n2_ := Az.mk (bkD BK242.out)
                            have n3_ := Az.mk (bkD BK253.out)
                            have n4_ := Az.mk (pb1 HB.out)
                            clear HO_4
                            clear HO_254002
                            clear BK242
                            clear BK253
                            clear HB
                            have HO_4 := n0_
                            have HO_254002 := n1_
                            have BK242 := n2_
                            have BK253 := n3_
                            have HB := n4_
                            clear n0_ n1_ n2_ n3_ n4_
                            have p257 : 0 ≤ ((ji24) : Int) := of_decide_eq_true (by first | (with_reducible assumption) | assumption)
                            have q257 : (ji24) < (t243.length : Int) := of_decide_eq_true (by first | (with_reducible assumption) | assumption)
                            obtain ⟨ad257, e257, hx257_0⟩ := Kd.at_string (Kd.R_reads' HO_4.out).2.2 (ji24) p257 q257
                            obtain rfl : ad247 = ad257 := (by injection e257)
                            replace p257 := eq_true p257
                            replace q257 := eq_true q257
                            refine start_ (n := 13) (S := fun w' => w'.cell? ⟨gb253, 0, none⟩ = some (.int .i64 t248) ∧ w'.cell? ⟨gb253, 1, none⟩ = some (.int .i64 t251) ∧ w'.cell? ⟨gb253, 2, none⟩ = some (u254002) ∧ w'.cell? (ad247.add ((ji24)).toNat) = some (.string (rdOf ByteArray.empty t243 (ji24)))) (ds := [10, 12]) #[false, false, false, false, false, false, false, false, false, false, false, false, false] (by kernel_rfl) rfl rfl ⟨(bkC BK253.out 0).trans rfl, (bkC BK253.out 1).trans rfl, (bkC BK253.out 2).trans rfl, hx257_0⟩ (fun hHeld => ?_); refine with_tabW r11_Parse.tab13 r11_Parse.bits13 (fun HT_ HW_ => ?_)
                            generalize wr.drew = w28 at HO_4 HO_254002 BK242 BK253 HB hx257_0 hHeld ⊢
                            refine pure_ (i := 0) (N := some 67) (v := ?_) (a' := ?_) #[true, false, false, false, false, false, false, false, false, false, false, false, false] rfl rfl (any_of HT_.out (by kernel_rfl)) (fun _ _ _ h => h) (Or.inl ⟨by rfl, ?_⟩) ?_ ?_
                            rotate_left
                            · intro w'
                              go_simp
                              with_reducible rfl
                            rotate_left
                            · simp only [Act.put, List.setIfInBounds_toArray, List.set_cons_zero, List.set_cons_succ, i64_w, i32_w]
                              rfl
                            refine pure_ (i := 2) (N := some 69) (v := ?_) (a' := ?_) #[true, false, true, false, false, false, false, false, false, false, false, false, false] rfl rfl (any_of HT_.out (by kernel_rfl)) (fun _ _ _ h => h) (Or.inl ⟨by rfl, ?_⟩) ?_ ?_
                            rotate_left
                            · intro w'
                              go_simp
                              with_reducible rfl
                            rotate_left
                            · simp only [Act.put, List.setIfInBounds_toArray, List.set_cons_zero, List.set_cons_succ, i64_w, i32_w]
                              rfl
                            refine pure_ (i := 3) (N := some 70) (v := ?_) (a' := ?_) #[true, false, true, true, false, false, false, false, false, false, false, false, false] rfl rfl (any_of HT_.out (by kernel_rfl)) (fun _ _ _ h => h) (Or.inl ⟨by rfl, ?_⟩) ?_ ?_
                            rotate_left
                            · intro w'
                              go_simp
                              with_reducible rfl
                            rotate_left
                            · simp only [Act.put, List.setIfInBounds_toArray, List.set_cons_zero, List.set_cons_succ, i64_w, i32_w]
                              rfl
                            refine pure_ (i := 4) (N := some 71) (v := ?_) (a' := ?_) #[true, false, true, true, true, false, false, false, false, false, false, false, false] rfl rfl (any_of HT_.out (by kernel_rfl)) (fun _ _ _ h => h) (Or.inl ⟨by rfl, ?_⟩) ?_ ?_
                            rotate_left
                            · intro w'
                              go_simp
                              with_reducible rfl
                            rotate_left
                            · simp only [Act.put, List.setIfInBounds_toArray, List.set_cons_zero, List.set_cons_succ, i64_w, i32_w]
                              rfl
                            refine pure_ (i := 5) (N := some 72) (v := ?_) (a' := ?_) #[true, false, true, true, true, true, false, false, false, false, false, false, false] rfl rfl (any_of HT_.out (by kernel_rfl)) (fun _ _ _ h => h) (Or.inl ⟨by rfl, ?_⟩) ?_ ?_
                            rotate_left
                            · intro w'
                              go_simp
                              with_reducible rfl
                            rotate_left
                            · simp only [Act.put, List.setIfInBounds_toArray, List.set_cons_zero, List.set_cons_succ, i64_w, i32_w]
                              rfl
                            refine pure_ (i := 6) (N := some 73) (v := ?_) (a' := ?_) #[true, false, true, true, true, true, true, false, false, false, false, false, false] rfl rfl (any_of HT_.out (by kernel_rfl)) (fun _ _ _ h => h) (Or.inl ⟨by rfl, ?_⟩) ?_ ?_
                            rotate_left
                            · intro w'
                              go_simp
                              with_reducible rfl
                            rotate_left
                            · simp only [Act.put, List.setIfInBounds_toArray, List.set_cons_zero, List.set_cons_succ, i64_w, i32_w]
                              rfl
                            refine take_ (i := 1) (N := some 68) (v := ?_) (a' := ?_) #[true, true, true, true, true, true, true, false, false, false, false, false, false] rfl rfl (take_ofW HT_.out HW_.out (by kernel_rfl)) (fun _ _ _ h => h) (Or.inl ⟨by rfl, ?_⟩) hHeld ?_ ?_
                            rotate_left
                            · rintro w' ⟨s0, s1, s2, s3⟩
                              go_simp
                              with_reducible rfl
                            rotate_left
                            · simp only [Act.put, List.setIfInBounds_toArray, List.set_cons_zero, List.set_cons_succ, i64_w, i32_w]
                              rfl
                            refine take_ (i := 7) (N := some 74) (v := ?_) (a' := ?_) #[true, true, true, true, true, true, true, true, false, false, false, false, false] rfl rfl (take_ofW HT_.out HW_.out (by kernel_rfl)) (fun _ _ _ h => h) (Or.inl ⟨by rfl, ?_⟩) hHeld ?_ ?_
                            rotate_left
                            · rintro w' ⟨s0, s1, s2, s3⟩
                              go_simp
                              with_reducible rfl
                            rotate_left
                            · simp only [Act.put, List.setIfInBounds_toArray, List.set_cons_zero, List.set_cons_succ, i64_w, i32_w]
                              rfl
                            refine pure_ (i := 8) (N := some 75) (v := ?_) (a' := ?_) #[true, true, true, true, true, true, true, true, true, false, false, false, false] rfl rfl (any_of HT_.out (by kernel_rfl)) (fun _ _ _ h => h) (Or.inl ⟨by rfl, ?_⟩) ?_ ?_
                            rotate_left
                            · intro w'
                              go_simp
                              with_reducible rfl
                            rotate_left
                            · simp only [Act.put, List.setIfInBounds_toArray, List.set_cons_zero, List.set_cons_succ, i64_w, i32_w]
                              rfl
                            refine one_ (i := 9) (N := some 76) #[true, true, true, true, true, true, true, true, true, true, false, false, false] rfl rfl (one_of HT_.out (by kernel_rfl)) (by decide) (fun K hK => ?_)
                            refine value_ (w1 := ?_) (v := ?_) (by rfl) rfl ?_ ?_
                            rotate_left 2
                            · go_simp
                              constructor
                              · rfl
                              · rfl
                            refine hK.out _ _ ⟨(bkC (bkA BK253.out _) 0).trans rfl, (bkC (bkA BK253.out _) 1).trans rfl, (bkC (bkA BK253.out _) 2).trans rfl, (World.cell?_alloc_lt _ _ _ (World.block_lt_of_cell? _ _ (hHeld.2.2.2))).trans (hHeld.2.2.2)⟩ (fun hHeld => ?_)
                            clear hK K
                            refine norm_ (a' := ?_) ?_ ?_
                            rotate_left
                            · show Act.put _ (some 76) _ = _
                              simp only [Act.put, List.setIfInBounds_toArray, List.set_cons_zero, List.set_cons_succ, i64_w, i32_w]
                              rfl
                            refine last_ (i := 10) (N := some 77) #[true, true, true, true, true, true, true, true, true, true, true, false, false] rfl rfl (one_of HT_.out (by kernel_rfl)) (by decide) (fun K hK => ?_)
                            refine Kd.R_append_step k54 (w0 := w) w.heap.size (by rfl) (.tmp 68) (.tmp 76) 22 54 (.agg #[(.int .i64 0), (.string ⟨#[]⟩)]) 24 rfl Tryd.underlying22 info54 rfl (by decide) (by omega) u254002 x254002_2 (⟨t255, rdOf ByteArray.empty t243 (ji24)⟩ : S54) [.int .i64 t255, .string (rdOf ByteArray.empty t243 (ji24))] (fun _ => True) (fun _ => False) rfl rfl ?aP (fun _ hk => hk.elim) ?aF ?aO ?aB ?aS ?aL ?_
                            (case aP => exact k54_mkM _ _ _ (⟨t255, rdOf ByteArray.empty t243 (ji24)⟩ : S54))
                            (case aB => exact (by repeat (first | (with_reducible first | exact HB.out | apply pbA | apply pbN | apply pb1 | refine pbS ?_ GE242.out | refine pbS ?_ GE253.out) | exact HB.out)))
                            (case aF => exact (fun _ _ => trivial))
                            (case aO => exact (by (with_reducible repeat (first | apply Kd.R_alloc | apply Kd.R_drewN | apply Kd.R_drew)); exact HO_254002.out))
                            (case aS => exact (pbZ (by repeat (first | (with_reducible first | exact HB.out | apply pbA | apply pbN | apply pb1 | refine pbS ?_ GE242.out | refine pbS ?_ GE253.out) | exact HB.out))))
                            (case aL => have := LMc27.out; omega)
                            intro v259 w29 ho hb hg hat
                            rw [← Ny258.out] at ho
                            have n0_ := Az.mk (Kd.R_over' (by (with_reducible repeat (first | apply Kd.R_alloc | apply Kd.R_drewN | apply Kd.R_drew)); exact HO_4.out) (Kd.R_typed (by (with_reducible repeat (first | apply Kd.R_alloc | apply Kd.R_drewN | apply Kd.R_drew)); exact HO_254002.out)) (by decide) hg)
                            have n1_ := Az.mk (blk_grown (g := gb242) (o := .cells #[.int .i64 x243000_2, .int .i64 x243001_2, .slice none 0 0] 24 (0, 0)) (by (with_reducible repeat (first | refine bkN ?_ _ | refine bkD ?_ | refine bkA ?_ _)); exact BK242.out) hg (Kd.R_ne HO_254002.out BK242.out (by decide)))
                            have n2_ := Az.mk (blk_grown (g := gb253) (o := .cells #[.int .i64 t248, .int .i64 t251, u254002] 24 (0, 0)) (by (with_reducible repeat (first | refine bkN ?_ _ | refine bkD ?_ | refine bkA ?_ _)); exact BK253.out) hg (Kd.R_ne HO_254002.out BK253.out (by decide)))
                            have n3_ := Az.mk (hb)
                            have n4_ := Az.mk (ho)
                            clear HO_4
                            clear BK242
                            clear BK253
                            clear HB
                            clear HO_254002
                            have HO_4 := n0_
                            have BK242 := n1_
                            have BK253 := n2_
                            have HB := n3_
                            have HO260 := n4_
                            clear n0_ n1_ n2_ n3_ n4_
                            clear ho hb hg hat
                            obtain ⟨Ao30, co30, eo30⟩ := Kd.R_slice HO260.out
                            (first | subst eo30 | (injection eo30 with f1_ f2_ f3_; have f4_ := f1_.symm; have f5_ := f3_.symm; clear f1_ f2_ f3_; subst f4_; subst f5_))
                            refine hK.out _ _ ?_
                            clear hK K
                            refine norm_ (a' := ?_) ?_ ?_
                            rotate_left
                            · show Act.put _ (some 77) _ = _
                              simp only [Act.put, List.setIfInBounds_toArray, List.set_cons_zero, List.set_cons_succ, i64_w, i32_w]
                              rfl
                            refine pure_ (i := 11) (N := some 78) (v := ?_) (a' := ?_) #[true, true, true, true, true, true, true, true, true, true, true, true, false] rfl rfl (any_of HT_.out (by kernel_rfl)) (fun _ _ _ h => h) (Or.inl ⟨by rfl, ?_⟩) ?_ ?_
                            rotate_left
                            · intro w'
                              go_simp
                              with_reducible rfl
                            rotate_left
                            · simp only [Act.put, List.setIfInBounds_toArray, List.set_cons_zero, List.set_cons_succ, i64_w, i32_w]
                              rfl
                            refine last_ (i := 12) (N := none) #[true, true, true, true, true, true, true, true, true, true, true, true, true] rfl rfl (one_of HT_.out (by kernel_rfl)) (by decide) (fun K hK => ?_)
                            have hs31 : w29.cell? ⟨gb253, 2, none⟩ = some (u254002) := (bkC BK253.out 2).trans rfl
                            have hfs31 := bkF BK253.out 2
                            have hns31_0 := NB242_253.out
                            have hms31_0 := NB253_242.out
                            refine skip_ (w1 := ?_) (by rfl) rfl ?_ ?_
                            rotate_left
                            · go_simp
                              rfl
                            refine hK.out _ _ ?_
                            clear hK K
                            refine done_ (done_of HT_.out (by kernel_rfl)) ?_
                            try go_wp2
                            go_roundg k2
                            case measure => have := HJ2.out; have := HK2.out; omega
                            case rel => exact ⟨(wrap64 (x11_2 + 2)), (x243000_2), (x243001_2), (y258), (.slice Ao30 y258.length co30), (by first | rfl | (simp; done) | (simp [*]; done)), H', ⟨by have := HJ2.out; have := HK2.out; omega⟩, ⟨by (with_reducible repeat (first | apply Kd.R_alloc | apply Kd.R_drewN | apply Kd.R_drew)); exact Kd.R_mono (Kd.R_far (p := ⟨gb253, 2, none⟩) (Kd.R_types HO_4.out BK253.out (by decide)) (fun _ hk => hk.2) (.slice Ao30 y258.length co30)) (fun _ hk => trivial)⟩, ⟨by (with_reducible repeat (first | apply Kd.R_alloc | apply Kd.R_drewN | apply Kd.R_drew)); exact Kd.R_mono (Kd.R_far (p := ⟨gb253, 2, none⟩) (Kd.R_types HO260.out BK253.out (by decide)) (fun _ hk => hk.2) (.slice Ao30 y258.length co30)) (fun _ hk => trivial)⟩, ⟨by (with_reducible repeat (first | refine bkN ?_ _ | refine bkD ?_ | refine bkA ?_ _)); refine blk_far ?_ NB242_253.out _; (with_reducible repeat (first | refine bkN ?_ _ | refine bkD ?_ | refine bkA ?_ _)); exact BK242.out⟩, ⟨by (with_reducible repeat (first | refine bkN ?_ _ | refine bkD ?_ | refine bkA ?_ _)); refine blk_put (cs := #[.int .i64 t248, .int .i64 t251, u254002]) ?_ 2 _ rfl; (with_reducible repeat (first | refine bkN ?_ _ | refine bkD ?_ | refine bkA ?_ _)); exact BK253.out⟩, ⟨by repeat (first | (with_reducible first | exact HB.out | apply pbA | apply pbN | apply pb1 | refine pbS ?_ GE242.out | refine pbS ?_ GE253.out) | exact HB.out)⟩⟩
                          · rw [if_neg c27] at H
                            exact absurd H (by simp)
                        · rw [if_neg c26] at H
                          exact absurd H (by simp)
                      · rw [if_neg c25] at H
                        exact absurd H (by simp)
                    · rw [if_neg c23] at H
                      have c23b0 : (t256 == 0) = false := beq_eq_false_iff_ne.mpr c23
                      have c23b1 : (t256 != 0) = true := bne_iff_ne.mpr c23
                      simp only [Option.some.injEq, Prod.mk.injEq] at H
                      obtain ⟨rfl, rfl, rfl, rfl⟩ := H
                      have p254 : 0 ≤ (x11_2 : Int) := of_decide_eq_true (by first | (with_reducible assumption) | assumption)
                      have q254 : x11_2 < (t243.length : Int) := of_decide_eq_true (by first | (with_reducible assumption) | assumption)
                      obtain ⟨ad254, e254, hx254_0⟩ := Kd.at_string (Kd.R_reads' HO_4.out).2.2 x11_2 p254 q254
                      obtain rfl : ad247 = ad254 := (by injection e254)
                      replace p254 := eq_true p254
                      replace q254 := eq_true q254
                      go_wp2_with (first | ((with_reducible refine gtc (f := 38) rfl ?_); refine goesL_ (some 61) rfl rfl Tryd.func38 (by kernel_rfl) rfl #[.string (rdOf ByteArray.empty t243 x11_2)] rfl (by (try simp only [List.map_toArray, List.map_cons, List.map_nil]); first | done | rfl | (simp only [List.length_drop, List.length_take]; rfl)) ?_; (with_reducible refine (r01_Int.calls k2 (rdOf ByteArray.empty t243 x11_2) t255 t256 _ ?side1 A22.out).mono ?_); (case side1 => exact hG.below (by repeat (first | (with_reducible first | exact HB.out | apply pbA | apply pbN | apply pb1 | refine pbS ?_ GE242.out | refine pbS ?_ GE253.out) | exact HB.out))); rintro e w' ⟨rfl, ⟨nd, rfl⟩⟩; refine ⟨_, rfl, ?_⟩; (try (rw [drewN_self wr]; generalize hq_ : World.drewN wr _ = wr; have n0_ : Az (Kd.R k54 54 wr w.heap.size (fun _ => True) u254002 x254002_2) := ⟨by rw [← hq_]; exact (by (with_reducible repeat (first | apply Kd.R_alloc | apply Kd.R_drewN | apply Kd.R_drew)); exact HO_254002.out)⟩; have n1_ : Az (Kd.R Kd.string 9 wr w.heap.size (fun _ => True) (.slice (some ad247) t243.length co16) t243) := ⟨by rw [← hq_]; exact (by (with_reducible repeat (first | apply Kd.R_alloc | apply Kd.R_drewN | apply Kd.R_drew)); exact HO_4.out)⟩; have n2_ : Az (wr.heap[gb242]? = some (.cells #[.int .i64 x243000_2, .int .i64 x243001_2, .slice none 0 0] 24 (0, 0))) := ⟨by rw [← hq_]; exact (by (with_reducible repeat (first | refine bkN ?_ _ | refine bkD ?_ | refine bkA ?_ _)); exact BK242.out)⟩; have n3_ : Az (wr.heap[gb253]? = some (.cells #[.int .i64 t248, .int .i64 t251, u254002] 24 (0, 0))) := ⟨by rw [← hq_]; exact (by (with_reducible repeat (first | refine bkN ?_ _ | refine bkD ?_ | refine bkA ?_ _)); exact BK253.out)⟩; have n4_ : Az (Below w.heap.size w wr) := ⟨by rw [← hq_]; exact (by repeat (first | (with_reducible first | exact HB.out | apply pbA | apply pbN | apply pb1 | refine pbS ?_ GE242.out | refine pbS ?_ GE253.out) | exact HB.out))⟩; clear HO_254002 HO_4 BK242 BK253 HB hq_; have HO_254002 := n0_; have HO_4 := n1_; have BK242 := n2_; have BK253 := n3_; have HB := n4_; clear n0_ n1_ n2_ n3_ n4_)); have hnb32 := NB242_253.out; have hnc32 := NB253_242.out; have hcz33_0 : wr.cell? ⟨gb242, 0, none⟩ = some (.int .i64 x243000_2) := (bkC BK242.out 0).trans rfl; have hcz33_1 : wr.cell? ⟨gb242, 1, none⟩ = some (.int .i64 x243001_2) := (bkC BK242.out 1).trans rfl; have hcz33_2 : wr.cell? ⟨gb242, 2, none⟩ = some (.slice none 0 0) := (bkC BK242.out 2).trans rfl; have hfz33_0 := bkF BK242.out 0; have hfz33_1 := bkF BK242.out 1; have hfz33_2 := bkF BK242.out 2))
                      refine bodyPost_ret (results_ct rfl _ _ gb242 24 #[.int .i64 0, .int .i64 0, .slice none 0 0] (0, 0) _ rfl (by (with_reducible repeat (first | refine bkN ?_ _ | refine bkD ?_ | refine bkA ?_ _)); refine blk_put (cs := #[.int .i64 0, .int .i64 0, .slice none 0 0]) ?_ 2 _ rfl; (with_reducible repeat (first | refine bkN ?_ _ | refine bkD ?_ | refine bkA ?_ _)); refine blk_put (cs := #[.int .i64 0, .int .i64 x243001_2, .slice none 0 0]) ?_ 1 _ rfl; (with_reducible repeat (first | refine bkN ?_ _ | refine bkD ?_ | refine bkA ?_ _)); refine blk_put (cs := #[.int .i64 x243000_2, .int .i64 x243001_2, .slice none 0 0]) ?_ 0 _ rfl; (with_reducible repeat (first | refine bkN ?_ _ | refine bkD ?_ | refine bkA ?_ _)); exact BK242.out) Tryd.underlying24 rfl (by kernel_rfl)) rfl ?_
                      exact ⟨_, by first | rfl | (simp [errW_none, errW_some] <;> rfl) | (simp [*, errW_none, errW_some] <;> rfl), by first | exact Kd.R_nil _ _ _ _ _ | exact Kd.N_nil _ _ _ _ _ | exact Kd.V_nil _ _ _ _ _ | exact Kd.Q_nil _ _ _ _ _ | exact Kd.S_nil _ _ _ _ _, by repeat (first | (with_reducible first | exact HB.out | apply pbA | apply pbN | apply pb1 | refine pbS ?_ GE242.out | refine pbS ?_ GE253.out) | exact HB.out)⟩
                  · rw [if_neg c21] at H
                    exact absurd H (by simp)
                · rw [if_neg c20] at H
                  have c20b0 : decide (x11_2 < (t243.length : Int)) = false := decide_eq_false c20
                  clear c20
                  by_cases c34 : (wrap64 (t249 + t252)) = 0
                  · rw [if_pos c34] at H
                    have c34b0 : ((wrap64 (t249 + t252)) == 0) = true := beq_iff_eq.mpr c34
                    have c34b1 : ((wrap64 (t249 + t252)) != 0) = false := bne_eq_false_iff_eq.mpr c34
                    clear c34
                    replace H := Option.bind_eq_some_iff.mp H
                    obtain ⟨t261, A350, H⟩ := H
                    replace H : (if t261 = true then (some (t248, t251, x254002_2, 0)) else (some (0, 0, ([] : List (S54)), 110))) = some (r1, r2, r3, r4) := H
                    have A35 := Az.mk A350
                    clear A350
                    by_cases c36 : t261 = true
                    · subst c36
                      have H1 : (some (t248, t251, x254002_2, 0)) = some (r1, r2, r3, r4) := by rw [if_pos rfl] at H; exact H
                      clear H
                      have H := H1
                      clear H1
                      simp only [Option.some.injEq, Prod.mk.injEq] at H
                      obtain ⟨rfl, rfl, rfl, rfl⟩ := H
                      have hnb37 := NB253_242.out
                      have hnc37 := NB242_253.out
                      have hcz38_0 : wr.cell? ⟨gb253, 0, none⟩ = some (.int .i64 t248) := (bkC BK253.out 0).trans rfl
                      have hcz38_1 : wr.cell? ⟨gb253, 1, none⟩ = some (.int .i64 t251) := (bkC BK253.out 1).trans rfl
                      have hcz38_2 : wr.cell? ⟨gb253, 2, none⟩ = some (u254002) := (bkC BK253.out 2).trans rfl
                      have hfz38_0 := bkF BK253.out 0
                      have hfz38_1 := bkF BK253.out 1
                      have hfz38_2 := bkF BK253.out 2
                      obtain ⟨Ao39, co39, eo39⟩ := Kd.R_slice HO_254002.out
                      subst eo39
                      go_wp2_with (first | (go_at_call 14; (with_reducible refine (r11_Is.calls k2 t248 t251 _ _ x254002_2 true _ ?side1 ?side2 ?side3 A35.out).mono ?_); (case side1 => exact hG.below (by repeat (first | (with_reducible first | exact HB.out | apply pbA | apply pbN | apply pb1 | refine pbS ?_ GE242.out | refine pbS ?_ GE253.out) | exact HB.out))); (case side2 => repeat (first | exact (Kd.R_reads' HO_254002.out).2.2 | (with_reducible refine Kd.C_alloc ?_ _) | (with_reducible refine Kd.C_drewN ?_ _) | (with_reducible refine Kd.C_drew ?_))); (case side3 => exact (Kd.R_reads' HO_254002.out).2.1); rintro e w40 ⟨rfl, hb⟩; have n0_ := Az.mk (Kd.R_below (by (with_reducible repeat (first | apply Kd.R_alloc | apply Kd.R_drewN | apply Kd.R_drew)); exact HO_4.out) hb); have n1_ := Az.mk (Kd.R_below (by (with_reducible repeat (first | apply Kd.R_alloc | apply Kd.R_drewN | apply Kd.R_drew)); exact HO_254002.out) hb); have n2_ := Az.mk (bkB (g := gb242) (o := .cells #[.int .i64 x243000_2, .int .i64 x243001_2, .slice none 0 0] 24 (0, 0)) (by (with_reducible repeat (first | refine bkN ?_ _ | refine bkD ?_ | refine bkA ?_ _)); exact BK242.out) hb); have n3_ := Az.mk (bkB (g := gb253) (o := .cells #[.int .i64 t248, .int .i64 t251, .slice Ao39 x254002_2.length co39] 24 (0, 0)) (by (with_reducible repeat (first | refine bkN ?_ _ | refine bkD ?_ | refine bkA ?_ _)); exact BK253.out) hb); have n4_ := Az.mk (pbT (by repeat (first | (with_reducible first | exact HB.out | apply pbA | apply pbN | apply pb1 | refine pbS ?_ GE242.out | refine pbS ?_ GE253.out) | exact HB.out)) hb); clear HO_4; clear HO_254002; clear BK242; clear BK253; clear HB; have HO_4 := n0_; have HO_254002 := n1_; have BK242 := n2_; have BK253 := n3_; have HB := n4_; clear n0_ n1_ n2_ n3_ n4_; (try clear hb); (try clear hb2); (try clear hk); (try clear hi); have hcz41_0 : w40.cell? ⟨gb253, 0, none⟩ = some (.int .i64 t248) := (bkC BK253.out 0).trans rfl; have hcz41_1 : w40.cell? ⟨gb253, 1, none⟩ = some (.int .i64 t251) := (bkC BK253.out 1).trans rfl; have hcz41_2 : w40.cell? ⟨gb253, 2, none⟩ = some (.slice Ao39 x254002_2.length co39) := (bkC BK253.out 2).trans rfl; have hfz41_0 := bkF BK253.out 0; have hfz41_1 := bkF BK253.out 1; have hfz41_2 := bkF BK253.out 2; have hcz42_0 : w40.cell? ⟨gb242, 0, none⟩ = some (.int .i64 x243000_2) := (bkC BK242.out 0).trans rfl; have hcz42_1 : w40.cell? ⟨gb242, 1, none⟩ = some (.int .i64 x243001_2) := (bkC BK242.out 1).trans rfl; have hcz42_2 : w40.cell? ⟨gb242, 2, none⟩ = some (.slice none 0 0) := (bkC BK242.out 2).trans rfl; have hfz42_0 := bkF BK242.out 0; have hfz42_1 := bkF BK242.out 1; have hfz42_2 := bkF BK242.out 2))
                      refine bodyPost_ret (results_ct rfl _ _ gb242 24 #[.int .i64 t248, .int .i64 t251, .slice Ao39 x254002_2.length co39] (0, 0) _ rfl (by (with_reducible repeat (first | refine bkN ?_ _ | refine bkD ?_ | refine bkA ?_ _)); refine blk_put (cs := #[.int .i64 t248, .int .i64 t251, .slice none 0 0]) ?_ 2 _ rfl; (with_reducible repeat (first | refine bkN ?_ _ | refine bkD ?_ | refine bkA ?_ _)); refine blk_put (cs := #[.int .i64 t248, .int .i64 x243001_2, .slice none 0 0]) ?_ 1 _ rfl; (with_reducible repeat (first | refine bkN ?_ _ | refine bkD ?_ | refine bkA ?_ _)); refine blk_put (cs := #[.int .i64 x243000_2, .int .i64 x243001_2, .slice none 0 0]) ?_ 0 _ rfl; (with_reducible repeat (first | refine bkN ?_ _ | refine bkD ?_ | refine bkA ?_ _)); exact BK242.out) Tryd.underlying24 rfl (by kernel_rfl)) rfl ?_
                      exact ⟨_, by first | rfl | (simp [errW_none, errW_some] <;> rfl) | (simp [*, errW_none, errW_some] <;> rfl), by (with_reducible repeat (first | apply Kd.R_alloc | apply Kd.R_drewN | apply Kd.R_drew)); exact Kd.R_mono (Kd.R_far (p := ⟨gb242, 2, none⟩) (Kd.R_far (p := ⟨gb242, 1, none⟩) (Kd.R_far (p := ⟨gb242, 0, none⟩) (Kd.R_types HO_254002.out BK242.out (by decide)) (fun _ hk => hk.2) (.int .i64 t248)) (fun _ hk => hk.2) (.int .i64 t251)) (fun _ hk => hk.2) (.slice Ao39 x254002_2.length co39)) (fun _ hk => trivial), by repeat (first | (with_reducible first | exact HB.out | apply pbA | apply pbN | apply pb1 | refine pbS ?_ GE242.out | refine pbS ?_ GE253.out) | exact HB.out)⟩
                    · replace c36 := Bool.eq_false_iff.mpr c36
                      subst c36
                      have H1 : (some (0, 0, ([] : List (S54)), 110)) = some (r1, r2, r3, r4) := by rw [if_neg (show ¬ (false = true) by decide)] at H; exact H
                      clear H
                      have H := H1
                      clear H1
                      simp only [Option.some.injEq, Prod.mk.injEq] at H
                      obtain ⟨rfl, rfl, rfl, rfl⟩ := H
                      have hnb43 := NB253_242.out
                      have hnc43 := NB242_253.out
                      have hcz44_0 : wr.cell? ⟨gb253, 0, none⟩ = some (.int .i64 t248) := (bkC BK253.out 0).trans rfl
                      have hcz44_1 : wr.cell? ⟨gb253, 1, none⟩ = some (.int .i64 t251) := (bkC BK253.out 1).trans rfl
                      have hcz44_2 : wr.cell? ⟨gb253, 2, none⟩ = some (u254002) := (bkC BK253.out 2).trans rfl
                      have hfz44_0 := bkF BK253.out 0
                      have hfz44_1 := bkF BK253.out 1
                      have hfz44_2 := bkF BK253.out 2
                      obtain ⟨Ao45, co45, eo45⟩ := Kd.R_slice HO_254002.out
                      subst eo45
                      go_wp2_with (first | (go_at_call 14; (with_reducible refine (r11_Is.calls k2 t248 t251 _ _ x254002_2 false _ ?side1 ?side2 ?side3 A35.out).mono ?_); (case side1 => exact hG.below (by repeat (first | (with_reducible first | exact HB.out | apply pbA | apply pbN | apply pb1 | refine pbS ?_ GE242.out | refine pbS ?_ GE253.out) | exact HB.out))); (case side2 => repeat (first | exact (Kd.R_reads' HO_254002.out).2.2 | (with_reducible refine Kd.C_alloc ?_ _) | (with_reducible refine Kd.C_drewN ?_ _) | (with_reducible refine Kd.C_drew ?_))); (case side3 => exact (Kd.R_reads' HO_254002.out).2.1); rintro e w46 ⟨rfl, hb⟩; have n0_ := Az.mk (Kd.R_below (by (with_reducible repeat (first | apply Kd.R_alloc | apply Kd.R_drewN | apply Kd.R_drew)); exact HO_4.out) hb); have n1_ := Az.mk (Kd.R_below (by (with_reducible repeat (first | apply Kd.R_alloc | apply Kd.R_drewN | apply Kd.R_drew)); exact HO_254002.out) hb); have n2_ := Az.mk (bkB (g := gb242) (o := .cells #[.int .i64 x243000_2, .int .i64 x243001_2, .slice none 0 0] 24 (0, 0)) (by (with_reducible repeat (first | refine bkN ?_ _ | refine bkD ?_ | refine bkA ?_ _)); exact BK242.out) hb); have n3_ := Az.mk (bkB (g := gb253) (o := .cells #[.int .i64 t248, .int .i64 t251, .slice Ao45 x254002_2.length co45] 24 (0, 0)) (by (with_reducible repeat (first | refine bkN ?_ _ | refine bkD ?_ | refine bkA ?_ _)); exact BK253.out) hb); have n4_ := Az.mk (pbT (by repeat (first | (with_reducible first | exact HB.out | apply pbA | apply pbN | apply pb1 | refine pbS ?_ GE242.out | refine pbS ?_ GE253.out) | exact HB.out)) hb); clear HO_4; clear HO_254002; clear BK242; clear BK253; clear HB; have HO_4 := n0_; have HO_254002 := n1_; have BK242 := n2_; have BK253 := n3_; have HB := n4_; clear n0_ n1_ n2_ n3_ n4_; (try clear hb); (try clear hb2); (try clear hk); (try clear hi); have hcz47_0 : w46.cell? ⟨gb242, 0, none⟩ = some (.int .i64 x243000_2) := (bkC BK242.out 0).trans rfl; have hcz47_1 : w46.cell? ⟨gb242, 1, none⟩ = some (.int .i64 x243001_2) := (bkC BK242.out 1).trans rfl; have hcz47_2 : w46.cell? ⟨gb242, 2, none⟩ = some (.slice none 0 0) := (bkC BK242.out 2).trans rfl; have hfz47_0 := bkF BK242.out 0; have hfz47_1 := bkF BK242.out 1; have hfz47_2 := bkF BK242.out 2))
                      refine bodyPost_ret (results_ct rfl _ _ gb242 24 #[.int .i64 0, .int .i64 0, .slice none 0 0] (0, 0) _ rfl (by (with_reducible repeat (first | refine bkN ?_ _ | refine bkD ?_ | refine bkA ?_ _)); refine blk_put (cs := #[.int .i64 0, .int .i64 0, .slice none 0 0]) ?_ 2 _ rfl; (with_reducible repeat (first | refine bkN ?_ _ | refine bkD ?_ | refine bkA ?_ _)); refine blk_put (cs := #[.int .i64 0, .int .i64 x243001_2, .slice none 0 0]) ?_ 1 _ rfl; (with_reducible repeat (first | refine bkN ?_ _ | refine bkD ?_ | refine bkA ?_ _)); refine blk_put (cs := #[.int .i64 x243000_2, .int .i64 x243001_2, .slice none 0 0]) ?_ 0 _ rfl; (with_reducible repeat (first | refine bkN ?_ _ | refine bkD ?_ | refine bkA ?_ _)); exact BK242.out) Tryd.underlying24 rfl (by kernel_rfl)) rfl ?_
                      exact ⟨_, by first | rfl | (simp [errW_none, errW_some] <;> rfl) | (simp [*, errW_none, errW_some] <;> rfl), by first | exact Kd.R_nil _ _ _ _ _ | exact Kd.N_nil _ _ _ _ _ | exact Kd.V_nil _ _ _ _ _ | exact Kd.Q_nil _ _ _ _ _ | exact Kd.S_nil _ _ _ _ _, by repeat (first | (with_reducible first | exact HB.out | apply pbA | apply pbN | apply pb1 | refine pbS ?_ GE242.out | refine pbS ?_ GE253.out) | exact HB.out)⟩
                  · rw [if_neg c34] at H
                    have c34b0 : ((wrap64 (t249 + t252)) == 0) = false := beq_eq_false_iff_ne.mpr c34
                    have c34b1 : ((wrap64 (t249 + t252)) != 0) = true := bne_iff_ne.mpr c34
                    simp only [Option.some.injEq, Prod.mk.injEq] at H
                    obtain ⟨rfl, rfl, rfl, rfl⟩ := H
                    have hnb48 := NB242_253.out
                    have hnc48 := NB253_242.out
                    have hcz49_0 : wr.cell? ⟨gb242, 0, none⟩ = some (.int .i64 x243000_2) := (bkC BK242.out 0).trans rfl
                    have hcz49_1 : wr.cell? ⟨gb242, 1, none⟩ = some (.int .i64 x243001_2) := (bkC BK242.out 1).trans rfl
                    have hcz49_2 : wr.cell? ⟨gb242, 2, none⟩ = some (.slice none 0 0) := (bkC BK242.out 2).trans rfl
                    have hfz49_0 := bkF BK242.out 0
                    have hfz49_1 := bkF BK242.out 1
                    have hfz49_2 := bkF BK242.out 2
                    go_wp2
                    refine bodyPost_ret (results_ct rfl _ _ gb242 24 #[.int .i64 0, .int .i64 0, .slice none 0 0] (0, 0) _ rfl (by (with_reducible repeat (first | refine bkN ?_ _ | refine bkD ?_ | refine bkA ?_ _)); refine blk_put (cs := #[.int .i64 0, .int .i64 0, .slice none 0 0]) ?_ 2 _ rfl; (with_reducible repeat (first | refine bkN ?_ _ | refine bkD ?_ | refine bkA ?_ _)); refine blk_put (cs := #[.int .i64 0, .int .i64 x243001_2, .slice none 0 0]) ?_ 1 _ rfl; (with_reducible repeat (first | refine bkN ?_ _ | refine bkD ?_ | refine bkA ?_ _)); refine blk_put (cs := #[.int .i64 x243000_2, .int .i64 x243001_2, .slice none 0 0]) ?_ 0 _ rfl; (with_reducible repeat (first | refine bkN ?_ _ | refine bkD ?_ | refine bkA ?_ _)); exact BK242.out) Tryd.underlying24 rfl (by kernel_rfl)) rfl ?_
                    exact ⟨_, by first | rfl | (simp [errW_none, errW_some] <;> rfl) | (simp [*, errW_none, errW_some] <;> rfl), by first | exact Kd.R_nil _ _ _ _ _ | exact Kd.N_nil _ _ _ _ _ | exact Kd.V_nil _ _ _ _ _ | exact Kd.Q_nil _ _ _ _ _ | exact Kd.S_nil _ _ _ _ _, by repeat (first | (with_reducible first | exact HB.out | apply pbA | apply pbN | apply pb1 | refine pbS ?_ GE242.out | refine pbS ?_ GE253.out) | exact HB.out)⟩
          · rw [if_neg c14] at H
            exact absurd H (by simp)
        · rw [if_neg c12] at H
          exact absurd H (by simp)
end Go.Proofs.YtjpihfjgomoijaaDoor.P
end
section
/- roll: Parse and the reference's, told plainly. -/
namespace Go.Proofs.YtjpihfjgomoijaaDoor.V
open Go.RowKit Go.Proofs.YtjpihfjgomoijaaDoorW.PrintWords Go.Proofs.YtjpihfjgomoijaaDoorW.PrintLast Go.Proofs.YtjpihfjgomoijaaDoorW.PrintMore Go.Proofs.YtjpihfjgomoijaaDoor.P Go.Proofs.YtjpihfjgomoijaaDoor.K Go.Proofs.YtjpihfjgomoijaaDoor.A
/-- Texts by twos: terms and texts. -/
def pairs : List (List UInt8) → Option (List S54)
  | a :: b :: r => match pz a with | some n => (pairs r).map (⟨n, B b⟩ :: ·) | none => none
  | _ => some []
def badR : Int × Int × List S54 × Int := (0, 0, [], 110)
def finR (b bt : Int) (es : List S54) : Int × Int × List S54 × Int := if okR b bt es = true then (b, bt, es, 0) else badR
def parseL : List (List UInt8) → Int × Int × List S54 × Int
  | a :: b :: r => if r.length % 2 = 1 then badR else match pz a, pz b, pairs r with | some n, some t, some es => finR n t es | _, _, _ => badR
  | _ => badR
def parseR (s : ByteArray) : Int × Int × List S54 × Int := match untieL s.data.toList with | some ss => parseL ss | none => badR
theorem rd_B {ss : List (List UInt8)} {i : Nat} {x : List UInt8} (h : ss[i]? = some x) : rdOf ByteArray.empty (ss.map B) (i : Int) = B x := by
  simp [rdOf, h]
theorem intB (x : List UInt8) (h : x.length ≤ 1048576) : knot_Int.f (B x) = some (intA (pz x)) := by
  rw [int_eq (by rw [B_size]; omega), B_data]; rfl
theorem intA_some {x : List UInt8} {n : Int} (h : pz x = some n) : intA (pz x) = (n, 0) := by rw [h]; rfl
theorem intA_none {x : List UInt8} (h : pz x = none) : intA (pz x) = (0, 10) := by rw [h]; rfl
theorem parse_loop (ss : List (List UInt8)) (hs : ∀ x ∈ ss, x.length ≤ 1048576) (hn : ss.length ≤ 4096) (b bt : Int) (hb : isI b) (n : Nat) : ∀ (i : Nat) (es : List S54), ss.length - i = n → 2 ≤ i → i ≤ ss.length → (ss.drop i).length % 2 = 0 → es.length ≤ i →
    Ev (fun k => roll_Parse.l0 k (ss.map B) (i : Int) b bt es) (match pairs (ss.drop i) with | some r => finR b bt (es ++ r) | none => badR) := by
  induction n using Nat.strongRecOn with
  | _ n ih =>
  intro i es hd h2 hi hev hes
  refine Ev.shift ?_
  by_cases he : i = ss.length
  · subst he
    rw [List.drop_length]
    simp only [roll_Parse.l0, List.length_map, if_neg (Int.lt_irrefl _), pairs, List.append_nil]
    refine Ev.bind (check_ev b bt es (by omega) hb) ?_
    unfold finR
    by_cases ho : okR b bt es = true
    · rw [if_pos ho, if_pos ho]; exact Ev.ite (fun _ => Ev.now _) (fun h => absurd rfl h)
    · rw [if_neg ho, if_neg ho]; exact Ev.ite (fun h => absurd h (by decide)) (fun _ => Ev.now _)
  · have hlt : i < ss.length := by omega
    have hlt2 : i + 1 < ss.length := by rw [List.length_drop] at hev; omega
    have hdrop : ss.drop i = ss[i] :: ss[i + 1] :: ss.drop (i + 2) := by rw [List.drop_eq_getElem_cons hlt, List.drop_eq_getElem_cons hlt2]
    have hr1 := rd_B (List.getElem?_eq_getElem hlt)
    have hr2 := rd_B (List.getElem?_eq_getElem hlt2)
    have hev2 : (ss.drop (i + 2)).length % 2 = 0 := by rw [List.length_drop] at hev ⊢; omega
    have hpos : (i : Int) > 0 := by omega
    have hroom : es.length < 5864062014805 := by omega
    have g1 : ss.length - (i + 2) < n := by omega
    have g2 : 2 ≤ i + 2 := by omega
    have g3 : i + 2 ≤ ss.length := by omega
    have g4 : ∀ x : S54, (es ++ [x]).length ≤ i + 2 := by intro x; rw [List.length_append]; simp only [List.length_cons, List.length_nil]; omega
    have g5 : i ≤ 9223372036854775805 := by omega
    have hw : wrap64 ((i : Int) + 1) = ((i + 1 : Nat) : Int) := wrap_nat (Nat.le_succ_of_le g5)
    have hw2 : wrap64 ((i : Int) + 2) = ((i + 2 : Nat) : Int) := wrap_nat2 g5
    have hI := intB _ (hs _ (List.getElem_mem hlt))
    rw [hdrop]
    simp only [roll_Parse.l0, List.length_map, if_pos (lt_cast hlt), if_pos (nn i), hr1, hI, Option.bind_some, pairs]
    cases hp : pz ss[i] with
    | none => exact Ev.ite (fun h => absurd h (by decide)) (fun _ => Ev.now _)
    | some m =>
      simp only [intA, if_true, if_pos hpos, hw, if_pos (nn (i + 1)), if_pos (lt_cast hlt2), if_pos hroom, hw2, hr2]
      have := ih (ss.length - (i + 2)) g1 (i + 2) (es ++ [⟨m, B ss[i + 1]⟩]) rfl g2 g3 hev2 (g4 _)
      cases hq : pairs (ss.drop (i + 2)) with
      | none => rw [hq] at this; exact this
      | some r =>
        rw [hq] at this
        simp only [List.append_assoc, List.cons_append, List.nil_append] at this
        exact this
theorem parse_ev (s : ByteArray) : Ev (fun k => roll_Parse.f k s) (parseR s) := by
  have hbad : ∀ l, Ev (fun k => roll_Parse.j0 k l true 0 0) badR := by
    intro l
    refine Ev.shift ?_
    simp only [roll_Parse.j0, if_true]
    exact Ev.now _
  refine Ev.bind (untie_ev s) ?_
  unfold untieR parseR
  cases hu : untieL s.data.toList with
  | none => exact Ev.ite (fun h => absurd h (by decide)) (fun _ => hbad _)
  | some ss =>
    obtain ⟨h1, h2, h3⟩ := untieL_some hu
    have hs : ∀ x ∈ ss, x.length ≤ 1048576 := by
      intro x hx
      have := tie_mem hx
      rw [← h1] at this
      omega
    simp only [List.length_map]
    refine Ev.ite (fun _ => ?_) (fun h => absurd trivial h)
    rcases ss with _ | ⟨a, _ | ⟨b, r⟩⟩
    · exact Ev.ite (fun _ => hbad _) (fun h => absurd (by decide) h)
    · exact Ev.ite (fun _ => hbad _) (fun h => absurd (by simp only [List.length_cons, List.length_nil]; omega) h)
    · refine Ev.ite (fun h => absurd h (by simp only [List.length_cons]; omega)) (fun _ => ?_)
      by_cases hodd : r.length % 2 = 1
      · have e : ((((a :: b :: r).length : Int) % 2) == 1) = true := by rw [beq_iff_eq]; simp only [List.length_cons]; omega
        rw [e]
        simp only [parseL, if_pos hodd]
        exact hbad _
      · have e : ((((a :: b :: r).length : Int) % 2) == 1) = false := by rw [beq_eq_false_iff_ne]; simp only [List.length_cons]; omega
        rw [e]
        simp only [parseL, if_neg hodd]
        refine Ev.shift ?_
        simp only [roll_Parse.j0]
        refine Ev.ite (fun h => absurd h (by simp)) (fun _ => ?_)
        refine Ev.shift ?_
        have hr0 := rd_B (ss := a :: b :: r) (i := 0) (x := a) rfl
        have hr1 := rd_B (ss := a :: b :: r) (i := 1) (x := b) rfl
        have hI0 := intB a (hs a (by simp))
        have hI1 := intB b (hs b (by simp))
        have hc1 : (0 : Int) < (((a :: b :: r).map B).length : Int) := by rw [List.length_map]; simp only [List.length_cons]; omega
        have hc2 : (1 : Int) < (((a :: b :: r).map B).length : Int) := by rw [List.length_map]; simp only [List.length_cons]; omega
        have hw : wrap64 ((0 : Int) + 2) = ((2 : Nat) : Int) := by rw [wrap_in (by omega) (by omega)]; rfl
        have hr0' : rdOf ByteArray.empty ((a :: b :: r).map B) 0 = B a := hr0
        have hr1' : rdOf ByteArray.empty ((a :: b :: r).map B) 1 = B b := hr1
        simp only [roll_Parse.l0, if_pos hc1, if_pos (Int.le_refl 0), hr0', hI0, Option.bind_some]
        cases hp : pz a with
        | none => exact Ev.ite (fun h => absurd h (by decide)) (fun _ => Ev.now _)
        | some n =>
          simp only [intA, if_true]
          refine Ev.ite (fun h => absurd h (by decide)) (fun _ => ?_)
          simp only [if_pos hc2, hr1', hI1, Option.bind_some]
          cases hq : pz b with
          | none => exact Ev.ite (fun h => absurd h (by decide)) (fun _ => Ev.now _)
          | some t =>
            simp only [intA, if_true, hw]
            have := parse_loop (a :: b :: r) hs h2 n t (pz_isI hp) _ 2 [] rfl (Nat.le_refl _) (by simp) (by simp; omega) (by simp)
            simp only [List.drop_succ_cons, List.drop_zero, List.nil_append] at this
            cases hz : pairs r with
            | none => rw [hz] at this; exact this
            | some es => rw [hz] at this; exact this
theorem rparse_loop (ss : List (List UInt8)) (hn : ss.length ≤ 4096) (f g b bt : Int) (hf : f = 0 ∨ f = 10) (hg : g = 0 ∨ g = 10) (n : Nat) : ∀ (i : Nat) (es : List S54), ss.length - i = n → 2 ≤ i → i ≤ ss.length → (ss.drop i).length % 2 = 0 → es.length ≤ i →
    Ev (fun k => r11_Parse.l0 k (ss.map B) f g (i : Int) b bt es) (match pairs (ss.drop i) with | some r => if f = 0 ∧ g = 0 then finR b bt (es ++ r) else badR | none => badR) := by
  induction n using Nat.strongRecOn with
  | _ n ih =>
  intro i es hd h2 hi hev hes
  refine Ev.shift ?_
  by_cases he : i = ss.length
  · subst he
    rw [List.drop_length]
    simp only [r11_Parse.l0, List.length_map, if_neg (Int.lt_irrefl _), pairs, List.append_nil]
    by_cases hfg : f = 0 ∧ g = 0
    · obtain ⟨rfl, rfl⟩ := hfg
      refine Ev.ite (fun _ => ?_) (fun h => absurd (by rw [wrap_in (by omega) (by omega)]; rfl) h)
      refine Ev.bind (is_ev b bt es (by omega)) ?_
      unfold finR
      simp only [and_self, if_true]
      exact Ev.ite (fun ho => by rw [if_pos ho]; exact Ev.now _) (fun ho => by rw [if_neg ho]; exact Ev.now _)
    · rw [if_neg hfg]
      refine Ev.ite (fun h => ?_) (fun _ => Ev.now _)
      rw [wrap_in (by omega) (by omega)] at h
      omega
  · have hlt : i < ss.length := by omega
    have hlt2 : i + 1 < ss.length := by rw [List.length_drop] at hev; omega
    have hdrop : ss.drop i = ss[i] :: ss[i + 1] :: ss.drop (i + 2) := by rw [List.drop_eq_getElem_cons hlt, List.drop_eq_getElem_cons hlt2]
    have hr1 := rd_B (List.getElem?_eq_getElem hlt)
    have hr2 := rd_B (List.getElem?_eq_getElem hlt2)
    have hev2 : (ss.drop (i + 2)).length % 2 = 0 := by rw [List.length_drop] at hev ⊢; omega
    have hroom : es.length < 5864062014805 := by omega
    have g1 : ss.length - (i + 2) < n := by omega
    have g2 : 2 ≤ i + 2 := by omega
    have g3 : i + 2 ≤ ss.length := by omega
    have g4 : ∀ x : S54, (es ++ [x]).length ≤ i + 2 := by intro x; rw [List.length_append]; simp only [List.length_cons, List.length_nil]; omega
    have g5 : i ≤ 9223372036854775805 := by omega
    have hw : wrap64 ((i : Int) + 1) = ((i + 1 : Nat) : Int) := wrap_nat (Nat.le_succ_of_le g5)
    have hw2 : wrap64 ((i : Int) + 2) = ((i + 2 : Nat) : Int) := wrap_nat2 g5
    rw [hdrop]
    simp only [r11_Parse.l0, List.length_map, if_pos (lt_cast hlt), if_pos (nn i), hr1, pairs]
    refine Ev.bind (rint_ev _) ?_
    rw [B_data]
    cases hp : pz ss[i] with
    | none => exact Ev.ite (fun h => absurd h (by decide)) (fun _ => Ev.now _)
    | some m =>
      simp only [intA, if_true, hw, if_pos (nn (i + 1)), if_pos (lt_cast hlt2), if_pos hroom, hw2, hr2]
      have := ih (ss.length - (i + 2)) g1 (i + 2) (es ++ [⟨m, B ss[i + 1]⟩]) rfl g2 g3 hev2 (g4 _)
      cases hq : pairs (ss.drop (i + 2)) with
      | none => rw [hq] at this; exact this
      | some r =>
        rw [hq] at this
        simp only [List.append_assoc, List.cons_append, List.nil_append] at this
        exact this
theorem intA_snd (o : Option Int) : (intA o).2 = 0 ∨ (intA o).2 = 10 := by cases o <;> simp [intA]
theorem rparse_ev (s : ByteArray) : Ev (fun k => r11_Parse.f k s) (parseR s) := by
  have hbad : ∀ l, Ev (fun k => r11_Parse.j0 k l true) badR := by
    intro l
    refine Ev.shift ?_
    simp only [r11_Parse.j0, if_true]
    exact Ev.now _
  refine Ev.bind (runtie_ev s) ?_
  unfold untieR parseR
  cases hu : untieL s.data.toList with
  | none => exact Ev.ite (fun h => absurd h (by decide)) (fun _ => hbad _)
  | some ss =>
    obtain ⟨h1, h2, h3⟩ := untieL_some hu
    simp only [List.length_map]
    refine Ev.ite (fun _ => ?_) (fun h => absurd trivial h)
    rcases ss with _ | ⟨a, _ | ⟨b, r⟩⟩
    · exact Ev.ite (fun _ => hbad _) (fun h => absurd (by decide) h)
    · exact Ev.ite (fun _ => hbad _) (fun h => absurd (by simp only [List.length_cons, List.length_nil]; omega) h)
    · refine Ev.ite (fun h => absurd h (by simp only [List.length_cons]; omega)) (fun _ => ?_)
      by_cases hodd : r.length % 2 = 1
      · have e : ((((a :: b :: r).length : Int) % 2) == 1) = true := by rw [beq_iff_eq]; simp only [List.length_cons]; omega
        rw [e]
        simp only [parseL, if_pos hodd]
        exact hbad _
      · have e : ((((a :: b :: r).length : Int) % 2) == 1) = false := by rw [beq_eq_false_iff_ne]; simp only [List.length_cons]; omega
        rw [e]
        simp only [parseL, if_neg hodd]
        refine Ev.shift ?_
        have hr0' : rdOf ByteArray.empty ((a :: b :: r).map B) 0 = B a := rd_B (ss := a :: b :: r) (i := 0) (x := a) rfl
        have hr1' : rdOf ByteArray.empty ((a :: b :: r).map B) 1 = B b := rd_B (ss := a :: b :: r) (i := 1) (x := b) rfl
        have hc1 : (0 : Int) < (((a :: b :: r).map B).length : Int) := by rw [List.length_map]; simp only [List.length_cons]; omega
        have hc2 : (1 : Int) < (((a :: b :: r).map B).length : Int) := by rw [List.length_map]; simp only [List.length_cons]; omega
        simp only [r11_Parse.j0, if_pos hc1, if_pos hc2, hr0', hr1']
        refine Ev.ite (fun h => absurd h (by simp)) (fun _ => ?_)
        refine Ev.bind (rint_ev _) (Ev.bind (rint_ev _) ?_)
        rw [B_data, B_data]
        have := rparse_loop (a :: b :: r) h2 (intA (pz a)).2 (intA (pz b)).2 (intA (pz a)).1 (intA (pz b)).1 (intA_snd _) (intA_snd _) _ 2 [] rfl (Nat.le_refl _) (by simp) (by simp; omega) (by simp)
        simp only [List.drop_succ_cons, List.drop_zero, List.nil_append] at this
        generalize pz a = oa at this ⊢
        generalize pz b = ob at this ⊢
        generalize pairs r = oc at this ⊢
        cases oa <;> cases ob <;> cases oc <;> exact this
end Go.Proofs.YtjpihfjgomoijaaDoor.V
end
section
-- Written by a program of this session (wip/tools/pr.py), over the kit's printer; functions named in the texts imported below are given by hand.
namespace Go.Proofs.YtjpihfjgomoijaaDoor.P
open Go.RowKit Go.Proofs.YtjpihfjgomoijaaDoor.K Go.Proofs.YtjpihfjgomoijaaDoorW.PrintWords Go.Proofs.YtjpihfjgomoijaaDoorW.PrintLast Go.Proofs.YtjpihfjgomoijaaDoorW.PrintMore
attribute [local go_sem] max2_int min2_int max_two min_two max_three min_three max_four min_four   -- for this text's walks alone
/-! ### l11_num: function 12 -/
def l11_num.f (a0 : Int) : Option (Int) := some a0
set_option maxHeartbeats 8000000 in
set_option maxRecDepth 100000 in
theorem l11_num.calls (a0 : Int) (r : Int) (w : World) (hG : TheG w) (h : l11_num.f a0 = some r) :
    Calls Tryd.prog 12 #[.int .i64 a0] w fun e w' => e = .returned (.int .i64 r) ∧ Drawn0 w w' := by
  have H : (some a0) = some r := h
  clear h
  obtain rfl := Option.some.inj H
  go_enter Tryd.func12, Tryd.ntmps12
  go_wp2
  go_ret
  exact ⟨by first | rfl | (simp; done) | (simp [*]; done), by repeat (first | exact Drawn0.refl _ | apply Drawn0.step)⟩
end Go.Proofs.YtjpihfjgomoijaaDoor.P
end
section
-- Written by a program of this session (wip/tools/pr.py), over the kit's printer; functions named in the texts imported below are given by hand.
namespace Go.Proofs.YtjpihfjgomoijaaDoor.P
open Go.RowKit Go.Proofs.YtjpihfjgomoijaaDoor.K Go.Proofs.YtjpihfjgomoijaaDoorW.PrintWords Go.Proofs.YtjpihfjgomoijaaDoorW.PrintLast Go.Proofs.YtjpihfjgomoijaaDoorW.PrintMore
attribute [local go_sem] max2_int min2_int max_two min_two max_three min_three max_four min_four   -- for this text's walks alone
/-! ### roll_Term: function 24 -/
def roll_Term.j0 : Nat → Int → Bool → Int → Int → List (S54) → Option (Int × Bool)
  | 0, _, _, _, _, _ => none
  | k + 1, x1, x6, x158000, x158001, x158002 => if x6 = true then (some (0, false)) else (if x1 = x158000 then (some (x158001, true)) else (if 0 ≤ (wrap64 ((wrap64 (x1 - x158000)) - 1)) then (if (wrap64 ((wrap64 (x1 - x158000)) - 1)) < (x158002.length : Int) then (some ((rd_T54 x158002 (wrap64 ((wrap64 (x1 - x158000)) - 1))).f0, true)) else (none)) else (none)))
def roll_Term.f (k : Nat) (a0_0 : Int) (a0_1 : Int) (l0_2 : List (S54)) (a1 : Int) : Option (Int × Bool) := if a1 < a0_0 then (roll_Term.j0 k a1 true a0_0 a0_1 l0_2) else (roll_Term.j0 k a1 (decide ((wrap64 (a1 - a0_0)) > (l0_2.length : Int))) a0_0 a0_1 l0_2)
theorem roll_Term.mono_l : ∀ k, (∀ y0 y1 y2 y3 y4, LeO (roll_Term.j0 k y0 y1 y2 y3 y4) (roll_Term.j0 (k + 1) y0 y1 y2 y3 y4))
  | 0 => fun _ _ _ _ _ r h => by simp [roll_Term.j0] at h
  | k + 1 => by
    have ih0 := roll_Term.mono_l k
    · intro y0 y1 y2 y3 y4
      unfold roll_Term.j0
      repeat' first
      | (with_reducible exact ih0 _ _ _ _ _)
      | (with_reducible exact LeO.refl _)
      | (with_reducible exact LeO.none _)
      | (with_reducible refine LeO.ite ?_ ?_)
      | (with_reducible refine LeO.bind ?_ (fun _ => ?_))
      | exact ih0 _ _ _ _ _
      | exact LeO.none _
      | refine LeO.ite ?_ ?_
      | refine LeO.bind ?_ (fun _ => ?_)
theorem roll_Term.mono : ∀ a0 a1 a2 a3 k, LeO (roll_Term.f k a0 a1 a2 a3) (roll_Term.f (k + 1) a0 a1 a2 a3) := by
  intro a0 a1 a2 a3 k
  have ih0 := roll_Term.mono_l k
  unfold roll_Term.f
  repeat' first
      | (with_reducible exact ih0 _ _ _ _ _)
      | (with_reducible exact LeO.refl _)
      | (with_reducible exact LeO.none _)
      | (with_reducible refine LeO.ite ?_ ?_)
      | (with_reducible refine LeO.bind ?_ (fun _ => ?_))
      | exact ih0 _ _ _ _ _
      | exact LeO.none _
      | refine LeO.ite ?_ ?_
      | refine LeO.bind ?_ (fun _ => ?_)
set_option maxHeartbeats 8000000 in
set_option maxRecDepth 100000 in
theorem roll_Term.calls (k : Nat) (a0_0 : Int) (a0_1 : Int) (A0_2 : Option Addr) (c0_2 : Nat) (l0_2 : List (S54)) (a1 : Int) (r1 : Int) (r2 : Bool) (w : World) (hG : TheG w) (hr0_2 : Kd.C k54 w A0_2 l0_2.length l0_2) (hc0_2 : l0_2.length ≤ c0_2) (h : roll_Term.f k a0_0 a0_1 l0_2 a1 = some (r1, r2)) :
    Calls Tryd.prog 24 #[.agg #[.int .i64 a0_0, .int .i64 a0_1, .slice A0_2 l0_2.length c0_2], .int .i64 a1] w fun e w' => e = .returned (.tuple #[.int .i64 r1, .bool r2]) ∧ Below w.heap.size w w' := by
  have hu24 := Tryd.underlying24
  have HR0_2 := Az.mk hr0_2
  have HC0_2 := Az.mk hc0_2
  clear hr0_2 hc0_2
  have HB := Az.mk (Below.refl w.heap.size w)
  have H : (if a1 < a0_0 then (roll_Term.j0 k a1 true a0_0 a0_1 l0_2) else (roll_Term.j0 k a1 (decide ((wrap64 (a1 - a0_0)) > (l0_2.length : Int))) a0_0 a0_1 l0_2)) = some (r1, r2) := h
  clear h
  have HC3 := Az.mk H
  clear H
  go_enter Tryd.func24, Tryd.ntmps24
  go_upto_region 1 with (first | ((with_reducible refine gate_dst (N := 2) rfl ?_); (try (refine gate_guard (by rfl) ?_; dsimp only)); refine box_event ?hg (N := 2) ?hd (cs := #[.int .i64 a0_0, .int .i64 a0_1, .slice A0_2 l0_2.length c0_2]) (t := 24) ?hr ?_; (case hd => rfl); (case hg => rfl); (case hr => first | (go_simp; done) | (go_simp; rfl)); intro gb157 hg w4 hbox hb; have n0_ := Az.mk (pbT (by repeat (first | (with_reducible first | exact HB.out | apply pbA | apply pbN | apply pb1) | exact HB.out)) hb); have n1_ := Az.mk (hbox); have n2_ := Az.mk ((by rw [hg]; exact (pbZ (by repeat (first | (with_reducible first | exact HB.out | apply pbA | apply pbN | apply pb1) | exact HB.out))) : w.heap.size ≤ gb157)); have n3_ := Az.mk ((by rw [hg]; exact (pbZ (by repeat (first | (with_reducible first | exact HB.out | apply pbA | apply pbN | apply pb1) | exact HB.out))) : w.heap.size ≤ gb157)); clear HB; have HB := n0_; have BK157 := n1_; have GW157 := n2_; have GE157 := n3_; clear n0_ n1_ n2_ n3_; clear hb hbox hg))
  (try simp only [Act.put, List.setIfInBounds_toArray, List.set_cons_zero, List.set_cons_succ])
  go_cut [6] (fun v6 wc => ∃ (kq : Nat) (x6_2 : Bool), v6 = .bool x6_2 ∧ Az (roll_Term.j0 kq a1 x6_2 a0_0 a0_1 l0_2 = some (r1, r2)) ∧ Az (kq ≤ k) ∧ Az (wc.heap[gb157]? = some (.cells #[.int .i64 a0_0, .int .i64 a0_1, (.slice A0_2 l0_2.length c0_2)] 24 (0, 0))) ∧ Az (Below w.heap.size w wc))
  case first =>
    have H := HC3.out
    clear HC3
    by_cases c5 : a1 < a0_0
    · rw [if_pos c5] at H
      have c5b0 : decide (a1 < a0_0) = true := decide_eq_true c5
      clear c5
      (first | rw [c5b0] | (simp only [i64_w, i32_w]; rw [c5b0]) | skip)
      have H' := Az.mk H
      clear H
      have hcz6_0 : w4.cell? ⟨gb157, 0, none⟩ = some (.int .i64 a0_0) := (bkC BK157.out 0).trans rfl
      have hcz6_1 : w4.cell? ⟨gb157, 1, none⟩ = some (.int .i64 a0_1) := (bkC BK157.out 1).trans rfl
      have hcz6_2 : w4.cell? ⟨gb157, 2, none⟩ = some (.slice A0_2 l0_2.length c0_2) := (bkC BK157.out 2).trans rfl
      have hfz6_0 := bkF BK157.out 0
      have hfz6_1 := bkF BK157.out 1
      have hfz6_2 := bkF BK157.out 2
      go_wp2
      go_meet
      case rel => exact ⟨_, (true), (by first | rfl | (simp; done) | (simp [*]; done)), H', ⟨by first | omega | exact Nat.le_refl _⟩, ⟨by (with_reducible repeat (first | refine bkN ?_ _ | refine bkD ?_ | refine bkA ?_ _)); exact BK157.out⟩, ⟨by repeat (first | (with_reducible first | exact HB.out | apply pbA | apply pbN | apply pb1 | refine pbS ?_ GE157.out) | exact HB.out)⟩⟩
    · rw [if_neg c5] at H
      have c5b0 : decide (a1 < a0_0) = false := decide_eq_false c5
      clear c5
      (first | rw [c5b0] | (simp only [i64_w, i32_w]; rw [c5b0]) | skip)
      have H' := Az.mk H
      clear H
      have hcz7_0 : w4.cell? ⟨gb157, 0, none⟩ = some (.int .i64 a0_0) := (bkC BK157.out 0).trans rfl
      have hcz7_1 : w4.cell? ⟨gb157, 1, none⟩ = some (.int .i64 a0_1) := (bkC BK157.out 1).trans rfl
      have hcz7_2 : w4.cell? ⟨gb157, 2, none⟩ = some (.slice A0_2 l0_2.length c0_2) := (bkC BK157.out 2).trans rfl
      have hfz7_0 := bkF BK157.out 0
      have hfz7_1 := bkF BK157.out 1
      have hfz7_2 := bkF BK157.out 2
      go_wp2
      go_meet
      case rel => exact ⟨_, (decide ((wrap64 (a1 - a0_0)) > (l0_2.length : Int))), (by first | rfl | (simp; done) | (simp [*]; done)), H', ⟨by first | omega | exact Nat.le_refl _⟩, ⟨by (with_reducible repeat (first | refine bkN ?_ _ | refine bkD ?_ | refine bkA ?_ _)); exact BK157.out⟩, ⟨by repeat (first | (with_reducible first | exact HB.out | apply pbA | apply pbN | apply pb1 | refine pbS ?_ GE157.out) | exact HB.out)⟩⟩
  case rest =>
    clear HC3
    try clear c2
    try clear p2
    try clear c5
    try clear c5b0
    try clear p6
    try clear hcz6_0
    try clear hcz6_1
    try clear hcz6_2
    try clear hcz7_0
    try clear hcz7_1
    try clear hcz7_2
    try clear hfz6_0
    try clear hfz6_1
    try clear hfz6_2
    try clear hfz7_0
    try clear hfz7_1
    try clear hfz7_2
    obtain ⟨kq, x6_2, rfl, HA, HJ2, BK157, HB⟩ := hcut
    cases kq with
    | zero => exact absurd HA.out (by simp [roll_Term.j0])
    | succ kj2 =>
      have H := HA.out
      clear HA
      simp only [roll_Term.j0] at H
      by_cases c8 : x6_2 = true
      · subst c8
        have H1 : (some (0, false)) = some (r1, r2) := by rw [if_pos rfl] at H; exact H
        clear H
        have H := H1
        clear H1
        simp only [Option.some.injEq, Prod.mk.injEq] at H
        obtain ⟨rfl, rfl⟩ := H
        go_wp2
        go_ret2
        exact ⟨by first | rfl | (simp [errW_none, errW_some] <;> rfl) | (simp [*, errW_none, errW_some] <;> rfl), by repeat (first | (with_reducible first | exact HB.out | apply pbA | apply pbN | apply pb1 | refine pbS ?_ GE157.out) | exact HB.out)⟩
      · replace c8 := Bool.eq_false_iff.mpr c8
        subst c8
        have H1 : (if a1 = a0_0 then (some (a0_1, true)) else (if 0 ≤ (wrap64 ((wrap64 (a1 - a0_0)) - 1)) then (if (wrap64 ((wrap64 (a1 - a0_0)) - 1)) < (l0_2.length : Int) then (some ((rd_T54 l0_2 (wrap64 ((wrap64 (a1 - a0_0)) - 1))).f0, true)) else (none)) else (none))) = some (r1, r2) := by rw [if_neg (show ¬ (false = true) by decide)] at H; exact H
        clear H
        have H := H1
        clear H1
        by_cases c9 : a1 = a0_0
        · rw [if_pos c9] at H
          have c9b0 : (a1 == a0_0) = true := beq_iff_eq.mpr c9
          have c9b1 : (a1 != a0_0) = false := bne_eq_false_iff_eq.mpr c9
          clear c9
          simp only [Option.some.injEq, Prod.mk.injEq] at H
          obtain ⟨rfl, rfl⟩ := H
          have hcz10_0 : wc.cell? ⟨gb157, 0, none⟩ = some (.int .i64 a0_0) := (bkC BK157.out 0).trans rfl
          have hcz10_1 : wc.cell? ⟨gb157, 1, none⟩ = some (.int .i64 a0_1) := (bkC BK157.out 1).trans rfl
          have hcz10_2 : wc.cell? ⟨gb157, 2, none⟩ = some (.slice A0_2 l0_2.length c0_2) := (bkC BK157.out 2).trans rfl
          have hfz10_0 := bkF BK157.out 0
          have hfz10_1 := bkF BK157.out 1
          have hfz10_2 := bkF BK157.out 2
          go_wp2
          go_ret2
          exact ⟨by first | rfl | (simp [errW_none, errW_some] <;> rfl) | (simp [*, errW_none, errW_some] <;> rfl), by repeat (first | (with_reducible first | exact HB.out | apply pbA | apply pbN | apply pb1 | refine pbS ?_ GE157.out) | exact HB.out)⟩
        · rw [if_neg c9] at H
          have c9b0 : (a1 == a0_0) = false := beq_eq_false_iff_ne.mpr c9
          have c9b1 : (a1 != a0_0) = true := bne_iff_ne.mpr c9
          obtain ⟨ji11, hji11⟩ : ∃ j_ : Int, (wrap64 ((wrap64 (a1 - a0_0)) - 1)) = j_ := ⟨_, rfl⟩
          replace H : (if 0 ≤ (ji11) then (if (ji11) < (l0_2.length : Int) then (some ((rd_T54 l0_2 (ji11)).f0, true)) else (none)) else (none)) = some (r1, r2) := by first | (rw [hji11] at H; exact H) | (simp only [hji11] at H ⊢; exact H)
          have hji11w : (IntKind.i64.wrap ((wrap64 (a1 - a0_0)) - 1)) = ji11 := (i64_w _).trans hji11
          by_cases c12 : 0 ≤ (ji11)
          · rw [if_pos c12] at H
            have c12b0 : decide (0 ≤ (ji11)) = true := decide_eq_true c12
            clear c12
            by_cases c13 : (ji11) < (l0_2.length : Int)
            · rw [if_pos c13] at H
              have c13b0 : decide ((ji11) < (l0_2.length : Int)) = true := decide_eq_true c13
              clear c13
              simp only [Option.some.injEq, Prod.mk.injEq] at H
              obtain ⟨rfl, rfl⟩ := H
              have hcz14_0 : wc.cell? ⟨gb157, 0, none⟩ = some (.int .i64 a0_0) := (bkC BK157.out 0).trans rfl
              have hcz14_1 : wc.cell? ⟨gb157, 1, none⟩ = some (.int .i64 a0_1) := (bkC BK157.out 1).trans rfl
              have hcz14_2 : wc.cell? ⟨gb157, 2, none⟩ = some (.slice A0_2 l0_2.length c0_2) := (bkC BK157.out 2).trans rfl
              have hfz14_0 := bkF BK157.out 0
              have hfz14_1 := bkF BK157.out 1
              have hfz14_2 := bkF BK157.out 2
              have p158 : 0 ≤ ((ji11) : Int) := of_decide_eq_true (by first | (with_reducible assumption) | assumption)
              have q158 : (ji11) < (l0_2.length : Int) := of_decide_eq_true (by first | (with_reducible assumption) | assumption)
              obtain ⟨ad158, e158, hx158_0, hx158_1⟩ := at_T54 HR0_2.out (ji11) p158 q158
              cases e158
              replace hx158_0 := (HB.out.cell (World.block_lt_of_cell? w _ hx158_0)).trans hx158_0
              replace hx158_1 := (HB.out.cell (World.block_lt_of_cell? w _ hx158_1)).trans hx158_1
              replace p158 := eq_true p158
              replace q158 := eq_true q158
              go_wp2
              go_ret2
              exact ⟨by first | rfl | (simp [errW_none, errW_some] <;> rfl) | (simp only [← hji11]; first | rfl | (simp [errW_none, errW_some] <;> rfl)) | (simp [*, errW_none, errW_some] <;> rfl), by repeat (first | (with_reducible first | exact HB.out | apply pbA | apply pbN | apply pb1 | refine pbS ?_ GE157.out) | exact HB.out)⟩
            · rw [if_neg c13] at H
              exact absurd H (by simp)
          · rw [if_neg c12] at H
            exact absurd H (by simp)
end Go.Proofs.YtjpihfjgomoijaaDoor.P
end
section
-- Written by a program of this session (wip/tools/pr.py), over the kit's printer; functions named in the texts imported below are given by hand.
namespace Go.Proofs.YtjpihfjgomoijaaDoor.P
open Go.RowKit Go.Proofs.YtjpihfjgomoijaaDoor.K Go.Proofs.YtjpihfjgomoijaaDoorW.PrintWords Go.Proofs.YtjpihfjgomoijaaDoorW.PrintLast Go.Proofs.YtjpihfjgomoijaaDoorW.PrintMore
attribute [local go_sem] max2_int min2_int max_two min_two max_three min_three max_four min_four   -- for this text's walks alone
/-! ### roll_Last: function 21 -/
def roll_Last.f (k : Nat) (a0_0 : Int) (a0_1 : Int) (l0_2 : List (S54)) : Option (Int × Int) := (roll_Term.f k a0_0 a0_1 l0_2 (wrap64 (a0_0 + (l0_2.length : Int)))).bind fun bt160 => (some (wrap64 (a0_0 + (l0_2.length : Int)), bt160.1))
theorem roll_Last.mono : ∀ a0 a1 a2 k, LeO (roll_Last.f k a0 a1 a2) (roll_Last.f (k + 1) a0 a1 a2) := by
  intro a0 a1 a2 k
  unfold roll_Last.f
  repeat' first
      | (with_reducible exact roll_Term.mono _ _ _ _ _)
      | (with_reducible exact LeO.refl _)
      | (with_reducible exact LeO.none _)
      | (with_reducible refine LeO.ite ?_ ?_)
      | (with_reducible refine LeO.bind ?_ (fun _ => ?_))
      | exact roll_Term.mono _ _ _ _ _
      | exact LeO.none _
      | refine LeO.ite ?_ ?_
      | refine LeO.bind ?_ (fun _ => ?_)
set_option maxHeartbeats 8000000 in
set_option maxRecDepth 100000 in
theorem roll_Last.calls (k : Nat) (a0_0 : Int) (a0_1 : Int) (A0_2 : Option Addr) (c0_2 : Nat) (l0_2 : List (S54)) (r1 : Int) (r2 : Int) (w : World) (hG : TheG w) (hr0_2 : Kd.C k54 w A0_2 l0_2.length l0_2) (hc0_2 : l0_2.length ≤ c0_2) (h : roll_Last.f k a0_0 a0_1 l0_2 = some (r1, r2)) :
    Calls Tryd.prog 21 #[.agg #[.int .i64 a0_0, .int .i64 a0_1, .slice A0_2 l0_2.length c0_2]] w fun e w' => e = .returned (.tuple #[.int .i64 r1, .int .i64 r2]) ∧ Below w.heap.size w w' := by
  have hu24 := Tryd.underlying24
  have HR0_2 := Az.mk hr0_2
  have HC0_2 := Az.mk hc0_2
  clear hr0_2 hc0_2
  have HB := Az.mk (Below.refl w.heap.size w)
  have H : ((roll_Term.f k a0_0 a0_1 l0_2 (wrap64 (a0_0 + (l0_2.length : Int)))).bind fun bt160 => (some (wrap64 (a0_0 + (l0_2.length : Int)), bt160.1))) = some (r1, r2) := h
  clear h
  replace H := Option.bind_eq_some_iff.mp H
  obtain ⟨⟨t160, t161⟩, A20, H⟩ := H
  replace H : (some (wrap64 (a0_0 + (l0_2.length : Int)), t160)) = some (r1, r2) := H
  have A2 := Az.mk A20
  clear A20
  simp only [Option.some.injEq, Prod.mk.injEq] at H
  obtain ⟨rfl, rfl⟩ := H
  go_enter Tryd.func21, Tryd.ntmps21
  go_wp2_with (first | ((with_reducible refine gate_dst (N := 1) rfl ?_); refine box_event ?hg (N := 1) ?hd (cs := #[.int .i64 a0_0, .int .i64 a0_1, .slice A0_2 l0_2.length c0_2]) (t := 24) ?hr ?_; (case hd => rfl); (case hg => rfl); (case hr => first | (go_simp; done) | (go_simp; rfl)); intro gb159 hg w3 hbox hb; have n0_ := Az.mk (pbT (by repeat (first | (with_reducible first | exact HB.out | apply pbA | apply pbN | apply pb1) | exact HB.out)) hb); have n1_ := Az.mk (hbox); have n2_ := Az.mk ((by rw [hg]; exact (pbZ (by repeat (first | (with_reducible first | exact HB.out | apply pbA | apply pbN | apply pb1) | exact HB.out))) : w.heap.size ≤ gb159)); have n3_ := Az.mk ((by rw [hg]; exact (pbZ (by repeat (first | (with_reducible first | exact HB.out | apply pbA | apply pbN | apply pb1) | exact HB.out))) : w.heap.size ≤ gb159)); clear HB; have HB := n0_; have BK159 := n1_; have GW159 := n2_; have GE159 := n3_; clear n0_ n1_ n2_ n3_; clear hb hbox hg; have hcz4_0 : w3.cell? ⟨gb159, 0, none⟩ = some (.int .i64 a0_0) := (bkC BK159.out 0).trans rfl; have hcz4_1 : w3.cell? ⟨gb159, 1, none⟩ = some (.int .i64 a0_1) := (bkC BK159.out 1).trans rfl; have hcz4_2 : w3.cell? ⟨gb159, 2, none⟩ = some (.slice A0_2 l0_2.length c0_2) := (bkC BK159.out 2).trans rfl; have hfz4_0 := bkF BK159.out 0; have hfz4_1 := bkF BK159.out 1; have hfz4_2 := bkF BK159.out 2) | ((with_reducible refine gtc (f := 24) rfl ?_); refine goesL_ (some 16) rfl rfl Tryd.func24 (by kernel_rfl) rfl #[.agg #[.int .i64 a0_0, .int .i64 a0_1, .slice A0_2 l0_2.length c0_2], .int .i64 (wrap64 (a0_0 + (l0_2.length : Int)))] rfl (by (try simp only [List.map_toArray, List.map_cons, List.map_nil]); first | done | rfl | (simp only [List.length_drop, List.length_take]; rfl)) ?_; (with_reducible refine (roll_Term.calls k a0_0 a0_1 _ _ l0_2 (wrap64 (a0_0 + (l0_2.length : Int))) t160 t161 _ ?side1 ?side2 ?side3 A2.out).mono ?_); (case side1 => exact hG.below (by repeat (first | (with_reducible first | exact HB.out | apply pbA | apply pbN | apply pb1 | refine pbS ?_ GE159.out) | exact HB.out))); (case side2 => repeat (first | exact (Kd.C_below HR0_2.out HB.out) | (with_reducible refine Kd.C_alloc ?_ _) | (with_reducible refine Kd.C_drewN ?_ _) | (with_reducible refine Kd.C_drew ?_))); (case side3 => exact HC0_2.out); rintro e w5 ⟨rfl, hb⟩; refine ⟨_, rfl, ?_⟩; have n0_ := Az.mk (bkB (g := gb159) (o := .cells #[.int .i64 a0_0, .int .i64 a0_1, .slice A0_2 l0_2.length c0_2] 24 (0, 0)) (by (with_reducible repeat (first | refine bkN ?_ _ | refine bkD ?_ | refine bkA ?_ _)); exact BK159.out) hb); have n1_ := Az.mk (pbT (by repeat (first | (with_reducible first | exact HB.out | apply pbA | apply pbN | apply pb1 | refine pbS ?_ GE159.out) | exact HB.out)) hb); clear BK159; clear HB; have BK159 := n0_; have HB := n1_; clear n0_ n1_; (try clear hb); (try clear hb2); (try clear hk); (try clear hi)))
  go_ret2
  exact ⟨by first | rfl | (simp [errW_none, errW_some] <;> rfl) | (simp [*, errW_none, errW_some] <;> rfl), by repeat (first | (with_reducible first | exact HB.out | apply pbA | apply pbN | apply pb1 | refine pbS ?_ GE159.out) | exact HB.out)⟩
end Go.Proofs.YtjpihfjgomoijaaDoor.P
end
section
-- Written by a program of this session (wip/tools/pr.py), over the kit's printer; functions named in the texts imported below are given by hand.
namespace Go.Proofs.YtjpihfjgomoijaaDoor.P
open Go.RowKit Go.Proofs.YtjpihfjgomoijaaDoor.K Go.Proofs.YtjpihfjgomoijaaDoorW.PrintWords Go.Proofs.YtjpihfjgomoijaaDoorW.PrintLast Go.Proofs.YtjpihfjgomoijaaDoorW.PrintMore
attribute [local go_sem] max2_int min2_int max_two min_two max_three min_three max_four min_four   -- for this text's walks alone
/-! ### roll_Newer: function 22 -/
def roll_Newer.f (k : Nat) (a0 : Int) (a1 : Int) (a2_0 : Int) (a2_1 : Int) (l2_2 : List (S54)) : Option (Bool) := (roll_Last.f k a2_0 a2_1 l2_2).bind fun bt163 => (if a0 = bt163.2 then (some (decide (a1 ≥ bt163.1))) else (some (decide (a0 > bt163.2))))
theorem roll_Newer.mono : ∀ a0 a1 a2 a3 a4 k, LeO (roll_Newer.f k a0 a1 a2 a3 a4) (roll_Newer.f (k + 1) a0 a1 a2 a3 a4) := by
  intro a0 a1 a2 a3 a4 k
  unfold roll_Newer.f
  repeat' first
      | (with_reducible exact roll_Last.mono _ _ _ _)
      | (with_reducible exact LeO.refl _)
      | (with_reducible exact LeO.none _)
      | (with_reducible refine LeO.ite ?_ ?_)
      | (with_reducible refine LeO.bind ?_ (fun _ => ?_))
      | exact roll_Last.mono _ _ _ _
      | exact LeO.none _
      | refine LeO.ite ?_ ?_
      | refine LeO.bind ?_ (fun _ => ?_)
set_option maxHeartbeats 8000000 in
set_option maxRecDepth 100000 in
theorem roll_Newer.calls (k : Nat) (a0 : Int) (a1 : Int) (a2_0 : Int) (a2_1 : Int) (A2_2 : Option Addr) (c2_2 : Nat) (l2_2 : List (S54)) (r : Bool) (w : World) (hG : TheG w) (hr2_2 : Kd.C k54 w A2_2 l2_2.length l2_2) (hc2_2 : l2_2.length ≤ c2_2) (h : roll_Newer.f k a0 a1 a2_0 a2_1 l2_2 = some r) :
    Calls Tryd.prog 22 #[.int .i64 a0, .int .i64 a1, .agg #[.int .i64 a2_0, .int .i64 a2_1, .slice A2_2 l2_2.length c2_2]] w fun e w' => e = .returned (.bool r) ∧ Below w.heap.size w w' := by
  have hu24 := Tryd.underlying24
  have HR2_2 := Az.mk hr2_2
  have HC2_2 := Az.mk hc2_2
  clear hr2_2 hc2_2
  have HB := Az.mk (Below.refl w.heap.size w)
  have H : ((roll_Last.f k a2_0 a2_1 l2_2).bind fun bt163 => (if a0 = bt163.2 then (some (decide (a1 ≥ bt163.1))) else (some (decide (a0 > bt163.2))))) = some r := h
  clear h
  replace H := Option.bind_eq_some_iff.mp H
  obtain ⟨⟨t163, t164⟩, A40, H⟩ := H
  replace H : (if a0 = t164 then (some (decide (a1 ≥ t163))) else (some (decide (a0 > t164)))) = some r := H
  have A4 := Az.mk A40
  clear A40
  by_cases c5 : a0 = t164
  · rw [if_pos c5] at H
    have c5b0 : (a0 == t164) = true := beq_iff_eq.mpr c5
    have c5b1 : (a0 != t164) = false := bne_eq_false_iff_eq.mpr c5
    clear c5
    obtain rfl := Option.some.inj H
    go_enter Tryd.func22, Tryd.ntmps22
    go_wp2_with (first | ((with_reducible refine gate_dst (N := 5) rfl ?_); refine box_event ?hg (N := 5) ?hd (cs := #[.int .i64 a2_0, .int .i64 a2_1, .slice A2_2 l2_2.length c2_2]) (t := 24) ?hr ?_; (case hd => rfl); (case hg => rfl); (case hr => first | (go_simp; done) | (go_simp; rfl)); intro gb162 hg w6 hbox hb; have n0_ := Az.mk (pbT (by repeat (first | (with_reducible first | exact HB.out | apply pbA | apply pbN | apply pb1) | exact HB.out)) hb); have n1_ := Az.mk (hbox); have n2_ := Az.mk ((by rw [hg]; exact (pbZ (by repeat (first | (with_reducible first | exact HB.out | apply pbA | apply pbN | apply pb1) | exact HB.out))) : w.heap.size ≤ gb162)); have n3_ := Az.mk ((by rw [hg]; exact (pbZ (by repeat (first | (with_reducible first | exact HB.out | apply pbA | apply pbN | apply pb1) | exact HB.out))) : w.heap.size ≤ gb162)); clear HB; have HB := n0_; have BK162 := n1_; have GW162 := n2_; have GE162 := n3_; clear n0_ n1_ n2_ n3_; clear hb hbox hg; have hcz7_0 : w6.cell? ⟨gb162, 0, none⟩ = some (.int .i64 a2_0) := (bkC BK162.out 0).trans rfl; have hcz7_1 : w6.cell? ⟨gb162, 1, none⟩ = some (.int .i64 a2_1) := (bkC BK162.out 1).trans rfl; have hcz7_2 : w6.cell? ⟨gb162, 2, none⟩ = some (.slice A2_2 l2_2.length c2_2) := (bkC BK162.out 2).trans rfl; have hfz7_0 := bkF BK162.out 0; have hfz7_1 := bkF BK162.out 1; have hfz7_2 := bkF BK162.out 2) | ((with_reducible refine gtc (f := 21) rfl ?_); refine goesL_ (some 11) rfl rfl Tryd.func21 (by kernel_rfl) rfl #[.agg #[.int .i64 a2_0, .int .i64 a2_1, .slice A2_2 l2_2.length c2_2]] rfl (by (try simp only [List.map_toArray, List.map_cons, List.map_nil]); first | done | rfl | (simp only [List.length_drop, List.length_take]; rfl)) ?_; (with_reducible refine (roll_Last.calls k a2_0 a2_1 _ _ l2_2 t163 t164 _ ?side1 ?side2 ?side3 A4.out).mono ?_); (case side1 => exact hG.below (by repeat (first | (with_reducible first | exact HB.out | apply pbA | apply pbN | apply pb1 | refine pbS ?_ GE162.out) | exact HB.out))); (case side2 => repeat (first | exact (Kd.C_below HR2_2.out HB.out) | (with_reducible refine Kd.C_alloc ?_ _) | (with_reducible refine Kd.C_drewN ?_ _) | (with_reducible refine Kd.C_drew ?_))); (case side3 => exact HC2_2.out); rintro e w8 ⟨rfl, hb⟩; refine ⟨_, rfl, ?_⟩; have n0_ := Az.mk (bkB (g := gb162) (o := .cells #[.int .i64 a2_0, .int .i64 a2_1, .slice A2_2 l2_2.length c2_2] 24 (0, 0)) (by (with_reducible repeat (first | refine bkN ?_ _ | refine bkD ?_ | refine bkA ?_ _)); exact BK162.out) hb); have n1_ := Az.mk (pbT (by repeat (first | (with_reducible first | exact HB.out | apply pbA | apply pbN | apply pb1 | refine pbS ?_ GE162.out) | exact HB.out)) hb); clear BK162; clear HB; have BK162 := n0_; have HB := n1_; clear n0_ n1_; (try clear hb); (try clear hb2); (try clear hk); (try clear hi)))
    go_ret
    exact ⟨by first | rfl | (simp [errW_none, errW_some] <;> rfl) | (simp [*, errW_none, errW_some] <;> rfl), by repeat (first | (with_reducible first | exact HB.out | apply pbA | apply pbN | apply pb1 | refine pbS ?_ GE162.out) | exact HB.out)⟩
  · rw [if_neg c5] at H
    have c5b0 : (a0 == t164) = false := beq_eq_false_iff_ne.mpr c5
    have c5b1 : (a0 != t164) = true := bne_iff_ne.mpr c5
    obtain rfl := Option.some.inj H
    go_enter Tryd.func22, Tryd.ntmps22
    go_wp2_with (first | ((with_reducible refine gate_dst (N := 5) rfl ?_); refine box_event ?hg (N := 5) ?hd (cs := #[.int .i64 a2_0, .int .i64 a2_1, .slice A2_2 l2_2.length c2_2]) (t := 24) ?hr ?_; (case hd => rfl); (case hg => rfl); (case hr => first | (go_simp; done) | (go_simp; rfl)); intro gb162 hg w9 hbox hb; have n0_ := Az.mk (pbT (by repeat (first | (with_reducible first | exact HB.out | apply pbA | apply pbN | apply pb1) | exact HB.out)) hb); have n1_ := Az.mk (hbox); have n2_ := Az.mk ((by rw [hg]; exact (pbZ (by repeat (first | (with_reducible first | exact HB.out | apply pbA | apply pbN | apply pb1) | exact HB.out))) : w.heap.size ≤ gb162)); have n3_ := Az.mk ((by rw [hg]; exact (pbZ (by repeat (first | (with_reducible first | exact HB.out | apply pbA | apply pbN | apply pb1) | exact HB.out))) : w.heap.size ≤ gb162)); clear HB; have HB := n0_; have BK162 := n1_; have GW162 := n2_; have GE162 := n3_; clear n0_ n1_ n2_ n3_; clear hb hbox hg; have hcz10_0 : w9.cell? ⟨gb162, 0, none⟩ = some (.int .i64 a2_0) := (bkC BK162.out 0).trans rfl; have hcz10_1 : w9.cell? ⟨gb162, 1, none⟩ = some (.int .i64 a2_1) := (bkC BK162.out 1).trans rfl; have hcz10_2 : w9.cell? ⟨gb162, 2, none⟩ = some (.slice A2_2 l2_2.length c2_2) := (bkC BK162.out 2).trans rfl; have hfz10_0 := bkF BK162.out 0; have hfz10_1 := bkF BK162.out 1; have hfz10_2 := bkF BK162.out 2) | ((with_reducible refine gtc (f := 21) rfl ?_); refine goesL_ (some 11) rfl rfl Tryd.func21 (by kernel_rfl) rfl #[.agg #[.int .i64 a2_0, .int .i64 a2_1, .slice A2_2 l2_2.length c2_2]] rfl (by (try simp only [List.map_toArray, List.map_cons, List.map_nil]); first | done | rfl | (simp only [List.length_drop, List.length_take]; rfl)) ?_; (with_reducible refine (roll_Last.calls k a2_0 a2_1 _ _ l2_2 t163 t164 _ ?side1 ?side2 ?side3 A4.out).mono ?_); (case side1 => exact hG.below (by repeat (first | (with_reducible first | exact HB.out | apply pbA | apply pbN | apply pb1 | refine pbS ?_ GE162.out) | exact HB.out))); (case side2 => repeat (first | exact (Kd.C_below HR2_2.out HB.out) | (with_reducible refine Kd.C_alloc ?_ _) | (with_reducible refine Kd.C_drewN ?_ _) | (with_reducible refine Kd.C_drew ?_))); (case side3 => exact HC2_2.out); rintro e w11 ⟨rfl, hb⟩; refine ⟨_, rfl, ?_⟩; have n0_ := Az.mk (bkB (g := gb162) (o := .cells #[.int .i64 a2_0, .int .i64 a2_1, .slice A2_2 l2_2.length c2_2] 24 (0, 0)) (by (with_reducible repeat (first | refine bkN ?_ _ | refine bkD ?_ | refine bkA ?_ _)); exact BK162.out) hb); have n1_ := Az.mk (pbT (by repeat (first | (with_reducible first | exact HB.out | apply pbA | apply pbN | apply pb1 | refine pbS ?_ GE162.out) | exact HB.out)) hb); clear BK162; clear HB; have BK162 := n0_; have HB := n1_; clear n0_ n1_; (try clear hb); (try clear hb2); (try clear hk); (try clear hi)))
    go_ret
    exact ⟨by first | rfl | (simp [errW_none, errW_some] <;> rfl) | (simp [*, errW_none, errW_some] <;> rfl), by repeat (first | (with_reducible first | exact HB.out | apply pbA | apply pbN | apply pb1 | refine pbS ?_ GE162.out) | exact HB.out)⟩
end Go.Proofs.YtjpihfjgomoijaaDoor.P
end
section
/- Rows of flat elements: what an append onto a full slice (xs[:n:n]) leaves. -/
namespace Go.Proofs.YtjpihfjgomoijaaDoor.K
open Go Go.RowKit Go.Proofs.YtjpihfjgomoijaaDoorW.PrintWords Go.Proofs.YtjpihfjgomoijaaDoorW.PrintLast Go.Proofs.YtjpihfjgomoijaaDoorW.PrintMore
section
variable {P : Program} {α : Type}
/-- A kind whose cells tell all: none of it lies elsewhere. -/
def Flat (d : Kd α) : Prop := ∀ (w w' : World) x c, d.K w x c → d.K w' x c
theorem V_own {d : Kd α} (hf : Flat d) {W W1 : World} {base b2 : Nat} {e : TypeId} {v : Value} {xs : List α} {inner : List Value} (hown : W1.ownsRow base e d.sz v xs.length inner) (hr : Reps (d.K W) d.sz xs inner) (ok : Nat → Prop) (hok : ∀ k, v.ownBlock = some k → ok k) : Kd.V d e W1 b2 ok v xs := by
  obtain ⟨hlen, hown⟩ := hown
  rcases hown with ⟨rfl, h0⟩ | ⟨g, cap, cur, rfl, hg, hheap, hcap, hmax, hsz, htake⟩
  · obtain rfl : xs = [] := List.eq_nil_of_length_eq_zero h0
    exact ⟨none, 0, rfl, Nat.le_refl _, Kd.F_nil d W1 ok⟩
  · refine ⟨some ⟨g, 0, none⟩, cap, rfl, hcap, fun W' hW => ?_⟩
    have hlt : g < W1.heap.size := by
      rcases Nat.lt_or_ge g W1.heap.size with h | h
      · exact h
      · rw [Array.getElem?_eq_none h] at hheap; cases hheap
    have hh : W'.heap[g]? = some (.cells cur e (0, 0)) := (hW g (hok g rfl) hlt).trans hheap
    have ho : OwnRow (d.K W') e d.sz W' base (.slice (some ⟨g, 0, none⟩) xs.length cap) xs := ⟨inner, ⟨hlen, .inr ⟨g, cap, cur, rfl, hg, hh, hcap, hmax, hsz, htake⟩⟩, hr.imp_ (fun p c hp => hf _ _ _ _ hp)⟩
    obtain ⟨A, c, he, _, hR⟩ := ho.reads
    injection he with h1
    subst h1
    exact hR
theorem F_flat {d : Kd α} {W : World} {ok : Nat → Prop} {A : Option Addr} {n : Nat} {xs : List α} (h : Kd.F d W ok A n xs) : Kd.C d W A n xs := Kd.F_now h
/-- What is read of flat elements is so in every world that has the same blocks. -/
theorem F_of_C {d : Kd α} (hf : Flat d) {W : World} {A : Option Addr} {n : Nat} {xs : List α} (h : Kd.C d W A n xs) : Kd.F d W (fun _ => True) A n xs := by
  intro W' hW
  obtain ⟨h1, h2, h3⟩ := h
  refine ⟨h1, h2, fun hn => ?_⟩
  obtain ⟨ad, e, hc⟩ := h3 hn
  refine ⟨ad, e, fun j p hp => ?_⟩
  obtain ⟨c, hl, hK, hcell⟩ := hc j p hp
  refine ⟨c, hl, hf _ _ _ _ hK, fun i u hu => ?_⟩
  have hold := hcell i u hu
  have hlt : (ad.add (j * d.sz + i)).block < W.heap.size := by
    rcases Nat.lt_or_ge (ad.add (j * d.sz + i)).block W.heap.size with h | h
    · exact h
    · simp [World.cell?, Array.getElem?_eq_none h] at hold
  rw [World.cell?_of_block (hW _ trivial hlt)]
  exact hold
theorem V_of_C {d : Kd α} (hf : Flat d) {W : World} {A : Option Addr} {c : Nat} {xs : List α} {e base : Nat} (h : Kd.C d W A xs.length xs) (hc : xs.length ≤ c) : Kd.V d e W base (fun _ => True) (.slice A xs.length c) xs := ⟨A, c, rfl, hc, F_of_C hf h⟩
/-- append(xs[:n:n], ys..): a new row, or, with nothing to append, xs[:n:n] itself. -/
theorem run_app_cut (d : Kd α) (hf : Flat d) (W : World) (t ty e : TypeId) (i : TypeInfo) (z : Value) (bytes : Nat) (ht : P.underlying t = some (.slice e)) (hi : P.info? e = some i) (hz : i.zero = some z) (hsize : i.size = d.sz) (hby : i.bytes = bytes) (hzs : z.cells.size = d.sz) (hsz : 0 < d.sz) (hb0 : 0 < bytes)
    (A : Option Addr) (n : Nat) (xs : List α) (A2 : Option Addr) (m c : Nat) (ys : List α) (ok : Nat → Prop) (base : Nat) (HX : Kd.F d W ok A n xs) (HY : Kd.C d W A2 m ys) (hl : (n + m) * bytes ≤ 140737488355328) :
    ∃ v1 w1, (Builtin.append_ #[t, t] ty #[.slice A n n, .slice A2 m c]).run P W = .ok v1 w1 ∧ Below W.heap.size W w1 ∧ Kd.V d e w1 base (fun k => ok k ∨ W.heap.size ≤ k) v1 (xs ++ ys) := by
  have HX0 := F_flat HX
  have hn : xs.length = n := HX0.1
  have hm : ys.length = m := HY.1
  have hlen : n + m ≤ 140737488355328 := Nat.le_trans (Nat.le_mul_of_pos_right _ hb0) hl
  rcases Nat.eq_zero_or_pos m with h0 | hp
  · subst h0
    obtain rfl : ys = [] := List.eq_nil_of_length_eq_zero hm
    refine ⟨.slice A n n, W, ?_, Below.refl _ _, ?_⟩
    · rcases A with _ | ad
      · have hn0 : n = 0 := by
          rcases Nat.eq_zero_or_pos n with h | h
          · exact h
          · obtain ⟨ad, h, _⟩ := HX0.2.2 h; cases h
        subst hn0
        rcases A2 with _ | a2
        · simp [Builtin.append_, run_underlying ht, sizeOf, typeInfo, hi, Builtin.lenOf, Builtin.firstCells]
        · simp [Builtin.append_, run_underlying ht, sizeOf, typeInfo, hi, Builtin.lenOf, Builtin.firstCells, loadCells, loadCellsFrom]
      · rcases A2 with _ | a2
        · simp [Builtin.append_, run_underlying ht, sizeOf, typeInfo, hi, Builtin.lenOf, Builtin.firstCells, storeCells]
        · simp [Builtin.append_, run_underlying ht, sizeOf, typeInfo, hi, Builtin.lenOf, Builtin.firstCells, storeCells, loadCells, loadCellsFrom]
    · rw [List.append_nil]
      subst hn
      exact ⟨A, xs.length, rfl, Nat.le_refl _, Kd.F_mono HX (fun k hk => .inl hk)⟩
  · obtain ⟨a2, rfl, _⟩ := HY.2.2 hp
    obtain ⟨news, hnr, hnc⟩ := ReadsRow.inner_ HY
    have hone : ∀ u ∈ news, u.oneCell' = true := by
      intro u hu
      obtain ⟨q, hq, rfl⟩ := List.mem_iff_getElem.1 hu
      have hql : q / d.sz < ys.length := by rw [Nat.div_lt_iff_lt_mul hsz, ← hnr.1]; exact hq
      have hc := hnr.2 (q / d.sz) _ (List.getElem?_eq_getElem hql)
      refine d.K_one hc _ ?_
      rw [List.mem_iff_getElem?]
      refine ⟨q % d.sz, ?_⟩
      rw [List.getElem?_take, if_pos (Nat.mod_lt _ hsz), List.getElem?_drop, Nat.mul_comm, Nat.div_add_mod, List.getElem?_eq_getElem hq]
    have hnl : news.length = m * d.sz := by rw [hnr.1, hm]
    have fin : ∀ (olds : List Value) v1 w1, Reps (d.K W) d.sz xs olds → w1.ownsRow W.heap.size e d.sz v1 (n + m) (olds ++ news) → W.grownBy w1 none → Below W.heap.size W w1 ∧ Kd.V d e w1 base (fun k => ok k ∨ W.heap.size ≤ k) v1 (xs ++ ys) := by
      intro olds v1 w1 hxr hown hg
      refine ⟨⟨hg.os, hg.tape, hg.output, hg.size, fun k hk => hg.block k hk (by simp)⟩, V_own hf (xs := xs ++ ys) (by rw [List.length_append, hn, hm]; exact hown) (Kd.reps_append hxr hnr) _ (fun k hk => .inr ?_)⟩
      rcases hown.2 with ⟨rfl, h⟩ | ⟨g, cap, cur, rfl, hgb, _⟩
      · omega
      · have : g = k := by simpa [Value.ownBlock] using hk
        omega
    rcases A with _ | ad
    · have hn0 : n = 0 := by
        rcases Nat.eq_zero_or_pos n with h | h
        · exact h
        · obtain ⟨ad, h, _⟩ := HX0.2.2 h; cases h
      subst hn0
      obtain rfl : xs = [] := List.eq_nil_of_length_eq_zero hn
      obtain ⟨v1, w1, hrun, h2, hg, _⟩ := run_append_own_at (P := P) W W.heap.size t ty e i z d.sz bytes ht hi hz hsize hby hzs hsz (.slice none 0 0) 0 [] (own_nil _ _ _ _) a2 m c news hnl hnc hone (by simp only [maxLen]; omega) hl (Nat.le_refl _)
      exact ⟨v1, w1, hrun, fin [] v1 w1 (Reps.none _ _) h2 hg⟩
    · obtain ⟨olds, hxr, hxc⟩ := ReadsRow.inner_ HX0
      obtain ⟨v1, w1, hrun, h2, hg⟩ := run_append_arg_grows (P := P) W t ty e i z d.sz bytes ht hi hz hsize hby hzs hsz ad n n olds (by rw [hxr.1, hn]) hxc a2 m c news hnl hnc (by omega) (by simp only [maxLen]; omega) hl
      exact ⟨v1, w1, hrun, fin olds v1 w1 hxr h2 hg⟩
variable {ops : Array Oper} {rest : List Oper} {o : Oper} {a : Act} {Q : Exit → Act → World → Prop}
theorem V_append_cut (d : Kd α) (hf : Flat d) {W : World} (base : Nat) (hgd : o.guard = none) (s x : Operand) (t e : TypeId) (z : Value) (bytes : Nat)
    (ho : o.op = .call { callee := .builtin .append, args := #[s, x], argTypes := #[t, t] })
    (ht : P.underlying t = some (.slice e)) (hinfo : (P.info? e).map (fun i => (i.zero, i.size, i.bytes)) = some (some z, d.sz, bytes)) (hz : z.cells.size = d.sz) (hs0 : 0 < d.sz) (hb0 : 0 < bytes)
    (A : Option Addr) (n : Nat) (xs : List α) (A2 : Option Addr) (m c : Nat) (ys : List α) (ok : Nat → Prop) (hs : a.eval s = .slice A n n) (hx : a.eval x = .slice A2 m c)
    (HX : Kd.F d W ok A n xs) (HY : Kd.C d W A2 m ys) (hl : (n + m) * bytes ≤ 140737488355328)
    (h : ∀ v1 w1, Kd.V d e w1 base (fun k => ok k ∨ W.heap.size ≤ k) v1 (xs ++ ys) → Below W.heap.size W w1 → wpList P ops Q rest (a.put o.dst v1) w1) :
    wpList P ops Q (o :: rest) a W := by
  obtain ⟨i0, hi, hzz⟩ := Option.map_eq_some_iff.1 hinfo
  simp only [Prod.mk.injEq] at hzz
  obtain ⟨hz0, hz1, hz2⟩ := hzz
  obtain ⟨v1, w1, hr1, hb, hv⟩ := run_app_cut (P := P) d hf W t o.type e i0 z bytes ht hi hz0 hz1 hz2 hz hs0 hb0 A n xs A2 m c ys ok base HX HY hl
  refine wpList_plain hgd fun K hK => ?_
  unfold Oper.wp execOp
  simp only [ho, resolve, invoke, builtin, Sem.run_bind, Sem.run_pure, Result.andThen_ok, List.map_toArray, List.map_cons, List.map_nil, hs, hx, hr1]
  exact hK _ _ (h v1 w1 hv hb)
theorem step_append_cut (d : Kd α) (hf : Flat d) {W : World} {K : Act → World → Prop} {E : Prop} (base : Nat) (hgd : o.guard = none) (s x : Operand) (t e : TypeId) (z : Value) (bytes : Nat)
    (ho : o.op = .call { callee := .builtin .append, args := #[s, x], argTypes := #[t, t] })
    (ht : P.underlying t = some (.slice e)) (hinfo : (P.info? e).map (fun i => (i.zero, i.size, i.bytes)) = some (some z, d.sz, bytes)) (hz : z.cells.size = d.sz) (hs0 : 0 < d.sz) (hb0 : 0 < bytes)
    (A : Option Addr) (n : Nat) (xs : List α) (A2 : Option Addr) (m c : Nat) (ys : List α) (ok : Nat → Prop) (hs : a.eval s = .slice A n n) (hx : a.eval x = .slice A2 m c)
    (HX : Kd.F d W ok A n xs) (HY : Kd.C d W A2 m ys) (hl : (n + m) * bytes ≤ 140737488355328)
    (h : ∀ v1 w1, Kd.V d e w1 base (fun k => ok k ∨ W.heap.size ≤ k) v1 (xs ++ ys) → Below W.heap.size W w1 → K (a.put o.dst v1) w1) :
    if Region.wanted o (yielded ops a.tmps) = true then Oper.wp P o a W K Q else E := by
  obtain ⟨i0, hi, hzz⟩ := Option.map_eq_some_iff.1 hinfo
  simp only [Prod.mk.injEq] at hzz
  obtain ⟨hz0, hz1, hz2⟩ := hzz
  obtain ⟨v1, w1, hr1, hb, hv⟩ := run_app_cut (P := P) d hf W t o.type e i0 z bytes ht hi hz0 hz1 hz2 hz hs0 hb0 A n xs A2 m c ys ok base HX HY hl
  have hw : Region.wanted o (yielded ops a.tmps) = true := by simp [Region.wanted, hgd]
  rw [if_pos hw]
  unfold Oper.wp execOp
  simp only [ho, resolve, invoke, builtin, Sem.run_bind, Sem.run_pure, Result.andThen_ok, List.map_toArray, List.map_cons, List.map_nil, hs, hx, hr1]
  exact h v1 w1 hv hb
end
end Go.Proofs.YtjpihfjgomoijaaDoor.K
end
section
/- slices.Clone of entries, roll.Append: by hand. -/
namespace Go.Proofs.YtjpihfjgomoijaaDoor.P
open Go.RowKit Go.Proofs.YtjpihfjgomoijaaDoor.K Go.Proofs.YtjpihfjgomoijaaDoorW.PrintWords Go.Proofs.YtjpihfjgomoijaaDoorW.PrintLast Go.Proofs.YtjpihfjgomoijaaDoorW.PrintMore
def api_Entry.f (l0 : List S54) : Option (List S54) := if l0.length < 5864062014805 then some l0 else none
set_option maxHeartbeats 2000000 in
set_option maxRecDepth 100000 in
theorem api_Entry.calls (A0 : Option Addr) (c0 : Nat) (l0 : List S54) (r : List S54) (w : World) (hG : TheG w) (hr0 : Kd.C k54 w A0 l0.length l0) (hc0 : l0.length ≤ c0) (h : api_Entry.f l0 = some r) :
    Calls Tryd.prog 44 #[.slice A0 l0.length c0] w fun e w' => ∃ v : Value, e = .returned v ∧ Kd.R k54 54 w' w.heap.size (fun _ => True) v r ∧ Below w.heap.size w w' := by
  unfold api_Entry.f at h
  split at h
  case isFalse => exact absurd h (by simp)
  case isTrue hl =>
  obtain rfl := Option.some.inj h
  clear h
  rcases A0 with _ | ad
  · have h0 : l0 = [] := by
      rcases l0 with _ | ⟨x, l⟩
      · rfl
      · obtain ⟨ad, h, _⟩ := hr0.2.2 (by simp); cases h
    subst h0
    have hbin := fun w => Lib.run_eql_slice_nil (P := Tryd.prog) w 22 54 none 0 c0 0 0 Tryd.underlying22
    go_enter Tryd.func44, Tryd.ntmps44
    go_wp2
    go_ret
    exact ⟨_, rfl, Kd.R_nil _ _ _ _ _, Below.refl _ _⟩
  · have HC := Lib.hid hr0
    clear hr0
    have hbin := fun w => Lib.run_eql_slice_nil (P := Tryd.prog) w 22 54 (some ad) l0.length c0 0 0 Tryd.underlying22
    go_enter Tryd.func44, Tryd.ntmps44
    go_wp2_with (first | ((with_reducible refine gate_dst (N := 5) rfl ?_); refine Kd.R_lit k54 _ 54 ?hg (N := 5) ?hd (xs := ([] : List (S54))) (inner := []) (ok := fun _ => True) (okp := fun _ => True) ?hr ?hp (fun _ hk => hk) trivial (Below.refl _ _) (Nat.le_refl _) (by simp) ?_; (case hd => rfl); (case hg => rfl); (case hr => first | (go_simp; done) | (go_simp; rfl)); (case hp => exact (Reps.none _ _)); intro v1 w1 ho1 hb1 _ _) | ((with_reducible refine gate_builtin (b := .append) (xs := #[.tmp 5, .tmp 6]) rfl ?_); at_builtin; refine Kd.R_append_rows k54 (w0 := w) w.heap.size rfl (.tmp 5) (.tmp 6) 22 54 (.agg #[(.int .i64 0), (.string ⟨#[]⟩)]) 24 rfl Tryd.underlying22 info54 rfl (by decide) (by omega) v1 [] l0 _ _ _ (fun _ => True) (fun _ => False) rfl rfl ?aO ?aR (fun _ _ h => h) (fun _ h => h.elim) ?aF ?aB ?aS ?aL ?_; (case aR => exact Kd.C_below HC.out hb1); (case aF => exact fun _ _ => trivial); (case aB => exact hb1); (case aS => exact hb1.size); (case aL => simp; omega); (case aO => exact ho1); intro v2 w2 ho2 hb2 _ _) | fail)
    obtain ⟨A3, c3, rfl⟩ := Kd.R_slice ho2
    go_ret
    exact ⟨_, rfl, ho2, hb2⟩
theorem flat54 : Flat k54 := by
  intro w w' x c h
  obtain rfl := k54_open h
  exact k54_mk w' x
theorem two_old {w w2 : World} {c1 c2 : Array Value} {t : TypeId} (hb : Below ((w.alloc (.cells c1 t)).alloc (.cells c2 t)).heap.size ((w.alloc (.cells c1 t)).alloc (.cells c2 t)) w2) (_ _ : Unit) : w2.heap[w.heap.size]? = some (.cells c1 t (0, 0)) := by
  have h1 : (w.alloc (.cells c1 t)).heap.size = w.heap.size + 1 := by simp
  have h2 : ((w.alloc (.cells c1 t)).alloc (.cells c2 t)).heap.size = w.heap.size + 2 := by simp
  rw [hb.block w.heap.size (by omega), heap_alloc_old _ _ (by omega)]
  exact heap_alloc_new w _
theorem two_new {w w2 : World} {c1 c2 : Array Value} {t : TypeId} (hb : Below ((w.alloc (.cells c1 t)).alloc (.cells c2 t)).heap.size ((w.alloc (.cells c1 t)).alloc (.cells c2 t)) w2) (_ _ : Unit) : w2.heap[w.heap.size + 1]? = some (.cells c2 t (0, 0)) := by
  have h1 : (w.alloc (.cells c1 t)).heap.size = w.heap.size + 1 := by simp
  have h2 : ((w.alloc (.cells c1 t)).alloc (.cells c2 t)).heap.size = w.heap.size + 2 := by simp
  rw [hb.block (w.heap.size + 1) (by omega), ← h1]
  exact heap_alloc_new _ _
def roll_Append.f (a0_0 a0_1 : Int) (l0_2 l1 : List S54) : Option (Int × Int × List S54) := if l0_2.length + l1.length < 5864062014805 then some (a0_0, a0_1, l0_2 ++ l1) else none
set_option maxHeartbeats 4000000 in
set_option maxRecDepth 100000 in
theorem roll_Append.calls (a0_0 : Int) (a0_1 : Int) (P0_2_ : Nat → Prop) (A0_2 : Option Addr) (c0_2 : Nat) (l0_2 : List (S54)) (A1 : Option Addr) (c1 : Nat) (l1 : List S54) (r1 : Int) (r2 : Int) (r3 : List (S54)) (w : World) (hG : TheG w) (hs0_2 : Kd.V k54 54 w w.heap.size (fun k_ => P0_2_ k_) (.slice A0_2 l0_2.length c0_2) l0_2) (hr1 : Kd.C k54 w A1 l1.length l1) (hc1 : l1.length ≤ c1) (h : roll_Append.f a0_0 a0_1 l0_2 l1 = some (r1, r2, r3)) :
    Calls Tryd.prog 30 #[.agg #[.int .i64 a0_0, .int .i64 a0_1, .slice A0_2 l0_2.length c0_2], .slice A1 l1.length c1] w fun e w' => ∃ v2_ : Value, e = .returned (.agg #[.int .i64 r1, .int .i64 r2, v2_]) ∧ Kd.V k54 54 w' w.heap.size (fun k_ => (P0_2_ k_ ∨ w.heap.size ≤ k_)) v2_ r3 ∧ Below w.heap.size w w' := by
  unfold roll_Append.f at h
  split at h
  case isFalse => exact absurd h (by simp)
  case isTrue hl =>
  simp only [Option.some.injEq, Prod.mk.injEq] at h
  obtain ⟨rfl, rfl, rfl⟩ := h
  obtain ⟨A, c, he, hcl, hF⟩ := hs0_2
  injection he with e1 e2 e3
  subst e1
  subst e3
  have HF := Lib.hid (Kd.F_bound hF)
  have HC := Lib.hid hr1
  clear hF hr1
  have hu24 := Tryd.underlying24
  go_enter Tryd.func30, Tryd.ntmps30
  go_wp2_with (first | ((with_reducible refine gate_builtin (b := .append) (xs := #[.tmp 13, .tmp 14]) rfl ?_); at_builtin; refine V_append_cut k54 flat54 w.heap.size rfl (.tmp 13) (.tmp 14) 22 54 (.agg #[(.int .i64 0), (.string ⟨#[]⟩)]) 24 rfl Tryd.underlying22 info54 rfl (by decide) (by omega) A0_2 l0_2.length l0_2 A1 l1.length c1 l1 (fun k_ => P0_2_ k_ ∧ k_ < w.heap.size) rfl rfl ?aX ?aY ?aL ?_; (case aX => exact Kd.F_alloc (Kd.F_alloc HF.out _) _); (case aY => exact Kd.C_alloc (Kd.C_alloc HC.out _) _); (case aL => omega); intro v2 w2 hv hb; obtain ⟨A3, c3, rfl, hc3, hF3⟩ := hv; have BK : w2.heap[w.heap.size]? = some (.cells #[.int .i64 a0_0, .int .i64 a0_1, .slice A0_2 l0_2.length c0_2] 24 (0, 0)) := two_old hb () (); have BL : w2.heap[w.heap.size + 1]? = some (.cells #[.int .i64 0, .int .i64 0, .slice none 0 0] 24 (0, 0)) := two_new hb () (); have z0 := (bkC BK 0).trans rfl; have z1 := (bkC BK 1).trans rfl; have z2 := (bkC BK 2).trans rfl; have f0 := bkF BK 0; have f1 := bkF BK 1; have f2 := bkF BK 2; have y0 := (bkC BL 0).trans rfl; have y1 := (bkC BL 1).trans rfl; have y2 := (bkC BL 2).trans rfl; have g0 := bkF BL 0; have g1 := bkF BL 1; have g2 := bkF BL 2) | fail)
  have h1 : (w.alloc (.cells #[.int .i64 a0_0, .int .i64 a0_1, .slice A0_2 l0_2.length c0_2] 24)).heap.size = w.heap.size + 1 := by simp
  have h2 : ((w.alloc (.cells #[.int .i64 a0_0, .int .i64 a0_1, .slice A0_2 l0_2.length c0_2] 24)).alloc (.cells #[.int .i64 0, .int .i64 0, .slice none 0 0] 24)).heap.size = w.heap.size + 2 := by simp
  rw [h2] at hF3
  have hB : Below w.heap.size w w2 := pbT (pbA (pbA (Below.refl _ _) _) _) hb
  refine bodyPost_ret (results_cell_row rfl _ _ (w.heap.size + 1) 24 #[.int .i64 a0_0, .int .i64 a0_1, .slice A3 (l0_2.length + l1.length) c3] (0, 0) _ rfl (by refine blk_put (cs := #[.int .i64 a0_0, .int .i64 a0_1, .slice none 0 0]) ?_ 2 _ rfl; refine blk_put (cs := #[.int .i64 a0_0, .int .i64 0, .slice none 0 0]) ?_ 1 _ rfl; refine blk_put (cs := #[.int .i64 0, .int .i64 0, .slice none 0 0]) ?_ 0 _ rfl; refine blk_far ?_ (by simp) _; exact BL) Tryd.underlying24 rfl (by kernel_rfl)) rfl ?_
  refine ⟨_, rfl, ⟨A3, c3, by rw [List.length_append], hc3, ?_⟩, ?_⟩
  · refine Kd.F_mono (ok := fun k => P0_2_ k ∧ k < w.heap.size ∨ w.heap.size + 2 ≤ k) ?_ (fun k hk => hk.imp (fun h => h.1) (fun h => by omega))
    refine Kd.F_far (Kd.F_far (Kd.F_far (Kd.F_far hF3 ?_ _) ?_ _) ?_ _) ?_ _
    all_goals (intro k hk; simp only; omega)
  · exact (((hB.setCell (Nat.le_refl _) _).setCell (Nat.le_succ _) _).setCell (Nat.le_succ _) _).setCell (Nat.le_succ _) _
end Go.Proofs.YtjpihfjgomoijaaDoor.P
end
section
-- Written by a program of this session (wip/tools/pr.py), over the kit's printer; functions named in the texts imported below are given by hand.
namespace Go.Proofs.YtjpihfjgomoijaaDoor.P
open Go.RowKit Go.Proofs.YtjpihfjgomoijaaDoor.K Go.Proofs.YtjpihfjgomoijaaDoorW.PrintWords Go.Proofs.YtjpihfjgomoijaaDoorW.PrintLast Go.Proofs.YtjpihfjgomoijaaDoorW.PrintMore
attribute [local go_sem] max2_int min2_int max_two min_two max_three min_three max_four min_four   -- for this text's walks alone
/-! ### roll_Compact: function 23 -/
def roll_Compact.f (k : Nat) (a0_0 : Int) (a0_1 : Int) (l0_2 : List (S54)) (a1 : Int) : Option (Int × Int × (List (S54))) := (roll_Term.f k a0_0 a0_1 l0_2 a1).bind fun bt167 => (if bt167.2 = true then (if a1 ≤ a0_0 then (some (a0_0, a0_1, l0_2)) else (if 0 ≤ (wrap64 (a1 - a0_0)) then (if (wrap64 (a1 - a0_0)) ≤ (l0_2.length : Int) then ((api_Entry.f (l0_2.drop ((wrap64 (a1 - a0_0)) : Int).toNat)).bind fun t174 => (some (a1, bt167.1, t174))) else (none)) else (none))) else (some (a0_0, a0_1, l0_2)))
theorem roll_Compact.mono : ∀ a0 a1 a2 a3 k, LeO (roll_Compact.f k a0 a1 a2 a3) (roll_Compact.f (k + 1) a0 a1 a2 a3) := by
  intro a0 a1 a2 a3 k
  unfold roll_Compact.f
  repeat' first
      | (with_reducible exact roll_Term.mono _ _ _ _ _)
      | (with_reducible exact LeO.refl _)
      | (with_reducible exact LeO.none _)
      | (with_reducible refine LeO.ite ?_ ?_)
      | (with_reducible refine LeO.bind ?_ (fun _ => ?_))
      | exact roll_Term.mono _ _ _ _ _
      | exact LeO.none _
      | refine LeO.ite ?_ ?_
      | refine LeO.bind ?_ (fun _ => ?_)
set_option maxHeartbeats 8000000 in
set_option maxRecDepth 100000 in
theorem roll_Compact.calls (k : Nat) (a0_0 : Int) (a0_1 : Int) (P0_2_ : Nat → Prop) (A0_2 : Option Addr) (c0_2 : Nat) (l0_2 : List (S54)) (a1 : Int) (r1 : Int) (r2 : Int) (r3 : List (S54)) (w : World) (hG : TheG w) (hs0_2 : Kd.V k54 54 w w.heap.size (fun k_ => P0_2_ k_) (.slice A0_2 l0_2.length c0_2) l0_2) (h : roll_Compact.f k a0_0 a0_1 l0_2 a1 = some (r1, r2, r3)) :
    Calls Tryd.prog 23 #[.agg #[.int .i64 a0_0, .int .i64 a0_1, .slice A0_2 l0_2.length c0_2], .int .i64 a1] w fun e w' => ∃ v2_ : Value, e = .returned (.agg #[.int .i64 r1, .int .i64 r2, v2_]) ∧ Kd.V k54 54 w' w.heap.size (fun k_ => (P0_2_ k_ ∨ w.heap.size ≤ k_)) v2_ r3 ∧ Below w.heap.size w w' := by
  have hu24 := Tryd.underlying24
  have HO0_2 := Az.mk (show Kd.V k54 54 w w.heap.size (fun k_ => (P0_2_ k_ ∨ w.heap.size ≤ k_)) (.slice A0_2 l0_2.length c0_2) l0_2 from Kd.V_mono hs0_2 (fun k_ hk => .inl hk))
  have HB := Az.mk (Below.refl w.heap.size w)
  have H : ((roll_Term.f k a0_0 a0_1 l0_2 a1).bind fun bt167 => (if bt167.2 = true then (if a1 ≤ a0_0 then (some (a0_0, a0_1, l0_2)) else (if 0 ≤ (wrap64 (a1 - a0_0)) then (if (wrap64 (a1 - a0_0)) ≤ (l0_2.length : Int) then ((api_Entry.f (l0_2.drop ((wrap64 (a1 - a0_0)) : Int).toNat)).bind fun t174 => (some (a1, bt167.1, t174))) else (none)) else (none))) else (some (a0_0, a0_1, l0_2)))) = some (r1, r2, r3) := h
  clear h
  replace H := Option.bind_eq_some_iff.mp H
  obtain ⟨⟨t167, t168⟩, A30, H⟩ := H
  replace H : (if t168 = true then (if a1 ≤ a0_0 then (some (a0_0, a0_1, l0_2)) else (if 0 ≤ (wrap64 (a1 - a0_0)) then (if (wrap64 (a1 - a0_0)) ≤ (l0_2.length : Int) then ((api_Entry.f (l0_2.drop ((wrap64 (a1 - a0_0)) : Int).toNat)).bind fun t174 => (some (a1, t167, t174))) else (none)) else (none))) else (some (a0_0, a0_1, l0_2))) = some (r1, r2, r3) := H
  have A3 := Az.mk A30
  clear A30
  by_cases c4 : t168 = true
  · subst c4
    have H1 : (if a1 ≤ a0_0 then (some (a0_0, a0_1, l0_2)) else (if 0 ≤ (wrap64 (a1 - a0_0)) then (if (wrap64 (a1 - a0_0)) ≤ (l0_2.length : Int) then ((api_Entry.f (l0_2.drop ((wrap64 (a1 - a0_0)) : Int).toNat)).bind fun t174 => (some (a1, t167, t174))) else (none)) else (none))) = some (r1, r2, r3) := by rw [if_pos rfl] at H; exact H
    clear H
    have H := H1
    clear H1
    by_cases c5 : a1 ≤ a0_0
    · rw [if_pos c5] at H
      have c5b0 : decide (a1 ≤ a0_0) = true := decide_eq_true c5
      clear c5
      simp only [Option.some.injEq, Prod.mk.injEq] at H
      obtain ⟨rfl, rfl, rfl⟩ := H
      go_enter Tryd.func23, Tryd.ntmps23
      go_wp2_with (first | ((with_reducible refine gate_dst (N := 2) rfl ?_); refine box_event ?hg (N := 2) ?hd (cs := #[.int .i64 a0_0, .int .i64 a0_1, .slice A0_2 l0_2.length c0_2]) (t := 24) ?hr ?_; (case hd => rfl); (case hg => rfl); (case hr => first | (go_simp; done) | (go_simp; rfl)); intro gb165 hg w6 hbox hb; have n0_ := Az.mk (Kd.V_below (Kd.V_elderB (by (with_reducible repeat (first | apply Kd.V_alloc | apply Kd.V_drewN | apply Kd.V_drew)); exact HO0_2.out) gb165 (Nat.le_of_eq hg.symm)) hb); have n1_ := Az.mk (pbT (by repeat (first | (with_reducible first | exact HB.out | apply pbA | apply pbN | apply pb1) | exact HB.out)) hb); have n2_ := Az.mk (hbox); have n3_ := Az.mk ((by rw [hg]; exact (pbZ (by repeat (first | (with_reducible first | exact HB.out | apply pbA | apply pbN | apply pb1) | exact HB.out))) : w.heap.size ≤ gb165)); have n4_ := Az.mk ((by rw [hg]; exact (pbZ (by repeat (first | (with_reducible first | exact HB.out | apply pbA | apply pbN | apply pb1) | exact HB.out))) : w.heap.size ≤ gb165)); clear HO0_2; clear HB; have HO0_2 := n0_; have HB := n1_; have BK165 := n2_; have GW165 := n3_; have GE165 := n4_; clear n0_ n1_ n2_ n3_ n4_; clear hb hbox hg) | ((with_reducible refine gate_dst (N := 4) rfl ?_); refine box_event ?hg (N := 4) ?hd (cs := #[.int .i64 0, .int .i64 0, .slice none 0 0]) (t := 24) ?hr ?_; (case hd => rfl); (case hg => rfl); (case hr => first | (go_simp; done) | (go_simp; rfl)); intro gb166 hg w7 hbox hb; have n0_ := Az.mk (Kd.V_below (Kd.V_elderB (by (with_reducible repeat (first | apply Kd.V_alloc | apply Kd.V_drewN | apply Kd.V_drew)); exact HO0_2.out) gb166 (Nat.le_of_eq hg.symm)) hb); have n1_ := Az.mk (bkB (g := gb165) (o := .cells #[.int .i64 a0_0, .int .i64 a0_1, .slice A0_2 l0_2.length c0_2] 24 (0, 0)) (by (with_reducible repeat (first | refine bkN ?_ _ | refine bkD ?_ | refine bkA ?_ _)); exact BK165.out) hb); have n2_ := Az.mk (pbT (by repeat (first | (with_reducible first | exact HB.out | apply pbA | apply pbN | apply pb1 | refine pbS ?_ GE165.out) | exact HB.out)) hb); have n3_ := Az.mk (hbox); have n4_ := Az.mk ((by rw [hg]; exact (pbZ (by repeat (first | (with_reducible first | exact HB.out | apply pbA | apply pbN | apply pb1 | refine pbS ?_ GE165.out) | exact HB.out))) : w.heap.size ≤ gb166)); have n5_ := Az.mk ((by rw [hg]; exact (pbZ (by repeat (first | (with_reducible first | exact HB.out | apply pbA | apply pbN | apply pb1 | refine pbS ?_ GE165.out) | exact HB.out))) : w.heap.size ≤ gb166)); have n6_ := Az.mk ((by rw [hg]; exact Nat.ne_of_lt (blk_lt (g := gb165) (o := .cells #[.int .i64 a0_0, .int .i64 a0_1, .slice A0_2 l0_2.length c0_2] 24 (0, 0)) (by (with_reducible repeat (first | refine bkN ?_ _ | refine bkD ?_ | refine bkA ?_ _)); exact BK165.out)) : gb165 ≠ gb166)); have n7_ := Az.mk ((by rw [hg]; exact Nat.ne_of_gt (blk_lt (g := gb165) (o := .cells #[.int .i64 a0_0, .int .i64 a0_1, .slice A0_2 l0_2.length c0_2] 24 (0, 0)) (by (with_reducible repeat (first | refine bkN ?_ _ | refine bkD ?_ | refine bkA ?_ _)); exact BK165.out)) : gb166 ≠ gb165)); clear HO0_2; clear BK165; clear HB; have HO0_2 := n0_; have BK165 := n1_; have HB := n2_; have BK166 := n3_; have GW166 := n4_; have GE166 := n5_; have NB165_166 := n6_; have NB166_165 := n7_; clear n0_ n1_ n2_ n3_ n4_ n5_ n6_ n7_; clear hb hbox hg; have hnb8 := NB165_166.out; have hnc8 := NB166_165.out; have hcz9_0 : w7.cell? ⟨gb165, 0, none⟩ = some (.int .i64 a0_0) := (bkC BK165.out 0).trans rfl; have hcz9_1 : w7.cell? ⟨gb165, 1, none⟩ = some (.int .i64 a0_1) := (bkC BK165.out 1).trans rfl; have hcz9_2 : w7.cell? ⟨gb165, 2, none⟩ = some (.slice A0_2 l0_2.length c0_2) := (bkC BK165.out 2).trans rfl; have hfz9_0 := bkF BK165.out 0; have hfz9_1 := bkF BK165.out 1; have hfz9_2 := bkF BK165.out 2) | ((with_reducible refine gtc (f := 24) rfl ?_); refine goesL_ (some 10) rfl rfl Tryd.func24 (by kernel_rfl) rfl #[.agg #[.int .i64 a0_0, .int .i64 a0_1, .slice A0_2 l0_2.length c0_2], .int .i64 a1] rfl (by (try simp only [List.map_toArray, List.map_cons, List.map_nil]); first | done | rfl | (simp only [List.length_drop, List.length_take]; rfl)) ?_; (with_reducible refine (roll_Term.calls k a0_0 a0_1 _ _ l0_2 a1 t167 true _ ?side1 ?side2 ?side3 A3.out).mono ?_); (case side1 => exact hG.below (by repeat (first | (with_reducible first | exact HB.out | apply pbA | apply pbN | apply pb1 | refine pbS ?_ GE165.out | refine pbS ?_ GE166.out) | exact HB.out))); (case side2 => repeat (first | exact (Kd.V_reads' HO0_2.out).2.2 | (with_reducible refine Kd.C_alloc ?_ _) | (with_reducible refine Kd.C_drewN ?_ _) | (with_reducible refine Kd.C_drew ?_))); (case side3 => exact (Kd.V_reads' HO0_2.out).2.1); rintro e w10 ⟨rfl, hb⟩; refine ⟨_, rfl, ?_⟩; have n0_ := Az.mk (Kd.V_below (by (with_reducible repeat (first | apply Kd.V_alloc | apply Kd.V_drewN | apply Kd.V_drew)); exact HO0_2.out) hb); have n1_ := Az.mk (bkB (g := gb165) (o := .cells #[.int .i64 a0_0, .int .i64 a0_1, .slice A0_2 l0_2.length c0_2] 24 (0, 0)) (by (with_reducible repeat (first | refine bkN ?_ _ | refine bkD ?_ | refine bkA ?_ _)); exact BK165.out) hb); have n2_ := Az.mk (bkB (g := gb166) (o := .cells #[.int .i64 0, .int .i64 0, .slice none 0 0] 24 (0, 0)) (by (with_reducible repeat (first | refine bkN ?_ _ | refine bkD ?_ | refine bkA ?_ _)); exact BK166.out) hb); have n3_ := Az.mk (pbT (by repeat (first | (with_reducible first | exact HB.out | apply pbA | apply pbN | apply pb1 | refine pbS ?_ GE165.out | refine pbS ?_ GE166.out) | exact HB.out)) hb); clear HO0_2; clear BK165; clear BK166; clear HB; have HO0_2 := n0_; have BK165 := n1_; have BK166 := n2_; have HB := n3_; clear n0_ n1_ n2_ n3_; (try clear hb); (try clear hb2); (try clear hk); (try clear hi); have hcz11_0 : w10.cell? ⟨gb165, 0, none⟩ = some (.int .i64 a0_0) := (bkC BK165.out 0).trans rfl; have hcz11_1 : w10.cell? ⟨gb165, 1, none⟩ = some (.int .i64 a0_1) := (bkC BK165.out 1).trans rfl; have hcz11_2 : w10.cell? ⟨gb165, 2, none⟩ = some (.slice A0_2 l0_2.length c0_2) := (bkC BK165.out 2).trans rfl; have hfz11_0 := bkF BK165.out 0; have hfz11_1 := bkF BK165.out 1; have hfz11_2 := bkF BK165.out 2; have hcz12_0 : w10.cell? ⟨gb166, 0, none⟩ = some (.int .i64 0) := (bkC BK166.out 0).trans rfl; have hcz12_1 : w10.cell? ⟨gb166, 1, none⟩ = some (.int .i64 0) := (bkC BK166.out 1).trans rfl; have hcz12_2 : w10.cell? ⟨gb166, 2, none⟩ = some (.slice none 0 0) := (bkC BK166.out 2).trans rfl; have hfz12_0 := bkF BK166.out 0; have hfz12_1 := bkF BK166.out 1; have hfz12_2 := bkF BK166.out 2))
      refine bodyPost_ret (results_cell_row rfl _ _ gb166 24 #[.int .i64 a0_0, .int .i64 a0_1, .slice A0_2 l0_2.length c0_2] (0, 0) _ rfl (by (with_reducible repeat (first | refine bkN ?_ _ | refine bkD ?_ | refine bkA ?_ _)); refine blk_put (cs := #[.int .i64 a0_0, .int .i64 a0_1, .slice none 0 0]) ?_ 2 _ rfl; (with_reducible repeat (first | refine bkN ?_ _ | refine bkD ?_ | refine bkA ?_ _)); refine blk_put (cs := #[.int .i64 a0_0, .int .i64 0, .slice none 0 0]) ?_ 1 _ rfl; (with_reducible repeat (first | refine bkN ?_ _ | refine bkD ?_ | refine bkA ?_ _)); refine blk_put (cs := #[.int .i64 0, .int .i64 0, .slice none 0 0]) ?_ 0 _ rfl; (with_reducible repeat (first | refine bkN ?_ _ | refine bkD ?_ | refine bkA ?_ _)); exact BK166.out) Tryd.underlying24 rfl (by kernel_rfl)) rfl ?_
      exact ⟨_, by first | rfl | (simp [errW_none, errW_some] <;> rfl) | (simp [*, errW_none, errW_some] <;> rfl), by (with_reducible repeat (first | apply Kd.V_alloc | apply Kd.V_drewN | apply Kd.V_drew)); exact Kd.V_mono (Kd.V_far (p := ⟨gb166, 2, none⟩) (Kd.V_far (p := ⟨gb166, 1, none⟩) (Kd.V_far (p := ⟨gb166, 0, none⟩) (Kd.V_mono HO0_2.out (fun k_ hk => (⟨hk, hk.2⟩ : _ ∧ k_ ≠ gb166))) (fun _ hk => hk.2) (.int .i64 a0_0)) (fun _ hk => hk.2) (.int .i64 a0_1)) (fun _ hk => hk.2) (.slice A0_2 l0_2.length c0_2)) (fun _ hk => hk.1.1.1), by repeat (first | (with_reducible first | exact HB.out | apply pbA | apply pbN | apply pb1 | refine pbS ?_ GE165.out | refine pbS ?_ GE166.out) | exact HB.out)⟩
    · rw [if_neg c5] at H
      have c5b0 : decide (a1 ≤ a0_0) = false := decide_eq_false c5
      clear c5
      obtain ⟨ji13, hji13⟩ : ∃ j_ : Int, (wrap64 (a1 - a0_0)) = j_ := ⟨_, rfl⟩
      replace H : (if 0 ≤ (ji13) then (if (ji13) ≤ (l0_2.length : Int) then ((api_Entry.f (l0_2.drop ((ji13) : Int).toNat)).bind fun t174 => (some (a1, t167, t174))) else (none)) else (none)) = some (r1, r2, r3) := by first | (rw [hji13] at H; exact H) | (simp only [hji13] at H ⊢; exact H)
      (try rw [hji13] at A3)
      have hji13w : (IntKind.i64.wrap (a1 - a0_0)) = ji13 := (i64_w _).trans hji13
      by_cases c14 : 0 ≤ (ji13)
      · rw [if_pos c14] at H
        have c14b0 := eq_true c14
        have c14b1 : decide (0 ≤ (ji13)) = true := decide_eq_true c14
        clear c14
        by_cases c15 : (ji13) ≤ (l0_2.length : Int)
        · rw [if_pos c15] at H
          have c15b0 := eq_true c15
          have c15b1 : decide ((ji13) ≤ (l0_2.length : Int)) = true := decide_eq_true c15
          clear c15
          obtain ⟨y169, hy169⟩ : ∃ y_ : List (S54), y_ = (l0_2.drop ((ji13) : Int).toNat) := ⟨_, rfl⟩
          replace H : ((api_Entry.f y169).bind fun t174 => (some (a1, t167, t174))) = some (r1, r2, r3) := by first | (rw [hy169]; with_reducible exact H) | (have H2_ := (Option.bind_some _ _).symm.trans H; rw [hy169]; with_reducible exact H2_) | (have H2_ := (Option.bind_some _ _).symm.trans H; with_reducible exact H2_) | with_reducible exact H | (rw [hy169]; exact H) | exact H
          have Ny169 := Az.mk hy169
          clear hy169
          replace H := Option.bind_eq_some_iff.mp H
          obtain ⟨t174, A160, H⟩ := H
          replace H : (some (a1, t167, t174)) = some (r1, r2, r3) := H
          have A16 := Az.mk A160
          clear A160
          simp only [Option.some.injEq, Prod.mk.injEq] at H
          obtain ⟨rfl, rfl, rfl⟩ := H
          go_enter Tryd.func23, Tryd.ntmps23
          go_wp2_with (first | ((with_reducible refine gate_dst (N := 2) rfl ?_); refine box_event ?hg (N := 2) ?hd (cs := #[.int .i64 a0_0, .int .i64 a0_1, .slice A0_2 l0_2.length c0_2]) (t := 24) ?hr ?_; (case hd => rfl); (case hg => rfl); (case hr => first | (go_simp; done) | (go_simp; rfl)); intro gb165 hg w17 hbox hb; have n0_ := Az.mk (Kd.V_below (Kd.V_elderB (by (with_reducible repeat (first | apply Kd.V_alloc | apply Kd.V_drewN | apply Kd.V_drew)); exact HO0_2.out) gb165 (Nat.le_of_eq hg.symm)) hb); have n1_ := Az.mk (pbT (by repeat (first | (with_reducible first | exact HB.out | apply pbA | apply pbN | apply pb1) | exact HB.out)) hb); have n2_ := Az.mk (hbox); have n3_ := Az.mk ((by rw [hg]; exact (pbZ (by repeat (first | (with_reducible first | exact HB.out | apply pbA | apply pbN | apply pb1) | exact HB.out))) : w.heap.size ≤ gb165)); have n4_ := Az.mk ((by rw [hg]; exact (pbZ (by repeat (first | (with_reducible first | exact HB.out | apply pbA | apply pbN | apply pb1) | exact HB.out))) : w.heap.size ≤ gb165)); clear HO0_2; clear HB; have HO0_2 := n0_; have HB := n1_; have BK165 := n2_; have GW165 := n3_; have GE165 := n4_; clear n0_ n1_ n2_ n3_ n4_; clear hb hbox hg) | ((with_reducible refine gate_dst (N := 4) rfl ?_); refine box_event ?hg (N := 4) ?hd (cs := #[.int .i64 0, .int .i64 0, .slice none 0 0]) (t := 24) ?hr ?_; (case hd => rfl); (case hg => rfl); (case hr => first | (go_simp; done) | (go_simp; rfl)); intro gb166 hg w18 hbox hb; have n0_ := Az.mk (Kd.V_below (Kd.V_elderB (by (with_reducible repeat (first | apply Kd.V_alloc | apply Kd.V_drewN | apply Kd.V_drew)); exact HO0_2.out) gb166 (Nat.le_of_eq hg.symm)) hb); have n1_ := Az.mk (bkB (g := gb165) (o := .cells #[.int .i64 a0_0, .int .i64 a0_1, .slice A0_2 l0_2.length c0_2] 24 (0, 0)) (by (with_reducible repeat (first | refine bkN ?_ _ | refine bkD ?_ | refine bkA ?_ _)); exact BK165.out) hb); have n2_ := Az.mk (pbT (by repeat (first | (with_reducible first | exact HB.out | apply pbA | apply pbN | apply pb1 | refine pbS ?_ GE165.out) | exact HB.out)) hb); have n3_ := Az.mk (hbox); have n4_ := Az.mk ((by rw [hg]; exact (pbZ (by repeat (first | (with_reducible first | exact HB.out | apply pbA | apply pbN | apply pb1 | refine pbS ?_ GE165.out) | exact HB.out))) : w.heap.size ≤ gb166)); have n5_ := Az.mk ((by rw [hg]; exact (pbZ (by repeat (first | (with_reducible first | exact HB.out | apply pbA | apply pbN | apply pb1 | refine pbS ?_ GE165.out) | exact HB.out))) : w.heap.size ≤ gb166)); have n6_ := Az.mk ((by rw [hg]; exact Nat.ne_of_lt (blk_lt (g := gb165) (o := .cells #[.int .i64 a0_0, .int .i64 a0_1, .slice A0_2 l0_2.length c0_2] 24 (0, 0)) (by (with_reducible repeat (first | refine bkN ?_ _ | refine bkD ?_ | refine bkA ?_ _)); exact BK165.out)) : gb165 ≠ gb166)); have n7_ := Az.mk ((by rw [hg]; exact Nat.ne_of_gt (blk_lt (g := gb165) (o := .cells #[.int .i64 a0_0, .int .i64 a0_1, .slice A0_2 l0_2.length c0_2] 24 (0, 0)) (by (with_reducible repeat (first | refine bkN ?_ _ | refine bkD ?_ | refine bkA ?_ _)); exact BK165.out)) : gb166 ≠ gb165)); clear HO0_2; clear BK165; clear HB; have HO0_2 := n0_; have BK165 := n1_; have HB := n2_; have BK166 := n3_; have GW166 := n4_; have GE166 := n5_; have NB165_166 := n6_; have NB166_165 := n7_; clear n0_ n1_ n2_ n3_ n4_ n5_ n6_ n7_; clear hb hbox hg; have hnb19 := NB165_166.out; have hnc19 := NB166_165.out; have hcz20_0 : w18.cell? ⟨gb165, 0, none⟩ = some (.int .i64 a0_0) := (bkC BK165.out 0).trans rfl; have hcz20_1 : w18.cell? ⟨gb165, 1, none⟩ = some (.int .i64 a0_1) := (bkC BK165.out 1).trans rfl; have hcz20_2 : w18.cell? ⟨gb165, 2, none⟩ = some (.slice A0_2 l0_2.length c0_2) := (bkC BK165.out 2).trans rfl; have hfz20_0 := bkF BK165.out 0; have hfz20_1 := bkF BK165.out 1; have hfz20_2 := bkF BK165.out 2) | ((with_reducible refine gtc (f := 24) rfl ?_); refine goesL_ (some 10) rfl rfl Tryd.func24 (by kernel_rfl) rfl #[.agg #[.int .i64 a0_0, .int .i64 a0_1, .slice A0_2 l0_2.length c0_2], .int .i64 a1] rfl (by (try simp only [List.map_toArray, List.map_cons, List.map_nil]); first | done | rfl | (simp only [List.length_drop, List.length_take]; rfl)) ?_; (with_reducible refine (roll_Term.calls k a0_0 a0_1 _ _ l0_2 a1 t167 true _ ?side1 ?side2 ?side3 A3.out).mono ?_); (case side1 => exact hG.below (by repeat (first | (with_reducible first | exact HB.out | apply pbA | apply pbN | apply pb1 | refine pbS ?_ GE165.out | refine pbS ?_ GE166.out) | exact HB.out))); (case side2 => repeat (first | exact (Kd.V_reads' HO0_2.out).2.2 | (with_reducible refine Kd.C_alloc ?_ _) | (with_reducible refine Kd.C_drewN ?_ _) | (with_reducible refine Kd.C_drew ?_))); (case side3 => exact (Kd.V_reads' HO0_2.out).2.1); rintro e w21 ⟨rfl, hb⟩; refine ⟨_, rfl, ?_⟩; have n0_ := Az.mk (Kd.V_below (by (with_reducible repeat (first | apply Kd.V_alloc | apply Kd.V_drewN | apply Kd.V_drew)); exact HO0_2.out) hb); have n1_ := Az.mk (bkB (g := gb165) (o := .cells #[.int .i64 a0_0, .int .i64 a0_1, .slice A0_2 l0_2.length c0_2] 24 (0, 0)) (by (with_reducible repeat (first | refine bkN ?_ _ | refine bkD ?_ | refine bkA ?_ _)); exact BK165.out) hb); have n2_ := Az.mk (bkB (g := gb166) (o := .cells #[.int .i64 0, .int .i64 0, .slice none 0 0] 24 (0, 0)) (by (with_reducible repeat (first | refine bkN ?_ _ | refine bkD ?_ | refine bkA ?_ _)); exact BK166.out) hb); have n3_ := Az.mk (pbT (by repeat (first | (with_reducible first | exact HB.out | apply pbA | apply pbN | apply pb1 | refine pbS ?_ GE165.out | refine pbS ?_ GE166.out) | exact HB.out)) hb); clear HO0_2; clear BK165; clear BK166; clear HB; have HO0_2 := n0_; have BK165 := n1_; have BK166 := n2_; have HB := n3_; clear n0_ n1_ n2_ n3_; (try clear hb); (try clear hb2); (try clear hk); (try clear hi); have hcz22_0 : w21.cell? ⟨gb165, 0, none⟩ = some (.int .i64 a0_0) := (bkC BK165.out 0).trans rfl; have hcz22_1 : w21.cell? ⟨gb165, 1, none⟩ = some (.int .i64 a0_1) := (bkC BK165.out 1).trans rfl; have hcz22_2 : w21.cell? ⟨gb165, 2, none⟩ = some (.slice A0_2 l0_2.length c0_2) := (bkC BK165.out 2).trans rfl; have hfz22_0 := bkF BK165.out 0; have hfz22_1 := bkF BK165.out 1; have hfz22_2 := bkF BK165.out 2; have q23 : ((ji13) : Int) ≤ ((l0_2.length : Int) : Int) := of_decide_eq_true (by first | (with_reducible assumption) | assumption); obtain ⟨i023, hi023, _, hsz23, _⟩ := info_parts info54; have hroom23 : l0_2.length ≤ c0_2 := (Kd.V_reads' HO0_2.out).2.1; have hC23 : Kd.F k54 _ _ A0_2 l0_2.length l0_2 := (Kd.V_at (base := w.heap.size) HO0_2.out).2.2; have q023 : (0 : Int) ≤ ((ji13) : Int) := of_decide_eq_true (by first | (with_reducible assumption) | assumption); have hcut23 := cut_from (P := Tryd.prog) 22 54 .i64 Tryd.underlying22 hi023 2 hsz23 A0_2 l0_2.length c0_2 (ji13) q023 q23; have hr23 := Kd.F_cut (m := ((ji13) : Int).toNat) (c := c0_2) hC23 (by omega) hroom23; obtain ⟨A23, hA23⟩ : ∃ A1, A1 = (if c0_2 = ((ji13) : Int).toNat then A0_2 else (A0_2 : Option Addr).map (·.add (((ji13) : Int).toNat * 2))) := ⟨_, rfl⟩; obtain ⟨c23, hc23⟩ : ∃ c1, c1 = c0_2 - ((ji13) : Int).toNat := ⟨_, rfl⟩; have hy23 : y169.length = l0_2.length - ((ji13) : Int).toNat := (by rw [Ny169.out, List.length_drop] <;> omega); rw [show (l0_2).drop ((ji13) : Int).toNat = y169 from Ny169.out.symm] at hr23; replace hr23 : Kd.F k54 _ _ A23 y169.length y169 := (by rw [hA23]; exact hr23); rw [← hy23, ← hA23, ← hc23] at hcut23; have HO173 := Az.mk (show Kd.V k54 54 _ w.heap.size _ (.slice A23 y169.length c23) y169 from Kd.V_mk (by rw [hy23, hc23]; exact Nat.sub_le_sub_right hroom23 _) hr23); have HC173 := Az.mk (show y169.length ≤ c23 from by rw [hy23, hc23]; exact Nat.sub_le_sub_right hroom23 _); clear hr23 hC23 hroom23 hi023 hsz23 hc23; have KY23 := Az.mk hy23; have KA23 := Az.mk hA23; clear hy23 hA23; replace q23 := eq_true q23) | ((with_reducible refine gtc (f := 44) rfl ?_); refine goesL_ (some 31) rfl rfl Tryd.func44 (by kernel_rfl) rfl #[.slice A23 y169.length c23] rfl (by (try simp only [List.map_toArray, List.map_cons, List.map_nil]); first | done | rfl | (simp only [List.length_drop, List.length_take]; rfl)) ?_; (with_reducible refine (api_Entry.calls _ _ y169 t174 _ ?side1 ?side2 ?side3 A16.out).mono ?_); (case side1 => exact hG.below (by repeat (first | (with_reducible first | exact HB.out | apply pbA | apply pbN | apply pb1 | refine pbS ?_ GE165.out | refine pbS ?_ GE166.out) | exact HB.out))); (case side2 => repeat (first | exact (Kd.V_reads' HO173.out).2.2 | (with_reducible refine Kd.C_alloc ?_ _) | (with_reducible refine Kd.C_drewN ?_ _) | (with_reducible refine Kd.C_drew ?_))); (case side3 => exact (Kd.V_reads' HO173.out).2.1); rintro e w24 ⟨v175, rfl, ho0, hb⟩; refine ⟨_, rfl, ?_⟩; have n0_ := Az.mk (Kd.V_elder' (by (with_reducible repeat (first | apply Kd.V_alloc | apply Kd.V_drewN | apply Kd.V_drew)); exact HO0_2.out) (Kd.R_base ho0) hb); have n1_ := Az.mk (Kd.V_elder' (by (with_reducible repeat (first | apply Kd.V_alloc | apply Kd.V_drewN | apply Kd.V_drew)); exact HO173.out) (Kd.R_base ho0) hb); have n2_ := Az.mk (Kd.R_lower (Kd.R_newM (M := fun k_ => (w.heap.size ≤ k_)) (Kd.R_mono (ok' := fun k_ => True) ho0 (fun _ hk_ => trivial)) (pbZ (by repeat (first | (with_reducible first | exact HB.out | apply pbA | apply pbN | apply pb1 | refine pbS ?_ GE165.out | refine pbS ?_ GE166.out) | exact HB.out))) (fun k_ h_ => h_)) (pbZ (by repeat (first | (with_reducible first | exact HB.out | apply pbA | apply pbN | apply pb1 | refine pbS ?_ GE165.out | refine pbS ?_ GE166.out) | exact HB.out)))); have n3_ := Az.mk (bkB (g := gb165) (o := .cells #[.int .i64 a0_0, .int .i64 a0_1, .slice A0_2 l0_2.length c0_2] 24 (0, 0)) (by (with_reducible repeat (first | refine bkN ?_ _ | refine bkD ?_ | refine bkA ?_ _)); exact BK165.out) hb); have n4_ := Az.mk (bkB (g := gb166) (o := .cells #[.int .i64 0, .int .i64 0, .slice none 0 0] 24 (0, 0)) (by (with_reducible repeat (first | refine bkN ?_ _ | refine bkD ?_ | refine bkA ?_ _)); exact BK166.out) hb); have n5_ := Az.mk (pbT (by repeat (first | (with_reducible first | exact HB.out | apply pbA | apply pbN | apply pb1 | refine pbS ?_ GE165.out | refine pbS ?_ GE166.out) | exact HB.out)) hb); clear HO0_2; clear HO173; clear BK165; clear BK166; clear HB; have HO0_2 := n0_; have HO173 := n1_; have HO176 := n2_; have BK165 := n3_; have BK166 := n4_; have HB := n5_; clear n0_ n1_ n2_ n3_ n4_ n5_; (try clear hb); (try clear hb2); (try clear hk); (try clear hi); (try clear ho0); obtain ⟨Ao25, co25, eo25⟩ := Kd.R_slice HO176.out; subst eo25; have hcz26_0 : w24.cell? ⟨gb166, 0, none⟩ = some (.int .i64 0) := (bkC BK166.out 0).trans rfl; have hcz26_1 : w24.cell? ⟨gb166, 1, none⟩ = some (.int .i64 0) := (bkC BK166.out 1).trans rfl; have hcz26_2 : w24.cell? ⟨gb166, 2, none⟩ = some (.slice none 0 0) := (bkC BK166.out 2).trans rfl; have hfz26_0 := bkF BK166.out 0; have hfz26_1 := bkF BK166.out 1; have hfz26_2 := bkF BK166.out 2))
          refine bodyPost_ret (results_cell_row rfl _ _ gb166 24 #[.int .i64 a1, .int .i64 t167, .slice Ao25 t174.length co25] (0, 0) _ rfl (by (with_reducible repeat (first | refine bkN ?_ _ | refine bkD ?_ | refine bkA ?_ _)); refine blk_put (cs := #[.int .i64 a1, .int .i64 t167, .slice none 0 0]) ?_ 2 _ rfl; (with_reducible repeat (first | refine bkN ?_ _ | refine bkD ?_ | refine bkA ?_ _)); refine blk_put (cs := #[.int .i64 a1, .int .i64 0, .slice none 0 0]) ?_ 1 _ rfl; (with_reducible repeat (first | refine bkN ?_ _ | refine bkD ?_ | refine bkA ?_ _)); refine blk_put (cs := #[.int .i64 0, .int .i64 0, .slice none 0 0]) ?_ 0 _ rfl; (with_reducible repeat (first | refine bkN ?_ _ | refine bkD ?_ | refine bkA ?_ _)); exact BK166.out) Tryd.underlying24 rfl (by kernel_rfl)) rfl ?_
          exact ⟨_, by first | rfl | (simp [errW_none, errW_some] <;> rfl) | (simp only [← hji13]; first | rfl | (simp [errW_none, errW_some] <;> rfl)) | (simp [*, errW_none, errW_some] <;> rfl), Kd.V_mono (Kd.R_V (by (with_reducible repeat (first | apply Kd.R_alloc | apply Kd.R_drewN | apply Kd.R_drew)); exact Kd.R_mono (Kd.R_far (p := ⟨gb166, 2, none⟩) (Kd.R_far (p := ⟨gb166, 1, none⟩) (Kd.R_far (p := ⟨gb166, 0, none⟩) (Kd.R_types HO176.out BK166.out (by decide)) (fun _ hk => hk.2) (.int .i64 a1)) (fun _ hk => hk.2) (.int .i64 t167)) (fun _ hk => hk.2) (.slice Ao25 t174.length co25)) (fun _ hk => hk.1.1))) (fun k_ hk => by first | exact ⟨(.inr (hk.1)), hk.2⟩ | exact (.inr (hk))), by repeat (first | (with_reducible first | exact HB.out | apply pbA | apply pbN | apply pb1 | refine pbS ?_ GE165.out | refine pbS ?_ GE166.out) | exact HB.out)⟩
        · rw [if_neg c15] at H
          exact absurd H (by simp)
      · rw [if_neg c14] at H
        exact absurd H (by simp)
  · replace c4 := Bool.eq_false_iff.mpr c4
    subst c4
    have H1 : (some (a0_0, a0_1, l0_2)) = some (r1, r2, r3) := by rw [if_neg (show ¬ (false = true) by decide)] at H; exact H
    clear H
    have H := H1
    clear H1
    simp only [Option.some.injEq, Prod.mk.injEq] at H
    obtain ⟨rfl, rfl, rfl⟩ := H
    go_enter Tryd.func23, Tryd.ntmps23
    go_wp2_with (first | ((with_reducible refine gate_dst (N := 2) rfl ?_); refine box_event ?hg (N := 2) ?hd (cs := #[.int .i64 a0_0, .int .i64 a0_1, .slice A0_2 l0_2.length c0_2]) (t := 24) ?hr ?_; (case hd => rfl); (case hg => rfl); (case hr => first | (go_simp; done) | (go_simp; rfl)); intro gb165 hg w27 hbox hb; have n0_ := Az.mk (Kd.V_below (Kd.V_elderB (by (with_reducible repeat (first | apply Kd.V_alloc | apply Kd.V_drewN | apply Kd.V_drew)); exact HO0_2.out) gb165 (Nat.le_of_eq hg.symm)) hb); have n1_ := Az.mk (pbT (by repeat (first | (with_reducible first | exact HB.out | apply pbA | apply pbN | apply pb1) | exact HB.out)) hb); have n2_ := Az.mk (hbox); have n3_ := Az.mk ((by rw [hg]; exact (pbZ (by repeat (first | (with_reducible first | exact HB.out | apply pbA | apply pbN | apply pb1) | exact HB.out))) : w.heap.size ≤ gb165)); have n4_ := Az.mk ((by rw [hg]; exact (pbZ (by repeat (first | (with_reducible first | exact HB.out | apply pbA | apply pbN | apply pb1) | exact HB.out))) : w.heap.size ≤ gb165)); clear HO0_2; clear HB; have HO0_2 := n0_; have HB := n1_; have BK165 := n2_; have GW165 := n3_; have GE165 := n4_; clear n0_ n1_ n2_ n3_ n4_; clear hb hbox hg) | ((with_reducible refine gate_dst (N := 4) rfl ?_); refine box_event ?hg (N := 4) ?hd (cs := #[.int .i64 0, .int .i64 0, .slice none 0 0]) (t := 24) ?hr ?_; (case hd => rfl); (case hg => rfl); (case hr => first | (go_simp; done) | (go_simp; rfl)); intro gb166 hg w28 hbox hb; have n0_ := Az.mk (Kd.V_below (Kd.V_elderB (by (with_reducible repeat (first | apply Kd.V_alloc | apply Kd.V_drewN | apply Kd.V_drew)); exact HO0_2.out) gb166 (Nat.le_of_eq hg.symm)) hb); have n1_ := Az.mk (bkB (g := gb165) (o := .cells #[.int .i64 a0_0, .int .i64 a0_1, .slice A0_2 l0_2.length c0_2] 24 (0, 0)) (by (with_reducible repeat (first | refine bkN ?_ _ | refine bkD ?_ | refine bkA ?_ _)); exact BK165.out) hb); have n2_ := Az.mk (pbT (by repeat (first | (with_reducible first | exact HB.out | apply pbA | apply pbN | apply pb1 | refine pbS ?_ GE165.out) | exact HB.out)) hb); have n3_ := Az.mk (hbox); have n4_ := Az.mk ((by rw [hg]; exact (pbZ (by repeat (first | (with_reducible first | exact HB.out | apply pbA | apply pbN | apply pb1 | refine pbS ?_ GE165.out) | exact HB.out))) : w.heap.size ≤ gb166)); have n5_ := Az.mk ((by rw [hg]; exact (pbZ (by repeat (first | (with_reducible first | exact HB.out | apply pbA | apply pbN | apply pb1 | refine pbS ?_ GE165.out) | exact HB.out))) : w.heap.size ≤ gb166)); have n6_ := Az.mk ((by rw [hg]; exact Nat.ne_of_lt (blk_lt (g := gb165) (o := .cells #[.int .i64 a0_0, .int .i64 a0_1, .slice A0_2 l0_2.length c0_2] 24 (0, 0)) (by (with_reducible repeat (first | refine bkN ?_ _ | refine bkD ?_ | refine bkA ?_ _)); exact BK165.out)) : gb165 ≠ gb166)); have n7_ := Az.mk ((by rw [hg]; exact Nat.ne_of_gt (blk_lt (g := gb165) (o := .cells #[.int .i64 a0_0, .int .i64 a0_1, .slice A0_2 l0_2.length c0_2] 24 (0, 0)) (by (with_reducible repeat (first | refine bkN ?_ _ | refine bkD ?_ | refine bkA ?_ _)); exact BK165.out)) : gb166 ≠ gb165)); clear HO0_2; clear BK165; clear HB; have HO0_2 := n0_; have BK165 := n1_; have HB := n2_; have BK166 := n3_; have GW166 := n4_; have GE166 := n5_; have NB165_166 := n6_; have NB166_165 := n7_; clear n0_ n1_ n2_ n3_ n4_ n5_ n6_ n7_; clear hb hbox hg; have hnb29 := NB165_166.out; have hnc29 := NB166_165.out; have hcz30_0 : w28.cell? ⟨gb165, 0, none⟩ = some (.int .i64 a0_0) := (bkC BK165.out 0).trans rfl; have hcz30_1 : w28.cell? ⟨gb165, 1, none⟩ = some (.int .i64 a0_1) := (bkC BK165.out 1).trans rfl; have hcz30_2 : w28.cell? ⟨gb165, 2, none⟩ = some (.slice A0_2 l0_2.length c0_2) := (bkC BK165.out 2).trans rfl; have hfz30_0 := bkF BK165.out 0; have hfz30_1 := bkF BK165.out 1; have hfz30_2 := bkF BK165.out 2) | ((with_reducible refine gtc (f := 24) rfl ?_); refine goesL_ (some 10) rfl rfl Tryd.func24 (by kernel_rfl) rfl #[.agg #[.int .i64 a0_0, .int .i64 a0_1, .slice A0_2 l0_2.length c0_2], .int .i64 a1] rfl (by (try simp only [List.map_toArray, List.map_cons, List.map_nil]); first | done | rfl | (simp only [List.length_drop, List.length_take]; rfl)) ?_; (with_reducible refine (roll_Term.calls k a0_0 a0_1 _ _ l0_2 a1 t167 false _ ?side1 ?side2 ?side3 A3.out).mono ?_); (case side1 => exact hG.below (by repeat (first | (with_reducible first | exact HB.out | apply pbA | apply pbN | apply pb1 | refine pbS ?_ GE165.out | refine pbS ?_ GE166.out) | exact HB.out))); (case side2 => repeat (first | exact (Kd.V_reads' HO0_2.out).2.2 | (with_reducible refine Kd.C_alloc ?_ _) | (with_reducible refine Kd.C_drewN ?_ _) | (with_reducible refine Kd.C_drew ?_))); (case side3 => exact (Kd.V_reads' HO0_2.out).2.1); rintro e w31 ⟨rfl, hb⟩; refine ⟨_, rfl, ?_⟩; have n0_ := Az.mk (Kd.V_below (by (with_reducible repeat (first | apply Kd.V_alloc | apply Kd.V_drewN | apply Kd.V_drew)); exact HO0_2.out) hb); have n1_ := Az.mk (bkB (g := gb165) (o := .cells #[.int .i64 a0_0, .int .i64 a0_1, .slice A0_2 l0_2.length c0_2] 24 (0, 0)) (by (with_reducible repeat (first | refine bkN ?_ _ | refine bkD ?_ | refine bkA ?_ _)); exact BK165.out) hb); have n2_ := Az.mk (bkB (g := gb166) (o := .cells #[.int .i64 0, .int .i64 0, .slice none 0 0] 24 (0, 0)) (by (with_reducible repeat (first | refine bkN ?_ _ | refine bkD ?_ | refine bkA ?_ _)); exact BK166.out) hb); have n3_ := Az.mk (pbT (by repeat (first | (with_reducible first | exact HB.out | apply pbA | apply pbN | apply pb1 | refine pbS ?_ GE165.out | refine pbS ?_ GE166.out) | exact HB.out)) hb); clear HO0_2; clear BK165; clear BK166; clear HB; have HO0_2 := n0_; have BK165 := n1_; have BK166 := n2_; have HB := n3_; clear n0_ n1_ n2_ n3_; (try clear hb); (try clear hb2); (try clear hk); (try clear hi); have hcz32_0 : w31.cell? ⟨gb165, 0, none⟩ = some (.int .i64 a0_0) := (bkC BK165.out 0).trans rfl; have hcz32_1 : w31.cell? ⟨gb165, 1, none⟩ = some (.int .i64 a0_1) := (bkC BK165.out 1).trans rfl; have hcz32_2 : w31.cell? ⟨gb165, 2, none⟩ = some (.slice A0_2 l0_2.length c0_2) := (bkC BK165.out 2).trans rfl; have hfz32_0 := bkF BK165.out 0; have hfz32_1 := bkF BK165.out 1; have hfz32_2 := bkF BK165.out 2; have hcz33_0 : w31.cell? ⟨gb166, 0, none⟩ = some (.int .i64 0) := (bkC BK166.out 0).trans rfl; have hcz33_1 : w31.cell? ⟨gb166, 1, none⟩ = some (.int .i64 0) := (bkC BK166.out 1).trans rfl; have hcz33_2 : w31.cell? ⟨gb166, 2, none⟩ = some (.slice none 0 0) := (bkC BK166.out 2).trans rfl; have hfz33_0 := bkF BK166.out 0; have hfz33_1 := bkF BK166.out 1; have hfz33_2 := bkF BK166.out 2))
    refine bodyPost_ret (results_cell_row rfl _ _ gb166 24 #[.int .i64 a0_0, .int .i64 a0_1, .slice A0_2 l0_2.length c0_2] (0, 0) _ rfl (by (with_reducible repeat (first | refine bkN ?_ _ | refine bkD ?_ | refine bkA ?_ _)); refine blk_put (cs := #[.int .i64 a0_0, .int .i64 a0_1, .slice none 0 0]) ?_ 2 _ rfl; (with_reducible repeat (first | refine bkN ?_ _ | refine bkD ?_ | refine bkA ?_ _)); refine blk_put (cs := #[.int .i64 a0_0, .int .i64 0, .slice none 0 0]) ?_ 1 _ rfl; (with_reducible repeat (first | refine bkN ?_ _ | refine bkD ?_ | refine bkA ?_ _)); refine blk_put (cs := #[.int .i64 0, .int .i64 0, .slice none 0 0]) ?_ 0 _ rfl; (with_reducible repeat (first | refine bkN ?_ _ | refine bkD ?_ | refine bkA ?_ _)); exact BK166.out) Tryd.underlying24 rfl (by kernel_rfl)) rfl ?_
    exact ⟨_, by first | rfl | (simp [errW_none, errW_some] <;> rfl) | (simp [*, errW_none, errW_some] <;> rfl), by (with_reducible repeat (first | apply Kd.V_alloc | apply Kd.V_drewN | apply Kd.V_drew)); exact Kd.V_mono (Kd.V_far (p := ⟨gb166, 2, none⟩) (Kd.V_far (p := ⟨gb166, 1, none⟩) (Kd.V_far (p := ⟨gb166, 0, none⟩) (Kd.V_mono HO0_2.out (fun k_ hk => (⟨hk, hk.2⟩ : _ ∧ k_ ≠ gb166))) (fun _ hk => hk.2) (.int .i64 a0_0)) (fun _ hk => hk.2) (.int .i64 a0_1)) (fun _ hk => hk.2) (.slice A0_2 l0_2.length c0_2)) (fun _ hk => hk.1.1.1), by repeat (first | (with_reducible first | exact HB.out | apply pbA | apply pbN | apply pb1 | refine pbS ?_ GE165.out | refine pbS ?_ GE166.out) | exact HB.out)⟩
end Go.Proofs.YtjpihfjgomoijaaDoor.P
end
section
-- Written by a program of this session (wip/tools/pr.py), over the kit's printer; functions named in the texts imported below are given by hand.
namespace Go.Proofs.YtjpihfjgomoijaaDoor.P
open Go.RowKit Go.Proofs.YtjpihfjgomoijaaDoor.K Go.Proofs.YtjpihfjgomoijaaDoorW.PrintWords Go.Proofs.YtjpihfjgomoijaaDoorW.PrintLast Go.Proofs.YtjpihfjgomoijaaDoorW.PrintMore
attribute [local go_sem] max2_int min2_int max_two min_two max_three min_three max_four min_four   -- for this text's walks alone
/-! ### l11_some: function 34 -/
def l11_some.f  : Option (Int × Int × (List (S54))) := some (4, 1, (([(⟨1, (⟨#[97]⟩ : ByteArray)⟩ : S54), (⟨1, (⟨#[98]⟩ : ByteArray)⟩ : S54), (⟨2, (⟨#[99]⟩ : ByteArray)⟩ : S54)] : List (S54))))
set_option maxHeartbeats 8000000 in
set_option maxRecDepth 100000 in
theorem l11_some.calls  (r1 : Int) (r2 : Int) (r3 : List (S54)) (w : World) (hG : TheG w) (h : l11_some.f  = some (r1, r2, r3)) :
    Calls Tryd.prog 34 #[] w fun e w' => ∃ v2_ : Value, e = .returned (.agg #[.int .i64 r1, .int .i64 r2, v2_]) ∧ Kd.R k54 54 w' w.heap.size (fun _ => True) v2_ r3 ∧ Below w.heap.size w w' := by
  have hu24 := Tryd.underlying24
  have hu54 := Tryd.underlying54
  have HB := Az.mk (Below.refl w.heap.size w)
  have H : (some (4, 1, (([(⟨1, (⟨#[97]⟩ : ByteArray)⟩ : S54), (⟨1, (⟨#[98]⟩ : ByteArray)⟩ : S54), (⟨2, (⟨#[99]⟩ : ByteArray)⟩ : S54)] : List (S54))))) = some (r1, r2, r3) := h
  clear h
  obtain ⟨y178, hy178⟩ : ∃ y_ : List (S54), y_ = (([(⟨1, (⟨#[97]⟩ : ByteArray)⟩ : S54), (⟨1, (⟨#[98]⟩ : ByteArray)⟩ : S54), (⟨2, (⟨#[99]⟩ : ByteArray)⟩ : S54)] : List (S54))) := ⟨_, rfl⟩
  replace H : (some (4, 1, y178)) = some (r1, r2, r3) := by first | (rw [hy178]; with_reducible exact H) | (have H2_ := (Option.bind_some _ _).symm.trans H; rw [hy178]; with_reducible exact H2_) | (have H2_ := (Option.bind_some _ _).symm.trans H; with_reducible exact H2_) | with_reducible exact H | (rw [hy178]; exact H) | exact H
  have Ny178 := Az.mk hy178
  clear hy178
  simp only [Option.some.injEq, Prod.mk.injEq] at H
  obtain ⟨rfl, rfl, rfl⟩ := H
  go_enter Tryd.func34, Tryd.ntmps34
  go_wp2_with (first | ((with_reducible refine gate_dst (N := 0) rfl ?_); refine box_event ?hg (N := 0) ?hd (cs := #[.int .i64 0, .int .i64 0, .slice none 0 0]) (t := 24) ?hr ?_; (case hd => rfl); (case hg => rfl); (case hr => first | (go_simp; done) | (go_simp; rfl)); intro gb177 hg w1 hbox hb; have n0_ := Az.mk (pbT (by repeat (first | (with_reducible first | exact HB.out | apply pbA | apply pbN | apply pb1) | exact HB.out)) hb); have n1_ := Az.mk (hbox); have n2_ := Az.mk ((by rw [hg]; exact (pbZ (by repeat (first | (with_reducible first | exact HB.out | apply pbA | apply pbN | apply pb1) | exact HB.out))) : w.heap.size ≤ gb177)); have n3_ := Az.mk ((by rw [hg]; exact (pbZ (by repeat (first | (with_reducible first | exact HB.out | apply pbA | apply pbN | apply pb1) | exact HB.out))) : w.heap.size ≤ gb177)); clear HB; have HB := n0_; have BK177 := n1_; have GW177 := n2_; have GE177 := n3_; clear n0_ n1_ n2_ n3_; clear hb hbox hg) | ((with_reducible refine gate_dst (N := 4) rfl ?_); refine Kd.R_lit k54 _ 54 ?hg (N := 4) ?hd (xs := ([(⟨1, (⟨#[97]⟩ : ByteArray)⟩ : S54), (⟨1, (⟨#[98]⟩ : ByteArray)⟩ : S54), (⟨2, (⟨#[99]⟩ : ByteArray)⟩ : S54)] : List (S54))) (inner := [.int .i64 1, .string (⟨#[97]⟩ : ByteArray), .int .i64 1, .string (⟨#[98]⟩ : ByteArray), .int .i64 2, .string (⟨#[99]⟩ : ByteArray)]) (ok := fun _ => True) (okp := fun _ => True) ?hr ?hp (fun _ hk => hk) trivial (Below.refl _ _) (Nat.le_refl _) (by simp) ?_; (case hd => rfl); (case hg => rfl); (case hr => first | (go_simp; done) | (go_simp; rfl)); (case hp => exact (Reps.c2 (show Kd.M k54 _ _ _ (⟨1, (⟨#[97]⟩ : ByteArray)⟩ : S54) [.int .i64 1, .string (⟨#[97]⟩ : ByteArray)] from (k54_mkM _ _ _ (⟨1, (⟨#[97]⟩ : ByteArray)⟩ : S54) )) (Reps.c2 (show Kd.M k54 _ _ _ (⟨1, (⟨#[98]⟩ : ByteArray)⟩ : S54) [.int .i64 1, .string (⟨#[98]⟩ : ByteArray)] from (k54_mkM _ _ _ (⟨1, (⟨#[98]⟩ : ByteArray)⟩ : S54) )) (Reps.c2 (show Kd.M k54 _ _ _ (⟨2, (⟨#[99]⟩ : ByteArray)⟩ : S54) [.int .i64 2, .string (⟨#[99]⟩ : ByteArray)] from (k54_mkM _ _ _ (⟨2, (⟨#[99]⟩ : ByteArray)⟩ : S54) )) (Reps.none _ _))))); intro v179 w2 ho3 hb hg_ hnew_; clear hg_ hnew_; (first | rw [← Ny178.out] at ho3 | (simp only [Int.reduceToNat] at ho3; rw [← Ny178.out] at ho3)); have n0_ := Az.mk (Kd.R_lower ho3 (pbZ (by repeat (first | (with_reducible first | exact HB.out | apply pbA | apply pbN | apply pb1 | refine pbS ?_ GE177.out) | exact HB.out)))); have n1_ := Az.mk (bkB (g := gb177) (o := .cells #[.int .i64 0, .int .i64 0, .slice none 0 0] 24 (0, 0)) (by (with_reducible repeat (first | refine bkN ?_ _ | refine bkD ?_ | refine bkA ?_ _)); exact BK177.out) hb); have n2_ := Az.mk (pbT (by repeat (first | (with_reducible first | exact HB.out | apply pbA | apply pbN | apply pb1 | refine pbS ?_ GE177.out) | exact HB.out)) hb); clear BK177; clear HB; have HO180 := n0_; have BK177 := n1_; have HB := n2_; clear n0_ n1_ n2_; clear hb ho3; obtain ⟨Ao4, co4, eo4⟩ := Kd.R_slice HO180.out; subst eo4; have hcz5_0 : w2.cell? ⟨gb177, 0, none⟩ = some (.int .i64 0) := (bkC BK177.out 0).trans rfl; have hcz5_1 : w2.cell? ⟨gb177, 1, none⟩ = some (.int .i64 0) := (bkC BK177.out 1).trans rfl; have hcz5_2 : w2.cell? ⟨gb177, 2, none⟩ = some (.slice none 0 0) := (bkC BK177.out 2).trans rfl; have hfz5_0 := bkF BK177.out 0; have hfz5_1 := bkF BK177.out 1; have hfz5_2 := bkF BK177.out 2))
  refine bodyPost_ret (results_cell_row rfl _ _ gb177 24 #[.int .i64 4, .int .i64 1, .slice Ao4 y178.length co4] (0, 0) _ rfl (by (with_reducible repeat (first | refine bkN ?_ _ | refine bkD ?_ | refine bkA ?_ _)); refine blk_put (cs := #[.int .i64 4, .int .i64 1, .slice none 0 0]) ?_ 2 _ rfl; (with_reducible repeat (first | refine bkN ?_ _ | refine bkD ?_ | refine bkA ?_ _)); refine blk_put (cs := #[.int .i64 4, .int .i64 0, .slice none 0 0]) ?_ 1 _ rfl; (with_reducible repeat (first | refine bkN ?_ _ | refine bkD ?_ | refine bkA ?_ _)); refine blk_put (cs := #[.int .i64 0, .int .i64 0, .slice none 0 0]) ?_ 0 _ rfl; (with_reducible repeat (first | refine bkN ?_ _ | refine bkD ?_ | refine bkA ?_ _)); exact BK177.out) Tryd.underlying24 rfl (by kernel_rfl)) rfl ?_
  exact ⟨_, by first | rfl | (simp [errW_none, errW_some] <;> rfl) | (simp [*, errW_none, errW_some] <;> rfl), by (with_reducible repeat (first | apply Kd.R_alloc | apply Kd.R_drewN | apply Kd.R_drew)); exact Kd.R_mono (Kd.R_far (p := ⟨gb177, 2, none⟩) (Kd.R_far (p := ⟨gb177, 1, none⟩) (Kd.R_far (p := ⟨gb177, 0, none⟩) (Kd.R_types HO180.out BK177.out (by decide)) (fun _ hk => hk.2) (.int .i64 4)) (fun _ hk => hk.2) (.int .i64 1)) (fun _ hk => hk.2) (.slice Ao4 y178.length co4)) (fun _ hk => trivial), by repeat (first | (with_reducible first | exact HB.out | apply pbA | apply pbN | apply pb1 | refine pbS ?_ GE177.out) | exact HB.out)⟩
end Go.Proofs.YtjpihfjgomoijaaDoor.P
end
section
/- roll.Merge: by hand. -/
namespace Go.Proofs.YtjpihfjgomoijaaDoor.P
open Go.RowKit Go.Proofs.YtjpihfjgomoijaaDoor.K Go.Proofs.YtjpihfjgomoijaaDoorW.PrintWords Go.Proofs.YtjpihfjgomoijaaDoorW.PrintLast Go.Proofs.YtjpihfjgomoijaaDoorW.PrintMore
attribute [local go_sem ↓] Go.wp_at_zero Go.wp_at_succ
/-- An entry's term in a roll. -/
def termR (b bt : Int) (l : List S54) (i : Int) : Int × Bool := if i < b then (0, false) else if i - b > (l.length : Int) then (0, false) else if i = b then (bt, true) else ((rd_T54 l (i - b - 1)).f0, true)
theorem term_eq {b bt : Int} {l : List S54} {i : Int} (h0 : 0 ≤ b) (h1 : l.length ≤ 9223372036854775807) (h2 : i ≤ 9223372036854775807) : roll_Term.f 1 b bt l i = some (termR b bt l i) := by
  unfold roll_Term.f termR
  by_cases c1 : i < b
  · rw [if_pos c1, if_pos c1]; rfl
  · have e : wrap64 (i - b) = i - b := by unfold wrap64; omega
    have e2 : wrap64 (i - b - 1) = i - b - 1 := by unfold wrap64; omega
    rw [if_neg c1, if_neg c1]
    simp only [roll_Term.j0, e, e2]
    by_cases c2 : i - b > (l.length : Int)
    · rw [if_pos (decide_eq_true c2), if_pos c2]
    · rw [if_neg (by simpa using c2), if_neg c2]
      by_cases c3 : i = b
      · rw [if_pos c3, if_pos c3]
      · rw [if_neg c3, if_neg c3, if_pos (by omega), if_pos (by omega)]
/-- How many of the entries stand there already. -/
def sameN (b bt : Int) (l : List S54) (i : Int) : List S54 → Nat
  | [] => 0
  | x :: r => if termR b bt l i = (x.f0, true) then sameN b bt l (i + 1) r + 1 else 0
def roll_Merge.f (a0_0 a0_1 : Int) (l0_2 : List S54) (a1 a2 : Int) (l3 : List S54) : Option (Int × Int × List S54 × Bool) :=
  if 0 ≤ a0_0 ∧ -9223372036854775808 ≤ a1 ∧ a1 ≤ 9223372036854775807 ∧ l3.length ≤ 1000000000 ∧ l0_2.length ≤ 1000000000 then
    if termR a0_0 a0_1 l0_2 a1 = (a2, true) then
      if ¬ a1 ≤ 4611686018427387904 then none
      else if sameN a0_0 a0_1 l0_2 (a1 + 1) l3 = l3.length then some (a0_0, a0_1, l0_2, true)
      else some (a0_0, a0_1, l0_2.take (a1 - a0_0 + (sameN a0_0 a0_1 l0_2 (a1 + 1) l3 : Nat)).toNat ++ l3.drop (sameN a0_0 a0_1 l0_2 (a1 + 1) l3), true)
    else some (a0_0, a0_1, l0_2, false)
  else none
theorem termR_in {b bt : Int} {l : List S54} {i t : Int} (h : termR b bt l i = (t, true)) : b ≤ i ∧ i - b ≤ (l.length : Int) := by
  unfold termR at h
  split at h
  · cases h
  · split at h
    · cases h
    · omega
theorem sameN_in {b bt : Int} {l : List S54} : ∀ (r : List S54) (i : Int), b ≤ i - 1 → i - 1 - b ≤ (l.length : Int) → i - 1 - b + (sameN b bt l i r : Int) ≤ (l.length : Int)
  | [], i, _, h => by simp [sameN]; exact h
  | x :: r, i, h0, h => by
    simp only [sameN]
    split
    · rename_i e
      obtain ⟨h1, h2⟩ := termR_in e
      have := sameN_in (b := b) (bt := bt) (l := l) r (i + 1) (by omega) (by omega)
      omega
    · simp; exact h
theorem sameN_le {b bt : Int} {l : List S54} : ∀ (r : List S54) (i : Int), sameN b bt l i r ≤ r.length
  | [], i => Nat.le_refl _
  | x :: r, i => by
    simp only [sameN]
    split
    · have := sameN_le (b := b) (bt := bt) (l := l) r (i + 1); simp; omega
    · exact Nat.zero_le _
theorem put3 {w1 : World} {B : Nat} {t : TypeId} {x y v : Value} (BL : w1.heap[B]? = some (.cells #[.int .i64 0, .int .i64 0, .slice none 0 0] t (0, 0))) : (((w1.setCell ⟨B, 0, none⟩ x).setCell ⟨B, 1, none⟩ y).setCell ⟨B, 2, none⟩ v).heap[B]? = some (.cells #[x, y, v] t (0, 0)) := by
  refine blk_put (cs := #[x, y, .slice none 0 0]) ?_ 2 _ rfl
  refine blk_put (cs := #[x, .int .i64 0, .slice none 0 0]) ?_ 1 _ rfl
  exact blk_put (cs := #[.int .i64 0, .int .i64 0, .slice none 0 0]) BL 0 _ rfl
theorem F_put3 {α : Type} {d : Kd α} {w1 : World} {ok : Nat → Prop} {A : Option Addr} {n : Nat} {xs : List α} {B : Nat} {x y v : Value} (h : Kd.F d w1 ok A n xs) (hB : ∀ k, ok k → k ≠ B) : Kd.F d (((w1.setCell ⟨B, 0, none⟩ x).setCell ⟨B, 1, none⟩ y).setCell ⟨B, 2, none⟩ v) ok A n xs :=
  Kd.F_far (Kd.F_far (Kd.F_far h hB _) hB _) hB _
theorem take_row {w : World} {ok : Nat → Prop} {A : Option Addr} {l : List S54} {N : Nat} (h : Kd.F k54 w ok A l.length l) (hn : N ≤ l.length) : Kd.F k54 w ok A N (l.take N) := by
  have := Kd.F_take h hn
  rwa [List.length_take, Nat.min_eq_left hn] at this
theorem drop_row {w : World} {ad : Addr} {c k : Nat} {l : List S54} (h : Kd.C k54 w (some ad) l.length l) (hc : l.length ≤ c) (hk : k < l.length) : Kd.C k54 w (some (ad.add (k * 2))) (l.length - k) (l.drop k) := by
  have := Kd.C_drop h (Nat.le_of_lt hk) hc
  rw [if_neg (by omega), List.length_drop] at this
  exact this
set_option maxHeartbeats 8000000 in
set_option maxRecDepth 100000 in
theorem roll_Merge.calls (a0_0 : Int) (a0_1 : Int) (P0_2_ : Nat → Prop) (A0_2 : Option Addr) (c0_2 : Nat) (l0_2 : List (S54)) (a1 : Int) (a2 : Int) (A3 : Option Addr) (c3 : Nat) (l3 : List (S54)) (r1 : Int) (r2 : Int) (r3 : List (S54)) (r4 : Bool) (w : World) (hG : TheG w) (hs0_2 : Kd.V k54 54 w w.heap.size (fun k_ => P0_2_ k_) (.slice A0_2 l0_2.length c0_2) l0_2) (hr3 : Kd.C k54 w A3 l3.length l3) (hc3 : l3.length ≤ c3) (h : roll_Merge.f a0_0 a0_1 l0_2 a1 a2 l3 = some (r1, r2, r3, r4)) :
    Calls Tryd.prog 19 #[.agg #[.int .i64 a0_0, .int .i64 a0_1, .slice A0_2 l0_2.length c0_2], .int .i64 a1, .int .i64 a2, .slice A3 l3.length c3] w fun e w' => ∃ v2_ : Value, e = .returned (.tuple #[.agg #[.int .i64 r1, .int .i64 r2, v2_], .bool r4]) ∧ Kd.V k54 54 w' w.heap.size (fun k_ => (P0_2_ k_ ∨ w.heap.size ≤ k_)) v2_ r3 ∧ Below w.heap.size w w' := by
  unfold roll_Merge.f at h
  split at h
  case isFalse => exact absurd h (by simp)
  case isTrue hbd =>
  obtain ⟨hb0, hi0, hi1, hl3, hl0⟩ := hbd
  obtain ⟨A, c, he, hcl, hF⟩ := hs0_2
  injection he with e1 e2 e3
  subst e1
  subst e3
  clear e2
  have HF := Lib.hid (Kd.F_bound hF)
  have HC := Lib.hid (Kd.F_now hF)
  have HC3 := Lib.hid hr3
  clear hF hr3
  have hu24 := Tryd.underlying24
  have HT := Lib.hid (term_eq (bt := a0_1) (l := l0_2) (i := a1) hb0 (by omega) (by omega))
  by_cases hm : termR a0_0 a0_1 l0_2 a1 = (a2, true)
  · rw [if_pos hm] at h
    have hi2 : a1 ≤ 4611686018427387904 := Classical.byContradiction fun hn => by rw [if_pos hn] at h; cases h
    rw [if_neg (Classical.not_not.2 hi2)] at h
    replace hi1 := hi2
    clear hi2
    rw [hm] at HT
    have hin := termR_in hm
    have hqa : (a2 != a2) = false := by simp
    have Hh := Lib.hid h
    clear h hm
    obtain ⟨hin0, hin1⟩ := hin
    go_enter Tryd.func19, Tryd.ntmps19
    go_wp2_with (first | (go_at_call 24; refine (roll_Term.calls 1 a0_0 a0_1 A0_2 c0_2 l0_2 _ a2 true _ (hG.below (pbA (pbA (Below.refl _ _) _) _)) (Kd.C_alloc (Kd.C_alloc HC.out _) _) hcl HT.out).mono ?_; rintro e w1 ⟨rfl, hb⟩; have BK := two_old hb () (); have BL := two_new hb () (); have z0 := (bkC BK 0).trans rfl; have z1 := (bkC BK 1).trans rfl; have z2 := (bkC BK 2).trans rfl; have g0 := bkF BL 0; have g1 := bkF BL 1; have g2 := bkF BL 2; have y0 := (bkC BL 0).trans rfl; have y1 := (bkC BL 1).trans rfl; have y2 := (bkC BL 2).trans rfl) | fail)
    have hB : Below w.heap.size w w1 := pbT (pbA (pbA (Below.refl _ _) _) _) hb
    have HBK := Lib.hid BK
    have HBL := Lib.hid BL
    have HB := Lib.hid hB
    clear hb BK BL z0 z1 z2 g0 g1 g2 y0 y1 y2 hB
    go_loopw [12] (fun i wr => ∃ k : Nat, k ≤ l3.length ∧ i = .int .i64 k ∧ Hid (sameN a0_0 a0_1 l0_2 (a1 + 1) l3 = k + sameN a0_0 a0_1 l0_2 (a1 + 1 + k) (l3.drop k)) ∧ Hid (wr.heap[w.heap.size]? = some (.cells #[.int .i64 a0_0, .int .i64 a0_1, .slice A0_2 l0_2.length c0_2] 24 (0, 0))) ∧ Hid (wr.heap[w.heap.size + 1]? = some (.cells #[.int .i64 0, .int .i64 0, .slice none 0 0] 24 (0, 0))) ∧ Hid (Below w.heap.size w wr)) (fun i _ => l3.length - (intOf i).toNat)
    case atStart => exact ⟨0, Nat.zero_le _, rfl, Lib.hid (by simp), HBK, HBL, HB⟩
    case round =>
      clear HBK HBL HB HT
      obtain ⟨k, hk, rfl, HN, HBK, HBL, HB⟩ := hrel
      have zz0 := (bkC HBK.out 0).trans rfl
      have zz1 := (bkC HBK.out 1).trans rfl
      have zz2 := (bkC HBK.out 2).trans rfl
      have gg0 := bkF HBL.out 0
      have gg1 := bkF HBL.out 1
      have gg2 := bkF HBL.out 2
      have yy0 := (bkC HBL.out 0).trans rfl
      have yy1 := (bkC HBL.out 1).trans rfl
      have yy2 := (bkC HBL.out 2).trans rfl
      by_cases hlt : k < l3.length
      · have hk0 : (0 : Int) ≤ (k : Int) := by omega
        have hk1 : (k : Int) < (l3.length : Int) := by omega
        obtain ⟨ad, ea, _⟩ := at_T54 HC3.out (k : Int) hk0 (by omega)
        subst ea
        have HT2 := Lib.hid (term_eq (bt := a0_1) (l := l0_2) (i := a1 + 1 + (k : Int)) hb0 (by omega) (by omega))
        have hdrop : l3.drop k = l3[k] :: l3.drop (k + 1) := List.drop_eq_getElem_cons hlt
        have hrd : rd_T54 l3 (k : Int) = l3[k] := by simp [rd_T54, hlt]
        have hN := HN.out
        rw [hdrop] at hN
        simp only [sameN] at hN
        rw [← hrd] at hN
        rcases hT : termR a0_0 a0_1 l0_2 (a1 + 1 + (k : Int)) with ⟨t, ok⟩
        rw [hT] at HT2 hN
        clear hT hdrop hrd HN
        by_cases hm : ok = true ∧ t = (rd_T54 l3 (k : Int)).f0
        · obtain ⟨rfl, hE⟩ := hm
          rw [if_pos (by rw [hE])] at hN
          have HN := Lib.hid hN
          clear hN
          have hY : (t != (rd_T54 l3 (k : Int)).f0) = false := by rw [hE]; simp
          clear hE
          go_wp2_with (first | (go_at_call 24; refine (roll_Term.calls 1 a0_0 a0_1 A0_2 c0_2 l0_2 _ t true _ (hG.below HB.out) (Kd.C_below HC.out HB.out) hcl HT2.out).mono ?_; rintro e w2 ⟨rfl, hb2⟩; have HB2 := Lib.hid (pbT HB.out hb2); have BK2 := bkB HBK.out hb2; have BL2 := bkB HBL.out hb2; have z0 := (bkC BK2 0).trans rfl; have z1 := (bkC BK2 1).trans rfl; have z2 := (bkC BK2 2).trans rfl; have g0 := bkF BL2 0; have g1 := bkF BL2 1; have g2 := bkF BL2 2; have y0 := (bkC BL2 0).trans rfl; have y1 := (bkC BL2 1).trans rfl; have y2 := (bkC BL2 2).trans rfl; obtain ⟨ad2, ea2, hc0, _⟩ := at_T54 (Kd.C_below HC3.out HB2.out) (k : Int) hk0 hk1; injection ea2 with ea2; subst ea2; rw [Int.toNat_natCast] at hc0; generalize (rd_T54 l3 (k : Int)).f0 = Y at hY hc0) | fail)
          refine ⟨⟨k + 1, hlt, rfl, Lib.hid ?_, Lib.hid BK2, Lib.hid BL2, HB2⟩, by simp [intOf]; omega⟩
          rw [HN.out, show a1 + 1 + ((k + 1 : Nat) : Int) = a1 + 1 + (k : Int) + 1 by omega]
          omega
        · have hq : (!ok || t != (rd_T54 l3 (k : Int)).f0) = true := by
            cases ok
            · rfl
            · rw [Bool.not_true, Bool.false_or, bne_iff_ne]; exact fun e => hm ⟨rfl, e⟩
          rw [if_neg (by intro e; injection e with e1 e2; exact hm ⟨e2, e1⟩), Nat.add_zero] at hN
          have hh := Hh.out
          rw [hN, if_neg (by omega)] at hh
          simp only [Option.some.injEq, Prod.mk.injEq] at hh
          obtain ⟨rfl, rfl, rfl, rfl⟩ := hh
          have hn := sameN_in (b := a0_0) (bt := a0_1) (l := l0_2) l3 (a1 + 1) (by omega) (by omega)
          rw [hN] at hn
          clear hN hm Hh
          obtain ⟨N, hNI⟩ : ∃ N : Nat, a1 - a0_0 + (k : Int) = (N : Int) := ⟨(a1 - a0_0 + (k : Int)).toNat, by omega⟩
          have hn0 : (0 : Int) ≤ (N : Int) := by omega
          have hn1 : (N : Int) ≤ (l0_2.length : Int) := by omega
          have hn2 : (N : Int) ≤ (c0_2 : Int) := by omega
          have hn3 : N ≤ l0_2.length := by omega
          have hkc : (k : Int) ≤ (c3 : Int) := by omega
          have hck : ¬ c3 = k := by omega
          clear hn
          have hkn : ((k : Int) == (l3.length : Int)) = false := by rw [beq_eq_false_iff_ne]; omega
          cases ok
          · clear hq
            go_wp2_with (first | (go_at_call 24; refine (roll_Term.calls 1 a0_0 a0_1 A0_2 c0_2 l0_2 _ t false _ (hG.below HB.out) (Kd.C_below HC.out HB.out) hcl HT2.out).mono ?_; rintro e w2 ⟨rfl, hb2⟩; have HB2 := Lib.hid (pbT HB.out hb2); have BK2 := bkB HBK.out hb2; have BL2 := bkB HBL.out hb2; have z0 := (bkC BK2 0).trans rfl; have z1 := (bkC BK2 1).trans rfl; have z2 := (bkC BK2 2).trans rfl; have g0 := bkF BL2 0; have g1 := bkF BL2 1; have g2 := bkF BL2 2; have y0 := (bkC BL2 0).trans rfl; have y1 := (bkC BL2 1).trans rfl; have y2 := (bkC BL2 2).trans rfl; obtain ⟨ad2, ea2, hc0, _⟩ := at_T54 (Kd.C_below HC3.out HB2.out) (k : Int) hk0 hk1; injection ea2 with ea2; subst ea2; rw [Int.toNat_natCast] at hc0; skip) | fail)
            have HTK := Lib.hid (take_row (N := N) HF.out hn3)
            have HDK := Lib.hid (drop_row HC3.out hc3 hlt)
            go_region_law (refine step_append_cut k54 flat54 w.heap.size (by rfl) (.tmp 71) (.tmp 74) 22 54 (.agg #[(.int .i64 0), (.string ⟨#[]⟩)]) 24 (by rfl) Tryd.underlying22 info54 (by rfl) (by decide) (by omega) A0_2 N (l0_2.take N) (some (ad.add (k * 2))) (l3.length - k) (c3 - k) (l3.drop k) (fun k_ => P0_2_ k_ ∧ k_ < w.heap.size) (by rfl) (by simp [Act.eval, Act.put, hck]) (Kd.F_below HTK.out (pbN HB2.out _)) (Kd.C_below HDK.out (pbN HB2.out _)) (by omega) ?_; intro v3 w3 hv hb3; obtain ⟨A4, c4, rfl, hc4, hF4⟩ := hv; have BK3 := bkB (bkN BK2 _) hb3; have BL3 := bkB (bkN BL2 _) hb3; have HB3 := Lib.hid (pbT (pbN HB2.out _) hb3); have q0 := (bkC BK3 0).trans rfl; have q1 := (bkC BK3 1).trans rfl; have q2 := (bkC BK3 2).trans rfl; have p2 := bkF BK3 2; have x0 := (bkC BL3 0).trans rfl; have x1 := (bkC BL3 1).trans rfl; have x2 := (bkC BL3 2).trans rfl; have h0 := bkF BL3 0; have h1 := bkF BL3 1; have h2 := bkF BL3 2)
            go_wp2
            have eR : l0_2.take (a1 - a0_0 + (k : Int)).toNat ++ l3.drop k = l0_2.take N ++ l3.drop k := by rw [hNI, Int.toNat_natCast]
            have eL : (l0_2.take N ++ l3.drop k).length = N + (l3.length - k) := by rw [List.length_append, List.length_take, List.length_drop, Nat.min_eq_left hn3]
            have hlt2 : w.heap.size + 1 < w2.heap.size := blk_lt BL2
            refine bodyPost_ret (results_ct rfl _ _ (w.heap.size + 1) 24 #[.int .i64 a0_0, .int .i64 a0_1, .slice A4 (N + (l3.length - k)) c4] (0, 0) _ rfl (put3 (blk_far BL3 (by simp) _)) Tryd.underlying24 rfl (by kernel_rfl)) rfl ?_
            refine ⟨_, rfl, ?_, (((HB3.out.setCell (Nat.le_refl _) _).setCell (Nat.le_succ _) _).setCell (Nat.le_succ _) _).setCell (Nat.le_succ _) _⟩
            rw [eR]
            refine ⟨A4, c4, by rw [eL], hc4, ?_⟩
            have hF5 : Kd.F k54 w3 (fun k_ => P0_2_ k_ ∧ k_ < w.heap.size ∨ w.heap.size + 2 ≤ k_) A4 (l0_2.take N ++ l3.drop k).length (l0_2.take N ++ l3.drop k) := Kd.F_mono hF4 (fun k_ hk => hk.imp id (fun h => Nat.le_trans hlt2 h))
            refine Kd.F_mono (F_put3 (Kd.F_far hF5 ?_ _) ?_) (fun k_ hk => hk.imp (fun h => h.1) (fun h => by omega))
            · intro k_ hk; simp only; omega
            · intro k_ hk; omega
          · have hY : (t != (rd_T54 l3 (k : Int)).f0) = true := by rw [Bool.not_true, Bool.false_or] at hq; exact hq
            clear hq
            go_wp2_with (first | (go_at_call 24; refine (roll_Term.calls 1 a0_0 a0_1 A0_2 c0_2 l0_2 _ t true _ (hG.below HB.out) (Kd.C_below HC.out HB.out) hcl HT2.out).mono ?_; rintro e w2 ⟨rfl, hb2⟩; have HB2 := Lib.hid (pbT HB.out hb2); have BK2 := bkB HBK.out hb2; have BL2 := bkB HBL.out hb2; have z0 := (bkC BK2 0).trans rfl; have z1 := (bkC BK2 1).trans rfl; have z2 := (bkC BK2 2).trans rfl; have g0 := bkF BL2 0; have g1 := bkF BL2 1; have g2 := bkF BL2 2; have y0 := (bkC BL2 0).trans rfl; have y1 := (bkC BL2 1).trans rfl; have y2 := (bkC BL2 2).trans rfl; obtain ⟨ad2, ea2, hc0, _⟩ := at_T54 (Kd.C_below HC3.out HB2.out) (k : Int) hk0 hk1; injection ea2 with ea2; subst ea2; rw [Int.toNat_natCast] at hc0; generalize (rd_T54 l3 (k : Int)).f0 = Y at hY hc0) | fail)
            have HTK := Lib.hid (take_row (N := N) HF.out hn3)
            have HDK := Lib.hid (drop_row HC3.out hc3 hlt)
            go_region_law (refine step_append_cut k54 flat54 w.heap.size (by rfl) (.tmp 71) (.tmp 74) 22 54 (.agg #[(.int .i64 0), (.string ⟨#[]⟩)]) 24 (by rfl) Tryd.underlying22 info54 (by rfl) (by decide) (by omega) A0_2 N (l0_2.take N) (some (ad.add (k * 2))) (l3.length - k) (c3 - k) (l3.drop k) (fun k_ => P0_2_ k_ ∧ k_ < w.heap.size) (by rfl) (by simp [Act.eval, Act.put, hck]) (Kd.F_below HTK.out (pbN HB2.out _)) (Kd.C_below HDK.out (pbN HB2.out _)) (by omega) ?_; intro v3 w3 hv hb3; obtain ⟨A4, c4, rfl, hc4, hF4⟩ := hv; have BK3 := bkB (bkN BK2 _) hb3; have BL3 := bkB (bkN BL2 _) hb3; have HB3 := Lib.hid (pbT (pbN HB2.out _) hb3); have q0 := (bkC BK3 0).trans rfl; have q1 := (bkC BK3 1).trans rfl; have q2 := (bkC BK3 2).trans rfl; have p2 := bkF BK3 2; have x0 := (bkC BL3 0).trans rfl; have x1 := (bkC BL3 1).trans rfl; have x2 := (bkC BL3 2).trans rfl; have h0 := bkF BL3 0; have h1 := bkF BL3 1; have h2 := bkF BL3 2)
            go_wp2
            have eR : l0_2.take (a1 - a0_0 + (k : Int)).toNat ++ l3.drop k = l0_2.take N ++ l3.drop k := by rw [hNI, Int.toNat_natCast]
            have eL : (l0_2.take N ++ l3.drop k).length = N + (l3.length - k) := by rw [List.length_append, List.length_take, List.length_drop, Nat.min_eq_left hn3]
            have hlt2 : w.heap.size + 1 < w2.heap.size := blk_lt BL2
            refine bodyPost_ret (results_ct rfl _ _ (w.heap.size + 1) 24 #[.int .i64 a0_0, .int .i64 a0_1, .slice A4 (N + (l3.length - k)) c4] (0, 0) _ rfl (put3 (blk_far BL3 (by simp) _)) Tryd.underlying24 rfl (by kernel_rfl)) rfl ?_
            refine ⟨_, rfl, ?_, (((HB3.out.setCell (Nat.le_refl _) _).setCell (Nat.le_succ _) _).setCell (Nat.le_succ _) _).setCell (Nat.le_succ _) _⟩
            rw [eR]
            refine ⟨A4, c4, by rw [eL], hc4, ?_⟩
            have hF5 : Kd.F k54 w3 (fun k_ => P0_2_ k_ ∧ k_ < w.heap.size ∨ w.heap.size + 2 ≤ k_) A4 (l0_2.take N ++ l3.drop k).length (l0_2.take N ++ l3.drop k) := Kd.F_mono hF4 (fun k_ hk => hk.imp id (fun h => Nat.le_trans hlt2 h))
            refine Kd.F_mono (F_put3 (Kd.F_far hF5 ?_ _) ?_) (fun k_ hk => hk.imp (fun h => h.1) (fun h => by omega))
            · intro k_ hk; simp only; omega
            · intro k_ hk; omega
      · obtain rfl : k = l3.length := by omega
        have hN := HN.out
        rw [List.drop_length] at hN
        simp only [sameN, Nat.add_zero] at hN
        have hh := Hh.out
        rw [if_pos hN] at hh
        simp only [Option.some.injEq, Prod.mk.injEq] at hh
        obtain ⟨rfl, rfl, rfl, rfl⟩ := hh
        have hkn : ((l3.length : Int) == (l3.length : Int)) = true := by simp
        clear hN HN Hh
        go_wp2
        refine bodyPost_ret (results_ct rfl _ _ (w.heap.size + 1) 24 #[.int .i64 a0_0, .int .i64 a0_1, .slice A0_2 l0_2.length c0_2] (0, 0) _ rfl (put3 HBL.out) Tryd.underlying24 rfl (by kernel_rfl)) rfl ?_
        refine ⟨_, rfl, ⟨A0_2, c0_2, rfl, hcl, ?_⟩, ((HB.out.setCell (Nat.le_succ _) _).setCell (Nat.le_succ _) _).setCell (Nat.le_succ _) _⟩
        exact Kd.F_mono (F_put3 (Kd.F_below HF.out HB.out) (fun k hk => by have := hk.2; omega)) (fun k hk => .inl hk.1)
  · rw [if_neg hm] at h
    simp only [Option.some.injEq, Prod.mk.injEq] at h
    obtain ⟨rfl, rfl, rfl, rfl⟩ := h
    have hq : (!(termR a0_0 a0_1 l0_2 a1).2 || (termR a0_0 a0_1 l0_2 a1).1 != a2) = true := by
      rcases ht : termR a0_0 a0_1 l0_2 a1 with ⟨t, ok⟩
      rw [ht] at hm
      cases ok
      · rfl
      · simp only [Bool.not_true, Bool.false_or, bne_iff_ne]; intro e; apply hm; rw [e]
    generalize hT : termR a0_0 a0_1 l0_2 a1 = T at HT hq
    clear hm hT
    obtain ⟨t1, t2⟩ := T
    simp only at hq
    cases t2
    · go_enter Tryd.func19, Tryd.ntmps19
      go_wp2_with (first | (go_at_call 24; refine (roll_Term.calls 1 a0_0 a0_1 A0_2 c0_2 l0_2 _ t1 false _ (hG.below (pbA (pbA (Below.refl _ _) _) _)) (Kd.C_alloc (Kd.C_alloc HC.out _) _) hcl HT.out).mono ?_; rintro e w1 ⟨rfl, hb⟩; have BK := two_old hb () (); have BL := two_new hb () (); have z0 := (bkC BK 0).trans rfl; have z1 := (bkC BK 1).trans rfl; have z2 := (bkC BK 2).trans rfl; have g0 := bkF BL 0; have g1 := bkF BL 1; have g2 := bkF BL 2; have y0 := (bkC BL 0).trans rfl; have y1 := (bkC BL 1).trans rfl; have y2 := (bkC BL 2).trans rfl) | fail)
      have hB : Below w.heap.size w w1 := pbT (pbA (pbA (Below.refl _ _) _) _) hb
      refine bodyPost_ret (results_ct rfl _ _ (w.heap.size + 1) 24 #[.int .i64 a0_0, .int .i64 a0_1, .slice A0_2 l0_2.length c0_2] (0, 0) _ rfl (put3 BL) Tryd.underlying24 rfl (by kernel_rfl)) rfl ?_
      refine ⟨_, rfl, ⟨A0_2, c0_2, rfl, hcl, ?_⟩, ((hB.setCell (Nat.le_succ _) _).setCell (Nat.le_succ _) _).setCell (Nat.le_succ _) _⟩
      exact Kd.F_mono (F_put3 (Kd.F_below HF.out hB) (fun k hk => by have := hk.2; omega)) (fun k hk => .inl hk.1)
    · have hq2 : (t1 != a2) = true := by rw [Bool.not_true, Bool.false_or] at hq; exact hq
      clear hq
      go_enter Tryd.func19, Tryd.ntmps19
      go_wp2_with (first | (go_at_call 24; refine (roll_Term.calls 1 a0_0 a0_1 A0_2 c0_2 l0_2 _ t1 true _ (hG.below (pbA (pbA (Below.refl _ _) _) _)) (Kd.C_alloc (Kd.C_alloc HC.out _) _) hcl HT.out).mono ?_; rintro e w1 ⟨rfl, hb⟩; have BK := two_old hb () (); have BL := two_new hb () (); have z0 := (bkC BK 0).trans rfl; have z1 := (bkC BK 1).trans rfl; have z2 := (bkC BK 2).trans rfl; have g0 := bkF BL 0; have g1 := bkF BL 1; have g2 := bkF BL 2; have y0 := (bkC BL 0).trans rfl; have y1 := (bkC BL 1).trans rfl; have y2 := (bkC BL 2).trans rfl) | fail)
      have hB : Below w.heap.size w w1 := pbT (pbA (pbA (Below.refl _ _) _) _) hb
      refine bodyPost_ret (results_ct rfl _ _ (w.heap.size + 1) 24 #[.int .i64 a0_0, .int .i64 a0_1, .slice A0_2 l0_2.length c0_2] (0, 0) _ rfl (put3 BL) Tryd.underlying24 rfl (by kernel_rfl)) rfl ?_
      refine ⟨_, rfl, ⟨A0_2, c0_2, rfl, hcl, ?_⟩, ((hB.setCell (Nat.le_succ _) _).setCell (Nat.le_succ _) _).setCell (Nat.le_succ _) _⟩
      exact Kd.F_mono (F_put3 (Kd.F_below HF.out hB) (fun k hk => by have := hk.2; omega)) (fun k hk => .inl hk.1)
end Go.Proofs.YtjpihfjgomoijaaDoor.P
end
