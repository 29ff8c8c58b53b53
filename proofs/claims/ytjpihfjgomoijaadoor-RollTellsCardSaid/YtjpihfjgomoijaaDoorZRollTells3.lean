import Derived.Test.YtjpihfjgomoijaaDoorZRollTells1
import Derived.Test.YtjpihfjgomoijaaDoorZRollTells2
set_option linter.unusedVariables false
set_option linter.unusedSimpArgs false
set_option linter.unnecessarySimpa false
section
-- Written by a program of this session (wip/tools/pr.py), over the kit's printer; functions named in the texts imported below are given by hand.
namespace Go.Proofs.YtjpihfjgomoijaaDoor.P
open Go.RowKit Go.Proofs.YtjpihfjgomoijaaDoor.K Go.Proofs.YtjpihfjgomoijaaDoorW.PrintWords Go.Proofs.YtjpihfjgomoijaaDoorW.PrintLast Go.Proofs.YtjpihfjgomoijaaDoorW.PrintMore
attribute [local go_sem] max2_int min2_int max_two min_two max_three min_three max_four min_four   -- for this text's walks alone
/-! ### roll_Compact: function 23 -/
def roll_Compact.f (k : Nat) (a0_0 : Int) (a0_1 : Int) (l0_2 : List (S54)) (a1 : Int) : Option (Int × Int × (List (S54))) := (roll_Term.f k a0_0 a0_1 l0_2 a1).bind fun bt167 => (if bt167.2 = true then (if a1 ≤ a0_0 then (some (a0_0, a0_1, l0_2)) else (if 0 ≤ (wrap64 (a1 - a0_0)) then (if (wrap64 (a1 - a0_0)) ≤ (l0_2.length : Int) then ((api_Entry.f (l0_2.drop ((wrap64 (a1 - a0_0)) : Int).toNat)).bind fun t174 => (some (a1, bt167.1, t174))) else (none)) else (none))) else (some (a0_0, a0_1, l0_2)))
theorem roll_Compact.mono : ∀ a0 a1 a2 a3 k, LeO (roll_Compact.f k a0 a1 a2 a3) (roll_Compact.f (k + 1) a0 a1 a2 a3) := by
  intro a0 a1 a2 a3 k
  unfold roll_Compact.f
  repeat' first
      | (with_reducible exact roll_Term.mono _ _ _ _ _)
      | (with_reducible exact LeO.refl _)
      | (with_reducible exact LeO.none _)
      | (with_reducible refine LeO.ite ?_ ?_)
      | (with_reducible refine LeO.bind ?_ (fun _ => ?_))
      | exact roll_Term.mono _ _ _ _ _
      | exact LeO.none _
      | refine LeO.ite ?_ ?_
      | refine LeO.bind ?_ (fun _ => ?_)
set_option maxHeartbeats 8000000 in
set_option maxRecDepth 100000 in
theorem roll_Compact.calls (k : Nat) (a0_0 : Int) (a0_1 : Int) (P0_2_ : Nat → Prop) (A0_2 : Option Addr) (c0_2 : Nat) (l0_2 : List (S54)) (a1 : Int) (r1 : Int) (r2 : Int) (r3 : List (S54)) (w : World) (hG : TheG w) (hs0_2 : Kd.V k54 54 w w.heap.size (fun k_ => P0_2_ k_) (.slice A0_2 l0_2.length c0_2) l0_2) (h : roll_Compact.f k a0_0 a0_1 l0_2 a1 = some (r1, r2, r3)) :
    Calls Tryd.prog 23 #[.agg #[.int .i64 a0_0, .int .i64 a0_1, .slice A0_2 l0_2.length c0_2], .int .i64 a1] w fun e w' => ∃ v2_ : Value, e = .returned (.agg #[.int .i64 r1, .int .i64 r2, v2_]) ∧ Kd.V k54 54 w' w.heap.size (fun k_ => (P0_2_ k_ ∨ w.heap.size ≤ k_)) v2_ r3 ∧ Below w.heap.size w w' := by
  have hu24 := Tryd.underlying24
  have HO0_2 := Az.mk (show Kd.V k54 54 w w.heap.size (fun k_ => (P0_2_ k_ ∨ w.heap.size ≤ k_)) (.slice A0_2 l0_2.length c0_2) l0_2 from Kd.V_mono hs0_2 (fun k_ hk => .inl hk))
  have HB := Az.mk (Below.refl w.heap.size w)
  have H : ((roll_Term.f k a0_0 a0_1 l0_2 a1).bind fun bt167 => (if bt167.2 = true then (if a1 ≤ a0_0 then (some (a0_0, a0_1, l0_2)) else (if 0 ≤ (wrap64 (a1 - a0_0)) then (if (wrap64 (a1 - a0_0)) ≤ (l0_2.length : Int) then ((api_Entry.f (l0_2.drop ((wrap64 (a1 - a0_0)) : Int).toNat)).bind fun t174 => (some (a1, bt167.1, t174))) else (none)) else (none))) else (some (a0_0, a0_1, l0_2)))) = some (r1, r2, r3) := h
  clear h
  replace H := Option.bind_eq_some_iff.mp H
  obtain ⟨⟨t167, t168⟩, A30, H⟩ := H
  replace H : (if t168 = true then (if a1 ≤ a0_0 then (some (a0_0, a0_1, l0_2)) else (if 0 ≤ (wrap64 (a1 - a0_0)) then (if (wrap64 (a1 - a0_0)) ≤ (l0_2.length : Int) then ((api_Entry.f (l0_2.drop ((wrap64 (a1 - a0_0)) : Int).toNat)).bind fun t174 => (some (a1, t167, t174))) else (none)) else (none))) else (some (a0_0, a0_1, l0_2))) = some (r1, r2, r3) := H
  have A3 := Az.mk A30
  clear A30
  by_cases c4 : t168 = true
  · subst c4
    have H1 : (if a1 ≤ a0_0 then (some (a0_0, a0_1, l0_2)) else (if 0 ≤ (wrap64 (a1 - a0_0)) then (if (wrap64 (a1 - a0_0)) ≤ (l0_2.length : Int) then ((api_Entry.f (l0_2.drop ((wrap64 (a1 - a0_0)) : Int).toNat)).bind fun t174 => (some (a1, t167, t174))) else (none)) else (none))) = some (r1, r2, r3) := by rw [if_pos rfl] at H; exact H
    clear H
    have H := H1
    clear H1
    by_cases c5 : a1 ≤ a0_0
    · rw [if_pos c5] at H
      have c5b0 : decide (a1 ≤ a0_0) = true := decide_eq_true c5
      clear c5
      simp only [Option.some.injEq, Prod.mk.injEq] at H
      obtain ⟨rfl, rfl, rfl⟩ := H
      go_enter Tryd.func23, Tryd.ntmps23
      go_wp2_with (first | ((with_reducible refine gate_dst (N := 2) rfl ?_); refine box_event ?hg (N := 2) ?hd (cs := #[.int .i64 a0_0, .int .i64 a0_1, .slice A0_2 l0_2.length c0_2]) (t := 24) ?hr ?_; (case hd => rfl); (case hg => rfl); (case hr => first | (go_simp; done) | (go_simp; rfl)); intro gb165 hg w6 hbox hb; have n0_ := Az.mk (Kd.V_below (Kd.V_elderB (by (with_reducible repeat (first | apply Kd.V_alloc | apply Kd.V_drewN | apply Kd.V_drew)); exact HO0_2.out) gb165 (Nat.le_of_eq hg.symm)) hb); have n1_ := Az.mk (pbT (by repeat (first | (with_reducible first | exact HB.out | apply pbA | apply pbN | apply pb1) | exact HB.out)) hb); have n2_ := Az.mk (hbox); have n3_ := Az.mk ((by rw [hg]; exact (pbZ (by repeat (first | (with_reducible first | exact HB.out | apply pbA | apply pbN | apply pb1) | exact HB.out))) : w.heap.size ≤ gb165)); have n4_ := Az.mk ((by rw [hg]; exact (pbZ (by repeat (first | (with_reducible first | exact HB.out | apply pbA | apply pbN | apply pb1) | exact HB.out))) : w.heap.size ≤ gb165)); clear HO0_2; clear HB; have HO0_2 := n0_; have HB := n1_; have BK165 := n2_; have GW165 := n3_; have GE165 := n4_; clear n0_ n1_ n2_ n3_ n4_; clear hb hbox hg) | ((with_reducible refine gate_dst (N := 4) rfl ?_); refine box_event ?hg (N := 4) ?hd (cs := #[.int .i64 0, .int .i64 0, .slice none 0 0]) (t := 24) ?hr ?_; (case hd => rfl); (case hg => rfl); (case hr => first | (go_simp; done) | (go_simp; rfl)); intro gb166 hg w7 hbox hb; have n0_ := Az.mk (Kd.V_below (Kd.V_elderB (by (with_reducible repeat (first | apply Kd.V_alloc | apply Kd.V_drewN | apply Kd.V_drew)); exact HO0_2.out) gb166 (Nat.le_of_eq hg.symm)) hb); have n1_ := Az.mk (bkB (g := gb165) (o := .cells #[.int .i64 a0_0, .int .i64 a0_1, .slice A0_2 l0_2.length c0_2] 24 (0, 0)) (by (with_reducible repeat (first | refine bkN ?_ _ | refine bkD ?_ | refine bkA ?_ _)); exact BK165.out) hb); have n2_ := Az.mk (pbT (by repeat (first | (with_reducible first | exact HB.out | apply pbA | apply pbN | apply pb1 | refine pbS ?_ GE165.out) | exact HB.out)) hb); have n3_ := Az.mk (hbox); have n4_ := Az.mk ((by rw [hg]; exact (pbZ (by repeat (first | (with_reducible first | exact HB.out | apply pbA | apply pbN | apply pb1 | refine pbS ?_ GE165.out) | exact HB.out))) : w.heap.size ≤ gb166)); have n5_ := Az.mk ((by rw [hg]; exact (pbZ (by repeat (first | (with_reducible first | exact HB.out | apply pbA | apply pbN | apply pb1 | refine pbS ?_ GE165.out) | exact HB.out))) : w.heap.size ≤ gb166)); have n6_ := Az.mk ((by rw [hg]; exact Nat.ne_of_lt (blk_lt (g := gb165) (o := .cells #[.int .i64 a0_0, .int .i64 a0_1, .slice A0_2 l0_2.length c0_2] 24 (0, 0)) (by (with_reducible repeat (first | refine bkN ?_ _ | refine bkD ?_ | refine bkA ?_ _)); exact BK165.out)) : gb165 ≠ gb166)); have n7_ := Az.mk ((by rw [hg]; exact Nat.ne_of_gt (blk_lt (g := gb165) (o := .cells #[.int .i64 a0_0, .int .i64 a0_1, .slice A0_2 l0_2.length c0_2] 24 (0, 0)) (by (with_reducible repeat (first | refine bkN ?_ _ | refine bkD ?_ | refine bkA ?_ _)); exact BK165.out)) : gb166 ≠ gb165)); clear HO0_2; clear BK165; clear HB; have HO0_2 := n0_; have BK165 := n1_; have HB := n2_; have BK166 := n3_; have GW166 := n4_; have GE166 := n5_; have NB165_166 := n6_; have NB166_165 := n7_; clear n0_ n1_ n2_ n3_ n4_ n5_ n6_ n7_; clear hb hbox hg; have hnb8 := NB165_166.out; have hnc8 := NB166_165.out; have hcz9_0 : w7.cell? ⟨gb165, 0, none⟩ = some (.int .i64 a0_0) := (bkC BK165.out 0).trans rfl; have hcz9_1 : w7.cell? ⟨gb165, 1, none⟩ = some (.int .i64 a0_1) := (bkC BK165.out 1).trans rfl; have hcz9_2 : w7.cell? ⟨gb165, 2, none⟩ = some (.slice A0_2 l0_2.length c0_2) := (bkC BK165.out 2).trans rfl; have hfz9_0 := bkF BK165.out 0; have hfz9_1 := bkF BK165.out 1; have hfz9_2 := bkF BK165.out 2) | ((with_reducible refine gtc (f := 24) rfl ?_); refine goesL_ (some 10) rfl rfl Tryd.func24 (by kernel_rfl) rfl #[.agg #[.int .i64 a0_0, .int .i64 a0_1, .slice A0_2 l0_2.length c0_2], .int .i64 a1] rfl (by (try simp only [List.map_toArray, List.map_cons, List.map_nil]); first | done | rfl | (simp only [List.length_drop, List.length_take]; rfl)) ?_; (with_reducible refine (roll_Term.calls k a0_0 a0_1 _ _ l0_2 a1 t167 true _ ?side1 ?side2 ?side3 A3.out).mono ?_); (case side1 => exact hG.below (by repeat (first | (with_reducible first | exact HB.out | apply pbA | apply pbN | apply pb1 | refine pbS ?_ GE165.out | refine pbS ?_ GE166.out) | exact HB.out))); (case side2 => repeat (first | exact (Kd.V_reads' HO0_2.out).2.2 | (with_reducible refine Kd.C_alloc ?_ _) | (with_reducible refine Kd.C_drewN ?_ _) | (with_reducible refine Kd.C_drew ?_))); (case side3 => exact (Kd.V_reads' HO0_2.out).2.1); rintro e w10 ⟨rfl, hb⟩; refine ⟨_, rfl, ?_⟩; have n0_ := Az.mk (Kd.V_below (by (with_reducible repeat (first | apply Kd.V_alloc | apply Kd.V_drewN | apply Kd.V_drew)); exact HO0_2.out) hb); have n1_ := Az.mk (bkB (g := gb165) (o := .cells #[.int .i64 a0_0, .int .i64 a0_1, .slice A0_2 l0_2.length c0_2] 24 (0, 0)) (by (with_reducible repeat (first | refine bkN ?_ _ | refine bkD ?_ | refine bkA ?_ _)); exact BK165.out) hb); have n2_ := Az.mk (bkB (g := gb166) (o := .cells #[.int .i64 0, .int .i64 0, .slice none 0 0] 24 (0, 0)) (by (with_reducible repeat (first | refine bkN ?_ _ | refine bkD ?_ | refine bkA ?_ _)); exact BK166.out) hb); have n3_ := Az.mk (pbT (by repeat (first | (with_reducible first | exact HB.out | apply pbA | apply pbN | apply pb1 | refine pbS ?_ GE165.out | refine pbS ?_ GE166.out) | exact HB.out)) hb); clear HO0_2; clear BK165; clear BK166; clear HB; have HO0_2 := n0_; have BK165 := n1_; have BK166 := n2_; have HB := n3_; clear n0_ n1_ n2_ n3_; (try clear hb); (try clear hb2); (try clear hk); (try clear hi); have hcz11_0 : w10.cell? ⟨gb165, 0, none⟩ = some (.int .i64 a0_0) := (bkC BK165.out 0).trans rfl; have hcz11_1 : w10.cell? ⟨gb165, 1, none⟩ = some (.int .i64 a0_1) := (bkC BK165.out 1).trans rfl; have hcz11_2 : w10.cell? ⟨gb165, 2, none⟩ = some (.slice A0_2 l0_2.length c0_2) := (bkC BK165.out 2).trans rfl; have hfz11_0 := bkF BK165.out 0; have hfz11_1 := bkF BK165.out 1; have hfz11_2 := bkF BK165.out 2; have hcz12_0 : w10.cell? ⟨gb166, 0, none⟩ = some (.int .i64 0) := (bkC BK166.out 0).trans rfl; have hcz12_1 : w10.cell? ⟨gb166, 1, none⟩ = some (.int .i64 0) := (bkC BK166.out 1).trans rfl; have hcz12_2 : w10.cell? ⟨gb166, 2, none⟩ = some (.slice none 0 0) := (bkC BK166.out 2).trans rfl; have hfz12_0 := bkF BK166.out 0; have hfz12_1 := bkF BK166.out 1; have hfz12_2 := bkF BK166.out 2))
      refine bodyPost_ret (results_cell_row rfl _ _ gb166 24 #[.int .i64 a0_0, .int .i64 a0_1, .slice A0_2 l0_2.length c0_2] (0, 0) _ rfl (by (with_reducible repeat (first | refine bkN ?_ _ | refine bkD ?_ | refine bkA ?_ _)); refine blk_put (cs := #[.int .i64 a0_0, .int .i64 a0_1, .slice none 0 0]) ?_ 2 _ rfl; (with_reducible repeat (first | refine bkN ?_ _ | refine bkD ?_ | refine bkA ?_ _)); refine blk_put (cs := #[.int .i64 a0_0, .int .i64 0, .slice none 0 0]) ?_ 1 _ rfl; (with_reducible repeat (first | refine bkN ?_ _ | refine bkD ?_ | refine bkA ?_ _)); refine blk_put (cs := #[.int .i64 0, .int .i64 0, .slice none 0 0]) ?_ 0 _ rfl; (with_reducible repeat (first | refine bkN ?_ _ | refine bkD ?_ | refine bkA ?_ _)); exact BK166.out) Tryd.underlying24 rfl (by kernel_rfl)) rfl ?_
      exact ⟨_, by first | rfl | (simp [errW_none, errW_some] <;> rfl) | (simp [*, errW_none, errW_some] <;> rfl), by (with_reducible repeat (first | apply Kd.V_alloc | apply Kd.V_drewN | apply Kd.V_drew)); exact Kd.V_mono (Kd.V_far (p := ⟨gb166, 2, none⟩) (Kd.V_far (p := ⟨gb166, 1, none⟩) (Kd.V_far (p := ⟨gb166, 0, none⟩) (Kd.V_mono HO0_2.out (fun k_ hk => (⟨hk, hk.2⟩ : _ ∧ k_ ≠ gb166))) (fun _ hk => hk.2) (.int .i64 a0_0)) (fun _ hk => hk.2) (.int .i64 a0_1)) (fun _ hk => hk.2) (.slice A0_2 l0_2.length c0_2)) (fun _ hk => hk.1.1.1), by repeat (first | (with_reducible first | exact HB.out | apply pbA | apply pbN | apply pb1 | refine pbS ?_ GE165.out | refine pbS ?_ GE166.out) | exact HB.out)⟩
    · rw [if_neg c5] at H
      have c5b0 : decide (a1 ≤ a0_0) = false := decide_eq_false c5
      clear c5
      obtain ⟨ji13, hji13⟩ : ∃ j_ : Int, (wrap64 (a1 - a0_0)) = j_ := ⟨_, rfl⟩
      replace H : (if 0 ≤ (ji13) then (if (ji13) ≤ (l0_2.length : Int) then ((api_Entry.f (l0_2.drop ((ji13) : Int).toNat)).bind fun t174 => (some (a1, t167, t174))) else (none)) else (none)) = some (r1, r2, r3) := by first | (rw [hji13] at H; exact H) | (simp only [hji13] at H ⊢; exact H)
      (try rw [hji13] at A3)
      have hji13w : (IntKind.i64.wrap (a1 - a0_0)) = ji13 := (i64_w _).trans hji13
      by_cases c14 : 0 ≤ (ji13)
      · rw [if_pos c14] at H
        have c14b0 := eq_true c14
        have c14b1 : decide (0 ≤ (ji13)) = true := decide_eq_true c14
        clear c14
        by_cases c15 : (ji13) ≤ (l0_2.length : Int)
        · rw [if_pos c15] at H
          have c15b0 := eq_true c15
          have c15b1 : decide ((ji13) ≤ (l0_2.length : Int)) = true := decide_eq_true c15
          clear c15
          obtain ⟨y169, hy169⟩ : ∃ y_ : List (S54), y_ = (l0_2.drop ((ji13) : Int).toNat) := ⟨_, rfl⟩
          replace H : ((api_Entry.f y169).bind fun t174 => (some (a1, t167, t174))) = some (r1, r2, r3) := by first | (rw [hy169]; with_reducible exact H) | (have H2_ := (Option.bind_some _ _).symm.trans H; rw [hy169]; with_reducible exact H2_) | (have H2_ := (Option.bind_some _ _).symm.trans H; with_reducible exact H2_) | with_reducible exact H | (rw [hy169]; exact H) | exact H
          have Ny169 := Az.mk hy169
          clear hy169
          replace H := Option.bind_eq_some_iff.mp H
          obtain ⟨t174, A160, H⟩ := H
          replace H : (some (a1, t167, t174)) = some (r1, r2, r3) := H
          have A16 := Az.mk A160
          clear A160
          simp only [Option.some.injEq, Prod.mk.injEq] at H
          obtain ⟨rfl, rfl, rfl⟩ := H
          go_enter Tryd.func23, Tryd.ntmps23
          go_wp2_with (first | ((with_reducible refine gate_dst (N := 2) rfl ?_); refine box_event ?hg (N := 2) ?hd (cs := #[.int .i64 a0_0, .int .i64 a0_1, .slice A0_2 l0_2.length c0_2]) (t := 24) ?hr ?_; (case hd => rfl); (case hg => rfl); (case hr => first | (go_simp; done) | (go_simp; rfl)); intro gb165 hg w17 hbox hb; have n0_ := Az.mk (Kd.V_below (Kd.V_elderB (by (with_reducible repeat (first | apply Kd.V_alloc | apply Kd.V_drewN | apply Kd.V_drew)); exact HO0_2.out) gb165 (Nat.le_of_eq hg.symm)) hb); have n1_ := Az.mk (pbT (by repeat (first | (with_reducible first | exact HB.out | apply pbA | apply pbN | apply pb1) | exact HB.out)) hb); have n2_ := Az.mk (hbox); have n3_ := Az.mk ((by rw [hg]; exact (pbZ (by repeat (first | (with_reducible first | exact HB.out | apply pbA | apply pbN | apply pb1) | exact HB.out))) : w.heap.size ≤ gb165)); have n4_ := Az.mk ((by rw [hg]; exact (pbZ (by repeat (first | (with_reducible first | exact HB.out | apply pbA | apply pbN | apply pb1) | exact HB.out))) : w.heap.size ≤ gb165)); clear HO0_2; clear HB; have HO0_2 := n0_; have HB := n1_; have BK165 := n2_; have GW165 := n3_; have GE165 := n4_; clear n0_ n1_ n2_ n3_ n4_; clear hb hbox hg) | ((with_reducible refine gate_dst (N := 4) rfl ?_); refine box_event ?hg (N := 4) ?hd (cs := #[.int .i64 0, .int .i64 0, .slice none 0 0]) (t := 24) ?hr ?_; (case hd => rfl); (case hg => rfl); (case hr => first | (go_simp; done) | (go_simp; rfl)); intro gb166 hg w18 hbox hb; have n0_ := Az.mk (Kd.V_below (Kd.V_elderB (by (with_reducible repeat (first | apply Kd.V_alloc | apply Kd.V_drewN | apply Kd.V_drew)); exact HO0_2.out) gb166 (Nat.le_of_eq hg.symm)) hb); have n1_ := Az.mk (bkB (g := gb165) (o := .cells #[.int .i64 a0_0, .int .i64 a0_1, .slice A0_2 l0_2.length c0_2] 24 (0, 0)) (by (with_reducible repeat (first | refine bkN ?_ _ | refine bkD ?_ | refine bkA ?_ _)); exact BK165.out) hb); have n2_ := Az.mk (pbT (by repeat (first | (with_reducible first | exact HB.out | apply pbA | apply pbN | apply pb1 | refine pbS ?_ GE165.out) | exact HB.out)) hb); have n3_ := Az.mk (hbox); have n4_ := Az.mk ((by rw [hg]; exact (pbZ (by repeat (first | (with_reducible first | exact HB.out | apply pbA | apply pbN | apply pb1 | refine pbS ?_ GE165.out) | exact HB.out))) : w.heap.size ≤ gb166)); have n5_ := Az.mk ((by rw [hg]; exact (pbZ (by repeat (first | (with_reducible first | exact HB.out | apply pbA | apply pbN | apply pb1 | refine pbS ?_ GE165.out) | exact HB.out))) : w.heap.size ≤ gb166)); have n6_ := Az.mk ((by rw [hg]; exact Nat.ne_of_lt (blk_lt (g := gb165) (o := .cells #[.int .i64 a0_0, .int .i64 a0_1, .slice A0_2 l0_2.length c0_2] 24 (0, 0)) (by (with_reducible repeat (first | refine bkN ?_ _ | refine bkD ?_ | refine bkA ?_ _)); exact BK165.out)) : gb165 ≠ gb166)); have n7_ := Az.mk ((by rw [hg]; exact Nat.ne_of_gt (blk_lt (g := gb165) (o := .cells #[.int .i64 a0_0, .int .i64 a0_1, .slice A0_2 l0_2.length c0_2] 24 (0, 0)) (by (with_reducible repeat (first | refine bkN ?_ _ | refine bkD ?_ | refine bkA ?_ _)); exact BK165.out)) : gb166 ≠ gb165)); clear HO0_2; clear BK165; clear HB; have HO0_2 := n0_; have BK165 := n1_; have HB := n2_; have BK166 := n3_; have GW166 := n4_; have GE166 := n5_; have NB165_166 := n6_; have NB166_165 := n7_; clear n0_ n1_ n2_ n3_ n4_ n5_ n6_ n7_; clear hb hbox hg; have hnb19 := NB165_166.out; have hnc19 := NB166_165.out; have hcz20_0 : w18.cell? ⟨gb165, 0, none⟩ = some (.int .i64 a0_0) := (bkC BK165.out 0).trans rfl; have hcz20_1 : w18.cell? ⟨gb165, 1, none⟩ = some (.int .i64 a0_1) := (bkC BK165.out 1).trans rfl; have hcz20_2 : w18.cell? ⟨gb165, 2, none⟩ = some (.slice A0_2 l0_2.length c0_2) := (bkC BK165.out 2).trans rfl; have hfz20_0 := bkF BK165.out 0; have hfz20_1 := bkF BK165.out 1; have hfz20_2 := bkF BK165.out 2) | ((with_reducible refine gtc (f := 24) rfl ?_); refine goesL_ (some 10) rfl rfl Tryd.func24 (by kernel_rfl) rfl #[.agg #[.int .i64 a0_0, .int .i64 a0_1, .slice A0_2 l0_2.length c0_2], .int .i64 a1] rfl (by (try simp only [List.map_toArray, List.map_cons, List.map_nil]); first | done | rfl | (simp only [List.length_drop, List.length_take]; rfl)) ?_; (with_reducible refine (roll_Term.calls k a0_0 a0_1 _ _ l0_2 a1 t167 true _ ?side1 ?side2 ?side3 A3.out).mono ?_); (case side1 => exact hG.below (by repeat (first | (with_reducible first | exact HB.out | apply pbA | apply pbN | apply pb1 | refine pbS ?_ GE165.out | refine pbS ?_ GE166.out) | exact HB.out))); (case side2 => repeat (first | exact (Kd.V_reads' HO0_2.out).2.2 | (with_reducible refine Kd.C_alloc ?_ _) | (with_reducible refine Kd.C_drewN ?_ _) | (with_reducible refine Kd.C_drew ?_))); (case side3 => exact (Kd.V_reads' HO0_2.out).2.1); rintro e w21 ⟨rfl, hb⟩; refine ⟨_, rfl, ?_⟩; have n0_ := Az.mk (Kd.V_below (by (with_reducible repeat (first | apply Kd.V_alloc | apply Kd.V_drewN | apply Kd.V_drew)); exact HO0_2.out) hb); have n1_ := Az.mk (bkB (g := gb165) (o := .cells #[.int .i64 a0_0, .int .i64 a0_1, .slice A0_2 l0_2.length c0_2] 24 (0, 0)) (by (with_reducible repeat (first | refine bkN ?_ _ | refine bkD ?_ | refine bkA ?_ _)); exact BK165.out) hb); have n2_ := Az.mk (bkB (g := gb166) (o := .cells #[.int .i64 0, .int .i64 0, .slice none 0 0] 24 (0, 0)) (by (with_reducible repeat (first | refine bkN ?_ _ | refine bkD ?_ | refine bkA ?_ _)); exact BK166.out) hb); have n3_ := Az.mk (pbT (by repeat (first | (with_reducible first | exact HB.out | apply pbA | apply pbN | apply pb1 | refine pbS ?_ GE165.out | refine pbS ?_ GE166.out) | exact HB.out)) hb); clear HO0_2; clear BK165; clear BK166; clear HB; have HO0_2 := n0_; have BK165 := n1_; have BK166 := n2_; have HB := n3_; clear n0_ n1_ n2_ n3_; (try clear hb); (try clear hb2); (try clear hk); (try clear hi); have hcz22_0 : w21.cell? ⟨gb165, 0, none⟩ = some (.int .i64 a0_0) := (bkC BK165.out 0).trans rfl; have hcz22_1 : w21.cell? ⟨gb165, 1, none⟩ = some (.int .i64 a0_1) := (bkC BK165.out 1).trans rfl; have hcz22_2 : w21.cell? ⟨gb165, 2, none⟩ = some (.slice A0_2 l0_2.length c0_2) := (bkC BK165.out 2).trans rfl; have hfz22_0 := bkF BK165.out 0; have hfz22_1 := bkF BK165.out 1; have hfz22_2 := bkF BK165.out 2; have q23 : ((ji13) : Int) ≤ ((l0_2.length : Int) : Int) := of_decide_eq_true (by first | (with_reducible assumption) | assumption); obtain ⟨i023, hi023, _, hsz23, _⟩ := info_parts info54; have hroom23 : l0_2.length ≤ c0_2 := (Kd.V_reads' HO0_2.out).2.1; have hC23 : Kd.F k54 _ _ A0_2 l0_2.length l0_2 := (Kd.V_at (base := w.heap.size) HO0_2.out).2.2; have q023 : (0 : Int) ≤ ((ji13) : Int) := of_decide_eq_true (by first | (with_reducible assumption) | assumption); have hcut23 := cut_from (P := Tryd.prog) 22 54 .i64 Tryd.underlying22 hi023 2 hsz23 A0_2 l0_2.length c0_2 (ji13) q023 q23; have hr23 := Kd.F_cut (m := ((ji13) : Int).toNat) (c := c0_2) hC23 (by omega) hroom23; obtain ⟨A23, hA23⟩ : ∃ A1, A1 = (if c0_2 = ((ji13) : Int).toNat then A0_2 else (A0_2 : Option Addr).map (·.add (((ji13) : Int).toNat * 2))) := ⟨_, rfl⟩; obtain ⟨c23, hc23⟩ : ∃ c1, c1 = c0_2 - ((ji13) : Int).toNat := ⟨_, rfl⟩; have hy23 : y169.length = l0_2.length - ((ji13) : Int).toNat := (by rw [Ny169.out, List.length_drop] <;> omega); rw [show (l0_2).drop ((ji13) : Int).toNat = y169 from Ny169.out.symm] at hr23; replace hr23 : Kd.F k54 _ _ A23 y169.length y169 := (by rw [hA23]; exact hr23); rw [← hy23, ← hA23, ← hc23] at hcut23; have HO173 := Az.mk (show Kd.V k54 54 _ w.heap.size _ (.slice A23 y169.length c23) y169 from Kd.V_mk (by rw [hy23, hc23]; exact Nat.sub_le_sub_right hroom23 _) hr23); have HC173 := Az.mk (show y169.length ≤ c23 from by rw [hy23, hc23]; exact Nat.sub_le_sub_right hroom23 _); clear hr23 hC23 hroom23 hi023 hsz23 hc23; have KY23 := Az.mk hy23; have KA23 := Az.mk hA23; clear hy23 hA23; replace q23 := eq_true q23) | ((with_reducible refine gtc (f := 44) rfl ?_); refine goesL_ (some 31) rfl rfl Tryd.func44 (by kernel_rfl) rfl #[.slice A23 y169.length c23] rfl (by (try simp only [List.map_toArray, List.map_cons, List.map_nil]); first | done | rfl | (simp only [List.length_drop, List.length_take]; rfl)) ?_; (with_reducible refine (api_Entry.calls _ _ y169 t174 _ ?side1 ?side2 ?side3 A16.out).mono ?_); (case side1 => exact hG.below (by repeat (first | (with_reducible first | exact HB.out | apply pbA | apply pbN | apply pb1 | refine pbS ?_ GE165.out | refine pbS ?_ GE166.out) | exact HB.out))); (case side2 => repeat (first | exact (Kd.V_reads' HO173.out).2.2 | (with_reducible refine Kd.C_alloc ?_ _) | (with_reducible refine Kd.C_drewN ?_ _) | (with_reducible refine Kd.C_drew ?_))); (case side3 => exact (Kd.V_reads' HO173.out).2.1); rintro e w24 ⟨v175, rfl, ho0, hb⟩; refine ⟨_, rfl, ?_⟩; have n0_ := Az.mk (Kd.V_elder' (by (with_reducible repeat (first | apply Kd.V_alloc | apply Kd.V_drewN | apply Kd.V_drew)); exact HO0_2.out) (Kd.R_base ho0) hb); have n1_ := Az.mk (Kd.V_elder' (by (with_reducible repeat (first | apply Kd.V_alloc | apply Kd.V_drewN | apply Kd.V_drew)); exact HO173.out) (Kd.R_base ho0) hb); have n2_ := Az.mk (Kd.R_lower (Kd.R_newM (M := fun k_ => (w.heap.size ≤ k_)) (Kd.R_mono (ok' := fun k_ => True) ho0 (fun _ hk_ => trivial)) (pbZ (by repeat (first | (with_reducible first | exact HB.out | apply pbA | apply pbN | apply pb1 | refine pbS ?_ GE165.out | refine pbS ?_ GE166.out) | exact HB.out))) (fun k_ h_ => h_)) (pbZ (by repeat (first | (with_reducible first | exact HB.out | apply pbA | apply pbN | apply pb1 | refine pbS ?_ GE165.out | refine pbS ?_ GE166.out) | exact HB.out)))); have n3_ := Az.mk (bkB (g := gb165) (o := .cells #[.int .i64 a0_0, .int .i64 a0_1, .slice A0_2 l0_2.length c0_2] 24 (0, 0)) (by (with_reducible repeat (first | refine bkN ?_ _ | refine bkD ?_ | refine bkA ?_ _)); exact BK165.out) hb); have n4_ := Az.mk (bkB (g := gb166) (o := .cells #[.int .i64 0, .int .i64 0, .slice none 0 0] 24 (0, 0)) (by (with_reducible repeat (first | refine bkN ?_ _ | refine bkD ?_ | refine bkA ?_ _)); exact BK166.out) hb); have n5_ := Az.mk (pbT (by repeat (first | (with_reducible first | exact HB.out | apply pbA | apply pbN | apply pb1 | refine pbS ?_ GE165.out | refine pbS ?_ GE166.out) | exact HB.out)) hb); clear HO0_2; clear HO173; clear BK165; clear BK166; clear HB; have HO0_2 := n0_; have HO173 := n1_; have HO176 := n2_; have BK165 := n3_; have BK166 := n4_; have HB := n5_; clear n0_ n1_ n2_ n3_ n4_ n5_; (try clear hb); (try clear hb2); (try clear hk); (try clear hi); (try clear ho0); obtain ⟨Ao25, co25, eo25⟩ := Kd.R_slice HO176.out; subst eo25; have hcz26_0 : w24.cell? ⟨gb166, 0, none⟩ = some (.int .i64 0) := (bkC BK166.out 0).trans rfl; have hcz26_1 : w24.cell? ⟨gb166, 1, none⟩ = some (.int .i64 0) := (bkC BK166.out 1).trans rfl; have hcz26_2 : w24.cell? ⟨gb166, 2, none⟩ = some (.slice none 0 0) := (bkC BK166.out 2).trans rfl; have hfz26_0 := bkF BK166.out 0; have hfz26_1 := bkF BK166.out 1; have hfz26_2 := bkF BK166.out 2))
          refine bodyPost_ret (results_cell_row rfl _ _ gb166 24 #[.int .i64 a1, .int .i64 t167, .slice Ao25 t174.length co25] (0, 0) _ rfl (by (with_reducible repeat (first | refine bkN ?_ _ | refine bkD ?_ | refine bkA ?_ _)); refine blk_put (cs := #[.int .i64 a1, .int .i64 t167, .slice none 0 0]) ?_ 2 _ rfl; (with_reducible repeat (first | refine bkN ?_ _ | refine bkD ?_ | refine bkA ?_ _)); refine blk_put (cs := #[.int .i64 a1, .int .i64 0, .slice none 0 0]) ?_ 1 _ rfl; (with_reducible repeat (first | refine bkN ?_ _ | refine bkD ?_ | refine bkA ?_ _)); refine blk_put (cs := #[.int .i64 0, .int .i64 0, .slice none 0 0]) ?_ 0 _ rfl; (with_reducible repeat (first | refine bkN ?_ _ | refine bkD ?_ | refine bkA ?_ _)); exact BK166.out) Tryd.underlying24 rfl (by kernel_rfl)) rfl ?_
          exact ⟨_, by first | rfl | (simp [errW_none, errW_some] <;> rfl) | (simp only [← hji13]; first | rfl | (simp [errW_none, errW_some] <;> rfl)) | (simp [*, errW_none, errW_some] <;> rfl), Kd.V_mono (Kd.R_V (by (with_reducible repeat (first | apply Kd.R_alloc | apply Kd.R_drewN | apply Kd.R_drew)); exact Kd.R_mono (Kd.R_far (p := ⟨gb166, 2, none⟩) (Kd.R_far (p := ⟨gb166, 1, none⟩) (Kd.R_far (p := ⟨gb166, 0, none⟩) (Kd.R_types HO176.out BK166.out (by decide)) (fun _ hk => hk.2) (.int .i64 a1)) (fun _ hk => hk.2) (.int .i64 t167)) (fun _ hk => hk.2) (.slice Ao25 t174.length co25)) (fun _ hk => hk.1.1))) (fun k_ hk => by first | exact ⟨(.inr (hk.1)), hk.2⟩ | exact (.inr (hk))), by repeat (first | (with_reducible first | exact HB.out | apply pbA | apply pbN | apply pb1 | refine pbS ?_ GE165.out | refine pbS ?_ GE166.out) | exact HB.out)⟩
        · rw [if_neg c15] at H
          exact absurd H (by simp)
      · rw [if_neg c14] at H
        exact absurd H (by simp)
  · replace c4 := Bool.eq_false_iff.mpr c4
    subst c4
    have H1 : (some (a0_0, a0_1, l0_2)) = some (r1, r2, r3) := by rw [if_neg (show ¬ (false = true) by decide)] at H; exact H
    clear H
    have H := H1
    clear H1
    simp only [Option.some.injEq, Prod.mk.injEq] at H
    obtain ⟨rfl, rfl, rfl⟩ := H
    go_enter Tryd.func23, Tryd.ntmps23
    go_wp2_with (first | ((with_reducible refine gate_dst (N := 2) rfl ?_); refine box_event ?hg (N := 2) ?hd (cs := #[.int .i64 a0_0, .int .i64 a0_1, .slice A0_2 l0_2.length c0_2]) (t := 24) ?hr ?_; (case hd => rfl); (case hg => rfl); (case hr => first | (go_simp; done) | (go_simp; rfl)); intro gb165 hg w27 hbox hb; have n0_ := Az.mk (Kd.V_below (Kd.V_elderB (by (with_reducible repeat (first | apply Kd.V_alloc | apply Kd.V_drewN | apply Kd.V_drew)); exact HO0_2.out) gb165 (Nat.le_of_eq hg.symm)) hb); have n1_ := Az.mk (pbT (by repeat (first | (with_reducible first | exact HB.out | apply pbA | apply pbN | apply pb1) | exact HB.out)) hb); have n2_ := Az.mk (hbox); have n3_ := Az.mk ((by rw [hg]; exact (pbZ (by repeat (first | (with_reducible first | exact HB.out | apply pbA | apply pbN | apply pb1) | exact HB.out))) : w.heap.size ≤ gb165)); have n4_ := Az.mk ((by rw [hg]; exact (pbZ (by repeat (first | (with_reducible first | exact HB.out | apply pbA | apply pbN | apply pb1) | exact HB.out))) : w.heap.size ≤ gb165)); clear HO0_2; clear HB; have HO0_2 := n0_; have HB := n1_; have BK165 := n2_; have GW165 := n3_; have GE165 := n4_; clear n0_ n1_ n2_ n3_ n4_; clear hb hbox hg) | ((with_reducible refine gate_dst (N := 4) rfl ?_); refine box_event ?hg (N := 4) ?hd (cs := #[.int .i64 0, .int .i64 0, .slice none 0 0]) (t := 24) ?hr ?_; (case hd => rfl); (case hg => rfl); (case hr => first | (go_simp; done) | (go_simp; rfl)); intro gb166 hg w28 hbox hb; have n0_ := Az.mk (Kd.V_below (Kd.V_elderB (by (with_reducible repeat (first | apply Kd.V_alloc | apply Kd.V_drewN | apply Kd.V_drew)); exact HO0_2.out) gb166 (Nat.le_of_eq hg.symm)) hb); have n1_ := Az.mk (bkB (g := gb165) (o := .cells #[.int .i64 a0_0, .int .i64 a0_1, .slice A0_2 l0_2.length c0_2] 24 (0, 0)) (by (with_reducible repeat (first | refine bkN ?_ _ | refine bkD ?_ | refine bkA ?_ _)); exact BK165.out) hb); have n2_ := Az.mk (pbT (by repeat (first | (with_reducible first | exact HB.out | apply pbA | apply pbN | apply pb1 | refine pbS ?_ GE165.out) | exact HB.out)) hb); have n3_ := Az.mk (hbox); have n4_ := Az.mk ((by rw [hg]; exact (pbZ (by repeat (first | (with_reducible first | exact HB.out | apply pbA | apply pbN | apply pb1 | refine pbS ?_ GE165.out) | exact HB.out))) : w.heap.size ≤ gb166)); have n5_ := Az.mk ((by rw [hg]; exact (pbZ (by repeat (first | (with_reducible first | exact HB.out | apply pbA | apply pbN | apply pb1 | refine pbS ?_ GE165.out) | exact HB.out))) : w.heap.size ≤ gb166)); have n6_ := Az.mk ((by rw [hg]; exact Nat.ne_of_lt (blk_lt (g := gb165) (o := .cells #[.int .i64 a0_0, .int .i64 a0_1, .slice A0_2 l0_2.length c0_2] 24 (0, 0)) (by (with_reducible repeat (first | refine bkN ?_ _ | refine bkD ?_ | refine bkA ?_ _)); exact BK165.out)) : gb165 ≠ gb166)); have n7_ := Az.mk ((by rw [hg]; exact Nat.ne_of_gt (blk_lt (g := gb165) (o := .cells #[.int .i64 a0_0, .int .i64 a0_1, .slice A0_2 l0_2.length c0_2] 24 (0, 0)) (by (with_reducible repeat (first | refine bkN ?_ _ | refine bkD ?_ | refine bkA ?_ _)); exact BK165.out)) : gb166 ≠ gb165)); clear HO0_2; clear BK165; clear HB; have HO0_2 := n0_; have BK165 := n1_; have HB := n2_; have BK166 := n3_; have GW166 := n4_; have GE166 := n5_; have NB165_166 := n6_; have NB166_165 := n7_; clear n0_ n1_ n2_ n3_ n4_ n5_ n6_ n7_; clear hb hbox hg; have hnb29 := NB165_166.out; have hnc29 := NB166_165.out; have hcz30_0 : w28.cell? ⟨gb165, 0, none⟩ = some (.int .i64 a0_0) := (bkC BK165.out 0).trans rfl; have hcz30_1 : w28.cell? ⟨gb165, 1, none⟩ = some (.int .i64 a0_1) := (bkC BK165.out 1).trans rfl; have hcz30_2 : w28.cell? ⟨gb165, 2, none⟩ = some (.slice A0_2 l0_2.length c0_2) := (bkC BK165.out 2).trans rfl; have hfz30_0 := bkF BK165.out 0; have hfz30_1 := bkF BK165.out 1; have hfz30_2 := bkF BK165.out 2) | ((with_reducible refine gtc (f := 24) rfl ?_); refine goesL_ (some 10) rfl rfl Tryd.func24 (by kernel_rfl) rfl #[.agg #[.int .i64 a0_0, .int .i64 a0_1, .slice A0_2 l0_2.length c0_2], .int .i64 a1] rfl (by (try simp only [List.map_toArray, List.map_cons, List.map_nil]); first | done | rfl | (simp only [List.length_drop, List.length_take]; rfl)) ?_; (with_reducible refine (roll_Term.calls k a0_0 a0_1 _ _ l0_2 a1 t167 false _ ?side1 ?side2 ?side3 A3.out).mono ?_); (case side1 => exact hG.below (by repeat (first | (with_reducible first | exact HB.out | apply pbA | apply pbN | apply pb1 | refine pbS ?_ GE165.out | refine pbS ?_ GE166.out) | exact HB.out))); (case side2 => repeat (first | exact (Kd.V_reads' HO0_2.out).2.2 | (with_reducible refine Kd.C_alloc ?_ _) | (with_reducible refine Kd.C_drewN ?_ _) | (with_reducible refine Kd.C_drew ?_))); (case side3 => exact (Kd.V_reads' HO0_2.out).2.1); rintro e w31 ⟨rfl, hb⟩; refine ⟨_, rfl, ?_⟩; have n0_ := Az.mk (Kd.V_below (by (with_reducible repeat (first | apply Kd.V_alloc | apply Kd.V_drewN | apply Kd.V_drew)); exact HO0_2.out) hb); have n1_ := Az.mk (bkB (g := gb165) (o := .cells #[.int .i64 a0_0, .int .i64 a0_1, .slice A0_2 l0_2.length c0_2] 24 (0, 0)) (by (with_reducible repeat (first | refine bkN ?_ _ | refine bkD ?_ | refine bkA ?_ _)); exact BK165.out) hb); have n2_ := Az.mk (bkB (g := gb166) (o := .cells #[.int .i64 0, .int .i64 0, .slice none 0 0] 24 (0, 0)) (by (with_reducible repeat (first | refine bkN ?_ _ | refine bkD ?_ | refine bkA ?_ _)); exact BK166.out) hb); have n3_ := Az.mk (pbT (by repeat (first | (with_reducible first | exact HB.out | apply pbA | apply pbN | apply pb1 | refine pbS ?_ GE165.out | refine pbS ?_ GE166.out) | exact HB.out)) hb); clear HO0_2; clear BK165; clear BK166; clear HB; have HO0_2 := n0_; have BK165 := n1_; have BK166 := n2_; have HB := n3_; clear n0_ n1_ n2_ n3_; (try clear hb); (try clear hb2); (try clear hk); (try clear hi); have hcz32_0 : w31.cell? ⟨gb165, 0, none⟩ = some (.int .i64 a0_0) := (bkC BK165.out 0).trans rfl; have hcz32_1 : w31.cell? ⟨gb165, 1, none⟩ = some (.int .i64 a0_1) := (bkC BK165.out 1).trans rfl; have hcz32_2 : w31.cell? ⟨gb165, 2, none⟩ = some (.slice A0_2 l0_2.length c0_2) := (bkC BK165.out 2).trans rfl; have hfz32_0 := bkF BK165.out 0; have hfz32_1 := bkF BK165.out 1; have hfz32_2 := bkF BK165.out 2; have hcz33_0 : w31.cell? ⟨gb166, 0, none⟩ = some (.int .i64 0) := (bkC BK166.out 0).trans rfl; have hcz33_1 : w31.cell? ⟨gb166, 1, none⟩ = some (.int .i64 0) := (bkC BK166.out 1).trans rfl; have hcz33_2 : w31.cell? ⟨gb166, 2, none⟩ = some (.slice none 0 0) := (bkC BK166.out 2).trans rfl; have hfz33_0 := bkF BK166.out 0; have hfz33_1 := bkF BK166.out 1; have hfz33_2 := bkF BK166.out 2))
    refine bodyPost_ret (results_cell_row rfl _ _ gb166 24 #[.int .i64 a0_0, .int .i64 a0_1, .slice A0_2 l0_2.length c0_2] (0, 0) _ rfl (by (with_reducible repeat (first | refine bkN ?_ _ | refine bkD ?_ | refine bkA ?_ _)); refine blk_put (cs := #[.int .i64 a0_0, .int .i64 a0_1, .slice none 0 0]) ?_ 2 _ rfl; (with_reducible repeat (first | refine bkN ?_ _ | refine bkD ?_ | refine bkA ?_ _)); refine blk_put (cs := #[.int .i64 a0_0, .int .i64 0, .slice none 0 0]) ?_ 1 _ rfl; (with_reducible repeat (first | refine bkN ?_ _ | refine bkD ?_ | refine bkA ?_ _)); refine blk_put (cs := #[.int .i64 0, .int .i64 0, .slice none 0 0]) ?_ 0 _ rfl; (with_reducible repeat (first | refine bkN ?_ _ | refine bkD ?_ | refine bkA ?_ _)); exact BK166.out) Tryd.underlying24 rfl (by kernel_rfl)) rfl ?_
    exact ⟨_, by first | rfl | (simp [errW_none, errW_some] <;> rfl) | (simp [*, errW_none, errW_some] <;> rfl), by (with_reducible repeat (first | apply Kd.V_alloc | apply Kd.V_drewN | apply Kd.V_drew)); exact Kd.V_mono (Kd.V_far (p := ⟨gb166, 2, none⟩) (Kd.V_far (p := ⟨gb166, 1, none⟩) (Kd.V_far (p := ⟨gb166, 0, none⟩) (Kd.V_mono HO0_2.out (fun k_ hk => (⟨hk, hk.2⟩ : _ ∧ k_ ≠ gb166))) (fun _ hk => hk.2) (.int .i64 a0_0)) (fun _ hk => hk.2) (.int .i64 a0_1)) (fun _ hk => hk.2) (.slice A0_2 l0_2.length c0_2)) (fun _ hk => hk.1.1.1), by repeat (first | (with_reducible first | exact HB.out | apply pbA | apply pbN | apply pb1 | refine pbS ?_ GE165.out | refine pbS ?_ GE166.out) | exact HB.out)⟩
end Go.Proofs.YtjpihfjgomoijaaDoor.P
end
section
-- Written by a program of this session (wip/tools/pr.py), over the kit's printer; functions named in the texts imported below are given by hand.
namespace Go.Proofs.YtjpihfjgomoijaaDoor.P
open Go.RowKit Go.Proofs.YtjpihfjgomoijaaDoor.K Go.Proofs.YtjpihfjgomoijaaDoorW.PrintWords Go.Proofs.YtjpihfjgomoijaaDoorW.PrintLast Go.Proofs.YtjpihfjgomoijaaDoorW.PrintMore
attribute [local go_sem] max2_int min2_int max_two min_two max_three min_three max_four min_four   -- for this text's walks alone
/-! ### r11_Last: function 27 -/
def r11_Last.f (a0_0 : Int) (a0_1 : Int) (l0_2 : List (S54)) : Option (Int × Int) := if (l0_2.length : Int) = 0 then (some (a0_0, a0_1)) else (if 0 ≤ (wrap64 ((l0_2.length : Int) - 1)) then (if (wrap64 ((l0_2.length : Int) - 1)) < (l0_2.length : Int) then (some (wrap64 (a0_0 + (l0_2.length : Int)), (rd_T54 l0_2 (wrap64 ((l0_2.length : Int) - 1))).f0)) else (none)) else (none))
set_option maxHeartbeats 8000000 in
set_option maxRecDepth 100000 in
theorem r11_Last.calls (a0_0 : Int) (a0_1 : Int) (A0_2 : Option Addr) (c0_2 : Nat) (l0_2 : List (S54)) (r1 : Int) (r2 : Int) (w : World) (hG : TheG w) (hr0_2 : Kd.C k54 w A0_2 l0_2.length l0_2) (hc0_2 : l0_2.length ≤ c0_2) (h : r11_Last.f a0_0 a0_1 l0_2 = some (r1, r2)) :
    Calls Tryd.prog 27 #[.agg #[.int .i64 a0_0, .int .i64 a0_1, .slice A0_2 l0_2.length c0_2]] w fun e w' => e = .returned (.tuple #[.int .i64 r1, .int .i64 r2]) ∧ Below w.heap.size w w' := by
  have hu24 := Tryd.underlying24
  have HR0_2 := Az.mk hr0_2
  have HC0_2 := Az.mk hc0_2
  clear hr0_2 hc0_2
  have HB := Az.mk (Below.refl w.heap.size w)
  have H : (if (l0_2.length : Int) = 0 then (some (a0_0, a0_1)) else (if 0 ≤ (wrap64 ((l0_2.length : Int) - 1)) then (if (wrap64 ((l0_2.length : Int) - 1)) < (l0_2.length : Int) then (some (wrap64 (a0_0 + (l0_2.length : Int)), (rd_T54 l0_2 (wrap64 ((l0_2.length : Int) - 1))).f0)) else (none)) else (none))) = some (r1, r2) := h
  clear h
  by_cases c2 : (l0_2.length : Int) = 0
  · rw [if_pos c2] at H
    have c2b0 : ((l0_2.length : Int) == 0) = true := beq_iff_eq.mpr c2
    have c2b1 : ((l0_2.length : Int) != 0) = false := bne_eq_false_iff_eq.mpr c2
    clear c2
    simp only [Option.some.injEq, Prod.mk.injEq] at H
    obtain ⟨rfl, rfl⟩ := H
    go_enter Tryd.func27, Tryd.ntmps27
    go_wp2_with (first | ((with_reducible refine gate_dst (N := 1) rfl ?_); refine box_event ?hg (N := 1) ?hd (cs := #[.int .i64 a0_0, .int .i64 a0_1, .slice A0_2 l0_2.length c0_2]) (t := 24) ?hr ?_; (case hd => rfl); (case hg => rfl); (case hr => first | (go_simp; done) | (go_simp; rfl)); intro gb316 hg w3 hbox hb; have n0_ := Az.mk (pbT (by repeat (first | (with_reducible first | exact HB.out | apply pbA | apply pbN | apply pb1) | exact HB.out)) hb); have n1_ := Az.mk (hbox); have n2_ := Az.mk ((by rw [hg]; exact (pbZ (by repeat (first | (with_reducible first | exact HB.out | apply pbA | apply pbN | apply pb1) | exact HB.out))) : w.heap.size ≤ gb316)); have n3_ := Az.mk ((by rw [hg]; exact (pbZ (by repeat (first | (with_reducible first | exact HB.out | apply pbA | apply pbN | apply pb1) | exact HB.out))) : w.heap.size ≤ gb316)); clear HB; have HB := n0_; have BK316 := n1_; have GW316 := n2_; have GE316 := n3_; clear n0_ n1_ n2_ n3_; clear hb hbox hg; have hcz4_0 : w3.cell? ⟨gb316, 0, none⟩ = some (.int .i64 a0_0) := (bkC BK316.out 0).trans rfl; have hcz4_1 : w3.cell? ⟨gb316, 1, none⟩ = some (.int .i64 a0_1) := (bkC BK316.out 1).trans rfl; have hcz4_2 : w3.cell? ⟨gb316, 2, none⟩ = some (.slice A0_2 l0_2.length c0_2) := (bkC BK316.out 2).trans rfl; have hfz4_0 := bkF BK316.out 0; have hfz4_1 := bkF BK316.out 1; have hfz4_2 := bkF BK316.out 2))
    repeat (go_quiet (first | ((with_reducible refine gate_dst (N := 1) rfl ?_); refine box_event ?hg (N := 1) ?hd (cs := #[.int .i64 a0_0, .int .i64 a0_1, .slice A0_2 l0_2.length c0_2]) (t := 24) ?hr ?_; (case hd => rfl); (case hg => rfl); (case hr => first | (go_simp; done) | (go_simp; rfl)); intro gb316 hg w3 hbox hb; have n0_ := Az.mk (pbT (by repeat (first | (with_reducible first | exact HB.out | apply pbA | apply pbN | apply pb1) | exact HB.out)) hb); have n1_ := Az.mk (hbox); have n2_ := Az.mk ((by rw [hg]; exact (pbZ (by repeat (first | (with_reducible first | exact HB.out | apply pbA | apply pbN | apply pb1) | exact HB.out))) : w.heap.size ≤ gb316)); have n3_ := Az.mk ((by rw [hg]; exact (pbZ (by repeat (first | (with_reducible first | exact HB.out | apply pbA | apply pbN | apply pb1) | exact HB.out))) : w.heap.size ≤ gb316)); clear HB; have HB := n0_; have BK316 := n1_; have GW316 := n2_; have GE316 := n3_; clear n0_ n1_ n2_ n3_; clear hb hbox hg; have hcz4_0 : w3.cell? ⟨gb316, 0, none⟩ = some (.int .i64 a0_0) := (bkC BK316.out 0).trans rfl; have hcz4_1 : w3.cell? ⟨gb316, 1, none⟩ = some (.int .i64 a0_1) := (bkC BK316.out 1).trans rfl; have hcz4_2 : w3.cell? ⟨gb316, 2, none⟩ = some (.slice A0_2 l0_2.length c0_2) := (bkC BK316.out 2).trans rfl; have hfz4_0 := bkF BK316.out 0; have hfz4_1 := bkF BK316.out 1; have hfz4_2 := bkF BK316.out 2)); try go_wp2_with (first | ((with_reducible refine gate_dst (N := 1) rfl ?_); refine box_event ?hg (N := 1) ?hd (cs := #[.int .i64 a0_0, .int .i64 a0_1, .slice A0_2 l0_2.length c0_2]) (t := 24) ?hr ?_; (case hd => rfl); (case hg => rfl); (case hr => first | (go_simp; done) | (go_simp; rfl)); intro gb316 hg w3 hbox hb; have n0_ := Az.mk (pbT (by repeat (first | (with_reducible first | exact HB.out | apply pbA | apply pbN | apply pb1) | exact HB.out)) hb); have n1_ := Az.mk (hbox); have n2_ := Az.mk ((by rw [hg]; exact (pbZ (by repeat (first | (with_reducible first | exact HB.out | apply pbA | apply pbN | apply pb1) | exact HB.out))) : w.heap.size ≤ gb316)); have n3_ := Az.mk ((by rw [hg]; exact (pbZ (by repeat (first | (with_reducible first | exact HB.out | apply pbA | apply pbN | apply pb1) | exact HB.out))) : w.heap.size ≤ gb316)); clear HB; have HB := n0_; have BK316 := n1_; have GW316 := n2_; have GE316 := n3_; clear n0_ n1_ n2_ n3_; clear hb hbox hg; have hcz4_0 : w3.cell? ⟨gb316, 0, none⟩ = some (.int .i64 a0_0) := (bkC BK316.out 0).trans rfl; have hcz4_1 : w3.cell? ⟨gb316, 1, none⟩ = some (.int .i64 a0_1) := (bkC BK316.out 1).trans rfl; have hcz4_2 : w3.cell? ⟨gb316, 2, none⟩ = some (.slice A0_2 l0_2.length c0_2) := (bkC BK316.out 2).trans rfl; have hfz4_0 := bkF BK316.out 0; have hfz4_1 := bkF BK316.out 1; have hfz4_2 := bkF BK316.out 2)))
    go_ret2
    exact ⟨by first | rfl | (simp [errW_none, errW_some] <;> rfl) | (simp [*, errW_none, errW_some] <;> rfl), by repeat (first | (with_reducible first | exact HB.out | apply pbA | apply pbN | apply pb1 | refine pbS ?_ GE316.out) | exact HB.out)⟩
  · rw [if_neg c2] at H
    have c2b0 : ((l0_2.length : Int) == 0) = false := beq_eq_false_iff_ne.mpr c2
    have c2b1 : ((l0_2.length : Int) != 0) = true := bne_iff_ne.mpr c2
    have c2b2 : ¬ (l0_2 = []) := fun h_ => c2 (by rw [h_]; rfl)
    obtain ⟨ji5, hji5⟩ : ∃ j_ : Int, (wrap64 ((l0_2.length : Int) - 1)) = j_ := ⟨_, rfl⟩
    replace H : (if 0 ≤ (ji5) then (if (ji5) < (l0_2.length : Int) then (some (wrap64 (a0_0 + (l0_2.length : Int)), (rd_T54 l0_2 (ji5)).f0)) else (none)) else (none)) = some (r1, r2) := by first | (rw [hji5] at H; exact H) | (simp only [hji5] at H ⊢; exact H)
    have hji5w : (IntKind.i64.wrap ((l0_2.length : Int) - 1)) = ji5 := (i64_w _).trans hji5
    by_cases c6 : 0 ≤ (ji5)
    · rw [if_pos c6] at H
      have c6b0 : decide (0 ≤ (ji5)) = true := decide_eq_true c6
      clear c6
      by_cases c7 : (ji5) < (l0_2.length : Int)
      · rw [if_pos c7] at H
        have c7b0 : decide ((ji5) < (l0_2.length : Int)) = true := decide_eq_true c7
        clear c7
        simp only [Option.some.injEq, Prod.mk.injEq] at H
        obtain ⟨rfl, rfl⟩ := H
        go_enter Tryd.func27, Tryd.ntmps27
        go_wp2_with (first | ((with_reducible refine gate_dst (N := 1) rfl ?_); refine box_event ?hg (N := 1) ?hd (cs := #[.int .i64 a0_0, .int .i64 a0_1, .slice A0_2 l0_2.length c0_2]) (t := 24) ?hr ?_; (case hd => rfl); (case hg => rfl); (case hr => first | (go_simp; done) | (go_simp; rfl)); intro gb316 hg w8 hbox hb; have n0_ := Az.mk (pbT (by repeat (first | (with_reducible first | exact HB.out | apply pbA | apply pbN | apply pb1) | exact HB.out)) hb); have n1_ := Az.mk (hbox); have n2_ := Az.mk ((by rw [hg]; exact (pbZ (by repeat (first | (with_reducible first | exact HB.out | apply pbA | apply pbN | apply pb1) | exact HB.out))) : w.heap.size ≤ gb316)); have n3_ := Az.mk ((by rw [hg]; exact (pbZ (by repeat (first | (with_reducible first | exact HB.out | apply pbA | apply pbN | apply pb1) | exact HB.out))) : w.heap.size ≤ gb316)); clear HB; have HB := n0_; have BK316 := n1_; have GW316 := n2_; have GE316 := n3_; clear n0_ n1_ n2_ n3_; clear hb hbox hg; have hcz9_0 : w8.cell? ⟨gb316, 0, none⟩ = some (.int .i64 a0_0) := (bkC BK316.out 0).trans rfl; have hcz9_1 : w8.cell? ⟨gb316, 1, none⟩ = some (.int .i64 a0_1) := (bkC BK316.out 1).trans rfl; have hcz9_2 : w8.cell? ⟨gb316, 2, none⟩ = some (.slice A0_2 l0_2.length c0_2) := (bkC BK316.out 2).trans rfl; have hfz9_0 := bkF BK316.out 0; have hfz9_1 := bkF BK316.out 1; have hfz9_2 := bkF BK316.out 2; have p317 : 0 ≤ ((ji5) : Int) := of_decide_eq_true (by first | (with_reducible assumption) | assumption); have q317 : (ji5) < (l0_2.length : Int) := of_decide_eq_true (by first | (with_reducible assumption) | assumption); obtain ⟨ad317, e317, hx317_0, hx317_1⟩ := at_T54 HR0_2.out (ji5) p317 q317; cases e317; replace hx317_0 := (HB.out.cell (World.block_lt_of_cell? w _ hx317_0)).trans hx317_0; replace hx317_1 := (HB.out.cell (World.block_lt_of_cell? w _ hx317_1)).trans hx317_1; replace p317 := eq_true p317; replace q317 := eq_true q317))
        repeat (go_quiet (first | ((with_reducible refine gate_dst (N := 1) rfl ?_); refine box_event ?hg (N := 1) ?hd (cs := #[.int .i64 a0_0, .int .i64 a0_1, .slice A0_2 l0_2.length c0_2]) (t := 24) ?hr ?_; (case hd => rfl); (case hg => rfl); (case hr => first | (go_simp; done) | (go_simp; rfl)); intro gb316 hg w8 hbox hb; have n0_ := Az.mk (pbT (by repeat (first | (with_reducible first | exact HB.out | apply pbA | apply pbN | apply pb1) | exact HB.out)) hb); have n1_ := Az.mk (hbox); have n2_ := Az.mk ((by rw [hg]; exact (pbZ (by repeat (first | (with_reducible first | exact HB.out | apply pbA | apply pbN | apply pb1) | exact HB.out))) : w.heap.size ≤ gb316)); have n3_ := Az.mk ((by rw [hg]; exact (pbZ (by repeat (first | (with_reducible first | exact HB.out | apply pbA | apply pbN | apply pb1) | exact HB.out))) : w.heap.size ≤ gb316)); clear HB; have HB := n0_; have BK316 := n1_; have GW316 := n2_; have GE316 := n3_; clear n0_ n1_ n2_ n3_; clear hb hbox hg; have hcz9_0 : w8.cell? ⟨gb316, 0, none⟩ = some (.int .i64 a0_0) := (bkC BK316.out 0).trans rfl; have hcz9_1 : w8.cell? ⟨gb316, 1, none⟩ = some (.int .i64 a0_1) := (bkC BK316.out 1).trans rfl; have hcz9_2 : w8.cell? ⟨gb316, 2, none⟩ = some (.slice A0_2 l0_2.length c0_2) := (bkC BK316.out 2).trans rfl; have hfz9_0 := bkF BK316.out 0; have hfz9_1 := bkF BK316.out 1; have hfz9_2 := bkF BK316.out 2; have p317 : 0 ≤ ((ji5) : Int) := of_decide_eq_true (by first | (with_reducible assumption) | assumption); have q317 : (ji5) < (l0_2.length : Int) := of_decide_eq_true (by first | (with_reducible assumption) | assumption); obtain ⟨ad317, e317, hx317_0, hx317_1⟩ := at_T54 HR0_2.out (ji5) p317 q317; cases e317; replace hx317_0 := (HB.out.cell (World.block_lt_of_cell? w _ hx317_0)).trans hx317_0; replace hx317_1 := (HB.out.cell (World.block_lt_of_cell? w _ hx317_1)).trans hx317_1; replace p317 := eq_true p317; replace q317 := eq_true q317)); try go_wp2_with (first | ((with_reducible refine gate_dst (N := 1) rfl ?_); refine box_event ?hg (N := 1) ?hd (cs := #[.int .i64 a0_0, .int .i64 a0_1, .slice A0_2 l0_2.length c0_2]) (t := 24) ?hr ?_; (case hd => rfl); (case hg => rfl); (case hr => first | (go_simp; done) | (go_simp; rfl)); intro gb316 hg w8 hbox hb; have n0_ := Az.mk (pbT (by repeat (first | (with_reducible first | exact HB.out | apply pbA | apply pbN | apply pb1) | exact HB.out)) hb); have n1_ := Az.mk (hbox); have n2_ := Az.mk ((by rw [hg]; exact (pbZ (by repeat (first | (with_reducible first | exact HB.out | apply pbA | apply pbN | apply pb1) | exact HB.out))) : w.heap.size ≤ gb316)); have n3_ := Az.mk ((by rw [hg]; exact (pbZ (by repeat (first | (with_reducible first | exact HB.out | apply pbA | apply pbN | apply pb1) | exact HB.out))) : w.heap.size ≤ gb316)); clear HB; have HB := n0_; have BK316 := n1_; have GW316 := n2_; have GE316 := n3_; clear n0_ n1_ n2_ n3_; clear hb hbox hg; have hcz9_0 : w8.cell? ⟨gb316, 0, none⟩ = some (.int .i64 a0_0) := (bkC BK316.out 0).trans rfl; have hcz9_1 : w8.cell? ⟨gb316, 1, none⟩ = some (.int .i64 a0_1) := (bkC BK316.out 1).trans rfl; have hcz9_2 : w8.cell? ⟨gb316, 2, none⟩ = some (.slice A0_2 l0_2.length c0_2) := (bkC BK316.out 2).trans rfl; have hfz9_0 := bkF BK316.out 0; have hfz9_1 := bkF BK316.out 1; have hfz9_2 := bkF BK316.out 2; have p317 : 0 ≤ ((ji5) : Int) := of_decide_eq_true (by first | (with_reducible assumption) | assumption); have q317 : (ji5) < (l0_2.length : Int) := of_decide_eq_true (by first | (with_reducible assumption) | assumption); obtain ⟨ad317, e317, hx317_0, hx317_1⟩ := at_T54 HR0_2.out (ji5) p317 q317; cases e317; replace hx317_0 := (HB.out.cell (World.block_lt_of_cell? w _ hx317_0)).trans hx317_0; replace hx317_1 := (HB.out.cell (World.block_lt_of_cell? w _ hx317_1)).trans hx317_1; replace p317 := eq_true p317; replace q317 := eq_true q317)))
        go_ret2
        exact ⟨by first | rfl | (simp [errW_none, errW_some] <;> rfl) | (simp only [← hji5]; first | rfl | (simp [errW_none, errW_some] <;> rfl)) | (simp [*, errW_none, errW_some] <;> rfl), by repeat (first | (with_reducible first | exact HB.out | apply pbA | apply pbN | apply pb1 | refine pbS ?_ GE316.out) | exact HB.out)⟩
      · rw [if_neg c7] at H
        exact absurd H (by simp)
    · rw [if_neg c6] at H
      exact absurd H (by simp)
end Go.Proofs.YtjpihfjgomoijaaDoor.P
end
section
-- Written by a program of this session (wip/tools/pr.py), over the kit's printer; functions named in the texts imported below are given by hand.
namespace Go.Proofs.YtjpihfjgomoijaaDoor.P
open Go.RowKit Go.Proofs.YtjpihfjgomoijaaDoor.K Go.Proofs.YtjpihfjgomoijaaDoorW.PrintWords Go.Proofs.YtjpihfjgomoijaaDoorW.PrintLast Go.Proofs.YtjpihfjgomoijaaDoorW.PrintMore
attribute [local go_sem] max2_int min2_int max_two min_two max_three min_three max_four min_four   -- for this text's walks alone
/-! ### r11_Term: function 28 -/
def r11_Term.j0 : Nat → Int → Bool → Int → Int → List (S54) → Option (Int × Bool)
  | 0, _, _, _, _, _ => none
  | k + 1, x1, x21, x319000, x319001, x319002 => if x21 = true then (some (0, false)) else (if x1 = x319000 then (some (x319001, true)) else (if 0 ≤ (wrap64 ((wrap64 (x1 - x319000)) - 1)) then (if (wrap64 ((wrap64 (x1 - x319000)) - 1)) < (x319002.length : Int) then (some ((rd_T54 x319002 (wrap64 ((wrap64 (x1 - x319000)) - 1))).f0, true)) else (none)) else (none)))
def r11_Term.f (k : Nat) (a0_0 : Int) (a0_1 : Int) (l0_2 : List (S54)) (a1 : Int) : Option (Int × Bool) := (r11_Last.f a0_0 a0_1 l0_2).bind fun bt319 => (if a1 < a0_0 then (r11_Term.j0 k a1 true a0_0 a0_1 l0_2) else (r11_Term.j0 k a1 (decide (a1 > bt319.1)) a0_0 a0_1 l0_2))
theorem r11_Term.mono_l : ∀ k, (∀ y0 y1 y2 y3 y4, LeO (r11_Term.j0 k y0 y1 y2 y3 y4) (r11_Term.j0 (k + 1) y0 y1 y2 y3 y4))
  | 0 => fun _ _ _ _ _ r h => by simp [r11_Term.j0] at h
  | k + 1 => by
    have ih0 := r11_Term.mono_l k
    · intro y0 y1 y2 y3 y4
      unfold r11_Term.j0
      repeat' first
      | (with_reducible exact ih0 _ _ _ _ _)
      | (with_reducible exact LeO.refl _)
      | (with_reducible exact LeO.none _)
      | (with_reducible refine LeO.ite ?_ ?_)
      | (with_reducible refine LeO.bind ?_ (fun _ => ?_))
      | exact ih0 _ _ _ _ _
      | exact LeO.none _
      | refine LeO.ite ?_ ?_
      | refine LeO.bind ?_ (fun _ => ?_)
theorem r11_Term.mono : ∀ a0 a1 a2 a3 k, LeO (r11_Term.f k a0 a1 a2 a3) (r11_Term.f (k + 1) a0 a1 a2 a3) := by
  intro a0 a1 a2 a3 k
  have ih0 := r11_Term.mono_l k
  unfold r11_Term.f
  repeat' first
      | (with_reducible exact ih0 _ _ _ _ _)
      | (with_reducible exact LeO.refl _)
      | (with_reducible exact LeO.none _)
      | (with_reducible refine LeO.ite ?_ ?_)
      | (with_reducible refine LeO.bind ?_ (fun _ => ?_))
      | exact ih0 _ _ _ _ _
      | exact LeO.none _
      | refine LeO.ite ?_ ?_
      | refine LeO.bind ?_ (fun _ => ?_)
set_option maxHeartbeats 8000000 in
set_option maxRecDepth 100000 in
theorem r11_Term.calls (k : Nat) (a0_0 : Int) (a0_1 : Int) (A0_2 : Option Addr) (c0_2 : Nat) (l0_2 : List (S54)) (a1 : Int) (r1 : Int) (r2 : Bool) (w : World) (hG : TheG w) (hr0_2 : Kd.C k54 w A0_2 l0_2.length l0_2) (hc0_2 : l0_2.length ≤ c0_2) (h : r11_Term.f k a0_0 a0_1 l0_2 a1 = some (r1, r2)) :
    Calls Tryd.prog 28 #[.agg #[.int .i64 a0_0, .int .i64 a0_1, .slice A0_2 l0_2.length c0_2], .int .i64 a1] w fun e w' => e = .returned (.tuple #[.int .i64 r1, .bool r2]) ∧ Below w.heap.size w w' := by
  have hu24 := Tryd.underlying24
  have HR0_2 := Az.mk hr0_2
  have HC0_2 := Az.mk hc0_2
  clear hr0_2 hc0_2
  have HB := Az.mk (Below.refl w.heap.size w)
  have H : ((r11_Last.f a0_0 a0_1 l0_2).bind fun bt319 => (if a1 < a0_0 then (r11_Term.j0 k a1 true a0_0 a0_1 l0_2) else (r11_Term.j0 k a1 (decide (a1 > bt319.1)) a0_0 a0_1 l0_2))) = some (r1, r2) := h
  clear h
  replace H := Option.bind_eq_some_iff.mp H
  obtain ⟨⟨t319, t320⟩, A30, H⟩ := H
  replace H : (if a1 < a0_0 then (r11_Term.j0 k a1 true a0_0 a0_1 l0_2) else (r11_Term.j0 k a1 (decide (a1 > t319)) a0_0 a0_1 l0_2)) = some (r1, r2) := H
  have A3 := Az.mk A30
  clear A30
  have HC4 := Az.mk H
  clear H
  go_enter Tryd.func28, Tryd.ntmps28
  go_upto_region 2 with (first | ((with_reducible refine gate_dst (N := 2) rfl ?_); refine box_event ?hg (N := 2) ?hd (cs := #[.int .i64 a0_0, .int .i64 a0_1, .slice A0_2 l0_2.length c0_2]) (t := 24) ?hr ?_; (case hd => rfl); (case hg => rfl); (case hr => first | (go_simp; done) | (go_simp; rfl)); intro gb318 hg w5 hbox hb; have n0_ := Az.mk (pbT (by repeat (first | (with_reducible first | exact HB.out | apply pbA | apply pbN | apply pb1) | exact HB.out)) hb); have n1_ := Az.mk (hbox); have n2_ := Az.mk ((by rw [hg]; exact (pbZ (by repeat (first | (with_reducible first | exact HB.out | apply pbA | apply pbN | apply pb1) | exact HB.out))) : w.heap.size ≤ gb318)); have n3_ := Az.mk ((by rw [hg]; exact (pbZ (by repeat (first | (with_reducible first | exact HB.out | apply pbA | apply pbN | apply pb1) | exact HB.out))) : w.heap.size ≤ gb318)); clear HB; have HB := n0_; have BK318 := n1_; have GW318 := n2_; have GE318 := n3_; clear n0_ n1_ n2_ n3_; clear hb hbox hg; have hcz6_0 : w5.cell? ⟨gb318, 0, none⟩ = some (.int .i64 a0_0) := (bkC BK318.out 0).trans rfl; have hcz6_1 : w5.cell? ⟨gb318, 1, none⟩ = some (.int .i64 a0_1) := (bkC BK318.out 1).trans rfl; have hcz6_2 : w5.cell? ⟨gb318, 2, none⟩ = some (.slice A0_2 l0_2.length c0_2) := (bkC BK318.out 2).trans rfl; have hfz6_0 := bkF BK318.out 0; have hfz6_1 := bkF BK318.out 1; have hfz6_2 := bkF BK318.out 2) | ((with_reducible refine gtc (f := 27) rfl ?_); refine goesL_ (some 10) rfl rfl Tryd.func27 (by kernel_rfl) rfl #[.agg #[.int .i64 a0_0, .int .i64 a0_1, .slice A0_2 l0_2.length c0_2]] rfl (by (try simp only [List.map_toArray, List.map_cons, List.map_nil]); first | done | rfl | (simp only [List.length_drop, List.length_take]; rfl)) ?_; (with_reducible refine (r11_Last.calls a0_0 a0_1 _ _ l0_2 t319 t320 _ ?side1 ?side2 ?side3 A3.out).mono ?_); (case side1 => exact hG.below (by repeat (first | (with_reducible first | exact HB.out | apply pbA | apply pbN | apply pb1 | refine pbS ?_ GE318.out) | exact HB.out))); (case side2 => repeat (first | exact (Kd.C_below HR0_2.out HB.out) | (with_reducible refine Kd.C_alloc ?_ _) | (with_reducible refine Kd.C_drewN ?_ _) | (with_reducible refine Kd.C_drew ?_))); (case side3 => exact HC0_2.out); rintro e w7 ⟨rfl, hb⟩; refine ⟨_, rfl, ?_⟩; have n0_ := Az.mk (bkB (g := gb318) (o := .cells #[.int .i64 a0_0, .int .i64 a0_1, .slice A0_2 l0_2.length c0_2] 24 (0, 0)) (by (with_reducible repeat (first | refine bkN ?_ _ | refine bkD ?_ | refine bkA ?_ _)); exact BK318.out) hb); have n1_ := Az.mk (pbT (by repeat (first | (with_reducible first | exact HB.out | apply pbA | apply pbN | apply pb1 | refine pbS ?_ GE318.out) | exact HB.out)) hb); clear BK318; clear HB; have BK318 := n0_; have HB := n1_; clear n0_ n1_; (try clear hb); (try clear hb2); (try clear hk); (try clear hi)))
  (try simp only [Act.put, List.setIfInBounds_toArray, List.set_cons_zero, List.set_cons_succ])
  go_cut [21] (fun v21 wc => ∃ (kq : Nat) (x21_3 : Bool), v21 = .bool x21_3 ∧ Az (r11_Term.j0 kq a1 x21_3 a0_0 a0_1 l0_2 = some (r1, r2)) ∧ Az (kq ≤ k) ∧ Az (wc.heap[gb318]? = some (.cells #[.int .i64 a0_0, .int .i64 a0_1, (.slice A0_2 l0_2.length c0_2)] 24 (0, 0))) ∧ Az (Below w.heap.size w wc))
  case first =>
    have H := HC4.out
    clear HC4
    by_cases c8 : a1 < a0_0
    · rw [if_pos c8] at H
      have c8b0 : decide (a1 < a0_0) = true := decide_eq_true c8
      clear c8
      (first | rw [c8b0] | (simp only [i64_w, i32_w]; rw [c8b0]) | skip)
      have H' := Az.mk H
      clear H
      have hcz9_0 : w7.cell? ⟨gb318, 0, none⟩ = some (.int .i64 a0_0) := (bkC BK318.out 0).trans rfl
      have hcz9_1 : w7.cell? ⟨gb318, 1, none⟩ = some (.int .i64 a0_1) := (bkC BK318.out 1).trans rfl
      have hcz9_2 : w7.cell? ⟨gb318, 2, none⟩ = some (.slice A0_2 l0_2.length c0_2) := (bkC BK318.out 2).trans rfl
      have hfz9_0 := bkF BK318.out 0
      have hfz9_1 := bkF BK318.out 1
      have hfz9_2 := bkF BK318.out 2
      go_wp2
      go_meet
      case rel => exact ⟨_, (true), (by first | rfl | (simp; done) | (simp [*]; done)), H', ⟨by first | omega | exact Nat.le_refl _⟩, ⟨by (with_reducible repeat (first | refine bkN ?_ _ | refine bkD ?_ | refine bkA ?_ _)); exact BK318.out⟩, ⟨by repeat (first | (with_reducible first | exact HB.out | apply pbA | apply pbN | apply pb1 | refine pbS ?_ GE318.out) | exact HB.out)⟩⟩
    · rw [if_neg c8] at H
      have c8b0 : decide (a1 < a0_0) = false := decide_eq_false c8
      clear c8
      (first | rw [c8b0] | (simp only [i64_w, i32_w]; rw [c8b0]) | skip)
      have H' := Az.mk H
      clear H
      have hcz10_0 : w7.cell? ⟨gb318, 0, none⟩ = some (.int .i64 a0_0) := (bkC BK318.out 0).trans rfl
      have hcz10_1 : w7.cell? ⟨gb318, 1, none⟩ = some (.int .i64 a0_1) := (bkC BK318.out 1).trans rfl
      have hcz10_2 : w7.cell? ⟨gb318, 2, none⟩ = some (.slice A0_2 l0_2.length c0_2) := (bkC BK318.out 2).trans rfl
      have hfz10_0 := bkF BK318.out 0
      have hfz10_1 := bkF BK318.out 1
      have hfz10_2 := bkF BK318.out 2
      go_wp2
      go_meet
      case rel => exact ⟨_, (decide (a1 > t319)), (by first | rfl | (simp; done) | (simp [*]; done)), H', ⟨by first | omega | exact Nat.le_refl _⟩, ⟨by (with_reducible repeat (first | refine bkN ?_ _ | refine bkD ?_ | refine bkA ?_ _)); exact BK318.out⟩, ⟨by repeat (first | (with_reducible first | exact HB.out | apply pbA | apply pbN | apply pb1 | refine pbS ?_ GE318.out) | exact HB.out)⟩⟩
  case rest =>
    clear HC4
    try clear c2
    try clear p2
    try clear c8
    try clear c8b0
    try clear hcz10_0
    try clear hcz10_1
    try clear hcz10_2
    try clear hcz6_0
    try clear hcz6_1
    try clear hcz6_2
    try clear hcz9_0
    try clear hcz9_1
    try clear hcz9_2
    try clear hfz10_0
    try clear hfz10_1
    try clear hfz10_2
    try clear hfz6_0
    try clear hfz6_1
    try clear hfz6_2
    try clear hfz9_0
    try clear hfz9_1
    try clear hfz9_2
    obtain ⟨kq, x21_3, rfl, HA, HJ3, BK318, HB⟩ := hcut
    cases kq with
    | zero => exact absurd HA.out (by simp [r11_Term.j0])
    | succ kj3 =>
      have H := HA.out
      clear HA
      simp only [r11_Term.j0] at H
      by_cases c11 : x21_3 = true
      · subst c11
        have H1 : (some (0, false)) = some (r1, r2) := by rw [if_pos rfl] at H; exact H
        clear H
        have H := H1
        clear H1
        simp only [Option.some.injEq, Prod.mk.injEq] at H
        obtain ⟨rfl, rfl⟩ := H
        go_wp2
        go_ret2
        exact ⟨by first | rfl | (simp [errW_none, errW_some] <;> rfl) | (simp [*, errW_none, errW_some] <;> rfl), by repeat (first | (with_reducible first | exact HB.out | apply pbA | apply pbN | apply pb1 | refine pbS ?_ GE318.out) | exact HB.out)⟩
      · replace c11 := Bool.eq_false_iff.mpr c11
        subst c11
        have H1 : (if a1 = a0_0 then (some (a0_1, true)) else (if 0 ≤ (wrap64 ((wrap64 (a1 - a0_0)) - 1)) then (if (wrap64 ((wrap64 (a1 - a0_0)) - 1)) < (l0_2.length : Int) then (some ((rd_T54 l0_2 (wrap64 ((wrap64 (a1 - a0_0)) - 1))).f0, true)) else (none)) else (none))) = some (r1, r2) := by rw [if_neg (show ¬ (false = true) by decide)] at H; exact H
        clear H
        have H := H1
        clear H1
        by_cases c12 : a1 = a0_0
        · rw [if_pos c12] at H
          have c12b0 : (a1 == a0_0) = true := beq_iff_eq.mpr c12
          have c12b1 : (a1 != a0_0) = false := bne_eq_false_iff_eq.mpr c12
          clear c12
          simp only [Option.some.injEq, Prod.mk.injEq] at H
          obtain ⟨rfl, rfl⟩ := H
          have hcz13_0 : wc.cell? ⟨gb318, 0, none⟩ = some (.int .i64 a0_0) := (bkC BK318.out 0).trans rfl
          have hcz13_1 : wc.cell? ⟨gb318, 1, none⟩ = some (.int .i64 a0_1) := (bkC BK318.out 1).trans rfl
          have hcz13_2 : wc.cell? ⟨gb318, 2, none⟩ = some (.slice A0_2 l0_2.length c0_2) := (bkC BK318.out 2).trans rfl
          have hfz13_0 := bkF BK318.out 0
          have hfz13_1 := bkF BK318.out 1
          have hfz13_2 := bkF BK318.out 2
          go_wp2
          go_ret2
          exact ⟨by first | rfl | (simp [errW_none, errW_some] <;> rfl) | (simp [*, errW_none, errW_some] <;> rfl), by repeat (first | (with_reducible first | exact HB.out | apply pbA | apply pbN | apply pb1 | refine pbS ?_ GE318.out) | exact HB.out)⟩
        · rw [if_neg c12] at H
          have c12b0 : (a1 == a0_0) = false := beq_eq_false_iff_ne.mpr c12
          have c12b1 : (a1 != a0_0) = true := bne_iff_ne.mpr c12
          obtain ⟨ji14, hji14⟩ : ∃ j_ : Int, (wrap64 ((wrap64 (a1 - a0_0)) - 1)) = j_ := ⟨_, rfl⟩
          replace H : (if 0 ≤ (ji14) then (if (ji14) < (l0_2.length : Int) then (some ((rd_T54 l0_2 (ji14)).f0, true)) else (none)) else (none)) = some (r1, r2) := by first | (rw [hji14] at H; exact H) | (simp only [hji14] at H ⊢; exact H)
          have hji14w : (IntKind.i64.wrap ((wrap64 (a1 - a0_0)) - 1)) = ji14 := (i64_w _).trans hji14
          by_cases c15 : 0 ≤ (ji14)
          · rw [if_pos c15] at H
            have c15b0 : decide (0 ≤ (ji14)) = true := decide_eq_true c15
            clear c15
            by_cases c16 : (ji14) < (l0_2.length : Int)
            · rw [if_pos c16] at H
              have c16b0 : decide ((ji14) < (l0_2.length : Int)) = true := decide_eq_true c16
              clear c16
              simp only [Option.some.injEq, Prod.mk.injEq] at H
              obtain ⟨rfl, rfl⟩ := H
              have hcz17_0 : wc.cell? ⟨gb318, 0, none⟩ = some (.int .i64 a0_0) := (bkC BK318.out 0).trans rfl
              have hcz17_1 : wc.cell? ⟨gb318, 1, none⟩ = some (.int .i64 a0_1) := (bkC BK318.out 1).trans rfl
              have hcz17_2 : wc.cell? ⟨gb318, 2, none⟩ = some (.slice A0_2 l0_2.length c0_2) := (bkC BK318.out 2).trans rfl
              have hfz17_0 := bkF BK318.out 0
              have hfz17_1 := bkF BK318.out 1
              have hfz17_2 := bkF BK318.out 2
              have p321 : 0 ≤ ((ji14) : Int) := of_decide_eq_true (by first | (with_reducible assumption) | assumption)
              have q321 : (ji14) < (l0_2.length : Int) := of_decide_eq_true (by first | (with_reducible assumption) | assumption)
              obtain ⟨ad321, e321, hx321_0, hx321_1⟩ := at_T54 HR0_2.out (ji14) p321 q321
              cases e321
              replace hx321_0 := (HB.out.cell (World.block_lt_of_cell? w _ hx321_0)).trans hx321_0
              replace hx321_1 := (HB.out.cell (World.block_lt_of_cell? w _ hx321_1)).trans hx321_1
              replace p321 := eq_true p321
              replace q321 := eq_true q321
              go_wp2
              go_ret2
              exact ⟨by first | rfl | (simp [errW_none, errW_some] <;> rfl) | (simp only [← hji14]; first | rfl | (simp [errW_none, errW_some] <;> rfl)) | (simp [*, errW_none, errW_some] <;> rfl), by repeat (first | (with_reducible first | exact HB.out | apply pbA | apply pbN | apply pb1 | refine pbS ?_ GE318.out) | exact HB.out)⟩
            · rw [if_neg c16] at H
              exact absurd H (by simp)
          · rw [if_neg c15] at H
            exact absurd H (by simp)
end Go.Proofs.YtjpihfjgomoijaaDoor.P
end
section
-- Written by a program of this session (wip/tools/pr.py), over the kit's printer; functions named in the texts imported below are given by hand.
namespace Go.Proofs.YtjpihfjgomoijaaDoor.P
open Go.RowKit Go.Proofs.YtjpihfjgomoijaaDoor.K Go.Proofs.YtjpihfjgomoijaaDoorW.PrintWords Go.Proofs.YtjpihfjgomoijaaDoorW.PrintLast Go.Proofs.YtjpihfjgomoijaaDoorW.PrintMore
attribute [local go_sem] max2_int min2_int max_two min_two max_three min_three max_four min_four   -- for this text's walks alone
/-! ### r11_Slice: function 29 -/
mutual
def r11_Slice.l0 : Nat → Int → Int → List (S54) → Int → Int → Int → List (S54) → Option ((List (S54)))
  | 0, _, _, _, _, _, _, _ => none
  | k + 1, x1, x2, x7, x8, x455000, x455001, x455002 => if x8 < (x455002.length : Int) then (r11_Slice.j1 k x1 x2 x7 x8 (decide ((x7.length : Int) < x2)) x455000 x455001 x455002) else (r11_Slice.j1 k x1 x2 x7 x8 false x455000 x455001 x455002)
def r11_Slice.j1 : Nat → Int → Int → List (S54) → Int → Bool → Int → Int → List (S54) → Option ((List (S54)))
  | 0, _, _, _, _, _, _, _, _ => none
  | k + 1, x1, x2, x7, x8, x19, x455000, x455001, x455002 => if x19 = true then (if (wrap64 ((wrap64 (x455000 + 1)) + x8)) ≥ x1 then (if 0 ≤ x8 then (if x8 < (x455002.length : Int) then (if x7.length < 5864062014805 then (r11_Slice.l0 k x1 x2 (x7 ++ [(⟨(rd_T54 x455002 x8).f0, (rd_T54 x455002 x8).f1⟩ : S54)]) (wrap64 (x8 + 1)) x455000 x455001 x455002) else (none)) else (none)) else (none)) else (r11_Slice.l0 k x1 x2 x7 (wrap64 (x8 + 1)) x455000 x455001 x455002)) else (some x7)
end
def r11_Slice.f (k : Nat) (a0_0 : Int) (a0_1 : Int) (l0_2 : List (S54)) (a1 : Int) (a2 : Int) : Option ((List (S54))) := r11_Slice.l0 k a1 a2 ([] : List (S54)) 0 a0_0 a0_1 l0_2
theorem r11_Slice.mono_l : ∀ k, (∀ y0 y1 y2 y3 y4 y5 y6, LeO (r11_Slice.l0 k y0 y1 y2 y3 y4 y5 y6) (r11_Slice.l0 (k + 1) y0 y1 y2 y3 y4 y5 y6)) ∧ (∀ y0 y1 y2 y3 y4 y5 y6 y7, LeO (r11_Slice.j1 k y0 y1 y2 y3 y4 y5 y6 y7) (r11_Slice.j1 (k + 1) y0 y1 y2 y3 y4 y5 y6 y7))
  | 0 => ⟨fun _ _ _ _ _ _ _ r h => by simp [r11_Slice.l0] at h, fun _ _ _ _ _ _ _ _ r h => by simp [r11_Slice.j1] at h⟩
  | k + 1 => by
    obtain ⟨ih0, ih1⟩ := r11_Slice.mono_l k
    refine ⟨?_, ?_⟩
    · intro y0 y1 y2 y3 y4 y5 y6
      unfold r11_Slice.l0
      repeat' first
      | (with_reducible exact ih0 _ _ _ _ _ _ _)
      | (with_reducible exact ih1 _ _ _ _ _ _ _ _)
      | (with_reducible exact LeO.refl _)
      | (with_reducible exact LeO.none _)
      | (with_reducible refine LeO.ite ?_ ?_)
      | (with_reducible refine LeO.bind ?_ (fun _ => ?_))
      | exact ih0 _ _ _ _ _ _ _
      | exact ih1 _ _ _ _ _ _ _ _
      | exact LeO.none _
      | refine LeO.ite ?_ ?_
      | refine LeO.bind ?_ (fun _ => ?_)
    · intro y0 y1 y2 y3 y4 y5 y6 y7
      unfold r11_Slice.j1
      repeat' first
      | (with_reducible exact ih0 _ _ _ _ _ _ _)
      | (with_reducible exact ih1 _ _ _ _ _ _ _ _)
      | (with_reducible exact LeO.refl _)
      | (with_reducible exact LeO.none _)
      | (with_reducible refine LeO.ite ?_ ?_)
      | (with_reducible refine LeO.bind ?_ (fun _ => ?_))
      | exact ih0 _ _ _ _ _ _ _
      | exact ih1 _ _ _ _ _ _ _ _
      | exact LeO.none _
      | refine LeO.ite ?_ ?_
      | refine LeO.bind ?_ (fun _ => ?_)
theorem r11_Slice.mono : ∀ a0 a1 a2 a3 a4 k, LeO (r11_Slice.f k a0 a1 a2 a3 a4) (r11_Slice.f (k + 1) a0 a1 a2 a3 a4) := by
  intro a0 a1 a2 a3 a4 k
  obtain ⟨ih0, ih1⟩ := r11_Slice.mono_l k
  unfold r11_Slice.f
  repeat' first
      | (with_reducible exact ih0 _ _ _ _ _ _ _)
      | (with_reducible exact ih1 _ _ _ _ _ _ _ _)
      | (with_reducible exact LeO.refl _)
      | (with_reducible exact LeO.none _)
      | (with_reducible refine LeO.ite ?_ ?_)
      | (with_reducible refine LeO.bind ?_ (fun _ => ?_))
      | exact ih0 _ _ _ _ _ _ _
      | exact ih1 _ _ _ _ _ _ _ _
      | exact LeO.none _
      | refine LeO.ite ?_ ?_
      | refine LeO.bind ?_ (fun _ => ?_)
set_option maxHeartbeats 8000000 in
set_option maxRecDepth 100000 in
theorem r11_Slice.calls (k : Nat) (a0_0 : Int) (a0_1 : Int) (A0_2 : Option Addr) (c0_2 : Nat) (l0_2 : List (S54)) (a1 : Int) (a2 : Int) (r : List (S54)) (w : World) (hG : TheG w) (hr0_2 : Kd.C k54 w A0_2 l0_2.length l0_2) (hc0_2 : l0_2.length ≤ c0_2) (h : r11_Slice.f k a0_0 a0_1 l0_2 a1 a2 = some r) :
    Calls Tryd.prog 29 #[.agg #[.int .i64 a0_0, .int .i64 a0_1, .slice A0_2 l0_2.length c0_2], .int .i64 a1, .int .i64 a2] w fun e w' => ∃ v0_ : Value, e = .returned (v0_) ∧ Kd.R k54 54 w' w.heap.size (fun _ => True) v0_ r ∧ Below w.heap.size w w' := by
  have hu24 := Tryd.underlying24
  have hu54 := Tryd.underlying54
  have HR0_2 := Az.mk hr0_2
  have HC0_2 := Az.mk hc0_2
  clear hr0_2 hc0_2
  have HB := Az.mk (Below.refl w.heap.size w)
  have H : (r11_Slice.l0 k a1 a2 ([] : List (S54)) 0 a0_0 a0_1 l0_2) = some r := h
  clear h
  have H' := Az.mk H
  clear H
  go_enter Tryd.func29, Tryd.ntmps29
  go_wp2_with (first | ((with_reducible refine gate_dst (N := 3) rfl ?_); (try (refine gate_guard (by rfl) ?_; dsimp only)); refine box_event ?hg (N := 3) ?hd (cs := #[.int .i64 a0_0, .int .i64 a0_1, .slice A0_2 l0_2.length c0_2]) (t := 24) ?hr ?_; (case hd => rfl); (case hg => rfl); (case hr => first | (go_simp; done) | (go_simp; rfl)); intro gb454 hg w4 hbox hb; have n0_ := Az.mk (pbT (by repeat (first | (with_reducible first | exact HB.out | apply pbA | apply pbN | apply pb1) | exact HB.out)) hb); have n1_ := Az.mk (hbox); have n2_ := Az.mk ((by rw [hg]; exact (pbZ (by repeat (first | (with_reducible first | exact HB.out | apply pbA | apply pbN | apply pb1) | exact HB.out))) : w.heap.size ≤ gb454)); have n3_ := Az.mk ((by rw [hg]; exact (pbZ (by repeat (first | (with_reducible first | exact HB.out | apply pbA | apply pbN | apply pb1) | exact HB.out))) : w.heap.size ≤ gb454)); clear HB; have HB := n0_; have BK454 := n1_; have GW454 := n2_; have GE454 := n3_; clear n0_ n1_ n2_ n3_; clear hb hbox hg))
  go_loopg [7, 8] k (fun kq v7 v8 w' => ∃ (x7_1 : List (S54)) (x8_1 : Int), v8 = .int .i64 x8_1 ∧ Az (r11_Slice.l0 kq a1 a2 x7_1 x8_1 a0_0 a0_1 l0_2 = some r) ∧ Az (kq ≤ k) ∧ Az (Kd.R k54 54 w' w.heap.size (fun _ => True) v7 x7_1) ∧ Az (w'.heap[gb454]? = some (.cells #[.int .i64 a0_0, .int .i64 a0_1, (.slice A0_2 l0_2.length c0_2)] 24 (0, 0))) ∧ Az (Below w.heap.size w w'))
  case atStart => exact ⟨(([] : List (S54))), (0), (by first | rfl | (simp; done) | (simp [*]; done)), H', ⟨Nat.le_refl _⟩, ⟨by first | exact Kd.R_nil _ _ _ _ _ | exact Kd.N_nil _ _ _ _ _ | exact Kd.V_nil _ _ _ _ _ | exact Kd.Q_nil _ _ _ _ _ | exact Kd.S_nil _ _ _ _ _⟩, ⟨by (with_reducible repeat (first | refine bkN ?_ _ | refine bkD ?_ | refine bkA ?_ _)); exact BK454.out⟩, ⟨by repeat (first | (with_reducible first | exact HB.out | apply pbA | apply pbN | apply pb1 | refine pbS ?_ GE454.out) | exact HB.out)⟩⟩
  case round =>
    clear H'
    try clear c2
    try clear p2
    obtain ⟨x7_1, x8_1, rfl, HA, HK1, HO_7, BK454, HB⟩ := hrel
    cases gk with
    | zero => exact absurd HA.out (by simp [r11_Slice.l0])
    | succ k1 =>
      have H := HA.out
      clear HA
      simp only [r11_Slice.l0] at H
      have HC5 := Az.mk H
      clear H
      go_upto_region 3 with (fail)
      go_cut [19] (fun v19 wc => ∃ (kq : Nat) (x19_4 : Bool), v19 = .bool x19_4 ∧ Az (r11_Slice.j1 kq a1 a2 x7_1 x8_1 x19_4 a0_0 a0_1 l0_2 = some r) ∧ Az (kq ≤ k1) ∧ Az (Kd.R k54 54 wc w.heap.size (fun _ => True) u7 x7_1) ∧ Az (wc.heap[gb454]? = some (.cells #[.int .i64 a0_0, .int .i64 a0_1, (.slice A0_2 l0_2.length c0_2)] 24 (0, 0))) ∧ Az (Below w.heap.size w wc))
      case first =>
        have H := HC5.out
        clear HC5
        by_cases c6 : x8_1 < (l0_2.length : Int)
        · rw [if_pos c6] at H
          have c6b0 : decide (x8_1 < (l0_2.length : Int)) = true := decide_eq_true c6
          clear c6
          (first | rw [c6b0] | (simp only [i64_w, i32_w]; rw [c6b0]) | skip)
          have H' := Az.mk H
          clear H
          have hcz7_0 : wr.cell? ⟨gb454, 0, none⟩ = some (.int .i64 a0_0) := (bkC BK454.out 0).trans rfl
          have hcz7_1 : wr.cell? ⟨gb454, 1, none⟩ = some (.int .i64 a0_1) := (bkC BK454.out 1).trans rfl
          have hcz7_2 : wr.cell? ⟨gb454, 2, none⟩ = some (.slice A0_2 l0_2.length c0_2) := (bkC BK454.out 2).trans rfl
          have hfz7_0 := bkF BK454.out 0
          have hfz7_1 := bkF BK454.out 1
          have hfz7_2 := bkF BK454.out 2
          obtain ⟨Ao8, co8, eo8⟩ := Kd.R_slice HO_7.out
          subst eo8
          go_wp2
          go_meet
          case rel => exact ⟨_, (decide ((x7_1.length : Int) < a2)), (by first | rfl | (simp; done) | (simp [*]; done)), H', ⟨by have := HK1.out; first | omega | exact Nat.le_refl _⟩, ⟨by (with_reducible repeat (first | apply Kd.R_alloc | apply Kd.R_drewN | apply Kd.R_drew)); exact HO_7.out⟩, ⟨by (with_reducible repeat (first | refine bkN ?_ _ | refine bkD ?_ | refine bkA ?_ _)); exact BK454.out⟩, ⟨by repeat (first | (with_reducible first | exact HB.out | apply pbA | apply pbN | apply pb1 | refine pbS ?_ GE454.out) | exact HB.out)⟩⟩
        · rw [if_neg c6] at H
          have c6b0 : decide (x8_1 < (l0_2.length : Int)) = false := decide_eq_false c6
          clear c6
          (first | rw [c6b0] | (simp only [i64_w, i32_w]; rw [c6b0]) | skip)
          have H' := Az.mk H
          clear H
          have hcz9_0 : wr.cell? ⟨gb454, 0, none⟩ = some (.int .i64 a0_0) := (bkC BK454.out 0).trans rfl
          have hcz9_1 : wr.cell? ⟨gb454, 1, none⟩ = some (.int .i64 a0_1) := (bkC BK454.out 1).trans rfl
          have hcz9_2 : wr.cell? ⟨gb454, 2, none⟩ = some (.slice A0_2 l0_2.length c0_2) := (bkC BK454.out 2).trans rfl
          have hfz9_0 := bkF BK454.out 0
          have hfz9_1 := bkF BK454.out 1
          have hfz9_2 := bkF BK454.out 2
          go_wp2
          go_meet
          case rel => exact ⟨_, (false), (by first | rfl | (simp; done) | (simp [*]; done)), H', ⟨by have := HK1.out; first | omega | exact Nat.le_refl _⟩, ⟨by (with_reducible repeat (first | apply Kd.R_alloc | apply Kd.R_drewN | apply Kd.R_drew)); exact HO_7.out⟩, ⟨by (with_reducible repeat (first | refine bkN ?_ _ | refine bkD ?_ | refine bkA ?_ _)); exact BK454.out⟩, ⟨by repeat (first | (with_reducible first | exact HB.out | apply pbA | apply pbN | apply pb1 | refine pbS ?_ GE454.out) | exact HB.out)⟩⟩
      case rest =>
        clear HC5
        try clear c2
        try clear p2
        try clear c6
        try clear c6b0
        try clear hcz7_0
        try clear hcz7_1
        try clear hcz7_2
        try clear hcz9_0
        try clear hcz9_1
        try clear hcz9_2
        try clear hfz7_0
        try clear hfz7_1
        try clear hfz7_2
        try clear hfz9_0
        try clear hfz9_1
        try clear hfz9_2
        try clear p2
        obtain ⟨kq, x19_4, rfl, HA, HJ4, HO_7, BK454, HB⟩ := hcut
        cases kq with
        | zero => exact absurd HA.out (by simp [r11_Slice.j1])
        | succ kj4 =>
          have H := HA.out
          clear HA
          simp only [r11_Slice.j1] at H
          by_cases c10 : x19_4 = true
          · subst c10
            have H1 : (if (wrap64 ((wrap64 (a0_0 + 1)) + x8_1)) ≥ a1 then (if 0 ≤ x8_1 then (if x8_1 < (l0_2.length : Int) then (if x7_1.length < 5864062014805 then (r11_Slice.l0 kj4 a1 a2 (x7_1 ++ [(⟨(rd_T54 l0_2 x8_1).f0, (rd_T54 l0_2 x8_1).f1⟩ : S54)]) (wrap64 (x8_1 + 1)) a0_0 a0_1 l0_2) else (none)) else (none)) else (none)) else (r11_Slice.l0 kj4 a1 a2 x7_1 (wrap64 (x8_1 + 1)) a0_0 a0_1 l0_2)) = some r := by rw [if_pos rfl] at H; exact H
            clear H
            have H := H1
            clear H1
            by_cases c11 : (wrap64 ((wrap64 (a0_0 + 1)) + x8_1)) ≥ a1
            · rw [if_pos c11] at H
              have c11b0 : decide (a1 ≤ (wrap64 ((wrap64 (a0_0 + 1)) + x8_1))) = true := decide_eq_true c11
              clear c11
              by_cases c12 : 0 ≤ x8_1
              · rw [if_pos c12] at H
                have c12b0 : decide (0 ≤ x8_1) = true := decide_eq_true c12
                clear c12
                by_cases c13 : x8_1 < (l0_2.length : Int)
                · rw [if_pos c13] at H
                  have c13b0 : decide (x8_1 < (l0_2.length : Int)) = true := decide_eq_true c13
                  clear c13
                  by_cases c14 : x7_1.length < 5864062014805
                  · rw [if_pos c14] at H
                    have LMc14 := Az.mk c14
                    clear c14
                    obtain ⟨y456, hy456⟩ : ∃ y_ : List (S54), y_ = (x7_1 ++ [(⟨(rd_T54 l0_2 x8_1).f0, (rd_T54 l0_2 x8_1).f1⟩ : S54)]) := ⟨_, rfl⟩
                    replace H : (r11_Slice.l0 kj4 a1 a2 y456 (wrap64 (x8_1 + 1)) a0_0 a0_1 l0_2) = some r := by first | (rw [hy456]; with_reducible exact H) | (have H2_ := (Option.bind_some _ _).symm.trans H; rw [hy456]; with_reducible exact H2_) | (have H2_ := (Option.bind_some _ _).symm.trans H; with_reducible exact H2_) | with_reducible exact H | (rw [hy456]; exact H) | exact H
                    have Ny456 := Az.mk hy456
                    clear hy456
                    have H' := Az.mk H
                    clear H
                    have hcz15_0 : wc.cell? ⟨gb454, 0, none⟩ = some (.int .i64 a0_0) := (bkC BK454.out 0).trans rfl
                    have hcz15_1 : wc.cell? ⟨gb454, 1, none⟩ = some (.int .i64 a0_1) := (bkC BK454.out 1).trans rfl
                    have hcz15_2 : wc.cell? ⟨gb454, 2, none⟩ = some (.slice A0_2 l0_2.length c0_2) := (bkC BK454.out 2).trans rfl
                    have hfz15_0 := bkF BK454.out 0
                    have hfz15_1 := bkF BK454.out 1
                    have hfz15_2 := bkF BK454.out 2
                    have p455 : 0 ≤ (x8_1 : Int) := of_decide_eq_true (by first | (with_reducible assumption) | assumption)
                    have q455 : x8_1 < (l0_2.length : Int) := of_decide_eq_true (by first | (with_reducible assumption) | assumption)
                    obtain ⟨ad455, e455, hx455_0, hx455_1⟩ := at_T54 HR0_2.out x8_1 p455 q455
                    cases e455
                    replace hx455_0 := (HB.out.cell (World.block_lt_of_cell? w _ hx455_0)).trans hx455_0
                    replace hx455_1 := (HB.out.cell (World.block_lt_of_cell? w _ hx455_1)).trans hx455_1
                    replace p455 := eq_true p455
                    replace q455 := eq_true q455
                    go_wp2_with (first | ((with_reducible refine gate_builtin (b := .append) (xs := #[.tmp 29, .tmp 35]) rfl ?_); (try (refine gate_guard (by rfl) ?_; dsimp only)); at_builtin; refine Kd.R_append k54 (w0 := w) w.heap.size rfl (.tmp 29) (.tmp 35) 22 54 (.agg #[(.int .i64 0), (.string ⟨#[]⟩)]) 24 rfl Tryd.underlying22 info54 rfl (by decide) (by omega) u7 x7_1 (⟨(rd_T54 l0_2 x8_1).f0, (rd_T54 l0_2 x8_1).f1⟩ : S54) [.int .i64 ((rd_T54 l0_2 x8_1).f0), .string ((rd_T54 l0_2 x8_1).f1)] (fun _ => True) (fun _ => False) rfl rfl ?aP (fun _ hk => hk.elim) ?aF ?aO ?aB ?aS ?aL ?_; (case aP => exact k54_mkM _ _ _ (⟨(rd_T54 l0_2 x8_1).f0, (rd_T54 l0_2 x8_1).f1⟩ : S54)); (case aB => exact (by repeat (first | (with_reducible first | exact HB.out | apply pbA | apply pbN | apply pb1 | refine pbS ?_ GE454.out) | exact HB.out))); (case aF => exact (fun _ _ => trivial)); (case aO => exact (by (with_reducible repeat (first | apply Kd.R_alloc | apply Kd.R_drewN | apply Kd.R_drew)); exact HO_7.out)); (case aS => exact (pbZ (by repeat (first | (with_reducible first | exact HB.out | apply pbA | apply pbN | apply pb1 | refine pbS ?_ GE454.out) | exact HB.out)))); (case aL => have := LMc14.out; omega); intro v457 w16 ho hb hg hat; rw [← Ny456.out] at ho; have n0_ := Az.mk (blk_grown (g := gb454) (o := .cells #[.int .i64 a0_0, .int .i64 a0_1, .slice (some ad455) l0_2.length c0_2] 24 (0, 0)) (by (with_reducible repeat (first | refine bkN ?_ _ | refine bkD ?_ | refine bkA ?_ _)); exact BK454.out) hg (Kd.R_ne HO_7.out BK454.out (by decide))); have n1_ := Az.mk (hb); have n2_ := Az.mk (ho); clear BK454; clear HB; clear HO_7; have BK454 := n0_; have HB := n1_; have HO458 := n2_; clear n0_ n1_ n2_; clear ho hb hg hat))
                    go_roundg kj4
                    case measure => have := HK1.out; have := HJ4.out; omega
                    case rel => exact ⟨(y456), (wrap64 (x8_1 + 1)), (by first | rfl | (simp; done) | (simp [*]; done)), H', ⟨by have := HK1.out; have := HJ4.out; omega⟩, ⟨by (with_reducible repeat (first | apply Kd.R_alloc | apply Kd.R_drewN | apply Kd.R_drew)); exact HO458.out⟩, ⟨by (with_reducible repeat (first | refine bkN ?_ _ | refine bkD ?_ | refine bkA ?_ _)); exact BK454.out⟩, ⟨by repeat (first | (with_reducible first | exact HB.out | apply pbA | apply pbN | apply pb1 | refine pbS ?_ GE454.out) | exact HB.out)⟩⟩
                  · rw [if_neg c14] at H
                    exact absurd H (by simp)
                · rw [if_neg c13] at H
                  exact absurd H (by simp)
              · rw [if_neg c12] at H
                exact absurd H (by simp)
            · rw [if_neg c11] at H
              have c11b0 : decide (a1 ≤ (wrap64 ((wrap64 (a0_0 + 1)) + x8_1))) = false := decide_eq_false c11
              clear c11
              have H' := Az.mk H
              clear H
              have hcz17_0 : wc.cell? ⟨gb454, 0, none⟩ = some (.int .i64 a0_0) := (bkC BK454.out 0).trans rfl
              have hcz17_1 : wc.cell? ⟨gb454, 1, none⟩ = some (.int .i64 a0_1) := (bkC BK454.out 1).trans rfl
              have hcz17_2 : wc.cell? ⟨gb454, 2, none⟩ = some (.slice A0_2 l0_2.length c0_2) := (bkC BK454.out 2).trans rfl
              have hfz17_0 := bkF BK454.out 0
              have hfz17_1 := bkF BK454.out 1
              have hfz17_2 := bkF BK454.out 2
              go_wp2
              go_roundg kj4
              case measure => have := HK1.out; have := HJ4.out; omega
              case rel => exact ⟨(x7_1), (wrap64 (x8_1 + 1)), (by first | rfl | (simp; done) | (simp [*]; done)), H', ⟨by have := HK1.out; have := HJ4.out; omega⟩, ⟨by (with_reducible repeat (first | apply Kd.R_alloc | apply Kd.R_drewN | apply Kd.R_drew)); exact HO_7.out⟩, ⟨by (with_reducible repeat (first | refine bkN ?_ _ | refine bkD ?_ | refine bkA ?_ _)); exact BK454.out⟩, ⟨by repeat (first | (with_reducible first | exact HB.out | apply pbA | apply pbN | apply pb1 | refine pbS ?_ GE454.out) | exact HB.out)⟩⟩
          · replace c10 := Bool.eq_false_iff.mpr c10
            subst c10
            have H1 : (some x7_1) = some r := by rw [if_neg (show ¬ (false = true) by decide)] at H; exact H
            clear H
            have H := H1
            clear H1
            obtain rfl := Option.some.inj H
            go_wp2
            go_ret
            exact ⟨_, by first | rfl | (simp [errW_none, errW_some] <;> rfl) | (simp [*, errW_none, errW_some] <;> rfl), by (with_reducible repeat (first | apply Kd.R_alloc | apply Kd.R_drewN | apply Kd.R_drew)); exact HO_7.out, by repeat (first | (with_reducible first | exact HB.out | apply pbA | apply pbN | apply pb1 | refine pbS ?_ GE454.out) | exact HB.out)⟩
end Go.Proofs.YtjpihfjgomoijaaDoor.P
end
section
-- Written by a program of this session (wip/tools/pr.py), over the kit's printer; functions named in the texts imported below are given by hand.
namespace Go.Proofs.YtjpihfjgomoijaaDoor.P
open Go.RowKit Go.Proofs.YtjpihfjgomoijaaDoor.K Go.Proofs.YtjpihfjgomoijaaDoorW.PrintWords Go.Proofs.YtjpihfjgomoijaaDoorW.PrintLast Go.Proofs.YtjpihfjgomoijaaDoorW.PrintMore
attribute [local go_sem] max2_int min2_int max_two min_two max_three min_three max_four min_four   -- for this text's walks alone
/-! ### r11_Append: function 31 -/
def r11_Append.f (a0_0 : Int) (a0_1 : Int) (l0_2 : List (S54)) (l1 : List (S54)) : Option (Int × Int × (List (S54))) := (some (([] : List (S54)) : List (S54))).bind fun y461 => (if y461.length + l0_2.length < 5864062014805 then ((some (y461 ++ l0_2 : List (S54))).bind fun y464 => (if y464.length + l1.length < 5864062014805 then (some (a0_0, a0_1, (y464 ++ l1))) else (none))) else (none))
set_option maxHeartbeats 8000000 in
set_option maxRecDepth 100000 in
theorem r11_Append.calls (a0_0 : Int) (a0_1 : Int) (A0_2 : Option Addr) (c0_2 : Nat) (l0_2 : List (S54)) (A1 : Option Addr) (c1 : Nat) (l1 : List (S54)) (r1 : Int) (r2 : Int) (r3 : List (S54)) (w : World) (hG : TheG w) (hr0_2 : Kd.C k54 w A0_2 l0_2.length l0_2) (hc0_2 : l0_2.length ≤ c0_2) (hr1 : Kd.C k54 w A1 l1.length l1) (hc1 : l1.length ≤ c1) (h : r11_Append.f a0_0 a0_1 l0_2 l1 = some (r1, r2, r3)) :
    Calls Tryd.prog 31 #[.agg #[.int .i64 a0_0, .int .i64 a0_1, .slice A0_2 l0_2.length c0_2], .slice A1 l1.length c1] w fun e w' => ∃ v2_ : Value, e = .returned (.agg #[.int .i64 r1, .int .i64 r2, v2_]) ∧ Kd.R k54 54 w' w.heap.size (fun _ => True) v2_ r3 ∧ Below w.heap.size w w' := by
  have hu24 := Tryd.underlying24
  have HR0_2 := Az.mk hr0_2
  have HC0_2 := Az.mk hc0_2
  clear hr0_2 hc0_2
  have HR1 := Az.mk hr1
  have HC1 := Az.mk hc1
  clear hr1 hc1
  have HB := Az.mk (Below.refl w.heap.size w)
  have H : ((some (([] : List (S54)) : List (S54))).bind fun y461 => (if y461.length + l0_2.length < 5864062014805 then ((some (y461 ++ l0_2 : List (S54))).bind fun y464 => (if y464.length + l1.length < 5864062014805 then (some (a0_0, a0_1, (y464 ++ l1))) else (none))) else (none))) = some (r1, r2, r3) := h
  clear h
  obtain ⟨y461, hy461⟩ : ∃ y_ : List (S54), y_ = (([] : List (S54))) := ⟨_, rfl⟩
  replace H : (if y461.length + l0_2.length < 5864062014805 then ((some (y461 ++ l0_2 : List (S54))).bind fun y464 => (if y464.length + l1.length < 5864062014805 then (some (a0_0, a0_1, (y464 ++ l1))) else (none))) else (none)) = some (r1, r2, r3) := by first | (rw [hy461]; with_reducible exact H) | (have H2_ := (Option.bind_some _ _).symm.trans H; rw [hy461]; with_reducible exact H2_) | (have H2_ := (Option.bind_some _ _).symm.trans H; with_reducible exact H2_) | with_reducible exact H | (rw [hy461]; exact H) | exact H
  have Ny461 := Az.mk hy461
  clear hy461
  by_cases c3 : y461.length + l0_2.length < 5864062014805
  · rw [if_pos c3] at H
    have LMc3 := Az.mk c3
    clear c3
    obtain ⟨y464, hy464⟩ : ∃ y_ : List (S54), y_ = (y461 ++ l0_2) := ⟨_, rfl⟩
    replace H : (if y464.length + l1.length < 5864062014805 then (some (a0_0, a0_1, (y464 ++ l1))) else (none)) = some (r1, r2, r3) := by first | (rw [hy464]; with_reducible exact H) | (have H2_ := (Option.bind_some _ _).symm.trans H; rw [hy464]; with_reducible exact H2_) | (have H2_ := (Option.bind_some _ _).symm.trans H; with_reducible exact H2_) | with_reducible exact H | (rw [hy464]; exact H) | exact H
    have Ny464 := Az.mk hy464
    clear hy464
    by_cases c4 : y464.length + l1.length < 5864062014805
    · rw [if_pos c4] at H
      have LMc4 := Az.mk c4
      clear c4
      obtain ⟨y467, hy467⟩ : ∃ y_ : List (S54), y_ = (y464 ++ l1) := ⟨_, rfl⟩
      replace H : (some (a0_0, a0_1, y467)) = some (r1, r2, r3) := by first | (rw [hy467]; with_reducible exact H) | (have H2_ := (Option.bind_some _ _).symm.trans H; rw [hy467]; with_reducible exact H2_) | (have H2_ := (Option.bind_some _ _).symm.trans H; with_reducible exact H2_) | with_reducible exact H | (rw [hy467]; exact H) | exact H
      have Ny467 := Az.mk hy467
      clear hy467
      simp only [Option.some.injEq, Prod.mk.injEq] at H
      obtain ⟨rfl, rfl, rfl⟩ := H
      go_enter Tryd.func31, Tryd.ntmps31
      go_wp2_with (first | ((with_reducible refine gate_dst (N := 2) rfl ?_); refine box_event ?hg (N := 2) ?hd (cs := #[.int .i64 a0_0, .int .i64 a0_1, .slice A0_2 l0_2.length c0_2]) (t := 24) ?hr ?_; (case hd => rfl); (case hg => rfl); (case hr => first | (go_simp; done) | (go_simp; rfl)); intro gb459 hg w5 hbox hb; have n0_ := Az.mk (pbT (by repeat (first | (with_reducible first | exact HB.out | apply pbA | apply pbN | apply pb1) | exact HB.out)) hb); have n1_ := Az.mk (hbox); have n2_ := Az.mk ((by rw [hg]; exact (pbZ (by repeat (first | (with_reducible first | exact HB.out | apply pbA | apply pbN | apply pb1) | exact HB.out))) : w.heap.size ≤ gb459)); have n3_ := Az.mk ((by rw [hg]; exact (pbZ (by repeat (first | (with_reducible first | exact HB.out | apply pbA | apply pbN | apply pb1) | exact HB.out))) : w.heap.size ≤ gb459)); clear HB; have HB := n0_; have BK459 := n1_; have GW459 := n2_; have GE459 := n3_; clear n0_ n1_ n2_ n3_; clear hb hbox hg) | ((with_reducible refine gate_dst (N := 4) rfl ?_); refine box_event ?hg (N := 4) ?hd (cs := #[.int .i64 0, .int .i64 0, .slice none 0 0]) (t := 24) ?hr ?_; (case hd => rfl); (case hg => rfl); (case hr => first | (go_simp; done) | (go_simp; rfl)); intro gb460 hg w6 hbox hb; have n0_ := Az.mk (bkB (g := gb459) (o := .cells #[.int .i64 a0_0, .int .i64 a0_1, .slice A0_2 l0_2.length c0_2] 24 (0, 0)) (by (with_reducible repeat (first | refine bkN ?_ _ | refine bkD ?_ | refine bkA ?_ _)); exact BK459.out) hb); have n1_ := Az.mk (pbT (by repeat (first | (with_reducible first | exact HB.out | apply pbA | apply pbN | apply pb1 | refine pbS ?_ GE459.out) | exact HB.out)) hb); have n2_ := Az.mk (hbox); have n3_ := Az.mk ((by rw [hg]; exact (pbZ (by repeat (first | (with_reducible first | exact HB.out | apply pbA | apply pbN | apply pb1 | refine pbS ?_ GE459.out) | exact HB.out))) : w.heap.size ≤ gb460)); have n4_ := Az.mk ((by rw [hg]; exact (pbZ (by repeat (first | (with_reducible first | exact HB.out | apply pbA | apply pbN | apply pb1 | refine pbS ?_ GE459.out) | exact HB.out))) : w.heap.size ≤ gb460)); have n5_ := Az.mk ((by rw [hg]; exact Nat.ne_of_lt (blk_lt (g := gb459) (o := .cells #[.int .i64 a0_0, .int .i64 a0_1, .slice A0_2 l0_2.length c0_2] 24 (0, 0)) (by (with_reducible repeat (first | refine bkN ?_ _ | refine bkD ?_ | refine bkA ?_ _)); exact BK459.out)) : gb459 ≠ gb460)); have n6_ := Az.mk ((by rw [hg]; exact Nat.ne_of_gt (blk_lt (g := gb459) (o := .cells #[.int .i64 a0_0, .int .i64 a0_1, .slice A0_2 l0_2.length c0_2] 24 (0, 0)) (by (with_reducible repeat (first | refine bkN ?_ _ | refine bkD ?_ | refine bkA ?_ _)); exact BK459.out)) : gb460 ≠ gb459)); clear BK459; clear HB; have BK459 := n0_; have HB := n1_; have BK460 := n2_; have GW460 := n3_; have GE460 := n4_; have NB459_460 := n5_; have NB460_459 := n6_; clear n0_ n1_ n2_ n3_ n4_ n5_ n6_; clear hb hbox hg) | ((with_reducible refine gate_dst (N := 5) rfl ?_); refine Kd.R_lit k54 _ 54 ?hg (N := 5) ?hd (xs := ([] : List (S54))) (inner := []) (ok := fun _ => True) (okp := fun _ => True) ?hr ?hp (fun _ hk => hk) trivial (Below.refl _ _) (Nat.le_refl _) (by simp) ?_; (case hd => rfl); (case hg => rfl); (case hr => first | (go_simp; done) | (go_simp; rfl)); (case hp => exact (Reps.none _ _)); intro v462 w7 ho8 hb hg_ hnew_; clear hg_ hnew_; (first | rw [← Ny461.out] at ho8 | (simp only [Int.reduceToNat] at ho8; rw [← Ny461.out] at ho8)); have n0_ := Az.mk (Kd.R_lower ho8 (pbZ (by repeat (first | (with_reducible first | exact HB.out | apply pbA | apply pbN | apply pb1 | refine pbS ?_ GE459.out | refine pbS ?_ GE460.out) | exact HB.out)))); have n1_ := Az.mk (bkB (g := gb459) (o := .cells #[.int .i64 a0_0, .int .i64 a0_1, .slice A0_2 l0_2.length c0_2] 24 (0, 0)) (by (with_reducible repeat (first | refine bkN ?_ _ | refine bkD ?_ | refine bkA ?_ _)); exact BK459.out) hb); have n2_ := Az.mk (bkB (g := gb460) (o := .cells #[.int .i64 0, .int .i64 0, .slice none 0 0] 24 (0, 0)) (by (with_reducible repeat (first | refine bkN ?_ _ | refine bkD ?_ | refine bkA ?_ _)); exact BK460.out) hb); have n3_ := Az.mk (pbT (by repeat (first | (with_reducible first | exact HB.out | apply pbA | apply pbN | apply pb1 | refine pbS ?_ GE459.out | refine pbS ?_ GE460.out) | exact HB.out)) hb); clear BK459; clear BK460; clear HB; have HO463 := n0_; have BK459 := n1_; have BK460 := n2_; have HB := n3_; clear n0_ n1_ n2_ n3_; clear hb ho8; have hnb9 := NB459_460.out; have hnc9 := NB460_459.out; have hcz10_0 : w7.cell? ⟨gb459, 0, none⟩ = some (.int .i64 a0_0) := (bkC BK459.out 0).trans rfl; have hcz10_1 : w7.cell? ⟨gb459, 1, none⟩ = some (.int .i64 a0_1) := (bkC BK459.out 1).trans rfl; have hcz10_2 : w7.cell? ⟨gb459, 2, none⟩ = some (.slice A0_2 l0_2.length c0_2) := (bkC BK459.out 2).trans rfl; have hfz10_0 := bkF BK459.out 0; have hfz10_1 := bkF BK459.out 1; have hfz10_2 := bkF BK459.out 2) | ((with_reducible refine gate_builtin (b := .append) (xs := #[.tmp 5, .tmp 7]) rfl ?_); at_builtin; refine Kd.R_append_rows k54 (w0 := w) w.heap.size rfl (.tmp 5) (.tmp 7) 22 54 (.agg #[(.int .i64 0), (.string ⟨#[]⟩)]) 24 rfl Tryd.underlying22 info54 rfl (by decide) (by omega) v462 y461 l0_2 _ _ _ (fun _ => True) (fun _ => False) rfl rfl ?aO ?aR (fun _ _ h => h) (fun _ h => h.elim) ?aF ?aB ?aS ?aL ?_; (case aR => repeat (first | exact (Kd.C_below HR0_2.out HB.out) | (with_reducible refine Kd.C_alloc ?_ _) | (with_reducible refine Kd.C_drewN ?_ _) | (with_reducible refine Kd.C_drew ?_))); (case aB => exact (by repeat (first | (with_reducible first | exact HB.out | apply pbA | apply pbN | apply pb1 | refine pbS ?_ GE459.out | refine pbS ?_ GE460.out) | exact HB.out))); (case aF => exact (fun _ _ => trivial)); (case aO => exact (by (with_reducible repeat (first | apply Kd.R_alloc | apply Kd.R_drewN | apply Kd.R_drew)); exact HO463.out)); (case aS => exact (pbZ (by repeat (first | (with_reducible first | exact HB.out | apply pbA | apply pbN | apply pb1 | refine pbS ?_ GE459.out | refine pbS ?_ GE460.out) | exact HB.out)))); (case aL => have := LMc3.out; omega); intro v465 w11 ho hb hg hat; rw [← Ny464.out] at ho; have n0_ := Az.mk (blk_grown (g := gb459) (o := .cells #[.int .i64 a0_0, .int .i64 a0_1, .slice A0_2 l0_2.length c0_2] 24 (0, 0)) (by (with_reducible repeat (first | refine bkN ?_ _ | refine bkD ?_ | refine bkA ?_ _)); exact BK459.out) hg (Kd.R_ne HO463.out BK459.out (by decide))); have n1_ := Az.mk (blk_grown (g := gb460) (o := .cells #[.int .i64 0, .int .i64 0, .slice none 0 0] 24 (0, 0)) (by (with_reducible repeat (first | refine bkN ?_ _ | refine bkD ?_ | refine bkA ?_ _)); exact BK460.out) hg (Kd.R_ne HO463.out BK460.out (by decide))); have n2_ := Az.mk (hb); have n3_ := Az.mk (ho); clear BK459; clear BK460; clear HB; clear HO463; have BK459 := n0_; have BK460 := n1_; have HB := n2_; have HO466 := n3_; clear n0_ n1_ n2_ n3_; clear ho hb hg hat) | ((with_reducible refine gate_builtin (b := .append) (xs := #[.tmp 8, .tmp 9]) rfl ?_); at_builtin; refine Kd.R_append_rows k54 (w0 := w) w.heap.size rfl (.tmp 8) (.tmp 9) 22 54 (.agg #[(.int .i64 0), (.string ⟨#[]⟩)]) 24 rfl Tryd.underlying22 info54 rfl (by decide) (by omega) v465 y464 l1 _ _ _ (fun _ => True) (fun _ => False) rfl rfl ?aO ?aR (fun _ _ h => h) (fun _ h => h.elim) ?aF ?aB ?aS ?aL ?_; (case aR => repeat (first | exact (Kd.C_below HR1.out HB.out) | (with_reducible refine Kd.C_alloc ?_ _) | (with_reducible refine Kd.C_drewN ?_ _) | (with_reducible refine Kd.C_drew ?_))); (case aB => exact (by repeat (first | (with_reducible first | exact HB.out | apply pbA | apply pbN | apply pb1 | refine pbS ?_ GE459.out | refine pbS ?_ GE460.out) | exact HB.out))); (case aF => exact (fun _ _ => trivial)); (case aO => exact (by (with_reducible repeat (first | apply Kd.R_alloc | apply Kd.R_drewN | apply Kd.R_drew)); exact HO466.out)); (case aS => exact (pbZ (by repeat (first | (with_reducible first | exact HB.out | apply pbA | apply pbN | apply pb1 | refine pbS ?_ GE459.out | refine pbS ?_ GE460.out) | exact HB.out)))); (case aL => have := LMc4.out; omega); intro v468 w12 ho hb hg hat; rw [← Ny467.out] at ho; have n0_ := Az.mk (blk_grown (g := gb459) (o := .cells #[.int .i64 a0_0, .int .i64 a0_1, .slice A0_2 l0_2.length c0_2] 24 (0, 0)) (by (with_reducible repeat (first | refine bkN ?_ _ | refine bkD ?_ | refine bkA ?_ _)); exact BK459.out) hg (Kd.R_ne HO466.out BK459.out (by decide))); have n1_ := Az.mk (blk_grown (g := gb460) (o := .cells #[.int .i64 0, .int .i64 0, .slice none 0 0] 24 (0, 0)) (by (with_reducible repeat (first | refine bkN ?_ _ | refine bkD ?_ | refine bkA ?_ _)); exact BK460.out) hg (Kd.R_ne HO466.out BK460.out (by decide))); have n2_ := Az.mk (hb); have n3_ := Az.mk (ho); clear BK459; clear BK460; clear HB; clear HO466; have BK459 := n0_; have BK460 := n1_; have HB := n2_; have HO469 := n3_; clear n0_ n1_ n2_ n3_; clear ho hb hg hat; obtain ⟨Ao13, co13, eo13⟩ := Kd.R_slice HO469.out; subst eo13; have hcz14_0 : w12.cell? ⟨gb459, 0, none⟩ = some (.int .i64 a0_0) := (bkC BK459.out 0).trans rfl; have hcz14_1 : w12.cell? ⟨gb459, 1, none⟩ = some (.int .i64 a0_1) := (bkC BK459.out 1).trans rfl; have hcz14_2 : w12.cell? ⟨gb459, 2, none⟩ = some (.slice A0_2 l0_2.length c0_2) := (bkC BK459.out 2).trans rfl; have hfz14_0 := bkF BK459.out 0; have hfz14_1 := bkF BK459.out 1; have hfz14_2 := bkF BK459.out 2; have hcz15_0 : w12.cell? ⟨gb460, 0, none⟩ = some (.int .i64 0) := (bkC BK460.out 0).trans rfl; have hcz15_1 : w12.cell? ⟨gb460, 1, none⟩ = some (.int .i64 0) := (bkC BK460.out 1).trans rfl; have hcz15_2 : w12.cell? ⟨gb460, 2, none⟩ = some (.slice none 0 0) := (bkC BK460.out 2).trans rfl; have hfz15_0 := bkF BK460.out 0; have hfz15_1 := bkF BK460.out 1; have hfz15_2 := bkF BK460.out 2))
      refine bodyPost_ret (results_cell_row rfl _ _ gb460 24 #[.int .i64 a0_0, .int .i64 a0_1, .slice Ao13 y467.length co13] (0, 0) _ rfl (by (with_reducible repeat (first | refine bkN ?_ _ | refine bkD ?_ | refine bkA ?_ _)); refine blk_put (cs := #[.int .i64 a0_0, .int .i64 a0_1, .slice none 0 0]) ?_ 2 _ rfl; (with_reducible repeat (first | refine bkN ?_ _ | refine bkD ?_ | refine bkA ?_ _)); refine blk_put (cs := #[.int .i64 a0_0, .int .i64 0, .slice none 0 0]) ?_ 1 _ rfl; (with_reducible repeat (first | refine bkN ?_ _ | refine bkD ?_ | refine bkA ?_ _)); refine blk_put (cs := #[.int .i64 0, .int .i64 0, .slice none 0 0]) ?_ 0 _ rfl; (with_reducible repeat (first | refine bkN ?_ _ | refine bkD ?_ | refine bkA ?_ _)); refine blk_far ?_ NB460_459.out _; (with_reducible repeat (first | refine bkN ?_ _ | refine bkD ?_ | refine bkA ?_ _)); exact BK460.out) Tryd.underlying24 rfl (by kernel_rfl)) rfl ?_
      exact ⟨_, by first | rfl | (simp [errW_none, errW_some] <;> rfl) | (simp [*, errW_none, errW_some] <;> rfl), by (with_reducible repeat (first | apply Kd.R_alloc | apply Kd.R_drewN | apply Kd.R_drew)); exact Kd.R_mono (Kd.R_far (p := ⟨gb460, 2, none⟩) (Kd.R_far (p := ⟨gb460, 1, none⟩) (Kd.R_far (p := ⟨gb460, 0, none⟩) (Kd.R_far (p := ⟨gb459, 2, none⟩) (Kd.R_types (Kd.R_types HO469.out BK459.out (by decide)) BK460.out (by decide)) (fun _ hk => hk.1.2) (.slice Ao13 y467.length co13)) (fun _ hk => hk.2) (.int .i64 a0_0)) (fun _ hk => hk.2) (.int .i64 a0_1)) (fun _ hk => hk.2) (.slice Ao13 y467.length co13)) (fun _ hk => trivial), by repeat (first | (with_reducible first | exact HB.out | apply pbA | apply pbN | apply pb1 | refine pbS ?_ GE459.out | refine pbS ?_ GE460.out) | exact HB.out)⟩
    · rw [if_neg c4] at H
      exact absurd H (by simp)
  · rw [if_neg c3] at H
    exact absurd H (by simp)
end Go.Proofs.YtjpihfjgomoijaaDoor.P
end
section
-- Written by a program of this session (wip/tools/pr.py), over the kit's printer; functions named in the texts imported below are given by hand.
namespace Go.Proofs.YtjpihfjgomoijaaDoor.P
open Go.RowKit Go.Proofs.YtjpihfjgomoijaaDoor.K Go.Proofs.YtjpihfjgomoijaaDoorW.PrintWords Go.Proofs.YtjpihfjgomoijaaDoorW.PrintLast Go.Proofs.YtjpihfjgomoijaaDoorW.PrintMore
attribute [local go_sem] max2_int min2_int max_two min_two max_three min_three max_four min_four   -- for this text's walks alone
/-! ### r11_Newer: function 33 -/
def r11_Newer.f (a0 : Int) (a1 : Int) (a2_0 : Int) (a2_1 : Int) (l2_2 : List (S54)) : Option (Bool) := (r11_Last.f a2_0 a2_1 l2_2).bind fun bt486 => (if a0 > bt486.2 then (some true) else (if a0 = bt486.2 then (some (decide (a1 ≥ bt486.1))) else (some false)))
set_option maxHeartbeats 8000000 in
set_option maxRecDepth 100000 in
theorem r11_Newer.calls (a0 : Int) (a1 : Int) (a2_0 : Int) (a2_1 : Int) (A2_2 : Option Addr) (c2_2 : Nat) (l2_2 : List (S54)) (r : Bool) (w : World) (hG : TheG w) (hr2_2 : Kd.C k54 w A2_2 l2_2.length l2_2) (hc2_2 : l2_2.length ≤ c2_2) (h : r11_Newer.f a0 a1 a2_0 a2_1 l2_2 = some r) :
    Calls Tryd.prog 33 #[.int .i64 a0, .int .i64 a1, .agg #[.int .i64 a2_0, .int .i64 a2_1, .slice A2_2 l2_2.length c2_2]] w fun e w' => e = .returned (.bool r) ∧ Below w.heap.size w w' := by
  have hu24 := Tryd.underlying24
  have HR2_2 := Az.mk hr2_2
  have HC2_2 := Az.mk hc2_2
  clear hr2_2 hc2_2
  have HB := Az.mk (Below.refl w.heap.size w)
  have H : ((r11_Last.f a2_0 a2_1 l2_2).bind fun bt486 => (if a0 > bt486.2 then (some true) else (if a0 = bt486.2 then (some (decide (a1 ≥ bt486.1))) else (some false)))) = some r := h
  clear h
  replace H := Option.bind_eq_some_iff.mp H
  obtain ⟨⟨t486, t487⟩, A40, H⟩ := H
  replace H : (if a0 > t487 then (some true) else (if a0 = t487 then (some (decide (a1 ≥ t486))) else (some false))) = some r := H
  have A4 := Az.mk A40
  clear A40
  by_cases c5 : a0 > t487
  · rw [if_pos c5] at H
    have c5b0 : decide (t487 < a0) = true := decide_eq_true c5
    clear c5
    obtain rfl := Option.some.inj H
    go_enter Tryd.func33, Tryd.ntmps33
    go_wp2_with (first | ((with_reducible refine gate_dst (N := 5) rfl ?_); refine box_event ?hg (N := 5) ?hd (cs := #[.int .i64 a2_0, .int .i64 a2_1, .slice A2_2 l2_2.length c2_2]) (t := 24) ?hr ?_; (case hd => rfl); (case hg => rfl); (case hr => first | (go_simp; done) | (go_simp; rfl)); intro gb485 hg w6 hbox hb; have n0_ := Az.mk (pbT (by repeat (first | (with_reducible first | exact HB.out | apply pbA | apply pbN | apply pb1) | exact HB.out)) hb); have n1_ := Az.mk (hbox); have n2_ := Az.mk ((by rw [hg]; exact (pbZ (by repeat (first | (with_reducible first | exact HB.out | apply pbA | apply pbN | apply pb1) | exact HB.out))) : w.heap.size ≤ gb485)); have n3_ := Az.mk ((by rw [hg]; exact (pbZ (by repeat (first | (with_reducible first | exact HB.out | apply pbA | apply pbN | apply pb1) | exact HB.out))) : w.heap.size ≤ gb485)); clear HB; have HB := n0_; have BK485 := n1_; have GW485 := n2_; have GE485 := n3_; clear n0_ n1_ n2_ n3_; clear hb hbox hg; have hcz7_0 : w6.cell? ⟨gb485, 0, none⟩ = some (.int .i64 a2_0) := (bkC BK485.out 0).trans rfl; have hcz7_1 : w6.cell? ⟨gb485, 1, none⟩ = some (.int .i64 a2_1) := (bkC BK485.out 1).trans rfl; have hcz7_2 : w6.cell? ⟨gb485, 2, none⟩ = some (.slice A2_2 l2_2.length c2_2) := (bkC BK485.out 2).trans rfl; have hfz7_0 := bkF BK485.out 0; have hfz7_1 := bkF BK485.out 1; have hfz7_2 := bkF BK485.out 2) | ((with_reducible refine gtc (f := 27) rfl ?_); refine goesL_ (some 11) rfl rfl Tryd.func27 (by kernel_rfl) rfl #[.agg #[.int .i64 a2_0, .int .i64 a2_1, .slice A2_2 l2_2.length c2_2]] rfl (by (try simp only [List.map_toArray, List.map_cons, List.map_nil]); first | done | rfl | (simp only [List.length_drop, List.length_take]; rfl)) ?_; (with_reducible refine (r11_Last.calls a2_0 a2_1 _ _ l2_2 t486 t487 _ ?side1 ?side2 ?side3 A4.out).mono ?_); (case side1 => exact hG.below (by repeat (first | (with_reducible first | exact HB.out | apply pbA | apply pbN | apply pb1 | refine pbS ?_ GE485.out) | exact HB.out))); (case side2 => repeat (first | exact (Kd.C_below HR2_2.out HB.out) | (with_reducible refine Kd.C_alloc ?_ _) | (with_reducible refine Kd.C_drewN ?_ _) | (with_reducible refine Kd.C_drew ?_))); (case side3 => exact HC2_2.out); rintro e w8 ⟨rfl, hb⟩; refine ⟨_, rfl, ?_⟩; have n0_ := Az.mk (bkB (g := gb485) (o := .cells #[.int .i64 a2_0, .int .i64 a2_1, .slice A2_2 l2_2.length c2_2] 24 (0, 0)) (by (with_reducible repeat (first | refine bkN ?_ _ | refine bkD ?_ | refine bkA ?_ _)); exact BK485.out) hb); have n1_ := Az.mk (pbT (by repeat (first | (with_reducible first | exact HB.out | apply pbA | apply pbN | apply pb1 | refine pbS ?_ GE485.out) | exact HB.out)) hb); clear BK485; clear HB; have BK485 := n0_; have HB := n1_; clear n0_ n1_; (try clear hb); (try clear hb2); (try clear hk); (try clear hi)))
    go_ret
    exact ⟨by first | rfl | (simp [errW_none, errW_some] <;> rfl) | (simp [*, errW_none, errW_some] <;> rfl), by repeat (first | (with_reducible first | exact HB.out | apply pbA | apply pbN | apply pb1 | refine pbS ?_ GE485.out) | exact HB.out)⟩
  · rw [if_neg c5] at H
    have c5b0 : decide (t487 < a0) = false := decide_eq_false c5
    clear c5
    by_cases c9 : a0 = t487
    · rw [if_pos c9] at H
      have c9b0 : (a0 == t487) = true := beq_iff_eq.mpr c9
      have c9b1 : (a0 != t487) = false := bne_eq_false_iff_eq.mpr c9
      clear c9
      obtain rfl := Option.some.inj H
      go_enter Tryd.func33, Tryd.ntmps33
      go_wp2_with (first | ((with_reducible refine gate_dst (N := 5) rfl ?_); refine box_event ?hg (N := 5) ?hd (cs := #[.int .i64 a2_0, .int .i64 a2_1, .slice A2_2 l2_2.length c2_2]) (t := 24) ?hr ?_; (case hd => rfl); (case hg => rfl); (case hr => first | (go_simp; done) | (go_simp; rfl)); intro gb485 hg w10 hbox hb; have n0_ := Az.mk (pbT (by repeat (first | (with_reducible first | exact HB.out | apply pbA | apply pbN | apply pb1) | exact HB.out)) hb); have n1_ := Az.mk (hbox); have n2_ := Az.mk ((by rw [hg]; exact (pbZ (by repeat (first | (with_reducible first | exact HB.out | apply pbA | apply pbN | apply pb1) | exact HB.out))) : w.heap.size ≤ gb485)); have n3_ := Az.mk ((by rw [hg]; exact (pbZ (by repeat (first | (with_reducible first | exact HB.out | apply pbA | apply pbN | apply pb1) | exact HB.out))) : w.heap.size ≤ gb485)); clear HB; have HB := n0_; have BK485 := n1_; have GW485 := n2_; have GE485 := n3_; clear n0_ n1_ n2_ n3_; clear hb hbox hg; have hcz11_0 : w10.cell? ⟨gb485, 0, none⟩ = some (.int .i64 a2_0) := (bkC BK485.out 0).trans rfl; have hcz11_1 : w10.cell? ⟨gb485, 1, none⟩ = some (.int .i64 a2_1) := (bkC BK485.out 1).trans rfl; have hcz11_2 : w10.cell? ⟨gb485, 2, none⟩ = some (.slice A2_2 l2_2.length c2_2) := (bkC BK485.out 2).trans rfl; have hfz11_0 := bkF BK485.out 0; have hfz11_1 := bkF BK485.out 1; have hfz11_2 := bkF BK485.out 2) | ((with_reducible refine gtc (f := 27) rfl ?_); refine goesL_ (some 11) rfl rfl Tryd.func27 (by kernel_rfl) rfl #[.agg #[.int .i64 a2_0, .int .i64 a2_1, .slice A2_2 l2_2.length c2_2]] rfl (by (try simp only [List.map_toArray, List.map_cons, List.map_nil]); first | done | rfl | (simp only [List.length_drop, List.length_take]; rfl)) ?_; (with_reducible refine (r11_Last.calls a2_0 a2_1 _ _ l2_2 t486 t487 _ ?side1 ?side2 ?side3 A4.out).mono ?_); (case side1 => exact hG.below (by repeat (first | (with_reducible first | exact HB.out | apply pbA | apply pbN | apply pb1 | refine pbS ?_ GE485.out) | exact HB.out))); (case side2 => repeat (first | exact (Kd.C_below HR2_2.out HB.out) | (with_reducible refine Kd.C_alloc ?_ _) | (with_reducible refine Kd.C_drewN ?_ _) | (with_reducible refine Kd.C_drew ?_))); (case side3 => exact HC2_2.out); rintro e w12 ⟨rfl, hb⟩; refine ⟨_, rfl, ?_⟩; have n0_ := Az.mk (bkB (g := gb485) (o := .cells #[.int .i64 a2_0, .int .i64 a2_1, .slice A2_2 l2_2.length c2_2] 24 (0, 0)) (by (with_reducible repeat (first | refine bkN ?_ _ | refine bkD ?_ | refine bkA ?_ _)); exact BK485.out) hb); have n1_ := Az.mk (pbT (by repeat (first | (with_reducible first | exact HB.out | apply pbA | apply pbN | apply pb1 | refine pbS ?_ GE485.out) | exact HB.out)) hb); clear BK485; clear HB; have BK485 := n0_; have HB := n1_; clear n0_ n1_; (try clear hb); (try clear hb2); (try clear hk); (try clear hi)))
      go_ret
      exact ⟨by first | rfl | (simp [errW_none, errW_some] <;> rfl) | (simp [*, errW_none, errW_some] <;> rfl), by repeat (first | (with_reducible first | exact HB.out | apply pbA | apply pbN | apply pb1 | refine pbS ?_ GE485.out) | exact HB.out)⟩
    · rw [if_neg c9] at H
      have c9b0 : (a0 == t487) = false := beq_eq_false_iff_ne.mpr c9
      have c9b1 : (a0 != t487) = true := bne_iff_ne.mpr c9
      obtain rfl := Option.some.inj H
      go_enter Tryd.func33, Tryd.ntmps33
      go_wp2_with (first | ((with_reducible refine gate_dst (N := 5) rfl ?_); refine box_event ?hg (N := 5) ?hd (cs := #[.int .i64 a2_0, .int .i64 a2_1, .slice A2_2 l2_2.length c2_2]) (t := 24) ?hr ?_; (case hd => rfl); (case hg => rfl); (case hr => first | (go_simp; done) | (go_simp; rfl)); intro gb485 hg w13 hbox hb; have n0_ := Az.mk (pbT (by repeat (first | (with_reducible first | exact HB.out | apply pbA | apply pbN | apply pb1) | exact HB.out)) hb); have n1_ := Az.mk (hbox); have n2_ := Az.mk ((by rw [hg]; exact (pbZ (by repeat (first | (with_reducible first | exact HB.out | apply pbA | apply pbN | apply pb1) | exact HB.out))) : w.heap.size ≤ gb485)); have n3_ := Az.mk ((by rw [hg]; exact (pbZ (by repeat (first | (with_reducible first | exact HB.out | apply pbA | apply pbN | apply pb1) | exact HB.out))) : w.heap.size ≤ gb485)); clear HB; have HB := n0_; have BK485 := n1_; have GW485 := n2_; have GE485 := n3_; clear n0_ n1_ n2_ n3_; clear hb hbox hg; have hcz14_0 : w13.cell? ⟨gb485, 0, none⟩ = some (.int .i64 a2_0) := (bkC BK485.out 0).trans rfl; have hcz14_1 : w13.cell? ⟨gb485, 1, none⟩ = some (.int .i64 a2_1) := (bkC BK485.out 1).trans rfl; have hcz14_2 : w13.cell? ⟨gb485, 2, none⟩ = some (.slice A2_2 l2_2.length c2_2) := (bkC BK485.out 2).trans rfl; have hfz14_0 := bkF BK485.out 0; have hfz14_1 := bkF BK485.out 1; have hfz14_2 := bkF BK485.out 2) | ((with_reducible refine gtc (f := 27) rfl ?_); refine goesL_ (some 11) rfl rfl Tryd.func27 (by kernel_rfl) rfl #[.agg #[.int .i64 a2_0, .int .i64 a2_1, .slice A2_2 l2_2.length c2_2]] rfl (by (try simp only [List.map_toArray, List.map_cons, List.map_nil]); first | done | rfl | (simp only [List.length_drop, List.length_take]; rfl)) ?_; (with_reducible refine (r11_Last.calls a2_0 a2_1 _ _ l2_2 t486 t487 _ ?side1 ?side2 ?side3 A4.out).mono ?_); (case side1 => exact hG.below (by repeat (first | (with_reducible first | exact HB.out | apply pbA | apply pbN | apply pb1 | refine pbS ?_ GE485.out) | exact HB.out))); (case side2 => repeat (first | exact (Kd.C_below HR2_2.out HB.out) | (with_reducible refine Kd.C_alloc ?_ _) | (with_reducible refine Kd.C_drewN ?_ _) | (with_reducible refine Kd.C_drew ?_))); (case side3 => exact HC2_2.out); rintro e w15 ⟨rfl, hb⟩; refine ⟨_, rfl, ?_⟩; have n0_ := Az.mk (bkB (g := gb485) (o := .cells #[.int .i64 a2_0, .int .i64 a2_1, .slice A2_2 l2_2.length c2_2] 24 (0, 0)) (by (with_reducible repeat (first | refine bkN ?_ _ | refine bkD ?_ | refine bkA ?_ _)); exact BK485.out) hb); have n1_ := Az.mk (pbT (by repeat (first | (with_reducible first | exact HB.out | apply pbA | apply pbN | apply pb1 | refine pbS ?_ GE485.out) | exact HB.out)) hb); clear BK485; clear HB; have BK485 := n0_; have HB := n1_; clear n0_ n1_; (try clear hb); (try clear hb2); (try clear hk); (try clear hi)))
      go_ret
      exact ⟨by first | rfl | (simp [errW_none, errW_some] <;> rfl) | (simp [*, errW_none, errW_some] <;> rfl), by repeat (first | (with_reducible first | exact HB.out | apply pbA | apply pbN | apply pb1 | refine pbS ?_ GE485.out) | exact HB.out)⟩
end Go.Proofs.YtjpihfjgomoijaaDoor.P
end
section
-- Written by a program of this session (wip/tools/pr.py), over the kit's printer; functions named in the texts imported below are given by hand.
namespace Go.Proofs.YtjpihfjgomoijaaDoor.P
open Go.RowKit Go.Proofs.YtjpihfjgomoijaaDoor.K Go.Proofs.YtjpihfjgomoijaaDoorW.PrintWords Go.Proofs.YtjpihfjgomoijaaDoorW.PrintLast Go.Proofs.YtjpihfjgomoijaaDoorW.PrintMore
attribute [local go_sem] max2_int min2_int max_two min_two max_three min_three max_four min_four   -- for this text's walks alone
/-! ### r11_Compact: function 32 -/
def r11_Compact.f (k : Nat) (a0_0 : Int) (a0_1 : Int) (l0_2 : List (S54)) (a1 : Int) : Option (Int × Int × (List (S54))) := (r11_Term.f k a0_0 a0_1 l0_2 a1).bind fun bt472 => (if bt472.2 = true then (if a1 ≤ a0_0 then (some (a0_0, a0_1, l0_2)) else ((some (([] : List (S54)) : List (S54))).bind fun y474 => (if 0 ≤ (wrap64 (a1 - a0_0)) then (if (wrap64 (a1 - a0_0)) ≤ (l0_2.length : Int) then ((some (l0_2.drop ((wrap64 (a1 - a0_0)) : Int).toNat : List (S54))).bind fun y477 => (if y474.length + y477.length < 5864062014805 then (some (a1, bt472.1, (y474 ++ y477))) else (none))) else (none)) else (none)))) else (some (a0_0, a0_1, l0_2)))
theorem r11_Compact.mono : ∀ a0 a1 a2 a3 k, LeO (r11_Compact.f k a0 a1 a2 a3) (r11_Compact.f (k + 1) a0 a1 a2 a3) := by
  intro a0 a1 a2 a3 k
  unfold r11_Compact.f
  repeat' first
      | (with_reducible exact r11_Term.mono _ _ _ _ _)
      | (with_reducible exact LeO.refl _)
      | (with_reducible exact LeO.none _)
      | (with_reducible refine LeO.ite ?_ ?_)
      | (with_reducible refine LeO.bind ?_ (fun _ => ?_))
      | exact r11_Term.mono _ _ _ _ _
      | exact LeO.none _
      | refine LeO.ite ?_ ?_
      | refine LeO.bind ?_ (fun _ => ?_)
set_option maxHeartbeats 8000000 in
set_option maxRecDepth 100000 in
theorem r11_Compact.calls (k : Nat) (a0_0 : Int) (a0_1 : Int) (P0_2_ : Nat → Prop) (A0_2 : Option Addr) (c0_2 : Nat) (l0_2 : List (S54)) (a1 : Int) (r1 : Int) (r2 : Int) (r3 : List (S54)) (w : World) (hG : TheG w) (hs0_2 : Kd.V k54 54 w w.heap.size (fun k_ => P0_2_ k_) (.slice A0_2 l0_2.length c0_2) l0_2) (h : r11_Compact.f k a0_0 a0_1 l0_2 a1 = some (r1, r2, r3)) :
    Calls Tryd.prog 32 #[.agg #[.int .i64 a0_0, .int .i64 a0_1, .slice A0_2 l0_2.length c0_2], .int .i64 a1] w fun e w' => ∃ v2_ : Value, e = .returned (.agg #[.int .i64 r1, .int .i64 r2, v2_]) ∧ Kd.V k54 54 w' w.heap.size (fun k_ => (P0_2_ k_ ∨ w.heap.size ≤ k_)) v2_ r3 ∧ Below w.heap.size w w' := by
  have hu24 := Tryd.underlying24
  have HO0_2 := Az.mk (show Kd.V k54 54 w w.heap.size (fun k_ => (P0_2_ k_ ∨ w.heap.size ≤ k_)) (.slice A0_2 l0_2.length c0_2) l0_2 from Kd.V_mono hs0_2 (fun k_ hk => .inl hk))
  have HB := Az.mk (Below.refl w.heap.size w)
  have H : ((r11_Term.f k a0_0 a0_1 l0_2 a1).bind fun bt472 => (if bt472.2 = true then (if a1 ≤ a0_0 then (some (a0_0, a0_1, l0_2)) else ((some (([] : List (S54)) : List (S54))).bind fun y474 => (if 0 ≤ (wrap64 (a1 - a0_0)) then (if (wrap64 (a1 - a0_0)) ≤ (l0_2.length : Int) then ((some (l0_2.drop ((wrap64 (a1 - a0_0)) : Int).toNat : List (S54))).bind fun y477 => (if y474.length + y477.length < 5864062014805 then (some (a1, bt472.1, (y474 ++ y477))) else (none))) else (none)) else (none)))) else (some (a0_0, a0_1, l0_2)))) = some (r1, r2, r3) := h
  clear h
  replace H := Option.bind_eq_some_iff.mp H
  obtain ⟨⟨t472, t473⟩, A30, H⟩ := H
  replace H : (if t473 = true then (if a1 ≤ a0_0 then (some (a0_0, a0_1, l0_2)) else ((some (([] : List (S54)) : List (S54))).bind fun y474 => (if 0 ≤ (wrap64 (a1 - a0_0)) then (if (wrap64 (a1 - a0_0)) ≤ (l0_2.length : Int) then ((some (l0_2.drop ((wrap64 (a1 - a0_0)) : Int).toNat : List (S54))).bind fun y477 => (if y474.length + y477.length < 5864062014805 then (some (a1, t472, (y474 ++ y477))) else (none))) else (none)) else (none)))) else (some (a0_0, a0_1, l0_2))) = some (r1, r2, r3) := H
  have A3 := Az.mk A30
  clear A30
  by_cases c4 : t473 = true
  · subst c4
    have H1 : (if a1 ≤ a0_0 then (some (a0_0, a0_1, l0_2)) else ((some (([] : List (S54)) : List (S54))).bind fun y474 => (if 0 ≤ (wrap64 (a1 - a0_0)) then (if (wrap64 (a1 - a0_0)) ≤ (l0_2.length : Int) then ((some (l0_2.drop ((wrap64 (a1 - a0_0)) : Int).toNat : List (S54))).bind fun y477 => (if y474.length + y477.length < 5864062014805 then (some (a1, t472, (y474 ++ y477))) else (none))) else (none)) else (none)))) = some (r1, r2, r3) := by rw [if_pos rfl] at H; exact H
    clear H
    have H := H1
    clear H1
    by_cases c5 : a1 ≤ a0_0
    · rw [if_pos c5] at H
      have c5b0 : decide (a1 ≤ a0_0) = true := decide_eq_true c5
      clear c5
      simp only [Option.some.injEq, Prod.mk.injEq] at H
      obtain ⟨rfl, rfl, rfl⟩ := H
      go_enter Tryd.func32, Tryd.ntmps32
      go_wp2_with (first | ((with_reducible refine gate_dst (N := 2) rfl ?_); refine box_event ?hg (N := 2) ?hd (cs := #[.int .i64 a0_0, .int .i64 a0_1, .slice A0_2 l0_2.length c0_2]) (t := 24) ?hr ?_; (case hd => rfl); (case hg => rfl); (case hr => first | (go_simp; done) | (go_simp; rfl)); intro gb470 hg w6 hbox hb; have n0_ := Az.mk (Kd.V_below (Kd.V_elderB (by (with_reducible repeat (first | apply Kd.V_alloc | apply Kd.V_drewN | apply Kd.V_drew)); exact HO0_2.out) gb470 (Nat.le_of_eq hg.symm)) hb); have n1_ := Az.mk (pbT (by repeat (first | (with_reducible first | exact HB.out | apply pbA | apply pbN | apply pb1) | exact HB.out)) hb); have n2_ := Az.mk (hbox); have n3_ := Az.mk ((by rw [hg]; exact (pbZ (by repeat (first | (with_reducible first | exact HB.out | apply pbA | apply pbN | apply pb1) | exact HB.out))) : w.heap.size ≤ gb470)); have n4_ := Az.mk ((by rw [hg]; exact (pbZ (by repeat (first | (with_reducible first | exact HB.out | apply pbA | apply pbN | apply pb1) | exact HB.out))) : w.heap.size ≤ gb470)); clear HO0_2; clear HB; have HO0_2 := n0_; have HB := n1_; have BK470 := n2_; have GW470 := n3_; have GE470 := n4_; clear n0_ n1_ n2_ n3_ n4_; clear hb hbox hg) | ((with_reducible refine gate_dst (N := 4) rfl ?_); refine box_event ?hg (N := 4) ?hd (cs := #[.int .i64 0, .int .i64 0, .slice none 0 0]) (t := 24) ?hr ?_; (case hd => rfl); (case hg => rfl); (case hr => first | (go_simp; done) | (go_simp; rfl)); intro gb471 hg w7 hbox hb; have n0_ := Az.mk (Kd.V_below (Kd.V_elderB (by (with_reducible repeat (first | apply Kd.V_alloc | apply Kd.V_drewN | apply Kd.V_drew)); exact HO0_2.out) gb471 (Nat.le_of_eq hg.symm)) hb); have n1_ := Az.mk (bkB (g := gb470) (o := .cells #[.int .i64 a0_0, .int .i64 a0_1, .slice A0_2 l0_2.length c0_2] 24 (0, 0)) (by (with_reducible repeat (first | refine bkN ?_ _ | refine bkD ?_ | refine bkA ?_ _)); exact BK470.out) hb); have n2_ := Az.mk (pbT (by repeat (first | (with_reducible first | exact HB.out | apply pbA | apply pbN | apply pb1 | refine pbS ?_ GE470.out) | exact HB.out)) hb); have n3_ := Az.mk (hbox); have n4_ := Az.mk ((by rw [hg]; exact (pbZ (by repeat (first | (with_reducible first | exact HB.out | apply pbA | apply pbN | apply pb1 | refine pbS ?_ GE470.out) | exact HB.out))) : w.heap.size ≤ gb471)); have n5_ := Az.mk ((by rw [hg]; exact (pbZ (by repeat (first | (with_reducible first | exact HB.out | apply pbA | apply pbN | apply pb1 | refine pbS ?_ GE470.out) | exact HB.out))) : w.heap.size ≤ gb471)); have n6_ := Az.mk ((by rw [hg]; exact Nat.ne_of_lt (blk_lt (g := gb470) (o := .cells #[.int .i64 a0_0, .int .i64 a0_1, .slice A0_2 l0_2.length c0_2] 24 (0, 0)) (by (with_reducible repeat (first | refine bkN ?_ _ | refine bkD ?_ | refine bkA ?_ _)); exact BK470.out)) : gb470 ≠ gb471)); have n7_ := Az.mk ((by rw [hg]; exact Nat.ne_of_gt (blk_lt (g := gb470) (o := .cells #[.int .i64 a0_0, .int .i64 a0_1, .slice A0_2 l0_2.length c0_2] 24 (0, 0)) (by (with_reducible repeat (first | refine bkN ?_ _ | refine bkD ?_ | refine bkA ?_ _)); exact BK470.out)) : gb471 ≠ gb470)); clear HO0_2; clear BK470; clear HB; have HO0_2 := n0_; have BK470 := n1_; have HB := n2_; have BK471 := n3_; have GW471 := n4_; have GE471 := n5_; have NB470_471 := n6_; have NB471_470 := n7_; clear n0_ n1_ n2_ n3_ n4_ n5_ n6_ n7_; clear hb hbox hg; have hnb8 := NB470_471.out; have hnc8 := NB471_470.out; have hcz9_0 : w7.cell? ⟨gb470, 0, none⟩ = some (.int .i64 a0_0) := (bkC BK470.out 0).trans rfl; have hcz9_1 : w7.cell? ⟨gb470, 1, none⟩ = some (.int .i64 a0_1) := (bkC BK470.out 1).trans rfl; have hcz9_2 : w7.cell? ⟨gb470, 2, none⟩ = some (.slice A0_2 l0_2.length c0_2) := (bkC BK470.out 2).trans rfl; have hfz9_0 := bkF BK470.out 0; have hfz9_1 := bkF BK470.out 1; have hfz9_2 := bkF BK470.out 2) | ((with_reducible refine gtc (f := 28) rfl ?_); refine goesL_ (some 10) rfl rfl Tryd.func28 (by kernel_rfl) rfl #[.agg #[.int .i64 a0_0, .int .i64 a0_1, .slice A0_2 l0_2.length c0_2], .int .i64 a1] rfl (by (try simp only [List.map_toArray, List.map_cons, List.map_nil]); first | done | rfl | (simp only [List.length_drop, List.length_take]; rfl)) ?_; (with_reducible refine (r11_Term.calls k a0_0 a0_1 _ _ l0_2 a1 t472 true _ ?side1 ?side2 ?side3 A3.out).mono ?_); (case side1 => exact hG.below (by repeat (first | (with_reducible first | exact HB.out | apply pbA | apply pbN | apply pb1 | refine pbS ?_ GE470.out | refine pbS ?_ GE471.out) | exact HB.out))); (case side2 => repeat (first | exact (Kd.V_reads' HO0_2.out).2.2 | (with_reducible refine Kd.C_alloc ?_ _) | (with_reducible refine Kd.C_drewN ?_ _) | (with_reducible refine Kd.C_drew ?_))); (case side3 => exact (Kd.V_reads' HO0_2.out).2.1); rintro e w10 ⟨rfl, hb⟩; refine ⟨_, rfl, ?_⟩; have n0_ := Az.mk (Kd.V_below (by (with_reducible repeat (first | apply Kd.V_alloc | apply Kd.V_drewN | apply Kd.V_drew)); exact HO0_2.out) hb); have n1_ := Az.mk (bkB (g := gb470) (o := .cells #[.int .i64 a0_0, .int .i64 a0_1, .slice A0_2 l0_2.length c0_2] 24 (0, 0)) (by (with_reducible repeat (first | refine bkN ?_ _ | refine bkD ?_ | refine bkA ?_ _)); exact BK470.out) hb); have n2_ := Az.mk (bkB (g := gb471) (o := .cells #[.int .i64 0, .int .i64 0, .slice none 0 0] 24 (0, 0)) (by (with_reducible repeat (first | refine bkN ?_ _ | refine bkD ?_ | refine bkA ?_ _)); exact BK471.out) hb); have n3_ := Az.mk (pbT (by repeat (first | (with_reducible first | exact HB.out | apply pbA | apply pbN | apply pb1 | refine pbS ?_ GE470.out | refine pbS ?_ GE471.out) | exact HB.out)) hb); clear HO0_2; clear BK470; clear BK471; clear HB; have HO0_2 := n0_; have BK470 := n1_; have BK471 := n2_; have HB := n3_; clear n0_ n1_ n2_ n3_; (try clear hb); (try clear hb2); (try clear hk); (try clear hi); have hcz11_0 : w10.cell? ⟨gb470, 0, none⟩ = some (.int .i64 a0_0) := (bkC BK470.out 0).trans rfl; have hcz11_1 : w10.cell? ⟨gb470, 1, none⟩ = some (.int .i64 a0_1) := (bkC BK470.out 1).trans rfl; have hcz11_2 : w10.cell? ⟨gb470, 2, none⟩ = some (.slice A0_2 l0_2.length c0_2) := (bkC BK470.out 2).trans rfl; have hfz11_0 := bkF BK470.out 0; have hfz11_1 := bkF BK470.out 1; have hfz11_2 := bkF BK470.out 2; have hcz12_0 : w10.cell? ⟨gb471, 0, none⟩ = some (.int .i64 0) := (bkC BK471.out 0).trans rfl; have hcz12_1 : w10.cell? ⟨gb471, 1, none⟩ = some (.int .i64 0) := (bkC BK471.out 1).trans rfl; have hcz12_2 : w10.cell? ⟨gb471, 2, none⟩ = some (.slice none 0 0) := (bkC BK471.out 2).trans rfl; have hfz12_0 := bkF BK471.out 0; have hfz12_1 := bkF BK471.out 1; have hfz12_2 := bkF BK471.out 2))
      refine bodyPost_ret (results_cell_row rfl _ _ gb471 24 #[.int .i64 a0_0, .int .i64 a0_1, .slice A0_2 l0_2.length c0_2] (0, 0) _ rfl (by (with_reducible repeat (first | refine bkN ?_ _ | refine bkD ?_ | refine bkA ?_ _)); refine blk_put (cs := #[.int .i64 a0_0, .int .i64 a0_1, .slice none 0 0]) ?_ 2 _ rfl; (with_reducible repeat (first | refine bkN ?_ _ | refine bkD ?_ | refine bkA ?_ _)); refine blk_put (cs := #[.int .i64 a0_0, .int .i64 0, .slice none 0 0]) ?_ 1 _ rfl; (with_reducible repeat (first | refine bkN ?_ _ | refine bkD ?_ | refine bkA ?_ _)); refine blk_put (cs := #[.int .i64 0, .int .i64 0, .slice none 0 0]) ?_ 0 _ rfl; (with_reducible repeat (first | refine bkN ?_ _ | refine bkD ?_ | refine bkA ?_ _)); exact BK471.out) Tryd.underlying24 rfl (by kernel_rfl)) rfl ?_
      exact ⟨_, by first | rfl | (simp [errW_none, errW_some] <;> rfl) | (simp [*, errW_none, errW_some] <;> rfl), by (with_reducible repeat (first | apply Kd.V_alloc | apply Kd.V_drewN | apply Kd.V_drew)); exact Kd.V_mono (Kd.V_far (p := ⟨gb471, 2, none⟩) (Kd.V_far (p := ⟨gb471, 1, none⟩) (Kd.V_far (p := ⟨gb471, 0, none⟩) (Kd.V_mono HO0_2.out (fun k_ hk => (⟨hk, hk.2⟩ : _ ∧ k_ ≠ gb471))) (fun _ hk => hk.2) (.int .i64 a0_0)) (fun _ hk => hk.2) (.int .i64 a0_1)) (fun _ hk => hk.2) (.slice A0_2 l0_2.length c0_2)) (fun _ hk => hk.1.1.1), by repeat (first | (with_reducible first | exact HB.out | apply pbA | apply pbN | apply pb1 | refine pbS ?_ GE470.out | refine pbS ?_ GE471.out) | exact HB.out)⟩
    · rw [if_neg c5] at H
      have c5b0 : decide (a1 ≤ a0_0) = false := decide_eq_false c5
      clear c5
      obtain ⟨y474, hy474⟩ : ∃ y_ : List (S54), y_ = (([] : List (S54))) := ⟨_, rfl⟩
      replace H : (if 0 ≤ (wrap64 (a1 - a0_0)) then (if (wrap64 (a1 - a0_0)) ≤ (l0_2.length : Int) then ((some (l0_2.drop ((wrap64 (a1 - a0_0)) : Int).toNat : List (S54))).bind fun y477 => (if y474.length + y477.length < 5864062014805 then (some (a1, t472, (y474 ++ y477))) else (none))) else (none)) else (none)) = some (r1, r2, r3) := by first | (rw [hy474]; with_reducible exact H) | (have H2_ := (Option.bind_some _ _).symm.trans H; rw [hy474]; with_reducible exact H2_) | (have H2_ := (Option.bind_some _ _).symm.trans H; with_reducible exact H2_) | with_reducible exact H | (rw [hy474]; exact H) | exact H
      have Ny474 := Az.mk hy474
      clear hy474
      obtain ⟨ji13, hji13⟩ : ∃ j_ : Int, (wrap64 (a1 - a0_0)) = j_ := ⟨_, rfl⟩
      replace H : (if 0 ≤ (ji13) then (if (ji13) ≤ (l0_2.length : Int) then ((some (l0_2.drop ((ji13) : Int).toNat : List (S54))).bind fun y477 => (if y474.length + y477.length < 5864062014805 then (some (a1, t472, (y474 ++ y477))) else (none))) else (none)) else (none)) = some (r1, r2, r3) := by first | (rw [hji13] at H; exact H) | (simp only [hji13] at H ⊢; exact H)
      (try rw [hji13] at A3)
      have hji13w : (IntKind.i64.wrap (a1 - a0_0)) = ji13 := (i64_w _).trans hji13
      by_cases c14 : 0 ≤ (ji13)
      · rw [if_pos c14] at H
        have c14b0 := eq_true c14
        have c14b1 : decide (0 ≤ (ji13)) = true := decide_eq_true c14
        clear c14
        by_cases c15 : (ji13) ≤ (l0_2.length : Int)
        · rw [if_pos c15] at H
          have c15b0 := eq_true c15
          have c15b1 : decide ((ji13) ≤ (l0_2.length : Int)) = true := decide_eq_true c15
          clear c15
          obtain ⟨y477, hy477⟩ : ∃ y_ : List (S54), y_ = (l0_2.drop ((ji13) : Int).toNat) := ⟨_, rfl⟩
          replace H : (if y474.length + y477.length < 5864062014805 then (some (a1, t472, (y474 ++ y477))) else (none)) = some (r1, r2, r3) := by first | (rw [hy477]; with_reducible exact H) | (have H2_ := (Option.bind_some _ _).symm.trans H; rw [hy477]; with_reducible exact H2_) | (have H2_ := (Option.bind_some _ _).symm.trans H; with_reducible exact H2_) | with_reducible exact H | (rw [hy477]; exact H) | exact H
          have Ny477 := Az.mk hy477
          clear hy477
          by_cases c16 : y474.length + y477.length < 5864062014805
          · rw [if_pos c16] at H
            have LMc16 := Az.mk c16
            clear c16
            obtain ⟨y482, hy482⟩ : ∃ y_ : List (S54), y_ = (y474 ++ y477) := ⟨_, rfl⟩
            replace H : (some (a1, t472, y482)) = some (r1, r2, r3) := by first | (rw [hy482]; with_reducible exact H) | (have H2_ := (Option.bind_some _ _).symm.trans H; rw [hy482]; with_reducible exact H2_) | (have H2_ := (Option.bind_some _ _).symm.trans H; with_reducible exact H2_) | with_reducible exact H | (rw [hy482]; exact H) | exact H
            have Ny482 := Az.mk hy482
            clear hy482
            simp only [Option.some.injEq, Prod.mk.injEq] at H
            obtain ⟨rfl, rfl, rfl⟩ := H
            go_enter Tryd.func32, Tryd.ntmps32
            go_wp2_with (first | ((with_reducible refine gate_dst (N := 2) rfl ?_); refine box_event ?hg (N := 2) ?hd (cs := #[.int .i64 a0_0, .int .i64 a0_1, .slice A0_2 l0_2.length c0_2]) (t := 24) ?hr ?_; (case hd => rfl); (case hg => rfl); (case hr => first | (go_simp; done) | (go_simp; rfl)); intro gb470 hg w17 hbox hb; have n0_ := Az.mk (Kd.V_below (Kd.V_elderB (by (with_reducible repeat (first | apply Kd.V_alloc | apply Kd.V_drewN | apply Kd.V_drew)); exact HO0_2.out) gb470 (Nat.le_of_eq hg.symm)) hb); have n1_ := Az.mk (pbT (by repeat (first | (with_reducible first | exact HB.out | apply pbA | apply pbN | apply pb1) | exact HB.out)) hb); have n2_ := Az.mk (hbox); have n3_ := Az.mk ((by rw [hg]; exact (pbZ (by repeat (first | (with_reducible first | exact HB.out | apply pbA | apply pbN | apply pb1) | exact HB.out))) : w.heap.size ≤ gb470)); have n4_ := Az.mk ((by rw [hg]; exact (pbZ (by repeat (first | (with_reducible first | exact HB.out | apply pbA | apply pbN | apply pb1) | exact HB.out))) : w.heap.size ≤ gb470)); clear HO0_2; clear HB; have HO0_2 := n0_; have HB := n1_; have BK470 := n2_; have GW470 := n3_; have GE470 := n4_; clear n0_ n1_ n2_ n3_ n4_; clear hb hbox hg) | ((with_reducible refine gate_dst (N := 4) rfl ?_); refine box_event ?hg (N := 4) ?hd (cs := #[.int .i64 0, .int .i64 0, .slice none 0 0]) (t := 24) ?hr ?_; (case hd => rfl); (case hg => rfl); (case hr => first | (go_simp; done) | (go_simp; rfl)); intro gb471 hg w18 hbox hb; have n0_ := Az.mk (Kd.V_below (Kd.V_elderB (by (with_reducible repeat (first | apply Kd.V_alloc | apply Kd.V_drewN | apply Kd.V_drew)); exact HO0_2.out) gb471 (Nat.le_of_eq hg.symm)) hb); have n1_ := Az.mk (bkB (g := gb470) (o := .cells #[.int .i64 a0_0, .int .i64 a0_1, .slice A0_2 l0_2.length c0_2] 24 (0, 0)) (by (with_reducible repeat (first | refine bkN ?_ _ | refine bkD ?_ | refine bkA ?_ _)); exact BK470.out) hb); have n2_ := Az.mk (pbT (by repeat (first | (with_reducible first | exact HB.out | apply pbA | apply pbN | apply pb1 | refine pbS ?_ GE470.out) | exact HB.out)) hb); have n3_ := Az.mk (hbox); have n4_ := Az.mk ((by rw [hg]; exact (pbZ (by repeat (first | (with_reducible first | exact HB.out | apply pbA | apply pbN | apply pb1 | refine pbS ?_ GE470.out) | exact HB.out))) : w.heap.size ≤ gb471)); have n5_ := Az.mk ((by rw [hg]; exact (pbZ (by repeat (first | (with_reducible first | exact HB.out | apply pbA | apply pbN | apply pb1 | refine pbS ?_ GE470.out) | exact HB.out))) : w.heap.size ≤ gb471)); have n6_ := Az.mk ((by rw [hg]; exact Nat.ne_of_lt (blk_lt (g := gb470) (o := .cells #[.int .i64 a0_0, .int .i64 a0_1, .slice A0_2 l0_2.length c0_2] 24 (0, 0)) (by (with_reducible repeat (first | refine bkN ?_ _ | refine bkD ?_ | refine bkA ?_ _)); exact BK470.out)) : gb470 ≠ gb471)); have n7_ := Az.mk ((by rw [hg]; exact Nat.ne_of_gt (blk_lt (g := gb470) (o := .cells #[.int .i64 a0_0, .int .i64 a0_1, .slice A0_2 l0_2.length c0_2] 24 (0, 0)) (by (with_reducible repeat (first | refine bkN ?_ _ | refine bkD ?_ | refine bkA ?_ _)); exact BK470.out)) : gb471 ≠ gb470)); clear HO0_2; clear BK470; clear HB; have HO0_2 := n0_; have BK470 := n1_; have HB := n2_; have BK471 := n3_; have GW471 := n4_; have GE471 := n5_; have NB470_471 := n6_; have NB471_470 := n7_; clear n0_ n1_ n2_ n3_ n4_ n5_ n6_ n7_; clear hb hbox hg; have hnb19 := NB470_471.out; have hnc19 := NB471_470.out; have hcz20_0 : w18.cell? ⟨gb470, 0, none⟩ = some (.int .i64 a0_0) := (bkC BK470.out 0).trans rfl; have hcz20_1 : w18.cell? ⟨gb470, 1, none⟩ = some (.int .i64 a0_1) := (bkC BK470.out 1).trans rfl; have hcz20_2 : w18.cell? ⟨gb470, 2, none⟩ = some (.slice A0_2 l0_2.length c0_2) := (bkC BK470.out 2).trans rfl; have hfz20_0 := bkF BK470.out 0; have hfz20_1 := bkF BK470.out 1; have hfz20_2 := bkF BK470.out 2) | ((with_reducible refine gtc (f := 28) rfl ?_); refine goesL_ (some 10) rfl rfl Tryd.func28 (by kernel_rfl) rfl #[.agg #[.int .i64 a0_0, .int .i64 a0_1, .slice A0_2 l0_2.length c0_2], .int .i64 a1] rfl (by (try simp only [List.map_toArray, List.map_cons, List.map_nil]); first | done | rfl | (simp only [List.length_drop, List.length_take]; rfl)) ?_; (with_reducible refine (r11_Term.calls k a0_0 a0_1 _ _ l0_2 a1 t472 true _ ?side1 ?side2 ?side3 A3.out).mono ?_); (case side1 => exact hG.below (by repeat (first | (with_reducible first | exact HB.out | apply pbA | apply pbN | apply pb1 | refine pbS ?_ GE470.out | refine pbS ?_ GE471.out) | exact HB.out))); (case side2 => repeat (first | exact (Kd.V_reads' HO0_2.out).2.2 | (with_reducible refine Kd.C_alloc ?_ _) | (with_reducible refine Kd.C_drewN ?_ _) | (with_reducible refine Kd.C_drew ?_))); (case side3 => exact (Kd.V_reads' HO0_2.out).2.1); rintro e w21 ⟨rfl, hb⟩; refine ⟨_, rfl, ?_⟩; have n0_ := Az.mk (Kd.V_below (by (with_reducible repeat (first | apply Kd.V_alloc | apply Kd.V_drewN | apply Kd.V_drew)); exact HO0_2.out) hb); have n1_ := Az.mk (bkB (g := gb470) (o := .cells #[.int .i64 a0_0, .int .i64 a0_1, .slice A0_2 l0_2.length c0_2] 24 (0, 0)) (by (with_reducible repeat (first | refine bkN ?_ _ | refine bkD ?_ | refine bkA ?_ _)); exact BK470.out) hb); have n2_ := Az.mk (bkB (g := gb471) (o := .cells #[.int .i64 0, .int .i64 0, .slice none 0 0] 24 (0, 0)) (by (with_reducible repeat (first | refine bkN ?_ _ | refine bkD ?_ | refine bkA ?_ _)); exact BK471.out) hb); have n3_ := Az.mk (pbT (by repeat (first | (with_reducible first | exact HB.out | apply pbA | apply pbN | apply pb1 | refine pbS ?_ GE470.out | refine pbS ?_ GE471.out) | exact HB.out)) hb); clear HO0_2; clear BK470; clear BK471; clear HB; have HO0_2 := n0_; have BK470 := n1_; have BK471 := n2_; have HB := n3_; clear n0_ n1_ n2_ n3_; (try clear hb); (try clear hb2); (try clear hk); (try clear hi); have hcz22_0 : w21.cell? ⟨gb470, 0, none⟩ = some (.int .i64 a0_0) := (bkC BK470.out 0).trans rfl; have hcz22_1 : w21.cell? ⟨gb470, 1, none⟩ = some (.int .i64 a0_1) := (bkC BK470.out 1).trans rfl; have hcz22_2 : w21.cell? ⟨gb470, 2, none⟩ = some (.slice A0_2 l0_2.length c0_2) := (bkC BK470.out 2).trans rfl; have hfz22_0 := bkF BK470.out 0; have hfz22_1 := bkF BK470.out 1; have hfz22_2 := bkF BK470.out 2) | ((with_reducible refine gate_dst (N := 24) rfl ?_); refine Kd.R_lit k54 _ 54 ?hg (N := 24) ?hd (xs := ([] : List (S54))) (inner := []) (ok := fun _ => True) (okp := fun _ => True) ?hr ?hp (fun _ hk => hk) trivial (Below.refl _ _) (Nat.le_refl _) (by simp) ?_; (case hd => rfl); (case hg => rfl); (case hr => first | (go_simp; done) | (go_simp; rfl)); (case hp => exact (Reps.none _ _)); intro v475 w23 ho24 hb hg_ hnew_; clear hg_ hnew_; (first | rw [← Ny474.out] at ho24 | (simp only [Int.reduceToNat] at ho24; rw [← Ny474.out] at ho24)); have n0_ := Az.mk (Kd.V_elder' (by (with_reducible repeat (first | apply Kd.V_alloc | apply Kd.V_drewN | apply Kd.V_drew)); exact HO0_2.out) (Kd.R_base ho24) hb); have n1_ := Az.mk (Kd.R_lower (Kd.R_newM (M := fun k_ => (w.heap.size ≤ k_)) ho24 (pbZ (by repeat (first | (with_reducible first | exact HB.out | apply pbA | apply pbN | apply pb1 | refine pbS ?_ GE470.out | refine pbS ?_ GE471.out) | exact HB.out))) (fun k_ h_ => h_)) (pbZ (by repeat (first | (with_reducible first | exact HB.out | apply pbA | apply pbN | apply pb1 | refine pbS ?_ GE470.out | refine pbS ?_ GE471.out) | exact HB.out)))); have n2_ := Az.mk (bkB (g := gb470) (o := .cells #[.int .i64 a0_0, .int .i64 a0_1, .slice A0_2 l0_2.length c0_2] 24 (0, 0)) (by (with_reducible repeat (first | refine bkN ?_ _ | refine bkD ?_ | refine bkA ?_ _)); exact BK470.out) hb); have n3_ := Az.mk (bkB (g := gb471) (o := .cells #[.int .i64 0, .int .i64 0, .slice none 0 0] 24 (0, 0)) (by (with_reducible repeat (first | refine bkN ?_ _ | refine bkD ?_ | refine bkA ?_ _)); exact BK471.out) hb); have n4_ := Az.mk (pbT (by repeat (first | (with_reducible first | exact HB.out | apply pbA | apply pbN | apply pb1 | refine pbS ?_ GE470.out | refine pbS ?_ GE471.out) | exact HB.out)) hb); clear HO0_2; clear BK470; clear BK471; clear HB; have HO0_2 := n0_; have HO476 := n1_; have BK470 := n2_; have BK471 := n3_; have HB := n4_; clear n0_ n1_ n2_ n3_ n4_; clear hb ho24; have hcz25_0 : w23.cell? ⟨gb470, 0, none⟩ = some (.int .i64 a0_0) := (bkC BK470.out 0).trans rfl; have hcz25_1 : w23.cell? ⟨gb470, 1, none⟩ = some (.int .i64 a0_1) := (bkC BK470.out 1).trans rfl; have hcz25_2 : w23.cell? ⟨gb470, 2, none⟩ = some (.slice A0_2 l0_2.length c0_2) := (bkC BK470.out 2).trans rfl; have hfz25_0 := bkF BK470.out 0; have hfz25_1 := bkF BK470.out 1; have hfz25_2 := bkF BK470.out 2; have q26 : ((ji13) : Int) ≤ ((l0_2.length : Int) : Int) := of_decide_eq_true (by first | (with_reducible assumption) | assumption); obtain ⟨i026, hi026, _, hsz26, _⟩ := info_parts info54; have hroom26 : l0_2.length ≤ c0_2 := (Kd.V_reads' HO0_2.out).2.1; have hC26 : Kd.F k54 _ _ A0_2 l0_2.length l0_2 := (Kd.V_at (base := w.heap.size) HO0_2.out).2.2; have q026 : (0 : Int) ≤ ((ji13) : Int) := of_decide_eq_true (by first | (with_reducible assumption) | assumption); have hcut26 := cut_from (P := Tryd.prog) 22 54 .i64 Tryd.underlying22 hi026 2 hsz26 A0_2 l0_2.length c0_2 (ji13) q026 q26; have hr26 := Kd.F_cut (m := ((ji13) : Int).toNat) (c := c0_2) hC26 (by omega) hroom26; obtain ⟨A26, hA26⟩ : ∃ A1, A1 = (if c0_2 = ((ji13) : Int).toNat then A0_2 else (A0_2 : Option Addr).map (·.add (((ji13) : Int).toNat * 2))) := ⟨_, rfl⟩; obtain ⟨c26, hc26⟩ : ∃ c1, c1 = c0_2 - ((ji13) : Int).toNat := ⟨_, rfl⟩; have hy26 : y477.length = l0_2.length - ((ji13) : Int).toNat := (by rw [Ny477.out, List.length_drop] <;> omega); rw [show (l0_2).drop ((ji13) : Int).toNat = y477 from Ny477.out.symm] at hr26; replace hr26 : Kd.F k54 _ _ A26 y477.length y477 := (by rw [hA26]; exact hr26); rw [← hy26, ← hA26, ← hc26] at hcut26; have HO481 := Az.mk (show Kd.V k54 54 _ w.heap.size _ (.slice A26 y477.length c26) y477 from Kd.V_mk (by rw [hy26, hc26]; exact Nat.sub_le_sub_right hroom26 _) hr26); have HC481 := Az.mk (show y477.length ≤ c26 from by rw [hy26, hc26]; exact Nat.sub_le_sub_right hroom26 _); clear hr26 hC26 hroom26 hi026 hsz26 hc26; have KY26 := Az.mk hy26; have KA26 := Az.mk hA26; clear hy26 hA26; replace q26 := eq_true q26) | ((with_reducible refine gate_builtin (b := .append) (xs := #[.tmp 24, .tmp 31]) rfl ?_); at_builtin; refine Kd.R_append_rows k54 (w0 := w) w.heap.size rfl (.tmp 24) (.tmp 31) 22 54 (.agg #[(.int .i64 0), (.string ⟨#[]⟩)]) 24 rfl Tryd.underlying22 info54 rfl (by decide) (by omega) v475 y474 y477 _ _ _ (fun k_ => (w.heap.size ≤ k_)) (fun _ => False) rfl rfl ?aO ?aR (fun _ _ h => h) (fun _ h => h.elim) ?aF ?aB ?aS ?aL ?_; (case aR => repeat (first | exact (Kd.V_reads' HO481.out).2.2 | (with_reducible refine Kd.C_alloc ?_ _) | (with_reducible refine Kd.C_drewN ?_ _) | (with_reducible refine Kd.C_drew ?_))); (case aB => exact (by repeat (first | (with_reducible first | exact HB.out | apply pbA | apply pbN | apply pb1 | refine pbS ?_ GE470.out | refine pbS ?_ GE471.out) | exact HB.out))); (case aF => exact (fun k_ hk => (Nat.le_trans (pbZ (by repeat (first | (with_reducible first | exact HB.out | apply pbA | apply pbN | apply pb1 | refine pbS ?_ GE470.out | refine pbS ?_ GE471.out) | exact HB.out))) hk))); (case aO => exact (by (with_reducible repeat (first | apply Kd.R_alloc | apply Kd.R_drewN | apply Kd.R_drew)); exact Kd.R_mono HO476.out (fun _ hk => hk.1))); (case aS => exact (pbZ (by repeat (first | (with_reducible first | exact HB.out | apply pbA | apply pbN | apply pb1 | refine pbS ?_ GE470.out | refine pbS ?_ GE471.out) | exact HB.out)))); (case aL => have := LMc16.out; omega); intro v483 w27 ho hb hg hat; rw [← Ny482.out] at ho; have n0_ := Az.mk (Kd.V_afterv (ok := (fun k_ => (P0_2_ k_ ∨ w.heap.size ≤ k_) ∧ k_ ≠ gb470 ∧ k_ ≠ gb471)) (by (with_reducible repeat (first | apply Kd.V_alloc | apply Kd.V_drewN | apply Kd.V_drew)); exact Kd.V_mono HO0_2.out (fun _ hk => ⟨⟨hk.1.1.1, ⟨hk.1.1.2, hk.1.2⟩⟩, hk.2⟩)) hg hat); have n1_ := Az.mk (blk_grown (g := gb470) (o := .cells #[.int .i64 a0_0, .int .i64 a0_1, .slice A0_2 l0_2.length c0_2] 24 (0, 0)) (by (with_reducible repeat (first | refine bkN ?_ _ | refine bkD ?_ | refine bkA ?_ _)); exact BK470.out) hg (Kd.R_ne HO476.out BK470.out (by decide))); have n2_ := Az.mk (blk_grown (g := gb471) (o := .cells #[.int .i64 0, .int .i64 0, .slice none 0 0] 24 (0, 0)) (by (with_reducible repeat (first | refine bkN ?_ _ | refine bkD ?_ | refine bkA ?_ _)); exact BK471.out) hg (Kd.R_ne HO476.out BK471.out (by decide))); have n3_ := Az.mk (Kd.V_afterv (ok := (fun k_ => (P0_2_ k_ ∨ w.heap.size ≤ k_) ∧ k_ ≠ gb470 ∧ k_ ≠ gb471)) (by (with_reducible repeat (first | apply Kd.V_alloc | apply Kd.V_drewN | apply Kd.V_drew)); exact Kd.V_mono HO481.out (fun _ hk => ⟨⟨hk.1.1.1, ⟨hk.1.1.2, hk.1.2⟩⟩, hk.2⟩)) hg hat); have n4_ := Az.mk (hb); have n5_ := Az.mk (ho); clear HO0_2; clear BK470; clear BK471; clear HO481; clear HB; clear HO476; have HO0_2 := n0_; have BK470 := n1_; have BK471 := n2_; have HO481 := n3_; have HB := n4_; have HO484 := n5_; clear n0_ n1_ n2_ n3_ n4_ n5_; clear ho hb hg hat; obtain ⟨Ao28, co28, eo28⟩ := Kd.R_slice HO484.out; subst eo28; have hcz29_0 : w27.cell? ⟨gb471, 0, none⟩ = some (.int .i64 0) := (bkC BK471.out 0).trans rfl; have hcz29_1 : w27.cell? ⟨gb471, 1, none⟩ = some (.int .i64 0) := (bkC BK471.out 1).trans rfl; have hcz29_2 : w27.cell? ⟨gb471, 2, none⟩ = some (.slice none 0 0) := (bkC BK471.out 2).trans rfl; have hfz29_0 := bkF BK471.out 0; have hfz29_1 := bkF BK471.out 1; have hfz29_2 := bkF BK471.out 2))
            refine bodyPost_ret (results_cell_row rfl _ _ gb471 24 #[.int .i64 a1, .int .i64 t472, .slice Ao28 y482.length co28] (0, 0) _ rfl (by (with_reducible repeat (first | refine bkN ?_ _ | refine bkD ?_ | refine bkA ?_ _)); refine blk_put (cs := #[.int .i64 a1, .int .i64 t472, .slice none 0 0]) ?_ 2 _ rfl; (with_reducible repeat (first | refine bkN ?_ _ | refine bkD ?_ | refine bkA ?_ _)); refine blk_put (cs := #[.int .i64 a1, .int .i64 0, .slice none 0 0]) ?_ 1 _ rfl; (with_reducible repeat (first | refine bkN ?_ _ | refine bkD ?_ | refine bkA ?_ _)); refine blk_put (cs := #[.int .i64 0, .int .i64 0, .slice none 0 0]) ?_ 0 _ rfl; (with_reducible repeat (first | refine bkN ?_ _ | refine bkD ?_ | refine bkA ?_ _)); exact BK471.out) Tryd.underlying24 rfl (by kernel_rfl)) rfl ?_
            exact ⟨_, by first | rfl | (simp [errW_none, errW_some] <;> rfl) | (simp only [← hji13]; first | rfl | (simp [errW_none, errW_some] <;> rfl)) | (simp [*, errW_none, errW_some] <;> rfl), Kd.V_mono (Kd.R_V (by (with_reducible repeat (first | apply Kd.R_alloc | apply Kd.R_drewN | apply Kd.R_drew)); exact Kd.R_mono (Kd.R_far (p := ⟨gb471, 2, none⟩) (Kd.R_far (p := ⟨gb471, 1, none⟩) (Kd.R_far (p := ⟨gb471, 0, none⟩) (Kd.R_types HO484.out BK471.out (by decide)) (fun _ hk => hk.2) (.int .i64 a1)) (fun _ hk => hk.2) (.int .i64 t472)) (fun _ hk => hk.2) (.slice Ao28 y482.length co28)) (fun _ hk => hk.1))) (fun k_ hk => by first | exact ⟨(.inr (hk.1)), hk.2⟩ | exact (.inr (hk))), by repeat (first | (with_reducible first | exact HB.out | apply pbA | apply pbN | apply pb1 | refine pbS ?_ GE470.out | refine pbS ?_ GE471.out) | exact HB.out)⟩
          · rw [if_neg c16] at H
            exact absurd H (by simp)
        · rw [if_neg c15] at H
          exact absurd H (by simp)
      · rw [if_neg c14] at H
        exact absurd H (by simp)
  · replace c4 := Bool.eq_false_iff.mpr c4
    subst c4
    have H1 : (some (a0_0, a0_1, l0_2)) = some (r1, r2, r3) := by rw [if_neg (show ¬ (false = true) by decide)] at H; exact H
    clear H
    have H := H1
    clear H1
    simp only [Option.some.injEq, Prod.mk.injEq] at H
    obtain ⟨rfl, rfl, rfl⟩ := H
    go_enter Tryd.func32, Tryd.ntmps32
    go_wp2_with (first | ((with_reducible refine gate_dst (N := 2) rfl ?_); refine box_event ?hg (N := 2) ?hd (cs := #[.int .i64 a0_0, .int .i64 a0_1, .slice A0_2 l0_2.length c0_2]) (t := 24) ?hr ?_; (case hd => rfl); (case hg => rfl); (case hr => first | (go_simp; done) | (go_simp; rfl)); intro gb470 hg w30 hbox hb; have n0_ := Az.mk (Kd.V_below (Kd.V_elderB (by (with_reducible repeat (first | apply Kd.V_alloc | apply Kd.V_drewN | apply Kd.V_drew)); exact HO0_2.out) gb470 (Nat.le_of_eq hg.symm)) hb); have n1_ := Az.mk (pbT (by repeat (first | (with_reducible first | exact HB.out | apply pbA | apply pbN | apply pb1) | exact HB.out)) hb); have n2_ := Az.mk (hbox); have n3_ := Az.mk ((by rw [hg]; exact (pbZ (by repeat (first | (with_reducible first | exact HB.out | apply pbA | apply pbN | apply pb1) | exact HB.out))) : w.heap.size ≤ gb470)); have n4_ := Az.mk ((by rw [hg]; exact (pbZ (by repeat (first | (with_reducible first | exact HB.out | apply pbA | apply pbN | apply pb1) | exact HB.out))) : w.heap.size ≤ gb470)); clear HO0_2; clear HB; have HO0_2 := n0_; have HB := n1_; have BK470 := n2_; have GW470 := n3_; have GE470 := n4_; clear n0_ n1_ n2_ n3_ n4_; clear hb hbox hg) | ((with_reducible refine gate_dst (N := 4) rfl ?_); refine box_event ?hg (N := 4) ?hd (cs := #[.int .i64 0, .int .i64 0, .slice none 0 0]) (t := 24) ?hr ?_; (case hd => rfl); (case hg => rfl); (case hr => first | (go_simp; done) | (go_simp; rfl)); intro gb471 hg w31 hbox hb; have n0_ := Az.mk (Kd.V_below (Kd.V_elderB (by (with_reducible repeat (first | apply Kd.V_alloc | apply Kd.V_drewN | apply Kd.V_drew)); exact HO0_2.out) gb471 (Nat.le_of_eq hg.symm)) hb); have n1_ := Az.mk (bkB (g := gb470) (o := .cells #[.int .i64 a0_0, .int .i64 a0_1, .slice A0_2 l0_2.length c0_2] 24 (0, 0)) (by (with_reducible repeat (first | refine bkN ?_ _ | refine bkD ?_ | refine bkA ?_ _)); exact BK470.out) hb); have n2_ := Az.mk (pbT (by repeat (first | (with_reducible first | exact HB.out | apply pbA | apply pbN | apply pb1 | refine pbS ?_ GE470.out) | exact HB.out)) hb); have n3_ := Az.mk (hbox); have n4_ := Az.mk ((by rw [hg]; exact (pbZ (by repeat (first | (with_reducible first | exact HB.out | apply pbA | apply pbN | apply pb1 | refine pbS ?_ GE470.out) | exact HB.out))) : w.heap.size ≤ gb471)); have n5_ := Az.mk ((by rw [hg]; exact (pbZ (by repeat (first | (with_reducible first | exact HB.out | apply pbA | apply pbN | apply pb1 | refine pbS ?_ GE470.out) | exact HB.out))) : w.heap.size ≤ gb471)); have n6_ := Az.mk ((by rw [hg]; exact Nat.ne_of_lt (blk_lt (g := gb470) (o := .cells #[.int .i64 a0_0, .int .i64 a0_1, .slice A0_2 l0_2.length c0_2] 24 (0, 0)) (by (with_reducible repeat (first | refine bkN ?_ _ | refine bkD ?_ | refine bkA ?_ _)); exact BK470.out)) : gb470 ≠ gb471)); have n7_ := Az.mk ((by rw [hg]; exact Nat.ne_of_gt (blk_lt (g := gb470) (o := .cells #[.int .i64 a0_0, .int .i64 a0_1, .slice A0_2 l0_2.length c0_2] 24 (0, 0)) (by (with_reducible repeat (first | refine bkN ?_ _ | refine bkD ?_ | refine bkA ?_ _)); exact BK470.out)) : gb471 ≠ gb470)); clear HO0_2; clear BK470; clear HB; have HO0_2 := n0_; have BK470 := n1_; have HB := n2_; have BK471 := n3_; have GW471 := n4_; have GE471 := n5_; have NB470_471 := n6_; have NB471_470 := n7_; clear n0_ n1_ n2_ n3_ n4_ n5_ n6_ n7_; clear hb hbox hg; have hnb32 := NB470_471.out; have hnc32 := NB471_470.out; have hcz33_0 : w31.cell? ⟨gb470, 0, none⟩ = some (.int .i64 a0_0) := (bkC BK470.out 0).trans rfl; have hcz33_1 : w31.cell? ⟨gb470, 1, none⟩ = some (.int .i64 a0_1) := (bkC BK470.out 1).trans rfl; have hcz33_2 : w31.cell? ⟨gb470, 2, none⟩ = some (.slice A0_2 l0_2.length c0_2) := (bkC BK470.out 2).trans rfl; have hfz33_0 := bkF BK470.out 0; have hfz33_1 := bkF BK470.out 1; have hfz33_2 := bkF BK470.out 2) | ((with_reducible refine gtc (f := 28) rfl ?_); refine goesL_ (some 10) rfl rfl Tryd.func28 (by kernel_rfl) rfl #[.agg #[.int .i64 a0_0, .int .i64 a0_1, .slice A0_2 l0_2.length c0_2], .int .i64 a1] rfl (by (try simp only [List.map_toArray, List.map_cons, List.map_nil]); first | done | rfl | (simp only [List.length_drop, List.length_take]; rfl)) ?_; (with_reducible refine (r11_Term.calls k a0_0 a0_1 _ _ l0_2 a1 t472 false _ ?side1 ?side2 ?side3 A3.out).mono ?_); (case side1 => exact hG.below (by repeat (first | (with_reducible first | exact HB.out | apply pbA | apply pbN | apply pb1 | refine pbS ?_ GE470.out | refine pbS ?_ GE471.out) | exact HB.out))); (case side2 => repeat (first | exact (Kd.V_reads' HO0_2.out).2.2 | (with_reducible refine Kd.C_alloc ?_ _) | (with_reducible refine Kd.C_drewN ?_ _) | (with_reducible refine Kd.C_drew ?_))); (case side3 => exact (Kd.V_reads' HO0_2.out).2.1); rintro e w34 ⟨rfl, hb⟩; refine ⟨_, rfl, ?_⟩; have n0_ := Az.mk (Kd.V_below (by (with_reducible repeat (first | apply Kd.V_alloc | apply Kd.V_drewN | apply Kd.V_drew)); exact HO0_2.out) hb); have n1_ := Az.mk (bkB (g := gb470) (o := .cells #[.int .i64 a0_0, .int .i64 a0_1, .slice A0_2 l0_2.length c0_2] 24 (0, 0)) (by (with_reducible repeat (first | refine bkN ?_ _ | refine bkD ?_ | refine bkA ?_ _)); exact BK470.out) hb); have n2_ := Az.mk (bkB (g := gb471) (o := .cells #[.int .i64 0, .int .i64 0, .slice none 0 0] 24 (0, 0)) (by (with_reducible repeat (first | refine bkN ?_ _ | refine bkD ?_ | refine bkA ?_ _)); exact BK471.out) hb); have n3_ := Az.mk (pbT (by repeat (first | (with_reducible first | exact HB.out | apply pbA | apply pbN | apply pb1 | refine pbS ?_ GE470.out | refine pbS ?_ GE471.out) | exact HB.out)) hb); clear HO0_2; clear BK470; clear BK471; clear HB; have HO0_2 := n0_; have BK470 := n1_; have BK471 := n2_; have HB := n3_; clear n0_ n1_ n2_ n3_; (try clear hb); (try clear hb2); (try clear hk); (try clear hi); have hcz35_0 : w34.cell? ⟨gb470, 0, none⟩ = some (.int .i64 a0_0) := (bkC BK470.out 0).trans rfl; have hcz35_1 : w34.cell? ⟨gb470, 1, none⟩ = some (.int .i64 a0_1) := (bkC BK470.out 1).trans rfl; have hcz35_2 : w34.cell? ⟨gb470, 2, none⟩ = some (.slice A0_2 l0_2.length c0_2) := (bkC BK470.out 2).trans rfl; have hfz35_0 := bkF BK470.out 0; have hfz35_1 := bkF BK470.out 1; have hfz35_2 := bkF BK470.out 2; have hcz36_0 : w34.cell? ⟨gb471, 0, none⟩ = some (.int .i64 0) := (bkC BK471.out 0).trans rfl; have hcz36_1 : w34.cell? ⟨gb471, 1, none⟩ = some (.int .i64 0) := (bkC BK471.out 1).trans rfl; have hcz36_2 : w34.cell? ⟨gb471, 2, none⟩ = some (.slice none 0 0) := (bkC BK471.out 2).trans rfl; have hfz36_0 := bkF BK471.out 0; have hfz36_1 := bkF BK471.out 1; have hfz36_2 := bkF BK471.out 2))
    refine bodyPost_ret (results_cell_row rfl _ _ gb471 24 #[.int .i64 a0_0, .int .i64 a0_1, .slice A0_2 l0_2.length c0_2] (0, 0) _ rfl (by (with_reducible repeat (first | refine bkN ?_ _ | refine bkD ?_ | refine bkA ?_ _)); refine blk_put (cs := #[.int .i64 a0_0, .int .i64 a0_1, .slice none 0 0]) ?_ 2 _ rfl; (with_reducible repeat (first | refine bkN ?_ _ | refine bkD ?_ | refine bkA ?_ _)); refine blk_put (cs := #[.int .i64 a0_0, .int .i64 0, .slice none 0 0]) ?_ 1 _ rfl; (with_reducible repeat (first | refine bkN ?_ _ | refine bkD ?_ | refine bkA ?_ _)); refine blk_put (cs := #[.int .i64 0, .int .i64 0, .slice none 0 0]) ?_ 0 _ rfl; (with_reducible repeat (first | refine bkN ?_ _ | refine bkD ?_ | refine bkA ?_ _)); exact BK471.out) Tryd.underlying24 rfl (by kernel_rfl)) rfl ?_
    exact ⟨_, by first | rfl | (simp [errW_none, errW_some] <;> rfl) | (simp [*, errW_none, errW_some] <;> rfl), by (with_reducible repeat (first | apply Kd.V_alloc | apply Kd.V_drewN | apply Kd.V_drew)); exact Kd.V_mono (Kd.V_far (p := ⟨gb471, 2, none⟩) (Kd.V_far (p := ⟨gb471, 1, none⟩) (Kd.V_far (p := ⟨gb471, 0, none⟩) (Kd.V_mono HO0_2.out (fun k_ hk => (⟨hk, hk.2⟩ : _ ∧ k_ ≠ gb471))) (fun _ hk => hk.2) (.int .i64 a0_0)) (fun _ hk => hk.2) (.int .i64 a0_1)) (fun _ hk => hk.2) (.slice A0_2 l0_2.length c0_2)) (fun _ hk => hk.1.1.1), by repeat (first | (with_reducible first | exact HB.out | apply pbA | apply pbN | apply pb1 | refine pbS ?_ GE470.out | refine pbS ?_ GE471.out) | exact HB.out)⟩
end Go.Proofs.YtjpihfjgomoijaaDoor.P
end
section
-- Written by a program of this session (wip/tools/pr.py), over the kit's printer; functions named in the texts imported below are given by hand.
namespace Go.Proofs.YtjpihfjgomoijaaDoor.P
open Go.RowKit Go.Proofs.YtjpihfjgomoijaaDoor.K Go.Proofs.YtjpihfjgomoijaaDoorW.PrintWords Go.Proofs.YtjpihfjgomoijaaDoorW.PrintLast Go.Proofs.YtjpihfjgomoijaaDoorW.PrintMore
attribute [local go_sem] max2_int min2_int max_two min_two max_three min_three max_four min_four   -- for this text's walks alone
/-! ### r11_Merge: function 20 -/
mutual
def r11_Merge.j0 : Nat → Int → List (S54) → Bool → Int → Int → List (S54) → Option (Int × Int × (List (S54)) × Bool)
  | 0, _, _, _, _, _, _ => none
  | k + 1, x1, x3, x28, x323000, x323001, x323002 => if x28 = true then (some (x323000, x323001, x323002, false)) else (r11_Merge.l0 k x1 x3 0 x323000 x323001 x323002)
def r11_Merge.l0 : Nat → Int → List (S54) → Int → Int → Int → List (S54) → Option (Int × Int × (List (S54)) × Bool)
  | 0, _, _, _, _, _, _ => none
  | k + 1, x1, x3, x12, x323000, x323001, x323002 => if x12 < (x3.length : Int) then ((r11_Term.f k x323000 x323001 x323002 (wrap64 ((wrap64 (x1 + 1)) + x12))).bind fun bt326 => (if bt326.2 = true then (if 0 ≤ x12 then (if bt326.1 = ((rd_T54 x3 x12).f0) then (r11_Merge.l0 k x1 x3 (wrap64 (x12 + 1)) x323000 x323001 x323002) else ((some (([] : List (S54)) : List (S54))).bind fun y329 => (if 0 ≤ (wrap64 ((wrap64 ((wrap64 ((wrap64 (x1 + 1)) + x12)) - x323000)) - 1)) then (if (wrap64 ((wrap64 ((wrap64 ((wrap64 (x1 + 1)) + x12)) - x323000)) - 1)) ≤ (x323002.length : Int) then ((some (x323002.take ((wrap64 ((wrap64 ((wrap64 ((wrap64 (x1 + 1)) + x12)) - x323000)) - 1)) : Int).toNat : List (S54))).bind fun y332 => (if y329.length + y332.length < 5864062014805 then ((some (y329 ++ y332 : List (S54))).bind fun y337 => (if x12 ≤ (x3.length : Int) then ((some (x3.drop (x12 : Int).toNat : List (S54))).bind fun y340 => (if y337.length + y340.length < 5864062014805 then (some (x323000, x323001, (y337 ++ y340), true)) else (none))) else (none))) else (none))) else (none)) else (none)))) else (none)) else ((some (([] : List (S54)) : List (S54))).bind fun y347 => (if 0 ≤ (wrap64 ((wrap64 ((wrap64 ((wrap64 (x1 + 1)) + x12)) - x323000)) - 1)) then (if (wrap64 ((wrap64 ((wrap64 ((wrap64 (x1 + 1)) + x12)) - x323000)) - 1)) ≤ (x323002.length : Int) then ((some (x323002.take ((wrap64 ((wrap64 ((wrap64 ((wrap64 (x1 + 1)) + x12)) - x323000)) - 1)) : Int).toNat : List (S54))).bind fun y350 => (if y347.length + y350.length < 5864062014805 then ((some (y347 ++ y350 : List (S54))).bind fun y355 => (if 0 ≤ x12 then (if x12 ≤ (x3.length : Int) then ((some (x3.drop (x12 : Int).toNat : List (S54))).bind fun y358 => (if y355.length + y358.length < 5864062014805 then (some (x323000, x323001, (y355 ++ y358), true)) else (none))) else (none)) else (none))) else (none))) else (none)) else (none))))) else (some (x323000, x323001, x323002, true))
end
def r11_Merge.f (k : Nat) (a0_0 : Int) (a0_1 : Int) (l0_2 : List (S54)) (a1 : Int) (a2 : Int) (l3 : List (S54)) : Option (Int × Int × (List (S54)) × Bool) := (r11_Term.f k a0_0 a0_1 l0_2 a1).bind fun bt324 => (if bt324.2 = true then (r11_Merge.j0 k a1 l3 (bt324.1 != a2) a0_0 a0_1 l0_2) else (r11_Merge.j0 k a1 l3 true a0_0 a0_1 l0_2))
theorem r11_Merge.mono_l : ∀ k, (∀ y0 y1 y2 y3 y4 y5, LeO (r11_Merge.j0 k y0 y1 y2 y3 y4 y5) (r11_Merge.j0 (k + 1) y0 y1 y2 y3 y4 y5)) ∧ (∀ y0 y1 y2 y3 y4 y5, LeO (r11_Merge.l0 k y0 y1 y2 y3 y4 y5) (r11_Merge.l0 (k + 1) y0 y1 y2 y3 y4 y5))
  | 0 => ⟨fun _ _ _ _ _ _ r h => by simp [r11_Merge.j0] at h, fun _ _ _ _ _ _ r h => by simp [r11_Merge.l0] at h⟩
  | k + 1 => by
    obtain ⟨ih0, ih1⟩ := r11_Merge.mono_l k
    refine ⟨?_, ?_⟩
    · intro y0 y1 y2 y3 y4 y5
      unfold r11_Merge.j0
      repeat' first
      | (with_reducible exact ih0 _ _ _ _ _ _)
      | (with_reducible exact ih1 _ _ _ _ _ _)
      | (with_reducible exact r11_Term.mono _ _ _ _ _)
      | (with_reducible exact LeO.refl _)
      | (with_reducible exact LeO.none _)
      | (with_reducible refine LeO.ite ?_ ?_)
      | (with_reducible refine LeO.bind ?_ (fun _ => ?_))
      | exact ih0 _ _ _ _ _ _
      | exact ih1 _ _ _ _ _ _
      | exact r11_Term.mono _ _ _ _ _
      | exact LeO.none _
      | refine LeO.ite ?_ ?_
      | refine LeO.bind ?_ (fun _ => ?_)
    · intro y0 y1 y2 y3 y4 y5
      unfold r11_Merge.l0
      repeat' first
      | (with_reducible exact ih0 _ _ _ _ _ _)
      | (with_reducible exact ih1 _ _ _ _ _ _)
      | (with_reducible exact r11_Term.mono _ _ _ _ _)
      | (with_reducible exact LeO.refl _)
      | (with_reducible exact LeO.none _)
      | (with_reducible refine LeO.ite ?_ ?_)
      | (with_reducible refine LeO.bind ?_ (fun _ => ?_))
      | exact ih0 _ _ _ _ _ _
      | exact ih1 _ _ _ _ _ _
      | exact r11_Term.mono _ _ _ _ _
      | exact LeO.none _
      | refine LeO.ite ?_ ?_
      | refine LeO.bind ?_ (fun _ => ?_)
theorem r11_Merge.mono : ∀ a0 a1 a2 a3 a4 a5 k, LeO (r11_Merge.f k a0 a1 a2 a3 a4 a5) (r11_Merge.f (k + 1) a0 a1 a2 a3 a4 a5) := by
  intro a0 a1 a2 a3 a4 a5 k
  obtain ⟨ih0, ih1⟩ := r11_Merge.mono_l k
  unfold r11_Merge.f
  repeat' first
      | (with_reducible exact ih0 _ _ _ _ _ _)
      | (with_reducible exact ih1 _ _ _ _ _ _)
      | (with_reducible exact r11_Term.mono _ _ _ _ _)
      | (with_reducible exact LeO.refl _)
      | (with_reducible exact LeO.none _)
      | (with_reducible refine LeO.ite ?_ ?_)
      | (with_reducible refine LeO.bind ?_ (fun _ => ?_))
      | exact ih0 _ _ _ _ _ _
      | exact ih1 _ _ _ _ _ _
      | exact r11_Term.mono _ _ _ _ _
      | exact LeO.none _
      | refine LeO.ite ?_ ?_
      | refine LeO.bind ?_ (fun _ => ?_)
def r11_Merge.T10 : Bool × List (List Nat × List Nat) := (true, [([], []), ([], []), ([1], [1]), ([], []), ([], []), ([4], [4]), ([3, 5], [3, 5]), ([6], [6]), ([2, 7], [2, 7]), ([0, 8], [0, 8]), ([], []), ([], []), ([10, 11], [10, 11]), ([9, 12, 9], [9, 12]), ([0, 1, 2, 3, 4, 5, 6, 7, 8, 9, 10, 11, 12, 13], []), ([14, 13, 13, 0, 1, 2, 3, 4, 5, 6, 7, 8, 9, 10, 11, 12, 13], [13, 14])])
def r11_Merge.B10 : List Nat := [0, 0, 2, 0, 0, 16, 56, 120, 254, 511, 0, 0, 3072, 8191, 16383, 32767]
theorem r11_Merge.tab10 : rtab .any (opsOf Tryd.f20 10) = r11_Merge.T10 := by kernel_rfl
theorem r11_Merge.bits10 : waitsOk r11_Merge.T10.2 r11_Merge.B10 = true := by kernel_rfl
set_option maxHeartbeats 8000000 in
set_option maxRecDepth 100000 in
theorem r11_Merge.calls (k : Nat) (a0_0 : Int) (a0_1 : Int) (P0_2_ : Nat → Prop) (A0_2 : Option Addr) (c0_2 : Nat) (l0_2 : List (S54)) (a1 : Int) (a2 : Int) (A3 : Option Addr) (c3 : Nat) (l3 : List (S54)) (r1 : Int) (r2 : Int) (r3 : List (S54)) (r4 : Bool) (w : World) (hG : TheG w) (hs0_2 : Kd.V k54 54 w w.heap.size (fun k_ => P0_2_ k_) (.slice A0_2 l0_2.length c0_2) l0_2) (hr3 : Kd.C k54 w A3 l3.length l3) (hc3 : l3.length ≤ c3) (h : r11_Merge.f k a0_0 a0_1 l0_2 a1 a2 l3 = some (r1, r2, r3, r4)) :
    Calls Tryd.prog 20 #[.agg #[.int .i64 a0_0, .int .i64 a0_1, .slice A0_2 l0_2.length c0_2], .int .i64 a1, .int .i64 a2, .slice A3 l3.length c3] w fun e w' => ∃ v2_ : Value, e = .returned (.tuple #[.agg #[.int .i64 r1, .int .i64 r2, v2_], .bool r4]) ∧ Kd.V k54 54 w' w.heap.size (fun k_ => (P0_2_ k_ ∨ w.heap.size ≤ k_)) v2_ r3 ∧ Below w.heap.size w w' := by
  have hu24 := Tryd.underlying24
  have HO0_2 := Az.mk (show Kd.V k54 54 w w.heap.size (fun k_ => (P0_2_ k_ ∨ w.heap.size ≤ k_)) (.slice A0_2 l0_2.length c0_2) l0_2 from Kd.V_mono hs0_2 (fun k_ hk => .inl hk))
  have HR3 := Az.mk hr3
  have HC3 := Az.mk hc3
  clear hr3 hc3
  have HB := Az.mk (Below.refl w.heap.size w)
  have H : ((r11_Term.f k a0_0 a0_1 l0_2 a1).bind fun bt324 => (if bt324.2 = true then (r11_Merge.j0 k a1 l3 (bt324.1 != a2) a0_0 a0_1 l0_2) else (r11_Merge.j0 k a1 l3 true a0_0 a0_1 l0_2))) = some (r1, r2, r3, r4) := h
  clear h
  replace H := Option.bind_eq_some_iff.mp H
  obtain ⟨⟨t324, t325⟩, A50, H⟩ := H
  replace H : (if t325 = true then (r11_Merge.j0 k a1 l3 (t324 != a2) a0_0 a0_1 l0_2) else (r11_Merge.j0 k a1 l3 true a0_0 a0_1 l0_2)) = some (r1, r2, r3, r4) := H
  have A5 := Az.mk A50
  clear A50
  have HC6 := Az.mk H
  clear H
  go_enter Tryd.func20, Tryd.ntmps20
  go_upto_region 2 with (first | ((with_reducible refine gate_dst (N := 4) rfl ?_); refine box_event ?hg (N := 4) ?hd (cs := #[.int .i64 a0_0, .int .i64 a0_1, .slice A0_2 l0_2.length c0_2]) (t := 24) ?hr ?_; (case hd => rfl); (case hg => rfl); (case hr => first | (go_simp; done) | (go_simp; rfl)); intro gb322 hg w7 hbox hb; have n0_ := Az.mk (Kd.V_below (Kd.V_elderB (by (with_reducible repeat (first | apply Kd.V_alloc | apply Kd.V_drewN | apply Kd.V_drew)); exact HO0_2.out) gb322 (Nat.le_of_eq hg.symm)) hb); have n1_ := Az.mk (pbT (by repeat (first | (with_reducible first | exact HB.out | apply pbA | apply pbN | apply pb1) | exact HB.out)) hb); have n2_ := Az.mk (hbox); have n3_ := Az.mk ((by rw [hg]; exact (pbZ (by repeat (first | (with_reducible first | exact HB.out | apply pbA | apply pbN | apply pb1) | exact HB.out))) : w.heap.size ≤ gb322)); have n4_ := Az.mk ((by rw [hg]; exact (pbZ (by repeat (first | (with_reducible first | exact HB.out | apply pbA | apply pbN | apply pb1) | exact HB.out))) : w.heap.size ≤ gb322)); clear HO0_2; clear HB; have HO0_2 := n0_; have HB := n1_; have BK322 := n2_; have GW322 := n3_; have GE322 := n4_; clear n0_ n1_ n2_ n3_ n4_; clear hb hbox hg) | ((with_reducible refine gate_dst (N := 8) rfl ?_); refine box_event ?hg (N := 8) ?hd (cs := #[.int .i64 0, .int .i64 0, .slice none 0 0]) (t := 24) ?hr ?_; (case hd => rfl); (case hg => rfl); (case hr => first | (go_simp; done) | (go_simp; rfl)); intro gb323 hg w8 hbox hb; have n0_ := Az.mk (Kd.V_below (Kd.V_elderB (by (with_reducible repeat (first | apply Kd.V_alloc | apply Kd.V_drewN | apply Kd.V_drew)); exact HO0_2.out) gb323 (Nat.le_of_eq hg.symm)) hb); have n1_ := Az.mk (bkB (g := gb322) (o := .cells #[.int .i64 a0_0, .int .i64 a0_1, .slice A0_2 l0_2.length c0_2] 24 (0, 0)) (by (with_reducible repeat (first | refine bkN ?_ _ | refine bkD ?_ | refine bkA ?_ _)); exact BK322.out) hb); have n2_ := Az.mk (pbT (by repeat (first | (with_reducible first | exact HB.out | apply pbA | apply pbN | apply pb1 | refine pbS ?_ GE322.out) | exact HB.out)) hb); have n3_ := Az.mk (hbox); have n4_ := Az.mk ((by rw [hg]; exact (pbZ (by repeat (first | (with_reducible first | exact HB.out | apply pbA | apply pbN | apply pb1 | refine pbS ?_ GE322.out) | exact HB.out))) : w.heap.size ≤ gb323)); have n5_ := Az.mk ((by rw [hg]; exact (pbZ (by repeat (first | (with_reducible first | exact HB.out | apply pbA | apply pbN | apply pb1 | refine pbS ?_ GE322.out) | exact HB.out))) : w.heap.size ≤ gb323)); have n6_ := Az.mk ((by rw [hg]; exact Nat.ne_of_lt (blk_lt (g := gb322) (o := .cells #[.int .i64 a0_0, .int .i64 a0_1, .slice A0_2 l0_2.length c0_2] 24 (0, 0)) (by (with_reducible repeat (first | refine bkN ?_ _ | refine bkD ?_ | refine bkA ?_ _)); exact BK322.out)) : gb322 ≠ gb323)); have n7_ := Az.mk ((by rw [hg]; exact Nat.ne_of_gt (blk_lt (g := gb322) (o := .cells #[.int .i64 a0_0, .int .i64 a0_1, .slice A0_2 l0_2.length c0_2] 24 (0, 0)) (by (with_reducible repeat (first | refine bkN ?_ _ | refine bkD ?_ | refine bkA ?_ _)); exact BK322.out)) : gb323 ≠ gb322)); clear HO0_2; clear BK322; clear HB; have HO0_2 := n0_; have BK322 := n1_; have HB := n2_; have BK323 := n3_; have GW323 := n4_; have GE323 := n5_; have NB322_323 := n6_; have NB323_322 := n7_; clear n0_ n1_ n2_ n3_ n4_ n5_ n6_ n7_; clear hb hbox hg; have hnb9 := NB322_323.out; have hnc9 := NB323_322.out; have hcz10_0 : w8.cell? ⟨gb322, 0, none⟩ = some (.int .i64 a0_0) := (bkC BK322.out 0).trans rfl; have hcz10_1 : w8.cell? ⟨gb322, 1, none⟩ = some (.int .i64 a0_1) := (bkC BK322.out 1).trans rfl; have hcz10_2 : w8.cell? ⟨gb322, 2, none⟩ = some (.slice A0_2 l0_2.length c0_2) := (bkC BK322.out 2).trans rfl; have hfz10_0 := bkF BK322.out 0; have hfz10_1 := bkF BK322.out 1; have hfz10_2 := bkF BK322.out 2) | ((with_reducible refine gtc (f := 28) rfl ?_); refine goesL_ (some 19) rfl rfl Tryd.func28 (by kernel_rfl) rfl #[.agg #[.int .i64 a0_0, .int .i64 a0_1, .slice A0_2 l0_2.length c0_2], .int .i64 a1] rfl (by (try simp only [List.map_toArray, List.map_cons, List.map_nil]); first | done | rfl | (simp only [List.length_drop, List.length_take]; rfl)) ?_; (with_reducible refine (r11_Term.calls k a0_0 a0_1 _ _ l0_2 a1 t324 t325 _ ?side1 ?side2 ?side3 A5.out).mono ?_); (case side1 => exact hG.below (by repeat (first | (with_reducible first | exact HB.out | apply pbA | apply pbN | apply pb1 | refine pbS ?_ GE322.out | refine pbS ?_ GE323.out) | exact HB.out))); (case side2 => repeat (first | exact (Kd.V_reads' HO0_2.out).2.2 | (with_reducible refine Kd.C_alloc ?_ _) | (with_reducible refine Kd.C_drewN ?_ _) | (with_reducible refine Kd.C_drew ?_))); (case side3 => exact (Kd.V_reads' HO0_2.out).2.1); rintro e w11 ⟨rfl, hb⟩; refine ⟨_, rfl, ?_⟩; have n0_ := Az.mk (Kd.V_below (by (with_reducible repeat (first | apply Kd.V_alloc | apply Kd.V_drewN | apply Kd.V_drew)); exact HO0_2.out) hb); have n1_ := Az.mk (bkB (g := gb322) (o := .cells #[.int .i64 a0_0, .int .i64 a0_1, .slice A0_2 l0_2.length c0_2] 24 (0, 0)) (by (with_reducible repeat (first | refine bkN ?_ _ | refine bkD ?_ | refine bkA ?_ _)); exact BK322.out) hb); have n2_ := Az.mk (bkB (g := gb323) (o := .cells #[.int .i64 0, .int .i64 0, .slice none 0 0] 24 (0, 0)) (by (with_reducible repeat (first | refine bkN ?_ _ | refine bkD ?_ | refine bkA ?_ _)); exact BK323.out) hb); have n3_ := Az.mk (pbT (by repeat (first | (with_reducible first | exact HB.out | apply pbA | apply pbN | apply pb1 | refine pbS ?_ GE322.out | refine pbS ?_ GE323.out) | exact HB.out)) hb); clear HO0_2; clear BK322; clear BK323; clear HB; have HO0_2 := n0_; have BK322 := n1_; have BK323 := n2_; have HB := n3_; clear n0_ n1_ n2_ n3_; (try clear hb); (try clear hb2); (try clear hk); (try clear hi)))
  (try simp only [Act.put, List.setIfInBounds_toArray, List.set_cons_zero, List.set_cons_succ])
  go_cut [28] (fun v28 wc => ∃ (kq : Nat) (x28_5 : Bool), v28 = .bool x28_5 ∧ Az (r11_Merge.j0 kq a1 l3 x28_5 a0_0 a0_1 l0_2 = some (r1, r2, r3, r4)) ∧ Az (kq ≤ k) ∧ Az (Kd.V k54 54 wc w.heap.size (fun k_ => (P0_2_ k_ ∨ w.heap.size ≤ k_) ∧ k_ ≠ gb322 ∧ k_ ≠ gb323) (.slice A0_2 l0_2.length c0_2) l0_2) ∧ Az (wc.heap[gb322]? = some (.cells #[.int .i64 a0_0, .int .i64 a0_1, (.slice A0_2 l0_2.length c0_2)] 24 (0, 0))) ∧ Az (wc.heap[gb323]? = some (.cells #[.int .i64 0, .int .i64 0, (.slice none 0 0)] 24 (0, 0))) ∧ Az (Below w.heap.size w wc))
  case first =>
    have H := HC6.out
    clear HC6
    by_cases c12 : t325 = true
    · subst c12
      have H1 : (r11_Merge.j0 k a1 l3 (t324 != a2) a0_0 a0_1 l0_2) = some (r1, r2, r3, r4) := by rw [if_pos rfl] at H; exact H
      clear H
      have H := H1
      clear H1
      have H' := Az.mk H
      clear H
      go_wp2
      go_meet
      case rel => exact ⟨_, ((t324 != a2)), (by first | rfl | (simp; done) | (simp [*]; done)), H', ⟨by first | omega | exact Nat.le_refl _⟩, ⟨by (with_reducible repeat (first | apply Kd.V_alloc | apply Kd.V_drewN | apply Kd.V_drew)); exact Kd.V_mono HO0_2.out (fun _ hk => ⟨hk.1.1, ⟨hk.1.2, hk.2⟩⟩)⟩, ⟨by (with_reducible repeat (first | refine bkN ?_ _ | refine bkD ?_ | refine bkA ?_ _)); exact BK322.out⟩, ⟨by (with_reducible repeat (first | refine bkN ?_ _ | refine bkD ?_ | refine bkA ?_ _)); exact BK323.out⟩, ⟨by repeat (first | (with_reducible first | exact HB.out | apply pbA | apply pbN | apply pb1 | refine pbS ?_ GE322.out | refine pbS ?_ GE323.out) | exact HB.out)⟩⟩
    · replace c12 := Bool.eq_false_iff.mpr c12
      subst c12
      have H1 : (r11_Merge.j0 k a1 l3 true a0_0 a0_1 l0_2) = some (r1, r2, r3, r4) := by rw [if_neg (show ¬ (false = true) by decide)] at H; exact H
      clear H
      have H := H1
      clear H1
      have H' := Az.mk H
      clear H
      go_wp2
      go_meet
      case rel => exact ⟨_, (true), (by first | rfl | (simp; done) | (simp [*]; done)), H', ⟨by first | omega | exact Nat.le_refl _⟩, ⟨by (with_reducible repeat (first | apply Kd.V_alloc | apply Kd.V_drewN | apply Kd.V_drew)); exact Kd.V_mono HO0_2.out (fun _ hk => ⟨hk.1.1, ⟨hk.1.2, hk.2⟩⟩)⟩, ⟨by (with_reducible repeat (first | refine bkN ?_ _ | refine bkD ?_ | refine bkA ?_ _)); exact BK322.out⟩, ⟨by (with_reducible repeat (first | refine bkN ?_ _ | refine bkD ?_ | refine bkA ?_ _)); exact BK323.out⟩, ⟨by repeat (first | (with_reducible first | exact HB.out | apply pbA | apply pbN | apply pb1 | refine pbS ?_ GE322.out | refine pbS ?_ GE323.out) | exact HB.out)⟩⟩
  case rest =>
    clear HC6
    try clear c1
    try clear c2
    try clear p2
    try clear c3
    try clear c9
    try clear c12
    try clear hcz10_0
    try clear hcz10_1
    try clear hcz10_2
    try clear hfz10_0
    try clear hfz10_1
    try clear hfz10_2
    obtain ⟨kq, x28_5, rfl, HA, HJ5, HO_323002, BK322, BK323, HB⟩ := hcut
    cases kq with
    | zero => exact absurd HA.out (by simp [r11_Merge.j0])
    | succ kj5 =>
      have H := HA.out
      clear HA
      simp only [r11_Merge.j0] at H
      by_cases c13 : x28_5 = true
      · subst c13
        have H1 : (some (a0_0, a0_1, l0_2, false)) = some (r1, r2, r3, r4) := by rw [if_pos rfl] at H; exact H
        clear H
        have H := H1
        clear H1
        simp only [Option.some.injEq, Prod.mk.injEq] at H
        obtain ⟨rfl, rfl, rfl, rfl⟩ := H
        have hnb14 := NB322_323.out
        have hnc14 := NB323_322.out
        have hcz15_0 : wc.cell? ⟨gb322, 0, none⟩ = some (.int .i64 a0_0) := (bkC BK322.out 0).trans rfl
        have hcz15_1 : wc.cell? ⟨gb322, 1, none⟩ = some (.int .i64 a0_1) := (bkC BK322.out 1).trans rfl
        have hcz15_2 : wc.cell? ⟨gb322, 2, none⟩ = some (.slice A0_2 l0_2.length c0_2) := (bkC BK322.out 2).trans rfl
        have hfz15_0 := bkF BK322.out 0
        have hfz15_1 := bkF BK322.out 1
        have hfz15_2 := bkF BK322.out 2
        have hcz16_0 : wc.cell? ⟨gb323, 0, none⟩ = some (.int .i64 0) := (bkC BK323.out 0).trans rfl
        have hcz16_1 : wc.cell? ⟨gb323, 1, none⟩ = some (.int .i64 0) := (bkC BK323.out 1).trans rfl
        have hcz16_2 : wc.cell? ⟨gb323, 2, none⟩ = some (.slice none 0 0) := (bkC BK323.out 2).trans rfl
        have hfz16_0 := bkF BK323.out 0
        have hfz16_1 := bkF BK323.out 1
        have hfz16_2 := bkF BK323.out 2
        go_wp2
        refine bodyPost_ret (results_ct rfl _ _ gb323 24 #[.int .i64 a0_0, .int .i64 a0_1, .slice A0_2 l0_2.length c0_2] (0, 0) _ rfl (by (with_reducible repeat (first | refine bkN ?_ _ | refine bkD ?_ | refine bkA ?_ _)); refine blk_put (cs := #[.int .i64 a0_0, .int .i64 a0_1, .slice none 0 0]) ?_ 2 _ rfl; (with_reducible repeat (first | refine bkN ?_ _ | refine bkD ?_ | refine bkA ?_ _)); refine blk_put (cs := #[.int .i64 a0_0, .int .i64 0, .slice none 0 0]) ?_ 1 _ rfl; (with_reducible repeat (first | refine bkN ?_ _ | refine bkD ?_ | refine bkA ?_ _)); refine blk_put (cs := #[.int .i64 0, .int .i64 0, .slice none 0 0]) ?_ 0 _ rfl; (with_reducible repeat (first | refine bkN ?_ _ | refine bkD ?_ | refine bkA ?_ _)); exact BK323.out) Tryd.underlying24 rfl (by kernel_rfl)) rfl ?_
        exact ⟨_, by first | rfl | (simp [errW_none, errW_some] <;> rfl) | (simp [*, errW_none, errW_some] <;> rfl), by (with_reducible repeat (first | apply Kd.V_alloc | apply Kd.V_drewN | apply Kd.V_drew)); exact Kd.V_mono (Kd.V_far (p := ⟨gb323, 2, none⟩) (Kd.V_far (p := ⟨gb323, 1, none⟩) (Kd.V_far (p := ⟨gb323, 0, none⟩) (Kd.V_mono HO_323002.out (fun k_ hk => (⟨hk, hk.2.2⟩ : _ ∧ k_ ≠ gb323))) (fun _ hk => hk.2) (.int .i64 a0_0)) (fun _ hk => hk.2) (.int .i64 a0_1)) (fun _ hk => hk.2) (.slice A0_2 l0_2.length c0_2)) (fun _ hk => hk.1.1), by repeat (first | (with_reducible first | exact HB.out | apply pbA | apply pbN | apply pb1 | refine pbS ?_ GE322.out | refine pbS ?_ GE323.out) | exact HB.out)⟩
      · replace c13 := Bool.eq_false_iff.mpr c13
        subst c13
        have H1 : (r11_Merge.l0 kj5 a1 l3 0 a0_0 a0_1 l0_2) = some (r1, r2, r3, r4) := by rw [if_neg (show ¬ (false = true) by decide)] at H; exact H
        clear H
        have H := H1
        clear H1
        have H' := Az.mk H
        clear H
        go_wp2
        go_loopg [12] kj5 (fun kq v12 w' => ∃ (x12_2 : Int) (x323002_2 : List (S54)) (x324000_2 : Int) (x324001_2 : Int) (u323002 : Value), v12 = .int .i64 x12_2 ∧ Az (r11_Merge.l0 kq a1 l3 x12_2 a0_0 a0_1 x323002_2 = some (r1, r2, r3, r4)) ∧ Az (kq ≤ kj5) ∧ Az (Kd.V k54 54 w' w.heap.size (fun k_ => (P0_2_ k_ ∨ w.heap.size ≤ k_) ∧ k_ ≠ gb322 ∧ k_ ≠ gb323) u323002 x323002_2) ∧ Az (w'.heap[gb322]? = some (.cells #[.int .i64 a0_0, .int .i64 a0_1, u323002] 24 (0, 0))) ∧ Az (w'.heap[gb323]? = some (.cells #[.int .i64 x324000_2, .int .i64 x324001_2, (.slice none 0 0)] 24 (0, 0))) ∧ Az (Below w.heap.size w w'))
        case atStart => exact ⟨(0), (l0_2), (0), (0), (.slice A0_2 l0_2.length c0_2), (by first | rfl | (simp; done) | (simp [*]; done)), H', ⟨Nat.le_refl _⟩, ⟨by (with_reducible repeat (first | apply Kd.V_alloc | apply Kd.V_drewN | apply Kd.V_drew)); exact HO_323002.out⟩, ⟨by (with_reducible repeat (first | refine bkN ?_ _ | refine bkD ?_ | refine bkA ?_ _)); exact BK322.out⟩, ⟨by (with_reducible repeat (first | refine bkN ?_ _ | refine bkD ?_ | refine bkA ?_ _)); exact BK323.out⟩, ⟨by repeat (first | (with_reducible first | exact HB.out | apply pbA | apply pbN | apply pb1 | refine pbS ?_ GE322.out | refine pbS ?_ GE323.out) | exact HB.out)⟩⟩
        case round =>
          clear H'
          try clear c1
          try clear c2
          try clear p2
          try clear c3
          try clear c9
          try clear c12
          try clear c13
          try clear c14
          try clear hcz10_0
          try clear hcz10_1
          try clear hcz10_2
          try clear hcz15_0
          try clear hcz15_1
          try clear hcz15_2
          try clear hcz16_0
          try clear hcz16_1
          try clear hcz16_2
          try clear hfz10_0
          try clear hfz10_1
          try clear hfz10_2
          try clear hfz15_0
          try clear hfz15_1
          try clear hfz15_2
          try clear hfz16_0
          try clear hfz16_1
          try clear hfz16_2
          try clear p2
          obtain ⟨x12_2, x323002_2, x324000_2, x324001_2, u323002, rfl, HA, HK2, HO_323002, BK322, BK323, HB⟩ := hrel
          cases gk with
          | zero => exact absurd HA.out (by simp [r11_Merge.l0])
          | succ k2 =>
            have H := HA.out
            clear HA
            simp only [r11_Merge.l0] at H
            by_cases c17 : x12_2 < (l3.length : Int)
            · rw [if_pos c17] at H
              have c17b0 : decide (x12_2 < (l3.length : Int)) = true := decide_eq_true c17
              clear c17
              replace H := Option.bind_eq_some_iff.mp H
              obtain ⟨⟨t326, t327⟩, A180, H⟩ := H
              replace H : (if t327 = true then (if 0 ≤ x12_2 then (if t326 = ((rd_T54 l3 x12_2).f0) then (r11_Merge.l0 k2 a1 l3 (wrap64 (x12_2 + 1)) a0_0 a0_1 x323002_2) else ((some (([] : List (S54)) : List (S54))).bind fun y329 => (if 0 ≤ (wrap64 ((wrap64 ((wrap64 ((wrap64 (a1 + 1)) + x12_2)) - a0_0)) - 1)) then (if (wrap64 ((wrap64 ((wrap64 ((wrap64 (a1 + 1)) + x12_2)) - a0_0)) - 1)) ≤ (x323002_2.length : Int) then ((some (x323002_2.take ((wrap64 ((wrap64 ((wrap64 ((wrap64 (a1 + 1)) + x12_2)) - a0_0)) - 1)) : Int).toNat : List (S54))).bind fun y332 => (if y329.length + y332.length < 5864062014805 then ((some (y329 ++ y332 : List (S54))).bind fun y337 => (if x12_2 ≤ (l3.length : Int) then ((some (l3.drop (x12_2 : Int).toNat : List (S54))).bind fun y340 => (if y337.length + y340.length < 5864062014805 then (some (a0_0, a0_1, (y337 ++ y340), true)) else (none))) else (none))) else (none))) else (none)) else (none)))) else (none)) else ((some (([] : List (S54)) : List (S54))).bind fun y347 => (if 0 ≤ (wrap64 ((wrap64 ((wrap64 ((wrap64 (a1 + 1)) + x12_2)) - a0_0)) - 1)) then (if (wrap64 ((wrap64 ((wrap64 ((wrap64 (a1 + 1)) + x12_2)) - a0_0)) - 1)) ≤ (x323002_2.length : Int) then ((some (x323002_2.take ((wrap64 ((wrap64 ((wrap64 ((wrap64 (a1 + 1)) + x12_2)) - a0_0)) - 1)) : Int).toNat : List (S54))).bind fun y350 => (if y347.length + y350.length < 5864062014805 then ((some (y347 ++ y350 : List (S54))).bind fun y355 => (if 0 ≤ x12_2 then (if x12_2 ≤ (l3.length : Int) then ((some (l3.drop (x12_2 : Int).toNat : List (S54))).bind fun y358 => (if y355.length + y358.length < 5864062014805 then (some (a0_0, a0_1, (y355 ++ y358), true)) else (none))) else (none)) else (none))) else (none))) else (none)) else (none)))) = some (r1, r2, r3, r4) := H
              have A18 := Az.mk A180
              clear A180
              by_cases c19 : t327 = true
              · subst c19
                have H1 : (if 0 ≤ x12_2 then (if t326 = ((rd_T54 l3 x12_2).f0) then (r11_Merge.l0 k2 a1 l3 (wrap64 (x12_2 + 1)) a0_0 a0_1 x323002_2) else ((some (([] : List (S54)) : List (S54))).bind fun y329 => (if 0 ≤ (wrap64 ((wrap64 ((wrap64 ((wrap64 (a1 + 1)) + x12_2)) - a0_0)) - 1)) then (if (wrap64 ((wrap64 ((wrap64 ((wrap64 (a1 + 1)) + x12_2)) - a0_0)) - 1)) ≤ (x323002_2.length : Int) then ((some (x323002_2.take ((wrap64 ((wrap64 ((wrap64 ((wrap64 (a1 + 1)) + x12_2)) - a0_0)) - 1)) : Int).toNat : List (S54))).bind fun y332 => (if y329.length + y332.length < 5864062014805 then ((some (y329 ++ y332 : List (S54))).bind fun y337 => (if x12_2 ≤ (l3.length : Int) then ((some (l3.drop (x12_2 : Int).toNat : List (S54))).bind fun y340 => (if y337.length + y340.length < 5864062014805 then (some (a0_0, a0_1, (y337 ++ y340), true)) else (none))) else (none))) else (none))) else (none)) else (none)))) else (none)) = some (r1, r2, r3, r4) := by rw [if_pos rfl] at H; exact H
                clear H
                have H := H1
                clear H1
                by_cases c20 : 0 ≤ x12_2
                · rw [if_pos c20] at H
                  have c20b0 : decide (0 ≤ x12_2) = true := decide_eq_true c20
                  clear c20
                  by_cases c21 : t326 = ((rd_T54 l3 x12_2).f0)
                  · rw [if_pos c21] at H
                    have c21b0 : (t326 == ((rd_T54 l3 x12_2).f0)) = true := beq_iff_eq.mpr c21
                    have c21b1 : (t326 != ((rd_T54 l3 x12_2).f0)) = false := bne_eq_false_iff_eq.mpr c21
                    clear c21
                    have H' := Az.mk H
                    clear H
                    have hnb22 := NB322_323.out
                    have hnc22 := NB323_322.out
                    have hcz23_0 : wr.cell? ⟨gb322, 0, none⟩ = some (.int .i64 a0_0) := (bkC BK322.out 0).trans rfl
                    have hcz23_1 : wr.cell? ⟨gb322, 1, none⟩ = some (.int .i64 a0_1) := (bkC BK322.out 1).trans rfl
                    have hcz23_2 : wr.cell? ⟨gb322, 2, none⟩ = some (u323002) := (bkC BK322.out 2).trans rfl
                    have hfz23_0 := bkF BK322.out 0
                    have hfz23_1 := bkF BK322.out 1
                    have hfz23_2 := bkF BK322.out 2
                    obtain ⟨Ao24, co24, eo24⟩ := Kd.V_slice HO_323002.out
                    subst eo24
                    go_wp2_with (first | ((with_reducible refine gtc (f := 28) rfl ?_); refine goesL_ (some 43) rfl rfl Tryd.func28 (by kernel_rfl) rfl #[.agg #[.int .i64 a0_0, .int .i64 a0_1, .slice Ao24 x323002_2.length co24], .int .i64 (wrap64 ((wrap64 (a1 + 1)) + x12_2))] rfl (by (try simp only [List.map_toArray, List.map_cons, List.map_nil]); first | done | rfl | (simp only [List.length_drop, List.length_take]; rfl)) ?_; (with_reducible refine (r11_Term.calls k2 a0_0 a0_1 _ _ x323002_2 (wrap64 ((wrap64 (a1 + 1)) + x12_2)) t326 true _ ?side1 ?side2 ?side3 A18.out).mono ?_); (case side1 => exact hG.below (by repeat (first | (with_reducible first | exact HB.out | apply pbA | apply pbN | apply pb1 | refine pbS ?_ GE322.out | refine pbS ?_ GE323.out) | exact HB.out))); (case side2 => repeat (first | exact (Kd.V_reads' HO_323002.out).2.2 | (with_reducible refine Kd.C_alloc ?_ _) | (with_reducible refine Kd.C_drewN ?_ _) | (with_reducible refine Kd.C_drew ?_))); (case side3 => exact (Kd.V_reads' HO_323002.out).2.1); rintro e w25 ⟨rfl, hb⟩; refine ⟨_, rfl, ?_⟩; have n0_ := Az.mk (Kd.V_below (by (with_reducible repeat (first | apply Kd.V_alloc | apply Kd.V_drewN | apply Kd.V_drew)); exact HO_323002.out) hb); have n1_ := Az.mk (bkB (g := gb322) (o := .cells #[.int .i64 a0_0, .int .i64 a0_1, .slice Ao24 x323002_2.length co24] 24 (0, 0)) (by (with_reducible repeat (first | refine bkN ?_ _ | refine bkD ?_ | refine bkA ?_ _)); exact BK322.out) hb); have n2_ := Az.mk (bkB (g := gb323) (o := .cells #[.int .i64 x324000_2, .int .i64 x324001_2, .slice none 0 0] 24 (0, 0)) (by (with_reducible repeat (first | refine bkN ?_ _ | refine bkD ?_ | refine bkA ?_ _)); exact BK323.out) hb); have n3_ := Az.mk (pbT (by repeat (first | (with_reducible first | exact HB.out | apply pbA | apply pbN | apply pb1 | refine pbS ?_ GE322.out | refine pbS ?_ GE323.out) | exact HB.out)) hb); clear HO_323002; clear BK322; clear BK323; clear HB; have HO_323002 := n0_; have BK322 := n1_; have BK323 := n2_; have HB := n3_; clear n0_ n1_ n2_ n3_; (try clear hb); (try clear hb2); (try clear hk); (try clear hi); have p328 : 0 ≤ (x12_2 : Int) := of_decide_eq_true (by first | (with_reducible assumption) | assumption); have q328 : x12_2 < (l3.length : Int) := of_decide_eq_true (by first | (with_reducible assumption) | assumption); obtain ⟨ad328, e328, hx328_0, hx328_1⟩ := at_T54 HR3.out x12_2 p328 q328; cases e328; replace hx328_0 := (HB.out.cell (World.block_lt_of_cell? w _ hx328_0)).trans hx328_0; replace hx328_1 := (HB.out.cell (World.block_lt_of_cell? w _ hx328_1)).trans hx328_1; replace p328 := eq_true p328; replace q328 := eq_true q328))
                    go_roundg k2
                    case measure => have := HJ5.out; have := HK2.out; omega
                    case rel => exact ⟨(wrap64 (x12_2 + 1)), (x323002_2), (x324000_2), (x324001_2), (.slice Ao24 x323002_2.length co24), (by first | rfl | (simp; done) | (simp [*]; done)), H', ⟨by have := HJ5.out; have := HK2.out; omega⟩, ⟨by (with_reducible repeat (first | apply Kd.V_alloc | apply Kd.V_drewN | apply Kd.V_drew)); exact HO_323002.out⟩, ⟨by (with_reducible repeat (first | refine bkN ?_ _ | refine bkD ?_ | refine bkA ?_ _)); exact BK322.out⟩, ⟨by (with_reducible repeat (first | refine bkN ?_ _ | refine bkD ?_ | refine bkA ?_ _)); exact BK323.out⟩, ⟨by repeat (first | (with_reducible first | exact HB.out | apply pbA | apply pbN | apply pb1 | refine pbS ?_ GE322.out | refine pbS ?_ GE323.out) | exact HB.out)⟩⟩
                  · rw [if_neg c21] at H
                    have c21b0 : (t326 == ((rd_T54 l3 x12_2).f0)) = false := beq_eq_false_iff_ne.mpr c21
                    have c21b1 : (t326 != ((rd_T54 l3 x12_2).f0)) = true := bne_iff_ne.mpr c21
                    obtain ⟨y329, hy329⟩ : ∃ y_ : List (S54), y_ = (([] : List (S54))) := ⟨_, rfl⟩
                    replace H : (if 0 ≤ (wrap64 ((wrap64 ((wrap64 ((wrap64 (a1 + 1)) + x12_2)) - a0_0)) - 1)) then (if (wrap64 ((wrap64 ((wrap64 ((wrap64 (a1 + 1)) + x12_2)) - a0_0)) - 1)) ≤ (x323002_2.length : Int) then ((some (x323002_2.take ((wrap64 ((wrap64 ((wrap64 ((wrap64 (a1 + 1)) + x12_2)) - a0_0)) - 1)) : Int).toNat : List (S54))).bind fun y332 => (if y329.length + y332.length < 5864062014805 then ((some (y329 ++ y332 : List (S54))).bind fun y337 => (if x12_2 ≤ (l3.length : Int) then ((some (l3.drop (x12_2 : Int).toNat : List (S54))).bind fun y340 => (if y337.length + y340.length < 5864062014805 then (some (a0_0, a0_1, (y337 ++ y340), true)) else (none))) else (none))) else (none))) else (none)) else (none)) = some (r1, r2, r3, r4) := by first | (rw [hy329]; with_reducible exact H) | (have H2_ := (Option.bind_some _ _).symm.trans H; rw [hy329]; with_reducible exact H2_) | (have H2_ := (Option.bind_some _ _).symm.trans H; with_reducible exact H2_) | with_reducible exact H | (rw [hy329]; exact H) | exact H
                    have Ny329 := Az.mk hy329
                    clear hy329
                    obtain ⟨ji26, hji26⟩ : ∃ j_ : Int, (wrap64 ((wrap64 ((wrap64 ((wrap64 (a1 + 1)) + x12_2)) - a0_0)) - 1)) = j_ := ⟨_, rfl⟩
                    replace H : (if 0 ≤ (ji26) then (if (ji26) ≤ (x323002_2.length : Int) then ((some (x323002_2.take ((ji26) : Int).toNat : List (S54))).bind fun y332 => (if y329.length + y332.length < 5864062014805 then ((some (y329 ++ y332 : List (S54))).bind fun y337 => (if x12_2 ≤ (l3.length : Int) then ((some (l3.drop (x12_2 : Int).toNat : List (S54))).bind fun y340 => (if y337.length + y340.length < 5864062014805 then (some (a0_0, a0_1, (y337 ++ y340), true)) else (none))) else (none))) else (none))) else (none)) else (none)) = some (r1, r2, r3, r4) := by first | (rw [hji26] at H; exact H) | (simp only [hji26] at H ⊢; exact H)
                    (try rw [hji26] at A18)
                    have hji26w : (IntKind.i64.wrap ((wrap64 ((wrap64 ((wrap64 (a1 + 1)) + x12_2)) - a0_0)) - 1)) = ji26 := (i64_w _).trans hji26
                    by_cases c27 : 0 ≤ (ji26)
                    · rw [if_pos c27] at H
                      have c27b0 := eq_true c27
                      have c27b1 : decide (0 ≤ (ji26)) = true := decide_eq_true c27
                      clear c27
                      by_cases c28 : (ji26) ≤ (x323002_2.length : Int)
                      · rw [if_pos c28] at H
                        have c28b0 := eq_true c28
                        have c28b1 : decide ((ji26) ≤ (x323002_2.length : Int)) = true := decide_eq_true c28
                        clear c28
                        obtain ⟨y332, hy332⟩ : ∃ y_ : List (S54), y_ = (x323002_2.take ((ji26) : Int).toNat) := ⟨_, rfl⟩
                        replace H : (if y329.length + y332.length < 5864062014805 then ((some (y329 ++ y332 : List (S54))).bind fun y337 => (if x12_2 ≤ (l3.length : Int) then ((some (l3.drop (x12_2 : Int).toNat : List (S54))).bind fun y340 => (if y337.length + y340.length < 5864062014805 then (some (a0_0, a0_1, (y337 ++ y340), true)) else (none))) else (none))) else (none)) = some (r1, r2, r3, r4) := by first | (rw [hy332]; with_reducible exact H) | (have H2_ := (Option.bind_some _ _).symm.trans H; rw [hy332]; with_reducible exact H2_) | (have H2_ := (Option.bind_some _ _).symm.trans H; with_reducible exact H2_) | with_reducible exact H | (rw [hy332]; exact H) | exact H
                        have Ny332 := Az.mk hy332
                        clear hy332
                        by_cases c29 : y329.length + y332.length < 5864062014805
                        · rw [if_pos c29] at H
                          have LMc29 := Az.mk c29
                          clear c29
                          obtain ⟨y337, hy337⟩ : ∃ y_ : List (S54), y_ = (y329 ++ y332) := ⟨_, rfl⟩
                          replace H : (if x12_2 ≤ (l3.length : Int) then ((some (l3.drop (x12_2 : Int).toNat : List (S54))).bind fun y340 => (if y337.length + y340.length < 5864062014805 then (some (a0_0, a0_1, (y337 ++ y340), true)) else (none))) else (none)) = some (r1, r2, r3, r4) := by first | (rw [hy337]; with_reducible exact H) | (have H2_ := (Option.bind_some _ _).symm.trans H; rw [hy337]; with_reducible exact H2_) | (have H2_ := (Option.bind_some _ _).symm.trans H; with_reducible exact H2_) | with_reducible exact H | (rw [hy337]; exact H) | exact H
                          have Ny337 := Az.mk hy337
                          clear hy337
                          have c30b0 := eq_true (of_decide_eq_true (by first | (with_reducible assumption) | assumption) : 0 ≤ x12_2)
                          by_cases c31 : x12_2 ≤ (l3.length : Int)
                          · rw [if_pos c31] at H
                            have c31b0 := eq_true c31
                            have c31b1 : decide (x12_2 ≤ (l3.length : Int)) = true := decide_eq_true c31
                            clear c31
                            obtain ⟨y340, hy340⟩ : ∃ y_ : List (S54), y_ = (l3.drop (x12_2 : Int).toNat) := ⟨_, rfl⟩
                            replace H : (if y337.length + y340.length < 5864062014805 then (some (a0_0, a0_1, (y337 ++ y340), true)) else (none)) = some (r1, r2, r3, r4) := by first | (rw [hy340]; with_reducible exact H) | (have H2_ := (Option.bind_some _ _).symm.trans H; rw [hy340]; with_reducible exact H2_) | (have H2_ := (Option.bind_some _ _).symm.trans H; with_reducible exact H2_) | with_reducible exact H | (rw [hy340]; exact H) | exact H
                            have Ny340 := Az.mk hy340
                            clear hy340
                            by_cases c32 : y337.length + y340.length < 5864062014805
                            · rw [if_pos c32] at H
                              have LMc32 := Az.mk c32
                              clear c32
                              obtain ⟨y344, hy344⟩ : ∃ y_ : List (S54), y_ = (y337 ++ y340) := ⟨_, rfl⟩
                              replace H : (some (a0_0, a0_1, y344, true)) = some (r1, r2, r3, r4) := by first | (rw [hy344]; with_reducible exact H) | (have H2_ := (Option.bind_some _ _).symm.trans H; rw [hy344]; with_reducible exact H2_) | (have H2_ := (Option.bind_some _ _).symm.trans H; with_reducible exact H2_) | with_reducible exact H | (rw [hy344]; exact H) | exact H
                              have Ny344 := Az.mk hy344
                              clear hy344
                              simp only [Option.some.injEq, Prod.mk.injEq] at H
                              obtain ⟨rfl, rfl, rfl, rfl⟩ := H
                              have hnb33 := NB322_323.out
                              have hnc33 := NB323_322.out
                              have hcz34_0 : wr.cell? ⟨gb322, 0, none⟩ = some (.int .i64 a0_0) := (bkC BK322.out 0).trans rfl
                              have hcz34_1 : wr.cell? ⟨gb322, 1, none⟩ = some (.int .i64 a0_1) := (bkC BK322.out 1).trans rfl
                              have hcz34_2 : wr.cell? ⟨gb322, 2, none⟩ = some (u323002) := (bkC BK322.out 2).trans rfl
                              have hfz34_0 := bkF BK322.out 0
                              have hfz34_1 := bkF BK322.out 1
                              have hfz34_2 := bkF BK322.out 2
                              obtain ⟨Ao35, co35, eo35⟩ := Kd.V_slice HO_323002.out
                              subst eo35
                              try go_wp2_with (first | ((with_reducible refine gtc (f := 28) rfl ?_); refine goesL_ (some 43) rfl rfl Tryd.func28 (by kernel_rfl) rfl #[.agg #[.int .i64 a0_0, .int .i64 a0_1, .slice Ao35 x323002_2.length co35], .int .i64 (wrap64 ((wrap64 (a1 + 1)) + x12_2))] rfl (by (try simp only [List.map_toArray, List.map_cons, List.map_nil]); first | done | rfl | (simp only [List.length_drop, List.length_take]; rfl)) ?_; (with_reducible refine (r11_Term.calls k2 a0_0 a0_1 _ _ x323002_2 (wrap64 ((wrap64 (a1 + 1)) + x12_2)) t326 true _ ?side1 ?side2 ?side3 A18.out).mono ?_); (case side1 => exact hG.below (by repeat (first | (with_reducible first | exact HB.out | apply pbA | apply pbN | apply pb1 | refine pbS ?_ GE322.out | refine pbS ?_ GE323.out) | exact HB.out))); (case side2 => repeat (first | exact (Kd.V_reads' HO_323002.out).2.2 | (with_reducible refine Kd.C_alloc ?_ _) | (with_reducible refine Kd.C_drewN ?_ _) | (with_reducible refine Kd.C_drew ?_))); (case side3 => exact (Kd.V_reads' HO_323002.out).2.1); rintro e w36 ⟨rfl, hb⟩; refine ⟨_, rfl, ?_⟩; have n0_ := Az.mk (Kd.V_below (by (with_reducible repeat (first | apply Kd.V_alloc | apply Kd.V_drewN | apply Kd.V_drew)); exact HO_323002.out) hb); have n1_ := Az.mk (bkB (g := gb322) (o := .cells #[.int .i64 a0_0, .int .i64 a0_1, .slice Ao35 x323002_2.length co35] 24 (0, 0)) (by (with_reducible repeat (first | refine bkN ?_ _ | refine bkD ?_ | refine bkA ?_ _)); exact BK322.out) hb); have n2_ := Az.mk (bkB (g := gb323) (o := .cells #[.int .i64 x324000_2, .int .i64 x324001_2, .slice none 0 0] 24 (0, 0)) (by (with_reducible repeat (first | refine bkN ?_ _ | refine bkD ?_ | refine bkA ?_ _)); exact BK323.out) hb); have n3_ := Az.mk (pbT (by repeat (first | (with_reducible first | exact HB.out | apply pbA | apply pbN | apply pb1 | refine pbS ?_ GE322.out | refine pbS ?_ GE323.out) | exact HB.out)) hb); clear HO_323002; clear BK322; clear BK323; clear HB; have HO_323002 := n0_; have BK322 := n1_; have BK323 := n2_; have HB := n3_; clear n0_ n1_ n2_ n3_; (try clear hb); (try clear hb2); (try clear hk); (try clear hi); have p328 : 0 ≤ (x12_2 : Int) := of_decide_eq_true (by first | (with_reducible assumption) | assumption); have q328 : x12_2 < (l3.length : Int) := of_decide_eq_true (by first | (with_reducible assumption) | assumption); obtain ⟨ad328, e328, hx328_0, hx328_1⟩ := at_T54 HR3.out x12_2 p328 q328; cases e328; replace hx328_0 := (HB.out.cell (World.block_lt_of_cell? w _ hx328_0)).trans hx328_0; replace hx328_1 := (HB.out.cell (World.block_lt_of_cell? w _ hx328_1)).trans hx328_1; replace p328 := eq_true p328; replace q328 := eq_true q328))
                              have n0_ := Az.mk (Kd.V_drew HO_323002.out)
                              have n1_ := Az.mk (bkD BK322.out)
                              have n2_ := Az.mk (bkD BK323.out)
                              have n3_ := Az.mk (pb1 HB.out)
                              clear HO_323002
                              clear BK322
                              clear BK323
                              clear HB
                              have HO_323002 := n0_
                              have BK322 := n1_
                              have BK323 := n2_
                              have HB := n3_
                              clear n0_ n1_ n2_ n3_
                              have q38 : ((ji26) : Int) ≤ ((x323002_2.length : Int) : Int) := of_decide_eq_true (by first | (with_reducible assumption) | assumption)
                              obtain ⟨i038, hi038, _, hsz38, _⟩ := info_parts info54
                              have hroom38 : x323002_2.length ≤ co35 := (Kd.V_reads' HO_323002.out).2.1
                              have hC38 : Kd.F k54 _ _ Ao35 x323002_2.length x323002_2 := (Kd.V_at (base := w.heap.size) HO_323002.out).2.2
                              have hcut38 := cut_to (P := Tryd.prog) 22 54 .i64 Tryd.underlying22 hi038 Ao35 x323002_2.length co35 (ji26) (of_decide_eq_true (by first | (with_reducible assumption) | assumption)) q38 hroom38
                              have hr38 := Kd.F_take (m := ((ji26) : Int).toNat) hC38 (by omega)
                              have hy38 : y332.length = ((ji26) : Int).toNat := (by rw [Ny332.out, List.length_take]; omega)
                              rw [← Ny332.out] at hr38
                              rw [← hy38] at hcut38
                              have HO336 := Az.mk (show Kd.V k54 54 _ w.heap.size _ (.slice Ao35 y332.length co35) y332 from Kd.V_mk (by omega) hr38)
                              have HC336 := Az.mk (show y332.length ≤ co35 from by omega)
                              clear hr38 hC38 hroom38 hi038 hsz38
                              have KY38 := Az.mk hy38
                              clear hy38
                              replace q38 := eq_true q38
                              have q39 : (x12_2 : Int) ≤ ((l3.length : Int) : Int) := of_decide_eq_true (by first | (with_reducible assumption) | assumption)
                              obtain ⟨i039, hi039, _, hsz39, _⟩ := info_parts info54
                              have hroom39 : l3.length ≤ c3 := HC3.out
                              have hC39 : Kd.C k54 _ (some ad328) l3.length l3 := HR3.out
                              have q039 : (0 : Int) ≤ (x12_2 : Int) := of_decide_eq_true (by first | (with_reducible assumption) | assumption)
                              have hcut39 := cut_from (P := Tryd.prog) 22 54 .i64 Tryd.underlying22 hi039 2 hsz39 (some ad328) l3.length c3 x12_2 q039 q39
                              have hr39 := Kd.C_drop (m := (x12_2 : Int).toNat) (c := c3) hC39 (by omega) hroom39
                              obtain ⟨A39, hA39⟩ : ∃ A1, A1 = (if c3 = (x12_2 : Int).toNat then (some ad328) else ((some ad328) : Option Addr).map (·.add ((x12_2 : Int).toNat * 2))) := ⟨_, rfl⟩
                              obtain ⟨c39, hc39⟩ : ∃ c1, c1 = c3 - (x12_2 : Int).toNat := ⟨_, rfl⟩
                              have hy39 : y340.length = l3.length - (x12_2 : Int).toNat := (by rw [Ny340.out, List.length_drop] <;> omega)
                              rw [show (l3).drop (x12_2 : Int).toNat = y340 from Ny340.out.symm] at hr39
                              replace hr39 : Kd.C k54 _ A39 y340.length y340 := (by rw [hA39]; exact hr39)
                              rw [← hy39, ← hA39, ← hc39] at hcut39
                              have HR343 := Az.mk hr39
                              have HC343 := Az.mk (show y340.length ≤ c39 from by rw [hy39, hc39]; exact Nat.sub_le_sub_right hroom39 _)
                              clear hr39 hC39 hroom39 hi039 hsz39 hc39
                              have KY39 := Az.mk hy39
                              have KA39 := Az.mk hA39
                              clear hy39 hA39
                              replace q39 := eq_true q39
                              refine start_ (n := 16) (S := fun w' => w'.cell? ⟨gb322, 0, none⟩ = some (.int .i64 a0_0) ∧ w'.cell? ⟨gb322, 1, none⟩ = some (.int .i64 a0_1) ∧ w'.cell? ⟨gb322, 2, none⟩ = some (.slice Ao35 x323002_2.length co35)) (ds := [15]) #[false, false, false, false, false, false, false, false, false, false, false, false, false, false, false, false] (by kernel_rfl) rfl rfl ⟨(bkC BK322.out 0).trans rfl, (bkC BK322.out 1).trans rfl, (bkC BK322.out 2).trans rfl⟩ (fun hHeld => ?_); refine with_tabW r11_Merge.tab10 r11_Merge.bits10 (fun HT_ HW_ => ?_)
                              generalize w36.drew = w37 at HO_323002 BK322 BK323 HB HO336 HR343 hHeld ⊢
                              refine pure_ (i := 1) (N := some 57) (v := ?_) (a' := ?_) #[false, true, false, false, false, false, false, false, false, false, false, false, false, false, false, false] rfl rfl (any_of HT_.out (by kernel_rfl)) (fun _ _ _ h => h) (Or.inl ⟨by rfl, ?_⟩) ?_ ?_
                              rotate_left
                              · intro w'
                                go_simp
                                with_reducible rfl
                              rotate_left
                              · simp only [Act.put, List.setIfInBounds_toArray, List.set_cons_zero, List.set_cons_succ, i64_w, i32_w]
                                rfl
                              refine pure_ (i := 3) (N := some 59) (v := ?_) (a' := ?_) #[false, true, false, true, false, false, false, false, false, false, false, false, false, false, false, false] rfl rfl (any_of HT_.out (by kernel_rfl)) (fun _ _ _ h => h) (Or.inl ⟨by rfl, ?_⟩) ?_ ?_
                              rotate_left
                              · intro w'
                                go_simp
                                with_reducible rfl
                              rotate_left
                              · simp only [Act.put, List.setIfInBounds_toArray, List.set_cons_zero, List.set_cons_succ, i64_w, i32_w]
                                rfl
                              refine pure_ (i := 4) (N := some 60) (v := ?_) (a' := ?_) #[false, true, false, true, true, false, false, false, false, false, false, false, false, false, false, false] rfl rfl (any_of HT_.out (by kernel_rfl)) (fun _ _ _ h => h) (Or.inl ⟨by rfl, ?_⟩) ?_ ?_
                              rotate_left
                              · intro w'
                                go_simp
                                with_reducible rfl
                              rotate_left
                              · simp only [Act.put, List.setIfInBounds_toArray, List.set_cons_zero, List.set_cons_succ, i64_w, i32_w]
                                rfl
                              refine pure_ (i := 10) (N := some 66) (v := ?_) (a' := ?_) #[false, true, false, true, true, false, false, false, false, false, true, false, false, false, false, false] rfl rfl (any_of HT_.out (by kernel_rfl)) (fun _ _ _ h => h) (Or.inl ⟨by rfl, ?_⟩) ?_ ?_
                              rotate_left
                              · intro w'
                                go_simp
                                with_reducible rfl
                              rotate_left
                              · simp only [Act.put, List.setIfInBounds_toArray, List.set_cons_zero, List.set_cons_succ, i64_w, i32_w]
                                rfl
                              refine pure_ (i := 11) (N := some 67) (v := ?_) (a' := ?_) #[false, true, false, true, true, false, false, false, false, false, true, true, false, false, false, false] rfl rfl (any_of HT_.out (by kernel_rfl)) (fun _ _ _ h => h) (Or.inl ⟨by rfl, ?_⟩) ?_ ?_
                              rotate_left
                              · intro w'
                                go_simp
                                with_reducible rfl
                              rotate_left
                              · simp only [Act.put, List.setIfInBounds_toArray, List.set_cons_zero, List.set_cons_succ, i64_w, i32_w]
                                rfl
                              refine pure_ (i := 12) (N := some 68) (v := ?_) (a' := ?_) #[false, true, false, true, true, false, false, false, false, false, true, true, true, false, false, false] rfl rfl (any_of HT_.out (by kernel_rfl)) (fun _ _ _ h => h) (Or.inl ⟨by rfl, ?_⟩) ?_ ?_
                              rotate_left
                              · intro w'
                                go_simp
                                with_reducible rfl
                              rotate_left
                              · simp only [Act.put, List.setIfInBounds_toArray, List.set_cons_zero, List.set_cons_succ, i64_w, i32_w]
                                rfl
                              refine take_ (i := 2) (N := some 58) (v := ?_) (a' := ?_) #[false, true, true, true, true, false, false, false, false, false, true, true, true, false, false, false] rfl rfl (take_ofW HT_.out HW_.out (by kernel_rfl)) (fun _ _ _ h => h) (Or.inl ⟨by rfl, ?_⟩) hHeld ?_ ?_
                              rotate_left
                              · rintro w' ⟨s0, s1, s2⟩
                                go_simp
                                with_reducible rfl
                              rotate_left
                              · simp only [Act.put, List.setIfInBounds_toArray, List.set_cons_zero, List.set_cons_succ, i64_w, i32_w]
                                rfl
                              refine take_ (i := 5) (N := some 61) (v := ?_) (a' := ?_) #[false, true, true, true, true, true, false, false, false, false, true, true, true, false, false, false] rfl rfl (take_ofW HT_.out HW_.out (by kernel_rfl)) (fun _ _ _ h => h) (Or.inl ⟨by rfl, ?_⟩) hHeld ?_ ?_
                              rotate_left
                              · rintro w' ⟨s0, s1, s2⟩
                                go_simp
                                with_reducible rfl
                              rotate_left
                              · simp only [Act.put, List.setIfInBounds_toArray, List.set_cons_zero, List.set_cons_succ, i64_w, i32_w]
                                rfl
                              refine pure_ (i := 6) (N := some 62) (v := ?_) (a' := ?_) #[false, true, true, true, true, true, true, false, false, false, true, true, true, false, false, false] rfl rfl (any_of HT_.out (by kernel_rfl)) (fun _ _ _ h => h) (Or.inl ⟨by rfl, ?_⟩) ?_ ?_
                              rotate_left
                              · intro w'
                                go_simp
                                with_reducible rfl
                              rotate_left
                              · simp only [Act.put, List.setIfInBounds_toArray, List.set_cons_zero, List.set_cons_succ, i64_w, i32_w]
                                rfl
                              refine pure_ (i := 7) (N := some 63) (v := ?_) (a' := ?_) #[false, true, true, true, true, true, true, true, false, false, true, true, true, false, false, false] rfl rfl (any_of HT_.out (by kernel_rfl)) (fun _ _ _ h => h) (Or.inl ⟨by rfl, ?_⟩) ?_ ?_
                              rotate_left
                              · intro w'
                                go_simp
                                with_reducible rfl
                              rotate_left
                              · simp only [Act.put, List.setIfInBounds_toArray, List.set_cons_zero, List.set_cons_succ, i64_w, i32_w]
                                rfl
                              refine pure_ (i := 8) (N := some 64) (v := ?_) (a' := ?_) #[false, true, true, true, true, true, true, true, true, false, true, true, true, false, false, false] rfl rfl (any_of HT_.out (by kernel_rfl)) (fun _ _ _ h => h) (Or.inl ⟨by rfl, ?_⟩) ?_ ?_
                              rotate_left
                              · intro w'
                                go_simp
                                with_reducible rfl
                              rotate_left
                              · simp only [Act.put, List.setIfInBounds_toArray, List.set_cons_zero, List.set_cons_succ, i64_w, i32_w]
                                rfl
                              refine one_ (i := 0) (N := some 56) #[true, true, true, true, true, true, true, true, true, false, true, true, true, false, false, false] rfl rfl (one_of HT_.out (by kernel_rfl)) (by decide) (fun K hK => ?_)
                              refine Kd.R_lit_step k54 _ 54 ?hg (N := 56) ?hd (xs := ([] : List (S54))) (inner := []) (ok := fun _ => True) (okp := fun _ => True) ?hr ?hp (fun _ hk => hk) trivial (Below.refl _ _) (Nat.le_refl _) (by simp) ?_; (case hd => rfl); (case hg => rfl); (case hr => first | (go_simp; done) | (go_simp; rfl)); (case hp => exact (Reps.none _ _))
                              intro v330 w40 ho41 hb hg_ hnew_
                              clear hg_ hnew_
                              (first | rw [← Ny329.out] at ho41 | (simp only [Int.reduceToNat] at ho41; rw [← Ny329.out] at ho41))
                              have n0_ := Az.mk (Kd.V_elder' (by (with_reducible repeat (first | apply Kd.V_alloc | apply Kd.V_drewN | apply Kd.V_drew)); exact HO_323002.out) (Kd.R_base ho41) hb)
                              have n1_ := Az.mk (Kd.V_elder' (by (with_reducible repeat (first | apply Kd.V_alloc | apply Kd.V_drewN | apply Kd.V_drew)); exact HO336.out) (Kd.R_base ho41) hb)
                              have n2_ := Az.mk (Kd.R_lower (Kd.R_newM (M := fun k_ => (w.heap.size ≤ k_)) ho41 (pbZ (by repeat (first | (with_reducible first | exact HB.out | apply pbA | apply pbN | apply pb1 | refine pbS ?_ GE322.out | refine pbS ?_ GE323.out) | exact HB.out))) (fun k_ h_ => h_)) (pbZ (by repeat (first | (with_reducible first | exact HB.out | apply pbA | apply pbN | apply pb1 | refine pbS ?_ GE322.out | refine pbS ?_ GE323.out) | exact HB.out))))
                              have n3_ := Az.mk (bkB (g := gb322) (o := .cells #[.int .i64 a0_0, .int .i64 a0_1, .slice Ao35 x323002_2.length co35] 24 (0, 0)) (by (with_reducible repeat (first | refine bkN ?_ _ | refine bkD ?_ | refine bkA ?_ _)); exact BK322.out) hb)
                              have n4_ := Az.mk (bkB (g := gb323) (o := .cells #[.int .i64 x324000_2, .int .i64 x324001_2, .slice none 0 0] 24 (0, 0)) (by (with_reducible repeat (first | refine bkN ?_ _ | refine bkD ?_ | refine bkA ?_ _)); exact BK323.out) hb)
                              have n5_ := Az.mk (pbT (by repeat (first | (with_reducible first | exact HB.out | apply pbA | apply pbN | apply pb1 | refine pbS ?_ GE322.out | refine pbS ?_ GE323.out) | exact HB.out)) hb)
                              clear HO_323002
                              clear HO336
                              clear BK322
                              clear BK323
                              clear HB
                              have HO_323002 := n0_
                              have HO336 := n1_
                              have HO331 := n2_
                              have BK322 := n3_
                              have BK323 := n4_
                              have HB := n5_
                              clear n0_ n1_ n2_ n3_ n4_ n5_
                              clear hb ho41
                              refine hK.out _ _ ⟨(bkC BK322.out 0).trans rfl, (bkC BK322.out 1).trans rfl, (bkC BK322.out 2).trans rfl⟩ (fun hHeld => ?_)
                              clear hK K
                              refine norm_ (a' := ?_) ?_ ?_
                              rotate_left
                              · show Act.put _ (some 56) _ = _
                                simp only [Act.put, List.setIfInBounds_toArray, List.set_cons_zero, List.set_cons_succ, i64_w, i32_w]
                                rfl
                              refine one_ (i := 9) (N := some 65) #[true, true, true, true, true, true, true, true, true, true, true, true, true, false, false, false] rfl rfl (one_of HT_.out (by kernel_rfl)) (by decide) (fun K hK => ?_)
                              refine Kd.R_append_rows_step k54 (w0 := w) w.heap.size (by rfl) (.tmp 56) (.tmp 64) 22 54 (.agg #[(.int .i64 0), (.string ⟨#[]⟩)]) 24 rfl Tryd.underlying22 info54 rfl (by decide) (by omega) v330 y329 y332 _ _ _ (fun k_ => (w.heap.size ≤ k_)) (fun _ => False) rfl rfl ?aO ?aR (fun _ _ h => h) (fun _ h => h.elim) ?aF ?aB ?aS ?aL ?_
                              (case aR => repeat (first | exact (Kd.V_reads' HO336.out).2.2 | (with_reducible refine Kd.C_alloc ?_ _) | (with_reducible refine Kd.C_drewN ?_ _) | (with_reducible refine Kd.C_drew ?_)))
                              (case aB => exact (by repeat (first | (with_reducible first | exact HB.out | apply pbA | apply pbN | apply pb1 | refine pbS ?_ GE322.out | refine pbS ?_ GE323.out) | exact HB.out)))
                              (case aF => exact (fun k_ hk => (Nat.le_trans (pbZ (by repeat (first | (with_reducible first | exact HB.out | apply pbA | apply pbN | apply pb1 | refine pbS ?_ GE322.out | refine pbS ?_ GE323.out) | exact HB.out))) hk)))
                              (case aO => exact (by (with_reducible repeat (first | apply Kd.R_alloc | apply Kd.R_drewN | apply Kd.R_drew)); exact Kd.R_mono HO331.out (fun _ hk => hk.1)))
                              (case aS => exact (pbZ (by repeat (first | (with_reducible first | exact HB.out | apply pbA | apply pbN | apply pb1 | refine pbS ?_ GE322.out | refine pbS ?_ GE323.out) | exact HB.out))))
                              (case aL => have := LMc29.out; omega)
                              intro v338 w42 ho hb hg hat
                              rw [← Ny337.out] at ho
                              have n0_ := Az.mk (Kd.V_afterv (ok := (fun k_ => (P0_2_ k_ ∨ w.heap.size ≤ k_) ∧ k_ ≠ gb322 ∧ k_ ≠ gb323)) (by (with_reducible repeat (first | apply Kd.V_alloc | apply Kd.V_drewN | apply Kd.V_drew)); exact HO_323002.out) hg hat)
                              have n1_ := Az.mk (blk_grown (g := gb322) (o := .cells #[.int .i64 a0_0, .int .i64 a0_1, .slice Ao35 x323002_2.length co35] 24 (0, 0)) (by (with_reducible repeat (first | refine bkN ?_ _ | refine bkD ?_ | refine bkA ?_ _)); exact BK322.out) hg (Kd.R_ne HO331.out BK322.out (by decide)))
                              have n2_ := Az.mk (blk_grown (g := gb323) (o := .cells #[.int .i64 x324000_2, .int .i64 x324001_2, .slice none 0 0] 24 (0, 0)) (by (with_reducible repeat (first | refine bkN ?_ _ | refine bkD ?_ | refine bkA ?_ _)); exact BK323.out) hg (Kd.R_ne HO331.out BK323.out (by decide)))
                              have n3_ := Az.mk (Kd.V_afterv (ok := (fun k_ => (P0_2_ k_ ∨ w.heap.size ≤ k_) ∧ k_ ≠ gb322 ∧ k_ ≠ gb323)) (by (with_reducible repeat (first | apply Kd.V_alloc | apply Kd.V_drewN | apply Kd.V_drew)); exact HO336.out) hg hat)
                              have n4_ := Az.mk (hb)
                              have n5_ := Az.mk (ho)
                              clear HO_323002
                              clear BK322
                              clear BK323
                              clear HO336
                              clear HB
                              clear HO331
                              have HO_323002 := n0_
                              have BK322 := n1_
                              have BK323 := n2_
                              have HO336 := n3_
                              have HB := n4_
                              have HO339 := n5_
                              clear n0_ n1_ n2_ n3_ n4_ n5_
                              clear ho hb hg hat
                              refine hK.out _ _ ⟨(bkC BK322.out 0).trans rfl, (bkC BK322.out 1).trans rfl, (bkC BK322.out 2).trans rfl⟩ (fun hHeld => ?_)
                              clear hK K
                              refine norm_ (a' := ?_) ?_ ?_
                              rotate_left
                              · show Act.put _ (some 65) _ = _
                                simp only [Act.put, List.setIfInBounds_toArray, List.set_cons_zero, List.set_cons_succ, i64_w, i32_w]
                                rfl
                              refine one_ (i := 13) (N := some 69) #[true, true, true, true, true, true, true, true, true, true, true, true, true, true, false, false] rfl rfl (one_of HT_.out (by kernel_rfl)) (by decide) (fun K hK => ?_)
                              refine Kd.R_append_rows_step k54 (w0 := w) w.heap.size (by rfl) (.tmp 65) (.tmp 68) 22 54 (.agg #[(.int .i64 0), (.string ⟨#[]⟩)]) 24 rfl Tryd.underlying22 info54 rfl (by decide) (by omega) v338 y337 y340 _ _ _ (fun k_ => (w.heap.size ≤ k_)) (fun _ => False) rfl rfl ?aO ?aR (fun _ _ h => h) (fun _ h => h.elim) ?aF ?aB ?aS ?aL ?_
                              (case aR => repeat (first | exact (Kd.C_below HR343.out HB.out) | (with_reducible refine Kd.C_alloc ?_ _) | (with_reducible refine Kd.C_drewN ?_ _) | (with_reducible refine Kd.C_drew ?_)))
                              (case aB => exact (by repeat (first | (with_reducible first | exact HB.out | apply pbA | apply pbN | apply pb1 | refine pbS ?_ GE322.out | refine pbS ?_ GE323.out) | exact HB.out)))
                              (case aF => exact (fun k_ hk => (Nat.le_trans (pbZ (by repeat (first | (with_reducible first | exact HB.out | apply pbA | apply pbN | apply pb1 | refine pbS ?_ GE322.out | refine pbS ?_ GE323.out) | exact HB.out))) hk)))
                              (case aO => exact (by (with_reducible repeat (first | apply Kd.R_alloc | apply Kd.R_drewN | apply Kd.R_drew)); exact HO339.out))
                              (case aS => exact (pbZ (by repeat (first | (with_reducible first | exact HB.out | apply pbA | apply pbN | apply pb1 | refine pbS ?_ GE322.out | refine pbS ?_ GE323.out) | exact HB.out))))
                              (case aL => have := LMc32.out; omega)
                              intro v345 w43 ho hb hg hat
                              rw [← Ny344.out] at ho
                              have n0_ := Az.mk (Kd.V_afterv (ok := (fun k_ => (P0_2_ k_ ∨ w.heap.size ≤ k_) ∧ k_ ≠ gb322 ∧ k_ ≠ gb323)) (by (with_reducible repeat (first | apply Kd.V_alloc | apply Kd.V_drewN | apply Kd.V_drew)); exact HO_323002.out) hg hat)
                              have n1_ := Az.mk (blk_grown (g := gb322) (o := .cells #[.int .i64 a0_0, .int .i64 a0_1, .slice Ao35 x323002_2.length co35] 24 (0, 0)) (by (with_reducible repeat (first | refine bkN ?_ _ | refine bkD ?_ | refine bkA ?_ _)); exact BK322.out) hg (Kd.R_ne HO339.out BK322.out (by decide)))
                              have n2_ := Az.mk (blk_grown (g := gb323) (o := .cells #[.int .i64 x324000_2, .int .i64 x324001_2, .slice none 0 0] 24 (0, 0)) (by (with_reducible repeat (first | refine bkN ?_ _ | refine bkD ?_ | refine bkA ?_ _)); exact BK323.out) hg (Kd.R_ne HO339.out BK323.out (by decide)))
                              have n3_ := Az.mk (Kd.V_afterv (ok := (fun k_ => (P0_2_ k_ ∨ w.heap.size ≤ k_) ∧ k_ ≠ gb322 ∧ k_ ≠ gb323)) (by (with_reducible repeat (first | apply Kd.V_alloc | apply Kd.V_drewN | apply Kd.V_drew)); exact HO336.out) hg hat)
                              have n4_ := Az.mk (hb)
                              have n5_ := Az.mk (ho)
                              clear HO_323002
                              clear BK322
                              clear BK323
                              clear HO336
                              clear HB
                              clear HO339
                              have HO_323002 := n0_
                              have BK322 := n1_
                              have BK323 := n2_
                              have HO336 := n3_
                              have HB := n4_
                              have HO346 := n5_
                              clear n0_ n1_ n2_ n3_ n4_ n5_
                              clear ho hb hg hat
                              obtain ⟨Ao44, co44, eo44⟩ := Kd.R_slice HO346.out
                              (first | subst eo44 | (injection eo44 with f1_ f2_ f3_; have f4_ := f1_.symm; have f5_ := f3_.symm; clear f1_ f2_ f3_; subst f4_; subst f5_))
                              refine hK.out _ _ ⟨(bkC BK322.out 0).trans rfl, (bkC BK322.out 1).trans rfl, (bkC BK322.out 2).trans rfl⟩ (fun hHeld => ?_)
                              clear hK K
                              refine norm_ (a' := ?_) ?_ ?_
                              rotate_left
                              · show Act.put _ (some 69) _ = _
                                simp only [Act.put, List.setIfInBounds_toArray, List.set_cons_zero, List.set_cons_succ, i64_w, i32_w]
                                rfl
                              refine pure_ (i := 14) (N := some 70) (v := ?_) (a' := ?_) #[true, true, true, true, true, true, true, true, true, true, true, true, true, true, true, false] rfl rfl (any_of HT_.out (by kernel_rfl)) (fun _ _ _ h => h) (Or.inl ⟨by rfl, ?_⟩) ?_ ?_
                              rotate_left
                              · intro w'
                                go_simp
                                with_reducible rfl
                              rotate_left
                              · simp only [Act.put, List.setIfInBounds_toArray, List.set_cons_zero, List.set_cons_succ, i64_w, i32_w]
                                rfl
                              refine last_ (i := 15) (N := none) #[true, true, true, true, true, true, true, true, true, true, true, true, true, true, true, true] rfl rfl (one_of HT_.out (by kernel_rfl)) (by decide) (fun K hK => ?_)
                              have hs45 : w43.cell? ⟨gb322, 2, none⟩ = some (.slice Ao35 x323002_2.length co35) := (bkC BK322.out 2).trans rfl
                              have hfs45 := bkF BK322.out 2
                              have hns45_1 := NB323_322.out
                              have hms45_1 := NB322_323.out
                              refine skip_ (w1 := ?_) (by rfl) rfl ?_ ?_
                              rotate_left
                              · go_simp
                                rfl
                              refine hK.out _ _ ?_
                              clear hK K
                              refine done_ (done_of HT_.out (by kernel_rfl)) ?_
                              have hcz46_0 : w43.cell? ⟨gb322, 0, none⟩ = some (.int .i64 a0_0) := (bkC BK322.out 0).trans rfl
                              have hcz46_1 : w43.cell? ⟨gb322, 1, none⟩ = some (.int .i64 a0_1) := (bkC BK322.out 1).trans rfl
                              have hcz46_2 : w43.cell? ⟨gb322, 2, none⟩ = some (.slice Ao35 x323002_2.length co35) := (bkC BK322.out 2).trans rfl
                              have hfz46_0 := bkF BK322.out 0
                              have hfz46_1 := bkF BK322.out 1
                              have hfz46_2 := bkF BK322.out 2
                              have hcz47_0 : w43.cell? ⟨gb323, 0, none⟩ = some (.int .i64 x324000_2) := (bkC BK323.out 0).trans rfl
                              have hcz47_1 : w43.cell? ⟨gb323, 1, none⟩ = some (.int .i64 x324001_2) := (bkC BK323.out 1).trans rfl
                              have hcz47_2 : w43.cell? ⟨gb323, 2, none⟩ = some (.slice none 0 0) := (bkC BK323.out 2).trans rfl
                              have hfz47_0 := bkF BK323.out 0
                              have hfz47_1 := bkF BK323.out 1
                              have hfz47_2 := bkF BK323.out 2
                              try go_wp2
                              refine bodyPost_ret (results_ct rfl _ _ gb323 24 #[.int .i64 a0_0, .int .i64 a0_1, .slice Ao44 y344.length co44] (0, 0) _ rfl (by (with_reducible repeat (first | refine bkN ?_ _ | refine bkD ?_ | refine bkA ?_ _)); refine blk_put (cs := #[.int .i64 a0_0, .int .i64 a0_1, .slice none 0 0]) ?_ 2 _ rfl; (with_reducible repeat (first | refine bkN ?_ _ | refine bkD ?_ | refine bkA ?_ _)); refine blk_put (cs := #[.int .i64 a0_0, .int .i64 x324001_2, .slice none 0 0]) ?_ 1 _ rfl; (with_reducible repeat (first | refine bkN ?_ _ | refine bkD ?_ | refine bkA ?_ _)); refine blk_put (cs := #[.int .i64 x324000_2, .int .i64 x324001_2, .slice none 0 0]) ?_ 0 _ rfl; (with_reducible repeat (first | refine bkN ?_ _ | refine bkD ?_ | refine bkA ?_ _)); refine blk_far ?_ NB323_322.out _; (with_reducible repeat (first | refine bkN ?_ _ | refine bkD ?_ | refine bkA ?_ _)); exact BK323.out) Tryd.underlying24 rfl (by kernel_rfl)) rfl ?_
                              exact ⟨_, by first | rfl | (simp [errW_none, errW_some] <;> rfl) | (simp only [← hji26]; first | rfl | (simp [errW_none, errW_some] <;> rfl)) | (simp [*, errW_none, errW_some] <;> rfl), Kd.V_mono (Kd.R_V (by (with_reducible repeat (first | apply Kd.R_alloc | apply Kd.R_drewN | apply Kd.R_drew)); exact Kd.R_mono (Kd.R_far (p := ⟨gb323, 2, none⟩) (Kd.R_far (p := ⟨gb323, 1, none⟩) (Kd.R_far (p := ⟨gb323, 0, none⟩) (Kd.R_far (p := ⟨gb322, 2, none⟩) (Kd.R_types (Kd.R_types HO346.out BK322.out (by decide)) BK323.out (by decide)) (fun _ hk => hk.1.2) (.slice Ao44 y344.length co44)) (fun _ hk => hk.2) (.int .i64 a0_0)) (fun _ hk => hk.2) (.int .i64 a0_1)) (fun _ hk => hk.2) (.slice Ao44 y344.length co44)) (fun _ hk => hk.1.1))) (fun k_ hk => by first | exact ⟨(.inr (hk.1)), hk.2⟩ | exact (.inr (hk))), by repeat (first | (with_reducible first | exact HB.out | apply pbA | apply pbN | apply pb1 | refine pbS ?_ GE322.out | refine pbS ?_ GE323.out) | exact HB.out)⟩
                            · rw [if_neg c32] at H
                              exact absurd H (by simp)
                          · rw [if_neg c31] at H
                            exact absurd H (by simp)
                        · rw [if_neg c29] at H
                          exact absurd H (by simp)
                      · rw [if_neg c28] at H
                        exact absurd H (by simp)
                    · rw [if_neg c27] at H
                      exact absurd H (by simp)
                · rw [if_neg c20] at H
                  exact absurd H (by simp)
              · replace c19 := Bool.eq_false_iff.mpr c19
                subst c19
                have H1 : ((some (([] : List (S54)) : List (S54))).bind fun y347 => (if 0 ≤ (wrap64 ((wrap64 ((wrap64 ((wrap64 (a1 + 1)) + x12_2)) - a0_0)) - 1)) then (if (wrap64 ((wrap64 ((wrap64 ((wrap64 (a1 + 1)) + x12_2)) - a0_0)) - 1)) ≤ (x323002_2.length : Int) then ((some (x323002_2.take ((wrap64 ((wrap64 ((wrap64 ((wrap64 (a1 + 1)) + x12_2)) - a0_0)) - 1)) : Int).toNat : List (S54))).bind fun y350 => (if y347.length + y350.length < 5864062014805 then ((some (y347 ++ y350 : List (S54))).bind fun y355 => (if 0 ≤ x12_2 then (if x12_2 ≤ (l3.length : Int) then ((some (l3.drop (x12_2 : Int).toNat : List (S54))).bind fun y358 => (if y355.length + y358.length < 5864062014805 then (some (a0_0, a0_1, (y355 ++ y358), true)) else (none))) else (none)) else (none))) else (none))) else (none)) else (none))) = some (r1, r2, r3, r4) := by rw [if_neg (show ¬ (false = true) by decide)] at H; exact H
                clear H
                have H := H1
                clear H1
                obtain ⟨y347, hy347⟩ : ∃ y_ : List (S54), y_ = (([] : List (S54))) := ⟨_, rfl⟩
                replace H : (if 0 ≤ (wrap64 ((wrap64 ((wrap64 ((wrap64 (a1 + 1)) + x12_2)) - a0_0)) - 1)) then (if (wrap64 ((wrap64 ((wrap64 ((wrap64 (a1 + 1)) + x12_2)) - a0_0)) - 1)) ≤ (x323002_2.length : Int) then ((some (x323002_2.take ((wrap64 ((wrap64 ((wrap64 ((wrap64 (a1 + 1)) + x12_2)) - a0_0)) - 1)) : Int).toNat : List (S54))).bind fun y350 => (if y347.length + y350.length < 5864062014805 then ((some (y347 ++ y350 : List (S54))).bind fun y355 => (if 0 ≤ x12_2 then (if x12_2 ≤ (l3.length : Int) then ((some (l3.drop (x12_2 : Int).toNat : List (S54))).bind fun y358 => (if y355.length + y358.length < 5864062014805 then (some (a0_0, a0_1, (y355 ++ y358), true)) else (none))) else (none)) else (none))) else (none))) else (none)) else (none)) = some (r1, r2, r3, r4) := by first | (rw [hy347]; with_reducible exact H) | (have H2_ := (Option.bind_some _ _).symm.trans H; rw [hy347]; with_reducible exact H2_) | (have H2_ := (Option.bind_some _ _).symm.trans H; with_reducible exact H2_) | with_reducible exact H | (rw [hy347]; exact H) | exact H
                have Ny347 := Az.mk hy347
                clear hy347
                obtain ⟨ji48, hji48⟩ : ∃ j_ : Int, (wrap64 ((wrap64 ((wrap64 ((wrap64 (a1 + 1)) + x12_2)) - a0_0)) - 1)) = j_ := ⟨_, rfl⟩
                replace H : (if 0 ≤ (ji48) then (if (ji48) ≤ (x323002_2.length : Int) then ((some (x323002_2.take ((ji48) : Int).toNat : List (S54))).bind fun y350 => (if y347.length + y350.length < 5864062014805 then ((some (y347 ++ y350 : List (S54))).bind fun y355 => (if 0 ≤ x12_2 then (if x12_2 ≤ (l3.length : Int) then ((some (l3.drop (x12_2 : Int).toNat : List (S54))).bind fun y358 => (if y355.length + y358.length < 5864062014805 then (some (a0_0, a0_1, (y355 ++ y358), true)) else (none))) else (none)) else (none))) else (none))) else (none)) else (none)) = some (r1, r2, r3, r4) := by first | (rw [hji48] at H; exact H) | (simp only [hji48] at H ⊢; exact H)
                (try rw [hji48] at A18)
                have hji48w : (IntKind.i64.wrap ((wrap64 ((wrap64 ((wrap64 (a1 + 1)) + x12_2)) - a0_0)) - 1)) = ji48 := (i64_w _).trans hji48
                by_cases c49 : 0 ≤ (ji48)
                · rw [if_pos c49] at H
                  have c49b0 := eq_true c49
                  have c49b1 : decide (0 ≤ (ji48)) = true := decide_eq_true c49
                  clear c49
                  by_cases c50 : (ji48) ≤ (x323002_2.length : Int)
                  · rw [if_pos c50] at H
                    have c50b0 := eq_true c50
                    have c50b1 : decide ((ji48) ≤ (x323002_2.length : Int)) = true := decide_eq_true c50
                    clear c50
                    obtain ⟨y350, hy350⟩ : ∃ y_ : List (S54), y_ = (x323002_2.take ((ji48) : Int).toNat) := ⟨_, rfl⟩
                    replace H : (if y347.length + y350.length < 5864062014805 then ((some (y347 ++ y350 : List (S54))).bind fun y355 => (if 0 ≤ x12_2 then (if x12_2 ≤ (l3.length : Int) then ((some (l3.drop (x12_2 : Int).toNat : List (S54))).bind fun y358 => (if y355.length + y358.length < 5864062014805 then (some (a0_0, a0_1, (y355 ++ y358), true)) else (none))) else (none)) else (none))) else (none)) = some (r1, r2, r3, r4) := by first | (rw [hy350]; with_reducible exact H) | (have H2_ := (Option.bind_some _ _).symm.trans H; rw [hy350]; with_reducible exact H2_) | (have H2_ := (Option.bind_some _ _).symm.trans H; with_reducible exact H2_) | with_reducible exact H | (rw [hy350]; exact H) | exact H
                    have Ny350 := Az.mk hy350
                    clear hy350
                    by_cases c51 : y347.length + y350.length < 5864062014805
                    · rw [if_pos c51] at H
                      have LMc51 := Az.mk c51
                      clear c51
                      obtain ⟨y355, hy355⟩ : ∃ y_ : List (S54), y_ = (y347 ++ y350) := ⟨_, rfl⟩
                      replace H : (if 0 ≤ x12_2 then (if x12_2 ≤ (l3.length : Int) then ((some (l3.drop (x12_2 : Int).toNat : List (S54))).bind fun y358 => (if y355.length + y358.length < 5864062014805 then (some (a0_0, a0_1, (y355 ++ y358), true)) else (none))) else (none)) else (none)) = some (r1, r2, r3, r4) := by first | (rw [hy355]; with_reducible exact H) | (have H2_ := (Option.bind_some _ _).symm.trans H; rw [hy355]; with_reducible exact H2_) | (have H2_ := (Option.bind_some _ _).symm.trans H; with_reducible exact H2_) | with_reducible exact H | (rw [hy355]; exact H) | exact H
                      have Ny355 := Az.mk hy355
                      clear hy355
                      by_cases c52 : 0 ≤ x12_2
                      · rw [if_pos c52] at H
                        have c52b0 := eq_true c52
                        have c52b1 : decide (0 ≤ x12_2) = true := decide_eq_true c52
                        clear c52
                        by_cases c53 : x12_2 ≤ (l3.length : Int)
                        · rw [if_pos c53] at H
                          have c53b0 := eq_true c53
                          have c53b1 : decide (x12_2 ≤ (l3.length : Int)) = true := decide_eq_true c53
                          clear c53
                          obtain ⟨y358, hy358⟩ : ∃ y_ : List (S54), y_ = (l3.drop (x12_2 : Int).toNat) := ⟨_, rfl⟩
                          replace H : (if y355.length + y358.length < 5864062014805 then (some (a0_0, a0_1, (y355 ++ y358), true)) else (none)) = some (r1, r2, r3, r4) := by first | (rw [hy358]; with_reducible exact H) | (have H2_ := (Option.bind_some _ _).symm.trans H; rw [hy358]; with_reducible exact H2_) | (have H2_ := (Option.bind_some _ _).symm.trans H; with_reducible exact H2_) | with_reducible exact H | (rw [hy358]; exact H) | exact H
                          have Ny358 := Az.mk hy358
                          clear hy358
                          by_cases c54 : y355.length + y358.length < 5864062014805
                          · rw [if_pos c54] at H
                            have LMc54 := Az.mk c54
                            clear c54
                            obtain ⟨y362, hy362⟩ : ∃ y_ : List (S54), y_ = (y355 ++ y358) := ⟨_, rfl⟩
                            replace H : (some (a0_0, a0_1, y362, true)) = some (r1, r2, r3, r4) := by first | (rw [hy362]; with_reducible exact H) | (have H2_ := (Option.bind_some _ _).symm.trans H; rw [hy362]; with_reducible exact H2_) | (have H2_ := (Option.bind_some _ _).symm.trans H; with_reducible exact H2_) | with_reducible exact H | (rw [hy362]; exact H) | exact H
                            have Ny362 := Az.mk hy362
                            clear hy362
                            simp only [Option.some.injEq, Prod.mk.injEq] at H
                            obtain ⟨rfl, rfl, rfl, rfl⟩ := H
                            have hnb55 := NB322_323.out
                            have hnc55 := NB323_322.out
                            have hcz56_0 : wr.cell? ⟨gb322, 0, none⟩ = some (.int .i64 a0_0) := (bkC BK322.out 0).trans rfl
                            have hcz56_1 : wr.cell? ⟨gb322, 1, none⟩ = some (.int .i64 a0_1) := (bkC BK322.out 1).trans rfl
                            have hcz56_2 : wr.cell? ⟨gb322, 2, none⟩ = some (u323002) := (bkC BK322.out 2).trans rfl
                            have hfz56_0 := bkF BK322.out 0
                            have hfz56_1 := bkF BK322.out 1
                            have hfz56_2 := bkF BK322.out 2
                            obtain ⟨Ao57, co57, eo57⟩ := Kd.V_slice HO_323002.out
                            subst eo57
                            try go_wp2_with (first | ((with_reducible refine gtc (f := 28) rfl ?_); refine goesL_ (some 43) rfl rfl Tryd.func28 (by kernel_rfl) rfl #[.agg #[.int .i64 a0_0, .int .i64 a0_1, .slice Ao57 x323002_2.length co57], .int .i64 (wrap64 ((wrap64 (a1 + 1)) + x12_2))] rfl (by (try simp only [List.map_toArray, List.map_cons, List.map_nil]); first | done | rfl | (simp only [List.length_drop, List.length_take]; rfl)) ?_; (with_reducible refine (r11_Term.calls k2 a0_0 a0_1 _ _ x323002_2 (wrap64 ((wrap64 (a1 + 1)) + x12_2)) t326 false _ ?side1 ?side2 ?side3 A18.out).mono ?_); (case side1 => exact hG.below (by repeat (first | (with_reducible first | exact HB.out | apply pbA | apply pbN | apply pb1 | refine pbS ?_ GE322.out | refine pbS ?_ GE323.out) | exact HB.out))); (case side2 => repeat (first | exact (Kd.V_reads' HO_323002.out).2.2 | (with_reducible refine Kd.C_alloc ?_ _) | (with_reducible refine Kd.C_drewN ?_ _) | (with_reducible refine Kd.C_drew ?_))); (case side3 => exact (Kd.V_reads' HO_323002.out).2.1); rintro e w58 ⟨rfl, hb⟩; refine ⟨_, rfl, ?_⟩; have n0_ := Az.mk (Kd.V_below (by (with_reducible repeat (first | apply Kd.V_alloc | apply Kd.V_drewN | apply Kd.V_drew)); exact HO_323002.out) hb); have n1_ := Az.mk (bkB (g := gb322) (o := .cells #[.int .i64 a0_0, .int .i64 a0_1, .slice Ao57 x323002_2.length co57] 24 (0, 0)) (by (with_reducible repeat (first | refine bkN ?_ _ | refine bkD ?_ | refine bkA ?_ _)); exact BK322.out) hb); have n2_ := Az.mk (bkB (g := gb323) (o := .cells #[.int .i64 x324000_2, .int .i64 x324001_2, .slice none 0 0] 24 (0, 0)) (by (with_reducible repeat (first | refine bkN ?_ _ | refine bkD ?_ | refine bkA ?_ _)); exact BK323.out) hb); have n3_ := Az.mk (pbT (by repeat (first | (with_reducible first | exact HB.out | apply pbA | apply pbN | apply pb1 | refine pbS ?_ GE322.out | refine pbS ?_ GE323.out) | exact HB.out)) hb); clear HO_323002; clear BK322; clear BK323; clear HB; have HO_323002 := n0_; have BK322 := n1_; have BK323 := n2_; have HB := n3_; clear n0_ n1_ n2_ n3_; (try clear hb); (try clear hb2); (try clear hk); (try clear hi)))
                            have n0_ := Az.mk (Kd.V_drew HO_323002.out)
                            have n1_ := Az.mk (bkD BK322.out)
                            have n2_ := Az.mk (bkD BK323.out)
                            have n3_ := Az.mk (pb1 HB.out)
                            clear HO_323002
                            clear BK322
                            clear BK323
                            clear HB
                            have HO_323002 := n0_
                            have BK322 := n1_
                            have BK323 := n2_
                            have HB := n3_
                            clear n0_ n1_ n2_ n3_
                            have q60 : ((ji48) : Int) ≤ ((x323002_2.length : Int) : Int) := of_decide_eq_true (by first | (with_reducible assumption) | assumption)
                            obtain ⟨i060, hi060, _, hsz60, _⟩ := info_parts info54
                            have hroom60 : x323002_2.length ≤ co57 := (Kd.V_reads' HO_323002.out).2.1
                            have hC60 : Kd.F k54 _ _ Ao57 x323002_2.length x323002_2 := (Kd.V_at (base := w.heap.size) HO_323002.out).2.2
                            have hcut60 := cut_to (P := Tryd.prog) 22 54 .i64 Tryd.underlying22 hi060 Ao57 x323002_2.length co57 (ji48) (of_decide_eq_true (by first | (with_reducible assumption) | assumption)) q60 hroom60
                            have hr60 := Kd.F_take (m := ((ji48) : Int).toNat) hC60 (by omega)
                            have hy60 : y350.length = ((ji48) : Int).toNat := (by rw [Ny350.out, List.length_take]; omega)
                            rw [← Ny350.out] at hr60
                            rw [← hy60] at hcut60
                            have HO354 := Az.mk (show Kd.V k54 54 _ w.heap.size _ (.slice Ao57 y350.length co57) y350 from Kd.V_mk (by omega) hr60)
                            have HC354 := Az.mk (show y350.length ≤ co57 from by omega)
                            clear hr60 hC60 hroom60 hi060 hsz60
                            have KY60 := Az.mk hy60
                            clear hy60
                            replace q60 := eq_true q60
                            have q61 : (x12_2 : Int) ≤ ((l3.length : Int) : Int) := of_decide_eq_true (by first | (with_reducible assumption) | assumption)
                            obtain ⟨i061, hi061, _, hsz61, _⟩ := info_parts info54
                            have hroom61 : l3.length ≤ c3 := HC3.out
                            have hC61 : Kd.C k54 _ A3 l3.length l3 := HR3.out
                            have q061 : (0 : Int) ≤ (x12_2 : Int) := of_decide_eq_true (by first | (with_reducible assumption) | assumption)
                            have hcut61 := cut_from (P := Tryd.prog) 22 54 .i64 Tryd.underlying22 hi061 2 hsz61 A3 l3.length c3 x12_2 q061 q61
                            have hr61 := Kd.C_drop (m := (x12_2 : Int).toNat) (c := c3) hC61 (by omega) hroom61
                            obtain ⟨A61, hA61⟩ : ∃ A1, A1 = (if c3 = (x12_2 : Int).toNat then A3 else (A3 : Option Addr).map (·.add ((x12_2 : Int).toNat * 2))) := ⟨_, rfl⟩
                            obtain ⟨c61, hc61⟩ : ∃ c1, c1 = c3 - (x12_2 : Int).toNat := ⟨_, rfl⟩
                            have hy61 : y358.length = l3.length - (x12_2 : Int).toNat := (by rw [Ny358.out, List.length_drop] <;> omega)
                            rw [show (l3).drop (x12_2 : Int).toNat = y358 from Ny358.out.symm] at hr61
                            replace hr61 : Kd.C k54 _ A61 y358.length y358 := (by rw [hA61]; exact hr61)
                            rw [← hy61, ← hA61, ← hc61] at hcut61
                            have HR361 := Az.mk hr61
                            have HC361 := Az.mk (show y358.length ≤ c61 from by rw [hy61, hc61]; exact Nat.sub_le_sub_right hroom61 _)
                            clear hr61 hC61 hroom61 hi061 hsz61 hc61
                            have KY61 := Az.mk hy61
                            have KA61 := Az.mk hA61
                            clear hy61 hA61
                            replace q61 := eq_true q61
                            refine start_ (n := 16) (S := fun w' => w'.cell? ⟨gb322, 0, none⟩ = some (.int .i64 a0_0) ∧ w'.cell? ⟨gb322, 1, none⟩ = some (.int .i64 a0_1) ∧ w'.cell? ⟨gb322, 2, none⟩ = some (.slice Ao57 x323002_2.length co57)) (ds := [15]) #[false, false, false, false, false, false, false, false, false, false, false, false, false, false, false, false] (by kernel_rfl) rfl rfl ⟨(bkC BK322.out 0).trans rfl, (bkC BK322.out 1).trans rfl, (bkC BK322.out 2).trans rfl⟩ (fun hHeld => ?_); refine with_tabW r11_Merge.tab10 r11_Merge.bits10 (fun HT_ HW_ => ?_)
                            generalize w58.drew = w59 at HO_323002 BK322 BK323 HB HO354 HR361 hHeld ⊢
                            refine pure_ (i := 1) (N := some 57) (v := ?_) (a' := ?_) #[false, true, false, false, false, false, false, false, false, false, false, false, false, false, false, false] rfl rfl (any_of HT_.out (by kernel_rfl)) (fun _ _ _ h => h) (Or.inl ⟨by rfl, ?_⟩) ?_ ?_
                            rotate_left
                            · intro w'
                              go_simp
                              with_reducible rfl
                            rotate_left
                            · simp only [Act.put, List.setIfInBounds_toArray, List.set_cons_zero, List.set_cons_succ, i64_w, i32_w]
                              rfl
                            refine pure_ (i := 3) (N := some 59) (v := ?_) (a' := ?_) #[false, true, false, true, false, false, false, false, false, false, false, false, false, false, false, false] rfl rfl (any_of HT_.out (by kernel_rfl)) (fun _ _ _ h => h) (Or.inl ⟨by rfl, ?_⟩) ?_ ?_
                            rotate_left
                            · intro w'
                              go_simp
                              with_reducible rfl
                            rotate_left
                            · simp only [Act.put, List.setIfInBounds_toArray, List.set_cons_zero, List.set_cons_succ, i64_w, i32_w]
                              rfl
                            refine pure_ (i := 4) (N := some 60) (v := ?_) (a' := ?_) #[false, true, false, true, true, false, false, false, false, false, false, false, false, false, false, false] rfl rfl (any_of HT_.out (by kernel_rfl)) (fun _ _ _ h => h) (Or.inl ⟨by rfl, ?_⟩) ?_ ?_
                            rotate_left
                            · intro w'
                              go_simp
                              with_reducible rfl
                            rotate_left
                            · simp only [Act.put, List.setIfInBounds_toArray, List.set_cons_zero, List.set_cons_succ, i64_w, i32_w]
                              rfl
                            refine pure_ (i := 10) (N := some 66) (v := ?_) (a' := ?_) #[false, true, false, true, true, false, false, false, false, false, true, false, false, false, false, false] rfl rfl (any_of HT_.out (by kernel_rfl)) (fun _ _ _ h => h) (Or.inl ⟨by rfl, ?_⟩) ?_ ?_
                            rotate_left
                            · intro w'
                              go_simp
                              with_reducible rfl
                            rotate_left
                            · simp only [Act.put, List.setIfInBounds_toArray, List.set_cons_zero, List.set_cons_succ, i64_w, i32_w]
                              rfl
                            refine pure_ (i := 11) (N := some 67) (v := ?_) (a' := ?_) #[false, true, false, true, true, false, false, false, false, false, true, true, false, false, false, false] rfl rfl (any_of HT_.out (by kernel_rfl)) (fun _ _ _ h => h) (Or.inl ⟨by rfl, ?_⟩) ?_ ?_
                            rotate_left
                            · intro w'
                              go_simp
                              with_reducible rfl
                            rotate_left
                            · simp only [Act.put, List.setIfInBounds_toArray, List.set_cons_zero, List.set_cons_succ, i64_w, i32_w]
                              rfl
                            refine pure_ (i := 12) (N := some 68) (v := ?_) (a' := ?_) #[false, true, false, true, true, false, false, false, false, false, true, true, true, false, false, false] rfl rfl (any_of HT_.out (by kernel_rfl)) (fun _ _ _ h => h) (Or.inl ⟨by rfl, ?_⟩) ?_ ?_
                            rotate_left
                            · intro w'
                              go_simp
                              with_reducible rfl
                            rotate_left
                            · simp only [Act.put, List.setIfInBounds_toArray, List.set_cons_zero, List.set_cons_succ, i64_w, i32_w]
                              rfl
                            refine take_ (i := 2) (N := some 58) (v := ?_) (a' := ?_) #[false, true, true, true, true, false, false, false, false, false, true, true, true, false, false, false] rfl rfl (take_ofW HT_.out HW_.out (by kernel_rfl)) (fun _ _ _ h => h) (Or.inl ⟨by rfl, ?_⟩) hHeld ?_ ?_
                            rotate_left
                            · rintro w' ⟨s0, s1, s2⟩
                              go_simp
                              with_reducible rfl
                            rotate_left
                            · simp only [Act.put, List.setIfInBounds_toArray, List.set_cons_zero, List.set_cons_succ, i64_w, i32_w]
                              rfl
                            refine take_ (i := 5) (N := some 61) (v := ?_) (a' := ?_) #[false, true, true, true, true, true, false, false, false, false, true, true, true, false, false, false] rfl rfl (take_ofW HT_.out HW_.out (by kernel_rfl)) (fun _ _ _ h => h) (Or.inl ⟨by rfl, ?_⟩) hHeld ?_ ?_
                            rotate_left
                            · rintro w' ⟨s0, s1, s2⟩
                              go_simp
                              with_reducible rfl
                            rotate_left
                            · simp only [Act.put, List.setIfInBounds_toArray, List.set_cons_zero, List.set_cons_succ, i64_w, i32_w]
                              rfl
                            refine pure_ (i := 6) (N := some 62) (v := ?_) (a' := ?_) #[false, true, true, true, true, true, true, false, false, false, true, true, true, false, false, false] rfl rfl (any_of HT_.out (by kernel_rfl)) (fun _ _ _ h => h) (Or.inl ⟨by rfl, ?_⟩) ?_ ?_
                            rotate_left
                            · intro w'
                              go_simp
                              with_reducible rfl
                            rotate_left
                            · simp only [Act.put, List.setIfInBounds_toArray, List.set_cons_zero, List.set_cons_succ, i64_w, i32_w]
                              rfl
                            refine pure_ (i := 7) (N := some 63) (v := ?_) (a' := ?_) #[false, true, true, true, true, true, true, true, false, false, true, true, true, false, false, false] rfl rfl (any_of HT_.out (by kernel_rfl)) (fun _ _ _ h => h) (Or.inl ⟨by rfl, ?_⟩) ?_ ?_
                            rotate_left
                            · intro w'
                              go_simp
                              with_reducible rfl
                            rotate_left
                            · simp only [Act.put, List.setIfInBounds_toArray, List.set_cons_zero, List.set_cons_succ, i64_w, i32_w]
                              rfl
                            refine pure_ (i := 8) (N := some 64) (v := ?_) (a' := ?_) #[false, true, true, true, true, true, true, true, true, false, true, true, true, false, false, false] rfl rfl (any_of HT_.out (by kernel_rfl)) (fun _ _ _ h => h) (Or.inl ⟨by rfl, ?_⟩) ?_ ?_
                            rotate_left
                            · intro w'
                              go_simp
                              with_reducible rfl
                            rotate_left
                            · simp only [Act.put, List.setIfInBounds_toArray, List.set_cons_zero, List.set_cons_succ, i64_w, i32_w]
                              rfl
                            refine one_ (i := 0) (N := some 56) #[true, true, true, true, true, true, true, true, true, false, true, true, true, false, false, false] rfl rfl (one_of HT_.out (by kernel_rfl)) (by decide) (fun K hK => ?_)
                            refine Kd.R_lit_step k54 _ 54 ?hg (N := 56) ?hd (xs := ([] : List (S54))) (inner := []) (ok := fun _ => True) (okp := fun _ => True) ?hr ?hp (fun _ hk => hk) trivial (Below.refl _ _) (Nat.le_refl _) (by simp) ?_; (case hd => rfl); (case hg => rfl); (case hr => first | (go_simp; done) | (go_simp; rfl)); (case hp => exact (Reps.none _ _))
                            intro v348 w62 ho63 hb hg_ hnew_
                            clear hg_ hnew_
                            (first | rw [← Ny347.out] at ho63 | (simp only [Int.reduceToNat] at ho63; rw [← Ny347.out] at ho63))
                            have n0_ := Az.mk (Kd.V_elder' (by (with_reducible repeat (first | apply Kd.V_alloc | apply Kd.V_drewN | apply Kd.V_drew)); exact HO_323002.out) (Kd.R_base ho63) hb)
                            have n1_ := Az.mk (Kd.V_elder' (by (with_reducible repeat (first | apply Kd.V_alloc | apply Kd.V_drewN | apply Kd.V_drew)); exact HO354.out) (Kd.R_base ho63) hb)
                            have n2_ := Az.mk (Kd.R_lower (Kd.R_newM (M := fun k_ => (w.heap.size ≤ k_)) ho63 (pbZ (by repeat (first | (with_reducible first | exact HB.out | apply pbA | apply pbN | apply pb1 | refine pbS ?_ GE322.out | refine pbS ?_ GE323.out) | exact HB.out))) (fun k_ h_ => h_)) (pbZ (by repeat (first | (with_reducible first | exact HB.out | apply pbA | apply pbN | apply pb1 | refine pbS ?_ GE322.out | refine pbS ?_ GE323.out) | exact HB.out))))
                            have n3_ := Az.mk (bkB (g := gb322) (o := .cells #[.int .i64 a0_0, .int .i64 a0_1, .slice Ao57 x323002_2.length co57] 24 (0, 0)) (by (with_reducible repeat (first | refine bkN ?_ _ | refine bkD ?_ | refine bkA ?_ _)); exact BK322.out) hb)
                            have n4_ := Az.mk (bkB (g := gb323) (o := .cells #[.int .i64 x324000_2, .int .i64 x324001_2, .slice none 0 0] 24 (0, 0)) (by (with_reducible repeat (first | refine bkN ?_ _ | refine bkD ?_ | refine bkA ?_ _)); exact BK323.out) hb)
                            have n5_ := Az.mk (pbT (by repeat (first | (with_reducible first | exact HB.out | apply pbA | apply pbN | apply pb1 | refine pbS ?_ GE322.out | refine pbS ?_ GE323.out) | exact HB.out)) hb)
                            clear HO_323002
                            clear HO354
                            clear BK322
                            clear BK323
                            clear HB
                            have HO_323002 := n0_
                            have HO354 := n1_
                            have HO349 := n2_
                            have BK322 := n3_
                            have BK323 := n4_
                            have HB := n5_
                            clear n0_ n1_ n2_ n3_ n4_ n5_
                            clear hb ho63
                            refine hK.out _ _ ⟨(bkC BK322.out 0).trans rfl, (bkC BK322.out 1).trans rfl, (bkC BK322.out 2).trans rfl⟩ (fun hHeld => ?_)
                            clear hK K
                            refine norm_ (a' := ?_) ?_ ?_
                            rotate_left
                            · show Act.put _ (some 56) _ = _
                              simp only [Act.put, List.setIfInBounds_toArray, List.set_cons_zero, List.set_cons_succ, i64_w, i32_w]
                              rfl
                            refine one_ (i := 9) (N := some 65) #[true, true, true, true, true, true, true, true, true, true, true, true, true, false, false, false] rfl rfl (one_of HT_.out (by kernel_rfl)) (by decide) (fun K hK => ?_)
                            refine Kd.R_append_rows_step k54 (w0 := w) w.heap.size (by rfl) (.tmp 56) (.tmp 64) 22 54 (.agg #[(.int .i64 0), (.string ⟨#[]⟩)]) 24 rfl Tryd.underlying22 info54 rfl (by decide) (by omega) v348 y347 y350 _ _ _ (fun k_ => (w.heap.size ≤ k_)) (fun _ => False) rfl rfl ?aO ?aR (fun _ _ h => h) (fun _ h => h.elim) ?aF ?aB ?aS ?aL ?_
                            (case aR => repeat (first | exact (Kd.V_reads' HO354.out).2.2 | (with_reducible refine Kd.C_alloc ?_ _) | (with_reducible refine Kd.C_drewN ?_ _) | (with_reducible refine Kd.C_drew ?_)))
                            (case aB => exact (by repeat (first | (with_reducible first | exact HB.out | apply pbA | apply pbN | apply pb1 | refine pbS ?_ GE322.out | refine pbS ?_ GE323.out) | exact HB.out)))
                            (case aF => exact (fun k_ hk => (Nat.le_trans (pbZ (by repeat (first | (with_reducible first | exact HB.out | apply pbA | apply pbN | apply pb1 | refine pbS ?_ GE322.out | refine pbS ?_ GE323.out) | exact HB.out))) hk)))
                            (case aO => exact (by (with_reducible repeat (first | apply Kd.R_alloc | apply Kd.R_drewN | apply Kd.R_drew)); exact Kd.R_mono HO349.out (fun _ hk => hk.1)))
                            (case aS => exact (pbZ (by repeat (first | (with_reducible first | exact HB.out | apply pbA | apply pbN | apply pb1 | refine pbS ?_ GE322.out | refine pbS ?_ GE323.out) | exact HB.out))))
                            (case aL => have := LMc51.out; omega)
                            intro v356 w64 ho hb hg hat
                            rw [← Ny355.out] at ho
                            have n0_ := Az.mk (Kd.V_afterv (ok := (fun k_ => (P0_2_ k_ ∨ w.heap.size ≤ k_) ∧ k_ ≠ gb322 ∧ k_ ≠ gb323)) (by (with_reducible repeat (first | apply Kd.V_alloc | apply Kd.V_drewN | apply Kd.V_drew)); exact HO_323002.out) hg hat)
                            have n1_ := Az.mk (blk_grown (g := gb322) (o := .cells #[.int .i64 a0_0, .int .i64 a0_1, .slice Ao57 x323002_2.length co57] 24 (0, 0)) (by (with_reducible repeat (first | refine bkN ?_ _ | refine bkD ?_ | refine bkA ?_ _)); exact BK322.out) hg (Kd.R_ne HO349.out BK322.out (by decide)))
                            have n2_ := Az.mk (blk_grown (g := gb323) (o := .cells #[.int .i64 x324000_2, .int .i64 x324001_2, .slice none 0 0] 24 (0, 0)) (by (with_reducible repeat (first | refine bkN ?_ _ | refine bkD ?_ | refine bkA ?_ _)); exact BK323.out) hg (Kd.R_ne HO349.out BK323.out (by decide)))
                            have n3_ := Az.mk (Kd.V_afterv (ok := (fun k_ => (P0_2_ k_ ∨ w.heap.size ≤ k_) ∧ k_ ≠ gb322 ∧ k_ ≠ gb323)) (by (with_reducible repeat (first | apply Kd.V_alloc | apply Kd.V_drewN | apply Kd.V_drew)); exact HO354.out) hg hat)
                            have n4_ := Az.mk (hb)
                            have n5_ := Az.mk (ho)
                            clear HO_323002
                            clear BK322
                            clear BK323
                            clear HO354
                            clear HB
                            clear HO349
                            have HO_323002 := n0_
                            have BK322 := n1_
                            have BK323 := n2_
                            have HO354 := n3_
                            have HB := n4_
                            have HO357 := n5_
                            clear n0_ n1_ n2_ n3_ n4_ n5_
                            clear ho hb hg hat
                            refine hK.out _ _ ⟨(bkC BK322.out 0).trans rfl, (bkC BK322.out 1).trans rfl, (bkC BK322.out 2).trans rfl⟩ (fun hHeld => ?_)
                            clear hK K
                            refine norm_ (a' := ?_) ?_ ?_
                            rotate_left
                            · show Act.put _ (some 65) _ = _
                              simp only [Act.put, List.setIfInBounds_toArray, List.set_cons_zero, List.set_cons_succ, i64_w, i32_w]
                              rfl
                            refine one_ (i := 13) (N := some 69) #[true, true, true, true, true, true, true, true, true, true, true, true, true, true, false, false] rfl rfl (one_of HT_.out (by kernel_rfl)) (by decide) (fun K hK => ?_)
                            refine Kd.R_append_rows_step k54 (w0 := w) w.heap.size (by rfl) (.tmp 65) (.tmp 68) 22 54 (.agg #[(.int .i64 0), (.string ⟨#[]⟩)]) 24 rfl Tryd.underlying22 info54 rfl (by decide) (by omega) v356 y355 y358 _ _ _ (fun k_ => (w.heap.size ≤ k_)) (fun _ => False) rfl rfl ?aO ?aR (fun _ _ h => h) (fun _ h => h.elim) ?aF ?aB ?aS ?aL ?_
                            (case aR => repeat (first | exact (Kd.C_below HR361.out HB.out) | (with_reducible refine Kd.C_alloc ?_ _) | (with_reducible refine Kd.C_drewN ?_ _) | (with_reducible refine Kd.C_drew ?_)))
                            (case aB => exact (by repeat (first | (with_reducible first | exact HB.out | apply pbA | apply pbN | apply pb1 | refine pbS ?_ GE322.out | refine pbS ?_ GE323.out) | exact HB.out)))
                            (case aF => exact (fun k_ hk => (Nat.le_trans (pbZ (by repeat (first | (with_reducible first | exact HB.out | apply pbA | apply pbN | apply pb1 | refine pbS ?_ GE322.out | refine pbS ?_ GE323.out) | exact HB.out))) hk)))
                            (case aO => exact (by (with_reducible repeat (first | apply Kd.R_alloc | apply Kd.R_drewN | apply Kd.R_drew)); exact HO357.out))
                            (case aS => exact (pbZ (by repeat (first | (with_reducible first | exact HB.out | apply pbA | apply pbN | apply pb1 | refine pbS ?_ GE322.out | refine pbS ?_ GE323.out) | exact HB.out))))
                            (case aL => have := LMc54.out; omega)
                            intro v363 w65 ho hb hg hat
                            rw [← Ny362.out] at ho
                            have n0_ := Az.mk (Kd.V_afterv (ok := (fun k_ => (P0_2_ k_ ∨ w.heap.size ≤ k_) ∧ k_ ≠ gb322 ∧ k_ ≠ gb323)) (by (with_reducible repeat (first | apply Kd.V_alloc | apply Kd.V_drewN | apply Kd.V_drew)); exact HO_323002.out) hg hat)
                            have n1_ := Az.mk (blk_grown (g := gb322) (o := .cells #[.int .i64 a0_0, .int .i64 a0_1, .slice Ao57 x323002_2.length co57] 24 (0, 0)) (by (with_reducible repeat (first | refine bkN ?_ _ | refine bkD ?_ | refine bkA ?_ _)); exact BK322.out) hg (Kd.R_ne HO357.out BK322.out (by decide)))
                            have n2_ := Az.mk (blk_grown (g := gb323) (o := .cells #[.int .i64 x324000_2, .int .i64 x324001_2, .slice none 0 0] 24 (0, 0)) (by (with_reducible repeat (first | refine bkN ?_ _ | refine bkD ?_ | refine bkA ?_ _)); exact BK323.out) hg (Kd.R_ne HO357.out BK323.out (by decide)))
                            have n3_ := Az.mk (Kd.V_afterv (ok := (fun k_ => (P0_2_ k_ ∨ w.heap.size ≤ k_) ∧ k_ ≠ gb322 ∧ k_ ≠ gb323)) (by (with_reducible repeat (first | apply Kd.V_alloc | apply Kd.V_drewN | apply Kd.V_drew)); exact HO354.out) hg hat)
                            have n4_ := Az.mk (hb)
                            have n5_ := Az.mk (ho)
                            clear HO_323002
                            clear BK322
                            clear BK323
                            clear HO354
                            clear HB
                            clear HO357
                            have HO_323002 := n0_
                            have BK322 := n1_
                            have BK323 := n2_
                            have HO354 := n3_
                            have HB := n4_
                            have HO364 := n5_
                            clear n0_ n1_ n2_ n3_ n4_ n5_
                            clear ho hb hg hat
                            obtain ⟨Ao66, co66, eo66⟩ := Kd.R_slice HO364.out
                            (first | subst eo66 | (injection eo66 with f1_ f2_ f3_; have f4_ := f1_.symm; have f5_ := f3_.symm; clear f1_ f2_ f3_; subst f4_; subst f5_))
                            refine hK.out _ _ ⟨(bkC BK322.out 0).trans rfl, (bkC BK322.out 1).trans rfl, (bkC BK322.out 2).trans rfl⟩ (fun hHeld => ?_)
                            clear hK K
                            refine norm_ (a' := ?_) ?_ ?_
                            rotate_left
                            · show Act.put _ (some 69) _ = _
                              simp only [Act.put, List.setIfInBounds_toArray, List.set_cons_zero, List.set_cons_succ, i64_w, i32_w]
                              rfl
                            refine pure_ (i := 14) (N := some 70) (v := ?_) (a' := ?_) #[true, true, true, true, true, true, true, true, true, true, true, true, true, true, true, false] rfl rfl (any_of HT_.out (by kernel_rfl)) (fun _ _ _ h => h) (Or.inl ⟨by rfl, ?_⟩) ?_ ?_
                            rotate_left
                            · intro w'
                              go_simp
                              with_reducible rfl
                            rotate_left
                            · simp only [Act.put, List.setIfInBounds_toArray, List.set_cons_zero, List.set_cons_succ, i64_w, i32_w]
                              rfl
                            refine last_ (i := 15) (N := none) #[true, true, true, true, true, true, true, true, true, true, true, true, true, true, true, true] rfl rfl (one_of HT_.out (by kernel_rfl)) (by decide) (fun K hK => ?_)
                            have hs67 : w65.cell? ⟨gb322, 2, none⟩ = some (.slice Ao57 x323002_2.length co57) := (bkC BK322.out 2).trans rfl
                            have hfs67 := bkF BK322.out 2
                            have hns67_1 := NB323_322.out
                            have hms67_1 := NB322_323.out
                            refine skip_ (w1 := ?_) (by rfl) rfl ?_ ?_
                            rotate_left
                            · go_simp
                              rfl
                            refine hK.out _ _ ?_
                            clear hK K
                            refine done_ (done_of HT_.out (by kernel_rfl)) ?_
                            have hcz68_0 : w65.cell? ⟨gb322, 0, none⟩ = some (.int .i64 a0_0) := (bkC BK322.out 0).trans rfl
                            have hcz68_1 : w65.cell? ⟨gb322, 1, none⟩ = some (.int .i64 a0_1) := (bkC BK322.out 1).trans rfl
                            have hcz68_2 : w65.cell? ⟨gb322, 2, none⟩ = some (.slice Ao57 x323002_2.length co57) := (bkC BK322.out 2).trans rfl
                            have hfz68_0 := bkF BK322.out 0
                            have hfz68_1 := bkF BK322.out 1
                            have hfz68_2 := bkF BK322.out 2
                            have hcz69_0 : w65.cell? ⟨gb323, 0, none⟩ = some (.int .i64 x324000_2) := (bkC BK323.out 0).trans rfl
                            have hcz69_1 : w65.cell? ⟨gb323, 1, none⟩ = some (.int .i64 x324001_2) := (bkC BK323.out 1).trans rfl
                            have hcz69_2 : w65.cell? ⟨gb323, 2, none⟩ = some (.slice none 0 0) := (bkC BK323.out 2).trans rfl
                            have hfz69_0 := bkF BK323.out 0
                            have hfz69_1 := bkF BK323.out 1
                            have hfz69_2 := bkF BK323.out 2
                            try go_wp2
                            refine bodyPost_ret (results_ct rfl _ _ gb323 24 #[.int .i64 a0_0, .int .i64 a0_1, .slice Ao66 y362.length co66] (0, 0) _ rfl (by (with_reducible repeat (first | refine bkN ?_ _ | refine bkD ?_ | refine bkA ?_ _)); refine blk_put (cs := #[.int .i64 a0_0, .int .i64 a0_1, .slice none 0 0]) ?_ 2 _ rfl; (with_reducible repeat (first | refine bkN ?_ _ | refine bkD ?_ | refine bkA ?_ _)); refine blk_put (cs := #[.int .i64 a0_0, .int .i64 x324001_2, .slice none 0 0]) ?_ 1 _ rfl; (with_reducible repeat (first | refine bkN ?_ _ | refine bkD ?_ | refine bkA ?_ _)); refine blk_put (cs := #[.int .i64 x324000_2, .int .i64 x324001_2, .slice none 0 0]) ?_ 0 _ rfl; (with_reducible repeat (first | refine bkN ?_ _ | refine bkD ?_ | refine bkA ?_ _)); refine blk_far ?_ NB323_322.out _; (with_reducible repeat (first | refine bkN ?_ _ | refine bkD ?_ | refine bkA ?_ _)); exact BK323.out) Tryd.underlying24 rfl (by kernel_rfl)) rfl ?_
                            exact ⟨_, by first | rfl | (simp [errW_none, errW_some] <;> rfl) | (simp only [← hji48]; first | rfl | (simp [errW_none, errW_some] <;> rfl)) | (simp [*, errW_none, errW_some] <;> rfl), Kd.V_mono (Kd.R_V (by (with_reducible repeat (first | apply Kd.R_alloc | apply Kd.R_drewN | apply Kd.R_drew)); exact Kd.R_mono (Kd.R_far (p := ⟨gb323, 2, none⟩) (Kd.R_far (p := ⟨gb323, 1, none⟩) (Kd.R_far (p := ⟨gb323, 0, none⟩) (Kd.R_far (p := ⟨gb322, 2, none⟩) (Kd.R_types (Kd.R_types HO364.out BK322.out (by decide)) BK323.out (by decide)) (fun _ hk => hk.1.2) (.slice Ao66 y362.length co66)) (fun _ hk => hk.2) (.int .i64 a0_0)) (fun _ hk => hk.2) (.int .i64 a0_1)) (fun _ hk => hk.2) (.slice Ao66 y362.length co66)) (fun _ hk => hk.1.1))) (fun k_ hk => by first | exact ⟨(.inr (hk.1)), hk.2⟩ | exact (.inr (hk))), by repeat (first | (with_reducible first | exact HB.out | apply pbA | apply pbN | apply pb1 | refine pbS ?_ GE322.out | refine pbS ?_ GE323.out) | exact HB.out)⟩
                          · rw [if_neg c54] at H
                            exact absurd H (by simp)
                        · rw [if_neg c53] at H
                          exact absurd H (by simp)
                      · rw [if_neg c52] at H
                        exact absurd H (by simp)
                    · rw [if_neg c51] at H
                      exact absurd H (by simp)
                  · rw [if_neg c50] at H
                    exact absurd H (by simp)
                · rw [if_neg c49] at H
                  exact absurd H (by simp)
            · rw [if_neg c17] at H
              have c17b0 : decide (x12_2 < (l3.length : Int)) = false := decide_eq_false c17
              clear c17
              simp only [Option.some.injEq, Prod.mk.injEq] at H
              obtain ⟨rfl, rfl, rfl, rfl⟩ := H
              have hnb70 := NB322_323.out
              have hnc70 := NB323_322.out
              have hcz71_0 : wr.cell? ⟨gb322, 0, none⟩ = some (.int .i64 a0_0) := (bkC BK322.out 0).trans rfl
              have hcz71_1 : wr.cell? ⟨gb322, 1, none⟩ = some (.int .i64 a0_1) := (bkC BK322.out 1).trans rfl
              have hcz71_2 : wr.cell? ⟨gb322, 2, none⟩ = some (u323002) := (bkC BK322.out 2).trans rfl
              have hfz71_0 := bkF BK322.out 0
              have hfz71_1 := bkF BK322.out 1
              have hfz71_2 := bkF BK322.out 2
              have hcz72_0 : wr.cell? ⟨gb323, 0, none⟩ = some (.int .i64 x324000_2) := (bkC BK323.out 0).trans rfl
              have hcz72_1 : wr.cell? ⟨gb323, 1, none⟩ = some (.int .i64 x324001_2) := (bkC BK323.out 1).trans rfl
              have hcz72_2 : wr.cell? ⟨gb323, 2, none⟩ = some (.slice none 0 0) := (bkC BK323.out 2).trans rfl
              have hfz72_0 := bkF BK323.out 0
              have hfz72_1 := bkF BK323.out 1
              have hfz72_2 := bkF BK323.out 2
              obtain ⟨Ao73, co73, eo73⟩ := Kd.V_slice HO_323002.out
              subst eo73
              go_wp2
              refine bodyPost_ret (results_ct rfl _ _ gb323 24 #[.int .i64 a0_0, .int .i64 a0_1, .slice Ao73 x323002_2.length co73] (0, 0) _ rfl (by (with_reducible repeat (first | refine bkN ?_ _ | refine bkD ?_ | refine bkA ?_ _)); refine blk_put (cs := #[.int .i64 a0_0, .int .i64 a0_1, .slice none 0 0]) ?_ 2 _ rfl; (with_reducible repeat (first | refine bkN ?_ _ | refine bkD ?_ | refine bkA ?_ _)); refine blk_put (cs := #[.int .i64 a0_0, .int .i64 x324001_2, .slice none 0 0]) ?_ 1 _ rfl; (with_reducible repeat (first | refine bkN ?_ _ | refine bkD ?_ | refine bkA ?_ _)); refine blk_put (cs := #[.int .i64 x324000_2, .int .i64 x324001_2, .slice none 0 0]) ?_ 0 _ rfl; (with_reducible repeat (first | refine bkN ?_ _ | refine bkD ?_ | refine bkA ?_ _)); exact BK323.out) Tryd.underlying24 rfl (by kernel_rfl)) rfl ?_
              exact ⟨_, by first | rfl | (simp [errW_none, errW_some] <;> rfl) | (simp [*, errW_none, errW_some] <;> rfl), by (with_reducible repeat (first | apply Kd.V_alloc | apply Kd.V_drewN | apply Kd.V_drew)); exact Kd.V_mono (Kd.V_far (p := ⟨gb323, 2, none⟩) (Kd.V_far (p := ⟨gb323, 1, none⟩) (Kd.V_far (p := ⟨gb323, 0, none⟩) (Kd.V_mono HO_323002.out (fun k_ hk => (⟨hk, hk.2.2⟩ : _ ∧ k_ ≠ gb323))) (fun _ hk => hk.2) (.int .i64 a0_0)) (fun _ hk => hk.2) (.int .i64 a0_1)) (fun _ hk => hk.2) (.slice Ao73 x323002_2.length co73)) (fun _ hk => hk.1.1), by repeat (first | (with_reducible first | exact HB.out | apply pbA | apply pbN | apply pb1 | refine pbS ?_ GE322.out | refine pbS ?_ GE323.out) | exact HB.out)⟩
end Go.Proofs.YtjpihfjgomoijaaDoor.P
end
