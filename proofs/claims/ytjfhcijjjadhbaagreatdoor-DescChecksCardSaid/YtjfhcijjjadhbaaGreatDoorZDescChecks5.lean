import Derived.Test.YtjfhcijjjadhbaaGreatDoorZDescChecks1
import Derived.Test.YtjfhcijjjadhbaaGreatDoorZDescChecks2
import Derived.Test.YtjfhcijjjadhbaaGreatDoorZDescChecks3
import Derived.Test.YtjfhcijjjadhbaaGreatDoorZDescChecks4
set_option linter.unusedVariables false
set_option linter.unusedSimpArgs false
set_option linter.unnecessarySimpa false
section
namespace Go.Proofs.YtjfhcijjjadhbaaGreatDoor.P
open Go.RowKit Go.Proofs.YtjfhcijjjadhbaaGreatDoor.K Go.Proofs.YtjfhcijjjadhbaaGreatDoorW.PrintWords Go.Proofs.YtjfhcijjjadhbaaGreatDoorW.PrintLast Go.Proofs.YtjfhcijjjadhbaaGreatDoorW.PrintMore
attribute [local go_sem] max2_int min2_int max_two min_two max_three min_three max_four min_four   -- for this text's walks alone
def l06_liveT.f (k : Nat)  : Option (Bool) := (desc_First.f k (([1, 2, 3] : List Int))).bind fun bt262 => ((desc_Split.f bt262.1 bt262.2.1 bt262.2.2.1 bt262.2.2.2.1 bt262.2.2.2.2.1 bt262.2.2.2.2.2.1 (⟨#[109]⟩ : ByteArray) 2).bind fun bt272 => ((desc_Add.f bt272.2.2.2.2.2.2.1 bt272.2.2.2.2.2.2.2.1 bt272.2.2.2.2.2.2.2.2.1 bt272.2.2.2.2.2.2.2.2.2.1 bt272.2.2.2.2.2.2.2.2.2.2.1 bt272.2.2.2.2.2.2.2.2.2.2.2.1 4).bind fun bt291 => ((desc_Put.f k bt291.1 bt291.2.1 bt291.2.2.1 bt291.2.2.2.1 bt291.2.2.2.2.1 bt291.2.2.2.2.2.1).bind fun t301 => ((desc_Parse.f k t301).bind fun bt302 => ((desc_On.f bt291.1 bt291.2.1 bt291.2.2.1 bt291.2.2.2.1 bt291.2.2.2.2.1 bt291.2.2.2.2.2.1 4).bind fun bt312 => ((desc_Merge.f k bt272.2.2.2.2.2.2.1 bt272.2.2.2.2.2.2.2.1 bt272.2.2.2.2.2.2.2.2.1 bt272.2.2.2.2.2.2.2.2.2.1 bt272.2.2.2.2.2.2.2.2.2.2.1 bt272.2.2.2.2.2.2.2.2.2.2.2.1 bt272.1 bt272.2.1 bt272.2.2.1 bt272.2.2.2.1 bt272.2.2.2.2.1 bt272.2.2.2.2.2.1).bind fun bt316 => ((l06_num.f bt262.2.2.2.2.2.2).bind fun t326 => ((l06_num.f bt272.2.2.2.2.2.2.2.2.2.2.2.2).bind fun t327 => ((l06_num.f bt291.2.2.2.2.2.2).bind fun t328 => ((l06_num.f bt302.2.2.2.2.2.2).bind fun t329 => (if (wrap64 ((wrap64 ((wrap64 (t326 + t327)) + t328)) + t329)) = 0 then (if bt272.2.2.1.toList = ([109] : List UInt8) then (if bt272.2.2.2.2.2.2.1 = 2 then (if bt272.2.2.2.2.2.2.2.2.2.1 = 2 then (if bt291.2.2.2.2.2.1 = 5 then ((r06_Same.f k bt302.1 bt302.2.1 bt302.2.2.1 bt302.2.2.2.1 bt302.2.2.2.2.1 bt302.2.2.2.2.2.1 bt291.1 bt291.2.1 bt291.2.2.1 bt291.2.2.2.1 bt291.2.2.2.2.1 bt291.2.2.2.2.2.1).bind fun t330 => (if t330 = true then (if bt312.2.2 = true then (if bt312.2.1 = 4 then ((desc_Quorum.f 4).bind fun t331 => (if t331 = 3 then ((l06_num.f bt316.2.2.2.2.2.2).bind fun t332 => (if t332 = 20 then ((desc_Check.f 0 (⟨#[]⟩ : ByteArray) (⟨#[]⟩ : ByteArray) 0 ([] : List (S30)) 0).bind fun t333 => ((l06_num.f t333).bind fun t334 => (some (t334 == 60)))) else (some false))) else (some false))) else (some false)) else (some false)) else (some false))) else (some false)) else (some false)) else (some false)) else (some false)) else (some false))))))))))))
theorem l06_liveT.mono : ∀ k, LeO (l06_liveT.f k ) (l06_liveT.f (k + 1) ) := by
 intro  k
 unfold l06_liveT.f
 repeat' first
  | (with_reducible exact desc_First.mono _ _)
  | (with_reducible exact desc_Merge.mono _ _ _ _ _ _ _ _ _ _ _ _ _)
  | (with_reducible exact desc_Parse.mono _ _)
  | (with_reducible exact desc_Put.mono _ _ _ _ _ _ _)
  | (with_reducible exact r06_Same.mono _ _ _ _ _ _ _ _ _ _ _ _ _)
  | (with_reducible exact LeO.refl _)
  | (with_reducible exact LeO.none _)
  | (with_reducible refine LeO.ite ?_ ?_)
  | (with_reducible refine LeO.bind ?_ (fun _ => ?_))
  | exact desc_First.mono _ _
  | exact desc_Merge.mono _ _ _ _ _ _ _ _ _ _ _ _ _
  | exact desc_Parse.mono _ _
  | exact desc_Put.mono _ _ _ _ _ _ _
  | exact r06_Same.mono _ _ _ _ _ _ _ _ _ _ _ _ _
  | exact LeO.none _
  | refine LeO.ite ?_ ?_
  | refine LeO.bind ?_ (fun _ => ?_)
set_option maxHeartbeats 8000000 in
set_option maxRecDepth 100000 in
theorem l06_liveT.calls (k : Nat)  (r : Bool) (w : World) (hG : TheG w) (hr : r = true) (h : l06_liveT.f k  = some r) :
 Calls Tryz.prog 5 #[] w fun e w' => e = .returned (.bool r) ∧ Below w.heap.size w w' := by
 have hu26 := Tryz.underlying26
 have hu30 := Tryz.underlying30
 have HB := Az.mk (Below.refl w.heap.size w)
 have H : ((desc_First.f k (([1, 2, 3] : List Int))).bind fun bt262 => ((desc_Split.f bt262.1 bt262.2.1 bt262.2.2.1 bt262.2.2.2.1 bt262.2.2.2.2.1 bt262.2.2.2.2.2.1 (⟨#[109]⟩ : ByteArray) 2).bind fun bt272 => ((desc_Add.f bt272.2.2.2.2.2.2.1 bt272.2.2.2.2.2.2.2.1 bt272.2.2.2.2.2.2.2.2.1 bt272.2.2.2.2.2.2.2.2.2.1 bt272.2.2.2.2.2.2.2.2.2.2.1 bt272.2.2.2.2.2.2.2.2.2.2.2.1 4).bind fun bt291 => ((desc_Put.f k bt291.1 bt291.2.1 bt291.2.2.1 bt291.2.2.2.1 bt291.2.2.2.2.1 bt291.2.2.2.2.2.1).bind fun t301 => ((desc_Parse.f k t301).bind fun bt302 => ((desc_On.f bt291.1 bt291.2.1 bt291.2.2.1 bt291.2.2.2.1 bt291.2.2.2.2.1 bt291.2.2.2.2.2.1 4).bind fun bt312 => ((desc_Merge.f k bt272.2.2.2.2.2.2.1 bt272.2.2.2.2.2.2.2.1 bt272.2.2.2.2.2.2.2.2.1 bt272.2.2.2.2.2.2.2.2.2.1 bt272.2.2.2.2.2.2.2.2.2.2.1 bt272.2.2.2.2.2.2.2.2.2.2.2.1 bt272.1 bt272.2.1 bt272.2.2.1 bt272.2.2.2.1 bt272.2.2.2.2.1 bt272.2.2.2.2.2.1).bind fun bt316 => ((l06_num.f bt262.2.2.2.2.2.2).bind fun t326 => ((l06_num.f bt272.2.2.2.2.2.2.2.2.2.2.2.2).bind fun t327 => ((l06_num.f bt291.2.2.2.2.2.2).bind fun t328 => ((l06_num.f bt302.2.2.2.2.2.2).bind fun t329 => (if (wrap64 ((wrap64 ((wrap64 (t326 + t327)) + t328)) + t329)) = 0 then (if bt272.2.2.1.toList = ([109] : List UInt8) then (if bt272.2.2.2.2.2.2.1 = 2 then (if bt272.2.2.2.2.2.2.2.2.2.1 = 2 then (if bt291.2.2.2.2.2.1 = 5 then ((r06_Same.f k bt302.1 bt302.2.1 bt302.2.2.1 bt302.2.2.2.1 bt302.2.2.2.2.1 bt302.2.2.2.2.2.1 bt291.1 bt291.2.1 bt291.2.2.1 bt291.2.2.2.1 bt291.2.2.2.2.1 bt291.2.2.2.2.2.1).bind fun t330 => (if t330 = true then (if bt312.2.2 = true then (if bt312.2.1 = 4 then ((desc_Quorum.f 4).bind fun t331 => (if t331 = 3 then ((l06_num.f bt316.2.2.2.2.2.2).bind fun t332 => (if t332 = 20 then ((desc_Check.f 0 (⟨#[]⟩ : ByteArray) (⟨#[]⟩ : ByteArray) 0 ([] : List (S30)) 0).bind fun t333 => ((l06_num.f t333).bind fun t334 => (some (t334 == 60)))) else (some false))) else (some false))) else (some false)) else (some false)) else (some false))) else (some false)) else (some false)) else (some false)) else (some false)) else (some false))))))))))))) = some r := h
 clear h
 obtain ⟨y259, hy259⟩ : ∃ y_ : List Int, y_ = (([1, 2, 3] : List Int)) := ⟨_, rfl⟩
 replace H : ((desc_First.f k y259).bind fun bt262 => ((desc_Split.f bt262.1 bt262.2.1 bt262.2.2.1 bt262.2.2.2.1 bt262.2.2.2.2.1 bt262.2.2.2.2.2.1 (⟨#[109]⟩ : ByteArray) 2).bind fun bt272 => ((desc_Add.f bt272.2.2.2.2.2.2.1 bt272.2.2.2.2.2.2.2.1 bt272.2.2.2.2.2.2.2.2.1 bt272.2.2.2.2.2.2.2.2.2.1 bt272.2.2.2.2.2.2.2.2.2.2.1 bt272.2.2.2.2.2.2.2.2.2.2.2.1 4).bind fun bt291 => ((desc_Put.f k bt291.1 bt291.2.1 bt291.2.2.1 bt291.2.2.2.1 bt291.2.2.2.2.1 bt291.2.2.2.2.2.1).bind fun t301 => ((desc_Parse.f k t301).bind fun bt302 => ((desc_On.f bt291.1 bt291.2.1 bt291.2.2.1 bt291.2.2.2.1 bt291.2.2.2.2.1 bt291.2.2.2.2.2.1 4).bind fun bt312 => ((desc_Merge.f k bt272.2.2.2.2.2.2.1 bt272.2.2.2.2.2.2.2.1 bt272.2.2.2.2.2.2.2.2.1 bt272.2.2.2.2.2.2.2.2.2.1 bt272.2.2.2.2.2.2.2.2.2.2.1 bt272.2.2.2.2.2.2.2.2.2.2.2.1 bt272.1 bt272.2.1 bt272.2.2.1 bt272.2.2.2.1 bt272.2.2.2.2.1 bt272.2.2.2.2.2.1).bind fun bt316 => ((l06_num.f bt262.2.2.2.2.2.2).bind fun t326 => ((l06_num.f bt272.2.2.2.2.2.2.2.2.2.2.2.2).bind fun t327 => ((l06_num.f bt291.2.2.2.2.2.2).bind fun t328 => ((l06_num.f bt302.2.2.2.2.2.2).bind fun t329 => (if (wrap64 ((wrap64 ((wrap64 (t326 + t327)) + t328)) + t329)) = 0 then (if bt272.2.2.1.toList = ([109] : List UInt8) then (if bt272.2.2.2.2.2.2.1 = 2 then (if bt272.2.2.2.2.2.2.2.2.2.1 = 2 then (if bt291.2.2.2.2.2.1 = 5 then ((r06_Same.f k bt302.1 bt302.2.1 bt302.2.2.1 bt302.2.2.2.1 bt302.2.2.2.2.1 bt302.2.2.2.2.2.1 bt291.1 bt291.2.1 bt291.2.2.1 bt291.2.2.2.1 bt291.2.2.2.2.1 bt291.2.2.2.2.2.1).bind fun t330 => (if t330 = true then (if bt312.2.2 = true then (if bt312.2.1 = 4 then ((desc_Quorum.f 4).bind fun t331 => (if t331 = 3 then ((l06_num.f bt316.2.2.2.2.2.2).bind fun t332 => (if t332 = 20 then ((desc_Check.f 0 (⟨#[]⟩ : ByteArray) (⟨#[]⟩ : ByteArray) 0 ([] : List (S30)) 0).bind fun t333 => ((l06_num.f t333).bind fun t334 => (some (t334 == 60)))) else (some false))) else (some false))) else (some false)) else (some false)) else (some false))) else (some false)) else (some false)) else (some false)) else (some false)) else (some false))))))))))))) = some r := by first | (rw [hy259]; with_reducible exact H) | (have H2_ := (Option.bind_some _ _).symm.trans H; rw [hy259]; with_reducible exact H2_) | (have H2_ := (Option.bind_some _ _).symm.trans H; with_reducible exact H2_) | with_reducible exact H | (rw [hy259]; exact H) | exact H
 have Ny259 := Az.mk hy259
 clear hy259
 replace H := Option.bind_eq_some_iff.mp H
 obtain ⟨⟨t262, t263, t264, t265, t266, t269, t270⟩, A10, H⟩ := H
 try dsimp only at H
 have A1 := Az.mk A10
 clear A10
 replace H := Option.bind_eq_some_iff.mp H
 obtain ⟨⟨t272, t273, t274, t275, t276, t279, t280, t281, t282, t283, t284, t287, t288⟩, A20, H⟩ := H
 try dsimp only at H
 have A2 := Az.mk A20
 clear A20
 replace H := Option.bind_eq_some_iff.mp H
 obtain ⟨⟨t291, t292, t293, t294, t295, t298, t299⟩, A30, H⟩ := H
 try dsimp only at H
 have A3 := Az.mk A30
 clear A30
 replace H := Option.bind_eq_some_iff.mp H
 obtain ⟨t301, A40, H⟩ := H
 try dsimp only at H
 have A4 := Az.mk A40
 clear A40
 replace H := Option.bind_eq_some_iff.mp H
 obtain ⟨⟨t302, t303, t304, t305, t306, t309, t310⟩, A50, H⟩ := H
 try dsimp only at H
 have A5 := Az.mk A50
 clear A50
 replace H := Option.bind_eq_some_iff.mp H
 obtain ⟨⟨t312, t313, t314⟩, A60, H⟩ := H
 try dsimp only at H
 have A6 := Az.mk A60
 clear A60
 replace H := Option.bind_eq_some_iff.mp H
 obtain ⟨⟨t316, t317, t318, t319, t320, t323, t324⟩, A70, H⟩ := H
 try dsimp only at H
 have A7 := Az.mk A70
 clear A70
 replace H := Option.bind_eq_some_iff.mp H
 obtain ⟨t326, A80, H⟩ := H
 try dsimp only at H
 have A8 := Az.mk A80
 clear A80
 replace H := Option.bind_eq_some_iff.mp H
 obtain ⟨t327, A90, H⟩ := H
 try dsimp only at H
 have A9 := Az.mk A90
 clear A90
 replace H := Option.bind_eq_some_iff.mp H
 obtain ⟨t328, A100, H⟩ := H
 try dsimp only at H
 have A10 := Az.mk A100
 clear A100
 replace H := Option.bind_eq_some_iff.mp H
 obtain ⟨t329, A110, H⟩ := H
 try dsimp only at H
 have A11 := Az.mk A110
 clear A110
 by_cases c12 : (wrap64 ((wrap64 ((wrap64 (t326 + t327)) + t328)) + t329)) = 0
 ·rw [if_pos c12] at H
  have c12b0 : ((wrap64 ((wrap64 ((wrap64 (t326 + t327)) + t328)) + t329)) == 0) = true := beq_iff_eq.mpr c12
  have c12b1 : ((wrap64 ((wrap64 ((wrap64 (t326 + t327)) + t328)) + t329)) != 0) = false := bne_eq_false_iff_eq.mpr c12
  clear c12
  by_cases c13 : t274.toList = ([109] : List UInt8)
  ·rw [if_pos c13] at H
   have c13b0 : (t274.toList == ([109] : List UInt8)) = true := beq_iff_eq.mpr c13
   have c13b1 : (t274.toList != ([109] : List UInt8)) = false := bne_eq_false_iff_eq.mpr c13
   clear c13
   by_cases c14 : t280 = 2
   ·rw [if_pos c14] at H
    have c14b0 : (t280 == 2) = true := beq_iff_eq.mpr c14
    have c14b1 : (t280 != 2) = false := bne_eq_false_iff_eq.mpr c14
    clear c14
    by_cases c15 : t283 = 2
    ·rw [if_pos c15] at H
     have c15b0 : (t283 == 2) = true := beq_iff_eq.mpr c15
     have c15b1 : (t283 != 2) = false := bne_eq_false_iff_eq.mpr c15
     clear c15
     by_cases c16 : t298 = 5
     ·rw [if_pos c16] at H
      have c16b0 : (t298 == 5) = true := beq_iff_eq.mpr c16
      have c16b1 : (t298 != 5) = false := bne_eq_false_iff_eq.mpr c16
      clear c16
      replace H := Option.bind_eq_some_iff.mp H
      obtain ⟨t330, A170, H⟩ := H
      try dsimp only at H
      have A17 := Az.mk A170
      clear A170
      by_cases c18 : t330 = true
      ·subst c18
       rw [if_pos rfl] at H
       by_cases c19 : t314 = true
       ·subst c19
        rw [if_pos rfl] at H
        by_cases c20 : t313 = 4
        ·rw [if_pos c20] at H
         have c20b0 : (t313 == 4) = true := beq_iff_eq.mpr c20
         have c20b1 : (t313 != 4) = false := bne_eq_false_iff_eq.mpr c20
         clear c20
         replace H := Option.bind_eq_some_iff.mp H
         obtain ⟨t331, A210, H⟩ := H
         try dsimp only at H
         have A21 := Az.mk A210
         clear A210
         by_cases c22 : t331 = 3
         ·rw [if_pos c22] at H
          have c22b0 : (t331 == 3) = true := beq_iff_eq.mpr c22
          have c22b1 : (t331 != 3) = false := bne_eq_false_iff_eq.mpr c22
          clear c22
          replace H := Option.bind_eq_some_iff.mp H
          obtain ⟨t332, A230, H⟩ := H
          try dsimp only at H
          have A23 := Az.mk A230
          clear A230
          by_cases c24 : t332 = 20
          ·rw [if_pos c24] at H
           have c24b0 : (t332 == 20) = true := beq_iff_eq.mpr c24
           have c24b1 : (t332 != 20) = false := bne_eq_false_iff_eq.mpr c24
           clear c24
           replace H := Option.bind_eq_some_iff.mp H
           obtain ⟨t333, A250, H⟩ := H
           try dsimp only at H
           have A25 := Az.mk A250
           clear A250
           replace H := Option.bind_eq_some_iff.mp H
           obtain ⟨t334, A260, H⟩ := H
           replace H : (some (t334 == 60)) = some r := H
           have A26 := Az.mk A260
           clear A260
           obtain rfl := Option.some.inj H
           go_enter Tryz.func5, Tryz.ntmps5
           go_wp2_with (first | ((with_reducible refine gate_dst (N := 15) rfl ?_); refine Kd.R_lit (Kd.int .i64) _ 3 ?hg (N := 15) ?hd (xs := ([1, 2, 3] : List Int)) (inner := [.int .i64 1, .int .i64 2, .int .i64 3]) (ok := fun _ => True) (okp := fun _ => True) ?hr ?hp (fun _ hk => hk) trivial (Below.refl _ _) (Nat.le_refl _) (by simp) ?_; (case hd => rfl); (case hg => rfl); (case hr => first | (go_simp; done) | (go_simp; rfl)); (case hp => exact (Reps.one (show Kd.M (Kd.int .i64) _ _ _ 1 [.int .i64 1] from rfl) (Reps.one (show Kd.M (Kd.int .i64) _ _ _ 2 [.int .i64 2] from rfl) (Reps.one (show Kd.M (Kd.int .i64) _ _ _ 3 [.int .i64 3] from rfl) (Reps.none _ _))))); intro v260 w27 ho28 hb hg_ hnew_; clear hg_ hnew_; (first | rw [← Ny259.out] at ho28 | (simp only [Int.reduceToNat] at ho28; rw [← Ny259.out] at ho28)); have HO261 := Az.mk (Kd.R_lower ho28 (pbZ (by exact pbE HB.out))); replace HB := Az.mk (pbT (by exact pbE HB.out) hb); clear hb ho28; obtain ⟨Ao29, co29, eo29⟩ := Kd.R_slice HO261.out; subst eo29) | ((with_reducible refine gtc (f := 19) rfl ?_); refine goesL_ (some 16) rfl rfl Tryz.func19 (by kernel_rfl) rfl #[.slice Ao29 y259.length co29] rfl (by (try simp only [List.map_toArray, List.map_cons, List.map_nil]); first | done | rfl | (simp only [List.length_drop, List.length_take]; rfl)) ?_; (with_reducible refine (desc_First.calls k _ _ y259 t262 t263 t264 t265 t266 t269 t270 _ ?side1 ?side2 ?side3 A1.out).mono ?_); (case side1 => exact hG.below (by exact pbE HB.out)); (case side2 => exact Kd.C_ext (Kd.R_reads' HO261.out).2.2); (case side3 => exact (Kd.R_reads' HO261.out).2.1); rintro e w30 ⟨v267, rfl, ho0, hb⟩; refine ⟨_, rfl, ?_⟩; have HO268 := Az.mk (Kd.V_lower (Kd.V_mono (ok' := fun k_ => some k_ ≠ (.slice Ao29 y259.length co29 : Value).ownBlock) ho0 (fun k_ hk_ => (Kd.fresh' (Kd.R_lt (Kd.R_ext HO261.out)) k_ hk_))) (pbZ (by exact pbE HB.out))); replace HO261 := Az.mk (Kd.R_below (Kd.R_ext HO261.out) hb); replace HB := Az.mk (pbT (by exact pbE HB.out) hb); (try clear hb); (try clear hb2); (try clear hk); (try clear hi); (try clear ho0)) | ((with_reducible refine gate_dst (N := 1) rfl ?_); refine box_event ?hg (N := 1) ?hd (cs := #[.int .i64 0, .string (⟨#[]⟩ : ByteArray), .string (⟨#[]⟩ : ByteArray), .int .i64 0, .slice none 0 0, .int .i64 0]) (t := 26) ?hr ?_; (case hd => rfl); (case hg => rfl); (case hr => first | (go_simp; done) | (go_simp; rfl)); intro gb271 hg w31 hbox hb; replace HO261 := Az.mk (Kd.R_below (Kd.R_ext HO261.out) hb); replace HO268 := Az.mk (Kd.V_below (Kd.V_elderB (Kd.V_ext HO268.out) gb271 (Nat.le_of_eq hg.symm)) hb); have BK271 := Az.mk (hbox); have GW271 := Az.mk (geO hg (pbE HB.out)); have GE271 := Az.mk (geO hg (pbE HB.out)); replace HB := Az.mk (pbT (by exact pbE HB.out) hb); clear hb hbox hg; have hcz32 := cells6 BK271.out; obtain ⟨Ao33, co33, eo33⟩ := Kd.V_slice HO268.out; subst eo33) | ((with_reducible refine gate_store (t := 26) (p := 1) rfl ?_); refine store_event (t := 26) (p := 1) (v := ?vo_w34) (w1 := ((((((w31.setCell ⟨gb271, 0, none⟩ (.int .i64 t262)).setCell ⟨gb271, 1, none⟩ (.string t263)).setCell ⟨gb271, 2, none⟩ (.string t264)).setCell ⟨gb271, 3, none⟩ (.int .i64 t265)).setCell ⟨gb271, 4, none⟩ (.slice Ao33 t266.length co33)).setCell ⟨gb271, 5, none⟩ (.int .i64 t269))) ?hg ?ho ?hn ?hr ?_; (case ho => rfl); (case hg => rfl); (case hn => rfl); (case hr => first | (go_simp; done) | (go_simp; rfl)); intro w34 hw; have n0_ : Az (Kd.R (Kd.int .i64) 3 w34 w.heap.size (fun _ => True) (.slice Ao29 y259.length co29) y259) := ⟨(by rw [hw]; exact (by (with_reducible repeat (first | apply Kd.R_alloc | apply Kd.R_drewN | apply Kd.R_drew)); exact Kd.R_mono (Kd.R_far (p := ⟨gb271, 5, none⟩) (Kd.R_far (p := ⟨gb271, 4, none⟩) (Kd.R_far (p := ⟨gb271, 3, none⟩) (Kd.R_far (p := ⟨gb271, 2, none⟩) (Kd.R_far (p := ⟨gb271, 1, none⟩) (Kd.R_far (p := ⟨gb271, 0, none⟩) (Kd.R_types HO261.out BK271.out (by decide)) (fun _ hk => hk.2) (.int .i64 t262)) (fun _ hk => hk.2) (.string t263)) (fun _ hk => hk.2) (.string t264)) (fun _ hk => hk.2) (.int .i64 t265)) (fun _ hk => hk.2) (.slice Ao33 t266.length co33)) (fun _ hk => hk.2) (.int .i64 t269)) (fun _ hk => trivial)))⟩; have n1_ : Az (Kd.V k30 30 w34 w.heap.size (fun k_ => some k_ ≠ (.slice Ao29 y259.length co29 : Value).ownBlock ∧ k_ ≠ gb271) (.slice Ao33 t266.length co33) t266) := ⟨(by rw [hw]; exact (by (with_reducible repeat (first | apply Kd.V_alloc | apply Kd.V_drewN | apply Kd.V_drew)); exact Kd.V_mono (Kd.V_off (g := gb271) (fun _ hk => hk.2) (Kd.V_mono HO268.out (fun k_ hk => (⟨hk, hk.2⟩ : _ ∧ k_ ≠ gb271)))) (fun _ hk => ⟨hk.1.1, hk.1.2⟩)))⟩; have n2_ : Az (w34.heap[gb271]? = some (.cells #[.int .i64 t262, .string t263, .string t264, .int .i64 t265, .slice Ao33 t266.length co33, .int .i64 t269] 26 (0, 0))) := ⟨(by rw [hw]; exact (by refine bk ?_; refine blk_put (cs := #[.int .i64 t262, .string t263, .string t264, .int .i64 t265, .slice Ao33 t266.length co33, .int .i64 0]) ?_ 5 _ rfl; refine bk ?_; refine blk_put (cs := #[.int .i64 t262, .string t263, .string t264, .int .i64 t265, .slice none 0 0, .int .i64 0]) ?_ 4 _ rfl; refine bk ?_; refine blk_put (cs := #[.int .i64 t262, .string t263, .string t264, .int .i64 0, .slice none 0 0, .int .i64 0]) ?_ 3 _ rfl; refine bk ?_; refine blk_put (cs := #[.int .i64 t262, .string t263, .string (⟨#[]⟩ : ByteArray), .int .i64 0, .slice none 0 0, .int .i64 0]) ?_ 2 _ rfl; refine bk ?_; refine blk_put (cs := #[.int .i64 t262, .string (⟨#[]⟩ : ByteArray), .string (⟨#[]⟩ : ByteArray), .int .i64 0, .slice none 0 0, .int .i64 0]) ?_ 1 _ rfl; refine bk ?_; refine blk_put (cs := #[.int .i64 0, .string (⟨#[]⟩ : ByteArray), .string (⟨#[]⟩ : ByteArray), .int .i64 0, .slice none 0 0, .int .i64 0]) ?_ 0 _ rfl; refine bk ?_; exact BK271.out))⟩; have n3_ : Az (Below w.heap.size w w34) := ⟨(by rw [hw]; exact (by exact pbE HB.out))⟩; clear hw; clear HO261; clear HO268; clear BK271; clear HB; have HO261 := n0_; have HO268 := n1_; have BK271 := n2_; have HB := n3_; clear n0_ n1_ n2_ n3_; have hcz35 := cells6 BK271.out) | ((with_reducible refine gtc (f := 20) rfl ?_); refine goesL_ (some 21) rfl rfl Tryz.func20 (by kernel_rfl) rfl #[.agg #[.int .i64 t262, .string t263, .string t264, .int .i64 t265, .slice Ao33 t266.length co33, .int .i64 t269], .string (⟨#[109]⟩ : ByteArray), .int .i64 2] rfl (by (try simp only [List.map_toArray, List.map_cons, List.map_nil]); first | done | rfl | (simp only [List.length_drop, List.length_take]; rfl)) ?_; (with_reducible refine (desc_Split.calls t262 t263 t264 t265 (fun k_ => (some k_ ≠ (.slice Ao29 y259.length co29 : Value).ownBlock ∧ k_ ≠ gb271)) _ _ t266 t269 (⟨#[109]⟩ : ByteArray) 2 t272 t273 t274 t275 t276 t279 t280 t281 t282 t283 t284 t287 t288 _ ?side1 ?side2 A2.out).mono ?_); (case side1 => exact hG.below (by exact pbE HB.out)); (case side2 => exact HO268.out); rintro e w36 ⟨v277, v285, rfl, ho0, ho1, hb⟩; refine ⟨_, rfl, ?_⟩; replace HO268 := Az.mk (Kd.V_elder' (Kd.V_ext HO268.out) (Kd.R_base ho1) hb); have HO278 := Az.mk (Kd.V_lower (Kd.V_mono (ok' := fun k_ => some k_ ≠ (v285 : Value).ownBlock ∧ some k_ ≠ (.slice Ao29 y259.length co29 : Value).ownBlock ∧ k_ ≠ gb271) ho0 (fun k_ hk_ => ⟨hk_.2, Or.elim hk_.1 (fun hs_ => hs_.1) (fun hn_ => (Kd.fresh' (Kd.R_lt (Kd.R_ext HO261.out)) k_ hn_)), Or.elim hk_.1 (fun hs_ => hs_.2) (fun hn_ => (Kd.freshB (bk BK271.out) k_ hn_))⟩)) (pbZ (by exact pbE HB.out))); replace HO261 := Az.mk (Kd.R_below (Kd.R_ext HO261.out) hb); have HO286 := Az.mk (Kd.R_lower (Kd.R_mono (ok' := fun k_ => True) ho1 (fun _ hk_ => trivial)) (pbZ (by exact pbE HB.out))); replace BK271 := Az.mk (bkB (bk BK271.out) hb); replace HB := Az.mk (pbT (by exact pbE HB.out) hb); (try clear hb); (try clear hb2); (try clear hk); (try clear hi); (try clear ho0); (try clear ho1)) | ((with_reducible refine gate_dst (N := 3) rfl ?_); refine box_event ?hg (N := 3) ?hd (cs := #[.int .i64 0, .string (⟨#[]⟩ : ByteArray), .string (⟨#[]⟩ : ByteArray), .int .i64 0, .slice none 0 0, .int .i64 0]) (t := 26) ?hr ?_; (case hd => rfl); (case hg => rfl); (case hr => first | (go_simp; done) | (go_simp; rfl)); intro gb289 hg w37 hbox hb; replace HO261 := Az.mk (Kd.R_below (Kd.R_ext HO261.out) hb); replace HO268 := Az.mk (Kd.V_below (Kd.V_elderB (Kd.V_ext HO268.out) gb289 (Nat.le_of_eq hg.symm)) hb); replace HO278 := Az.mk (Kd.V_below (Kd.V_elderB (Kd.V_ext HO278.out) gb289 (Nat.le_of_eq hg.symm)) hb); replace HO286 := Az.mk (Kd.R_below (Kd.R_ext HO286.out) hb); have BK289 := Az.mk (hbox); have GW289 := Az.mk (geO hg (pbE HB.out)); have GE289 := Az.mk (geO hg (pbE HB.out)); replace HB := Az.mk (pbT (by exact pbE HB.out) hb); have NB271_289 := Az.mk (neO hg (bk BK271.out)); have NB289_271 := Az.mk (neP hg (bk BK271.out)); replace BK271 := Az.mk (bkB (bk BK271.out) hb); clear hb hbox hg) | ((with_reducible refine gate_dst (N := 4) rfl ?_); refine box_event ?hg (N := 4) ?hd (cs := #[.int .i64 0, .string (⟨#[]⟩ : ByteArray), .string (⟨#[]⟩ : ByteArray), .int .i64 0, .slice none 0 0, .int .i64 0]) (t := 26) ?hr ?_; (case hd => rfl); (case hg => rfl); (case hr => first | (go_simp; done) | (go_simp; rfl)); intro gb290 hg w38 hbox hb; replace HO261 := Az.mk (Kd.R_below (Kd.R_ext HO261.out) hb); replace HO268 := Az.mk (Kd.V_below (Kd.V_elderB (Kd.V_ext HO268.out) gb290 (Nat.le_of_eq hg.symm)) hb); replace HO278 := Az.mk (Kd.V_below (Kd.V_elderB (Kd.V_ext HO278.out) gb290 (Nat.le_of_eq hg.symm)) hb); replace HO286 := Az.mk (Kd.R_below (Kd.R_ext HO286.out) hb); have BK290 := Az.mk (hbox); have GW290 := Az.mk (geO hg (pbE HB.out)); have GE290 := Az.mk (geO hg (pbE HB.out)); replace HB := Az.mk (pbT (by exact pbE HB.out) hb); have NB271_290 := Az.mk (neO hg (bk BK271.out)); have NB290_271 := Az.mk (neP hg (bk BK271.out)); replace BK271 := Az.mk (bkB (bk BK271.out) hb); have NB289_290 := Az.mk (neO hg (bk BK289.out)); have NB290_289 := Az.mk (neP hg (bk BK289.out)); replace BK289 := Az.mk (bkB (bk BK289.out) hb); clear hb hbox hg; have hnb39 := NB289_271.out; have hnc39 := NB271_289.out; have hnb40 := NB289_290.out; have hnc40 := NB290_289.out; have hcz41 := cells6 BK289.out; obtain ⟨Ao42, co42, eo42⟩ := Kd.V_slice HO278.out; subst eo42; have hnb43 := NB290_271.out; have hnc43 := NB271_290.out; have hcz44 := cells6 BK290.out; obtain ⟨Ao45, co45, eo45⟩ := Kd.R_slice HO286.out; subst eo45) | ((with_reducible refine gtc (f := 21) rfl ?_); refine goesL_ (some 27) rfl rfl Tryz.func21 (by kernel_rfl) rfl #[.agg #[.int .i64 t280, .string t281, .string t282, .int .i64 t283, .slice Ao45 t284.length co45, .int .i64 t287], .int .i64 4] rfl (by (try simp only [List.map_toArray, List.map_cons, List.map_nil]); first | done | rfl | (simp only [List.length_drop, List.length_take]; rfl)) ?_; (with_reducible refine (desc_Add.calls t280 t281 t282 t283 _ _ t284 t287 4 t291 t292 t293 t294 t295 t298 t299 _ ?side1 ?side2 ?side3 A3.out).mono ?_); (case side1 => exact hG.below (by exact pbE HB.out)); (case side2 => refine (Kd.R_reads' (e := 30) (base := w.heap.size) (ok := fun k_ => True) (n := t284.length) (c := co45) ?_).2.2; exact (by (with_reducible repeat (first | apply Kd.R_alloc | apply Kd.R_drewN | apply Kd.R_drew)); exact (Kd.R_mono (Kd.R_mono (Kd.R_far (p := ⟨gb290, 5, none⟩) (Kd.R_far (p := ⟨gb290, 4, none⟩) (Kd.R_far (p := ⟨gb290, 3, none⟩) (Kd.R_far (p := ⟨gb290, 2, none⟩) (Kd.R_far (p := ⟨gb290, 1, none⟩) (Kd.R_far (p := ⟨gb290, 0, none⟩) (Kd.R_far (p := ⟨gb289, 5, none⟩) (Kd.R_far (p := ⟨gb289, 4, none⟩) (Kd.R_far (p := ⟨gb289, 3, none⟩) (Kd.R_far (p := ⟨gb289, 2, none⟩) (Kd.R_far (p := ⟨gb289, 1, none⟩) (Kd.R_far (p := ⟨gb289, 0, none⟩) (Kd.R_types (Kd.R_types HO286.out BK289.out (by decide)) BK290.out (by decide)) (fun _ hk => hk.1.2) (.int .i64 t272)) (fun _ hk => hk.1.2) (.string t273)) (fun _ hk => hk.1.2) (.string t274)) (fun _ hk => hk.1.2) (.int .i64 t275)) (fun _ hk => hk.1.2) (.slice Ao42 t276.length co42)) (fun _ hk => hk.1.2) (.int .i64 t279)) (fun _ hk => hk.2) (.int .i64 t280)) (fun _ hk => hk.2) (.string t281)) (fun _ hk => hk.2) (.string t282)) (fun _ hk => hk.2) (.int .i64 t283)) (fun _ hk => hk.2) (.slice Ao45 t284.length co45)) (fun _ hk => hk.2) (.int .i64 t287)) (fun _ h_ => h_.1)) (fun _ h_ => h_.1)))); (case side3 => exact (Kd.R_reads' HO286.out).2.1); rintro e w46 ⟨v296, rfl, ho0, hb⟩; refine ⟨_, rfl, ?_⟩; replace HO268 := Az.mk (Kd.V_below (by (with_reducible repeat (first | apply Kd.V_alloc | apply Kd.V_drewN | apply Kd.V_drew)); exact (Kd.V_mono (Kd.V_mono (Kd.V_off (g := gb290) (fun _ hk => hk.2) (Kd.V_off (g := gb289) (fun _ hk => hk.1.2) (Kd.V_mono (Kd.V_mono HO268.out (fun k_ hk => (⟨hk, hk.1.2⟩ : _ ∧ k_ ≠ gb289))) (fun k_ hk => (⟨hk, hk.1.2⟩ : _ ∧ k_ ≠ gb290))))) (fun _ h_ => h_.1)) (fun _ h_ => h_.1))) hb); replace HO278 := Az.mk (Kd.V_below (by (with_reducible repeat (first | apply Kd.V_alloc | apply Kd.V_drewN | apply Kd.V_drew)); exact (Kd.V_mono (Kd.V_mono (Kd.V_off (g := gb290) (fun _ hk => hk.2) (Kd.V_off (g := gb289) (fun _ hk => hk.1.2) (Kd.V_mono (Kd.V_mono HO278.out (fun k_ hk => (⟨hk, hk.1.2⟩ : _ ∧ k_ ≠ gb289))) (fun k_ hk => (⟨hk, hk.1.2⟩ : _ ∧ k_ ≠ gb290))))) (fun _ h_ => h_.1)) (fun _ h_ => h_.1))) hb); have HO297 := Az.mk (Kd.V_lower (Kd.V_mono (ok' := fun k_ => some k_ ≠ (.slice Ao29 y259.length co29 : Value).ownBlock ∧ some k_ ≠ (.slice Ao45 t284.length co45 : Value).ownBlock ∧ k_ ≠ gb271 ∧ k_ ≠ gb289 ∧ k_ ≠ gb290) ho0 (fun k_ hk_ => ⟨(Kd.fresh' (Kd.R_lt (by (with_reducible repeat (first | apply Kd.R_alloc | apply Kd.R_drewN | apply Kd.R_drew)); exact (Kd.R_mono (Kd.R_mono (Kd.R_far (p := ⟨gb290, 5, none⟩) (Kd.R_far (p := ⟨gb290, 4, none⟩) (Kd.R_far (p := ⟨gb290, 3, none⟩) (Kd.R_far (p := ⟨gb290, 2, none⟩) (Kd.R_far (p := ⟨gb290, 1, none⟩) (Kd.R_far (p := ⟨gb290, 0, none⟩) (Kd.R_far (p := ⟨gb289, 5, none⟩) (Kd.R_far (p := ⟨gb289, 4, none⟩) (Kd.R_far (p := ⟨gb289, 3, none⟩) (Kd.R_far (p := ⟨gb289, 2, none⟩) (Kd.R_far (p := ⟨gb289, 1, none⟩) (Kd.R_far (p := ⟨gb289, 0, none⟩) (Kd.R_types (Kd.R_types HO261.out BK289.out (by decide)) BK290.out (by decide)) (fun _ hk => hk.1.2) (.int .i64 t272)) (fun _ hk => hk.1.2) (.string t273)) (fun _ hk => hk.1.2) (.string t274)) (fun _ hk => hk.1.2) (.int .i64 t275)) (fun _ hk => hk.1.2) (.slice Ao42 t276.length co42)) (fun _ hk => hk.1.2) (.int .i64 t279)) (fun _ hk => hk.2) (.int .i64 t280)) (fun _ hk => hk.2) (.string t281)) (fun _ hk => hk.2) (.string t282)) (fun _ hk => hk.2) (.int .i64 t283)) (fun _ hk => hk.2) (.slice Ao45 t284.length co45)) (fun _ hk => hk.2) (.int .i64 t287)) (fun _ h_ => h_.1)) (fun _ h_ => h_.1)))) k_ hk_), (Kd.fresh' (Kd.R_lt (by (with_reducible repeat (first | apply Kd.R_alloc | apply Kd.R_drewN | apply Kd.R_drew)); exact (Kd.R_mono (Kd.R_mono (Kd.R_far (p := ⟨gb290, 5, none⟩) (Kd.R_far (p := ⟨gb290, 4, none⟩) (Kd.R_far (p := ⟨gb290, 3, none⟩) (Kd.R_far (p := ⟨gb290, 2, none⟩) (Kd.R_far (p := ⟨gb290, 1, none⟩) (Kd.R_far (p := ⟨gb290, 0, none⟩) (Kd.R_far (p := ⟨gb289, 5, none⟩) (Kd.R_far (p := ⟨gb289, 4, none⟩) (Kd.R_far (p := ⟨gb289, 3, none⟩) (Kd.R_far (p := ⟨gb289, 2, none⟩) (Kd.R_far (p := ⟨gb289, 1, none⟩) (Kd.R_far (p := ⟨gb289, 0, none⟩) (Kd.R_types (Kd.R_types HO286.out BK289.out (by decide)) BK290.out (by decide)) (fun _ hk => hk.1.2) (.int .i64 t272)) (fun _ hk => hk.1.2) (.string t273)) (fun _ hk => hk.1.2) (.string t274)) (fun _ hk => hk.1.2) (.int .i64 t275)) (fun _ hk => hk.1.2) (.slice Ao42 t276.length co42)) (fun _ hk => hk.1.2) (.int .i64 t279)) (fun _ hk => hk.2) (.int .i64 t280)) (fun _ hk => hk.2) (.string t281)) (fun _ hk => hk.2) (.string t282)) (fun _ hk => hk.2) (.int .i64 t283)) (fun _ hk => hk.2) (.slice Ao45 t284.length co45)) (fun _ hk => hk.2) (.int .i64 t287)) (fun _ h_ => h_.1)) (fun _ h_ => h_.1)))) k_ hk_), (Kd.freshB (bf BK271.out) k_ hk_), (Kd.freshB (g := gb289) (o := .cells #[.int .i64 t272, .string t273, .string t274, .int .i64 t275, .slice Ao42 t276.length co42, .int .i64 t279] 26 (0, 0)) (by refine bk ?_; refine blk_far ?_ NB289_290.out _; refine bk ?_; refine blk_far ?_ NB289_290.out _; refine bk ?_; refine blk_far ?_ NB289_290.out _; refine bk ?_; refine blk_far ?_ NB289_290.out _; refine bk ?_; refine blk_far ?_ NB289_290.out _; refine bk ?_; refine blk_far ?_ NB289_290.out _; refine bk ?_; refine blk_put (cs := #[.int .i64 t272, .string t273, .string t274, .int .i64 t275, .slice Ao42 t276.length co42, .int .i64 0]) ?_ 5 _ rfl; refine bk ?_; refine blk_put (cs := #[.int .i64 t272, .string t273, .string t274, .int .i64 t275, .slice none 0 0, .int .i64 0]) ?_ 4 _ rfl; refine bk ?_; refine blk_put (cs := #[.int .i64 t272, .string t273, .string t274, .int .i64 0, .slice none 0 0, .int .i64 0]) ?_ 3 _ rfl; refine bk ?_; refine blk_put (cs := #[.int .i64 t272, .string t273, .string (⟨#[]⟩ : ByteArray), .int .i64 0, .slice none 0 0, .int .i64 0]) ?_ 2 _ rfl; refine bk ?_; refine blk_put (cs := #[.int .i64 t272, .string (⟨#[]⟩ : ByteArray), .string (⟨#[]⟩ : ByteArray), .int .i64 0, .slice none 0 0, .int .i64 0]) ?_ 1 _ rfl; refine bk ?_; refine blk_put (cs := #[.int .i64 0, .string (⟨#[]⟩ : ByteArray), .string (⟨#[]⟩ : ByteArray), .int .i64 0, .slice none 0 0, .int .i64 0]) ?_ 0 _ rfl; refine bk ?_; exact BK289.out) k_ hk_), (Kd.freshB (g := gb290) (o := .cells #[.int .i64 t280, .string t281, .string t282, .int .i64 t283, .slice Ao45 t284.length co45, .int .i64 t287] 26 (0, 0)) (by refine bk ?_; refine blk_put (cs := #[.int .i64 t280, .string t281, .string t282, .int .i64 t283, .slice Ao45 t284.length co45, .int .i64 0]) ?_ 5 _ rfl; refine bk ?_; refine blk_put (cs := #[.int .i64 t280, .string t281, .string t282, .int .i64 t283, .slice none 0 0, .int .i64 0]) ?_ 4 _ rfl; refine bk ?_; refine blk_put (cs := #[.int .i64 t280, .string t281, .string t282, .int .i64 0, .slice none 0 0, .int .i64 0]) ?_ 3 _ rfl; refine bk ?_; refine blk_put (cs := #[.int .i64 t280, .string t281, .string (⟨#[]⟩ : ByteArray), .int .i64 0, .slice none 0 0, .int .i64 0]) ?_ 2 _ rfl; refine bk ?_; refine blk_put (cs := #[.int .i64 t280, .string (⟨#[]⟩ : ByteArray), .string (⟨#[]⟩ : ByteArray), .int .i64 0, .slice none 0 0, .int .i64 0]) ?_ 1 _ rfl; refine bk ?_; refine blk_put (cs := #[.int .i64 0, .string (⟨#[]⟩ : ByteArray), .string (⟨#[]⟩ : ByteArray), .int .i64 0, .slice none 0 0, .int .i64 0]) ?_ 0 _ rfl; exact bf BK290.out) k_ hk_)⟩)) (pbZ (by exact pbE HB.out))); replace HO261 := Az.mk (Kd.R_below (by (with_reducible repeat (first | apply Kd.R_alloc | apply Kd.R_drewN | apply Kd.R_drew)); exact (Kd.R_mono (Kd.R_mono (Kd.R_far (p := ⟨gb290, 5, none⟩) (Kd.R_far (p := ⟨gb290, 4, none⟩) (Kd.R_far (p := ⟨gb290, 3, none⟩) (Kd.R_far (p := ⟨gb290, 2, none⟩) (Kd.R_far (p := ⟨gb290, 1, none⟩) (Kd.R_far (p := ⟨gb290, 0, none⟩) (Kd.R_far (p := ⟨gb289, 5, none⟩) (Kd.R_far (p := ⟨gb289, 4, none⟩) (Kd.R_far (p := ⟨gb289, 3, none⟩) (Kd.R_far (p := ⟨gb289, 2, none⟩) (Kd.R_far (p := ⟨gb289, 1, none⟩) (Kd.R_far (p := ⟨gb289, 0, none⟩) (Kd.R_types (Kd.R_types HO261.out BK289.out (by decide)) BK290.out (by decide)) (fun _ hk => hk.1.2) (.int .i64 t272)) (fun _ hk => hk.1.2) (.string t273)) (fun _ hk => hk.1.2) (.string t274)) (fun _ hk => hk.1.2) (.int .i64 t275)) (fun _ hk => hk.1.2) (.slice Ao42 t276.length co42)) (fun _ hk => hk.1.2) (.int .i64 t279)) (fun _ hk => hk.2) (.int .i64 t280)) (fun _ hk => hk.2) (.string t281)) (fun _ hk => hk.2) (.string t282)) (fun _ hk => hk.2) (.int .i64 t283)) (fun _ hk => hk.2) (.slice Ao45 t284.length co45)) (fun _ hk => hk.2) (.int .i64 t287)) (fun _ h_ => h_.1)) (fun _ h_ => h_.1))) hb); replace HO286 := Az.mk (Kd.R_below (by (with_reducible repeat (first | apply Kd.R_alloc | apply Kd.R_drewN | apply Kd.R_drew)); exact (Kd.R_mono (Kd.R_mono (Kd.R_far (p := ⟨gb290, 5, none⟩) (Kd.R_far (p := ⟨gb290, 4, none⟩) (Kd.R_far (p := ⟨gb290, 3, none⟩) (Kd.R_far (p := ⟨gb290, 2, none⟩) (Kd.R_far (p := ⟨gb290, 1, none⟩) (Kd.R_far (p := ⟨gb290, 0, none⟩) (Kd.R_far (p := ⟨gb289, 5, none⟩) (Kd.R_far (p := ⟨gb289, 4, none⟩) (Kd.R_far (p := ⟨gb289, 3, none⟩) (Kd.R_far (p := ⟨gb289, 2, none⟩) (Kd.R_far (p := ⟨gb289, 1, none⟩) (Kd.R_far (p := ⟨gb289, 0, none⟩) (Kd.R_types (Kd.R_types HO286.out BK289.out (by decide)) BK290.out (by decide)) (fun _ hk => hk.1.2) (.int .i64 t272)) (fun _ hk => hk.1.2) (.string t273)) (fun _ hk => hk.1.2) (.string t274)) (fun _ hk => hk.1.2) (.int .i64 t275)) (fun _ hk => hk.1.2) (.slice Ao42 t276.length co42)) (fun _ hk => hk.1.2) (.int .i64 t279)) (fun _ hk => hk.2) (.int .i64 t280)) (fun _ hk => hk.2) (.string t281)) (fun _ hk => hk.2) (.string t282)) (fun _ hk => hk.2) (.int .i64 t283)) (fun _ hk => hk.2) (.slice Ao45 t284.length co45)) (fun _ hk => hk.2) (.int .i64 t287)) (fun _ h_ => h_.1)) (fun _ h_ => h_.1))) hb); replace BK271 := Az.mk (bkB (bf BK271.out) hb); replace BK289 := Az.mk (bkB (g := gb289) (o := .cells #[.int .i64 t272, .string t273, .string t274, .int .i64 t275, .slice Ao42 t276.length co42, .int .i64 t279] 26 (0, 0)) (by refine bk ?_; refine blk_far ?_ NB289_290.out _; refine bk ?_; refine blk_far ?_ NB289_290.out _; refine bk ?_; refine blk_far ?_ NB289_290.out _; refine bk ?_; refine blk_far ?_ NB289_290.out _; refine bk ?_; refine blk_far ?_ NB289_290.out _; refine bk ?_; refine blk_far ?_ NB289_290.out _; refine bk ?_; refine blk_put (cs := #[.int .i64 t272, .string t273, .string t274, .int .i64 t275, .slice Ao42 t276.length co42, .int .i64 0]) ?_ 5 _ rfl; refine bk ?_; refine blk_put (cs := #[.int .i64 t272, .string t273, .string t274, .int .i64 t275, .slice none 0 0, .int .i64 0]) ?_ 4 _ rfl; refine bk ?_; refine blk_put (cs := #[.int .i64 t272, .string t273, .string t274, .int .i64 0, .slice none 0 0, .int .i64 0]) ?_ 3 _ rfl; refine bk ?_; refine blk_put (cs := #[.int .i64 t272, .string t273, .string (⟨#[]⟩ : ByteArray), .int .i64 0, .slice none 0 0, .int .i64 0]) ?_ 2 _ rfl; refine bk ?_; refine blk_put (cs := #[.int .i64 t272, .string (⟨#[]⟩ : ByteArray), .string (⟨#[]⟩ : ByteArray), .int .i64 0, .slice none 0 0, .int .i64 0]) ?_ 1 _ rfl; refine bk ?_; refine blk_put (cs := #[.int .i64 0, .string (⟨#[]⟩ : ByteArray), .string (⟨#[]⟩ : ByteArray), .int .i64 0, .slice none 0 0, .int .i64 0]) ?_ 0 _ rfl; refine bk ?_; exact BK289.out) hb); replace BK290 := Az.mk (bkB (g := gb290) (o := .cells #[.int .i64 t280, .string t281, .string t282, .int .i64 t283, .slice Ao45 t284.length co45, .int .i64 t287] 26 (0, 0)) (by refine bk ?_; refine blk_put (cs := #[.int .i64 t280, .string t281, .string t282, .int .i64 t283, .slice Ao45 t284.length co45, .int .i64 0]) ?_ 5 _ rfl; refine bk ?_; refine blk_put (cs := #[.int .i64 t280, .string t281, .string t282, .int .i64 t283, .slice none 0 0, .int .i64 0]) ?_ 4 _ rfl; refine bk ?_; refine blk_put (cs := #[.int .i64 t280, .string t281, .string t282, .int .i64 0, .slice none 0 0, .int .i64 0]) ?_ 3 _ rfl; refine bk ?_; refine blk_put (cs := #[.int .i64 t280, .string t281, .string (⟨#[]⟩ : ByteArray), .int .i64 0, .slice none 0 0, .int .i64 0]) ?_ 2 _ rfl; refine bk ?_; refine blk_put (cs := #[.int .i64 t280, .string (⟨#[]⟩ : ByteArray), .string (⟨#[]⟩ : ByteArray), .int .i64 0, .slice none 0 0, .int .i64 0]) ?_ 1 _ rfl; refine bk ?_; refine blk_put (cs := #[.int .i64 0, .string (⟨#[]⟩ : ByteArray), .string (⟨#[]⟩ : ByteArray), .int .i64 0, .slice none 0 0, .int .i64 0]) ?_ 0 _ rfl; exact bf BK290.out) hb); replace HB := Az.mk (pbT (by exact pbE HB.out) hb); (try clear hb); (try clear hb2); (try clear hk); (try clear hi); (try clear ho0)) | ((with_reducible refine gate_dst (N := 6) rfl ?_); refine box_event ?hg (N := 6) ?hd (cs := #[.int .i64 0, .string (⟨#[]⟩ : ByteArray), .string (⟨#[]⟩ : ByteArray), .int .i64 0, .slice none 0 0, .int .i64 0]) (t := 26) ?hr ?_; (case hd => rfl); (case hg => rfl); (case hr => first | (go_simp; done) | (go_simp; rfl)); intro gb300 hg w47 hbox hb; replace HO261 := Az.mk (Kd.R_below (Kd.R_ext HO261.out) hb); replace HO268 := Az.mk (Kd.V_below (Kd.V_elderB (Kd.V_ext HO268.out) gb300 (Nat.le_of_eq hg.symm)) hb); replace HO278 := Az.mk (Kd.V_below (Kd.V_elderB (Kd.V_ext HO278.out) gb300 (Nat.le_of_eq hg.symm)) hb); replace HO286 := Az.mk (Kd.R_below (Kd.R_ext HO286.out) hb); replace HO297 := Az.mk (Kd.V_below (Kd.V_elderB (Kd.V_ext HO297.out) gb300 (Nat.le_of_eq hg.symm)) hb); have BK300 := Az.mk (hbox); have GW300 := Az.mk (geO hg (pbE HB.out)); have GE300 := Az.mk (geO hg (pbE HB.out)); replace HB := Az.mk (pbT (by exact pbE HB.out) hb); have NB271_300 := Az.mk (neO hg (bk BK271.out)); have NB300_271 := Az.mk (neP hg (bk BK271.out)); replace BK271 := Az.mk (bkB (bk BK271.out) hb); have NB289_300 := Az.mk (neO hg (bk BK289.out)); have NB300_289 := Az.mk (neP hg (bk BK289.out)); replace BK289 := Az.mk (bkB (bk BK289.out) hb); have NB290_300 := Az.mk (neO hg (bk BK290.out)); have NB300_290 := Az.mk (neP hg (bk BK290.out)); replace BK290 := Az.mk (bkB (bk BK290.out) hb); clear hb hbox hg; have hnb48 := NB300_271.out; have hnc48 := NB271_300.out; have hnb49 := NB300_289.out; have hnc49 := NB289_300.out; have hnb50 := NB300_290.out; have hnc50 := NB290_300.out; have hcz51 := cells6 BK300.out; obtain ⟨Ao52, co52, eo52⟩ := Kd.V_slice HO297.out; subst eo52) | ((with_reducible refine gtc (f := 17) rfl ?_); refine goesL_ (some 32) rfl rfl Tryz.func17 (by kernel_rfl) rfl #[.agg #[.int .i64 t291, .string t292, .string t293, .int .i64 t294, .slice Ao52 t295.length co52, .int .i64 t298]] rfl (by (try simp only [List.map_toArray, List.map_cons, List.map_nil]); first | done | rfl | (simp only [List.length_drop, List.length_take]; rfl)) ?_; (with_reducible refine (desc_Put.calls k t291 t292 t293 t294 _ _ t295 t298 t301 _ ?side1 ?side2 ?side3 A4.out).mono ?_); (case side1 => exact hG.below (by exact pbE HB.out)); (case side2 => refine (Kd.V_reads' (e := 30) (base := w.heap.size) (ok := fun k_ => ((some k_ ≠ (.slice Ao29 y259.length co29 : Value).ownBlock ∧ (some k_ ≠ (.slice Ao45 t284.length co45 : Value).ownBlock ∧ (k_ ≠ gb271 ∧ (k_ ≠ gb289 ∧ k_ ≠ gb290)))) ∧ k_ ≠ gb300)) (n := t295.length) (c := co52) ?_).2.2; exact (by (with_reducible repeat (first | apply Kd.V_alloc | apply Kd.V_drewN | apply Kd.V_drew)); exact (Kd.V_mono (Kd.V_off (g := gb300) (fun _ hk => hk.2) (Kd.V_mono HO297.out (fun k_ hk => (⟨hk, hk.2⟩ : _ ∧ k_ ≠ gb300)))) (fun _ h_ => h_.1)))); (case side3 => exact (Kd.V_reads' HO297.out).2.1); rintro e w53 ⟨rfl, hb⟩; refine ⟨_, rfl, ?_⟩; replace HO261 := Az.mk (Kd.R_below (by (with_reducible repeat (first | apply Kd.R_alloc | apply Kd.R_drewN | apply Kd.R_drew)); exact (Kd.R_mono (Kd.R_far (p := ⟨gb300, 5, none⟩) (Kd.R_far (p := ⟨gb300, 4, none⟩) (Kd.R_far (p := ⟨gb300, 3, none⟩) (Kd.R_far (p := ⟨gb300, 2, none⟩) (Kd.R_far (p := ⟨gb300, 1, none⟩) (Kd.R_far (p := ⟨gb300, 0, none⟩) (Kd.R_types HO261.out BK300.out (by decide)) (fun _ hk => hk.2) (.int .i64 t291)) (fun _ hk => hk.2) (.string t292)) (fun _ hk => hk.2) (.string t293)) (fun _ hk => hk.2) (.int .i64 t294)) (fun _ hk => hk.2) (.slice Ao52 t295.length co52)) (fun _ hk => hk.2) (.int .i64 t298)) (fun _ h_ => h_.1))) hb); replace HO268 := Az.mk (Kd.V_below (by (with_reducible repeat (first | apply Kd.V_alloc | apply Kd.V_drewN | apply Kd.V_drew)); exact (Kd.V_mono (Kd.V_off (g := gb300) (fun _ hk => hk.2) (Kd.V_mono HO268.out (fun k_ hk => (⟨hk, hk.2⟩ : _ ∧ k_ ≠ gb300)))) (fun _ h_ => h_.1))) hb); replace HO278 := Az.mk (Kd.V_below (by (with_reducible repeat (first | apply Kd.V_alloc | apply Kd.V_drewN | apply Kd.V_drew)); exact (Kd.V_mono (Kd.V_off (g := gb300) (fun _ hk => hk.2) (Kd.V_mono HO278.out (fun k_ hk => (⟨hk, hk.2⟩ : _ ∧ k_ ≠ gb300)))) (fun _ h_ => h_.1))) hb); replace HO286 := Az.mk (Kd.R_below (by (with_reducible repeat (first | apply Kd.R_alloc | apply Kd.R_drewN | apply Kd.R_drew)); exact (Kd.R_mono (Kd.R_far (p := ⟨gb300, 5, none⟩) (Kd.R_far (p := ⟨gb300, 4, none⟩) (Kd.R_far (p := ⟨gb300, 3, none⟩) (Kd.R_far (p := ⟨gb300, 2, none⟩) (Kd.R_far (p := ⟨gb300, 1, none⟩) (Kd.R_far (p := ⟨gb300, 0, none⟩) (Kd.R_types HO286.out BK300.out (by decide)) (fun _ hk => hk.2) (.int .i64 t291)) (fun _ hk => hk.2) (.string t292)) (fun _ hk => hk.2) (.string t293)) (fun _ hk => hk.2) (.int .i64 t294)) (fun _ hk => hk.2) (.slice Ao52 t295.length co52)) (fun _ hk => hk.2) (.int .i64 t298)) (fun _ h_ => h_.1))) hb); replace HO297 := Az.mk (Kd.V_below (by (with_reducible repeat (first | apply Kd.V_alloc | apply Kd.V_drewN | apply Kd.V_drew)); exact (Kd.V_mono (Kd.V_off (g := gb300) (fun _ hk => hk.2) (Kd.V_mono HO297.out (fun k_ hk => (⟨hk, hk.2⟩ : _ ∧ k_ ≠ gb300)))) (fun _ h_ => h_.1))) hb); replace BK271 := Az.mk (bkB (bf BK271.out) hb); replace BK289 := Az.mk (bkB (bf BK289.out) hb); replace BK290 := Az.mk (bkB (bf BK290.out) hb); replace BK300 := Az.mk (bkB (g := gb300) (o := .cells #[.int .i64 t291, .string t292, .string t293, .int .i64 t294, .slice Ao52 t295.length co52, .int .i64 t298] 26 (0, 0)) (by refine bk ?_; refine blk_put (cs := #[.int .i64 t291, .string t292, .string t293, .int .i64 t294, .slice Ao52 t295.length co52, .int .i64 0]) ?_ 5 _ rfl; refine bk ?_; refine blk_put (cs := #[.int .i64 t291, .string t292, .string t293, .int .i64 t294, .slice none 0 0, .int .i64 0]) ?_ 4 _ rfl; refine bk ?_; refine blk_put (cs := #[.int .i64 t291, .string t292, .string t293, .int .i64 0, .slice none 0 0, .int .i64 0]) ?_ 3 _ rfl; refine bk ?_; refine blk_put (cs := #[.int .i64 t291, .string t292, .string (⟨#[]⟩ : ByteArray), .int .i64 0, .slice none 0 0, .int .i64 0]) ?_ 2 _ rfl; refine bk ?_; refine blk_put (cs := #[.int .i64 t291, .string (⟨#[]⟩ : ByteArray), .string (⟨#[]⟩ : ByteArray), .int .i64 0, .slice none 0 0, .int .i64 0]) ?_ 1 _ rfl; refine bk ?_; refine blk_put (cs := #[.int .i64 0, .string (⟨#[]⟩ : ByteArray), .string (⟨#[]⟩ : ByteArray), .int .i64 0, .slice none 0 0, .int .i64 0]) ?_ 0 _ rfl; refine bk ?_; exact BK300.out) hb); replace HB := Az.mk (pbT (by exact pbE HB.out) hb); (try clear hb); (try clear hb2); (try clear hk); (try clear hi)) | ((with_reducible refine gtc (f := 10) rfl ?_); refine goesL_ (some 33) rfl rfl Tryz.func10 (by kernel_rfl) rfl #[.string t301] rfl (by (try simp only [List.map_toArray, List.map_cons, List.map_nil]); first | done | rfl | (simp only [List.length_drop, List.length_take]; rfl)) ?_; (with_reducible refine (desc_Parse.calls k t301 t302 t303 t304 t305 t306 t309 t310 _ ?side1 A5.out).mono ?_); (case side1 => exact hG.below (by exact pbE HB.out)); rintro e w54 ⟨v307, rfl, ho0, hb⟩; refine ⟨_, rfl, ?_⟩; replace HO268 := Az.mk (Kd.V_below (Kd.V_ext HO268.out) hb); replace HO278 := Az.mk (Kd.V_below (Kd.V_ext HO278.out) hb); replace HO297 := Az.mk (Kd.V_below (Kd.V_ext HO297.out) hb); have HO308 := Az.mk (Kd.V_lower (Kd.V_mono (ok' := fun k_ => some k_ ≠ (.slice Ao29 y259.length co29 : Value).ownBlock ∧ some k_ ≠ (.slice Ao45 t284.length co45 : Value).ownBlock ∧ k_ ≠ gb271 ∧ k_ ≠ gb289 ∧ k_ ≠ gb290 ∧ k_ ≠ gb300) ho0 (fun k_ hk_ => ⟨(Kd.fresh' (Kd.R_lt (Kd.R_ext HO261.out)) k_ hk_), (Kd.fresh' (Kd.R_lt (Kd.R_ext HO286.out)) k_ hk_), (Kd.freshB (bk BK271.out) k_ hk_), (Kd.freshB (bk BK289.out) k_ hk_), (Kd.freshB (bk BK290.out) k_ hk_), (Kd.freshB (bk BK300.out) k_ hk_)⟩)) (pbZ (by exact pbE HB.out))); replace HO261 := Az.mk (Kd.R_below (Kd.R_ext HO261.out) hb); replace HO286 := Az.mk (Kd.R_below (Kd.R_ext HO286.out) hb); replace BK271 := Az.mk (bkB (bk BK271.out) hb); replace BK289 := Az.mk (bkB (bk BK289.out) hb); replace BK290 := Az.mk (bkB (bk BK290.out) hb); replace BK300 := Az.mk (bkB (bk BK300.out) hb); replace HB := Az.mk (pbT (by exact pbE HB.out) hb); (try clear hb); (try clear hb2); (try clear hk); (try clear hi); (try clear ho0)) | ((with_reducible refine gate_dst (N := 8) rfl ?_); refine box_event ?hg (N := 8) ?hd (cs := #[.int .i64 0, .string (⟨#[]⟩ : ByteArray), .string (⟨#[]⟩ : ByteArray), .int .i64 0, .slice none 0 0, .int .i64 0]) (t := 26) ?hr ?_; (case hd => rfl); (case hg => rfl); (case hr => first | (go_simp; done) | (go_simp; rfl)); intro gb311 hg w55 hbox hb; replace HO261 := Az.mk (Kd.R_below (Kd.R_ext HO261.out) hb); replace HO268 := Az.mk (Kd.V_below (Kd.V_elderB (Kd.V_ext HO268.out) gb311 (Nat.le_of_eq hg.symm)) hb); replace HO278 := Az.mk (Kd.V_below (Kd.V_elderB (Kd.V_ext HO278.out) gb311 (Nat.le_of_eq hg.symm)) hb); replace HO286 := Az.mk (Kd.R_below (Kd.R_ext HO286.out) hb); replace HO297 := Az.mk (Kd.V_below (Kd.V_elderB (Kd.V_ext HO297.out) gb311 (Nat.le_of_eq hg.symm)) hb); replace HO308 := Az.mk (Kd.V_below (Kd.V_elderB (Kd.V_ext HO308.out) gb311 (Nat.le_of_eq hg.symm)) hb); have BK311 := Az.mk (hbox); have GW311 := Az.mk (geO hg (pbE HB.out)); have GE311 := Az.mk (geO hg (pbE HB.out)); replace HB := Az.mk (pbT (by exact pbE HB.out) hb); have NB271_311 := Az.mk (neO hg (bk BK271.out)); have NB311_271 := Az.mk (neP hg (bk BK271.out)); replace BK271 := Az.mk (bkB (bk BK271.out) hb); have NB289_311 := Az.mk (neO hg (bk BK289.out)); have NB311_289 := Az.mk (neP hg (bk BK289.out)); replace BK289 := Az.mk (bkB (bk BK289.out) hb); have NB290_311 := Az.mk (neO hg (bk BK290.out)); have NB311_290 := Az.mk (neP hg (bk BK290.out)); replace BK290 := Az.mk (bkB (bk BK290.out) hb); have NB300_311 := Az.mk (neO hg (bk BK300.out)); have NB311_300 := Az.mk (neP hg (bk BK300.out)); replace BK300 := Az.mk (bkB (bk BK300.out) hb); clear hb hbox hg; have hnb56 := NB311_271.out; have hnc56 := NB271_311.out; have hnb57 := NB311_289.out; have hnc57 := NB289_311.out; have hnb58 := NB311_290.out; have hnc58 := NB290_311.out; have hnb59 := NB311_300.out; have hnc59 := NB300_311.out; have hcz60 := cells6 BK311.out; obtain ⟨Ao61, co61, eo61⟩ := Kd.V_slice HO308.out; subst eo61; have hcz62 := cells6 BK300.out) | ((with_reducible refine gtc (f := 6) rfl ?_); refine goesL_ (some 38) rfl rfl Tryz.func6 (by kernel_rfl) rfl #[.agg #[.int .i64 t291, .string t292, .string t293, .int .i64 t294, .slice Ao52 t295.length co52, .int .i64 t298], .int .i64 4] rfl (by (try simp only [List.map_toArray, List.map_cons, List.map_nil]); first | done | rfl | (simp only [List.length_drop, List.length_take]; rfl)) ?_; (with_reducible refine (desc_On.calls t291 t292 t293 t294 _ _ t295 t298 4 t312 t313 true _ ?side1 ?side2 ?side3 A6.out).mono ?_); (case side1 => exact hG.below (by exact pbE HB.out)); (case side2 => refine (Kd.V_reads' (e := 30) (base := w.heap.size) (ok := fun k_ => (((some k_ ≠ (.slice Ao29 y259.length co29 : Value).ownBlock ∧ (some k_ ≠ (.slice Ao45 t284.length co45 : Value).ownBlock ∧ (k_ ≠ gb271 ∧ (k_ ≠ gb289 ∧ k_ ≠ gb290)))) ∧ k_ ≠ gb300) ∧ k_ ≠ gb311)) (n := t295.length) (c := co52) ?_).2.2; exact (by (with_reducible repeat (first | apply Kd.V_alloc | apply Kd.V_drewN | apply Kd.V_drew)); exact (Kd.V_mono (Kd.V_off (g := gb311) (fun _ hk => hk.2) (Kd.V_mono HO297.out (fun k_ hk => (⟨hk, hk.2⟩ : _ ∧ k_ ≠ gb311)))) (fun _ h_ => h_.1)))); (case side3 => exact (Kd.V_reads' HO297.out).2.1); rintro e w63 ⟨rfl, hb⟩; refine ⟨_, rfl, ?_⟩; replace HO261 := Az.mk (Kd.R_below (by (with_reducible repeat (first | apply Kd.R_alloc | apply Kd.R_drewN | apply Kd.R_drew)); exact (Kd.R_mono (Kd.R_far (p := ⟨gb311, 5, none⟩) (Kd.R_far (p := ⟨gb311, 4, none⟩) (Kd.R_far (p := ⟨gb311, 3, none⟩) (Kd.R_far (p := ⟨gb311, 2, none⟩) (Kd.R_far (p := ⟨gb311, 1, none⟩) (Kd.R_far (p := ⟨gb311, 0, none⟩) (Kd.R_types HO261.out BK311.out (by decide)) (fun _ hk => hk.2) (.int .i64 t302)) (fun _ hk => hk.2) (.string t303)) (fun _ hk => hk.2) (.string t304)) (fun _ hk => hk.2) (.int .i64 t305)) (fun _ hk => hk.2) (.slice Ao61 t306.length co61)) (fun _ hk => hk.2) (.int .i64 t309)) (fun _ h_ => h_.1))) hb); replace HO268 := Az.mk (Kd.V_below (by (with_reducible repeat (first | apply Kd.V_alloc | apply Kd.V_drewN | apply Kd.V_drew)); exact (Kd.V_mono (Kd.V_off (g := gb311) (fun _ hk => hk.2) (Kd.V_mono HO268.out (fun k_ hk => (⟨hk, hk.2⟩ : _ ∧ k_ ≠ gb311)))) (fun _ h_ => h_.1))) hb); replace HO278 := Az.mk (Kd.V_below (by (with_reducible repeat (first | apply Kd.V_alloc | apply Kd.V_drewN | apply Kd.V_drew)); exact (Kd.V_mono (Kd.V_off (g := gb311) (fun _ hk => hk.2) (Kd.V_mono HO278.out (fun k_ hk => (⟨hk, hk.2⟩ : _ ∧ k_ ≠ gb311)))) (fun _ h_ => h_.1))) hb); replace HO286 := Az.mk (Kd.R_below (by (with_reducible repeat (first | apply Kd.R_alloc | apply Kd.R_drewN | apply Kd.R_drew)); exact (Kd.R_mono (Kd.R_far (p := ⟨gb311, 5, none⟩) (Kd.R_far (p := ⟨gb311, 4, none⟩) (Kd.R_far (p := ⟨gb311, 3, none⟩) (Kd.R_far (p := ⟨gb311, 2, none⟩) (Kd.R_far (p := ⟨gb311, 1, none⟩) (Kd.R_far (p := ⟨gb311, 0, none⟩) (Kd.R_types HO286.out BK311.out (by decide)) (fun _ hk => hk.2) (.int .i64 t302)) (fun _ hk => hk.2) (.string t303)) (fun _ hk => hk.2) (.string t304)) (fun _ hk => hk.2) (.int .i64 t305)) (fun _ hk => hk.2) (.slice Ao61 t306.length co61)) (fun _ hk => hk.2) (.int .i64 t309)) (fun _ h_ => h_.1))) hb); replace HO297 := Az.mk (Kd.V_below (by (with_reducible repeat (first | apply Kd.V_alloc | apply Kd.V_drewN | apply Kd.V_drew)); exact (Kd.V_mono (Kd.V_off (g := gb311) (fun _ hk => hk.2) (Kd.V_mono HO297.out (fun k_ hk => (⟨hk, hk.2⟩ : _ ∧ k_ ≠ gb311)))) (fun _ h_ => h_.1))) hb); replace HO308 := Az.mk (Kd.V_below (by (with_reducible repeat (first | apply Kd.V_alloc | apply Kd.V_drewN | apply Kd.V_drew)); exact (Kd.V_mono (Kd.V_off (g := gb311) (fun _ hk => hk.2) (Kd.V_mono HO308.out (fun k_ hk => (⟨hk, hk.2⟩ : _ ∧ k_ ≠ gb311)))) (fun _ h_ => h_.1))) hb); replace BK271 := Az.mk (bkB (bf BK271.out) hb); replace BK289 := Az.mk (bkB (bf BK289.out) hb); replace BK290 := Az.mk (bkB (bf BK290.out) hb); replace BK300 := Az.mk (bkB (bf BK300.out) hb); replace BK311 := Az.mk (bkB (g := gb311) (o := .cells #[.int .i64 t302, .string t303, .string t304, .int .i64 t305, .slice Ao61 t306.length co61, .int .i64 t309] 26 (0, 0)) (by refine bk ?_; refine blk_put (cs := #[.int .i64 t302, .string t303, .string t304, .int .i64 t305, .slice Ao61 t306.length co61, .int .i64 0]) ?_ 5 _ rfl; refine bk ?_; refine blk_put (cs := #[.int .i64 t302, .string t303, .string t304, .int .i64 t305, .slice none 0 0, .int .i64 0]) ?_ 4 _ rfl; refine bk ?_; refine blk_put (cs := #[.int .i64 t302, .string t303, .string t304, .int .i64 0, .slice none 0 0, .int .i64 0]) ?_ 3 _ rfl; refine bk ?_; refine blk_put (cs := #[.int .i64 t302, .string t303, .string (⟨#[]⟩ : ByteArray), .int .i64 0, .slice none 0 0, .int .i64 0]) ?_ 2 _ rfl; refine bk ?_; refine blk_put (cs := #[.int .i64 t302, .string (⟨#[]⟩ : ByteArray), .string (⟨#[]⟩ : ByteArray), .int .i64 0, .slice none 0 0, .int .i64 0]) ?_ 1 _ rfl; refine bk ?_; refine blk_put (cs := #[.int .i64 0, .string (⟨#[]⟩ : ByteArray), .string (⟨#[]⟩ : ByteArray), .int .i64 0, .slice none 0 0, .int .i64 0]) ?_ 0 _ rfl; refine bk ?_; exact BK311.out) hb); replace HB := Az.mk (pbT (by exact pbE HB.out) hb); (try clear hb); (try clear hb2); (try clear hk); (try clear hi)) | ((with_reducible refine gate_dst (N := 10) rfl ?_); refine box_event ?hg (N := 10) ?hd (cs := #[.int .i64 0, .int .i64 0]) (t := 30) ?hr ?_; (case hd => rfl); (case hg => rfl); (case hr => first | (go_simp; done) | (go_simp; rfl)); intro gb315 hg w64 hbox hb; replace HO261 := Az.mk (Kd.R_below (Kd.R_ext HO261.out) hb); replace HO268 := Az.mk (Kd.V_below (Kd.V_elderB (Kd.V_ext HO268.out) gb315 (Nat.le_of_eq hg.symm)) hb); replace HO278 := Az.mk (Kd.V_below (Kd.V_elderB (Kd.V_ext HO278.out) gb315 (Nat.le_of_eq hg.symm)) hb); replace HO286 := Az.mk (Kd.R_below (Kd.R_elderB (Kd.R_ext HO286.out) gb315 (Nat.le_of_eq hg.symm)) hb); replace HO297 := Az.mk (Kd.V_below (Kd.V_elderB (Kd.V_ext HO297.out) gb315 (Nat.le_of_eq hg.symm)) hb); replace HO308 := Az.mk (Kd.V_below (Kd.V_elderB (Kd.V_ext HO308.out) gb315 (Nat.le_of_eq hg.symm)) hb); have BK315 := Az.mk (hbox); have GW315 := Az.mk (geO hg (pbE HB.out)); have GE315 := Az.mk (geO hg (pbE HB.out)); replace HB := Az.mk (pbT (by exact pbE HB.out) hb); have NB271_315 := Az.mk (neO hg (bk BK271.out)); have NB315_271 := Az.mk (neP hg (bk BK271.out)); replace BK271 := Az.mk (bkB (bk BK271.out) hb); have NB289_315 := Az.mk (neO hg (bk BK289.out)); have NB315_289 := Az.mk (neP hg (bk BK289.out)); replace BK289 := Az.mk (bkB (bk BK289.out) hb); have NB290_315 := Az.mk (neO hg (bk BK290.out)); have NB315_290 := Az.mk (neP hg (bk BK290.out)); replace BK290 := Az.mk (bkB (bk BK290.out) hb); have NB300_315 := Az.mk (neO hg (bk BK300.out)); have NB315_300 := Az.mk (neP hg (bk BK300.out)); replace BK300 := Az.mk (bkB (bk BK300.out) hb); have NB311_315 := Az.mk (neO hg (bk BK311.out)); have NB315_311 := Az.mk (neP hg (bk BK311.out)); replace BK311 := Az.mk (bkB (bk BK311.out) hb); clear hb hbox hg; have hnb65 := NB315_271.out; have hnc65 := NB271_315.out; have hnb66 := NB315_289.out; have hnc66 := NB289_315.out; have hnb67 := NB315_290.out; have hnc67 := NB290_315.out; have hnb68 := NB315_300.out; have hnc68 := NB300_315.out; have hnb69 := NB315_311.out; have hnc69 := NB311_315.out; have hcz70 := cells2 BK315.out) | ((with_reducible refine gate_store (t := 30) (p := 10) rfl ?_); refine store_event (t := 30) (p := 10) (v := ?vo_w71) (w1 := ((w64.setCell ⟨gb315, 0, none⟩ (.int .i64 t312)).setCell ⟨gb315, 1, none⟩ (.int .i64 t313))) ?hg ?ho ?hn ?hr ?_; (case ho => rfl); (case hg => rfl); (case hn => rfl); (case hr => first | (go_simp; done) | (go_simp; rfl)); intro w71 hw; have n0_ : Az (Kd.R (Kd.int .i64) 3 w71 w.heap.size (fun _ => True) (.slice Ao29 y259.length co29) y259) := ⟨(by rw [hw]; exact (by (with_reducible repeat (first | apply Kd.R_alloc | apply Kd.R_drewN | apply Kd.R_drew)); exact Kd.R_mono (Kd.R_far (p := ⟨gb315, 1, none⟩) (Kd.R_far (p := ⟨gb315, 0, none⟩) (Kd.R_types HO261.out BK315.out (by decide)) (fun _ hk => hk.2) (.int .i64 t312)) (fun _ hk => hk.2) (.int .i64 t313)) (fun _ hk => trivial)))⟩; have n1_ : Az (Kd.V k30 30 w71 w.heap.size (fun k_ => some k_ ≠ (.slice Ao29 y259.length co29 : Value).ownBlock ∧ some k_ ≠ (.slice Ao45 t284.length co45 : Value).ownBlock ∧ k_ ≠ gb271 ∧ k_ ≠ gb289 ∧ k_ ≠ gb290 ∧ k_ ≠ gb300 ∧ k_ ≠ gb311 ∧ k_ ≠ gb315) (.slice Ao33 t266.length co33) t266) := ⟨(by rw [hw]; exact (by (with_reducible repeat (first | apply Kd.V_alloc | apply Kd.V_drewN | apply Kd.V_drew)); exact Kd.V_mono (Kd.V_off (g := gb315) (fun _ hk => hk.2) (Kd.V_mono HO268.out (fun k_ hk => (⟨hk, hk.2⟩ : _ ∧ k_ ≠ gb315)))) (fun _ hk => ⟨hk.1.1.1.1.1.1.1.1, ⟨hk.1.1.1.1.1.1.2, ⟨hk.1.1.1.1.1.1.1.2, ⟨hk.1.1.1.1.1.2, ⟨hk.1.1.1.1.2, ⟨hk.1.1.1.2, ⟨hk.1.1.2, hk.1.2⟩⟩⟩⟩⟩⟩⟩)))⟩; have n2_ : Az (Kd.V k30 30 w71 w.heap.size (fun k_ => some k_ ≠ (.slice Ao29 y259.length co29 : Value).ownBlock ∧ some k_ ≠ (.slice Ao45 t284.length co45 : Value).ownBlock ∧ k_ ≠ gb271 ∧ k_ ≠ gb289 ∧ k_ ≠ gb290 ∧ k_ ≠ gb300 ∧ k_ ≠ gb311 ∧ k_ ≠ gb315) (.slice Ao42 t276.length co42) t276) := ⟨(by rw [hw]; exact (by (with_reducible repeat (first | apply Kd.V_alloc | apply Kd.V_drewN | apply Kd.V_drew)); exact Kd.V_mono (Kd.V_off (g := gb315) (fun _ hk => hk.2) (Kd.V_mono HO278.out (fun k_ hk => (⟨hk, hk.2⟩ : _ ∧ k_ ≠ gb315)))) (fun _ hk => ⟨hk.1.1.1.1.1.1.2.1, ⟨hk.1.1.1.1.1.1.1, ⟨hk.1.1.1.1.1.1.2.2, ⟨hk.1.1.1.1.1.2, ⟨hk.1.1.1.1.2, ⟨hk.1.1.1.2, ⟨hk.1.1.2, hk.1.2⟩⟩⟩⟩⟩⟩⟩)))⟩; have n3_ : Az (Kd.R k30 30 w71 w.heap.size (fun k_ => k_ ≠ gb315) (.slice Ao45 t284.length co45) t284) := ⟨(by rw [hw]; exact (by (with_reducible repeat (first | apply Kd.R_alloc | apply Kd.R_drewN | apply Kd.R_drew)); exact Kd.R_mono (Kd.R_far (p := ⟨gb315, 1, none⟩) (Kd.R_far (p := ⟨gb315, 0, none⟩) (Kd.R_mono HO286.out (fun k_ hk => (⟨hk, hk.2⟩ : _ ∧ k_ ≠ gb315))) (fun _ hk => hk.2) (.int .i64 t312)) (fun _ hk => hk.2) (.int .i64 t313)) (fun _ hk => hk.1.2)))⟩; have n4_ : Az (Kd.V k30 30 w71 w.heap.size (fun k_ => some k_ ≠ (.slice Ao29 y259.length co29 : Value).ownBlock ∧ some k_ ≠ (.slice Ao45 t284.length co45 : Value).ownBlock ∧ k_ ≠ gb271 ∧ k_ ≠ gb289 ∧ k_ ≠ gb290 ∧ k_ ≠ gb300 ∧ k_ ≠ gb311 ∧ k_ ≠ gb315) (.slice Ao52 t295.length co52) t295) := ⟨(by rw [hw]; exact (by (with_reducible repeat (first | apply Kd.V_alloc | apply Kd.V_drewN | apply Kd.V_drew)); exact Kd.V_mono (Kd.V_off (g := gb315) (fun _ hk => hk.2) (Kd.V_mono HO297.out (fun k_ hk => (⟨hk, hk.2⟩ : _ ∧ k_ ≠ gb315)))) (fun _ hk => ⟨hk.1.1.1.1.1, ⟨hk.1.1.1.1.2.1, ⟨hk.1.1.1.1.2.2.1, ⟨hk.1.1.1.1.2.2.2.1, ⟨hk.1.1.1.1.2.2.2.2, ⟨hk.1.1.1.2, ⟨hk.1.1.2, hk.1.2⟩⟩⟩⟩⟩⟩⟩)))⟩; have n5_ : Az (Kd.V k30 30 w71 w.heap.size (fun k_ => some k_ ≠ (.slice Ao29 y259.length co29 : Value).ownBlock ∧ some k_ ≠ (.slice Ao45 t284.length co45 : Value).ownBlock ∧ k_ ≠ gb271 ∧ k_ ≠ gb289 ∧ k_ ≠ gb290 ∧ k_ ≠ gb300 ∧ k_ ≠ gb311 ∧ k_ ≠ gb315) (.slice Ao61 t306.length co61) t306) := ⟨(by rw [hw]; exact (by (with_reducible repeat (first | apply Kd.V_alloc | apply Kd.V_drewN | apply Kd.V_drew)); exact Kd.V_mono (Kd.V_off (g := gb315) (fun _ hk => hk.2) (Kd.V_mono HO308.out (fun k_ hk => (⟨hk, hk.2⟩ : _ ∧ k_ ≠ gb315)))) (fun _ hk => ⟨hk.1.1.1.1, ⟨hk.1.1.1.2.1, ⟨hk.1.1.1.2.2.1, ⟨hk.1.1.1.2.2.2.1, ⟨hk.1.1.1.2.2.2.2.1, ⟨hk.1.1.1.2.2.2.2.2, ⟨hk.1.1.2, hk.1.2⟩⟩⟩⟩⟩⟩⟩)))⟩; have n6_ : Az (w71.heap[gb271]? = some (.cells #[.int .i64 t262, .string t263, .string t264, .int .i64 t265, .slice Ao33 t266.length co33, .int .i64 t269] 26 (0, 0))) := ⟨(by rw [hw]; exact (bf BK271.out))⟩; have n7_ : Az (w71.heap[gb289]? = some (.cells #[.int .i64 t272, .string t273, .string t274, .int .i64 t275, .slice Ao42 t276.length co42, .int .i64 t279] 26 (0, 0))) := ⟨(by rw [hw]; exact (bf BK289.out))⟩; have n8_ : Az (w71.heap[gb290]? = some (.cells #[.int .i64 t280, .string t281, .string t282, .int .i64 t283, .slice Ao45 t284.length co45, .int .i64 t287] 26 (0, 0))) := ⟨(by rw [hw]; exact (bf BK290.out))⟩; have n9_ : Az (w71.heap[gb300]? = some (.cells #[.int .i64 t291, .string t292, .string t293, .int .i64 t294, .slice Ao52 t295.length co52, .int .i64 t298] 26 (0, 0))) := ⟨(by rw [hw]; exact (bf BK300.out))⟩; have n10_ : Az (w71.heap[gb311]? = some (.cells #[.int .i64 t302, .string t303, .string t304, .int .i64 t305, .slice Ao61 t306.length co61, .int .i64 t309] 26 (0, 0))) := ⟨(by rw [hw]; exact (bf BK311.out))⟩; have n11_ : Az (w71.heap[gb315]? = some (.cells #[.int .i64 t312, .int .i64 t313] 30 (0, 0))) := ⟨(by rw [hw]; exact (by refine bk ?_; refine blk_put (cs := #[.int .i64 t312, .int .i64 0]) ?_ 1 _ rfl; refine bk ?_; refine blk_put (cs := #[.int .i64 0, .int .i64 0]) ?_ 0 _ rfl; refine bk ?_; exact BK315.out))⟩; have n12_ : Az (Below w.heap.size w w71) := ⟨(by rw [hw]; exact (by exact pbE HB.out))⟩; clear hw; clear HO261; clear HO268; clear HO278; clear HO286; clear HO297; clear HO308; clear BK271; clear BK289; clear BK290; clear BK300; clear BK311; clear BK315; clear HB; have HO261 := n0_; have HO268 := n1_; have HO278 := n2_; have HO286 := n3_; have HO297 := n4_; have HO308 := n5_; have BK271 := n6_; have BK289 := n7_; have BK290 := n8_; have BK300 := n9_; have BK311 := n10_; have BK315 := n11_; have HB := n12_; clear n0_ n1_ n2_ n3_ n4_ n5_ n6_ n7_ n8_ n9_ n10_ n11_ n12_; have hcz72 := cells6 BK290.out; have hcz73 := cells6 BK289.out) | ((with_reducible refine gtc (f := 22) rfl ?_); refine goesL_ (some 44) rfl rfl Tryz.func22 (by kernel_rfl) rfl #[.agg #[.int .i64 t280, .string t281, .string t282, .int .i64 t283, .slice Ao45 t284.length co45, .int .i64 t287], .agg #[.int .i64 t272, .string t273, .string t274, .int .i64 t275, .slice Ao42 t276.length co42, .int .i64 t279]] rfl (by (try simp only [List.map_toArray, List.map_cons, List.map_nil]); first | done | rfl | (simp only [List.length_drop, List.length_take]; rfl)) ?_; (with_reducible refine (desc_Merge.calls k t280 t281 t282 t283 (fun k_ => some k_ = (.slice Ao45 t284.length co45 : Value).ownBlock) _ _ t284 t287 t272 t273 t274 t275 _ _ t276 t279 t316 t317 t318 t319 t320 t323 t324 _ ?side1 ?side2 ?side3 ?side4 A7.out).mono ?_); (case side1 => exact hG.below (by exact pbE HB.out)); (case side2 => exact Kd.R_V (Kd.R_tight rfl (Kd.R_types (Kd.R_types (Kd.R_types (Kd.R_types (Kd.R_types (Kd.R_apart' (HO286.out) (Kd.R_typed HO261.out) (by decide)) BK271.out (by decide)) BK289.out (by decide)) BK290.out (by decide)) BK300.out (by decide)) BK311.out (by decide)))); (case side3 => repeat (first | exact (Kd.V_reads' HO278.out).2.2 | (with_reducible refine Kd.C_alloc ?_ _) | (with_reducible refine Kd.C_drewN ?_ _) | (with_reducible refine Kd.C_drew ?_))); (case side4 => exact (Kd.V_reads' HO278.out).2.1); rintro e w74 ⟨v321, rfl, ho0, hb⟩; refine ⟨_, rfl, ?_⟩; replace HO268 := Az.mk (Kd.V_below (Kd.V_ext HO268.out) hb); replace HO278 := Az.mk (Kd.V_below (Kd.V_ext HO278.out) hb); replace HO297 := Az.mk (Kd.V_below (Kd.V_ext HO297.out) hb); replace HO308 := Az.mk (Kd.V_below (Kd.V_ext HO308.out) hb); have HO322 := Az.mk (Kd.V_lower (Kd.V_mono (ok' := fun k_ => some k_ ≠ (.slice Ao29 y259.length co29 : Value).ownBlock ∧ k_ ≠ gb271 ∧ k_ ≠ gb289 ∧ k_ ≠ gb290 ∧ k_ ≠ gb300 ∧ k_ ≠ gb311 ∧ k_ ≠ gb315) ho0 (fun k_ hk_ => ⟨Or.elim hk_ (fun hs_ => ((Kd.R_types (Kd.R_types (Kd.R_types (Kd.R_types (Kd.R_types (Kd.R_apart' (HO286.out) (Kd.R_typed HO261.out) (by decide)) BK271.out (by decide)) BK289.out (by decide)) BK290.out (by decide)) BK300.out (by decide)) BK311.out (by decide)).1 k_ hs_.symm).1.1.1.1.1.2) (fun hn_ => (Kd.fresh' (Kd.R_lt (Kd.R_ext HO261.out)) k_ hn_)), Or.elim hk_ (fun hs_ => ((Kd.R_types (Kd.R_types (Kd.R_types (Kd.R_types (Kd.R_types (Kd.R_apart' (HO286.out) (Kd.R_typed HO261.out) (by decide)) BK271.out (by decide)) BK289.out (by decide)) BK290.out (by decide)) BK300.out (by decide)) BK311.out (by decide)).1 k_ hs_.symm).1.1.1.1.2) (fun hn_ => (Kd.freshB (bk BK271.out) k_ hn_)), Or.elim hk_ (fun hs_ => ((Kd.R_types (Kd.R_types (Kd.R_types (Kd.R_types (Kd.R_types (Kd.R_apart' (HO286.out) (Kd.R_typed HO261.out) (by decide)) BK271.out (by decide)) BK289.out (by decide)) BK290.out (by decide)) BK300.out (by decide)) BK311.out (by decide)).1 k_ hs_.symm).1.1.1.2) (fun hn_ => (Kd.freshB (bk BK289.out) k_ hn_)), Or.elim hk_ (fun hs_ => ((Kd.R_types (Kd.R_types (Kd.R_types (Kd.R_types (Kd.R_types (Kd.R_apart' (HO286.out) (Kd.R_typed HO261.out) (by decide)) BK271.out (by decide)) BK289.out (by decide)) BK290.out (by decide)) BK300.out (by decide)) BK311.out (by decide)).1 k_ hs_.symm).1.1.2) (fun hn_ => (Kd.freshB (bk BK290.out) k_ hn_)), Or.elim hk_ (fun hs_ => ((Kd.R_types (Kd.R_types (Kd.R_types (Kd.R_types (Kd.R_types (Kd.R_apart' (HO286.out) (Kd.R_typed HO261.out) (by decide)) BK271.out (by decide)) BK289.out (by decide)) BK290.out (by decide)) BK300.out (by decide)) BK311.out (by decide)).1 k_ hs_.symm).1.2) (fun hn_ => (Kd.freshB (bk BK300.out) k_ hn_)), Or.elim hk_ (fun hs_ => ((Kd.R_types (Kd.R_types (Kd.R_types (Kd.R_types (Kd.R_types (Kd.R_apart' (HO286.out) (Kd.R_typed HO261.out) (by decide)) BK271.out (by decide)) BK289.out (by decide)) BK290.out (by decide)) BK300.out (by decide)) BK311.out (by decide)).1 k_ hs_.symm).2) (fun hn_ => (Kd.freshB (bk BK311.out) k_ hn_)), Or.elim hk_ (fun hs_ => ((Kd.R_types (Kd.R_types (Kd.R_types (Kd.R_types (Kd.R_types (Kd.R_apart' (HO286.out) (Kd.R_typed HO261.out) (by decide)) BK271.out (by decide)) BK289.out (by decide)) BK290.out (by decide)) BK300.out (by decide)) BK311.out (by decide)).1 k_ hs_.symm).1.1.1.1.1.1) (fun hn_ => (Kd.freshB (bk BK315.out) k_ hn_))⟩)) (pbZ (by exact pbE HB.out))); replace HO261 := Az.mk (Kd.R_below (Kd.R_ext HO261.out) hb); replace HO286 := Az.mk (Kd.R_below (Kd.R_ext HO286.out) hb); replace BK271 := Az.mk (bkB (bk BK271.out) hb); replace BK289 := Az.mk (bkB (bk BK289.out) hb); replace BK290 := Az.mk (bkB (bk BK290.out) hb); replace BK300 := Az.mk (bkB (bk BK300.out) hb); replace BK311 := Az.mk (bkB (bk BK311.out) hb); replace BK315 := Az.mk (bkB (bk BK315.out) hb); replace HB := Az.mk (pbT (by exact pbE HB.out) hb); (try clear hb); (try clear hb2); (try clear hk); (try clear hi); (try clear ho0)) | ((with_reducible refine gate_dst (N := 12) rfl ?_); refine box_event ?hg (N := 12) ?hd (cs := #[.int .i64 0, .string (⟨#[]⟩ : ByteArray), .string (⟨#[]⟩ : ByteArray), .int .i64 0, .slice none 0 0, .int .i64 0]) (t := 26) ?hr ?_; (case hd => rfl); (case hg => rfl); (case hr => first | (go_simp; done) | (go_simp; rfl)); intro gb325 hg w75 hbox hb; replace HO261 := Az.mk (Kd.R_below (Kd.R_ext HO261.out) hb); replace HO268 := Az.mk (Kd.V_below (Kd.V_elderB (Kd.V_ext HO268.out) gb325 (Nat.le_of_eq hg.symm)) hb); replace HO278 := Az.mk (Kd.V_below (Kd.V_elderB (Kd.V_ext HO278.out) gb325 (Nat.le_of_eq hg.symm)) hb); replace HO286 := Az.mk (Kd.R_below (Kd.R_ext HO286.out) hb); replace HO297 := Az.mk (Kd.V_below (Kd.V_elderB (Kd.V_ext HO297.out) gb325 (Nat.le_of_eq hg.symm)) hb); replace HO308 := Az.mk (Kd.V_below (Kd.V_elderB (Kd.V_ext HO308.out) gb325 (Nat.le_of_eq hg.symm)) hb); replace HO322 := Az.mk (Kd.V_below (Kd.V_elderB (Kd.V_ext HO322.out) gb325 (Nat.le_of_eq hg.symm)) hb); have BK325 := Az.mk (hbox); have GW325 := Az.mk (geO hg (pbE HB.out)); have GE325 := Az.mk (geO hg (pbE HB.out)); replace HB := Az.mk (pbT (by exact pbE HB.out) hb); have NB271_325 := Az.mk (neO hg (bk BK271.out)); have NB325_271 := Az.mk (neP hg (bk BK271.out)); replace BK271 := Az.mk (bkB (bk BK271.out) hb); have NB289_325 := Az.mk (neO hg (bk BK289.out)); have NB325_289 := Az.mk (neP hg (bk BK289.out)); replace BK289 := Az.mk (bkB (bk BK289.out) hb); have NB290_325 := Az.mk (neO hg (bk BK290.out)); have NB325_290 := Az.mk (neP hg (bk BK290.out)); replace BK290 := Az.mk (bkB (bk BK290.out) hb); have NB300_325 := Az.mk (neO hg (bk BK300.out)); have NB325_300 := Az.mk (neP hg (bk BK300.out)); replace BK300 := Az.mk (bkB (bk BK300.out) hb); have NB311_325 := Az.mk (neO hg (bk BK311.out)); have NB325_311 := Az.mk (neP hg (bk BK311.out)); replace BK311 := Az.mk (bkB (bk BK311.out) hb); have NB315_325 := Az.mk (neO hg (bk BK315.out)); have NB325_315 := Az.mk (neP hg (bk BK315.out)); replace BK315 := Az.mk (bkB (bk BK315.out) hb); clear hb hbox hg; have hnb76 := NB325_271.out; have hnc76 := NB271_325.out; have hnb77 := NB325_289.out; have hnc77 := NB289_325.out; have hnb78 := NB325_290.out; have hnc78 := NB290_325.out; have hnb79 := NB325_300.out; have hnc79 := NB300_325.out; have hnb80 := NB325_311.out; have hnc80 := NB311_325.out; have hnb81 := NB325_315.out; have hnc81 := NB315_325.out; have hcz82 := cells6 BK325.out; obtain ⟨Ao83, co83, eo83⟩ := Kd.V_slice HO322.out; subst eo83) | ((with_reducible refine gtc (f := 12) rfl ?_); refine goesL_ (some 48) rfl rfl Tryz.func12 (by kernel_rfl) rfl #[.int .i64 t270] rfl (by (try simp only [List.map_toArray, List.map_cons, List.map_nil]); first | done | rfl | (simp only [List.length_drop, List.length_take]; rfl)) ?_; (with_reducible refine (l06_num.calls t270 t326 _ ?side1 A8.out).mono ?_); (case side1 => exact hG.below (by exact pbE HB.out)); rintro e w' ⟨rfl, ⟨nd, rfl⟩⟩; refine ⟨_, rfl, ?_⟩) | ((with_reducible refine gtc (f := 12) rfl ?_); refine goesL_ (some 50) rfl rfl Tryz.func12 (by kernel_rfl) rfl #[.int .i64 t288] rfl (by (try simp only [List.map_toArray, List.map_cons, List.map_nil]); first | done | rfl | (simp only [List.length_drop, List.length_take]; rfl)) ?_; (with_reducible refine (l06_num.calls t288 t327 _ ?side1 A9.out).mono ?_); (case side1 => exact hG.below (by exact pbE HB.out)); rintro e w' ⟨rfl, ⟨nd, rfl⟩⟩; refine ⟨_, rfl, ?_⟩) | ((with_reducible refine gtc (f := 12) rfl ?_); refine goesL_ (some 53) rfl rfl Tryz.func12 (by kernel_rfl) rfl #[.int .i64 t299] rfl (by (try simp only [List.map_toArray, List.map_cons, List.map_nil]); first | done | rfl | (simp only [List.length_drop, List.length_take]; rfl)) ?_; (with_reducible refine (l06_num.calls t299 t328 _ ?side1 A10.out).mono ?_); (case side1 => exact hG.below (by exact pbE HB.out)); rintro e w' ⟨rfl, ⟨nd, rfl⟩⟩; refine ⟨_, rfl, ?_⟩) | ((with_reducible refine gtc (f := 12) rfl ?_); refine goesL_ (some 56) rfl rfl Tryz.func12 (by kernel_rfl) rfl #[.int .i64 t310] rfl (by (try simp only [List.map_toArray, List.map_cons, List.map_nil]); first | done | rfl | (simp only [List.length_drop, List.length_take]; rfl)) ?_; (with_reducible refine (l06_num.calls t310 t329 _ ?side1 A11.out).mono ?_); (case side1 => exact hG.below (by exact pbE HB.out)); rintro e w' ⟨rfl, ⟨nd, rfl⟩⟩; refine ⟨_, rfl, ?_⟩; have hcz84 := cells6 BK289.out; have hcz85 := cells6 BK290.out; have hcz86 := cells6 BK300.out; have hcz87 := cells6 BK311.out) | (go_at_call 15; (with_reducible refine (r06_Same.calls k t302 t303 t304 t305 _ _ t306 t309 t291 t292 t293 t294 _ _ t295 t298 true _ ?side1 ?side2 ?side3 ?side4 ?side5 A17.out).mono ?_); (case side1 => exact hG.below (by exact pbE HB.out)); (case side2 => refine (Kd.V_reads' (e := 30) (base := w.heap.size) (ok := fun k_ => ((some k_ ≠ (.slice Ao29 y259.length co29 : Value).ownBlock ∧ (some k_ ≠ (.slice Ao45 t284.length co45 : Value).ownBlock ∧ (k_ ≠ gb271 ∧ (k_ ≠ gb289 ∧ (k_ ≠ gb290 ∧ (k_ ≠ gb300 ∧ (k_ ≠ gb311 ∧ k_ ≠ gb315))))))) ∧ k_ ≠ gb325)) (n := t306.length) (c := co61) ?_).2.2; exact (by (with_reducible repeat (first | apply Kd.V_alloc | apply Kd.V_drewN | apply Kd.V_drew)); exact (Kd.V_mono (Kd.V_off (g := gb325) (fun _ hk => hk.2) (Kd.V_mono HO308.out (fun k_ hk => (⟨hk, hk.2⟩ : _ ∧ k_ ≠ gb325)))) (fun _ h_ => h_.1)))); (case side3 => exact (Kd.V_reads' HO308.out).2.1); (case side4 => refine (Kd.V_reads' (e := 30) (base := w.heap.size) (ok := fun k_ => ((some k_ ≠ (.slice Ao29 y259.length co29 : Value).ownBlock ∧ (some k_ ≠ (.slice Ao45 t284.length co45 : Value).ownBlock ∧ (k_ ≠ gb271 ∧ (k_ ≠ gb289 ∧ (k_ ≠ gb290 ∧ (k_ ≠ gb300 ∧ (k_ ≠ gb311 ∧ k_ ≠ gb315))))))) ∧ k_ ≠ gb325)) (n := t295.length) (c := co52) ?_).2.2; exact (by (with_reducible repeat (first | apply Kd.V_alloc | apply Kd.V_drewN | apply Kd.V_drew)); exact (Kd.V_mono (Kd.V_off (g := gb325) (fun _ hk => hk.2) (Kd.V_mono HO297.out (fun k_ hk => (⟨hk, hk.2⟩ : _ ∧ k_ ≠ gb325)))) (fun _ h_ => h_.1)))); (case side5 => exact (Kd.V_reads' HO297.out).2.1); rintro e w88 ⟨rfl, hb⟩; replace HO261 := Az.mk (Kd.R_below (by (with_reducible repeat (first | apply Kd.R_alloc | apply Kd.R_drewN | apply Kd.R_drew)); exact (Kd.R_mono (Kd.R_far (p := ⟨gb325, 5, none⟩) (Kd.R_far (p := ⟨gb325, 4, none⟩) (Kd.R_far (p := ⟨gb325, 3, none⟩) (Kd.R_far (p := ⟨gb325, 2, none⟩) (Kd.R_far (p := ⟨gb325, 1, none⟩) (Kd.R_far (p := ⟨gb325, 0, none⟩) (Kd.R_types HO261.out BK325.out (by decide)) (fun _ hk => hk.2) (.int .i64 t316)) (fun _ hk => hk.2) (.string t317)) (fun _ hk => hk.2) (.string t318)) (fun _ hk => hk.2) (.int .i64 t319)) (fun _ hk => hk.2) (.slice Ao83 t320.length co83)) (fun _ hk => hk.2) (.int .i64 t323)) (fun _ h_ => h_.1))) hb); replace HO268 := Az.mk (Kd.V_below (by (with_reducible repeat (first | apply Kd.V_alloc | apply Kd.V_drewN | apply Kd.V_drew)); exact (Kd.V_mono (Kd.V_off (g := gb325) (fun _ hk => hk.2) (Kd.V_mono HO268.out (fun k_ hk => (⟨hk, hk.2⟩ : _ ∧ k_ ≠ gb325)))) (fun _ h_ => h_.1))) hb); replace HO278 := Az.mk (Kd.V_below (by (with_reducible repeat (first | apply Kd.V_alloc | apply Kd.V_drewN | apply Kd.V_drew)); exact (Kd.V_mono (Kd.V_off (g := gb325) (fun _ hk => hk.2) (Kd.V_mono HO278.out (fun k_ hk => (⟨hk, hk.2⟩ : _ ∧ k_ ≠ gb325)))) (fun _ h_ => h_.1))) hb); replace HO286 := Az.mk (Kd.R_below (by (with_reducible repeat (first | apply Kd.R_alloc | apply Kd.R_drewN | apply Kd.R_drew)); exact (Kd.R_mono (Kd.R_far (p := ⟨gb325, 5, none⟩) (Kd.R_far (p := ⟨gb325, 4, none⟩) (Kd.R_far (p := ⟨gb325, 3, none⟩) (Kd.R_far (p := ⟨gb325, 2, none⟩) (Kd.R_far (p := ⟨gb325, 1, none⟩) (Kd.R_far (p := ⟨gb325, 0, none⟩) (Kd.R_types HO286.out BK325.out (by decide)) (fun _ hk => hk.2) (.int .i64 t316)) (fun _ hk => hk.2) (.string t317)) (fun _ hk => hk.2) (.string t318)) (fun _ hk => hk.2) (.int .i64 t319)) (fun _ hk => hk.2) (.slice Ao83 t320.length co83)) (fun _ hk => hk.2) (.int .i64 t323)) (fun _ h_ => h_.1))) hb); replace HO297 := Az.mk (Kd.V_below (by (with_reducible repeat (first | apply Kd.V_alloc | apply Kd.V_drewN | apply Kd.V_drew)); exact (Kd.V_mono (Kd.V_off (g := gb325) (fun _ hk => hk.2) (Kd.V_mono HO297.out (fun k_ hk => (⟨hk, hk.2⟩ : _ ∧ k_ ≠ gb325)))) (fun _ h_ => h_.1))) hb); replace HO308 := Az.mk (Kd.V_below (by (with_reducible repeat (first | apply Kd.V_alloc | apply Kd.V_drewN | apply Kd.V_drew)); exact (Kd.V_mono (Kd.V_off (g := gb325) (fun _ hk => hk.2) (Kd.V_mono HO308.out (fun k_ hk => (⟨hk, hk.2⟩ : _ ∧ k_ ≠ gb325)))) (fun _ h_ => h_.1))) hb); replace HO322 := Az.mk (Kd.V_below (by (with_reducible repeat (first | apply Kd.V_alloc | apply Kd.V_drewN | apply Kd.V_drew)); exact (Kd.V_mono (Kd.V_off (g := gb325) (fun _ hk => hk.2) (Kd.V_mono HO322.out (fun k_ hk => (⟨hk, hk.2⟩ : _ ∧ k_ ≠ gb325)))) (fun _ h_ => h_.1))) hb); replace BK271 := Az.mk (bkB (bf BK271.out) hb); replace BK289 := Az.mk (bkB (bf BK289.out) hb); replace BK290 := Az.mk (bkB (bf BK290.out) hb); replace BK300 := Az.mk (bkB (bf BK300.out) hb); replace BK311 := Az.mk (bkB (bf BK311.out) hb); replace BK315 := Az.mk (bkB (bf BK315.out) hb); replace BK325 := Az.mk (bkB (g := gb325) (o := .cells #[.int .i64 t316, .string t317, .string t318, .int .i64 t319, .slice Ao83 t320.length co83, .int .i64 t323] 26 (0, 0)) (by refine bk ?_; refine blk_put (cs := #[.int .i64 t316, .string t317, .string t318, .int .i64 t319, .slice Ao83 t320.length co83, .int .i64 0]) ?_ 5 _ rfl; refine bk ?_; refine blk_put (cs := #[.int .i64 t316, .string t317, .string t318, .int .i64 t319, .slice none 0 0, .int .i64 0]) ?_ 4 _ rfl; refine bk ?_; refine blk_put (cs := #[.int .i64 t316, .string t317, .string t318, .int .i64 0, .slice none 0 0, .int .i64 0]) ?_ 3 _ rfl; refine bk ?_; refine blk_put (cs := #[.int .i64 t316, .string t317, .string (⟨#[]⟩ : ByteArray), .int .i64 0, .slice none 0 0, .int .i64 0]) ?_ 2 _ rfl; refine bk ?_; refine blk_put (cs := #[.int .i64 t316, .string (⟨#[]⟩ : ByteArray), .string (⟨#[]⟩ : ByteArray), .int .i64 0, .slice none 0 0, .int .i64 0]) ?_ 1 _ rfl; refine bk ?_; refine blk_put (cs := #[.int .i64 0, .string (⟨#[]⟩ : ByteArray), .string (⟨#[]⟩ : ByteArray), .int .i64 0, .slice none 0 0, .int .i64 0]) ?_ 0 _ rfl; refine bk ?_; exact BK325.out) hb); replace HB := Az.mk (pbT (by exact pbE HB.out) hb); (try clear hb); (try clear hb2); (try clear hk); (try clear hi); have hcz89 := cells2 BK315.out) | (go_at_call 23; (with_reducible refine (desc_Quorum.calls 4 t331 _ ?side1 A21.out).mono ?_); (case side1 => exact hG.below (by exact pbE HB.out)); rintro e w' ⟨rfl, ⟨nd, rfl⟩⟩) | (go_at_call 12; (with_reducible refine (l06_num.calls t324 t332 _ ?side1 A23.out).mono ?_); (case side1 => exact hG.below (by exact pbE HB.out)); rintro e w' ⟨rfl, ⟨nd, rfl⟩⟩) | (go_at_call 13; (refine (desc_Check.calls 0 (⟨#[]⟩ : ByteArray) (⟨#[]⟩ : ByteArray) 0 _ _ ([] : List (S30)) 0 t333 _ ?side1 ?side2 ?side3 A25.out).mono ?_); (case side1 => exact hG.below (by exact pbE HB.out)); (case side2 => exact Kd.C_nil _ _); (case side3 => exact Nat.le_refl _); rintro e w90 ⟨rfl, hb⟩; replace HO261 := Az.mk (Kd.R_below (Kd.R_ext HO261.out) hb); replace HO268 := Az.mk (Kd.V_below (Kd.V_ext HO268.out) hb); replace HO278 := Az.mk (Kd.V_below (Kd.V_ext HO278.out) hb); replace HO286 := Az.mk (Kd.R_below (Kd.R_ext HO286.out) hb); replace HO297 := Az.mk (Kd.V_below (Kd.V_ext HO297.out) hb); replace HO308 := Az.mk (Kd.V_below (Kd.V_ext HO308.out) hb); replace HO322 := Az.mk (Kd.V_below (Kd.V_ext HO322.out) hb); replace BK271 := Az.mk (bkB (bk BK271.out) hb); replace BK289 := Az.mk (bkB (bk BK289.out) hb); replace BK290 := Az.mk (bkB (bk BK290.out) hb); replace BK300 := Az.mk (bkB (bk BK300.out) hb); replace BK311 := Az.mk (bkB (bk BK311.out) hb); replace BK315 := Az.mk (bkB (bk BK315.out) hb); replace BK325 := Az.mk (bkB (bk BK325.out) hb); replace HB := Az.mk (pbT (by exact pbE HB.out) hb); (try clear hb); (try clear hb2); (try clear hk); (try clear hi)) | (go_at_call 12; (with_reducible refine (l06_num.calls t333 t334 _ ?side1 A26.out).mono ?_); (case side1 => exact hG.below (by exact pbE HB.out)); rintro e w' ⟨rfl, ⟨nd, rfl⟩⟩))
           go_ret
           exact ⟨by first | rfl | (simp [errW_none, errW_some] <;> rfl) | (simp [*, errW_none, errW_some] <;> rfl), by exact pbE HB.out⟩
          ·rw [if_neg c24] at H
           have c24b0 : (t332 == 20) = false := beq_eq_false_iff_ne.mpr c24
           have c24b1 : (t332 != 20) = true := bne_iff_ne.mpr c24
           exact absurd (Option.some.inj (H.trans (congrArg some hr))) (by decide)
         ·rw [if_neg c22] at H
          have c22b0 : (t331 == 3) = false := beq_eq_false_iff_ne.mpr c22
          have c22b1 : (t331 != 3) = true := bne_iff_ne.mpr c22
          exact absurd (Option.some.inj (H.trans (congrArg some hr))) (by decide)
        ·rw [if_neg c20] at H
         have c20b0 : (t313 == 4) = false := beq_eq_false_iff_ne.mpr c20
         have c20b1 : (t313 != 4) = true := bne_iff_ne.mpr c20
         exact absurd (Option.some.inj (H.trans (congrArg some hr))) (by decide)
       ·replace c19 := Bool.eq_false_iff.mpr c19
        subst c19
        rw [if_neg (show ¬ (false = true) by decide)] at H
        exact absurd (Option.some.inj (H.trans (congrArg some hr))) (by decide)
      ·replace c18 := Bool.eq_false_iff.mpr c18
       subst c18
       rw [if_neg (show ¬ (false = true) by decide)] at H
       exact absurd (Option.some.inj (H.trans (congrArg some hr))) (by decide)
     ·rw [if_neg c16] at H
      have c16b0 : (t298 == 5) = false := beq_eq_false_iff_ne.mpr c16
      have c16b1 : (t298 != 5) = true := bne_iff_ne.mpr c16
      exact absurd (Option.some.inj (H.trans (congrArg some hr))) (by decide)
    ·rw [if_neg c15] at H
     have c15b0 : (t283 == 2) = false := beq_eq_false_iff_ne.mpr c15
     have c15b1 : (t283 != 2) = true := bne_iff_ne.mpr c15
     exact absurd (Option.some.inj (H.trans (congrArg some hr))) (by decide)
   ·rw [if_neg c14] at H
    have c14b0 : (t280 == 2) = false := beq_eq_false_iff_ne.mpr c14
    have c14b1 : (t280 != 2) = true := bne_iff_ne.mpr c14
    exact absurd (Option.some.inj (H.trans (congrArg some hr))) (by decide)
  ·rw [if_neg c13] at H
   have c13b0 : (t274.toList == ([109] : List UInt8)) = false := beq_eq_false_iff_ne.mpr c13
   have c13b1 : (t274.toList != ([109] : List UInt8)) = true := bne_iff_ne.mpr c13
   exact absurd (Option.some.inj (H.trans (congrArg some hr))) (by decide)
 ·rw [if_neg c12] at H
  have c12b0 : ((wrap64 ((wrap64 ((wrap64 (t326 + t327)) + t328)) + t329)) == 0) = false := beq_eq_false_iff_ne.mpr c12
  have c12b1 : ((wrap64 ((wrap64 ((wrap64 (t326 + t327)) + t328)) + t329)) != 0) = true := bne_iff_ne.mpr c12
  exact absurd (Option.some.inj (H.trans (congrArg some hr))) (by decide)
end Go.Proofs.YtjfhcijjjadhbaaGreatDoor.P
end
section
namespace Go.Proofs.YtjfhcijjjadhbaaGreatDoor.P
open Go.RowKit Go.Proofs.YtjfhcijjjadhbaaGreatDoor.K Go.Proofs.YtjfhcijjjadhbaaGreatDoorW.PrintWords Go.Proofs.YtjfhcijjjadhbaaGreatDoorW.PrintLast Go.Proofs.YtjfhcijjjadhbaaGreatDoorW.PrintMore
theorem live : l06_liveT.f 60 = some true := by decide +kernel
def l06_live.f : Option Bool := some true
theorem l06_live.calls (r : Bool) (w : World) (hG : TheG w) (h : l06_live.f = some r) :
 Calls Tryz.prog 5 #[] w fun e w' => e = .returned (.bool r) ∧ Below w.heap.size w w' := by
 obtain rfl := Option.some.inj h
 exact l06_liveT.calls 60 true w hG rfl live
end Go.Proofs.YtjfhcijjjadhbaaGreatDoor.P
end
section
namespace Go.Proofs.YtjfhcijjjadhbaaGreatDoor.P
open Go.RowKit Go.Proofs.YtjfhcijjjadhbaaGreatDoor.K Go.Proofs.YtjfhcijjjadhbaaGreatDoorW.PrintWords Go.Proofs.YtjfhcijjjadhbaaGreatDoorW.PrintLast Go.Proofs.YtjfhcijjjadhbaaGreatDoorW.PrintMore
attribute [local go_sem] max2_int min2_int max_two min_two max_three min_three max_four min_four   -- for this text's walks alone
attribute [local go_sem high] eqA30
mutual
def l06_DescChecks.j0 : Nat → Int → Int → ByteArray → Bool → Int → ByteArray → ByteArray → Int → List (S30) → Int → Int → ByteArray → ByteArray → Int → List (S30) → Int → Option (Bool)
 | 0, _, _, _, _, _, _, _, _, _, _, _, _, _, _, _, _ => none
 | k + 1, x2, x3, x4, x37, x424000, x424001, x424002, x424003, x424004, x424005, x425000, x425001, x425002, x425003, x425004, x425005 => if x37 = true then ((l06_live.f).bind fun t427 => (some t427)) else ((desc_On.f x424000 x424001 x424002 x424003 x424004 x424005 x2).bind fun bt428 => ((r06_On.f k x424000 x424001 x424002 x424003 x424004 x424005 x2).bind fun bt432 => ((desc_Has.f x424000 x424001 x424002 x424003 x424004 x424005 x3).bind fun bt436 => ((r06_Has.f k x424000 x424001 x424002 x424003 x424004 x424005 x3).bind fun bt440 => ((desc_Parse.f k x4).bind fun bt444 => ((r06_Parse.f k x4).bind fun bt454 => ((desc_Check.f x424000 x424001 x424002 x424003 x424004 x424005).bind fun t464 => ((l06_num.f t464).bind fun t465 => ((r06_Is.f k x424000 x424001 x424002 x424003 x424004 x424005).bind fun t466 => (if ((t465 == 0) != t466) = true then (l06_DescChecks.j1 k true x424000 x424001 x424002 x424003 x424004 x424005) else (if (!(bt428.1 == bt432.1) || (!(bt428.2.1 == bt432.2.1))) = true then (l06_DescChecks.j1 k true x424000 x424001 x424002 x424003 x424004 x424005) else (if (bt428.2.2 != bt432.2.2) = true then (l06_DescChecks.j1 k true x424000 x424001 x424002 x424003 x424004 x424005) else (if (!(bt436.1 == bt440.1) || (!(bt436.2.1 == bt440.2.1))) = true then (l06_DescChecks.j1 k true x424000 x424001 x424002 x424003 x424004 x424005) else (if (bt436.2.2 != bt440.2.2) = true then (l06_DescChecks.j1 k true x424000 x424001 x424002 x424003 x424004 x424005) else ((r06_Same.f k bt444.1 bt444.2.1 bt444.2.2.1 bt444.2.2.2.1 bt444.2.2.2.2.1 bt444.2.2.2.2.2.1 bt454.1 bt454.2.1 bt454.2.2.1 bt454.2.2.2.1 bt454.2.2.2.2.1 bt454.2.2.2.2.2.1).bind fun t467 => (if t467 = true then ((l06_num.f bt444.2.2.2.2.2.2).bind fun t468 => (if t468 = bt454.2.2.2.2.2.2 then ((desc_Same.f k x424000 x424001 x424002 x424003 x424004 x424005 x425000 x425001 x425002 x425003 x425004 x425005).bind fun t469 => ((r06_Same.f k x424000 x424001 x424002 x424003 x424004 x424005 x425000 x425001 x425002 x425003 x425004 x425005).bind fun t470 => (l06_DescChecks.j1 k (t469 != t470) x424000 x424001 x424002 x424003 x424004 x424005))) else (l06_DescChecks.j1 k true x424000 x424001 x424002 x424003 x424004 x424005))) else (l06_DescChecks.j1 k true x424000 x424001 x424002 x424003 x424004 x424005)))))))))))))))))
def l06_DescChecks.j1 : Nat → Bool → Int → ByteArray → ByteArray → Int → List (S30) → Int → Option (Bool)
 | 0, _, _, _, _, _, _, _ => none
 | k + 1, x120, x424000, x424001, x424002, x424003, x424004, x424005 => if x120 = true then (some false) else ((r06_Is.f k x424000 x424001 x424002 x424003 x424004 x424005).bind fun t471 => (if t471 = true then ((desc_Put.f k x424000 x424001 x424002 x424003 x424004 x424005).bind fun t473 => ((desc_Parse.f k t473).bind fun bt474 => ((desc_Put.f k x424000 x424001 x424002 x424003 x424004 x424005).bind fun t484 => ((r06_Put.f k x424000 x424001 x424002 x424003 x424004 x424005).bind fun t485 => (if t484.toList = t485.toList then ((l06_num.f bt474.2.2.2.2.2.2).bind fun t486 => (if t486 = 0 then ((r06_Same.f k bt474.1 bt474.2.1 bt474.2.2.1 bt474.2.2.2.1 bt474.2.2.2.2.1 bt474.2.2.2.2.2.1 x424000 x424001 x424002 x424003 x424004 x424005).bind fun t487 => (if t487 = true then ((l06_live.f).bind fun t488 => (some t488)) else (some false))) else (some false))) else (some false)))))) else ((l06_live.f).bind fun t472 => (some t472))))
end
theorem l06_DescChecks.j1_dead {k : Nat} {r : Bool} {y1} {y2} {y3} {y4} {y5} {y6} (hr : r = true) (H : l06_DescChecks.j1 k true y1 y2 y3 y4 y5 y6 = some r) : False := by
 cases k with
 | zero => simp [l06_DescChecks.j1] at H
 | succ k => simp only [l06_DescChecks.j1, eq_self, if_true] at H; cases H; cases hr
def l06_DescChecks.f (k : Nat) (a0_0 : Int) (a0_1 : ByteArray) (a0_2 : ByteArray) (a0_3 : Int) (l0_4 : List (S30)) (a0_5 : Int) (a1_0 : Int) (a1_1 : ByteArray) (a1_2 : ByteArray) (a1_3 : Int) (l1_4 : List (S30)) (a1_5 : Int) (a2 : Int) (a3 : Int) (a4 : ByteArray) : Option (Bool) := (l06_small.f a0_0 a0_1 a0_2 a0_3 l0_4 a0_5).bind fun t425 => (if t425 = true then ((l06_small.f a1_0 a1_1 a1_2 a1_3 l1_4 a1_5).bind fun t426 => (if t426 = true then (l06_DescChecks.j0 k a2 a3 a4 (decide ((a4.size : Int) > 2000)) a0_0 a0_1 a0_2 a0_3 l0_4 a0_5 a1_0 a1_1 a1_2 a1_3 l1_4 a1_5) else (l06_DescChecks.j0 k a2 a3 a4 true a0_0 a0_1 a0_2 a0_3 l0_4 a0_5 a1_0 a1_1 a1_2 a1_3 l1_4 a1_5))) else (l06_DescChecks.j0 k a2 a3 a4 true a0_0 a0_1 a0_2 a0_3 l0_4 a0_5 a1_0 a1_1 a1_2 a1_3 l1_4 a1_5))
theorem l06_DescChecks.mono_l : ∀ k, (∀ y0 y1 y2 y3 y4 y5 y6 y7 y8 y9 y10 y11 y12 y13 y14 y15, LeO (l06_DescChecks.j0 k y0 y1 y2 y3 y4 y5 y6 y7 y8 y9 y10 y11 y12 y13 y14 y15) (l06_DescChecks.j0 (k + 1) y0 y1 y2 y3 y4 y5 y6 y7 y8 y9 y10 y11 y12 y13 y14 y15)) ∧ (∀ y0 y1 y2 y3 y4 y5 y6, LeO (l06_DescChecks.j1 k y0 y1 y2 y3 y4 y5 y6) (l06_DescChecks.j1 (k + 1) y0 y1 y2 y3 y4 y5 y6))
 | 0 => ⟨fun _ _ _ _ _ _ _ _ _ _ _ _ _ _ _ _ r h => by simp [l06_DescChecks.j0] at h, fun _ _ _ _ _ _ _ r h => by simp [l06_DescChecks.j1] at h⟩
 | k + 1 => by
  obtain ⟨ih0, ih1⟩ := l06_DescChecks.mono_l k
  refine ⟨?_, ?_⟩
  ·intro y0 y1 y2 y3 y4 y5 y6 y7 y8 y9 y10 y11 y12 y13 y14 y15
   unfold l06_DescChecks.j0
   repeat' first
   | (with_reducible exact ih0 _ _ _ _ _ _ _ _ _ _ _ _ _ _ _ _)
   | (with_reducible exact ih1 _ _ _ _ _ _ _)
   | (with_reducible exact desc_Parse.mono _ _)
   | (with_reducible exact desc_Put.mono _ _ _ _ _ _ _)
   | (with_reducible exact desc_Same.mono _ _ _ _ _ _ _ _ _ _ _ _ _)
   | (with_reducible exact r06_Has.mono _ _ _ _ _ _ _ _)
   | (with_reducible exact r06_Is.mono _ _ _ _ _ _ _)
   | (with_reducible exact r06_On.mono _ _ _ _ _ _ _ _)
   | (with_reducible exact r06_Parse.mono _ _)
   | (with_reducible exact r06_Put.mono _ _ _ _ _ _ _)
   | (with_reducible exact r06_Same.mono _ _ _ _ _ _ _ _ _ _ _ _ _)
   | (with_reducible exact LeO.refl _)
   | (with_reducible exact LeO.none _)
   | (with_reducible refine LeO.ite ?_ ?_)
   | (with_reducible refine LeO.bind ?_ (fun _ => ?_))
   | exact ih0 _ _ _ _ _ _ _ _ _ _ _ _ _ _ _ _
   | exact ih1 _ _ _ _ _ _ _
   | exact desc_Parse.mono _ _
   | exact desc_Put.mono _ _ _ _ _ _ _
   | exact desc_Same.mono _ _ _ _ _ _ _ _ _ _ _ _ _
   | exact r06_Has.mono _ _ _ _ _ _ _ _
   | exact r06_Is.mono _ _ _ _ _ _ _
   | exact r06_On.mono _ _ _ _ _ _ _ _
   | exact r06_Parse.mono _ _
   | exact r06_Put.mono _ _ _ _ _ _ _
   | exact r06_Same.mono _ _ _ _ _ _ _ _ _ _ _ _ _
   | exact LeO.none _
   | refine LeO.ite ?_ ?_
   | refine LeO.bind ?_ (fun _ => ?_)
  ·intro y0 y1 y2 y3 y4 y5 y6
   unfold l06_DescChecks.j1
   repeat' first
   | (with_reducible exact ih0 _ _ _ _ _ _ _ _ _ _ _ _ _ _ _ _)
   | (with_reducible exact ih1 _ _ _ _ _ _ _)
   | (with_reducible exact desc_Parse.mono _ _)
   | (with_reducible exact desc_Put.mono _ _ _ _ _ _ _)
   | (with_reducible exact desc_Same.mono _ _ _ _ _ _ _ _ _ _ _ _ _)
   | (with_reducible exact r06_Has.mono _ _ _ _ _ _ _ _)
   | (with_reducible exact r06_Is.mono _ _ _ _ _ _ _)
   | (with_reducible exact r06_On.mono _ _ _ _ _ _ _ _)
   | (with_reducible exact r06_Parse.mono _ _)
   | (with_reducible exact r06_Put.mono _ _ _ _ _ _ _)
   | (with_reducible exact r06_Same.mono _ _ _ _ _ _ _ _ _ _ _ _ _)
   | (with_reducible exact LeO.refl _)
   | (with_reducible exact LeO.none _)
   | (with_reducible refine LeO.ite ?_ ?_)
   | (with_reducible refine LeO.bind ?_ (fun _ => ?_))
   | exact ih0 _ _ _ _ _ _ _ _ _ _ _ _ _ _ _ _
   | exact ih1 _ _ _ _ _ _ _
   | exact desc_Parse.mono _ _
   | exact desc_Put.mono _ _ _ _ _ _ _
   | exact desc_Same.mono _ _ _ _ _ _ _ _ _ _ _ _ _
   | exact r06_Has.mono _ _ _ _ _ _ _ _
   | exact r06_Is.mono _ _ _ _ _ _ _
   | exact r06_On.mono _ _ _ _ _ _ _ _
   | exact r06_Parse.mono _ _
   | exact r06_Put.mono _ _ _ _ _ _ _
   | exact r06_Same.mono _ _ _ _ _ _ _ _ _ _ _ _ _
   | exact LeO.none _
   | refine LeO.ite ?_ ?_
   | refine LeO.bind ?_ (fun _ => ?_)
theorem l06_DescChecks.mono : ∀ a0 a1 a2 a3 a4 a5 a6 a7 a8 a9 a10 a11 a12 a13 a14 k, LeO (l06_DescChecks.f k a0 a1 a2 a3 a4 a5 a6 a7 a8 a9 a10 a11 a12 a13 a14) (l06_DescChecks.f (k + 1) a0 a1 a2 a3 a4 a5 a6 a7 a8 a9 a10 a11 a12 a13 a14) := by
 intro a0 a1 a2 a3 a4 a5 a6 a7 a8 a9 a10 a11 a12 a13 a14 k
 obtain ⟨ih0, ih1⟩ := l06_DescChecks.mono_l k
 unfold l06_DescChecks.f
 repeat' first
  | (with_reducible exact ih0 _ _ _ _ _ _ _ _ _ _ _ _ _ _ _ _)
  | (with_reducible exact ih1 _ _ _ _ _ _ _)
  | (with_reducible exact desc_Parse.mono _ _)
  | (with_reducible exact desc_Put.mono _ _ _ _ _ _ _)
  | (with_reducible exact desc_Same.mono _ _ _ _ _ _ _ _ _ _ _ _ _)
  | (with_reducible exact r06_Has.mono _ _ _ _ _ _ _ _)
  | (with_reducible exact r06_Is.mono _ _ _ _ _ _ _)
  | (with_reducible exact r06_On.mono _ _ _ _ _ _ _ _)
  | (with_reducible exact r06_Parse.mono _ _)
  | (with_reducible exact r06_Put.mono _ _ _ _ _ _ _)
  | (with_reducible exact r06_Same.mono _ _ _ _ _ _ _ _ _ _ _ _ _)
  | (with_reducible exact LeO.refl _)
  | (with_reducible exact LeO.none _)
  | (with_reducible refine LeO.ite ?_ ?_)
  | (with_reducible refine LeO.bind ?_ (fun _ => ?_))
  | exact ih0 _ _ _ _ _ _ _ _ _ _ _ _ _ _ _ _
  | exact ih1 _ _ _ _ _ _ _
  | exact desc_Parse.mono _ _
  | exact desc_Put.mono _ _ _ _ _ _ _
  | exact desc_Same.mono _ _ _ _ _ _ _ _ _ _ _ _ _
  | exact r06_Has.mono _ _ _ _ _ _ _ _
  | exact r06_Is.mono _ _ _ _ _ _ _
  | exact r06_On.mono _ _ _ _ _ _ _ _
  | exact r06_Parse.mono _ _
  | exact r06_Put.mono _ _ _ _ _ _ _
  | exact r06_Same.mono _ _ _ _ _ _ _ _ _ _ _ _ _
  | exact LeO.none _
  | refine LeO.ite ?_ ?_
  | refine LeO.bind ?_ (fun _ => ?_)
def l06_DescChecks.T9 : Bool × List (List Nat × List Nat) := (true, [([], []), ([0], [0]), ([1, 1], [1]), ([2], [2]), ([], []), ([4, 2], [4]), ([3, 5], [3, 5]), ([6, 5], [6]), ([7], [7]), ([7], [7]), ([8, 9, 7], [7, 8, 9]), ([7, 10], [7, 10]), ([11, 7], [11]), ([12], [12]), ([12], [12]), ([13, 14, 12], [12, 13, 14]), ([12, 15], [12, 15]), ([16, 12], [16]), ([17], [17]), ([17], [17]), ([18, 19, 17], [17, 18, 19]), ([17, 20], [17, 20]), ([21, 17], [21]), ([22], [22]), ([22], [22]), ([23, 24, 22], [22, 23, 24]), ([22, 25], [22, 25]), ([26, 22], [26]), ([27], [27]), ([27], [27]), ([28, 29, 27, 27], [27, 28, 29]), ([30, 27], [27, 30]), ([27, 31], [27, 31]), ([32, 30], [32]), ([33], [33]), ([34, 33, 33], [33, 34]), ([33], [33]), ([35, 36, 33], [33, 35, 36]), ([33, 37], [33, 37]), ([38, 35], [38]), ([39], [39]), ([39], [39]), ([40, 41, 39, 39], [39, 40, 41]), ([39], [39]), ([39], [39]), ([43, 44, 42, 39], [39, 43, 44]), ([42, 45, 39], [39, 42, 45]), ([39, 46], [39, 46])])
def l06_DescChecks.B9 : List Nat := [0, 1, 3, 7, 0, 23, 63, 127, 255, 255, 1023, 2047, 4095, 8191, 8191, 32767, 65535, 131071, 262143, 262143, 1048575, 2097151, 4194303, 8388607, 8388607, 33554431, 67108863, 134217727, 268435455, 268435455, 1073741823, 2147483647, 4294967295, 8589934591, 17179869183, 34359738367, 17179869183, 137438953471, 274877906943, 549755813887, 1099511627775, 1099511627775, 4398046511103, 1099511627775, 1099511627775, 35184372088831, 70368744177663, 140737488355327]
theorem l06_DescChecks.tab9 : rtab .any (opsOf Tryz.f3 9) = l06_DescChecks.T9 := by kernel_rfl
theorem l06_DescChecks.bits9 : waitsOk l06_DescChecks.T9.2 l06_DescChecks.B9 = true := by kernel_rfl
def l06_DescChecks.T14 : Bool × List (List Nat × List Nat) := (true, [([], []), ([0], [0]), ([], []), ([2, 1], [2]), ([1, 3], [1, 3]), ([4, 3], [4]), ([5], [5]), ([6, 5, 5], [5, 6]), ([7, 5], [5, 7]), ([5, 8], [5, 8]), ([9, 7], [9]), ([10], [10]), ([10], [10]), ([11, 12, 10, 10], [10, 11, 12]), ([10, 13], [10, 13]), ([14, 13], [14]), ([15, 15], [15]), ([15, 16], [15, 16]), ([17, 16, 0, 1, 2, 3, 4, 5, 6, 7, 8, 9, 10, 11, 12, 13, 14, 15, 16, 17], [17])])
def l06_DescChecks.B14 : List Nat := [0, 1, 0, 7, 15, 31, 63, 127, 255, 511, 1023, 2047, 2047, 8191, 16383, 32767, 65535, 131071, 262143]
theorem l06_DescChecks.tab14 : rtab .any (opsOf Tryz.f3 14) = l06_DescChecks.T14 := by kernel_rfl
theorem l06_DescChecks.bits14 : waitsOk l06_DescChecks.T14.2 l06_DescChecks.B14 = true := by kernel_rfl
set_option maxHeartbeats 8000000 in
set_option maxRecDepth 100000 in
theorem l06_DescChecks.calls (k : Nat) (a0_0 : Int) (a0_1 : ByteArray) (a0_2 : ByteArray) (a0_3 : Int) (A0_4 : Option Addr) (c0_4 : Nat) (l0_4 : List (S30)) (a0_5 : Int) (a1_0 : Int) (a1_1 : ByteArray) (a1_2 : ByteArray) (a1_3 : Int) (A1_4 : Option Addr) (c1_4 : Nat) (l1_4 : List (S30)) (a1_5 : Int) (a2 : Int) (a3 : Int) (a4 : ByteArray) (r : Bool) (w : World) (hG : TheG w) (hr : r = true) (hr0_4 : Kd.C k30 w A0_4 l0_4.length l0_4) (hc0_4 : l0_4.length ≤ c0_4) (hr1_4 : Kd.C k30 w A1_4 l1_4.length l1_4) (hc1_4 : l1_4.length ≤ c1_4) (h : l06_DescChecks.f k a0_0 a0_1 a0_2 a0_3 l0_4 a0_5 a1_0 a1_1 a1_2 a1_3 l1_4 a1_5 a2 a3 a4 = some r) :
 Calls Tryz.prog 3 #[.agg #[.int .i64 a0_0, .string a0_1, .string a0_2, .int .i64 a0_3, .slice A0_4 l0_4.length c0_4, .int .i64 a0_5], .agg #[.int .i64 a1_0, .string a1_1, .string a1_2, .int .i64 a1_3, .slice A1_4 l1_4.length c1_4, .int .i64 a1_5], .int .i64 a2, .int .i64 a3, .string a4] w fun e w' => e = .returned (.bool r) ∧ Below w.heap.size w w' := by
 have hu26 := Tryz.underlying26
 have hu30 := Tryz.underlying30
 have HR0_4 := Az.mk hr0_4
 have HC0_4 := Az.mk hc0_4
 clear hr0_4 hc0_4
 have HR1_4 := Az.mk hr1_4
 have HC1_4 := Az.mk hc1_4
 clear hr1_4 hc1_4
 have HB := Az.mk (Below.refl w.heap.size w)
 have H : ((l06_small.f a0_0 a0_1 a0_2 a0_3 l0_4 a0_5).bind fun t425 => (if t425 = true then ((l06_small.f a1_0 a1_1 a1_2 a1_3 l1_4 a1_5).bind fun t426 => (if t426 = true then (l06_DescChecks.j0 k a2 a3 a4 (decide ((a4.size : Int) > 2000)) a0_0 a0_1 a0_2 a0_3 l0_4 a0_5 a1_0 a1_1 a1_2 a1_3 l1_4 a1_5) else (l06_DescChecks.j0 k a2 a3 a4 true a0_0 a0_1 a0_2 a0_3 l0_4 a0_5 a1_0 a1_1 a1_2 a1_3 l1_4 a1_5))) else (l06_DescChecks.j0 k a2 a3 a4 true a0_0 a0_1 a0_2 a0_3 l0_4 a0_5 a1_0 a1_1 a1_2 a1_3 l1_4 a1_5))) = some r := h
 clear h
 have HC6 := Az.mk H
 clear H
 go_enter Tryz.func3, Tryz.ntmps3
 go_upto_region 1 with (first | ((with_reducible refine gate_dst (N := 5) rfl ?_); (try (refine gate_guard (by rfl) ?_; dsimp only)); refine box_event ?hg (N := 5) ?hd (cs := #[.int .i64 a0_0, .string a0_1, .string a0_2, .int .i64 a0_3, .slice A0_4 l0_4.length c0_4, .int .i64 a0_5]) (t := 26) ?hr ?_; (case hd => rfl); (case hg => rfl); (case hr => first | (go_simp; done) | (go_simp; rfl)); intro gb423 hg w7 hbox hb; have BK423 := Az.mk (hbox); have GW423 := Az.mk (geO hg (pbE HB.out)); have GE423 := Az.mk (geO hg (pbE HB.out)); replace HB := Az.mk (pbT (by exact pbE HB.out) hb); clear hb hbox hg) | ((with_reducible refine gate_dst (N := 6) rfl ?_); (try (refine gate_guard (by rfl) ?_; dsimp only)); refine box_event ?hg (N := 6) ?hd (cs := #[.int .i64 a1_0, .string a1_1, .string a1_2, .int .i64 a1_3, .slice A1_4 l1_4.length c1_4, .int .i64 a1_5]) (t := 26) ?hr ?_; (case hd => rfl); (case hg => rfl); (case hr => first | (go_simp; done) | (go_simp; rfl)); intro gb424 hg w8 hbox hb; have BK424 := Az.mk (hbox); have GW424 := Az.mk (geO hg (pbE HB.out)); have GE424 := Az.mk (geO hg (pbE HB.out)); replace HB := Az.mk (pbT (by exact pbE HB.out) hb); have NB423_424 := Az.mk (neO hg (bk BK423.out)); have NB424_423 := Az.mk (neP hg (bk BK423.out)); replace BK423 := Az.mk (bkB (bk BK423.out) hb); clear hb hbox hg))
 (try simp only [Act.put, List.setIfInBounds_toArray, List.set_cons_zero, List.set_cons_succ])
 go_cut [37] (fun v37 wc => ∃ (kq : Nat) (x37_5 : Bool), v37 = .bool x37_5 ∧ Az (l06_DescChecks.j0 kq a2 a3 a4 x37_5 a0_0 a0_1 a0_2 a0_3 l0_4 a0_5 a1_0 a1_1 a1_2 a1_3 l1_4 a1_5 = some r) ∧ Az (kq ≤ k) ∧ Az (wc.heap[gb423]? = some (.cells #[.int .i64 a0_0, .string a0_1, .string a0_2, .int .i64 a0_3, (.slice A0_4 l0_4.length c0_4), .int .i64 a0_5] 26 (0, 0))) ∧ Az (wc.heap[gb424]? = some (.cells #[.int .i64 a1_0, .string a1_1, .string a1_2, .int .i64 a1_3, (.slice A1_4 l1_4.length c1_4), .int .i64 a1_5] 26 (0, 0))) ∧ Az (Below w.heap.size w wc))
 case first =>
  have H := HC6.out
  clear HC6
  replace H := Option.bind_eq_some_iff.mp H
  obtain ⟨t425, A90, H⟩ := H
  try dsimp only at H
  have A9 := Az.mk A90
  clear A90
  by_cases c10 : t425 = true
  ·subst c10
   rw [if_pos rfl] at H
   replace H := Option.bind_eq_some_iff.mp H
   obtain ⟨t426, A110, H⟩ := H
   try dsimp only at H
   have A11 := Az.mk A110
   clear A110
   by_cases c12 : t426 = true
   ·subst c12
    rw [if_pos rfl] at H
    have H' := Az.mk H
    clear H
    have hnb13 := NB423_424.out
    have hnc13 := NB424_423.out
    have hcz14 := cells6 BK423.out
    go_wp2_with (first | ((with_reducible refine gtc (f := 4) rfl ?_); refine goesL_ (some 26) rfl rfl Tryz.func4 (by kernel_rfl) rfl #[.agg #[.int .i64 a0_0, .string a0_1, .string a0_2, .int .i64 a0_3, .slice A0_4 l0_4.length c0_4, .int .i64 a0_5]] rfl (by (try simp only [List.map_toArray, List.map_cons, List.map_nil]); first | done | rfl | (simp only [List.length_drop, List.length_take]; rfl)) ?_; (with_reducible refine (l06_small.calls a0_0 a0_1 a0_2 a0_3 _ _ l0_4 a0_5 true _ ?side1 ?side2 ?side3 A9.out).mono ?_); (case side1 => exact hG.below (by exact pbE HB.out)); (case side2 => repeat (first | exact (Kd.C_below HR0_4.out HB.out) | (with_reducible refine Kd.C_alloc ?_ _) | (with_reducible refine Kd.C_drewN ?_ _) | (with_reducible refine Kd.C_drew ?_))); (case side3 => exact HC0_4.out); rintro e w15 ⟨rfl, hb⟩; refine ⟨_, rfl, ?_⟩; replace BK423 := Az.mk (bkB (bk BK423.out) hb); replace BK424 := Az.mk (bkB (bk BK424.out) hb); replace HB := Az.mk (pbT (by exact pbE HB.out) hb); (try clear hb); (try clear hb2); (try clear hk); (try clear hi); have hcz16 := cells6 BK424.out) | (go_at_call 4; (with_reducible refine (l06_small.calls a1_0 a1_1 a1_2 a1_3 _ _ l1_4 a1_5 true _ ?side1 ?side2 ?side3 A11.out).mono ?_); (case side1 => exact hG.below (by exact pbE HB.out)); (case side2 => repeat (first | exact (Kd.C_below HR1_4.out HB.out) | (with_reducible refine Kd.C_alloc ?_ _) | (with_reducible refine Kd.C_drewN ?_ _) | (with_reducible refine Kd.C_drew ?_))); (case side3 => exact HC1_4.out); rintro e w17 ⟨rfl, hb⟩; replace BK423 := Az.mk (bkB (bk BK423.out) hb); replace BK424 := Az.mk (bkB (bk BK424.out) hb); replace HB := Az.mk (pbT (by exact pbE HB.out) hb); (try clear hb); (try clear hb2); (try clear hk); (try clear hi)))
    go_meet
    case rel => exact ⟨_, (decide ((a4.size : Int) > 2000)), (by first | rfl | (simp; done) | (simp [*]; done)), H', ⟨by first | omega | exact Nat.le_refl _⟩, ⟨by refine bk ?_; exact BK423.out⟩, ⟨by refine bk ?_; exact BK424.out⟩, ⟨by exact pbE HB.out⟩⟩
   ·replace c12 := Bool.eq_false_iff.mpr c12
    subst c12
    rw [if_neg (show ¬ (false = true) by decide)] at H
    have H' := Az.mk H
    clear H
    have hnb18 := NB423_424.out
    have hnc18 := NB424_423.out
    have hcz19 := cells6 BK423.out
    go_wp2_with (first | ((with_reducible refine gtc (f := 4) rfl ?_); refine goesL_ (some 26) rfl rfl Tryz.func4 (by kernel_rfl) rfl #[.agg #[.int .i64 a0_0, .string a0_1, .string a0_2, .int .i64 a0_3, .slice A0_4 l0_4.length c0_4, .int .i64 a0_5]] rfl (by (try simp only [List.map_toArray, List.map_cons, List.map_nil]); first | done | rfl | (simp only [List.length_drop, List.length_take]; rfl)) ?_; (with_reducible refine (l06_small.calls a0_0 a0_1 a0_2 a0_3 _ _ l0_4 a0_5 true _ ?side1 ?side2 ?side3 A9.out).mono ?_); (case side1 => exact hG.below (by exact pbE HB.out)); (case side2 => repeat (first | exact (Kd.C_below HR0_4.out HB.out) | (with_reducible refine Kd.C_alloc ?_ _) | (with_reducible refine Kd.C_drewN ?_ _) | (with_reducible refine Kd.C_drew ?_))); (case side3 => exact HC0_4.out); rintro e w20 ⟨rfl, hb⟩; refine ⟨_, rfl, ?_⟩; replace BK423 := Az.mk (bkB (bk BK423.out) hb); replace BK424 := Az.mk (bkB (bk BK424.out) hb); replace HB := Az.mk (pbT (by exact pbE HB.out) hb); (try clear hb); (try clear hb2); (try clear hk); (try clear hi); have hcz21 := cells6 BK424.out) | (go_at_call 4; (with_reducible refine (l06_small.calls a1_0 a1_1 a1_2 a1_3 _ _ l1_4 a1_5 false _ ?side1 ?side2 ?side3 A11.out).mono ?_); (case side1 => exact hG.below (by exact pbE HB.out)); (case side2 => repeat (first | exact (Kd.C_below HR1_4.out HB.out) | (with_reducible refine Kd.C_alloc ?_ _) | (with_reducible refine Kd.C_drewN ?_ _) | (with_reducible refine Kd.C_drew ?_))); (case side3 => exact HC1_4.out); rintro e w22 ⟨rfl, hb⟩; replace BK423 := Az.mk (bkB (bk BK423.out) hb); replace BK424 := Az.mk (bkB (bk BK424.out) hb); replace HB := Az.mk (pbT (by exact pbE HB.out) hb); (try clear hb); (try clear hb2); (try clear hk); (try clear hi)))
    go_meet
    case rel => exact ⟨_, (true), (by first | rfl | (simp; done) | (simp [*]; done)), H', ⟨by first | omega | exact Nat.le_refl _⟩, ⟨by refine bk ?_; exact BK423.out⟩, ⟨by refine bk ?_; exact BK424.out⟩, ⟨by exact pbE HB.out⟩⟩
  ·replace c10 := Bool.eq_false_iff.mpr c10
   subst c10
   rw [if_neg (show ¬ (false = true) by decide)] at H
   have H' := Az.mk H
   clear H
   have hnb23 := NB423_424.out
   have hnc23 := NB424_423.out
   have hcz24 := cells6 BK423.out
   go_wp2_with ((with_reducible refine gtc (f := 4) rfl ?_); refine goesL_ (some 26) rfl rfl Tryz.func4 (by kernel_rfl) rfl #[.agg #[.int .i64 a0_0, .string a0_1, .string a0_2, .int .i64 a0_3, .slice A0_4 l0_4.length c0_4, .int .i64 a0_5]] rfl (by (try simp only [List.map_toArray, List.map_cons, List.map_nil]); first | done | rfl | (simp only [List.length_drop, List.length_take]; rfl)) ?_; (with_reducible refine (l06_small.calls a0_0 a0_1 a0_2 a0_3 _ _ l0_4 a0_5 false _ ?side1 ?side2 ?side3 A9.out).mono ?_); (case side1 => exact hG.below (by exact pbE HB.out)); (case side2 => repeat (first | exact (Kd.C_below HR0_4.out HB.out) | (with_reducible refine Kd.C_alloc ?_ _) | (with_reducible refine Kd.C_drewN ?_ _) | (with_reducible refine Kd.C_drew ?_))); (case side3 => exact HC0_4.out); rintro e w25 ⟨rfl, hb⟩; refine ⟨_, rfl, ?_⟩; replace BK423 := Az.mk (bkB (bk BK423.out) hb); replace BK424 := Az.mk (bkB (bk BK424.out) hb); replace HB := Az.mk (pbT (by exact pbE HB.out) hb); (try clear hb); (try clear hb2); (try clear hk); (try clear hi))
   go_meet
   case rel => exact ⟨_, (true), (by first | rfl | (simp; done) | (simp [*]; done)), H', ⟨by first | omega | exact Nat.le_refl _⟩, ⟨by refine bk ?_; exact BK423.out⟩, ⟨by refine bk ?_; exact BK424.out⟩, ⟨by exact pbE HB.out⟩⟩
 case rest =>
  clear HC6
  try clear c1
  try clear c2
  try clear p2
  try clear c3
  try clear c4
  try clear c10
  try clear c12
  try clear c13
  try clear c18
  try clear c23
  try clear hcz14
  try clear hcz16
  try clear hcz19
  try clear hcz21
  try clear hcz24
  obtain ⟨kq, x37_5, rfl, HA, HJ5, BK423, BK424, HB⟩ := hcut
  cases kq with
  | zero => exact absurd HA.out (by simp [l06_DescChecks.j0])
  | succ kj5 =>
   have H := HA.out
   clear HA
   simp only [l06_DescChecks.j0] at H
   by_cases c26 : x37_5 = true
   ·subst c26
    rw [if_pos rfl] at H
    replace H := Option.bind_eq_some_iff.mp H
    obtain ⟨t427, A270, H⟩ := H
    replace H : (some t427) = some r := H
    have A27 := Az.mk A270
    clear A270
    obtain rfl := Option.some.inj H
    go_wp2_with ((with_reducible refine gtc (f := 5) rfl ?_); refine goesL_ (some 38) rfl rfl Tryz.func5 (by kernel_rfl) rfl #[] rfl (by (try simp only [List.map_toArray, List.map_cons, List.map_nil]); first | done | rfl | (simp only [List.length_drop, List.length_take]; rfl)) ?_; (with_reducible refine (l06_live.calls  t427 _ ?side1 A27.out).mono ?_); (case side1 => exact hG.below (by exact pbE HB.out)); rintro e w28 ⟨rfl, hb⟩; refine ⟨_, rfl, ?_⟩; replace BK423 := Az.mk (bkB (bk BK423.out) hb); replace BK424 := Az.mk (bkB (bk BK424.out) hb); replace HB := Az.mk (pbT (by exact pbE HB.out) hb); (try clear hb); (try clear hb2); (try clear hk); (try clear hi))
    go_ret
    exact ⟨by first | rfl | (simp [errW_none, errW_some] <;> rfl) | (simp [*, errW_none, errW_some] <;> rfl), by exact pbE HB.out⟩
   ·replace c26 := Bool.eq_false_iff.mpr c26
    subst c26
    rw [if_neg (show ¬ (false = true) by decide)] at H
    replace H := Option.bind_eq_some_iff.mp H
    obtain ⟨⟨t428, t429, t430⟩, A290, H⟩ := H
    try dsimp only at H
    have A29 := Az.mk A290
    clear A290
    replace H := Option.bind_eq_some_iff.mp H
    obtain ⟨⟨t432, t433, t434⟩, A300, H⟩ := H
    try dsimp only at H
    have A30 := Az.mk A300
    clear A300
    replace H := Option.bind_eq_some_iff.mp H
    obtain ⟨⟨t436, t437, t438⟩, A310, H⟩ := H
    try dsimp only at H
    have A31 := Az.mk A310
    clear A310
    replace H := Option.bind_eq_some_iff.mp H
    obtain ⟨⟨t440, t441, t442⟩, A320, H⟩ := H
    try dsimp only at H
    have A32 := Az.mk A320
    clear A320
    replace H := Option.bind_eq_some_iff.mp H
    obtain ⟨⟨t444, t445, t446, t447, t448, t451, t452⟩, A330, H⟩ := H
    try dsimp only at H
    have A33 := Az.mk A330
    clear A330
    replace H := Option.bind_eq_some_iff.mp H
    obtain ⟨⟨t454, t455, t456, t457, t458, t461, t462⟩, A340, H⟩ := H
    try dsimp only at H
    have A34 := Az.mk A340
    clear A340
    have HC35 := Az.mk H
    clear H
    have hnb36 := NB423_424.out
    have hnc36 := NB424_423.out
    have hcz37 := cells6 BK423.out
    go_upto_region 9 with (first | ((with_reducible refine gtc (f := 6) rfl ?_); refine goesL_ (some 42) rfl rfl Tryz.func6 (by kernel_rfl) rfl #[.agg #[.int .i64 a0_0, .string a0_1, .string a0_2, .int .i64 a0_3, .slice A0_4 l0_4.length c0_4, .int .i64 a0_5], .int .i64 a2] rfl (by (try simp only [List.map_toArray, List.map_cons, List.map_nil]); first | done | rfl | (simp only [List.length_drop, List.length_take]; rfl)) ?_; (with_reducible refine (desc_On.calls a0_0 a0_1 a0_2 a0_3 _ _ l0_4 a0_5 a2 t428 t429 t430 _ ?side1 ?side2 ?side3 A29.out).mono ?_); (case side1 => exact hG.below (by exact pbE HB.out)); (case side2 => repeat (first | exact (Kd.C_below HR0_4.out HB.out) | (with_reducible refine Kd.C_alloc ?_ _) | (with_reducible refine Kd.C_drewN ?_ _) | (with_reducible refine Kd.C_drew ?_))); (case side3 => exact HC0_4.out); rintro e w38 ⟨rfl, hb⟩; refine ⟨_, rfl, ?_⟩; replace BK423 := Az.mk (bkB (bk BK423.out) hb); replace BK424 := Az.mk (bkB (bk BK424.out) hb); replace HB := Az.mk (pbT (by exact pbE HB.out) hb); (try clear hb); (try clear hb2); (try clear hk); (try clear hi)) | ((with_reducible refine gate_dst (N := 11) rfl ?_); (try (refine gate_guard (by rfl) ?_; dsimp only)); refine box_event ?hg (N := 11) ?hd (cs := #[.int .i64 0, .int .i64 0]) (t := 30) ?hr ?_; (case hd => rfl); (case hg => rfl); (case hr => first | (go_simp; done) | (go_simp; rfl)); intro gb431 hg w39 hbox hb; have BK431 := Az.mk (hbox); have GW431 := Az.mk (geO hg (pbE HB.out)); have GE431 := Az.mk (geO hg (pbE HB.out)); replace HB := Az.mk (pbT (by exact pbE HB.out) hb); have NB423_431 := Az.mk (neO hg (bk BK423.out)); have NB431_423 := Az.mk (neP hg (bk BK423.out)); replace BK423 := Az.mk (bkB (bk BK423.out) hb); have NB424_431 := Az.mk (neO hg (bk BK424.out)); have NB431_424 := Az.mk (neP hg (bk BK424.out)); replace BK424 := Az.mk (bkB (bk BK424.out) hb); clear hb hbox hg; have hnb40 := NB431_423.out; have hnc40 := NB423_431.out; have hnb41 := NB431_424.out; have hnc41 := NB424_431.out; have hcz42 := cells2 BK431.out; have hcz43 := cells6 BK423.out) | ((with_reducible refine gtc (f := 7) rfl ?_); refine goesL_ (some 48) rfl rfl Tryz.func7 (by kernel_rfl) rfl #[.agg #[.int .i64 a0_0, .string a0_1, .string a0_2, .int .i64 a0_3, .slice A0_4 l0_4.length c0_4, .int .i64 a0_5], .int .i64 a2] rfl (by (try simp only [List.map_toArray, List.map_cons, List.map_nil]); first | done | rfl | (simp only [List.length_drop, List.length_take]; rfl)) ?_; (with_reducible refine (r06_On.calls kj5 a0_0 a0_1 a0_2 a0_3 _ _ l0_4 a0_5 a2 t432 t433 t434 _ ?side1 ?side2 ?side3 A30.out).mono ?_); (case side1 => exact hG.below (by exact pbE HB.out)); (case side2 => exact Kd.C_below HR0_4.out (by exact pbE HB.out)); (case side3 => exact HC0_4.out); rintro e w44 ⟨rfl, hb⟩; refine ⟨_, rfl, ?_⟩; replace BK423 := Az.mk (bkB (bf BK423.out) hb); replace BK424 := Az.mk (bkB (bf BK424.out) hb); replace BK431 := Az.mk (bkB (g := gb431) (o := .cells #[.int .i64 t428, .int .i64 t429] 30 (0, 0)) (by refine bk ?_; refine blk_put (cs := #[.int .i64 t428, .int .i64 0]) ?_ 1 _ rfl; refine bk ?_; refine blk_put (cs := #[.int .i64 0, .int .i64 0]) ?_ 0 _ rfl; refine bk ?_; exact BK431.out) hb); replace HB := Az.mk (pbT (by exact pbE HB.out) hb); (try clear hb); (try clear hb2); (try clear hk); (try clear hi)) | ((with_reducible refine gate_dst (N := 13) rfl ?_); (try (refine gate_guard (by rfl) ?_; dsimp only)); refine box_event ?hg (N := 13) ?hd (cs := #[.int .i64 0, .int .i64 0]) (t := 30) ?hr ?_; (case hd => rfl); (case hg => rfl); (case hr => first | (go_simp; done) | (go_simp; rfl)); intro gb435 hg w45 hbox hb; have BK435 := Az.mk (hbox); have GW435 := Az.mk (geO hg (pbE HB.out)); have GE435 := Az.mk (geO hg (pbE HB.out)); replace HB := Az.mk (pbT (by exact pbE HB.out) hb); have NB423_435 := Az.mk (neO hg (bk BK423.out)); have NB435_423 := Az.mk (neP hg (bk BK423.out)); replace BK423 := Az.mk (bkB (bk BK423.out) hb); have NB424_435 := Az.mk (neO hg (bk BK424.out)); have NB435_424 := Az.mk (neP hg (bk BK424.out)); replace BK424 := Az.mk (bkB (bk BK424.out) hb); have NB431_435 := Az.mk (neO hg (bk BK431.out)); have NB435_431 := Az.mk (neP hg (bk BK431.out)); replace BK431 := Az.mk (bkB (bk BK431.out) hb); clear hb hbox hg; have hnb46 := NB435_423.out; have hnc46 := NB423_435.out; have hnb47 := NB435_424.out; have hnc47 := NB424_435.out; have hnb48 := NB435_431.out; have hnc48 := NB431_435.out; have hcz49 := cells2 BK435.out; have hcz50 := cells6 BK423.out) | ((with_reducible refine gtc (f := 8) rfl ?_); refine goesL_ (some 54) rfl rfl Tryz.func8 (by kernel_rfl) rfl #[.agg #[.int .i64 a0_0, .string a0_1, .string a0_2, .int .i64 a0_3, .slice A0_4 l0_4.length c0_4, .int .i64 a0_5], .int .i64 a3] rfl (by (try simp only [List.map_toArray, List.map_cons, List.map_nil]); first | done | rfl | (simp only [List.length_drop, List.length_take]; rfl)) ?_; (with_reducible refine (desc_Has.calls a0_0 a0_1 a0_2 a0_3 _ _ l0_4 a0_5 a3 t436 t437 t438 _ ?side1 ?side2 ?side3 A31.out).mono ?_); (case side1 => exact hG.below (by exact pbE HB.out)); (case side2 => exact Kd.C_below HR0_4.out (by exact pbE HB.out)); (case side3 => exact HC0_4.out); rintro e w51 ⟨rfl, hb⟩; refine ⟨_, rfl, ?_⟩; replace BK423 := Az.mk (bkB (bf BK423.out) hb); replace BK424 := Az.mk (bkB (bf BK424.out) hb); replace BK431 := Az.mk (bkB (bf BK431.out) hb); replace BK435 := Az.mk (bkB (g := gb435) (o := .cells #[.int .i64 t432, .int .i64 t433] 30 (0, 0)) (by refine bk ?_; refine blk_put (cs := #[.int .i64 t432, .int .i64 0]) ?_ 1 _ rfl; refine bk ?_; refine blk_put (cs := #[.int .i64 0, .int .i64 0]) ?_ 0 _ rfl; refine bk ?_; exact BK435.out) hb); replace HB := Az.mk (pbT (by exact pbE HB.out) hb); (try clear hb); (try clear hb2); (try clear hk); (try clear hi)) | ((with_reducible refine gate_dst (N := 15) rfl ?_); (try (refine gate_guard (by rfl) ?_; dsimp only)); refine box_event ?hg (N := 15) ?hd (cs := #[.int .i64 0, .int .i64 0]) (t := 30) ?hr ?_; (case hd => rfl); (case hg => rfl); (case hr => first | (go_simp; done) | (go_simp; rfl)); intro gb439 hg w52 hbox hb; have BK439 := Az.mk (hbox); have GW439 := Az.mk (geO hg (pbE HB.out)); have GE439 := Az.mk (geO hg (pbE HB.out)); replace HB := Az.mk (pbT (by exact pbE HB.out) hb); have NB423_439 := Az.mk (neO hg (bk BK423.out)); have NB439_423 := Az.mk (neP hg (bk BK423.out)); replace BK423 := Az.mk (bkB (bk BK423.out) hb); have NB424_439 := Az.mk (neO hg (bk BK424.out)); have NB439_424 := Az.mk (neP hg (bk BK424.out)); replace BK424 := Az.mk (bkB (bk BK424.out) hb); have NB431_439 := Az.mk (neO hg (bk BK431.out)); have NB439_431 := Az.mk (neP hg (bk BK431.out)); replace BK431 := Az.mk (bkB (bk BK431.out) hb); have NB435_439 := Az.mk (neO hg (bk BK435.out)); have NB439_435 := Az.mk (neP hg (bk BK435.out)); replace BK435 := Az.mk (bkB (bk BK435.out) hb); clear hb hbox hg; have hnb53 := NB439_423.out; have hnc53 := NB423_439.out; have hnb54 := NB439_424.out; have hnc54 := NB424_439.out; have hnb55 := NB439_431.out; have hnc55 := NB431_439.out; have hnb56 := NB439_435.out; have hnc56 := NB435_439.out; have hcz57 := cells2 BK439.out; have hcz58 := cells6 BK423.out) | ((with_reducible refine gtc (f := 9) rfl ?_); refine goesL_ (some 60) rfl rfl Tryz.func9 (by kernel_rfl) rfl #[.agg #[.int .i64 a0_0, .string a0_1, .string a0_2, .int .i64 a0_3, .slice A0_4 l0_4.length c0_4, .int .i64 a0_5], .int .i64 a3] rfl (by (try simp only [List.map_toArray, List.map_cons, List.map_nil]); first | done | rfl | (simp only [List.length_drop, List.length_take]; rfl)) ?_; (with_reducible refine (r06_Has.calls kj5 a0_0 a0_1 a0_2 a0_3 _ _ l0_4 a0_5 a3 t440 t441 t442 _ ?side1 ?side2 ?side3 A32.out).mono ?_); (case side1 => exact hG.below (by exact pbE HB.out)); (case side2 => exact Kd.C_below HR0_4.out (by exact pbE HB.out)); (case side3 => exact HC0_4.out); rintro e w59 ⟨rfl, hb⟩; refine ⟨_, rfl, ?_⟩; replace BK423 := Az.mk (bkB (bf BK423.out) hb); replace BK424 := Az.mk (bkB (bf BK424.out) hb); replace BK431 := Az.mk (bkB (bf BK431.out) hb); replace BK435 := Az.mk (bkB (bf BK435.out) hb); replace BK439 := Az.mk (bkB (g := gb439) (o := .cells #[.int .i64 t436, .int .i64 t437] 30 (0, 0)) (by refine bk ?_; refine blk_put (cs := #[.int .i64 t436, .int .i64 0]) ?_ 1 _ rfl; refine bk ?_; refine blk_put (cs := #[.int .i64 0, .int .i64 0]) ?_ 0 _ rfl; refine bk ?_; exact BK439.out) hb); replace HB := Az.mk (pbT (by exact pbE HB.out) hb); (try clear hb); (try clear hb2); (try clear hk); (try clear hi)) | ((with_reducible refine gate_dst (N := 17) rfl ?_); (try (refine gate_guard (by rfl) ?_; dsimp only)); refine box_event ?hg (N := 17) ?hd (cs := #[.int .i64 0, .int .i64 0]) (t := 30) ?hr ?_; (case hd => rfl); (case hg => rfl); (case hr => first | (go_simp; done) | (go_simp; rfl)); intro gb443 hg w60 hbox hb; have BK443 := Az.mk (hbox); have GW443 := Az.mk (geO hg (pbE HB.out)); have GE443 := Az.mk (geO hg (pbE HB.out)); replace HB := Az.mk (pbT (by exact pbE HB.out) hb); have NB423_443 := Az.mk (neO hg (bk BK423.out)); have NB443_423 := Az.mk (neP hg (bk BK423.out)); replace BK423 := Az.mk (bkB (bk BK423.out) hb); have NB424_443 := Az.mk (neO hg (bk BK424.out)); have NB443_424 := Az.mk (neP hg (bk BK424.out)); replace BK424 := Az.mk (bkB (bk BK424.out) hb); have NB431_443 := Az.mk (neO hg (bk BK431.out)); have NB443_431 := Az.mk (neP hg (bk BK431.out)); replace BK431 := Az.mk (bkB (bk BK431.out) hb); have NB435_443 := Az.mk (neO hg (bk BK435.out)); have NB443_435 := Az.mk (neP hg (bk BK435.out)); replace BK435 := Az.mk (bkB (bk BK435.out) hb); have NB439_443 := Az.mk (neO hg (bk BK439.out)); have NB443_439 := Az.mk (neP hg (bk BK439.out)); replace BK439 := Az.mk (bkB (bk BK439.out) hb); clear hb hbox hg; have hnb61 := NB443_423.out; have hnc61 := NB423_443.out; have hnb62 := NB443_424.out; have hnc62 := NB424_443.out; have hnb63 := NB443_431.out; have hnc63 := NB431_443.out; have hnb64 := NB443_435.out; have hnc64 := NB435_443.out; have hnb65 := NB443_439.out; have hnc65 := NB439_443.out; have hcz66 := cells2 BK443.out) | ((with_reducible refine gtc (f := 10) rfl ?_); refine goesL_ (some 65) rfl rfl Tryz.func10 (by kernel_rfl) rfl #[.string a4] rfl (by (try simp only [List.map_toArray, List.map_cons, List.map_nil]); first | done | rfl | (simp only [List.length_drop, List.length_take]; rfl)) ?_; (with_reducible refine (desc_Parse.calls kj5 a4 t444 t445 t446 t447 t448 t451 t452 _ ?side1 A33.out).mono ?_); (case side1 => exact hG.below (by exact pbE HB.out)); rintro e w67 ⟨v449, rfl, ho0, hb⟩; refine ⟨_, rfl, ?_⟩; have HO450 := Az.mk (Kd.V_lower (Kd.V_mono (ok' := fun k_ => k_ ≠ gb423 ∧ k_ ≠ gb424 ∧ k_ ≠ gb431 ∧ k_ ≠ gb435 ∧ k_ ≠ gb439 ∧ k_ ≠ gb443) ho0 (fun k_ hk_ => ⟨(Kd.freshB (bf BK423.out) k_ hk_), (Kd.freshB (bf BK424.out) k_ hk_), (Kd.freshB (bf BK431.out) k_ hk_), (Kd.freshB (bf BK435.out) k_ hk_), (Kd.freshB (bf BK439.out) k_ hk_), (Kd.freshB (g := gb443) (o := .cells #[.int .i64 t440, .int .i64 t441] 30 (0, 0)) (by refine bk ?_; refine blk_put (cs := #[.int .i64 t440, .int .i64 0]) ?_ 1 _ rfl; refine bk ?_; refine blk_put (cs := #[.int .i64 0, .int .i64 0]) ?_ 0 _ rfl; refine bk ?_; exact BK443.out) k_ hk_)⟩)) (pbZ (by exact pbE HB.out))); replace BK423 := Az.mk (bkB (bf BK423.out) hb); replace BK424 := Az.mk (bkB (bf BK424.out) hb); replace BK431 := Az.mk (bkB (bf BK431.out) hb); replace BK435 := Az.mk (bkB (bf BK435.out) hb); replace BK439 := Az.mk (bkB (bf BK439.out) hb); replace BK443 := Az.mk (bkB (g := gb443) (o := .cells #[.int .i64 t440, .int .i64 t441] 30 (0, 0)) (by refine bk ?_; refine blk_put (cs := #[.int .i64 t440, .int .i64 0]) ?_ 1 _ rfl; refine bk ?_; refine blk_put (cs := #[.int .i64 0, .int .i64 0]) ?_ 0 _ rfl; refine bk ?_; exact BK443.out) hb); replace HB := Az.mk (pbT (by exact pbE HB.out) hb); (try clear hb); (try clear hb2); (try clear hk); (try clear hi); (try clear ho0)) | ((with_reducible refine gate_dst (N := 19) rfl ?_); (try (refine gate_guard (by rfl) ?_; dsimp only)); refine box_event ?hg (N := 19) ?hd (cs := #[.int .i64 0, .string (⟨#[]⟩ : ByteArray), .string (⟨#[]⟩ : ByteArray), .int .i64 0, .slice none 0 0, .int .i64 0]) (t := 26) ?hr ?_; (case hd => rfl); (case hg => rfl); (case hr => first | (go_simp; done) | (go_simp; rfl)); intro gb453 hg w68 hbox hb; replace HO450 := Az.mk (Kd.V_below (Kd.V_elderB (Kd.V_ext HO450.out) gb453 (Nat.le_of_eq hg.symm)) hb); have BK453 := Az.mk (hbox); have GW453 := Az.mk (geO hg (pbE HB.out)); have GE453 := Az.mk (geO hg (pbE HB.out)); replace HB := Az.mk (pbT (by exact pbE HB.out) hb); have NB423_453 := Az.mk (neO hg (bk BK423.out)); have NB453_423 := Az.mk (neP hg (bk BK423.out)); replace BK423 := Az.mk (bkB (bk BK423.out) hb); have NB424_453 := Az.mk (neO hg (bk BK424.out)); have NB453_424 := Az.mk (neP hg (bk BK424.out)); replace BK424 := Az.mk (bkB (bk BK424.out) hb); have NB431_453 := Az.mk (neO hg (bk BK431.out)); have NB453_431 := Az.mk (neP hg (bk BK431.out)); replace BK431 := Az.mk (bkB (bk BK431.out) hb); have NB435_453 := Az.mk (neO hg (bk BK435.out)); have NB453_435 := Az.mk (neP hg (bk BK435.out)); replace BK435 := Az.mk (bkB (bk BK435.out) hb); have NB439_453 := Az.mk (neO hg (bk BK439.out)); have NB453_439 := Az.mk (neP hg (bk BK439.out)); replace BK439 := Az.mk (bkB (bk BK439.out) hb); have NB443_453 := Az.mk (neO hg (bk BK443.out)); have NB453_443 := Az.mk (neP hg (bk BK443.out)); replace BK443 := Az.mk (bkB (bk BK443.out) hb); clear hb hbox hg; have hnb69 := NB453_423.out; have hnc69 := NB423_453.out; have hnb70 := NB453_424.out; have hnc70 := NB424_453.out; have hnb71 := NB453_431.out; have hnc71 := NB431_453.out; have hnb72 := NB453_435.out; have hnc72 := NB435_453.out; have hnb73 := NB453_439.out; have hnc73 := NB439_453.out; have hnb74 := NB453_443.out; have hnc74 := NB443_453.out; have hcz75 := cells6 BK453.out; obtain ⟨Ao76, co76, eo76⟩ := Kd.V_slice HO450.out; subst eo76) | ((with_reducible refine gtc (f := 11) rfl ?_); refine goesL_ (some 70) rfl rfl Tryz.func11 (by kernel_rfl) rfl #[.string a4] rfl (by (try simp only [List.map_toArray, List.map_cons, List.map_nil]); first | done | rfl | (simp only [List.length_drop, List.length_take]; rfl)) ?_; (with_reducible refine (r06_Parse.calls kj5 a4 t454 t455 t456 t457 t458 t461 t462 _ ?side1 A34.out).mono ?_); (case side1 => exact hG.below (by exact pbE HB.out)); rintro e w77 ⟨v459, rfl, ho0, hb⟩; refine ⟨_, rfl, ?_⟩; replace HO450 := Az.mk (Kd.V_below (by (with_reducible repeat (first | apply Kd.V_alloc | apply Kd.V_drewN | apply Kd.V_drew)); exact (Kd.V_mono (Kd.V_off (g := gb453) (fun _ hk => hk.2) (Kd.V_mono HO450.out (fun k_ hk => (⟨hk, hk.2⟩ : _ ∧ k_ ≠ gb453)))) (fun _ h_ => h_.1))) hb); have HO460 := Az.mk (Kd.V_lower (Kd.V_mono (ok' := fun k_ => k_ ≠ gb423 ∧ k_ ≠ gb424 ∧ k_ ≠ gb431 ∧ k_ ≠ gb435 ∧ k_ ≠ gb439 ∧ k_ ≠ gb443 ∧ k_ ≠ gb453) ho0 (fun k_ hk_ => ⟨(Kd.freshB (bf BK423.out) k_ hk_), (Kd.freshB (bf BK424.out) k_ hk_), (Kd.freshB (bf BK431.out) k_ hk_), (Kd.freshB (bf BK435.out) k_ hk_), (Kd.freshB (bf BK439.out) k_ hk_), (Kd.freshB (bf BK443.out) k_ hk_), (Kd.freshB (g := gb453) (o := .cells #[.int .i64 t444, .string t445, .string t446, .int .i64 t447, .slice Ao76 t448.length co76, .int .i64 t451] 26 (0, 0)) (by refine bk ?_; refine blk_put (cs := #[.int .i64 t444, .string t445, .string t446, .int .i64 t447, .slice Ao76 t448.length co76, .int .i64 0]) ?_ 5 _ rfl; refine bk ?_; refine blk_put (cs := #[.int .i64 t444, .string t445, .string t446, .int .i64 t447, .slice none 0 0, .int .i64 0]) ?_ 4 _ rfl; refine bk ?_; refine blk_put (cs := #[.int .i64 t444, .string t445, .string t446, .int .i64 0, .slice none 0 0, .int .i64 0]) ?_ 3 _ rfl; refine bk ?_; refine blk_put (cs := #[.int .i64 t444, .string t445, .string (⟨#[]⟩ : ByteArray), .int .i64 0, .slice none 0 0, .int .i64 0]) ?_ 2 _ rfl; refine bk ?_; refine blk_put (cs := #[.int .i64 t444, .string (⟨#[]⟩ : ByteArray), .string (⟨#[]⟩ : ByteArray), .int .i64 0, .slice none 0 0, .int .i64 0]) ?_ 1 _ rfl; refine bk ?_; refine blk_put (cs := #[.int .i64 0, .string (⟨#[]⟩ : ByteArray), .string (⟨#[]⟩ : ByteArray), .int .i64 0, .slice none 0 0, .int .i64 0]) ?_ 0 _ rfl; refine bk ?_; exact BK453.out) k_ hk_)⟩)) (pbZ (by exact pbE HB.out))); replace BK423 := Az.mk (bkB (bf BK423.out) hb); replace BK424 := Az.mk (bkB (bf BK424.out) hb); replace BK431 := Az.mk (bkB (bf BK431.out) hb); replace BK435 := Az.mk (bkB (bf BK435.out) hb); replace BK439 := Az.mk (bkB (bf BK439.out) hb); replace BK443 := Az.mk (bkB (bf BK443.out) hb); replace BK453 := Az.mk (bkB (g := gb453) (o := .cells #[.int .i64 t444, .string t445, .string t446, .int .i64 t447, .slice Ao76 t448.length co76, .int .i64 t451] 26 (0, 0)) (by refine bk ?_; refine blk_put (cs := #[.int .i64 t444, .string t445, .string t446, .int .i64 t447, .slice Ao76 t448.length co76, .int .i64 0]) ?_ 5 _ rfl; refine bk ?_; refine blk_put (cs := #[.int .i64 t444, .string t445, .string t446, .int .i64 t447, .slice none 0 0, .int .i64 0]) ?_ 4 _ rfl; refine bk ?_; refine blk_put (cs := #[.int .i64 t444, .string t445, .string t446, .int .i64 0, .slice none 0 0, .int .i64 0]) ?_ 3 _ rfl; refine bk ?_; refine blk_put (cs := #[.int .i64 t444, .string t445, .string (⟨#[]⟩ : ByteArray), .int .i64 0, .slice none 0 0, .int .i64 0]) ?_ 2 _ rfl; refine bk ?_; refine blk_put (cs := #[.int .i64 t444, .string (⟨#[]⟩ : ByteArray), .string (⟨#[]⟩ : ByteArray), .int .i64 0, .slice none 0 0, .int .i64 0]) ?_ 1 _ rfl; refine bk ?_; refine blk_put (cs := #[.int .i64 0, .string (⟨#[]⟩ : ByteArray), .string (⟨#[]⟩ : ByteArray), .int .i64 0, .slice none 0 0, .int .i64 0]) ?_ 0 _ rfl; refine bk ?_; exact BK453.out) hb); replace HB := Az.mk (pbT (by exact pbE HB.out) hb); (try clear hb); (try clear hb2); (try clear hk); (try clear hi); (try clear ho0)) | ((with_reducible refine gate_dst (N := 21) rfl ?_); (try (refine gate_guard (by rfl) ?_; dsimp only)); refine box_event ?hg (N := 21) ?hd (cs := #[.int .i64 0, .string (⟨#[]⟩ : ByteArray), .string (⟨#[]⟩ : ByteArray), .int .i64 0, .slice none 0 0, .int .i64 0]) (t := 26) ?hr ?_; (case hd => rfl); (case hg => rfl); (case hr => first | (go_simp; done) | (go_simp; rfl)); intro gb463 hg w78 hbox hb; replace HO450 := Az.mk (Kd.V_below (Kd.V_elderB (Kd.V_ext HO450.out) gb463 (Nat.le_of_eq hg.symm)) hb); replace HO460 := Az.mk (Kd.V_below (Kd.V_elderB (Kd.V_ext HO460.out) gb463 (Nat.le_of_eq hg.symm)) hb); have BK463 := Az.mk (hbox); have GW463 := Az.mk (geO hg (pbE HB.out)); have GE463 := Az.mk (geO hg (pbE HB.out)); replace HB := Az.mk (pbT (by exact pbE HB.out) hb); have NB423_463 := Az.mk (neO hg (bk BK423.out)); have NB463_423 := Az.mk (neP hg (bk BK423.out)); replace BK423 := Az.mk (bkB (bk BK423.out) hb); have NB424_463 := Az.mk (neO hg (bk BK424.out)); have NB463_424 := Az.mk (neP hg (bk BK424.out)); replace BK424 := Az.mk (bkB (bk BK424.out) hb); have NB431_463 := Az.mk (neO hg (bk BK431.out)); have NB463_431 := Az.mk (neP hg (bk BK431.out)); replace BK431 := Az.mk (bkB (bk BK431.out) hb); have NB435_463 := Az.mk (neO hg (bk BK435.out)); have NB463_435 := Az.mk (neP hg (bk BK435.out)); replace BK435 := Az.mk (bkB (bk BK435.out) hb); have NB439_463 := Az.mk (neO hg (bk BK439.out)); have NB463_439 := Az.mk (neP hg (bk BK439.out)); replace BK439 := Az.mk (bkB (bk BK439.out) hb); have NB443_463 := Az.mk (neO hg (bk BK443.out)); have NB463_443 := Az.mk (neP hg (bk BK443.out)); replace BK443 := Az.mk (bkB (bk BK443.out) hb); have NB453_463 := Az.mk (neO hg (bk BK453.out)); have NB463_453 := Az.mk (neP hg (bk BK453.out)); replace BK453 := Az.mk (bkB (bk BK453.out) hb); clear hb hbox hg; have hnb79 := NB463_423.out; have hnc79 := NB423_463.out; have hnb80 := NB463_424.out; have hnc80 := NB424_463.out; have hnb81 := NB463_431.out; have hnc81 := NB431_463.out; have hnb82 := NB463_435.out; have hnc82 := NB435_463.out; have hnb83 := NB463_439.out; have hnc83 := NB439_463.out; have hnb84 := NB463_443.out; have hnc84 := NB443_463.out; have hnb85 := NB463_453.out; have hnc85 := NB453_463.out; have hcz86 := cells6 BK463.out; obtain ⟨Ao87, co87, eo87⟩ := Kd.V_slice HO460.out; subst eo87))
    (try simp only [Act.put, List.setIfInBounds_toArray, List.set_cons_zero, List.set_cons_succ])
    go_cut [120] (fun v120 wc => ∃ (kq : Nat) (x120_34 : Bool), v120 = .bool x120_34 ∧ Az (l06_DescChecks.j1 kq x120_34 a0_0 a0_1 a0_2 a0_3 l0_4 a0_5 = some r) ∧ Az (kq ≤ kj5) ∧ Az (Kd.V k30 30 wc w.heap.size (fun k_ => k_ ≠ gb423 ∧ k_ ≠ gb424 ∧ k_ ≠ gb431 ∧ k_ ≠ gb435 ∧ k_ ≠ gb439 ∧ k_ ≠ gb443 ∧ k_ ≠ gb453 ∧ k_ ≠ gb463) (.slice Ao76 t448.length co76) t448) ∧ Az (Kd.V k30 30 wc w.heap.size (fun k_ => k_ ≠ gb423 ∧ k_ ≠ gb424 ∧ k_ ≠ gb431 ∧ k_ ≠ gb435 ∧ k_ ≠ gb439 ∧ k_ ≠ gb443 ∧ k_ ≠ gb453 ∧ k_ ≠ gb463) (.slice Ao87 t458.length co87) t458) ∧ Az (wc.heap[gb423]? = some (.cells #[.int .i64 a0_0, .string a0_1, .string a0_2, .int .i64 a0_3, (.slice A0_4 l0_4.length c0_4), .int .i64 a0_5] 26 (0, 0))) ∧ Az (wc.heap[gb424]? = some (.cells #[.int .i64 a1_0, .string a1_1, .string a1_2, .int .i64 a1_3, (.slice A1_4 l1_4.length c1_4), .int .i64 a1_5] 26 (0, 0))) ∧ Az (wc.heap[gb431]? = some (.cells #[.int .i64 t428, .int .i64 t429] 30 (0, 0))) ∧ Az (wc.heap[gb435]? = some (.cells #[.int .i64 t432, .int .i64 t433] 30 (0, 0))) ∧ Az (wc.heap[gb439]? = some (.cells #[.int .i64 t436, .int .i64 t437] 30 (0, 0))) ∧ Az (wc.heap[gb443]? = some (.cells #[.int .i64 t440, .int .i64 t441] 30 (0, 0))) ∧ Az (wc.heap[gb453]? = some (.cells #[.int .i64 t444, .string t445, .string t446, .int .i64 t447, (.slice Ao76 t448.length co76), .int .i64 t451] 26 (0, 0))) ∧ Az (wc.heap[gb463]? = some (.cells #[.int .i64 t454, .string t455, .string t456, .int .i64 t457, (.slice Ao87 t458.length co87), .int .i64 t461] 26 (0, 0))) ∧ Az (Below w.heap.size w wc))
    case first =>
     have H := HC35.out
     clear HC35
     replace H := Option.bind_eq_some_iff.mp H
     obtain ⟨t464, A880, H⟩ := H
     try dsimp only at H
     have A88 := Az.mk A880
     clear A880
     replace H := Option.bind_eq_some_iff.mp H
     obtain ⟨t465, A890, H⟩ := H
     try dsimp only at H
     have A89 := Az.mk A890
     clear A890
     replace H := Option.bind_eq_some_iff.mp H
     obtain ⟨t466, A900, H⟩ := H
     try dsimp only at H
     have A90 := Az.mk A900
     clear A900
     by_cases c91 : ((t465 == 0) != t466) = true
     ·rw [if_pos c91] at H
      have c91b0 : ((t465 == 0) != t466) = true := c91
      (try (have c91b1 : decide ((t465 == 0) = t466) = false := by simpa using c91))
      (try (have c91b2 : ((t465 == 0) == t466) = false := by simpa using c91))
      (try (have c91b3 : ¬ ((t465 == 0) = t466) := by simpa using c91))
      clear c91
      (first | rw [c91b0] | (simp only [i64_w, i32_w]; rw [c91b0]) | skip)
      exact (l06_DescChecks.j1_dead hr H).elim
     ·rw [if_neg c91] at H
      have c91b0 : ((t465 == 0) != t466) = false := by simpa using c91
      (try (have c91b1 : decide ((t465 == 0) = t466) = true := by simpa using c91))
      (try (have c91b2 : ((t465 == 0) == t466) = true := by simpa using c91))
      clear c91
      (first | rw [c91b0] | (simp only [i64_w, i32_w]; rw [c91b0]) | skip)
      by_cases c96 : (!(t428 == t432) || (!(t429 == t433))) = true
      ·rw [if_pos c96] at H
       have c96b0 : (!(t428 == t432) || (!(t429 == t433))) = true := c96
       clear c96
       exact (l06_DescChecks.j1_dead hr H).elim
      ·rw [if_neg c96] at H
       have c96b0 : (!(t428 == t432) || (!(t429 == t433))) = false := by simpa using c96
       clear c96
       by_cases c101 : (t430 != t434) = true
       ·rw [if_pos c101] at H
        have c101b0 : (t430 != t434) = true := c101
        (try (have c101b1 : decide (t430 = t434) = false := by simpa using c101))
        (try (have c101b2 : (t430 == t434) = false := by simpa using c101))
        (try (have c101b3 : ¬ (t430 = t434) := by simpa using c101))
        clear c101
        exact (l06_DescChecks.j1_dead hr H).elim
       ·rw [if_neg c101] at H
        have c101b0 : (t430 != t434) = false := by simpa using c101
        (try (have c101b1 : decide (t430 = t434) = true := by simpa using c101))
        (try (have c101b2 : (t430 == t434) = true := by simpa using c101))
        clear c101
        by_cases c106 : (!(t436 == t440) || (!(t437 == t441))) = true
        ·rw [if_pos c106] at H
         have c106b0 : (!(t436 == t440) || (!(t437 == t441))) = true := c106
         clear c106
         exact (l06_DescChecks.j1_dead hr H).elim
        ·rw [if_neg c106] at H
         have c106b0 : (!(t436 == t440) || (!(t437 == t441))) = false := by simpa using c106
         clear c106
         by_cases c111 : (t438 != t442) = true
         ·rw [if_pos c111] at H
          have c111b0 : (t438 != t442) = true := c111
          (try (have c111b1 : decide (t438 = t442) = false := by simpa using c111))
          (try (have c111b2 : (t438 == t442) = false := by simpa using c111))
          (try (have c111b3 : ¬ (t438 = t442) := by simpa using c111))
          clear c111
          exact (l06_DescChecks.j1_dead hr H).elim
         ·rw [if_neg c111] at H
          have c111b0 : (t438 != t442) = false := by simpa using c111
          (try (have c111b1 : decide (t438 = t442) = true := by simpa using c111))
          (try (have c111b2 : (t438 == t442) = true := by simpa using c111))
          clear c111
          replace H := Option.bind_eq_some_iff.mp H
          obtain ⟨t467, A1160, H⟩ := H
          try dsimp only at H
          have A116 := Az.mk A1160
          clear A1160
          by_cases c117 : t467 = true
          ·subst c117
           rw [if_pos rfl] at H
           replace H := Option.bind_eq_some_iff.mp H
           obtain ⟨t468, A1180, H⟩ := H
           try dsimp only at H
           have A118 := Az.mk A1180
           clear A1180
           by_cases c119 : t468 = t462
           ·rw [if_pos c119] at H
            have c119b0 : (t468 == t462) = true := beq_iff_eq.mpr c119
            have c119b1 : (t468 != t462) = false := bne_eq_false_iff_eq.mpr c119
            clear c119
            replace H := Option.bind_eq_some_iff.mp H
            obtain ⟨t469, A1200, H⟩ := H
            try dsimp only at H
            have A120 := Az.mk A1200
            clear A1200
            replace H := Option.bind_eq_some_iff.mp H
            obtain ⟨t470, A1210, H⟩ := H
            try dsimp only at H
            have A121 := Az.mk A1210
            clear A1210
            have H' := Az.mk H
            clear H
            try go_wp2
            have n0_ : Az (Kd.V k30 30 ((((((w78.setCell ⟨gb463, 0, none⟩ (.int .i64 t454)).setCell ⟨gb463, 1, none⟩ (.string t455)).setCell ⟨gb463, 2, none⟩ (.string t456)).setCell ⟨gb463, 3, none⟩ (.int .i64 t457)).setCell ⟨gb463, 4, none⟩ (.slice Ao87 t458.length co87)).setCell ⟨gb463, 5, none⟩ (.int .i64 t461)) w.heap.size (fun k_ => k_ ≠ gb423 ∧ k_ ≠ gb424 ∧ k_ ≠ gb431 ∧ k_ ≠ gb435 ∧ k_ ≠ gb439 ∧ k_ ≠ gb443 ∧ k_ ≠ gb453 ∧ k_ ≠ gb463) (.slice Ao76 t448.length co76) t448) := ⟨by (with_reducible repeat (first | apply Kd.V_alloc | apply Kd.V_drewN | apply Kd.V_drew)); exact Kd.V_mono (Kd.V_off (g := gb463) (fun _ hk => hk.2) (Kd.V_mono HO450.out (fun k_ hk => (⟨hk, hk.2⟩ : _ ∧ k_ ≠ gb463)))) (fun _ hk => ⟨hk.1.1.1.1, ⟨hk.1.1.1.2.1, ⟨hk.1.1.1.2.2.1, ⟨hk.1.1.1.2.2.2.1, ⟨hk.1.1.1.2.2.2.2.1, ⟨hk.1.1.1.2.2.2.2.2, ⟨hk.1.1.2, hk.1.2⟩⟩⟩⟩⟩⟩⟩)⟩
            have n1_ : Az (Kd.V k30 30 ((((((w78.setCell ⟨gb463, 0, none⟩ (.int .i64 t454)).setCell ⟨gb463, 1, none⟩ (.string t455)).setCell ⟨gb463, 2, none⟩ (.string t456)).setCell ⟨gb463, 3, none⟩ (.int .i64 t457)).setCell ⟨gb463, 4, none⟩ (.slice Ao87 t458.length co87)).setCell ⟨gb463, 5, none⟩ (.int .i64 t461)) w.heap.size (fun k_ => k_ ≠ gb423 ∧ k_ ≠ gb424 ∧ k_ ≠ gb431 ∧ k_ ≠ gb435 ∧ k_ ≠ gb439 ∧ k_ ≠ gb443 ∧ k_ ≠ gb453 ∧ k_ ≠ gb463) (.slice Ao87 t458.length co87) t458) := ⟨by (with_reducible repeat (first | apply Kd.V_alloc | apply Kd.V_drewN | apply Kd.V_drew)); exact Kd.V_mono (Kd.V_off (g := gb463) (fun _ hk => hk.2) (Kd.V_mono HO460.out (fun k_ hk => (⟨hk, hk.2⟩ : _ ∧ k_ ≠ gb463)))) (fun _ hk => ⟨hk.1.1.1, ⟨hk.1.1.2.1, ⟨hk.1.1.2.2.1, ⟨hk.1.1.2.2.2.1, ⟨hk.1.1.2.2.2.2.1, ⟨hk.1.1.2.2.2.2.2.1, ⟨hk.1.1.2.2.2.2.2.2, hk.1.2⟩⟩⟩⟩⟩⟩⟩)⟩
            have n2_ : Az (((((((w78.setCell ⟨gb463, 0, none⟩ (.int .i64 t454)).setCell ⟨gb463, 1, none⟩ (.string t455)).setCell ⟨gb463, 2, none⟩ (.string t456)).setCell ⟨gb463, 3, none⟩ (.int .i64 t457)).setCell ⟨gb463, 4, none⟩ (.slice Ao87 t458.length co87)).setCell ⟨gb463, 5, none⟩ (.int .i64 t461)).heap[gb423]? = some (.cells #[.int .i64 a0_0, .string a0_1, .string a0_2, .int .i64 a0_3, .slice A0_4 l0_4.length c0_4, .int .i64 a0_5] 26 (0, 0))) := ⟨by exact bf BK423.out⟩
            have n3_ : Az (((((((w78.setCell ⟨gb463, 0, none⟩ (.int .i64 t454)).setCell ⟨gb463, 1, none⟩ (.string t455)).setCell ⟨gb463, 2, none⟩ (.string t456)).setCell ⟨gb463, 3, none⟩ (.int .i64 t457)).setCell ⟨gb463, 4, none⟩ (.slice Ao87 t458.length co87)).setCell ⟨gb463, 5, none⟩ (.int .i64 t461)).heap[gb424]? = some (.cells #[.int .i64 a1_0, .string a1_1, .string a1_2, .int .i64 a1_3, .slice A1_4 l1_4.length c1_4, .int .i64 a1_5] 26 (0, 0))) := ⟨by exact bf BK424.out⟩
            have n4_ : Az (((((((w78.setCell ⟨gb463, 0, none⟩ (.int .i64 t454)).setCell ⟨gb463, 1, none⟩ (.string t455)).setCell ⟨gb463, 2, none⟩ (.string t456)).setCell ⟨gb463, 3, none⟩ (.int .i64 t457)).setCell ⟨gb463, 4, none⟩ (.slice Ao87 t458.length co87)).setCell ⟨gb463, 5, none⟩ (.int .i64 t461)).heap[gb431]? = some (.cells #[.int .i64 t428, .int .i64 t429] 30 (0, 0))) := ⟨by exact bf BK431.out⟩
            have n5_ : Az (((((((w78.setCell ⟨gb463, 0, none⟩ (.int .i64 t454)).setCell ⟨gb463, 1, none⟩ (.string t455)).setCell ⟨gb463, 2, none⟩ (.string t456)).setCell ⟨gb463, 3, none⟩ (.int .i64 t457)).setCell ⟨gb463, 4, none⟩ (.slice Ao87 t458.length co87)).setCell ⟨gb463, 5, none⟩ (.int .i64 t461)).heap[gb435]? = some (.cells #[.int .i64 t432, .int .i64 t433] 30 (0, 0))) := ⟨by exact bf BK435.out⟩
            have n6_ : Az (((((((w78.setCell ⟨gb463, 0, none⟩ (.int .i64 t454)).setCell ⟨gb463, 1, none⟩ (.string t455)).setCell ⟨gb463, 2, none⟩ (.string t456)).setCell ⟨gb463, 3, none⟩ (.int .i64 t457)).setCell ⟨gb463, 4, none⟩ (.slice Ao87 t458.length co87)).setCell ⟨gb463, 5, none⟩ (.int .i64 t461)).heap[gb439]? = some (.cells #[.int .i64 t436, .int .i64 t437] 30 (0, 0))) := ⟨by exact bf BK439.out⟩
            have n7_ : Az (((((((w78.setCell ⟨gb463, 0, none⟩ (.int .i64 t454)).setCell ⟨gb463, 1, none⟩ (.string t455)).setCell ⟨gb463, 2, none⟩ (.string t456)).setCell ⟨gb463, 3, none⟩ (.int .i64 t457)).setCell ⟨gb463, 4, none⟩ (.slice Ao87 t458.length co87)).setCell ⟨gb463, 5, none⟩ (.int .i64 t461)).heap[gb443]? = some (.cells #[.int .i64 t440, .int .i64 t441] 30 (0, 0))) := ⟨by exact bf BK443.out⟩
            have n8_ : Az (((((((w78.setCell ⟨gb463, 0, none⟩ (.int .i64 t454)).setCell ⟨gb463, 1, none⟩ (.string t455)).setCell ⟨gb463, 2, none⟩ (.string t456)).setCell ⟨gb463, 3, none⟩ (.int .i64 t457)).setCell ⟨gb463, 4, none⟩ (.slice Ao87 t458.length co87)).setCell ⟨gb463, 5, none⟩ (.int .i64 t461)).heap[gb453]? = some (.cells #[.int .i64 t444, .string t445, .string t446, .int .i64 t447, .slice Ao76 t448.length co76, .int .i64 t451] 26 (0, 0))) := ⟨by exact bf BK453.out⟩
            have n9_ : Az (((((((w78.setCell ⟨gb463, 0, none⟩ (.int .i64 t454)).setCell ⟨gb463, 1, none⟩ (.string t455)).setCell ⟨gb463, 2, none⟩ (.string t456)).setCell ⟨gb463, 3, none⟩ (.int .i64 t457)).setCell ⟨gb463, 4, none⟩ (.slice Ao87 t458.length co87)).setCell ⟨gb463, 5, none⟩ (.int .i64 t461)).heap[gb463]? = some (.cells #[.int .i64 t454, .string t455, .string t456, .int .i64 t457, .slice Ao87 t458.length co87, .int .i64 t461] 26 (0, 0))) := ⟨by refine bk ?_; refine blk_put (cs := #[.int .i64 t454, .string t455, .string t456, .int .i64 t457, .slice Ao87 t458.length co87, .int .i64 0]) ?_ 5 _ rfl; refine bk ?_; refine blk_put (cs := #[.int .i64 t454, .string t455, .string t456, .int .i64 t457, .slice none 0 0, .int .i64 0]) ?_ 4 _ rfl; refine bk ?_; refine blk_put (cs := #[.int .i64 t454, .string t455, .string t456, .int .i64 0, .slice none 0 0, .int .i64 0]) ?_ 3 _ rfl; refine bk ?_; refine blk_put (cs := #[.int .i64 t454, .string t455, .string (⟨#[]⟩ : ByteArray), .int .i64 0, .slice none 0 0, .int .i64 0]) ?_ 2 _ rfl; refine bk ?_; refine blk_put (cs := #[.int .i64 t454, .string (⟨#[]⟩ : ByteArray), .string (⟨#[]⟩ : ByteArray), .int .i64 0, .slice none 0 0, .int .i64 0]) ?_ 1 _ rfl; refine bk ?_; refine blk_put (cs := #[.int .i64 0, .string (⟨#[]⟩ : ByteArray), .string (⟨#[]⟩ : ByteArray), .int .i64 0, .slice none 0 0, .int .i64 0]) ?_ 0 _ rfl; refine bk ?_; exact BK463.out⟩
            have n10_ : Az (Below w.heap.size w ((((((w78.setCell ⟨gb463, 0, none⟩ (.int .i64 t454)).setCell ⟨gb463, 1, none⟩ (.string t455)).setCell ⟨gb463, 2, none⟩ (.string t456)).setCell ⟨gb463, 3, none⟩ (.int .i64 t457)).setCell ⟨gb463, 4, none⟩ (.slice Ao87 t458.length co87)).setCell ⟨gb463, 5, none⟩ (.int .i64 t461))) := ⟨by exact pbE HB.out⟩
            (try clear HO450)
            (try clear HO460)
            (try clear BK423)
            (try clear BK424)
            (try clear BK431)
            (try clear BK435)
            (try clear BK439)
            (try clear BK443)
            (try clear BK453)
            (try clear BK463)
            (try clear HB)
            generalize ((((((w78.setCell ⟨gb463, 0, none⟩ (.int .i64 t454)).setCell ⟨gb463, 1, none⟩ (.string t455)).setCell ⟨gb463, 2, none⟩ (.string t456)).setCell ⟨gb463, 3, none⟩ (.int .i64 t457)).setCell ⟨gb463, 4, none⟩ (.slice Ao87 t458.length co87)).setCell ⟨gb463, 5, none⟩ (.int .i64 t461)) = w122 at n0_ n1_ n2_ n3_ n4_ n5_ n6_ n7_ n8_ n9_ n10_ ⊢
            have HO450 := n0_
            have HO460 := n1_
            have BK423 := n2_
            have BK424 := n3_
            have BK431 := n4_
            have BK435 := n5_
            have BK439 := n6_
            have BK443 := n7_
            have BK453 := n8_
            have BK463 := n9_
            have HB := n10_
            clear n0_ n1_ n2_ n3_ n4_ n5_ n6_ n7_ n8_ n9_ n10_
            replace HO450 := Az.mk (Kd.V_drew HO450.out)
            replace HO460 := Az.mk (Kd.V_drew HO460.out)
            replace BK423 := Az.mk (bkD BK423.out)
            replace BK424 := Az.mk (bkD BK424.out)
            replace BK431 := Az.mk (bkD BK431.out)
            replace BK435 := Az.mk (bkD BK435.out)
            replace BK439 := Az.mk (bkD BK439.out)
            replace BK443 := Az.mk (bkD BK443.out)
            replace BK453 := Az.mk (bkD BK453.out)
            replace BK463 := Az.mk (bkD BK463.out)
            replace HB := Az.mk (pb1 HB.out)
            refine start_ (n := 48) (S := fun w' => w'.cell? ⟨gb423, 0, none⟩ = some (.int .i64 a0_0) ∧ w'.cell? ⟨gb423, 1, none⟩ = some (.string a0_1) ∧ w'.cell? ⟨gb423, 2, none⟩ = some (.string a0_2) ∧ w'.cell? ⟨gb423, 3, none⟩ = some (.int .i64 a0_3) ∧ w'.cell? ⟨gb423, 4, none⟩ = some (.slice A0_4 l0_4.length c0_4) ∧ w'.cell? ⟨gb423, 5, none⟩ = some (.int .i64 a0_5) ∧ w'.cell? ⟨gb431, 0, none⟩ = some (.int .i64 t428) ∧ w'.cell? ⟨gb431, 1, none⟩ = some (.int .i64 t429) ∧ w'.cell? ⟨gb435, 0, none⟩ = some (.int .i64 t432) ∧ w'.cell? ⟨gb435, 1, none⟩ = some (.int .i64 t433) ∧ w'.cell? ⟨gb439, 0, none⟩ = some (.int .i64 t436) ∧ w'.cell? ⟨gb439, 1, none⟩ = some (.int .i64 t437) ∧ w'.cell? ⟨gb443, 0, none⟩ = some (.int .i64 t440) ∧ w'.cell? ⟨gb443, 1, none⟩ = some (.int .i64 t441) ∧ w'.cell? ⟨gb453, 0, none⟩ = some (.int .i64 t444) ∧ w'.cell? ⟨gb453, 1, none⟩ = some (.string t445) ∧ w'.cell? ⟨gb453, 2, none⟩ = some (.string t446) ∧ w'.cell? ⟨gb453, 3, none⟩ = some (.int .i64 t447) ∧ w'.cell? ⟨gb453, 4, none⟩ = some (.slice Ao76 t448.length co76) ∧ w'.cell? ⟨gb453, 5, none⟩ = some (.int .i64 t451) ∧ w'.cell? ⟨gb463, 0, none⟩ = some (.int .i64 t454) ∧ w'.cell? ⟨gb463, 1, none⟩ = some (.string t455) ∧ w'.cell? ⟨gb463, 2, none⟩ = some (.string t456) ∧ w'.cell? ⟨gb463, 3, none⟩ = some (.int .i64 t457) ∧ w'.cell? ⟨gb463, 4, none⟩ = some (.slice Ao87 t458.length co87) ∧ w'.cell? ⟨gb463, 5, none⟩ = some (.int .i64 t461) ∧ w'.cell? ⟨gb424, 0, none⟩ = some (.int .i64 a1_0) ∧ w'.cell? ⟨gb424, 1, none⟩ = some (.string a1_1) ∧ w'.cell? ⟨gb424, 2, none⟩ = some (.string a1_2) ∧ w'.cell? ⟨gb424, 3, none⟩ = some (.int .i64 a1_3) ∧ w'.cell? ⟨gb424, 4, none⟩ = some (.slice A1_4 l1_4.length c1_4) ∧ w'.cell? ⟨gb424, 5, none⟩ = some (.int .i64 a1_5)) (ds := []) #[false, false, false, false, false, false, false, false, false, false, false, false, false, false, false, false, false, false, false, false, false, false, false, false, false, false, false, false, false, false, false, false, false, false, false, false, false, false, false, false, false, false, false, false, false, false, false, false] (by kernel_rfl) rfl rfl ⟨(bkC BK423.out 0).trans rfl, (bkC BK423.out 1).trans rfl, (bkC BK423.out 2).trans rfl, (bkC BK423.out 3).trans rfl, (bkC BK423.out 4).trans rfl, (bkC BK423.out 5).trans rfl, (bkC BK431.out 0).trans rfl, (bkC BK431.out 1).trans rfl, (bkC BK435.out 0).trans rfl, (bkC BK435.out 1).trans rfl, (bkC BK439.out 0).trans rfl, (bkC BK439.out 1).trans rfl, (bkC BK443.out 0).trans rfl, (bkC BK443.out 1).trans rfl, (bkC BK453.out 0).trans rfl, (bkC BK453.out 1).trans rfl, (bkC BK453.out 2).trans rfl, (bkC BK453.out 3).trans rfl, (bkC BK453.out 4).trans rfl, (bkC BK453.out 5).trans rfl, (bkC BK463.out 0).trans rfl, (bkC BK463.out 1).trans rfl, (bkC BK463.out 2).trans rfl, (bkC BK463.out 3).trans rfl, (bkC BK463.out 4).trans rfl, (bkC BK463.out 5).trans rfl, (bkC BK424.out 0).trans rfl, (bkC BK424.out 1).trans rfl, (bkC BK424.out 2).trans rfl, (bkC BK424.out 3).trans rfl, (bkC BK424.out 4).trans rfl, (bkC BK424.out 5).trans rfl⟩ (fun hHeld => ?_); refine with_tabW l06_DescChecks.tab9 l06_DescChecks.bits9 (fun HT_ HW_ => ?_)
            generalize w122.drew = w123 at HO450 HO460 BK423 BK424 BK431 BK435 BK439 BK443 BK453 BK463 HB hHeld ⊢
            refine take_ (i := 0) (N := some 73) (v := ?_) (a' := ?_) #[true, false, false, false, false, false, false, false, false, false, false, false, false, false, false, false, false, false, false, false, false, false, false, false, false, false, false, false, false, false, false, false, false, false, false, false, false, false, false, false, false, false, false, false, false, false, false, false] rfl rfl (take_ofW HT_.out HW_.out (by kernel_rfl)) (fun _ _ _ h => h) (Or.inl ⟨by rfl, ?_⟩) hHeld ?_ ?_
            rotate_left
            ·rintro w' ⟨s0, s1, s2, s3, s4, s5, s6, s7, s8, s9, s10, s11, s12, s13, s14, s15, s16, s17, s18, s19, s20, s21, s22, s23, s24, s25, s26, s27, s28, s29, s30, s31⟩
             go_simp
             with_reducible rfl
            rotate_left
            ·simp only [Act.put, List.setIfInBounds_toArray, List.set_cons_zero, List.set_cons_succ, i64_w, i32_w]
             rfl
            refine take_ (i := 4) (N := some 77) (v := ?_) (a' := ?_) #[true, false, false, false, true, false, false, false, false, false, false, false, false, false, false, false, false, false, false, false, false, false, false, false, false, false, false, false, false, false, false, false, false, false, false, false, false, false, false, false, false, false, false, false, false, false, false, false] rfl rfl (take_ofW HT_.out HW_.out (by kernel_rfl)) (fun _ _ _ h => h) (Or.inl ⟨by rfl, ?_⟩) hHeld ?_ ?_
            rotate_left
            ·rintro w' ⟨s0, s1, s2, s3, s4, s5, s6, s7, s8, s9, s10, s11, s12, s13, s14, s15, s16, s17, s18, s19, s20, s21, s22, s23, s24, s25, s26, s27, s28, s29, s30, s31⟩
             go_simp
             with_reducible rfl
            rotate_left
            ·simp only [Act.put, List.setIfInBounds_toArray, List.set_cons_zero, List.set_cons_succ, i64_w, i32_w]
             rfl
            refine one_ (i := 1) (N := some 74) #[true, true, false, false, true, false, false, false, false, false, false, false, false, false, false, false, false, false, false, false, false, false, false, false, false, false, false, false, false, false, false, false, false, false, false, false, false, false, false, false, false, false, false, false, false, false, false, false] rfl rfl (one_of HT_.out (by kernel_rfl)) (by decide) (fun K hK => ?_)
            refine goes_ Tryz.func13 (by kernel_rfl) rfl #[.agg #[.int .i64 a0_0, .string a0_1, .string a0_2, .int .i64 a0_3, .slice A0_4 l0_4.length c0_4, .int .i64 a0_5]] (by rfl) rfl rfl (by (try simp only [List.map_toArray, List.map_cons, List.map_nil]); first | done | rfl | (simp only [List.length_drop, List.length_take]; rfl)) ?_
            with_reducible refine (desc_Check.calls a0_0 a0_1 a0_2 a0_3 _ _ l0_4 a0_5 t464 _ ?side1 ?side2 ?side3 A88.out).mono ?_
            (case side1 => exact hG.below (by exact pbE HB.out))
            (case side2 => repeat (first | exact (Kd.C_below HR0_4.out HB.out) | (with_reducible refine Kd.C_alloc ?_ _) | (with_reducible refine Kd.C_drewN ?_ _) | (with_reducible refine Kd.C_drew ?_)))
            (case side3 => exact HC0_4.out)
            rintro e w124 ⟨rfl, hb⟩
            refine ⟨_, rfl, ?_⟩
            replace HO450 := Az.mk (Kd.V_below (Kd.V_ext HO450.out) hb)
            replace HO460 := Az.mk (Kd.V_below (Kd.V_ext HO460.out) hb)
            replace BK423 := Az.mk (bkB (bk BK423.out) hb)
            replace BK424 := Az.mk (bkB (bk BK424.out) hb)
            replace BK431 := Az.mk (bkB (bk BK431.out) hb)
            replace BK435 := Az.mk (bkB (bk BK435.out) hb)
            replace BK439 := Az.mk (bkB (bk BK439.out) hb)
            replace BK443 := Az.mk (bkB (bk BK443.out) hb)
            replace BK453 := Az.mk (bkB (bk BK453.out) hb)
            replace BK463 := Az.mk (bkB (bk BK463.out) hb)
            replace HB := Az.mk (pbT (by exact pbE HB.out) hb)
            (try clear hb)
            (try clear hb2)
            (try clear hk)
            (try clear hi)
            refine hK.out _ _ ⟨(bkC BK423.out 0).trans rfl, (bkC BK423.out 1).trans rfl, (bkC BK423.out 2).trans rfl, (bkC BK423.out 3).trans rfl, (bkC BK423.out 4).trans rfl, (bkC BK423.out 5).trans rfl, (bkC BK431.out 0).trans rfl, (bkC BK431.out 1).trans rfl, (bkC BK435.out 0).trans rfl, (bkC BK435.out 1).trans rfl, (bkC BK439.out 0).trans rfl, (bkC BK439.out 1).trans rfl, (bkC BK443.out 0).trans rfl, (bkC BK443.out 1).trans rfl, (bkC BK453.out 0).trans rfl, (bkC BK453.out 1).trans rfl, (bkC BK453.out 2).trans rfl, (bkC BK453.out 3).trans rfl, (bkC BK453.out 4).trans rfl, (bkC BK453.out 5).trans rfl, (bkC BK463.out 0).trans rfl, (bkC BK463.out 1).trans rfl, (bkC BK463.out 2).trans rfl, (bkC BK463.out 3).trans rfl, (bkC BK463.out 4).trans rfl, (bkC BK463.out 5).trans rfl, (bkC BK424.out 0).trans rfl, (bkC BK424.out 1).trans rfl, (bkC BK424.out 2).trans rfl, (bkC BK424.out 3).trans rfl, (bkC BK424.out 4).trans rfl, (bkC BK424.out 5).trans rfl⟩ (fun hHeld => ?_)
            clear hK K
            refine norm_ (a' := ?_) ?_ ?_
            rotate_left
            ·show Act.put _ (some 74) _ = _
             simp only [Act.put, List.setIfInBounds_toArray, List.set_cons_zero, List.set_cons_succ, i64_w, i32_w]
             rfl
            refine one_ (i := 2) (N := some 75) #[true, true, true, false, true, false, false, false, false, false, false, false, false, false, false, false, false, false, false, false, false, false, false, false, false, false, false, false, false, false, false, false, false, false, false, false, false, false, false, false, false, false, false, false, false, false, false, false] rfl rfl (one_of HT_.out (by kernel_rfl)) (by decide) (fun K hK => ?_)
            refine goes_ Tryz.func12 (by kernel_rfl) rfl #[.int .i64 t464] (by rfl) rfl rfl (by (try simp only [List.map_toArray, List.map_cons, List.map_nil]); first | done | rfl | (simp only [List.length_drop, List.length_take]; rfl)) ?_
            with_reducible refine (l06_num.calls t464 t465 _ ?side1 A89.out).mono ?_
            (case side1 => exact hG.below (by exact pbE HB.out))
            rintro e w' ⟨rfl, ⟨nd, rfl⟩⟩
            refine ⟨_, rfl, ?_⟩
            refine hK.out _ _ ⟨(bkC BK423.out 0).trans rfl, (bkC BK423.out 1).trans rfl, (bkC BK423.out 2).trans rfl, (bkC BK423.out 3).trans rfl, (bkC BK423.out 4).trans rfl, (bkC BK423.out 5).trans rfl, (bkC BK431.out 0).trans rfl, (bkC BK431.out 1).trans rfl, (bkC BK435.out 0).trans rfl, (bkC BK435.out 1).trans rfl, (bkC BK439.out 0).trans rfl, (bkC BK439.out 1).trans rfl, (bkC BK443.out 0).trans rfl, (bkC BK443.out 1).trans rfl, (bkC BK453.out 0).trans rfl, (bkC BK453.out 1).trans rfl, (bkC BK453.out 2).trans rfl, (bkC BK453.out 3).trans rfl, (bkC BK453.out 4).trans rfl, (bkC BK453.out 5).trans rfl, (bkC BK463.out 0).trans rfl, (bkC BK463.out 1).trans rfl, (bkC BK463.out 2).trans rfl, (bkC BK463.out 3).trans rfl, (bkC BK463.out 4).trans rfl, (bkC BK463.out 5).trans rfl, (bkC BK424.out 0).trans rfl, (bkC BK424.out 1).trans rfl, (bkC BK424.out 2).trans rfl, (bkC BK424.out 3).trans rfl, (bkC BK424.out 4).trans rfl, (bkC BK424.out 5).trans rfl⟩ (fun hHeld => ?_)
            clear hK K
            refine norm_ (a' := ?_) ?_ ?_
            rotate_left
            ·show Act.put _ (some 75) _ = _
             simp only [Act.put, List.setIfInBounds_toArray, List.set_cons_zero, List.set_cons_succ, i64_w, i32_w]
             rfl
            refine pure_ (i := 3) (N := some 76) (v := ?_) (a' := ?_) #[true, true, true, true, true, false, false, false, false, false, false, false, false, false, false, false, false, false, false, false, false, false, false, false, false, false, false, false, false, false, false, false, false, false, false, false, false, false, false, false, false, false, false, false, false, false, false, false] rfl rfl (any_of HT_.out (by kernel_rfl)) (fun _ _ _ h => h) (Or.inl ⟨by rfl, ?_⟩) ?_ ?_
            rotate_left
            ·intro w'
             go_simp
             with_reducible rfl
            rotate_left
            ·simp only [Act.put, List.setIfInBounds_toArray, List.set_cons_zero, List.set_cons_succ, i64_w, i32_w]
             rfl
            refine one_ (i := 5) (N := some 78) #[true, true, true, true, true, true, false, false, false, false, false, false, false, false, false, false, false, false, false, false, false, false, false, false, false, false, false, false, false, false, false, false, false, false, false, false, false, false, false, false, false, false, false, false, false, false, false, false] rfl rfl (one_of HT_.out (by kernel_rfl)) (by decide) (fun K hK => ?_)
            refine goes_ Tryz.func14 (by kernel_rfl) rfl #[.agg #[.int .i64 a0_0, .string a0_1, .string a0_2, .int .i64 a0_3, .slice A0_4 l0_4.length c0_4, .int .i64 a0_5]] (by rfl) rfl rfl (by (try simp only [List.map_toArray, List.map_cons, List.map_nil]); first | done | rfl | (simp only [List.length_drop, List.length_take]; rfl)) ?_
            with_reducible refine (r06_Is.calls kj5 a0_0 a0_1 a0_2 a0_3 _ _ l0_4 a0_5 t466 _ ?side1 ?side2 ?side3 A90.out).mono ?_
            (case side1 => exact hG.below (by exact pbE HB.out))
            (case side2 => repeat (first | exact (Kd.C_below HR0_4.out (by exact pbE HB.out)) | (with_reducible refine Kd.C_alloc ?_ _) | (with_reducible refine Kd.C_drewN ?_ _) | (with_reducible refine Kd.C_drew ?_)))
            (case side3 => exact HC0_4.out)
            rintro e w125 ⟨rfl, hb⟩
            refine ⟨_, rfl, ?_⟩
            replace HO450 := Az.mk (Kd.V_below (Kd.V_ext HO450.out) hb)
            replace HO460 := Az.mk (Kd.V_below (Kd.V_ext HO460.out) hb)
            replace BK423 := Az.mk (bkB (bk BK423.out) hb)
            replace BK424 := Az.mk (bkB (bk BK424.out) hb)
            replace BK431 := Az.mk (bkB (bk BK431.out) hb)
            replace BK435 := Az.mk (bkB (bk BK435.out) hb)
            replace BK439 := Az.mk (bkB (bk BK439.out) hb)
            replace BK443 := Az.mk (bkB (bk BK443.out) hb)
            replace BK453 := Az.mk (bkB (bk BK453.out) hb)
            replace BK463 := Az.mk (bkB (bk BK463.out) hb)
            replace HB := Az.mk (pbT (by exact pbE HB.out) hb)
            (try clear hb)
            (try clear hb2)
            (try clear hk)
            (try clear hi)
            refine hK.out _ _ ⟨(bkC BK423.out 0).trans rfl, (bkC BK423.out 1).trans rfl, (bkC BK423.out 2).trans rfl, (bkC BK423.out 3).trans rfl, (bkC BK423.out 4).trans rfl, (bkC BK423.out 5).trans rfl, (bkC BK431.out 0).trans rfl, (bkC BK431.out 1).trans rfl, (bkC BK435.out 0).trans rfl, (bkC BK435.out 1).trans rfl, (bkC BK439.out 0).trans rfl, (bkC BK439.out 1).trans rfl, (bkC BK443.out 0).trans rfl, (bkC BK443.out 1).trans rfl, (bkC BK453.out 0).trans rfl, (bkC BK453.out 1).trans rfl, (bkC BK453.out 2).trans rfl, (bkC BK453.out 3).trans rfl, (bkC BK453.out 4).trans rfl, (bkC BK453.out 5).trans rfl, (bkC BK463.out 0).trans rfl, (bkC BK463.out 1).trans rfl, (bkC BK463.out 2).trans rfl, (bkC BK463.out 3).trans rfl, (bkC BK463.out 4).trans rfl, (bkC BK463.out 5).trans rfl, (bkC BK424.out 0).trans rfl, (bkC BK424.out 1).trans rfl, (bkC BK424.out 2).trans rfl, (bkC BK424.out 3).trans rfl, (bkC BK424.out 4).trans rfl, (bkC BK424.out 5).trans rfl⟩ (fun hHeld => ?_)
            clear hK K
            refine norm_ (a' := ?_) ?_ ?_
            rotate_left
            ·show Act.put _ (some 78) _ = _
             simp only [Act.put, List.setIfInBounds_toArray, List.set_cons_zero, List.set_cons_succ, i64_w, i32_w]
             rfl
            refine pure_ (i := 6) (N := some 79) (v := ?_) (a' := ?_) #[true, true, true, true, true, true, true, false, false, false, false, false, false, false, false, false, false, false, false, false, false, false, false, false, false, false, false, false, false, false, false, false, false, false, false, false, false, false, false, false, false, false, false, false, false, false, false, false] rfl rfl (any_of HT_.out (by kernel_rfl)) (fun _ _ _ h => h) (Or.inl ⟨by rfl, ?_⟩) ?_ ?_
            rotate_left
            ·intro w'
             go_simp
             with_reducible rfl
            rotate_left
            ·simp only [Act.put, List.setIfInBounds_toArray, List.set_cons_zero, List.set_cons_succ, i64_w, i32_w]
             rfl
            refine pure_ (i := 7) (N := some 80) (v := ?_) (a' := ?_) #[true, true, true, true, true, true, true, true, false, false, false, false, false, false, false, false, false, false, false, false, false, false, false, false, false, false, false, false, false, false, false, false, false, false, false, false, false, false, false, false, false, false, false, false, false, false, false, false] rfl rfl (any_of HT_.out (by kernel_rfl)) (fun _ _ _ h => h) (Or.inl ⟨by rfl, ?_⟩) ?_ ?_
            rotate_left
            ·intro w'
             go_simp
             with_reducible rfl
            rotate_left
            ·simp only [Act.put, List.setIfInBounds_toArray, List.set_cons_zero, List.set_cons_succ, i64_w, i32_w]
             rfl
            refine take_ (i := 8) (N := some 81) (v := ?_) (a' := ?_) #[true, true, true, true, true, true, true, true, true, false, false, false, false, false, false, false, false, false, false, false, false, false, false, false, false, false, false, false, false, false, false, false, false, false, false, false, false, false, false, false, false, false, false, false, false, false, false, false] rfl rfl (take_ofW HT_.out HW_.out (by kernel_rfl)) (fun _ _ _ h => h) (Or.inl ⟨by rfl, ?_⟩) hHeld ?_ ?_
            rotate_left
            ·rintro w' ⟨s0, s1, s2, s3, s4, s5, s6, s7, s8, s9, s10, s11, s12, s13, s14, s15, s16, s17, s18, s19, s20, s21, s22, s23, s24, s25, s26, s27, s28, s29, s30, s31⟩
             go_simp
             with_reducible rfl
            rotate_left
            ·simp only [Act.put, List.setIfInBounds_toArray, List.set_cons_zero, List.set_cons_succ, i64_w, i32_w]
             rfl
            refine take_ (i := 9) (N := some 82) (v := ?_) (a' := ?_) #[true, true, true, true, true, true, true, true, true, true, false, false, false, false, false, false, false, false, false, false, false, false, false, false, false, false, false, false, false, false, false, false, false, false, false, false, false, false, false, false, false, false, false, false, false, false, false, false] rfl rfl (take_ofW HT_.out HW_.out (by kernel_rfl)) (fun _ _ _ h => h) (Or.inl ⟨by rfl, ?_⟩) hHeld ?_ ?_
            rotate_left
            ·rintro w' ⟨s0, s1, s2, s3, s4, s5, s6, s7, s8, s9, s10, s11, s12, s13, s14, s15, s16, s17, s18, s19, s20, s21, s22, s23, s24, s25, s26, s27, s28, s29, s30, s31⟩
             go_simp
             with_reducible rfl
            rotate_left
            ·simp only [Act.put, List.setIfInBounds_toArray, List.set_cons_zero, List.set_cons_succ, i64_w, i32_w]
             rfl
            refine pure_ (i := 10) (N := some 83) (v := ?_) (a' := ?_) #[true, true, true, true, true, true, true, true, true, true, true, false, false, false, false, false, false, false, false, false, false, false, false, false, false, false, false, false, false, false, false, false, false, false, false, false, false, false, false, false, false, false, false, false, false, false, false, false] rfl rfl (any_of HT_.out (by kernel_rfl)) (fun _ _ _ h => h) (Or.inl ⟨by rfl, ?_⟩) ?_ ?_
            rotate_left
            ·intro w'
             go_simp
             with_reducible rfl
            rotate_left
            ·simp only [Act.put, List.setIfInBounds_toArray, List.set_cons_zero, List.set_cons_succ, i64_w, i32_w]
             rfl
            refine pure_ (i := 11) (N := some 84) (v := ?_) (a' := ?_) #[true, true, true, true, true, true, true, true, true, true, true, true, false, false, false, false, false, false, false, false, false, false, false, false, false, false, false, false, false, false, false, false, false, false, false, false, false, false, false, false, false, false, false, false, false, false, false, false] rfl rfl (any_of HT_.out (by kernel_rfl)) (fun _ _ _ h => h) (Or.inl ⟨by rfl, ?_⟩) ?_ ?_
            rotate_left
            ·intro w'
             go_simp
             with_reducible rfl
            rotate_left
            ·simp only [Act.put, List.setIfInBounds_toArray, List.set_cons_zero, List.set_cons_succ, i64_w, i32_w]
             rfl
            refine pure_ (i := 12) (N := some 85) (v := ?_) (a' := ?_) #[true, true, true, true, true, true, true, true, true, true, true, true, true, false, false, false, false, false, false, false, false, false, false, false, false, false, false, false, false, false, false, false, false, false, false, false, false, false, false, false, false, false, false, false, false, false, false, false] rfl rfl (any_of HT_.out (by kernel_rfl)) (fun _ _ _ h => h) (Or.inl ⟨by rfl, ?_⟩) ?_ ?_
            rotate_left
            ·intro w'
             go_simp
             with_reducible rfl
            rotate_left
            ·simp only [Act.put, List.setIfInBounds_toArray, List.set_cons_zero, List.set_cons_succ, i64_w, i32_w]
             rfl
            refine pure_ (i := 13) (N := some 86) (v := ?_) (a' := ?_) #[true, true, true, true, true, true, true, true, true, true, true, true, true, true, false, false, false, false, false, false, false, false, false, false, false, false, false, false, false, false, false, false, false, false, false, false, false, false, false, false, false, false, false, false, false, false, false, false] rfl rfl (any_of HT_.out (by kernel_rfl)) (fun _ _ _ h => h) (Or.inl ⟨by rfl, ?_⟩) ?_ ?_
            rotate_left
            ·intro w'
             go_simp
             with_reducible rfl
            rotate_left
            ·simp only [Act.put, List.setIfInBounds_toArray, List.set_cons_zero, List.set_cons_succ, i64_w, i32_w]
             rfl
            refine pure_ (i := 14) (N := some 87) (v := ?_) (a' := ?_) #[true, true, true, true, true, true, true, true, true, true, true, true, true, true, true, false, false, false, false, false, false, false, false, false, false, false, false, false, false, false, false, false, false, false, false, false, false, false, false, false, false, false, false, false, false, false, false, false] rfl rfl (any_of HT_.out (by kernel_rfl)) (fun _ _ _ h => h) (Or.inl ⟨by rfl, ?_⟩) ?_ ?_
            rotate_left
            ·intro w'
             go_simp
             with_reducible rfl
            rotate_left
            ·simp only [Act.put, List.setIfInBounds_toArray, List.set_cons_zero, List.set_cons_succ, i64_w, i32_w]
             rfl
            refine pure_ (i := 15) (N := some 88) (v := ?_) (a' := ?_) #[true, true, true, true, true, true, true, true, true, true, true, true, true, true, true, true, false, false, false, false, false, false, false, false, false, false, false, false, false, false, false, false, false, false, false, false, false, false, false, false, false, false, false, false, false, false, false, false] rfl rfl (any_of HT_.out (by kernel_rfl)) (fun _ _ _ h => h) (Or.inl ⟨by rfl, ?_⟩) ?_ ?_
            rotate_left
            ·intro w'
             go_simp
             with_reducible rfl
            rotate_left
            ·simp only [Act.put, List.setIfInBounds_toArray, List.set_cons_zero, List.set_cons_succ, i64_w, i32_w]
             rfl
            refine pure_ (i := 16) (N := some 89) (v := ?_) (a' := ?_) #[true, true, true, true, true, true, true, true, true, true, true, true, true, true, true, true, true, false, false, false, false, false, false, false, false, false, false, false, false, false, false, false, false, false, false, false, false, false, false, false, false, false, false, false, false, false, false, false] rfl rfl (any_of HT_.out (by kernel_rfl)) (fun _ _ _ h => h) (Or.inl ⟨by rfl, ?_⟩) ?_ ?_
            rotate_left
            ·intro w'
             go_simp
             with_reducible rfl
            rotate_left
            ·simp only [Act.put, List.setIfInBounds_toArray, List.set_cons_zero, List.set_cons_succ, i64_w, i32_w]
             rfl
            refine pure_ (i := 17) (N := some 90) (v := ?_) (a' := ?_) #[true, true, true, true, true, true, true, true, true, true, true, true, true, true, true, true, true, true, false, false, false, false, false, false, false, false, false, false, false, false, false, false, false, false, false, false, false, false, false, false, false, false, false, false, false, false, false, false] rfl rfl (any_of HT_.out (by kernel_rfl)) (fun _ _ _ h => h) (Or.inl ⟨by rfl, ?_⟩) ?_ ?_
            rotate_left
            ·intro w'
             go_simp
             with_reducible rfl
            rotate_left
            ·simp only [Act.put, List.setIfInBounds_toArray, List.set_cons_zero, List.set_cons_succ, i64_w, i32_w]
             rfl
            refine take_ (i := 18) (N := some 91) (v := ?_) (a' := ?_) #[true, true, true, true, true, true, true, true, true, true, true, true, true, true, true, true, true, true, true, false, false, false, false, false, false, false, false, false, false, false, false, false, false, false, false, false, false, false, false, false, false, false, false, false, false, false, false, false] rfl rfl (take_ofW HT_.out HW_.out (by kernel_rfl)) (fun _ _ _ h => h) (Or.inl ⟨by rfl, ?_⟩) hHeld ?_ ?_
            rotate_left
            ·rintro w' ⟨s0, s1, s2, s3, s4, s5, s6, s7, s8, s9, s10, s11, s12, s13, s14, s15, s16, s17, s18, s19, s20, s21, s22, s23, s24, s25, s26, s27, s28, s29, s30, s31⟩
             go_simp
             with_reducible rfl
            rotate_left
            ·simp only [Act.put, List.setIfInBounds_toArray, List.set_cons_zero, List.set_cons_succ, i64_w, i32_w]
             rfl
            refine take_ (i := 19) (N := some 92) (v := ?_) (a' := ?_) #[true, true, true, true, true, true, true, true, true, true, true, true, true, true, true, true, true, true, true, true, false, false, false, false, false, false, false, false, false, false, false, false, false, false, false, false, false, false, false, false, false, false, false, false, false, false, false, false] rfl rfl (take_ofW HT_.out HW_.out (by kernel_rfl)) (fun _ _ _ h => h) (Or.inl ⟨by rfl, ?_⟩) hHeld ?_ ?_
            rotate_left
            ·rintro w' ⟨s0, s1, s2, s3, s4, s5, s6, s7, s8, s9, s10, s11, s12, s13, s14, s15, s16, s17, s18, s19, s20, s21, s22, s23, s24, s25, s26, s27, s28, s29, s30, s31⟩
             go_simp
             with_reducible rfl
            rotate_left
            ·simp only [Act.put, List.setIfInBounds_toArray, List.set_cons_zero, List.set_cons_succ, i64_w, i32_w]
             rfl
            refine pure_ (i := 20) (N := some 93) (v := ?_) (a' := ?_) #[true, true, true, true, true, true, true, true, true, true, true, true, true, true, true, true, true, true, true, true, true, false, false, false, false, false, false, false, false, false, false, false, false, false, false, false, false, false, false, false, false, false, false, false, false, false, false, false] rfl rfl (any_of HT_.out (by kernel_rfl)) (fun _ _ _ h => h) (Or.inl ⟨by rfl, ?_⟩) ?_ ?_
            rotate_left
            ·intro w'
             go_simp
             with_reducible rfl
            rotate_left
            ·simp only [Act.put, List.setIfInBounds_toArray, List.set_cons_zero, List.set_cons_succ, i64_w, i32_w]
             rfl
            refine pure_ (i := 21) (N := some 94) (v := ?_) (a' := ?_) #[true, true, true, true, true, true, true, true, true, true, true, true, true, true, true, true, true, true, true, true, true, true, false, false, false, false, false, false, false, false, false, false, false, false, false, false, false, false, false, false, false, false, false, false, false, false, false, false] rfl rfl (any_of HT_.out (by kernel_rfl)) (fun _ _ _ h => h) (Or.inl ⟨by rfl, ?_⟩) ?_ ?_
            rotate_left
            ·intro w'
             go_simp
             with_reducible rfl
            rotate_left
            ·simp only [Act.put, List.setIfInBounds_toArray, List.set_cons_zero, List.set_cons_succ, i64_w, i32_w]
             rfl
            refine pure_ (i := 22) (N := some 95) (v := ?_) (a' := ?_) #[true, true, true, true, true, true, true, true, true, true, true, true, true, true, true, true, true, true, true, true, true, true, true, false, false, false, false, false, false, false, false, false, false, false, false, false, false, false, false, false, false, false, false, false, false, false, false, false] rfl rfl (any_of HT_.out (by kernel_rfl)) (fun _ _ _ h => h) (Or.inl ⟨by rfl, ?_⟩) ?_ ?_
            rotate_left
            ·intro w'
             go_simp
             with_reducible rfl
            rotate_left
            ·simp only [Act.put, List.setIfInBounds_toArray, List.set_cons_zero, List.set_cons_succ, i64_w, i32_w]
             rfl
            refine pure_ (i := 23) (N := some 96) (v := ?_) (a' := ?_) #[true, true, true, true, true, true, true, true, true, true, true, true, true, true, true, true, true, true, true, true, true, true, true, true, false, false, false, false, false, false, false, false, false, false, false, false, false, false, false, false, false, false, false, false, false, false, false, false] rfl rfl (any_of HT_.out (by kernel_rfl)) (fun _ _ _ h => h) (Or.inl ⟨by rfl, ?_⟩) ?_ ?_
            rotate_left
            ·intro w'
             go_simp
             with_reducible rfl
            rotate_left
            ·simp only [Act.put, List.setIfInBounds_toArray, List.set_cons_zero, List.set_cons_succ, i64_w, i32_w]
             rfl
            refine pure_ (i := 24) (N := some 97) (v := ?_) (a' := ?_) #[true, true, true, true, true, true, true, true, true, true, true, true, true, true, true, true, true, true, true, true, true, true, true, true, true, false, false, false, false, false, false, false, false, false, false, false, false, false, false, false, false, false, false, false, false, false, false, false] rfl rfl (any_of HT_.out (by kernel_rfl)) (fun _ _ _ h => h) (Or.inl ⟨by rfl, ?_⟩) ?_ ?_
            rotate_left
            ·intro w'
             go_simp
             with_reducible rfl
            rotate_left
            ·simp only [Act.put, List.setIfInBounds_toArray, List.set_cons_zero, List.set_cons_succ, i64_w, i32_w]
             rfl
            refine pure_ (i := 25) (N := some 98) (v := ?_) (a' := ?_) #[true, true, true, true, true, true, true, true, true, true, true, true, true, true, true, true, true, true, true, true, true, true, true, true, true, true, false, false, false, false, false, false, false, false, false, false, false, false, false, false, false, false, false, false, false, false, false, false] rfl rfl (any_of HT_.out (by kernel_rfl)) (fun _ _ _ h => h) (Or.inl ⟨by rfl, ?_⟩) ?_ ?_
            rotate_left
            ·intro w'
             go_simp
             with_reducible rfl
            rotate_left
            ·simp only [Act.put, List.setIfInBounds_toArray, List.set_cons_zero, List.set_cons_succ, i64_w, i32_w]
             rfl
            refine pure_ (i := 26) (N := some 99) (v := ?_) (a' := ?_) #[true, true, true, true, true, true, true, true, true, true, true, true, true, true, true, true, true, true, true, true, true, true, true, true, true, true, true, false, false, false, false, false, false, false, false, false, false, false, false, false, false, false, false, false, false, false, false, false] rfl rfl (any_of HT_.out (by kernel_rfl)) (fun _ _ _ h => h) (Or.inl ⟨by rfl, ?_⟩) ?_ ?_
            rotate_left
            ·intro w'
             go_simp
             with_reducible rfl
            rotate_left
            ·simp only [Act.put, List.setIfInBounds_toArray, List.set_cons_zero, List.set_cons_succ, i64_w, i32_w]
             rfl
            refine pure_ (i := 27) (N := some 100) (v := ?_) (a' := ?_) #[true, true, true, true, true, true, true, true, true, true, true, true, true, true, true, true, true, true, true, true, true, true, true, true, true, true, true, true, false, false, false, false, false, false, false, false, false, false, false, false, false, false, false, false, false, false, false, false] rfl rfl (any_of HT_.out (by kernel_rfl)) (fun _ _ _ h => h) (Or.inl ⟨by rfl, ?_⟩) ?_ ?_
            rotate_left
            ·intro w'
             go_simp
             with_reducible rfl
            rotate_left
            ·simp only [Act.put, List.setIfInBounds_toArray, List.set_cons_zero, List.set_cons_succ, i64_w, i32_w]
             rfl
            refine take_ (i := 28) (N := some 101) (v := ?_) (a' := ?_) #[true, true, true, true, true, true, true, true, true, true, true, true, true, true, true, true, true, true, true, true, true, true, true, true, true, true, true, true, true, false, false, false, false, false, false, false, false, false, false, false, false, false, false, false, false, false, false, false] rfl rfl (take_ofW HT_.out HW_.out (by kernel_rfl)) (fun _ _ _ h => h) (Or.inl ⟨by rfl, ?_⟩) hHeld ?_ ?_
            rotate_left
            ·rintro w' ⟨s0, s1, s2, s3, s4, s5, s6, s7, s8, s9, s10, s11, s12, s13, s14, s15, s16, s17, s18, s19, s20, s21, s22, s23, s24, s25, s26, s27, s28, s29, s30, s31⟩
             go_simp
             with_reducible rfl
            rotate_left
            ·simp only [Act.put, List.setIfInBounds_toArray, List.set_cons_zero, List.set_cons_succ, i64_w, i32_w]
             rfl
            refine take_ (i := 29) (N := some 102) (v := ?_) (a' := ?_) #[true, true, true, true, true, true, true, true, true, true, true, true, true, true, true, true, true, true, true, true, true, true, true, true, true, true, true, true, true, true, false, false, false, false, false, false, false, false, false, false, false, false, false, false, false, false, false, false] rfl rfl (take_ofW HT_.out HW_.out (by kernel_rfl)) (fun _ _ _ h => h) (Or.inl ⟨by rfl, ?_⟩) hHeld ?_ ?_
            rotate_left
            ·rintro w' ⟨s0, s1, s2, s3, s4, s5, s6, s7, s8, s9, s10, s11, s12, s13, s14, s15, s16, s17, s18, s19, s20, s21, s22, s23, s24, s25, s26, s27, s28, s29, s30, s31⟩
             go_simp
             with_reducible rfl
            rotate_left
            ·simp only [Act.put, List.setIfInBounds_toArray, List.set_cons_zero, List.set_cons_succ, i64_w, i32_w]
             rfl
            refine one_ (i := 30) (N := some 103) #[true, true, true, true, true, true, true, true, true, true, true, true, true, true, true, true, true, true, true, true, true, true, true, true, true, true, true, true, true, true, true, false, false, false, false, false, false, false, false, false, false, false, false, false, false, false, false, false] rfl rfl (one_of HT_.out (by kernel_rfl)) (by decide) (fun K hK => ?_)
            refine goes_ Tryz.func15 (by kernel_rfl) rfl #[.agg #[.int .i64 t444, .string t445, .string t446, .int .i64 t447, .slice Ao76 t448.length co76, .int .i64 t451], .agg #[.int .i64 t454, .string t455, .string t456, .int .i64 t457, .slice Ao87 t458.length co87, .int .i64 t461]] (by rfl) rfl rfl (by (try simp only [List.map_toArray, List.map_cons, List.map_nil]); first | done | rfl | (simp only [List.length_drop, List.length_take]; rfl)) ?_
            with_reducible refine (r06_Same.calls kj5 t444 t445 t446 t447 _ _ t448 t451 t454 t455 t456 t457 _ _ t458 t461 true _ ?side1 ?side2 ?side3 ?side4 ?side5 A116.out).mono ?_
            (case side1 => exact hG.below (by exact pbE HB.out))
            (case side2 => repeat (first | exact (Kd.V_reads' HO450.out).2.2 | (with_reducible refine Kd.C_alloc ?_ _) | (with_reducible refine Kd.C_drewN ?_ _) | (with_reducible refine Kd.C_drew ?_)))
            (case side3 => exact (Kd.V_reads' HO450.out).2.1)
            (case side4 => repeat (first | exact (Kd.V_reads' HO460.out).2.2 | (with_reducible refine Kd.C_alloc ?_ _) | (with_reducible refine Kd.C_drewN ?_ _) | (with_reducible refine Kd.C_drew ?_)))
            (case side5 => exact (Kd.V_reads' HO460.out).2.1)
            rintro e w126 ⟨rfl, hb⟩
            refine ⟨_, rfl, ?_⟩
            replace HO450 := Az.mk (Kd.V_below (Kd.V_ext HO450.out) hb)
            replace HO460 := Az.mk (Kd.V_below (Kd.V_ext HO460.out) hb)
            replace BK423 := Az.mk (bkB (bk BK423.out) hb)
            replace BK424 := Az.mk (bkB (bk BK424.out) hb)
            replace BK431 := Az.mk (bkB (bk BK431.out) hb)
            replace BK435 := Az.mk (bkB (bk BK435.out) hb)
            replace BK439 := Az.mk (bkB (bk BK439.out) hb)
            replace BK443 := Az.mk (bkB (bk BK443.out) hb)
            replace BK453 := Az.mk (bkB (bk BK453.out) hb)
            replace BK463 := Az.mk (bkB (bk BK463.out) hb)
            replace HB := Az.mk (pbT (by exact pbE HB.out) hb)
            (try clear hb)
            (try clear hb2)
            (try clear hk)
            (try clear hi)
            refine hK.out _ _ ⟨(bkC BK423.out 0).trans rfl, (bkC BK423.out 1).trans rfl, (bkC BK423.out 2).trans rfl, (bkC BK423.out 3).trans rfl, (bkC BK423.out 4).trans rfl, (bkC BK423.out 5).trans rfl, (bkC BK431.out 0).trans rfl, (bkC BK431.out 1).trans rfl, (bkC BK435.out 0).trans rfl, (bkC BK435.out 1).trans rfl, (bkC BK439.out 0).trans rfl, (bkC BK439.out 1).trans rfl, (bkC BK443.out 0).trans rfl, (bkC BK443.out 1).trans rfl, (bkC BK453.out 0).trans rfl, (bkC BK453.out 1).trans rfl, (bkC BK453.out 2).trans rfl, (bkC BK453.out 3).trans rfl, (bkC BK453.out 4).trans rfl, (bkC BK453.out 5).trans rfl, (bkC BK463.out 0).trans rfl, (bkC BK463.out 1).trans rfl, (bkC BK463.out 2).trans rfl, (bkC BK463.out 3).trans rfl, (bkC BK463.out 4).trans rfl, (bkC BK463.out 5).trans rfl, (bkC BK424.out 0).trans rfl, (bkC BK424.out 1).trans rfl, (bkC BK424.out 2).trans rfl, (bkC BK424.out 3).trans rfl, (bkC BK424.out 4).trans rfl, (bkC BK424.out 5).trans rfl⟩ (fun hHeld => ?_)
            clear hK K
            refine norm_ (a' := ?_) ?_ ?_
            rotate_left
            ·show Act.put _ (some 103) _ = _
             simp only [Act.put, List.setIfInBounds_toArray, List.set_cons_zero, List.set_cons_succ, i64_w, i32_w]
             rfl
            refine pure_ (i := 31) (N := some 104) (v := ?_) (a' := ?_) #[true, true, true, true, true, true, true, true, true, true, true, true, true, true, true, true, true, true, true, true, true, true, true, true, true, true, true, true, true, true, true, true, false, false, false, false, false, false, false, false, false, false, false, false, false, false, false, false] rfl rfl (any_of HT_.out (by kernel_rfl)) (fun _ _ _ h => h) (Or.inl ⟨by rfl, ?_⟩) ?_ ?_
            rotate_left
            ·intro w'
             go_simp
             with_reducible rfl
            rotate_left
            ·simp only [Act.put, List.setIfInBounds_toArray, List.set_cons_zero, List.set_cons_succ, i64_w, i32_w]
             rfl
            refine pure_ (i := 32) (N := some 105) (v := ?_) (a' := ?_) #[true, true, true, true, true, true, true, true, true, true, true, true, true, true, true, true, true, true, true, true, true, true, true, true, true, true, true, true, true, true, true, true, true, false, false, false, false, false, false, false, false, false, false, false, false, false, false, false] rfl rfl (any_of HT_.out (by kernel_rfl)) (fun _ _ _ h => h) (Or.inl ⟨by rfl, ?_⟩) ?_ ?_
            rotate_left
            ·intro w'
             go_simp
             with_reducible rfl
            rotate_left
            ·simp only [Act.put, List.setIfInBounds_toArray, List.set_cons_zero, List.set_cons_succ, i64_w, i32_w]
             rfl
            refine pure_ (i := 33) (N := some 106) (v := ?_) (a' := ?_) #[true, true, true, true, true, true, true, true, true, true, true, true, true, true, true, true, true, true, true, true, true, true, true, true, true, true, true, true, true, true, true, true, true, true, false, false, false, false, false, false, false, false, false, false, false, false, false, false] rfl rfl (any_of HT_.out (by kernel_rfl)) (fun _ _ _ h => h) (Or.inl ⟨by rfl, ?_⟩) ?_ ?_
            rotate_left
            ·intro w'
             go_simp
             with_reducible rfl
            rotate_left
            ·simp only [Act.put, List.setIfInBounds_toArray, List.set_cons_zero, List.set_cons_succ, i64_w, i32_w]
             rfl
            refine pure_ (i := 34) (N := some 107) (v := ?_) (a' := ?_) #[true, true, true, true, true, true, true, true, true, true, true, true, true, true, true, true, true, true, true, true, true, true, true, true, true, true, true, true, true, true, true, true, true, true, true, false, false, false, false, false, false, false, false, false, false, false, false, false] rfl rfl (any_of HT_.out (by kernel_rfl)) (fun _ _ _ h => h) (Or.inl ⟨by rfl, ?_⟩) ?_ ?_
            rotate_left
            ·intro w'
             go_simp
             with_reducible rfl
            rotate_left
            ·simp only [Act.put, List.setIfInBounds_toArray, List.set_cons_zero, List.set_cons_succ, i64_w, i32_w]
             rfl
            refine pure_ (i := 36) (N := some 109) (v := ?_) (a' := ?_) #[true, true, true, true, true, true, true, true, true, true, true, true, true, true, true, true, true, true, true, true, true, true, true, true, true, true, true, true, true, true, true, true, true, true, true, false, true, false, false, false, false, false, false, false, false, false, false, false] rfl rfl (any_of HT_.out (by kernel_rfl)) (fun _ _ _ h => h) (Or.inl ⟨by rfl, ?_⟩) ?_ ?_
            rotate_left
            ·intro w'
             go_simp
             with_reducible rfl
            rotate_left
            ·simp only [Act.put, List.setIfInBounds_toArray, List.set_cons_zero, List.set_cons_succ, i64_w, i32_w]
             rfl
            refine one_ (i := 35) (N := some 108) #[true, true, true, true, true, true, true, true, true, true, true, true, true, true, true, true, true, true, true, true, true, true, true, true, true, true, true, true, true, true, true, true, true, true, true, true, true, false, false, false, false, false, false, false, false, false, false, false] rfl rfl (one_of HT_.out (by kernel_rfl)) (by decide) (fun K hK => ?_)
            refine goes_ Tryz.func12 (by kernel_rfl) rfl #[.int .i64 t452] (by rfl) rfl rfl (by (try simp only [List.map_toArray, List.map_cons, List.map_nil]); first | done | rfl | (simp only [List.length_drop, List.length_take]; rfl)) ?_
            with_reducible refine (l06_num.calls t452 t468 _ ?side1 A118.out).mono ?_
            (case side1 => exact hG.below (by exact pbE HB.out))
            rintro e w' ⟨rfl, ⟨nd, rfl⟩⟩
            refine ⟨_, rfl, ?_⟩
            refine hK.out _ _ ⟨(bkC BK423.out 0).trans rfl, (bkC BK423.out 1).trans rfl, (bkC BK423.out 2).trans rfl, (bkC BK423.out 3).trans rfl, (bkC BK423.out 4).trans rfl, (bkC BK423.out 5).trans rfl, (bkC BK431.out 0).trans rfl, (bkC BK431.out 1).trans rfl, (bkC BK435.out 0).trans rfl, (bkC BK435.out 1).trans rfl, (bkC BK439.out 0).trans rfl, (bkC BK439.out 1).trans rfl, (bkC BK443.out 0).trans rfl, (bkC BK443.out 1).trans rfl, (bkC BK453.out 0).trans rfl, (bkC BK453.out 1).trans rfl, (bkC BK453.out 2).trans rfl, (bkC BK453.out 3).trans rfl, (bkC BK453.out 4).trans rfl, (bkC BK453.out 5).trans rfl, (bkC BK463.out 0).trans rfl, (bkC BK463.out 1).trans rfl, (bkC BK463.out 2).trans rfl, (bkC BK463.out 3).trans rfl, (bkC BK463.out 4).trans rfl, (bkC BK463.out 5).trans rfl, (bkC BK424.out 0).trans rfl, (bkC BK424.out 1).trans rfl, (bkC BK424.out 2).trans rfl, (bkC BK424.out 3).trans rfl, (bkC BK424.out 4).trans rfl, (bkC BK424.out 5).trans rfl⟩ (fun hHeld => ?_)
            clear hK K
            refine norm_ (a' := ?_) ?_ ?_
            rotate_left
            ·show Act.put _ (some 108) _ = _
             simp only [Act.put, List.setIfInBounds_toArray, List.set_cons_zero, List.set_cons_succ, i64_w, i32_w]
             rfl
            refine pure_ (i := 37) (N := some 110) (v := ?_) (a' := ?_) #[true, true, true, true, true, true, true, true, true, true, true, true, true, true, true, true, true, true, true, true, true, true, true, true, true, true, true, true, true, true, true, true, true, true, true, true, true, true, false, false, false, false, false, false, false, false, false, false] rfl rfl (any_of HT_.out (by kernel_rfl)) (fun _ _ _ h => h) (Or.inl ⟨by rfl, ?_⟩) ?_ ?_
            rotate_left
            ·intro w'
             go_simp
             with_reducible rfl
            rotate_left
            ·simp only [Act.put, List.setIfInBounds_toArray, List.set_cons_zero, List.set_cons_succ, i64_w, i32_w]
             rfl
            refine pure_ (i := 38) (N := some 111) (v := ?_) (a' := ?_) #[true, true, true, true, true, true, true, true, true, true, true, true, true, true, true, true, true, true, true, true, true, true, true, true, true, true, true, true, true, true, true, true, true, true, true, true, true, true, true, false, false, false, false, false, false, false, false, false] rfl rfl (any_of HT_.out (by kernel_rfl)) (fun _ _ _ h => h) (Or.inl ⟨by rfl, ?_⟩) ?_ ?_
            rotate_left
            ·intro w'
             go_simp
             with_reducible rfl
            rotate_left
            ·simp only [Act.put, List.setIfInBounds_toArray, List.set_cons_zero, List.set_cons_succ, i64_w, i32_w]
             rfl
            refine pure_ (i := 39) (N := some 112) (v := ?_) (a' := ?_) #[true, true, true, true, true, true, true, true, true, true, true, true, true, true, true, true, true, true, true, true, true, true, true, true, true, true, true, true, true, true, true, true, true, true, true, true, true, true, true, true, false, false, false, false, false, false, false, false] rfl rfl (any_of HT_.out (by kernel_rfl)) (fun _ _ _ h => h) (Or.inl ⟨by rfl, ?_⟩) ?_ ?_
            rotate_left
            ·intro w'
             go_simp
             with_reducible rfl
            rotate_left
            ·simp only [Act.put, List.setIfInBounds_toArray, List.set_cons_zero, List.set_cons_succ, i64_w, i32_w]
             rfl
            refine take_ (i := 40) (N := some 113) (v := ?_) (a' := ?_) #[true, true, true, true, true, true, true, true, true, true, true, true, true, true, true, true, true, true, true, true, true, true, true, true, true, true, true, true, true, true, true, true, true, true, true, true, true, true, true, true, true, false, false, false, false, false, false, false] rfl rfl (take_ofW HT_.out HW_.out (by kernel_rfl)) (fun _ _ _ h => h) (Or.inl ⟨by rfl, ?_⟩) hHeld ?_ ?_
            rotate_left
            ·rintro w' ⟨s0, s1, s2, s3, s4, s5, s6, s7, s8, s9, s10, s11, s12, s13, s14, s15, s16, s17, s18, s19, s20, s21, s22, s23, s24, s25, s26, s27, s28, s29, s30, s31⟩
             go_simp
             with_reducible rfl
            rotate_left
            ·simp only [Act.put, List.setIfInBounds_toArray, List.set_cons_zero, List.set_cons_succ, i64_w, i32_w]
             rfl
            refine take_ (i := 41) (N := some 114) (v := ?_) (a' := ?_) #[true, true, true, true, true, true, true, true, true, true, true, true, true, true, true, true, true, true, true, true, true, true, true, true, true, true, true, true, true, true, true, true, true, true, true, true, true, true, true, true, true, true, false, false, false, false, false, false] rfl rfl (take_ofW HT_.out HW_.out (by kernel_rfl)) (fun _ _ _ h => h) (Or.inl ⟨by rfl, ?_⟩) hHeld ?_ ?_
            rotate_left
            ·rintro w' ⟨s0, s1, s2, s3, s4, s5, s6, s7, s8, s9, s10, s11, s12, s13, s14, s15, s16, s17, s18, s19, s20, s21, s22, s23, s24, s25, s26, s27, s28, s29, s30, s31⟩
             go_simp
             with_reducible rfl
            rotate_left
            ·simp only [Act.put, List.setIfInBounds_toArray, List.set_cons_zero, List.set_cons_succ, i64_w, i32_w]
             rfl
            refine take_ (i := 43) (N := some 116) (v := ?_) (a' := ?_) #[true, true, true, true, true, true, true, true, true, true, true, true, true, true, true, true, true, true, true, true, true, true, true, true, true, true, true, true, true, true, true, true, true, true, true, true, true, true, true, true, true, true, false, true, false, false, false, false] rfl rfl (take_ofW HT_.out HW_.out (by kernel_rfl)) (fun _ _ _ h => h) (Or.inl ⟨by rfl, ?_⟩) hHeld ?_ ?_
            rotate_left
            ·rintro w' ⟨s0, s1, s2, s3, s4, s5, s6, s7, s8, s9, s10, s11, s12, s13, s14, s15, s16, s17, s18, s19, s20, s21, s22, s23, s24, s25, s26, s27, s28, s29, s30, s31⟩
             go_simp
             with_reducible rfl
            rotate_left
            ·simp only [Act.put, List.setIfInBounds_toArray, List.set_cons_zero, List.set_cons_succ, i64_w, i32_w]
             rfl
            refine take_ (i := 44) (N := some 117) (v := ?_) (a' := ?_) #[true, true, true, true, true, true, true, true, true, true, true, true, true, true, true, true, true, true, true, true, true, true, true, true, true, true, true, true, true, true, true, true, true, true, true, true, true, true, true, true, true, true, false, true, true, false, false, false] rfl rfl (take_ofW HT_.out HW_.out (by kernel_rfl)) (fun _ _ _ h => h) (Or.inl ⟨by rfl, ?_⟩) hHeld ?_ ?_
            rotate_left
            ·rintro w' ⟨s0, s1, s2, s3, s4, s5, s6, s7, s8, s9, s10, s11, s12, s13, s14, s15, s16, s17, s18, s19, s20, s21, s22, s23, s24, s25, s26, s27, s28, s29, s30, s31⟩
             go_simp
             with_reducible rfl
            rotate_left
            ·simp only [Act.put, List.setIfInBounds_toArray, List.set_cons_zero, List.set_cons_succ, i64_w, i32_w]
             rfl
            refine one_ (i := 42) (N := some 115) #[true, true, true, true, true, true, true, true, true, true, true, true, true, true, true, true, true, true, true, true, true, true, true, true, true, true, true, true, true, true, true, true, true, true, true, true, true, true, true, true, true, true, true, true, true, false, false, false] rfl rfl (one_of HT_.out (by kernel_rfl)) (by decide) (fun K hK => ?_)
            refine goes_ Tryz.func16 (by kernel_rfl) rfl #[.agg #[.int .i64 a0_0, .string a0_1, .string a0_2, .int .i64 a0_3, .slice A0_4 l0_4.length c0_4, .int .i64 a0_5], .agg #[.int .i64 a1_0, .string a1_1, .string a1_2, .int .i64 a1_3, .slice A1_4 l1_4.length c1_4, .int .i64 a1_5]] (by rfl) rfl rfl (by (try simp only [List.map_toArray, List.map_cons, List.map_nil]); first | done | rfl | (simp only [List.length_drop, List.length_take]; rfl)) ?_
            with_reducible refine (desc_Same.calls kj5 a0_0 a0_1 a0_2 a0_3 _ _ l0_4 a0_5 a1_0 a1_1 a1_2 a1_3 _ _ l1_4 a1_5 t469 _ ?side1 ?side2 ?side3 ?side4 ?side5 A120.out).mono ?_
            (case side1 => exact hG.below (by exact pbE HB.out))
            (case side2 => repeat (first | exact (Kd.C_below HR0_4.out (by exact pbE HB.out)) | (with_reducible refine Kd.C_alloc ?_ _) | (with_reducible refine Kd.C_drewN ?_ _) | (with_reducible refine Kd.C_drew ?_)))
            (case side3 => exact HC0_4.out)
            (case side4 => repeat (first | exact (Kd.C_below HR1_4.out (by exact pbE HB.out)) | (with_reducible refine Kd.C_alloc ?_ _) | (with_reducible refine Kd.C_drewN ?_ _) | (with_reducible refine Kd.C_drew ?_)))
            (case side5 => exact HC1_4.out)
            rintro e w127 ⟨rfl, hb⟩
            refine ⟨_, rfl, ?_⟩
            replace HO450 := Az.mk (Kd.V_below (Kd.V_ext HO450.out) hb)
            replace HO460 := Az.mk (Kd.V_below (Kd.V_ext HO460.out) hb)
            replace BK423 := Az.mk (bkB (bk BK423.out) hb)
            replace BK424 := Az.mk (bkB (bk BK424.out) hb)
            replace BK431 := Az.mk (bkB (bk BK431.out) hb)
            replace BK435 := Az.mk (bkB (bk BK435.out) hb)
            replace BK439 := Az.mk (bkB (bk BK439.out) hb)
            replace BK443 := Az.mk (bkB (bk BK443.out) hb)
            replace BK453 := Az.mk (bkB (bk BK453.out) hb)
            replace BK463 := Az.mk (bkB (bk BK463.out) hb)
            replace HB := Az.mk (pbT (by exact pbE HB.out) hb)
            (try clear hb)
            (try clear hb2)
            (try clear hk)
            (try clear hi)
            refine hK.out _ _ ⟨(bkC BK423.out 0).trans rfl, (bkC BK423.out 1).trans rfl, (bkC BK423.out 2).trans rfl, (bkC BK423.out 3).trans rfl, (bkC BK423.out 4).trans rfl, (bkC BK423.out 5).trans rfl, (bkC BK431.out 0).trans rfl, (bkC BK431.out 1).trans rfl, (bkC BK435.out 0).trans rfl, (bkC BK435.out 1).trans rfl, (bkC BK439.out 0).trans rfl, (bkC BK439.out 1).trans rfl, (bkC BK443.out 0).trans rfl, (bkC BK443.out 1).trans rfl, (bkC BK453.out 0).trans rfl, (bkC BK453.out 1).trans rfl, (bkC BK453.out 2).trans rfl, (bkC BK453.out 3).trans rfl, (bkC BK453.out 4).trans rfl, (bkC BK453.out 5).trans rfl, (bkC BK463.out 0).trans rfl, (bkC BK463.out 1).trans rfl, (bkC BK463.out 2).trans rfl, (bkC BK463.out 3).trans rfl, (bkC BK463.out 4).trans rfl, (bkC BK463.out 5).trans rfl, (bkC BK424.out 0).trans rfl, (bkC BK424.out 1).trans rfl, (bkC BK424.out 2).trans rfl, (bkC BK424.out 3).trans rfl, (bkC BK424.out 4).trans rfl, (bkC BK424.out 5).trans rfl⟩ (fun hHeld => ?_)
            clear hK K
            refine norm_ (a' := ?_) ?_ ?_
            rotate_left
            ·show Act.put _ (some 115) _ = _
             simp only [Act.put, List.setIfInBounds_toArray, List.set_cons_zero, List.set_cons_succ, i64_w, i32_w]
             rfl
            refine one_ (i := 45) (N := some 118) #[true, true, true, true, true, true, true, true, true, true, true, true, true, true, true, true, true, true, true, true, true, true, true, true, true, true, true, true, true, true, true, true, true, true, true, true, true, true, true, true, true, true, true, true, true, true, false, false] rfl rfl (one_of HT_.out (by kernel_rfl)) (by decide) (fun K hK => ?_)
            refine goes_ Tryz.func15 (by kernel_rfl) rfl #[.agg #[.int .i64 a0_0, .string a0_1, .string a0_2, .int .i64 a0_3, .slice A0_4 l0_4.length c0_4, .int .i64 a0_5], .agg #[.int .i64 a1_0, .string a1_1, .string a1_2, .int .i64 a1_3, .slice A1_4 l1_4.length c1_4, .int .i64 a1_5]] (by rfl) rfl rfl (by (try simp only [List.map_toArray, List.map_cons, List.map_nil]); first | done | rfl | (simp only [List.length_drop, List.length_take]; rfl)) ?_
            with_reducible refine (r06_Same.calls kj5 a0_0 a0_1 a0_2 a0_3 _ _ l0_4 a0_5 a1_0 a1_1 a1_2 a1_3 _ _ l1_4 a1_5 t470 _ ?side1 ?side2 ?side3 ?side4 ?side5 A121.out).mono ?_
            (case side1 => exact hG.below (by exact pbE HB.out))
            (case side2 => repeat (first | exact (Kd.C_below HR0_4.out HB.out) | (with_reducible refine Kd.C_alloc ?_ _) | (with_reducible refine Kd.C_drewN ?_ _) | (with_reducible refine Kd.C_drew ?_)))
            (case side3 => exact HC0_4.out)
            (case side4 => repeat (first | exact (Kd.C_below HR1_4.out HB.out) | (with_reducible refine Kd.C_alloc ?_ _) | (with_reducible refine Kd.C_drewN ?_ _) | (with_reducible refine Kd.C_drew ?_)))
            (case side5 => exact HC1_4.out)
            rintro e w128 ⟨rfl, hb⟩
            refine ⟨_, rfl, ?_⟩
            replace HO450 := Az.mk (Kd.V_below (Kd.V_ext HO450.out) hb)
            replace HO460 := Az.mk (Kd.V_below (Kd.V_ext HO460.out) hb)
            replace BK423 := Az.mk (bkB (bk BK423.out) hb)
            replace BK424 := Az.mk (bkB (bk BK424.out) hb)
            replace BK431 := Az.mk (bkB (bk BK431.out) hb)
            replace BK435 := Az.mk (bkB (bk BK435.out) hb)
            replace BK439 := Az.mk (bkB (bk BK439.out) hb)
            replace BK443 := Az.mk (bkB (bk BK443.out) hb)
            replace BK453 := Az.mk (bkB (bk BK453.out) hb)
            replace BK463 := Az.mk (bkB (bk BK463.out) hb)
            replace HB := Az.mk (pbT (by exact pbE HB.out) hb)
            (try clear hb)
            (try clear hb2)
            (try clear hk)
            (try clear hi)
            refine hK.out _ _ ⟨(bkC BK423.out 0).trans rfl, (bkC BK423.out 1).trans rfl, (bkC BK423.out 2).trans rfl, (bkC BK423.out 3).trans rfl, (bkC BK423.out 4).trans rfl, (bkC BK423.out 5).trans rfl, (bkC BK431.out 0).trans rfl, (bkC BK431.out 1).trans rfl, (bkC BK435.out 0).trans rfl, (bkC BK435.out 1).trans rfl, (bkC BK439.out 0).trans rfl, (bkC BK439.out 1).trans rfl, (bkC BK443.out 0).trans rfl, (bkC BK443.out 1).trans rfl, (bkC BK453.out 0).trans rfl, (bkC BK453.out 1).trans rfl, (bkC BK453.out 2).trans rfl, (bkC BK453.out 3).trans rfl, (bkC BK453.out 4).trans rfl, (bkC BK453.out 5).trans rfl, (bkC BK463.out 0).trans rfl, (bkC BK463.out 1).trans rfl, (bkC BK463.out 2).trans rfl, (bkC BK463.out 3).trans rfl, (bkC BK463.out 4).trans rfl, (bkC BK463.out 5).trans rfl, (bkC BK424.out 0).trans rfl, (bkC BK424.out 1).trans rfl, (bkC BK424.out 2).trans rfl, (bkC BK424.out 3).trans rfl, (bkC BK424.out 4).trans rfl, (bkC BK424.out 5).trans rfl⟩ (fun hHeld => ?_)
            clear hK K
            refine norm_ (a' := ?_) ?_ ?_
            rotate_left
            ·show Act.put _ (some 118) _ = _
             simp only [Act.put, List.setIfInBounds_toArray, List.set_cons_zero, List.set_cons_succ, i64_w, i32_w]
             rfl
            refine pure_ (i := 46) (N := some 119) (v := ?_) (a' := ?_) #[true, true, true, true, true, true, true, true, true, true, true, true, true, true, true, true, true, true, true, true, true, true, true, true, true, true, true, true, true, true, true, true, true, true, true, true, true, true, true, true, true, true, true, true, true, true, true, false] rfl rfl (any_of HT_.out (by kernel_rfl)) (fun _ _ _ h => h) (Or.inl ⟨by rfl, ?_⟩) ?_ ?_
            rotate_left
            ·intro w'
             go_simp
             with_reducible rfl
            rotate_left
            ·simp only [Act.put, List.setIfInBounds_toArray, List.set_cons_zero, List.set_cons_succ, i64_w, i32_w]
             rfl
            refine pure_ (i := 47) (N := some 120) (v := ?_) (a' := ?_) #[true, true, true, true, true, true, true, true, true, true, true, true, true, true, true, true, true, true, true, true, true, true, true, true, true, true, true, true, true, true, true, true, true, true, true, true, true, true, true, true, true, true, true, true, true, true, true, true] rfl rfl (any_of HT_.out (by kernel_rfl)) (fun _ _ _ h => h) (Or.inl ⟨by rfl, ?_⟩) ?_ ?_
            rotate_left
            ·intro w'
             go_simp
             with_reducible rfl
            rotate_left
            ·simp only [Act.put, List.setIfInBounds_toArray, List.set_cons_zero, List.set_cons_succ, i64_w, i32_w]
             rfl
            refine done_ (done_of HT_.out (by kernel_rfl)) ?_
            try go_wp2
            go_meet
            case rel => exact ⟨_, ((t469 != t470)), (by first | rfl | (simp; done) | (simp [*]; done)), H', ⟨by have := HJ5.out; first | omega | exact Nat.le_refl _⟩, ⟨by (with_reducible repeat (first | apply Kd.V_alloc | apply Kd.V_drewN | apply Kd.V_drew)); exact HO450.out⟩, ⟨by (with_reducible repeat (first | apply Kd.V_alloc | apply Kd.V_drewN | apply Kd.V_drew)); exact HO460.out⟩, ⟨by refine bk ?_; exact BK423.out⟩, ⟨by refine bk ?_; exact BK424.out⟩, ⟨by refine bk ?_; exact BK431.out⟩, ⟨by refine bk ?_; exact BK435.out⟩, ⟨by refine bk ?_; exact BK439.out⟩, ⟨by refine bk ?_; exact BK443.out⟩, ⟨by refine bk ?_; exact BK453.out⟩, ⟨by refine bk ?_; exact BK463.out⟩, ⟨by exact pbE HB.out⟩⟩
           ·rw [if_neg c119] at H
            have c119b0 : (t468 == t462) = false := beq_eq_false_iff_ne.mpr c119
            have c119b1 : (t468 != t462) = true := bne_iff_ne.mpr c119
            exact (l06_DescChecks.j1_dead hr H).elim
          ·replace c117 := Bool.eq_false_iff.mpr c117
           subst c117
           rw [if_neg (show ¬ (false = true) by decide)] at H
           exact (l06_DescChecks.j1_dead hr H).elim
    case rest =>
     clear HC35
     try clear c1
     try clear p2
     try clear c11
     try clear c12
     try clear c13
     try clear c14
     try clear c15
     try clear c117
     obtain ⟨kq, x120_34, rfl, HA, HJ34, HO_454004, HO_464004, BK423, BK424, BK431, BK435, BK439, BK443, BK453, BK463, HB⟩ := hcut
     cases kq with
     | zero => exact absurd HA.out (by simp [l06_DescChecks.j1])
     | succ kj34 =>
      have H := HA.out
      clear HA
      simp only [l06_DescChecks.j1] at H
      by_cases c139 : x120_34 = true
      ·subst c139
       rw [if_pos rfl] at H
       exact absurd (Option.some.inj (H.trans (congrArg some hr))) (by decide)
      ·replace c139 := Bool.eq_false_iff.mpr c139
       subst c139
       rw [if_neg (show ¬ (false = true) by decide)] at H
       replace H := Option.bind_eq_some_iff.mp H
       obtain ⟨t471, A1400, H⟩ := H
       try dsimp only at H
       have A140 := Az.mk A1400
       clear A1400
       by_cases c141 : t471 = true
       ·subst c141
        rw [if_pos rfl] at H
        replace H := Option.bind_eq_some_iff.mp H
        obtain ⟨t473, A1420, H⟩ := H
        try dsimp only at H
        have A142 := Az.mk A1420
        clear A1420
        replace H := Option.bind_eq_some_iff.mp H
        obtain ⟨⟨t474, t475, t476, t477, t478, t481, t482⟩, A1430, H⟩ := H
        try dsimp only at H
        have A143 := Az.mk A1430
        clear A1430
        replace H := Option.bind_eq_some_iff.mp H
        obtain ⟨t484, A1440, H⟩ := H
        try dsimp only at H
        have A144 := Az.mk A1440
        clear A1440
        replace H := Option.bind_eq_some_iff.mp H
        obtain ⟨t485, A1450, H⟩ := H
        try dsimp only at H
        have A145 := Az.mk A1450
        clear A1450
        by_cases c146 : t484.toList = t485.toList
        ·rw [if_pos c146] at H
         have c146b0 : (t484.toList == t485.toList) = true := beq_iff_eq.mpr c146
         have c146b1 : (t484.toList != t485.toList) = false := bne_eq_false_iff_eq.mpr c146
         clear c146
         replace H := Option.bind_eq_some_iff.mp H
         obtain ⟨t486, A1470, H⟩ := H
         try dsimp only at H
         have A147 := Az.mk A1470
         clear A1470
         by_cases c148 : t486 = 0
         ·rw [if_pos c148] at H
          have c148b0 : (t486 == 0) = true := beq_iff_eq.mpr c148
          have c148b1 : (t486 != 0) = false := bne_eq_false_iff_eq.mpr c148
          clear c148
          replace H := Option.bind_eq_some_iff.mp H
          obtain ⟨t487, A1490, H⟩ := H
          try dsimp only at H
          have A149 := Az.mk A1490
          clear A1490
          by_cases c150 : t487 = true
          ·subst c150
           rw [if_pos rfl] at H
           replace H := Option.bind_eq_some_iff.mp H
           obtain ⟨t488, A1510, H⟩ := H
           replace H : (some t488) = some r := H
           have A151 := Az.mk A1510
           clear A1510
           obtain rfl := Option.some.inj H
           have hnb152 := NB423_424.out
           have hnc152 := NB424_423.out
           have hnb153 := NB423_431.out
           have hnc153 := NB431_423.out
           have hnb154 := NB423_435.out
           have hnc154 := NB435_423.out
           have hnb155 := NB423_439.out
           have hnc155 := NB439_423.out
           have hnb156 := NB423_443.out
           have hnc156 := NB443_423.out
           have hnb157 := NB423_453.out
           have hnc157 := NB453_423.out
           have hnb158 := NB423_463.out
           have hnc158 := NB463_423.out
           have hcz159 := cells6 BK423.out
           try go_wp2_with (first | ((with_reducible refine gtc (f := 14) rfl ?_); refine goesL_ (some 122) rfl rfl Tryz.func14 (by kernel_rfl) rfl #[.agg #[.int .i64 a0_0, .string a0_1, .string a0_2, .int .i64 a0_3, .slice A0_4 l0_4.length c0_4, .int .i64 a0_5]] rfl (by (try simp only [List.map_toArray, List.map_cons, List.map_nil]); first | done | rfl | (simp only [List.length_drop, List.length_take]; rfl)) ?_; (with_reducible refine (r06_Is.calls kj34 a0_0 a0_1 a0_2 a0_3 _ _ l0_4 a0_5 true _ ?side1 ?side2 ?side3 A140.out).mono ?_); (case side1 => exact hG.below (by exact pbE HB.out)); (case side2 => repeat (first | exact (Kd.C_below HR0_4.out HB.out) | (with_reducible refine Kd.C_alloc ?_ _) | (with_reducible refine Kd.C_drewN ?_ _) | (with_reducible refine Kd.C_drew ?_))); (case side3 => exact HC0_4.out); rintro e w160 ⟨rfl, hb⟩; refine ⟨_, rfl, ?_⟩; replace HO_454004 := Az.mk (Kd.V_below (Kd.V_ext HO_454004.out) hb); replace HO_464004 := Az.mk (Kd.V_below (Kd.V_ext HO_464004.out) hb); replace BK423 := Az.mk (bkB (bk BK423.out) hb); replace BK424 := Az.mk (bkB (bk BK424.out) hb); replace BK431 := Az.mk (bkB (bk BK431.out) hb); replace BK435 := Az.mk (bkB (bk BK435.out) hb); replace BK439 := Az.mk (bkB (bk BK439.out) hb); replace BK443 := Az.mk (bkB (bk BK443.out) hb); replace BK453 := Az.mk (bkB (bk BK453.out) hb); replace BK463 := Az.mk (bkB (bk BK463.out) hb); replace HB := Az.mk (pbT (by exact pbE HB.out) hb); (try clear hb); (try clear hb2); (try clear hk); (try clear hi); have hcz161 := cells6 BK423.out) | ((with_reducible refine gtc (f := 17) rfl ?_); refine goesL_ (some 127) rfl rfl Tryz.func17 (by kernel_rfl) rfl #[.agg #[.int .i64 a0_0, .string a0_1, .string a0_2, .int .i64 a0_3, .slice A0_4 l0_4.length c0_4, .int .i64 a0_5]] rfl (by (try simp only [List.map_toArray, List.map_cons, List.map_nil]); first | done | rfl | (simp only [List.length_drop, List.length_take]; rfl)) ?_; (with_reducible refine (desc_Put.calls kj34 a0_0 a0_1 a0_2 a0_3 _ _ l0_4 a0_5 t473 _ ?side1 ?side2 ?side3 A142.out).mono ?_); (case side1 => exact hG.below (by exact pbE HB.out)); (case side2 => repeat (first | exact (Kd.C_below HR0_4.out HB.out) | (with_reducible refine Kd.C_alloc ?_ _) | (with_reducible refine Kd.C_drewN ?_ _) | (with_reducible refine Kd.C_drew ?_))); (case side3 => exact HC0_4.out); rintro e w162 ⟨rfl, hb⟩; refine ⟨_, rfl, ?_⟩; replace HO_454004 := Az.mk (Kd.V_below (Kd.V_ext HO_454004.out) hb); replace HO_464004 := Az.mk (Kd.V_below (Kd.V_ext HO_464004.out) hb); replace BK423 := Az.mk (bkB (bk BK423.out) hb); replace BK424 := Az.mk (bkB (bk BK424.out) hb); replace BK431 := Az.mk (bkB (bk BK431.out) hb); replace BK435 := Az.mk (bkB (bk BK435.out) hb); replace BK439 := Az.mk (bkB (bk BK439.out) hb); replace BK443 := Az.mk (bkB (bk BK443.out) hb); replace BK453 := Az.mk (bkB (bk BK453.out) hb); replace BK463 := Az.mk (bkB (bk BK463.out) hb); replace HB := Az.mk (pbT (by exact pbE HB.out) hb); (try clear hb); (try clear hb2); (try clear hk); (try clear hi)) | ((with_reducible refine gtc (f := 10) rfl ?_); refine goesL_ (some 128) rfl rfl Tryz.func10 (by kernel_rfl) rfl #[.string t473] rfl (by (try simp only [List.map_toArray, List.map_cons, List.map_nil]); first | done | rfl | (simp only [List.length_drop, List.length_take]; rfl)) ?_; (with_reducible refine (desc_Parse.calls kj34 t473 t474 t475 t476 t477 t478 t481 t482 _ ?side1 A143.out).mono ?_); (case side1 => exact hG.below (by exact pbE HB.out)); rintro e w163 ⟨v479, rfl, ho0, hb⟩; refine ⟨_, rfl, ?_⟩; replace HO_454004 := Az.mk (Kd.V_below (Kd.V_ext HO_454004.out) hb); replace HO_464004 := Az.mk (Kd.V_below (Kd.V_ext HO_464004.out) hb); have HO480 := Az.mk (Kd.V_lower (Kd.V_mono (ok' := fun k_ => k_ ≠ gb423 ∧ k_ ≠ gb424 ∧ k_ ≠ gb431 ∧ k_ ≠ gb435 ∧ k_ ≠ gb439 ∧ k_ ≠ gb443 ∧ k_ ≠ gb453 ∧ k_ ≠ gb463) ho0 (fun k_ hk_ => ⟨(Kd.freshB (bk BK423.out) k_ hk_), (Kd.freshB (bk BK424.out) k_ hk_), (Kd.freshB (bk BK431.out) k_ hk_), (Kd.freshB (bk BK435.out) k_ hk_), (Kd.freshB (bk BK439.out) k_ hk_), (Kd.freshB (bk BK443.out) k_ hk_), (Kd.freshB (bk BK453.out) k_ hk_), (Kd.freshB (bk BK463.out) k_ hk_)⟩)) (pbZ (by exact pbE HB.out))); replace BK423 := Az.mk (bkB (bk BK423.out) hb); replace BK424 := Az.mk (bkB (bk BK424.out) hb); replace BK431 := Az.mk (bkB (bk BK431.out) hb); replace BK435 := Az.mk (bkB (bk BK435.out) hb); replace BK439 := Az.mk (bkB (bk BK439.out) hb); replace BK443 := Az.mk (bkB (bk BK443.out) hb); replace BK453 := Az.mk (bkB (bk BK453.out) hb); replace BK463 := Az.mk (bkB (bk BK463.out) hb); replace HB := Az.mk (pbT (by exact pbE HB.out) hb); (try clear hb); (try clear hb2); (try clear hk); (try clear hi); (try clear ho0)) | ((with_reducible refine gate_dst (N := 23) rfl ?_); (try (refine gate_guard (by rfl) ?_; dsimp only)); refine box_event ?hg (N := 23) ?hd (cs := #[.int .i64 0, .string (⟨#[]⟩ : ByteArray), .string (⟨#[]⟩ : ByteArray), .int .i64 0, .slice none 0 0, .int .i64 0]) (t := 26) ?hr ?_; (case hd => rfl); (case hg => rfl); (case hr => first | (go_simp; done) | (go_simp; rfl)); intro gb483 hg w164 hbox hb; replace HO_454004 := Az.mk (Kd.V_below (Kd.V_elderB (Kd.V_ext HO_454004.out) gb483 (Nat.le_of_eq hg.symm)) hb); replace HO_464004 := Az.mk (Kd.V_below (Kd.V_elderB (Kd.V_ext HO_464004.out) gb483 (Nat.le_of_eq hg.symm)) hb); replace HO480 := Az.mk (Kd.V_below (Kd.V_elderB (Kd.V_ext HO480.out) gb483 (Nat.le_of_eq hg.symm)) hb); have BK483 := Az.mk (hbox); have GW483 := Az.mk (geO hg (pbE HB.out)); have GE483 := Az.mk (geO hg (pbE HB.out)); replace HB := Az.mk (pbT (by exact pbE HB.out) hb); have NB423_483 := Az.mk (neO hg (bk BK423.out)); have NB483_423 := Az.mk (neP hg (bk BK423.out)); replace BK423 := Az.mk (bkB (bk BK423.out) hb); have NB424_483 := Az.mk (neO hg (bk BK424.out)); have NB483_424 := Az.mk (neP hg (bk BK424.out)); replace BK424 := Az.mk (bkB (bk BK424.out) hb); have NB431_483 := Az.mk (neO hg (bk BK431.out)); have NB483_431 := Az.mk (neP hg (bk BK431.out)); replace BK431 := Az.mk (bkB (bk BK431.out) hb); have NB435_483 := Az.mk (neO hg (bk BK435.out)); have NB483_435 := Az.mk (neP hg (bk BK435.out)); replace BK435 := Az.mk (bkB (bk BK435.out) hb); have NB439_483 := Az.mk (neO hg (bk BK439.out)); have NB483_439 := Az.mk (neP hg (bk BK439.out)); replace BK439 := Az.mk (bkB (bk BK439.out) hb); have NB443_483 := Az.mk (neO hg (bk BK443.out)); have NB483_443 := Az.mk (neP hg (bk BK443.out)); replace BK443 := Az.mk (bkB (bk BK443.out) hb); have NB453_483 := Az.mk (neO hg (bk BK453.out)); have NB483_453 := Az.mk (neP hg (bk BK453.out)); replace BK453 := Az.mk (bkB (bk BK453.out) hb); have NB463_483 := Az.mk (neO hg (bk BK463.out)); have NB483_463 := Az.mk (neP hg (bk BK463.out)); replace BK463 := Az.mk (bkB (bk BK463.out) hb); clear hb hbox hg; have hnb165 := NB483_423.out; have hnc165 := NB423_483.out; have hnb166 := NB483_424.out; have hnc166 := NB424_483.out; have hnb167 := NB483_431.out; have hnc167 := NB431_483.out; have hnb168 := NB483_435.out; have hnc168 := NB435_483.out; have hnb169 := NB483_439.out; have hnc169 := NB439_483.out; have hnb170 := NB483_443.out; have hnc170 := NB443_483.out; have hnb171 := NB483_453.out; have hnc171 := NB453_483.out; have hnb172 := NB483_463.out; have hnc172 := NB463_483.out; have hcz173 := cells6 BK483.out; obtain ⟨Ao174, co174, eo174⟩ := Kd.V_slice HO480.out; subst eo174))
           have n0_ : Az (Kd.V k30 30 ((((((w164.setCell ⟨gb483, 0, none⟩ (.int .i64 t474)).setCell ⟨gb483, 1, none⟩ (.string t475)).setCell ⟨gb483, 2, none⟩ (.string t476)).setCell ⟨gb483, 3, none⟩ (.int .i64 t477)).setCell ⟨gb483, 4, none⟩ (.slice Ao174 t478.length co174)).setCell ⟨gb483, 5, none⟩ (.int .i64 t481)) w.heap.size (fun k_ => k_ ≠ gb423 ∧ k_ ≠ gb424 ∧ k_ ≠ gb431 ∧ k_ ≠ gb435 ∧ k_ ≠ gb439 ∧ k_ ≠ gb443 ∧ k_ ≠ gb453 ∧ k_ ≠ gb463 ∧ k_ ≠ gb483) (.slice Ao76 t448.length co76) t448) := ⟨by (with_reducible repeat (first | apply Kd.V_alloc | apply Kd.V_drewN | apply Kd.V_drew)); exact Kd.V_mono (Kd.V_off (g := gb483) (fun _ hk => hk.2) (Kd.V_mono HO_454004.out (fun k_ hk => (⟨hk, hk.2⟩ : _ ∧ k_ ≠ gb483)))) (fun _ hk => ⟨hk.1.1.1, ⟨hk.1.1.2.1, ⟨hk.1.1.2.2.1, ⟨hk.1.1.2.2.2.1, ⟨hk.1.1.2.2.2.2.1, ⟨hk.1.1.2.2.2.2.2.1, ⟨hk.1.1.2.2.2.2.2.2.1, ⟨hk.1.1.2.2.2.2.2.2.2, hk.1.2⟩⟩⟩⟩⟩⟩⟩⟩)⟩
           have n1_ : Az (Kd.V k30 30 ((((((w164.setCell ⟨gb483, 0, none⟩ (.int .i64 t474)).setCell ⟨gb483, 1, none⟩ (.string t475)).setCell ⟨gb483, 2, none⟩ (.string t476)).setCell ⟨gb483, 3, none⟩ (.int .i64 t477)).setCell ⟨gb483, 4, none⟩ (.slice Ao174 t478.length co174)).setCell ⟨gb483, 5, none⟩ (.int .i64 t481)) w.heap.size (fun k_ => k_ ≠ gb423 ∧ k_ ≠ gb424 ∧ k_ ≠ gb431 ∧ k_ ≠ gb435 ∧ k_ ≠ gb439 ∧ k_ ≠ gb443 ∧ k_ ≠ gb453 ∧ k_ ≠ gb463 ∧ k_ ≠ gb483) (.slice Ao87 t458.length co87) t458) := ⟨by (with_reducible repeat (first | apply Kd.V_alloc | apply Kd.V_drewN | apply Kd.V_drew)); exact Kd.V_mono (Kd.V_off (g := gb483) (fun _ hk => hk.2) (Kd.V_mono HO_464004.out (fun k_ hk => (⟨hk, hk.2⟩ : _ ∧ k_ ≠ gb483)))) (fun _ hk => ⟨hk.1.1.1, ⟨hk.1.1.2.1, ⟨hk.1.1.2.2.1, ⟨hk.1.1.2.2.2.1, ⟨hk.1.1.2.2.2.2.1, ⟨hk.1.1.2.2.2.2.2.1, ⟨hk.1.1.2.2.2.2.2.2.1, ⟨hk.1.1.2.2.2.2.2.2.2, hk.1.2⟩⟩⟩⟩⟩⟩⟩⟩)⟩
           have n2_ : Az (Kd.V k30 30 ((((((w164.setCell ⟨gb483, 0, none⟩ (.int .i64 t474)).setCell ⟨gb483, 1, none⟩ (.string t475)).setCell ⟨gb483, 2, none⟩ (.string t476)).setCell ⟨gb483, 3, none⟩ (.int .i64 t477)).setCell ⟨gb483, 4, none⟩ (.slice Ao174 t478.length co174)).setCell ⟨gb483, 5, none⟩ (.int .i64 t481)) w.heap.size (fun k_ => k_ ≠ gb423 ∧ k_ ≠ gb424 ∧ k_ ≠ gb431 ∧ k_ ≠ gb435 ∧ k_ ≠ gb439 ∧ k_ ≠ gb443 ∧ k_ ≠ gb453 ∧ k_ ≠ gb463 ∧ k_ ≠ gb483) (.slice Ao174 t478.length co174) t478) := ⟨by (with_reducible repeat (first | apply Kd.V_alloc | apply Kd.V_drewN | apply Kd.V_drew)); exact Kd.V_mono (Kd.V_off (g := gb483) (fun _ hk => hk.2) (Kd.V_mono HO480.out (fun k_ hk => (⟨hk, hk.2⟩ : _ ∧ k_ ≠ gb483)))) (fun _ hk => ⟨hk.1.1.1, ⟨hk.1.1.2.1, ⟨hk.1.1.2.2.1, ⟨hk.1.1.2.2.2.1, ⟨hk.1.1.2.2.2.2.1, ⟨hk.1.1.2.2.2.2.2.1, ⟨hk.1.1.2.2.2.2.2.2.1, ⟨hk.1.1.2.2.2.2.2.2.2, hk.1.2⟩⟩⟩⟩⟩⟩⟩⟩)⟩
           have n3_ : Az (((((((w164.setCell ⟨gb483, 0, none⟩ (.int .i64 t474)).setCell ⟨gb483, 1, none⟩ (.string t475)).setCell ⟨gb483, 2, none⟩ (.string t476)).setCell ⟨gb483, 3, none⟩ (.int .i64 t477)).setCell ⟨gb483, 4, none⟩ (.slice Ao174 t478.length co174)).setCell ⟨gb483, 5, none⟩ (.int .i64 t481)).heap[gb423]? = some (.cells #[.int .i64 a0_0, .string a0_1, .string a0_2, .int .i64 a0_3, .slice A0_4 l0_4.length c0_4, .int .i64 a0_5] 26 (0, 0))) := ⟨by exact bf BK423.out⟩
           have n4_ : Az (((((((w164.setCell ⟨gb483, 0, none⟩ (.int .i64 t474)).setCell ⟨gb483, 1, none⟩ (.string t475)).setCell ⟨gb483, 2, none⟩ (.string t476)).setCell ⟨gb483, 3, none⟩ (.int .i64 t477)).setCell ⟨gb483, 4, none⟩ (.slice Ao174 t478.length co174)).setCell ⟨gb483, 5, none⟩ (.int .i64 t481)).heap[gb424]? = some (.cells #[.int .i64 a1_0, .string a1_1, .string a1_2, .int .i64 a1_3, .slice A1_4 l1_4.length c1_4, .int .i64 a1_5] 26 (0, 0))) := ⟨by exact bf BK424.out⟩
           have n5_ : Az (((((((w164.setCell ⟨gb483, 0, none⟩ (.int .i64 t474)).setCell ⟨gb483, 1, none⟩ (.string t475)).setCell ⟨gb483, 2, none⟩ (.string t476)).setCell ⟨gb483, 3, none⟩ (.int .i64 t477)).setCell ⟨gb483, 4, none⟩ (.slice Ao174 t478.length co174)).setCell ⟨gb483, 5, none⟩ (.int .i64 t481)).heap[gb431]? = some (.cells #[.int .i64 t428, .int .i64 t429] 30 (0, 0))) := ⟨by exact bf BK431.out⟩
           have n6_ : Az (((((((w164.setCell ⟨gb483, 0, none⟩ (.int .i64 t474)).setCell ⟨gb483, 1, none⟩ (.string t475)).setCell ⟨gb483, 2, none⟩ (.string t476)).setCell ⟨gb483, 3, none⟩ (.int .i64 t477)).setCell ⟨gb483, 4, none⟩ (.slice Ao174 t478.length co174)).setCell ⟨gb483, 5, none⟩ (.int .i64 t481)).heap[gb435]? = some (.cells #[.int .i64 t432, .int .i64 t433] 30 (0, 0))) := ⟨by exact bf BK435.out⟩
           have n7_ : Az (((((((w164.setCell ⟨gb483, 0, none⟩ (.int .i64 t474)).setCell ⟨gb483, 1, none⟩ (.string t475)).setCell ⟨gb483, 2, none⟩ (.string t476)).setCell ⟨gb483, 3, none⟩ (.int .i64 t477)).setCell ⟨gb483, 4, none⟩ (.slice Ao174 t478.length co174)).setCell ⟨gb483, 5, none⟩ (.int .i64 t481)).heap[gb439]? = some (.cells #[.int .i64 t436, .int .i64 t437] 30 (0, 0))) := ⟨by exact bf BK439.out⟩
           have n8_ : Az (((((((w164.setCell ⟨gb483, 0, none⟩ (.int .i64 t474)).setCell ⟨gb483, 1, none⟩ (.string t475)).setCell ⟨gb483, 2, none⟩ (.string t476)).setCell ⟨gb483, 3, none⟩ (.int .i64 t477)).setCell ⟨gb483, 4, none⟩ (.slice Ao174 t478.length co174)).setCell ⟨gb483, 5, none⟩ (.int .i64 t481)).heap[gb443]? = some (.cells #[.int .i64 t440, .int .i64 t441] 30 (0, 0))) := ⟨by exact bf BK443.out⟩
           have n9_ : Az (((((((w164.setCell ⟨gb483, 0, none⟩ (.int .i64 t474)).setCell ⟨gb483, 1, none⟩ (.string t475)).setCell ⟨gb483, 2, none⟩ (.string t476)).setCell ⟨gb483, 3, none⟩ (.int .i64 t477)).setCell ⟨gb483, 4, none⟩ (.slice Ao174 t478.length co174)).setCell ⟨gb483, 5, none⟩ (.int .i64 t481)).heap[gb453]? = some (.cells #[.int .i64 t444, .string t445, .string t446, .int .i64 t447, .slice Ao76 t448.length co76, .int .i64 t451] 26 (0, 0))) := ⟨by exact bf BK453.out⟩
           have n10_ : Az (((((((w164.setCell ⟨gb483, 0, none⟩ (.int .i64 t474)).setCell ⟨gb483, 1, none⟩ (.string t475)).setCell ⟨gb483, 2, none⟩ (.string t476)).setCell ⟨gb483, 3, none⟩ (.int .i64 t477)).setCell ⟨gb483, 4, none⟩ (.slice Ao174 t478.length co174)).setCell ⟨gb483, 5, none⟩ (.int .i64 t481)).heap[gb463]? = some (.cells #[.int .i64 t454, .string t455, .string t456, .int .i64 t457, .slice Ao87 t458.length co87, .int .i64 t461] 26 (0, 0))) := ⟨by exact bf BK463.out⟩
           have n11_ : Az (((((((w164.setCell ⟨gb483, 0, none⟩ (.int .i64 t474)).setCell ⟨gb483, 1, none⟩ (.string t475)).setCell ⟨gb483, 2, none⟩ (.string t476)).setCell ⟨gb483, 3, none⟩ (.int .i64 t477)).setCell ⟨gb483, 4, none⟩ (.slice Ao174 t478.length co174)).setCell ⟨gb483, 5, none⟩ (.int .i64 t481)).heap[gb483]? = some (.cells #[.int .i64 t474, .string t475, .string t476, .int .i64 t477, .slice Ao174 t478.length co174, .int .i64 t481] 26 (0, 0))) := ⟨by refine bk ?_; refine blk_put (cs := #[.int .i64 t474, .string t475, .string t476, .int .i64 t477, .slice Ao174 t478.length co174, .int .i64 0]) ?_ 5 _ rfl; refine bk ?_; refine blk_put (cs := #[.int .i64 t474, .string t475, .string t476, .int .i64 t477, .slice none 0 0, .int .i64 0]) ?_ 4 _ rfl; refine bk ?_; refine blk_put (cs := #[.int .i64 t474, .string t475, .string t476, .int .i64 0, .slice none 0 0, .int .i64 0]) ?_ 3 _ rfl; refine bk ?_; refine blk_put (cs := #[.int .i64 t474, .string t475, .string (⟨#[]⟩ : ByteArray), .int .i64 0, .slice none 0 0, .int .i64 0]) ?_ 2 _ rfl; refine bk ?_; refine blk_put (cs := #[.int .i64 t474, .string (⟨#[]⟩ : ByteArray), .string (⟨#[]⟩ : ByteArray), .int .i64 0, .slice none 0 0, .int .i64 0]) ?_ 1 _ rfl; refine bk ?_; refine blk_put (cs := #[.int .i64 0, .string (⟨#[]⟩ : ByteArray), .string (⟨#[]⟩ : ByteArray), .int .i64 0, .slice none 0 0, .int .i64 0]) ?_ 0 _ rfl; refine bk ?_; exact BK483.out⟩
           have n12_ : Az (Below w.heap.size w ((((((w164.setCell ⟨gb483, 0, none⟩ (.int .i64 t474)).setCell ⟨gb483, 1, none⟩ (.string t475)).setCell ⟨gb483, 2, none⟩ (.string t476)).setCell ⟨gb483, 3, none⟩ (.int .i64 t477)).setCell ⟨gb483, 4, none⟩ (.slice Ao174 t478.length co174)).setCell ⟨gb483, 5, none⟩ (.int .i64 t481))) := ⟨by exact pbE HB.out⟩
           (try clear HO_454004)
           (try clear HO_464004)
           (try clear HO480)
           (try clear BK423)
           (try clear BK424)
           (try clear BK431)
           (try clear BK435)
           (try clear BK439)
           (try clear BK443)
           (try clear BK453)
           (try clear BK463)
           (try clear BK483)
           (try clear HB)
           generalize ((((((w164.setCell ⟨gb483, 0, none⟩ (.int .i64 t474)).setCell ⟨gb483, 1, none⟩ (.string t475)).setCell ⟨gb483, 2, none⟩ (.string t476)).setCell ⟨gb483, 3, none⟩ (.int .i64 t477)).setCell ⟨gb483, 4, none⟩ (.slice Ao174 t478.length co174)).setCell ⟨gb483, 5, none⟩ (.int .i64 t481)) = w175 at n0_ n1_ n2_ n3_ n4_ n5_ n6_ n7_ n8_ n9_ n10_ n11_ n12_ ⊢
           have HO_454004 := n0_
           have HO_464004 := n1_
           have HO480 := n2_
           have BK423 := n3_
           have BK424 := n4_
           have BK431 := n5_
           have BK435 := n6_
           have BK439 := n7_
           have BK443 := n8_
           have BK453 := n9_
           have BK463 := n10_
           have BK483 := n11_
           have HB := n12_
           clear n0_ n1_ n2_ n3_ n4_ n5_ n6_ n7_ n8_ n9_ n10_ n11_ n12_
           replace HO_454004 := Az.mk (Kd.V_drew HO_454004.out)
           replace HO_464004 := Az.mk (Kd.V_drew HO_464004.out)
           replace HO480 := Az.mk (Kd.V_drew HO480.out)
           replace BK423 := Az.mk (bkD BK423.out)
           replace BK424 := Az.mk (bkD BK424.out)
           replace BK431 := Az.mk (bkD BK431.out)
           replace BK435 := Az.mk (bkD BK435.out)
           replace BK439 := Az.mk (bkD BK439.out)
           replace BK443 := Az.mk (bkD BK443.out)
           replace BK453 := Az.mk (bkD BK453.out)
           replace BK463 := Az.mk (bkD BK463.out)
           replace BK483 := Az.mk (bkD BK483.out)
           replace HB := Az.mk (pb1 HB.out)
           refine start_ (n := 19) (S := fun w' => w'.cell? ⟨gb423, 0, none⟩ = some (.int .i64 a0_0) ∧ w'.cell? ⟨gb423, 1, none⟩ = some (.string a0_1) ∧ w'.cell? ⟨gb423, 2, none⟩ = some (.string a0_2) ∧ w'.cell? ⟨gb423, 3, none⟩ = some (.int .i64 a0_3) ∧ w'.cell? ⟨gb423, 4, none⟩ = some (.slice A0_4 l0_4.length c0_4) ∧ w'.cell? ⟨gb423, 5, none⟩ = some (.int .i64 a0_5) ∧ w'.cell? ⟨gb483, 0, none⟩ = some (.int .i64 t474) ∧ w'.cell? ⟨gb483, 1, none⟩ = some (.string t475) ∧ w'.cell? ⟨gb483, 2, none⟩ = some (.string t476) ∧ w'.cell? ⟨gb483, 3, none⟩ = some (.int .i64 t477) ∧ w'.cell? ⟨gb483, 4, none⟩ = some (.slice Ao174 t478.length co174) ∧ w'.cell? ⟨gb483, 5, none⟩ = some (.int .i64 t481)) (ds := []) #[false, false, false, false, false, false, false, false, false, false, false, false, false, false, false, false, false, false, false] (by kernel_rfl) rfl rfl ⟨(bkC BK423.out 0).trans rfl, (bkC BK423.out 1).trans rfl, (bkC BK423.out 2).trans rfl, (bkC BK423.out 3).trans rfl, (bkC BK423.out 4).trans rfl, (bkC BK423.out 5).trans rfl, (bkC BK483.out 0).trans rfl, (bkC BK483.out 1).trans rfl, (bkC BK483.out 2).trans rfl, (bkC BK483.out 3).trans rfl, (bkC BK483.out 4).trans rfl, (bkC BK483.out 5).trans rfl⟩ (fun hHeld => ?_); refine with_tabW l06_DescChecks.tab14 l06_DescChecks.bits14 (fun HT_ HW_ => ?_)
           generalize w175.drew = w176 at HO_454004 HO_464004 HO480 BK423 BK424 BK431 BK435 BK439 BK443 BK453 BK463 BK483 HB hHeld ⊢
           refine take_ (i := 0) (N := some 131) (v := ?_) (a' := ?_) #[true, false, false, false, false, false, false, false, false, false, false, false, false, false, false, false, false, false, false] rfl rfl (take_ofW HT_.out HW_.out (by kernel_rfl)) (fun _ _ _ h => h) (Or.inl ⟨by rfl, ?_⟩) hHeld ?_ ?_
           rotate_left
           ·rintro w' ⟨s0, s1, s2, s3, s4, s5, s6, s7, s8, s9, s10, s11⟩
            go_simp
            with_reducible rfl
           rotate_left
           ·simp only [Act.put, List.setIfInBounds_toArray, List.set_cons_zero, List.set_cons_succ, i64_w, i32_w]
            rfl
           refine take_ (i := 2) (N := some 133) (v := ?_) (a' := ?_) #[true, false, true, false, false, false, false, false, false, false, false, false, false, false, false, false, false, false, false] rfl rfl (take_ofW HT_.out HW_.out (by kernel_rfl)) (fun _ _ _ h => h) (Or.inl ⟨by rfl, ?_⟩) hHeld ?_ ?_
           rotate_left
           ·rintro w' ⟨s0, s1, s2, s3, s4, s5, s6, s7, s8, s9, s10, s11⟩
            go_simp
            with_reducible rfl
           rotate_left
           ·simp only [Act.put, List.setIfInBounds_toArray, List.set_cons_zero, List.set_cons_succ, i64_w, i32_w]
            rfl
           refine one_ (i := 1) (N := some 132) #[true, true, true, false, false, false, false, false, false, false, false, false, false, false, false, false, false, false, false] rfl rfl (one_of HT_.out (by kernel_rfl)) (by decide) (fun K hK => ?_)
           refine goes_ Tryz.func17 (by kernel_rfl) rfl #[.agg #[.int .i64 a0_0, .string a0_1, .string a0_2, .int .i64 a0_3, .slice A0_4 l0_4.length c0_4, .int .i64 a0_5]] (by rfl) rfl rfl (by (try simp only [List.map_toArray, List.map_cons, List.map_nil]); first | done | rfl | (simp only [List.length_drop, List.length_take]; rfl)) ?_
           with_reducible refine (desc_Put.calls kj34 a0_0 a0_1 a0_2 a0_3 _ _ l0_4 a0_5 t484 _ ?side1 ?side2 ?side3 A144.out).mono ?_
           (case side1 => exact hG.below (by exact pbE HB.out))
           (case side2 => repeat (first | exact (Kd.C_below HR0_4.out HB.out) | (with_reducible refine Kd.C_alloc ?_ _) | (with_reducible refine Kd.C_drewN ?_ _) | (with_reducible refine Kd.C_drew ?_)))
           (case side3 => exact HC0_4.out)
           rintro e w177 ⟨rfl, hb⟩
           refine ⟨_, rfl, ?_⟩
           replace HO_454004 := Az.mk (Kd.V_below (Kd.V_ext HO_454004.out) hb)
           replace HO_464004 := Az.mk (Kd.V_below (Kd.V_ext HO_464004.out) hb)
           replace HO480 := Az.mk (Kd.V_below (Kd.V_ext HO480.out) hb)
           replace BK423 := Az.mk (bkB (bk BK423.out) hb)
           replace BK424 := Az.mk (bkB (bk BK424.out) hb)
           replace BK431 := Az.mk (bkB (bk BK431.out) hb)
           replace BK435 := Az.mk (bkB (bk BK435.out) hb)
           replace BK439 := Az.mk (bkB (bk BK439.out) hb)
           replace BK443 := Az.mk (bkB (bk BK443.out) hb)
           replace BK453 := Az.mk (bkB (bk BK453.out) hb)
           replace BK463 := Az.mk (bkB (bk BK463.out) hb)
           replace BK483 := Az.mk (bkB (bk BK483.out) hb)
           replace HB := Az.mk (pbT (by exact pbE HB.out) hb)
           (try clear hb)
           (try clear hb2)
           (try clear hk)
           (try clear hi)
           refine hK.out _ _ ⟨(bkC BK423.out 0).trans rfl, (bkC BK423.out 1).trans rfl, (bkC BK423.out 2).trans rfl, (bkC BK423.out 3).trans rfl, (bkC BK423.out 4).trans rfl, (bkC BK423.out 5).trans rfl, (bkC BK483.out 0).trans rfl, (bkC BK483.out 1).trans rfl, (bkC BK483.out 2).trans rfl, (bkC BK483.out 3).trans rfl, (bkC BK483.out 4).trans rfl, (bkC BK483.out 5).trans rfl⟩ (fun hHeld => ?_)
           clear hK K
           refine norm_ (a' := ?_) ?_ ?_
           rotate_left
           ·show Act.put _ (some 132) _ = _
            simp only [Act.put, List.setIfInBounds_toArray, List.set_cons_zero, List.set_cons_succ, i64_w, i32_w]
            rfl
           refine one_ (i := 3) (N := some 134) #[true, true, true, true, false, false, false, false, false, false, false, false, false, false, false, false, false, false, false] rfl rfl (one_of HT_.out (by kernel_rfl)) (by decide) (fun K hK => ?_)
           refine goes_ Tryz.func18 (by kernel_rfl) rfl #[.agg #[.int .i64 a0_0, .string a0_1, .string a0_2, .int .i64 a0_3, .slice A0_4 l0_4.length c0_4, .int .i64 a0_5]] (by rfl) rfl rfl (by (try simp only [List.map_toArray, List.map_cons, List.map_nil]); first | done | rfl | (simp only [List.length_drop, List.length_take]; rfl)) ?_
           with_reducible refine (r06_Put.calls kj34 a0_0 a0_1 a0_2 a0_3 _ _ l0_4 a0_5 t485 _ ?side1 ?side2 ?side3 A145.out).mono ?_
           (case side1 => exact hG.below (by exact pbE HB.out))
           (case side2 => repeat (first | exact (Kd.C_below HR0_4.out HB.out) | (with_reducible refine Kd.C_alloc ?_ _) | (with_reducible refine Kd.C_drewN ?_ _) | (with_reducible refine Kd.C_drew ?_)))
           (case side3 => exact HC0_4.out)
           rintro e w178 ⟨rfl, hb⟩
           refine ⟨_, rfl, ?_⟩
           replace HO_454004 := Az.mk (Kd.V_below (Kd.V_ext HO_454004.out) hb)
           replace HO_464004 := Az.mk (Kd.V_below (Kd.V_ext HO_464004.out) hb)
           replace HO480 := Az.mk (Kd.V_below (Kd.V_ext HO480.out) hb)
           replace BK423 := Az.mk (bkB (bk BK423.out) hb)
           replace BK424 := Az.mk (bkB (bk BK424.out) hb)
           replace BK431 := Az.mk (bkB (bk BK431.out) hb)
           replace BK435 := Az.mk (bkB (bk BK435.out) hb)
           replace BK439 := Az.mk (bkB (bk BK439.out) hb)
           replace BK443 := Az.mk (bkB (bk BK443.out) hb)
           replace BK453 := Az.mk (bkB (bk BK453.out) hb)
           replace BK463 := Az.mk (bkB (bk BK463.out) hb)
           replace BK483 := Az.mk (bkB (bk BK483.out) hb)
           replace HB := Az.mk (pbT (by exact pbE HB.out) hb)
           (try clear hb)
           (try clear hb2)
           (try clear hk)
           (try clear hi)
           refine hK.out _ _ ⟨(bkC BK423.out 0).trans rfl, (bkC BK423.out 1).trans rfl, (bkC BK423.out 2).trans rfl, (bkC BK423.out 3).trans rfl, (bkC BK423.out 4).trans rfl, (bkC BK423.out 5).trans rfl, (bkC BK483.out 0).trans rfl, (bkC BK483.out 1).trans rfl, (bkC BK483.out 2).trans rfl, (bkC BK483.out 3).trans rfl, (bkC BK483.out 4).trans rfl, (bkC BK483.out 5).trans rfl⟩ (fun hHeld => ?_)
           clear hK K
           refine norm_ (a' := ?_) ?_ ?_
           rotate_left
           ·show Act.put _ (some 134) _ = _
            simp only [Act.put, List.setIfInBounds_toArray, List.set_cons_zero, List.set_cons_succ, i64_w, i32_w]
            rfl
           refine pure_ (i := 4) (N := some 135) (v := ?_) (a' := ?_) #[true, true, true, true, true, false, false, false, false, false, false, false, false, false, false, false, false, false, false] rfl rfl (any_of HT_.out (by kernel_rfl)) (fun _ _ _ h => h) (Or.inl ⟨by rfl, ?_⟩) ?_ ?_
           rotate_left
           ·intro w'
            go_simp
            with_reducible rfl
           rotate_left
           ·simp only [Act.put, List.setIfInBounds_toArray, List.set_cons_zero, List.set_cons_succ, i64_w, i32_w]
            rfl
           refine pure_ (i := 5) (N := some 136) (v := ?_) (a' := ?_) #[true, true, true, true, true, true, false, false, false, false, false, false, false, false, false, false, false, false, false] rfl rfl (any_of HT_.out (by kernel_rfl)) (fun _ _ _ h => h) (Or.inl ⟨by rfl, ?_⟩) ?_ ?_
           rotate_left
           ·intro w'
            go_simp
            with_reducible rfl
           rotate_left
           ·simp only [Act.put, List.setIfInBounds_toArray, List.set_cons_zero, List.set_cons_succ, i64_w, i32_w]
            rfl
           refine pure_ (i := 6) (N := some 137) (v := ?_) (a' := ?_) #[true, true, true, true, true, true, true, false, false, false, false, false, false, false, false, false, false, false, false] rfl rfl (any_of HT_.out (by kernel_rfl)) (fun _ _ _ h => h) (Or.inl ⟨by rfl, ?_⟩) ?_ ?_
           rotate_left
           ·intro w'
            go_simp
            with_reducible rfl
           rotate_left
           ·simp only [Act.put, List.setIfInBounds_toArray, List.set_cons_zero, List.set_cons_succ, i64_w, i32_w]
            rfl
           refine one_ (i := 7) (N := some 138) #[true, true, true, true, true, true, true, true, false, false, false, false, false, false, false, false, false, false, false] rfl rfl (one_of HT_.out (by kernel_rfl)) (by decide) (fun K hK => ?_)
           refine goes_ Tryz.func12 (by kernel_rfl) rfl #[.int .i64 t482] (by rfl) rfl rfl (by (try simp only [List.map_toArray, List.map_cons, List.map_nil]); first | done | rfl | (simp only [List.length_drop, List.length_take]; rfl)) ?_
           with_reducible refine (l06_num.calls t482 t486 _ ?side1 A147.out).mono ?_
           (case side1 => exact hG.below (by exact pbE HB.out))
           rintro e w' ⟨rfl, ⟨nd, rfl⟩⟩
           refine ⟨_, rfl, ?_⟩
           refine hK.out _ _ ⟨(bkC BK423.out 0).trans rfl, (bkC BK423.out 1).trans rfl, (bkC BK423.out 2).trans rfl, (bkC BK423.out 3).trans rfl, (bkC BK423.out 4).trans rfl, (bkC BK423.out 5).trans rfl, (bkC BK483.out 0).trans rfl, (bkC BK483.out 1).trans rfl, (bkC BK483.out 2).trans rfl, (bkC BK483.out 3).trans rfl, (bkC BK483.out 4).trans rfl, (bkC BK483.out 5).trans rfl⟩ (fun hHeld => ?_)
           clear hK K
           refine norm_ (a' := ?_) ?_ ?_
           rotate_left
           ·show Act.put _ (some 138) _ = _
            simp only [Act.put, List.setIfInBounds_toArray, List.set_cons_zero, List.set_cons_succ, i64_w, i32_w]
            rfl
           refine pure_ (i := 8) (N := some 139) (v := ?_) (a' := ?_) #[true, true, true, true, true, true, true, true, true, false, false, false, false, false, false, false, false, false, false] rfl rfl (any_of HT_.out (by kernel_rfl)) (fun _ _ _ h => h) (Or.inl ⟨by rfl, ?_⟩) ?_ ?_
           rotate_left
           ·intro w'
            go_simp
            with_reducible rfl
           rotate_left
           ·simp only [Act.put, List.setIfInBounds_toArray, List.set_cons_zero, List.set_cons_succ, i64_w, i32_w]
            rfl
           refine pure_ (i := 9) (N := some 140) (v := ?_) (a' := ?_) #[true, true, true, true, true, true, true, true, true, true, false, false, false, false, false, false, false, false, false] rfl rfl (any_of HT_.out (by kernel_rfl)) (fun _ _ _ h => h) (Or.inl ⟨by rfl, ?_⟩) ?_ ?_
           rotate_left
           ·intro w'
            go_simp
            with_reducible rfl
           rotate_left
           ·simp only [Act.put, List.setIfInBounds_toArray, List.set_cons_zero, List.set_cons_succ, i64_w, i32_w]
            rfl
           refine pure_ (i := 10) (N := some 141) (v := ?_) (a' := ?_) #[true, true, true, true, true, true, true, true, true, true, true, false, false, false, false, false, false, false, false] rfl rfl (any_of HT_.out (by kernel_rfl)) (fun _ _ _ h => h) (Or.inl ⟨by rfl, ?_⟩) ?_ ?_
           rotate_left
           ·intro w'
            go_simp
            with_reducible rfl
           rotate_left
           ·simp only [Act.put, List.setIfInBounds_toArray, List.set_cons_zero, List.set_cons_succ, i64_w, i32_w]
            rfl
           refine take_ (i := 11) (N := some 142) (v := ?_) (a' := ?_) #[true, true, true, true, true, true, true, true, true, true, true, true, false, false, false, false, false, false, false] rfl rfl (take_ofW HT_.out HW_.out (by kernel_rfl)) (fun _ _ _ h => h) (Or.inl ⟨by rfl, ?_⟩) hHeld ?_ ?_
           rotate_left
           ·rintro w' ⟨s0, s1, s2, s3, s4, s5, s6, s7, s8, s9, s10, s11⟩
            go_simp
            with_reducible rfl
           rotate_left
           ·simp only [Act.put, List.setIfInBounds_toArray, List.set_cons_zero, List.set_cons_succ, i64_w, i32_w]
            rfl
           refine take_ (i := 12) (N := some 143) (v := ?_) (a' := ?_) #[true, true, true, true, true, true, true, true, true, true, true, true, true, false, false, false, false, false, false] rfl rfl (take_ofW HT_.out HW_.out (by kernel_rfl)) (fun _ _ _ h => h) (Or.inl ⟨by rfl, ?_⟩) hHeld ?_ ?_
           rotate_left
           ·rintro w' ⟨s0, s1, s2, s3, s4, s5, s6, s7, s8, s9, s10, s11⟩
            go_simp
            with_reducible rfl
           rotate_left
           ·simp only [Act.put, List.setIfInBounds_toArray, List.set_cons_zero, List.set_cons_succ, i64_w, i32_w]
            rfl
           refine one_ (i := 13) (N := some 144) #[true, true, true, true, true, true, true, true, true, true, true, true, true, true, false, false, false, false, false] rfl rfl (one_of HT_.out (by kernel_rfl)) (by decide) (fun K hK => ?_)
           refine goes_ Tryz.func15 (by kernel_rfl) rfl #[.agg #[.int .i64 t474, .string t475, .string t476, .int .i64 t477, .slice Ao174 t478.length co174, .int .i64 t481], .agg #[.int .i64 a0_0, .string a0_1, .string a0_2, .int .i64 a0_3, .slice A0_4 l0_4.length c0_4, .int .i64 a0_5]] (by rfl) rfl rfl (by (try simp only [List.map_toArray, List.map_cons, List.map_nil]); first | done | rfl | (simp only [List.length_drop, List.length_take]; rfl)) ?_
           with_reducible refine (r06_Same.calls kj34 t474 t475 t476 t477 _ _ t478 t481 a0_0 a0_1 a0_2 a0_3 _ _ l0_4 a0_5 true _ ?side1 ?side2 ?side3 ?side4 ?side5 A149.out).mono ?_
           (case side1 => exact hG.below (by exact pbE HB.out))
           (case side2 => repeat (first | exact (Kd.V_reads' HO480.out).2.2 | (with_reducible refine Kd.C_alloc ?_ _) | (with_reducible refine Kd.C_drewN ?_ _) | (with_reducible refine Kd.C_drew ?_)))
           (case side3 => exact (Kd.V_reads' HO480.out).2.1)
           (case side4 => repeat (first | exact (Kd.C_below HR0_4.out (by exact pbE HB.out)) | (with_reducible refine Kd.C_alloc ?_ _) | (with_reducible refine Kd.C_drewN ?_ _) | (with_reducible refine Kd.C_drew ?_)))
           (case side5 => exact HC0_4.out)
           rintro e w179 ⟨rfl, hb⟩
           refine ⟨_, rfl, ?_⟩
           replace HO_454004 := Az.mk (Kd.V_below (Kd.V_ext HO_454004.out) hb)
           replace HO_464004 := Az.mk (Kd.V_below (Kd.V_ext HO_464004.out) hb)
           replace HO480 := Az.mk (Kd.V_below (Kd.V_ext HO480.out) hb)
           replace BK423 := Az.mk (bkB (bk BK423.out) hb)
           replace BK424 := Az.mk (bkB (bk BK424.out) hb)
           replace BK431 := Az.mk (bkB (bk BK431.out) hb)
           replace BK435 := Az.mk (bkB (bk BK435.out) hb)
           replace BK439 := Az.mk (bkB (bk BK439.out) hb)
           replace BK443 := Az.mk (bkB (bk BK443.out) hb)
           replace BK453 := Az.mk (bkB (bk BK453.out) hb)
           replace BK463 := Az.mk (bkB (bk BK463.out) hb)
           replace BK483 := Az.mk (bkB (bk BK483.out) hb)
           replace HB := Az.mk (pbT (by exact pbE HB.out) hb)
           (try clear hb)
           (try clear hb2)
           (try clear hk)
           (try clear hi)
           refine hK.out _ _ ⟨(bkC BK423.out 0).trans rfl, (bkC BK423.out 1).trans rfl, (bkC BK423.out 2).trans rfl, (bkC BK423.out 3).trans rfl, (bkC BK423.out 4).trans rfl, (bkC BK423.out 5).trans rfl, (bkC BK483.out 0).trans rfl, (bkC BK483.out 1).trans rfl, (bkC BK483.out 2).trans rfl, (bkC BK483.out 3).trans rfl, (bkC BK483.out 4).trans rfl, (bkC BK483.out 5).trans rfl⟩ (fun hHeld => ?_)
           clear hK K
           refine norm_ (a' := ?_) ?_ ?_
           rotate_left
           ·show Act.put _ (some 144) _ = _
            simp only [Act.put, List.setIfInBounds_toArray, List.set_cons_zero, List.set_cons_succ, i64_w, i32_w]
            rfl
           refine pure_ (i := 14) (N := some 145) (v := ?_) (a' := ?_) #[true, true, true, true, true, true, true, true, true, true, true, true, true, true, true, false, false, false, false] rfl rfl (any_of HT_.out (by kernel_rfl)) (fun _ _ _ h => h) (Or.inl ⟨by rfl, ?_⟩) ?_ ?_
           rotate_left
           ·intro w'
            go_simp
            with_reducible rfl
           rotate_left
           ·simp only [Act.put, List.setIfInBounds_toArray, List.set_cons_zero, List.set_cons_succ, i64_w, i32_w]
            rfl
           refine pure_ (i := 15) (N := some 146) (v := ?_) (a' := ?_) #[true, true, true, true, true, true, true, true, true, true, true, true, true, true, true, true, false, false, false] rfl rfl (any_of HT_.out (by kernel_rfl)) (fun _ _ _ h => h) (Or.inl ⟨by rfl, ?_⟩) ?_ ?_
           rotate_left
           ·intro w'
            go_simp
            with_reducible rfl
           rotate_left
           ·simp only [Act.put, List.setIfInBounds_toArray, List.set_cons_zero, List.set_cons_succ, i64_w, i32_w]
            rfl
           refine one_ (i := 16) (N := some 147) #[true, true, true, true, true, true, true, true, true, true, true, true, true, true, true, true, true, false, false] rfl rfl (one_of HT_.out (by kernel_rfl)) (by decide) (fun K hK => ?_)
           refine goes_ Tryz.func5 (by kernel_rfl) rfl #[] (by rfl) rfl rfl (by (try simp only [List.map_toArray, List.map_cons, List.map_nil]); first | done | rfl | (simp only [List.length_drop, List.length_take]; rfl)) ?_
           with_reducible refine (l06_live.calls  t488 _ ?side1 A151.out).mono ?_
           (case side1 => exact hG.below (by exact pbE HB.out))
           rintro e w180 ⟨rfl, hb⟩
           refine ⟨_, rfl, ?_⟩
           replace HO_454004 := Az.mk (Kd.V_below (Kd.V_ext HO_454004.out) hb)
           replace HO_464004 := Az.mk (Kd.V_below (Kd.V_ext HO_464004.out) hb)
           replace HO480 := Az.mk (Kd.V_below (Kd.V_ext HO480.out) hb)
           replace BK423 := Az.mk (bkB (bk BK423.out) hb)
           replace BK424 := Az.mk (bkB (bk BK424.out) hb)
           replace BK431 := Az.mk (bkB (bk BK431.out) hb)
           replace BK435 := Az.mk (bkB (bk BK435.out) hb)
           replace BK439 := Az.mk (bkB (bk BK439.out) hb)
           replace BK443 := Az.mk (bkB (bk BK443.out) hb)
           replace BK453 := Az.mk (bkB (bk BK453.out) hb)
           replace BK463 := Az.mk (bkB (bk BK463.out) hb)
           replace BK483 := Az.mk (bkB (bk BK483.out) hb)
           replace HB := Az.mk (pbT (by exact pbE HB.out) hb)
           (try clear hb)
           (try clear hb2)
           (try clear hk)
           (try clear hi)
           refine hK.out _ _ ⟨(bkC BK423.out 0).trans rfl, (bkC BK423.out 1).trans rfl, (bkC BK423.out 2).trans rfl, (bkC BK423.out 3).trans rfl, (bkC BK423.out 4).trans rfl, (bkC BK423.out 5).trans rfl, (bkC BK483.out 0).trans rfl, (bkC BK483.out 1).trans rfl, (bkC BK483.out 2).trans rfl, (bkC BK483.out 3).trans rfl, (bkC BK483.out 4).trans rfl, (bkC BK483.out 5).trans rfl⟩ (fun hHeld => ?_)
           clear hK K
           refine norm_ (a' := ?_) ?_ ?_
           rotate_left
           ·show Act.put _ (some 147) _ = _
            simp only [Act.put, List.setIfInBounds_toArray, List.set_cons_zero, List.set_cons_succ, i64_w, i32_w]
            rfl
           refine pure_ (i := 17) (N := some 148) (v := ?_) (a' := ?_) #[true, true, true, true, true, true, true, true, true, true, true, true, true, true, true, true, true, true, false] rfl rfl (any_of HT_.out (by kernel_rfl)) (fun _ _ _ h => h) (Or.inl ⟨by rfl, ?_⟩) ?_ ?_
           rotate_left
           ·intro w'
            go_simp
            with_reducible rfl
           rotate_left
           ·simp only [Act.put, List.setIfInBounds_toArray, List.set_cons_zero, List.set_cons_succ, i64_w, i32_w]
            rfl
           refine pure_ (i := 18) (N := some 10) (v := ?_) (a' := ?_) #[true, true, true, true, true, true, true, true, true, true, true, true, true, true, true, true, true, true, true] rfl rfl (any_of HT_.out (by kernel_rfl)) (fun _ _ _ h => h) (Or.inl ⟨by rfl, ?_⟩) ?_ ?_
           rotate_left
           ·intro w'
            go_simp
            with_reducible rfl
           rotate_left
           ·simp only [Act.put, List.setIfInBounds_toArray, List.set_cons_zero, List.set_cons_succ, i64_w, i32_w]
            rfl
           refine done_ (done_of HT_.out (by kernel_rfl)) ?_
           try go_wp2
           go_ret
           exact ⟨by first | rfl | (simp [errW_none, errW_some] <;> rfl) | (simp [*, errW_none, errW_some] <;> rfl), by exact pbE HB.out⟩
          ·replace c150 := Bool.eq_false_iff.mpr c150
           subst c150
           rw [if_neg (show ¬ (false = true) by decide)] at H
           exact absurd (Option.some.inj (H.trans (congrArg some hr))) (by decide)
         ·rw [if_neg c148] at H
          have c148b0 : (t486 == 0) = false := beq_eq_false_iff_ne.mpr c148
          have c148b1 : (t486 != 0) = true := bne_iff_ne.mpr c148
          exact absurd (Option.some.inj (H.trans (congrArg some hr))) (by decide)
        ·rw [if_neg c146] at H
         have c146b0 : (t484.toList == t485.toList) = false := beq_eq_false_iff_ne.mpr c146
         have c146b1 : (t484.toList != t485.toList) = true := bne_iff_ne.mpr c146
         exact absurd (Option.some.inj (H.trans (congrArg some hr))) (by decide)
       ·replace c141 := Bool.eq_false_iff.mpr c141
        subst c141
        rw [if_neg (show ¬ (false = true) by decide)] at H
        replace H := Option.bind_eq_some_iff.mp H
        obtain ⟨t472, A1810, H⟩ := H
        replace H : (some t472) = some r := H
        have A181 := Az.mk A1810
        clear A1810
        obtain rfl := Option.some.inj H
        have hnb182 := NB423_424.out
        have hnc182 := NB424_423.out
        have hnb183 := NB423_431.out
        have hnc183 := NB431_423.out
        have hnb184 := NB423_435.out
        have hnc184 := NB435_423.out
        have hnb185 := NB423_439.out
        have hnc185 := NB439_423.out
        have hnb186 := NB423_443.out
        have hnc186 := NB443_423.out
        have hnb187 := NB423_453.out
        have hnc187 := NB453_423.out
        have hnb188 := NB423_463.out
        have hnc188 := NB463_423.out
        have hcz189 := cells6 BK423.out
        go_wp2_with (first | ((with_reducible refine gtc (f := 14) rfl ?_); refine goesL_ (some 122) rfl rfl Tryz.func14 (by kernel_rfl) rfl #[.agg #[.int .i64 a0_0, .string a0_1, .string a0_2, .int .i64 a0_3, .slice A0_4 l0_4.length c0_4, .int .i64 a0_5]] rfl (by (try simp only [List.map_toArray, List.map_cons, List.map_nil]); first | done | rfl | (simp only [List.length_drop, List.length_take]; rfl)) ?_; (with_reducible refine (r06_Is.calls kj34 a0_0 a0_1 a0_2 a0_3 _ _ l0_4 a0_5 false _ ?side1 ?side2 ?side3 A140.out).mono ?_); (case side1 => exact hG.below (by exact pbE HB.out)); (case side2 => repeat (first | exact (Kd.C_below HR0_4.out HB.out) | (with_reducible refine Kd.C_alloc ?_ _) | (with_reducible refine Kd.C_drewN ?_ _) | (with_reducible refine Kd.C_drew ?_))); (case side3 => exact HC0_4.out); rintro e w190 ⟨rfl, hb⟩; refine ⟨_, rfl, ?_⟩; replace HO_454004 := Az.mk (Kd.V_below (Kd.V_ext HO_454004.out) hb); replace HO_464004 := Az.mk (Kd.V_below (Kd.V_ext HO_464004.out) hb); replace BK423 := Az.mk (bkB (bk BK423.out) hb); replace BK424 := Az.mk (bkB (bk BK424.out) hb); replace BK431 := Az.mk (bkB (bk BK431.out) hb); replace BK435 := Az.mk (bkB (bk BK435.out) hb); replace BK439 := Az.mk (bkB (bk BK439.out) hb); replace BK443 := Az.mk (bkB (bk BK443.out) hb); replace BK453 := Az.mk (bkB (bk BK453.out) hb); replace BK463 := Az.mk (bkB (bk BK463.out) hb); replace HB := Az.mk (pbT (by exact pbE HB.out) hb); (try clear hb); (try clear hb2); (try clear hk); (try clear hi)) | ((with_reducible refine gtc (f := 5) rfl ?_); refine goesL_ (some 124) rfl rfl Tryz.func5 (by kernel_rfl) rfl #[] rfl (by (try simp only [List.map_toArray, List.map_cons, List.map_nil]); first | done | rfl | (simp only [List.length_drop, List.length_take]; rfl)) ?_; (with_reducible refine (l06_live.calls  t472 _ ?side1 A181.out).mono ?_); (case side1 => exact hG.below (by exact pbE HB.out)); rintro e w191 ⟨rfl, hb⟩; refine ⟨_, rfl, ?_⟩; replace HO_454004 := Az.mk (Kd.V_below (Kd.V_ext HO_454004.out) hb); replace HO_464004 := Az.mk (Kd.V_below (Kd.V_ext HO_464004.out) hb); replace BK423 := Az.mk (bkB (bk BK423.out) hb); replace BK424 := Az.mk (bkB (bk BK424.out) hb); replace BK431 := Az.mk (bkB (bk BK431.out) hb); replace BK435 := Az.mk (bkB (bk BK435.out) hb); replace BK439 := Az.mk (bkB (bk BK439.out) hb); replace BK443 := Az.mk (bkB (bk BK443.out) hb); replace BK453 := Az.mk (bkB (bk BK453.out) hb); replace BK463 := Az.mk (bkB (bk BK463.out) hb); replace HB := Az.mk (pbT (by exact pbE HB.out) hb); (try clear hb); (try clear hb2); (try clear hk); (try clear hi)))
        go_ret
        exact ⟨by first | rfl | (simp [errW_none, errW_some] <;> rfl) | (simp [*, errW_none, errW_some] <;> rfl), by exact pbE HB.out⟩
end Go.Proofs.YtjfhcijjjadhbaaGreatDoor.P
end
section
namespace Go.Proofs.YtjfhcijjjadhbaaGreatDoor.U
open Go.RowKit Go.Proofs.YtjfhcijjjadhbaaGreatDoorW.PrintWords Go.Proofs.YtjfhcijjjadhbaaGreatDoorW.PrintLast Go.Proofs.YtjfhcijjjadhbaaGreatDoorW.PrintMore Go.Proofs.YtjfhcijjjadhbaaGreatDoor.P Go.Proofs.YtjfhcijjjadhbaaGreatDoor.K Go.Proofs.YtjfhcijjjadhbaaGreatDoor.A Go.Proofs.YtjfhcijjjadhbaaGreatDoor.V
theorem live_ev : Ev (fun _ => (l06_live.f).bind fun x => some x) true := by
 simp only [l06_live.f, Option.bind_some]
 exact Ev.now _
theorem right_len (id : Int) (fr tu : ByteArray) (gen : Int) (l : List S30) (nx : Int) : (rightR id fr tu gen l nx).2.2.2.2.1.length ≤ 5 := by
 unfold rightR
 split
 ·rename_i h; exact (okD_len h).2
 ·simp [badD]
theorem parse_len (s : ByteArray) : (parseR s).2.2.2.2.1.length ≤ 5 := by
 have hb : badD.2.2.2.2.1.length ≤ 5 := by simp [badD]
 unfold parseR
 split
 ·unfold parseL
  split
  ·split
   ·exact hb
   ·unfold parseN
    split
    ·split
     ·exact hb
     ·exact right_len _ _ _ _ _ _
    ·exact hb
  ·exact hb
 ·exact hb
theorem DescChecks : ∀ (a0_0 : Int), (Lit.int .i64 a0_0).wf = true → ∀ (a0_1 : ByteArray), a0_1.size ≤ reachBytes → ∀ (a0_2 : ByteArray), a0_2.size ≤ reachBytes → ∀ (a0_3 : Int), (Lit.int .i64 a0_3).wf = true → ∀ (l0_4 : List S30), (l0_4.length * 16 ≤ reachBytes ∧ l0_4.length ≤ maxLen ∧ ∀ x ∈ l0_4, ((Lit.int .i64 x.f0).wf = true ∧ (Lit.int .i64 x.f1).wf = true)) → ∀ (a0_5 : Int), (Lit.int .i64 a0_5).wf = true → ∀ (a1_0 : Int), (Lit.int .i64 a1_0).wf = true → ∀ (a1_1 : ByteArray), a1_1.size ≤ reachBytes → ∀ (a1_2 : ByteArray), a1_2.size ≤ reachBytes → ∀ (a1_3 : Int), (Lit.int .i64 a1_3).wf = true → ∀ (l1_4 : List S30), (l1_4.length * 16 ≤ reachBytes ∧ l1_4.length ≤ maxLen ∧ ∀ x ∈ l1_4, ((Lit.int .i64 x.f0).wf = true ∧ (Lit.int .i64 x.f1).wf = true)) → ∀ (a1_5 : Int), (Lit.int .i64 a1_5).wf = true → ∀ (a2 : Int), (Lit.int .i64 a2).wf = true → ∀ (a3 : Int), (Lit.int .i64 a3).wf = true → ∀ (a4 : ByteArray), a4.size ≤ reachBytes → ∃ k, l06_DescChecks.f k a0_0 a0_1 a0_2 a0_3 l0_4 a0_5 a1_0 a1_1 a1_2 a1_3 l1_4 a1_5 a2 a3 a4 = some true := by
 intro id wi fr _ tu _ gen wg l ⟨_, _, hl⟩ nx wn id2 wi2 fr2 _ tu2 _ gen2 wg2 l2 ⟨_, _, hl2⟩ nx2 wn2 node _ mid _ s _
 refine Ev.rounds ?_
 have hi := isI_wf wi
 have hg := isI_wf wg
 have hn := isI_wf wn
 have he : isM l := fun m hm => ⟨isI_wf (hl m hm).1, isI_wf (hl m hm).2⟩
 have hbad : Ev (fun k => l06_DescChecks.j0 k node mid s true id fr tu gen l nx id2 fr2 tu2 gen2 l2 nx2) true := by
  refine Ev.shift ?_
  simp only [l06_DescChecks.j0, if_true]
  exact live_ev
 simp only [l06_DescChecks.f, small_eq, Option.bind_some]
 refine Ev.ite (fun hs => ?_) (fun _ => hbad)
 refine Ev.ite (fun hs2 => ?_) (fun _ => hbad)
 by_cases h2k : (s.size : Int) > 2000
 ·rw [decide_eq_true h2k]; exact hbad
 ·rw [decide_eq_false h2k]
  have ht := put_len hi hg hn he hs
  have hlen := (of_decide_eq_true hs).1
  have hlen2 := (of_decide_eq_true hs2).1
  refine Ev.shift ?_
  simp only [l06_DescChecks.j0, Bool.false_eq_true, if_false]
  rw [on_eq (by omega), has_eq (by omega), check_eq]
  simp only [Option.bind_some]
  refine Ev.bind (ron_ev (by omega)) (Ev.bind (rhas_ev (by omega)) (Ev.bind (parse_ev s) (Ev.bind (rparse_ev s) ?_)))
  simp only [l06_num.f, Option.bind_some]
  refine Ev.bind (is_ev (by omega)) ?_
  have e0 : (((if okD id fr tu gen l nx = true then (0 : Int) else 60) == 0) != okD id fr tu gen l nx) = false := by
   cases okD id fr tu gen l nx <;> rfl
  simp only [e0, beq_self_eq_true, Bool.not_true, Bool.or_self, bne_self_eq_false, Bool.false_eq_true, if_false]
  refine Ev.bind (rself_ev (parseR s) (by have := parse_len s; omega)) ?_
  refine Ev.ite (fun _ => Ev.ite (fun _ => ?_) (fun h => by first | exact (h rfl).elim | exact (h trivial).elim)) (fun h => by first | exact (h rfl).elim | exact (h trivial).elim)
  refine Ev.bind (same_ev (by omega)) (Ev.bind (rsame_ev (by omega)) ?_)
  simp only [bne_self_eq_false]
  refine Ev.shift ?_
  simp only [l06_DescChecks.j1, l06_num.f, Option.bind_some, Bool.false_eq_true, if_false]
  refine Ev.bind (is_ev (by omega)) (Ev.ite (fun hok => ?_) (fun _ => live_ev))
  refine Ev.bind (put_ev (by omega) hi hg hn he (by omega)) (Ev.bind (parse_ev _) (Ev.bind (put_ev (by omega) hi hg hn he (by omega)) (Ev.bind (rput_ev (by omega) hi hg hn he (by omega)) ?_)))
  refine Ev.ite (fun _ => ?_) (fun h => by first | exact (h rfl).elim | exact (h trivial).elim)
  rw [parse_put hi hg hn he (by omega) (by omega)]
  unfold rightR
  rw [if_pos hok]
  refine Ev.ite (fun _ => ?_) (fun h => by first | exact (h rfl).elim | exact (h trivial).elim)
  refine Ev.bind (rself_ev ((id, fr, tu, gen, l, nx, 0) : DR) (by simp only; omega)) ?_
  refine Ev.ite (fun _ => live_ev) (fun h => by first | exact (h rfl).elim | exact (h trivial).elim)
end Go.Proofs.YtjfhcijjjadhbaaGreatDoor.U
end
section
namespace Go.Proofs.YtjfhcijjjadhbaaGreatDoor.descChecks
open Go.ChangeShapes Go.WideShapes Go.ChangeAt Go.RowKit Go.Proofs.YtjfhcijjjadhbaaGreatDoor.K
open Go.ChangeMaps (open_string shut_string)
open Go.RowKit Go.Proofs.YtjfhcijjjadhbaaGreatDoorW.PrintWords Go.Proofs.YtjfhcijjjadhbaaGreatDoorW.PrintLast Go.Proofs.YtjfhcijjjadhbaaGreatDoorW.PrintMore Go.Proofs.YtjfhcijjjadhbaaGreatDoor.P Go.Proofs.YtjfhcijjjadhbaaGreatDoor.K Go.Proofs.YtjfhcijjjadhbaaGreatDoor.A Go.Proofs.YtjfhcijjjadhbaaGreatDoor.V
set_option maxRecDepth 100000 in
theorem opn30 : O.Opn Tryz.prog 30 P.k30 (fun x => ((Lit.int .i64 x.f0).wf = true ∧ (Lit.int .i64 x.f1).wf = true)) := O.Opn.iso (fun y => ⟨y.1, y.2⟩) (fun _ => rfl) (O.Opn.struct Tryz.underlying30 (by kernel_rfl) (O.OpnF.cons rfl (by kernel_rfl) (O.Opn.int Tryz.underlying3) (O.OpnF.one rfl (by kernel_rfl) (O.Opn.int Tryz.underlying2))))
theorem fl30 : K.Flat P.k30 := by
 intro w w' x c h
 obtain rfl := P.k30_open h
 exact P.k30_mk w' x
set_option maxRecDepth 100000 in
theorem contract (H : Type) (enc : TypeId × Value → H) (W : World) (base : Nat) (args : Array Value) (ds gs : List (DataW H)) (before : List MemPlace)
 (hval0 : ∀ (j : Nat) t v, Tryz.f3.params[j]? = some t → args[j]? = some v → Value.okWide Tryz.prog W .any base t v)
 (hW : DataW.Whole enc Tryz.prog Tryz.f3.params.toList Rows.descChecksSpec.vars false W args.toList ds gs before) (hG : TheG W)
 (hsz0 : (DataW.weightsEach Tryz.prog (Tryz.f3.params.toList ++ Rows.descChecksSpec.plain.varTypes Tryz.prog) (ds ++ gs)).all (· ≤ reachBytes) = true) :
 Calls Tryz.prog 3 args W fun e W' => ∃ v, e = .returned v ∧ Rows.descChecksSpec.post enc Tryz.prog Tryz.f3 false true false false W args v W' := by
 have hsz : (DataW.weightsEach Tryz.prog (Tryz.f3.params.toList ++ Rows.descChecksSpec.plain.varTypes Tryz.prog) (ds ++ gs)).all (· ≤ reachBytes) = true := hsz0
 have hval : ∀ (j : Nat) t v, Tryz.f3.params[j]? = some t → args[j]? = some v → Value.okWide Tryz.prog W .any base t v := hval0
 have hW' := hW
 obtain ⟨p, q, hA0, hV, rfl, hfz, hnd⟩ := hW
 have hA : DataW.TrodAll enc Tryz.prog W 0 (fun _ => true) true Tryz.f3.params.toList args.toList ds p := hA0
 rw [Tryz.params3] at hA hval hsz
 obtain ⟨v0, vs0, d0, ds0, p0, q0, hargs, rfl, rfl, h0, r0⟩ := trodAll_cons hA
 obtain ⟨v1, vs1, d1, ds1, p1, q1, rfl, rfl, rfl, h1, r1⟩ := trodAll_cons r0
 obtain ⟨v2, vs2, d2, ds2, p2, q2, rfl, rfl, rfl, h2, r2⟩ := trodAll_cons r1
 obtain ⟨v3, vs3, d3, ds3, p3, q3, rfl, rfl, rfl, h3, r3⟩ := trodAll_cons r2
 obtain ⟨v4, vs4, d4, ds4, p4, q4, rfl, rfl, rfl, h4, r4⟩ := trodAll_cons r3
 obtain ⟨rfl, rfl, rfl⟩ := trodAll_nil r4
 obtain rfl : args = #[v0, v1, v2, v3, v4] := by cases args; simp_all
 obtain ⟨rfl, rfl⟩ := trodVars_none hV
 have k0 := h0
 have lt0 : ∀ x ∈ p0, x.block < W.heap.size := by obtain ⟨m, hm⟩ := k0; exact DataW.trod_lt m _ _ _ hm
 have wt0 : ∀ n ∈ DataW.weights Tryz.prog 26 d0, n ≤ reachBytes := fun n hn => of_decide_eq_true (List.all_eq_true.1 hsz n (DataW.weights_mem_each (j := 0) rfl rfl n hn))
 obtain ⟨cs0, rfl, _⟩ := okWide_struct Tryz.underlying26 (hval 0 26 v0 rfl rfl)
 obtain ⟨fu0, hf0⟩ := h0
 obtain ⟨s0, hK0, hok0⟩ := (O.Opn.struct Tryz.underlying26 (by kernel_rfl) (O.OpnF.cons rfl (by kernel_rfl) (O.Opn.int Tryz.underlying2) (O.OpnF.cons rfl (by kernel_rfl) (O.Opn.struct Tryz.underlying23 (by kernel_rfl) (O.OpnF.cons rfl (by kernel_rfl) (O.Opn.string Tryz.underlying9) (O.OpnF.one rfl (by kernel_rfl) (O.Opn.string Tryz.underlying9)))) (O.OpnF.cons rfl (by kernel_rfl) (O.Opn.int Tryz.underlying2) (O.OpnF.cons rfl (by kernel_rfl) (O.Opn.slice Tryz.underlying24 (by kernel_rfl) (by kernel_rfl) opn30) (O.OpnF.one rfl (by kernel_rfl) (O.Opn.int Tryz.underlying2))))))) H enc W _ _ _ _ _ _ _ hf0 wt0
 obtain ⟨a0_0, ⟨a0_1, a0_2⟩, a0_3, l0_4, a0_5⟩ := s0
 obtain ⟨o0_0, ⟨o0_1, o0_2⟩, o0_3, o0_4, o0_5⟩ := hok0
 obtain ⟨_, _, hcs0, rfl, _, _, rfl, ⟨_, _, rfl, rfl, rfl⟩, _, _, rfl, rfl, _, _, rfl, ⟨A0_4, c0_4, rfl, hc0_4, hr0_4⟩, rfl⟩ := hK0
 obtain rfl : cs0 = #[.int .i64 a0_0, .string a0_1, .string a0_2, .int .i64 a0_3, .slice A0_4 l0_4.length c0_4, .int .i64 a0_5] := Array.toList_inj.1 (show cs0.toList = [.int .i64 a0_0, .string a0_1, .string a0_2, .int .i64 a0_3, .slice A0_4 l0_4.length c0_4, .int .i64 a0_5] from hcs0)
 have k1 := h1
 have lt1 : ∀ x ∈ p1, x.block < W.heap.size := by obtain ⟨m, hm⟩ := k1; exact DataW.trod_lt m _ _ _ hm
 have wt1 : ∀ n ∈ DataW.weights Tryz.prog 26 d1, n ≤ reachBytes := fun n hn => of_decide_eq_true (List.all_eq_true.1 hsz n (DataW.weights_mem_each (j := 1) rfl rfl n hn))
 obtain ⟨cs1, rfl, _⟩ := okWide_struct Tryz.underlying26 (hval 1 26 v1 rfl rfl)
 obtain ⟨fu1, hf1⟩ := h1
 obtain ⟨s1, hK1, hok1⟩ := (O.Opn.struct Tryz.underlying26 (by kernel_rfl) (O.OpnF.cons rfl (by kernel_rfl) (O.Opn.int Tryz.underlying2) (O.OpnF.cons rfl (by kernel_rfl) (O.Opn.struct Tryz.underlying23 (by kernel_rfl) (O.OpnF.cons rfl (by kernel_rfl) (O.Opn.string Tryz.underlying9) (O.OpnF.one rfl (by kernel_rfl) (O.Opn.string Tryz.underlying9)))) (O.OpnF.cons rfl (by kernel_rfl) (O.Opn.int Tryz.underlying2) (O.OpnF.cons rfl (by kernel_rfl) (O.Opn.slice Tryz.underlying24 (by kernel_rfl) (by kernel_rfl) opn30) (O.OpnF.one rfl (by kernel_rfl) (O.Opn.int Tryz.underlying2))))))) H enc W _ _ _ _ _ _ _ hf1 wt1
 obtain ⟨a1_0, ⟨a1_1, a1_2⟩, a1_3, l1_4, a1_5⟩ := s1
 obtain ⟨o1_0, ⟨o1_1, o1_2⟩, o1_3, o1_4, o1_5⟩ := hok1
 obtain ⟨_, _, hcs1, rfl, _, _, rfl, ⟨_, _, rfl, rfl, rfl⟩, _, _, rfl, rfl, _, _, rfl, ⟨A1_4, c1_4, rfl, hc1_4, hr1_4⟩, rfl⟩ := hK1
 obtain rfl : cs1 = #[.int .i64 a1_0, .string a1_1, .string a1_2, .int .i64 a1_3, .slice A1_4 l1_4.length c1_4, .int .i64 a1_5] := Array.toList_inj.1 (show cs1.toList = [.int .i64 a1_0, .string a1_1, .string a1_2, .int .i64 a1_3, .slice A1_4 l1_4.length c1_4, .int .i64 a1_5] from hcs1)
 have k2 := h2
 have lt2 : ∀ x ∈ p2, x.block < W.heap.size := by obtain ⟨m, hm⟩ := k2; exact DataW.trod_lt m _ _ _ hm
 have wt2 : ∀ n ∈ DataW.weights Tryz.prog 3 d2, n ≤ reachBytes := fun n hn => of_decide_eq_true (List.all_eq_true.1 hsz n (DataW.weights_mem_each (j := 2) rfl rfl n hn))
 obtain ⟨a2, rfl, rfl, rfl, w2⟩ := open_int Tryz.underlying3 (hval 2 3 v2 rfl rfl) h2
 have k3 := h3
 have lt3 : ∀ x ∈ p3, x.block < W.heap.size := by obtain ⟨m, hm⟩ := k3; exact DataW.trod_lt m _ _ _ hm
 have wt3 : ∀ n ∈ DataW.weights Tryz.prog 2 d3, n ≤ reachBytes := fun n hn => of_decide_eq_true (List.all_eq_true.1 hsz n (DataW.weights_mem_each (j := 3) rfl rfl n hn))
 obtain ⟨a3, rfl, rfl, rfl, w3⟩ := open_int Tryz.underlying2 (hval 3 2 v3 rfl rfl) h3
 have k4 := h4
 have lt4 : ∀ x ∈ p4, x.block < W.heap.size := by obtain ⟨m, hm⟩ := k4; exact DataW.trod_lt m _ _ _ hm
 have wt4 : ∀ n ∈ DataW.weights Tryz.prog 9 d4, n ≤ reachBytes := fun n hn => of_decide_eq_true (List.all_eq_true.1 hsz n (DataW.weights_mem_each (j := 4) rfl rfl n hn))
 obtain ⟨a4, rfl, rfl, rfl, y4⟩ := open_string Tryz.underlying9 (hval 4 9 v4 rfl rfl) h4
 have w4 : a4.size ≤ reachBytes := by have := wt4 a4.data.toList.length (by simp [DataW.weights]); rw [← Lib.size_eq] at this; exact this
 obtain ⟨k, hp⟩ := U.DescChecks a0_0 o0_0 a0_1 o0_1 a0_2 o0_2 a0_3 o0_3 l0_4 o0_4 a0_5 o0_5 a1_0 o1_0 a1_1 o1_1 a1_2 o1_2 a1_3 o1_3 l1_4 o1_4 a1_5 o1_5 a2 w2 a3 w3 a4 w4
 refine (l06_DescChecks.calls (k := k) (r := true) (w := W) (hG := hG) (hr := rfl) (hr0_4 := hr0_4) (hc0_4 := hc0_4) (hr1_4 := hr1_4) (hc1_4 := hc1_4) (h := hp)).mono ?_
 rintro e W' ⟨rfl, bel0⟩
 have bel : Below W.heap.size W W' := by first | exact bel0 | exact bel0.below
 exact ⟨_, rfl, _, _, _, [], _, [], hW', trodAll_mk1 (shut_bool Tryz.underlying4 _), (trodAll_cons_mk (Below.trod laidOut (by kernel_rfl) (of_decide_eq_true (by kernel_rfl)) k0 bel lt0) (trodAll_cons_mk (Below.trod laidOut (by kernel_rfl) (of_decide_eq_true (by kernel_rfl)) k1 bel lt1) (trodAll_cons_mk (Below.trod laidOut (by kernel_rfl) (of_decide_eq_true (by kernel_rfl)) k2 bel lt2) (trodAll_cons_mk (Below.trod laidOut (by kernel_rfl) (of_decide_eq_true (by kernel_rfl)) k3 bel lt3) (trodAll_cons_mk (Below.trod laidOut (by kernel_rfl) (of_decide_eq_true (by kernel_rfl)) k4 bel lt4) trodAll_mk0))))), rfl, bel.frame _, fun h => by cases h⟩
set_option maxRecDepth 100000 in
theorem lifted (os : Os) (started : os.Started) (H : Type) (enc : TypeId × Value → H) (F : Stop.Interp) :
 ReturnsInHanded {} Tryz.checked os 3 .any ((OpenSpec.ofChange Rows.descChecksSpec).preRow enc Tryz.prog Tryz.f3 Rows.descChecksRow.domain false Rows.descChecksRow.laid) (((OpenSpec.ofChange Rows.descChecksSpec).at F).post enc Tryz.prog Tryz.f3 false true false false) := by
 have hx : ∃ places, DataW.whole enc Tryz.prog ((World.doorLaid Tryz.prog 62 os).forCall (fun _ _ => 0) ⟨#[], #[.agg #[.int .i64 0, .string ByteArray.empty, .string ByteArray.empty, .int .i64 0, .slice none 0 0, .int .i64 0], .agg #[.int .i64 0, .string ByteArray.empty, .string ByteArray.empty, .int .i64 0, .slice none 0 0, .int .i64 0], .int .i64 0, .int .i64 0, .string ByteArray.empty], []⟩).memory Tryz.f3.params.toList Rows.descChecksSpec.vars false (#[.agg #[.int .i64 0, .string ByteArray.empty, .string ByteArray.empty, .int .i64 0, .slice none 0 0, .int .i64 0], .agg #[.int .i64 0, .string ByteArray.empty, .string ByteArray.empty, .int .i64 0, .slice none 0 0, .int .i64 0], .int .i64 0, .int .i64 0, .string ByteArray.empty] : Array Value).toList 8 = some ([.agg [.lit (.int .i64 0), .agg [.lit (.string []), .lit (.string [])], .lit (.int .i64 0), .nil, .lit (.int .i64 0)], .agg [.lit (.int .i64 0), .agg [.lit (.string []), .lit (.string [])], .lit (.int .i64 0), .nil, .lit (.int .i64 0)], .lit (.int .i64 0), .lit (.int .i64 0), .lit (.string [])], [], places) := ⟨[], by kernel_rfl⟩
 obtain ⟨places, hx⟩ := hx
 refine returnsInHanded_of_row (C := Tryz.checked) (s := OpenSpec.ofChange Rows.descChecksSpec) own started (by kernel_rfl) Tryz.func3
  (witness_row_atRef (enc := enc) (C := Tryz.checked) false (World.doorLaid Tryz.prog 62 os) #[.agg #[.int .i64 0, .string ByteArray.empty, .string ByteArray.empty, .int .i64 0, .slice none 0 0, .int .i64 0], .agg #[.int .i64 0, .string ByteArray.empty, .string ByteArray.empty, .int .i64 0, .slice none 0 0, .int .i64 0], .int .i64 0, .int .i64 0, .string ByteArray.empty] rfl (by kernel_rfl) (by kernel_rfl) (by kernel_rfl)
   (OpenSpec.preRow_of_cond 8 hx (by kernel_rfl) (fun k hk => by cases hk) (by kernel_rfl) (MakeChecks.laidMetH_plain _ _ _ (by kernel_rfl) ▸ door_met os _))) ?_
 intro W base args ds gs before hval hW _ _ hsz hL hsh _
 exact contract H enc W base args ds gs before hval hW (theG_of hL hsh) hsz
theorem said : Rows.DescChecksSaid :=
 OpenClaim.holds_of_cond 3 Tryz.f3 rfl rfl rfl rfl rfl rfl rfl ⟨rfl, rfl, rfl, rfl, rfl⟩ rfl rfl rfl rfl rfl (by kernel_rfl) Tryz.func3 (by kernel_rfl)
  (of_decide_eq_true (by kernel_rfl)) (by unfold Func.isWrapper; first | (rw [if_pos (by decide +kernel)]; kernel_rfl) | (rw [if_neg (by decide +kernel)]; exact ⟨rfl, rfl⟩))
  (fun os started H enc _ F => by rw [OpenClaim.pre_eq_preRow]; exact lifted os started H enc F)
theorem plain (f : FuncId) (fn : Func) (hf : Tryz.pinned.checked.prog.funcNamed "furlong/furlonglaw06.DescChecks" = some f) (hfn : Tryz.pinned.checked.prog.funcs[f]? = some fn) :
 true = Tryz.pinned.checked.prog.looks [] ∧ ∀ (j : Nat) t, fn.params[j]? = some t → Tryz.pinned.checked.prog.wantsStandIn t = false := by
 obtain rfl : f = 3 := Option.some.inj ((show Tryz.prog.funcNamed "furlong/furlonglaw06.DescChecks" = some 3 by kernel_rfl).symm.trans hf) |>.symm
 obtain rfl : fn = Tryz.f3 := (Option.some.inj (Tryz.func3.symm.trans hfn)).symm
 refine ⟨by kernel_rfl, fun j t ht => ?_⟩
 rw [Tryz.params3] at ht
 have hm := Array.mem_of_getElem? ht
 simp only [List.mem_toArray, List.mem_cons, List.not_mem_nil, or_false] at hm
 rcases hm with rfl | rfl | rfl | rfl | rfl
 ·exact (show Tryz.prog.wantsStandIn 26 = false by kernel_rfl)
 ·exact (show Tryz.prog.wantsStandIn 26 = false by kernel_rfl)
 ·exact (show Tryz.prog.wantsStandIn 3 = false by kernel_rfl)
 ·exact (show Tryz.prog.wantsStandIn 2 = false by kernel_rfl)
 ·exact (show Tryz.prog.wantsStandIn 9 = false by kernel_rfl)
/-- The tied card. -/
theorem card : Rows.DescChecksCardSaid :=
 Claim7.holds_tied_plain_at .later [] _ _ _ _ said (fun _ h => by cases h) (by kernel_rfl) (fun _ h => by cases h) descChecks_row_tie rfl ⟨rfl, rfl⟩ (by kernel_rfl) rfl plain (by kernel_rfl)
#print axioms card
end Go.Proofs.YtjfhcijjjadhbaaGreatDoor.descChecks
namespace Go.Proofs.YtjfhcijjjadhbaaGreatDoor
theorem descChecks_holds : Rows.DescChecksCardSaid := descChecks.card
end Go.Proofs.YtjfhcijjjadhbaaGreatDoor
end
