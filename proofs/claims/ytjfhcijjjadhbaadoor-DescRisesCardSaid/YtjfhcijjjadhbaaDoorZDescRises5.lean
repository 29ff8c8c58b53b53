import Derived.Test.YtjfhcijjjadhbaaDoorZDescRises1
import Derived.Test.YtjfhcijjjadhbaaDoorZDescRises2
import Derived.Test.YtjfhcijjjadhbaaDoorZDescRises3
import Derived.Test.YtjfhcijjjadhbaaDoorZDescRises4
set_option linter.unusedVariables false
set_option linter.unusedSimpArgs false
set_option linter.unnecessarySimpa false
section
namespace Go.Proofs.YtjfhcijjjadhbaaDoor.P
open Go.RowKit Go.Proofs.YtjfhcijjjadhbaaDoor.K Go.Proofs.YtjfhcijjjadhbaaDoorW.PrintWords Go.Proofs.YtjfhcijjjadhbaaDoorW.PrintLast Go.Proofs.YtjfhcijjjadhbaaDoorW.PrintMore
attribute [local go_sem] max2_int min2_int max_two min_two max_three min_three max_four min_four   -- for this text's walks alone
attribute [local go_sem high] eqA60
mutual
def l06_DescRises.j0 : Nat → List Int → List (S58) → Bool → Option (Bool)
 | 0, _, _, _ => none
 | k + 1, x0, x1, x21 => if x21 = true then ((l06_live.f).bind fun t705 => (some t705)) else ((desc_First.f k x0).bind fun bt706 => ((l06_num.f bt706.2.2.2.2.2.2).bind fun t716 => (if t716 = 0 then (l06_DescRises.l0 k x1 0 bt706.1 bt706.2.1 bt706.2.2.1 bt706.2.2.2.1 bt706.2.2.2.2.1 bt706.2.2.2.2.2.1) else ((l06_num.f bt706.2.2.2.2.2.2).bind fun t717 => (if t717 = 60 then ((l06_live.f).bind fun t718 => (some t718)) else (some false))))))
def l06_DescRises.l0 : Nat → List (S58) → Int → Int → ByteArray → ByteArray → Int → List (S60) → Int → Option (Bool)
 | 0, _, _, _, _, _, _, _, _ => none
 | k + 1, x1, x7, x716000, x716001, x716002, x716003, x716004, x716005 => if x7 < (x1.length : Int) then (if 0 ≤ x7 then (if (((rd_T58 x1 x7).f3).size : Int) > 2000 then ((l06_live.f).bind fun t722 => (some t722)) else (if ((rd_T58 x1 x7).f0) = 0 then ((desc_Add.f x716000 x716001 x716002 x716003 x716004 x716005 ((rd_T58 x1 x7).f1)).bind fun bt724 => (l06_DescRises.j2 k x1 x7 bt724.2.2.2.2.2.2 x716000 x716001 x716002 x716003 x716004 x716005 bt724.1 bt724.2.1 bt724.2.2.1 bt724.2.2.2.1 bt724.2.2.2.2.1 bt724.2.2.2.2.2.1)) else (if ((rd_T58 x1 x7).f0) = 1 then ((desc_Remove.f x716000 x716001 x716002 x716003 x716004 x716005 ((rd_T58 x1 x7).f2)).bind fun bt733 => (l06_DescRises.j2 k x1 x7 bt733.2.2.2.2.2.2 x716000 x716001 x716002 x716003 x716004 x716005 bt733.1 bt733.2.1 bt733.2.2.1 bt733.2.2.2.1 bt733.2.2.2.2.1 bt733.2.2.2.2.2.1)) else (if ((rd_T58 x1 x7).f0) = 2 then ((desc_Split.f x716000 x716001 x716002 x716003 x716004 x716005 ((rd_T58 x1 x7).f3) ((rd_T58 x1 x7).f2)).bind fun bt742 => (l06_DescRises.j2 k x1 x7 bt742.2.2.2.2.2.2.2.2.2.2.2.2 x716000 x716001 x716002 x716003 x716004 x716005 bt742.1 bt742.2.1 bt742.2.2.1 bt742.2.2.2.1 bt742.2.2.2.2.1 bt742.2.2.2.2.2.1)) else (if ((rd_T58 x1 x7).f0) = 3 then ((desc_Split.f x716000 x716001 x716002 x716003 x716004 x716005 ((rd_T58 x1 x7).f3) ((rd_T58 x1 x7).f2)).bind fun bt759 => (l06_DescRises.j2 k x1 x7 bt759.2.2.2.2.2.2.2.2.2.2.2.2 x716000 x716001 x716002 x716003 x716004 x716005 bt759.2.2.2.2.2.2.1 bt759.2.2.2.2.2.2.2.1 bt759.2.2.2.2.2.2.2.2.1 bt759.2.2.2.2.2.2.2.2.2.1 bt759.2.2.2.2.2.2.2.2.2.2.1 bt759.2.2.2.2.2.2.2.2.2.2.2.1)) else (l06_DescRises.l0 k x1 (wrap64 (x7 + 1)) x716000 x716001 x716002 x716003 x716004 x716005)))))) else (none)) else ((l06_live.f).bind fun t719 => (some t719))
def l06_DescRises.j2 : Nat → List (S58) → Int → Int → Int → ByteArray → ByteArray → Int → List (S60) → Int → Int → ByteArray → ByteArray → Int → List (S60) → Int → Option (Bool)
 | 0, _, _, _, _, _, _, _, _, _, _, _, _, _, _, _ => none
 | k + 1, x1, x7, x10, x716000, x716001, x716002, x716003, x716004, x716005, x724000, x724001, x724002, x724003, x724004, x724005 => (l06_num.f x10).bind fun t776 => (if t776 = 0 then ((desc_Check.f x724000 x724001 x724002 x724003 x724004 x724005).bind fun t777 => ((l06_num.f t777).bind fun t778 => (if t778 = 0 then (if x724003 = (wrap64 (x716003 + 1)) then (l06_DescRises.j3 k x1 x7 (decide (x724005 < x716005)) x716000 x716001 x716002 x716003 x716004 x716005 x724000 x724001 x724002 x724003 x724004 x724005) else (l06_DescRises.j3 k x1 x7 true x716000 x716001 x716002 x716003 x716004 x716005 x724000 x724001 x724002 x724003 x724004 x724005)) else (l06_DescRises.j3 k x1 x7 true x716000 x716001 x716002 x716003 x716004 x716005 x724000 x724001 x724002 x724003 x724004 x724005)))) else (l06_DescRises.l0 k x1 (wrap64 (x7 + 1)) x716000 x716001 x716002 x716003 x716004 x716005))
def l06_DescRises.j3 : Nat → List (S58) → Int → Bool → Int → ByteArray → ByteArray → Int → List (S60) → Int → Int → ByteArray → ByteArray → Int → List (S60) → Int → Option (Bool)
 | 0, _, _, _, _, _, _, _, _, _, _, _, _, _, _, _ => none
 | k + 1, x1, x7, x118, x716000, x716001, x716002, x716003, x716004, x716005, x724000, x724001, x724002, x724003, x724004, x724005 => if x118 = true then (some false) else (l06_DescRises.l1 k x1 x7 0 x716000 x716001 x716002 x716003 x716004 x716005 x724000 x724001 x724002 x724003 x724004 x724005)
def l06_DescRises.l1 : Nat → List (S58) → Int → Int → Int → ByteArray → ByteArray → Int → List (S60) → Int → Int → ByteArray → ByteArray → Int → List (S60) → Int → Option (Bool)
 | 0, _, _, _, _, _, _, _, _, _, _, _, _, _, _, _ => none
 | k + 1, x1, x7, x11, x716000, x716001, x716002, x716003, x716004, x716005, x724000, x724001, x724002, x724003, x724004, x724005 => if x11 < (x724004.length : Int) then (if 0 ≤ x11 then ((desc_Has.f x716000 x716001 x716002 x716003 x716004 x716005 ((rd_T60 x724004 x11).f1)).bind fun bt780 => (if bt780.2.2 = true then (if (!(bt780.1 == ((rd_T60 x724004 x11).f0)) || (!(bt780.2.1 == ((rd_T60 x724004 x11).f1)))) = true then (some false) else (l06_DescRises.l1 k x1 x7 (wrap64 (x11 + 1)) x716000 x716001 x716002 x716003 x716004 x716005 x724000 x724001 x724002 x724003 x724004 x724005)) else (if ((rd_T60 x724004 x11).f1) < x716005 then (some false) else (l06_DescRises.l1 k x1 x7 (wrap64 (x11 + 1)) x716000 x716001 x716002 x716003 x716004 x716005 x724000 x724001 x724002 x724003 x724004 x724005)))) else (none)) else (l06_DescRises.l0 k x1 (wrap64 (x7 + 1)) x724000 x724001 x724002 x724003 x724004 x724005)
end
def l06_DescRises.f (k : Nat) (l0 : List Int) (l1 : List (S58)) : Option (Bool) := if (l0.length : Int) > 30 then (l06_DescRises.j0 k l0 l1 true) else (l06_DescRises.j0 k l0 l1 (decide ((l1.length : Int) > 30)))
theorem l06_DescRises.mono_l : ∀ k, (∀ y0 y1 y2, LeO (l06_DescRises.j0 k y0 y1 y2) (l06_DescRises.j0 (k + 1) y0 y1 y2)) ∧ (∀ y0 y1 y2 y3 y4 y5 y6 y7, LeO (l06_DescRises.l0 k y0 y1 y2 y3 y4 y5 y6 y7) (l06_DescRises.l0 (k + 1) y0 y1 y2 y3 y4 y5 y6 y7)) ∧ (∀ y0 y1 y2 y3 y4 y5 y6 y7 y8 y9 y10 y11 y12 y13 y14, LeO (l06_DescRises.j2 k y0 y1 y2 y3 y4 y5 y6 y7 y8 y9 y10 y11 y12 y13 y14) (l06_DescRises.j2 (k + 1) y0 y1 y2 y3 y4 y5 y6 y7 y8 y9 y10 y11 y12 y13 y14)) ∧ (∀ y0 y1 y2 y3 y4 y5 y6 y7 y8 y9 y10 y11 y12 y13 y14, LeO (l06_DescRises.j3 k y0 y1 y2 y3 y4 y5 y6 y7 y8 y9 y10 y11 y12 y13 y14) (l06_DescRises.j3 (k + 1) y0 y1 y2 y3 y4 y5 y6 y7 y8 y9 y10 y11 y12 y13 y14)) ∧ (∀ y0 y1 y2 y3 y4 y5 y6 y7 y8 y9 y10 y11 y12 y13 y14, LeO (l06_DescRises.l1 k y0 y1 y2 y3 y4 y5 y6 y7 y8 y9 y10 y11 y12 y13 y14) (l06_DescRises.l1 (k + 1) y0 y1 y2 y3 y4 y5 y6 y7 y8 y9 y10 y11 y12 y13 y14))
 | 0 => ⟨fun _ _ _ r h => by simp [l06_DescRises.j0] at h, fun _ _ _ _ _ _ _ _ r h => by simp [l06_DescRises.l0] at h, fun _ _ _ _ _ _ _ _ _ _ _ _ _ _ _ r h => by simp [l06_DescRises.j2] at h, fun _ _ _ _ _ _ _ _ _ _ _ _ _ _ _ r h => by simp [l06_DescRises.j3] at h, fun _ _ _ _ _ _ _ _ _ _ _ _ _ _ _ r h => by simp [l06_DescRises.l1] at h⟩
 | k + 1 => by
  obtain ⟨ih0, ih1, ih2, ih3, ih4⟩ := l06_DescRises.mono_l k
  refine ⟨?_, ?_, ?_, ?_, ?_⟩
  ·intro y0 y1 y2
   unfold l06_DescRises.j0
   repeat' first
   | (with_reducible exact ih0 _ _ _)
   | (with_reducible exact ih1 _ _ _ _ _ _ _ _)
   | (with_reducible exact ih2 _ _ _ _ _ _ _ _ _ _ _ _ _ _ _)
   | (with_reducible exact ih3 _ _ _ _ _ _ _ _ _ _ _ _ _ _ _)
   | (with_reducible exact ih4 _ _ _ _ _ _ _ _ _ _ _ _ _ _ _)
   | (with_reducible exact desc_First.mono _ _)
   | (with_reducible exact LeO.refl _)
   | (with_reducible exact LeO.none _)
   | (with_reducible refine LeO.ite ?_ ?_)
   | (with_reducible refine LeO.bind ?_ (fun _ => ?_))
   | exact ih0 _ _ _
   | exact ih1 _ _ _ _ _ _ _ _
   | exact ih2 _ _ _ _ _ _ _ _ _ _ _ _ _ _ _
   | exact ih3 _ _ _ _ _ _ _ _ _ _ _ _ _ _ _
   | exact ih4 _ _ _ _ _ _ _ _ _ _ _ _ _ _ _
   | exact desc_First.mono _ _
   | exact LeO.none _
   | refine LeO.ite ?_ ?_
   | refine LeO.bind ?_ (fun _ => ?_)
  ·intro y0 y1 y2 y3 y4 y5 y6 y7
   unfold l06_DescRises.l0
   repeat' first
   | (with_reducible exact ih0 _ _ _)
   | (with_reducible exact ih1 _ _ _ _ _ _ _ _)
   | (with_reducible exact ih2 _ _ _ _ _ _ _ _ _ _ _ _ _ _ _)
   | (with_reducible exact ih3 _ _ _ _ _ _ _ _ _ _ _ _ _ _ _)
   | (with_reducible exact ih4 _ _ _ _ _ _ _ _ _ _ _ _ _ _ _)
   | (with_reducible exact desc_First.mono _ _)
   | (with_reducible exact LeO.refl _)
   | (with_reducible exact LeO.none _)
   | (with_reducible refine LeO.ite ?_ ?_)
   | (with_reducible refine LeO.bind ?_ (fun _ => ?_))
   | exact ih0 _ _ _
   | exact ih1 _ _ _ _ _ _ _ _
   | exact ih2 _ _ _ _ _ _ _ _ _ _ _ _ _ _ _
   | exact ih3 _ _ _ _ _ _ _ _ _ _ _ _ _ _ _
   | exact ih4 _ _ _ _ _ _ _ _ _ _ _ _ _ _ _
   | exact desc_First.mono _ _
   | exact LeO.none _
   | refine LeO.ite ?_ ?_
   | refine LeO.bind ?_ (fun _ => ?_)
  ·intro y0 y1 y2 y3 y4 y5 y6 y7 y8 y9 y10 y11 y12 y13 y14
   unfold l06_DescRises.j2
   repeat' first
   | (with_reducible exact ih0 _ _ _)
   | (with_reducible exact ih1 _ _ _ _ _ _ _ _)
   | (with_reducible exact ih2 _ _ _ _ _ _ _ _ _ _ _ _ _ _ _)
   | (with_reducible exact ih3 _ _ _ _ _ _ _ _ _ _ _ _ _ _ _)
   | (with_reducible exact ih4 _ _ _ _ _ _ _ _ _ _ _ _ _ _ _)
   | (with_reducible exact desc_First.mono _ _)
   | (with_reducible exact LeO.refl _)
   | (with_reducible exact LeO.none _)
   | (with_reducible refine LeO.ite ?_ ?_)
   | (with_reducible refine LeO.bind ?_ (fun _ => ?_))
   | exact ih0 _ _ _
   | exact ih1 _ _ _ _ _ _ _ _
   | exact ih2 _ _ _ _ _ _ _ _ _ _ _ _ _ _ _
   | exact ih3 _ _ _ _ _ _ _ _ _ _ _ _ _ _ _
   | exact ih4 _ _ _ _ _ _ _ _ _ _ _ _ _ _ _
   | exact desc_First.mono _ _
   | exact LeO.none _
   | refine LeO.ite ?_ ?_
   | refine LeO.bind ?_ (fun _ => ?_)
  ·intro y0 y1 y2 y3 y4 y5 y6 y7 y8 y9 y10 y11 y12 y13 y14
   unfold l06_DescRises.j3
   repeat' first
   | (with_reducible exact ih0 _ _ _)
   | (with_reducible exact ih1 _ _ _ _ _ _ _ _)
   | (with_reducible exact ih2 _ _ _ _ _ _ _ _ _ _ _ _ _ _ _)
   | (with_reducible exact ih3 _ _ _ _ _ _ _ _ _ _ _ _ _ _ _)
   | (with_reducible exact ih4 _ _ _ _ _ _ _ _ _ _ _ _ _ _ _)
   | (with_reducible exact desc_First.mono _ _)
   | (with_reducible exact LeO.refl _)
   | (with_reducible exact LeO.none _)
   | (with_reducible refine LeO.ite ?_ ?_)
   | (with_reducible refine LeO.bind ?_ (fun _ => ?_))
   | exact ih0 _ _ _
   | exact ih1 _ _ _ _ _ _ _ _
   | exact ih2 _ _ _ _ _ _ _ _ _ _ _ _ _ _ _
   | exact ih3 _ _ _ _ _ _ _ _ _ _ _ _ _ _ _
   | exact ih4 _ _ _ _ _ _ _ _ _ _ _ _ _ _ _
   | exact desc_First.mono _ _
   | exact LeO.none _
   | refine LeO.ite ?_ ?_
   | refine LeO.bind ?_ (fun _ => ?_)
  ·intro y0 y1 y2 y3 y4 y5 y6 y7 y8 y9 y10 y11 y12 y13 y14
   unfold l06_DescRises.l1
   repeat' first
   | (with_reducible exact ih0 _ _ _)
   | (with_reducible exact ih1 _ _ _ _ _ _ _ _)
   | (with_reducible exact ih2 _ _ _ _ _ _ _ _ _ _ _ _ _ _ _)
   | (with_reducible exact ih3 _ _ _ _ _ _ _ _ _ _ _ _ _ _ _)
   | (with_reducible exact ih4 _ _ _ _ _ _ _ _ _ _ _ _ _ _ _)
   | (with_reducible exact desc_First.mono _ _)
   | (with_reducible exact LeO.refl _)
   | (with_reducible exact LeO.none _)
   | (with_reducible refine LeO.ite ?_ ?_)
   | (with_reducible refine LeO.bind ?_ (fun _ => ?_))
   | exact ih0 _ _ _
   | exact ih1 _ _ _ _ _ _ _ _
   | exact ih2 _ _ _ _ _ _ _ _ _ _ _ _ _ _ _
   | exact ih3 _ _ _ _ _ _ _ _ _ _ _ _ _ _ _
   | exact ih4 _ _ _ _ _ _ _ _ _ _ _ _ _ _ _
   | exact desc_First.mono _ _
   | exact LeO.none _
   | refine LeO.ite ?_ ?_
   | refine LeO.bind ?_ (fun _ => ?_)
theorem l06_DescRises.mono : ∀ a0 a1 k, LeO (l06_DescRises.f k a0 a1) (l06_DescRises.f (k + 1) a0 a1) := by
 intro a0 a1 k
 obtain ⟨ih0, ih1, ih2, ih3, ih4⟩ := l06_DescRises.mono_l k
 unfold l06_DescRises.f
 repeat' first
  | (with_reducible exact ih0 _ _ _)
  | (with_reducible exact ih1 _ _ _ _ _ _ _ _)
  | (with_reducible exact ih2 _ _ _ _ _ _ _ _ _ _ _ _ _ _ _)
  | (with_reducible exact ih3 _ _ _ _ _ _ _ _ _ _ _ _ _ _ _)
  | (with_reducible exact ih4 _ _ _ _ _ _ _ _ _ _ _ _ _ _ _)
  | (with_reducible exact desc_First.mono _ _)
  | (with_reducible exact LeO.refl _)
  | (with_reducible exact LeO.none _)
  | (with_reducible refine LeO.ite ?_ ?_)
  | (with_reducible refine LeO.bind ?_ (fun _ => ?_))
  | exact ih0 _ _ _
  | exact ih1 _ _ _ _ _ _ _ _
  | exact ih2 _ _ _ _ _ _ _ _ _ _ _ _ _ _ _
  | exact ih3 _ _ _ _ _ _ _ _ _ _ _ _ _ _ _
  | exact ih4 _ _ _ _ _ _ _ _ _ _ _ _ _ _ _
  | exact desc_First.mono _ _
  | exact LeO.none _
  | refine LeO.ite ?_ ?_
  | refine LeO.bind ?_ (fun _ => ?_)
def l06_DescRises.T29 : Bool × List (List Nat × List Nat) := (true, [([], []), ([], []), ([1], [1]), ([], []), ([2, 3], [2, 3]), ([4], [4]), ([5], [5]), ([0, 6], [0, 6]), ([7], [7]), ([8], [8]), ([8], [8]), ([], []), ([11, 9, 7, 0, 1, 2, 3, 4, 5, 6, 7, 8, 9, 11], [9, 11]), ([10, 12, 0, 1, 2, 3, 4, 5, 6, 7, 8, 9, 10, 11, 12], [10])])
def l06_DescRises.B29 : List Nat := [0, 0, 2, 0, 14, 30, 62, 127, 255, 511, 511, 0, 3071, 8191]
theorem l06_DescRises.tab29 : rtab .any (opsOf Tryd.f7 29) = l06_DescRises.T29 := by kernel_rfl
theorem l06_DescRises.bits29 : waitsOk l06_DescRises.T29.2 l06_DescRises.B29 = true := by kernel_rfl
def l06_DescRises.T30 : Bool × List (List Nat × List Nat) := (true, [([], []), ([0], [0]), ([1], [1]), ([1], [1]), ([3, 1], [1, 3]), ([1], [1]), ([4, 5, 1], [1, 4, 5]), ([6, 1], [1, 6]), ([2, 7, 1], [1, 2, 7]), ([1, 8], [1, 8]), ([9, 1], [9]), ([10], [10]), ([11, 10], [10, 11]), ([12, 10, 10], [10, 12]), ([13], [13]), ([14, 13], [13, 14]), ([13], [13]), ([15, 16, 13], [13, 15, 16]), ([17, 13], [13, 17]), ([18, 13], [13, 18]), ([13], [13]), ([20, 13], [13, 20]), ([19, 21, 13], [13, 19, 21]), ([13, 22, 10], [10, 13, 22]), ([10, 23], [10, 23])])
def l06_DescRises.B30 : List Nat := [0, 1, 3, 3, 11, 3, 59, 123, 255, 511, 1023, 2047, 4095, 8191, 16383, 32767, 16383, 131071, 262143, 524287, 16383, 1064959, 4194303, 8388607, 16777215]
theorem l06_DescRises.tab30 : rtab .any (opsOf Tryd.f7 30) = l06_DescRises.T30 := by kernel_rfl
theorem l06_DescRises.bits30 : waitsOk l06_DescRises.T30.2 l06_DescRises.B30 = true := by kernel_rfl
theorem cell_set2 {W : World} {g : Nat} {a : Addr} {x : Value} (h : a.block ≠ g) (hc : W.cell? a = some x) (v0 v1 : Value) : ((W.setCell ⟨g, 0, none⟩ v0).setCell ⟨g, 1, none⟩ v1).cell? a = some x := (cell_far (p := ⟨g, 1, none⟩) h _).trans ((cell_far (p := ⟨g, 0, none⟩) h _).trans hc)
set_option maxHeartbeats 8000000 in
set_option maxRecDepth 100000 in
theorem l06_DescRises.calls (k : Nat) (A0 : Option Addr) (c0 : Nat) (l0 : List Int) (A1 : Option Addr) (c1 : Nat) (l1 : List (S58)) (r : Bool) (w : World) (hG : TheG w) (hr : r = true) (hr0 : Kd.C (Kd.int .i64) w A0 l0.length l0) (hc0 : l0.length ≤ c0) (hr1 : Kd.C k58 w A1 l1.length l1) (hc1 : l1.length ≤ c1) (h : l06_DescRises.f k l0 l1 = some r) :
 Calls Tryd.prog 7 #[.slice A0 l0.length c0, .slice A1 l1.length c1] w fun e w' => e = .returned (.bool r) ∧ Below w.heap.size w w' := by
 have hu26 := Tryd.underlying26
 have hu58 := Tryd.underlying58
 have hu60 := Tryd.underlying60
 have HR0 := Az.mk hr0
 have HC0 := Az.mk hc0
 clear hr0 hc0
 have HR1 := Az.mk hr1
 have HC1 := Az.mk hc1
 clear hr1 hc1
 have HB := Az.mk (Below.refl w.heap.size w)
 have H : (if (l0.length : Int) > 30 then (l06_DescRises.j0 k l0 l1 true) else (l06_DescRises.j0 k l0 l1 (decide ((l1.length : Int) > 30)))) = some r := h
 clear h
 have HC3 := Az.mk H
 clear H
 go_enter Tryd.func7, Tryd.ntmps7
 go_upto_region 1 with (fail)
 go_cut [21] (fun v21 wc => ∃ (kq : Nat) (x21_2 : Bool), v21 = .bool x21_2 ∧ Az (l06_DescRises.j0 kq l0 l1 x21_2 = some r) ∧ Az (kq ≤ k) ∧ Az (Below w.heap.size w wc))
 case first =>
  have H := HC3.out
  clear HC3
  by_cases c4 : (l0.length : Int) > 30
  ·rw [if_pos c4] at H
   have c4b0 : decide (30 < (l0.length : Int)) = true := decide_eq_true c4
   have c4b1 : decide (30 < l0.length) = true := decide_eq_true (by omega)
   clear c4
   (first | rw [c4b0] | (simp only [i64_w, i32_w]; rw [c4b0]) | skip)
   have H' := Az.mk H
   clear H
   go_wp2
   go_meet
   case rel => exact ⟨_, (true), (by first | rfl | (simp; done) | (simp [*]; done)), H', ⟨by first | omega | exact Nat.le_refl _⟩, ⟨by exact pbE HB.out⟩⟩
  ·rw [if_neg c4] at H
   have c4b0 : decide (30 < (l0.length : Int)) = false := decide_eq_false c4
   have c4b1 : decide (30 < l0.length) = false := decide_eq_false (by omega)
   clear c4
   (first | rw [c4b0] | (simp only [i64_w, i32_w]; rw [c4b0]) | skip)
   have H' := Az.mk H
   clear H
   go_wp2
   go_meet
   case rel => exact ⟨_, (decide ((l1.length : Int) > 30)), (by first | rfl | (simp; done) | (simp [*]; done)), H', ⟨by first | omega | exact Nat.le_refl _⟩, ⟨by exact pbE HB.out⟩⟩
 case rest =>
  clear HC3
  try clear c1
  try clear p2
  try clear c4
  try clear c4b0
  try clear c4b1
  obtain ⟨kq, x21_2, rfl, HA, HJ2, HB⟩ := hcut
  cases kq with
  | zero => exact absurd HA.out (by simp [l06_DescRises.j0])
  | succ kj2 =>
   have H := HA.out
   clear HA
   simp only [l06_DescRises.j0] at H
   by_cases c5 : x21_2 = true
   ·subst c5
    have H1 : ((l06_live.f).bind fun t705 => (some t705)) = some r := by rw [if_pos rfl] at H; exact H
    clear H
    have H := H1
    clear H1
    replace H := Option.bind_eq_some_iff.mp H
    obtain ⟨t705, A60, H⟩ := H
    replace H : (some t705) = some r := H
    have A6 := Az.mk A60
    clear A60
    obtain rfl := Option.some.inj H
    go_wp2_with (first | ((with_reducible refine gtc (f := 10) rfl ?_); refine goesL_ (some 22) rfl rfl Tryd.func10 (by kernel_rfl) rfl #[] rfl (by (try simp only [List.map_toArray, List.map_cons, List.map_nil]); first | done | rfl | (simp only [List.length_drop, List.length_take]; rfl)) ?_; (with_reducible refine (l06_live.calls  t705 _ ?side1 A6.out).mono ?_); (case side1 => exact hG.below (by exact pbE HB.out)); rintro e w7 ⟨rfl, hb⟩; refine ⟨_, rfl, ?_⟩; replace HB := Az.mk (pbT (by exact pbE HB.out) hb); (try clear hb); (try clear hb2); (try clear hk); (try clear hi)))
    go_ret
    exact ⟨by first | rfl | (simp [errW_none, errW_some] <;> rfl) | (simp [*, errW_none, errW_some] <;> rfl), by exact pbE HB.out⟩
   ·replace c5 := Bool.eq_false_iff.mpr c5
    subst c5
    have H1 : ((desc_First.f kj2 l0).bind fun bt706 => ((l06_num.f bt706.2.2.2.2.2.2).bind fun t716 => (if t716 = 0 then (l06_DescRises.l0 kj2 l1 0 bt706.1 bt706.2.1 bt706.2.2.1 bt706.2.2.2.1 bt706.2.2.2.2.1 bt706.2.2.2.2.2.1) else ((l06_num.f bt706.2.2.2.2.2.2).bind fun t717 => (if t717 = 60 then ((l06_live.f).bind fun t718 => (some t718)) else (some false)))))) = some r := by rw [if_neg (show ¬ (false = true) by decide)] at H; exact H
    clear H
    have H := H1
    clear H1
    replace H := Option.bind_eq_some_iff.mp H
    obtain ⟨⟨t706, t707, t708, t709, t710, t713, t714⟩, A80, H⟩ := H
    replace H : ((l06_num.f t714).bind fun t716 => (if t716 = 0 then (l06_DescRises.l0 kj2 l1 0 t706 t707 t708 t709 t710 t713) else ((l06_num.f t714).bind fun t717 => (if t717 = 60 then ((l06_live.f).bind fun t718 => (some t718)) else (some false))))) = some r := H
    have A8 := Az.mk A80
    clear A80
    replace H := Option.bind_eq_some_iff.mp H
    obtain ⟨t716, A90, H⟩ := H
    replace H : (if t716 = 0 then (l06_DescRises.l0 kj2 l1 0 t706 t707 t708 t709 t710 t713) else ((l06_num.f t714).bind fun t717 => (if t717 = 60 then ((l06_live.f).bind fun t718 => (some t718)) else (some false)))) = some r := H
    have A9 := Az.mk A90
    clear A90
    by_cases c10 : t716 = 0
    ·rw [if_pos c10] at H
     have c10b0 : (t716 == 0) = true := beq_iff_eq.mpr c10
     have c10b1 : (t716 != 0) = false := bne_eq_false_iff_eq.mpr c10
     clear c10
     have H' := Az.mk H
     clear H
     go_wp2_with (first | ((with_reducible refine gtc (f := 23) rfl ?_); refine goesL_ (some 25) rfl rfl Tryd.func23 (by kernel_rfl) rfl #[.slice A0 l0.length c0] rfl (by (try simp only [List.map_toArray, List.map_cons, List.map_nil]); first | done | rfl | (simp only [List.length_drop, List.length_take]; rfl)) ?_; (with_reducible refine (desc_First.calls kj2 _ _ l0 t706 t707 t708 t709 t710 t713 t714 _ ?side1 ?side2 ?side3 A8.out).mono ?_); (case side1 => exact hG.below (by exact pbE HB.out)); (case side2 => repeat (first | exact (Kd.C_below HR0.out HB.out) | (with_reducible refine Kd.C_alloc ?_ _) | (with_reducible refine Kd.C_drewN ?_ _) | (with_reducible refine Kd.C_drew ?_))); (case side3 => exact HC0.out); rintro e w11 ⟨v711, rfl, ho0, hb⟩; refine ⟨_, rfl, ?_⟩; have HO712 := Az.mk (Kd.V_lower (Kd.V_mono (ok' := fun k_ => True) ho0 (fun k_ hk_ => trivial)) (pbZ (by exact pbE HB.out))); replace HB := Az.mk (pbT (by exact pbE HB.out) hb); (try clear hb); (try clear hb2); (try clear hk); (try clear hi); (try clear ho0)) | ((with_reducible refine gate_dst (N := 5) rfl ?_); (try (refine gate_guard (by rfl) ?_; dsimp only)); refine box_event ?hg (N := 5) ?hd (cs := #[.int .i64 0, .string (⟨#[]⟩ : ByteArray), .string (⟨#[]⟩ : ByteArray), .int .i64 0, .slice none 0 0, .int .i64 0]) (t := 26) ?hr ?_; (case hd => rfl); (case hg => rfl); (case hr => first | (go_simp; done) | (go_simp; rfl)); intro gb715 hg w12 hbox hb; replace HO712 := Az.mk (Kd.V_below (Kd.V_elderB (Kd.V_ext HO712.out) gb715 (Nat.le_of_eq hg.symm)) hb); have BK715 := Az.mk (hbox); have GW715 := Az.mk (geO hg (pbE HB.out)); have GE715 := Az.mk (geO hg (pbE HB.out)); replace HB := Az.mk (pbT (by exact pbE HB.out) hb); clear hb hbox hg; have hcz13 := cells6 BK715.out; obtain ⟨Ao14, co14, eo14⟩ := Kd.V_slice HO712.out; subst eo14) | ((with_reducible refine gate_store (t := 26) (p := 5) rfl ?_); refine store_event (t := 26) (p := 5) (v := ?vo_w15) (w1 := ((((((w12.setCell ⟨gb715, 0, none⟩ (.int .i64 t706)).setCell ⟨gb715, 1, none⟩ (.string t707)).setCell ⟨gb715, 2, none⟩ (.string t708)).setCell ⟨gb715, 3, none⟩ (.int .i64 t709)).setCell ⟨gb715, 4, none⟩ (.slice Ao14 t710.length co14)).setCell ⟨gb715, 5, none⟩ (.int .i64 t713))) ?hg ?ho ?hn ?hr ?_; (case ho => rfl); (case hg => rfl); (case hn => rfl); (case hr => first | (go_simp; done) | (go_simp; rfl)); intro w15 hw; have n0_ : Az (Kd.V k60 60 w15 w.heap.size (fun k_ => k_ ≠ gb715) (.slice Ao14 t710.length co14) t710) := ⟨(by rw [hw]; exact (by (with_reducible repeat (first | apply Kd.V_alloc | apply Kd.V_drewN | apply Kd.V_drew)); exact Kd.V_mono (Kd.V_off (g := gb715) (fun _ hk => hk.2) (Kd.V_mono HO712.out (fun k_ hk => (⟨hk, hk.2⟩ : _ ∧ k_ ≠ gb715)))) (fun _ hk => hk.1.2)))⟩; have n1_ : Az (w15.heap[gb715]? = some (.cells #[.int .i64 t706, .string t707, .string t708, .int .i64 t709, .slice Ao14 t710.length co14, .int .i64 t713] 26 (0, 0))) := ⟨(by rw [hw]; exact (by refine bk ?_; refine blk_put (cs := #[.int .i64 t706, .string t707, .string t708, .int .i64 t709, .slice Ao14 t710.length co14, .int .i64 0]) ?_ 5 _ rfl; refine bk ?_; refine blk_put (cs := #[.int .i64 t706, .string t707, .string t708, .int .i64 t709, .slice none 0 0, .int .i64 0]) ?_ 4 _ rfl; refine bk ?_; refine blk_put (cs := #[.int .i64 t706, .string t707, .string t708, .int .i64 0, .slice none 0 0, .int .i64 0]) ?_ 3 _ rfl; refine bk ?_; refine blk_put (cs := #[.int .i64 t706, .string t707, .string (⟨#[]⟩ : ByteArray), .int .i64 0, .slice none 0 0, .int .i64 0]) ?_ 2 _ rfl; refine bk ?_; refine blk_put (cs := #[.int .i64 t706, .string (⟨#[]⟩ : ByteArray), .string (⟨#[]⟩ : ByteArray), .int .i64 0, .slice none 0 0, .int .i64 0]) ?_ 1 _ rfl; refine bk ?_; refine blk_put (cs := #[.int .i64 0, .string (⟨#[]⟩ : ByteArray), .string (⟨#[]⟩ : ByteArray), .int .i64 0, .slice none 0 0, .int .i64 0]) ?_ 0 _ rfl; refine bk ?_; exact BK715.out))⟩; have n2_ : Az (Below w.heap.size w w15) := ⟨(by rw [hw]; exact (by exact pbE HB.out))⟩; clear hw; clear HO712; clear BK715; clear HB; have HO712 := n0_; have BK715 := n1_; have HB := n2_; clear n0_ n1_ n2_) | ((with_reducible refine gtc (f := 17) rfl ?_); refine goesL_ (some 29) rfl rfl Tryd.func17 (by kernel_rfl) rfl #[.int .i64 t714] rfl (by (try simp only [List.map_toArray, List.map_cons, List.map_nil]); first | done | rfl | (simp only [List.length_drop, List.length_take]; rfl)) ?_; (with_reducible refine (l06_num.calls t714 t716 _ ?side1 A9.out).mono ?_); (case side1 => exact hG.below (by exact pbE HB.out)); rintro e w' ⟨rfl, ⟨nd, rfl⟩⟩; refine ⟨_, rfl, ?_⟩))
     go_loopg [7] kj2 (fun kq v7 w' => ∃ (x7_2 : Int) (x716000_2 : Int) (x716001_2 : ByteArray) (x716002_2 : ByteArray) (x716003_2 : Int) (x716004_2 : List (S60)) (x716005_2 : Int) (u716004 : Value), v7 = .int .i64 x7_2 ∧ Az (l06_DescRises.l0 kq l1 x7_2 x716000_2 x716001_2 x716002_2 x716003_2 x716004_2 x716005_2 = some r) ∧ Az (kq ≤ kj2) ∧ Az (Kd.V k60 60 w' w.heap.size (fun k_ => k_ ≠ gb715) u716004 x716004_2) ∧ Az (w'.heap[gb715]? = some (.cells #[.int .i64 x716000_2, .string x716001_2, .string x716002_2, .int .i64 x716003_2, u716004, .int .i64 x716005_2] 26 (0, 0))) ∧ Az (Below w.heap.size w w'))
     case atStart => exact ⟨(0), (t706), (t707), (t708), (t709), (t710), (t713), (.slice Ao14 t710.length co14), (by first | rfl | (simp; done) | (simp [*]; done)), H', ⟨Nat.le_refl _⟩, ⟨by (with_reducible repeat (first | apply Kd.V_alloc | apply Kd.V_drewN | apply Kd.V_drew)); exact HO712.out⟩, ⟨by refine bk ?_; exact BK715.out⟩, ⟨by exact pbE HB.out⟩⟩
     case round =>
      clear H'
      try clear c1
      try clear c2
      try clear p2
      try clear c4
      try clear c4b0
      try clear c4b1
      try clear c5
      try clear c7
      try clear c10
      try clear c10b0
      try clear c10b1
      try clear hcz13
      try clear p2
      obtain ⟨x7_2, x716000_2, x716001_2, x716002_2, x716003_2, x716004_2, x716005_2, u716004, rfl, HA, HK2, HO_716004, BK715, HB⟩ := hrel
      cases gk with
      | zero => exact absurd HA.out (by simp [l06_DescRises.l0])
      | succ k2 =>
       have H := HA.out
       clear HA
       simp only [l06_DescRises.l0] at H
       by_cases c16 : x7_2 < (l1.length : Int)
       ·rw [if_pos c16] at H
        have c16b0 : decide (x7_2 < (l1.length : Int)) = true := decide_eq_true c16
        clear c16
        by_cases c17 : 0 ≤ x7_2
        ·rw [if_pos c17] at H
         have c17b0 : decide (0 ≤ x7_2) = true := decide_eq_true c17
         clear c17
         by_cases c18 : (((rd_T58 l1 x7_2).f3).size : Int) > 2000
         ·rw [if_pos c18] at H
          have c18b0 : decide (2000 < (((rd_T58 l1 x7_2).f3).size : Int)) = true := decide_eq_true c18
          have c18b1 : decide (2000 < ((rd_T58 l1 x7_2).f3).size) = true := decide_eq_true (by omega)
          clear c18
          replace H := Option.bind_eq_some_iff.mp H
          obtain ⟨t722, A190, H⟩ := H
          replace H : (some t722) = some r := H
          have A19 := Az.mk A190
          clear A190
          obtain rfl := Option.some.inj H
          have p720 : 0 ≤ (x7_2 : Int) := of_decide_eq_true (by first | (with_reducible assumption) | assumption)
          have q720 : x7_2 < (l1.length : Int) := of_decide_eq_true (by first | (with_reducible assumption) | assumption)
          have hpos720_ : 0 < l1.length := by omega
          obtain ⟨ad720, e720, hx720_0, hx720_1, hx720_2, hx720_3⟩ := at_T58 HR1.out x7_2 p720 q720
          cases e720
          replace hx720_0 := (HB.out.cell (World.block_lt_of_cell? w _ hx720_0)).trans hx720_0
          replace hx720_1 := (HB.out.cell (World.block_lt_of_cell? w _ hx720_1)).trans hx720_1
          replace hx720_2 := (HB.out.cell (World.block_lt_of_cell? w _ hx720_2)).trans hx720_2
          replace hx720_3 := (HB.out.cell (World.block_lt_of_cell? w _ hx720_3)).trans hx720_3
          replace p720 := eq_true p720
          replace q720 := eq_true q720
          go_wp2_with (first | ((with_reducible refine gate_dst (N := 8) rfl ?_); (try (refine gate_guard (by rfl) ?_; dsimp only)); refine box_event ?hg (N := 8) ?hd (cs := #[.int .i64 0, .int .i64 0, .int .i64 0, .string (⟨#[]⟩ : ByteArray)]) (t := 58) ?hr ?_; (case hd => rfl); (case hg => rfl); (case hr => first | (go_simp; done) | (go_simp; rfl)); intro gb721 hg w20 hbox hb; replace HO_716004 := Az.mk (Kd.V_below (Kd.V_elderB (Kd.V_ext HO_716004.out) gb721 (Nat.le_of_eq hg.symm)) hb); have BK721 := Az.mk (hbox); have GW721 := Az.mk (geO hg (pbE HB.out)); have GE721 := Az.mk (geO hg (pbE HB.out)); replace HB := Az.mk (pbT (by exact pbE HB.out) hb); have NB715_721 := Az.mk (neO hg (bk BK715.out)); have NB721_715 := Az.mk (neP hg (bk BK715.out)); replace BK715 := Az.mk (bkB (bk BK715.out) hb); clear hb hbox hg; have hnb21 := NB721_715.out; have hnc21 := NB715_721.out; have hcz22 := cells4 BK721.out) | ((with_reducible refine gate_store (t := 58) (p := 8) rfl ?_); refine store_event (t := 58) (p := 8) (v := ?vo_w23) (w1 := ((((w20.setCell ⟨gb721, 0, none⟩ (.int .i64 ((rd_T58 l1 x7_2).f0))).setCell ⟨gb721, 1, none⟩ (.int .i64 ((rd_T58 l1 x7_2).f1))).setCell ⟨gb721, 2, none⟩ (.int .i64 ((rd_T58 l1 x7_2).f2))).setCell ⟨gb721, 3, none⟩ (.string ((rd_T58 l1 x7_2).f3)))) ?hg ?ho ?hn ?hr ?_; (case ho => rfl); (case hg => rfl); (case hn => rfl); (case hr => first | (go_simp; done) | (go_simp; rfl)); intro w23 hw; have n0_ : Az (Kd.V k60 60 w23 w.heap.size (fun k_ => k_ ≠ gb715 ∧ k_ ≠ gb721) u716004 x716004_2) := ⟨(by rw [hw]; exact (by (with_reducible repeat (first | apply Kd.V_alloc | apply Kd.V_drewN | apply Kd.V_drew)); exact Kd.V_mono (Kd.V_off (g := gb721) (fun _ hk => hk.2) (Kd.V_mono HO_716004.out (fun k_ hk => (⟨hk, hk.2⟩ : _ ∧ k_ ≠ gb721)))) (fun _ hk => ⟨hk.1.1, hk.1.2⟩)))⟩; have n1_ : Az (w23.heap[gb715]? = some (.cells #[.int .i64 x716000_2, .string x716001_2, .string x716002_2, .int .i64 x716003_2, u716004, .int .i64 x716005_2] 26 (0, 0))) := ⟨(by rw [hw]; exact (bf BK715.out))⟩; have n2_ : Az (w23.heap[gb721]? = some (.cells #[.int .i64 ((rd_T58 l1 x7_2).f0), .int .i64 ((rd_T58 l1 x7_2).f1), .int .i64 ((rd_T58 l1 x7_2).f2), .string ((rd_T58 l1 x7_2).f3)] 58 (0, 0))) := ⟨(by rw [hw]; exact (by refine bk ?_; refine blk_put (cs := #[.int .i64 ((rd_T58 l1 x7_2).f0), .int .i64 ((rd_T58 l1 x7_2).f1), .int .i64 ((rd_T58 l1 x7_2).f2), .string (⟨#[]⟩ : ByteArray)]) ?_ 3 _ rfl; refine bk ?_; refine blk_put (cs := #[.int .i64 ((rd_T58 l1 x7_2).f0), .int .i64 ((rd_T58 l1 x7_2).f1), .int .i64 0, .string (⟨#[]⟩ : ByteArray)]) ?_ 2 _ rfl; refine bk ?_; refine blk_put (cs := #[.int .i64 ((rd_T58 l1 x7_2).f0), .int .i64 0, .int .i64 0, .string (⟨#[]⟩ : ByteArray)]) ?_ 1 _ rfl; refine bk ?_; refine blk_put (cs := #[.int .i64 0, .int .i64 0, .int .i64 0, .string (⟨#[]⟩ : ByteArray)]) ?_ 0 _ rfl; refine bk ?_; exact BK721.out))⟩; have n3_ : Az (Below w.heap.size w w23) := ⟨(by rw [hw]; exact (by exact pbE HB.out))⟩; clear hw; clear HO_716004; clear BK715; clear BK721; clear HB; have HO_716004 := n0_; have BK715 := n1_; have BK721 := n2_; have HB := n3_; clear n0_ n1_ n2_ n3_; have hcz24 := cells4 BK721.out) | ((with_reducible refine gtc (f := 10) rfl ?_); refine goesL_ (some 51) rfl rfl Tryd.func10 (by kernel_rfl) rfl #[] rfl (by (try simp only [List.map_toArray, List.map_cons, List.map_nil]); first | done | rfl | (simp only [List.length_drop, List.length_take]; rfl)) ?_; (with_reducible refine (l06_live.calls  t722 _ ?side1 A19.out).mono ?_); (case side1 => exact hG.below (by exact pbE HB.out)); rintro e w25 ⟨rfl, hb⟩; refine ⟨_, rfl, ?_⟩; replace HO_716004 := Az.mk (Kd.V_below (Kd.V_ext HO_716004.out) hb); replace BK715 := Az.mk (bkB (bk BK715.out) hb); replace BK721 := Az.mk (bkB (bk BK721.out) hb); replace HB := Az.mk (pbT (by exact pbE HB.out) hb); (try clear hb); (try clear hb2); (try clear hk); (try clear hi)))
          go_ret
          exact ⟨by first | rfl | (simp [errW_none, errW_some] <;> rfl) | (simp [*, errW_none, errW_some] <;> rfl), by exact pbE HB.out⟩
         ·rw [if_neg c18] at H
          have c18b0 : decide (2000 < (((rd_T58 l1 x7_2).f3).size : Int)) = false := decide_eq_false c18
          have c18b1 : decide (2000 < ((rd_T58 l1 x7_2).f3).size) = false := decide_eq_false (by omega)
          clear c18
          have HC26 := Az.mk H
          clear H
          have p720 : 0 ≤ (x7_2 : Int) := of_decide_eq_true (by first | (with_reducible assumption) | assumption)
          have q720 : x7_2 < (l1.length : Int) := of_decide_eq_true (by first | (with_reducible assumption) | assumption)
          have hpos720_ : 0 < l1.length := by omega
          obtain ⟨ad720, e720, hx720_0, hx720_1, hx720_2, hx720_3⟩ := at_T58 HR1.out x7_2 p720 q720
          cases e720
          replace hx720_0 := (HB.out.cell (World.block_lt_of_cell? w _ hx720_0)).trans hx720_0
          replace hx720_1 := (HB.out.cell (World.block_lt_of_cell? w _ hx720_1)).trans hx720_1
          replace hx720_2 := (HB.out.cell (World.block_lt_of_cell? w _ hx720_2)).trans hx720_2
          replace hx720_3 := (HB.out.cell (World.block_lt_of_cell? w _ hx720_3)).trans hx720_3
          replace p720 := eq_true p720
          replace q720 := eq_true q720
          go_upto_block 2 with (first | ((with_reducible refine gate_dst (N := 8) rfl ?_); (try (refine gate_guard (by rfl) ?_; dsimp only)); refine box_event ?hg (N := 8) ?hd (cs := #[.int .i64 0, .int .i64 0, .int .i64 0, .string (⟨#[]⟩ : ByteArray)]) (t := 58) ?hr ?_; (case hd => rfl); (case hg => rfl); (case hr => first | (go_simp; done) | (go_simp; rfl)); intro gb721 hg w27 hbox hb; replace HO_716004 := Az.mk (Kd.V_below (Kd.V_elderB (Kd.V_ext HO_716004.out) gb721 (Nat.le_of_eq hg.symm)) hb); have BK721 := Az.mk (hbox); have GW721 := Az.mk (geO hg (pbE HB.out)); have GE721 := Az.mk (geO hg (pbE HB.out)); replace HB := Az.mk (pbT (by exact pbE HB.out) hb); have NB715_721 := Az.mk (neO hg (bk BK715.out)); have NB721_715 := Az.mk (neP hg (bk BK715.out)); replace BK715 := Az.mk (bkB (bk BK715.out) hb); clear hb hbox hg; have hnb28 := NB721_715.out; have hnc28 := NB715_721.out; have hcz29 := cells4 BK721.out) | ((with_reducible refine gate_store (t := 58) (p := 8) rfl ?_); refine store_event (t := 58) (p := 8) (v := ?vo_w30) (w1 := ((((w27.setCell ⟨gb721, 0, none⟩ (.int .i64 ((rd_T58 l1 x7_2).f0))).setCell ⟨gb721, 1, none⟩ (.int .i64 ((rd_T58 l1 x7_2).f1))).setCell ⟨gb721, 2, none⟩ (.int .i64 ((rd_T58 l1 x7_2).f2))).setCell ⟨gb721, 3, none⟩ (.string ((rd_T58 l1 x7_2).f3)))) ?hg ?ho ?hn ?hr ?_; (case ho => rfl); (case hg => rfl); (case hn => rfl); (case hr => first | (go_simp; done) | (go_simp; rfl)); intro w30 hw; have n0_ : Az (Kd.V k60 60 w30 w.heap.size (fun k_ => k_ ≠ gb715 ∧ k_ ≠ gb721) u716004 x716004_2) := ⟨(by rw [hw]; exact (by (with_reducible repeat (first | apply Kd.V_alloc | apply Kd.V_drewN | apply Kd.V_drew)); exact Kd.V_mono (Kd.V_off (g := gb721) (fun _ hk => hk.2) (Kd.V_mono HO_716004.out (fun k_ hk => (⟨hk, hk.2⟩ : _ ∧ k_ ≠ gb721)))) (fun _ hk => ⟨hk.1.1, hk.1.2⟩)))⟩; have n1_ : Az (w30.heap[gb715]? = some (.cells #[.int .i64 x716000_2, .string x716001_2, .string x716002_2, .int .i64 x716003_2, u716004, .int .i64 x716005_2] 26 (0, 0))) := ⟨(by rw [hw]; exact (bf BK715.out))⟩; have n2_ : Az (w30.heap[gb721]? = some (.cells #[.int .i64 ((rd_T58 l1 x7_2).f0), .int .i64 ((rd_T58 l1 x7_2).f1), .int .i64 ((rd_T58 l1 x7_2).f2), .string ((rd_T58 l1 x7_2).f3)] 58 (0, 0))) := ⟨(by rw [hw]; exact (by refine bk ?_; refine blk_put (cs := #[.int .i64 ((rd_T58 l1 x7_2).f0), .int .i64 ((rd_T58 l1 x7_2).f1), .int .i64 ((rd_T58 l1 x7_2).f2), .string (⟨#[]⟩ : ByteArray)]) ?_ 3 _ rfl; refine bk ?_; refine blk_put (cs := #[.int .i64 ((rd_T58 l1 x7_2).f0), .int .i64 ((rd_T58 l1 x7_2).f1), .int .i64 0, .string (⟨#[]⟩ : ByteArray)]) ?_ 2 _ rfl; refine bk ?_; refine blk_put (cs := #[.int .i64 ((rd_T58 l1 x7_2).f0), .int .i64 0, .int .i64 0, .string (⟨#[]⟩ : ByteArray)]) ?_ 1 _ rfl; refine bk ?_; refine blk_put (cs := #[.int .i64 0, .int .i64 0, .int .i64 0, .string (⟨#[]⟩ : ByteArray)]) ?_ 0 _ rfl; refine bk ?_; exact BK721.out))⟩; have n3_ : Az (Below w.heap.size w w30) := ⟨(by rw [hw]; exact (by exact pbE HB.out))⟩; clear hw; clear HO_716004; clear BK715; clear BK721; clear HB; have HO_716004 := n0_; have BK715 := n1_; have BK721 := n2_; have HB := n3_; clear n0_ n1_ n2_ n3_; have hcz31 := cells4 BK721.out; have hcz32 := cells6 BK715.out) | ((with_reducible refine gate_dst (N := 9) rfl ?_); (try (refine gate_guard (by rfl) ?_; dsimp only)); refine box_event ?hg (N := 9) ?hd (cs := #[.int .i64 0, .string (⟨#[]⟩ : ByteArray), .string (⟨#[]⟩ : ByteArray), .int .i64 0, .slice none 0 0, .int .i64 0]) (t := 26) ?hr ?_; (case hd => rfl); (case hg => rfl); (case hr => first | (go_simp; done) | (go_simp; rfl)); intro gb723 hg w33 hbox hb; replace HO_716004 := Az.mk (Kd.V_below (Kd.V_elderB (Kd.V_ext HO_716004.out) gb723 (Nat.le_of_eq hg.symm)) hb); have BK723 := Az.mk (hbox); have GW723 := Az.mk (geO hg (pbE HB.out)); have GE723 := Az.mk (geO hg (pbE HB.out)); replace HB := Az.mk (pbT (by exact pbE HB.out) hb); have NB715_723 := Az.mk (neO hg (bk BK715.out)); have NB723_715 := Az.mk (neP hg (bk BK715.out)); replace BK715 := Az.mk (bkB (bk BK715.out) hb); have NB721_723 := Az.mk (neO hg (bk BK721.out)); have NB723_721 := Az.mk (neP hg (bk BK721.out)); replace BK721 := Az.mk (bkB (bk BK721.out) hb); clear hb hbox hg; have hnb34 := NB723_715.out; have hnc34 := NB715_723.out; have hnb35 := NB723_721.out; have hnc35 := NB721_723.out; have hcz36 := cells6 BK723.out; obtain ⟨Ao37, co37, eo37⟩ := Kd.V_slice HO_716004.out; subst eo37) | ((with_reducible refine gate_store (t := 26) (p := 9) rfl ?_); refine store_event (t := 26) (p := 9) (v := ?vo_w38) (w1 := ((((((w33.setCell ⟨gb723, 0, none⟩ (.int .i64 x716000_2)).setCell ⟨gb723, 1, none⟩ (.string x716001_2)).setCell ⟨gb723, 2, none⟩ (.string x716002_2)).setCell ⟨gb723, 3, none⟩ (.int .i64 x716003_2)).setCell ⟨gb723, 4, none⟩ (.slice Ao37 x716004_2.length co37)).setCell ⟨gb723, 5, none⟩ (.int .i64 x716005_2))) ?hg ?ho ?hn ?hr ?_; (case ho => rfl); (case hg => rfl); (case hn => rfl); (case hr => first | (go_simp; done) | (go_simp; rfl)); intro w38 hw; have n0_ : Az (Kd.V k60 60 w38 w.heap.size (fun k_ => k_ ≠ gb715 ∧ k_ ≠ gb721 ∧ k_ ≠ gb723) (.slice Ao37 x716004_2.length co37) x716004_2) := ⟨(by rw [hw]; exact (by (with_reducible repeat (first | apply Kd.V_alloc | apply Kd.V_drewN | apply Kd.V_drew)); exact Kd.V_mono (Kd.V_off (g := gb723) (fun _ hk => hk.2) (Kd.V_mono HO_716004.out (fun k_ hk => (⟨hk, hk.2⟩ : _ ∧ k_ ≠ gb723)))) (fun _ hk => ⟨hk.1.1.1, ⟨hk.1.1.2, hk.1.2⟩⟩)))⟩; have n1_ : Az (w38.heap[gb715]? = some (.cells #[.int .i64 x716000_2, .string x716001_2, .string x716002_2, .int .i64 x716003_2, .slice Ao37 x716004_2.length co37, .int .i64 x716005_2] 26 (0, 0))) := ⟨(by rw [hw]; exact (bf BK715.out))⟩; have n2_ : Az (w38.heap[gb721]? = some (.cells #[.int .i64 ((rd_T58 l1 x7_2).f0), .int .i64 ((rd_T58 l1 x7_2).f1), .int .i64 ((rd_T58 l1 x7_2).f2), .string ((rd_T58 l1 x7_2).f3)] 58 (0, 0))) := ⟨(by rw [hw]; exact (bf BK721.out))⟩; have n3_ : Az (w38.heap[gb723]? = some (.cells #[.int .i64 x716000_2, .string x716001_2, .string x716002_2, .int .i64 x716003_2, .slice Ao37 x716004_2.length co37, .int .i64 x716005_2] 26 (0, 0))) := ⟨(by rw [hw]; exact (by refine bk ?_; refine blk_put (cs := #[.int .i64 x716000_2, .string x716001_2, .string x716002_2, .int .i64 x716003_2, .slice Ao37 x716004_2.length co37, .int .i64 0]) ?_ 5 _ rfl; refine bk ?_; refine blk_put (cs := #[.int .i64 x716000_2, .string x716001_2, .string x716002_2, .int .i64 x716003_2, .slice none 0 0, .int .i64 0]) ?_ 4 _ rfl; refine bk ?_; refine blk_put (cs := #[.int .i64 x716000_2, .string x716001_2, .string x716002_2, .int .i64 0, .slice none 0 0, .int .i64 0]) ?_ 3 _ rfl; refine bk ?_; refine blk_put (cs := #[.int .i64 x716000_2, .string x716001_2, .string (⟨#[]⟩ : ByteArray), .int .i64 0, .slice none 0 0, .int .i64 0]) ?_ 2 _ rfl; refine bk ?_; refine blk_put (cs := #[.int .i64 x716000_2, .string (⟨#[]⟩ : ByteArray), .string (⟨#[]⟩ : ByteArray), .int .i64 0, .slice none 0 0, .int .i64 0]) ?_ 1 _ rfl; refine bk ?_; refine blk_put (cs := #[.int .i64 0, .string (⟨#[]⟩ : ByteArray), .string (⟨#[]⟩ : ByteArray), .int .i64 0, .slice none 0 0, .int .i64 0]) ?_ 0 _ rfl; refine bk ?_; exact BK723.out))⟩; have n4_ : Az (Below w.heap.size w w38) := ⟨(by rw [hw]; exact (by exact pbE HB.out))⟩; clear hw; clear HO_716004; clear BK715; clear BK721; clear BK723; clear HB; have HO_716004 := n0_; have BK715 := n1_; have BK721 := n2_; have BK723 := n3_; have HB := n4_; clear n0_ n1_ n2_ n3_ n4_; have hcz39 := cells4 BK721.out))
          (try simp only [Act.put, List.setIfInBounds_toArray, List.set_cons_zero, List.set_cons_succ])
          go_cut [10] (fun v10 wc => ∃ (kq : Nat) (x10_25 : Int) (x724000_25 : Int) (x724001_25 : ByteArray) (x724002_25 : ByteArray) (x724003_25 : Int) (x724004_25 : List (S60)) (x724005_25 : Int) (u724004 : Value), v10 = .int .i64 x10_25 ∧ Az (l06_DescRises.j2 kq l1 x7_2 x10_25 x716000_2 x716001_2 x716002_2 x716003_2 x716004_2 x716005_2 x724000_25 x724001_25 x724002_25 x724003_25 x724004_25 x724005_25 = some r) ∧ Az (kq ≤ k2) ∧ Az (Kd.V k60 60 wc w.heap.size (fun k_ => k_ ≠ gb715 ∧ k_ ≠ gb721 ∧ k_ ≠ gb723) (.slice Ao37 x716004_2.length co37) x716004_2) ∧ Az (Kd.V k60 60 wc w.heap.size (fun k_ => k_ ≠ gb715 ∧ k_ ≠ gb721 ∧ k_ ≠ gb723) u724004 x724004_25) ∧ Az (wc.heap[gb715]? = some (.cells #[.int .i64 x716000_2, .string x716001_2, .string x716002_2, .int .i64 x716003_2, (.slice Ao37 x716004_2.length co37), .int .i64 x716005_2] 26 (0, 0))) ∧ Az (wc.heap[gb721]? = some (.cells #[.int .i64 ((rd_T58 l1 x7_2).f0), .int .i64 ((rd_T58 l1 x7_2).f1), .int .i64 ((rd_T58 l1 x7_2).f2), .string ((rd_T58 l1 x7_2).f3)] 58 (0, 0))) ∧ Az (wc.heap[gb723]? = some (.cells #[.int .i64 x724000_25, .string x724001_25, .string x724002_25, .int .i64 x724003_25, u724004, .int .i64 x724005_25] 26 (0, 0))) ∧ Az (Below w.heap.size w wc))
          case first =>
           have H := HC26.out
           clear HC26
           by_cases c40 : ((rd_T58 l1 x7_2).f0) = 0
           ·rw [if_pos c40] at H
            have c40b0 : (((rd_T58 l1 x7_2).f0) == 0) = true := beq_iff_eq.mpr c40
            have c40b1 : (((rd_T58 l1 x7_2).f0) != 0) = false := bne_eq_false_iff_eq.mpr c40
            clear c40
            (first | rw [c40b0] | (simp only [i64_w, i32_w]; rw [c40b0]) | skip)
            replace H := Option.bind_eq_some_iff.mp H
            obtain ⟨⟨t724, t725, t726, t727, t728, t731, t732⟩, A410, H⟩ := H
            replace H : (l06_DescRises.j2 k2 l1 x7_2 t732 x716000_2 x716001_2 x716002_2 x716003_2 x716004_2 x716005_2 t724 t725 t726 t727 t728 t731) = some r := H
            have A41 := Az.mk A410
            clear A410
            have H' := Az.mk H
            clear H
            have hnb42 := NB715_721.out
            have hnc42 := NB721_715.out
            have hnb43 := NB715_723.out
            have hnc43 := NB723_715.out
            have hcz44 := cells6 BK715.out
            have hnb45 := NB721_723.out
            have hnc45 := NB723_721.out
            have hcz46 := cells4 BK721.out
            go_wp2_with (first | ((with_reducible refine gtc (f := 25) rfl ?_); refine goesL_ (some 61) rfl rfl Tryd.func25 (by kernel_rfl) rfl #[.agg #[.int .i64 x716000_2, .string x716001_2, .string x716002_2, .int .i64 x716003_2, .slice Ao37 x716004_2.length co37, .int .i64 x716005_2], .int .i64 ((rd_T58 l1 x7_2).f1)] rfl (by (try simp only [List.map_toArray, List.map_cons, List.map_nil]); first | done | rfl | (simp only [List.length_drop, List.length_take]; rfl)) ?_; (with_reducible refine (desc_Add.calls x716000_2 x716001_2 x716002_2 x716003_2 _ _ x716004_2 x716005_2 ((rd_T58 l1 x7_2).f1) t724 t725 t726 t727 t728 t731 t732 _ ?side1 ?side2 ?side3 A41.out).mono ?_); (case side1 => exact hG.below (by exact pbE HB.out)); (case side2 => repeat (first | exact (Kd.V_reads' HO_716004.out).2.2 | (with_reducible refine Kd.C_alloc ?_ _) | (with_reducible refine Kd.C_drewN ?_ _) | (with_reducible refine Kd.C_drew ?_))); (case side3 => exact (Kd.V_reads' HO_716004.out).2.1); rintro e w47 ⟨v729, rfl, ho0, hb⟩; refine ⟨_, rfl, ?_⟩; replace HO_716004 := Az.mk (Kd.V_below (Kd.V_ext HO_716004.out) hb); have HO730 := Az.mk (Kd.V_lower (Kd.V_mono (ok' := fun k_ => k_ ≠ gb715 ∧ k_ ≠ gb721 ∧ k_ ≠ gb723) ho0 (fun k_ hk_ => ⟨(Kd.freshB (bk BK715.out) k_ hk_), (Kd.freshB (bk BK721.out) k_ hk_), (Kd.freshB (bk BK723.out) k_ hk_)⟩)) (pbZ (by exact pbE HB.out))); replace BK715 := Az.mk (bkB (bk BK715.out) hb); replace BK721 := Az.mk (bkB (bk BK721.out) hb); replace BK723 := Az.mk (bkB (bk BK723.out) hb); replace HB := Az.mk (pbT (by exact pbE HB.out) hb); (try clear hb); (try clear hb2); (try clear hk); (try clear hi); (try clear ho0); have hcz48 := cells6 BK723.out; obtain ⟨Ao49, co49, eo49⟩ := Kd.V_slice HO730.out; subst eo49) | ((with_reducible refine gate_store (t := 26) (p := 9) rfl ?_); refine store_event (t := 26) (p := 9) (v := ?vo_w50) (w1 := ((((((w47.setCell ⟨gb723, 0, none⟩ (.int .i64 t724)).setCell ⟨gb723, 1, none⟩ (.string t725)).setCell ⟨gb723, 2, none⟩ (.string t726)).setCell ⟨gb723, 3, none⟩ (.int .i64 t727)).setCell ⟨gb723, 4, none⟩ (.slice Ao49 t728.length co49)).setCell ⟨gb723, 5, none⟩ (.int .i64 t731))) ?hg ?ho ?hn ?hr ?_; (case ho => rfl); (case hg => rfl); (case hn => rfl); (case hr => first | (go_simp; done) | (go_simp; rfl)); intro w50 hw; have n0_ : Az (Kd.V k60 60 w50 w.heap.size (fun k_ => k_ ≠ gb715 ∧ k_ ≠ gb721 ∧ k_ ≠ gb723) (.slice Ao37 x716004_2.length co37) x716004_2) := ⟨(by rw [hw]; exact (by (with_reducible repeat (first | apply Kd.V_alloc | apply Kd.V_drewN | apply Kd.V_drew)); exact Kd.V_mono (Kd.V_off (g := gb723) (fun _ hk => hk.2) (Kd.V_mono HO_716004.out (fun k_ hk => (⟨hk, hk.2.2⟩ : _ ∧ k_ ≠ gb723)))) (fun _ hk => ⟨hk.1.1, ⟨hk.1.2.1, hk.1.2.2⟩⟩)))⟩; have n1_ : Az (Kd.V k60 60 w50 w.heap.size (fun k_ => k_ ≠ gb715 ∧ k_ ≠ gb721 ∧ k_ ≠ gb723) (.slice Ao49 t728.length co49) t728) := ⟨(by rw [hw]; exact (by (with_reducible repeat (first | apply Kd.V_alloc | apply Kd.V_drewN | apply Kd.V_drew)); exact Kd.V_mono (Kd.V_off (g := gb723) (fun _ hk => hk.2) (Kd.V_mono HO730.out (fun k_ hk => (⟨hk, hk.2.2⟩ : _ ∧ k_ ≠ gb723)))) (fun _ hk => ⟨hk.1.1, ⟨hk.1.2.1, hk.1.2.2⟩⟩)))⟩; have n2_ : Az (w50.heap[gb715]? = some (.cells #[.int .i64 x716000_2, .string x716001_2, .string x716002_2, .int .i64 x716003_2, .slice Ao37 x716004_2.length co37, .int .i64 x716005_2] 26 (0, 0))) := ⟨(by rw [hw]; exact (bf BK715.out))⟩; have n3_ : Az (w50.heap[gb721]? = some (.cells #[.int .i64 ((rd_T58 l1 x7_2).f0), .int .i64 ((rd_T58 l1 x7_2).f1), .int .i64 ((rd_T58 l1 x7_2).f2), .string ((rd_T58 l1 x7_2).f3)] 58 (0, 0))) := ⟨(by rw [hw]; exact (bf BK721.out))⟩; have n4_ : Az (w50.heap[gb723]? = some (.cells #[.int .i64 t724, .string t725, .string t726, .int .i64 t727, .slice Ao49 t728.length co49, .int .i64 t731] 26 (0, 0))) := ⟨(by rw [hw]; exact (by refine bk ?_; refine blk_put (cs := #[.int .i64 t724, .string t725, .string t726, .int .i64 t727, .slice Ao49 t728.length co49, .int .i64 x716005_2]) ?_ 5 _ rfl; refine bk ?_; refine blk_put (cs := #[.int .i64 t724, .string t725, .string t726, .int .i64 t727, .slice Ao37 x716004_2.length co37, .int .i64 x716005_2]) ?_ 4 _ rfl; refine bk ?_; refine blk_put (cs := #[.int .i64 t724, .string t725, .string t726, .int .i64 x716003_2, .slice Ao37 x716004_2.length co37, .int .i64 x716005_2]) ?_ 3 _ rfl; refine bk ?_; refine blk_put (cs := #[.int .i64 t724, .string t725, .string x716002_2, .int .i64 x716003_2, .slice Ao37 x716004_2.length co37, .int .i64 x716005_2]) ?_ 2 _ rfl; refine bk ?_; refine blk_put (cs := #[.int .i64 t724, .string x716001_2, .string x716002_2, .int .i64 x716003_2, .slice Ao37 x716004_2.length co37, .int .i64 x716005_2]) ?_ 1 _ rfl; refine bk ?_; refine blk_put (cs := #[.int .i64 x716000_2, .string x716001_2, .string x716002_2, .int .i64 x716003_2, .slice Ao37 x716004_2.length co37, .int .i64 x716005_2]) ?_ 0 _ rfl; refine bk ?_; exact BK723.out))⟩; have n5_ : Az (Below w.heap.size w w50) := ⟨(by rw [hw]; exact (by exact pbE HB.out))⟩; clear hw; clear HO_716004; clear HO730; clear BK715; clear BK721; clear BK723; clear HB; have HO_716004 := n0_; have HO730 := n1_; have BK715 := n2_; have BK721 := n3_; have BK723 := n4_; have HB := n5_; clear n0_ n1_ n2_ n3_ n4_ n5_))
            go_meet
            case rel => exact ⟨_, (t732), (t724), (t725), (t726), (t727), (t728), (t731), (.slice Ao49 t728.length co49), (by first | rfl | (simp; done) | (simp [*]; done)), H', ⟨by have := HJ2.out; have := HK2.out; first | omega | exact Nat.le_refl _⟩, ⟨by (with_reducible repeat (first | apply Kd.V_alloc | apply Kd.V_drewN | apply Kd.V_drew)); exact HO_716004.out⟩, ⟨by (with_reducible repeat (first | apply Kd.V_alloc | apply Kd.V_drewN | apply Kd.V_drew)); exact HO730.out⟩, ⟨by refine bk ?_; exact BK715.out⟩, ⟨by refine bk ?_; exact BK721.out⟩, ⟨by refine bk ?_; exact BK723.out⟩, ⟨by exact pbE HB.out⟩⟩
           ·rw [if_neg c40] at H
            have c40b0 : (((rd_T58 l1 x7_2).f0) == 0) = false := beq_eq_false_iff_ne.mpr c40
            have c40b1 : (((rd_T58 l1 x7_2).f0) != 0) = true := bne_iff_ne.mpr c40
            (first | rw [c40b0] | (simp only [i64_w, i32_w]; rw [c40b0]) | skip)
            by_cases c51 : ((rd_T58 l1 x7_2).f0) = 1
            ·rw [if_pos c51] at H
             have c51b0 : (((rd_T58 l1 x7_2).f0) == 1) = true := beq_iff_eq.mpr c51
             have c51b1 : (((rd_T58 l1 x7_2).f0) != 1) = false := bne_eq_false_iff_eq.mpr c51
             clear c51
             replace H := Option.bind_eq_some_iff.mp H
             obtain ⟨⟨t733, t734, t735, t736, t737, t740, t741⟩, A520, H⟩ := H
             replace H : (l06_DescRises.j2 k2 l1 x7_2 t741 x716000_2 x716001_2 x716002_2 x716003_2 x716004_2 x716005_2 t733 t734 t735 t736 t737 t740) = some r := H
             have A52 := Az.mk A520
             clear A520
             have H' := Az.mk H
             clear H
             have hnb53 := NB715_721.out
             have hnc53 := NB721_715.out
             have hnb54 := NB715_723.out
             have hnc54 := NB723_715.out
             have hcz55 := cells6 BK715.out
             have hnb56 := NB721_723.out
             have hnc56 := NB723_721.out
             have hcz57 := cells4 BK721.out
             go_wp2_with (first | ((with_reducible refine gtc (f := 27) rfl ?_); refine goesL_ (some 70) rfl rfl Tryd.func27 (by kernel_rfl) rfl #[.agg #[.int .i64 x716000_2, .string x716001_2, .string x716002_2, .int .i64 x716003_2, .slice Ao37 x716004_2.length co37, .int .i64 x716005_2], .int .i64 ((rd_T58 l1 x7_2).f2)] rfl (by (try simp only [List.map_toArray, List.map_cons, List.map_nil]); first | done | rfl | (simp only [List.length_drop, List.length_take]; rfl)) ?_; (with_reducible refine (desc_Remove.calls x716000_2 x716001_2 x716002_2 x716003_2 _ _ x716004_2 x716005_2 ((rd_T58 l1 x7_2).f2) t733 t734 t735 t736 t737 t740 t741 _ ?side1 ?side2 ?side3 A52.out).mono ?_); (case side1 => exact hG.below (by exact pbE HB.out)); (case side2 => repeat (first | exact (Kd.V_reads' HO_716004.out).2.2 | (with_reducible refine Kd.C_alloc ?_ _) | (with_reducible refine Kd.C_drewN ?_ _) | (with_reducible refine Kd.C_drew ?_))); (case side3 => exact (Kd.V_reads' HO_716004.out).2.1); rintro e w58 ⟨v738, rfl, ho0, hb⟩; refine ⟨_, rfl, ?_⟩; replace HO_716004 := Az.mk (Kd.V_below (Kd.V_ext HO_716004.out) hb); have HO739 := Az.mk (Kd.V_lower (Kd.V_mono (ok' := fun k_ => k_ ≠ gb715 ∧ k_ ≠ gb721 ∧ k_ ≠ gb723) ho0 (fun k_ hk_ => ⟨(Kd.freshB (bk BK715.out) k_ hk_), (Kd.freshB (bk BK721.out) k_ hk_), (Kd.freshB (bk BK723.out) k_ hk_)⟩)) (pbZ (by exact pbE HB.out))); replace BK715 := Az.mk (bkB (bk BK715.out) hb); replace BK721 := Az.mk (bkB (bk BK721.out) hb); replace BK723 := Az.mk (bkB (bk BK723.out) hb); replace HB := Az.mk (pbT (by exact pbE HB.out) hb); (try clear hb); (try clear hb2); (try clear hk); (try clear hi); (try clear ho0); have hcz59 := cells6 BK723.out; obtain ⟨Ao60, co60, eo60⟩ := Kd.V_slice HO739.out; subst eo60) | ((with_reducible refine gate_store (t := 26) (p := 9) rfl ?_); refine store_event (t := 26) (p := 9) (v := ?vo_w61) (w1 := ((((((w58.setCell ⟨gb723, 0, none⟩ (.int .i64 t733)).setCell ⟨gb723, 1, none⟩ (.string t734)).setCell ⟨gb723, 2, none⟩ (.string t735)).setCell ⟨gb723, 3, none⟩ (.int .i64 t736)).setCell ⟨gb723, 4, none⟩ (.slice Ao60 t737.length co60)).setCell ⟨gb723, 5, none⟩ (.int .i64 t740))) ?hg ?ho ?hn ?hr ?_; (case ho => rfl); (case hg => rfl); (case hn => rfl); (case hr => first | (go_simp; done) | (go_simp; rfl)); intro w61 hw; have n0_ : Az (Kd.V k60 60 w61 w.heap.size (fun k_ => k_ ≠ gb715 ∧ k_ ≠ gb721 ∧ k_ ≠ gb723) (.slice Ao37 x716004_2.length co37) x716004_2) := ⟨(by rw [hw]; exact (by (with_reducible repeat (first | apply Kd.V_alloc | apply Kd.V_drewN | apply Kd.V_drew)); exact Kd.V_mono (Kd.V_off (g := gb723) (fun _ hk => hk.2) (Kd.V_mono HO_716004.out (fun k_ hk => (⟨hk, hk.2.2⟩ : _ ∧ k_ ≠ gb723)))) (fun _ hk => ⟨hk.1.1, ⟨hk.1.2.1, hk.1.2.2⟩⟩)))⟩; have n1_ : Az (Kd.V k60 60 w61 w.heap.size (fun k_ => k_ ≠ gb715 ∧ k_ ≠ gb721 ∧ k_ ≠ gb723) (.slice Ao60 t737.length co60) t737) := ⟨(by rw [hw]; exact (by (with_reducible repeat (first | apply Kd.V_alloc | apply Kd.V_drewN | apply Kd.V_drew)); exact Kd.V_mono (Kd.V_off (g := gb723) (fun _ hk => hk.2) (Kd.V_mono HO739.out (fun k_ hk => (⟨hk, hk.2.2⟩ : _ ∧ k_ ≠ gb723)))) (fun _ hk => ⟨hk.1.1, ⟨hk.1.2.1, hk.1.2.2⟩⟩)))⟩; have n2_ : Az (w61.heap[gb715]? = some (.cells #[.int .i64 x716000_2, .string x716001_2, .string x716002_2, .int .i64 x716003_2, .slice Ao37 x716004_2.length co37, .int .i64 x716005_2] 26 (0, 0))) := ⟨(by rw [hw]; exact (bf BK715.out))⟩; have n3_ : Az (w61.heap[gb721]? = some (.cells #[.int .i64 ((rd_T58 l1 x7_2).f0), .int .i64 ((rd_T58 l1 x7_2).f1), .int .i64 ((rd_T58 l1 x7_2).f2), .string ((rd_T58 l1 x7_2).f3)] 58 (0, 0))) := ⟨(by rw [hw]; exact (bf BK721.out))⟩; have n4_ : Az (w61.heap[gb723]? = some (.cells #[.int .i64 t733, .string t734, .string t735, .int .i64 t736, .slice Ao60 t737.length co60, .int .i64 t740] 26 (0, 0))) := ⟨(by rw [hw]; exact (by refine bk ?_; refine blk_put (cs := #[.int .i64 t733, .string t734, .string t735, .int .i64 t736, .slice Ao60 t737.length co60, .int .i64 x716005_2]) ?_ 5 _ rfl; refine bk ?_; refine blk_put (cs := #[.int .i64 t733, .string t734, .string t735, .int .i64 t736, .slice Ao37 x716004_2.length co37, .int .i64 x716005_2]) ?_ 4 _ rfl; refine bk ?_; refine blk_put (cs := #[.int .i64 t733, .string t734, .string t735, .int .i64 x716003_2, .slice Ao37 x716004_2.length co37, .int .i64 x716005_2]) ?_ 3 _ rfl; refine bk ?_; refine blk_put (cs := #[.int .i64 t733, .string t734, .string x716002_2, .int .i64 x716003_2, .slice Ao37 x716004_2.length co37, .int .i64 x716005_2]) ?_ 2 _ rfl; refine bk ?_; refine blk_put (cs := #[.int .i64 t733, .string x716001_2, .string x716002_2, .int .i64 x716003_2, .slice Ao37 x716004_2.length co37, .int .i64 x716005_2]) ?_ 1 _ rfl; refine bk ?_; refine blk_put (cs := #[.int .i64 x716000_2, .string x716001_2, .string x716002_2, .int .i64 x716003_2, .slice Ao37 x716004_2.length co37, .int .i64 x716005_2]) ?_ 0 _ rfl; refine bk ?_; exact BK723.out))⟩; have n5_ : Az (Below w.heap.size w w61) := ⟨(by rw [hw]; exact (by exact pbE HB.out))⟩; clear hw; clear HO_716004; clear HO739; clear BK715; clear BK721; clear BK723; clear HB; have HO_716004 := n0_; have HO739 := n1_; have BK715 := n2_; have BK721 := n3_; have BK723 := n4_; have HB := n5_; clear n0_ n1_ n2_ n3_ n4_ n5_))
             go_meet
             case rel => exact ⟨_, (t741), (t733), (t734), (t735), (t736), (t737), (t740), (.slice Ao60 t737.length co60), (by first | rfl | (simp; done) | (simp [*]; done)), H', ⟨by have := HJ2.out; have := HK2.out; first | omega | exact Nat.le_refl _⟩, ⟨by (with_reducible repeat (first | apply Kd.V_alloc | apply Kd.V_drewN | apply Kd.V_drew)); exact HO_716004.out⟩, ⟨by (with_reducible repeat (first | apply Kd.V_alloc | apply Kd.V_drewN | apply Kd.V_drew)); exact HO739.out⟩, ⟨by refine bk ?_; exact BK715.out⟩, ⟨by refine bk ?_; exact BK721.out⟩, ⟨by refine bk ?_; exact BK723.out⟩, ⟨by exact pbE HB.out⟩⟩
            ·rw [if_neg c51] at H
             have c51b0 : (((rd_T58 l1 x7_2).f0) == 1) = false := beq_eq_false_iff_ne.mpr c51
             have c51b1 : (((rd_T58 l1 x7_2).f0) != 1) = true := bne_iff_ne.mpr c51
             by_cases c62 : ((rd_T58 l1 x7_2).f0) = 2
             ·rw [if_pos c62] at H
              have c62b0 : (((rd_T58 l1 x7_2).f0) == 2) = true := beq_iff_eq.mpr c62
              have c62b1 : (((rd_T58 l1 x7_2).f0) != 2) = false := bne_eq_false_iff_eq.mpr c62
              clear c62
              replace H := Option.bind_eq_some_iff.mp H
              obtain ⟨⟨t742, t743, t744, t745, t746, t749, t750, t751, t752, t753, t754, t757, t758⟩, A630, H⟩ := H
              replace H : (l06_DescRises.j2 k2 l1 x7_2 t758 x716000_2 x716001_2 x716002_2 x716003_2 x716004_2 x716005_2 t742 t743 t744 t745 t746 t749) = some r := H
              have A63 := Az.mk A630
              clear A630
              have H' := Az.mk H
              clear H
              have hnb64 := NB715_721.out
              have hnc64 := NB721_715.out
              have hnb65 := NB715_723.out
              have hnc65 := NB723_715.out
              have hcz66 := cells6 BK715.out
              have hnb67 := NB721_723.out
              have hnc67 := NB723_721.out
              have hcz68 := cells4 BK721.out
              go_wp2_with (first | ((with_reducible refine gtc (f := 11) rfl ?_); refine goesL_ (some 81) rfl rfl Tryd.func11 (by kernel_rfl) rfl #[.agg #[.int .i64 x716000_2, .string x716001_2, .string x716002_2, .int .i64 x716003_2, .slice Ao37 x716004_2.length co37, .int .i64 x716005_2], .string ((rd_T58 l1 x7_2).f3), .int .i64 ((rd_T58 l1 x7_2).f2)] rfl (by (try simp only [List.map_toArray, List.map_cons, List.map_nil]); first | done | rfl | (simp only [List.length_drop, List.length_take]; rfl)) ?_; (with_reducible refine (desc_Split.calls x716000_2 x716001_2 x716002_2 x716003_2 (fun k_ => (k_ ≠ gb715 ∧ (k_ ≠ gb721 ∧ k_ ≠ gb723))) _ _ x716004_2 x716005_2 ((rd_T58 l1 x7_2).f3) ((rd_T58 l1 x7_2).f2) t742 t743 t744 t745 t746 t749 t750 t751 t752 t753 t754 t757 t758 _ ?side1 ?side2 A63.out).mono ?_); (case side1 => exact hG.below (by exact pbE HB.out)); (case side2 => exact HO_716004.out); rintro e w69 ⟨v747, v755, rfl, ho0, ho1, hb⟩; refine ⟨_, rfl, ?_⟩; replace HO_716004 := Az.mk (Kd.V_elder' (Kd.V_ext HO_716004.out) (Kd.R_base ho1) hb); have HO748 := Az.mk (Kd.V_lower (Kd.V_mono (ok' := fun k_ => some k_ ≠ (v755 : Value).ownBlock ∧ k_ ≠ gb715 ∧ k_ ≠ gb721 ∧ k_ ≠ gb723) ho0 (fun k_ hk_ => ⟨hk_.2, Or.elim hk_.1 (fun hs_ => hs_.1) (fun hn_ => (Kd.freshB (bk BK715.out) k_ hn_)), Or.elim hk_.1 (fun hs_ => hs_.2.1) (fun hn_ => (Kd.freshB (bk BK721.out) k_ hn_)), Or.elim hk_.1 (fun hs_ => hs_.2.2) (fun hn_ => (Kd.freshB (bk BK723.out) k_ hn_))⟩)) (pbZ (by exact pbE HB.out))); have HO756 := Az.mk (Kd.R_lower (Kd.R_mono (ok' := fun k_ => True) ho1 (fun _ hk_ => trivial)) (pbZ (by exact pbE HB.out))); replace BK715 := Az.mk (bkB (bk BK715.out) hb); replace BK721 := Az.mk (bkB (bk BK721.out) hb); replace BK723 := Az.mk (bkB (bk BK723.out) hb); replace HB := Az.mk (pbT (by exact pbE HB.out) hb); (try clear hb); (try clear hb2); (try clear hk); (try clear hi); (try clear ho0); (try clear ho1); have hcz70 := cells6 BK723.out; obtain ⟨Ao71, co71, eo71⟩ := Kd.V_slice HO748.out; subst eo71) | ((with_reducible refine gate_store (t := 26) (p := 9) rfl ?_); refine store_event (t := 26) (p := 9) (v := ?vo_w72) (w1 := ((((((w69.setCell ⟨gb723, 0, none⟩ (.int .i64 t742)).setCell ⟨gb723, 1, none⟩ (.string t743)).setCell ⟨gb723, 2, none⟩ (.string t744)).setCell ⟨gb723, 3, none⟩ (.int .i64 t745)).setCell ⟨gb723, 4, none⟩ (.slice Ao71 t746.length co71)).setCell ⟨gb723, 5, none⟩ (.int .i64 t749))) ?hg ?ho ?hn ?hr ?_; (case ho => rfl); (case hg => rfl); (case hn => rfl); (case hr => first | (go_simp; done) | (go_simp; rfl)); intro w72 hw; have n0_ : Az (Kd.V k60 60 w72 w.heap.size (fun k_ => some k_ ≠ (v755 : Value).ownBlock ∧ k_ ≠ gb715 ∧ k_ ≠ gb721 ∧ k_ ≠ gb723) (.slice Ao37 x716004_2.length co37) x716004_2) := ⟨(by rw [hw]; exact (by (with_reducible repeat (first | apply Kd.V_alloc | apply Kd.V_drewN | apply Kd.V_drew)); exact Kd.V_mono (Kd.V_off (g := gb723) (fun _ hk => hk.2) (Kd.V_mono HO_716004.out (fun k_ hk => (⟨hk, hk.1.2.2⟩ : _ ∧ k_ ≠ gb723)))) (fun _ hk => ⟨hk.1.2, ⟨hk.1.1.1, ⟨hk.1.1.2.1, hk.1.1.2.2⟩⟩⟩)))⟩; have n1_ : Az (Kd.V k60 60 w72 w.heap.size (fun k_ => some k_ ≠ (v755 : Value).ownBlock ∧ k_ ≠ gb715 ∧ k_ ≠ gb721 ∧ k_ ≠ gb723) (.slice Ao71 t746.length co71) t746) := ⟨(by rw [hw]; exact (by (with_reducible repeat (first | apply Kd.V_alloc | apply Kd.V_drewN | apply Kd.V_drew)); exact Kd.V_mono (Kd.V_off (g := gb723) (fun _ hk => hk.2) (Kd.V_mono HO748.out (fun k_ hk => (⟨hk, hk.2.2.2⟩ : _ ∧ k_ ≠ gb723)))) (fun _ hk => ⟨hk.1.1, ⟨hk.1.2.1, ⟨hk.1.2.2.1, hk.1.2.2.2⟩⟩⟩)))⟩; have n2_ : Az (Kd.R k60 60 w72 w.heap.size (fun _ => True) v755 t754) := ⟨(by rw [hw]; exact (by (with_reducible repeat (first | apply Kd.R_alloc | apply Kd.R_drewN | apply Kd.R_drew)); exact Kd.R_mono (Kd.R_far (p := ⟨gb723, 5, none⟩) (Kd.R_far (p := ⟨gb723, 4, none⟩) (Kd.R_far (p := ⟨gb723, 3, none⟩) (Kd.R_far (p := ⟨gb723, 2, none⟩) (Kd.R_far (p := ⟨gb723, 1, none⟩) (Kd.R_far (p := ⟨gb723, 0, none⟩) (Kd.R_types HO756.out BK723.out (by decide)) (fun _ hk => hk.2) (.int .i64 t742)) (fun _ hk => hk.2) (.string t743)) (fun _ hk => hk.2) (.string t744)) (fun _ hk => hk.2) (.int .i64 t745)) (fun _ hk => hk.2) (.slice Ao71 t746.length co71)) (fun _ hk => hk.2) (.int .i64 t749)) (fun _ hk => trivial)))⟩; have n3_ : Az (w72.heap[gb715]? = some (.cells #[.int .i64 x716000_2, .string x716001_2, .string x716002_2, .int .i64 x716003_2, .slice Ao37 x716004_2.length co37, .int .i64 x716005_2] 26 (0, 0))) := ⟨(by rw [hw]; exact (bf BK715.out))⟩; have n4_ : Az (w72.heap[gb721]? = some (.cells #[.int .i64 ((rd_T58 l1 x7_2).f0), .int .i64 ((rd_T58 l1 x7_2).f1), .int .i64 ((rd_T58 l1 x7_2).f2), .string ((rd_T58 l1 x7_2).f3)] 58 (0, 0))) := ⟨(by rw [hw]; exact (bf BK721.out))⟩; have n5_ : Az (w72.heap[gb723]? = some (.cells #[.int .i64 t742, .string t743, .string t744, .int .i64 t745, .slice Ao71 t746.length co71, .int .i64 t749] 26 (0, 0))) := ⟨(by rw [hw]; exact (by refine bk ?_; refine blk_put (cs := #[.int .i64 t742, .string t743, .string t744, .int .i64 t745, .slice Ao71 t746.length co71, .int .i64 x716005_2]) ?_ 5 _ rfl; refine bk ?_; refine blk_put (cs := #[.int .i64 t742, .string t743, .string t744, .int .i64 t745, .slice Ao37 x716004_2.length co37, .int .i64 x716005_2]) ?_ 4 _ rfl; refine bk ?_; refine blk_put (cs := #[.int .i64 t742, .string t743, .string t744, .int .i64 x716003_2, .slice Ao37 x716004_2.length co37, .int .i64 x716005_2]) ?_ 3 _ rfl; refine bk ?_; refine blk_put (cs := #[.int .i64 t742, .string t743, .string x716002_2, .int .i64 x716003_2, .slice Ao37 x716004_2.length co37, .int .i64 x716005_2]) ?_ 2 _ rfl; refine bk ?_; refine blk_put (cs := #[.int .i64 t742, .string x716001_2, .string x716002_2, .int .i64 x716003_2, .slice Ao37 x716004_2.length co37, .int .i64 x716005_2]) ?_ 1 _ rfl; refine bk ?_; refine blk_put (cs := #[.int .i64 x716000_2, .string x716001_2, .string x716002_2, .int .i64 x716003_2, .slice Ao37 x716004_2.length co37, .int .i64 x716005_2]) ?_ 0 _ rfl; refine bk ?_; exact BK723.out))⟩; have n6_ : Az (Below w.heap.size w w72) := ⟨(by rw [hw]; exact (by exact pbE HB.out))⟩; clear hw; clear HO_716004; clear HO748; clear HO756; clear BK715; clear BK721; clear BK723; clear HB; have HO_716004 := n0_; have HO748 := n1_; have HO756 := n2_; have BK715 := n3_; have BK721 := n4_; have BK723 := n5_; have HB := n6_; clear n0_ n1_ n2_ n3_ n4_ n5_ n6_))
              go_meet
              case rel => exact ⟨_, (t758), (t742), (t743), (t744), (t745), (t746), (t749), (.slice Ao71 t746.length co71), (by first | rfl | (simp; done) | (simp [*]; done)), H', ⟨by have := HJ2.out; have := HK2.out; first | omega | exact Nat.le_refl _⟩, ⟨by (with_reducible repeat (first | apply Kd.V_alloc | apply Kd.V_drewN | apply Kd.V_drew)); exact Kd.V_mono HO_716004.out (fun _ hk => ⟨hk.2.1, ⟨hk.2.2.1, hk.2.2.2⟩⟩)⟩, ⟨by (with_reducible repeat (first | apply Kd.V_alloc | apply Kd.V_drewN | apply Kd.V_drew)); exact Kd.V_mono HO748.out (fun _ hk => ⟨hk.2.1, ⟨hk.2.2.1, hk.2.2.2⟩⟩)⟩, ⟨by refine bk ?_; exact BK715.out⟩, ⟨by refine bk ?_; exact BK721.out⟩, ⟨by refine bk ?_; exact BK723.out⟩, ⟨by exact pbE HB.out⟩⟩
             ·rw [if_neg c62] at H
              have c62b0 : (((rd_T58 l1 x7_2).f0) == 2) = false := beq_eq_false_iff_ne.mpr c62
              have c62b1 : (((rd_T58 l1 x7_2).f0) != 2) = true := bne_iff_ne.mpr c62
              by_cases c73 : ((rd_T58 l1 x7_2).f0) = 3
              ·rw [if_pos c73] at H
               have c73b0 : (((rd_T58 l1 x7_2).f0) == 3) = true := beq_iff_eq.mpr c73
               have c73b1 : (((rd_T58 l1 x7_2).f0) != 3) = false := bne_eq_false_iff_eq.mpr c73
               clear c73
               replace H := Option.bind_eq_some_iff.mp H
               obtain ⟨⟨t759, t760, t761, t762, t763, t766, t767, t768, t769, t770, t771, t774, t775⟩, A740, H⟩ := H
               replace H : (l06_DescRises.j2 k2 l1 x7_2 t775 x716000_2 x716001_2 x716002_2 x716003_2 x716004_2 x716005_2 t767 t768 t769 t770 t771 t774) = some r := H
               have A74 := Az.mk A740
               clear A740
               have H' := Az.mk H
               clear H
               have hnb75 := NB715_721.out
               have hnc75 := NB721_715.out
               have hnb76 := NB715_723.out
               have hnc76 := NB723_715.out
               have hcz77 := cells6 BK715.out
               have hnb78 := NB721_723.out
               have hnc78 := NB723_721.out
               have hcz79 := cells4 BK721.out
               go_wp2_with (first | ((with_reducible refine gtc (f := 11) rfl ?_); refine goesL_ (some 93) rfl rfl Tryd.func11 (by kernel_rfl) rfl #[.agg #[.int .i64 x716000_2, .string x716001_2, .string x716002_2, .int .i64 x716003_2, .slice Ao37 x716004_2.length co37, .int .i64 x716005_2], .string ((rd_T58 l1 x7_2).f3), .int .i64 ((rd_T58 l1 x7_2).f2)] rfl (by (try simp only [List.map_toArray, List.map_cons, List.map_nil]); first | done | rfl | (simp only [List.length_drop, List.length_take]; rfl)) ?_; (with_reducible refine (desc_Split.calls x716000_2 x716001_2 x716002_2 x716003_2 (fun k_ => (k_ ≠ gb715 ∧ (k_ ≠ gb721 ∧ k_ ≠ gb723))) _ _ x716004_2 x716005_2 ((rd_T58 l1 x7_2).f3) ((rd_T58 l1 x7_2).f2) t759 t760 t761 t762 t763 t766 t767 t768 t769 t770 t771 t774 t775 _ ?side1 ?side2 A74.out).mono ?_); (case side1 => exact hG.below (by exact pbE HB.out)); (case side2 => exact HO_716004.out); rintro e w80 ⟨v764, v772, rfl, ho0, ho1, hb⟩; refine ⟨_, rfl, ?_⟩; replace HO_716004 := Az.mk (Kd.V_elder' (Kd.V_ext HO_716004.out) (Kd.R_base ho1) hb); have HO765 := Az.mk (Kd.V_lower (Kd.V_mono (ok' := fun k_ => some k_ ≠ (v772 : Value).ownBlock ∧ k_ ≠ gb715 ∧ k_ ≠ gb721 ∧ k_ ≠ gb723) ho0 (fun k_ hk_ => ⟨hk_.2, Or.elim hk_.1 (fun hs_ => hs_.1) (fun hn_ => (Kd.freshB (bk BK715.out) k_ hn_)), Or.elim hk_.1 (fun hs_ => hs_.2.1) (fun hn_ => (Kd.freshB (bk BK721.out) k_ hn_)), Or.elim hk_.1 (fun hs_ => hs_.2.2) (fun hn_ => (Kd.freshB (bk BK723.out) k_ hn_))⟩)) (pbZ (by exact pbE HB.out))); have HO773 := Az.mk (Kd.R_lower (Kd.R_mono (ok' := fun k_ => True) ho1 (fun _ hk_ => trivial)) (pbZ (by exact pbE HB.out))); replace BK715 := Az.mk (bkB (bk BK715.out) hb); replace BK721 := Az.mk (bkB (bk BK721.out) hb); replace BK723 := Az.mk (bkB (bk BK723.out) hb); replace HB := Az.mk (pbT (by exact pbE HB.out) hb); (try clear hb); (try clear hb2); (try clear hk); (try clear hi); (try clear ho0); (try clear ho1); have hcz81 := cells6 BK723.out; obtain ⟨Ao82, co82, eo82⟩ := Kd.R_slice HO773.out; subst eo82) | ((with_reducible refine gate_store (t := 26) (p := 9) rfl ?_); refine store_event (t := 26) (p := 9) (v := ?vo_w83) (w1 := ((((((w80.setCell ⟨gb723, 0, none⟩ (.int .i64 t767)).setCell ⟨gb723, 1, none⟩ (.string t768)).setCell ⟨gb723, 2, none⟩ (.string t769)).setCell ⟨gb723, 3, none⟩ (.int .i64 t770)).setCell ⟨gb723, 4, none⟩ (.slice Ao82 t771.length co82)).setCell ⟨gb723, 5, none⟩ (.int .i64 t774))) ?hg ?ho ?hn ?hr ?_; (case ho => rfl); (case hg => rfl); (case hn => rfl); (case hr => first | (go_simp; done) | (go_simp; rfl)); intro w83 hw; have n0_ : Az (Kd.V k60 60 w83 w.heap.size (fun k_ => some k_ ≠ (.slice Ao82 t771.length co82 : Value).ownBlock ∧ k_ ≠ gb715 ∧ k_ ≠ gb721 ∧ k_ ≠ gb723) (.slice Ao37 x716004_2.length co37) x716004_2) := ⟨(by rw [hw]; exact (by (with_reducible repeat (first | apply Kd.V_alloc | apply Kd.V_drewN | apply Kd.V_drew)); exact Kd.V_mono (Kd.V_off (g := gb723) (fun _ hk => hk.2) (Kd.V_mono HO_716004.out (fun k_ hk => (⟨hk, hk.1.2.2⟩ : _ ∧ k_ ≠ gb723)))) (fun _ hk => ⟨hk.1.2, ⟨hk.1.1.1, ⟨hk.1.1.2.1, hk.1.1.2.2⟩⟩⟩)))⟩; have n1_ : Az (Kd.V k60 60 w83 w.heap.size (fun k_ => some k_ ≠ (.slice Ao82 t771.length co82 : Value).ownBlock ∧ k_ ≠ gb715 ∧ k_ ≠ gb721 ∧ k_ ≠ gb723) v764 t763) := ⟨(by rw [hw]; exact (by (with_reducible repeat (first | apply Kd.V_alloc | apply Kd.V_drewN | apply Kd.V_drew)); exact Kd.V_mono (Kd.V_off (g := gb723) (fun _ hk => hk.2) (Kd.V_mono HO765.out (fun k_ hk => (⟨hk, hk.2.2.2⟩ : _ ∧ k_ ≠ gb723)))) (fun _ hk => ⟨hk.1.1, ⟨hk.1.2.1, ⟨hk.1.2.2.1, hk.1.2.2.2⟩⟩⟩)))⟩; have n2_ : Az (Kd.R k60 60 w83 w.heap.size (fun _ => True) (.slice Ao82 t771.length co82) t771) := ⟨(by rw [hw]; exact (by (with_reducible repeat (first | apply Kd.R_alloc | apply Kd.R_drewN | apply Kd.R_drew)); exact Kd.R_mono (Kd.R_far (p := ⟨gb723, 5, none⟩) (Kd.R_far (p := ⟨gb723, 4, none⟩) (Kd.R_far (p := ⟨gb723, 3, none⟩) (Kd.R_far (p := ⟨gb723, 2, none⟩) (Kd.R_far (p := ⟨gb723, 1, none⟩) (Kd.R_far (p := ⟨gb723, 0, none⟩) (Kd.R_types HO773.out BK723.out (by decide)) (fun _ hk => hk.2) (.int .i64 t767)) (fun _ hk => hk.2) (.string t768)) (fun _ hk => hk.2) (.string t769)) (fun _ hk => hk.2) (.int .i64 t770)) (fun _ hk => hk.2) (.slice Ao82 t771.length co82)) (fun _ hk => hk.2) (.int .i64 t774)) (fun _ hk => trivial)))⟩; have n3_ : Az (w83.heap[gb715]? = some (.cells #[.int .i64 x716000_2, .string x716001_2, .string x716002_2, .int .i64 x716003_2, .slice Ao37 x716004_2.length co37, .int .i64 x716005_2] 26 (0, 0))) := ⟨(by rw [hw]; exact (bf BK715.out))⟩; have n4_ : Az (w83.heap[gb721]? = some (.cells #[.int .i64 ((rd_T58 l1 x7_2).f0), .int .i64 ((rd_T58 l1 x7_2).f1), .int .i64 ((rd_T58 l1 x7_2).f2), .string ((rd_T58 l1 x7_2).f3)] 58 (0, 0))) := ⟨(by rw [hw]; exact (bf BK721.out))⟩; have n5_ : Az (w83.heap[gb723]? = some (.cells #[.int .i64 t767, .string t768, .string t769, .int .i64 t770, .slice Ao82 t771.length co82, .int .i64 t774] 26 (0, 0))) := ⟨(by rw [hw]; exact (by refine bk ?_; refine blk_put (cs := #[.int .i64 t767, .string t768, .string t769, .int .i64 t770, .slice Ao82 t771.length co82, .int .i64 x716005_2]) ?_ 5 _ rfl; refine bk ?_; refine blk_put (cs := #[.int .i64 t767, .string t768, .string t769, .int .i64 t770, .slice Ao37 x716004_2.length co37, .int .i64 x716005_2]) ?_ 4 _ rfl; refine bk ?_; refine blk_put (cs := #[.int .i64 t767, .string t768, .string t769, .int .i64 x716003_2, .slice Ao37 x716004_2.length co37, .int .i64 x716005_2]) ?_ 3 _ rfl; refine bk ?_; refine blk_put (cs := #[.int .i64 t767, .string t768, .string x716002_2, .int .i64 x716003_2, .slice Ao37 x716004_2.length co37, .int .i64 x716005_2]) ?_ 2 _ rfl; refine bk ?_; refine blk_put (cs := #[.int .i64 t767, .string x716001_2, .string x716002_2, .int .i64 x716003_2, .slice Ao37 x716004_2.length co37, .int .i64 x716005_2]) ?_ 1 _ rfl; refine bk ?_; refine blk_put (cs := #[.int .i64 x716000_2, .string x716001_2, .string x716002_2, .int .i64 x716003_2, .slice Ao37 x716004_2.length co37, .int .i64 x716005_2]) ?_ 0 _ rfl; refine bk ?_; exact BK723.out))⟩; have n6_ : Az (Below w.heap.size w w83) := ⟨(by rw [hw]; exact (by exact pbE HB.out))⟩; clear hw; clear HO_716004; clear HO765; clear HO773; clear BK715; clear BK721; clear BK723; clear HB; have HO_716004 := n0_; have HO765 := n1_; have HO773 := n2_; have BK715 := n3_; have BK721 := n4_; have BK723 := n5_; have HB := n6_; clear n0_ n1_ n2_ n3_ n4_ n5_ n6_))
               go_meet
               case rel => exact ⟨_, (t775), (t767), (t768), (t769), (t770), (t771), (t774), (.slice Ao82 t771.length co82), (by first | rfl | (simp; done) | (simp [*]; done)), H', ⟨by have := HJ2.out; have := HK2.out; first | omega | exact Nat.le_refl _⟩, ⟨by (with_reducible repeat (first | apply Kd.V_alloc | apply Kd.V_drewN | apply Kd.V_drew)); exact Kd.V_mono HO_716004.out (fun _ hk => ⟨hk.2.1, ⟨hk.2.2.1, hk.2.2.2⟩⟩)⟩, ⟨Kd.R_V (by (with_reducible repeat (first | apply Kd.R_alloc | apply Kd.R_drewN | apply Kd.R_drew)); exact Kd.R_mono (Kd.R_types (Kd.R_types (Kd.R_types HO773.out BK715.out (by decide)) BK721.out (by decide)) BK723.out (by decide)) (fun _ hk => ⟨hk.1.1.2, ⟨hk.1.2, hk.2⟩⟩))⟩, ⟨by refine bk ?_; exact BK715.out⟩, ⟨by refine bk ?_; exact BK721.out⟩, ⟨by refine bk ?_; exact BK723.out⟩, ⟨by exact pbE HB.out⟩⟩
              ·rw [if_neg c73] at H
               have c73b0 : (((rd_T58 l1 x7_2).f0) == 3) = false := beq_eq_false_iff_ne.mpr c73
               have c73b1 : (((rd_T58 l1 x7_2).f0) != 3) = true := bne_iff_ne.mpr c73
               have H' := Az.mk H
               clear H
               go_wp2
               go_roundg k2
               case measure => have := HJ2.out; have := HK2.out; omega
               case rel => exact ⟨(wrap64 (x7_2 + 1)), (x716000_2), (x716001_2), (x716002_2), (x716003_2), (x716004_2), (x716005_2), (.slice Ao37 x716004_2.length co37), (by first | rfl | (simp; done) | (simp [*]; done)), H', ⟨by have := HJ2.out; have := HK2.out; omega⟩, ⟨by (with_reducible repeat (first | apply Kd.V_alloc | apply Kd.V_drewN | apply Kd.V_drew)); exact Kd.V_mono HO_716004.out (fun _ hk => hk.1)⟩, ⟨by refine bk ?_; exact BK715.out⟩, ⟨by exact pbE HB.out⟩⟩
          case rest =>
           clear HC26
           try clear c1
           try clear c2
           try clear p2
           try clear c3
           try clear c4
           try clear c4b0
           try clear c4b1
           try clear c5
           try clear c6
           try clear p6
           try clear c7
           try clear p7
           try clear q7
           try clear hx7
           try clear c10
           try clear c10b0
           try clear c10b1
           try clear c11
           try clear c16
           try clear c16b0
           try clear c17
           try clear c17b0
           try clear c18
           try clear c18b0
           try clear c18b1
           try clear c21
           try clear c23
           try clear c25
           try clear c27
           try clear c28
           try clear c34
           try clear c35
           try clear c40
           try clear c40b0
           try clear c40b1
           try clear c42
           try clear c43
           try clear c45
           try clear c51
           try clear c51b0
           try clear c51b1
           try clear c53
           try clear c54
           try clear c56
           try clear c62
           try clear c62b0
           try clear c62b1
           try clear c64
           try clear p64
           try clear c65
           try clear c67
           try clear p72
           try clear q72
           try clear hx72
           try clear c73
           try clear c73b0
           try clear c73b1
           try clear c75
           try clear c76
           try clear c78
           try clear hcz13
           try clear hcz22
           try clear hcz24
           try clear hcz29
           try clear hcz31
           try clear hcz32
           try clear hcz36
           try clear hcz39
           try clear hcz44
           try clear hcz46
           try clear hcz48
           try clear hcz55
           try clear hcz57
           try clear hcz59
           try clear hcz66
           try clear hcz68
           try clear hcz70
           try clear hcz77
           try clear hcz79
           try clear hcz81
           try clear hx720_0
           try clear hx720_1
           try clear hx720_2
           try clear hx720_3
           try clear p2
           try clear p720
           try clear q720
           obtain ⟨kq, x10_25, x724000_25, x724001_25, x724002_25, x724003_25, x724004_25, x724005_25, u724004, rfl, HA, HJ25, HO_716004, HO_724004, BK715, BK721, BK723, HB⟩ := hcut
           cases kq with
           | zero => exact absurd HA.out (by simp [l06_DescRises.j2])
           | succ kj25 =>
            have H := HA.out
            clear HA
            simp only [l06_DescRises.j2] at H
            replace H := Option.bind_eq_some_iff.mp H
            obtain ⟨t776, A840, H⟩ := H
            replace H : (if t776 = 0 then ((desc_Check.f x724000_25 x724001_25 x724002_25 x724003_25 x724004_25 x724005_25).bind fun t777 => ((l06_num.f t777).bind fun t778 => (if t778 = 0 then (if x724003_25 = (wrap64 (x716003_2 + 1)) then (l06_DescRises.j3 kj25 l1 x7_2 (decide (x724005_25 < x716005_2)) x716000_2 x716001_2 x716002_2 x716003_2 x716004_2 x716005_2 x724000_25 x724001_25 x724002_25 x724003_25 x724004_25 x724005_25) else (l06_DescRises.j3 kj25 l1 x7_2 true x716000_2 x716001_2 x716002_2 x716003_2 x716004_2 x716005_2 x724000_25 x724001_25 x724002_25 x724003_25 x724004_25 x724005_25)) else (l06_DescRises.j3 kj25 l1 x7_2 true x716000_2 x716001_2 x716002_2 x716003_2 x716004_2 x716005_2 x724000_25 x724001_25 x724002_25 x724003_25 x724004_25 x724005_25)))) else (l06_DescRises.l0 kj25 l1 (wrap64 (x7_2 + 1)) x716000_2 x716001_2 x716002_2 x716003_2 x716004_2 x716005_2)) = some r := H
            have A84 := Az.mk A840
            clear A840
            by_cases c85 : t776 = 0
            ·rw [if_pos c85] at H
             have c85b0 : (t776 == 0) = true := beq_iff_eq.mpr c85
             have c85b1 : (t776 != 0) = false := bne_eq_false_iff_eq.mpr c85
             clear c85
             have HC86 := Az.mk H
             clear H
             go_upto_region 24 with (first | ((with_reducible refine gtc (f := 17) rfl ?_); refine goesL_ (some 98) rfl rfl Tryd.func17 (by kernel_rfl) rfl #[.int .i64 x10_25] rfl (by (try simp only [List.map_toArray, List.map_cons, List.map_nil]); first | done | rfl | (simp only [List.length_drop, List.length_take]; rfl)) ?_; (with_reducible refine (l06_num.calls x10_25 t776 _ ?side1 A84.out).mono ?_); (case side1 => exact hG.below (by exact pbE HB.out)); rintro e w' ⟨rfl, ⟨nd, rfl⟩⟩; refine ⟨_, rfl, ?_⟩))
             (try simp only [Act.put, List.setIfInBounds_toArray, List.set_cons_zero, List.set_cons_succ])
             go_cut [118] (fun v118 wc => ∃ (kq : Nat) (x118_85 : Bool), v118 = .bool x118_85 ∧ Az (l06_DescRises.j3 kq l1 x7_2 x118_85 x716000_2 x716001_2 x716002_2 x716003_2 x716004_2 x716005_2 x724000_25 x724001_25 x724002_25 x724003_25 x724004_25 x724005_25 = some r) ∧ Az (kq ≤ kj25) ∧ Az (Kd.V k60 60 wc w.heap.size (fun k_ => k_ ≠ gb715 ∧ k_ ≠ gb721 ∧ k_ ≠ gb723) (.slice Ao37 x716004_2.length co37) x716004_2) ∧ Az (Kd.V k60 60 wc w.heap.size (fun k_ => k_ ≠ gb715 ∧ k_ ≠ gb721 ∧ k_ ≠ gb723) u724004 x724004_25) ∧ Az (wc.heap[gb715]? = some (.cells #[.int .i64 x716000_2, .string x716001_2, .string x716002_2, .int .i64 x716003_2, (.slice Ao37 x716004_2.length co37), .int .i64 x716005_2] 26 (0, 0))) ∧ Az (wc.heap[gb721]? = some (.cells #[.int .i64 ((rd_T58 l1 x7_2).f0), .int .i64 ((rd_T58 l1 x7_2).f1), .int .i64 ((rd_T58 l1 x7_2).f2), .string ((rd_T58 l1 x7_2).f3)] 58 (0, 0))) ∧ Az (wc.heap[gb723]? = some (.cells #[.int .i64 x724000_25, .string x724001_25, .string x724002_25, .int .i64 x724003_25, u724004, .int .i64 x724005_25] 26 (0, 0))) ∧ Az (Below w.heap.size w wc))
             case first =>
              have H := HC86.out
              clear HC86
              replace H := Option.bind_eq_some_iff.mp H
              obtain ⟨t777, A870, H⟩ := H
              replace H : ((l06_num.f t777).bind fun t778 => (if t778 = 0 then (if x724003_25 = (wrap64 (x716003_2 + 1)) then (l06_DescRises.j3 kj25 l1 x7_2 (decide (x724005_25 < x716005_2)) x716000_2 x716001_2 x716002_2 x716003_2 x716004_2 x716005_2 x724000_25 x724001_25 x724002_25 x724003_25 x724004_25 x724005_25) else (l06_DescRises.j3 kj25 l1 x7_2 true x716000_2 x716001_2 x716002_2 x716003_2 x716004_2 x716005_2 x724000_25 x724001_25 x724002_25 x724003_25 x724004_25 x724005_25)) else (l06_DescRises.j3 kj25 l1 x7_2 true x716000_2 x716001_2 x716002_2 x716003_2 x716004_2 x716005_2 x724000_25 x724001_25 x724002_25 x724003_25 x724004_25 x724005_25))) = some r := H
              have A87 := Az.mk A870
              clear A870
              replace H := Option.bind_eq_some_iff.mp H
              obtain ⟨t778, A880, H⟩ := H
              replace H : (if t778 = 0 then (if x724003_25 = (wrap64 (x716003_2 + 1)) then (l06_DescRises.j3 kj25 l1 x7_2 (decide (x724005_25 < x716005_2)) x716000_2 x716001_2 x716002_2 x716003_2 x716004_2 x716005_2 x724000_25 x724001_25 x724002_25 x724003_25 x724004_25 x724005_25) else (l06_DescRises.j3 kj25 l1 x7_2 true x716000_2 x716001_2 x716002_2 x716003_2 x716004_2 x716005_2 x724000_25 x724001_25 x724002_25 x724003_25 x724004_25 x724005_25)) else (l06_DescRises.j3 kj25 l1 x7_2 true x716000_2 x716001_2 x716002_2 x716003_2 x716004_2 x716005_2 x724000_25 x724001_25 x724002_25 x724003_25 x724004_25 x724005_25)) = some r := H
              have A88 := Az.mk A880
              clear A880
              by_cases c89 : t778 = 0
              ·rw [if_pos c89] at H
               have c89b0 : (t778 == 0) = true := beq_iff_eq.mpr c89
               have c89b1 : (t778 != 0) = false := bne_eq_false_iff_eq.mpr c89
               clear c89
               (first | rw [c89b0] | (simp only [i64_w, i32_w]; rw [c89b0]) | skip)
               by_cases c90 : x724003_25 = (wrap64 (x716003_2 + 1))
               ·rw [if_pos c90] at H
                have c90b0 : (x724003_25 == (wrap64 (x716003_2 + 1))) = true := beq_iff_eq.mpr c90
                have c90b1 : (x724003_25 != (wrap64 (x716003_2 + 1))) = false := bne_eq_false_iff_eq.mpr c90
                clear c90
                have H' := Az.mk H
                clear H
                have hnb91 := NB723_715.out
                have hnc91 := NB715_723.out
                have hnb92 := NB723_721.out
                have hnc92 := NB721_723.out
                have hcz93 := cells6 BK723.out
                obtain ⟨Ao94, co94, eo94⟩ := Kd.V_slice HO_724004.out
                subst eo94
                go_wp2_with (first | ((with_reducible refine gtc (f := 22) rfl ?_); refine goesL_ (some 101) rfl rfl Tryd.func22 (by kernel_rfl) rfl #[.agg #[.int .i64 x724000_25, .string x724001_25, .string x724002_25, .int .i64 x724003_25, .slice Ao94 x724004_25.length co94, .int .i64 x724005_25]] rfl (by (try simp only [List.map_toArray, List.map_cons, List.map_nil]); first | done | rfl | (simp only [List.length_drop, List.length_take]; rfl)) ?_; (with_reducible refine (desc_Check.calls x724000_25 x724001_25 x724002_25 x724003_25 _ _ x724004_25 x724005_25 t777 _ ?side1 ?side2 ?side3 A87.out).mono ?_); (case side1 => exact hG.below (by exact pbE HB.out)); (case side2 => repeat (first | exact (Kd.V_reads' HO_724004.out).2.2 | (with_reducible refine Kd.C_alloc ?_ _) | (with_reducible refine Kd.C_drewN ?_ _) | (with_reducible refine Kd.C_drew ?_))); (case side3 => exact (Kd.V_reads' HO_724004.out).2.1); rintro e w95 ⟨rfl, hb⟩; refine ⟨_, rfl, ?_⟩; replace HO_716004 := Az.mk (Kd.V_below (Kd.V_ext HO_716004.out) hb); replace HO_724004 := Az.mk (Kd.V_below (Kd.V_ext HO_724004.out) hb); replace BK715 := Az.mk (bkB (bk BK715.out) hb); replace BK721 := Az.mk (bkB (bk BK721.out) hb); replace BK723 := Az.mk (bkB (bk BK723.out) hb); replace HB := Az.mk (pbT (by exact pbE HB.out) hb); (try clear hb); (try clear hb2); (try clear hk); (try clear hi)) | ((with_reducible refine gtc (f := 17) rfl ?_); refine goesL_ (some 102) rfl rfl Tryd.func17 (by kernel_rfl) rfl #[.int .i64 t777] rfl (by (try simp only [List.map_toArray, List.map_cons, List.map_nil]); first | done | rfl | (simp only [List.length_drop, List.length_take]; rfl)) ?_; (with_reducible refine (l06_num.calls t777 t778 _ ?side1 A88.out).mono ?_); (case side1 => exact hG.below (by exact pbE HB.out)); rintro e w' ⟨rfl, ⟨nd, rfl⟩⟩; refine ⟨_, rfl, ?_⟩; have hcz96 := cells6 BK723.out; have hnb97 := NB715_721.out; have hnc97 := NB721_715.out; have hcz98 := cells6 BK715.out))
                go_meet
                case rel => exact ⟨_, (decide (x724005_25 < x716005_2)), (by first | rfl | (simp; done) | (simp [*]; done)), H', ⟨by have := HJ2.out; have := HK2.out; have := HJ25.out; first | omega | exact Nat.le_refl _⟩, ⟨by (with_reducible repeat (first | apply Kd.V_alloc | apply Kd.V_drewN | apply Kd.V_drew)); exact HO_716004.out⟩, ⟨by (with_reducible repeat (first | apply Kd.V_alloc | apply Kd.V_drewN | apply Kd.V_drew)); exact HO_724004.out⟩, ⟨by refine bk ?_; exact BK715.out⟩, ⟨by refine bk ?_; exact BK721.out⟩, ⟨by refine bk ?_; exact BK723.out⟩, ⟨by exact pbE HB.out⟩⟩
               ·rw [if_neg c90] at H
                have c90b0 : (x724003_25 == (wrap64 (x716003_2 + 1))) = false := beq_eq_false_iff_ne.mpr c90
                have c90b1 : (x724003_25 != (wrap64 (x716003_2 + 1))) = true := bne_iff_ne.mpr c90
                have H' := Az.mk H
                clear H
                have hnb99 := NB723_715.out
                have hnc99 := NB715_723.out
                have hnb100 := NB723_721.out
                have hnc100 := NB721_723.out
                have hcz101 := cells6 BK723.out
                obtain ⟨Ao102, co102, eo102⟩ := Kd.V_slice HO_724004.out
                subst eo102
                go_wp2_with (first | ((with_reducible refine gtc (f := 22) rfl ?_); refine goesL_ (some 101) rfl rfl Tryd.func22 (by kernel_rfl) rfl #[.agg #[.int .i64 x724000_25, .string x724001_25, .string x724002_25, .int .i64 x724003_25, .slice Ao102 x724004_25.length co102, .int .i64 x724005_25]] rfl (by (try simp only [List.map_toArray, List.map_cons, List.map_nil]); first | done | rfl | (simp only [List.length_drop, List.length_take]; rfl)) ?_; (with_reducible refine (desc_Check.calls x724000_25 x724001_25 x724002_25 x724003_25 _ _ x724004_25 x724005_25 t777 _ ?side1 ?side2 ?side3 A87.out).mono ?_); (case side1 => exact hG.below (by exact pbE HB.out)); (case side2 => repeat (first | exact (Kd.V_reads' HO_724004.out).2.2 | (with_reducible refine Kd.C_alloc ?_ _) | (with_reducible refine Kd.C_drewN ?_ _) | (with_reducible refine Kd.C_drew ?_))); (case side3 => exact (Kd.V_reads' HO_724004.out).2.1); rintro e w103 ⟨rfl, hb⟩; refine ⟨_, rfl, ?_⟩; replace HO_716004 := Az.mk (Kd.V_below (Kd.V_ext HO_716004.out) hb); replace HO_724004 := Az.mk (Kd.V_below (Kd.V_ext HO_724004.out) hb); replace BK715 := Az.mk (bkB (bk BK715.out) hb); replace BK721 := Az.mk (bkB (bk BK721.out) hb); replace BK723 := Az.mk (bkB (bk BK723.out) hb); replace HB := Az.mk (pbT (by exact pbE HB.out) hb); (try clear hb); (try clear hb2); (try clear hk); (try clear hi)) | ((with_reducible refine gtc (f := 17) rfl ?_); refine goesL_ (some 102) rfl rfl Tryd.func17 (by kernel_rfl) rfl #[.int .i64 t777] rfl (by (try simp only [List.map_toArray, List.map_cons, List.map_nil]); first | done | rfl | (simp only [List.length_drop, List.length_take]; rfl)) ?_; (with_reducible refine (l06_num.calls t777 t778 _ ?side1 A88.out).mono ?_); (case side1 => exact hG.below (by exact pbE HB.out)); rintro e w' ⟨rfl, ⟨nd, rfl⟩⟩; refine ⟨_, rfl, ?_⟩; have hcz104 := cells6 BK723.out; have hnb105 := NB715_721.out; have hnc105 := NB721_715.out; have hcz106 := cells6 BK715.out))
                go_meet
                case rel => exact ⟨_, (true), (by first | rfl | (simp; done) | (simp [*]; done)), H', ⟨by have := HJ2.out; have := HK2.out; have := HJ25.out; first | omega | exact Nat.le_refl _⟩, ⟨by (with_reducible repeat (first | apply Kd.V_alloc | apply Kd.V_drewN | apply Kd.V_drew)); exact HO_716004.out⟩, ⟨by (with_reducible repeat (first | apply Kd.V_alloc | apply Kd.V_drewN | apply Kd.V_drew)); exact HO_724004.out⟩, ⟨by refine bk ?_; exact BK715.out⟩, ⟨by refine bk ?_; exact BK721.out⟩, ⟨by refine bk ?_; exact BK723.out⟩, ⟨by exact pbE HB.out⟩⟩
              ·rw [if_neg c89] at H
               have c89b0 : (t778 == 0) = false := beq_eq_false_iff_ne.mpr c89
               have c89b1 : (t778 != 0) = true := bne_iff_ne.mpr c89
               (first | rw [c89b0] | (simp only [i64_w, i32_w]; rw [c89b0]) | skip)
               have H' := Az.mk H
               clear H
               have hnb107 := NB723_715.out
               have hnc107 := NB715_723.out
               have hnb108 := NB723_721.out
               have hnc108 := NB721_723.out
               have hcz109 := cells6 BK723.out
               obtain ⟨Ao110, co110, eo110⟩ := Kd.V_slice HO_724004.out
               subst eo110
               go_wp2_with (first | ((with_reducible refine gtc (f := 22) rfl ?_); refine goesL_ (some 101) rfl rfl Tryd.func22 (by kernel_rfl) rfl #[.agg #[.int .i64 x724000_25, .string x724001_25, .string x724002_25, .int .i64 x724003_25, .slice Ao110 x724004_25.length co110, .int .i64 x724005_25]] rfl (by (try simp only [List.map_toArray, List.map_cons, List.map_nil]); first | done | rfl | (simp only [List.length_drop, List.length_take]; rfl)) ?_; (with_reducible refine (desc_Check.calls x724000_25 x724001_25 x724002_25 x724003_25 _ _ x724004_25 x724005_25 t777 _ ?side1 ?side2 ?side3 A87.out).mono ?_); (case side1 => exact hG.below (by exact pbE HB.out)); (case side2 => repeat (first | exact (Kd.V_reads' HO_724004.out).2.2 | (with_reducible refine Kd.C_alloc ?_ _) | (with_reducible refine Kd.C_drewN ?_ _) | (with_reducible refine Kd.C_drew ?_))); (case side3 => exact (Kd.V_reads' HO_724004.out).2.1); rintro e w111 ⟨rfl, hb⟩; refine ⟨_, rfl, ?_⟩; replace HO_716004 := Az.mk (Kd.V_below (Kd.V_ext HO_716004.out) hb); replace HO_724004 := Az.mk (Kd.V_below (Kd.V_ext HO_724004.out) hb); replace BK715 := Az.mk (bkB (bk BK715.out) hb); replace BK721 := Az.mk (bkB (bk BK721.out) hb); replace BK723 := Az.mk (bkB (bk BK723.out) hb); replace HB := Az.mk (pbT (by exact pbE HB.out) hb); (try clear hb); (try clear hb2); (try clear hk); (try clear hi)) | ((with_reducible refine gtc (f := 17) rfl ?_); refine goesL_ (some 102) rfl rfl Tryd.func17 (by kernel_rfl) rfl #[.int .i64 t777] rfl (by (try simp only [List.map_toArray, List.map_cons, List.map_nil]); first | done | rfl | (simp only [List.length_drop, List.length_take]; rfl)) ?_; (with_reducible refine (l06_num.calls t777 t778 _ ?side1 A88.out).mono ?_); (case side1 => exact hG.below (by exact pbE HB.out)); rintro e w' ⟨rfl, ⟨nd, rfl⟩⟩; refine ⟨_, rfl, ?_⟩))
               go_meet
               case rel => exact ⟨_, (true), (by first | rfl | (simp; done) | (simp [*]; done)), H', ⟨by have := HJ2.out; have := HK2.out; have := HJ25.out; first | omega | exact Nat.le_refl _⟩, ⟨by (with_reducible repeat (first | apply Kd.V_alloc | apply Kd.V_drewN | apply Kd.V_drew)); exact HO_716004.out⟩, ⟨by (with_reducible repeat (first | apply Kd.V_alloc | apply Kd.V_drewN | apply Kd.V_drew)); exact HO_724004.out⟩, ⟨by refine bk ?_; exact BK715.out⟩, ⟨by refine bk ?_; exact BK721.out⟩, ⟨by refine bk ?_; exact BK723.out⟩, ⟨by exact pbE HB.out⟩⟩
             case rest =>
              clear HC86
              try clear c1
              try clear c2
              try clear p2
              try clear c3
              try clear c4
              try clear c4b0
              try clear c4b1
              try clear c5
              try clear c6
              try clear p6
              try clear c7
              try clear p7
              try clear q7
              try clear hx7
              try clear c8
              try clear c9
              try clear c10
              try clear c10b0
              try clear c10b1
              try clear c11
              try clear c16
              try clear c16b0
              try clear c17
              try clear c17b0
              try clear c18
              try clear c18b0
              try clear c18b1
              try clear c21
              try clear c22
              try clear c23
              try clear c25
              try clear c27
              try clear c28
              try clear c34
              try clear c35
              try clear c40
              try clear c40b0
              try clear c40b1
              try clear c42
              try clear c43
              try clear c45
              try clear c51
              try clear c51b0
              try clear c51b1
              try clear c53
              try clear c54
              try clear c56
              try clear c62
              try clear c62b0
              try clear c62b1
              try clear c64
              try clear p64
              try clear c65
              try clear c67
              try clear p72
              try clear q72
              try clear hx72
              try clear c73
              try clear c73b0
              try clear c73b1
              try clear c75
              try clear c76
              try clear c78
              try clear c85
              try clear c85b0
              try clear c85b1
              try clear c89
              try clear c89b0
              try clear c89b1
              try clear c90
              try clear c90b0
              try clear c90b1
              try clear c91
              try clear c92
              try clear c97
              try clear c99
              try clear c100
              try clear c105
              try clear c107
              try clear c108
              try clear hcz101
              try clear hcz104
              try clear hcz106
              try clear hcz109
              try clear hcz13
              try clear hcz22
              try clear hcz24
              try clear hcz29
              try clear hcz31
              try clear hcz32
              try clear hcz36
              try clear hcz39
              try clear hcz44
              try clear hcz46
              try clear hcz48
              try clear hcz55
              try clear hcz57
              try clear hcz59
              try clear hcz66
              try clear hcz68
              try clear hcz70
              try clear hcz77
              try clear hcz79
              try clear hcz81
              try clear hcz93
              try clear hcz96
              try clear hcz98
              try clear hx720_0
              try clear hx720_1
              try clear hx720_2
              try clear hx720_3
              try clear p2
              try clear p6
              try clear p64
              try clear p7
              try clear p72
              try clear p720
              try clear q7
              try clear q72
              try clear q720
              obtain ⟨kq, x118_85, rfl, HA, HJ85, HO_716004, HO_724004, BK715, BK721, BK723, HB⟩ := hcut
              cases kq with
              | zero => exact absurd HA.out (by simp [l06_DescRises.j3])
              | succ kj85 =>
               have H := HA.out
               clear HA
               simp only [l06_DescRises.j3] at H
               by_cases c112 : x118_85 = true
               ·subst c112
                have H1 : (some false) = some r := by rw [if_pos rfl] at H; exact H
                clear H
                have H := H1
                clear H1
                exact absurd (Option.some.inj (H.trans (congrArg some hr))) (by decide)
               ·replace c112 := Bool.eq_false_iff.mpr c112
                subst c112
                have H1 : (l06_DescRises.l1 kj85 l1 x7_2 0 x716000_2 x716001_2 x716002_2 x716003_2 x716004_2 x716005_2 x724000_25 x724001_25 x724002_25 x724003_25 x724004_25 x724005_25) = some r := by rw [if_neg (show ¬ (false = true) by decide)] at H; exact H
                clear H
                have H := H1
                clear H1
                have H' := Az.mk H
                clear H
                go_wp2
                go_loopg [11] kj85 (fun kq v11 w' => ∃ (x11_5 : Int), v11 = .int .i64 x11_5 ∧ Az (l06_DescRises.l1 kq l1 x7_2 x11_5 x716000_2 x716001_2 x716002_2 x716003_2 x716004_2 x716005_2 x724000_25 x724001_25 x724002_25 x724003_25 x724004_25 x724005_25 = some r) ∧ Az (kq ≤ kj85) ∧ Az (Kd.V k60 60 w' w.heap.size (fun k_ => k_ ≠ gb715 ∧ k_ ≠ gb721 ∧ k_ ≠ gb723) (.slice Ao37 x716004_2.length co37) x716004_2) ∧ Az (Kd.V k60 60 w' w.heap.size (fun k_ => k_ ≠ gb715 ∧ k_ ≠ gb721 ∧ k_ ≠ gb723) u724004 x724004_25) ∧ Az (w'.heap[gb715]? = some (.cells #[.int .i64 x716000_2, .string x716001_2, .string x716002_2, .int .i64 x716003_2, (.slice Ao37 x716004_2.length co37), .int .i64 x716005_2] 26 (0, 0))) ∧ Az (w'.heap[gb721]? = some (.cells #[.int .i64 ((rd_T58 l1 x7_2).f0), .int .i64 ((rd_T58 l1 x7_2).f1), .int .i64 ((rd_T58 l1 x7_2).f2), .string ((rd_T58 l1 x7_2).f3)] 58 (0, 0))) ∧ Az (w'.heap[gb723]? = some (.cells #[.int .i64 x724000_25, .string x724001_25, .string x724002_25, .int .i64 x724003_25, u724004, .int .i64 x724005_25] 26 (0, 0))) ∧ Az (Below w.heap.size w w'))
                case atStart => exact ⟨(0), (by first | rfl | (simp; done) | (simp [*]; done)), H', ⟨Nat.le_refl _⟩, ⟨by (with_reducible repeat (first | apply Kd.V_alloc | apply Kd.V_drewN | apply Kd.V_drew)); exact HO_716004.out⟩, ⟨by (with_reducible repeat (first | apply Kd.V_alloc | apply Kd.V_drewN | apply Kd.V_drew)); exact HO_724004.out⟩, ⟨by refine bk ?_; exact BK715.out⟩, ⟨by refine bk ?_; exact BK721.out⟩, ⟨by refine bk ?_; exact BK723.out⟩, ⟨by exact pbE HB.out⟩⟩
                case round =>
                 clear H'
                 try clear c1
                 try clear c2
                 try clear p2
                 try clear c3
                 try clear c4
                 try clear c4b0
                 try clear c4b1
                 try clear c5
                 try clear c6
                 try clear p6
                 try clear c7
                 try clear p7
                 try clear q7
                 try clear hx7
                 try clear c8
                 try clear c9
                 try clear c10
                 try clear c10b0
                 try clear c10b1
                 try clear c11
                 try clear c16
                 try clear c16b0
                 try clear c17
                 try clear c17b0
                 try clear c18
                 try clear c18b0
                 try clear c18b1
                 try clear c21
                 try clear c22
                 try clear c23
                 try clear c25
                 try clear c27
                 try clear c28
                 try clear c34
                 try clear c35
                 try clear c40
                 try clear c40b0
                 try clear c40b1
                 try clear c42
                 try clear c43
                 try clear c45
                 try clear c51
                 try clear c51b0
                 try clear c51b1
                 try clear c53
                 try clear c54
                 try clear c56
                 try clear c62
                 try clear c62b0
                 try clear c62b1
                 try clear c64
                 try clear p64
                 try clear c65
                 try clear c67
                 try clear p72
                 try clear q72
                 try clear hx72
                 try clear c73
                 try clear c73b0
                 try clear c73b1
                 try clear c75
                 try clear c76
                 try clear c78
                 try clear c85
                 try clear c85b0
                 try clear c85b1
                 try clear c89
                 try clear c89b0
                 try clear c89b1
                 try clear c90
                 try clear c90b0
                 try clear c90b1
                 try clear c91
                 try clear c92
                 try clear c97
                 try clear c99
                 try clear c100
                 try clear c105
                 try clear c107
                 try clear c108
                 try clear c112
                 try clear hcz101
                 try clear hcz104
                 try clear hcz106
                 try clear hcz109
                 try clear hcz13
                 try clear hcz22
                 try clear hcz24
                 try clear hcz29
                 try clear hcz31
                 try clear hcz32
                 try clear hcz36
                 try clear hcz39
                 try clear hcz44
                 try clear hcz46
                 try clear hcz48
                 try clear hcz55
                 try clear hcz57
                 try clear hcz59
                 try clear hcz66
                 try clear hcz68
                 try clear hcz70
                 try clear hcz77
                 try clear hcz79
                 try clear hcz81
                 try clear hcz93
                 try clear hcz96
                 try clear hcz98
                 try clear hx720_0
                 try clear hx720_1
                 try clear hx720_2
                 try clear hx720_3
                 try clear p2
                 try clear p6
                 try clear p64
                 try clear p7
                 try clear p72
                 try clear p720
                 try clear q7
                 try clear q72
                 try clear q720
                 obtain ⟨x11_5, rfl, HA, HK5, HO_716004, HO_724004, BK715, BK721, BK723, HB⟩ := hrel
                 cases gk with
                 | zero => exact absurd HA.out (by simp [l06_DescRises.l1])
                 | succ k5 =>
                  have H := HA.out
                  clear HA
                  simp only [l06_DescRises.l1] at H
                  by_cases c113 : x11_5 < (x724004_25.length : Int)
                  ·rw [if_pos c113] at H
                   have c113b0 : decide (x11_5 < (x724004_25.length : Int)) = true := decide_eq_true c113
                   clear c113
                   by_cases c114 : 0 ≤ x11_5
                   ·rw [if_pos c114] at H
                    have c114b0 : decide (0 ≤ x11_5) = true := decide_eq_true c114
                    clear c114
                    replace H := Option.bind_eq_some_iff.mp H
                    obtain ⟨⟨t780, t781, t782⟩, A1150, H⟩ := H
                    replace H : (if t782 = true then (if (!(t780 == ((rd_T60 x724004_25 x11_5).f0)) || (!(t781 == ((rd_T60 x724004_25 x11_5).f1)))) = true then (some false) else (l06_DescRises.l1 k5 l1 x7_2 (wrap64 (x11_5 + 1)) x716000_2 x716001_2 x716002_2 x716003_2 x716004_2 x716005_2 x724000_25 x724001_25 x724002_25 x724003_25 x724004_25 x724005_25)) else (if ((rd_T60 x724004_25 x11_5).f1) < x716005_2 then (some false) else (l06_DescRises.l1 k5 l1 x7_2 (wrap64 (x11_5 + 1)) x716000_2 x716001_2 x716002_2 x716003_2 x716004_2 x716005_2 x724000_25 x724001_25 x724002_25 x724003_25 x724004_25 x724005_25))) = some r := H
                    have A115 := Az.mk A1150
                    clear A1150
                    by_cases c116 : t782 = true
                    ·subst c116
                     have H1 : (if (!(t780 == ((rd_T60 x724004_25 x11_5).f0)) || (!(t781 == ((rd_T60 x724004_25 x11_5).f1)))) = true then (some false) else (l06_DescRises.l1 k5 l1 x7_2 (wrap64 (x11_5 + 1)) x716000_2 x716001_2 x716002_2 x716003_2 x716004_2 x716005_2 x724000_25 x724001_25 x724002_25 x724003_25 x724004_25 x724005_25)) = some r := by rw [if_pos rfl] at H; exact H
                     clear H
                     have H := H1
                     clear H1
                     by_cases c117 : (!(t780 == ((rd_T60 x724004_25 x11_5).f0)) || (!(t781 == ((rd_T60 x724004_25 x11_5).f1)))) = true
                     ·rw [if_pos c117] at H
                      have c117b0 : (!(t780 == ((rd_T60 x724004_25 x11_5).f0)) || (!(t781 == ((rd_T60 x724004_25 x11_5).f1)))) = true := c117
                      clear c117
                      exact absurd (Option.some.inj (H.trans (congrArg some hr))) (by decide)
                     ·rw [if_neg c117] at H
                      have c117b0 : (!(t780 == ((rd_T60 x724004_25 x11_5).f0)) || (!(t781 == ((rd_T60 x724004_25 x11_5).f1)))) = false := by simpa using c117
                      clear c117
                      have H' := Az.mk H
                      clear H
                      have hnb118 := NB723_715.out
                      have hnc118 := NB715_723.out
                      have hnb119 := NB723_721.out
                      have hnc119 := NB721_723.out
                      have hcz120 := cells6 BK723.out
                      obtain ⟨Ao121, co121, eo121⟩ := Kd.V_slice HO_724004.out
                      subst eo121
                      try go_wp2
                      replace HO_716004 := Az.mk (Kd.V_drew HO_716004.out)
                      replace HO_724004 := Az.mk (Kd.V_drew HO_724004.out)
                      replace BK715 := Az.mk (bkD BK715.out)
                      replace BK721 := Az.mk (bkD BK721.out)
                      replace BK723 := Az.mk (bkD BK723.out)
                      replace HB := Az.mk (pb1 HB.out)
                      have p779 : 0 ≤ (x11_5 : Int) := of_decide_eq_true (by first | (with_reducible assumption) | assumption)
                      have q779 : x11_5 < (x724004_25.length : Int) := of_decide_eq_true (by first | (with_reducible assumption) | assumption)
                      have hpos779_ : 0 < x724004_25.length := by omega
                      obtain ⟨ad779, e779, hx779_0, hx779_1⟩ := at_T60 (Kd.V_reads' HO_724004.out).2.2 x11_5 p779 q779
                      cases e779
                      replace p779 := eq_true p779
                      replace q779 := eq_true q779
                      refine start_ (n := 14) (S := fun w' => w'.cell? ⟨gb715, 0, none⟩ = some (.int .i64 x716000_2) ∧ w'.cell? ⟨gb715, 1, none⟩ = some (.string x716001_2) ∧ w'.cell? ⟨gb715, 2, none⟩ = some (.string x716002_2) ∧ w'.cell? ⟨gb715, 3, none⟩ = some (.int .i64 x716003_2) ∧ w'.cell? ⟨gb715, 4, none⟩ = some (.slice Ao37 x716004_2.length co37) ∧ w'.cell? ⟨gb715, 5, none⟩ = some (.int .i64 x716005_2) ∧ w'.cell? ⟨gb723, 0, none⟩ = some (.int .i64 x724000_25) ∧ w'.cell? ⟨gb723, 1, none⟩ = some (.string x724001_25) ∧ w'.cell? ⟨gb723, 2, none⟩ = some (.string x724002_25) ∧ w'.cell? ⟨gb723, 3, none⟩ = some (.int .i64 x724003_25) ∧ w'.cell? ⟨gb723, 4, none⟩ = some (.slice (some ad779) x724004_25.length co121) ∧ w'.cell? ⟨gb723, 5, none⟩ = some (.int .i64 x724005_25) ∧ w'.cell? (ad779.add ((x11_5).toNat * 2)) = some (.int .i64 ((rd_T60 x724004_25 x11_5).f0)) ∧ w'.cell? ⟨(ad779.add ((x11_5).toNat * 2)).block, (ad779.add ((x11_5).toNat * 2)).off + 1, none⟩ = some (.int .i64 ((rd_T60 x724004_25 x11_5).f1))) (ds := []) #[false, false, false, false, false, false, false, false, false, false, false, false, false, false] (by kernel_rfl) rfl rfl ⟨(bkC BK715.out 0).trans rfl, (bkC BK715.out 1).trans rfl, (bkC BK715.out 2).trans rfl, (bkC BK715.out 3).trans rfl, (bkC BK715.out 4).trans rfl, (bkC BK715.out 5).trans rfl, (bkC BK723.out 0).trans rfl, (bkC BK723.out 1).trans rfl, (bkC BK723.out 2).trans rfl, (bkC BK723.out 3).trans rfl, (bkC BK723.out 4).trans rfl, (bkC BK723.out 5).trans rfl, hx779_0, hx779_1⟩ (fun hHeld => ?_); refine with_tabW l06_DescRises.tab29 l06_DescRises.bits29 (fun HT_ HW_ => ?_)
                      generalize wr.drew = w122 at HO_716004 HO_724004 BK715 BK721 BK723 HB hx779_0 hx779_1 hHeld ⊢
                      refine pure_ (i := 1) (N := some 128) (v := ?_) (a' := ?_) #[false, true, false, false, false, false, false, false, false, false, false, false, false, false] rfl rfl (any_of HT_.out (by kernel_rfl)) (fun _ _ _ h => h) (Or.inl ⟨by rfl, ?_⟩) ?_ ?_
                      rotate_left
                      ·intro w'
                       go_simp
                       with_reducible rfl
                      rotate_left
                      ·simp only [Act.put, List.setIfInBounds_toArray, List.set_cons_zero, List.set_cons_succ, i64_w, i32_w]
                       rfl
                      refine pure_ (i := 3) (N := some 130) (v := ?_) (a' := ?_) #[false, true, false, true, false, false, false, false, false, false, false, false, false, false] rfl rfl (any_of HT_.out (by kernel_rfl)) (fun _ _ _ h => h) (Or.inl ⟨by rfl, ?_⟩) ?_ ?_
                      rotate_left
                      ·intro w'
                       go_simp
                       with_reducible rfl
                      rotate_left
                      ·simp only [Act.put, List.setIfInBounds_toArray, List.set_cons_zero, List.set_cons_succ, i64_w, i32_w]
                       rfl
                      refine take_ (i := 0) (N := some 127) (v := ?_) (a' := ?_) #[true, true, false, true, false, false, false, false, false, false, false, false, false, false] rfl rfl (take_ofW HT_.out HW_.out (by kernel_rfl)) (fun _ _ _ h => h) (Or.inl ⟨by rfl, ?_⟩) hHeld ?_ ?_
                      rotate_left
                      ·rintro w' ⟨s0, s1, s2, s3, s4, s5, s6, s7, s8, s9, s10, s11, s12, s13⟩
                       go_simp
                       with_reducible rfl
                      rotate_left
                      ·simp only [Act.put, List.setIfInBounds_toArray, List.set_cons_zero, List.set_cons_succ, i64_w, i32_w]
                       rfl
                      refine take_ (i := 2) (N := some 129) (v := ?_) (a' := ?_) #[true, true, true, true, false, false, false, false, false, false, false, false, false, false] rfl rfl (take_ofW HT_.out HW_.out (by kernel_rfl)) (fun _ _ _ h => h) (Or.inl ⟨by rfl, ?_⟩) hHeld ?_ ?_
                      rotate_left
                      ·rintro w' ⟨s0, s1, s2, s3, s4, s5, s6, s7, s8, s9, s10, s11, s12, s13⟩
                       go_simp
                       with_reducible rfl
                      rotate_left
                      ·simp only [Act.put, List.setIfInBounds_toArray, List.set_cons_zero, List.set_cons_succ, i64_w, i32_w]
                       rfl
                      refine pure_ (i := 4) (N := some 131) (v := ?_) (a' := ?_) #[true, true, true, true, true, false, false, false, false, false, false, false, false, false] rfl rfl (any_of HT_.out (by kernel_rfl)) (fun _ _ _ h => h) (Or.inl ⟨by rfl, ?_⟩) ?_ ?_
                      rotate_left
                      ·intro w'
                       go_simp
                       with_reducible rfl
                      rotate_left
                      ·simp only [Act.put, List.setIfInBounds_toArray, List.set_cons_zero, List.set_cons_succ, i64_w, i32_w]
                       rfl
                      refine pure_ (i := 5) (N := some 132) (v := ?_) (a' := ?_) #[true, true, true, true, true, true, false, false, false, false, false, false, false, false] rfl rfl (any_of HT_.out (by kernel_rfl)) (fun _ _ _ h => h) (Or.inl ⟨by rfl, ?_⟩) ?_ ?_
                      rotate_left
                      ·intro w'
                       go_simp
                       with_reducible rfl
                      rotate_left
                      ·simp only [Act.put, List.setIfInBounds_toArray, List.set_cons_zero, List.set_cons_succ, i64_w, i32_w]
                       rfl
                      refine take_ (i := 6) (N := some 133) (v := ?_) (a' := ?_) #[true, true, true, true, true, true, true, false, false, false, false, false, false, false] rfl rfl (take_ofW HT_.out HW_.out (by kernel_rfl)) (fun _ _ _ h => h) (Or.inl ⟨by rfl, ?_⟩) hHeld ?_ ?_
                      rotate_left
                      ·rintro w' ⟨s0, s1, s2, s3, s4, s5, s6, s7, s8, s9, s10, s11, s12, s13⟩
                       go_simp
                       with_reducible rfl
                      rotate_left
                      ·simp only [Act.put, List.setIfInBounds_toArray, List.set_cons_zero, List.set_cons_succ, i64_w, i32_w]
                       rfl
                      refine join_ (σ := Nat) 2 #[true, true, true, true, true, true, true, true, true, true, true, true, false, false] (fun s_ => [(134, .tuple #[.agg #[.int .i64 t780, .int .i64 t781], .bool true]), (12, .pointer (some ⟨s_, 0, none⟩)), (126, .tuple #[.agg #[.int .i64 t780, .int .i64 t781], .bool true]), (135, .agg #[.int .i64 t780, .int .i64 t781]), (136, .bool true)]) (fun s_ w' => (w'.cell? ⟨gb715, 0, none⟩ = some (.int .i64 x716000_2) ∧ w'.cell? ⟨gb715, 1, none⟩ = some (.string x716001_2) ∧ w'.cell? ⟨gb715, 2, none⟩ = some (.string x716002_2) ∧ w'.cell? ⟨gb715, 3, none⟩ = some (.int .i64 x716003_2) ∧ w'.cell? ⟨gb715, 4, none⟩ = some (.slice Ao37 x716004_2.length co37) ∧ w'.cell? ⟨gb715, 5, none⟩ = some (.int .i64 x716005_2) ∧ w'.cell? ⟨gb723, 0, none⟩ = some (.int .i64 x724000_25) ∧ w'.cell? ⟨gb723, 1, none⟩ = some (.string x724001_25) ∧ w'.cell? ⟨gb723, 2, none⟩ = some (.string x724002_25) ∧ w'.cell? ⟨gb723, 3, none⟩ = some (.int .i64 x724003_25) ∧ w'.cell? ⟨gb723, 4, none⟩ = some (.slice (some ad779) x724004_25.length co121) ∧ w'.cell? ⟨gb723, 5, none⟩ = some (.int .i64 x724005_25) ∧ w'.cell? (ad779.add ((x11_5).toNat * 2)) = some (.int .i64 ((rd_T60 x724004_25 x11_5).f0)) ∧ w'.cell? ⟨(ad779.add ((x11_5).toNat * 2)).block, (ad779.add ((x11_5).toNat * 2)).off + 1, none⟩ = some (.int .i64 ((rd_T60 x724004_25 x11_5).f1))) ∧ (Kd.V k60 60 w' w.heap.size (fun k_ => k_ ≠ gb715 ∧ k_ ≠ gb721 ∧ k_ ≠ gb723 ∧ k_ ≠ s_) (.slice Ao37 x716004_2.length co37) x716004_2) ∧ (Kd.V k60 60 w' w.heap.size (fun k_ => k_ ≠ gb715 ∧ k_ ≠ gb721 ∧ k_ ≠ gb723 ∧ k_ ≠ s_) (.slice (some ad779) x724004_25.length co121) x724004_25) ∧ (w'.heap[gb715]? = some (.cells #[.int .i64 x716000_2, .string x716001_2, .string x716002_2, .int .i64 x716003_2, .slice Ao37 x716004_2.length co37, .int .i64 x716005_2] 26 (0, 0))) ∧ (w'.heap[gb721]? = some (.cells #[.int .i64 ((rd_T58 l1 x7_2).f0), .int .i64 ((rd_T58 l1 x7_2).f1), .int .i64 ((rd_T58 l1 x7_2).f2), .string ((rd_T58 l1 x7_2).f3)] 58 (0, 0))) ∧ (w'.heap[gb723]? = some (.cells #[.int .i64 x724000_25, .string x724001_25, .string x724002_25, .int .i64 x724003_25, .slice (some ad779) x724004_25.length co121, .int .i64 x724005_25] 26 (0, 0))) ∧ (w'.heap[s_]? = some (.cells #[.int .i64 0, .int .i64 0] 60 (0, 0))) ∧ (w.heap.size ≤ s_) ∧ (w.heap.size ≤ s_) ∧ (gb715 ≠ s_) ∧ (s_ ≠ gb715) ∧ (gb721 ≠ s_) ∧ (s_ ≠ gb721) ∧ (gb723 ≠ s_) ∧ (s_ ≠ gb723) ∧ (Below w.heap.size w w')) ?_ ?_
                      rotate_left
                      ·intro hCont
                       refine two_ (i := 7) (j := 11) (Ni := some 134) (Nj := some 12) #[true, true, true, true, true, true, true, true, false, false, false, false, false, false] #[true, true, true, true, true, true, true, false, false, false, false, true, false, false] rfl rfl rfl rfl (two_of HT_.out (by kernel_rfl)) (by decide) (by decide) (fun K hK => ?_) (fun K hK => ?_)
                       ·skip
                        refine goes_ Tryd.func29 (by kernel_rfl) rfl #[.agg #[.int .i64 x716000_2, .string x716001_2, .string x716002_2, .int .i64 x716003_2, .slice Ao37 x716004_2.length co37, .int .i64 x716005_2], .int .i64 ((rd_T60 x724004_25 x11_5).f1)] (by rfl) rfl rfl (by (try simp only [List.map_toArray, List.map_cons, List.map_nil]); first | done | rfl | (simp only [List.length_drop, List.length_take]; rfl)) ?_
                        with_reducible refine (desc_Has.calls x716000_2 x716001_2 x716002_2 x716003_2 _ _ x716004_2 x716005_2 ((rd_T60 x724004_25 x11_5).f1) t780 t781 true _ ?side1 ?side2 ?side3 A115.out).mono ?_
                        (case side1 => exact hG.below (by exact pbE HB.out))
                        (case side2 => repeat (first | exact (Kd.V_reads' HO_716004.out).2.2 | (with_reducible refine Kd.C_alloc ?_ _) | (with_reducible refine Kd.C_drewN ?_ _) | (with_reducible refine Kd.C_drew ?_)))
                        (case side3 => exact (Kd.V_reads' HO_716004.out).2.1)
                        rintro e w123 ⟨rfl, hb⟩
                        have HS12_ := (hb.cell (World.block_lt_of_cell? _ _ (hHeld.2.2.2.2.2.2.2.2.2.2.2.2.1))).trans (hHeld.2.2.2.2.2.2.2.2.2.2.2.2.1)
                        have HS13_ := (hb.cell (World.block_lt_of_cell? _ _ (hHeld.2.2.2.2.2.2.2.2.2.2.2.2.2))).trans (hHeld.2.2.2.2.2.2.2.2.2.2.2.2.2)
                        refine ⟨_, rfl, ?_⟩
                        replace HO_716004 := Az.mk (Kd.V_below (Kd.V_ext HO_716004.out) hb)
                        replace HO_724004 := Az.mk (Kd.V_below (Kd.V_ext HO_724004.out) hb)
                        replace BK715 := Az.mk (bkB (bk BK715.out) hb)
                        replace BK721 := Az.mk (bkB (bk BK721.out) hb)
                        replace BK723 := Az.mk (bkB (bk BK723.out) hb)
                        replace HB := Az.mk (pbT (by exact pbE HB.out) hb)
                        (try clear hb)
                        (try clear hb2)
                        (try clear hk)
                        (try clear hi)
                        refine hK.out _ _ ⟨(bkC BK715.out 0).trans rfl, (bkC BK715.out 1).trans rfl, (bkC BK715.out 2).trans rfl, (bkC BK715.out 3).trans rfl, (bkC BK715.out 4).trans rfl, (bkC BK715.out 5).trans rfl, (bkC BK723.out 0).trans rfl, (bkC BK723.out 1).trans rfl, (bkC BK723.out 2).trans rfl, (bkC BK723.out 3).trans rfl, (bkC BK723.out 4).trans rfl, (bkC BK723.out 5).trans rfl, HS12_, HS13_⟩ (fun hHeld => ?_)
                        clear hK K
                        refine norm_ (a' := ?_) ?_ ?_
                        rotate_left
                        ·show Act.put _ (some 134) _ = _
                         simp only [Act.put, List.setIfInBounds_toArray, List.set_cons_zero, List.set_cons_succ, i64_w, i32_w]
                         rfl
                        refine pure_ (i := 8) (N := some 126) (v := ?_) (a' := ?_) #[true, true, true, true, true, true, true, true, true, false, false, false, false, false] rfl rfl (any_of HT_.out (by kernel_rfl)) (fun _ _ _ h => h) (Or.inl ⟨by rfl, ?_⟩) ?_ ?_
                        rotate_left
                        ·intro w'
                         go_simp
                         with_reducible rfl
                        rotate_left
                        ·simp only [Act.put, List.setIfInBounds_toArray, List.set_cons_zero, List.set_cons_succ, i64_w, i32_w]
                         rfl
                        refine pure_ (i := 9) (N := some 135) (v := ?_) (a' := ?_) #[true, true, true, true, true, true, true, true, true, true, false, false, false, false] rfl rfl (any_of HT_.out (by kernel_rfl)) (fun _ _ _ h => h) (Or.inl ⟨by rfl, ?_⟩) ?_ ?_
                        rotate_left
                        ·intro w'
                         go_simp
                         with_reducible rfl
                        rotate_left
                        ·simp only [Act.put, List.setIfInBounds_toArray, List.set_cons_zero, List.set_cons_succ, i64_w, i32_w]
                         rfl
                        refine pure_ (i := 10) (N := some 136) (v := ?_) (a' := ?_) #[true, true, true, true, true, true, true, true, true, true, true, false, false, false] rfl rfl (any_of HT_.out (by kernel_rfl)) (fun _ _ _ h => h) (Or.inl ⟨by rfl, ?_⟩) ?_ ?_
                        rotate_left
                        ·intro w'
                         go_simp
                         with_reducible rfl
                        rotate_left
                        ·simp only [Act.put, List.setIfInBounds_toArray, List.set_cons_zero, List.set_cons_succ, i64_w, i32_w]
                         rfl
                        refine one_ (i := 11) (N := some 12) #[true, true, true, true, true, true, true, true, true, true, true, true, false, false] rfl rfl (one_of HT_.out (by kernel_rfl)) (by decide) (fun K hK => ?_)
                        refine box_step ?hg (N := 12) ?hd (cs := #[.int .i64 0, .int .i64 0]) (t := 60) ?hr ?_; (case hd => rfl); (case hg => rfl); (case hr => first | (go_simp; done) | (go_simp; rfl))
                        intro gb783 hg w124 hbox hb
                        have HS12_ := (hb.cell (World.block_lt_of_cell? _ _ (hHeld.2.2.2.2.2.2.2.2.2.2.2.2.1))).trans (hHeld.2.2.2.2.2.2.2.2.2.2.2.2.1)
                        have HS13_ := (hb.cell (World.block_lt_of_cell? _ _ (hHeld.2.2.2.2.2.2.2.2.2.2.2.2.2))).trans (hHeld.2.2.2.2.2.2.2.2.2.2.2.2.2)
                        replace HO_716004 := Az.mk (Kd.V_below (Kd.V_elderB (Kd.V_ext HO_716004.out) gb783 (Nat.le_of_eq hg.symm)) hb)
                        replace HO_724004 := Az.mk (Kd.V_below (Kd.V_elderB (Kd.V_ext HO_724004.out) gb783 (Nat.le_of_eq hg.symm)) hb)
                        have BK783 := Az.mk (hbox)
                        have GW783 := Az.mk (geO hg (pbE HB.out))
                        have GE783 := Az.mk (geO hg (pbE HB.out))
                        replace HB := Az.mk (pbT (by exact pbE HB.out) hb)
                        have NB715_783 := Az.mk (neO hg (bk BK715.out))
                        have NB783_715 := Az.mk (neP hg (bk BK715.out))
                        replace BK715 := Az.mk (bkB (bk BK715.out) hb)
                        have NB721_783 := Az.mk (neO hg (bk BK721.out))
                        have NB783_721 := Az.mk (neP hg (bk BK721.out))
                        replace BK721 := Az.mk (bkB (bk BK721.out) hb)
                        have NB723_783 := Az.mk (neO hg (bk BK723.out))
                        have NB783_723 := Az.mk (neP hg (bk BK723.out))
                        replace BK723 := Az.mk (bkB (bk BK723.out) hb)
                        clear hb hbox hg
                        refine hK.out _ _ ⟨(bkC BK715.out 0).trans rfl, (bkC BK715.out 1).trans rfl, (bkC BK715.out 2).trans rfl, (bkC BK715.out 3).trans rfl, (bkC BK715.out 4).trans rfl, (bkC BK715.out 5).trans rfl, (bkC BK723.out 0).trans rfl, (bkC BK723.out 1).trans rfl, (bkC BK723.out 2).trans rfl, (bkC BK723.out 3).trans rfl, (bkC BK723.out 4).trans rfl, (bkC BK723.out 5).trans rfl, HS12_, HS13_⟩ (fun hHeld => ?_)
                        clear hK K
                        refine norm_ (a' := ?_) ?_ ?_
                        rotate_left
                        ·show Act.put _ (some 12) _ = _
                         simp only [Act.put, List.setIfInBounds_toArray, List.set_cons_zero, List.set_cons_succ, i64_w, i32_w]
                         rfl
                        exact norm_ (by simp only [putAll, Act.put, List.setIfInBounds_toArray, List.set_cons_zero, List.set_cons_succ]) (hCont (gb783) _ ⟨hHeld, (by (with_reducible repeat (first | apply Kd.V_alloc | apply Kd.V_drewN | apply Kd.V_drew)); exact Kd.V_mono HO_716004.out (fun _ hk => ⟨hk.1.1, ⟨hk.1.2.1, ⟨hk.1.2.2, hk.2⟩⟩⟩)), (by (with_reducible repeat (first | apply Kd.V_alloc | apply Kd.V_drewN | apply Kd.V_drew)); exact Kd.V_mono HO_724004.out (fun _ hk => ⟨hk.1.1, ⟨hk.1.2.1, ⟨hk.1.2.2, hk.2⟩⟩⟩)), (bk BK715.out), (bk BK721.out), (bk BK723.out), (bk BK783.out), GW783.out, GE783.out, NB715_783.out, NB783_715.out, NB721_783.out, NB783_721.out, NB723_783.out, NB783_723.out, (by exact pbE HB.out)⟩)
                       ·skip
                        refine box_step ?hg (N := 12) ?hd (cs := #[.int .i64 0, .int .i64 0]) (t := 60) ?hr ?_; (case hd => rfl); (case hg => rfl); (case hr => first | (go_simp; done) | (go_simp; rfl))
                        intro gb783 hg w123 hbox hb
                        have HS12_ := (hb.cell (World.block_lt_of_cell? _ _ (hHeld.2.2.2.2.2.2.2.2.2.2.2.2.1))).trans (hHeld.2.2.2.2.2.2.2.2.2.2.2.2.1)
                        have HS13_ := (hb.cell (World.block_lt_of_cell? _ _ (hHeld.2.2.2.2.2.2.2.2.2.2.2.2.2))).trans (hHeld.2.2.2.2.2.2.2.2.2.2.2.2.2)
                        replace HO_716004 := Az.mk (Kd.V_below (Kd.V_elderB (Kd.V_ext HO_716004.out) gb783 (Nat.le_of_eq hg.symm)) hb)
                        replace HO_724004 := Az.mk (Kd.V_below (Kd.V_elderB (Kd.V_ext HO_724004.out) gb783 (Nat.le_of_eq hg.symm)) hb)
                        have BK783 := Az.mk (hbox)
                        have GW783 := Az.mk (geO hg (pbE HB.out))
                        have GE783 := Az.mk (geO hg (pbE HB.out))
                        replace HB := Az.mk (pbT (by exact pbE HB.out) hb)
                        have NB715_783 := Az.mk (neO hg (bk BK715.out))
                        have NB783_715 := Az.mk (neP hg (bk BK715.out))
                        replace BK715 := Az.mk (bkB (bk BK715.out) hb)
                        have NB721_783 := Az.mk (neO hg (bk BK721.out))
                        have NB783_721 := Az.mk (neP hg (bk BK721.out))
                        replace BK721 := Az.mk (bkB (bk BK721.out) hb)
                        have NB723_783 := Az.mk (neO hg (bk BK723.out))
                        have NB783_723 := Az.mk (neP hg (bk BK723.out))
                        replace BK723 := Az.mk (bkB (bk BK723.out) hb)
                        clear hb hbox hg
                        refine hK.out _ _ ⟨(bkC BK715.out 0).trans rfl, (bkC BK715.out 1).trans rfl, (bkC BK715.out 2).trans rfl, (bkC BK715.out 3).trans rfl, (bkC BK715.out 4).trans rfl, (bkC BK715.out 5).trans rfl, (bkC BK723.out 0).trans rfl, (bkC BK723.out 1).trans rfl, (bkC BK723.out 2).trans rfl, (bkC BK723.out 3).trans rfl, (bkC BK723.out 4).trans rfl, (bkC BK723.out 5).trans rfl, HS12_, HS13_⟩ (fun hHeld => ?_)
                        clear hK K
                        refine norm_ (a' := ?_) ?_ ?_
                        rotate_left
                        ·show Act.put _ (some 12) _ = _
                         simp only [Act.put, List.setIfInBounds_toArray, List.set_cons_zero, List.set_cons_succ, i64_w, i32_w]
                         rfl
                        refine one_ (i := 7) (N := some 134) #[true, true, true, true, true, true, true, true, false, false, false, true, false, false] rfl rfl (one_of HT_.out (by kernel_rfl)) (by decide) (fun K hK => ?_)
                        refine goes_ Tryd.func29 (by kernel_rfl) rfl #[.agg #[.int .i64 x716000_2, .string x716001_2, .string x716002_2, .int .i64 x716003_2, .slice Ao37 x716004_2.length co37, .int .i64 x716005_2], .int .i64 ((rd_T60 x724004_25 x11_5).f1)] (by rfl) rfl rfl (by (try simp only [List.map_toArray, List.map_cons, List.map_nil]); first | done | rfl | (simp only [List.length_drop, List.length_take]; rfl)) ?_
                        with_reducible refine (desc_Has.calls x716000_2 x716001_2 x716002_2 x716003_2 _ _ x716004_2 x716005_2 ((rd_T60 x724004_25 x11_5).f1) t780 t781 true _ ?side1 ?side2 ?side3 A115.out).mono ?_
                        (case side1 => exact hG.below (by exact pbE HB.out))
                        (case side2 => repeat (first | exact (Kd.V_reads' HO_716004.out).2.2 | (with_reducible refine Kd.C_alloc ?_ _) | (with_reducible refine Kd.C_drewN ?_ _) | (with_reducible refine Kd.C_drew ?_)))
                        (case side3 => exact (Kd.V_reads' HO_716004.out).2.1)
                        rintro e w124 ⟨rfl, hb⟩
                        have HS12_ := (hb.cell (World.block_lt_of_cell? _ _ (hHeld.2.2.2.2.2.2.2.2.2.2.2.2.1))).trans (hHeld.2.2.2.2.2.2.2.2.2.2.2.2.1)
                        have HS13_ := (hb.cell (World.block_lt_of_cell? _ _ (hHeld.2.2.2.2.2.2.2.2.2.2.2.2.2))).trans (hHeld.2.2.2.2.2.2.2.2.2.2.2.2.2)
                        refine ⟨_, rfl, ?_⟩
                        replace HO_716004 := Az.mk (Kd.V_below (Kd.V_ext HO_716004.out) hb)
                        replace HO_724004 := Az.mk (Kd.V_below (Kd.V_ext HO_724004.out) hb)
                        replace BK715 := Az.mk (bkB (bk BK715.out) hb)
                        replace BK721 := Az.mk (bkB (bk BK721.out) hb)
                        replace BK723 := Az.mk (bkB (bk BK723.out) hb)
                        replace BK783 := Az.mk (bkB (bk BK783.out) hb)
                        replace HB := Az.mk (pbT (by exact pbE HB.out) hb)
                        (try clear hb)
                        (try clear hb2)
                        (try clear hk)
                        (try clear hi)
                        refine hK.out _ _ ⟨(bkC BK715.out 0).trans rfl, (bkC BK715.out 1).trans rfl, (bkC BK715.out 2).trans rfl, (bkC BK715.out 3).trans rfl, (bkC BK715.out 4).trans rfl, (bkC BK715.out 5).trans rfl, (bkC BK723.out 0).trans rfl, (bkC BK723.out 1).trans rfl, (bkC BK723.out 2).trans rfl, (bkC BK723.out 3).trans rfl, (bkC BK723.out 4).trans rfl, (bkC BK723.out 5).trans rfl, HS12_, HS13_⟩ (fun hHeld => ?_)
                        clear hK K
                        refine norm_ (a' := ?_) ?_ ?_
                        rotate_left
                        ·show Act.put _ (some 134) _ = _
                         simp only [Act.put, List.setIfInBounds_toArray, List.set_cons_zero, List.set_cons_succ, i64_w, i32_w]
                         rfl
                        refine pure_ (i := 8) (N := some 126) (v := ?_) (a' := ?_) #[true, true, true, true, true, true, true, true, true, false, false, true, false, false] rfl rfl (any_of HT_.out (by kernel_rfl)) (fun _ _ _ h => h) (Or.inl ⟨by rfl, ?_⟩) ?_ ?_
                        rotate_left
                        ·intro w'
                         go_simp
                         with_reducible rfl
                        rotate_left
                        ·simp only [Act.put, List.setIfInBounds_toArray, List.set_cons_zero, List.set_cons_succ, i64_w, i32_w]
                         rfl
                        refine pure_ (i := 9) (N := some 135) (v := ?_) (a' := ?_) #[true, true, true, true, true, true, true, true, true, true, false, true, false, false] rfl rfl (any_of HT_.out (by kernel_rfl)) (fun _ _ _ h => h) (Or.inl ⟨by rfl, ?_⟩) ?_ ?_
                        rotate_left
                        ·intro w'
                         go_simp
                         with_reducible rfl
                        rotate_left
                        ·simp only [Act.put, List.setIfInBounds_toArray, List.set_cons_zero, List.set_cons_succ, i64_w, i32_w]
                         rfl
                        refine pure_ (i := 10) (N := some 136) (v := ?_) (a' := ?_) #[true, true, true, true, true, true, true, true, true, true, true, true, false, false] rfl rfl (any_of HT_.out (by kernel_rfl)) (fun _ _ _ h => h) (Or.inl ⟨by rfl, ?_⟩) ?_ ?_
                        rotate_left
                        ·intro w'
                         go_simp
                         with_reducible rfl
                        rotate_left
                        ·simp only [Act.put, List.setIfInBounds_toArray, List.set_cons_zero, List.set_cons_succ, i64_w, i32_w]
                         rfl
                        exact norm_ (by simp only [putAll, Act.put, List.setIfInBounds_toArray, List.set_cons_zero, List.set_cons_succ]) (hCont (gb783) _ ⟨hHeld, (by (with_reducible repeat (first | apply Kd.V_alloc | apply Kd.V_drewN | apply Kd.V_drew)); exact Kd.V_mono HO_716004.out (fun _ hk => ⟨hk.1.1, ⟨hk.1.2.1, ⟨hk.1.2.2, hk.2⟩⟩⟩)), (by (with_reducible repeat (first | apply Kd.V_alloc | apply Kd.V_drewN | apply Kd.V_drew)); exact Kd.V_mono HO_724004.out (fun _ hk => ⟨hk.1.1, ⟨hk.1.2.1, ⟨hk.1.2.2, hk.2⟩⟩⟩)), (bk BK715.out), (bk BK721.out), (bk BK723.out), (bk BK783.out), GW783.out, GE783.out, NB715_783.out, NB783_715.out, NB721_783.out, NB783_721.out, NB723_783.out, NB783_723.out, (by exact pbE HB.out)⟩)
                      rintro gb783 w125 ⟨hS_, h0_, h1_, h2_, h3_, h4_, h5_, h6_, h7_, h8_, h9_, h10_, h11_, h12_, h13_, h14_⟩
                      have n0_ : Az (Kd.V k60 60 w125 w.heap.size (fun k_ => k_ ≠ gb715 ∧ k_ ≠ gb721 ∧ k_ ≠ gb723 ∧ k_ ≠ gb783) (.slice Ao37 x716004_2.length co37) x716004_2) := ⟨h0_⟩
                      have n1_ : Az (Kd.V k60 60 w125 w.heap.size (fun k_ => k_ ≠ gb715 ∧ k_ ≠ gb721 ∧ k_ ≠ gb723 ∧ k_ ≠ gb783) (.slice (some ad779) x724004_25.length co121) x724004_25) := ⟨h1_⟩
                      have n2_ : Az (w125.heap[gb715]? = some (.cells #[.int .i64 x716000_2, .string x716001_2, .string x716002_2, .int .i64 x716003_2, .slice Ao37 x716004_2.length co37, .int .i64 x716005_2] 26 (0, 0))) := ⟨h2_⟩
                      have n3_ : Az (w125.heap[gb721]? = some (.cells #[.int .i64 ((rd_T58 l1 x7_2).f0), .int .i64 ((rd_T58 l1 x7_2).f1), .int .i64 ((rd_T58 l1 x7_2).f2), .string ((rd_T58 l1 x7_2).f3)] 58 (0, 0))) := ⟨h3_⟩
                      have n4_ : Az (w125.heap[gb723]? = some (.cells #[.int .i64 x724000_25, .string x724001_25, .string x724002_25, .int .i64 x724003_25, .slice (some ad779) x724004_25.length co121, .int .i64 x724005_25] 26 (0, 0))) := ⟨h4_⟩
                      have n5_ : Az (w125.heap[gb783]? = some (.cells #[.int .i64 0, .int .i64 0] 60 (0, 0))) := ⟨h5_⟩
                      have n6_ : Az (w.heap.size ≤ gb783) := ⟨h6_⟩
                      have n7_ : Az (w.heap.size ≤ gb783) := ⟨h7_⟩
                      have n8_ : Az (gb715 ≠ gb783) := ⟨h8_⟩
                      have n9_ : Az (gb783 ≠ gb715) := ⟨h9_⟩
                      have n10_ : Az (gb721 ≠ gb783) := ⟨h10_⟩
                      have n11_ : Az (gb783 ≠ gb721) := ⟨h11_⟩
                      have n12_ : Az (gb723 ≠ gb783) := ⟨h12_⟩
                      have n13_ : Az (gb783 ≠ gb723) := ⟨h13_⟩
                      have n14_ : Az (Below w.heap.size w w125) := ⟨h14_⟩
                      clear HO_716004
                      clear HO_724004
                      clear BK715
                      clear BK721
                      clear BK723
                      clear HB
                      clear h0_ h1_ h2_ h3_ h4_ h5_ h6_ h7_ h8_ h9_ h10_ h11_ h12_ h13_ h14_
                      have HO_716004 := n0_
                      have HO_724004 := n1_
                      have BK715 := n2_
                      have BK721 := n3_
                      have BK723 := n4_
                      have BK783 := n5_
                      have GW783 := n6_
                      have GE783 := n7_
                      have NB715_783 := n8_
                      have NB783_715 := n9_
                      have NB721_783 := n10_
                      have NB783_721 := n11_
                      have NB723_783 := n12_
                      have NB783_723 := n13_
                      have HB := n14_
                      clear n0_ n1_ n2_ n3_ n4_ n5_ n6_ n7_ n8_ n9_ n10_ n11_ n12_ n13_ n14_
                      have hHeld : w125.cell? ⟨gb715, 0, none⟩ = some (.int .i64 x716000_2) ∧ w125.cell? ⟨gb715, 1, none⟩ = some (.string x716001_2) ∧ w125.cell? ⟨gb715, 2, none⟩ = some (.string x716002_2) ∧ w125.cell? ⟨gb715, 3, none⟩ = some (.int .i64 x716003_2) ∧ w125.cell? ⟨gb715, 4, none⟩ = some (.slice Ao37 x716004_2.length co37) ∧ w125.cell? ⟨gb715, 5, none⟩ = some (.int .i64 x716005_2) ∧ w125.cell? ⟨gb723, 0, none⟩ = some (.int .i64 x724000_25) ∧ w125.cell? ⟨gb723, 1, none⟩ = some (.string x724001_25) ∧ w125.cell? ⟨gb723, 2, none⟩ = some (.string x724002_25) ∧ w125.cell? ⟨gb723, 3, none⟩ = some (.int .i64 x724003_25) ∧ w125.cell? ⟨gb723, 4, none⟩ = some (.slice (some ad779) x724004_25.length co121) ∧ w125.cell? ⟨gb723, 5, none⟩ = some (.int .i64 x724005_25) ∧ w125.cell? (ad779.add ((x11_5).toNat * 2)) = some (.int .i64 ((rd_T60 x724004_25 x11_5).f0)) ∧ w125.cell? ⟨(ad779.add ((x11_5).toNat * 2)).block, (ad779.add ((x11_5).toNat * 2)).off + 1, none⟩ = some (.int .i64 ((rd_T60 x724004_25 x11_5).f1)) := hS_
                      refine norm_ (a' := ?_) ?_ ?_
                      rotate_left
                      ·simp only [putAll, Act.put, List.setIfInBounds_toArray, List.set_cons_zero, List.set_cons_succ]
                       rfl
                      refine one_ (i := 12) (N := none) #[true, true, true, true, true, true, true, true, true, true, true, true, true, false] rfl rfl (one_of HT_.out (by kernel_rfl)) (by decide) (fun K hK => ?_)
                      have hs126 : w125.cell? ⟨gb783, 0, none⟩ = some (.int .i64 0) := (bkC BK783.out 0).trans rfl
                      have hfs126 := bkF BK783.out 0
                      have hns126_0 := NB715_783.out
                      have hns126_1 := NB721_783.out
                      have hns126_2 := NB723_783.out
                      have hms126_0 := NB783_715.out
                      have hms126_1 := NB783_721.out
                      have hms126_2 := NB783_723.out
                      have hs127 : w125.cell? ⟨gb783, 1, none⟩ = some (.int .i64 0) := (bkC BK783.out 1).trans rfl
                      have hfs127 := bkF BK783.out 1
                      have hns127_0 := NB715_783.out
                      have hns127_1 := NB721_783.out
                      have hns127_2 := NB723_783.out
                      have hms127_0 := NB783_715.out
                      have hms127_1 := NB783_721.out
                      have hms127_2 := NB783_723.out
                      refine skip_ (w1 := ?_) (by rfl) rfl ?_ ?_
                      rotate_left
                      ·go_simp
                       rfl
                      have qq0_ := cell_set2 (g := gb783) NB715_783.out (hHeld.1) (.int .i64 t780) (.int .i64 t781)
                      have qq1_ := cell_set2 (g := gb783) NB715_783.out (hHeld.2.1) (.int .i64 t780) (.int .i64 t781)
                      have qq2_ := cell_set2 (g := gb783) NB715_783.out (hHeld.2.2.1) (.int .i64 t780) (.int .i64 t781)
                      have qq3_ := cell_set2 (g := gb783) NB715_783.out (hHeld.2.2.2.1) (.int .i64 t780) (.int .i64 t781)
                      have qq4_ := cell_set2 (g := gb783) NB715_783.out (hHeld.2.2.2.2.1) (.int .i64 t780) (.int .i64 t781)
                      have qq5_ := cell_set2 (g := gb783) NB715_783.out (hHeld.2.2.2.2.2.1) (.int .i64 t780) (.int .i64 t781)
                      have qq6_ := cell_set2 (g := gb783) NB723_783.out (hHeld.2.2.2.2.2.2.1) (.int .i64 t780) (.int .i64 t781)
                      have qq7_ := cell_set2 (g := gb783) NB723_783.out (hHeld.2.2.2.2.2.2.2.1) (.int .i64 t780) (.int .i64 t781)
                      have qq8_ := cell_set2 (g := gb783) NB723_783.out (hHeld.2.2.2.2.2.2.2.2.1) (.int .i64 t780) (.int .i64 t781)
                      have qq9_ := cell_set2 (g := gb783) NB723_783.out (hHeld.2.2.2.2.2.2.2.2.2.1) (.int .i64 t780) (.int .i64 t781)
                      have qq10_ := cell_set2 (g := gb783) NB723_783.out (hHeld.2.2.2.2.2.2.2.2.2.2.1) (.int .i64 t780) (.int .i64 t781)
                      have qq11_ := cell_set2 (g := gb783) NB723_783.out (hHeld.2.2.2.2.2.2.2.2.2.2.2.1) (.int .i64 t780) (.int .i64 t781)
                      have qq12_ := cell_set2 (g := gb783) (by first | (rw [add_block]; exact Kd.V_apart HO_724004.out hpos779_ (by decide) (fun _ hk => hk.2.2.2)) | (show (Addr.add _ _).block ≠ _; rw [add_block]; exact Kd.V_apart HO_724004.out hpos779_ (by decide) (fun _ hk => hk.2.2.2)) | (exact Kd.V_apart HO_724004.out hpos779_ (by decide) (fun _ hk => hk.2.2.2))) (hHeld.2.2.2.2.2.2.2.2.2.2.2.2.1) (.int .i64 t780) (.int .i64 t781)
                      have qq13_ := cell_set2 (g := gb783) (by first | (rw [add_block]; exact Kd.V_apart HO_724004.out hpos779_ (by decide) (fun _ hk => hk.2.2.2)) | (show (Addr.add _ _).block ≠ _; rw [add_block]; exact Kd.V_apart HO_724004.out hpos779_ (by decide) (fun _ hk => hk.2.2.2)) | (exact Kd.V_apart HO_724004.out hpos779_ (by decide) (fun _ hk => hk.2.2.2))) (hHeld.2.2.2.2.2.2.2.2.2.2.2.2.2) (.int .i64 t780) (.int .i64 t781)
                      refine hK.out _ _ ⟨qq0_, qq1_, qq2_, qq3_, qq4_, qq5_, qq6_, qq7_, qq8_, qq9_, qq10_, qq11_, qq12_, qq13_⟩ (fun hHeld => ?_)
                      clear hK K
                      refine pure_ (i := 13) (N := some 13) (v := ?_) (a' := ?_) #[true, true, true, true, true, true, true, true, true, true, true, true, true, true] rfl rfl (any_of HT_.out (by kernel_rfl)) (fun _ _ _ h => h) (Or.inl ⟨by rfl, ?_⟩) ?_ ?_
                      rotate_left
                      ·intro w'
                       go_simp
                       with_reducible rfl
                      rotate_left
                      ·simp only [Act.put, List.setIfInBounds_toArray, List.set_cons_zero, List.set_cons_succ, i64_w, i32_w]
                       rfl
                      refine done_ (done_of HT_.out (by kernel_rfl)) ?_
                      try go_wp2
                      have n0_ : Az (Kd.V k60 60 ((w125.setCell ⟨gb783, 0, none⟩ (.int .i64 t780)).setCell ⟨gb783, 1, none⟩ (.int .i64 t781)) w.heap.size (fun k_ => k_ ≠ gb715 ∧ k_ ≠ gb721 ∧ k_ ≠ gb723 ∧ k_ ≠ gb783) (.slice Ao37 x716004_2.length co37) x716004_2) := ⟨by (with_reducible repeat (first | apply Kd.V_alloc | apply Kd.V_drewN | apply Kd.V_drew)); exact Kd.V_mono (Kd.V_off (g := gb783) (fun _ hk => hk.2) (Kd.V_mono HO_716004.out (fun k_ hk => (⟨hk, hk.2.2.2⟩ : _ ∧ k_ ≠ gb783)))) (fun _ hk => ⟨hk.1.1, ⟨hk.1.2.1, ⟨hk.1.2.2.1, hk.1.2.2.2⟩⟩⟩)⟩
                      have n1_ : Az (Kd.V k60 60 ((w125.setCell ⟨gb783, 0, none⟩ (.int .i64 t780)).setCell ⟨gb783, 1, none⟩ (.int .i64 t781)) w.heap.size (fun k_ => k_ ≠ gb715 ∧ k_ ≠ gb721 ∧ k_ ≠ gb723 ∧ k_ ≠ gb783) (.slice (some ad779) x724004_25.length co121) x724004_25) := ⟨by (with_reducible repeat (first | apply Kd.V_alloc | apply Kd.V_drewN | apply Kd.V_drew)); exact Kd.V_mono (Kd.V_off (g := gb783) (fun _ hk => hk.2) (Kd.V_mono HO_724004.out (fun k_ hk => (⟨hk, hk.2.2.2⟩ : _ ∧ k_ ≠ gb783)))) (fun _ hk => ⟨hk.1.1, ⟨hk.1.2.1, ⟨hk.1.2.2.1, hk.1.2.2.2⟩⟩⟩)⟩
                      have n2_ : Az (((w125.setCell ⟨gb783, 0, none⟩ (.int .i64 t780)).setCell ⟨gb783, 1, none⟩ (.int .i64 t781)).heap[gb715]? = some (.cells #[.int .i64 x716000_2, .string x716001_2, .string x716002_2, .int .i64 x716003_2, .slice Ao37 x716004_2.length co37, .int .i64 x716005_2] 26 (0, 0))) := ⟨by exact bf BK715.out⟩
                      have n3_ : Az (((w125.setCell ⟨gb783, 0, none⟩ (.int .i64 t780)).setCell ⟨gb783, 1, none⟩ (.int .i64 t781)).heap[gb721]? = some (.cells #[.int .i64 ((rd_T58 l1 x7_2).f0), .int .i64 ((rd_T58 l1 x7_2).f1), .int .i64 ((rd_T58 l1 x7_2).f2), .string ((rd_T58 l1 x7_2).f3)] 58 (0, 0))) := ⟨by exact bf BK721.out⟩
                      have n4_ : Az (((w125.setCell ⟨gb783, 0, none⟩ (.int .i64 t780)).setCell ⟨gb783, 1, none⟩ (.int .i64 t781)).heap[gb723]? = some (.cells #[.int .i64 x724000_25, .string x724001_25, .string x724002_25, .int .i64 x724003_25, .slice (some ad779) x724004_25.length co121, .int .i64 x724005_25] 26 (0, 0))) := ⟨by exact bf BK723.out⟩
                      have n5_ : Az (((w125.setCell ⟨gb783, 0, none⟩ (.int .i64 t780)).setCell ⟨gb783, 1, none⟩ (.int .i64 t781)).heap[gb783]? = some (.cells #[.int .i64 t780, .int .i64 t781] 60 (0, 0))) := ⟨by refine bk ?_; refine blk_put (cs := #[.int .i64 t780, .int .i64 0]) ?_ 1 _ rfl; refine bk ?_; refine blk_put (cs := #[.int .i64 0, .int .i64 0]) ?_ 0 _ rfl; refine bk ?_; exact BK783.out⟩
                      have n6_ : Az (Below w.heap.size w ((w125.setCell ⟨gb783, 0, none⟩ (.int .i64 t780)).setCell ⟨gb783, 1, none⟩ (.int .i64 t781))) := ⟨by exact pbE HB.out⟩
                      (try clear HO_716004)
                      (try clear HO_724004)
                      (try clear BK715)
                      (try clear BK721)
                      (try clear BK723)
                      (try clear BK783)
                      (try clear HB)
                      generalize ((w125.setCell ⟨gb783, 0, none⟩ (.int .i64 t780)).setCell ⟨gb783, 1, none⟩ (.int .i64 t781)) = w128 at n0_ n1_ n2_ n3_ n4_ n5_ n6_ ⊢
                      have HO_716004 := n0_
                      have HO_724004 := n1_
                      have BK715 := n2_
                      have BK721 := n3_
                      have BK723 := n4_
                      have BK783 := n5_
                      have HB := n6_
                      clear n0_ n1_ n2_ n3_ n4_ n5_ n6_
                      replace HO_716004 := Az.mk (Kd.V_drew HO_716004.out)
                      replace HO_724004 := Az.mk (Kd.V_drew HO_724004.out)
                      replace BK715 := Az.mk (bkD BK715.out)
                      replace BK721 := Az.mk (bkD BK721.out)
                      replace BK723 := Az.mk (bkD BK723.out)
                      replace BK783 := Az.mk (bkD BK783.out)
                      replace HB := Az.mk (pb1 HB.out)
                      have p784 : 0 ≤ (x11_5 : Int) := of_decide_eq_true (by first | (with_reducible assumption) | assumption)
                      have q784 : x11_5 < (x724004_25.length : Int) := of_decide_eq_true (by first | (with_reducible assumption) | assumption)
                      have hpos784_ : 0 < x724004_25.length := by omega
                      obtain ⟨ad784, e784, hx784_0, hx784_1⟩ := at_T60 (Kd.V_reads' HO_724004.out).2.2 x11_5 p784 q784
                      obtain rfl : ad779 = ad784 := (by injection e784)
                      replace p784 := eq_true p784
                      replace q784 := eq_true q784
                      refine start_ (n := 25) (S := fun w' => w'.cell? ⟨gb783, 0, none⟩ = some (.int .i64 t780) ∧ w'.cell? ⟨gb783, 1, none⟩ = some (.int .i64 t781) ∧ w'.cell? ⟨gb723, 0, none⟩ = some (.int .i64 x724000_25) ∧ w'.cell? ⟨gb723, 1, none⟩ = some (.string x724001_25) ∧ w'.cell? ⟨gb723, 2, none⟩ = some (.string x724002_25) ∧ w'.cell? ⟨gb723, 3, none⟩ = some (.int .i64 x724003_25) ∧ w'.cell? ⟨gb723, 4, none⟩ = some (.slice (some ad779) x724004_25.length co121) ∧ w'.cell? ⟨gb723, 5, none⟩ = some (.int .i64 x724005_25) ∧ w'.cell? (ad779.add ((x11_5).toNat * 2)) = some (.int .i64 ((rd_T60 x724004_25 x11_5).f0)) ∧ w'.cell? ⟨(ad779.add ((x11_5).toNat * 2)).block, (ad779.add ((x11_5).toNat * 2)).off + 1, none⟩ = some (.int .i64 ((rd_T60 x724004_25 x11_5).f1))) (ds := []) #[false, false, false, false, false, false, false, false, false, false, false, false, false, false, false, false, false, false, false, false, false, false, false, false, false] (by kernel_rfl) rfl rfl ⟨(bkC BK783.out 0).trans rfl, (bkC BK783.out 1).trans rfl, (bkC BK723.out 0).trans rfl, (bkC BK723.out 1).trans rfl, (bkC BK723.out 2).trans rfl, (bkC BK723.out 3).trans rfl, (bkC BK723.out 4).trans rfl, (bkC BK723.out 5).trans rfl, hx784_0, hx784_1⟩ (fun hHeld => ?_); refine with_tabW l06_DescRises.tab30 l06_DescRises.bits30 (fun HT_ HW_ => ?_)
                      generalize w128.drew = w129 at HO_716004 HO_724004 BK715 BK721 BK723 BK783 HB hx784_0 hx784_1 hHeld ⊢
                      refine pure_ (i := 0) (N := some 137) (v := ?_) (a' := ?_) #[true, false, false, false, false, false, false, false, false, false, false, false, false, false, false, false, false, false, false, false, false, false, false, false, false] rfl rfl (any_of HT_.out (by kernel_rfl)) (fun _ _ _ h => h) (Or.inl ⟨by rfl, ?_⟩) ?_ ?_
                      rotate_left
                      ·intro w'
                       go_simp
                       with_reducible rfl
                      rotate_left
                      ·simp only [Act.put, List.setIfInBounds_toArray, List.set_cons_zero, List.set_cons_succ, i64_w, i32_w]
                       rfl
                      refine pure_ (i := 1) (N := some 138) (v := ?_) (a' := ?_) #[true, true, false, false, false, false, false, false, false, false, false, false, false, false, false, false, false, false, false, false, false, false, false, false, false] rfl rfl (any_of HT_.out (by kernel_rfl)) (fun _ _ _ h => h) (Or.inl ⟨by rfl, ?_⟩) ?_ ?_
                      rotate_left
                      ·intro w'
                       go_simp
                       with_reducible rfl
                      rotate_left
                      ·simp only [Act.put, List.setIfInBounds_toArray, List.set_cons_zero, List.set_cons_succ, i64_w, i32_w]
                       rfl
                      refine pure_ (i := 3) (N := some 140) (v := ?_) (a' := ?_) #[true, true, false, true, false, false, false, false, false, false, false, false, false, false, false, false, false, false, false, false, false, false, false, false, false] rfl rfl (any_of HT_.out (by kernel_rfl)) (fun _ _ _ h => h) (Or.inl ⟨by rfl, ?_⟩) ?_ ?_
                      rotate_left
                      ·intro w'
                       go_simp
                       with_reducible rfl
                      rotate_left
                      ·simp only [Act.put, List.setIfInBounds_toArray, List.set_cons_zero, List.set_cons_succ, i64_w, i32_w]
                       rfl
                      refine pure_ (i := 5) (N := some 142) (v := ?_) (a' := ?_) #[true, true, false, true, false, true, false, false, false, false, false, false, false, false, false, false, false, false, false, false, false, false, false, false, false] rfl rfl (any_of HT_.out (by kernel_rfl)) (fun _ _ _ h => h) (Or.inl ⟨by rfl, ?_⟩) ?_ ?_
                      rotate_left
                      ·intro w'
                       go_simp
                       with_reducible rfl
                      rotate_left
                      ·simp only [Act.put, List.setIfInBounds_toArray, List.set_cons_zero, List.set_cons_succ, i64_w, i32_w]
                       rfl
                      refine take_ (i := 2) (N := some 139) (v := ?_) (a' := ?_) #[true, true, true, true, false, true, false, false, false, false, false, false, false, false, false, false, false, false, false, false, false, false, false, false, false] rfl rfl (take_ofW HT_.out HW_.out (by kernel_rfl)) (fun _ _ _ h => h) (Or.inl ⟨by rfl, ?_⟩) hHeld ?_ ?_
                      rotate_left
                      ·rintro w' ⟨s0, s1, s2, s3, s4, s5, s6, s7, s8, s9⟩
                       go_simp
                       with_reducible rfl
                      rotate_left
                      ·simp only [Act.put, List.setIfInBounds_toArray, List.set_cons_zero, List.set_cons_succ, i64_w, i32_w]
                       rfl
                      refine take_ (i := 4) (N := some 141) (v := ?_) (a' := ?_) #[true, true, true, true, true, true, false, false, false, false, false, false, false, false, false, false, false, false, false, false, false, false, false, false, false] rfl rfl (take_ofW HT_.out HW_.out (by kernel_rfl)) (fun _ _ _ h => h) (Or.inl ⟨by rfl, ?_⟩) hHeld ?_ ?_
                      rotate_left
                      ·rintro w' ⟨s0, s1, s2, s3, s4, s5, s6, s7, s8, s9⟩
                       go_simp
                       with_reducible rfl
                      rotate_left
                      ·simp only [Act.put, List.setIfInBounds_toArray, List.set_cons_zero, List.set_cons_succ, i64_w, i32_w]
                       rfl
                      refine pure_ (i := 6) (N := some 143) (v := ?_) (a' := ?_) #[true, true, true, true, true, true, true, false, false, false, false, false, false, false, false, false, false, false, false, false, false, false, false, false, false] rfl rfl (any_of HT_.out (by kernel_rfl)) (fun _ _ _ h => h) (Or.inl ⟨by rfl, ?_⟩) ?_ ?_
                      rotate_left
                      ·intro w'
                       go_simp
                       with_reducible rfl
                      rotate_left
                      ·simp only [Act.put, List.setIfInBounds_toArray, List.set_cons_zero, List.set_cons_succ, i64_w, i32_w]
                       rfl
                      refine take_ (i := 7) (N := some 144) (v := ?_) (a' := ?_) #[true, true, true, true, true, true, true, true, false, false, false, false, false, false, false, false, false, false, false, false, false, false, false, false, false] rfl rfl (take_ofW HT_.out HW_.out (by kernel_rfl)) (fun _ _ _ h => h) (Or.inl ⟨by rfl, ?_⟩) hHeld ?_ ?_
                      rotate_left
                      ·rintro w' ⟨s0, s1, s2, s3, s4, s5, s6, s7, s8, s9⟩
                       go_simp
                       with_reducible rfl
                      rotate_left
                      ·simp only [Act.put, List.setIfInBounds_toArray, List.set_cons_zero, List.set_cons_succ, i64_w, i32_w]
                       rfl
                      refine pure_ (i := 8) (N := some 145) (v := ?_) (a' := ?_) #[true, true, true, true, true, true, true, true, true, false, false, false, false, false, false, false, false, false, false, false, false, false, false, false, false] rfl rfl (any_of HT_.out (by kernel_rfl)) (fun _ _ _ h => h) (Or.inl ⟨by rfl, ?_⟩) ?_ ?_
                      rotate_left
                      ·intro w'
                       go_simp
                       with_reducible rfl
                      rotate_left
                      ·simp only [Act.put, List.setIfInBounds_toArray, List.set_cons_zero, List.set_cons_succ, i64_w, i32_w]
                       rfl
                      refine pure_ (i := 9) (N := some 146) (v := ?_) (a' := ?_) #[true, true, true, true, true, true, true, true, true, true, false, false, false, false, false, false, false, false, false, false, false, false, false, false, false] rfl rfl (any_of HT_.out (by kernel_rfl)) (fun _ _ _ h => h) (Or.inl ⟨by rfl, ?_⟩) ?_ ?_
                      rotate_left
                      ·intro w'
                       go_simp
                       with_reducible rfl
                      rotate_left
                      ·simp only [Act.put, List.setIfInBounds_toArray, List.set_cons_zero, List.set_cons_succ, i64_w, i32_w]
                       rfl
                      refine pure_ (i := 10) (N := some 147) (v := ?_) (a' := ?_) #[true, true, true, true, true, true, true, true, true, true, true, false, false, false, false, false, false, false, false, false, false, false, false, false, false] rfl rfl (any_of HT_.out (by kernel_rfl)) (fun _ _ _ h => h) (Or.inl ⟨by rfl, ?_⟩) ?_ ?_
                      rotate_left
                      ·intro w'
                       go_simp
                       with_reducible rfl
                      rotate_left
                      ·simp only [Act.put, List.setIfInBounds_toArray, List.set_cons_zero, List.set_cons_succ, i64_w, i32_w]
                       rfl
                      refine pure_ (i := 11) (N := some 148) (v := ?_) (a' := ?_) #[true, true, true, true, true, true, true, true, true, true, true, true, false, false, false, false, false, false, false, false, false, false, false, false, false] rfl rfl (any_of HT_.out (by kernel_rfl)) (fun _ _ _ h => h) (Or.inl ⟨by rfl, ?_⟩) ?_ ?_
                      rotate_left
                      ·intro w'
                       go_simp
                       with_reducible rfl
                      rotate_left
                      ·simp only [Act.put, List.setIfInBounds_toArray, List.set_cons_zero, List.set_cons_succ, i64_w, i32_w]
                       rfl
                      refine pure_ (i := 12) (N := some 149) (v := ?_) (a' := ?_) #[true, true, true, true, true, true, true, true, true, true, true, true, true, false, false, false, false, false, false, false, false, false, false, false, false] rfl rfl (any_of HT_.out (by kernel_rfl)) (fun _ _ _ h => h) (Or.inl ⟨by rfl, ?_⟩) ?_ ?_
                      rotate_left
                      ·intro w'
                       go_simp
                       with_reducible rfl
                      rotate_left
                      ·simp only [Act.put, List.setIfInBounds_toArray, List.set_cons_zero, List.set_cons_succ, i64_w, i32_w]
                       rfl
                      refine pure_ (i := 13) (N := some 150) (v := ?_) (a' := ?_) #[true, true, true, true, true, true, true, true, true, true, true, true, true, true, false, false, false, false, false, false, false, false, false, false, false] rfl rfl (any_of HT_.out (by kernel_rfl)) (fun _ _ _ h => h) (Or.inl ⟨by rfl, ?_⟩) ?_ ?_
                      rotate_left
                      ·intro w'
                       go_simp
                       with_reducible rfl
                      rotate_left
                      ·simp only [Act.put, List.setIfInBounds_toArray, List.set_cons_zero, List.set_cons_succ, i64_w, i32_w]
                       rfl
                      refine pure_ (i := 14) (N := some 151) (v := undef) (a' := ?_) #[true, true, true, true, true, true, true, true, true, true, true, true, true, true, true, false, false, false, false, false, false, false, false, false, false] rfl rfl (any_of HT_.out (by kernel_rfl)) (fun _ _ _ h => h) (Or.inr ⟨by rfl, rfl⟩) ?_ ?_
                      rotate_left
                      ·simp only [Act.put, List.setIfInBounds_toArray, List.set_cons_zero, List.set_cons_succ, i64_w, i32_w]
                       rfl
                      refine pure_ (i := 15) (N := some 152) (v := undef) (a' := ?_) #[true, true, true, true, true, true, true, true, true, true, true, true, true, true, true, true, false, false, false, false, false, false, false, false, false] rfl rfl (any_of HT_.out (by kernel_rfl)) (fun _ _ _ h => h) (Or.inr ⟨by rfl, rfl⟩) ?_ ?_
                      rotate_left
                      ·simp only [Act.put, List.setIfInBounds_toArray, List.set_cons_zero, List.set_cons_succ, i64_w, i32_w]
                       rfl
                      refine pure_ (i := 16) (N := some 153) (v := undef) (a' := ?_) #[true, true, true, true, true, true, true, true, true, true, true, true, true, true, true, true, true, false, false, false, false, false, false, false, false] rfl rfl (any_of HT_.out (by kernel_rfl)) (fun _ _ _ h => h) (Or.inr ⟨by rfl, rfl⟩) ?_ ?_
                      rotate_left
                      ·simp only [Act.put, List.setIfInBounds_toArray, List.set_cons_zero, List.set_cons_succ, i64_w, i32_w]
                       rfl
                      refine pure_ (i := 17) (N := some 154) (v := undef) (a' := ?_) #[true, true, true, true, true, true, true, true, true, true, true, true, true, true, true, true, true, true, false, false, false, false, false, false, false] rfl rfl (any_of HT_.out (by kernel_rfl)) (fun _ _ _ h => h) (Or.inr ⟨by rfl, rfl⟩) ?_ ?_
                      rotate_left
                      ·simp only [Act.put, List.setIfInBounds_toArray, List.set_cons_zero, List.set_cons_succ, i64_w, i32_w]
                       rfl
                      refine pure_ (i := 18) (N := some 155) (v := undef) (a' := ?_) #[true, true, true, true, true, true, true, true, true, true, true, true, true, true, true, true, true, true, true, false, false, false, false, false, false] rfl rfl (any_of HT_.out (by kernel_rfl)) (fun _ _ _ h => h) (Or.inr ⟨by rfl, rfl⟩) ?_ ?_
                      rotate_left
                      ·simp only [Act.put, List.setIfInBounds_toArray, List.set_cons_zero, List.set_cons_succ, i64_w, i32_w]
                       rfl
                      refine pure_ (i := 19) (N := some 156) (v := undef) (a' := ?_) #[true, true, true, true, true, true, true, true, true, true, true, true, true, true, true, true, true, true, true, true, false, false, false, false, false] rfl rfl (any_of HT_.out (by kernel_rfl)) (fun _ _ _ h => h) (Or.inr ⟨by rfl, rfl⟩) ?_ ?_
                      rotate_left
                      ·simp only [Act.put, List.setIfInBounds_toArray, List.set_cons_zero, List.set_cons_succ, i64_w, i32_w]
                       rfl
                      refine pure_ (i := 20) (N := some 157) (v := undef) (a' := ?_) #[true, true, true, true, true, true, true, true, true, true, true, true, true, true, true, true, true, true, true, true, true, false, false, false, false] rfl rfl (any_of HT_.out (by kernel_rfl)) (fun _ _ _ h => h) (Or.inr ⟨by rfl, rfl⟩) ?_ ?_
                      rotate_left
                      ·simp only [Act.put, List.setIfInBounds_toArray, List.set_cons_zero, List.set_cons_succ, i64_w, i32_w]
                       rfl
                      refine pure_ (i := 21) (N := some 158) (v := undef) (a' := ?_) #[true, true, true, true, true, true, true, true, true, true, true, true, true, true, true, true, true, true, true, true, true, true, false, false, false] rfl rfl (any_of HT_.out (by kernel_rfl)) (fun _ _ _ h => h) (Or.inr ⟨by rfl, rfl⟩) ?_ ?_
                      rotate_left
                      ·simp only [Act.put, List.setIfInBounds_toArray, List.set_cons_zero, List.set_cons_succ, i64_w, i32_w]
                       rfl
                      refine pure_ (i := 22) (N := some 159) (v := undef) (a' := ?_) #[true, true, true, true, true, true, true, true, true, true, true, true, true, true, true, true, true, true, true, true, true, true, true, false, false] rfl rfl (any_of HT_.out (by kernel_rfl)) (fun _ _ _ h => h) (Or.inr ⟨by rfl, rfl⟩) ?_ ?_
                      rotate_left
                      ·simp only [Act.put, List.setIfInBounds_toArray, List.set_cons_zero, List.set_cons_succ, i64_w, i32_w]
                       rfl
                      refine pure_ (i := 23) (N := some 160) (v := ?_) (a' := ?_) #[true, true, true, true, true, true, true, true, true, true, true, true, true, true, true, true, true, true, true, true, true, true, true, true, false] rfl rfl (any_of HT_.out (by kernel_rfl)) (fun _ _ _ h => h) (Or.inl ⟨by rfl, ?_⟩) ?_ ?_
                      rotate_left
                      ·intro w'
                       go_simp
                       with_reducible rfl
                      rotate_left
                      ·simp only [Act.put, List.setIfInBounds_toArray, List.set_cons_zero, List.set_cons_succ, i64_w, i32_w]
                       rfl
                      refine pure_ (i := 24) (N := some 161) (v := ?_) (a' := ?_) #[true, true, true, true, true, true, true, true, true, true, true, true, true, true, true, true, true, true, true, true, true, true, true, true, true] rfl rfl (any_of HT_.out (by kernel_rfl)) (fun _ _ _ h => h) (Or.inl ⟨by rfl, ?_⟩) ?_ ?_
                      rotate_left
                      ·intro w'
                       go_simp
                       with_reducible rfl
                      rotate_left
                      ·simp only [Act.put, List.setIfInBounds_toArray, List.set_cons_zero, List.set_cons_succ, i64_w, i32_w]
                       rfl
                      refine done_ (done_of HT_.out (by kernel_rfl)) ?_
                      try go_wp2
                      go_roundg k5
                      case measure => have := HJ2.out; have := HK2.out; have := HJ25.out; have := HJ85.out; have := HK5.out; omega
                      case rel => exact ⟨(wrap64 (x11_5 + 1)), (by first | rfl | (simp; done) | (simp [*]; done)), H', ⟨by have := HJ2.out; have := HK2.out; have := HJ25.out; have := HJ85.out; have := HK5.out; omega⟩, ⟨by (with_reducible repeat (first | apply Kd.V_alloc | apply Kd.V_drewN | apply Kd.V_drew)); exact Kd.V_mono HO_716004.out (fun _ hk => ⟨hk.1, ⟨hk.2.1, hk.2.2.1⟩⟩)⟩, ⟨by (with_reducible repeat (first | apply Kd.V_alloc | apply Kd.V_drewN | apply Kd.V_drew)); exact Kd.V_mono HO_724004.out (fun _ hk => ⟨hk.1, ⟨hk.2.1, hk.2.2.1⟩⟩)⟩, ⟨by refine bk ?_; exact BK715.out⟩, ⟨by refine bk ?_; exact BK721.out⟩, ⟨by refine bk ?_; exact BK723.out⟩, ⟨by exact pbE HB.out⟩⟩
                    ·replace c116 := Bool.eq_false_iff.mpr c116
                     subst c116
                     have H1 : (if ((rd_T60 x724004_25 x11_5).f1) < x716005_2 then (some false) else (l06_DescRises.l1 k5 l1 x7_2 (wrap64 (x11_5 + 1)) x716000_2 x716001_2 x716002_2 x716003_2 x716004_2 x716005_2 x724000_25 x724001_25 x724002_25 x724003_25 x724004_25 x724005_25)) = some r := by rw [if_neg (show ¬ (false = true) by decide)] at H; exact H
                     clear H
                     have H := H1
                     clear H1
                     by_cases c130 : ((rd_T60 x724004_25 x11_5).f1) < x716005_2
                     ·rw [if_pos c130] at H
                      have c130b0 : decide (((rd_T60 x724004_25 x11_5).f1) < x716005_2) = true := decide_eq_true c130
                      clear c130
                      exact absurd (Option.some.inj (H.trans (congrArg some hr))) (by decide)
                     ·rw [if_neg c130] at H
                      have c130b0 : decide (((rd_T60 x724004_25 x11_5).f1) < x716005_2) = false := decide_eq_false c130
                      clear c130
                      have H' := Az.mk H
                      clear H
                      have hnb131 := NB723_715.out
                      have hnc131 := NB715_723.out
                      have hnb132 := NB723_721.out
                      have hnc132 := NB721_723.out
                      have hcz133 := cells6 BK723.out
                      obtain ⟨Ao134, co134, eo134⟩ := Kd.V_slice HO_724004.out
                      subst eo134
                      try go_wp2
                      replace HO_716004 := Az.mk (Kd.V_drew HO_716004.out)
                      replace HO_724004 := Az.mk (Kd.V_drew HO_724004.out)
                      replace BK715 := Az.mk (bkD BK715.out)
                      replace BK721 := Az.mk (bkD BK721.out)
                      replace BK723 := Az.mk (bkD BK723.out)
                      replace HB := Az.mk (pb1 HB.out)
                      have p779 : 0 ≤ (x11_5 : Int) := of_decide_eq_true (by first | (with_reducible assumption) | assumption)
                      have q779 : x11_5 < (x724004_25.length : Int) := of_decide_eq_true (by first | (with_reducible assumption) | assumption)
                      have hpos779_ : 0 < x724004_25.length := by omega
                      obtain ⟨ad779, e779, hx779_0, hx779_1⟩ := at_T60 (Kd.V_reads' HO_724004.out).2.2 x11_5 p779 q779
                      cases e779
                      replace p779 := eq_true p779
                      replace q779 := eq_true q779
                      refine start_ (n := 14) (S := fun w' => w'.cell? ⟨gb715, 0, none⟩ = some (.int .i64 x716000_2) ∧ w'.cell? ⟨gb715, 1, none⟩ = some (.string x716001_2) ∧ w'.cell? ⟨gb715, 2, none⟩ = some (.string x716002_2) ∧ w'.cell? ⟨gb715, 3, none⟩ = some (.int .i64 x716003_2) ∧ w'.cell? ⟨gb715, 4, none⟩ = some (.slice Ao37 x716004_2.length co37) ∧ w'.cell? ⟨gb715, 5, none⟩ = some (.int .i64 x716005_2) ∧ w'.cell? ⟨gb723, 0, none⟩ = some (.int .i64 x724000_25) ∧ w'.cell? ⟨gb723, 1, none⟩ = some (.string x724001_25) ∧ w'.cell? ⟨gb723, 2, none⟩ = some (.string x724002_25) ∧ w'.cell? ⟨gb723, 3, none⟩ = some (.int .i64 x724003_25) ∧ w'.cell? ⟨gb723, 4, none⟩ = some (.slice (some ad779) x724004_25.length co134) ∧ w'.cell? ⟨gb723, 5, none⟩ = some (.int .i64 x724005_25) ∧ w'.cell? (ad779.add ((x11_5).toNat * 2)) = some (.int .i64 ((rd_T60 x724004_25 x11_5).f0)) ∧ w'.cell? ⟨(ad779.add ((x11_5).toNat * 2)).block, (ad779.add ((x11_5).toNat * 2)).off + 1, none⟩ = some (.int .i64 ((rd_T60 x724004_25 x11_5).f1))) (ds := []) #[false, false, false, false, false, false, false, false, false, false, false, false, false, false] (by kernel_rfl) rfl rfl ⟨(bkC BK715.out 0).trans rfl, (bkC BK715.out 1).trans rfl, (bkC BK715.out 2).trans rfl, (bkC BK715.out 3).trans rfl, (bkC BK715.out 4).trans rfl, (bkC BK715.out 5).trans rfl, (bkC BK723.out 0).trans rfl, (bkC BK723.out 1).trans rfl, (bkC BK723.out 2).trans rfl, (bkC BK723.out 3).trans rfl, (bkC BK723.out 4).trans rfl, (bkC BK723.out 5).trans rfl, hx779_0, hx779_1⟩ (fun hHeld => ?_); refine with_tabW l06_DescRises.tab29 l06_DescRises.bits29 (fun HT_ HW_ => ?_)
                      generalize wr.drew = w135 at HO_716004 HO_724004 BK715 BK721 BK723 HB hx779_0 hx779_1 hHeld ⊢
                      refine pure_ (i := 1) (N := some 128) (v := ?_) (a' := ?_) #[false, true, false, false, false, false, false, false, false, false, false, false, false, false] rfl rfl (any_of HT_.out (by kernel_rfl)) (fun _ _ _ h => h) (Or.inl ⟨by rfl, ?_⟩) ?_ ?_
                      rotate_left
                      ·intro w'
                       go_simp
                       with_reducible rfl
                      rotate_left
                      ·simp only [Act.put, List.setIfInBounds_toArray, List.set_cons_zero, List.set_cons_succ, i64_w, i32_w]
                       rfl
                      refine pure_ (i := 3) (N := some 130) (v := ?_) (a' := ?_) #[false, true, false, true, false, false, false, false, false, false, false, false, false, false] rfl rfl (any_of HT_.out (by kernel_rfl)) (fun _ _ _ h => h) (Or.inl ⟨by rfl, ?_⟩) ?_ ?_
                      rotate_left
                      ·intro w'
                       go_simp
                       with_reducible rfl
                      rotate_left
                      ·simp only [Act.put, List.setIfInBounds_toArray, List.set_cons_zero, List.set_cons_succ, i64_w, i32_w]
                       rfl
                      refine take_ (i := 0) (N := some 127) (v := ?_) (a' := ?_) #[true, true, false, true, false, false, false, false, false, false, false, false, false, false] rfl rfl (take_ofW HT_.out HW_.out (by kernel_rfl)) (fun _ _ _ h => h) (Or.inl ⟨by rfl, ?_⟩) hHeld ?_ ?_
                      rotate_left
                      ·rintro w' ⟨s0, s1, s2, s3, s4, s5, s6, s7, s8, s9, s10, s11, s12, s13⟩
                       go_simp
                       with_reducible rfl
                      rotate_left
                      ·simp only [Act.put, List.setIfInBounds_toArray, List.set_cons_zero, List.set_cons_succ, i64_w, i32_w]
                       rfl
                      refine take_ (i := 2) (N := some 129) (v := ?_) (a' := ?_) #[true, true, true, true, false, false, false, false, false, false, false, false, false, false] rfl rfl (take_ofW HT_.out HW_.out (by kernel_rfl)) (fun _ _ _ h => h) (Or.inl ⟨by rfl, ?_⟩) hHeld ?_ ?_
                      rotate_left
                      ·rintro w' ⟨s0, s1, s2, s3, s4, s5, s6, s7, s8, s9, s10, s11, s12, s13⟩
                       go_simp
                       with_reducible rfl
                      rotate_left
                      ·simp only [Act.put, List.setIfInBounds_toArray, List.set_cons_zero, List.set_cons_succ, i64_w, i32_w]
                       rfl
                      refine pure_ (i := 4) (N := some 131) (v := ?_) (a' := ?_) #[true, true, true, true, true, false, false, false, false, false, false, false, false, false] rfl rfl (any_of HT_.out (by kernel_rfl)) (fun _ _ _ h => h) (Or.inl ⟨by rfl, ?_⟩) ?_ ?_
                      rotate_left
                      ·intro w'
                       go_simp
                       with_reducible rfl
                      rotate_left
                      ·simp only [Act.put, List.setIfInBounds_toArray, List.set_cons_zero, List.set_cons_succ, i64_w, i32_w]
                       rfl
                      refine pure_ (i := 5) (N := some 132) (v := ?_) (a' := ?_) #[true, true, true, true, true, true, false, false, false, false, false, false, false, false] rfl rfl (any_of HT_.out (by kernel_rfl)) (fun _ _ _ h => h) (Or.inl ⟨by rfl, ?_⟩) ?_ ?_
                      rotate_left
                      ·intro w'
                       go_simp
                       with_reducible rfl
                      rotate_left
                      ·simp only [Act.put, List.setIfInBounds_toArray, List.set_cons_zero, List.set_cons_succ, i64_w, i32_w]
                       rfl
                      refine take_ (i := 6) (N := some 133) (v := ?_) (a' := ?_) #[true, true, true, true, true, true, true, false, false, false, false, false, false, false] rfl rfl (take_ofW HT_.out HW_.out (by kernel_rfl)) (fun _ _ _ h => h) (Or.inl ⟨by rfl, ?_⟩) hHeld ?_ ?_
                      rotate_left
                      ·rintro w' ⟨s0, s1, s2, s3, s4, s5, s6, s7, s8, s9, s10, s11, s12, s13⟩
                       go_simp
                       with_reducible rfl
                      rotate_left
                      ·simp only [Act.put, List.setIfInBounds_toArray, List.set_cons_zero, List.set_cons_succ, i64_w, i32_w]
                       rfl
                      refine join_ (σ := Nat) 2 #[true, true, true, true, true, true, true, true, true, true, true, true, false, false] (fun s_ => [(134, .tuple #[.agg #[.int .i64 t780, .int .i64 t781], .bool false]), (12, .pointer (some ⟨s_, 0, none⟩)), (126, .tuple #[.agg #[.int .i64 t780, .int .i64 t781], .bool false]), (135, .agg #[.int .i64 t780, .int .i64 t781]), (136, .bool false)]) (fun s_ w' => (w'.cell? ⟨gb715, 0, none⟩ = some (.int .i64 x716000_2) ∧ w'.cell? ⟨gb715, 1, none⟩ = some (.string x716001_2) ∧ w'.cell? ⟨gb715, 2, none⟩ = some (.string x716002_2) ∧ w'.cell? ⟨gb715, 3, none⟩ = some (.int .i64 x716003_2) ∧ w'.cell? ⟨gb715, 4, none⟩ = some (.slice Ao37 x716004_2.length co37) ∧ w'.cell? ⟨gb715, 5, none⟩ = some (.int .i64 x716005_2) ∧ w'.cell? ⟨gb723, 0, none⟩ = some (.int .i64 x724000_25) ∧ w'.cell? ⟨gb723, 1, none⟩ = some (.string x724001_25) ∧ w'.cell? ⟨gb723, 2, none⟩ = some (.string x724002_25) ∧ w'.cell? ⟨gb723, 3, none⟩ = some (.int .i64 x724003_25) ∧ w'.cell? ⟨gb723, 4, none⟩ = some (.slice (some ad779) x724004_25.length co134) ∧ w'.cell? ⟨gb723, 5, none⟩ = some (.int .i64 x724005_25) ∧ w'.cell? (ad779.add ((x11_5).toNat * 2)) = some (.int .i64 ((rd_T60 x724004_25 x11_5).f0)) ∧ w'.cell? ⟨(ad779.add ((x11_5).toNat * 2)).block, (ad779.add ((x11_5).toNat * 2)).off + 1, none⟩ = some (.int .i64 ((rd_T60 x724004_25 x11_5).f1))) ∧ (Kd.V k60 60 w' w.heap.size (fun k_ => k_ ≠ gb715 ∧ k_ ≠ gb721 ∧ k_ ≠ gb723 ∧ k_ ≠ s_) (.slice Ao37 x716004_2.length co37) x716004_2) ∧ (Kd.V k60 60 w' w.heap.size (fun k_ => k_ ≠ gb715 ∧ k_ ≠ gb721 ∧ k_ ≠ gb723 ∧ k_ ≠ s_) (.slice (some ad779) x724004_25.length co134) x724004_25) ∧ (w'.heap[gb715]? = some (.cells #[.int .i64 x716000_2, .string x716001_2, .string x716002_2, .int .i64 x716003_2, .slice Ao37 x716004_2.length co37, .int .i64 x716005_2] 26 (0, 0))) ∧ (w'.heap[gb721]? = some (.cells #[.int .i64 ((rd_T58 l1 x7_2).f0), .int .i64 ((rd_T58 l1 x7_2).f1), .int .i64 ((rd_T58 l1 x7_2).f2), .string ((rd_T58 l1 x7_2).f3)] 58 (0, 0))) ∧ (w'.heap[gb723]? = some (.cells #[.int .i64 x724000_25, .string x724001_25, .string x724002_25, .int .i64 x724003_25, .slice (some ad779) x724004_25.length co134, .int .i64 x724005_25] 26 (0, 0))) ∧ (w'.heap[s_]? = some (.cells #[.int .i64 0, .int .i64 0] 60 (0, 0))) ∧ (w.heap.size ≤ s_) ∧ (w.heap.size ≤ s_) ∧ (gb715 ≠ s_) ∧ (s_ ≠ gb715) ∧ (gb721 ≠ s_) ∧ (s_ ≠ gb721) ∧ (gb723 ≠ s_) ∧ (s_ ≠ gb723) ∧ (Below w.heap.size w w')) ?_ ?_
                      rotate_left
                      ·intro hCont
                       refine two_ (i := 7) (j := 11) (Ni := some 134) (Nj := some 12) #[true, true, true, true, true, true, true, true, false, false, false, false, false, false] #[true, true, true, true, true, true, true, false, false, false, false, true, false, false] rfl rfl rfl rfl (two_of HT_.out (by kernel_rfl)) (by decide) (by decide) (fun K hK => ?_) (fun K hK => ?_)
                       ·skip
                        refine goes_ Tryd.func29 (by kernel_rfl) rfl #[.agg #[.int .i64 x716000_2, .string x716001_2, .string x716002_2, .int .i64 x716003_2, .slice Ao37 x716004_2.length co37, .int .i64 x716005_2], .int .i64 ((rd_T60 x724004_25 x11_5).f1)] (by rfl) rfl rfl (by (try simp only [List.map_toArray, List.map_cons, List.map_nil]); first | done | rfl | (simp only [List.length_drop, List.length_take]; rfl)) ?_
                        with_reducible refine (desc_Has.calls x716000_2 x716001_2 x716002_2 x716003_2 _ _ x716004_2 x716005_2 ((rd_T60 x724004_25 x11_5).f1) t780 t781 false _ ?side1 ?side2 ?side3 A115.out).mono ?_
                        (case side1 => exact hG.below (by exact pbE HB.out))
                        (case side2 => repeat (first | exact (Kd.V_reads' HO_716004.out).2.2 | (with_reducible refine Kd.C_alloc ?_ _) | (with_reducible refine Kd.C_drewN ?_ _) | (with_reducible refine Kd.C_drew ?_)))
                        (case side3 => exact (Kd.V_reads' HO_716004.out).2.1)
                        rintro e w136 ⟨rfl, hb⟩
                        have HS12_ := (hb.cell (World.block_lt_of_cell? _ _ (hHeld.2.2.2.2.2.2.2.2.2.2.2.2.1))).trans (hHeld.2.2.2.2.2.2.2.2.2.2.2.2.1)
                        have HS13_ := (hb.cell (World.block_lt_of_cell? _ _ (hHeld.2.2.2.2.2.2.2.2.2.2.2.2.2))).trans (hHeld.2.2.2.2.2.2.2.2.2.2.2.2.2)
                        refine ⟨_, rfl, ?_⟩
                        replace HO_716004 := Az.mk (Kd.V_below (Kd.V_ext HO_716004.out) hb)
                        replace HO_724004 := Az.mk (Kd.V_below (Kd.V_ext HO_724004.out) hb)
                        replace BK715 := Az.mk (bkB (bk BK715.out) hb)
                        replace BK721 := Az.mk (bkB (bk BK721.out) hb)
                        replace BK723 := Az.mk (bkB (bk BK723.out) hb)
                        replace HB := Az.mk (pbT (by exact pbE HB.out) hb)
                        (try clear hb)
                        (try clear hb2)
                        (try clear hk)
                        (try clear hi)
                        refine hK.out _ _ ⟨(bkC BK715.out 0).trans rfl, (bkC BK715.out 1).trans rfl, (bkC BK715.out 2).trans rfl, (bkC BK715.out 3).trans rfl, (bkC BK715.out 4).trans rfl, (bkC BK715.out 5).trans rfl, (bkC BK723.out 0).trans rfl, (bkC BK723.out 1).trans rfl, (bkC BK723.out 2).trans rfl, (bkC BK723.out 3).trans rfl, (bkC BK723.out 4).trans rfl, (bkC BK723.out 5).trans rfl, HS12_, HS13_⟩ (fun hHeld => ?_)
                        clear hK K
                        refine norm_ (a' := ?_) ?_ ?_
                        rotate_left
                        ·show Act.put _ (some 134) _ = _
                         simp only [Act.put, List.setIfInBounds_toArray, List.set_cons_zero, List.set_cons_succ, i64_w, i32_w]
                         rfl
                        refine pure_ (i := 8) (N := some 126) (v := ?_) (a' := ?_) #[true, true, true, true, true, true, true, true, true, false, false, false, false, false] rfl rfl (any_of HT_.out (by kernel_rfl)) (fun _ _ _ h => h) (Or.inl ⟨by rfl, ?_⟩) ?_ ?_
                        rotate_left
                        ·intro w'
                         go_simp
                         with_reducible rfl
                        rotate_left
                        ·simp only [Act.put, List.setIfInBounds_toArray, List.set_cons_zero, List.set_cons_succ, i64_w, i32_w]
                         rfl
                        refine pure_ (i := 9) (N := some 135) (v := ?_) (a' := ?_) #[true, true, true, true, true, true, true, true, true, true, false, false, false, false] rfl rfl (any_of HT_.out (by kernel_rfl)) (fun _ _ _ h => h) (Or.inl ⟨by rfl, ?_⟩) ?_ ?_
                        rotate_left
                        ·intro w'
                         go_simp
                         with_reducible rfl
                        rotate_left
                        ·simp only [Act.put, List.setIfInBounds_toArray, List.set_cons_zero, List.set_cons_succ, i64_w, i32_w]
                         rfl
                        refine pure_ (i := 10) (N := some 136) (v := ?_) (a' := ?_) #[true, true, true, true, true, true, true, true, true, true, true, false, false, false] rfl rfl (any_of HT_.out (by kernel_rfl)) (fun _ _ _ h => h) (Or.inl ⟨by rfl, ?_⟩) ?_ ?_
                        rotate_left
                        ·intro w'
                         go_simp
                         with_reducible rfl
                        rotate_left
                        ·simp only [Act.put, List.setIfInBounds_toArray, List.set_cons_zero, List.set_cons_succ, i64_w, i32_w]
                         rfl
                        refine one_ (i := 11) (N := some 12) #[true, true, true, true, true, true, true, true, true, true, true, true, false, false] rfl rfl (one_of HT_.out (by kernel_rfl)) (by decide) (fun K hK => ?_)
                        refine box_step ?hg (N := 12) ?hd (cs := #[.int .i64 0, .int .i64 0]) (t := 60) ?hr ?_; (case hd => rfl); (case hg => rfl); (case hr => first | (go_simp; done) | (go_simp; rfl))
                        intro gb783 hg w137 hbox hb
                        have HS12_ := (hb.cell (World.block_lt_of_cell? _ _ (hHeld.2.2.2.2.2.2.2.2.2.2.2.2.1))).trans (hHeld.2.2.2.2.2.2.2.2.2.2.2.2.1)
                        have HS13_ := (hb.cell (World.block_lt_of_cell? _ _ (hHeld.2.2.2.2.2.2.2.2.2.2.2.2.2))).trans (hHeld.2.2.2.2.2.2.2.2.2.2.2.2.2)
                        replace HO_716004 := Az.mk (Kd.V_below (Kd.V_elderB (Kd.V_ext HO_716004.out) gb783 (Nat.le_of_eq hg.symm)) hb)
                        replace HO_724004 := Az.mk (Kd.V_below (Kd.V_elderB (Kd.V_ext HO_724004.out) gb783 (Nat.le_of_eq hg.symm)) hb)
                        have BK783 := Az.mk (hbox)
                        have GW783 := Az.mk (geO hg (pbE HB.out))
                        have GE783 := Az.mk (geO hg (pbE HB.out))
                        replace HB := Az.mk (pbT (by exact pbE HB.out) hb)
                        have NB715_783 := Az.mk (neO hg (bk BK715.out))
                        have NB783_715 := Az.mk (neP hg (bk BK715.out))
                        replace BK715 := Az.mk (bkB (bk BK715.out) hb)
                        have NB721_783 := Az.mk (neO hg (bk BK721.out))
                        have NB783_721 := Az.mk (neP hg (bk BK721.out))
                        replace BK721 := Az.mk (bkB (bk BK721.out) hb)
                        have NB723_783 := Az.mk (neO hg (bk BK723.out))
                        have NB783_723 := Az.mk (neP hg (bk BK723.out))
                        replace BK723 := Az.mk (bkB (bk BK723.out) hb)
                        clear hb hbox hg
                        refine hK.out _ _ ⟨(bkC BK715.out 0).trans rfl, (bkC BK715.out 1).trans rfl, (bkC BK715.out 2).trans rfl, (bkC BK715.out 3).trans rfl, (bkC BK715.out 4).trans rfl, (bkC BK715.out 5).trans rfl, (bkC BK723.out 0).trans rfl, (bkC BK723.out 1).trans rfl, (bkC BK723.out 2).trans rfl, (bkC BK723.out 3).trans rfl, (bkC BK723.out 4).trans rfl, (bkC BK723.out 5).trans rfl, HS12_, HS13_⟩ (fun hHeld => ?_)
                        clear hK K
                        refine norm_ (a' := ?_) ?_ ?_
                        rotate_left
                        ·show Act.put _ (some 12) _ = _
                         simp only [Act.put, List.setIfInBounds_toArray, List.set_cons_zero, List.set_cons_succ, i64_w, i32_w]
                         rfl
                        exact norm_ (by simp only [putAll, Act.put, List.setIfInBounds_toArray, List.set_cons_zero, List.set_cons_succ]) (hCont (gb783) _ ⟨hHeld, (by (with_reducible repeat (first | apply Kd.V_alloc | apply Kd.V_drewN | apply Kd.V_drew)); exact Kd.V_mono HO_716004.out (fun _ hk => ⟨hk.1.1, ⟨hk.1.2.1, ⟨hk.1.2.2, hk.2⟩⟩⟩)), (by (with_reducible repeat (first | apply Kd.V_alloc | apply Kd.V_drewN | apply Kd.V_drew)); exact Kd.V_mono HO_724004.out (fun _ hk => ⟨hk.1.1, ⟨hk.1.2.1, ⟨hk.1.2.2, hk.2⟩⟩⟩)), (bk BK715.out), (bk BK721.out), (bk BK723.out), (bk BK783.out), GW783.out, GE783.out, NB715_783.out, NB783_715.out, NB721_783.out, NB783_721.out, NB723_783.out, NB783_723.out, (by exact pbE HB.out)⟩)
                       ·skip
                        refine box_step ?hg (N := 12) ?hd (cs := #[.int .i64 0, .int .i64 0]) (t := 60) ?hr ?_; (case hd => rfl); (case hg => rfl); (case hr => first | (go_simp; done) | (go_simp; rfl))
                        intro gb783 hg w136 hbox hb
                        have HS12_ := (hb.cell (World.block_lt_of_cell? _ _ (hHeld.2.2.2.2.2.2.2.2.2.2.2.2.1))).trans (hHeld.2.2.2.2.2.2.2.2.2.2.2.2.1)
                        have HS13_ := (hb.cell (World.block_lt_of_cell? _ _ (hHeld.2.2.2.2.2.2.2.2.2.2.2.2.2))).trans (hHeld.2.2.2.2.2.2.2.2.2.2.2.2.2)
                        replace HO_716004 := Az.mk (Kd.V_below (Kd.V_elderB (Kd.V_ext HO_716004.out) gb783 (Nat.le_of_eq hg.symm)) hb)
                        replace HO_724004 := Az.mk (Kd.V_below (Kd.V_elderB (Kd.V_ext HO_724004.out) gb783 (Nat.le_of_eq hg.symm)) hb)
                        have BK783 := Az.mk (hbox)
                        have GW783 := Az.mk (geO hg (pbE HB.out))
                        have GE783 := Az.mk (geO hg (pbE HB.out))
                        replace HB := Az.mk (pbT (by exact pbE HB.out) hb)
                        have NB715_783 := Az.mk (neO hg (bk BK715.out))
                        have NB783_715 := Az.mk (neP hg (bk BK715.out))
                        replace BK715 := Az.mk (bkB (bk BK715.out) hb)
                        have NB721_783 := Az.mk (neO hg (bk BK721.out))
                        have NB783_721 := Az.mk (neP hg (bk BK721.out))
                        replace BK721 := Az.mk (bkB (bk BK721.out) hb)
                        have NB723_783 := Az.mk (neO hg (bk BK723.out))
                        have NB783_723 := Az.mk (neP hg (bk BK723.out))
                        replace BK723 := Az.mk (bkB (bk BK723.out) hb)
                        clear hb hbox hg
                        refine hK.out _ _ ⟨(bkC BK715.out 0).trans rfl, (bkC BK715.out 1).trans rfl, (bkC BK715.out 2).trans rfl, (bkC BK715.out 3).trans rfl, (bkC BK715.out 4).trans rfl, (bkC BK715.out 5).trans rfl, (bkC BK723.out 0).trans rfl, (bkC BK723.out 1).trans rfl, (bkC BK723.out 2).trans rfl, (bkC BK723.out 3).trans rfl, (bkC BK723.out 4).trans rfl, (bkC BK723.out 5).trans rfl, HS12_, HS13_⟩ (fun hHeld => ?_)
                        clear hK K
                        refine norm_ (a' := ?_) ?_ ?_
                        rotate_left
                        ·show Act.put _ (some 12) _ = _
                         simp only [Act.put, List.setIfInBounds_toArray, List.set_cons_zero, List.set_cons_succ, i64_w, i32_w]
                         rfl
                        refine one_ (i := 7) (N := some 134) #[true, true, true, true, true, true, true, true, false, false, false, true, false, false] rfl rfl (one_of HT_.out (by kernel_rfl)) (by decide) (fun K hK => ?_)
                        refine goes_ Tryd.func29 (by kernel_rfl) rfl #[.agg #[.int .i64 x716000_2, .string x716001_2, .string x716002_2, .int .i64 x716003_2, .slice Ao37 x716004_2.length co37, .int .i64 x716005_2], .int .i64 ((rd_T60 x724004_25 x11_5).f1)] (by rfl) rfl rfl (by (try simp only [List.map_toArray, List.map_cons, List.map_nil]); first | done | rfl | (simp only [List.length_drop, List.length_take]; rfl)) ?_
                        with_reducible refine (desc_Has.calls x716000_2 x716001_2 x716002_2 x716003_2 _ _ x716004_2 x716005_2 ((rd_T60 x724004_25 x11_5).f1) t780 t781 false _ ?side1 ?side2 ?side3 A115.out).mono ?_
                        (case side1 => exact hG.below (by exact pbE HB.out))
                        (case side2 => repeat (first | exact (Kd.V_reads' HO_716004.out).2.2 | (with_reducible refine Kd.C_alloc ?_ _) | (with_reducible refine Kd.C_drewN ?_ _) | (with_reducible refine Kd.C_drew ?_)))
                        (case side3 => exact (Kd.V_reads' HO_716004.out).2.1)
                        rintro e w137 ⟨rfl, hb⟩
                        have HS12_ := (hb.cell (World.block_lt_of_cell? _ _ (hHeld.2.2.2.2.2.2.2.2.2.2.2.2.1))).trans (hHeld.2.2.2.2.2.2.2.2.2.2.2.2.1)
                        have HS13_ := (hb.cell (World.block_lt_of_cell? _ _ (hHeld.2.2.2.2.2.2.2.2.2.2.2.2.2))).trans (hHeld.2.2.2.2.2.2.2.2.2.2.2.2.2)
                        refine ⟨_, rfl, ?_⟩
                        replace HO_716004 := Az.mk (Kd.V_below (Kd.V_ext HO_716004.out) hb)
                        replace HO_724004 := Az.mk (Kd.V_below (Kd.V_ext HO_724004.out) hb)
                        replace BK715 := Az.mk (bkB (bk BK715.out) hb)
                        replace BK721 := Az.mk (bkB (bk BK721.out) hb)
                        replace BK723 := Az.mk (bkB (bk BK723.out) hb)
                        replace BK783 := Az.mk (bkB (bk BK783.out) hb)
                        replace HB := Az.mk (pbT (by exact pbE HB.out) hb)
                        (try clear hb)
                        (try clear hb2)
                        (try clear hk)
                        (try clear hi)
                        refine hK.out _ _ ⟨(bkC BK715.out 0).trans rfl, (bkC BK715.out 1).trans rfl, (bkC BK715.out 2).trans rfl, (bkC BK715.out 3).trans rfl, (bkC BK715.out 4).trans rfl, (bkC BK715.out 5).trans rfl, (bkC BK723.out 0).trans rfl, (bkC BK723.out 1).trans rfl, (bkC BK723.out 2).trans rfl, (bkC BK723.out 3).trans rfl, (bkC BK723.out 4).trans rfl, (bkC BK723.out 5).trans rfl, HS12_, HS13_⟩ (fun hHeld => ?_)
                        clear hK K
                        refine norm_ (a' := ?_) ?_ ?_
                        rotate_left
                        ·show Act.put _ (some 134) _ = _
                         simp only [Act.put, List.setIfInBounds_toArray, List.set_cons_zero, List.set_cons_succ, i64_w, i32_w]
                         rfl
                        refine pure_ (i := 8) (N := some 126) (v := ?_) (a' := ?_) #[true, true, true, true, true, true, true, true, true, false, false, true, false, false] rfl rfl (any_of HT_.out (by kernel_rfl)) (fun _ _ _ h => h) (Or.inl ⟨by rfl, ?_⟩) ?_ ?_
                        rotate_left
                        ·intro w'
                         go_simp
                         with_reducible rfl
                        rotate_left
                        ·simp only [Act.put, List.setIfInBounds_toArray, List.set_cons_zero, List.set_cons_succ, i64_w, i32_w]
                         rfl
                        refine pure_ (i := 9) (N := some 135) (v := ?_) (a' := ?_) #[true, true, true, true, true, true, true, true, true, true, false, true, false, false] rfl rfl (any_of HT_.out (by kernel_rfl)) (fun _ _ _ h => h) (Or.inl ⟨by rfl, ?_⟩) ?_ ?_
                        rotate_left
                        ·intro w'
                         go_simp
                         with_reducible rfl
                        rotate_left
                        ·simp only [Act.put, List.setIfInBounds_toArray, List.set_cons_zero, List.set_cons_succ, i64_w, i32_w]
                         rfl
                        refine pure_ (i := 10) (N := some 136) (v := ?_) (a' := ?_) #[true, true, true, true, true, true, true, true, true, true, true, true, false, false] rfl rfl (any_of HT_.out (by kernel_rfl)) (fun _ _ _ h => h) (Or.inl ⟨by rfl, ?_⟩) ?_ ?_
                        rotate_left
                        ·intro w'
                         go_simp
                         with_reducible rfl
                        rotate_left
                        ·simp only [Act.put, List.setIfInBounds_toArray, List.set_cons_zero, List.set_cons_succ, i64_w, i32_w]
                         rfl
                        exact norm_ (by simp only [putAll, Act.put, List.setIfInBounds_toArray, List.set_cons_zero, List.set_cons_succ]) (hCont (gb783) _ ⟨hHeld, (by (with_reducible repeat (first | apply Kd.V_alloc | apply Kd.V_drewN | apply Kd.V_drew)); exact Kd.V_mono HO_716004.out (fun _ hk => ⟨hk.1.1, ⟨hk.1.2.1, ⟨hk.1.2.2, hk.2⟩⟩⟩)), (by (with_reducible repeat (first | apply Kd.V_alloc | apply Kd.V_drewN | apply Kd.V_drew)); exact Kd.V_mono HO_724004.out (fun _ hk => ⟨hk.1.1, ⟨hk.1.2.1, ⟨hk.1.2.2, hk.2⟩⟩⟩)), (bk BK715.out), (bk BK721.out), (bk BK723.out), (bk BK783.out), GW783.out, GE783.out, NB715_783.out, NB783_715.out, NB721_783.out, NB783_721.out, NB723_783.out, NB783_723.out, (by exact pbE HB.out)⟩)
                      rintro gb783 w138 ⟨hS_, h0_, h1_, h2_, h3_, h4_, h5_, h6_, h7_, h8_, h9_, h10_, h11_, h12_, h13_, h14_⟩
                      have n0_ : Az (Kd.V k60 60 w138 w.heap.size (fun k_ => k_ ≠ gb715 ∧ k_ ≠ gb721 ∧ k_ ≠ gb723 ∧ k_ ≠ gb783) (.slice Ao37 x716004_2.length co37) x716004_2) := ⟨h0_⟩
                      have n1_ : Az (Kd.V k60 60 w138 w.heap.size (fun k_ => k_ ≠ gb715 ∧ k_ ≠ gb721 ∧ k_ ≠ gb723 ∧ k_ ≠ gb783) (.slice (some ad779) x724004_25.length co134) x724004_25) := ⟨h1_⟩
                      have n2_ : Az (w138.heap[gb715]? = some (.cells #[.int .i64 x716000_2, .string x716001_2, .string x716002_2, .int .i64 x716003_2, .slice Ao37 x716004_2.length co37, .int .i64 x716005_2] 26 (0, 0))) := ⟨h2_⟩
                      have n3_ : Az (w138.heap[gb721]? = some (.cells #[.int .i64 ((rd_T58 l1 x7_2).f0), .int .i64 ((rd_T58 l1 x7_2).f1), .int .i64 ((rd_T58 l1 x7_2).f2), .string ((rd_T58 l1 x7_2).f3)] 58 (0, 0))) := ⟨h3_⟩
                      have n4_ : Az (w138.heap[gb723]? = some (.cells #[.int .i64 x724000_25, .string x724001_25, .string x724002_25, .int .i64 x724003_25, .slice (some ad779) x724004_25.length co134, .int .i64 x724005_25] 26 (0, 0))) := ⟨h4_⟩
                      have n5_ : Az (w138.heap[gb783]? = some (.cells #[.int .i64 0, .int .i64 0] 60 (0, 0))) := ⟨h5_⟩
                      have n6_ : Az (w.heap.size ≤ gb783) := ⟨h6_⟩
                      have n7_ : Az (w.heap.size ≤ gb783) := ⟨h7_⟩
                      have n8_ : Az (gb715 ≠ gb783) := ⟨h8_⟩
                      have n9_ : Az (gb783 ≠ gb715) := ⟨h9_⟩
                      have n10_ : Az (gb721 ≠ gb783) := ⟨h10_⟩
                      have n11_ : Az (gb783 ≠ gb721) := ⟨h11_⟩
                      have n12_ : Az (gb723 ≠ gb783) := ⟨h12_⟩
                      have n13_ : Az (gb783 ≠ gb723) := ⟨h13_⟩
                      have n14_ : Az (Below w.heap.size w w138) := ⟨h14_⟩
                      clear HO_716004
                      clear HO_724004
                      clear BK715
                      clear BK721
                      clear BK723
                      clear HB
                      clear h0_ h1_ h2_ h3_ h4_ h5_ h6_ h7_ h8_ h9_ h10_ h11_ h12_ h13_ h14_
                      have HO_716004 := n0_
                      have HO_724004 := n1_
                      have BK715 := n2_
                      have BK721 := n3_
                      have BK723 := n4_
                      have BK783 := n5_
                      have GW783 := n6_
                      have GE783 := n7_
                      have NB715_783 := n8_
                      have NB783_715 := n9_
                      have NB721_783 := n10_
                      have NB783_721 := n11_
                      have NB723_783 := n12_
                      have NB783_723 := n13_
                      have HB := n14_
                      clear n0_ n1_ n2_ n3_ n4_ n5_ n6_ n7_ n8_ n9_ n10_ n11_ n12_ n13_ n14_
                      have hHeld : w138.cell? ⟨gb715, 0, none⟩ = some (.int .i64 x716000_2) ∧ w138.cell? ⟨gb715, 1, none⟩ = some (.string x716001_2) ∧ w138.cell? ⟨gb715, 2, none⟩ = some (.string x716002_2) ∧ w138.cell? ⟨gb715, 3, none⟩ = some (.int .i64 x716003_2) ∧ w138.cell? ⟨gb715, 4, none⟩ = some (.slice Ao37 x716004_2.length co37) ∧ w138.cell? ⟨gb715, 5, none⟩ = some (.int .i64 x716005_2) ∧ w138.cell? ⟨gb723, 0, none⟩ = some (.int .i64 x724000_25) ∧ w138.cell? ⟨gb723, 1, none⟩ = some (.string x724001_25) ∧ w138.cell? ⟨gb723, 2, none⟩ = some (.string x724002_25) ∧ w138.cell? ⟨gb723, 3, none⟩ = some (.int .i64 x724003_25) ∧ w138.cell? ⟨gb723, 4, none⟩ = some (.slice (some ad779) x724004_25.length co134) ∧ w138.cell? ⟨gb723, 5, none⟩ = some (.int .i64 x724005_25) ∧ w138.cell? (ad779.add ((x11_5).toNat * 2)) = some (.int .i64 ((rd_T60 x724004_25 x11_5).f0)) ∧ w138.cell? ⟨(ad779.add ((x11_5).toNat * 2)).block, (ad779.add ((x11_5).toNat * 2)).off + 1, none⟩ = some (.int .i64 ((rd_T60 x724004_25 x11_5).f1)) := hS_
                      refine norm_ (a' := ?_) ?_ ?_
                      rotate_left
                      ·simp only [putAll, Act.put, List.setIfInBounds_toArray, List.set_cons_zero, List.set_cons_succ]
                       rfl
                      refine one_ (i := 12) (N := none) #[true, true, true, true, true, true, true, true, true, true, true, true, true, false] rfl rfl (one_of HT_.out (by kernel_rfl)) (by decide) (fun K hK => ?_)
                      have hs139 : w138.cell? ⟨gb783, 0, none⟩ = some (.int .i64 0) := (bkC BK783.out 0).trans rfl
                      have hfs139 := bkF BK783.out 0
                      have hns139_0 := NB715_783.out
                      have hns139_1 := NB721_783.out
                      have hns139_2 := NB723_783.out
                      have hms139_0 := NB783_715.out
                      have hms139_1 := NB783_721.out
                      have hms139_2 := NB783_723.out
                      have hs140 : w138.cell? ⟨gb783, 1, none⟩ = some (.int .i64 0) := (bkC BK783.out 1).trans rfl
                      have hfs140 := bkF BK783.out 1
                      have hns140_0 := NB715_783.out
                      have hns140_1 := NB721_783.out
                      have hns140_2 := NB723_783.out
                      have hms140_0 := NB783_715.out
                      have hms140_1 := NB783_721.out
                      have hms140_2 := NB783_723.out
                      refine skip_ (w1 := ?_) (by rfl) rfl ?_ ?_
                      rotate_left
                      ·go_simp
                       rfl
                      have qq0_ := cell_set2 (g := gb783) NB715_783.out (hHeld.1) (.int .i64 t780) (.int .i64 t781)
                      have qq1_ := cell_set2 (g := gb783) NB715_783.out (hHeld.2.1) (.int .i64 t780) (.int .i64 t781)
                      have qq2_ := cell_set2 (g := gb783) NB715_783.out (hHeld.2.2.1) (.int .i64 t780) (.int .i64 t781)
                      have qq3_ := cell_set2 (g := gb783) NB715_783.out (hHeld.2.2.2.1) (.int .i64 t780) (.int .i64 t781)
                      have qq4_ := cell_set2 (g := gb783) NB715_783.out (hHeld.2.2.2.2.1) (.int .i64 t780) (.int .i64 t781)
                      have qq5_ := cell_set2 (g := gb783) NB715_783.out (hHeld.2.2.2.2.2.1) (.int .i64 t780) (.int .i64 t781)
                      have qq6_ := cell_set2 (g := gb783) NB723_783.out (hHeld.2.2.2.2.2.2.1) (.int .i64 t780) (.int .i64 t781)
                      have qq7_ := cell_set2 (g := gb783) NB723_783.out (hHeld.2.2.2.2.2.2.2.1) (.int .i64 t780) (.int .i64 t781)
                      have qq8_ := cell_set2 (g := gb783) NB723_783.out (hHeld.2.2.2.2.2.2.2.2.1) (.int .i64 t780) (.int .i64 t781)
                      have qq9_ := cell_set2 (g := gb783) NB723_783.out (hHeld.2.2.2.2.2.2.2.2.2.1) (.int .i64 t780) (.int .i64 t781)
                      have qq10_ := cell_set2 (g := gb783) NB723_783.out (hHeld.2.2.2.2.2.2.2.2.2.2.1) (.int .i64 t780) (.int .i64 t781)
                      have qq11_ := cell_set2 (g := gb783) NB723_783.out (hHeld.2.2.2.2.2.2.2.2.2.2.2.1) (.int .i64 t780) (.int .i64 t781)
                      have qq12_ := cell_set2 (g := gb783) (by first | (rw [add_block]; exact Kd.V_apart HO_724004.out hpos779_ (by decide) (fun _ hk => hk.2.2.2)) | (show (Addr.add _ _).block ≠ _; rw [add_block]; exact Kd.V_apart HO_724004.out hpos779_ (by decide) (fun _ hk => hk.2.2.2)) | (exact Kd.V_apart HO_724004.out hpos779_ (by decide) (fun _ hk => hk.2.2.2))) (hHeld.2.2.2.2.2.2.2.2.2.2.2.2.1) (.int .i64 t780) (.int .i64 t781)
                      have qq13_ := cell_set2 (g := gb783) (by first | (rw [add_block]; exact Kd.V_apart HO_724004.out hpos779_ (by decide) (fun _ hk => hk.2.2.2)) | (show (Addr.add _ _).block ≠ _; rw [add_block]; exact Kd.V_apart HO_724004.out hpos779_ (by decide) (fun _ hk => hk.2.2.2)) | (exact Kd.V_apart HO_724004.out hpos779_ (by decide) (fun _ hk => hk.2.2.2))) (hHeld.2.2.2.2.2.2.2.2.2.2.2.2.2) (.int .i64 t780) (.int .i64 t781)
                      refine hK.out _ _ ⟨qq0_, qq1_, qq2_, qq3_, qq4_, qq5_, qq6_, qq7_, qq8_, qq9_, qq10_, qq11_, qq12_, qq13_⟩ (fun hHeld => ?_)
                      clear hK K
                      refine pure_ (i := 13) (N := some 13) (v := ?_) (a' := ?_) #[true, true, true, true, true, true, true, true, true, true, true, true, true, true] rfl rfl (any_of HT_.out (by kernel_rfl)) (fun _ _ _ h => h) (Or.inl ⟨by rfl, ?_⟩) ?_ ?_
                      rotate_left
                      ·intro w'
                       go_simp
                       with_reducible rfl
                      rotate_left
                      ·simp only [Act.put, List.setIfInBounds_toArray, List.set_cons_zero, List.set_cons_succ, i64_w, i32_w]
                       rfl
                      refine done_ (done_of HT_.out (by kernel_rfl)) ?_
                      try go_wp2
                      have n0_ : Az (Kd.V k60 60 ((w138.setCell ⟨gb783, 0, none⟩ (.int .i64 t780)).setCell ⟨gb783, 1, none⟩ (.int .i64 t781)) w.heap.size (fun k_ => k_ ≠ gb715 ∧ k_ ≠ gb721 ∧ k_ ≠ gb723 ∧ k_ ≠ gb783) (.slice Ao37 x716004_2.length co37) x716004_2) := ⟨by (with_reducible repeat (first | apply Kd.V_alloc | apply Kd.V_drewN | apply Kd.V_drew)); exact Kd.V_mono (Kd.V_off (g := gb783) (fun _ hk => hk.2) (Kd.V_mono HO_716004.out (fun k_ hk => (⟨hk, hk.2.2.2⟩ : _ ∧ k_ ≠ gb783)))) (fun _ hk => ⟨hk.1.1, ⟨hk.1.2.1, ⟨hk.1.2.2.1, hk.1.2.2.2⟩⟩⟩)⟩
                      have n1_ : Az (Kd.V k60 60 ((w138.setCell ⟨gb783, 0, none⟩ (.int .i64 t780)).setCell ⟨gb783, 1, none⟩ (.int .i64 t781)) w.heap.size (fun k_ => k_ ≠ gb715 ∧ k_ ≠ gb721 ∧ k_ ≠ gb723 ∧ k_ ≠ gb783) (.slice (some ad779) x724004_25.length co134) x724004_25) := ⟨by (with_reducible repeat (first | apply Kd.V_alloc | apply Kd.V_drewN | apply Kd.V_drew)); exact Kd.V_mono (Kd.V_off (g := gb783) (fun _ hk => hk.2) (Kd.V_mono HO_724004.out (fun k_ hk => (⟨hk, hk.2.2.2⟩ : _ ∧ k_ ≠ gb783)))) (fun _ hk => ⟨hk.1.1, ⟨hk.1.2.1, ⟨hk.1.2.2.1, hk.1.2.2.2⟩⟩⟩)⟩
                      have n2_ : Az (((w138.setCell ⟨gb783, 0, none⟩ (.int .i64 t780)).setCell ⟨gb783, 1, none⟩ (.int .i64 t781)).heap[gb715]? = some (.cells #[.int .i64 x716000_2, .string x716001_2, .string x716002_2, .int .i64 x716003_2, .slice Ao37 x716004_2.length co37, .int .i64 x716005_2] 26 (0, 0))) := ⟨by exact bf BK715.out⟩
                      have n3_ : Az (((w138.setCell ⟨gb783, 0, none⟩ (.int .i64 t780)).setCell ⟨gb783, 1, none⟩ (.int .i64 t781)).heap[gb721]? = some (.cells #[.int .i64 ((rd_T58 l1 x7_2).f0), .int .i64 ((rd_T58 l1 x7_2).f1), .int .i64 ((rd_T58 l1 x7_2).f2), .string ((rd_T58 l1 x7_2).f3)] 58 (0, 0))) := ⟨by exact bf BK721.out⟩
                      have n4_ : Az (((w138.setCell ⟨gb783, 0, none⟩ (.int .i64 t780)).setCell ⟨gb783, 1, none⟩ (.int .i64 t781)).heap[gb723]? = some (.cells #[.int .i64 x724000_25, .string x724001_25, .string x724002_25, .int .i64 x724003_25, .slice (some ad779) x724004_25.length co134, .int .i64 x724005_25] 26 (0, 0))) := ⟨by exact bf BK723.out⟩
                      have n5_ : Az (((w138.setCell ⟨gb783, 0, none⟩ (.int .i64 t780)).setCell ⟨gb783, 1, none⟩ (.int .i64 t781)).heap[gb783]? = some (.cells #[.int .i64 t780, .int .i64 t781] 60 (0, 0))) := ⟨by refine bk ?_; refine blk_put (cs := #[.int .i64 t780, .int .i64 0]) ?_ 1 _ rfl; refine bk ?_; refine blk_put (cs := #[.int .i64 0, .int .i64 0]) ?_ 0 _ rfl; refine bk ?_; exact BK783.out⟩
                      have n6_ : Az (Below w.heap.size w ((w138.setCell ⟨gb783, 0, none⟩ (.int .i64 t780)).setCell ⟨gb783, 1, none⟩ (.int .i64 t781))) := ⟨by exact pbE HB.out⟩
                      (try clear HO_716004)
                      (try clear HO_724004)
                      (try clear BK715)
                      (try clear BK721)
                      (try clear BK723)
                      (try clear BK783)
                      (try clear HB)
                      generalize ((w138.setCell ⟨gb783, 0, none⟩ (.int .i64 t780)).setCell ⟨gb783, 1, none⟩ (.int .i64 t781)) = w141 at n0_ n1_ n2_ n3_ n4_ n5_ n6_ ⊢
                      have HO_716004 := n0_
                      have HO_724004 := n1_
                      have BK715 := n2_
                      have BK721 := n3_
                      have BK723 := n4_
                      have BK783 := n5_
                      have HB := n6_
                      clear n0_ n1_ n2_ n3_ n4_ n5_ n6_
                      replace HO_716004 := Az.mk (Kd.V_drew HO_716004.out)
                      replace HO_724004 := Az.mk (Kd.V_drew HO_724004.out)
                      replace BK715 := Az.mk (bkD BK715.out)
                      replace BK721 := Az.mk (bkD BK721.out)
                      replace BK723 := Az.mk (bkD BK723.out)
                      replace BK783 := Az.mk (bkD BK783.out)
                      replace HB := Az.mk (pb1 HB.out)
                      have p785 : 0 ≤ (x11_5 : Int) := of_decide_eq_true (by first | (with_reducible assumption) | assumption)
                      have q785 : x11_5 < (x724004_25.length : Int) := of_decide_eq_true (by first | (with_reducible assumption) | assumption)
                      have hpos785_ : 0 < x724004_25.length := by omega
                      obtain ⟨ad785, e785, hx785_0, hx785_1⟩ := at_T60 (Kd.V_reads' HO_724004.out).2.2 x11_5 p785 q785
                      obtain rfl : ad779 = ad785 := (by injection e785)
                      replace p785 := eq_true p785
                      replace q785 := eq_true q785
                      refine start_ (n := 25) (S := fun w' => w'.cell? ⟨gb723, 0, none⟩ = some (.int .i64 x724000_25) ∧ w'.cell? ⟨gb723, 1, none⟩ = some (.string x724001_25) ∧ w'.cell? ⟨gb723, 2, none⟩ = some (.string x724002_25) ∧ w'.cell? ⟨gb723, 3, none⟩ = some (.int .i64 x724003_25) ∧ w'.cell? ⟨gb723, 4, none⟩ = some (.slice (some ad779) x724004_25.length co134) ∧ w'.cell? ⟨gb723, 5, none⟩ = some (.int .i64 x724005_25) ∧ w'.cell? ⟨gb715, 0, none⟩ = some (.int .i64 x716000_2) ∧ w'.cell? ⟨gb715, 1, none⟩ = some (.string x716001_2) ∧ w'.cell? ⟨gb715, 2, none⟩ = some (.string x716002_2) ∧ w'.cell? ⟨gb715, 3, none⟩ = some (.int .i64 x716003_2) ∧ w'.cell? ⟨gb715, 4, none⟩ = some (.slice Ao37 x716004_2.length co37) ∧ w'.cell? ⟨gb715, 5, none⟩ = some (.int .i64 x716005_2) ∧ w'.cell? (ad779.add ((x11_5).toNat * 2)) = some (.int .i64 ((rd_T60 x724004_25 x11_5).f0)) ∧ w'.cell? ⟨(ad779.add ((x11_5).toNat * 2)).block, (ad779.add ((x11_5).toNat * 2)).off + 1, none⟩ = some (.int .i64 ((rd_T60 x724004_25 x11_5).f1))) (ds := []) #[false, false, false, false, false, false, false, false, false, false, false, false, false, false, false, false, false, false, false, false, false, false, false, false, false] (by kernel_rfl) rfl rfl ⟨(bkC BK723.out 0).trans rfl, (bkC BK723.out 1).trans rfl, (bkC BK723.out 2).trans rfl, (bkC BK723.out 3).trans rfl, (bkC BK723.out 4).trans rfl, (bkC BK723.out 5).trans rfl, (bkC BK715.out 0).trans rfl, (bkC BK715.out 1).trans rfl, (bkC BK715.out 2).trans rfl, (bkC BK715.out 3).trans rfl, (bkC BK715.out 4).trans rfl, (bkC BK715.out 5).trans rfl, hx785_0, hx785_1⟩ (fun hHeld => ?_); refine with_tabW l06_DescRises.tab30 l06_DescRises.bits30 (fun HT_ HW_ => ?_)
                      generalize w141.drew = w142 at HO_716004 HO_724004 BK715 BK721 BK723 BK783 HB hx785_0 hx785_1 hHeld ⊢
                      refine pure_ (i := 0) (N := some 137) (v := ?_) (a' := ?_) #[true, false, false, false, false, false, false, false, false, false, false, false, false, false, false, false, false, false, false, false, false, false, false, false, false] rfl rfl (any_of HT_.out (by kernel_rfl)) (fun _ _ _ h => h) (Or.inl ⟨by rfl, ?_⟩) ?_ ?_
                      rotate_left
                      ·intro w'
                       go_simp
                       with_reducible rfl
                      rotate_left
                      ·simp only [Act.put, List.setIfInBounds_toArray, List.set_cons_zero, List.set_cons_succ, i64_w, i32_w]
                       rfl
                      refine pure_ (i := 1) (N := some 138) (v := ?_) (a' := ?_) #[true, true, false, false, false, false, false, false, false, false, false, false, false, false, false, false, false, false, false, false, false, false, false, false, false] rfl rfl (any_of HT_.out (by kernel_rfl)) (fun _ _ _ h => h) (Or.inl ⟨by rfl, ?_⟩) ?_ ?_
                      rotate_left
                      ·intro w'
                       go_simp
                       with_reducible rfl
                      rotate_left
                      ·simp only [Act.put, List.setIfInBounds_toArray, List.set_cons_zero, List.set_cons_succ, i64_w, i32_w]
                       rfl
                      refine pure_ (i := 2) (N := some 139) (v := undef) (a' := ?_) #[true, true, true, false, false, false, false, false, false, false, false, false, false, false, false, false, false, false, false, false, false, false, false, false, false] rfl rfl (any_of HT_.out (by kernel_rfl)) (fun _ _ _ h => h) (Or.inr ⟨by rfl, rfl⟩) ?_ ?_
                      rotate_left
                      ·simp only [Act.put, List.setIfInBounds_toArray, List.set_cons_zero, List.set_cons_succ, i64_w, i32_w]
                       rfl
                      refine pure_ (i := 3) (N := some 140) (v := undef) (a' := ?_) #[true, true, true, true, false, false, false, false, false, false, false, false, false, false, false, false, false, false, false, false, false, false, false, false, false] rfl rfl (any_of HT_.out (by kernel_rfl)) (fun _ _ _ h => h) (Or.inr ⟨by rfl, rfl⟩) ?_ ?_
                      rotate_left
                      ·simp only [Act.put, List.setIfInBounds_toArray, List.set_cons_zero, List.set_cons_succ, i64_w, i32_w]
                       rfl
                      refine pure_ (i := 4) (N := some 141) (v := undef) (a' := ?_) #[true, true, true, true, true, false, false, false, false, false, false, false, false, false, false, false, false, false, false, false, false, false, false, false, false] rfl rfl (any_of HT_.out (by kernel_rfl)) (fun _ _ _ h => h) (Or.inr ⟨by rfl, rfl⟩) ?_ ?_
                      rotate_left
                      ·simp only [Act.put, List.setIfInBounds_toArray, List.set_cons_zero, List.set_cons_succ, i64_w, i32_w]
                       rfl
                      refine pure_ (i := 5) (N := some 142) (v := undef) (a' := ?_) #[true, true, true, true, true, true, false, false, false, false, false, false, false, false, false, false, false, false, false, false, false, false, false, false, false] rfl rfl (any_of HT_.out (by kernel_rfl)) (fun _ _ _ h => h) (Or.inr ⟨by rfl, rfl⟩) ?_ ?_
                      rotate_left
                      ·simp only [Act.put, List.setIfInBounds_toArray, List.set_cons_zero, List.set_cons_succ, i64_w, i32_w]
                       rfl
                      refine pure_ (i := 6) (N := some 143) (v := undef) (a' := ?_) #[true, true, true, true, true, true, true, false, false, false, false, false, false, false, false, false, false, false, false, false, false, false, false, false, false] rfl rfl (any_of HT_.out (by kernel_rfl)) (fun _ _ _ h => h) (Or.inr ⟨by rfl, rfl⟩) ?_ ?_
                      rotate_left
                      ·simp only [Act.put, List.setIfInBounds_toArray, List.set_cons_zero, List.set_cons_succ, i64_w, i32_w]
                       rfl
                      refine pure_ (i := 7) (N := some 144) (v := undef) (a' := ?_) #[true, true, true, true, true, true, true, true, false, false, false, false, false, false, false, false, false, false, false, false, false, false, false, false, false] rfl rfl (any_of HT_.out (by kernel_rfl)) (fun _ _ _ h => h) (Or.inr ⟨by rfl, rfl⟩) ?_ ?_
                      rotate_left
                      ·simp only [Act.put, List.setIfInBounds_toArray, List.set_cons_zero, List.set_cons_succ, i64_w, i32_w]
                       rfl
                      refine pure_ (i := 8) (N := some 145) (v := undef) (a' := ?_) #[true, true, true, true, true, true, true, true, true, false, false, false, false, false, false, false, false, false, false, false, false, false, false, false, false] rfl rfl (any_of HT_.out (by kernel_rfl)) (fun _ _ _ h => h) (Or.inr ⟨by rfl, rfl⟩) ?_ ?_
                      rotate_left
                      ·simp only [Act.put, List.setIfInBounds_toArray, List.set_cons_zero, List.set_cons_succ, i64_w, i32_w]
                       rfl
                      refine pure_ (i := 9) (N := some 146) (v := ?_) (a' := ?_) #[true, true, true, true, true, true, true, true, true, true, false, false, false, false, false, false, false, false, false, false, false, false, false, false, false] rfl rfl (any_of HT_.out (by kernel_rfl)) (fun _ _ _ h => h) (Or.inl ⟨by rfl, ?_⟩) ?_ ?_
                      rotate_left
                      ·intro w'
                       go_simp
                       with_reducible rfl
                      rotate_left
                      ·simp only [Act.put, List.setIfInBounds_toArray, List.set_cons_zero, List.set_cons_succ, i64_w, i32_w]
                       rfl
                      refine pure_ (i := 10) (N := some 147) (v := ?_) (a' := ?_) #[true, true, true, true, true, true, true, true, true, true, true, false, false, false, false, false, false, false, false, false, false, false, false, false, false] rfl rfl (any_of HT_.out (by kernel_rfl)) (fun _ _ _ h => h) (Or.inl ⟨by rfl, ?_⟩) ?_ ?_
                      rotate_left
                      ·intro w'
                       go_simp
                       with_reducible rfl
                      rotate_left
                      ·simp only [Act.put, List.setIfInBounds_toArray, List.set_cons_zero, List.set_cons_succ, i64_w, i32_w]
                       rfl
                      refine pure_ (i := 11) (N := some 148) (v := ?_) (a' := ?_) #[true, true, true, true, true, true, true, true, true, true, true, true, false, false, false, false, false, false, false, false, false, false, false, false, false] rfl rfl (any_of HT_.out (by kernel_rfl)) (fun _ _ _ h => h) (Or.inl ⟨by rfl, ?_⟩) ?_ ?_
                      rotate_left
                      ·intro w'
                       go_simp
                       with_reducible rfl
                      rotate_left
                      ·simp only [Act.put, List.setIfInBounds_toArray, List.set_cons_zero, List.set_cons_succ, i64_w, i32_w]
                       rfl
                      refine pure_ (i := 12) (N := some 149) (v := ?_) (a' := ?_) #[true, true, true, true, true, true, true, true, true, true, true, true, true, false, false, false, false, false, false, false, false, false, false, false, false] rfl rfl (any_of HT_.out (by kernel_rfl)) (fun _ _ _ h => h) (Or.inl ⟨by rfl, ?_⟩) ?_ ?_
                      rotate_left
                      ·intro w'
                       go_simp
                       with_reducible rfl
                      rotate_left
                      ·simp only [Act.put, List.setIfInBounds_toArray, List.set_cons_zero, List.set_cons_succ, i64_w, i32_w]
                       rfl
                      refine pure_ (i := 13) (N := some 150) (v := ?_) (a' := ?_) #[true, true, true, true, true, true, true, true, true, true, true, true, true, true, false, false, false, false, false, false, false, false, false, false, false] rfl rfl (any_of HT_.out (by kernel_rfl)) (fun _ _ _ h => h) (Or.inl ⟨by rfl, ?_⟩) ?_ ?_
                      rotate_left
                      ·intro w'
                       go_simp
                       with_reducible rfl
                      rotate_left
                      ·simp only [Act.put, List.setIfInBounds_toArray, List.set_cons_zero, List.set_cons_succ, i64_w, i32_w]
                       rfl
                      refine pure_ (i := 14) (N := some 151) (v := ?_) (a' := ?_) #[true, true, true, true, true, true, true, true, true, true, true, true, true, true, true, false, false, false, false, false, false, false, false, false, false] rfl rfl (any_of HT_.out (by kernel_rfl)) (fun _ _ _ h => h) (Or.inl ⟨by rfl, ?_⟩) ?_ ?_
                      rotate_left
                      ·intro w'
                       go_simp
                       with_reducible rfl
                      rotate_left
                      ·simp only [Act.put, List.setIfInBounds_toArray, List.set_cons_zero, List.set_cons_succ, i64_w, i32_w]
                       rfl
                      refine pure_ (i := 16) (N := some 153) (v := ?_) (a' := ?_) #[true, true, true, true, true, true, true, true, true, true, true, true, true, true, true, false, true, false, false, false, false, false, false, false, false] rfl rfl (any_of HT_.out (by kernel_rfl)) (fun _ _ _ h => h) (Or.inl ⟨by rfl, ?_⟩) ?_ ?_
                      rotate_left
                      ·intro w'
                       go_simp
                       with_reducible rfl
                      rotate_left
                      ·simp only [Act.put, List.setIfInBounds_toArray, List.set_cons_zero, List.set_cons_succ, i64_w, i32_w]
                       rfl
                      refine pure_ (i := 20) (N := some 157) (v := ?_) (a' := ?_) #[true, true, true, true, true, true, true, true, true, true, true, true, true, true, true, false, true, false, false, false, true, false, false, false, false] rfl rfl (any_of HT_.out (by kernel_rfl)) (fun _ _ _ h => h) (Or.inl ⟨by rfl, ?_⟩) ?_ ?_
                      rotate_left
                      ·intro w'
                       go_simp
                       with_reducible rfl
                      rotate_left
                      ·simp only [Act.put, List.setIfInBounds_toArray, List.set_cons_zero, List.set_cons_succ, i64_w, i32_w]
                       rfl
                      refine take_ (i := 15) (N := some 152) (v := ?_) (a' := ?_) #[true, true, true, true, true, true, true, true, true, true, true, true, true, true, true, true, true, false, false, false, true, false, false, false, false] rfl rfl (take_ofW HT_.out HW_.out (by kernel_rfl)) (fun _ _ _ h => h) (Or.inl ⟨by rfl, ?_⟩) hHeld ?_ ?_
                      rotate_left
                      ·rintro w' ⟨s0, s1, s2, s3, s4, s5, s6, s7, s8, s9, s10, s11, s12, s13⟩
                       go_simp
                       with_reducible rfl
                      rotate_left
                      ·simp only [Act.put, List.setIfInBounds_toArray, List.set_cons_zero, List.set_cons_succ, i64_w, i32_w]
                       rfl
                      refine pure_ (i := 17) (N := some 154) (v := ?_) (a' := ?_) #[true, true, true, true, true, true, true, true, true, true, true, true, true, true, true, true, true, true, false, false, true, false, false, false, false] rfl rfl (any_of HT_.out (by kernel_rfl)) (fun _ _ _ h => h) (Or.inl ⟨by rfl, ?_⟩) ?_ ?_
                      rotate_left
                      ·intro w'
                       go_simp
                       with_reducible rfl
                      rotate_left
                      ·simp only [Act.put, List.setIfInBounds_toArray, List.set_cons_zero, List.set_cons_succ, i64_w, i32_w]
                       rfl
                      refine pure_ (i := 18) (N := some 155) (v := ?_) (a' := ?_) #[true, true, true, true, true, true, true, true, true, true, true, true, true, true, true, true, true, true, true, false, true, false, false, false, false] rfl rfl (any_of HT_.out (by kernel_rfl)) (fun _ _ _ h => h) (Or.inl ⟨by rfl, ?_⟩) ?_ ?_
                      rotate_left
                      ·intro w'
                       go_simp
                       with_reducible rfl
                      rotate_left
                      ·simp only [Act.put, List.setIfInBounds_toArray, List.set_cons_zero, List.set_cons_succ, i64_w, i32_w]
                       rfl
                      refine take_ (i := 19) (N := some 156) (v := ?_) (a' := ?_) #[true, true, true, true, true, true, true, true, true, true, true, true, true, true, true, true, true, true, true, true, true, false, false, false, false] rfl rfl (take_ofW HT_.out HW_.out (by kernel_rfl)) (fun _ _ _ h => h) (Or.inl ⟨by rfl, ?_⟩) hHeld ?_ ?_
                      rotate_left
                      ·rintro w' ⟨s0, s1, s2, s3, s4, s5, s6, s7, s8, s9, s10, s11, s12, s13⟩
                       go_simp
                       with_reducible rfl
                      rotate_left
                      ·simp only [Act.put, List.setIfInBounds_toArray, List.set_cons_zero, List.set_cons_succ, i64_w, i32_w]
                       rfl
                      refine take_ (i := 21) (N := some 158) (v := ?_) (a' := ?_) #[true, true, true, true, true, true, true, true, true, true, true, true, true, true, true, true, true, true, true, true, true, true, false, false, false] rfl rfl (take_ofW HT_.out HW_.out (by kernel_rfl)) (fun _ _ _ h => h) (Or.inl ⟨by rfl, ?_⟩) hHeld ?_ ?_
                      rotate_left
                      ·rintro w' ⟨s0, s1, s2, s3, s4, s5, s6, s7, s8, s9, s10, s11, s12, s13⟩
                       go_simp
                       with_reducible rfl
                      rotate_left
                      ·simp only [Act.put, List.setIfInBounds_toArray, List.set_cons_zero, List.set_cons_succ, i64_w, i32_w]
                       rfl
                      refine pure_ (i := 22) (N := some 159) (v := ?_) (a' := ?_) #[true, true, true, true, true, true, true, true, true, true, true, true, true, true, true, true, true, true, true, true, true, true, true, false, false] rfl rfl (any_of HT_.out (by kernel_rfl)) (fun _ _ _ h => h) (Or.inl ⟨by rfl, ?_⟩) ?_ ?_
                      rotate_left
                      ·intro w'
                       go_simp
                       with_reducible rfl
                      rotate_left
                      ·simp only [Act.put, List.setIfInBounds_toArray, List.set_cons_zero, List.set_cons_succ, i64_w, i32_w]
                       rfl
                      refine pure_ (i := 23) (N := some 160) (v := ?_) (a' := ?_) #[true, true, true, true, true, true, true, true, true, true, true, true, true, true, true, true, true, true, true, true, true, true, true, true, false] rfl rfl (any_of HT_.out (by kernel_rfl)) (fun _ _ _ h => h) (Or.inl ⟨by rfl, ?_⟩) ?_ ?_
                      rotate_left
                      ·intro w'
                       go_simp
                       with_reducible rfl
                      rotate_left
                      ·simp only [Act.put, List.setIfInBounds_toArray, List.set_cons_zero, List.set_cons_succ, i64_w, i32_w]
                       rfl
                      refine pure_ (i := 24) (N := some 161) (v := ?_) (a' := ?_) #[true, true, true, true, true, true, true, true, true, true, true, true, true, true, true, true, true, true, true, true, true, true, true, true, true] rfl rfl (any_of HT_.out (by kernel_rfl)) (fun _ _ _ h => h) (Or.inl ⟨by rfl, ?_⟩) ?_ ?_
                      rotate_left
                      ·intro w'
                       go_simp
                       with_reducible rfl
                      rotate_left
                      ·simp only [Act.put, List.setIfInBounds_toArray, List.set_cons_zero, List.set_cons_succ, i64_w, i32_w]
                       rfl
                      refine done_ (done_of HT_.out (by kernel_rfl)) ?_
                      try go_wp2
                      go_roundg k5
                      case measure => have := HJ2.out; have := HK2.out; have := HJ25.out; have := HJ85.out; have := HK5.out; omega
                      case rel => exact ⟨(wrap64 (x11_5 + 1)), (by first | rfl | (simp; done) | (simp [*]; done)), H', ⟨by have := HJ2.out; have := HK2.out; have := HJ25.out; have := HJ85.out; have := HK5.out; omega⟩, ⟨by (with_reducible repeat (first | apply Kd.V_alloc | apply Kd.V_drewN | apply Kd.V_drew)); exact Kd.V_mono HO_716004.out (fun _ hk => ⟨hk.1, ⟨hk.2.1, hk.2.2.1⟩⟩)⟩, ⟨by (with_reducible repeat (first | apply Kd.V_alloc | apply Kd.V_drewN | apply Kd.V_drew)); exact Kd.V_mono HO_724004.out (fun _ hk => ⟨hk.1, ⟨hk.2.1, hk.2.2.1⟩⟩)⟩, ⟨by refine bk ?_; exact BK715.out⟩, ⟨by refine bk ?_; exact BK721.out⟩, ⟨by refine bk ?_; exact BK723.out⟩, ⟨by exact pbE HB.out⟩⟩
                   ·rw [if_neg c114] at H
                    exact absurd H (by simp)
                  ·rw [if_neg c113] at H
                   have c113b0 : decide (x11_5 < (x724004_25.length : Int)) = false := decide_eq_false c113
                   clear c113
                   have H' := Az.mk H
                   clear H
                   have hnb143 := NB723_715.out
                   have hnc143 := NB715_723.out
                   have hnb144 := NB723_721.out
                   have hnc144 := NB721_723.out
                   have hcz145 := cells6 BK723.out
                   obtain ⟨Ao146, co146, eo146⟩ := Kd.V_slice HO_724004.out
                   subst eo146
                   have hnb147 := NB715_721.out
                   have hnc147 := NB721_715.out
                   have hcz148 := cells6 BK715.out
                   go_wp2_with (first | ((with_reducible refine gate_store (t := 26) (p := 5) rfl ?_); refine store_event (t := 26) (p := 5) (v := ?vo_w149) (w1 := ((((((wr.setCell ⟨gb715, 0, none⟩ (.int .i64 x724000_25)).setCell ⟨gb715, 1, none⟩ (.string x724001_25)).setCell ⟨gb715, 2, none⟩ (.string x724002_25)).setCell ⟨gb715, 3, none⟩ (.int .i64 x724003_25)).setCell ⟨gb715, 4, none⟩ (.slice Ao146 x724004_25.length co146)).setCell ⟨gb715, 5, none⟩ (.int .i64 x724005_25))) ?hg ?ho ?hn ?hr ?_; (case ho => rfl); (case hg => rfl); (case hn => rfl); (case hr => first | (go_simp; done) | (go_simp; rfl)); intro w149 hw; have n0_ : Az (Kd.V k60 60 w149 w.heap.size (fun k_ => k_ ≠ gb715 ∧ k_ ≠ gb721 ∧ k_ ≠ gb723) (.slice Ao37 x716004_2.length co37) x716004_2) := ⟨(by rw [hw]; exact (by (with_reducible repeat (first | apply Kd.V_alloc | apply Kd.V_drewN | apply Kd.V_drew)); exact Kd.V_mono (Kd.V_off (g := gb715) (fun _ hk => hk.2) (Kd.V_mono HO_716004.out (fun k_ hk => (⟨hk, hk.1⟩ : _ ∧ k_ ≠ gb715)))) (fun _ hk => ⟨hk.1.1, ⟨hk.1.2.1, hk.1.2.2⟩⟩)))⟩; have n1_ : Az (Kd.V k60 60 w149 w.heap.size (fun k_ => k_ ≠ gb715 ∧ k_ ≠ gb721 ∧ k_ ≠ gb723) (.slice Ao146 x724004_25.length co146) x724004_25) := ⟨(by rw [hw]; exact (by (with_reducible repeat (first | apply Kd.V_alloc | apply Kd.V_drewN | apply Kd.V_drew)); exact Kd.V_mono (Kd.V_off (g := gb715) (fun _ hk => hk.2) (Kd.V_mono HO_724004.out (fun k_ hk => (⟨hk, hk.1⟩ : _ ∧ k_ ≠ gb715)))) (fun _ hk => ⟨hk.1.1, ⟨hk.1.2.1, hk.1.2.2⟩⟩)))⟩; have n2_ : Az (w149.heap[gb715]? = some (.cells #[.int .i64 x724000_25, .string x724001_25, .string x724002_25, .int .i64 x724003_25, .slice Ao146 x724004_25.length co146, .int .i64 x724005_25] 26 (0, 0))) := ⟨(by rw [hw]; exact (by refine bk ?_; refine blk_put (cs := #[.int .i64 x724000_25, .string x724001_25, .string x724002_25, .int .i64 x724003_25, .slice Ao146 x724004_25.length co146, .int .i64 x716005_2]) ?_ 5 _ rfl; refine bk ?_; refine blk_put (cs := #[.int .i64 x724000_25, .string x724001_25, .string x724002_25, .int .i64 x724003_25, .slice Ao37 x716004_2.length co37, .int .i64 x716005_2]) ?_ 4 _ rfl; refine bk ?_; refine blk_put (cs := #[.int .i64 x724000_25, .string x724001_25, .string x724002_25, .int .i64 x716003_2, .slice Ao37 x716004_2.length co37, .int .i64 x716005_2]) ?_ 3 _ rfl; refine bk ?_; refine blk_put (cs := #[.int .i64 x724000_25, .string x724001_25, .string x716002_2, .int .i64 x716003_2, .slice Ao37 x716004_2.length co37, .int .i64 x716005_2]) ?_ 2 _ rfl; refine bk ?_; refine blk_put (cs := #[.int .i64 x724000_25, .string x716001_2, .string x716002_2, .int .i64 x716003_2, .slice Ao37 x716004_2.length co37, .int .i64 x716005_2]) ?_ 1 _ rfl; refine bk ?_; refine blk_put (cs := #[.int .i64 x716000_2, .string x716001_2, .string x716002_2, .int .i64 x716003_2, .slice Ao37 x716004_2.length co37, .int .i64 x716005_2]) ?_ 0 _ rfl; refine bk ?_; exact BK715.out))⟩; have n3_ : Az (w149.heap[gb721]? = some (.cells #[.int .i64 ((rd_T58 l1 x7_2).f0), .int .i64 ((rd_T58 l1 x7_2).f1), .int .i64 ((rd_T58 l1 x7_2).f2), .string ((rd_T58 l1 x7_2).f3)] 58 (0, 0))) := ⟨(by rw [hw]; exact (bf BK721.out))⟩; have n4_ : Az (w149.heap[gb723]? = some (.cells #[.int .i64 x724000_25, .string x724001_25, .string x724002_25, .int .i64 x724003_25, .slice Ao146 x724004_25.length co146, .int .i64 x724005_25] 26 (0, 0))) := ⟨(by rw [hw]; exact (bf BK723.out))⟩; have n5_ : Az (Below w.heap.size w w149) := ⟨(by rw [hw]; exact (by exact pbE HB.out))⟩; clear hw; clear HO_716004; clear HO_724004; clear BK715; clear BK721; clear BK723; clear HB; have HO_716004 := n0_; have HO_724004 := n1_; have BK715 := n2_; have BK721 := n3_; have BK723 := n4_; have HB := n5_; clear n0_ n1_ n2_ n3_ n4_ n5_))
                   go_roundg k5
                   case measure => have := HJ2.out; have := HK2.out; have := HJ25.out; have := HJ85.out; have := HK5.out; omega
                   case rel => exact ⟨(wrap64 (x7_2 + 1)), (x724000_25), (x724001_25), (x724002_25), (x724003_25), (x724004_25), (x724005_25), (.slice Ao146 x724004_25.length co146), (by first | rfl | (simp; done) | (simp [*]; done)), H', ⟨by have := HJ2.out; have := HK2.out; have := HJ25.out; have := HJ85.out; have := HK5.out; omega⟩, ⟨by (with_reducible repeat (first | apply Kd.V_alloc | apply Kd.V_drewN | apply Kd.V_drew)); exact Kd.V_mono HO_724004.out (fun _ hk => hk.1)⟩, ⟨by refine bk ?_; exact BK715.out⟩, ⟨by exact pbE HB.out⟩⟩
            ·rw [if_neg c85] at H
             have c85b0 : (t776 == 0) = false := beq_eq_false_iff_ne.mpr c85
             have c85b1 : (t776 != 0) = true := bne_iff_ne.mpr c85
             have H' := Az.mk H
             clear H
             go_wp2_with (first | ((with_reducible refine gtc (f := 17) rfl ?_); refine goesL_ (some 98) rfl rfl Tryd.func17 (by kernel_rfl) rfl #[.int .i64 x10_25] rfl (by (try simp only [List.map_toArray, List.map_cons, List.map_nil]); first | done | rfl | (simp only [List.length_drop, List.length_take]; rfl)) ?_; (with_reducible refine (l06_num.calls x10_25 t776 _ ?side1 A84.out).mono ?_); (case side1 => exact hG.below (by exact pbE HB.out)); rintro e w' ⟨rfl, ⟨nd, rfl⟩⟩; refine ⟨_, rfl, ?_⟩))
             go_roundg kj25
             case measure => have := HJ2.out; have := HK2.out; have := HJ25.out; omega
             case rel => exact ⟨(wrap64 (x7_2 + 1)), (x716000_2), (x716001_2), (x716002_2), (x716003_2), (x716004_2), (x716005_2), (.slice Ao37 x716004_2.length co37), (by first | rfl | (simp; done) | (simp [*]; done)), H', ⟨by have := HJ2.out; have := HK2.out; have := HJ25.out; omega⟩, ⟨by (with_reducible repeat (first | apply Kd.V_alloc | apply Kd.V_drewN | apply Kd.V_drew)); exact Kd.V_mono HO_716004.out (fun _ hk => hk.1)⟩, ⟨by refine bk ?_; exact BK715.out⟩, ⟨by exact pbE HB.out⟩⟩
        ·rw [if_neg c17] at H
         exact absurd H (by simp)
       ·rw [if_neg c16] at H
        have c16b0 : decide (x7_2 < (l1.length : Int)) = false := decide_eq_false c16
        clear c16
        replace H := Option.bind_eq_some_iff.mp H
        obtain ⟨t719, A1500, H⟩ := H
        replace H : (some t719) = some r := H
        have A150 := Az.mk A1500
        clear A1500
        obtain rfl := Option.some.inj H
        go_wp2_with (first | ((with_reducible refine gtc (f := 10) rfl ?_); refine goesL_ (some 163) rfl rfl Tryd.func10 (by kernel_rfl) rfl #[] rfl (by (try simp only [List.map_toArray, List.map_cons, List.map_nil]); first | done | rfl | (simp only [List.length_drop, List.length_take]; rfl)) ?_; (with_reducible refine (l06_live.calls  t719 _ ?side1 A150.out).mono ?_); (case side1 => exact hG.below (by exact pbE HB.out)); rintro e w151 ⟨rfl, hb⟩; refine ⟨_, rfl, ?_⟩; replace HO_716004 := Az.mk (Kd.V_below (Kd.V_ext HO_716004.out) hb); replace BK715 := Az.mk (bkB (bk BK715.out) hb); replace HB := Az.mk (pbT (by exact pbE HB.out) hb); (try clear hb); (try clear hb2); (try clear hk); (try clear hi)))
        go_ret
        exact ⟨by first | rfl | (simp [errW_none, errW_some] <;> rfl) | (simp [*, errW_none, errW_some] <;> rfl), by exact pbE HB.out⟩
    ·rw [if_neg c10] at H
     have c10b0 : (t716 == 0) = false := beq_eq_false_iff_ne.mpr c10
     have c10b1 : (t716 != 0) = true := bne_iff_ne.mpr c10
     replace H := Option.bind_eq_some_iff.mp H
     obtain ⟨t717, A1520, H⟩ := H
     replace H : (if t717 = 60 then ((l06_live.f).bind fun t718 => (some t718)) else (some false)) = some r := H
     have A152 := Az.mk A1520
     clear A1520
     by_cases c153 : t717 = 60
     ·rw [if_pos c153] at H
      have c153b0 : (t717 == 60) = true := beq_iff_eq.mpr c153
      have c153b1 : (t717 != 60) = false := bne_eq_false_iff_eq.mpr c153
      clear c153
      replace H := Option.bind_eq_some_iff.mp H
      obtain ⟨t718, A1540, H⟩ := H
      replace H : (some t718) = some r := H
      have A154 := Az.mk A1540
      clear A1540
      obtain rfl := Option.some.inj H
      go_wp2_with (first | ((with_reducible refine gtc (f := 23) rfl ?_); refine goesL_ (some 25) rfl rfl Tryd.func23 (by kernel_rfl) rfl #[.slice A0 l0.length c0] rfl (by (try simp only [List.map_toArray, List.map_cons, List.map_nil]); first | done | rfl | (simp only [List.length_drop, List.length_take]; rfl)) ?_; (with_reducible refine (desc_First.calls kj2 _ _ l0 t706 t707 t708 t709 t710 t713 t714 _ ?side1 ?side2 ?side3 A8.out).mono ?_); (case side1 => exact hG.below (by exact pbE HB.out)); (case side2 => repeat (first | exact (Kd.C_below HR0.out HB.out) | (with_reducible refine Kd.C_alloc ?_ _) | (with_reducible refine Kd.C_drewN ?_ _) | (with_reducible refine Kd.C_drew ?_))); (case side3 => exact HC0.out); rintro e w155 ⟨v711, rfl, ho0, hb⟩; refine ⟨_, rfl, ?_⟩; have HO712 := Az.mk (Kd.V_lower (Kd.V_mono (ok' := fun k_ => True) ho0 (fun k_ hk_ => trivial)) (pbZ (by exact pbE HB.out))); replace HB := Az.mk (pbT (by exact pbE HB.out) hb); (try clear hb); (try clear hb2); (try clear hk); (try clear hi); (try clear ho0)) | ((with_reducible refine gate_dst (N := 5) rfl ?_); (try (refine gate_guard (by rfl) ?_; dsimp only)); refine box_event ?hg (N := 5) ?hd (cs := #[.int .i64 0, .string (⟨#[]⟩ : ByteArray), .string (⟨#[]⟩ : ByteArray), .int .i64 0, .slice none 0 0, .int .i64 0]) (t := 26) ?hr ?_; (case hd => rfl); (case hg => rfl); (case hr => first | (go_simp; done) | (go_simp; rfl)); intro gb715 hg w156 hbox hb; replace HO712 := Az.mk (Kd.V_below (Kd.V_elderB (Kd.V_ext HO712.out) gb715 (Nat.le_of_eq hg.symm)) hb); have BK715 := Az.mk (hbox); have GW715 := Az.mk (geO hg (pbE HB.out)); have GE715 := Az.mk (geO hg (pbE HB.out)); replace HB := Az.mk (pbT (by exact pbE HB.out) hb); clear hb hbox hg; have hcz157 := cells6 BK715.out; obtain ⟨Ao158, co158, eo158⟩ := Kd.V_slice HO712.out; subst eo158) | ((with_reducible refine gate_store (t := 26) (p := 5) rfl ?_); refine store_event (t := 26) (p := 5) (v := ?vo_w159) (w1 := ((((((w156.setCell ⟨gb715, 0, none⟩ (.int .i64 t706)).setCell ⟨gb715, 1, none⟩ (.string t707)).setCell ⟨gb715, 2, none⟩ (.string t708)).setCell ⟨gb715, 3, none⟩ (.int .i64 t709)).setCell ⟨gb715, 4, none⟩ (.slice Ao158 t710.length co158)).setCell ⟨gb715, 5, none⟩ (.int .i64 t713))) ?hg ?ho ?hn ?hr ?_; (case ho => rfl); (case hg => rfl); (case hn => rfl); (case hr => first | (go_simp; done) | (go_simp; rfl)); intro w159 hw; have n0_ : Az (Kd.V k60 60 w159 w.heap.size (fun k_ => k_ ≠ gb715) (.slice Ao158 t710.length co158) t710) := ⟨(by rw [hw]; exact (by (with_reducible repeat (first | apply Kd.V_alloc | apply Kd.V_drewN | apply Kd.V_drew)); exact Kd.V_mono (Kd.V_off (g := gb715) (fun _ hk => hk.2) (Kd.V_mono HO712.out (fun k_ hk => (⟨hk, hk.2⟩ : _ ∧ k_ ≠ gb715)))) (fun _ hk => hk.1.2)))⟩; have n1_ : Az (w159.heap[gb715]? = some (.cells #[.int .i64 t706, .string t707, .string t708, .int .i64 t709, .slice Ao158 t710.length co158, .int .i64 t713] 26 (0, 0))) := ⟨(by rw [hw]; exact (by refine bk ?_; refine blk_put (cs := #[.int .i64 t706, .string t707, .string t708, .int .i64 t709, .slice Ao158 t710.length co158, .int .i64 0]) ?_ 5 _ rfl; refine bk ?_; refine blk_put (cs := #[.int .i64 t706, .string t707, .string t708, .int .i64 t709, .slice none 0 0, .int .i64 0]) ?_ 4 _ rfl; refine bk ?_; refine blk_put (cs := #[.int .i64 t706, .string t707, .string t708, .int .i64 0, .slice none 0 0, .int .i64 0]) ?_ 3 _ rfl; refine bk ?_; refine blk_put (cs := #[.int .i64 t706, .string t707, .string (⟨#[]⟩ : ByteArray), .int .i64 0, .slice none 0 0, .int .i64 0]) ?_ 2 _ rfl; refine bk ?_; refine blk_put (cs := #[.int .i64 t706, .string (⟨#[]⟩ : ByteArray), .string (⟨#[]⟩ : ByteArray), .int .i64 0, .slice none 0 0, .int .i64 0]) ?_ 1 _ rfl; refine bk ?_; refine blk_put (cs := #[.int .i64 0, .string (⟨#[]⟩ : ByteArray), .string (⟨#[]⟩ : ByteArray), .int .i64 0, .slice none 0 0, .int .i64 0]) ?_ 0 _ rfl; refine bk ?_; exact BK715.out))⟩; have n2_ : Az (Below w.heap.size w w159) := ⟨(by rw [hw]; exact (by exact pbE HB.out))⟩; clear hw; clear HO712; clear BK715; clear HB; have HO712 := n0_; have BK715 := n1_; have HB := n2_; clear n0_ n1_ n2_) | ((with_reducible refine gtc (f := 17) rfl ?_); refine goesL_ (some 29) rfl rfl Tryd.func17 (by kernel_rfl) rfl #[.int .i64 t714] rfl (by (try simp only [List.map_toArray, List.map_cons, List.map_nil]); first | done | rfl | (simp only [List.length_drop, List.length_take]; rfl)) ?_; (with_reducible refine (l06_num.calls t714 t716 _ ?side1 A9.out).mono ?_); (case side1 => exact hG.below (by exact pbE HB.out)); rintro e w' ⟨rfl, ⟨nd, rfl⟩⟩; refine ⟨_, rfl, ?_⟩) | ((with_reducible refine gtc (f := 17) rfl ?_); refine goesL_ (some 32) rfl rfl Tryd.func17 (by kernel_rfl) rfl #[.int .i64 t714] rfl (by (try simp only [List.map_toArray, List.map_cons, List.map_nil]); first | done | rfl | (simp only [List.length_drop, List.length_take]; rfl)) ?_; (with_reducible refine (l06_num.calls t714 t717 _ ?side1 A152.out).mono ?_); (case side1 => exact hG.below (by exact pbE HB.out)); rintro e w' ⟨rfl, ⟨nd, rfl⟩⟩; refine ⟨_, rfl, ?_⟩) | (go_at_call 10; (with_reducible refine (l06_live.calls  t718 _ ?side1 A154.out).mono ?_); (case side1 => exact hG.below (by exact pbE HB.out)); rintro e w160 ⟨rfl, hb⟩; replace HO712 := Az.mk (Kd.V_below (Kd.V_ext HO712.out) hb); replace BK715 := Az.mk (bkB (bk BK715.out) hb); replace HB := Az.mk (pbT (by exact pbE HB.out) hb); (try clear hb); (try clear hb2); (try clear hk); (try clear hi)))
      go_ret
      exact ⟨by first | rfl | (simp [errW_none, errW_some] <;> rfl) | (simp [*, errW_none, errW_some] <;> rfl), by exact pbE HB.out⟩
     ·rw [if_neg c153] at H
      have c153b0 : (t717 == 60) = false := beq_eq_false_iff_ne.mpr c153
      have c153b1 : (t717 != 60) = true := bne_iff_ne.mpr c153
      exact absurd (Option.some.inj (H.trans (congrArg some hr))) (by decide)
end Go.Proofs.YtjfhcijjjadhbaaDoor.P
end
section
namespace Go.Proofs.YtjfhcijjjadhbaaDoor.U
open Go.RowKit Go.Proofs.YtjfhcijjjadhbaaDoorW.PrintWords Go.Proofs.YtjfhcijjjadhbaaDoorW.PrintLast Go.Proofs.YtjfhcijjjadhbaaDoorW.PrintMore Go.Proofs.YtjfhcijjjadhbaaDoor.P Go.Proofs.YtjfhcijjjadhbaaDoor.K Go.Proofs.YtjfhcijjjadhbaaDoor.A Go.Proofs.YtjfhcijjjadhbaaDoor.V
theorem live_ev : Ev (fun _ => (l06_live.f).bind fun x => some x) true := by
 simp only [l06_live.f, Option.bind_some]
 exact Ev.now _
theorem isMem_lt {nx : Int} : ∀ {l : List S60} {last : Int} {on : Nat → Bool}, isMem nx last on l = true → ∀ x ∈ l, x.f1 < nx
 | [], _, _, _, x, hx => by simp at hx
 | m :: r, last, on, h, x, hx => by
  unfold isMem at h
  split at h
  ·rename_i c
   rcases List.mem_cons.1 hx with rfl | hx
   ·exact c.2.2.2.2
   ·exact isMem_lt h x hx
  ·cases h
theorem okD_lt {id : Int} {fr tu : ByteArray} {gen : Int} {l : List S60} {nx : Int} (h : okD id fr tu gen l nx = true) : ∀ x ∈ l, x.f1 < nx := by
 unfold okD at h
 simp only [Bool.and_eq_true] at h
 have h5 := h.2.2.2.2
 unfold okM at h5
 split at h5
 ·cases h5
 ·exact isMem_lt h5
theorem okD_gen {id : Int} {fr tu : ByteArray} {gen : Int} {l : List S60} {nx : Int} (h : okD id fr tu gen l nx = true) : 1 ≤ gen ∧ gen ≤ 1099511627776 := by
 unfold okD at h
 simp only [Bool.and_eq_true] at h
 exact of_decide_eq_true h.2.1
theorem okD_bound {id : Int} {fr tu : ByteArray} {gen : Int} {l : List S60} {nx : Int} (h : okD id fr tu gen l nx = true) : boundOk fr tu = true := by
 unfold okD at h
 simp only [Bool.and_eq_true] at h
 exact h.2.2.2.1
theorem hitM_none {p : S60 → Bool} {l : List S60} (h : ¬ (hitM p l).2.2 = true) : ∀ x ∈ l, p x = false := by
 unfold hitM at h
 cases hf : l.find? p with
 | some m => rw [hf] at h; exact absurd rfl h
 | none =>
  intro x hx
  have := List.find?_eq_none.1 hf x hx
  simpa using this
theorem cut_ne {f t k : ByteArray} (h : cutOk f t k = true) : ¬ k.toList = ([] : List UInt8) := by
 unfold cutOk at h
 simp only [Bool.and_eq_true, Bool.not_eq_true', beq_eq_false_iff_ne] at h
 exact h.1.1.2.1
theorem split_cases {id : Int} {fr tu : ByteArray} {gen : Int} {l : List S60} {nx : Int} {key : ByteArray} {id2 : Int} (hm : l.length ≤ 1000000) :
 (∃ s, desc_Split.f id fr tu gen l nx key id2 = some s ∧ ¬ s.2.2.2.2.2.2.2.2.2.2.2.2 = 0) ∨
 (okD id fr key (wrap64 (gen + 1)) l nx = true ∧ okD id2 key tu (wrap64 (gen + 1)) l nx = true ∧ cutOk fr tu key = true ∧ id < id2 ∧ desc_Split.f id fr tu gen l nx key id2 = some (id, fr, key, wrap64 (gen + 1), l, nx, id2, key, tu, wrap64 (gen + 1), l, nx, 0)) := by
 unfold desc_Split.f
 simp only [check_eq, Option.bind_some]
 by_cases h0 : okD id fr tu gen l nx = true
 ·simp only [if_pos h0, if_true]
  by_cases h1 : cutOk fr tu key = true
  ·simp only [if_pos h1]
   by_cases h2 : id2 ≤ id
   ·simp only [if_pos h2]; exact .inl ⟨_, rfl, by decide⟩
   ·have hc : api_Member_33.f l = some l := by
     unfold api_Member_33.f; rw [if_pos (by omega)]
    simp only [if_neg h2, hc, Option.bind_some]
    by_cases h3 : okD id fr key (wrap64 (gen + 1)) l nx = true
    ·simp only [if_pos h3, if_true]
     by_cases h4 : okD id2 key tu (wrap64 (gen + 1)) l nx = true
     ·simp only [if_pos h4, if_true]; exact .inr ⟨h3, h4, h1, by omega, by first | rfl | trivial⟩
     ·simp only [if_neg h4]; rw [if_neg (by decide)]; exact .inl ⟨_, rfl, by decide⟩
    ·simp only [if_neg h3]; rw [if_neg (by decide)]; exact .inl ⟨_, rfl, by decide⟩
  ·simp only [if_neg h1]; exact .inl ⟨_, rfl, by decide⟩
 ·simp only [if_neg h0]; rw [if_neg (by decide)]; exact .inl ⟨_, rfl, by decide⟩
theorem okD_nx {id : Int} {fr tu : ByteArray} {gen : Int} {l : List S60} {nx : Int} (h : okD id fr tu gen l nx = true) : 1 ≤ nx ∧ nx ≤ 1099511627776 := by
 unfold okD at h
 simp only [Bool.and_eq_true] at h
 exact of_decide_eq_true h.2.2.1
theorem isMem_gt {nx : Int} : ∀ {l : List S60} {last : Int} {on : Nat → Bool}, isMem nx last on l = true → ∀ x ∈ l, last < x.f1
 | [], _, _, _, x, hx => by simp at hx
 | m :: r, last, on, h, x, hx => by
  unfold isMem at h
  split at h
  ·rename_i c
   rcases List.mem_cons.1 hx with rfl | hx
   ·exact c.2.2.2.1
   ·have := isMem_gt h x hx; omega
  ·cases h
theorem isMem_hit {nx : Int} : ∀ {l : List S60} {last : Int} {on : Nat → Bool}, isMem nx last on l = true → ∀ x ∈ l, hitM (fun m => m.f1 == x.f1) l = (x.f0, x.f1, true)
 | [], _, _, _, x, hx => by simp at hx
 | m :: r, last, on, h, x, hx => by
  unfold isMem at h
  split at h
  ·rw [hitM_cons]
   rcases List.mem_cons.1 hx with rfl | hx
   ·rw [if_pos (beq_self_eq_true x.f1)]
   ·have := isMem_gt h x hx
    rw [if_neg (by rw [beq_iff_eq]; omega)]
    exact isMem_hit h x hx
  ·cases h
theorem okD_hit {id : Int} {fr tu : ByteArray} {gen : Int} {l : List S60} {nx : Int} (h : okD id fr tu gen l nx = true) : ∀ x ∈ l, hitM (fun m => m.f1 == x.f1) l = (x.f0, x.f1, true) := by
 unfold okD at h
 simp only [Bool.and_eq_true] at h
 have h5 := h.2.2.2.2
 unfold okM at h5
 split at h5
 ·cases h5
 ·exact isMem_hit h5
theorem hitM_all {p : S60 → Bool} {l : List S60} (h : ∀ y ∈ l, p y = false) : hitM p l = (0, 0, false) := by
 unfold hitM
 rw [List.find?_eq_none.2 (fun x hx => by rw [h x hx]; simp)]
abbrev D6 := Int × ByteArray × ByteArray × Int × List S60 × Int
/-- What a change may make of a descriptor. -/
structure Good (gen : Int) (l : List S60) (nx : Int) (x : D6) : Prop where
 ok : okD x.1 x.2.1 x.2.2.1 x.2.2.2.1 x.2.2.2.2.1 x.2.2.2.2.2 = true
 gen : x.2.2.2.1 = wrap64 (gen + 1)
 next : nx ≤ x.2.2.2.2.2
 mem : ∀ m ∈ x.2.2.2.2.1, hitM (fun y => y.f1 == m.f1) l = (m.f0, m.f1, true) ∨ (hitM (fun y => y.f1 == m.f1) l = (0, 0, false) ∧ nx ≤ m.f1)
def six (x : DR) : D6 := (x.1, x.2.1, x.2.2.1, x.2.2.2.1, x.2.2.2.2.1, x.2.2.2.2.2.1)
theorem rightR_zero {id : Int} {fr tu : ByteArray} {gen : Int} {l : List S60} {nx : Int} (h : (rightR id fr tu gen l nx).2.2.2.2.2.2 = 0) : okD id fr tu gen l nx = true ∧ six (rightR id fr tu gen l nx) = (id, fr, tu, gen, l, nx) := by
 unfold rightR at h ⊢
 by_cases c : okD id fr tu gen l nx = true
 ·rw [if_pos c]; exact ⟨c, rfl⟩
 ·rw [if_neg c] at h; exact absurd h (by decide)
theorem add_good {id : Int} {fr tu : ByteArray} {gen : Int} {l : List S60} {nx a : Int} (hok : okD id fr tu gen l nx = true) (h : (addD id fr tu gen l nx a).2.2.2.2.2.2 = 0) : Good gen l nx (six (addD id fr tu gen l nx a)) := by
 unfold addD at h ⊢
 rw [if_pos hok] at h ⊢
 split at h
 ·rename_i hn
  rw [if_pos hn]
  split at h
  ·exact absurd h (by simp [errD])
  ·rename_i hh
   rw [if_neg hh]
   split at h
   ·exact absurd h (by simp [errD])
   ·rename_i h5
    rw [if_neg h5]
    obtain ⟨h1, h2⟩ := rightR_zero h
    rw [h2]
    have hx := okD_nx hok
    have hw : wrap64 (nx + 1) = nx + 1 := wrap_in (by omega) (by omega)
    refine ⟨h1, rfl, by show nx ≤ wrap64 (nx + 1); rw [hw]; omega, fun m hm => ?_⟩
    rcases List.mem_append.1 hm with hm | hm
    ·exact .inl (okD_hit hok m hm)
    ·rw [List.mem_singleton.1 hm]
     refine .inr ⟨hitM_all (fun y hy => ?_), Int.le_refl _⟩
     have := okD_lt hok y hy
     exact beq_eq_false_iff_ne.2 (by show y.f1 ≠ nx; omega)
 ·exact absurd h (by simp [errD])
theorem rem_good {id : Int} {fr tu : ByteArray} {gen : Int} {l : List S60} {nx a : Int} (hok : okD id fr tu gen l nx = true) (h : (remD id fr tu gen l nx a).2.2.2.2.2.2 = 0) : Good gen l nx (six (remD id fr tu gen l nx a)) := by
 unfold remD at h ⊢
 rw [if_pos hok] at h ⊢
 split at h
 ·rename_i hh
  rw [if_pos hh]
  split at h
  ·exact absurd h (by simp [errD])
  ·rename_i h5
   rw [if_neg h5]
   obtain ⟨h1, h2⟩ := rightR_zero h
   rw [h2]
   exact ⟨h1, rfl, Int.le_refl _, fun m hm => .inl (okD_hit hok m (List.mem_filter.1 hm).1)⟩
 ·exact absurd h (by simp [errD])
theorem l1_ev {acts : List S58} {i : Nat} {id : Int} {fr tu : ByteArray} {gen : Int} {l : List S60} {nx : Int} (hm : l.length ≤ 1000000) {x : D6} (hi : i ≤ 1000000) (hl : x.2.2.2.2.1.length ≤ 1000000) (hx : Good gen l nx x)
 (hK : Ev (fun k => l06_DescRises.l0 k acts ((i + 1 : Nat) : Int) x.1 x.2.1 x.2.2.1 x.2.2.2.1 x.2.2.2.2.1 x.2.2.2.2.2) true) :
 Ev (fun k => l06_DescRises.l1 k acts (i : Int) 0 id fr tu gen l nx x.1 x.2.1 x.2.2.1 x.2.2.2.1 x.2.2.2.2.1 x.2.2.2.2.2) true := by
 exact Ev.upto (F := fun k (_ : Unit) j => l06_DescRises.l1 k acts (i : Int) j id fr tu gen l nx x.1 x.2.1 x.2.2.1 x.2.2.2.1 x.2.2.2.2.1 x.2.2.2.2.2) (n := x.2.2.2.2.1.length) (G := fun _ _ => true) (I := fun _ _ => True)
  (by
   intro _ j hj _ ih
   simp only [l06_DescRises.l1, if_pos (lt_cast hj), if_pos (nn j), rd_lt hj, has_eq hm, Option.bind_some, wrap_nat (n := j) (by omega)]
   rcases hx.mem _ (List.getElem_mem hj) with e | ⟨e, hge⟩
   ·simp only [e, if_true, beq_self_eq_true, Bool.not_true, Bool.or_self, Bool.false_eq_true, if_false]
    exact ih () trivial
   ·simp only [e, Bool.false_eq_true, if_false, if_neg (show ¬ x.2.2.2.2.1[j].f1 < nx by omega)]
    exact ih () trivial)
  (by
   intro _ _
   simp only [l06_DescRises.l1, if_neg (Int.lt_irrefl _), wrap_nat (n := i) (by omega)]
   exact hK) 0 (Nat.zero_le _) () trivial
theorem j2_ev {acts : List S58} {i : Nat} {id : Int} {fr tu : ByteArray} {gen : Int} {l : List S60} {nx : Int} (hok : okD id fr tu gen l nx = true) {c : Int} {x : D6} (hi : i ≤ 1000000) (hx : c = 0 → Good gen l nx x)
 (ih : ∀ d : D6, okD d.1 d.2.1 d.2.2.1 d.2.2.2.1 d.2.2.2.2.1 d.2.2.2.2.2 = true → Ev (fun k => l06_DescRises.l0 k acts ((i + 1 : Nat) : Int) d.1 d.2.1 d.2.2.1 d.2.2.2.1 d.2.2.2.2.1 d.2.2.2.2.2) true) :
 Ev (fun k => l06_DescRises.j2 k acts (i : Int) c id fr tu gen l nx x.1 x.2.1 x.2.2.1 x.2.2.2.1 x.2.2.2.2.1 x.2.2.2.2.2) true := by
 refine Ev.shift ?_
 simp only [l06_DescRises.j2, l06_num.f, Option.bind_some, check_eq, wrap_nat (n := i) (by omega)]
 refine Ev.ite (fun hc => ?_) (fun _ => ih (id, fr, tu, gen, l, nx) hok)
 have hg := hx hc
 have hl := okD_len hok
 have hl2 := okD_len hg.ok
 have hnx := hg.next
 rw [if_pos hg.ok]
 simp only [if_true, if_pos hg.gen, decide_eq_false (show ¬ x.2.2.2.2.2 < nx by omega)]
 refine Ev.shift ?_
 simp only [l06_DescRises.j3, Bool.false_eq_true, if_false]
 exact l1_ev (by omega) hi (by omega) hg (ih x hg.ok)
theorem rdA_lt {l : List S58} {i : Nat} (h : i < l.length) : rd_T58 l (i : Int) = l[i] := by simp [rd_T58, h]
theorem l0_ev {acts : List S58} (hn : acts.length ≤ 1000) (d : D6) (hd : okD d.1 d.2.1 d.2.2.1 d.2.2.2.1 d.2.2.2.2.1 d.2.2.2.2.2 = true) : Ev (fun k => l06_DescRises.l0 k acts 0 d.1 d.2.1 d.2.2.1 d.2.2.2.1 d.2.2.2.2.1 d.2.2.2.2.2) true := by
 exact Ev.upto (F := fun k (d : D6) i => l06_DescRises.l0 k acts i d.1 d.2.1 d.2.2.1 d.2.2.2.1 d.2.2.2.2.1 d.2.2.2.2.2) (n := acts.length) (G := fun _ _ => true) (I := fun d _ => okD d.1 d.2.1 d.2.2.1 d.2.2.2.1 d.2.2.2.2.1 d.2.2.2.2.2 = true)
  (by
   intro d i hi hd ih
   have hlen := okD_len hd
   have hm : d.2.2.2.2.1.length ≤ 1000000 := by omega
   simp only [l06_DescRises.l0, if_pos (lt_cast hi), if_pos (nn i), rdA_lt hi, add_eq hm, rem_eq hm, Option.bind_some, wrap_nat (n := i) (by omega)]
   refine Ev.ite (fun _ => live_ev) (fun _ => Ev.ite (fun _ => ?_) (fun _ => Ev.ite (fun _ => ?_) (fun _ => Ev.ite (fun _ => ?_) (fun _ => Ev.ite (fun _ => ?_) (fun _ => ih d hd)))))
   ·exact j2_ev hd (x := six (addD d.1 d.2.1 d.2.2.1 d.2.2.2.1 d.2.2.2.2.1 d.2.2.2.2.2 acts[i].f1)) (by omega) (add_good hd) ih
   ·exact j2_ev hd (x := six (remD d.1 d.2.1 d.2.2.1 d.2.2.2.1 d.2.2.2.2.1 d.2.2.2.2.2 acts[i].f2)) (by omega) (rem_good hd) ih
   ·rcases split_cases (id := d.1) (fr := d.2.1) (tu := d.2.2.1) (gen := d.2.2.2.1) (l := d.2.2.2.2.1) (nx := d.2.2.2.2.2) (key := acts[i].f3) (id2 := acts[i].f2) hm with ⟨s, hs, hc⟩ | ⟨h1, h2, h3, h4, hs⟩
    ·simp only [hs, Option.bind_some]
     exact j2_ev hd (x := (s.1, s.2.1, s.2.2.1, s.2.2.2.1, s.2.2.2.2.1, s.2.2.2.2.2.1)) (by omega) (fun h => absurd h hc) ih
    ·simp only [hs, Option.bind_some]
     exact j2_ev hd (x := (d.1, d.2.1, acts[i].f3, wrap64 (d.2.2.2.1 + 1), d.2.2.2.2.1, d.2.2.2.2.2)) (by omega) (fun _ => ⟨h1, rfl, Int.le_refl _, fun m hm => .inl (okD_hit hd m hm)⟩) ih
   ·rcases split_cases (id := d.1) (fr := d.2.1) (tu := d.2.2.1) (gen := d.2.2.2.1) (l := d.2.2.2.2.1) (nx := d.2.2.2.2.2) (key := acts[i].f3) (id2 := acts[i].f2) hm with ⟨s, hs, hc⟩ | ⟨h1, h2, h3, h4, hs⟩
    ·simp only [hs, Option.bind_some]
     exact j2_ev hd (x := (s.2.2.2.2.2.2.1, s.2.2.2.2.2.2.2.1, s.2.2.2.2.2.2.2.2.1, s.2.2.2.2.2.2.2.2.2.1, s.2.2.2.2.2.2.2.2.2.2.1, s.2.2.2.2.2.2.2.2.2.2.2.1)) (by omega) (fun h => absurd h hc) ih
    ·simp only [hs, Option.bind_some]
     exact j2_ev hd (x := (acts[i].f2, acts[i].f3, d.2.2.1, wrap64 (d.2.2.2.1 + 1), d.2.2.2.2.1, d.2.2.2.2.2)) (by omega) (fun _ => ⟨h2, rfl, Int.le_refl _, fun m hm => .inl (okD_hit hd m hm)⟩) ih)
  (by
   intro d _
   simp only [l06_DescRises.l0, if_neg (Int.lt_irrefl _)]
   exact live_ev) 0 (Nat.zero_le _) d hd
def firstM : Nat → List Int → List S60
 | _, [] => []
 | i, n :: r => ⟨n, (i : Int) + 1⟩ :: firstM (i + 1) r
theorem rdI_lt {l : List Int} {i : Nat} (h : i < l.length) : rd l (i : Int) = l[i] := by simp [rd, h]
theorem first_ev {ns : List Int} (hm : ns.length ≤ 1000000) : Ev (fun k => desc_First.f k ns) (rightR 1 (⟨#[]⟩ : ByteArray) (⟨#[]⟩ : ByteArray) 1 (firstM 0 ns) ((ns.length : Int) + 1)) := by
 have := Ev.upto (F := fun k (out : List S60) i => desc_First.l0 k ns (ns.length : Int) i 1 (⟨#[]⟩ : ByteArray) (⟨#[]⟩ : ByteArray) 1 out (i + 1)) (n := ns.length) (G := fun out i => rightR 1 (⟨#[]⟩ : ByteArray) (⟨#[]⟩ : ByteArray) 1 (out ++ firstM i (ns.drop i)) ((ns.length : Int) + 1)) (I := fun out i => out.length ≤ i)
  (by
   intro out i hi hI ih
   have hl : out.length < 8796093022208 := by omega
   have hw2 : wrap64 ((i : Int) + 1 + 1) = ((i + 1 : Nat) : Int) + 1 := by rw [wrap_in (by omega) (by omega)]; omega
   simp only [desc_First.l0, if_pos (lt_cast hi), if_pos (nn i), if_pos hl, rdI_lt hi, List.drop_eq_getElem_cons hi, firstM, wrap_nat (n := i) (by omega), hw2]
   have := ih (out ++ [⟨ns[i], (i : Int) + 1⟩]) (by simp; omega)
   rw [List.append_assoc] at this
   exact this)
  (by
   intro out hI
   rw [List.drop_length]
   simp only [desc_First.l0, if_neg (Int.lt_irrefl _), firstM, List.append_nil, right_eq, Option.bind_some]
   exact Ev.now _) 0 (Nat.zero_le _) [] (Nat.zero_le _)
 rw [List.drop_zero] at this
 exact this
theorem DescRises : ∀ (l0 : List Int), (l0.length * 8 ≤ reachBytes ∧ l0.length ≤ maxLen ∧ ∀ x ∈ l0, (Lit.int .i64 x).wf = true) → ∀ (l1 : List S58), (l1.length * 40 ≤ reachBytes ∧ l1.length ≤ maxLen ∧ ∀ x ∈ l1, ((Lit.int .i64 x.f0).wf = true ∧ (Lit.int .i64 x.f1).wf = true ∧ (Lit.int .i64 x.f2).wf = true ∧ x.f3.size ≤ reachBytes)) → ∃ k, l06_DescRises.f k l0 l1 = some true := by
 intro ns _ acts _
 refine Ev.rounds ?_
 have hbad : Ev (fun k => l06_DescRises.j0 k ns acts true) true := by
  refine Ev.shift ?_
  simp only [l06_DescRises.j0, if_true]
  exact live_ev
 refine Ev.ite (fun _ => hbad) (fun c1 => ?_)
 by_cases c2 : (acts.length : Int) > 30
 ·rw [decide_eq_true c2]; exact hbad
 ·rw [decide_eq_false c2]
  refine Ev.shift ?_
  simp only [l06_DescRises.j0, Bool.false_eq_true, if_false, l06_num.f, Option.bind_some]
  refine Ev.bind (first_ev (by omega)) ?_
  refine Ev.ite (fun h => ?_) (fun h => ?_)
  ·obtain ⟨h1, h2⟩ := rightR_zero h
   have := l0_ev (acts := acts) (by omega) (six (rightR 1 (⟨#[]⟩ : ByteArray) (⟨#[]⟩ : ByteArray) 1 (firstM 0 ns) ((ns.length : Int) + 1))) (by rw [h2]; exact h1)
   exact this
  ·have e : (rightR 1 (⟨#[]⟩ : ByteArray) (⟨#[]⟩ : ByteArray) 1 (firstM 0 ns) ((ns.length : Int) + 1)).2.2.2.2.2.2 = 60 := by
    unfold rightR at h ⊢
    split at h
    ·exact absurd rfl h
    ·rename_i c
     rw [if_neg c]; rfl
   rw [if_pos e]
   exact live_ev
end Go.Proofs.YtjfhcijjjadhbaaDoor.U
end
section
namespace Go.Proofs.YtjfhcijjjadhbaaDoor.descRises
open Go.ChangeShapes Go.WideShapes Go.ChangeAt Go.RowKit Go.Proofs.YtjfhcijjjadhbaaDoor.K
open Go.ChangeMaps (open_string shut_string)
open Go.RowKit Go.Proofs.YtjfhcijjjadhbaaDoorW.PrintWords Go.Proofs.YtjfhcijjjadhbaaDoorW.PrintLast Go.Proofs.YtjfhcijjjadhbaaDoorW.PrintMore Go.Proofs.YtjfhcijjjadhbaaDoor.P Go.Proofs.YtjfhcijjjadhbaaDoor.K Go.Proofs.YtjfhcijjjadhbaaDoor.A Go.Proofs.YtjfhcijjjadhbaaDoor.V
set_option maxRecDepth 100000 in
theorem opn58 : O.Opn Tryd.prog 58 P.k58 (fun x => ((Lit.int .i64 x.f0).wf = true ∧ (Lit.int .i64 x.f1).wf = true ∧ (Lit.int .i64 x.f2).wf = true ∧ x.f3.size ≤ reachBytes)) := O.Opn.iso (fun y => ⟨y.1, y.2.1, y.2.2.1, y.2.2.2⟩) (fun _ => rfl) (O.Opn.struct Tryd.underlying58 (by kernel_rfl) (O.OpnF.cons rfl (by kernel_rfl) (O.Opn.int Tryd.underlying3) (O.OpnF.cons rfl (by kernel_rfl) (O.Opn.int Tryd.underlying3) (O.OpnF.cons rfl (by kernel_rfl) (O.Opn.int Tryd.underlying2) (O.OpnF.one rfl (by kernel_rfl) (O.Opn.string Tryd.underlying9))))))
theorem fl58 : K.Flat P.k58 := by
 intro w w' x c h
 obtain rfl := P.k58_open h
 exact P.k58_mk w' x
set_option maxRecDepth 100000 in
theorem contract (H : Type) (enc : TypeId × Value → H) (W : World) (base : Nat) (args : Array Value) (ds gs : List (DataW H)) (before : List MemPlace)
 (hval0 : ∀ (j : Nat) t v, Tryd.f7.params[j]? = some t → args[j]? = some v → Value.okWide Tryd.prog W .any base t v)
 (hW : DataW.Whole enc Tryd.prog Tryd.f7.params.toList Rows.descRisesSpec.vars false W args.toList ds gs before) (hG : TheG W)
 (hsz0 : (DataW.weightsEach Tryd.prog (Tryd.f7.params.toList ++ Rows.descRisesSpec.plain.varTypes Tryd.prog) (ds ++ gs)).all (· ≤ reachBytes) = true) :
 Calls Tryd.prog 7 args W fun e W' => ∃ v, e = .returned v ∧ Rows.descRisesSpec.post enc Tryd.prog Tryd.f7 false true false false W args v W' := by
 have hsz : (DataW.weightsEach Tryd.prog (Tryd.f7.params.toList ++ Rows.descRisesSpec.plain.varTypes Tryd.prog) (ds ++ gs)).all (· ≤ reachBytes) = true := hsz0
 have hval : ∀ (j : Nat) t v, Tryd.f7.params[j]? = some t → args[j]? = some v → Value.okWide Tryd.prog W .any base t v := hval0
 have hW' := hW
 obtain ⟨p, q, hA0, hV, rfl, hfz, hnd⟩ := hW
 have hA : DataW.TrodAll enc Tryd.prog W 0 (fun _ => true) true Tryd.f7.params.toList args.toList ds p := hA0
 rw [Tryd.params7] at hA hval hsz
 obtain ⟨v0, vs0, d0, ds0, p0, q0, hargs, rfl, rfl, h0, r0⟩ := trodAll_cons hA
 obtain ⟨v1, vs1, d1, ds1, p1, q1, rfl, rfl, rfl, h1, r1⟩ := trodAll_cons r0
 obtain ⟨rfl, rfl, rfl⟩ := trodAll_nil r1
 obtain rfl : args = #[v0, v1] := by cases args; simp_all
 obtain ⟨rfl, rfl⟩ := trodVars_none hV
 have k0 := h0
 have lt0 : ∀ x ∈ p0, x.block < W.heap.size := by obtain ⟨m, hm⟩ := k0; exact DataW.trod_lt m _ _ _ hm
 have wt0 : ∀ n ∈ DataW.weights Tryd.prog 48 d0, n ≤ reachBytes := fun n hn => of_decide_eq_true (List.all_eq_true.1 hsz n (DataW.weights_mem_each (j := 0) rfl rfl n hn))
 obtain ⟨a0, len0, cap0, rfl⟩ := okWide_slice Tryd.underlying48 (hval 0 48 v0 rfl rfl)
 obtain ⟨fu0, hf0⟩ := h0
 obtain ⟨l0, ⟨A0, c0, hcs0, hc0, hr0⟩, hok0⟩ := (O.Opn.slice Tryd.underlying48 (by kernel_rfl) (by kernel_rfl) (O.Opn.int Tryd.underlying3)) H enc W _ _ _ _ _ _ _ hf0 wt0
 simp [Value.cells] at hcs0
 obtain ⟨rfl, rfl, rfl⟩ := hcs0
 have k1 := h1
 have lt1 : ∀ x ∈ p1, x.block < W.heap.size := by obtain ⟨m, hm⟩ := k1; exact DataW.trod_lt m _ _ _ hm
 have wt1 : ∀ n ∈ DataW.weights Tryd.prog 56 d1, n ≤ reachBytes := fun n hn => of_decide_eq_true (List.all_eq_true.1 hsz n (DataW.weights_mem_each (j := 1) rfl rfl n hn))
 obtain ⟨a1, len1, cap1, rfl⟩ := okWide_slice Tryd.underlying56 (hval 1 56 v1 rfl rfl)
 obtain ⟨fu1, hf1⟩ := h1
 obtain ⟨l1, ⟨A1, c1, hcs1, hc1, hr1⟩, hok1⟩ := (O.Opn.slice Tryd.underlying56 (by kernel_rfl) (by kernel_rfl) opn58) H enc W _ _ _ _ _ _ _ hf1 wt1
 simp [Value.cells] at hcs1
 obtain ⟨rfl, rfl, rfl⟩ := hcs1
 obtain ⟨k, hp⟩ := U.DescRises l0 hok0 l1 hok1
 refine (l06_DescRises.calls (k := k) (r := true) (w := W) (hG := hG) (hr := rfl) (hr0 := hr0) (hc0 := hc0) (hr1 := hr1) (hc1 := hc1) (h := hp)).mono ?_
 rintro e W' ⟨rfl, bel0⟩
 have bel : Below W.heap.size W W' := by first | exact bel0 | exact bel0.below
 exact ⟨_, rfl, _, _, _, [], _, [], hW', trodAll_mk1 (shut_bool Tryd.underlying4 _), (trodAll_cons_mk (Below.trod laidOut (by kernel_rfl) (of_decide_eq_true (by kernel_rfl)) k0 bel lt0) (trodAll_cons_mk (Below.trod laidOut (by kernel_rfl) (of_decide_eq_true (by kernel_rfl)) k1 bel lt1) trodAll_mk0)), rfl, bel.frame _, fun h => by cases h⟩
set_option maxRecDepth 100000 in
theorem lifted (os : Os) (started : os.Started) (H : Type) (enc : TypeId × Value → H) (F : Stop.Interp) :
 ReturnsInHanded {} Tryd.checked os 7 .any ((OpenSpec.ofChange Rows.descRisesSpec).preRow enc Tryd.prog Tryd.f7 Rows.descRisesRow.domain false Rows.descRisesRow.laid) (((OpenSpec.ofChange Rows.descRisesSpec).at F).post enc Tryd.prog Tryd.f7 false true false false) := by
 have hx : ∃ places, DataW.whole enc Tryd.prog ((World.doorLaid Tryd.prog 62 os).forCall (fun _ _ => 0) ⟨#[], #[.slice none 0 0, .slice none 0 0], []⟩).memory Tryd.f7.params.toList Rows.descRisesSpec.vars false (#[.slice none 0 0, .slice none 0 0] : Array Value).toList 8 = some ([.nil, .nil], [], places) := ⟨[], by kernel_rfl⟩
 obtain ⟨places, hx⟩ := hx
 refine returnsInHanded_of_row (C := Tryd.checked) (s := OpenSpec.ofChange Rows.descRisesSpec) own started (by kernel_rfl) Tryd.func7
  (witness_row_atRef (enc := enc) (C := Tryd.checked) false (World.doorLaid Tryd.prog 62 os) #[.slice none 0 0, .slice none 0 0] rfl (by kernel_rfl) (by kernel_rfl) (by kernel_rfl)
   (OpenSpec.preRow_of_cond 8 hx (by kernel_rfl) (fun k hk => by cases hk) (by kernel_rfl) (MakeChecks.laidMetH_plain _ _ _ (by kernel_rfl) ▸ door_met os _))) ?_
 intro W base args ds gs before hval hW _ _ hsz hL hsh _
 exact contract H enc W base args ds gs before hval hW (theG_of hL hsh) hsz
theorem said : Rows.DescRisesSaid :=
 OpenClaim.holds_of_cond 7 Tryd.f7 rfl rfl rfl rfl rfl rfl rfl ⟨rfl, rfl, rfl, rfl, rfl⟩ rfl rfl rfl rfl rfl (by kernel_rfl) Tryd.func7 (by kernel_rfl)
  (of_decide_eq_true (by kernel_rfl)) (by unfold Func.isWrapper; first | (rw [if_pos (by decide +kernel)]; kernel_rfl) | (rw [if_neg (by decide +kernel)]; exact ⟨rfl, rfl⟩))
  (fun os started H enc _ F => by rw [OpenClaim.pre_eq_preRow]; exact lifted os started H enc F)
theorem plain (f : FuncId) (fn : Func) (hf : Tryd.pinned.checked.prog.funcNamed "furlong/furlonglaw06.DescRises" = some f) (hfn : Tryd.pinned.checked.prog.funcs[f]? = some fn) :
 true = Tryd.pinned.checked.prog.looks [] ∧ ∀ (j : Nat) t, fn.params[j]? = some t → Tryd.pinned.checked.prog.wantsStandIn t = false := by
 obtain rfl : f = 7 := Option.some.inj ((show Tryd.prog.funcNamed "furlong/furlonglaw06.DescRises" = some 7 by kernel_rfl).symm.trans hf) |>.symm
 obtain rfl : fn = Tryd.f7 := (Option.some.inj (Tryd.func7.symm.trans hfn)).symm
 refine ⟨by kernel_rfl, fun j t ht => ?_⟩
 rw [Tryd.params7] at ht
 have hm := Array.mem_of_getElem? ht
 simp only [List.mem_toArray, List.mem_cons, List.not_mem_nil, or_false] at hm
 rcases hm with rfl | rfl
 ·exact (show Tryd.prog.wantsStandIn 48 = false by kernel_rfl)
 ·exact (show Tryd.prog.wantsStandIn 56 = false by kernel_rfl)
/-- The tied card. -/
theorem card : Rows.DescRisesCardSaid :=
 Claim7.holds_tied_plain_at .later [] _ _ _ _ said (fun _ h => by cases h) (by kernel_rfl) (fun _ h => by cases h) descRises_row_tie rfl ⟨rfl, rfl⟩ (by kernel_rfl) rfl plain (by kernel_rfl)
#print axioms card
end Go.Proofs.YtjfhcijjjadhbaaDoor.descRises
namespace Go.Proofs.YtjfhcijjjadhbaaDoor
theorem descRises_holds : Rows.DescRisesCardSaid := descRises.card
end Go.Proofs.YtjfhcijjjadhbaaDoor
end
