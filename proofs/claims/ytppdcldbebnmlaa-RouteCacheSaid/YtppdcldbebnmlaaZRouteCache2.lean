import Derived.Test.YtppdcldbebnmlaaZRouteCache1
import Derived.Shelf.Bits.Mul64
import Derived.Shelf.SlSortCmp.NoneTotal
import Derived.Shelf.Small.Bits
import Derived.Shelf.Small.Strs
import Derived.Shelf.Strconv.Itoa0
import Derived.Shelf.Strings.Builder1
import Derived.Shelf.Strings.Builder2
import Derived.Shelf.Strings.BuilderF
import Derived.Shelf.Strings.Prefix
import Derived.Shelf.Strings.Repeat
import Derived.Test.YtppdcldbebnmlaaProg
set_option linter.unusedVariables false
set_option linter.unusedSimpArgs false
set_option linter.unnecessarySimpa false
section
namespace Go.Proofs.Ytppdcldbebnmlaa.P
open Go.RowKit Go.Proofs.Ytppdcldbebnmlaa.K Go.Proofs.YtppdcldbebnmlaaW.PrintWords Go.Proofs.YtppdcldbebnmlaaW.PrintLast Go.Proofs.YtppdcldbebnmlaaW.PrintMore
attribute [local go_sem] max2_int min2_int max_two min_two max_three min_three max_four min_four   -- for this text's walks alone
mutual
def r18_Is.l0 : Nat → List (S27) → Int → Option (Bool)
 | 0, _, _ => none
 | k + 1, x0, x3 => if x3 < (x0.length : Int) then (if 0 ≤ x3 then ((r06_Is.f k ((rd_T27 x0 x3).f0) ((rd_T27 x0 x3).f1.f0) ((rd_T27 x0 x3).f1.f1) ((rd_T27 x0 x3).f2) ((rd_T27 x0 x3).f3) ((rd_T27 x0 x3).f4)).bind fun t139 => (if t139 = true then (if x3 > 0 then (if 0 ≤ (wrap64 (x3 - 1)) then (if (wrap64 (x3 - 1)) < (x0.length : Int) then (r18_Is.j1 k x0 x3 (!(Op.bytesLess (((rd_T27 x0 (wrap64 (x3 - 1))).f1.f0).toList) (((rd_T27 x0 x3).f1.f0).toList)))) else (none)) else (none)) else (r18_Is.j1 k x0 x3 false)) else (r18_Is.j1 k x0 x3 true))) else (none)) else (some true)
def r18_Is.j1 : Nat → List (S27) → Int → Bool → Option (Bool)
 | 0, _, _, _ => none
 | k + 1, x0, x3, x36 => if x36 = true then (some false) else (r18_Is.l1 k x0 x3 0)
def r18_Is.l1 : Nat → List (S27) → Int → Int → Option (Bool)
 | 0, _, _, _ => none
 | k + 1, x0, x3, x4 => if x4 < x3 then (if 0 ≤ x4 then (if x4 < (x0.length : Int) then (if 0 ≤ x3 then (if x3 < (x0.length : Int) then ((r02_Meet.f ((rd_T27 x0 x4).f1.f0) ((rd_T27 x0 x4).f1.f1) ((rd_T27 x0 x3).f1.f0) ((rd_T27 x0 x3).f1.f1)).bind fun t144 => (if t144 = true then (some false) else (r18_Is.l1 k x0 x3 (wrap64 (x4 + 1))))) else (none)) else (none)) else (none)) else (none)) else (r18_Is.l0 k x0 (wrap64 (x3 + 1)))
end
def r18_Is.f (k : Nat) (l0 : List (S27)) : Option (Bool) := r18_Is.l0 k l0 0
theorem r18_Is.mono_l : ∀ k, (∀ y0 y1, LeO (r18_Is.l0 k y0 y1) (r18_Is.l0 (k + 1) y0 y1)) ∧ (∀ y0 y1 y2, LeO (r18_Is.j1 k y0 y1 y2) (r18_Is.j1 (k + 1) y0 y1 y2)) ∧ (∀ y0 y1 y2, LeO (r18_Is.l1 k y0 y1 y2) (r18_Is.l1 (k + 1) y0 y1 y2))
 | 0 => ⟨fun _ _ r h => by simp [r18_Is.l0] at h, fun _ _ _ r h => by simp [r18_Is.j1] at h, fun _ _ _ r h => by simp [r18_Is.l1] at h⟩
 | k + 1 => by
  obtain ⟨ih0, ih1, ih2⟩ := r18_Is.mono_l k
  refine ⟨?_, ?_, ?_⟩
  ·intro y0 y1
   unfold r18_Is.l0
   repeat' first
   | (with_reducible exact ih0 _ _)
   | (with_reducible exact ih1 _ _ _)
   | (with_reducible exact ih2 _ _ _)
   | (with_reducible exact r06_Is.mono _ _ _ _ _ _ _)
   | (with_reducible exact LeO.refl _)
   | (with_reducible exact LeO.none _)
   | (with_reducible refine LeO.ite ?_ ?_)
   | (with_reducible refine LeO.bind ?_ (fun _ => ?_))
   | exact ih0 _ _
   | exact ih1 _ _ _
   | exact ih2 _ _ _
   | exact r06_Is.mono _ _ _ _ _ _ _
   | exact LeO.none _
   | refine LeO.ite ?_ ?_
   | refine LeO.bind ?_ (fun _ => ?_)
  ·intro y0 y1 y2
   unfold r18_Is.j1
   repeat' first
   | (with_reducible exact ih0 _ _)
   | (with_reducible exact ih1 _ _ _)
   | (with_reducible exact ih2 _ _ _)
   | (with_reducible exact r06_Is.mono _ _ _ _ _ _ _)
   | (with_reducible exact LeO.refl _)
   | (with_reducible exact LeO.none _)
   | (with_reducible refine LeO.ite ?_ ?_)
   | (with_reducible refine LeO.bind ?_ (fun _ => ?_))
   | exact ih0 _ _
   | exact ih1 _ _ _
   | exact ih2 _ _ _
   | exact r06_Is.mono _ _ _ _ _ _ _
   | exact LeO.none _
   | refine LeO.ite ?_ ?_
   | refine LeO.bind ?_ (fun _ => ?_)
  ·intro y0 y1 y2
   unfold r18_Is.l1
   repeat' first
   | (with_reducible exact ih0 _ _)
   | (with_reducible exact ih1 _ _ _)
   | (with_reducible exact ih2 _ _ _)
   | (with_reducible exact r06_Is.mono _ _ _ _ _ _ _)
   | (with_reducible exact LeO.refl _)
   | (with_reducible exact LeO.none _)
   | (with_reducible refine LeO.ite ?_ ?_)
   | (with_reducible refine LeO.bind ?_ (fun _ => ?_))
   | exact ih0 _ _
   | exact ih1 _ _ _
   | exact ih2 _ _ _
   | exact r06_Is.mono _ _ _ _ _ _ _
   | exact LeO.none _
   | refine LeO.ite ?_ ?_
   | refine LeO.bind ?_ (fun _ => ?_)
theorem r18_Is.mono : ∀ a0 k, LeO (r18_Is.f k a0) (r18_Is.f (k + 1) a0) := by
 intro a0 k
 obtain ⟨ih0, ih1, ih2⟩ := r18_Is.mono_l k
 unfold r18_Is.f
 repeat' first
  | (with_reducible exact ih0 _ _)
  | (with_reducible exact ih1 _ _ _)
  | (with_reducible exact ih2 _ _ _)
  | (with_reducible exact r06_Is.mono _ _ _ _ _ _ _)
  | (with_reducible exact LeO.refl _)
  | (with_reducible exact LeO.none _)
  | (with_reducible refine LeO.ite ?_ ?_)
  | (with_reducible refine LeO.bind ?_ (fun _ => ?_))
  | exact ih0 _ _
  | exact ih1 _ _ _
  | exact ih2 _ _ _
  | exact r06_Is.mono _ _ _ _ _ _ _
  | exact LeO.none _
  | refine LeO.ite ?_ ?_
  | refine LeO.bind ?_ (fun _ => ?_)
def r18_Is.T4 : Bool × List (List Nat × List Nat) := (true, [([], []), ([], []), ([0, 1], [0, 1]), ([2], [2]), ([3], [3]), ([4], [4]), ([5, 4], [5]), ([6], [6]), ([7, 6], [6, 7]), ([8, 6, 6], [6, 8]), ([9], [9]), ([9], [9]), ([10, 11, 9], [9, 10, 11]), ([12, 9], [9, 12]), ([13, 9], [9, 13]), ([14, 9], [9, 14]), ([9], [9]), ([9], [9]), ([17, 9], [9, 17]), ([16, 18, 9], [9, 16, 18]), ([19, 9], [9, 19]), ([20, 9], [9, 20]), ([21, 9], [9, 21]), ([15, 22, 9], [9, 15, 22]), ([9, 23, 6], [6, 9, 23]), ([6, 24], [6, 24])])
def r18_Is.B4 : List Nat := [0, 0, 3, 7, 15, 31, 63, 127, 255, 511, 1023, 1023, 4095, 8191, 16383, 32767, 1023, 1023, 132095, 459775, 984063, 2032639, 4129791, 8388607, 16777215, 33554431]
theorem r18_Is.tab4 : rtab .any (opsOf Try.f7 4) = r18_Is.T4 := by kernel_rfl
theorem r18_Is.bits4 : waitsOk r18_Is.T4.2 r18_Is.B4 = true := by kernel_rfl
def r18_Is.T9 : Bool × List (List Nat × List Nat) := (true, [([], []), ([], []), ([0, 1], [0, 1]), ([2], [2]), ([3], [3]), ([], []), ([], []), ([5, 6], [5, 6]), ([7], [7]), ([8], [8]), ([4, 9], [4, 9])])
def r18_Is.B9 : List Nat := [0, 0, 3, 7, 15, 0, 0, 96, 224, 480, 1023]
theorem r18_Is.tab9 : rtab .any (opsOf Try.f7 9) = r18_Is.T9 := by kernel_rfl
theorem r18_Is.bits9 : waitsOk r18_Is.T9.2 r18_Is.B9 = true := by kernel_rfl
set_option maxHeartbeats 8000000 in
set_option maxRecDepth 100000 in
theorem r18_Is.calls (k : Nat) (A0 : Option Addr) (c0 : Nat) (l0 : List (S27)) (r : Bool) (w : World) (hr0 : Kd.C k27 w A0 l0.length l0) (hc0 : l0.length ≤ c0) (h : r18_Is.f k l0 = some r) :
 Calls Try.prog 7 #[.slice A0 l0.length c0] w fun e w' => e = .returned (.bool r) ∧ Below w.heap.size w w' := by
 have hu27 := Try.underlying27
 have hu24 := Try.underlying24
 have HR0 := Az.mk hr0
 have HC0 := Az.mk hc0
 clear hr0 hc0
 have HB := Az.mk (Below.refl w.heap.size w)
 have H : (r18_Is.l0 k l0 0) = some r := h
 clear h
 have H' := Az.mk H
 clear H
 go_enter Try.func7, Try.ntmps7
 go_wp2
 go_loopg [3] k (fun kq v3 w' => ∃ (x3_1 : Int), v3 = .int .i64 x3_1 ∧ Az (r18_Is.l0 kq l0 x3_1 = some r) ∧ Az (kq ≤ k) ∧ Az (Below w.heap.size w w'))
 case atStart => exact ⟨(0), (by first | rfl | (simp; done) | (simp [*]; done)), H', ⟨Nat.le_refl _⟩, ⟨by exact pbE HB.out⟩⟩
 case round =>
  clear H'
  obtain ⟨x3_1, rfl, HA, HK1, HB⟩ := hrel
  cases gk with
  | zero => exact absurd HA.out (by simp [r18_Is.l0])
  | succ k1 =>
   have H := HA.out
   clear HA
   simp only [r18_Is.l0] at H
   by_cases c2 : x3_1 < (l0.length : Int)
   ·rw [if_pos c2] at H
    have c2b0 : decide (x3_1 < (l0.length : Int)) = true := decide_eq_true c2
    clear c2
    have HC3 := Az.mk H
    clear H
    go_upto_region 4 with (fail)
    go_cut [36] (fun v36 wc => ∃ (kq : Nat) (x36_2 : Bool), v36 = .bool x36_2 ∧ Az (r18_Is.j1 kq l0 x3_1 x36_2 = some r) ∧ Az (kq ≤ k1) ∧ Az (Below w.heap.size w wc))
    case first =>
     have H := HC3.out
     clear HC3
     by_cases c4 : 0 ≤ x3_1
     ·rw [if_pos c4] at H
      have c4b0 : decide (0 ≤ x3_1) = true := decide_eq_true c4
      clear c4
      (first | rw [c4b0] | (simp only [i64_w, i32_w]; rw [c4b0]) | skip)
      replace H := Option.bind_eq_some_iff.mp H
      obtain ⟨t139, A50, H⟩ := H
      try dsimp only at H
      have A5 := Az.mk A50
      clear A50
      by_cases c6 : t139 = true
      ·subst c6
       rw [if_pos rfl] at H
       by_cases c7 : x3_1 > 0
       ·rw [if_pos c7] at H
        have c7b0 : decide (0 < x3_1) = true := decide_eq_true c7
        clear c7
        obtain ⟨ji8, hji8⟩ : ∃ j_ : Int, (wrap64 (x3_1 - 1)) = j_ := ⟨_, rfl⟩
        replace H : (if 0 ≤ (ji8) then (if (ji8) < (l0.length : Int) then (r18_Is.j1 k1 l0 x3_1 (!(Op.bytesLess (((rd_T27 l0 (ji8)).f1.f0).toList) (((rd_T27 l0 x3_1).f1.f0).toList)))) else (none)) else (none)) = some r := by first | (rw [hji8] at H; exact H) | (simp only [hji8] at H ⊢; exact H)
        (try rw [hji8] at A5)
        have hji8w : (IntKind.i64.wrap (x3_1 - 1)) = ji8 := (i64_w _).trans hji8
        by_cases c9 : 0 ≤ (ji8)
        ·rw [if_pos c9] at H
         have c9b0 : decide (0 ≤ (ji8)) = true := decide_eq_true c9
         clear c9
         by_cases c10 : (ji8) < (l0.length : Int)
         ·rw [if_pos c10] at H
          have c10b0 : decide ((ji8) < (l0.length : Int)) = true := decide_eq_true c10
          clear c10
          have H' := Az.mk H
          clear H
          try go_wp2
          replace HB := Az.mk (pb1 HB.out)
          have p138 : 0 ≤ (x3_1 : Int) := of_decide_eq_true (by first | (with_reducible assumption) | assumption)
          have q138 : x3_1 < (l0.length : Int) := of_decide_eq_true (by first | (with_reducible assumption) | assumption)
          obtain ⟨ad138, A138_4, c138_4, e138, hx138_0, hx138_1, hx138_2, hx138_3, hx138_4, hx138_5, hl138_4, hi138_4⟩ := at_T27 HR0.out x3_1 p138 q138
          have hw138_5 := hx138_5
          have hw138_4 := hx138_4
          have hw138_3 := hx138_3
          have hw138_2 := hx138_2
          have hw138_1 := hx138_1
          have hw138_0 := hx138_0
          cases e138
          replace hx138_0 := (HB.out.cell (World.block_lt_of_cell? w _ hx138_0)).trans hx138_0
          replace hx138_1 := (HB.out.cell (World.block_lt_of_cell? w _ hx138_1)).trans hx138_1
          replace hx138_2 := (HB.out.cell (World.block_lt_of_cell? w _ hx138_2)).trans hx138_2
          replace hx138_3 := (HB.out.cell (World.block_lt_of_cell? w _ hx138_3)).trans hx138_3
          replace hx138_4 := (HB.out.cell (World.block_lt_of_cell? w _ hx138_4)).trans hx138_4
          replace hx138_5 := (HB.out.cell (World.block_lt_of_cell? w _ hx138_5)).trans hx138_5
          have HR138_4 := Az.mk hi138_4
          have HC138_4 := Az.mk hl138_4
          clear hi138_4 hl138_4
          replace p138 := eq_true p138
          replace q138 := eq_true q138
          have p140 : 0 ≤ (x3_1 : Int) := of_decide_eq_true (by first | (with_reducible assumption) | assumption)
          have q140 : x3_1 < (l0.length : Int) := of_decide_eq_true (by first | (with_reducible assumption) | assumption)
          obtain ⟨ad140, A140_4, c140_4, e140, hx140_0, hx140_1, hx140_2, hx140_3, hx140_4, hx140_5, hl140_4, hi140_4⟩ := at_T27 HR0.out x3_1 p140 q140
          have hw140_5 := hx140_5
          have hw140_4 := hx140_4
          have hw140_3 := hx140_3
          have hw140_2 := hx140_2
          have hw140_1 := hx140_1
          have hw140_0 := hx140_0
          obtain rfl : ad138 = ad140 := (by injection e140)
          replace hx140_0 := (HB.out.cell (World.block_lt_of_cell? w _ hx140_0)).trans hx140_0
          replace hx140_1 := (HB.out.cell (World.block_lt_of_cell? w _ hx140_1)).trans hx140_1
          replace hx140_2 := (HB.out.cell (World.block_lt_of_cell? w _ hx140_2)).trans hx140_2
          replace hx140_3 := (HB.out.cell (World.block_lt_of_cell? w _ hx140_3)).trans hx140_3
          replace hx140_4 := (HB.out.cell (World.block_lt_of_cell? w _ hx140_4)).trans hx140_4
          replace hx140_5 := (HB.out.cell (World.block_lt_of_cell? w _ hx140_5)).trans hx140_5
          have HR140_4 := Az.mk hi140_4
          have HC140_4 := Az.mk hl140_4
          clear hi140_4 hl140_4
          replace p140 := eq_true p140
          replace q140 := eq_true q140
          have p141 : 0 ≤ ((ji8) : Int) := of_decide_eq_true (by first | (with_reducible assumption) | assumption)
          have q141 : (ji8) < (l0.length : Int) := of_decide_eq_true (by first | (with_reducible assumption) | assumption)
          obtain ⟨ad141, A141_4, c141_4, e141, hx141_0, hx141_1, hx141_2, hx141_3, hx141_4, hx141_5, hl141_4, hi141_4⟩ := at_T27 HR0.out (ji8) p141 q141
          have hw141_5 := hx141_5
          have hw141_4 := hx141_4
          have hw141_3 := hx141_3
          have hw141_2 := hx141_2
          have hw141_1 := hx141_1
          have hw141_0 := hx141_0
          obtain rfl : ad138 = ad141 := (by injection e141)
          replace hx141_0 := (HB.out.cell (World.block_lt_of_cell? w _ hx141_0)).trans hx141_0
          replace hx141_1 := (HB.out.cell (World.block_lt_of_cell? w _ hx141_1)).trans hx141_1
          replace hx141_2 := (HB.out.cell (World.block_lt_of_cell? w _ hx141_2)).trans hx141_2
          replace hx141_3 := (HB.out.cell (World.block_lt_of_cell? w _ hx141_3)).trans hx141_3
          replace hx141_4 := (HB.out.cell (World.block_lt_of_cell? w _ hx141_4)).trans hx141_4
          replace hx141_5 := (HB.out.cell (World.block_lt_of_cell? w _ hx141_5)).trans hx141_5
          have HR141_4 := Az.mk hi141_4
          have HC141_4 := Az.mk hl141_4
          clear hi141_4 hl141_4
          replace p141 := eq_true p141
          replace q141 := eq_true q141
          refine start_ (n := 26) (S := fun w' => w'.cell? (ad138.add ((x3_1).toNat * 6)) = some (.int .i64 ((rd_T27 l0 x3_1).f0)) ∧ w'.cell? ⟨(ad138.add ((x3_1).toNat * 6)).block, (ad138.add ((x3_1).toNat * 6)).off + 1, none⟩ = some (.string ((rd_T27 l0 x3_1).f1.f0)) ∧ w'.cell? ⟨(ad138.add ((x3_1).toNat * 6)).block, (ad138.add ((x3_1).toNat * 6)).off + 2, none⟩ = some (.string ((rd_T27 l0 x3_1).f1.f1)) ∧ w'.cell? ⟨(ad138.add ((x3_1).toNat * 6)).block, (ad138.add ((x3_1).toNat * 6)).off + 3, none⟩ = some (.int .i64 ((rd_T27 l0 x3_1).f2)) ∧ w'.cell? ⟨(ad138.add ((x3_1).toNat * 6)).block, (ad138.add ((x3_1).toNat * 6)).off + 4, none⟩ = some (.slice A138_4 ((rd_T27 l0 x3_1).f3).length c138_4) ∧ w'.cell? ⟨(ad138.add ((x3_1).toNat * 6)).block, (ad138.add ((x3_1).toNat * 6)).off + 5, none⟩ = some (.int .i64 ((rd_T27 l0 x3_1).f4)) ∧ w'.cell? (ad138.add ((x3_1).toNat * 6)) = some (.int .i64 ((rd_T27 l0 x3_1).f0)) ∧ w'.cell? ⟨(ad138.add ((x3_1).toNat * 6)).block, (ad138.add ((x3_1).toNat * 6)).off + 1, none⟩ = some (.string ((rd_T27 l0 x3_1).f1.f0)) ∧ w'.cell? ⟨(ad138.add ((x3_1).toNat * 6)).block, (ad138.add ((x3_1).toNat * 6)).off + 2, none⟩ = some (.string ((rd_T27 l0 x3_1).f1.f1)) ∧ w'.cell? ⟨(ad138.add ((x3_1).toNat * 6)).block, (ad138.add ((x3_1).toNat * 6)).off + 3, none⟩ = some (.int .i64 ((rd_T27 l0 x3_1).f2)) ∧ w'.cell? ⟨(ad138.add ((x3_1).toNat * 6)).block, (ad138.add ((x3_1).toNat * 6)).off + 4, none⟩ = some (.slice A140_4 ((rd_T27 l0 x3_1).f3).length c140_4) ∧ w'.cell? ⟨(ad138.add ((x3_1).toNat * 6)).block, (ad138.add ((x3_1).toNat * 6)).off + 5, none⟩ = some (.int .i64 ((rd_T27 l0 x3_1).f4)) ∧ w'.cell? (ad138.add (((ji8)).toNat * 6)) = some (.int .i64 ((rd_T27 l0 (ji8)).f0)) ∧ w'.cell? ⟨(ad138.add (((ji8)).toNat * 6)).block, (ad138.add (((ji8)).toNat * 6)).off + 1, none⟩ = some (.string ((rd_T27 l0 (ji8)).f1.f0)) ∧ w'.cell? ⟨(ad138.add (((ji8)).toNat * 6)).block, (ad138.add (((ji8)).toNat * 6)).off + 2, none⟩ = some (.string ((rd_T27 l0 (ji8)).f1.f1)) ∧ w'.cell? ⟨(ad138.add (((ji8)).toNat * 6)).block, (ad138.add (((ji8)).toNat * 6)).off + 3, none⟩ = some (.int .i64 ((rd_T27 l0 (ji8)).f2)) ∧ w'.cell? ⟨(ad138.add (((ji8)).toNat * 6)).block, (ad138.add (((ji8)).toNat * 6)).off + 4, none⟩ = some (.slice A141_4 ((rd_T27 l0 (ji8)).f3).length c141_4) ∧ w'.cell? ⟨(ad138.add (((ji8)).toNat * 6)).block, (ad138.add (((ji8)).toNat * 6)).off + 5, none⟩ = some (.int .i64 ((rd_T27 l0 (ji8)).f4))) (ds := []) #[false, false, false, false, false, false, false, false, false, false, false, false, false, false, false, false, false, false, false, false, false, false, false, false, false, false] (by kernel_rfl) rfl rfl ⟨((HB.out.cell (World.block_lt_of_cell? w _ hw138_0)).trans hw138_0), ((HB.out.cell (World.block_lt_of_cell? w _ hw138_1)).trans hw138_1), ((HB.out.cell (World.block_lt_of_cell? w _ hw138_2)).trans hw138_2), ((HB.out.cell (World.block_lt_of_cell? w _ hw138_3)).trans hw138_3), ((HB.out.cell (World.block_lt_of_cell? w _ hw138_4)).trans hw138_4), ((HB.out.cell (World.block_lt_of_cell? w _ hw138_5)).trans hw138_5), ((HB.out.cell (World.block_lt_of_cell? w _ hw140_0)).trans hw140_0), ((HB.out.cell (World.block_lt_of_cell? w _ hw140_1)).trans hw140_1), ((HB.out.cell (World.block_lt_of_cell? w _ hw140_2)).trans hw140_2), ((HB.out.cell (World.block_lt_of_cell? w _ hw140_3)).trans hw140_3), ((HB.out.cell (World.block_lt_of_cell? w _ hw140_4)).trans hw140_4), ((HB.out.cell (World.block_lt_of_cell? w _ hw140_5)).trans hw140_5), ((HB.out.cell (World.block_lt_of_cell? w _ hw141_0)).trans hw141_0), ((HB.out.cell (World.block_lt_of_cell? w _ hw141_1)).trans hw141_1), ((HB.out.cell (World.block_lt_of_cell? w _ hw141_2)).trans hw141_2), ((HB.out.cell (World.block_lt_of_cell? w _ hw141_3)).trans hw141_3), ((HB.out.cell (World.block_lt_of_cell? w _ hw141_4)).trans hw141_4), ((HB.out.cell (World.block_lt_of_cell? w _ hw141_5)).trans hw141_5)⟩ (fun hHeld => ?_); refine with_tabW r18_Is.tab4 r18_Is.bits4 (fun HT_ HW_ => ?_)
          generalize wr.drew = w11 at HB HR138_4 HR140_4 HR141_4 hx138_0 hx138_1 hx138_2 hx138_3 hx138_4 hx138_5 hx140_0 hx140_1 hx140_2 hx140_3 hx140_4 hx140_5 hx141_0 hx141_1 hx141_2 hx141_3 hx141_4 hx141_5 hHeld ⊢
          refine pure_ (i := 0) (N := some 11) (v := ?_) (a' := ?_) #[true, false, false, false, false, false, false, false, false, false, false, false, false, false, false, false, false, false, false, false, false, false, false, false, false, false] rfl rfl (any_of HT_.out (by kernel_rfl)) (fun _ _ _ h => h) (Or.inl ⟨by rfl, ?_⟩) ?_ ?_
          rotate_left
          ·intro w'
           go_simp
           with_reducible rfl
          rotate_left
          ·simp only [Act.put, List.setIfInBounds_toArray, List.set_cons_zero, List.set_cons_succ, i64_w, i32_w]
           rfl
          refine pure_ (i := 1) (N := some 12) (v := ?_) (a' := ?_) #[true, true, false, false, false, false, false, false, false, false, false, false, false, false, false, false, false, false, false, false, false, false, false, false, false, false] rfl rfl (any_of HT_.out (by kernel_rfl)) (fun _ _ _ h => h) (Or.inl ⟨by rfl, ?_⟩) ?_ ?_
          rotate_left
          ·intro w'
           go_simp
           with_reducible rfl
          rotate_left
          ·simp only [Act.put, List.setIfInBounds_toArray, List.set_cons_zero, List.set_cons_succ, i64_w, i32_w]
           rfl
          refine pure_ (i := 2) (N := some 13) (v := ?_) (a' := ?_) #[true, true, true, false, false, false, false, false, false, false, false, false, false, false, false, false, false, false, false, false, false, false, false, false, false, false] rfl rfl (any_of HT_.out (by kernel_rfl)) (fun _ _ _ h => h) (Or.inl ⟨by rfl, ?_⟩) ?_ ?_
          rotate_left
          ·intro w'
           go_simp
           with_reducible rfl
          rotate_left
          ·simp only [Act.put, List.setIfInBounds_toArray, List.set_cons_zero, List.set_cons_succ, i64_w, i32_w]
           rfl
          refine take_ (i := 3) (N := some 14) (v := ?_) (a' := ?_) #[true, true, true, true, false, false, false, false, false, false, false, false, false, false, false, false, false, false, false, false, false, false, false, false, false, false] rfl rfl (take_ofW HT_.out HW_.out (by kernel_rfl)) (fun _ _ _ h => h) (Or.inl ⟨by rfl, ?_⟩) hHeld ?_ ?_
          rotate_left
          ·rintro w' ⟨s0, s1, s2, s3, s4, s5, s6, s7, s8, s9, s10, s11, s12, s13, s14, s15, s16, s17⟩
           go_simp
           with_reducible rfl
          rotate_left
          ·simp only [Act.put, List.setIfInBounds_toArray, List.set_cons_zero, List.set_cons_succ, i64_w, i32_w]
           rfl
          refine one_ (i := 4) (N := some 15) #[true, true, true, true, true, false, false, false, false, false, false, false, false, false, false, false, false, false, false, false, false, false, false, false, false, false] rfl rfl (one_of HT_.out (by kernel_rfl)) (by decide) (fun K hK => ?_)
          refine goes_ Try.func8 (by kernel_rfl) rfl #[.agg #[.int .i64 ((rd_T27 l0 x3_1).f0), .string ((rd_T27 l0 x3_1).f1.f0), .string ((rd_T27 l0 x3_1).f1.f1), .int .i64 ((rd_T27 l0 x3_1).f2), .slice A138_4 ((rd_T27 l0 x3_1).f3).length c138_4, .int .i64 ((rd_T27 l0 x3_1).f4)]] (by rfl) rfl rfl (by (try simp only [List.map_toArray, List.map_cons, List.map_nil]); first | done | rfl | (simp only [List.length_drop, List.length_take]; rfl)) ?_
          with_reducible refine (r06_Is.calls k1 ((rd_T27 l0 x3_1).f0) ((rd_T27 l0 x3_1).f1.f0) ((rd_T27 l0 x3_1).f1.f1) ((rd_T27 l0 x3_1).f2) _ _ ((rd_T27 l0 x3_1).f3) ((rd_T27 l0 x3_1).f4) true _ ?side1 ?side2 A5.out).mono ?_
          (case side1 => repeat (first | exact (Kd.C_below HR138_4.out HB.out) | (with_reducible refine Kd.C_alloc ?_ _) | (with_reducible refine Kd.C_drewN ?_ _) | (with_reducible refine Kd.C_drew ?_)))
          (case side2 => exact HC138_4.out)
          rintro e w12 ⟨rfl, hb⟩
          refine ⟨_, rfl, ?_⟩
          replace HB := Az.mk (pbT (by exact pbE HB.out) hb)
          (try clear hb)
          (try clear hb2)
          (try clear hk)
          (try clear hi)
          refine hK.out _ _ ⟨((HB.out.cell (World.block_lt_of_cell? w _ hw138_0)).trans hw138_0), ((HB.out.cell (World.block_lt_of_cell? w _ hw138_1)).trans hw138_1), ((HB.out.cell (World.block_lt_of_cell? w _ hw138_2)).trans hw138_2), ((HB.out.cell (World.block_lt_of_cell? w _ hw138_3)).trans hw138_3), ((HB.out.cell (World.block_lt_of_cell? w _ hw138_4)).trans hw138_4), ((HB.out.cell (World.block_lt_of_cell? w _ hw138_5)).trans hw138_5), ((HB.out.cell (World.block_lt_of_cell? w _ hw140_0)).trans hw140_0), ((HB.out.cell (World.block_lt_of_cell? w _ hw140_1)).trans hw140_1), ((HB.out.cell (World.block_lt_of_cell? w _ hw140_2)).trans hw140_2), ((HB.out.cell (World.block_lt_of_cell? w _ hw140_3)).trans hw140_3), ((HB.out.cell (World.block_lt_of_cell? w _ hw140_4)).trans hw140_4), ((HB.out.cell (World.block_lt_of_cell? w _ hw140_5)).trans hw140_5), ((HB.out.cell (World.block_lt_of_cell? w _ hw141_0)).trans hw141_0), ((HB.out.cell (World.block_lt_of_cell? w _ hw141_1)).trans hw141_1), ((HB.out.cell (World.block_lt_of_cell? w _ hw141_2)).trans hw141_2), ((HB.out.cell (World.block_lt_of_cell? w _ hw141_3)).trans hw141_3), ((HB.out.cell (World.block_lt_of_cell? w _ hw141_4)).trans hw141_4), ((HB.out.cell (World.block_lt_of_cell? w _ hw141_5)).trans hw141_5)⟩ (fun hHeld => ?_)
          clear hK K
          refine norm_ (a' := ?_) ?_ ?_
          rotate_left
          ·show Act.put _ (some 15) _ = _
           simp only [Act.put, List.setIfInBounds_toArray, List.set_cons_zero, List.set_cons_succ, i64_w, i32_w]
           rfl
          refine pure_ (i := 5) (N := some 16) (v := ?_) (a' := ?_) #[true, true, true, true, true, true, false, false, false, false, false, false, false, false, false, false, false, false, false, false, false, false, false, false, false, false] rfl rfl (any_of HT_.out (by kernel_rfl)) (fun _ _ _ h => h) (Or.inl ⟨by rfl, ?_⟩) ?_ ?_
          rotate_left
          ·intro w'
           go_simp
           with_reducible rfl
          rotate_left
          ·simp only [Act.put, List.setIfInBounds_toArray, List.set_cons_zero, List.set_cons_succ, i64_w, i32_w]
           rfl
          refine pure_ (i := 6) (N := some 17) (v := ?_) (a' := ?_) #[true, true, true, true, true, true, true, false, false, false, false, false, false, false, false, false, false, false, false, false, false, false, false, false, false, false] rfl rfl (any_of HT_.out (by kernel_rfl)) (fun _ _ _ h => h) (Or.inl ⟨by rfl, ?_⟩) ?_ ?_
          rotate_left
          ·intro w'
           go_simp
           with_reducible rfl
          rotate_left
          ·simp only [Act.put, List.setIfInBounds_toArray, List.set_cons_zero, List.set_cons_succ, i64_w, i32_w]
           rfl
          refine pure_ (i := 7) (N := some 18) (v := ?_) (a' := ?_) #[true, true, true, true, true, true, true, true, false, false, false, false, false, false, false, false, false, false, false, false, false, false, false, false, false, false] rfl rfl (any_of HT_.out (by kernel_rfl)) (fun _ _ _ h => h) (Or.inl ⟨by rfl, ?_⟩) ?_ ?_
          rotate_left
          ·intro w'
           go_simp
           with_reducible rfl
          rotate_left
          ·simp only [Act.put, List.setIfInBounds_toArray, List.set_cons_zero, List.set_cons_succ, i64_w, i32_w]
           rfl
          refine pure_ (i := 8) (N := some 19) (v := ?_) (a' := ?_) #[true, true, true, true, true, true, true, true, true, false, false, false, false, false, false, false, false, false, false, false, false, false, false, false, false, false] rfl rfl (any_of HT_.out (by kernel_rfl)) (fun _ _ _ h => h) (Or.inl ⟨by rfl, ?_⟩) ?_ ?_
          rotate_left
          ·intro w'
           go_simp
           with_reducible rfl
          rotate_left
          ·simp only [Act.put, List.setIfInBounds_toArray, List.set_cons_zero, List.set_cons_succ, i64_w, i32_w]
           rfl
          refine pure_ (i := 9) (N := some 20) (v := ?_) (a' := ?_) #[true, true, true, true, true, true, true, true, true, true, false, false, false, false, false, false, false, false, false, false, false, false, false, false, false, false] rfl rfl (any_of HT_.out (by kernel_rfl)) (fun _ _ _ h => h) (Or.inl ⟨by rfl, ?_⟩) ?_ ?_
          rotate_left
          ·intro w'
           go_simp
           with_reducible rfl
          rotate_left
          ·simp only [Act.put, List.setIfInBounds_toArray, List.set_cons_zero, List.set_cons_succ, i64_w, i32_w]
           rfl
          refine pure_ (i := 10) (N := some 21) (v := ?_) (a' := ?_) #[true, true, true, true, true, true, true, true, true, true, true, false, false, false, false, false, false, false, false, false, false, false, false, false, false, false] rfl rfl (any_of HT_.out (by kernel_rfl)) (fun _ _ _ h => h) (Or.inl ⟨by rfl, ?_⟩) ?_ ?_
          rotate_left
          ·intro w'
           go_simp
           with_reducible rfl
          rotate_left
          ·simp only [Act.put, List.setIfInBounds_toArray, List.set_cons_zero, List.set_cons_succ, i64_w, i32_w]
           rfl
          refine pure_ (i := 11) (N := some 22) (v := ?_) (a' := ?_) #[true, true, true, true, true, true, true, true, true, true, true, true, false, false, false, false, false, false, false, false, false, false, false, false, false, false] rfl rfl (any_of HT_.out (by kernel_rfl)) (fun _ _ _ h => h) (Or.inl ⟨by rfl, ?_⟩) ?_ ?_
          rotate_left
          ·intro w'
           go_simp
           with_reducible rfl
          rotate_left
          ·simp only [Act.put, List.setIfInBounds_toArray, List.set_cons_zero, List.set_cons_succ, i64_w, i32_w]
           rfl
          refine pure_ (i := 12) (N := some 23) (v := ?_) (a' := ?_) #[true, true, true, true, true, true, true, true, true, true, true, true, true, false, false, false, false, false, false, false, false, false, false, false, false, false] rfl rfl (any_of HT_.out (by kernel_rfl)) (fun _ _ _ h => h) (Or.inl ⟨by rfl, ?_⟩) ?_ ?_
          rotate_left
          ·intro w'
           go_simp
           with_reducible rfl
          rotate_left
          ·simp only [Act.put, List.setIfInBounds_toArray, List.set_cons_zero, List.set_cons_succ, i64_w, i32_w]
           rfl
          refine pure_ (i := 13) (N := some 24) (v := ?_) (a' := ?_) #[true, true, true, true, true, true, true, true, true, true, true, true, true, true, false, false, false, false, false, false, false, false, false, false, false, false] rfl rfl (any_of HT_.out (by kernel_rfl)) (fun _ _ _ h => h) (Or.inl ⟨by rfl, ?_⟩) ?_ ?_
          rotate_left
          ·intro w'
           go_simp
           with_reducible rfl
          rotate_left
          ·simp only [Act.put, List.setIfInBounds_toArray, List.set_cons_zero, List.set_cons_succ, i64_w, i32_w]
           rfl
          refine pure_ (i := 14) (N := some 25) (v := ?_) (a' := ?_) #[true, true, true, true, true, true, true, true, true, true, true, true, true, true, true, false, false, false, false, false, false, false, false, false, false, false] rfl rfl (any_of HT_.out (by kernel_rfl)) (fun _ _ _ h => h) (Or.inl ⟨by rfl, ?_⟩) ?_ ?_
          rotate_left
          ·intro w'
           go_simp
           with_reducible rfl
          rotate_left
          ·simp only [Act.put, List.setIfInBounds_toArray, List.set_cons_zero, List.set_cons_succ, i64_w, i32_w]
           rfl
          refine pure_ (i := 16) (N := some 27) (v := ?_) (a' := ?_) #[true, true, true, true, true, true, true, true, true, true, true, true, true, true, true, false, true, false, false, false, false, false, false, false, false, false] rfl rfl (any_of HT_.out (by kernel_rfl)) (fun _ _ _ h => h) (Or.inl ⟨by rfl, ?_⟩) ?_ ?_
          rotate_left
          ·intro w'
           go_simp
           with_reducible rfl
          rotate_left
          ·simp only [Act.put, List.setIfInBounds_toArray, List.set_cons_zero, List.set_cons_succ, i64_w, i32_w]
           rfl
          refine pure_ (i := 17) (N := some 28) (v := ?_) (a' := ?_) #[true, true, true, true, true, true, true, true, true, true, true, true, true, true, true, false, true, true, false, false, false, false, false, false, false, false] rfl rfl (any_of HT_.out (by kernel_rfl)) (fun _ _ _ h => h) (Or.inl ⟨by rfl, ?_⟩) ?_ ?_
          rotate_left
          ·intro w'
           go_simp
           with_reducible rfl
          rotate_left
          ·simp only [Act.put, List.setIfInBounds_toArray, List.set_cons_zero, List.set_cons_succ, i64_w, i32_w]
           rfl
          refine pure_ (i := 18) (N := some 29) (v := ?_) (a' := ?_) #[true, true, true, true, true, true, true, true, true, true, true, true, true, true, true, false, true, true, true, false, false, false, false, false, false, false] rfl rfl (any_of HT_.out (by kernel_rfl)) (fun _ _ _ h => h) (Or.inl ⟨by rfl, ?_⟩) ?_ ?_
          rotate_left
          ·intro w'
           go_simp
           with_reducible rfl
          rotate_left
          ·simp only [Act.put, List.setIfInBounds_toArray, List.set_cons_zero, List.set_cons_succ, i64_w, i32_w]
           rfl
          refine pure_ (i := 19) (N := some 30) (v := ?_) (a' := ?_) #[true, true, true, true, true, true, true, true, true, true, true, true, true, true, true, false, true, true, true, true, false, false, false, false, false, false] rfl rfl (any_of HT_.out (by kernel_rfl)) (fun _ _ _ h => h) (Or.inl ⟨by rfl, ?_⟩) ?_ ?_
          rotate_left
          ·intro w'
           go_simp
           with_reducible rfl
          rotate_left
          ·simp only [Act.put, List.setIfInBounds_toArray, List.set_cons_zero, List.set_cons_succ, i64_w, i32_w]
           rfl
          refine pure_ (i := 20) (N := some 31) (v := ?_) (a' := ?_) #[true, true, true, true, true, true, true, true, true, true, true, true, true, true, true, false, true, true, true, true, true, false, false, false, false, false] rfl rfl (any_of HT_.out (by kernel_rfl)) (fun _ _ _ h => h) (Or.inl ⟨by rfl, ?_⟩) ?_ ?_
          rotate_left
          ·intro w'
           go_simp
           with_reducible rfl
          rotate_left
          ·simp only [Act.put, List.setIfInBounds_toArray, List.set_cons_zero, List.set_cons_succ, i64_w, i32_w]
           rfl
          refine pure_ (i := 21) (N := some 32) (v := ?_) (a' := ?_) #[true, true, true, true, true, true, true, true, true, true, true, true, true, true, true, false, true, true, true, true, true, true, false, false, false, false] rfl rfl (any_of HT_.out (by kernel_rfl)) (fun _ _ _ h => h) (Or.inl ⟨by rfl, ?_⟩) ?_ ?_
          rotate_left
          ·intro w'
           go_simp
           with_reducible rfl
          rotate_left
          ·simp only [Act.put, List.setIfInBounds_toArray, List.set_cons_zero, List.set_cons_succ, i64_w, i32_w]
           rfl
          refine take_ (i := 15) (N := some 26) (v := ?_) (a' := ?_) #[true, true, true, true, true, true, true, true, true, true, true, true, true, true, true, true, true, true, true, true, true, true, false, false, false, false] rfl rfl (take_ofW HT_.out HW_.out (by kernel_rfl)) (fun _ _ _ h => h) (Or.inl ⟨by rfl, ?_⟩) hHeld ?_ ?_
          rotate_left
          ·rintro w' ⟨s0, s1, s2, s3, s4, s5, s6, s7, s8, s9, s10, s11, s12, s13, s14, s15, s16, s17⟩
           go_simp
           with_reducible rfl
          rotate_left
          ·simp only [Act.put, List.setIfInBounds_toArray, List.set_cons_zero, List.set_cons_succ, i64_w, i32_w]
           rfl
          refine take_ (i := 22) (N := some 33) (v := ?_) (a' := ?_) #[true, true, true, true, true, true, true, true, true, true, true, true, true, true, true, true, true, true, true, true, true, true, true, false, false, false] rfl rfl (take_ofW HT_.out HW_.out (by kernel_rfl)) (fun _ _ _ h => h) (Or.inl ⟨by rfl, ?_⟩) hHeld ?_ ?_
          rotate_left
          ·rintro w' ⟨s0, s1, s2, s3, s4, s5, s6, s7, s8, s9, s10, s11, s12, s13, s14, s15, s16, s17⟩
           go_simp
           with_reducible rfl
          rotate_left
          ·simp only [Act.put, List.setIfInBounds_toArray, List.set_cons_zero, List.set_cons_succ, i64_w, i32_w]
           rfl
          refine pure_ (i := 23) (N := some 34) (v := ?_) (a' := ?_) #[true, true, true, true, true, true, true, true, true, true, true, true, true, true, true, true, true, true, true, true, true, true, true, true, false, false] rfl rfl (any_of HT_.out (by kernel_rfl)) (fun _ _ _ h => h) (Or.inl ⟨by rfl, ?_⟩) ?_ ?_
          rotate_left
          ·intro w'
           go_simp
           with_reducible rfl
          rotate_left
          ·simp only [Act.put, List.setIfInBounds_toArray, List.set_cons_zero, List.set_cons_succ, i64_w, i32_w]
           rfl
          refine pure_ (i := 24) (N := some 35) (v := ?_) (a' := ?_) #[true, true, true, true, true, true, true, true, true, true, true, true, true, true, true, true, true, true, true, true, true, true, true, true, true, false] rfl rfl (any_of HT_.out (by kernel_rfl)) (fun _ _ _ h => h) (Or.inl ⟨by rfl, ?_⟩) ?_ ?_
          rotate_left
          ·intro w'
           go_simp
           with_reducible rfl
          rotate_left
          ·simp only [Act.put, List.setIfInBounds_toArray, List.set_cons_zero, List.set_cons_succ, i64_w, i32_w]
           rfl
          refine pure_ (i := 25) (N := some 36) (v := ?_) (a' := ?_) #[true, true, true, true, true, true, true, true, true, true, true, true, true, true, true, true, true, true, true, true, true, true, true, true, true, true] rfl rfl (any_of HT_.out (by kernel_rfl)) (fun _ _ _ h => h) (Or.inl ⟨by rfl, ?_⟩) ?_ ?_
          rotate_left
          ·intro w'
           go_simp
           with_reducible rfl
          rotate_left
          ·simp only [Act.put, List.setIfInBounds_toArray, List.set_cons_zero, List.set_cons_succ, i64_w, i32_w]
           rfl
          refine done_ (done_of HT_.out (by kernel_rfl)) ?_
          try go_wp2
          go_meet
          case rel => exact ⟨_, (!(Op.bytesLess (((rd_T27 l0 (ji8)).f1.f0).toList) (((rd_T27 l0 x3_1).f1.f0).toList))), (by first | rfl | (simp; done) | (simp only [← hji8] <;> (first | rfl | simp)) | (simp [*]; done)), H', ⟨by have := HK1.out; first | omega | exact Nat.le_refl _⟩, ⟨by exact pbE HB.out⟩⟩
         ·rw [if_neg c10] at H
          exact absurd H (by simp)
        ·rw [if_neg c9] at H
         exact absurd H (by simp)
       ·rw [if_neg c7] at H
        have c7b0 : decide (0 < x3_1) = false := decide_eq_false c7
        clear c7
        have H' := Az.mk H
        clear H
        try go_wp2
        replace HB := Az.mk (pb1 HB.out)
        have p138 : 0 ≤ (x3_1 : Int) := of_decide_eq_true (by first | (with_reducible assumption) | assumption)
        have q138 : x3_1 < (l0.length : Int) := of_decide_eq_true (by first | (with_reducible assumption) | assumption)
        obtain ⟨ad138, A138_4, c138_4, e138, hx138_0, hx138_1, hx138_2, hx138_3, hx138_4, hx138_5, hl138_4, hi138_4⟩ := at_T27 HR0.out x3_1 p138 q138
        have hw138_5 := hx138_5
        have hw138_4 := hx138_4
        have hw138_3 := hx138_3
        have hw138_2 := hx138_2
        have hw138_1 := hx138_1
        have hw138_0 := hx138_0
        cases e138
        replace hx138_0 := (HB.out.cell (World.block_lt_of_cell? w _ hx138_0)).trans hx138_0
        replace hx138_1 := (HB.out.cell (World.block_lt_of_cell? w _ hx138_1)).trans hx138_1
        replace hx138_2 := (HB.out.cell (World.block_lt_of_cell? w _ hx138_2)).trans hx138_2
        replace hx138_3 := (HB.out.cell (World.block_lt_of_cell? w _ hx138_3)).trans hx138_3
        replace hx138_4 := (HB.out.cell (World.block_lt_of_cell? w _ hx138_4)).trans hx138_4
        replace hx138_5 := (HB.out.cell (World.block_lt_of_cell? w _ hx138_5)).trans hx138_5
        have HR138_4 := Az.mk hi138_4
        have HC138_4 := Az.mk hl138_4
        clear hi138_4 hl138_4
        replace p138 := eq_true p138
        replace q138 := eq_true q138
        refine start_ (n := 26) (S := fun w' => w'.cell? (ad138.add ((x3_1).toNat * 6)) = some (.int .i64 ((rd_T27 l0 x3_1).f0)) ∧ w'.cell? ⟨(ad138.add ((x3_1).toNat * 6)).block, (ad138.add ((x3_1).toNat * 6)).off + 1, none⟩ = some (.string ((rd_T27 l0 x3_1).f1.f0)) ∧ w'.cell? ⟨(ad138.add ((x3_1).toNat * 6)).block, (ad138.add ((x3_1).toNat * 6)).off + 2, none⟩ = some (.string ((rd_T27 l0 x3_1).f1.f1)) ∧ w'.cell? ⟨(ad138.add ((x3_1).toNat * 6)).block, (ad138.add ((x3_1).toNat * 6)).off + 3, none⟩ = some (.int .i64 ((rd_T27 l0 x3_1).f2)) ∧ w'.cell? ⟨(ad138.add ((x3_1).toNat * 6)).block, (ad138.add ((x3_1).toNat * 6)).off + 4, none⟩ = some (.slice A138_4 ((rd_T27 l0 x3_1).f3).length c138_4) ∧ w'.cell? ⟨(ad138.add ((x3_1).toNat * 6)).block, (ad138.add ((x3_1).toNat * 6)).off + 5, none⟩ = some (.int .i64 ((rd_T27 l0 x3_1).f4))) (ds := []) #[false, false, false, false, false, false, false, false, false, false, false, false, false, false, false, false, false, false, false, false, false, false, false, false, false, false] (by kernel_rfl) rfl rfl ⟨((HB.out.cell (World.block_lt_of_cell? w _ hw138_0)).trans hw138_0), ((HB.out.cell (World.block_lt_of_cell? w _ hw138_1)).trans hw138_1), ((HB.out.cell (World.block_lt_of_cell? w _ hw138_2)).trans hw138_2), ((HB.out.cell (World.block_lt_of_cell? w _ hw138_3)).trans hw138_3), ((HB.out.cell (World.block_lt_of_cell? w _ hw138_4)).trans hw138_4), ((HB.out.cell (World.block_lt_of_cell? w _ hw138_5)).trans hw138_5)⟩ (fun hHeld => ?_); refine with_tabW r18_Is.tab4 r18_Is.bits4 (fun HT_ HW_ => ?_)
        generalize wr.drew = w13 at HB HR138_4 hx138_0 hx138_1 hx138_2 hx138_3 hx138_4 hx138_5 hHeld ⊢
        refine pure_ (i := 0) (N := some 11) (v := ?_) (a' := ?_) #[true, false, false, false, false, false, false, false, false, false, false, false, false, false, false, false, false, false, false, false, false, false, false, false, false, false] rfl rfl (any_of HT_.out (by kernel_rfl)) (fun _ _ _ h => h) (Or.inl ⟨by rfl, ?_⟩) ?_ ?_
        rotate_left
        ·intro w'
         go_simp
         with_reducible rfl
        rotate_left
        ·simp only [Act.put, List.setIfInBounds_toArray, List.set_cons_zero, List.set_cons_succ, i64_w, i32_w]
         rfl
        refine pure_ (i := 1) (N := some 12) (v := ?_) (a' := ?_) #[true, true, false, false, false, false, false, false, false, false, false, false, false, false, false, false, false, false, false, false, false, false, false, false, false, false] rfl rfl (any_of HT_.out (by kernel_rfl)) (fun _ _ _ h => h) (Or.inl ⟨by rfl, ?_⟩) ?_ ?_
        rotate_left
        ·intro w'
         go_simp
         with_reducible rfl
        rotate_left
        ·simp only [Act.put, List.setIfInBounds_toArray, List.set_cons_zero, List.set_cons_succ, i64_w, i32_w]
         rfl
        refine pure_ (i := 2) (N := some 13) (v := ?_) (a' := ?_) #[true, true, true, false, false, false, false, false, false, false, false, false, false, false, false, false, false, false, false, false, false, false, false, false, false, false] rfl rfl (any_of HT_.out (by kernel_rfl)) (fun _ _ _ h => h) (Or.inl ⟨by rfl, ?_⟩) ?_ ?_
        rotate_left
        ·intro w'
         go_simp
         with_reducible rfl
        rotate_left
        ·simp only [Act.put, List.setIfInBounds_toArray, List.set_cons_zero, List.set_cons_succ, i64_w, i32_w]
         rfl
        refine take_ (i := 3) (N := some 14) (v := ?_) (a' := ?_) #[true, true, true, true, false, false, false, false, false, false, false, false, false, false, false, false, false, false, false, false, false, false, false, false, false, false] rfl rfl (take_ofW HT_.out HW_.out (by kernel_rfl)) (fun _ _ _ h => h) (Or.inl ⟨by rfl, ?_⟩) hHeld ?_ ?_
        rotate_left
        ·rintro w' ⟨s0, s1, s2, s3, s4, s5⟩
         go_simp
         with_reducible rfl
        rotate_left
        ·simp only [Act.put, List.setIfInBounds_toArray, List.set_cons_zero, List.set_cons_succ, i64_w, i32_w]
         rfl
        refine one_ (i := 4) (N := some 15) #[true, true, true, true, true, false, false, false, false, false, false, false, false, false, false, false, false, false, false, false, false, false, false, false, false, false] rfl rfl (one_of HT_.out (by kernel_rfl)) (by decide) (fun K hK => ?_)
        refine goes_ Try.func8 (by kernel_rfl) rfl #[.agg #[.int .i64 ((rd_T27 l0 x3_1).f0), .string ((rd_T27 l0 x3_1).f1.f0), .string ((rd_T27 l0 x3_1).f1.f1), .int .i64 ((rd_T27 l0 x3_1).f2), .slice A138_4 ((rd_T27 l0 x3_1).f3).length c138_4, .int .i64 ((rd_T27 l0 x3_1).f4)]] (by rfl) rfl rfl (by (try simp only [List.map_toArray, List.map_cons, List.map_nil]); first | done | rfl | (simp only [List.length_drop, List.length_take]; rfl)) ?_
        with_reducible refine (r06_Is.calls k1 ((rd_T27 l0 x3_1).f0) ((rd_T27 l0 x3_1).f1.f0) ((rd_T27 l0 x3_1).f1.f1) ((rd_T27 l0 x3_1).f2) _ _ ((rd_T27 l0 x3_1).f3) ((rd_T27 l0 x3_1).f4) true _ ?side1 ?side2 A5.out).mono ?_
        (case side1 => repeat (first | exact (Kd.C_below HR138_4.out HB.out) | (with_reducible refine Kd.C_alloc ?_ _) | (with_reducible refine Kd.C_drewN ?_ _) | (with_reducible refine Kd.C_drew ?_)))
        (case side2 => exact HC138_4.out)
        rintro e w14 ⟨rfl, hb⟩
        refine ⟨_, rfl, ?_⟩
        replace HB := Az.mk (pbT (by exact pbE HB.out) hb)
        (try clear hb)
        (try clear hb2)
        (try clear hk)
        (try clear hi)
        refine hK.out _ _ ⟨((HB.out.cell (World.block_lt_of_cell? w _ hw138_0)).trans hw138_0), ((HB.out.cell (World.block_lt_of_cell? w _ hw138_1)).trans hw138_1), ((HB.out.cell (World.block_lt_of_cell? w _ hw138_2)).trans hw138_2), ((HB.out.cell (World.block_lt_of_cell? w _ hw138_3)).trans hw138_3), ((HB.out.cell (World.block_lt_of_cell? w _ hw138_4)).trans hw138_4), ((HB.out.cell (World.block_lt_of_cell? w _ hw138_5)).trans hw138_5)⟩ (fun hHeld => ?_)
        clear hK K
        refine norm_ (a' := ?_) ?_ ?_
        rotate_left
        ·show Act.put _ (some 15) _ = _
         simp only [Act.put, List.setIfInBounds_toArray, List.set_cons_zero, List.set_cons_succ, i64_w, i32_w]
         rfl
        refine pure_ (i := 5) (N := some 16) (v := ?_) (a' := ?_) #[true, true, true, true, true, true, false, false, false, false, false, false, false, false, false, false, false, false, false, false, false, false, false, false, false, false] rfl rfl (any_of HT_.out (by kernel_rfl)) (fun _ _ _ h => h) (Or.inl ⟨by rfl, ?_⟩) ?_ ?_
        rotate_left
        ·intro w'
         go_simp
         with_reducible rfl
        rotate_left
        ·simp only [Act.put, List.setIfInBounds_toArray, List.set_cons_zero, List.set_cons_succ, i64_w, i32_w]
         rfl
        refine pure_ (i := 6) (N := some 17) (v := ?_) (a' := ?_) #[true, true, true, true, true, true, true, false, false, false, false, false, false, false, false, false, false, false, false, false, false, false, false, false, false, false] rfl rfl (any_of HT_.out (by kernel_rfl)) (fun _ _ _ h => h) (Or.inl ⟨by rfl, ?_⟩) ?_ ?_
        rotate_left
        ·intro w'
         go_simp
         with_reducible rfl
        rotate_left
        ·simp only [Act.put, List.setIfInBounds_toArray, List.set_cons_zero, List.set_cons_succ, i64_w, i32_w]
         rfl
        refine pure_ (i := 7) (N := some 18) (v := ?_) (a' := ?_) #[true, true, true, true, true, true, true, true, false, false, false, false, false, false, false, false, false, false, false, false, false, false, false, false, false, false] rfl rfl (any_of HT_.out (by kernel_rfl)) (fun _ _ _ h => h) (Or.inl ⟨by rfl, ?_⟩) ?_ ?_
        rotate_left
        ·intro w'
         go_simp
         with_reducible rfl
        rotate_left
        ·simp only [Act.put, List.setIfInBounds_toArray, List.set_cons_zero, List.set_cons_succ, i64_w, i32_w]
         rfl
        refine pure_ (i := 8) (N := some 19) (v := ?_) (a' := ?_) #[true, true, true, true, true, true, true, true, true, false, false, false, false, false, false, false, false, false, false, false, false, false, false, false, false, false] rfl rfl (any_of HT_.out (by kernel_rfl)) (fun _ _ _ h => h) (Or.inl ⟨by rfl, ?_⟩) ?_ ?_
        rotate_left
        ·intro w'
         go_simp
         with_reducible rfl
        rotate_left
        ·simp only [Act.put, List.setIfInBounds_toArray, List.set_cons_zero, List.set_cons_succ, i64_w, i32_w]
         rfl
        refine pure_ (i := 9) (N := some 20) (v := ?_) (a' := ?_) #[true, true, true, true, true, true, true, true, true, true, false, false, false, false, false, false, false, false, false, false, false, false, false, false, false, false] rfl rfl (any_of HT_.out (by kernel_rfl)) (fun _ _ _ h => h) (Or.inl ⟨by rfl, ?_⟩) ?_ ?_
        rotate_left
        ·intro w'
         go_simp
         with_reducible rfl
        rotate_left
        ·simp only [Act.put, List.setIfInBounds_toArray, List.set_cons_zero, List.set_cons_succ, i64_w, i32_w]
         rfl
        refine pure_ (i := 10) (N := some 21) (v := undef) (a' := ?_) #[true, true, true, true, true, true, true, true, true, true, true, false, false, false, false, false, false, false, false, false, false, false, false, false, false, false] rfl rfl (any_of HT_.out (by kernel_rfl)) (fun _ _ _ h => h) (Or.inr ⟨by rfl, rfl⟩) ?_ ?_
        rotate_left
        ·simp only [Act.put, List.setIfInBounds_toArray, List.set_cons_zero, List.set_cons_succ, i64_w, i32_w]
         rfl
        refine pure_ (i := 11) (N := some 22) (v := undef) (a' := ?_) #[true, true, true, true, true, true, true, true, true, true, true, true, false, false, false, false, false, false, false, false, false, false, false, false, false, false] rfl rfl (any_of HT_.out (by kernel_rfl)) (fun _ _ _ h => h) (Or.inr ⟨by rfl, rfl⟩) ?_ ?_
        rotate_left
        ·simp only [Act.put, List.setIfInBounds_toArray, List.set_cons_zero, List.set_cons_succ, i64_w, i32_w]
         rfl
        refine pure_ (i := 12) (N := some 23) (v := undef) (a' := ?_) #[true, true, true, true, true, true, true, true, true, true, true, true, true, false, false, false, false, false, false, false, false, false, false, false, false, false] rfl rfl (any_of HT_.out (by kernel_rfl)) (fun _ _ _ h => h) (Or.inr ⟨by rfl, rfl⟩) ?_ ?_
        rotate_left
        ·simp only [Act.put, List.setIfInBounds_toArray, List.set_cons_zero, List.set_cons_succ, i64_w, i32_w]
         rfl
        refine pure_ (i := 13) (N := some 24) (v := undef) (a' := ?_) #[true, true, true, true, true, true, true, true, true, true, true, true, true, true, false, false, false, false, false, false, false, false, false, false, false, false] rfl rfl (any_of HT_.out (by kernel_rfl)) (fun _ _ _ h => h) (Or.inr ⟨by rfl, rfl⟩) ?_ ?_
        rotate_left
        ·simp only [Act.put, List.setIfInBounds_toArray, List.set_cons_zero, List.set_cons_succ, i64_w, i32_w]
         rfl
        refine pure_ (i := 14) (N := some 25) (v := undef) (a' := ?_) #[true, true, true, true, true, true, true, true, true, true, true, true, true, true, true, false, false, false, false, false, false, false, false, false, false, false] rfl rfl (any_of HT_.out (by kernel_rfl)) (fun _ _ _ h => h) (Or.inr ⟨by rfl, rfl⟩) ?_ ?_
        rotate_left
        ·simp only [Act.put, List.setIfInBounds_toArray, List.set_cons_zero, List.set_cons_succ, i64_w, i32_w]
         rfl
        refine pure_ (i := 15) (N := some 26) (v := undef) (a' := ?_) #[true, true, true, true, true, true, true, true, true, true, true, true, true, true, true, true, false, false, false, false, false, false, false, false, false, false] rfl rfl (any_of HT_.out (by kernel_rfl)) (fun _ _ _ h => h) (Or.inr ⟨by rfl, rfl⟩) ?_ ?_
        rotate_left
        ·simp only [Act.put, List.setIfInBounds_toArray, List.set_cons_zero, List.set_cons_succ, i64_w, i32_w]
         rfl
        refine pure_ (i := 16) (N := some 27) (v := undef) (a' := ?_) #[true, true, true, true, true, true, true, true, true, true, true, true, true, true, true, true, true, false, false, false, false, false, false, false, false, false] rfl rfl (any_of HT_.out (by kernel_rfl)) (fun _ _ _ h => h) (Or.inr ⟨by rfl, rfl⟩) ?_ ?_
        rotate_left
        ·simp only [Act.put, List.setIfInBounds_toArray, List.set_cons_zero, List.set_cons_succ, i64_w, i32_w]
         rfl
        refine pure_ (i := 17) (N := some 28) (v := undef) (a' := ?_) #[true, true, true, true, true, true, true, true, true, true, true, true, true, true, true, true, true, true, false, false, false, false, false, false, false, false] rfl rfl (any_of HT_.out (by kernel_rfl)) (fun _ _ _ h => h) (Or.inr ⟨by rfl, rfl⟩) ?_ ?_
        rotate_left
        ·simp only [Act.put, List.setIfInBounds_toArray, List.set_cons_zero, List.set_cons_succ, i64_w, i32_w]
         rfl
        refine pure_ (i := 18) (N := some 29) (v := undef) (a' := ?_) #[true, true, true, true, true, true, true, true, true, true, true, true, true, true, true, true, true, true, true, false, false, false, false, false, false, false] rfl rfl (any_of HT_.out (by kernel_rfl)) (fun _ _ _ h => h) (Or.inr ⟨by rfl, rfl⟩) ?_ ?_
        rotate_left
        ·simp only [Act.put, List.setIfInBounds_toArray, List.set_cons_zero, List.set_cons_succ, i64_w, i32_w]
         rfl
        refine pure_ (i := 19) (N := some 30) (v := undef) (a' := ?_) #[true, true, true, true, true, true, true, true, true, true, true, true, true, true, true, true, true, true, true, true, false, false, false, false, false, false] rfl rfl (any_of HT_.out (by kernel_rfl)) (fun _ _ _ h => h) (Or.inr ⟨by rfl, rfl⟩) ?_ ?_
        rotate_left
        ·simp only [Act.put, List.setIfInBounds_toArray, List.set_cons_zero, List.set_cons_succ, i64_w, i32_w]
         rfl
        refine pure_ (i := 20) (N := some 31) (v := undef) (a' := ?_) #[true, true, true, true, true, true, true, true, true, true, true, true, true, true, true, true, true, true, true, true, true, false, false, false, false, false] rfl rfl (any_of HT_.out (by kernel_rfl)) (fun _ _ _ h => h) (Or.inr ⟨by rfl, rfl⟩) ?_ ?_
        rotate_left
        ·simp only [Act.put, List.setIfInBounds_toArray, List.set_cons_zero, List.set_cons_succ, i64_w, i32_w]
         rfl
        refine pure_ (i := 21) (N := some 32) (v := undef) (a' := ?_) #[true, true, true, true, true, true, true, true, true, true, true, true, true, true, true, true, true, true, true, true, true, true, false, false, false, false] rfl rfl (any_of HT_.out (by kernel_rfl)) (fun _ _ _ h => h) (Or.inr ⟨by rfl, rfl⟩) ?_ ?_
        rotate_left
        ·simp only [Act.put, List.setIfInBounds_toArray, List.set_cons_zero, List.set_cons_succ, i64_w, i32_w]
         rfl
        refine pure_ (i := 22) (N := some 33) (v := undef) (a' := ?_) #[true, true, true, true, true, true, true, true, true, true, true, true, true, true, true, true, true, true, true, true, true, true, true, false, false, false] rfl rfl (any_of HT_.out (by kernel_rfl)) (fun _ _ _ h => h) (Or.inr ⟨by rfl, rfl⟩) ?_ ?_
        rotate_left
        ·simp only [Act.put, List.setIfInBounds_toArray, List.set_cons_zero, List.set_cons_succ, i64_w, i32_w]
         rfl
        refine pure_ (i := 23) (N := some 34) (v := undef) (a' := ?_) #[true, true, true, true, true, true, true, true, true, true, true, true, true, true, true, true, true, true, true, true, true, true, true, true, false, false] rfl rfl (any_of HT_.out (by kernel_rfl)) (fun _ _ _ h => h) (Or.inr ⟨by rfl, rfl⟩) ?_ ?_
        rotate_left
        ·simp only [Act.put, List.setIfInBounds_toArray, List.set_cons_zero, List.set_cons_succ, i64_w, i32_w]
         rfl
        refine pure_ (i := 24) (N := some 35) (v := ?_) (a' := ?_) #[true, true, true, true, true, true, true, true, true, true, true, true, true, true, true, true, true, true, true, true, true, true, true, true, true, false] rfl rfl (any_of HT_.out (by kernel_rfl)) (fun _ _ _ h => h) (Or.inl ⟨by rfl, ?_⟩) ?_ ?_
        rotate_left
        ·intro w'
         go_simp
         with_reducible rfl
        rotate_left
        ·simp only [Act.put, List.setIfInBounds_toArray, List.set_cons_zero, List.set_cons_succ, i64_w, i32_w]
         rfl
        refine pure_ (i := 25) (N := some 36) (v := ?_) (a' := ?_) #[true, true, true, true, true, true, true, true, true, true, true, true, true, true, true, true, true, true, true, true, true, true, true, true, true, true] rfl rfl (any_of HT_.out (by kernel_rfl)) (fun _ _ _ h => h) (Or.inl ⟨by rfl, ?_⟩) ?_ ?_
        rotate_left
        ·intro w'
         go_simp
         with_reducible rfl
        rotate_left
        ·simp only [Act.put, List.setIfInBounds_toArray, List.set_cons_zero, List.set_cons_succ, i64_w, i32_w]
         rfl
        refine done_ (done_of HT_.out (by kernel_rfl)) ?_
        try go_wp2
        go_meet
        case rel => exact ⟨_, (false), (by first | rfl | (simp; done) | (simp [*]; done)), H', ⟨by have := HK1.out; first | omega | exact Nat.le_refl _⟩, ⟨by exact pbE HB.out⟩⟩
      ·replace c6 := Bool.eq_false_iff.mpr c6
       subst c6
       rw [if_neg (show ¬ (false = true) by decide)] at H
       have H' := Az.mk H
       clear H
       try go_wp2
       replace HB := Az.mk (pb1 HB.out)
       have p138 : 0 ≤ (x3_1 : Int) := of_decide_eq_true (by first | (with_reducible assumption) | assumption)
       have q138 : x3_1 < (l0.length : Int) := of_decide_eq_true (by first | (with_reducible assumption) | assumption)
       obtain ⟨ad138, A138_4, c138_4, e138, hx138_0, hx138_1, hx138_2, hx138_3, hx138_4, hx138_5, hl138_4, hi138_4⟩ := at_T27 HR0.out x3_1 p138 q138
       have hw138_5 := hx138_5
       have hw138_4 := hx138_4
       have hw138_3 := hx138_3
       have hw138_2 := hx138_2
       have hw138_1 := hx138_1
       have hw138_0 := hx138_0
       cases e138
       replace hx138_0 := (HB.out.cell (World.block_lt_of_cell? w _ hx138_0)).trans hx138_0
       replace hx138_1 := (HB.out.cell (World.block_lt_of_cell? w _ hx138_1)).trans hx138_1
       replace hx138_2 := (HB.out.cell (World.block_lt_of_cell? w _ hx138_2)).trans hx138_2
       replace hx138_3 := (HB.out.cell (World.block_lt_of_cell? w _ hx138_3)).trans hx138_3
       replace hx138_4 := (HB.out.cell (World.block_lt_of_cell? w _ hx138_4)).trans hx138_4
       replace hx138_5 := (HB.out.cell (World.block_lt_of_cell? w _ hx138_5)).trans hx138_5
       have HR138_4 := Az.mk hi138_4
       have HC138_4 := Az.mk hl138_4
       clear hi138_4 hl138_4
       replace p138 := eq_true p138
       replace q138 := eq_true q138
       refine start_ (n := 26) (S := fun w' => w'.cell? (ad138.add ((x3_1).toNat * 6)) = some (.int .i64 ((rd_T27 l0 x3_1).f0)) ∧ w'.cell? ⟨(ad138.add ((x3_1).toNat * 6)).block, (ad138.add ((x3_1).toNat * 6)).off + 1, none⟩ = some (.string ((rd_T27 l0 x3_1).f1.f0)) ∧ w'.cell? ⟨(ad138.add ((x3_1).toNat * 6)).block, (ad138.add ((x3_1).toNat * 6)).off + 2, none⟩ = some (.string ((rd_T27 l0 x3_1).f1.f1)) ∧ w'.cell? ⟨(ad138.add ((x3_1).toNat * 6)).block, (ad138.add ((x3_1).toNat * 6)).off + 3, none⟩ = some (.int .i64 ((rd_T27 l0 x3_1).f2)) ∧ w'.cell? ⟨(ad138.add ((x3_1).toNat * 6)).block, (ad138.add ((x3_1).toNat * 6)).off + 4, none⟩ = some (.slice A138_4 ((rd_T27 l0 x3_1).f3).length c138_4) ∧ w'.cell? ⟨(ad138.add ((x3_1).toNat * 6)).block, (ad138.add ((x3_1).toNat * 6)).off + 5, none⟩ = some (.int .i64 ((rd_T27 l0 x3_1).f4))) (ds := []) #[false, false, false, false, false, false, false, false, false, false, false, false, false, false, false, false, false, false, false, false, false, false, false, false, false, false] (by kernel_rfl) rfl rfl ⟨((HB.out.cell (World.block_lt_of_cell? w _ hw138_0)).trans hw138_0), ((HB.out.cell (World.block_lt_of_cell? w _ hw138_1)).trans hw138_1), ((HB.out.cell (World.block_lt_of_cell? w _ hw138_2)).trans hw138_2), ((HB.out.cell (World.block_lt_of_cell? w _ hw138_3)).trans hw138_3), ((HB.out.cell (World.block_lt_of_cell? w _ hw138_4)).trans hw138_4), ((HB.out.cell (World.block_lt_of_cell? w _ hw138_5)).trans hw138_5)⟩ (fun hHeld => ?_); refine with_tabW r18_Is.tab4 r18_Is.bits4 (fun HT_ HW_ => ?_)
       generalize wr.drew = w15 at HB HR138_4 hx138_0 hx138_1 hx138_2 hx138_3 hx138_4 hx138_5 hHeld ⊢
       refine pure_ (i := 0) (N := some 11) (v := ?_) (a' := ?_) #[true, false, false, false, false, false, false, false, false, false, false, false, false, false, false, false, false, false, false, false, false, false, false, false, false, false] rfl rfl (any_of HT_.out (by kernel_rfl)) (fun _ _ _ h => h) (Or.inl ⟨by rfl, ?_⟩) ?_ ?_
       rotate_left
       ·intro w'
        go_simp
        with_reducible rfl
       rotate_left
       ·simp only [Act.put, List.setIfInBounds_toArray, List.set_cons_zero, List.set_cons_succ, i64_w, i32_w]
        rfl
       refine pure_ (i := 1) (N := some 12) (v := ?_) (a' := ?_) #[true, true, false, false, false, false, false, false, false, false, false, false, false, false, false, false, false, false, false, false, false, false, false, false, false, false] rfl rfl (any_of HT_.out (by kernel_rfl)) (fun _ _ _ h => h) (Or.inl ⟨by rfl, ?_⟩) ?_ ?_
       rotate_left
       ·intro w'
        go_simp
        with_reducible rfl
       rotate_left
       ·simp only [Act.put, List.setIfInBounds_toArray, List.set_cons_zero, List.set_cons_succ, i64_w, i32_w]
        rfl
       refine pure_ (i := 2) (N := some 13) (v := ?_) (a' := ?_) #[true, true, true, false, false, false, false, false, false, false, false, false, false, false, false, false, false, false, false, false, false, false, false, false, false, false] rfl rfl (any_of HT_.out (by kernel_rfl)) (fun _ _ _ h => h) (Or.inl ⟨by rfl, ?_⟩) ?_ ?_
       rotate_left
       ·intro w'
        go_simp
        with_reducible rfl
       rotate_left
       ·simp only [Act.put, List.setIfInBounds_toArray, List.set_cons_zero, List.set_cons_succ, i64_w, i32_w]
        rfl
       refine take_ (i := 3) (N := some 14) (v := ?_) (a' := ?_) #[true, true, true, true, false, false, false, false, false, false, false, false, false, false, false, false, false, false, false, false, false, false, false, false, false, false] rfl rfl (take_ofW HT_.out HW_.out (by kernel_rfl)) (fun _ _ _ h => h) (Or.inl ⟨by rfl, ?_⟩) hHeld ?_ ?_
       rotate_left
       ·rintro w' ⟨s0, s1, s2, s3, s4, s5⟩
        go_simp
        with_reducible rfl
       rotate_left
       ·simp only [Act.put, List.setIfInBounds_toArray, List.set_cons_zero, List.set_cons_succ, i64_w, i32_w]
        rfl
       refine one_ (i := 4) (N := some 15) #[true, true, true, true, true, false, false, false, false, false, false, false, false, false, false, false, false, false, false, false, false, false, false, false, false, false] rfl rfl (one_of HT_.out (by kernel_rfl)) (by decide) (fun K hK => ?_)
       refine goes_ Try.func8 (by kernel_rfl) rfl #[.agg #[.int .i64 ((rd_T27 l0 x3_1).f0), .string ((rd_T27 l0 x3_1).f1.f0), .string ((rd_T27 l0 x3_1).f1.f1), .int .i64 ((rd_T27 l0 x3_1).f2), .slice A138_4 ((rd_T27 l0 x3_1).f3).length c138_4, .int .i64 ((rd_T27 l0 x3_1).f4)]] (by rfl) rfl rfl (by (try simp only [List.map_toArray, List.map_cons, List.map_nil]); first | done | rfl | (simp only [List.length_drop, List.length_take]; rfl)) ?_
       with_reducible refine (r06_Is.calls k1 ((rd_T27 l0 x3_1).f0) ((rd_T27 l0 x3_1).f1.f0) ((rd_T27 l0 x3_1).f1.f1) ((rd_T27 l0 x3_1).f2) _ _ ((rd_T27 l0 x3_1).f3) ((rd_T27 l0 x3_1).f4) false _ ?side1 ?side2 A5.out).mono ?_
       (case side1 => repeat (first | exact (Kd.C_below HR138_4.out HB.out) | (with_reducible refine Kd.C_alloc ?_ _) | (with_reducible refine Kd.C_drewN ?_ _) | (with_reducible refine Kd.C_drew ?_)))
       (case side2 => exact HC138_4.out)
       rintro e w16 ⟨rfl, hb⟩
       refine ⟨_, rfl, ?_⟩
       replace HB := Az.mk (pbT (by exact pbE HB.out) hb)
       (try clear hb)
       (try clear hb2)
       (try clear hk)
       (try clear hi)
       refine hK.out _ _ ⟨((HB.out.cell (World.block_lt_of_cell? w _ hw138_0)).trans hw138_0), ((HB.out.cell (World.block_lt_of_cell? w _ hw138_1)).trans hw138_1), ((HB.out.cell (World.block_lt_of_cell? w _ hw138_2)).trans hw138_2), ((HB.out.cell (World.block_lt_of_cell? w _ hw138_3)).trans hw138_3), ((HB.out.cell (World.block_lt_of_cell? w _ hw138_4)).trans hw138_4), ((HB.out.cell (World.block_lt_of_cell? w _ hw138_5)).trans hw138_5)⟩ (fun hHeld => ?_)
       clear hK K
       refine norm_ (a' := ?_) ?_ ?_
       rotate_left
       ·show Act.put _ (some 15) _ = _
        simp only [Act.put, List.setIfInBounds_toArray, List.set_cons_zero, List.set_cons_succ, i64_w, i32_w]
        rfl
       refine pure_ (i := 5) (N := some 16) (v := ?_) (a' := ?_) #[true, true, true, true, true, true, false, false, false, false, false, false, false, false, false, false, false, false, false, false, false, false, false, false, false, false] rfl rfl (any_of HT_.out (by kernel_rfl)) (fun _ _ _ h => h) (Or.inl ⟨by rfl, ?_⟩) ?_ ?_
       rotate_left
       ·intro w'
        go_simp
        with_reducible rfl
       rotate_left
       ·simp only [Act.put, List.setIfInBounds_toArray, List.set_cons_zero, List.set_cons_succ, i64_w, i32_w]
        rfl
       refine pure_ (i := 6) (N := some 17) (v := ?_) (a' := ?_) #[true, true, true, true, true, true, true, false, false, false, false, false, false, false, false, false, false, false, false, false, false, false, false, false, false, false] rfl rfl (any_of HT_.out (by kernel_rfl)) (fun _ _ _ h => h) (Or.inl ⟨by rfl, ?_⟩) ?_ ?_
       rotate_left
       ·intro w'
        go_simp
        with_reducible rfl
       rotate_left
       ·simp only [Act.put, List.setIfInBounds_toArray, List.set_cons_zero, List.set_cons_succ, i64_w, i32_w]
        rfl
       refine pure_ (i := 7) (N := some 18) (v := undef) (a' := ?_) #[true, true, true, true, true, true, true, true, false, false, false, false, false, false, false, false, false, false, false, false, false, false, false, false, false, false] rfl rfl (any_of HT_.out (by kernel_rfl)) (fun _ _ _ h => h) (Or.inr ⟨by rfl, rfl⟩) ?_ ?_
       rotate_left
       ·simp only [Act.put, List.setIfInBounds_toArray, List.set_cons_zero, List.set_cons_succ, i64_w, i32_w]
        rfl
       refine pure_ (i := 8) (N := some 19) (v := undef) (a' := ?_) #[true, true, true, true, true, true, true, true, true, false, false, false, false, false, false, false, false, false, false, false, false, false, false, false, false, false] rfl rfl (any_of HT_.out (by kernel_rfl)) (fun _ _ _ h => h) (Or.inr ⟨by rfl, rfl⟩) ?_ ?_
       rotate_left
       ·simp only [Act.put, List.setIfInBounds_toArray, List.set_cons_zero, List.set_cons_succ, i64_w, i32_w]
        rfl
       refine pure_ (i := 9) (N := some 20) (v := undef) (a' := ?_) #[true, true, true, true, true, true, true, true, true, true, false, false, false, false, false, false, false, false, false, false, false, false, false, false, false, false] rfl rfl (any_of HT_.out (by kernel_rfl)) (fun _ _ _ h => h) (Or.inr ⟨by rfl, rfl⟩) ?_ ?_
       rotate_left
       ·simp only [Act.put, List.setIfInBounds_toArray, List.set_cons_zero, List.set_cons_succ, i64_w, i32_w]
        rfl
       refine pure_ (i := 10) (N := some 21) (v := undef) (a' := ?_) #[true, true, true, true, true, true, true, true, true, true, true, false, false, false, false, false, false, false, false, false, false, false, false, false, false, false] rfl rfl (any_of HT_.out (by kernel_rfl)) (fun _ _ _ h => h) (Or.inr ⟨by rfl, rfl⟩) ?_ ?_
       rotate_left
       ·simp only [Act.put, List.setIfInBounds_toArray, List.set_cons_zero, List.set_cons_succ, i64_w, i32_w]
        rfl
       refine pure_ (i := 11) (N := some 22) (v := undef) (a' := ?_) #[true, true, true, true, true, true, true, true, true, true, true, true, false, false, false, false, false, false, false, false, false, false, false, false, false, false] rfl rfl (any_of HT_.out (by kernel_rfl)) (fun _ _ _ h => h) (Or.inr ⟨by rfl, rfl⟩) ?_ ?_
       rotate_left
       ·simp only [Act.put, List.setIfInBounds_toArray, List.set_cons_zero, List.set_cons_succ, i64_w, i32_w]
        rfl
       refine pure_ (i := 12) (N := some 23) (v := undef) (a' := ?_) #[true, true, true, true, true, true, true, true, true, true, true, true, true, false, false, false, false, false, false, false, false, false, false, false, false, false] rfl rfl (any_of HT_.out (by kernel_rfl)) (fun _ _ _ h => h) (Or.inr ⟨by rfl, rfl⟩) ?_ ?_
       rotate_left
       ·simp only [Act.put, List.setIfInBounds_toArray, List.set_cons_zero, List.set_cons_succ, i64_w, i32_w]
        rfl
       refine pure_ (i := 13) (N := some 24) (v := undef) (a' := ?_) #[true, true, true, true, true, true, true, true, true, true, true, true, true, true, false, false, false, false, false, false, false, false, false, false, false, false] rfl rfl (any_of HT_.out (by kernel_rfl)) (fun _ _ _ h => h) (Or.inr ⟨by rfl, rfl⟩) ?_ ?_
       rotate_left
       ·simp only [Act.put, List.setIfInBounds_toArray, List.set_cons_zero, List.set_cons_succ, i64_w, i32_w]
        rfl
       refine pure_ (i := 14) (N := some 25) (v := undef) (a' := ?_) #[true, true, true, true, true, true, true, true, true, true, true, true, true, true, true, false, false, false, false, false, false, false, false, false, false, false] rfl rfl (any_of HT_.out (by kernel_rfl)) (fun _ _ _ h => h) (Or.inr ⟨by rfl, rfl⟩) ?_ ?_
       rotate_left
       ·simp only [Act.put, List.setIfInBounds_toArray, List.set_cons_zero, List.set_cons_succ, i64_w, i32_w]
        rfl
       refine pure_ (i := 15) (N := some 26) (v := undef) (a' := ?_) #[true, true, true, true, true, true, true, true, true, true, true, true, true, true, true, true, false, false, false, false, false, false, false, false, false, false] rfl rfl (any_of HT_.out (by kernel_rfl)) (fun _ _ _ h => h) (Or.inr ⟨by rfl, rfl⟩) ?_ ?_
       rotate_left
       ·simp only [Act.put, List.setIfInBounds_toArray, List.set_cons_zero, List.set_cons_succ, i64_w, i32_w]
        rfl
       refine pure_ (i := 16) (N := some 27) (v := undef) (a' := ?_) #[true, true, true, true, true, true, true, true, true, true, true, true, true, true, true, true, true, false, false, false, false, false, false, false, false, false] rfl rfl (any_of HT_.out (by kernel_rfl)) (fun _ _ _ h => h) (Or.inr ⟨by rfl, rfl⟩) ?_ ?_
       rotate_left
       ·simp only [Act.put, List.setIfInBounds_toArray, List.set_cons_zero, List.set_cons_succ, i64_w, i32_w]
        rfl
       refine pure_ (i := 17) (N := some 28) (v := undef) (a' := ?_) #[true, true, true, true, true, true, true, true, true, true, true, true, true, true, true, true, true, true, false, false, false, false, false, false, false, false] rfl rfl (any_of HT_.out (by kernel_rfl)) (fun _ _ _ h => h) (Or.inr ⟨by rfl, rfl⟩) ?_ ?_
       rotate_left
       ·simp only [Act.put, List.setIfInBounds_toArray, List.set_cons_zero, List.set_cons_succ, i64_w, i32_w]
        rfl
       refine pure_ (i := 18) (N := some 29) (v := undef) (a' := ?_) #[true, true, true, true, true, true, true, true, true, true, true, true, true, true, true, true, true, true, true, false, false, false, false, false, false, false] rfl rfl (any_of HT_.out (by kernel_rfl)) (fun _ _ _ h => h) (Or.inr ⟨by rfl, rfl⟩) ?_ ?_
       rotate_left
       ·simp only [Act.put, List.setIfInBounds_toArray, List.set_cons_zero, List.set_cons_succ, i64_w, i32_w]
        rfl
       refine pure_ (i := 19) (N := some 30) (v := undef) (a' := ?_) #[true, true, true, true, true, true, true, true, true, true, true, true, true, true, true, true, true, true, true, true, false, false, false, false, false, false] rfl rfl (any_of HT_.out (by kernel_rfl)) (fun _ _ _ h => h) (Or.inr ⟨by rfl, rfl⟩) ?_ ?_
       rotate_left
       ·simp only [Act.put, List.setIfInBounds_toArray, List.set_cons_zero, List.set_cons_succ, i64_w, i32_w]
        rfl
       refine pure_ (i := 20) (N := some 31) (v := undef) (a' := ?_) #[true, true, true, true, true, true, true, true, true, true, true, true, true, true, true, true, true, true, true, true, true, false, false, false, false, false] rfl rfl (any_of HT_.out (by kernel_rfl)) (fun _ _ _ h => h) (Or.inr ⟨by rfl, rfl⟩) ?_ ?_
       rotate_left
       ·simp only [Act.put, List.setIfInBounds_toArray, List.set_cons_zero, List.set_cons_succ, i64_w, i32_w]
        rfl
       refine pure_ (i := 21) (N := some 32) (v := undef) (a' := ?_) #[true, true, true, true, true, true, true, true, true, true, true, true, true, true, true, true, true, true, true, true, true, true, false, false, false, false] rfl rfl (any_of HT_.out (by kernel_rfl)) (fun _ _ _ h => h) (Or.inr ⟨by rfl, rfl⟩) ?_ ?_
       rotate_left
       ·simp only [Act.put, List.setIfInBounds_toArray, List.set_cons_zero, List.set_cons_succ, i64_w, i32_w]
        rfl
       refine pure_ (i := 22) (N := some 33) (v := undef) (a' := ?_) #[true, true, true, true, true, true, true, true, true, true, true, true, true, true, true, true, true, true, true, true, true, true, true, false, false, false] rfl rfl (any_of HT_.out (by kernel_rfl)) (fun _ _ _ h => h) (Or.inr ⟨by rfl, rfl⟩) ?_ ?_
       rotate_left
       ·simp only [Act.put, List.setIfInBounds_toArray, List.set_cons_zero, List.set_cons_succ, i64_w, i32_w]
        rfl
       refine pure_ (i := 23) (N := some 34) (v := undef) (a' := ?_) #[true, true, true, true, true, true, true, true, true, true, true, true, true, true, true, true, true, true, true, true, true, true, true, true, false, false] rfl rfl (any_of HT_.out (by kernel_rfl)) (fun _ _ _ h => h) (Or.inr ⟨by rfl, rfl⟩) ?_ ?_
       rotate_left
       ·simp only [Act.put, List.setIfInBounds_toArray, List.set_cons_zero, List.set_cons_succ, i64_w, i32_w]
        rfl
       refine pure_ (i := 24) (N := some 35) (v := undef) (a' := ?_) #[true, true, true, true, true, true, true, true, true, true, true, true, true, true, true, true, true, true, true, true, true, true, true, true, true, false] rfl rfl (any_of HT_.out (by kernel_rfl)) (fun _ _ _ h => h) (Or.inr ⟨by rfl, rfl⟩) ?_ ?_
       rotate_left
       ·simp only [Act.put, List.setIfInBounds_toArray, List.set_cons_zero, List.set_cons_succ, i64_w, i32_w]
        rfl
       refine pure_ (i := 25) (N := some 36) (v := ?_) (a' := ?_) #[true, true, true, true, true, true, true, true, true, true, true, true, true, true, true, true, true, true, true, true, true, true, true, true, true, true] rfl rfl (any_of HT_.out (by kernel_rfl)) (fun _ _ _ h => h) (Or.inl ⟨by rfl, ?_⟩) ?_ ?_
       rotate_left
       ·intro w'
        go_simp
        with_reducible rfl
       rotate_left
       ·simp only [Act.put, List.setIfInBounds_toArray, List.set_cons_zero, List.set_cons_succ, i64_w, i32_w]
        rfl
       refine done_ (done_of HT_.out (by kernel_rfl)) ?_
       try go_wp2
       go_meet
       case rel => exact ⟨_, (true), (by first | rfl | (simp; done) | (simp [*]; done)), H', ⟨by have := HK1.out; first | omega | exact Nat.le_refl _⟩, ⟨by exact pbE HB.out⟩⟩
     ·rw [if_neg c4] at H
      exact absurd H (by simp)
    case rest =>
     clear HC3
     try clear c1
     try clear p1
     try clear q1
     try clear hx1
     try clear p2
     try clear c4
     try clear c6
     try clear c7
     try clear c7b0
     try clear c8
     try clear c9
     try clear c10
     try clear c13
     try clear p13
     try clear q13
     try clear hx13
     try clear hx138_0
     try clear hx138_1
     try clear hx138_2
     try clear hx138_3
     try clear hx138_4
     try clear hx138_5
     try clear p138
     try clear q138
     obtain ⟨kq, x36_2, rfl, HA, HJ2, HB⟩ := hcut
     cases kq with
     | zero => exact absurd HA.out (by simp [r18_Is.j1])
     | succ kj2 =>
      have H := HA.out
      clear HA
      simp only [r18_Is.j1] at H
      by_cases c17 : x36_2 = true
      ·subst c17
       rw [if_pos rfl] at H
       obtain rfl := Option.some.inj H
       go_wp2
       go_ret
       exact ⟨by first | rfl | (simp [errW_none, errW_some] <;> rfl) | (simp [*, errW_none, errW_some] <;> rfl), by exact pbE HB.out⟩
      ·replace c17 := Bool.eq_false_iff.mpr c17
       subst c17
       rw [if_neg (show ¬ (false = true) by decide)] at H
       have H' := Az.mk H
       clear H
       go_wp2
       go_loopg [4] kj2 (fun kq v4 w' => ∃ (x4_3 : Int), v4 = .int .i64 x4_3 ∧ Az (r18_Is.l1 kq l0 x3_1 x4_3 = some r) ∧ Az (kq ≤ kj2) ∧ Az (Below w.heap.size w w'))
       case atStart => exact ⟨(0), (by first | rfl | (simp; done) | (simp [*]; done)), H', ⟨Nat.le_refl _⟩, ⟨by exact pbE HB.out⟩⟩
       case round =>
        clear H'
        try clear c1
        try clear p1
        try clear q1
        try clear hx1
        try clear p2
        try clear c4
        try clear c6
        try clear c7
        try clear c7b0
        try clear c8
        try clear c9
        try clear c10
        try clear c13
        try clear p13
        try clear q13
        try clear hx13
        try clear c17
        try clear hx138_0
        try clear hx138_1
        try clear hx138_2
        try clear hx138_3
        try clear hx138_4
        try clear hx138_5
        try clear p1
        try clear p13
        try clear p138
        try clear p2
        try clear q1
        try clear q13
        try clear q138
        obtain ⟨x4_3, rfl, HA, HK3, HB⟩ := hrel
        cases gk with
        | zero => exact absurd HA.out (by simp [r18_Is.l1])
        | succ k3 =>
         have H := HA.out
         clear HA
         simp only [r18_Is.l1] at H
         by_cases c18 : x4_3 < x3_1
         ·rw [if_pos c18] at H
          have c18b0 : decide (x4_3 < x3_1) = true := decide_eq_true c18
          clear c18
          by_cases c19 : 0 ≤ x4_3
          ·rw [if_pos c19] at H
           have c19b0 : decide (0 ≤ x4_3) = true := decide_eq_true c19
           clear c19
           by_cases c20 : x4_3 < (l0.length : Int)
           ·rw [if_pos c20] at H
            have c20b0 : decide (x4_3 < (l0.length : Int)) = true := decide_eq_true c20
            clear c20
            by_cases c21 : 0 ≤ x3_1
            ·rw [if_pos c21] at H
             have c21b0 : decide (0 ≤ x3_1) = true := decide_eq_true c21
             clear c21
             by_cases c22 : x3_1 < (l0.length : Int)
             ·rw [if_pos c22] at H
              have c22b0 : decide (x3_1 < (l0.length : Int)) = true := decide_eq_true c22
              clear c22
              replace H := Option.bind_eq_some_iff.mp H
              obtain ⟨t144, A230, H⟩ := H
              try dsimp only at H
              have A23 := Az.mk A230
              clear A230
              by_cases c24 : t144 = true
              ·subst c24
               rw [if_pos rfl] at H
               obtain rfl := Option.some.inj H
               try go_wp2
               replace HB := Az.mk (pb1 HB.out)
               have p142 : 0 ≤ (x4_3 : Int) := of_decide_eq_true (by first | (with_reducible assumption) | assumption)
               have q142 : x4_3 < (l0.length : Int) := of_decide_eq_true (by first | (with_reducible assumption) | assumption)
               obtain ⟨ad142, A142_4, c142_4, e142, hx142_0, hx142_1, hx142_2, hx142_3, hx142_4, hx142_5, hl142_4, hi142_4⟩ := at_T27 HR0.out x4_3 p142 q142
               have hw142_5 := hx142_5
               have hw142_4 := hx142_4
               have hw142_3 := hx142_3
               have hw142_2 := hx142_2
               have hw142_1 := hx142_1
               have hw142_0 := hx142_0
               cases e142
               replace hx142_0 := (HB.out.cell (World.block_lt_of_cell? w _ hx142_0)).trans hx142_0
               replace hx142_1 := (HB.out.cell (World.block_lt_of_cell? w _ hx142_1)).trans hx142_1
               replace hx142_2 := (HB.out.cell (World.block_lt_of_cell? w _ hx142_2)).trans hx142_2
               replace hx142_3 := (HB.out.cell (World.block_lt_of_cell? w _ hx142_3)).trans hx142_3
               replace hx142_4 := (HB.out.cell (World.block_lt_of_cell? w _ hx142_4)).trans hx142_4
               replace hx142_5 := (HB.out.cell (World.block_lt_of_cell? w _ hx142_5)).trans hx142_5
               have HR142_4 := Az.mk hi142_4
               have HC142_4 := Az.mk hl142_4
               clear hi142_4 hl142_4
               replace p142 := eq_true p142
               replace q142 := eq_true q142
               have p143 : 0 ≤ (x3_1 : Int) := of_decide_eq_true (by first | (with_reducible assumption) | assumption)
               have q143 : x3_1 < (l0.length : Int) := of_decide_eq_true (by first | (with_reducible assumption) | assumption)
               obtain ⟨ad143, A143_4, c143_4, e143, hx143_0, hx143_1, hx143_2, hx143_3, hx143_4, hx143_5, hl143_4, hi143_4⟩ := at_T27 HR0.out x3_1 p143 q143
               have hw143_5 := hx143_5
               have hw143_4 := hx143_4
               have hw143_3 := hx143_3
               have hw143_2 := hx143_2
               have hw143_1 := hx143_1
               have hw143_0 := hx143_0
               obtain rfl : ad142 = ad143 := (by injection e143)
               replace hx143_0 := (HB.out.cell (World.block_lt_of_cell? w _ hx143_0)).trans hx143_0
               replace hx143_1 := (HB.out.cell (World.block_lt_of_cell? w _ hx143_1)).trans hx143_1
               replace hx143_2 := (HB.out.cell (World.block_lt_of_cell? w _ hx143_2)).trans hx143_2
               replace hx143_3 := (HB.out.cell (World.block_lt_of_cell? w _ hx143_3)).trans hx143_3
               replace hx143_4 := (HB.out.cell (World.block_lt_of_cell? w _ hx143_4)).trans hx143_4
               replace hx143_5 := (HB.out.cell (World.block_lt_of_cell? w _ hx143_5)).trans hx143_5
               have HR143_4 := Az.mk hi143_4
               have HC143_4 := Az.mk hl143_4
               clear hi143_4 hl143_4
               replace p143 := eq_true p143
               replace q143 := eq_true q143
               refine start_ (n := 11) (S := fun w' => w'.cell? (ad142.add ((x4_3).toNat * 6)) = some (.int .i64 ((rd_T27 l0 x4_3).f0)) ∧ w'.cell? ⟨(ad142.add ((x4_3).toNat * 6)).block, (ad142.add ((x4_3).toNat * 6)).off + 1, none⟩ = some (.string ((rd_T27 l0 x4_3).f1.f0)) ∧ w'.cell? ⟨(ad142.add ((x4_3).toNat * 6)).block, (ad142.add ((x4_3).toNat * 6)).off + 2, none⟩ = some (.string ((rd_T27 l0 x4_3).f1.f1)) ∧ w'.cell? ⟨(ad142.add ((x4_3).toNat * 6)).block, (ad142.add ((x4_3).toNat * 6)).off + 3, none⟩ = some (.int .i64 ((rd_T27 l0 x4_3).f2)) ∧ w'.cell? ⟨(ad142.add ((x4_3).toNat * 6)).block, (ad142.add ((x4_3).toNat * 6)).off + 4, none⟩ = some (.slice A142_4 ((rd_T27 l0 x4_3).f3).length c142_4) ∧ w'.cell? ⟨(ad142.add ((x4_3).toNat * 6)).block, (ad142.add ((x4_3).toNat * 6)).off + 5, none⟩ = some (.int .i64 ((rd_T27 l0 x4_3).f4)) ∧ w'.cell? (ad142.add ((x3_1).toNat * 6)) = some (.int .i64 ((rd_T27 l0 x3_1).f0)) ∧ w'.cell? ⟨(ad142.add ((x3_1).toNat * 6)).block, (ad142.add ((x3_1).toNat * 6)).off + 1, none⟩ = some (.string ((rd_T27 l0 x3_1).f1.f0)) ∧ w'.cell? ⟨(ad142.add ((x3_1).toNat * 6)).block, (ad142.add ((x3_1).toNat * 6)).off + 2, none⟩ = some (.string ((rd_T27 l0 x3_1).f1.f1)) ∧ w'.cell? ⟨(ad142.add ((x3_1).toNat * 6)).block, (ad142.add ((x3_1).toNat * 6)).off + 3, none⟩ = some (.int .i64 ((rd_T27 l0 x3_1).f2)) ∧ w'.cell? ⟨(ad142.add ((x3_1).toNat * 6)).block, (ad142.add ((x3_1).toNat * 6)).off + 4, none⟩ = some (.slice A143_4 ((rd_T27 l0 x3_1).f3).length c143_4) ∧ w'.cell? ⟨(ad142.add ((x3_1).toNat * 6)).block, (ad142.add ((x3_1).toNat * 6)).off + 5, none⟩ = some (.int .i64 ((rd_T27 l0 x3_1).f4))) (ds := []) #[false, false, false, false, false, false, false, false, false, false, false] (by kernel_rfl) rfl rfl ⟨((HB.out.cell (World.block_lt_of_cell? w _ hw142_0)).trans hw142_0), ((HB.out.cell (World.block_lt_of_cell? w _ hw142_1)).trans hw142_1), ((HB.out.cell (World.block_lt_of_cell? w _ hw142_2)).trans hw142_2), ((HB.out.cell (World.block_lt_of_cell? w _ hw142_3)).trans hw142_3), ((HB.out.cell (World.block_lt_of_cell? w _ hw142_4)).trans hw142_4), ((HB.out.cell (World.block_lt_of_cell? w _ hw142_5)).trans hw142_5), ((HB.out.cell (World.block_lt_of_cell? w _ hw143_0)).trans hw143_0), ((HB.out.cell (World.block_lt_of_cell? w _ hw143_1)).trans hw143_1), ((HB.out.cell (World.block_lt_of_cell? w _ hw143_2)).trans hw143_2), ((HB.out.cell (World.block_lt_of_cell? w _ hw143_3)).trans hw143_3), ((HB.out.cell (World.block_lt_of_cell? w _ hw143_4)).trans hw143_4), ((HB.out.cell (World.block_lt_of_cell? w _ hw143_5)).trans hw143_5)⟩ (fun hHeld => ?_); refine with_tabW r18_Is.tab9 r18_Is.bits9 (fun HT_ HW_ => ?_)
               generalize wr.drew = w25 at HB HR142_4 HR143_4 hx142_0 hx142_1 hx142_2 hx142_3 hx142_4 hx142_5 hx143_0 hx143_1 hx143_2 hx143_3 hx143_4 hx143_5 hHeld ⊢
               refine pure_ (i := 0) (N := some 42) (v := ?_) (a' := ?_) #[true, false, false, false, false, false, false, false, false, false, false] rfl rfl (any_of HT_.out (by kernel_rfl)) (fun _ _ _ h => h) (Or.inl ⟨by rfl, ?_⟩) ?_ ?_
               rotate_left
               ·intro w'
                go_simp
                with_reducible rfl
               rotate_left
               ·simp only [Act.put, List.setIfInBounds_toArray, List.set_cons_zero, List.set_cons_succ, i64_w, i32_w]
                rfl
               refine pure_ (i := 1) (N := some 43) (v := ?_) (a' := ?_) #[true, true, false, false, false, false, false, false, false, false, false] rfl rfl (any_of HT_.out (by kernel_rfl)) (fun _ _ _ h => h) (Or.inl ⟨by rfl, ?_⟩) ?_ ?_
               rotate_left
               ·intro w'
                go_simp
                with_reducible rfl
               rotate_left
               ·simp only [Act.put, List.setIfInBounds_toArray, List.set_cons_zero, List.set_cons_succ, i64_w, i32_w]
                rfl
               refine pure_ (i := 2) (N := some 44) (v := ?_) (a' := ?_) #[true, true, true, false, false, false, false, false, false, false, false] rfl rfl (any_of HT_.out (by kernel_rfl)) (fun _ _ _ h => h) (Or.inl ⟨by rfl, ?_⟩) ?_ ?_
               rotate_left
               ·intro w'
                go_simp
                with_reducible rfl
               rotate_left
               ·simp only [Act.put, List.setIfInBounds_toArray, List.set_cons_zero, List.set_cons_succ, i64_w, i32_w]
                rfl
               refine pure_ (i := 3) (N := some 45) (v := ?_) (a' := ?_) #[true, true, true, true, false, false, false, false, false, false, false] rfl rfl (any_of HT_.out (by kernel_rfl)) (fun _ _ _ h => h) (Or.inl ⟨by rfl, ?_⟩) ?_ ?_
               rotate_left
               ·intro w'
                go_simp
                with_reducible rfl
               rotate_left
               ·simp only [Act.put, List.setIfInBounds_toArray, List.set_cons_zero, List.set_cons_succ, i64_w, i32_w]
                rfl
               refine pure_ (i := 5) (N := some 47) (v := ?_) (a' := ?_) #[true, true, true, true, false, true, false, false, false, false, false] rfl rfl (any_of HT_.out (by kernel_rfl)) (fun _ _ _ h => h) (Or.inl ⟨by rfl, ?_⟩) ?_ ?_
               rotate_left
               ·intro w'
                go_simp
                with_reducible rfl
               rotate_left
               ·simp only [Act.put, List.setIfInBounds_toArray, List.set_cons_zero, List.set_cons_succ, i64_w, i32_w]
                rfl
               refine pure_ (i := 6) (N := some 48) (v := ?_) (a' := ?_) #[true, true, true, true, false, true, true, false, false, false, false] rfl rfl (any_of HT_.out (by kernel_rfl)) (fun _ _ _ h => h) (Or.inl ⟨by rfl, ?_⟩) ?_ ?_
               rotate_left
               ·intro w'
                go_simp
                with_reducible rfl
               rotate_left
               ·simp only [Act.put, List.setIfInBounds_toArray, List.set_cons_zero, List.set_cons_succ, i64_w, i32_w]
                rfl
               refine pure_ (i := 7) (N := some 49) (v := ?_) (a' := ?_) #[true, true, true, true, false, true, true, true, false, false, false] rfl rfl (any_of HT_.out (by kernel_rfl)) (fun _ _ _ h => h) (Or.inl ⟨by rfl, ?_⟩) ?_ ?_
               rotate_left
               ·intro w'
                go_simp
                with_reducible rfl
               rotate_left
               ·simp only [Act.put, List.setIfInBounds_toArray, List.set_cons_zero, List.set_cons_succ, i64_w, i32_w]
                rfl
               refine pure_ (i := 8) (N := some 50) (v := ?_) (a' := ?_) #[true, true, true, true, false, true, true, true, true, false, false] rfl rfl (any_of HT_.out (by kernel_rfl)) (fun _ _ _ h => h) (Or.inl ⟨by rfl, ?_⟩) ?_ ?_
               rotate_left
               ·intro w'
                go_simp
                with_reducible rfl
               rotate_left
               ·simp only [Act.put, List.setIfInBounds_toArray, List.set_cons_zero, List.set_cons_succ, i64_w, i32_w]
                rfl
               refine take_ (i := 4) (N := some 46) (v := ?_) (a' := ?_) #[true, true, true, true, true, true, true, true, true, false, false] rfl rfl (take_ofW HT_.out HW_.out (by kernel_rfl)) (fun _ _ _ h => h) (Or.inl ⟨by rfl, ?_⟩) hHeld ?_ ?_
               rotate_left
               ·rintro w' ⟨s0, s1, s2, s3, s4, s5, s6, s7, s8, s9, s10, s11⟩
                go_simp
                with_reducible rfl
               rotate_left
               ·simp only [Act.put, List.setIfInBounds_toArray, List.set_cons_zero, List.set_cons_succ, i64_w, i32_w]
                rfl
               refine take_ (i := 9) (N := some 51) (v := ?_) (a' := ?_) #[true, true, true, true, true, true, true, true, true, true, false] rfl rfl (take_ofW HT_.out HW_.out (by kernel_rfl)) (fun _ _ _ h => h) (Or.inl ⟨by rfl, ?_⟩) hHeld ?_ ?_
               rotate_left
               ·rintro w' ⟨s0, s1, s2, s3, s4, s5, s6, s7, s8, s9, s10, s11⟩
                go_simp
                with_reducible rfl
               rotate_left
               ·simp only [Act.put, List.setIfInBounds_toArray, List.set_cons_zero, List.set_cons_succ, i64_w, i32_w]
                rfl
               refine one_ (i := 10) (N := some 52) #[true, true, true, true, true, true, true, true, true, true, true] rfl rfl (one_of HT_.out (by kernel_rfl)) (by decide) (fun K hK => ?_)
               refine goes_ Try.func20 (by kernel_rfl) rfl #[.agg #[.string ((rd_T27 l0 x4_3).f1.f0), .string ((rd_T27 l0 x4_3).f1.f1)], .agg #[.string ((rd_T27 l0 x3_1).f1.f0), .string ((rd_T27 l0 x3_1).f1.f1)]] (by rfl) rfl rfl (by (try simp only [List.map_toArray, List.map_cons, List.map_nil]); first | done | rfl | (simp only [List.length_drop, List.length_take]; rfl)) ?_
               with_reducible refine (r02_Meet.calls ((rd_T27 l0 x4_3).f1.f0) ((rd_T27 l0 x4_3).f1.f1) ((rd_T27 l0 x3_1).f1.f0) ((rd_T27 l0 x3_1).f1.f1) true _ A23.out).mono ?_
               rintro e w26 ⟨rfl, hb⟩
               refine ⟨_, rfl, ?_⟩
               replace HB := Az.mk (pbT (by exact pbE HB.out) hb)
               (try clear hb)
               (try clear hb2)
               (try clear hk)
               (try clear hi)
               refine hK.out _ _ ⟨((HB.out.cell (World.block_lt_of_cell? w _ hw142_0)).trans hw142_0), ((HB.out.cell (World.block_lt_of_cell? w _ hw142_1)).trans hw142_1), ((HB.out.cell (World.block_lt_of_cell? w _ hw142_2)).trans hw142_2), ((HB.out.cell (World.block_lt_of_cell? w _ hw142_3)).trans hw142_3), ((HB.out.cell (World.block_lt_of_cell? w _ hw142_4)).trans hw142_4), ((HB.out.cell (World.block_lt_of_cell? w _ hw142_5)).trans hw142_5), ((HB.out.cell (World.block_lt_of_cell? w _ hw143_0)).trans hw143_0), ((HB.out.cell (World.block_lt_of_cell? w _ hw143_1)).trans hw143_1), ((HB.out.cell (World.block_lt_of_cell? w _ hw143_2)).trans hw143_2), ((HB.out.cell (World.block_lt_of_cell? w _ hw143_3)).trans hw143_3), ((HB.out.cell (World.block_lt_of_cell? w _ hw143_4)).trans hw143_4), ((HB.out.cell (World.block_lt_of_cell? w _ hw143_5)).trans hw143_5)⟩ (fun hHeld => ?_)
               clear hK K
               refine norm_ (a' := ?_) ?_ ?_
               rotate_left
               ·show Act.put _ (some 52) _ = _
                simp only [Act.put, List.setIfInBounds_toArray, List.set_cons_zero, List.set_cons_succ, i64_w, i32_w]
                rfl
               refine done_ (done_of HT_.out (by kernel_rfl)) ?_
               try go_wp2
               go_ret
               exact ⟨by first | rfl | (simp [errW_none, errW_some] <;> rfl) | (simp [*, errW_none, errW_some] <;> rfl), by exact pbE HB.out⟩
              ·replace c24 := Bool.eq_false_iff.mpr c24
               subst c24
               rw [if_neg (show ¬ (false = true) by decide)] at H
               have H' := Az.mk H
               clear H
               try go_wp2
               replace HB := Az.mk (pb1 HB.out)
               have p142 : 0 ≤ (x4_3 : Int) := of_decide_eq_true (by first | (with_reducible assumption) | assumption)
               have q142 : x4_3 < (l0.length : Int) := of_decide_eq_true (by first | (with_reducible assumption) | assumption)
               obtain ⟨ad142, A142_4, c142_4, e142, hx142_0, hx142_1, hx142_2, hx142_3, hx142_4, hx142_5, hl142_4, hi142_4⟩ := at_T27 HR0.out x4_3 p142 q142
               have hw142_5 := hx142_5
               have hw142_4 := hx142_4
               have hw142_3 := hx142_3
               have hw142_2 := hx142_2
               have hw142_1 := hx142_1
               have hw142_0 := hx142_0
               cases e142
               replace hx142_0 := (HB.out.cell (World.block_lt_of_cell? w _ hx142_0)).trans hx142_0
               replace hx142_1 := (HB.out.cell (World.block_lt_of_cell? w _ hx142_1)).trans hx142_1
               replace hx142_2 := (HB.out.cell (World.block_lt_of_cell? w _ hx142_2)).trans hx142_2
               replace hx142_3 := (HB.out.cell (World.block_lt_of_cell? w _ hx142_3)).trans hx142_3
               replace hx142_4 := (HB.out.cell (World.block_lt_of_cell? w _ hx142_4)).trans hx142_4
               replace hx142_5 := (HB.out.cell (World.block_lt_of_cell? w _ hx142_5)).trans hx142_5
               have HR142_4 := Az.mk hi142_4
               have HC142_4 := Az.mk hl142_4
               clear hi142_4 hl142_4
               replace p142 := eq_true p142
               replace q142 := eq_true q142
               have p143 : 0 ≤ (x3_1 : Int) := of_decide_eq_true (by first | (with_reducible assumption) | assumption)
               have q143 : x3_1 < (l0.length : Int) := of_decide_eq_true (by first | (with_reducible assumption) | assumption)
               obtain ⟨ad143, A143_4, c143_4, e143, hx143_0, hx143_1, hx143_2, hx143_3, hx143_4, hx143_5, hl143_4, hi143_4⟩ := at_T27 HR0.out x3_1 p143 q143
               have hw143_5 := hx143_5
               have hw143_4 := hx143_4
               have hw143_3 := hx143_3
               have hw143_2 := hx143_2
               have hw143_1 := hx143_1
               have hw143_0 := hx143_0
               obtain rfl : ad142 = ad143 := (by injection e143)
               replace hx143_0 := (HB.out.cell (World.block_lt_of_cell? w _ hx143_0)).trans hx143_0
               replace hx143_1 := (HB.out.cell (World.block_lt_of_cell? w _ hx143_1)).trans hx143_1
               replace hx143_2 := (HB.out.cell (World.block_lt_of_cell? w _ hx143_2)).trans hx143_2
               replace hx143_3 := (HB.out.cell (World.block_lt_of_cell? w _ hx143_3)).trans hx143_3
               replace hx143_4 := (HB.out.cell (World.block_lt_of_cell? w _ hx143_4)).trans hx143_4
               replace hx143_5 := (HB.out.cell (World.block_lt_of_cell? w _ hx143_5)).trans hx143_5
               have HR143_4 := Az.mk hi143_4
               have HC143_4 := Az.mk hl143_4
               clear hi143_4 hl143_4
               replace p143 := eq_true p143
               replace q143 := eq_true q143
               refine start_ (n := 11) (S := fun w' => w'.cell? (ad142.add ((x4_3).toNat * 6)) = some (.int .i64 ((rd_T27 l0 x4_3).f0)) ∧ w'.cell? ⟨(ad142.add ((x4_3).toNat * 6)).block, (ad142.add ((x4_3).toNat * 6)).off + 1, none⟩ = some (.string ((rd_T27 l0 x4_3).f1.f0)) ∧ w'.cell? ⟨(ad142.add ((x4_3).toNat * 6)).block, (ad142.add ((x4_3).toNat * 6)).off + 2, none⟩ = some (.string ((rd_T27 l0 x4_3).f1.f1)) ∧ w'.cell? ⟨(ad142.add ((x4_3).toNat * 6)).block, (ad142.add ((x4_3).toNat * 6)).off + 3, none⟩ = some (.int .i64 ((rd_T27 l0 x4_3).f2)) ∧ w'.cell? ⟨(ad142.add ((x4_3).toNat * 6)).block, (ad142.add ((x4_3).toNat * 6)).off + 4, none⟩ = some (.slice A142_4 ((rd_T27 l0 x4_3).f3).length c142_4) ∧ w'.cell? ⟨(ad142.add ((x4_3).toNat * 6)).block, (ad142.add ((x4_3).toNat * 6)).off + 5, none⟩ = some (.int .i64 ((rd_T27 l0 x4_3).f4)) ∧ w'.cell? (ad142.add ((x3_1).toNat * 6)) = some (.int .i64 ((rd_T27 l0 x3_1).f0)) ∧ w'.cell? ⟨(ad142.add ((x3_1).toNat * 6)).block, (ad142.add ((x3_1).toNat * 6)).off + 1, none⟩ = some (.string ((rd_T27 l0 x3_1).f1.f0)) ∧ w'.cell? ⟨(ad142.add ((x3_1).toNat * 6)).block, (ad142.add ((x3_1).toNat * 6)).off + 2, none⟩ = some (.string ((rd_T27 l0 x3_1).f1.f1)) ∧ w'.cell? ⟨(ad142.add ((x3_1).toNat * 6)).block, (ad142.add ((x3_1).toNat * 6)).off + 3, none⟩ = some (.int .i64 ((rd_T27 l0 x3_1).f2)) ∧ w'.cell? ⟨(ad142.add ((x3_1).toNat * 6)).block, (ad142.add ((x3_1).toNat * 6)).off + 4, none⟩ = some (.slice A143_4 ((rd_T27 l0 x3_1).f3).length c143_4) ∧ w'.cell? ⟨(ad142.add ((x3_1).toNat * 6)).block, (ad142.add ((x3_1).toNat * 6)).off + 5, none⟩ = some (.int .i64 ((rd_T27 l0 x3_1).f4))) (ds := []) #[false, false, false, false, false, false, false, false, false, false, false] (by kernel_rfl) rfl rfl ⟨((HB.out.cell (World.block_lt_of_cell? w _ hw142_0)).trans hw142_0), ((HB.out.cell (World.block_lt_of_cell? w _ hw142_1)).trans hw142_1), ((HB.out.cell (World.block_lt_of_cell? w _ hw142_2)).trans hw142_2), ((HB.out.cell (World.block_lt_of_cell? w _ hw142_3)).trans hw142_3), ((HB.out.cell (World.block_lt_of_cell? w _ hw142_4)).trans hw142_4), ((HB.out.cell (World.block_lt_of_cell? w _ hw142_5)).trans hw142_5), ((HB.out.cell (World.block_lt_of_cell? w _ hw143_0)).trans hw143_0), ((HB.out.cell (World.block_lt_of_cell? w _ hw143_1)).trans hw143_1), ((HB.out.cell (World.block_lt_of_cell? w _ hw143_2)).trans hw143_2), ((HB.out.cell (World.block_lt_of_cell? w _ hw143_3)).trans hw143_3), ((HB.out.cell (World.block_lt_of_cell? w _ hw143_4)).trans hw143_4), ((HB.out.cell (World.block_lt_of_cell? w _ hw143_5)).trans hw143_5)⟩ (fun hHeld => ?_); refine with_tabW r18_Is.tab9 r18_Is.bits9 (fun HT_ HW_ => ?_)
               generalize wr.drew = w27 at HB HR142_4 HR143_4 hx142_0 hx142_1 hx142_2 hx142_3 hx142_4 hx142_5 hx143_0 hx143_1 hx143_2 hx143_3 hx143_4 hx143_5 hHeld ⊢
               refine pure_ (i := 0) (N := some 42) (v := ?_) (a' := ?_) #[true, false, false, false, false, false, false, false, false, false, false] rfl rfl (any_of HT_.out (by kernel_rfl)) (fun _ _ _ h => h) (Or.inl ⟨by rfl, ?_⟩) ?_ ?_
               rotate_left
               ·intro w'
                go_simp
                with_reducible rfl
               rotate_left
               ·simp only [Act.put, List.setIfInBounds_toArray, List.set_cons_zero, List.set_cons_succ, i64_w, i32_w]
                rfl
               refine pure_ (i := 1) (N := some 43) (v := ?_) (a' := ?_) #[true, true, false, false, false, false, false, false, false, false, false] rfl rfl (any_of HT_.out (by kernel_rfl)) (fun _ _ _ h => h) (Or.inl ⟨by rfl, ?_⟩) ?_ ?_
               rotate_left
               ·intro w'
                go_simp
                with_reducible rfl
               rotate_left
               ·simp only [Act.put, List.setIfInBounds_toArray, List.set_cons_zero, List.set_cons_succ, i64_w, i32_w]
                rfl
               refine pure_ (i := 2) (N := some 44) (v := ?_) (a' := ?_) #[true, true, true, false, false, false, false, false, false, false, false] rfl rfl (any_of HT_.out (by kernel_rfl)) (fun _ _ _ h => h) (Or.inl ⟨by rfl, ?_⟩) ?_ ?_
               rotate_left
               ·intro w'
                go_simp
                with_reducible rfl
               rotate_left
               ·simp only [Act.put, List.setIfInBounds_toArray, List.set_cons_zero, List.set_cons_succ, i64_w, i32_w]
                rfl
               refine pure_ (i := 3) (N := some 45) (v := ?_) (a' := ?_) #[true, true, true, true, false, false, false, false, false, false, false] rfl rfl (any_of HT_.out (by kernel_rfl)) (fun _ _ _ h => h) (Or.inl ⟨by rfl, ?_⟩) ?_ ?_
               rotate_left
               ·intro w'
                go_simp
                with_reducible rfl
               rotate_left
               ·simp only [Act.put, List.setIfInBounds_toArray, List.set_cons_zero, List.set_cons_succ, i64_w, i32_w]
                rfl
               refine pure_ (i := 5) (N := some 47) (v := ?_) (a' := ?_) #[true, true, true, true, false, true, false, false, false, false, false] rfl rfl (any_of HT_.out (by kernel_rfl)) (fun _ _ _ h => h) (Or.inl ⟨by rfl, ?_⟩) ?_ ?_
               rotate_left
               ·intro w'
                go_simp
                with_reducible rfl
               rotate_left
               ·simp only [Act.put, List.setIfInBounds_toArray, List.set_cons_zero, List.set_cons_succ, i64_w, i32_w]
                rfl
               refine pure_ (i := 6) (N := some 48) (v := ?_) (a' := ?_) #[true, true, true, true, false, true, true, false, false, false, false] rfl rfl (any_of HT_.out (by kernel_rfl)) (fun _ _ _ h => h) (Or.inl ⟨by rfl, ?_⟩) ?_ ?_
               rotate_left
               ·intro w'
                go_simp
                with_reducible rfl
               rotate_left
               ·simp only [Act.put, List.setIfInBounds_toArray, List.set_cons_zero, List.set_cons_succ, i64_w, i32_w]
                rfl
               refine pure_ (i := 7) (N := some 49) (v := ?_) (a' := ?_) #[true, true, true, true, false, true, true, true, false, false, false] rfl rfl (any_of HT_.out (by kernel_rfl)) (fun _ _ _ h => h) (Or.inl ⟨by rfl, ?_⟩) ?_ ?_
               rotate_left
               ·intro w'
                go_simp
                with_reducible rfl
               rotate_left
               ·simp only [Act.put, List.setIfInBounds_toArray, List.set_cons_zero, List.set_cons_succ, i64_w, i32_w]
                rfl
               refine pure_ (i := 8) (N := some 50) (v := ?_) (a' := ?_) #[true, true, true, true, false, true, true, true, true, false, false] rfl rfl (any_of HT_.out (by kernel_rfl)) (fun _ _ _ h => h) (Or.inl ⟨by rfl, ?_⟩) ?_ ?_
               rotate_left
               ·intro w'
                go_simp
                with_reducible rfl
               rotate_left
               ·simp only [Act.put, List.setIfInBounds_toArray, List.set_cons_zero, List.set_cons_succ, i64_w, i32_w]
                rfl
               refine take_ (i := 4) (N := some 46) (v := ?_) (a' := ?_) #[true, true, true, true, true, true, true, true, true, false, false] rfl rfl (take_ofW HT_.out HW_.out (by kernel_rfl)) (fun _ _ _ h => h) (Or.inl ⟨by rfl, ?_⟩) hHeld ?_ ?_
               rotate_left
               ·rintro w' ⟨s0, s1, s2, s3, s4, s5, s6, s7, s8, s9, s10, s11⟩
                go_simp
                with_reducible rfl
               rotate_left
               ·simp only [Act.put, List.setIfInBounds_toArray, List.set_cons_zero, List.set_cons_succ, i64_w, i32_w]
                rfl
               refine take_ (i := 9) (N := some 51) (v := ?_) (a' := ?_) #[true, true, true, true, true, true, true, true, true, true, false] rfl rfl (take_ofW HT_.out HW_.out (by kernel_rfl)) (fun _ _ _ h => h) (Or.inl ⟨by rfl, ?_⟩) hHeld ?_ ?_
               rotate_left
               ·rintro w' ⟨s0, s1, s2, s3, s4, s5, s6, s7, s8, s9, s10, s11⟩
                go_simp
                with_reducible rfl
               rotate_left
               ·simp only [Act.put, List.setIfInBounds_toArray, List.set_cons_zero, List.set_cons_succ, i64_w, i32_w]
                rfl
               refine one_ (i := 10) (N := some 52) #[true, true, true, true, true, true, true, true, true, true, true] rfl rfl (one_of HT_.out (by kernel_rfl)) (by decide) (fun K hK => ?_)
               refine goes_ Try.func20 (by kernel_rfl) rfl #[.agg #[.string ((rd_T27 l0 x4_3).f1.f0), .string ((rd_T27 l0 x4_3).f1.f1)], .agg #[.string ((rd_T27 l0 x3_1).f1.f0), .string ((rd_T27 l0 x3_1).f1.f1)]] (by rfl) rfl rfl (by (try simp only [List.map_toArray, List.map_cons, List.map_nil]); first | done | rfl | (simp only [List.length_drop, List.length_take]; rfl)) ?_
               with_reducible refine (r02_Meet.calls ((rd_T27 l0 x4_3).f1.f0) ((rd_T27 l0 x4_3).f1.f1) ((rd_T27 l0 x3_1).f1.f0) ((rd_T27 l0 x3_1).f1.f1) false _ A23.out).mono ?_
               rintro e w28 ⟨rfl, hb⟩
               refine ⟨_, rfl, ?_⟩
               replace HB := Az.mk (pbT (by exact pbE HB.out) hb)
               (try clear hb)
               (try clear hb2)
               (try clear hk)
               (try clear hi)
               refine hK.out _ _ ⟨((HB.out.cell (World.block_lt_of_cell? w _ hw142_0)).trans hw142_0), ((HB.out.cell (World.block_lt_of_cell? w _ hw142_1)).trans hw142_1), ((HB.out.cell (World.block_lt_of_cell? w _ hw142_2)).trans hw142_2), ((HB.out.cell (World.block_lt_of_cell? w _ hw142_3)).trans hw142_3), ((HB.out.cell (World.block_lt_of_cell? w _ hw142_4)).trans hw142_4), ((HB.out.cell (World.block_lt_of_cell? w _ hw142_5)).trans hw142_5), ((HB.out.cell (World.block_lt_of_cell? w _ hw143_0)).trans hw143_0), ((HB.out.cell (World.block_lt_of_cell? w _ hw143_1)).trans hw143_1), ((HB.out.cell (World.block_lt_of_cell? w _ hw143_2)).trans hw143_2), ((HB.out.cell (World.block_lt_of_cell? w _ hw143_3)).trans hw143_3), ((HB.out.cell (World.block_lt_of_cell? w _ hw143_4)).trans hw143_4), ((HB.out.cell (World.block_lt_of_cell? w _ hw143_5)).trans hw143_5)⟩ (fun hHeld => ?_)
               clear hK K
               refine norm_ (a' := ?_) ?_ ?_
               rotate_left
               ·show Act.put _ (some 52) _ = _
                simp only [Act.put, List.setIfInBounds_toArray, List.set_cons_zero, List.set_cons_succ, i64_w, i32_w]
                rfl
               refine done_ (done_of HT_.out (by kernel_rfl)) ?_
               try go_wp2
               go_roundg k3
               case measure => have := HK1.out; have := HJ2.out; have := HK3.out; omega
               case rel => exact ⟨(wrap64 (x4_3 + 1)), (by first | rfl | (simp; done) | (simp [*]; done)), H', ⟨by have := HK1.out; have := HJ2.out; have := HK3.out; omega⟩, ⟨by exact pbE HB.out⟩⟩
             ·rw [if_neg c22] at H
              exact absurd H (by simp)
            ·rw [if_neg c21] at H
             exact absurd H (by simp)
           ·rw [if_neg c20] at H
            exact absurd H (by simp)
          ·rw [if_neg c19] at H
           exact absurd H (by simp)
         ·rw [if_neg c18] at H
          have c18b0 : decide (x4_3 < x3_1) = false := decide_eq_false c18
          clear c18
          have H' := Az.mk H
          clear H
          go_wp2
          go_roundg k3
          case measure => have := HK1.out; have := HJ2.out; have := HK3.out; omega
          case rel => exact ⟨(wrap64 (x3_1 + 1)), (by first | rfl | (simp; done) | (simp [*]; done)), H', ⟨by have := HK1.out; have := HJ2.out; have := HK3.out; omega⟩, ⟨by exact pbE HB.out⟩⟩
   ·rw [if_neg c2] at H
    have c2b0 : decide (x3_1 < (l0.length : Int)) = false := decide_eq_false c2
    clear c2
    obtain rfl := Option.some.inj H
    go_wp2
    go_ret
    exact ⟨by first | rfl | (simp [errW_none, errW_some] <;> rfl) | (simp [*, errW_none, errW_some] <;> rfl), by exact pbE HB.out⟩
def r18_List.l0 : Nat → List (S27) → List (S27) → Int → Option (Bool)
 | 0, _, _, _ => none
 | k + 1, x0, x1, x5 => if x5 < (x0.length : Int) then (if 0 ≤ x5 then (if x5 < (x1.length : Int) then ((r06_Same.f k ((rd_T27 x0 x5).f0) ((rd_T27 x0 x5).f1.f0) ((rd_T27 x0 x5).f1.f1) ((rd_T27 x0 x5).f2) ((rd_T27 x0 x5).f3) ((rd_T27 x0 x5).f4) ((rd_T27 x1 x5).f0) ((rd_T27 x1 x5).f1.f0) ((rd_T27 x1 x5).f1.f1) ((rd_T27 x1 x5).f2) ((rd_T27 x1 x5).f3) ((rd_T27 x1 x5).f4)).bind fun t180 => (if t180 = true then (r18_List.l0 k x0 x1 (wrap64 (x5 + 1))) else (some false))) else (none)) else (none)) else (some true)
def r18_List.f (k : Nat) (l0 : List (S27)) (l1 : List (S27)) : Option (Bool) := if (l0.length : Int) = (l1.length : Int) then (r18_List.l0 k l0 l1 0) else (some false)
theorem r18_List.mono_l : ∀ k, (∀ y0 y1 y2, LeO (r18_List.l0 k y0 y1 y2) (r18_List.l0 (k + 1) y0 y1 y2))
 | 0 => fun _ _ _ r h => by simp [r18_List.l0] at h
 | k + 1 => by
  have ih0 := r18_List.mono_l k
  ·intro y0 y1 y2
   unfold r18_List.l0
   repeat' first
   | (with_reducible exact ih0 _ _ _)
   | (with_reducible exact r06_Same.mono _ _ _ _ _ _ _ _ _ _ _ _ _)
   | (with_reducible exact LeO.refl _)
   | (with_reducible exact LeO.none _)
   | (with_reducible refine LeO.ite ?_ ?_)
   | (with_reducible refine LeO.bind ?_ (fun _ => ?_))
   | exact ih0 _ _ _
   | exact r06_Same.mono _ _ _ _ _ _ _ _ _ _ _ _ _
   | exact LeO.none _
   | refine LeO.ite ?_ ?_
   | refine LeO.bind ?_ (fun _ => ?_)
theorem r18_List.mono : ∀ a0 a1 k, LeO (r18_List.f k a0 a1) (r18_List.f (k + 1) a0 a1) := by
 intro a0 a1 k
 have ih0 := r18_List.mono_l k
 unfold r18_List.f
 repeat' first
  | (with_reducible exact ih0 _ _ _)
  | (with_reducible exact r06_Same.mono _ _ _ _ _ _ _ _ _ _ _ _ _)
  | (with_reducible exact LeO.refl _)
  | (with_reducible exact LeO.none _)
  | (with_reducible refine LeO.ite ?_ ?_)
  | (with_reducible refine LeO.bind ?_ (fun _ => ?_))
  | exact ih0 _ _ _
  | exact r06_Same.mono _ _ _ _ _ _ _ _ _ _ _ _ _
  | exact LeO.none _
  | refine LeO.ite ?_ ?_
  | refine LeO.bind ?_ (fun _ => ?_)
def r18_List.T6 : Bool × List (List Nat × List Nat) := (true, [([], []), ([], []), ([0, 1], [0, 1]), ([2], [2]), ([], []), ([], []), ([4, 5], [4, 5]), ([6], [6]), ([3, 7], [3, 7]), ([8], [8])])
def r18_List.B6 : List Nat := [0, 0, 3, 7, 0, 0, 48, 112, 255, 511]
theorem r18_List.tab6 : rtab .any (opsOf Try.f12 6) = r18_List.T6 := by kernel_rfl
theorem r18_List.bits6 : waitsOk r18_List.T6.2 r18_List.B6 = true := by kernel_rfl
set_option maxHeartbeats 8000000 in
set_option maxRecDepth 100000 in
theorem r18_List.calls (k : Nat) (A0 : Option Addr) (c0 : Nat) (l0 : List (S27)) (A1 : Option Addr) (c1 : Nat) (l1 : List (S27)) (r : Bool) (w : World) (hr0 : Kd.C k27 w A0 l0.length l0) (hc0 : l0.length ≤ c0) (hr1 : Kd.C k27 w A1 l1.length l1) (hc1 : l1.length ≤ c1) (h : r18_List.f k l0 l1 = some r) :
 Calls Try.prog 12 #[.slice A0 l0.length c0, .slice A1 l1.length c1] w fun e w' => e = .returned (.bool r) ∧ Below w.heap.size w w' := by
 have hu27 := Try.underlying27
 have HR0 := Az.mk hr0
 have HC0 := Az.mk hc0
 clear hr0 hc0
 have HR1 := Az.mk hr1
 have HC1 := Az.mk hc1
 clear hr1 hc1
 have HB := Az.mk (Below.refl w.heap.size w)
 have H : (if (l0.length : Int) = (l1.length : Int) then (r18_List.l0 k l0 l1 0) else (some false)) = some r := h
 clear h
 by_cases c3 : (l0.length : Int) = (l1.length : Int)
 ·rw [if_pos c3] at H
  have c3b0 : ((l0.length : Int) == (l1.length : Int)) = true := beq_iff_eq.mpr c3
  have c3b1 : ((l0.length : Int) != (l1.length : Int)) = false := bne_eq_false_iff_eq.mpr c3
  have c3b2 : (l0.length == l1.length) = true := by first | simpa using c3 | (simp at c3 ⊢; omega)
  clear c3
  have H' := Az.mk H
  clear H
  go_enter Try.func12, Try.ntmps12
  go_wp2
  go_loopg [5] k (fun kq v5 w' => ∃ (x5_1 : Int), v5 = .int .i64 x5_1 ∧ Az (r18_List.l0 kq l0 l1 x5_1 = some r) ∧ Az (kq ≤ k) ∧ Az (Below w.heap.size w w'))
  case atStart => exact ⟨(0), (by first | rfl | (simp; done) | (simp [*]; done)), H', ⟨Nat.le_refl _⟩, ⟨by exact pbE HB.out⟩⟩
  case round =>
   clear H'
   try clear c1
   try clear p2
   try clear c3
   try clear c3b0
   try clear c3b1
   try clear c3b2
   obtain ⟨x5_1, rfl, HA, HK1, HB⟩ := hrel
   cases gk with
   | zero => exact absurd HA.out (by simp [r18_List.l0])
   | succ k1 =>
    have H := HA.out
    clear HA
    simp only [r18_List.l0] at H
    by_cases c4 : x5_1 < (l0.length : Int)
    ·rw [if_pos c4] at H
     have c4b0 : decide (x5_1 < (l0.length : Int)) = true := decide_eq_true c4
     clear c4
     by_cases c5 : 0 ≤ x5_1
     ·rw [if_pos c5] at H
      have c5b0 : decide (0 ≤ x5_1) = true := decide_eq_true c5
      clear c5
      by_cases c6 : x5_1 < (l1.length : Int)
      ·rw [if_pos c6] at H
       have c6b0 : decide (x5_1 < (l1.length : Int)) = true := decide_eq_true c6
       clear c6
       replace H := Option.bind_eq_some_iff.mp H
       obtain ⟨t180, A70, H⟩ := H
       try dsimp only at H
       have A7 := Az.mk A70
       clear A70
       by_cases c8 : t180 = true
       ·subst c8
        rw [if_pos rfl] at H
        have H' := Az.mk H
        clear H
        try go_wp2
        replace HB := Az.mk (pb1 HB.out)
        have p178 : 0 ≤ (x5_1 : Int) := of_decide_eq_true (by first | (with_reducible assumption) | assumption)
        have q178 : x5_1 < (l0.length : Int) := of_decide_eq_true (by first | (with_reducible assumption) | assumption)
        obtain ⟨ad178, A178_4, c178_4, e178, hx178_0, hx178_1, hx178_2, hx178_3, hx178_4, hx178_5, hl178_4, hi178_4⟩ := at_T27 HR0.out x5_1 p178 q178
        have hw178_5 := hx178_5
        have hw178_4 := hx178_4
        have hw178_3 := hx178_3
        have hw178_2 := hx178_2
        have hw178_1 := hx178_1
        have hw178_0 := hx178_0
        cases e178
        replace hx178_0 := (HB.out.cell (World.block_lt_of_cell? w _ hx178_0)).trans hx178_0
        replace hx178_1 := (HB.out.cell (World.block_lt_of_cell? w _ hx178_1)).trans hx178_1
        replace hx178_2 := (HB.out.cell (World.block_lt_of_cell? w _ hx178_2)).trans hx178_2
        replace hx178_3 := (HB.out.cell (World.block_lt_of_cell? w _ hx178_3)).trans hx178_3
        replace hx178_4 := (HB.out.cell (World.block_lt_of_cell? w _ hx178_4)).trans hx178_4
        replace hx178_5 := (HB.out.cell (World.block_lt_of_cell? w _ hx178_5)).trans hx178_5
        have HR178_4 := Az.mk hi178_4
        have HC178_4 := Az.mk hl178_4
        clear hi178_4 hl178_4
        replace p178 := eq_true p178
        replace q178 := eq_true q178
        have p179 : 0 ≤ (x5_1 : Int) := of_decide_eq_true (by first | (with_reducible assumption) | assumption)
        have q179 : x5_1 < (l1.length : Int) := of_decide_eq_true (by first | (with_reducible assumption) | assumption)
        obtain ⟨ad179, A179_4, c179_4, e179, hx179_0, hx179_1, hx179_2, hx179_3, hx179_4, hx179_5, hl179_4, hi179_4⟩ := at_T27 HR1.out x5_1 p179 q179
        have hw179_5 := hx179_5
        have hw179_4 := hx179_4
        have hw179_3 := hx179_3
        have hw179_2 := hx179_2
        have hw179_1 := hx179_1
        have hw179_0 := hx179_0
        cases e179
        replace hx179_0 := (HB.out.cell (World.block_lt_of_cell? w _ hx179_0)).trans hx179_0
        replace hx179_1 := (HB.out.cell (World.block_lt_of_cell? w _ hx179_1)).trans hx179_1
        replace hx179_2 := (HB.out.cell (World.block_lt_of_cell? w _ hx179_2)).trans hx179_2
        replace hx179_3 := (HB.out.cell (World.block_lt_of_cell? w _ hx179_3)).trans hx179_3
        replace hx179_4 := (HB.out.cell (World.block_lt_of_cell? w _ hx179_4)).trans hx179_4
        replace hx179_5 := (HB.out.cell (World.block_lt_of_cell? w _ hx179_5)).trans hx179_5
        have HR179_4 := Az.mk hi179_4
        have HC179_4 := Az.mk hl179_4
        clear hi179_4 hl179_4
        replace p179 := eq_true p179
        replace q179 := eq_true q179
        refine start_ (n := 10) (S := fun w' => w'.cell? (ad178.add ((x5_1).toNat * 6)) = some (.int .i64 ((rd_T27 l0 x5_1).f0)) ∧ w'.cell? ⟨(ad178.add ((x5_1).toNat * 6)).block, (ad178.add ((x5_1).toNat * 6)).off + 1, none⟩ = some (.string ((rd_T27 l0 x5_1).f1.f0)) ∧ w'.cell? ⟨(ad178.add ((x5_1).toNat * 6)).block, (ad178.add ((x5_1).toNat * 6)).off + 2, none⟩ = some (.string ((rd_T27 l0 x5_1).f1.f1)) ∧ w'.cell? ⟨(ad178.add ((x5_1).toNat * 6)).block, (ad178.add ((x5_1).toNat * 6)).off + 3, none⟩ = some (.int .i64 ((rd_T27 l0 x5_1).f2)) ∧ w'.cell? ⟨(ad178.add ((x5_1).toNat * 6)).block, (ad178.add ((x5_1).toNat * 6)).off + 4, none⟩ = some (.slice A178_4 ((rd_T27 l0 x5_1).f3).length c178_4) ∧ w'.cell? ⟨(ad178.add ((x5_1).toNat * 6)).block, (ad178.add ((x5_1).toNat * 6)).off + 5, none⟩ = some (.int .i64 ((rd_T27 l0 x5_1).f4)) ∧ w'.cell? (ad179.add ((x5_1).toNat * 6)) = some (.int .i64 ((rd_T27 l1 x5_1).f0)) ∧ w'.cell? ⟨(ad179.add ((x5_1).toNat * 6)).block, (ad179.add ((x5_1).toNat * 6)).off + 1, none⟩ = some (.string ((rd_T27 l1 x5_1).f1.f0)) ∧ w'.cell? ⟨(ad179.add ((x5_1).toNat * 6)).block, (ad179.add ((x5_1).toNat * 6)).off + 2, none⟩ = some (.string ((rd_T27 l1 x5_1).f1.f1)) ∧ w'.cell? ⟨(ad179.add ((x5_1).toNat * 6)).block, (ad179.add ((x5_1).toNat * 6)).off + 3, none⟩ = some (.int .i64 ((rd_T27 l1 x5_1).f2)) ∧ w'.cell? ⟨(ad179.add ((x5_1).toNat * 6)).block, (ad179.add ((x5_1).toNat * 6)).off + 4, none⟩ = some (.slice A179_4 ((rd_T27 l1 x5_1).f3).length c179_4) ∧ w'.cell? ⟨(ad179.add ((x5_1).toNat * 6)).block, (ad179.add ((x5_1).toNat * 6)).off + 5, none⟩ = some (.int .i64 ((rd_T27 l1 x5_1).f4))) (ds := []) #[false, false, false, false, false, false, false, false, false, false] (by kernel_rfl) rfl rfl ⟨((HB.out.cell (World.block_lt_of_cell? w _ hw178_0)).trans hw178_0), ((HB.out.cell (World.block_lt_of_cell? w _ hw178_1)).trans hw178_1), ((HB.out.cell (World.block_lt_of_cell? w _ hw178_2)).trans hw178_2), ((HB.out.cell (World.block_lt_of_cell? w _ hw178_3)).trans hw178_3), ((HB.out.cell (World.block_lt_of_cell? w _ hw178_4)).trans hw178_4), ((HB.out.cell (World.block_lt_of_cell? w _ hw178_5)).trans hw178_5), ((HB.out.cell (World.block_lt_of_cell? w _ hw179_0)).trans hw179_0), ((HB.out.cell (World.block_lt_of_cell? w _ hw179_1)).trans hw179_1), ((HB.out.cell (World.block_lt_of_cell? w _ hw179_2)).trans hw179_2), ((HB.out.cell (World.block_lt_of_cell? w _ hw179_3)).trans hw179_3), ((HB.out.cell (World.block_lt_of_cell? w _ hw179_4)).trans hw179_4), ((HB.out.cell (World.block_lt_of_cell? w _ hw179_5)).trans hw179_5)⟩ (fun hHeld => ?_); refine with_tabW r18_List.tab6 r18_List.bits6 (fun HT_ HW_ => ?_)
        generalize wr.drew = w9 at HB HR178_4 HR179_4 hx178_0 hx178_1 hx178_2 hx178_3 hx178_4 hx178_5 hx179_0 hx179_1 hx179_2 hx179_3 hx179_4 hx179_5 hHeld ⊢
        refine pure_ (i := 0) (N := some 17) (v := ?_) (a' := ?_) #[true, false, false, false, false, false, false, false, false, false] rfl rfl (any_of HT_.out (by kernel_rfl)) (fun _ _ _ h => h) (Or.inl ⟨by rfl, ?_⟩) ?_ ?_
        rotate_left
        ·intro w'
         go_simp
         with_reducible rfl
        rotate_left
        ·simp only [Act.put, List.setIfInBounds_toArray, List.set_cons_zero, List.set_cons_succ, i64_w, i32_w]
         rfl
        refine pure_ (i := 1) (N := some 18) (v := ?_) (a' := ?_) #[true, true, false, false, false, false, false, false, false, false] rfl rfl (any_of HT_.out (by kernel_rfl)) (fun _ _ _ h => h) (Or.inl ⟨by rfl, ?_⟩) ?_ ?_
        rotate_left
        ·intro w'
         go_simp
         with_reducible rfl
        rotate_left
        ·simp only [Act.put, List.setIfInBounds_toArray, List.set_cons_zero, List.set_cons_succ, i64_w, i32_w]
         rfl
        refine pure_ (i := 2) (N := some 19) (v := ?_) (a' := ?_) #[true, true, true, false, false, false, false, false, false, false] rfl rfl (any_of HT_.out (by kernel_rfl)) (fun _ _ _ h => h) (Or.inl ⟨by rfl, ?_⟩) ?_ ?_
        rotate_left
        ·intro w'
         go_simp
         with_reducible rfl
        rotate_left
        ·simp only [Act.put, List.setIfInBounds_toArray, List.set_cons_zero, List.set_cons_succ, i64_w, i32_w]
         rfl
        refine pure_ (i := 4) (N := some 21) (v := ?_) (a' := ?_) #[true, true, true, false, true, false, false, false, false, false] rfl rfl (any_of HT_.out (by kernel_rfl)) (fun _ _ _ h => h) (Or.inl ⟨by rfl, ?_⟩) ?_ ?_
        rotate_left
        ·intro w'
         go_simp
         with_reducible rfl
        rotate_left
        ·simp only [Act.put, List.setIfInBounds_toArray, List.set_cons_zero, List.set_cons_succ, i64_w, i32_w]
         rfl
        refine pure_ (i := 5) (N := some 22) (v := ?_) (a' := ?_) #[true, true, true, false, true, true, false, false, false, false] rfl rfl (any_of HT_.out (by kernel_rfl)) (fun _ _ _ h => h) (Or.inl ⟨by rfl, ?_⟩) ?_ ?_
        rotate_left
        ·intro w'
         go_simp
         with_reducible rfl
        rotate_left
        ·simp only [Act.put, List.setIfInBounds_toArray, List.set_cons_zero, List.set_cons_succ, i64_w, i32_w]
         rfl
        refine pure_ (i := 6) (N := some 23) (v := ?_) (a' := ?_) #[true, true, true, false, true, true, true, false, false, false] rfl rfl (any_of HT_.out (by kernel_rfl)) (fun _ _ _ h => h) (Or.inl ⟨by rfl, ?_⟩) ?_ ?_
        rotate_left
        ·intro w'
         go_simp
         with_reducible rfl
        rotate_left
        ·simp only [Act.put, List.setIfInBounds_toArray, List.set_cons_zero, List.set_cons_succ, i64_w, i32_w]
         rfl
        refine take_ (i := 3) (N := some 20) (v := ?_) (a' := ?_) #[true, true, true, true, true, true, true, false, false, false] rfl rfl (take_ofW HT_.out HW_.out (by kernel_rfl)) (fun _ _ _ h => h) (Or.inl ⟨by rfl, ?_⟩) hHeld ?_ ?_
        rotate_left
        ·rintro w' ⟨s0, s1, s2, s3, s4, s5, s6, s7, s8, s9, s10, s11⟩
         go_simp
         with_reducible rfl
        rotate_left
        ·simp only [Act.put, List.setIfInBounds_toArray, List.set_cons_zero, List.set_cons_succ, i64_w, i32_w]
         rfl
        refine take_ (i := 7) (N := some 24) (v := ?_) (a' := ?_) #[true, true, true, true, true, true, true, true, false, false] rfl rfl (take_ofW HT_.out HW_.out (by kernel_rfl)) (fun _ _ _ h => h) (Or.inl ⟨by rfl, ?_⟩) hHeld ?_ ?_
        rotate_left
        ·rintro w' ⟨s0, s1, s2, s3, s4, s5, s6, s7, s8, s9, s10, s11⟩
         go_simp
         with_reducible rfl
        rotate_left
        ·simp only [Act.put, List.setIfInBounds_toArray, List.set_cons_zero, List.set_cons_succ, i64_w, i32_w]
         rfl
        refine one_ (i := 8) (N := some 25) #[true, true, true, true, true, true, true, true, true, false] rfl rfl (one_of HT_.out (by kernel_rfl)) (by decide) (fun K hK => ?_)
        refine goes_ Try.func17 (by kernel_rfl) rfl #[.agg #[.int .i64 ((rd_T27 l0 x5_1).f0), .string ((rd_T27 l0 x5_1).f1.f0), .string ((rd_T27 l0 x5_1).f1.f1), .int .i64 ((rd_T27 l0 x5_1).f2), .slice A178_4 ((rd_T27 l0 x5_1).f3).length c178_4, .int .i64 ((rd_T27 l0 x5_1).f4)], .agg #[.int .i64 ((rd_T27 l1 x5_1).f0), .string ((rd_T27 l1 x5_1).f1.f0), .string ((rd_T27 l1 x5_1).f1.f1), .int .i64 ((rd_T27 l1 x5_1).f2), .slice A179_4 ((rd_T27 l1 x5_1).f3).length c179_4, .int .i64 ((rd_T27 l1 x5_1).f4)]] (by rfl) rfl rfl (by (try simp only [List.map_toArray, List.map_cons, List.map_nil]); first | done | rfl | (simp only [List.length_drop, List.length_take]; rfl)) ?_
        with_reducible refine (r06_Same.calls k1 ((rd_T27 l0 x5_1).f0) ((rd_T27 l0 x5_1).f1.f0) ((rd_T27 l0 x5_1).f1.f1) ((rd_T27 l0 x5_1).f2) _ _ ((rd_T27 l0 x5_1).f3) ((rd_T27 l0 x5_1).f4) ((rd_T27 l1 x5_1).f0) ((rd_T27 l1 x5_1).f1.f0) ((rd_T27 l1 x5_1).f1.f1) ((rd_T27 l1 x5_1).f2) _ _ ((rd_T27 l1 x5_1).f3) ((rd_T27 l1 x5_1).f4) true _ ?side1 ?side2 ?side3 ?side4 A7.out).mono ?_
        (case side1 => repeat (first | exact (Kd.C_below HR178_4.out HB.out) | (with_reducible refine Kd.C_alloc ?_ _) | (with_reducible refine Kd.C_drewN ?_ _) | (with_reducible refine Kd.C_drew ?_)))
        (case side2 => exact HC178_4.out)
        (case side3 => repeat (first | exact (Kd.C_below HR179_4.out HB.out) | (with_reducible refine Kd.C_alloc ?_ _) | (with_reducible refine Kd.C_drewN ?_ _) | (with_reducible refine Kd.C_drew ?_)))
        (case side4 => exact HC179_4.out)
        rintro e w10 ⟨rfl, hb⟩
        refine ⟨_, rfl, ?_⟩
        replace HB := Az.mk (pbT (by exact pbE HB.out) hb)
        (try clear hb)
        (try clear hb2)
        (try clear hk)
        (try clear hi)
        refine hK.out _ _ ⟨((HB.out.cell (World.block_lt_of_cell? w _ hw178_0)).trans hw178_0), ((HB.out.cell (World.block_lt_of_cell? w _ hw178_1)).trans hw178_1), ((HB.out.cell (World.block_lt_of_cell? w _ hw178_2)).trans hw178_2), ((HB.out.cell (World.block_lt_of_cell? w _ hw178_3)).trans hw178_3), ((HB.out.cell (World.block_lt_of_cell? w _ hw178_4)).trans hw178_4), ((HB.out.cell (World.block_lt_of_cell? w _ hw178_5)).trans hw178_5), ((HB.out.cell (World.block_lt_of_cell? w _ hw179_0)).trans hw179_0), ((HB.out.cell (World.block_lt_of_cell? w _ hw179_1)).trans hw179_1), ((HB.out.cell (World.block_lt_of_cell? w _ hw179_2)).trans hw179_2), ((HB.out.cell (World.block_lt_of_cell? w _ hw179_3)).trans hw179_3), ((HB.out.cell (World.block_lt_of_cell? w _ hw179_4)).trans hw179_4), ((HB.out.cell (World.block_lt_of_cell? w _ hw179_5)).trans hw179_5)⟩ (fun hHeld => ?_)
        clear hK K
        refine norm_ (a' := ?_) ?_ ?_
        rotate_left
        ·show Act.put _ (some 25) _ = _
         simp only [Act.put, List.setIfInBounds_toArray, List.set_cons_zero, List.set_cons_succ, i64_w, i32_w]
         rfl
        refine pure_ (i := 9) (N := some 26) (v := ?_) (a' := ?_) #[true, true, true, true, true, true, true, true, true, true] rfl rfl (any_of HT_.out (by kernel_rfl)) (fun _ _ _ h => h) (Or.inl ⟨by rfl, ?_⟩) ?_ ?_
        rotate_left
        ·intro w'
         go_simp
         with_reducible rfl
        rotate_left
        ·simp only [Act.put, List.setIfInBounds_toArray, List.set_cons_zero, List.set_cons_succ, i64_w, i32_w]
         rfl
        refine done_ (done_of HT_.out (by kernel_rfl)) ?_
        try go_wp2
        go_roundg k1
        case measure => have := HK1.out; omega
        case rel => exact ⟨(wrap64 (x5_1 + 1)), (by first | rfl | (simp; done) | (simp [*]; done)), H', ⟨by have := HK1.out; omega⟩, ⟨by exact pbE HB.out⟩⟩
       ·replace c8 := Bool.eq_false_iff.mpr c8
        subst c8
        rw [if_neg (show ¬ (false = true) by decide)] at H
        obtain rfl := Option.some.inj H
        try go_wp2
        replace HB := Az.mk (pb1 HB.out)
        have p178 : 0 ≤ (x5_1 : Int) := of_decide_eq_true (by first | (with_reducible assumption) | assumption)
        have q178 : x5_1 < (l0.length : Int) := of_decide_eq_true (by first | (with_reducible assumption) | assumption)
        obtain ⟨ad178, A178_4, c178_4, e178, hx178_0, hx178_1, hx178_2, hx178_3, hx178_4, hx178_5, hl178_4, hi178_4⟩ := at_T27 HR0.out x5_1 p178 q178
        have hw178_5 := hx178_5
        have hw178_4 := hx178_4
        have hw178_3 := hx178_3
        have hw178_2 := hx178_2
        have hw178_1 := hx178_1
        have hw178_0 := hx178_0
        cases e178
        replace hx178_0 := (HB.out.cell (World.block_lt_of_cell? w _ hx178_0)).trans hx178_0
        replace hx178_1 := (HB.out.cell (World.block_lt_of_cell? w _ hx178_1)).trans hx178_1
        replace hx178_2 := (HB.out.cell (World.block_lt_of_cell? w _ hx178_2)).trans hx178_2
        replace hx178_3 := (HB.out.cell (World.block_lt_of_cell? w _ hx178_3)).trans hx178_3
        replace hx178_4 := (HB.out.cell (World.block_lt_of_cell? w _ hx178_4)).trans hx178_4
        replace hx178_5 := (HB.out.cell (World.block_lt_of_cell? w _ hx178_5)).trans hx178_5
        have HR178_4 := Az.mk hi178_4
        have HC178_4 := Az.mk hl178_4
        clear hi178_4 hl178_4
        replace p178 := eq_true p178
        replace q178 := eq_true q178
        have p179 : 0 ≤ (x5_1 : Int) := of_decide_eq_true (by first | (with_reducible assumption) | assumption)
        have q179 : x5_1 < (l1.length : Int) := of_decide_eq_true (by first | (with_reducible assumption) | assumption)
        obtain ⟨ad179, A179_4, c179_4, e179, hx179_0, hx179_1, hx179_2, hx179_3, hx179_4, hx179_5, hl179_4, hi179_4⟩ := at_T27 HR1.out x5_1 p179 q179
        have hw179_5 := hx179_5
        have hw179_4 := hx179_4
        have hw179_3 := hx179_3
        have hw179_2 := hx179_2
        have hw179_1 := hx179_1
        have hw179_0 := hx179_0
        cases e179
        replace hx179_0 := (HB.out.cell (World.block_lt_of_cell? w _ hx179_0)).trans hx179_0
        replace hx179_1 := (HB.out.cell (World.block_lt_of_cell? w _ hx179_1)).trans hx179_1
        replace hx179_2 := (HB.out.cell (World.block_lt_of_cell? w _ hx179_2)).trans hx179_2
        replace hx179_3 := (HB.out.cell (World.block_lt_of_cell? w _ hx179_3)).trans hx179_3
        replace hx179_4 := (HB.out.cell (World.block_lt_of_cell? w _ hx179_4)).trans hx179_4
        replace hx179_5 := (HB.out.cell (World.block_lt_of_cell? w _ hx179_5)).trans hx179_5
        have HR179_4 := Az.mk hi179_4
        have HC179_4 := Az.mk hl179_4
        clear hi179_4 hl179_4
        replace p179 := eq_true p179
        replace q179 := eq_true q179
        refine start_ (n := 10) (S := fun w' => w'.cell? (ad178.add ((x5_1).toNat * 6)) = some (.int .i64 ((rd_T27 l0 x5_1).f0)) ∧ w'.cell? ⟨(ad178.add ((x5_1).toNat * 6)).block, (ad178.add ((x5_1).toNat * 6)).off + 1, none⟩ = some (.string ((rd_T27 l0 x5_1).f1.f0)) ∧ w'.cell? ⟨(ad178.add ((x5_1).toNat * 6)).block, (ad178.add ((x5_1).toNat * 6)).off + 2, none⟩ = some (.string ((rd_T27 l0 x5_1).f1.f1)) ∧ w'.cell? ⟨(ad178.add ((x5_1).toNat * 6)).block, (ad178.add ((x5_1).toNat * 6)).off + 3, none⟩ = some (.int .i64 ((rd_T27 l0 x5_1).f2)) ∧ w'.cell? ⟨(ad178.add ((x5_1).toNat * 6)).block, (ad178.add ((x5_1).toNat * 6)).off + 4, none⟩ = some (.slice A178_4 ((rd_T27 l0 x5_1).f3).length c178_4) ∧ w'.cell? ⟨(ad178.add ((x5_1).toNat * 6)).block, (ad178.add ((x5_1).toNat * 6)).off + 5, none⟩ = some (.int .i64 ((rd_T27 l0 x5_1).f4)) ∧ w'.cell? (ad179.add ((x5_1).toNat * 6)) = some (.int .i64 ((rd_T27 l1 x5_1).f0)) ∧ w'.cell? ⟨(ad179.add ((x5_1).toNat * 6)).block, (ad179.add ((x5_1).toNat * 6)).off + 1, none⟩ = some (.string ((rd_T27 l1 x5_1).f1.f0)) ∧ w'.cell? ⟨(ad179.add ((x5_1).toNat * 6)).block, (ad179.add ((x5_1).toNat * 6)).off + 2, none⟩ = some (.string ((rd_T27 l1 x5_1).f1.f1)) ∧ w'.cell? ⟨(ad179.add ((x5_1).toNat * 6)).block, (ad179.add ((x5_1).toNat * 6)).off + 3, none⟩ = some (.int .i64 ((rd_T27 l1 x5_1).f2)) ∧ w'.cell? ⟨(ad179.add ((x5_1).toNat * 6)).block, (ad179.add ((x5_1).toNat * 6)).off + 4, none⟩ = some (.slice A179_4 ((rd_T27 l1 x5_1).f3).length c179_4) ∧ w'.cell? ⟨(ad179.add ((x5_1).toNat * 6)).block, (ad179.add ((x5_1).toNat * 6)).off + 5, none⟩ = some (.int .i64 ((rd_T27 l1 x5_1).f4))) (ds := []) #[false, false, false, false, false, false, false, false, false, false] (by kernel_rfl) rfl rfl ⟨((HB.out.cell (World.block_lt_of_cell? w _ hw178_0)).trans hw178_0), ((HB.out.cell (World.block_lt_of_cell? w _ hw178_1)).trans hw178_1), ((HB.out.cell (World.block_lt_of_cell? w _ hw178_2)).trans hw178_2), ((HB.out.cell (World.block_lt_of_cell? w _ hw178_3)).trans hw178_3), ((HB.out.cell (World.block_lt_of_cell? w _ hw178_4)).trans hw178_4), ((HB.out.cell (World.block_lt_of_cell? w _ hw178_5)).trans hw178_5), ((HB.out.cell (World.block_lt_of_cell? w _ hw179_0)).trans hw179_0), ((HB.out.cell (World.block_lt_of_cell? w _ hw179_1)).trans hw179_1), ((HB.out.cell (World.block_lt_of_cell? w _ hw179_2)).trans hw179_2), ((HB.out.cell (World.block_lt_of_cell? w _ hw179_3)).trans hw179_3), ((HB.out.cell (World.block_lt_of_cell? w _ hw179_4)).trans hw179_4), ((HB.out.cell (World.block_lt_of_cell? w _ hw179_5)).trans hw179_5)⟩ (fun hHeld => ?_); refine with_tabW r18_List.tab6 r18_List.bits6 (fun HT_ HW_ => ?_)
        generalize wr.drew = w11 at HB HR178_4 HR179_4 hx178_0 hx178_1 hx178_2 hx178_3 hx178_4 hx178_5 hx179_0 hx179_1 hx179_2 hx179_3 hx179_4 hx179_5 hHeld ⊢
        refine pure_ (i := 0) (N := some 17) (v := ?_) (a' := ?_) #[true, false, false, false, false, false, false, false, false, false] rfl rfl (any_of HT_.out (by kernel_rfl)) (fun _ _ _ h => h) (Or.inl ⟨by rfl, ?_⟩) ?_ ?_
        rotate_left
        ·intro w'
         go_simp
         with_reducible rfl
        rotate_left
        ·simp only [Act.put, List.setIfInBounds_toArray, List.set_cons_zero, List.set_cons_succ, i64_w, i32_w]
         rfl
        refine pure_ (i := 1) (N := some 18) (v := ?_) (a' := ?_) #[true, true, false, false, false, false, false, false, false, false] rfl rfl (any_of HT_.out (by kernel_rfl)) (fun _ _ _ h => h) (Or.inl ⟨by rfl, ?_⟩) ?_ ?_
        rotate_left
        ·intro w'
         go_simp
         with_reducible rfl
        rotate_left
        ·simp only [Act.put, List.setIfInBounds_toArray, List.set_cons_zero, List.set_cons_succ, i64_w, i32_w]
         rfl
        refine pure_ (i := 2) (N := some 19) (v := ?_) (a' := ?_) #[true, true, true, false, false, false, false, false, false, false] rfl rfl (any_of HT_.out (by kernel_rfl)) (fun _ _ _ h => h) (Or.inl ⟨by rfl, ?_⟩) ?_ ?_
        rotate_left
        ·intro w'
         go_simp
         with_reducible rfl
        rotate_left
        ·simp only [Act.put, List.setIfInBounds_toArray, List.set_cons_zero, List.set_cons_succ, i64_w, i32_w]
         rfl
        refine pure_ (i := 4) (N := some 21) (v := ?_) (a' := ?_) #[true, true, true, false, true, false, false, false, false, false] rfl rfl (any_of HT_.out (by kernel_rfl)) (fun _ _ _ h => h) (Or.inl ⟨by rfl, ?_⟩) ?_ ?_
        rotate_left
        ·intro w'
         go_simp
         with_reducible rfl
        rotate_left
        ·simp only [Act.put, List.setIfInBounds_toArray, List.set_cons_zero, List.set_cons_succ, i64_w, i32_w]
         rfl
        refine pure_ (i := 5) (N := some 22) (v := ?_) (a' := ?_) #[true, true, true, false, true, true, false, false, false, false] rfl rfl (any_of HT_.out (by kernel_rfl)) (fun _ _ _ h => h) (Or.inl ⟨by rfl, ?_⟩) ?_ ?_
        rotate_left
        ·intro w'
         go_simp
         with_reducible rfl
        rotate_left
        ·simp only [Act.put, List.setIfInBounds_toArray, List.set_cons_zero, List.set_cons_succ, i64_w, i32_w]
         rfl
        refine pure_ (i := 6) (N := some 23) (v := ?_) (a' := ?_) #[true, true, true, false, true, true, true, false, false, false] rfl rfl (any_of HT_.out (by kernel_rfl)) (fun _ _ _ h => h) (Or.inl ⟨by rfl, ?_⟩) ?_ ?_
        rotate_left
        ·intro w'
         go_simp
         with_reducible rfl
        rotate_left
        ·simp only [Act.put, List.setIfInBounds_toArray, List.set_cons_zero, List.set_cons_succ, i64_w, i32_w]
         rfl
        refine take_ (i := 3) (N := some 20) (v := ?_) (a' := ?_) #[true, true, true, true, true, true, true, false, false, false] rfl rfl (take_ofW HT_.out HW_.out (by kernel_rfl)) (fun _ _ _ h => h) (Or.inl ⟨by rfl, ?_⟩) hHeld ?_ ?_
        rotate_left
        ·rintro w' ⟨s0, s1, s2, s3, s4, s5, s6, s7, s8, s9, s10, s11⟩
         go_simp
         with_reducible rfl
        rotate_left
        ·simp only [Act.put, List.setIfInBounds_toArray, List.set_cons_zero, List.set_cons_succ, i64_w, i32_w]
         rfl
        refine take_ (i := 7) (N := some 24) (v := ?_) (a' := ?_) #[true, true, true, true, true, true, true, true, false, false] rfl rfl (take_ofW HT_.out HW_.out (by kernel_rfl)) (fun _ _ _ h => h) (Or.inl ⟨by rfl, ?_⟩) hHeld ?_ ?_
        rotate_left
        ·rintro w' ⟨s0, s1, s2, s3, s4, s5, s6, s7, s8, s9, s10, s11⟩
         go_simp
         with_reducible rfl
        rotate_left
        ·simp only [Act.put, List.setIfInBounds_toArray, List.set_cons_zero, List.set_cons_succ, i64_w, i32_w]
         rfl
        refine one_ (i := 8) (N := some 25) #[true, true, true, true, true, true, true, true, true, false] rfl rfl (one_of HT_.out (by kernel_rfl)) (by decide) (fun K hK => ?_)
        refine goes_ Try.func17 (by kernel_rfl) rfl #[.agg #[.int .i64 ((rd_T27 l0 x5_1).f0), .string ((rd_T27 l0 x5_1).f1.f0), .string ((rd_T27 l0 x5_1).f1.f1), .int .i64 ((rd_T27 l0 x5_1).f2), .slice A178_4 ((rd_T27 l0 x5_1).f3).length c178_4, .int .i64 ((rd_T27 l0 x5_1).f4)], .agg #[.int .i64 ((rd_T27 l1 x5_1).f0), .string ((rd_T27 l1 x5_1).f1.f0), .string ((rd_T27 l1 x5_1).f1.f1), .int .i64 ((rd_T27 l1 x5_1).f2), .slice A179_4 ((rd_T27 l1 x5_1).f3).length c179_4, .int .i64 ((rd_T27 l1 x5_1).f4)]] (by rfl) rfl rfl (by (try simp only [List.map_toArray, List.map_cons, List.map_nil]); first | done | rfl | (simp only [List.length_drop, List.length_take]; rfl)) ?_
        with_reducible refine (r06_Same.calls k1 ((rd_T27 l0 x5_1).f0) ((rd_T27 l0 x5_1).f1.f0) ((rd_T27 l0 x5_1).f1.f1) ((rd_T27 l0 x5_1).f2) _ _ ((rd_T27 l0 x5_1).f3) ((rd_T27 l0 x5_1).f4) ((rd_T27 l1 x5_1).f0) ((rd_T27 l1 x5_1).f1.f0) ((rd_T27 l1 x5_1).f1.f1) ((rd_T27 l1 x5_1).f2) _ _ ((rd_T27 l1 x5_1).f3) ((rd_T27 l1 x5_1).f4) false _ ?side1 ?side2 ?side3 ?side4 A7.out).mono ?_
        (case side1 => repeat (first | exact (Kd.C_below HR178_4.out HB.out) | (with_reducible refine Kd.C_alloc ?_ _) | (with_reducible refine Kd.C_drewN ?_ _) | (with_reducible refine Kd.C_drew ?_)))
        (case side2 => exact HC178_4.out)
        (case side3 => repeat (first | exact (Kd.C_below HR179_4.out HB.out) | (with_reducible refine Kd.C_alloc ?_ _) | (with_reducible refine Kd.C_drewN ?_ _) | (with_reducible refine Kd.C_drew ?_)))
        (case side4 => exact HC179_4.out)
        rintro e w12 ⟨rfl, hb⟩
        refine ⟨_, rfl, ?_⟩
        replace HB := Az.mk (pbT (by exact pbE HB.out) hb)
        (try clear hb)
        (try clear hb2)
        (try clear hk)
        (try clear hi)
        refine hK.out _ _ ⟨((HB.out.cell (World.block_lt_of_cell? w _ hw178_0)).trans hw178_0), ((HB.out.cell (World.block_lt_of_cell? w _ hw178_1)).trans hw178_1), ((HB.out.cell (World.block_lt_of_cell? w _ hw178_2)).trans hw178_2), ((HB.out.cell (World.block_lt_of_cell? w _ hw178_3)).trans hw178_3), ((HB.out.cell (World.block_lt_of_cell? w _ hw178_4)).trans hw178_4), ((HB.out.cell (World.block_lt_of_cell? w _ hw178_5)).trans hw178_5), ((HB.out.cell (World.block_lt_of_cell? w _ hw179_0)).trans hw179_0), ((HB.out.cell (World.block_lt_of_cell? w _ hw179_1)).trans hw179_1), ((HB.out.cell (World.block_lt_of_cell? w _ hw179_2)).trans hw179_2), ((HB.out.cell (World.block_lt_of_cell? w _ hw179_3)).trans hw179_3), ((HB.out.cell (World.block_lt_of_cell? w _ hw179_4)).trans hw179_4), ((HB.out.cell (World.block_lt_of_cell? w _ hw179_5)).trans hw179_5)⟩ (fun hHeld => ?_)
        clear hK K
        refine norm_ (a' := ?_) ?_ ?_
        rotate_left
        ·show Act.put _ (some 25) _ = _
         simp only [Act.put, List.setIfInBounds_toArray, List.set_cons_zero, List.set_cons_succ, i64_w, i32_w]
         rfl
        refine pure_ (i := 9) (N := some 26) (v := ?_) (a' := ?_) #[true, true, true, true, true, true, true, true, true, true] rfl rfl (any_of HT_.out (by kernel_rfl)) (fun _ _ _ h => h) (Or.inl ⟨by rfl, ?_⟩) ?_ ?_
        rotate_left
        ·intro w'
         go_simp
         with_reducible rfl
        rotate_left
        ·simp only [Act.put, List.setIfInBounds_toArray, List.set_cons_zero, List.set_cons_succ, i64_w, i32_w]
         rfl
        refine done_ (done_of HT_.out (by kernel_rfl)) ?_
        try go_wp2
        go_ret
        exact ⟨by first | rfl | (simp [errW_none, errW_some] <;> rfl) | (simp [*, errW_none, errW_some] <;> rfl), by exact pbE HB.out⟩
      ·rw [if_neg c6] at H
       exact absurd H (by simp)
     ·rw [if_neg c5] at H
      exact absurd H (by simp)
    ·rw [if_neg c4] at H
     have c4b0 : decide (x5_1 < (l0.length : Int)) = false := decide_eq_false c4
     clear c4
     obtain rfl := Option.some.inj H
     go_wp2
     go_ret
     exact ⟨by first | rfl | (simp [errW_none, errW_some] <;> rfl) | (simp [*, errW_none, errW_some] <;> rfl), by exact pbE HB.out⟩
 ·rw [if_neg c3] at H
  have c3b0 : ((l0.length : Int) == (l1.length : Int)) = false := beq_eq_false_iff_ne.mpr c3
  have c3b1 : ((l0.length : Int) != (l1.length : Int)) = true := bne_iff_ne.mpr c3
  have c3b2 : (l0.length == l1.length) = false := by first | simpa using c3 | (simp at c3 ⊢; omega)
  obtain rfl := Option.some.inj H
  go_enter Try.func12, Try.ntmps12
  go_wp2
  go_ret
  exact ⟨by first | rfl | (simp [errW_none, errW_some] <;> rfl) | (simp [*, errW_none, errW_some] <;> rfl), by exact pbE HB.out⟩
def r18_Find.l0 : Nat → List (S27) → ByteArray → Int → Option (Int × ByteArray × ByteArray × Int × (List (S47)) × Int × Bool)
 | 0, _, _, _ => none
 | k + 1, x0, x1, x6 => if x6 < (x0.length : Int) then (if 0 ≤ x6 then ((r02_Has.f ((rd_T27 x0 x6).f1.f0) ((rd_T27 x0 x6).f1.f1) x1).bind fun t171 => (if t171 = true then (some ((rd_T27 x0 x6).f0, (rd_T27 x0 x6).f1.f0, (rd_T27 x0 x6).f1.f1, (rd_T27 x0 x6).f2, (rd_T27 x0 x6).f3, (rd_T27 x0 x6).f4, true)) else (r18_Find.l0 k x0 x1 (wrap64 (x6 + 1))))) else (none)) else (some (0, (⟨#[]⟩ : ByteArray), (⟨#[]⟩ : ByteArray), 0, ([] : List (S47)), 0, false))
def r18_Find.f (k : Nat) (l0 : List (S27)) (a1 : ByteArray) : Option (Int × ByteArray × ByteArray × Int × (List (S47)) × Int × Bool) := r18_Find.l0 k l0 a1 0
theorem r18_Find.mono_l : ∀ k, (∀ y0 y1 y2, LeO (r18_Find.l0 k y0 y1 y2) (r18_Find.l0 (k + 1) y0 y1 y2))
 | 0 => fun _ _ _ r h => by simp [r18_Find.l0] at h
 | k + 1 => by
  have ih0 := r18_Find.mono_l k
  ·intro y0 y1 y2
   unfold r18_Find.l0
   repeat' first
   | (with_reducible exact ih0 _ _ _)
   | (with_reducible exact LeO.refl _)
   | (with_reducible exact LeO.none _)
   | (with_reducible refine LeO.ite ?_ ?_)
   | (with_reducible refine LeO.bind ?_ (fun _ => ?_))
   | exact ih0 _ _ _
   | exact LeO.none _
   | refine LeO.ite ?_ ?_
   | refine LeO.bind ?_ (fun _ => ?_)
theorem r18_Find.mono : ∀ a0 a1 k, LeO (r18_Find.f k a0 a1) (r18_Find.f (k + 1) a0 a1) := by
 intro a0 a1 k
 have ih0 := r18_Find.mono_l k
 unfold r18_Find.f
 repeat' first
  | (with_reducible exact ih0 _ _ _)
  | (with_reducible exact LeO.refl _)
  | (with_reducible exact LeO.none _)
  | (with_reducible refine LeO.ite ?_ ?_)
  | (with_reducible refine LeO.bind ?_ (fun _ => ?_))
  | exact ih0 _ _ _
  | exact LeO.none _
  | refine LeO.ite ?_ ?_
  | refine LeO.bind ?_ (fun _ => ?_)
set_option maxHeartbeats 8000000 in
set_option maxRecDepth 100000 in
theorem r18_Find.calls (k : Nat) (P0_ : Nat → Prop) (A0 : Option Addr) (c0 : Nat) (l0 : List (S27)) (a1 : ByteArray) (r1 : Int) (r2 : ByteArray) (r3 : ByteArray) (r4 : Int) (r5 : List (S47)) (r6 : Int) (r7 : Bool) (w : World) (hs0 : Kd.V k27 27 w w.heap.size (fun k_ => P0_ k_) (.slice A0 l0.length c0) l0) (h : r18_Find.f k l0 a1 = some (r1, r2, r3, r4, r5, r6, r7)) :
 Calls Try.prog 11 #[.slice A0 l0.length c0, .string a1] w fun e w' => ∃ v4_ : Value, e = .returned (.tuple #[.agg #[.int .i64 r1, .string r2, .string r3, .int .i64 r4, v4_, .int .i64 r6], .bool r7]) ∧ Kd.V k47 47 w' w.heap.size (fun k_ => (P0_ k_ ∨ w.heap.size ≤ k_)) v4_ r5 ∧ Below w.heap.size w w' := by
 have hu27 := Try.underlying27
 have hu24 := Try.underlying24
 have HO0 := Az.mk (show Kd.V k27 27 w w.heap.size (fun k_ => (P0_ k_ ∨ w.heap.size ≤ k_)) (.slice A0 l0.length c0) l0 from Kd.V_mono hs0 (fun k_ hk => .inl hk))
 have HB := Az.mk (Below.refl w.heap.size w)
 have H : (r18_Find.l0 k l0 a1 0) = some (r1, r2, r3, r4, r5, r6, r7) := h
 clear h
 have H' := Az.mk H
 clear H
 go_enter Try.func11, Try.ntmps11
 go_wp2_with (first | ((with_reducible refine gate_dst (N := 4) rfl ?_); refine box_event ?hg (N := 4) ?hd (cs := #[.int .i64 0, .string (⟨#[]⟩ : ByteArray), .string (⟨#[]⟩ : ByteArray), .int .i64 0, .slice none 0 0, .int .i64 0]) (t := 27) ?hr ?_; (case hd => rfl); (case hg => rfl); (case hr => first | (go_simp; done) | (go_simp; rfl)); intro gb169 hg w3 hbox hb; replace HO0 := Az.mk (Kd.V_below (Kd.V_elderB (Kd.V_ext HO0.out) gb169 (Nat.le_of_eq hg.symm)) hb); have BK169 := Az.mk (hbox); have GW169 := Az.mk (geO hg (pbE HB.out)); have GE169 := Az.mk (geO hg (pbE HB.out)); replace HB := Az.mk (pbT (by exact pbE HB.out) hb); clear hb hbox hg))
 go_loopg [6] k (fun kq v6 w' => ∃ (x6_1 : Int) (x170000_1 : Int) (x170001_1 : ByteArray) (x170002_1 : ByteArray) (x170003_1 : Int) (x170005_1 : Int), v6 = .int .i64 x6_1 ∧ Az (r18_Find.l0 kq l0 a1 x6_1 = some (r1, r2, r3, r4, r5, r6, r7)) ∧ Az (kq ≤ k) ∧ Az (Kd.V k27 27 w' w.heap.size (fun k_ => (P0_ k_ ∨ w.heap.size ≤ k_) ∧ k_ ≠ gb169) (.slice A0 l0.length c0) l0) ∧ Az (w'.heap[gb169]? = some (.cells #[.int .i64 x170000_1, .string x170001_1, .string x170002_1, .int .i64 x170003_1, (.slice none 0 0), .int .i64 x170005_1] 27 (0, 0))) ∧ Az (Below w.heap.size w w'))
 case atStart => exact ⟨(0), (0), ((⟨#[]⟩ : ByteArray)), ((⟨#[]⟩ : ByteArray)), (0), (0), (by first | rfl | (simp; done) | (simp [*]; done)), H', ⟨Nat.le_refl _⟩, ⟨by (with_reducible repeat (first | apply Kd.V_alloc | apply Kd.V_drewN | apply Kd.V_drew)); exact HO0.out⟩, ⟨by refine bk ?_; exact BK169.out⟩, ⟨by exact pbE HB.out⟩⟩
 case round =>
  clear H'
  try clear c1
  try clear p2
  obtain ⟨x6_1, x170000_1, x170001_1, x170002_1, x170003_1, x170005_1, rfl, HA, HK1, HO_0, BK169, HB⟩ := hrel
  cases gk with
  | zero => exact absurd HA.out (by simp [r18_Find.l0])
  | succ k1 =>
   have H := HA.out
   clear HA
   simp only [r18_Find.l0] at H
   by_cases c4 : x6_1 < (l0.length : Int)
   ·rw [if_pos c4] at H
    have c4b0 : decide (x6_1 < (l0.length : Int)) = true := decide_eq_true c4
    clear c4
    by_cases c5 : 0 ≤ x6_1
    ·rw [if_pos c5] at H
     have c5b0 : decide (0 ≤ x6_1) = true := decide_eq_true c5
     clear c5
     replace H := Option.bind_eq_some_iff.mp H
     obtain ⟨t171, A60, H⟩ := H
     try dsimp only at H
     have A6 := Az.mk A60
     clear A60
     by_cases c7 : t171 = true
     ·subst c7
      rw [if_pos rfl] at H
      simp only [Option.some.injEq, Prod.mk.injEq] at H
      obtain ⟨rfl, rfl, rfl, rfl, rfl, rfl, rfl⟩ := H
      have p170 : 0 ≤ (x6_1 : Int) := of_decide_eq_true (by first | (with_reducible assumption) | assumption)
      have q170 : x6_1 < (l0.length : Int) := of_decide_eq_true (by first | (with_reducible assumption) | assumption)
      obtain ⟨ad170, A170_4, c170_4, e170, hx170_0, hx170_1, hx170_2, hx170_3, hx170_4, hx170_5, hl170_4, hi170_4⟩ := at_T27 (Kd.V_reads' HO_0.out).2.2 x6_1 p170 q170
      cases e170
      obtain ⟨ce170, hce170, hMe170, hcc170⟩ := Kd.V_get HO_0.out z27 x6_1 p170 (by first | exact q170 | exact of_decide_eq_true (by first | (with_reducible assumption) | assumption) | (have e_ := (Kd.V_reads' HO_0.out).1; omega))
      obtain ⟨ua170_4, uc170_4, rfl, ul170_4, ge170_4⟩ := k27_openF hMe170
      have hv170_4 := hcc170 4 _ rfl
      rw [add_field _ _ 4 (by omega)] at hv170_4
      replace hv170_4 := Option.some.inj (hv170_4.symm.trans hx170_4)
      injection hv170_4 with hva_ hvn_ hvc_
      rw [hva_] at ge170_4
      rw [hvc_] at ul170_4
      have HL170_4 := Az.mk (show Kd.V k47 47 _ w.heap.size _ _ ((rd_T27 l0 x6_1).f3) from Kd.V_mk ul170_4 ge170_4)
      clear hva_ hvn_ hvc_ ge170_4 ul170_4
      clear hcc170 hce170
      have HR170_4 := Az.mk hi170_4
      have HC170_4 := Az.mk hl170_4
      clear hi170_4 hl170_4
      replace p170 := eq_true p170
      replace q170 := eq_true q170
      go_wp2_with (first | ((with_reducible refine gtc (f := 18) rfl ?_); refine goesL_ (some 19) rfl rfl Try.func18 (by kernel_rfl) rfl #[.agg #[.string ((rd_T27 l0 x6_1).f1.f0), .string ((rd_T27 l0 x6_1).f1.f1)], .string a1] rfl (by (try simp only [List.map_toArray, List.map_cons, List.map_nil]); first | done | rfl | (simp only [List.length_drop, List.length_take]; rfl)) ?_; (with_reducible refine (r02_Has.calls ((rd_T27 l0 x6_1).f1.f0) ((rd_T27 l0 x6_1).f1.f1) a1 true _ A6.out).mono ?_); rintro e w8 ⟨rfl, hb⟩; refine ⟨_, rfl, ?_⟩; replace HO_0 := Az.mk (Kd.V_below (Kd.V_ext HO_0.out) hb); replace HL170_4 := Az.mk (Kd.V_below (Kd.V_ext HL170_4.out) hb); replace BK169 := Az.mk (bkB (bk BK169.out) hb); replace HR170_4 := Az.mk (Kd.C_below (by repeat (first | (with_reducible exact HR170_4.out) | (with_reducible refine Kd.C_alloc ?_ _) | (with_reducible refine Kd.C_drewN ?_ _) | (with_reducible refine Kd.C_drew ?_) | exact HR170_4.out)) hb); replace HB := Az.mk (pbT (by exact pbE HB.out) hb); (try clear hb); (try clear hb2); (try clear hk); (try clear hi); have p172 : 0 ≤ (x6_1 : Int) := of_decide_eq_true (by first | (with_reducible assumption) | assumption); have q172 : x6_1 < (l0.length : Int) := of_decide_eq_true (by first | (with_reducible assumption) | assumption); obtain ⟨ad172, A172_4, c172_4, e172, hx172_0, hx172_1, hx172_2, hx172_3, hx172_4, hx172_5, hl172_4, hi172_4⟩ := at_T27 (Kd.V_reads' HO_0.out).2.2 x6_1 p172 q172; obtain rfl : ad170 = ad172 := (by injection e172); obtain ⟨ce172, hce172, hMe172, hcc172⟩ := Kd.V_get HO_0.out z27 x6_1 p172 (by first | exact q172 | exact of_decide_eq_true (by first | (with_reducible assumption) | assumption) | (have e_ := (Kd.V_reads' HO_0.out).1; omega)); obtain ⟨ua172_4, uc172_4, rfl, ul172_4, ge172_4⟩ := k27_openF hMe172; have hv172_4 := hcc172 4 _ rfl; rw [add_field _ _ 4 (by omega)] at hv172_4; replace hv172_4 := Option.some.inj (hv172_4.symm.trans hx172_4); injection hv172_4 with hva_ hvn_ hvc_; rw [hva_] at ge172_4; rw [hvc_] at ul172_4; have HL172_4 := Az.mk (show Kd.V k47 47 _ w.heap.size _ _ ((rd_T27 l0 x6_1).f3) from Kd.V_mk ul172_4 ge172_4); clear hva_ hvn_ hvc_ ge172_4 ul172_4; clear hcc172 hce172; have HR172_4 := Az.mk hi172_4; have HC172_4 := Az.mk hl172_4; clear hi172_4 hl172_4; replace p172 := eq_true p172; replace q172 := eq_true q172; have hcz9 := cells6 BK169.out))
      refine bodyPost_ret (results_ct rfl _ _ gb169 27 #[.int .i64 ((rd_T27 l0 x6_1).f0), .string ((rd_T27 l0 x6_1).f1.f0), .string ((rd_T27 l0 x6_1).f1.f1), .int .i64 ((rd_T27 l0 x6_1).f2), .slice A172_4 ((rd_T27 l0 x6_1).f3).length c172_4, .int .i64 ((rd_T27 l0 x6_1).f4)] (0, 0) _ rfl (by refine bk ?_; refine blk_put (cs := #[.int .i64 ((rd_T27 l0 x6_1).f0), .string ((rd_T27 l0 x6_1).f1.f0), .string ((rd_T27 l0 x6_1).f1.f1), .int .i64 ((rd_T27 l0 x6_1).f2), .slice A172_4 ((rd_T27 l0 x6_1).f3).length c172_4, .int .i64 x170005_1]) ?_ 5 _ rfl; refine bk ?_; refine blk_put (cs := #[.int .i64 ((rd_T27 l0 x6_1).f0), .string ((rd_T27 l0 x6_1).f1.f0), .string ((rd_T27 l0 x6_1).f1.f1), .int .i64 ((rd_T27 l0 x6_1).f2), .slice none 0 0, .int .i64 x170005_1]) ?_ 4 _ rfl; refine bk ?_; refine blk_put (cs := #[.int .i64 ((rd_T27 l0 x6_1).f0), .string ((rd_T27 l0 x6_1).f1.f0), .string ((rd_T27 l0 x6_1).f1.f1), .int .i64 x170003_1, .slice none 0 0, .int .i64 x170005_1]) ?_ 3 _ rfl; refine bk ?_; refine blk_put (cs := #[.int .i64 ((rd_T27 l0 x6_1).f0), .string ((rd_T27 l0 x6_1).f1.f0), .string x170002_1, .int .i64 x170003_1, .slice none 0 0, .int .i64 x170005_1]) ?_ 2 _ rfl; refine bk ?_; refine blk_put (cs := #[.int .i64 ((rd_T27 l0 x6_1).f0), .string x170001_1, .string x170002_1, .int .i64 x170003_1, .slice none 0 0, .int .i64 x170005_1]) ?_ 1 _ rfl; refine bk ?_; refine blk_put (cs := #[.int .i64 x170000_1, .string x170001_1, .string x170002_1, .int .i64 x170003_1, .slice none 0 0, .int .i64 x170005_1]) ?_ 0 _ rfl; refine bk ?_; exact BK169.out) Try.underlying27 rfl (by kernel_rfl)) rfl ?_
      exact ⟨_, by first | rfl | (simp [errW_none, errW_some] <;> rfl) | (simp [*, errW_none, errW_some] <;> rfl), by (with_reducible repeat (first | apply Kd.V_alloc | apply Kd.V_drewN | apply Kd.V_drew)); exact Kd.V_mono (Kd.V_off (g := gb169) (fun _ hk => hk.2) (Kd.V_mono HL172_4.out (fun k_ hk => (⟨hk, hk.2⟩ : _ ∧ k_ ≠ gb169)))) (fun _ hk => hk.1.1), by exact pbE HB.out⟩
     ·replace c7 := Bool.eq_false_iff.mpr c7
      subst c7
      rw [if_neg (show ¬ (false = true) by decide)] at H
      have H' := Az.mk H
      clear H
      have p170 : 0 ≤ (x6_1 : Int) := of_decide_eq_true (by first | (with_reducible assumption) | assumption)
      have q170 : x6_1 < (l0.length : Int) := of_decide_eq_true (by first | (with_reducible assumption) | assumption)
      obtain ⟨ad170, A170_4, c170_4, e170, hx170_0, hx170_1, hx170_2, hx170_3, hx170_4, hx170_5, hl170_4, hi170_4⟩ := at_T27 (Kd.V_reads' HO_0.out).2.2 x6_1 p170 q170
      cases e170
      obtain ⟨ce170, hce170, hMe170, hcc170⟩ := Kd.V_get HO_0.out z27 x6_1 p170 (by first | exact q170 | exact of_decide_eq_true (by first | (with_reducible assumption) | assumption) | (have e_ := (Kd.V_reads' HO_0.out).1; omega))
      obtain ⟨ua170_4, uc170_4, rfl, ul170_4, ge170_4⟩ := k27_openF hMe170
      have hv170_4 := hcc170 4 _ rfl
      rw [add_field _ _ 4 (by omega)] at hv170_4
      replace hv170_4 := Option.some.inj (hv170_4.symm.trans hx170_4)
      injection hv170_4 with hva_ hvn_ hvc_
      rw [hva_] at ge170_4
      rw [hvc_] at ul170_4
      have HL170_4 := Az.mk (show Kd.V k47 47 _ w.heap.size _ _ ((rd_T27 l0 x6_1).f3) from Kd.V_mk ul170_4 ge170_4)
      clear hva_ hvn_ hvc_ ge170_4 ul170_4
      clear hcc170 hce170
      have HR170_4 := Az.mk hi170_4
      have HC170_4 := Az.mk hl170_4
      clear hi170_4 hl170_4
      replace p170 := eq_true p170
      replace q170 := eq_true q170
      go_wp2_with (first | ((with_reducible refine gtc (f := 18) rfl ?_); refine goesL_ (some 19) rfl rfl Try.func18 (by kernel_rfl) rfl #[.agg #[.string ((rd_T27 l0 x6_1).f1.f0), .string ((rd_T27 l0 x6_1).f1.f1)], .string a1] rfl (by (try simp only [List.map_toArray, List.map_cons, List.map_nil]); first | done | rfl | (simp only [List.length_drop, List.length_take]; rfl)) ?_; (with_reducible refine (r02_Has.calls ((rd_T27 l0 x6_1).f1.f0) ((rd_T27 l0 x6_1).f1.f1) a1 false _ A6.out).mono ?_); rintro e w10 ⟨rfl, hb⟩; refine ⟨_, rfl, ?_⟩; replace HO_0 := Az.mk (Kd.V_below (Kd.V_ext HO_0.out) hb); replace HL170_4 := Az.mk (Kd.V_below (Kd.V_ext HL170_4.out) hb); replace BK169 := Az.mk (bkB (bk BK169.out) hb); replace HR170_4 := Az.mk (Kd.C_below (by repeat (first | (with_reducible exact HR170_4.out) | (with_reducible refine Kd.C_alloc ?_ _) | (with_reducible refine Kd.C_drewN ?_ _) | (with_reducible refine Kd.C_drew ?_) | exact HR170_4.out)) hb); replace HB := Az.mk (pbT (by exact pbE HB.out) hb); (try clear hb); (try clear hb2); (try clear hk); (try clear hi)))
      go_roundg k1
      case measure => have := HK1.out; omega
      case rel => exact ⟨(wrap64 (x6_1 + 1)), (x170000_1), (x170001_1), (x170002_1), (x170003_1), (x170005_1), (by first | rfl | (simp; done) | (simp [*]; done)), H', ⟨by have := HK1.out; omega⟩, ⟨by (with_reducible repeat (first | apply Kd.V_alloc | apply Kd.V_drewN | apply Kd.V_drew)); exact HO_0.out⟩, ⟨by refine bk ?_; exact BK169.out⟩, ⟨by exact pbE HB.out⟩⟩
    ·rw [if_neg c5] at H
     exact absurd H (by simp)
   ·rw [if_neg c4] at H
    have c4b0 : decide (x6_1 < (l0.length : Int)) = false := decide_eq_false c4
    clear c4
    simp only [Option.some.injEq, Prod.mk.injEq] at H
    obtain ⟨rfl, rfl, rfl, rfl, rfl, rfl, rfl⟩ := H
    have hcz11 := cells6 BK169.out
    go_wp2
    refine bodyPost_ret (results_ct rfl _ _ gb169 27 #[.int .i64 0, .string (⟨#[]⟩ : ByteArray), .string (⟨#[]⟩ : ByteArray), .int .i64 0, .slice none 0 0, .int .i64 0] (0, 0) _ rfl (by refine bk ?_; refine blk_put (cs := #[.int .i64 0, .string (⟨#[]⟩ : ByteArray), .string (⟨#[]⟩ : ByteArray), .int .i64 0, .slice none 0 0, .int .i64 x170005_1]) ?_ 5 _ rfl; refine bk ?_; refine blk_put (cs := #[.int .i64 0, .string (⟨#[]⟩ : ByteArray), .string (⟨#[]⟩ : ByteArray), .int .i64 0, .slice none 0 0, .int .i64 x170005_1]) ?_ 4 _ rfl; refine bk ?_; refine blk_put (cs := #[.int .i64 0, .string (⟨#[]⟩ : ByteArray), .string (⟨#[]⟩ : ByteArray), .int .i64 x170003_1, .slice none 0 0, .int .i64 x170005_1]) ?_ 3 _ rfl; refine bk ?_; refine blk_put (cs := #[.int .i64 0, .string (⟨#[]⟩ : ByteArray), .string x170002_1, .int .i64 x170003_1, .slice none 0 0, .int .i64 x170005_1]) ?_ 2 _ rfl; refine bk ?_; refine blk_put (cs := #[.int .i64 0, .string x170001_1, .string x170002_1, .int .i64 x170003_1, .slice none 0 0, .int .i64 x170005_1]) ?_ 1 _ rfl; refine bk ?_; refine blk_put (cs := #[.int .i64 x170000_1, .string x170001_1, .string x170002_1, .int .i64 x170003_1, .slice none 0 0, .int .i64 x170005_1]) ?_ 0 _ rfl; refine bk ?_; exact BK169.out) Try.underlying27 rfl (by kernel_rfl)) rfl ?_
    exact ⟨_, by first | rfl | (simp [errW_none, errW_some] <;> rfl) | (simp [*, errW_none, errW_some] <;> rfl), Kd.V_nil _ _ _ _ _, by exact pbE HB.out⟩
def r18_Forget.l0 : Nat → List (S27) → Int → List (S27) → Int → Option ((List (S27)))
 | 0, _, _, _, _ => none
 | k + 1, x0, x1, x5, x6 => if x6 < (x0.length : Int) then (if 0 ≤ x6 then (if ((rd_T27 x0 x6).f0) = x1 then (r18_Forget.l0 k x0 x1 x5 (wrap64 (x6 + 1))) else (if x5.length < 1759218604441 then (r18_Forget.l0 k x0 x1 (x5 ++ [(⟨(rd_T27 x0 x6).f0, (⟨(rd_T27 x0 x6).f1.f0, (rd_T27 x0 x6).f1.f1⟩ : S24), (rd_T27 x0 x6).f2, (rd_T27 x0 x6).f3, (rd_T27 x0 x6).f4⟩ : S27)]) (wrap64 (x6 + 1))) else (none))) else (none)) else (some x5)
def r18_Forget.f (k : Nat) (l0 : List (S27)) (a1 : Int) : Option ((List (S27))) := r18_Forget.l0 k l0 a1 ([] : List (S27)) 0
theorem r18_Forget.mono_l : ∀ k, (∀ y0 y1 y2 y3, LeO (r18_Forget.l0 k y0 y1 y2 y3) (r18_Forget.l0 (k + 1) y0 y1 y2 y3))
 | 0 => fun _ _ _ _ r h => by simp [r18_Forget.l0] at h
 | k + 1 => by
  have ih0 := r18_Forget.mono_l k
  ·intro y0 y1 y2 y3
   unfold r18_Forget.l0
   repeat' first
   | (with_reducible exact ih0 _ _ _ _)
   | (with_reducible exact LeO.refl _)
   | (with_reducible exact LeO.none _)
   | (with_reducible refine LeO.ite ?_ ?_)
   | (with_reducible refine LeO.bind ?_ (fun _ => ?_))
   | exact ih0 _ _ _ _
   | exact LeO.none _
   | refine LeO.ite ?_ ?_
   | refine LeO.bind ?_ (fun _ => ?_)
theorem r18_Forget.mono : ∀ a0 a1 k, LeO (r18_Forget.f k a0 a1) (r18_Forget.f (k + 1) a0 a1) := by
 intro a0 a1 k
 have ih0 := r18_Forget.mono_l k
 unfold r18_Forget.f
 repeat' first
  | (with_reducible exact ih0 _ _ _ _)
  | (with_reducible exact LeO.refl _)
  | (with_reducible exact LeO.none _)
  | (with_reducible refine LeO.ite ?_ ?_)
  | (with_reducible refine LeO.bind ?_ (fun _ => ?_))
  | exact ih0 _ _ _ _
  | exact LeO.none _
  | refine LeO.ite ?_ ?_
  | refine LeO.bind ?_ (fun _ => ?_)
set_option maxHeartbeats 8000000 in
set_option maxRecDepth 100000 in
theorem r18_Forget.calls (k : Nat) (P0_ : Nat → Prop) (A0 : Option Addr) (c0 : Nat) (l0 : List (S27)) (a1 : Int) (r : List (S27)) (w : World) (hs0 : Kd.V k27 27 w w.heap.size (fun k_ => P0_ k_) (.slice A0 l0.length c0) l0) (h : r18_Forget.f k l0 a1 = some r) :
 Calls Try.prog 16 #[.slice A0 l0.length c0, .int .i64 a1] w fun e w' => ∃ v0_ : Value, e = .returned (v0_) ∧ Kd.N k27 27 w' w.heap.size (fun k_ => (P0_ k_ ∨ w.heap.size ≤ k_)) v0_ r ∧ Below w.heap.size w w' := by
 have hu27 := Try.underlying27
 have HO0 := Az.mk (show Kd.V k27 27 w w.heap.size (fun k_ => (P0_ k_ ∨ w.heap.size ≤ k_)) (.slice A0 l0.length c0) l0 from Kd.V_mono hs0 (fun k_ hk => .inl hk))
 have HB := Az.mk (Below.refl w.heap.size w)
 have H : (r18_Forget.l0 k l0 a1 ([] : List (S27)) 0) = some r := h
 clear h
 have H' := Az.mk H
 clear H
 go_enter Try.func16, Try.ntmps16
 go_wp2
 go_loopg [5, 6] k (fun kq v5 v6 w' => ∃ (x5_1 : List (S27)) (x6_1 : Int), v6 = .int .i64 x6_1 ∧ Az (r18_Forget.l0 kq l0 a1 x5_1 x6_1 = some r) ∧ Az (kq ≤ k) ∧ Az (Kd.V k27 27 w' w.heap.size (fun k_ => (P0_ k_ ∨ w.heap.size ≤ k_) ∧ some k_ ≠ (v5 : Value).ownBlock) (.slice A0 l0.length c0) l0) ∧ Az (Kd.N k27 27 w' w.heap.size (fun k_ => (P0_ k_ ∨ w.heap.size ≤ k_)) v5 x5_1) ∧ Az (Below w.heap.size w w'))
 case atStart => exact ⟨(([] : List (S27))), (0), (by first | rfl | (simp; done) | (simp [*]; done)), H', ⟨Nat.le_refl _⟩, ⟨by (with_reducible repeat (first | apply Kd.V_alloc | apply Kd.V_drewN | apply Kd.V_drew)); exact Kd.V_mono HO0.out (fun _ hk => ⟨hk, (by simp [Value.ownBlock])⟩)⟩, ⟨by first | exact Kd.S_nil _ _ _ _ _ | exact Kd.N_nil _ _ _ _ _ | exact Kd.V_nil _ _ _ _ _ | exact Kd.Q_nil _ _ _ _ _ | exact Kd.R_nil _ _ _ _ _⟩, ⟨by exact pbE HB.out⟩⟩
 case round =>
  clear H'
  try clear c1
  try clear p2
  obtain ⟨x5_1, x6_1, rfl, HA, HK1, HO_0, HO_5, HB⟩ := hrel
  cases gk with
  | zero => exact absurd HA.out (by simp [r18_Forget.l0])
  | succ k1 =>
   have H := HA.out
   clear HA
   simp only [r18_Forget.l0] at H
   by_cases c3 : x6_1 < (l0.length : Int)
   ·rw [if_pos c3] at H
    have c3b0 : decide (x6_1 < (l0.length : Int)) = true := decide_eq_true c3
    clear c3
    by_cases c4 : 0 ≤ x6_1
    ·rw [if_pos c4] at H
     have c4b0 : decide (0 ≤ x6_1) = true := decide_eq_true c4
     clear c4
     by_cases c5 : ((rd_T27 l0 x6_1).f0) = a1
     ·rw [if_pos c5] at H
      have c5b0 : (((rd_T27 l0 x6_1).f0) == a1) = true := beq_iff_eq.mpr c5
      have c5b1 : (((rd_T27 l0 x6_1).f0) != a1) = false := bne_eq_false_iff_eq.mpr c5
      clear c5
      have H' := Az.mk H
      clear H
      have p186 : 0 ≤ (x6_1 : Int) := of_decide_eq_true (by first | (with_reducible assumption) | assumption)
      have q186 : x6_1 < (l0.length : Int) := of_decide_eq_true (by first | (with_reducible assumption) | assumption)
      obtain ⟨ad186, A186_4, c186_4, e186, hx186_0, hx186_1, hx186_2, hx186_3, hx186_4, hx186_5, hl186_4, hi186_4⟩ := at_T27 (Kd.V_reads' HO_0.out).2.2 x6_1 p186 q186
      cases e186
      obtain ⟨ce186, hce186, hMe186, hcc186⟩ := Kd.V_get HO_0.out z27 x6_1 p186 (by first | exact q186 | exact of_decide_eq_true (by first | (with_reducible assumption) | assumption) | (have e_ := (Kd.V_reads' HO_0.out).1; omega))
      obtain ⟨ua186_4, uc186_4, rfl, ul186_4, ge186_4⟩ := k27_openF hMe186
      have hv186_4 := hcc186 4 _ rfl
      rw [add_field _ _ 4 (by omega)] at hv186_4
      replace hv186_4 := Option.some.inj (hv186_4.symm.trans hx186_4)
      injection hv186_4 with hva_ hvn_ hvc_
      rw [hva_] at ge186_4
      rw [hvc_] at ul186_4
      have HL186_4 := Az.mk (show Kd.V k47 47 _ w.heap.size _ _ ((rd_T27 l0 x6_1).f3) from Kd.V_mk ul186_4 ge186_4)
      clear hva_ hvn_ hvc_ ge186_4 ul186_4
      clear hcc186 hce186
      have HR186_4 := Az.mk hi186_4
      have HC186_4 := Az.mk hl186_4
      clear hi186_4 hl186_4
      replace p186 := eq_true p186
      replace q186 := eq_true q186
      go_wp2
      go_roundg k1
      case measure => have := HK1.out; omega
      case rel => exact ⟨(x5_1), (wrap64 (x6_1 + 1)), (by first | rfl | (simp; done) | (simp [*]; done)), H', ⟨by have := HK1.out; omega⟩, ⟨by (with_reducible repeat (first | apply Kd.V_alloc | apply Kd.V_drewN | apply Kd.V_drew)); exact HO_0.out⟩, ⟨by (with_reducible repeat (first | apply Kd.N_alloc | apply Kd.N_drewN | apply Kd.N_drew)); exact HO_5.out⟩, ⟨by exact pbE HB.out⟩⟩
     ·rw [if_neg c5] at H
      have c5b0 : (((rd_T27 l0 x6_1).f0) == a1) = false := beq_eq_false_iff_ne.mpr c5
      have c5b1 : (((rd_T27 l0 x6_1).f0) != a1) = true := bne_iff_ne.mpr c5
      by_cases c6 : x5_1.length < 1759218604441
      ·rw [if_pos c6] at H
       have LMc6 := Az.mk c6
       clear c6
       obtain ⟨y188, hy188⟩ : ∃ y_ : List (S27), y_ = (x5_1 ++ [(⟨(rd_T27 l0 x6_1).f0, (⟨(rd_T27 l0 x6_1).f1.f0, (rd_T27 l0 x6_1).f1.f1⟩ : S24), (rd_T27 l0 x6_1).f2, (rd_T27 l0 x6_1).f3, (rd_T27 l0 x6_1).f4⟩ : S27)]) := ⟨_, rfl⟩
       replace H : (r18_Forget.l0 k1 l0 a1 y188 (wrap64 (x6_1 + 1))) = some r := by first | (rw [hy188]; with_reducible exact H) | (have H2_ := (Option.bind_some _ _).symm.trans H; rw [hy188]; with_reducible exact H2_) | (have H2_ := (Option.bind_some _ _).symm.trans H; with_reducible exact H2_) | with_reducible exact H | (rw [hy188]; exact H) | exact H
       have Ny188 := Az.mk hy188
       clear hy188
       have H' := Az.mk H
       clear H
       have p186 : 0 ≤ (x6_1 : Int) := of_decide_eq_true (by first | (with_reducible assumption) | assumption)
       have q186 : x6_1 < (l0.length : Int) := of_decide_eq_true (by first | (with_reducible assumption) | assumption)
       obtain ⟨ad186, A186_4, c186_4, e186, hx186_0, hx186_1, hx186_2, hx186_3, hx186_4, hx186_5, hl186_4, hi186_4⟩ := at_T27 (Kd.V_reads' HO_0.out).2.2 x6_1 p186 q186
       cases e186
       obtain ⟨ce186, hce186, hMe186, hcc186⟩ := Kd.V_get HO_0.out z27 x6_1 p186 (by first | exact q186 | exact of_decide_eq_true (by first | (with_reducible assumption) | assumption) | (have e_ := (Kd.V_reads' HO_0.out).1; omega))
       obtain ⟨ua186_4, uc186_4, rfl, ul186_4, ge186_4⟩ := k27_openF hMe186
       have hv186_4 := hcc186 4 _ rfl
       rw [add_field _ _ 4 (by omega)] at hv186_4
       replace hv186_4 := Option.some.inj (hv186_4.symm.trans hx186_4)
       injection hv186_4 with hva_ hvn_ hvc_
       rw [hva_] at ge186_4
       rw [hvc_] at ul186_4
       have HL186_4 := Az.mk (show Kd.V k47 47 _ w.heap.size _ _ ((rd_T27 l0 x6_1).f3) from Kd.V_mk ul186_4 ge186_4)
       clear hva_ hvn_ hvc_ ge186_4 ul186_4
       clear hcc186 hce186
       have HR186_4 := Az.mk hi186_4
       have HC186_4 := Az.mk hl186_4
       clear hi186_4 hl186_4
       replace p186 := eq_true p186
       replace q186 := eq_true q186
       have p187 : 0 ≤ (x6_1 : Int) := of_decide_eq_true (by first | (with_reducible assumption) | assumption)
       have q187 : x6_1 < (l0.length : Int) := of_decide_eq_true (by first | (with_reducible assumption) | assumption)
       obtain ⟨ad187, A187_4, c187_4, e187, hx187_0, hx187_1, hx187_2, hx187_3, hx187_4, hx187_5, hl187_4, hi187_4⟩ := at_T27 (Kd.V_reads' HO_0.out).2.2 x6_1 p187 q187
       obtain rfl : ad186 = ad187 := (by injection e187)
       obtain ⟨ce187, hce187, hMe187, hcc187⟩ := Kd.V_get HO_0.out z27 x6_1 p187 (by first | exact q187 | exact of_decide_eq_true (by first | (with_reducible assumption) | assumption) | (have e_ := (Kd.V_reads' HO_0.out).1; omega))
       obtain ⟨ua187_4, uc187_4, rfl, ul187_4, ge187_4⟩ := k27_openF hMe187
       have hv187_4 := hcc187 4 _ rfl
       rw [add_field _ _ 4 (by omega)] at hv187_4
       replace hv187_4 := Option.some.inj (hv187_4.symm.trans hx187_4)
       injection hv187_4 with hva_ hvn_ hvc_
       rw [hva_] at ge187_4
       rw [hvc_] at ul187_4
       have HL187_4 := Az.mk (show Kd.V k47 47 _ w.heap.size _ _ ((rd_T27 l0 x6_1).f3) from Kd.V_mk ul187_4 ge187_4)
       clear hva_ hvn_ hvc_ ge187_4 ul187_4
       clear hcc187 hce187
       have HR187_4 := Az.mk hi187_4
       have HC187_4 := Az.mk hl187_4
       clear hi187_4 hl187_4
       replace p187 := eq_true p187
       replace q187 := eq_true q187
       have ea_ := Option.some.inj (hx186_4.symm.trans hx187_4)
       injection ea_ with ea_ en_ ec_
       subst ea_
       subst ec_
       clear en_
       go_wp2_with (first | ((with_reducible refine gate_builtin (b := .append) (xs := #[.tmp 20, .tmp 25]) rfl ?_); at_builtin; refine Kd.N_append k27 (w0 := w) w.heap.size rfl (.tmp 20) (.tmp 25) 22 27 (.agg #[(.int .i64 0), (.string ⟨#[]⟩), (.string ⟨#[]⟩), (.int .i64 0), (.slice none 0 0), (.int .i64 0)]) 80 rfl Try.underlying22 info27 rfl (by decide) (by omega) u5 x5_1 (⟨(rd_T27 l0 x6_1).f0, (⟨(rd_T27 l0 x6_1).f1.f0, (rd_T27 l0 x6_1).f1.f1⟩ : S24), (rd_T27 l0 x6_1).f2, (rd_T27 l0 x6_1).f3, (rd_T27 l0 x6_1).f4⟩ : S27) [.int .i64 ((rd_T27 l0 x6_1).f0), .string ((rd_T27 l0 x6_1).f1.f0), .string ((rd_T27 l0 x6_1).f1.f1), .int .i64 ((rd_T27 l0 x6_1).f2), .slice A186_4 ((rd_T27 l0 x6_1).f3).length c186_4, .int .i64 ((rd_T27 l0 x6_1).f4)] (fun k_ => (P0_ k_ ∨ w.heap.size ≤ k_)) (fun k_ => ((fun k_ => (P0_ k_ ∨ w.heap.size ≤ k_))) k_ ∧ some k_ ≠ (u5 : Value).ownBlock) rfl rfl ?aP (fun _ hk => hk) ?aF ?aO ?aB ?aS ?aL ?_; (case aP => exact (k27_mkF _ _ (⟨(rd_T27 l0 x6_1).f0, (⟨(rd_T27 l0 x6_1).f1.f0, (rd_T27 l0 x6_1).f1.f1⟩ : S24), (rd_T27 l0 x6_1).f2, (rd_T27 l0 x6_1).f3, (rd_T27 l0 x6_1).f4⟩ : S27) (Kd.V_reads' (Kd.V_mono (ok' := (fun k_ => ((fun k_ => (P0_ k_ ∨ w.heap.size ≤ k_))) k_ ∧ some k_ ≠ (u5 : Value).ownBlock)) (HL187_4.out) (fun k_ hk => ⟨hk.1, hk.2⟩))).2.1 (Kd.V_F (Kd.V_mono (ok' := (fun k_ => ((fun k_ => (P0_ k_ ∨ w.heap.size ≤ k_))) k_ ∧ some k_ ≠ (u5 : Value).ownBlock)) (HL187_4.out) (fun k_ hk => ⟨hk.1, hk.2⟩))))); (case aB => exact (by exact pbE HB.out)); (case aF => exact (fun k_ hk => (.inr (Nat.le_trans (pbZ (by exact pbE HB.out)) hk)))); (case aO => exact (by (with_reducible repeat (first | apply Kd.N_alloc | apply Kd.N_drewN | apply Kd.N_drew)); exact HO_5.out)); (case aS => exact (pbZ (by exact pbE HB.out))); (case aL => have := LMc6.out; omega); intro v189 w7 ho hb hg hat; rw [← Ny188.out] at ho; replace HO_0 := Az.mk (Kd.V_afterv (ok := (fun k_ => (P0_ k_ ∨ w.heap.size ≤ k_))) (Kd.V_ext HO_0.out) hg hat); replace HL186_4 := Az.mk (Kd.V_afterv (ok := (fun k_ => (P0_ k_ ∨ w.heap.size ≤ k_))) (Kd.V_ext HL186_4.out) hg hat); replace HL187_4 := Az.mk (Kd.V_afterv (ok := (fun k_ => (P0_ k_ ∨ w.heap.size ≤ k_))) (Kd.V_ext HL187_4.out) hg hat); replace HB := Az.mk (hb); have HO190 := Az.mk (ho); clear HO_5; clear ho hb hg hat))
       go_roundg k1
       case measure => have := HK1.out; omega
       case rel => exact ⟨(y188), (wrap64 (x6_1 + 1)), (by first | rfl | (simp; done) | (simp [*]; done)), H', ⟨by have := HK1.out; omega⟩, ⟨by (with_reducible repeat (first | apply Kd.V_alloc | apply Kd.V_drewN | apply Kd.V_drew)); exact HO_0.out⟩, ⟨by (with_reducible repeat (first | apply Kd.N_alloc | apply Kd.N_drewN | apply Kd.N_drew)); exact HO190.out⟩, ⟨by exact pbE HB.out⟩⟩
      ·rw [if_neg c6] at H
       exact absurd H (by simp)
    ·rw [if_neg c4] at H
     exact absurd H (by simp)
   ·rw [if_neg c3] at H
    have c3b0 : decide (x6_1 < (l0.length : Int)) = false := decide_eq_false c3
    clear c3
    obtain rfl := Option.some.inj H
    go_wp2
    go_ret
    exact ⟨_, by first | rfl | (simp [errW_none, errW_some] <;> rfl) | (simp [*, errW_none, errW_some] <;> rfl), by (with_reducible repeat (first | apply Kd.N_alloc | apply Kd.N_drewN | apply Kd.N_drew)); exact HO_5.out, by exact pbE HB.out⟩
end Go.Proofs.Ytppdcldbebnmlaa.P
end
section
namespace Go.Proofs.Ytppdcldbebnmlaa.P
open Go.RowKit Go.Shelf Go.Proofs.Ytppdcldbebnmlaa.K Go.Proofs.YtppdcldbebnmlaaW.PrintWords Go.Proofs.YtppdcldbebnmlaaW.PrintLast Go.Proofs.YtppdcldbebnmlaaW.PrintMore
theorem w64 {i : Nat} (h : i ≤ 4611686018427387904) : wrap64 ((i : Int) + 1) = ((i + 1 : Nat) : Int) := by unfold wrap64; omega
/-- Sizes of what came in. -/
def Fits (x : SD) : Prop := x.f1.f0.size ≤ 140737488355328 ∧ x.f1.f1.size ≤ 140737488355328 ∧ x.f3.length ≤ 140737488355328
theorem small_any (l : List SD) (hf : ∀ x ∈ l, Fits x) (d : Nat) : ∀ (i : Nat) (z : Int), 32 - i ≤ d → i ≤ 31 → 0 ≤ z → (∀ x ∈ l.take i, (x.f3.length : Int) ≤ z) → ∃ k b, l18_small.l0 k l z (i : Int) = some b ∧ (b = true → l.length ≤ 30 ∧ ∀ x ∈ l, x.f3.length ≤ 2000) := by
 induction d with
 | zero => intro i z h1 h2; omega
 | succ d ih =>
  intro i z h1 h2 hz hp
  by_cases c1 : (i : Int) < (l.length : Int)
  ·by_cases c2 : (i : Int) ≤ 30
   ·by_cases c3 : z ≤ 2000
    ·have hi : i < l.length := by omega
     obtain ⟨f1, f2, f3⟩ := hf l[i] (List.getElem_mem hi)
     have hw : wrap64 ((wrap64 ((wrap64 (z + (l[i].f1.f0.size : Int))) + (l[i].f1.f1.size : Int))) + (l[i].f3.length : Int)) = z + l[i].f1.f0.size + l[i].f1.f1.size + l[i].f3.length := by unfold wrap64; omega
     obtain ⟨k, b, hk, hb⟩ := ih (i + 1) (z + l[i].f1.f0.size + l[i].f1.f1.size + l[i].f3.length) (by omega) (by omega) (by omega) (fun x hx => by
      rw [List.take_succ_eq_append_getElem hi, List.mem_append, List.mem_singleton] at hx
      rcases hx with hx | rfl
      ·have := hp x hx; omega
      ·omega)
     refine ⟨k + 1, b, ?_, hb⟩
     rw [l18_small.l0, if_pos c1, if_pos c2, if_pos c3, if_pos (by omega), w64 (by omega), rd_D hi, hw]; exact hk
    ·refine ⟨1, false, ?_, fun h => by cases h⟩
     rw [l18_small.l0, if_pos c1, if_pos c2, if_neg c3, decide_eq_false c3]
     split <;> rfl
   ·refine ⟨1, false, ?_, fun h => by cases h⟩
    rw [l18_small.l0, if_pos c1, if_neg c2, if_neg (by omega)]
  ·by_cases c4 : (l.length : Int) ≤ 30
   ·refine ⟨1, decide (z ≤ 2000), ?_, fun h => ⟨by omega, fun x hx => ?_⟩⟩
    ·rw [l18_small.l0, if_neg c1, if_pos c4]
    ·have := hp x (by rw [List.take_of_length_le (by omega)]; exact hx)
     have := of_decide_eq_true h
     omega
   ·refine ⟨1, false, ?_, fun h => by cases h⟩
    rw [l18_small.l0, if_neg c1, if_neg c4]
theorem small_once (l : List SD) (hf : ∀ x ∈ l, Fits x) : ∃ k b, l18_small.f k l = some b ∧ (b = true → l.length ≤ 30 ∧ ∀ x ∈ l, x.f3.length ≤ 2000) := small_any l hf 32 0 0 (by omega) (by omega) (by omega) (fun x hx => by simp at hx)
section
variable (m0 : Int) (m1 m2 : ByteArray) (m3 : Int) (ms : List SM) (m5 : Int)
theorem is_l1 (i : Nat) (hi : i < ms.length) (hm : ms.length ≤ 1000000000) (a b : Int) (hn : ∃ b, Ev (fun k => r06_Is.l0 k ((i + 1 : Nat) : Int) m0 m1 m2 m3 ms m5) b) (d : Nat) : ∀ j, i - j = d → j ≤ i → ∃ r, Ev (fun k => r06_Is.l1 k (i : Int) (j : Int) m0 m1 m2 m3 ms m5 a b) r := by
 induction d with
 | zero =>
  intro j h1 h2
  obtain ⟨r, hr⟩ := hn
  refine ⟨r, Ev.step (f := fun k => r06_Is.l0 k ((i + 1 : Nat) : Int) m0 m1 m2 m3 ms m5) (fun k => ?_) hr⟩
  rw [r06_Is.l1, if_neg (by omega), w64 (by omega)]
 | succ d ih =>
  intro j h1 h2
  by_cases c : (rd_T47 ms (j : Int)).f0 = a
  ·exact ⟨false, Ev.step (f := fun _ => some false) (fun k => by rw [r06_Is.l1, if_pos (by omega), if_pos (by omega), if_pos (by omega), if_pos c]) (Ev.now _)⟩
  ·obtain ⟨r, hr⟩ := ih (j + 1) (by omega) (by omega)
   exact ⟨r, Ev.step (f := fun k => r06_Is.l1 k (i : Int) ((j + 1 : Nat) : Int) m0 m1 m2 m3 ms m5 a b) (fun k => by rw [r06_Is.l1, if_pos (by omega), if_pos (by omega), if_pos (by omega), if_neg c, w64 (by omega)]) hr⟩
theorem is_j2 (i : Nat) (hi : i < ms.length) (hm : ms.length ≤ 1000000000) (t : Bool) (a b : Int) (hn : ∃ b, Ev (fun k => r06_Is.l0 k ((i + 1 : Nat) : Int) m0 m1 m2 m3 ms m5) b) : ∃ r, Ev (fun k => r06_Is.j2 k (i : Int) t m0 m1 m2 m3 ms m5 a b) r := by
 cases t
 ·obtain ⟨r, hr⟩ := is_l1 m0 m1 m2 m3 ms m5 i hi hm a b hn i 0 rfl (Nat.zero_le _)
  exact ⟨r, Ev.step (f := fun k => r06_Is.l1 k (i : Int) ((0 : Nat) : Int) m0 m1 m2 m3 ms m5 a b) (fun k => by rw [r06_Is.j2, if_neg (by simp)]; rfl) hr⟩
 ·exact ⟨false, Ev.step (f := fun _ => some false) (fun k => by rw [r06_Is.j2, if_pos rfl]) (Ev.now _)⟩
theorem is_l0 (hm : ms.length ≤ 1000000000) (d : Nat) : ∀ i, ms.length - i = d → i ≤ ms.length → ∃ r, Ev (fun k => r06_Is.l0 k (i : Int) m0 m1 m2 m3 ms m5) r := by
 induction d with
 | zero =>
  intro i h1 h2
  exact ⟨true, Ev.step (f := fun _ => some true) (fun k => by rw [r06_Is.l0, if_neg (by omega)]) (Ev.now _)⟩
 | succ d ih =>
  intro i h1 h2
  have hn := ih (i + 1) (by omega) (by omega)
  have key : ∃ t : Bool, ∀ k, r06_Is.l0 (k + 1) (i : Int) m0 m1 m2 m3 ms m5 = r06_Is.j2 k (i : Int) t m0 m1 m2 m3 ms m5 (rd_T47 ms (i : Int)).f0 (rd_T47 ms (i : Int)).f1 := by
   by_cases c1 : (rd_T47 ms (i : Int)).f0 < 1
   ·exact ⟨true, fun k => by rw [r06_Is.l0, if_pos (by omega), if_pos (by omega), if_pos c1]⟩
   ·by_cases c2 : (rd_T47 ms (i : Int)).f0 > 7
    ·exact ⟨true, fun k => by rw [r06_Is.l0, if_pos (by omega), if_pos (by omega), if_neg c1, if_pos c2]⟩
    ·by_cases c3 : (rd_T47 ms (i : Int)).f1 < 1
     ·exact ⟨true, fun k => by rw [r06_Is.l0, if_pos (by omega), if_pos (by omega), if_neg c1, if_neg c2, if_pos c3]⟩
     ·by_cases c4 : (rd_T47 ms (i : Int)).f1 ≥ m5
      ·exact ⟨true, fun k => by rw [r06_Is.l0, if_pos (by omega), if_pos (by omega), if_neg c1, if_neg c2, if_neg c3, if_pos c4]⟩
      ·by_cases c5 : (i : Int) > 0
       ·have hw : wrap64 ((i : Int) - 1) = (i : Int) - 1 := by unfold wrap64; omega
        exact ⟨_, fun k => by rw [r06_Is.l0, if_pos (by omega), if_pos (by omega), if_neg c1, if_neg c2, if_neg c3, if_neg c4, if_pos c5, hw, if_pos (by omega), if_pos (by omega)]⟩
       ·exact ⟨false, fun k => by rw [r06_Is.l0, if_pos (by omega), if_pos (by omega), if_neg c1, if_neg c2, if_neg c3, if_neg c4, if_neg c5]⟩
  obtain ⟨t, ht⟩ := key
  obtain ⟨r, hr⟩ := is_j2 m0 m1 m2 m3 ms m5 i (by omega) hm t (rd_T47 ms (i : Int)).f0 (rd_T47 ms (i : Int)).f1 hn
  exact ⟨r, Ev.step ht hr⟩
theorem is_j0 (hm : ms.length ≤ 1000000000) (t : Bool) : ∃ r, Ev (fun k => r06_Is.j0 k t m0 m1 m2 m3 ms m5) r ∧ (t = true → r = false) := by
 cases t
 ·obtain ⟨r, hr⟩ := is_l0 m0 m1 m2 m3 ms m5 hm ms.length 0 rfl (Nat.zero_le _)
  exact ⟨r, Ev.step (f := fun k => r06_Is.l0 k ((0 : Nat) : Int) m0 m1 m2 m3 ms m5) (fun k => by rw [r06_Is.j0, if_neg (by simp)]; rfl) hr, fun h => by cases h⟩
 ·exact ⟨false, Ev.step (f := fun _ => some false) (fun k => by rw [r06_Is.j0, if_pos rfl]) (Ev.now _), fun _ => rfl⟩
end
theorem id_some (n : Int) : ∃ b, r06_id.f n = some b := by
 unfold r06_id.f
 split
 ·exact ⟨_, rfl⟩
 ·exact ⟨_, rfl⟩
theorem isD_ex (x : SD) (hm : x.f3.length ≤ 1000000000) : ∃ b, Ev (fun k => r06_Is.f k x.f0 x.f1.f0 x.f1.f1 x.f2 x.f3 x.f4) b ∧ (b = true → boundOk x.f1.f0 x.f1.f1 = true) := by
 obtain ⟨b1, h1⟩ := id_some x.f0
 obtain ⟨b2, h2⟩ := id_some x.f2
 obtain ⟨b3, h3⟩ := id_some x.f4
 have hT := is_j0 x.f0 x.f1.f0 x.f1.f1 x.f2 x.f3 x.f4 hm true
 obtain ⟨r, hr, hf⟩ := hT
 obtain rfl := hf rfl
 unfold r06_Is.f
 simp only [h1, h2, h3, refIs_eq, Option.bind_some]
 cases b1
 ·exact ⟨false, by simpa using hr, fun h => by cases h⟩
 ·cases b2
  ·exact ⟨false, by simpa using hr, fun h => by cases h⟩
  ·cases b3
   ·exact ⟨false, by simpa using hr, fun h => by cases h⟩
   ·cases hb : boundOk x.f1.f0 x.f1.f1
    ·exact ⟨false, by simpa using hr, fun h => by cases h⟩
    ·simp only [if_true]
     by_cases hl : (x.f3.length : Int) < 1
     ·exact ⟨false, by simpa [hl] using hr, fun h => by cases h⟩
     ·obtain ⟨r2, hr2, _⟩ := is_j0 x.f0 x.f1.f0 x.f1.f1 x.f2 x.f3 x.f4 hm (decide ((x.f3.length : Int) > 5))
      exact ⟨r2, by simpa only [hl, if_false] using hr2, fun _ => trivial⟩
open Classical in
/-- May a descriptor be? -/
noncomputable def isD (x : SD) : Bool := if h : x.f3.length ≤ 1000000000 then Classical.choose (isD_ex x h) else false
theorem isD_ev {x : SD} (hm : x.f3.length ≤ 1000000000) : Ev (fun k => r06_Is.f k x.f0 x.f1.f0 x.f1.f1 x.f2 x.f3 x.f4) (isD x) := by
 unfold isD; rw [dif_pos hm]; exact (Classical.choose_spec (isD_ex x hm)).1
theorem isD_bound {x : SD} (h : isD x = true) : boundOk x.f1.f0 x.f1.f1 = true := by
 unfold isD at h
 split at h
 ·rename_i hm; exact (Classical.choose_spec (isD_ex x hm)).2 h
 ·cases h
def meetS (x y : SD) : Bool := meetB x.f1.f0 x.f1.f1 y.f1.f0 y.f1.f1
theorem meetS_eq (x y : SD) : r02_Meet.f x.f1.f0 x.f1.f1 y.f1.f0 y.f1.f1 = some (meetR x.f1.f0 x.f1.f1 y.f1.f0 y.f1.f1) := refMeet_eq _ _ _ _
def meetS' (x y : SD) : Bool := meetR x.f1.f0 x.f1.f1 y.f1.f0 y.f1.f1
def prevLt (l : List SD) (x : SD) : Nat → Bool
 | 0 => true
 | j + 1 => match l[j]? with | some y => lt y.f1.f0 x.f1.f0 | none => true
noncomputable def okAt (l : List SD) (i : Nat) : Bool := match l[i]? with
 | none => true
 | some x => isD x && (prevLt l x i && (l.take i).all fun y => !meetS' y x)
noncomputable def cacheB (l : List SD) (d i : Nat) : Bool := match d with
 | 0 => true
 | d + 1 => okAt l i && cacheB l d (i + 1)
theorem cache_l1 (l : List SD) (hm : l.length ≤ 1000000000) (i : Nat) (hi : i < l.length) (b : Bool) (hn : Ev (fun k => r18_Is.l0 k l ((i + 1 : Nat) : Int)) b) (d : Nat) : ∀ j, i - j = d → j ≤ i → Ev (fun k => r18_Is.l1 k l (i : Int) (j : Int)) (((l.take i).drop j).all (fun y => !meetS' y l[i]) && b) := by
 induction d with
 | zero =>
  intro j h1 h2
  rw [List.drop_of_length_le (by rw [List.length_take]; omega), List.all_nil, Bool.true_and]
  exact Ev.step (f := fun k => r18_Is.l0 k l ((i + 1 : Nat) : Int)) (fun k => by rw [r18_Is.l1, if_neg (by omega), w64 (by omega)]) hn
 | succ d ih =>
  intro j h1 h2
  have hj : j < (l.take i).length := by rw [List.length_take]; omega
  rw [List.drop_eq_getElem_cons hj, List.all_cons, List.getElem_take]
  have e : ∀ k, r18_Is.l1 (k + 1) l (i : Int) (j : Int) = if meetS' l[j] l[i] = true then some false else r18_Is.l1 k l (i : Int) ((j + 1 : Nat) : Int) := fun k => by
   rw [r18_Is.l1, if_pos (by omega), if_pos (by omega), if_pos (by omega), if_pos (by omega), if_pos (by omega), rd_D (by omega : j < l.length), rd_D hi, meetS_eq, Option.bind_some, w64 (by omega)]; rfl
  cases hq : meetS' l[j] l[i]
  ·rw [hq] at e
   simpa using Ev.step (fun k => (e k).trans (if_neg (by simp))) (ih (j + 1) (by omega) (by omega))
  ·rw [hq] at e
   have := Ev.step (g := fun k => r18_Is.l1 k l (i : Int) (j : Int)) (f := fun _ => some false) (fun k => (e k).trans (if_pos rfl)) (Ev.now false)
   simpa using this
theorem cache_l0 (l : List SD) (hm : l.length ≤ 1000000000) (hx : ∀ x ∈ l, x.f3.length ≤ 1000000000) (d : Nat) : ∀ i, l.length - i = d → i ≤ l.length → Ev (fun k => r18_Is.l0 k l (i : Int)) (cacheB l d i) := by
 induction d with
 | zero =>
  intro i h1 h2
  exact Ev.step (f := fun _ => some true) (fun k => by rw [r18_Is.l0, if_neg (by omega)]) (Ev.now _)
 | succ d ih =>
  intro i h1 h2
  have hi : i < l.length := by omega
  have hn := ih (i + 1) (by omega) (by omega)
  have hD := isD_ev (hx l[i] (List.getElem_mem hi))
  simp only [cacheB]
  have hok : okAt l i = (isD l[i] && (prevLt l l[i] i && (l.take i).all fun y => !meetS' y l[i])) := by
   unfold okAt; rw [List.getElem?_eq_getElem hi]
  have hl1 := cache_l1 l hm i hi _ hn i 0 rfl (Nat.zero_le _)
  rw [List.drop_zero] at hl1
  have hj : ∀ t : Bool, Ev (fun k => r18_Is.j1 k l (i : Int) t) (if t = true then false else ((l.take i).all (fun y => !meetS' y l[i]) && cacheB l d (i + 1))) := fun t => by
   cases t
   ·exact Ev.step (f := fun k => r18_Is.l1 k l (i : Int) ((0 : Nat) : Int)) (fun k => by rw [r18_Is.j1, if_neg (by simp)]; rfl) hl1
   ·exact Ev.step (f := fun _ => some false) (fun k => by rw [r18_Is.j1, if_pos rfl]) (Ev.now _)
  rw [hok]
  cases hd : isD l[i]
  ·rw [hd] at hD
   refine Ev.step (f := fun k => (r06_Is.f k l[i].f0 l[i].f1.f0 l[i].f1.f1 l[i].f2 l[i].f3 l[i].f4).bind fun t => if t = true then (if (i : Int) > 0 then r18_Is.j1 k l (i : Int) (!(Op.bytesLess ((rd_T27 l (wrap64 ((i : Int) - 1))).f1.f0).toList (l[i].f1.f0).toList)) else r18_Is.j1 k l (i : Int) false) else r18_Is.j1 k l (i : Int) true) (fun k => ?_) (Ev.bind hD (by simpa using hj true))
   rw [r18_Is.l0, if_pos (by omega), if_pos (by omega), rd_D hi]
   congr 1
   funext t
   cases t
   ·rfl
   ·by_cases c : (i : Int) > 0
    ·have hw : wrap64 ((i : Int) - 1) = (i : Int) - 1 := by unfold wrap64; omega
     rw [if_pos rfl, if_pos rfl, if_pos c, if_pos c, hw, if_pos (by omega), if_pos (by omega)]
    ·rw [if_pos rfl, if_pos rfl, if_neg c, if_neg c]
  ·rw [hd] at hD
   rcases i with _ | i
   ·refine Ev.step (f := fun k => (r06_Is.f k l[0].f0 l[0].f1.f0 l[0].f1.f1 l[0].f2 l[0].f3 l[0].f4).bind fun t => if t = true then r18_Is.j1 k l ((0 : Nat) : Int) false else r18_Is.j1 k l ((0 : Nat) : Int) true) (fun k => ?_) (Ev.bind hD (by simpa [prevLt] using hj false))
    rw [r18_Is.l0, if_pos (by omega), if_pos (by omega), rd_D hi]
    rfl
   ·have hw : wrap64 (((i + 1 : Nat) : Int) - 1) = (i : Int) := by unfold wrap64; omega
    refine Ev.step (f := fun k => (r06_Is.f k l[i + 1].f0 l[i + 1].f1.f0 l[i + 1].f1.f1 l[i + 1].f2 l[i + 1].f3 l[i + 1].f4).bind fun t => if t = true then r18_Is.j1 k l ((i + 1 : Nat) : Int) (!(Op.bytesLess (l[i].f1.f0).toList (l[i + 1].f1.f0).toList)) else r18_Is.j1 k l ((i + 1 : Nat) : Int) true) (fun k => ?_) (Ev.bind hD ?_)
    ·rw [r18_Is.l0, if_pos (by omega), if_pos (by omega), rd_D hi, if_pos (by omega : ((i + 1 : Nat) : Int) > 0), hw, if_pos (by omega), if_pos (by omega), rd_D (by omega : i < l.length)]
    ·have e : l[i]? = some l[i] := List.getElem?_eq_getElem (by omega)
     simp only [if_true, prevLt, e]
     have := hj (!(Op.bytesLess (l[i].f1.f0).toList (l[i + 1].f1.f0).toList))
     cases hq : Op.bytesLess (l[i].f1.f0).toList (l[i + 1].f1.f0).toList
     ·rw [hq] at this; simpa [lt, hq] using this
     ·rw [hq] at this; simpa [lt, hq] using this
/-- May a list be a cache? -/
noncomputable def isC (l : List SD) : Bool := cacheB l l.length 0
theorem isC_ev {l : List SD} (hm : l.length ≤ 1000000000) (hx : ∀ x ∈ l, x.f3.length ≤ 1000000000) : Ev (fun k => r18_Is.f k l) (isC l) := cache_l0 l hm hx l.length 0 rfl (Nat.zero_le _)
/-- A cache: each may be, they lie in order, none meets another one. -/
def Cache (l : List SD) : Prop := (∀ x ∈ l, isD x = true) ∧ (l.Pairwise fun x y => lt x.f1.f0 y.f1.f0 = true ∧ meetS' x y = false)
end Go.Proofs.Ytppdcldbebnmlaa.P
end
section
namespace Go.Proofs.Ytppdcldbebnmlaa.P
open Go.RowKit Go.Shelf Go.Proofs.Ytppdcldbebnmlaa.K Go.Proofs.YtppdcldbebnmlaaW.PrintWords Go.Proofs.YtppdcldbebnmlaaW.PrintLast Go.Proofs.YtppdcldbebnmlaaW.PrintMore
theorem put_D {w1 : World} {B : Nat} {t : TypeId} {u0 u1 u2 u3 u4 u5 : Value} (x : RawD) (BL : w1.heap[B]? = some (.cells #[u0, u1, u2, u3, u4, u5] t (0, 0))) :
 ((((((w1.setCell ⟨B, 0, none⟩ (.int .i64 x.f0)).setCell ⟨B, 1, none⟩ (.string x.f1)).setCell ⟨B, 2, none⟩ (.string x.f2)).setCell ⟨B, 3, none⟩ (.int .i64 x.f3)).setCell ⟨B, 4, none⟩ (.slice x.a4 x.n4 x.c4)).setCell ⟨B, 5, none⟩ (.int .i64 x.f5)).heap[B]? = some (.cells (encD x).toArray t (0, 0)) := by
 unfold encD
 refine blk_put (cs := #[.int .i64 x.f0, .string x.f1, .string x.f2, .int .i64 x.f3, .slice x.a4 x.n4 x.c4, u5]) ?_ 5 _ rfl
 refine blk_put (cs := #[.int .i64 x.f0, .string x.f1, .string x.f2, .int .i64 x.f3, u4, u5]) ?_ 4 _ rfl
 refine blk_put (cs := #[.int .i64 x.f0, .string x.f1, .string x.f2, u3, u4, u5]) ?_ 3 _ rfl
 refine blk_put (cs := #[.int .i64 x.f0, .string x.f1, u2, u3, u4, u5]) ?_ 2 _ rfl
 refine blk_put (cs := #[.int .i64 x.f0, u1, u2, u3, u4, u5]) ?_ 1 _ rfl
 exact blk_put BL 0 _ rfl
theorem two_old {w w2 : World} {c1 c2 : Array Value} {t t2 : TypeId} (hb : Below ((w.alloc (.cells c1 t)).alloc (.cells c2 t2)).heap.size ((w.alloc (.cells c1 t)).alloc (.cells c2 t2)) w2) : w2.heap[w.heap.size]? = some (.cells c1 t (0, 0)) := by
 have h1 : (w.alloc (.cells c1 t)).heap.size = w.heap.size + 1 := by simp
 have h2 : ((w.alloc (.cells c1 t)).alloc (.cells c2 t2)).heap.size = w.heap.size + 2 := by simp
 rw [hb.block w.heap.size (by omega), heap_alloc_old _ _ (by omega)]
 exact heap_alloc_new w _
theorem two_new {w w2 : World} {c1 c2 : Array Value} {t t2 : TypeId} (hb : Below ((w.alloc (.cells c1 t)).alloc (.cells c2 t2)).heap.size ((w.alloc (.cells c1 t)).alloc (.cells c2 t2)) w2) : w2.heap[w.heap.size + 1]? = some (.cells c2 t2 (0, 0)) := by
 have h1 : (w.alloc (.cells c1 t)).heap.size = w.heap.size + 1 := by simp
 have h2 : ((w.alloc (.cells c1 t)).alloc (.cells c2 t2)).heap.size = w.heap.size + 2 := by simp
 rw [hb.block (w.heap.size + 1) (by omega), ← h1]
 exact heap_alloc_new _ _
set_option maxHeartbeats 1000000 in
theorem pred_find (B : Nat) (key : ByteArray) (l : List RawD) (w : World) (hB : B < w.heap.size) (hc : w.cell? ⟨B, 0, none⟩ = some (.string key)) : PredD 26 #[.pointer (some ⟨B, 0, none⟩)] l (fun x => hasB x.f1 x.f2 key) w := by
 intro W x _ hb
 have hc : W.cell? ⟨B, 0, none⟩ = some (.string key) := (hb.cell (p := ⟨B, 0, none⟩) hB).trans hc
 have hBW : B < W.heap.size := Nat.lt_of_lt_of_le hB hb.size
 have hH : ∀ W', Hid (Calls Try.prog 27 #[.agg #[.string x.f1, .string x.f2], .string key] W' fun e w' => e = .returned (.bool (hasB x.f1 x.f2 key)) ∧ Below W'.heap.size W' w') := fun W' => Lib.hid (bound_Has.calls _ _ _ _ W' (has_eq _ _ _))
 have hu := Try.underlying27
 have hu2 := Try.underlying24
 show Calls Try.prog 26 #[.agg #[.int .i64 x.f0, .string x.f1, .string x.f2, .int .i64 x.f3, .slice x.a4 x.n4 x.c4, .int .i64 x.f5], .pointer (some ⟨B, 0, none⟩)] W fun e w' => e = .returned (.bool (hasB x.f1 x.f2 key)) ∧ Below W.heap.size W w'
 generalize hasB x.f1 x.f2 key = r at hH ⊢
 clear hb
 go_enter Try.func26, Try.ntmps26
 go_wp2_with (go_at_call 27; refine (hH _).out.mono ?_; rintro e w' ⟨rfl, hb2⟩)
 go_ret
 exact ⟨rfl, pbT (pbA (Below.refl _ _) _) hb2⟩
set_option maxHeartbeats 1000000 in
theorem pred_forget (B : Nat) (id : Int) (W : World) (x : RawD) (hb : W.heap[B]? = some (.cells #[.int .i64 id] 2 (0, 0))) : Calls Try.prog 38 (#[aggD x] ++ #[.pointer (some ⟨B, 0, none⟩)]) W fun e w' => e = .returned (.bool (x.f0 == id)) ∧ Below W.heap.size W w' := by
 have hc : W.cell? ⟨B, 0, none⟩ = some (.int .i64 id) := (bkC hb 0).trans rfl
 have hBW := blk_lt hb
 have hu := Try.underlying27
 show Calls Try.prog 38 #[.agg #[.int .i64 x.f0, .string x.f1, .string x.f2, .int .i64 x.f3, .slice x.a4 x.n4 x.c4, .int .i64 x.f5], .pointer (some ⟨B, 0, none⟩)] W _
 clear hb
 go_enter Try.func38, Try.ntmps38
 go_wp2
 go_ret
 exact ⟨rfl, pbA (Below.refl _ _) _⟩
/-- What Find hands back of what it has found. -/
def foundV : Option RawD → Value
 | some x => .tuple #[aggD x, .bool true]
 | none => .tuple #[aggD zeroD, .bool false]
theorem find_idx (p : RawD → Bool) (l : List RawD) : (idxZ p l 0 = -1 ∧ l.find? p = none) ∨ ∃ (i : Nat) (h : i < l.length), idxZ p l 0 = (i : Int) ∧ l.find? p = some l[i] := by
 rcases idxZ_spec p l 0 with ⟨h1, h2⟩ | ⟨i, h, h1, h2, h3⟩
 ·exact .inl ⟨h1, List.find?_eq_none.2 (fun x hx => by rw [h2 x hx]; simp)⟩
 ·refine .inr ⟨i, h, by rw [h1, Nat.zero_add], ?_⟩
  rw [List.find?_eq_some_iff_getElem]
  refine ⟨h2, i, h, rfl, fun j hj => ?_⟩
  rw [h3 l[j] (List.mem_iff_getElem.2 ⟨j, by rw [List.length_take]; omega, by rw [List.getElem_take]⟩)]; rfl
set_option maxHeartbeats 4000000 in
set_option maxRecDepth 100000 in
theorem find_calls (A0 : Option Addr) (c0 : Nat) (l0 : List RawD) (key : ByteArray) (w : World) (hr0 : Kd.C kD w A0 l0.length l0) (hl : l0.length ≤ 1000000000) :
 Calls Try.prog 10 #[.slice A0 l0.length c0, .string key] w fun e w' => e = .returned (foundV (l0.find? fun x => hasB x.f1 x.f2 key)) ∧ Below w.heap.size w w' := by
 have HC := Lib.hid hr0
 clear hr0
 have hu := Try.underlying27
 have hu2 := Try.underlying9
 have hmf : ∀ (fn : Fn) (first cap : Array Value) (w : World), (Instr.makeFunc fn first cap).run Try.prog w = .ok (.func fn first cap) w := fun _ _ _ _ => rfl
 have eg : ∀ args w, (callFunc 26 args).run Try.prog w = .ok (.enter 26 args) w := enters_of Try.func26 (by kernel_rfl) rfl
 have HI : ∀ W, Below w.heap.size w W → W.heap[w.heap.size]? = some (.cells #[.string key] 9 (0, 0)) → Hid (Calls Try.prog 25 #[.slice A0 l0.length c0, .func (.func 26) #[] #[.pointer (some ⟨w.heap.size, 0, none⟩)]] W fun e w' => e = .returned (.int .i64 (idxZ (fun x => hasB x.f1 x.f2 key) l0 0)) ∧ Below W.heap.size W w') := fun W hW hx =>
  Lib.hid (indexD_calls _ _ _ eg A0 c0 l0 W (Kd.C_below HC.out hW) hl (pred_find w.heap.size key l0 W (blk_lt hx) ((bkC hx 0).trans rfl)))
 rcases find_idx (fun x => hasB x.f1 x.f2 key) l0 with ⟨h1, h2⟩ | ⟨i, hi, h1, h2⟩
 ·rw [h2]
  simp only [h1] at HI
  unfold foundV aggD zeroD
  go_enter Try.func10, Try.ntmps10
  go_wp2_with (go_at_call 25; refine (HI _ (pbA (pbA (Below.refl _ _) _) _) (bkA (heap_alloc_new _ _) _)).out.mono ?_; rintro e w1 ⟨rfl, hb⟩; have BL := two_new hb; have f0 := bkF BL 0; have f1 := bkF BL 1; have f2 := bkF BL 2; have f3 := bkF BL 3; have f4 := bkF BL 4; have f5 := bkF BL 5; have y0 := (bkC BL 0).trans rfl; have y1 := (bkC BL 1).trans rfl; have y2 := (bkC BL 2).trans rfl; have y3 := (bkC BL 3).trans rfl; have y4 := (bkC BL 4).trans rfl; have y5 := (bkC BL 5).trans rfl)
  refine bodyPost_ret (results_ct rfl _ _ (w.heap.size + 1) 27 (encD zeroD).toArray (0, 0) _ rfl (put_D zeroD BL) hu rfl (by kernel_rfl)) rfl ?_
  exact ⟨rfl, (((((((pbT (pbA (pbA (Below.refl _ _) _) _) hb).setCell (Nat.le_succ _) _).setCell (Nat.le_succ _) _).setCell (Nat.le_succ _) _).setCell (Nat.le_succ _) _).setCell (Nat.le_succ _) _).setCell (Nat.le_succ _) _)⟩
 ·rw [h2]
  simp only [h1] at HI
  have hi0 : (0 : Int) ≤ (i : Int) := by omega
  have hi1 : (i : Int) < (l0.length : Int) := by omega
  have HE : ∀ W, Below w.heap.size w W → Hid (Kd.C kD W A0 l0.length l0) := fun W hW => Lib.hid (Kd.C_below HC.out hW)
  obtain ⟨ad, rfl, _⟩ := at_D HC.out i hi
  have HM : Hid (∀ W, Below w.heap.size w W → ∃ ad', some ad = some ad' ∧ W.cell? (ad'.add (i * 6)) = some (.int .i64 l0[i].f0) ∧ W.cell? ⟨(ad'.add (i * 6)).block, (ad'.add (i * 6)).off + 1, none⟩ = some (.string l0[i].f1) ∧ W.cell? ⟨(ad'.add (i * 6)).block, (ad'.add (i * 6)).off + 2, none⟩ = some (.string l0[i].f2) ∧ W.cell? ⟨(ad'.add (i * 6)).block, (ad'.add (i * 6)).off + 3, none⟩ = some (.int .i64 l0[i].f3) ∧ W.cell? ⟨(ad'.add (i * 6)).block, (ad'.add (i * 6)).off + 4, none⟩ = some (.slice l0[i].a4 l0[i].n4 l0[i].c4) ∧ W.cell? ⟨(ad'.add (i * 6)).block, (ad'.add (i * 6)).off + 5, none⟩ = some (.int .i64 l0[i].f5)) := Lib.hid fun W hW => at_D (HE W hW).out i hi
  clear h1 h2 HE
  unfold foundV aggD
  simp only
  generalize l0[i] = m at HM ⊢
  go_enter Try.func10, Try.ntmps10
  go_wp2_with (go_at_call 25; refine (HI _ (pbA (pbA (Below.refl _ _) _) _) (bkA (heap_alloc_new _ _) _)).out.mono ?_; rintro e w1 ⟨rfl, hb⟩; have BL := two_new hb; have f0 := bkF BL 0; have f1 := bkF BL 1; have f2 := bkF BL 2; have f3 := bkF BL 3; have f4 := bkF BL 4; have f5 := bkF BL 5; have y0 := (bkC BL 0).trans rfl; have y1 := (bkC BL 1).trans rfl; have y2 := (bkC BL 2).trans rfl; have y3 := (bkC BL 3).trans rfl; have y4 := (bkC BL 4).trans rfl; have y5 := (bkC BL 5).trans rfl; have HB := Lib.hid (pbT (pbA (pbA (Below.refl _ _) _) _) hb); obtain ⟨ad', ea, e0, e1, e2, e3, e4, e5⟩ := HM.out _ HB.out; injection ea with ea; subst ea)
  refine bodyPost_ret (results_ct rfl _ _ (w.heap.size + 1) 27 (encD m).toArray (0, 0) _ rfl (put_D m BL) hu rfl (by kernel_rfl)) rfl ?_
  exact ⟨rfl, ((((((HB.out.setCell (Nat.le_succ _) _).setCell (Nat.le_succ _) _).setCell (Nat.le_succ _) _).setCell (Nat.le_succ _) _).setCell (Nat.le_succ _) _).setCell (Nat.le_succ _) _)⟩
set_option maxHeartbeats 4000000 in
set_option maxRecDepth 100000 in
theorem forget_calls (A0 : Option Addr) (c0 : Nat) (l0 : List RawD) (id : Int) (w : World) (hr0 : Kd.C kD w A0 l0.length l0) (hl : l0.length ≤ 1000000000) :
 Calls Try.prog 15 #[.slice A0 l0.length c0, .int .i64 id] w fun e w' => ∃ v, e = .returned v ∧ Kd.R kD 27 w' w.heap.size (fun _ => True) v (delF (fun x => x.f0 == id) l0) ∧ Below w.heap.size w w' := by
 have HC := Lib.hid hr0
 clear hr0
 have hmf : ∀ (fn : Fn) (first cap : Array Value) (w : World), (Instr.makeFunc fn first cap).run Try.prog w = .ok (.func fn first cap) w := fun _ _ _ _ => rfl
 have eg : ∀ args w, (callFunc 38 args).run Try.prog w = .ok (.enter 38 args) w := enters_of Try.func38 (by kernel_rfl) rfl
 have hs1 : (w.alloc (.cells #[.int .i64 id] 2)).heap.size = w.heap.size + 1 := by simp
 have HK := Lib.hid (cloneD_calls A0 c0 l0 (w.alloc (.cells #[.int .i64 id] 2)) (Kd.C_below HC.out (pbA (Below.refl _ _) _)) hl)
 have HD : ∀ W v, Kd.R kD 27 W (w.heap.size + 1) (fun _ => True) v l0 → W.heap[w.heap.size]? = some (.cells #[.int .i64 id] 2 (0, 0)) → Hid (Calls Try.prog 32 #[v, .func (.func 38) #[] #[.pointer (some ⟨w.heap.size, 0, none⟩)]] W fun e w' => ∃ v', e = .returned v' ∧ Kd.R kD 27 w' (w.heap.size + 1) (fun _ => True) v' (delF (fun x => x.f0 == id) l0) ∧ v'.ownBlock = v.ownBlock ∧ W.grownBy w' v.ownBlock) := fun W v hR hx =>
  Lib.hid (deleteD_calls _ _ _ eg (w.heap.size + 1) (fun _ => True) v l0 W hR hl (fun W' x _ hg => pred_forget w.heap.size id W' x ((hg.block _ (blk_lt hx) (fun e => by have := Kd.R_base hR _ e.symm; omega)).trans hx)))
 rw [hs1] at HK
 go_enter Try.func15, Try.ntmps15
 go_wp2_with (first | (go_at_call 33; refine HK.out.mono ?_; rintro e w1 ⟨v1, rfl, hR1, hb1⟩; have HR1 := Lib.hid hR1; have HB1 := Lib.hid hb1; clear hR1 hb1) | (go_at_call 32; refine (HD _ _ HR1.out (bkB (heap_alloc_new _ _) (by rw [hs1]; exact HB1.out))).out.mono ?_; rintro e w2 ⟨v2, rfl, hR2, ho, hg⟩; have HR2 := Lib.hid hR2; have HG2 := Lib.hid hg; have HO := Lib.hid ho; clear hR2 hg ho) | go_in)
 go_ret
 refine ⟨v2, rfl, Kd.R_lower HR2.out (Nat.le_succ _), ?_⟩
 exact pw_below_grown (pbT (pbA (Below.refl _ _) _) (by rw [hs1]; exact HB1.out)) _ (Nat.le_trans (by omega) HB1.out.size) HG2.out (fun k hk => by have := Kd.R_base HR1.out k hk; omega)
end Go.Proofs.Ytppdcldbebnmlaa.P
end
section
namespace Go.Proofs.Ytppdcldbebnmlaa.P
open Go.RowKit Go.Shelf Go.Proofs.Ytppdcldbebnmlaa.K Go.Proofs.YtppdcldbebnmlaaW.PrintWords Go.Proofs.YtppdcldbebnmlaaW.PrintLast Go.Proofs.YtppdcldbebnmlaaW.PrintMore
/-- Is something later known, so that nothing is learnt? -/
def later (σ : RawD → List SM) (d x : RawD) : Bool := (x.f0 == d.f0 && decide (d.f3 < x.f3)) || (meetB x.f1 x.f2 d.f1 d.f2 && (decide (d.f3 < x.f3) || (x.f3 == d.f3 && !sameS (toS σ x) (toS σ d))))
/-- Is it gone when this is learnt? -/
def dropP (d x : RawD) : Bool := x.f0 == d.f0 || meetB x.f1 x.f2 d.f1 d.f2
set_option maxHeartbeats 4000000 in
theorem pred_drop (B : Nat) (d : RawD) (W : World) (x : RawD) (hb : W.heap[B]? = some (.cells (encD d).toArray 27 (0, 0))) : Calls Try.prog 34 (#[aggD x] ++ #[.pointer (some ⟨B, 0, none⟩)]) W fun e w' => e = .returned (.bool (dropP d x)) ∧ Below W.heap.size W w' := by
 have hM : ∀ W', Hid (Calls Try.prog 29 #[.agg #[.string x.f1, .string x.f2], .agg #[.string d.f1, .string d.f2]] W' fun e w' => e = .returned (.bool (meetB x.f1 x.f2 d.f1 d.f2)) ∧ Below W'.heap.size W' w') := fun W' => Lib.hid (bound_Meet.calls _ _ _ _ _ W' (meet_eq _ _ _ _))
 unfold dropP
 generalize meetB x.f1 x.f2 d.f1 d.f2 = r at hM ⊢
 have c0 : W.cell? ⟨B, 0, none⟩ = some (.int .i64 d.f0) := (bkC hb 0).trans rfl
 have c1 : W.cell? ⟨B, 1, none⟩ = some (.string d.f1) := (bkC hb 1).trans rfl
 have c2 : W.cell? ⟨B, 2, none⟩ = some (.string d.f2) := (bkC hb 2).trans rfl
 have hBW := blk_lt hb
 have hu := Try.underlying27
 have hu2 := Try.underlying24
 show Calls Try.prog 34 #[.agg #[.int .i64 x.f0, .string x.f1, .string x.f2, .int .i64 x.f3, .slice x.a4 x.n4 x.c4, .int .i64 x.f5], .pointer (some ⟨B, 0, none⟩)] W _
 clear hb
 cases hq : (x.f0 == d.f0)
 ·go_enter Try.func34, Try.ntmps34
  go_wp2_with (go_at_call 29; refine (hM _).out.mono ?_; rintro e w' ⟨rfl, hb2⟩)
  go_ret
  exact ⟨rfl, pbT (pbA (Below.refl _ _) _) hb2⟩
 ·go_enter Try.func34, Try.ntmps34
  go_wp2
  go_ret
  exact ⟨rfl, pbA (Below.refl _ _) _⟩
set_option maxHeartbeats 8000000 in
set_option maxRecDepth 100000 in
theorem pred_later (σ : RawD → List SM) (B : Nat) (d : RawD) (W : World) (x : RawD) (hx : Mem σ W x) (hd : Mem σ W d) (hlx : (σ x).length ≤ 1000000000) (hb : W.heap[B]? = some (.cells (encD d).toArray 27 (0, 0))) : Calls Try.prog 28 (#[aggD x] ++ #[.pointer (some ⟨B, 0, none⟩)]) W fun e w' => e = .returned (.bool (later σ d x)) ∧ Below W.heap.size W w' := by
 have hM : ∀ W', Hid (Calls Try.prog 29 #[.agg #[.string x.f1, .string x.f2], .agg #[.string d.f1, .string d.f2]] W' fun e w' => e = .returned (.bool (meetB x.f1 x.f2 d.f1 d.f2)) ∧ Below W'.heap.size W' w') := fun W' => Lib.hid (bound_Meet.calls _ _ _ _ _ W' (meet_eq _ _ _ _))
 have hS : ∀ W', Below W.heap.size W W' → Hid (Calls Try.prog 30 #[.agg #[.int .i64 x.f0, .string x.f1, .string x.f2, .int .i64 x.f3, .slice x.a4 x.n4 x.c4, .int .i64 x.f5], .agg #[.int .i64 d.f0, .string d.f1, .string d.f2, .int .i64 d.f3, .slice d.a4 d.n4 d.c4, .int .i64 d.f5]] W' fun e w' => e = .returned (.bool (sameS (toS σ x) (toS σ d))) ∧ Below W'.heap.size W' w') := by
  intro W' hW
  obtain ⟨x1, x2⟩ := hx.below hW
  obtain ⟨d1, d2⟩ := hd.below hW
  have nx := Kd.C_len x1
  have nd := Kd.C_len d1
  have := desc_Same.calls ((σ x).length + 1) x.f0 x.f1 x.f2 x.f3 x.a4 x.c4 (σ x) x.f5 d.f0 d.f1 d.f2 d.f3 d.a4 d.c4 (σ d) d.f5 (sameS (toS σ x) (toS σ d)) W' (by rw [nx]; exact x1) (by omega) (by rw [nd]; exact d1) (by omega) (same_eq (x := toS σ x) (y := toS σ d) hlx (Nat.lt_succ_self _))
  rw [nx, nd] at this
  exact Lib.hid this
 unfold later
 clear hx hd hlx
 generalize meetB x.f1 x.f2 d.f1 d.f2 = r at hM ⊢
 generalize sameS (toS σ x) (toS σ d) = r2 at hS ⊢
 have hBW := blk_lt hb
 have c0 : W.cell? ⟨B, 0, none⟩ = some (.int .i64 d.f0) := (bkC hb 0).trans rfl
 have c1 : W.cell? ⟨B, 1, none⟩ = some (.string d.f1) := (bkC hb 1).trans rfl
 have c2 : W.cell? ⟨B, 2, none⟩ = some (.string d.f2) := (bkC hb 2).trans rfl
 have c3 : W.cell? ⟨B, 3, none⟩ = some (.int .i64 d.f3) := (bkC hb 3).trans rfl
 have HBB := Lib.hid hb
 have hu := Try.underlying27
 have hu2 := Try.underlying24
 show Calls Try.prog 28 #[.agg #[.int .i64 x.f0, .string x.f1, .string x.f2, .int .i64 x.f3, .slice x.a4 x.n4 x.c4, .int .i64 x.f5], .pointer (some ⟨B, 0, none⟩)] W _
 clear hb
 cases hq : (x.f0 == d.f0 && decide (d.f3 < x.f3))
 ·have hq1 : (x.f0 == d.f0) = false ∨ (decide (d.f3 < x.f3)) = false := Bool.and_eq_false_iff.1 hq
  clear hq
  cases r
  ·cases ha : (x.f0 == d.f0)
   all_goals
    try (have ha2 : decide (d.f3 < x.f3) = false := by rcases hq1 with h | h; (rw [ha] at h; cases h); exact h)
    clear hq1
    go_enter Try.func28, Try.ntmps28
    go_wp2_with (go_at_call 29; refine (hM _).out.mono ?_; rintro e w' ⟨rfl, hb2⟩)
    go_ret
    exact ⟨rfl, pbT (pbA (Below.refl _ _) _) hb2⟩
  ·cases ha : (x.f0 == d.f0)
   all_goals
    cases hg : decide (d.f3 < x.f3)
   all_goals try (exfalso; rw [ha, hg] at hq1; (rcases hq1 with h | h <;> cases h); done)
   all_goals clear hq1
   all_goals cases he : (x.f3 == d.f3)
   all_goals go_enter Try.func28, Try.ntmps28
   all_goals go_wp2_with (first | (go_at_call 29; refine (hM _).out.mono ?_; rintro e w1 ⟨rfl, hb2⟩; have BX := bkB (heap_alloc_new W _) hb2; have BD := bkB (bkA HBB.out _) hb2; have HB2 := Lib.hid (pbT (pbA (Below.refl _ _) _) hb2); clear hb2; have x0 := (bkC BX 0).trans rfl; have x1 := (bkC BX 1).trans rfl; have x2 := (bkC BX 2).trans rfl; have x3 := (bkC BX 3).trans rfl; have x4 := (bkC BX 4).trans rfl; have x5 := (bkC BX 5).trans rfl; have d0 : w1.cell? ⟨B, 0, none⟩ = some (.int .i64 d.f0) := (bkC BD 0).trans rfl; have d1 : w1.cell? ⟨B, 1, none⟩ = some (.string d.f1) := (bkC BD 1).trans rfl; have d2 : w1.cell? ⟨B, 2, none⟩ = some (.string d.f2) := (bkC BD 2).trans rfl; have d3 : w1.cell? ⟨B, 3, none⟩ = some (.int .i64 d.f3) := (bkC BD 3).trans rfl; have d4 : w1.cell? ⟨B, 4, none⟩ = some (.slice d.a4 d.n4 d.c4) := (bkC BD 4).trans rfl; have d5 : w1.cell? ⟨B, 5, none⟩ = some (.int .i64 d.f5) := (bkC BD 5).trans rfl) | (go_at_call 30; refine (hS _ HB2.out).out.mono ?_; rintro e w2 ⟨rfl, hb3⟩; have HB3 := Lib.hid (pbT HB2.out hb3); clear hb3))
   all_goals go_ret
   all_goals first | exact ⟨rfl, HB3.out⟩ | exact ⟨rfl, HB2.out⟩
 ·obtain ⟨ha, hg⟩ : (x.f0 == d.f0) = true ∧ decide (d.f3 < x.f3) = true := Bool.and_eq_true_iff.1 hq
  clear hq
  go_enter Try.func28, Try.ntmps28
  go_wp2
  go_ret
  exact ⟨rfl, pbA (Below.refl _ _) _⟩
end Go.Proofs.Ytppdcldbebnmlaa.P
end
section
namespace Go.Proofs.Ytppdcldbebnmlaa.K
open Go Go.RowKit Go.Sort Go.Lib Go.Proofs.YtppdcldbebnmlaaW.PrintWords Go.Proofs.YtppdcldbebnmlaaW.PrintLast Go.Proofs.YtppdcldbebnmlaaW.PrintMore
section
variable {α : Type} [Inhabited α] {enc : α → List Value} {k : Nat} {hk : ∀ x, (enc x).length = k} {h1 : ∀ x, ∀ u ∈ enc x, u.oneCell' = true}
theorem flat_at (hk : ∀ x, (enc x).length = k) (d : Array α) (j t : Nat) (hj : j < d.size) (ht : t < k) : (flatK enc k d)[j * k + t]! = (enc d[j]!)[t]! := by
 have hlt : j * k + t < d.size * k := Nat.lt_of_lt_of_le (by rw [Nat.add_mul, Nat.one_mul]; omega : j * k + t < (j + 1) * k) (Nat.mul_le_mul_right k hj)
 rw [get_flatK _ _ _ _ hlt, Nat.mul_comm j k, Nat.mul_add_div (by omega), Nat.mul_add_mod, Nat.div_eq_of_lt ht, Nat.mod_eq_of_lt ht, Nat.add_zero]
theorem raw_holds {w : World} {base g cap n : Nat} {ok : Nat → Prop} {e : Nat} {l : List α} (h : Kd.R (rawKd enc k hk h1) e w base ok (.slice (some ⟨g, 0, none⟩) n cap) l) (hk0 : 0 < k) : HoldsK enc k w g 0 l.toArray := by
 intro t ht
 rw [size_flatK] at ht
 have hsz : l.toArray.size = l.length := by simp
 rw [hsz] at ht
 have hj : t / k < l.length := Nat.div_lt_of_lt_mul (by rw [Nat.mul_comm]; exact ht)
 have hm : t % k < k := Nat.mod_lt _ hk0
 have et : t = t / k * k + t % k := by rw [Nat.mul_comm]; exact (Nat.div_add_mod t k).symm
 obtain ⟨hc, hf⟩ := raw_own_at h (t / k) hj
 constructor
 ·rw [get_flatK _ _ _ _ (by rw [hsz]; exact ht)]
  have e1 : l.toArray[t / k]! = l[t / k] := by simp [hj]
  rw [e1]
  have e2 : (enc l[t / k])[t % k]? = some ((enc l[t / k])[t % k]!) := by
   rw [List.getElem?_eq_getElem (by rw [hk]; exact hm)]
   simp [hk, hm]
  have := hc _ _ e2
  rw [← et] at this
  rw [Nat.zero_add]
  exact this
 ·have := hf (t % k)
  rw [← et] at this
  rw [Nat.zero_add]
  exact this
theorem sort_world {w : World} {base g cap n : Nat} {ok : Nat → Prop} {e : Nat} {l : List α} (h : Kd.R (rawKd enc k hk h1) e w base ok (.slice (some ⟨g, 0, none⟩) n cap) l) (m : Nat) (d' : Array α) (os : Array Obj) (hs : d'.size = l.length) :
 Kd.R (rawKd enc k hk h1) e (sortWorldK enc k w g 0 m d' os) base ok (.slice (some ⟨g, 0, none⟩) n cap) d'.toList ∧ w.grownBy (sortWorldK enc k w g 0 m d' os) (some g) := by
 obtain ⟨hok, inner, ⟨hlen, hown⟩, hr⟩ := h
 rcases hown with ⟨he, _⟩ | ⟨g', cap', cur, he, hb, hh, hcap, hmax, hsz, htake⟩
 ·cases he
 ·injection he with e1 e2 e3
  injection e1 with e1
  injection e1 with e1 _ _
  subst e1 e2 e3
  have hglt : g < w.heap.size := (Array.getElem?_eq_some_iff.1 hh).1
  have hcs : (putCells id 0 (flatK enc k d') cur).size = cap * k := by simp only [putCells, Array.size_mapIdx]; exact hsz
  have hh' : (sortWorldK enc k w g 0 m d' os).heap[g]? = some (.cells (putCells id 0 (flatK enc k d') cur) e (0, 0)) := by
   show ((w.heap.modify g (onCells (putCells id 0 (flatK enc k d')))) ++ os)[g]? = _
   rw [Array.getElem?_append_left (by rw [Array.size_modify]; exact hglt), Array.getElem?_modify, if_pos rfl, hh]
   rfl
  have hle : l.length * k ≤ cap * k := Nat.mul_le_mul_right k hcap
  have hdl : d'.toList.length = l.length := by rw [Array.length_toList, hs]
  refine ⟨⟨hok, (putCells id 0 (flatK enc k d') cur).toList.take (l.length * k), ⟨?_, .inr ⟨g, cap, _, by rw [hdl], hb, hh', by rw [hdl]; exact hcap, hmax, hcs, by rw [hdl]; rfl⟩⟩, ?_, ?_⟩, rfl, rfl, rfl, ?_, ?_⟩
  ·simp only [List.length_take, Array.length_toList, hcs, hs]; exact Nat.min_eq_left hle
  ·simp only [List.length_take, Array.length_toList, hcs, hs]; exact Nat.min_eq_left hle
  ·intro j p hp
   have hj : j < d'.size := by
    have := (List.getElem?_eq_some_iff.1 hp).1
    rwa [Array.length_toList] at this
   have hp2 : d'[j]! = p := by
    rw [Array.getElem?_toList] at hp
    simp [Array.getElem!_eq_getD, Array.getD_eq_getD_getElem?, hp]
   have hjk : j * k + k ≤ l.length * k := by
    have : (j + 1) * k ≤ l.length * k := Nat.mul_le_mul_right k (by omega)
    rw [Nat.add_mul, Nat.one_mul] at this; exact this
   show (((putCells id 0 (flatK enc k d') cur).toList.take (l.length * k)).drop (j * k)).take k = enc p
   apply List.ext_getElem?
   intro t
   by_cases ht : t < k
   ·have hlq : j * k + t < l.length * k := Nat.lt_of_lt_of_le (Nat.add_lt_add_left ht _) hjk
    rw [List.getElem?_take_of_lt ht, List.getElem?_drop, List.getElem?_take_of_lt hlq, Array.getElem?_toList]
    have hcl : j * k + t < cur.size := by rw [hsz]; exact Nat.lt_of_lt_of_le hlq hle
    have hfl : j * k + t < 0 + (flatK enc k d').size := by rw [size_flatK, hs, Nat.zero_add]; exact Nat.lt_of_lt_of_le (Nat.add_lt_add_left ht _) hjk
    have e2 : (enc p)[t]? = some ((enc p)[t]!) := by
     rw [List.getElem?_eq_getElem (by rw [hk]; exact ht)]
     simp [hk, ht]
    rw [e2]
    simp only [putCells, Array.getElem?_mapIdx, Array.getElem?_eq_getElem hcl, Option.map_some, id]
    rw [if_pos ⟨Nat.zero_le _, hfl⟩, Nat.sub_zero, flat_at hk d' j t hj ht, hp2]
   ·rw [List.getElem?_eq_none (by rw [List.length_take]; omega), List.getElem?_eq_none (by rw [hk]; omega)]
  ·show w.heap.size ≤ ((w.heap.modify g (onCells (putCells id 0 (flatK enc k d')))) ++ os).size
   rw [Array.size_append, Array.size_modify]; omega
  ·intro i hi hne
   have hne' : g ≠ i := fun e => hne (by rw [e])
   show ((w.heap.modify g (onCells (putCells id 0 (flatK enc k d')))) ++ os)[i]? = _
   rw [Array.getElem?_append_left (by rw [Array.size_modify]; exact hi), Array.getElem?_modify, if_neg hne']
theorem sorted_pair {lt : α → α → Bool} {d : Array α} (h : SortedIn lt 0 d.size d) : d.toList.Pairwise fun x y => lt y x = false := by
 rw [List.pairwise_iff_getElem]
 intro i j hi hj hij
 have := h i j (Nat.zero_le _) hij (by simpa using hj)
 rw [Array.length_toList] at hi hj
 have e1 : d[i]! = d[i] := by simp [hi]
 have e2 : d[j]! = d[j] := by simp [hj]
 rw [e1, e2] at this
 exact this
theorem perm_list {d d' : Array α} (h : PermIn 0 d.size d d') : d'.toList.Perm d.toList ∧ d'.size = d.size := by
 obtain ⟨h1, _, h3⟩ := h
 refine ⟨?_, h1⟩
 have e1 : d.extract 0 d.size = d := by simp
 have e2 : d'.extract 0 d.size = d' := by rw [← h1]; simp
 rwa [e1, e2] at h3
end
end Go.Proofs.Ytppdcldbebnmlaa.K
end
section
namespace Go.Proofs
open Go.Shelf
def Try.lays106_ren : Go.Shelf.Ren := ⟨fun | 106 => 37 | 213 => 48 | 265 => 67 | n => n, fun | 9 => 9 | 3 => 3 | n => n, fun | n => n⟩
theorem Try.lays106 : Go.Proofs.Lays.n106 Try.prog Try.lays106_ren := {
 mixed := by kernel_rfl
 f106 := Try.func37.trans (congrArg some (by kernel_rfl))
 f213 := Try.func48.trans (congrArg some (by kernel_rfl))
 f265 := Try.func67.trans (congrArg some (by kernel_rfl))
 t3 := Try.underlying3
 a3 := Try.isAgg3
 z3 := Try.sizeOf3
 v3 := Try.zeroValue3
 t9 := Try.underlying9
 a9 := Try.isAgg9
 z9 := Try.sizeOf9
 v9 := Try.zeroValue9 }
open Go.RowKit in
/-- strings.Compare: "Compare returns an integer comparing two strings lexicographically. The result will be 0 if a == b, -1 if a < b, and +1 if a > b.": IT RETURNS 'Lib.compareBytes a b'; the world is as it was. (LAID: no walk: one application.) -/
theorem Try.strings_Compare (a b : ByteArray) (w : World) :
 Calls Try.prog 37 #[.string a, .string b] w fun e w' => e = .returned (.int .i64 (Lib.compareBytes a.data.toList b.data.toList)) ∧ w' = w := Any.strings_Compare Try.lays106 a b w
def Try.lays105_ren : Go.Shelf.Ren := ⟨fun | 105 => 40 | 212 => 49 | 99 => 50 | 165 => 51 | 166 => 52 | 170 => 53 | 169 => 54 | 263 => 68 | 264 => 69 | 206 => 70 | 240 => 71 | 241 => 72 | 276 => 78 | 277 => 79 | n => n, fun | 9 => 9 | 3 => 3 | 4 => 4 | 20 => 20 | 0 => 0 | 46 => 65 | 109 => 66 | 5 => 5 | 72 => 70 | 76 => 74 | 51 => 90 | 146 => 93 | 53 => 92 | 148 => 95 | 70 => 68 | 37 => 59 | 75 => 73 | 127 => 97 | 164 => 104 | 80 => 77 | n => n, fun | n => n⟩
theorem Try.lays105 : Go.Proofs.Lays.n105 Try.prog Try.lays105_ren := {
 mixed := by kernel_rfl
 f99 := Try.func50.trans (congrArg some (by kernel_rfl))
 f105 := Try.func40.trans (congrArg some (by kernel_rfl))
 f165 := Try.func51.trans (congrArg some (by kernel_rfl))
 f166 := Try.func52.trans (congrArg some (by kernel_rfl))
 f169 := Try.func54.trans (congrArg some (by kernel_rfl))
 f170 := Try.func53.trans (congrArg some (by kernel_rfl))
 f206 := Try.func70.trans (congrArg some (by kernel_rfl))
 f212 := Try.func49.trans (congrArg some (by kernel_rfl))
 f240 := Try.func71.trans (congrArg some (by kernel_rfl))
 f241 := Try.func72.trans (congrArg some (by kernel_rfl))
 f263 := Try.func68.trans (congrArg some (by kernel_rfl))
 f264 := Try.func69.trans (congrArg some (by kernel_rfl))
 f276 := Try.func78.trans (congrArg some (by kernel_rfl))
 f277 := Try.func79.trans (congrArg some (by kernel_rfl))
 t0 := Try.underlying0
 a0 := Try.isAgg0
 z0 := Try.sizeOf0
 v0 := Try.zeroValue0
 t3 := Try.underlying3
 a3 := Try.isAgg3
 z3 := Try.sizeOf3
 v3 := Try.zeroValue3
 t4 := Try.underlying4
 a4 := Try.isAgg4
 z4 := Try.sizeOf4
 v4 := Try.zeroValue4
 t5 := Try.underlying5
 a5 := Try.isAgg5
 z5 := Try.sizeOf5
 v5 := Try.zeroValue5
 t9 := Try.underlying9
 a9 := Try.isAgg9
 z9 := Try.sizeOf9
 v9 := Try.zeroValue9
 t20 := Try.underlying20
 a20 := Try.isAgg20
 z20 := Try.sizeOf20
 v20 := Try.zeroValue20
 t37 := Try.underlying59
 a37 := Try.isAgg59
 z37 := Try.sizeOf59
 v37 := Try.zeroValue59
 t46 := Try.underlying65
 a46 := Try.isAgg65
 z46 := Try.sizeOf65
 v46 := Try.zeroValue65
 t51 := Try.underlying90
 a51 := Try.isAgg90
 z51 := Try.sizeOf90
 v51 := Try.zeroValue90
 t53 := Try.underlying92
 a53 := Try.isAgg92
 z53 := Try.sizeOf92
 v53 := Try.zeroValue92
 t70 := Try.underlying68
 a70 := Try.isAgg68
 z70 := Try.sizeOf68
 v70 := Try.zeroValue68
 t72 := Try.underlying70
 a72 := Try.isAgg70
 z72 := Try.sizeOf70
 v72 := Try.zeroValue70
 t75 := Try.underlying73
 a75 := Try.isAgg73
 z75 := Try.sizeOf73
 v75 := Try.zeroValue73
 t76 := Try.underlying74
 a76 := Try.isAgg74
 z76 := Try.sizeOf74
 v76 := Try.zeroValue74
 t109 := Try.underlying66
 a109 := Try.isAgg66
 z109 := Try.sizeOf66
 v109 := Try.zeroValue66
 t127 := Try.underlying97
 a127 := Try.isAgg97
 z127 := Try.sizeOf97
 v127 := Try.zeroValue97
 t146 := Try.underlying93
 a146 := Try.isAgg93
 z146 := Try.sizeOf93
 v146 := Try.zeroValue93
 t148 := Try.underlying95
 a148 := Try.isAgg95
 z148 := Try.sizeOf95
 v148 := Try.zeroValue95
 t164 := Try.underlying104
 a164 := Try.isAgg104
 z164 := Try.sizeOf104
 v164 := Try.zeroValue104 }
theorem Try.Builder_Extra_105 : Builder.Extra Try.prog Try.lays105_ren := {
 sizeBuilder := by kernel_rfl
 liesBuilder := by kernel_rfl
 t5 := Try.underlying5
 a5 := Try.isAgg5
 z5 := Try.sizeOf5
 v5 := Try.zeroValue5
 infoByte := by kernel_rfl
 cellsByte := by kernel_rfl
 sizeByte := by kernel_rfl
 neB5 := by decide }
open Go.RowKit Go.Lib in
/-- **strings.Repeat: count ≥ 0, the result within one allocation: count copies of s.** (LAID: no walk: one application.) -/
theorem Try.strings_Repeat (s : ByteArray) (c : Nat) (w : World) (hc : c ≤ 9223372036854775807) (hlen : s.size * c ≤ 140737488355328) :
 Calls Try.prog 40 #[.string s, .int .i64 c] w fun e w' => e = .returned (.string ⟨(Lib.repeatL s.data.toList c).toArray⟩) ∧ Below w.heap.size w w' := Any.strings_Repeat Try.lays105 Try.Builder_Extra_105 s c w hc hlen
def Try.sortD_ren : Go.Shelf.Ren := ⟨fun | 6 => 35 | 15 => 47 | 14 => 46 | 28 => 65 | 29 => 66 | 20 => 57 | 21 => 58 | 22 => 59 | 23 => 60 | 24 => 61 | 25 => 62 | 26 => 63 | 27 => 64 | 46 => 73 | 47 => 74 | 48 => 75 | 49 => 76 | 50 => 77 | 57 => 80 | n => n, fun | 22 => 22 | 24 => 27 | 25 => 57 | 3 => 3 | 39 => 65 | 0 => 0 | 53 => 90 | 55 => 92 | 4 => 4 | 46 => 83 | 45 => 82 | 50 => 87 | 5 => 5 | 9 => 9 | 66 => 98 | 70 => 102 | 76 => 107 | 77 => 108 | n => n, fun | n => n⟩
theorem Try.sortD : Go.Proofs.SlLaysF0.n6 Try.prog Try.sortD_ren := {
 mixed := by kernel_rfl
 f6 := ⟨Try.f35.name, by decide, Try.func35.trans (congrArg some (by kernel_rfl))⟩
 f14 := ⟨Try.f46.name, by decide, Try.func46.trans (congrArg some (by kernel_rfl))⟩
 f15 := Try.func47.trans (congrArg some (by kernel_rfl))
 f20 := ⟨Try.f57.name, by decide, Try.func57.trans (congrArg some (by kernel_rfl))⟩
 f21 := ⟨Try.f58.name, by decide, Try.func58.trans (congrArg some (by kernel_rfl))⟩
 f22 := ⟨Try.f59.name, by decide, Try.func59.trans (congrArg some (by kernel_rfl))⟩
 f23 := ⟨Try.f60.name, by decide, Try.func60.trans (congrArg some (by kernel_rfl))⟩
 f24 := ⟨Try.f61.name, by decide, Try.func61.trans (congrArg some (by kernel_rfl))⟩
 f25 := ⟨Try.f62.name, by decide, Try.func62.trans (congrArg some (by kernel_rfl))⟩
 f26 := ⟨Try.f63.name, by decide, Try.func63.trans (congrArg some (by kernel_rfl))⟩
 f27 := ⟨Try.f64.name, by decide, Try.func64.trans (congrArg some (by kernel_rfl))⟩
 f28 := Try.func65.trans (congrArg some (by kernel_rfl))
 f29 := Try.func66.trans (congrArg some (by kernel_rfl))
 f46 := ⟨Try.f73.name, by decide, Try.func73.trans (congrArg some (by kernel_rfl))⟩
 f47 := Try.func74.trans (congrArg some (by kernel_rfl))
 f48 := Try.func75.trans (congrArg some (by kernel_rfl))
 f49 := ⟨Try.f76.name, by decide, Try.func76.trans (congrArg some (by kernel_rfl))⟩
 f50 := ⟨Try.f77.name, by decide, Try.func77.trans (congrArg some (by kernel_rfl))⟩
 f57 := ⟨Try.f80.name, by decide, Try.func80.trans (congrArg some (by kernel_rfl))⟩
 t0 := Try.underlying0
 a0 := Try.isAgg0
 z0 := Try.sizeOf0
 v0 := Try.zeroValue0
 t3 := Try.underlying3
 a3 := Try.isAgg3
 z3 := Try.sizeOf3
 v3 := Try.zeroValue3
 t4 := Try.underlying4
 a4 := Try.isAgg4
 z4 := Try.sizeOf4
 v4 := Try.zeroValue4
 t5 := Try.underlying5
 a5 := Try.isAgg5
 z5 := Try.sizeOf5
 v5 := Try.zeroValue5
 t9 := Try.underlying9
 a9 := Try.isAgg9
 z9 := Try.sizeOf9
 v9 := Try.zeroValue9
 t22 := Try.underlying22
 a22 := Try.isAgg22
 z22 := Try.sizeOf22
 v22 := Try.zeroValue22
 t25 := Try.underlying57
 a25 := Try.isAgg57
 z25 := Try.sizeOf57
 v25 := Try.zeroValue57
 t39 := Try.underlying65
 a39 := Try.isAgg65
 z39 := Try.sizeOf65
 v39 := Try.zeroValue65
 t45 := Try.underlying82
 a45 := Try.isAgg82
 z45 := Try.sizeOf82
 v45 := Try.zeroValue82
 t46 := Try.underlying83
 a46 := Try.isAgg83
 z46 := Try.sizeOf83
 v46 := Try.zeroValue83
 t50 := Try.underlying87
 a50 := Try.isAgg87
 z50 := Try.sizeOf87
 v50 := Try.zeroValue87
 t53 := Try.underlying90
 a53 := Try.isAgg90
 z53 := Try.sizeOf90
 v53 := Try.zeroValue90
 t55 := Try.underlying92
 a55 := Try.isAgg92
 z55 := Try.sizeOf92
 v55 := Try.zeroValue92
 t66 := Try.underlying98
 a66 := Try.isAgg98
 z66 := Try.sizeOf98
 v66 := Try.zeroValue98
 t70 := Try.underlying102
 a70 := Try.isAgg102
 z70 := Try.sizeOf102
 v70 := Try.zeroValue102
 t76 := Try.underlying107
 a76 := Try.isAgg107
 z76 := Try.sizeOf107
 v76 := Try.zeroValue107
 t77 := Try.underlying108
 a77 := Try.isAgg108
 z77 := Try.sizeOf108
 v77 := Try.zeroValue108 }
end Go.Proofs
end
section
namespace Go.Proofs.Ytppdcldbebnmlaa.P
open Go.RowKit Go.Shelf Go.Proofs.Ytppdcldbebnmlaa.K Go.Proofs.YtppdcldbebnmlaaW.PrintWords Go.Proofs.YtppdcldbebnmlaaW.PrintLast Go.Proofs.YtppdcldbebnmlaaW.PrintMore
/-- By what descriptors are ordered. -/
def cmpD (x y : RawD) : Int := Lib.compareBytes x.f1.data.toList y.f1.data.toList
theorem cmp_iff : ∀ a b : List UInt8, Lib.compareBytes a b < 0 ↔ Op.bytesLess a b = true
 | [], [] => by decide
 | [], _ :: _ => by simp [Lib.compareBytes, Op.bytesLess]
 | _ :: _, [] => by simp [Lib.compareBytes, Op.bytesLess]
 | x :: a, y :: b => by
  simp only [Lib.compareBytes, Op.bytesLess]
  by_cases h1 : x < y
  ·rw [if_pos h1]; simp [h1]
  ·rw [if_neg h1]
   by_cases h2 : y < x
   ·have h3 : (x == y) = false := by rw [beq_eq_false_iff_ne]; intro e; rw [e] at h2; exact absurd h2 (UInt8.lt_irrefl y)
    rw [if_pos h2]; simp [h1, h3]
   ·have h3 : x = y := UInt8.le_antisymm (UInt8.not_lt.1 h2) (UInt8.not_lt.1 h1)
    rw [if_neg h2, cmp_iff a b, h3]; simp [UInt8.lt_irrefl]
theorem cmp_lt (a b : List UInt8) : decide (Lib.compareBytes a b < 0) = Op.bytesLess a b := by
 rw [Bool.eq_iff_iff, decide_eq_true_iff]; exact cmp_iff a b
theorem ltD (x y : RawD) : Go.Proofs.ltOf cmpD x y = lt x.f1 y.f1 := by
 unfold Go.Proofs.ltOf cmpD lt
 rw [cmp_lt, ByteArray.toList_eq, ByteArray.toList_eq]
theorem less_irrefl : ∀ a : List UInt8, Op.bytesLess a a = false
 | [] => rfl
 | x :: a => by simp only [Op.bytesLess]; simp [less_irrefl a, UInt8.lt_irrefl]
theorem less_trans : ∀ a b c : List UInt8, Op.bytesLess a b = true → Op.bytesLess b c = true → Op.bytesLess a c = true
 | [], [], _, h, _ => by cases h
 | [], _ :: _, [], _, h => by cases h
 | [], _ :: _, _ :: _, _, _ => rfl
 | _ :: _, [], _, h, _ => by cases h
 | _ :: _, _ :: _, [], _, h => by cases h
 | x :: a, y :: b, z :: c, h1, h2 => by
  simp only [Op.bytesLess, Bool.or_eq_true, Bool.and_eq_true, decide_eq_true_iff, beq_iff_eq] at h1 h2 ⊢
  rcases h1 with h1 | ⟨rfl, h1⟩
  ·rcases h2 with h2 | ⟨rfl, h2⟩
   ·exact .inl (UInt8.lt_trans h1 h2)
   ·exact .inl h1
  ·rcases h2 with h2 | ⟨rfl, h2⟩
   ·exact .inl h2
   ·exact .inr ⟨rfl, less_trans a b c h1 h2⟩
/-- Of two that are not the same one is less. -/
theorem less_or (a b : List UInt8) (h : Op.bytesLess a b = false) : Op.bytesLess b a = true ∨ b = a := by
 have := less_total b a
 rw [h] at this
 simpa using this
theorem swoLess : Go.Sort.SWO fun (x y : RawD) => lt x.f1 y.f1 where
 irrefl x := less_irrefl _
 trans x y z h1 h2 := less_trans _ _ _ h1 h2
 ntrans x y z h1 h2 := by
  cases h : lt x.f1 z.f1
  ·rfl
  ·exfalso
   rcases less_or _ _ h1 with h3 | h3
   ·have h2 : Op.bytesLess y.f1.toList z.f1.toList = false := h2
    have := less_trans _ _ _ h3 h
    rw [h2] at this; cases this
   ·have h2 : Op.bytesLess y.f1.toList z.f1.toList = false := h2
    rw [h3, show Op.bytesLess x.f1.toList z.f1.toList = true from h] at h2
    cases h2
theorem swoD : Go.Sort.SWO (Go.Proofs.ltOf cmpD) := by
 have : Go.Proofs.ltOf cmpD = fun (x y : RawD) => lt x.f1 y.f1 := by funext x y; exact ltD x y
 rw [this]; exact swoLess
set_option maxHeartbeats 1000000 in
theorem cmp_calls (x y : RawD) (W : World) : Calls Try.prog 36 #[aggD x, aggD y] W fun e w' => e = .returned (.int .i64 (cmpD x y)) ∧ w' = (W.alloc (.cells (encD x).toArray 27)).alloc (.cells (encD y).toArray 27) := by
 have hC : ∀ W', Hid (Calls Try.prog 37 #[.string x.f1, .string y.f1] W' fun e w' => e = .returned (.int .i64 (cmpD x y)) ∧ w' = W') := fun W' => Lib.hid (Try.strings_Compare x.f1 y.f1 W')
 generalize cmpD x y = r at hC ⊢
 have hu := Try.underlying27
 have hu2 := Try.underlying24
 unfold aggD encD
 go_enter Try.func36, Try.ntmps36
 go_wp2_with (go_at_call 37; refine (hC _).out.mono ?_; rintro e w' ⟨rfl, rfl⟩)
 go_ret
 exact ⟨rfl, rfl⟩
set_option maxHeartbeats 1000000 in
theorem sort_calls {w : World} {base g cap n : Nat} {ok : Nat → Prop} {l : List RawD} (h : Kd.R kD 27 w base ok (.slice (some ⟨g, 0, none⟩) n cap) l) (hl : l.length ≤ 1000000000) :
 Calls Try.prog 35 #[.slice (some ⟨g, 0, none⟩) n cap, .func (.func 36) #[] #[]] w fun e w' => e = .returned (.tuple #[]) ∧ ∃ l' : List RawD, l'.Perm l ∧ (l'.Pairwise fun x y => lt y.f1 x.f1 = false) ∧ Kd.R kD 27 w' base ok (.slice (some ⟨g, 0, none⟩) n cap) l' ∧ w.grownBy w' (some g) := by
 have hn : n = l.length := (Kd.R_reads' h).1
 have hg : g < w.heap.size := Kd.R_lt h g rfl
 have eg : ∀ args w, (callFunc 36 args).run Try.prog w = .ok (.enter 36 args) w := enters_of Try.func36 (by kernel_rfl) rfl
 have hs : l.toArray.size = l.length := by simp
 have hcmp : CmpLays Try.prog 36 #[] encD 6 cmpD g 0 l.toArray.size w := by
  intro m os dk _ x y
  refine (cmp_calls x y _).mono ?_
  rintro e w' ⟨rfl, rfl⟩
  refine ⟨rfl, 0, #[.cells (encD x).toArray 27 (0, 0), .cells (encD y).toArray 27 (0, 0)], ?_⟩
  rw [Go.Sort.alloc_eq_grow, Go.Sort.alloc_eq_grow, Go.Sort.grow_grow]
  rfl
 have := AnyQ.slices_SortFunc Try.sortD 6 (fun w => by kernel_rfl) (fun w => by kernel_rfl) encD encD_len encD_one cmpD swoD 36 #[] g 0 cap l.toArray w eg hcmp (raw_holds h (by decide)) hg (by rw [hs]; omega)
 rw [hs, ← hn] at this
 refine Calls.mono this ?_
 rintro e w' ⟨rfl, d', m, os, hp, hso, rfl⟩
 rw [hn, ← hs] at hp hso
 obtain ⟨p1, p2⟩ := perm_list hp
 obtain ⟨r1, r2⟩ := sort_world h m d' os (by rw [p2, hs])
 refine ⟨rfl, d'.toList, p1, ?_, r1, r2⟩
 rw [← p2] at hso
 have := sorted_pair hso
 exact this.imp (fun {x y} h => by rw [← ltD]; exact h)
end Go.Proofs.Ytppdcldbebnmlaa.P
end
section
namespace Go.Proofs.Ytppdcldbebnmlaa.P
open Go.RowKit Go.Shelf Go.Proofs.Ytppdcldbebnmlaa.K Go.Proofs.YtppdcldbebnmlaaW.PrintWords Go.Proofs.YtppdcldbebnmlaaW.PrintLast Go.Proofs.YtppdcldbebnmlaaW.PrintMore
/-- What Learn makes of a list. -/
def Learnt (σ : RawD → List SM) (d : RawD) (l l' : List RawD) : Prop :=
 (l.any (later σ d) = true → l' = l) ∧ (l.any (later σ d) = false → l'.Perm (delF (dropP d) l ++ [d]) ∧ l'.Pairwise fun x y => lt y.f1 x.f1 = false)
/-- A slice that reads as raw descriptors. -/
def Reads (w : World) (l : List RawD) (v : Value) : Prop := ∃ A c, v = .slice A l.length c ∧ l.length ≤ c ∧ Kd.C kD w A l.length l
theorem Reads.of_R {w : World} {base : Nat} {ok : Nat → Prop} {v : Value} {l : List RawD} (h : Kd.R kD 27 w base ok v l) : Reads w l v := by
 obtain ⟨A, c, e, h1, h2⟩ := Kd.R_reads h
 exact ⟨A, c, e, h1, h2⟩
theorem Reads.below {w w1 : World} {l : List RawD} {v : Value} (h : Reads w l v) (hb : Below w.heap.size w w1) : Reads w1 l v := by
 obtain ⟨A, c, e, h1, h2⟩ := h
 exact ⟨A, c, e, h1, Kd.C_below h2 hb⟩
set_option maxHeartbeats 8000000 in
set_option maxRecDepth 100000 in
theorem learn_calls (σ : RawD → List SM) (A0 : Option Addr) (c0 : Nat) (l0 : List RawD) (d : RawD) (w : World) (hr0 : Kd.C kD w A0 l0.length l0) (hc0 : l0.length ≤ c0) (hl : l0.length ≤ 1000000) (hm : ∀ x ∈ l0, Mem σ w x ∧ (σ x).length ≤ 1000000000) (hd : Mem σ w d) :
 Calls Try.prog 13 #[.slice A0 l0.length c0, aggD d] w fun e w' => ∃ v l', e = .returned v ∧ Reads w' l' v ∧ Learnt σ d l0 l' ∧ Below w.heap.size w w' := by
 have HC := Lib.hid hr0
 have Hc0 := Lib.hid hc0
 clear hr0 hc0
 have hmf : ∀ (fn : Fn) (first cap : Array Value) (w : World), (Instr.makeFunc fn first cap).run Try.prog w = .ok (.func fn first cap) w := fun _ _ _ _ => rfl
 have eg1 : ∀ args w, (callFunc 28 args).run Try.prog w = .ok (.enter 28 args) w := enters_of Try.func28 (by kernel_rfl) rfl
 have eg2 : ∀ args w, (callFunc 34 args).run Try.prog w = .ok (.enter 34 args) w := enters_of Try.func34 (by kernel_rfl) rfl
 have hu := Try.underlying27
 obtain ⟨W0, hW0⟩ : ∃ W0, W0 = w.alloc (.cells (encD d).toArray 27) := ⟨_, rfl⟩
 have hb0 : Below w.heap.size w W0 := by rw [hW0]; exact pbA (Below.refl _ _) _
 have hs0 : W0.heap.size = w.heap.size + 1 := by rw [hW0]; simp
 have hB0 : W0.heap[w.heap.size]? = some (.cells (encD d).toArray 27 (0, 0)) := by rw [hW0]; exact heap_alloc_new _ _
 have hI := containsD_calls (later σ d) 28 #[.pointer (some ⟨w.heap.size, 0, none⟩)] eg1 A0 c0 l0 W0 (Kd.C_below HC.out hb0) (by omega) (fun W x hx hb => pred_later σ w.heap.size d W x ((((hm x hx).1).below hb0).below hb) ((hd.below hb0).below hb) (hm x hx).2 (bkB hB0 hb))
 rw [hW0] at hI
 unfold encD at hI
 have HI := Lib.hid hI
 clear hI
 cases hany : l0.any (later σ d)
 ·rw [hany] at HI
  have HK : ∀ W, Below w.heap.size w W → Hid (Calls Try.prog 33 #[.slice A0 l0.length c0] W fun e w' => ∃ v : Value, e = .returned v ∧ Kd.R kD 27 w' W.heap.size (fun _ => True) v l0 ∧ Below W.heap.size W w') := fun W hW => Lib.hid (cloneD_calls A0 c0 l0 W (Kd.C_below HC.out hW) (by omega))
  have HD : ∀ W v, Kd.R kD 27 W (w.heap.size + 1) (fun _ => True) v l0 → W.heap[w.heap.size]? = some (.cells (encD d).toArray 27 (0, 0)) → Hid (Calls Try.prog 32 #[v, .func (.func 34) #[] #[.pointer (some ⟨w.heap.size, 0, none⟩)]] W fun e w' => ∃ v', e = .returned v' ∧ Kd.R kD 27 w' (w.heap.size + 1) (fun _ => True) v' (delF (dropP d) l0) ∧ v'.ownBlock = v.ownBlock ∧ W.grownBy w' v.ownBlock) := fun W v hR hx =>
   Lib.hid (deleteD_calls _ _ _ eg2 (w.heap.size + 1) (fun _ => True) v l0 W hR (by omega) (fun W' x _ hg => pred_drop w.heap.size d W' x ((hg.block _ (blk_lt hx) (fun e => by have := Kd.R_base hR _ e.symm; omega)).trans hx)))
  have hdl : (delF (dropP d) l0).length ≤ l0.length := List.length_filter_le _ _
  have Hfin : ∀ l', l'.Perm (delF (dropP d) l0 ++ [d]) → (l'.Pairwise fun x y => lt y.f1 x.f1 = false) → Learnt σ d l0 l' := fun l' h1 h2 => ⟨(fun h => by rw [hany] at h; cases h), fun _ => ⟨h1, h2⟩⟩
  replace Hfin := Lib.hid Hfin
  clear hm hd hany
  generalize hL : delF (dropP d) l0 = L at HD hdl Hfin
  have Hs0 := Lib.hid hs0
  have Hb0 := Lib.hid hb0
  have HB0 := Lib.hid hB0
  have HW0 := Lib.hid hW0
  clear hs0 hb0 hB0 hW0 hL
  have HL : Hid (L.length ≤ 1000000) := Lib.hid (by omega)
  clear hdl
  unfold aggD
  go_enter Try.func13, Try.ntmps13
  go_wp2_with (first | (go_at_call 31; refine HI.out.mono ?_; rintro e w1 ⟨rfl, hb1⟩; have HB1 := Lib.hid (pbT (pbA (Below.refl _ _) _) hb1); have HX1 := Lib.hid (bkB (heap_alloc_new w _) hb1); have HS1 : Hid (w.heap.size + 1 ≤ w1.heap.size) := Lib.hid (by have := hb1.size; simp at this; exact this); clear hb1) | (go_at_call 33; refine (HK _ HB1.out).out.mono ?_; rintro e w2 ⟨v2, rfl, hR2, hb2⟩; have HR2 := Lib.hid (Kd.R_lower hR2 HS1.out); have HB2 := Lib.hid (pbT HB1.out hb2); have HX2 := Lib.hid (bkB HX1.out hb2); have HS2 := Lib.hid (Nat.le_trans HS1.out hb2.size); clear hR2 hb2) | (go_at_call 32; refine (HD _ _ HR2.out HX2.out).out.mono ?_; rintro e w3 ⟨v3, rfl, hR3, ho3, hg3⟩; have BX : w3.heap[w.heap.size]? = some (.cells (encD d).toArray 27 (0, 0)) := (hg3.block _ (Nat.lt_of_lt_of_le (Nat.lt_succ_self _) HS2.out) (fun e => by have := Kd.R_base HR2.out _ e.symm; omega)).trans HX2.out; have d0 : w3.cell? ⟨w.heap.size, 0, none⟩ = some (.int .i64 d.f0) := (bkC BX 0).trans rfl; have d1 : w3.cell? ⟨w.heap.size, 1, none⟩ = some (.string d.f1) := (bkC BX 1).trans rfl; have d2 : w3.cell? ⟨w.heap.size, 2, none⟩ = some (.string d.f2) := (bkC BX 2).trans rfl; have d3 : w3.cell? ⟨w.heap.size, 3, none⟩ = some (.int .i64 d.f3) := (bkC BX 3).trans rfl; have d4 : w3.cell? ⟨w.heap.size, 4, none⟩ = some (.slice d.a4 d.n4 d.c4) := (bkC BX 4).trans rfl; have d5 : w3.cell? ⟨w.heap.size, 5, none⟩ = some (.int .i64 d.f5) := (bkC BX 5).trans rfl; have HB3 := Lib.hid (pw_below_grown HB2.out _ (Nat.le_trans (Nat.le_succ _) HS2.out) hg3 (fun k hk => by have := Kd.R_base HR2.out k hk; omega)); have HR3 := Lib.hid (Kd.R_lower hR3 (Nat.le_succ _)); have HS3 := Lib.hid (Nat.le_trans HS2.out hg3.size); clear hR3 ho3 hg3 BX) | ((with_reducible refine gate_builtin (b := .append) (xs := #[.tmp 16, .tmp 18]) rfl ?_); at_builtin; refine Kd.R_append kD (w0 := w) w.heap.size rfl (.tmp 16) (.tmp 18) 22 27 (.agg #[.int .i64 0, .string ⟨#[]⟩, .string ⟨#[]⟩, .int .i64 0, .slice none 0 0, .int .i64 0]) 80 rfl Try.underlying22 infoD rfl (by decide) (by omega) v3 L d (encD d) (fun _ => True) (fun _ => False) rfl rfl rfl (fun _ h => h.elim) (fun _ _ => trivial) HR3.out HB3.out (Nat.le_trans (Nat.le_succ _) HS3.out) ?aL ?_; (case aL => have := HL.out; omega); intro v4 w4 hR4 hb4 _ _; obtain ⟨g4, cap4, e4, _⟩ := Kd.R_form hR4 (by simp); obtain ⟨N4, hN4⟩ : ∃ N, N = (L ++ [d]).length := ⟨_, rfl⟩; rw [← hN4] at e4; subst e4; clear hN4; have HR4 := Lib.hid hR4; have HB4 := Lib.hid hb4; clear hR4 hb4) | (go_at_call 35; refine (sort_calls HR4.out (by have := HL.out; rw [List.length_append]; simp; omega)).mono ?_; rintro e w5 ⟨rfl, l5, hp5, hs5, hR5, hg5⟩; have HR5 := Lib.hid hR5; have HG5 := Lib.hid hg5; have HP5 := Lib.hid hp5; have HS5 := Lib.hid hs5; clear hR5 hg5 hp5 hs5) | go_in)
  go_ret
  refine ⟨_, l5, rfl, Reads.of_R HR5.out, Hfin.out l5 HP5.out HS5.out, ?_⟩
  exact pw_below_grown HB4.out _ HB4.out.size HG5.out (fun k hk => Kd.R_base HR4.out k hk)
 ·rw [hany] at HI
  unfold aggD
  have Hfin : Learnt σ d l0 l0 := ⟨fun _ => rfl, (fun h => by rw [hany] at h; cases h)⟩
  have HF := Lib.hid Hfin
  clear hm hd hany hs0 hb0 hB0 hW0 Hfin
  go_enter Try.func13, Try.ntmps13
  go_wp2_with (go_at_call 31; refine HI.out.mono ?_; rintro e w1 ⟨rfl, hb1⟩)
  go_ret
  have hB := pbT (pbA (Below.refl _ _) _) hb1
  exact ⟨_, l0, rfl, ⟨A0, c0, rfl, Hc0.out, Kd.C_below HC.out hB⟩, HF.out, hB⟩
end Go.Proofs.Ytppdcldbebnmlaa.P
end
