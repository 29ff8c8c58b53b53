import Derived.Test.YtjfhcijjjadhbaaDoorZDescMembers1
import Derived.Test.YtjfhcijjjadhbaaDoorZDescMembers2
import Derived.Test.YtjfhcijjjadhbaaDoorZDescMembers3
import Derived.Deep.DrawnRows
import Derived.Deep.RegionHeld3
import Derived.Lib.Hide
set_option linter.unusedVariables false
set_option linter.unusedSimpArgs false
set_option linter.unnecessarySimpa false
section
namespace Go.Proofs.YtjfhcijjjadhbaaDoor.P
open Go.RowKit Go.Proofs.YtjfhcijjjadhbaaDoor.K Go.Proofs.YtjfhcijjjadhbaaDoorW.PrintWords Go.Proofs.YtjfhcijjjadhbaaDoorW.PrintLast Go.Proofs.YtjfhcijjjadhbaaDoorW.PrintMore
attribute [local go_sem] max2_int min2_int max_two min_two max_three min_three max_four min_four   -- for this text's walks alone
def r06_Add.j0 : Nat → Int → Bool → Bool → Int → ByteArray → ByteArray → Int → List (S60) → Int → Option (Int × ByteArray × ByteArray × Int × (List (S60)) × Int × Int)
 | 0, _, _, _, _, _, _, _, _, _ => none
 | k + 1, x1, x7, x19, x541000, x541001, x541002, x541003, x541004, x541005 => if x19 = true then (some (0, (⟨#[]⟩ : ByteArray), (⟨#[]⟩ : ByteArray), 0, ([] : List (S60)), 0, 2)) else (if x7 = true then (some (0, (⟨#[]⟩ : ByteArray), (⟨#[]⟩ : ByteArray), 0, ([] : List (S60)), 0, 8)) else (if (x541004.length : Int) = 5 then (some (0, (⟨#[]⟩ : ByteArray), (⟨#[]⟩ : ByteArray), 0, ([] : List (S60)), 0, 6)) else ((some (([] : List (S60)) : List (S60))).bind fun y547 => (if y547.length + x541004.length < 8796093022208 then ((some (y547 ++ x541004 : List (S60))).bind fun y550 => ((some (([(⟨x1, x541005⟩ : S60)] : List (S60)) : List (S60))).bind fun y553 => (if y550.length + y553.length < 8796093022208 then ((r06_right.f k x541000 x541001 x541002 (wrap64 (x541003 + 1)) (y550 ++ y553) (wrap64 (x541005 + 1))).bind fun bt559 => (some (bt559.1, bt559.2.1, bt559.2.2.1, bt559.2.2.2.1, bt559.2.2.2.2.1, bt559.2.2.2.2.2.1, bt559.2.2.2.2.2.2))) else (none)))) else (none)))))
def r06_Add.f (k : Nat) (a0_0 : Int) (a0_1 : ByteArray) (a0_2 : ByteArray) (a0_3 : Int) (l0_4 : List (S60)) (a0_5 : Int) (a1 : Int) : Option (Int × ByteArray × ByteArray × Int × (List (S60)) × Int × Int) := (r06_On.f k a0_0 a0_1 a0_2 a0_3 l0_4 a0_5 a1).bind fun bt542 => ((r06_Is.f k a0_0 a0_1 a0_2 a0_3 l0_4 a0_5).bind fun t546 => (if t546 = true then (if a1 < 1 then (r06_Add.j0 k a1 bt542.2.2 true a0_0 a0_1 a0_2 a0_3 l0_4 a0_5) else (r06_Add.j0 k a1 bt542.2.2 (decide (a1 > 7)) a0_0 a0_1 a0_2 a0_3 l0_4 a0_5)) else (some (0, (⟨#[]⟩ : ByteArray), (⟨#[]⟩ : ByteArray), 0, ([] : List (S60)), 0, 60))))
theorem r06_Add.mono_l : ∀ k, (∀ y0 y1 y2 y3 y4 y5 y6 y7 y8, LeO (r06_Add.j0 k y0 y1 y2 y3 y4 y5 y6 y7 y8) (r06_Add.j0 (k + 1) y0 y1 y2 y3 y4 y5 y6 y7 y8))
 | 0 => fun _ _ _ _ _ _ _ _ _ r h => by simp [r06_Add.j0] at h
 | k + 1 => by
  have ih0 := r06_Add.mono_l k
  ·intro y0 y1 y2 y3 y4 y5 y6 y7 y8
   unfold r06_Add.j0
   repeat' first
   | (with_reducible exact ih0 _ _ _ _ _ _ _ _ _)
   | (with_reducible exact r06_Is.mono _ _ _ _ _ _ _)
   | (with_reducible exact r06_On.mono _ _ _ _ _ _ _ _)
   | (with_reducible exact r06_right.mono _ _ _ _ _ _ _)
   | (with_reducible exact LeO.refl _)
   | (with_reducible exact LeO.none _)
   | (with_reducible refine LeO.ite ?_ ?_)
   | (with_reducible refine LeO.bind ?_ (fun _ => ?_))
   | exact ih0 _ _ _ _ _ _ _ _ _
   | exact r06_Is.mono _ _ _ _ _ _ _
   | exact r06_On.mono _ _ _ _ _ _ _ _
   | exact r06_right.mono _ _ _ _ _ _ _
   | exact LeO.none _
   | refine LeO.ite ?_ ?_
   | refine LeO.bind ?_ (fun _ => ?_)
theorem r06_Add.mono : ∀ a0 a1 a2 a3 a4 a5 a6 k, LeO (r06_Add.f k a0 a1 a2 a3 a4 a5 a6) (r06_Add.f (k + 1) a0 a1 a2 a3 a4 a5 a6) := by
 intro a0 a1 a2 a3 a4 a5 a6 k
 have ih0 := r06_Add.mono_l k
 unfold r06_Add.f
 repeat' first
  | (with_reducible exact ih0 _ _ _ _ _ _ _ _ _)
  | (with_reducible exact r06_Is.mono _ _ _ _ _ _ _)
  | (with_reducible exact r06_On.mono _ _ _ _ _ _ _ _)
  | (with_reducible exact r06_right.mono _ _ _ _ _ _ _)
  | (with_reducible exact LeO.refl _)
  | (with_reducible exact LeO.none _)
  | (with_reducible refine LeO.ite ?_ ?_)
  | (with_reducible refine LeO.bind ?_ (fun _ => ?_))
  | exact ih0 _ _ _ _ _ _ _ _ _
  | exact r06_Is.mono _ _ _ _ _ _ _
  | exact r06_On.mono _ _ _ _ _ _ _ _
  | exact r06_right.mono _ _ _ _ _ _ _
  | exact LeO.none _
  | refine LeO.ite ?_ ?_
  | refine LeO.bind ?_ (fun _ => ?_)
def r06_Add.T10 : Bool × List (List Nat × List Nat) := (true, [([], []), ([], []), ([1], [1]), ([0, 2], [0, 2]), ([], []), ([], []), ([5], [5]), ([4, 6], [4, 6]), ([7], [7]), ([3, 8, 3], [3, 8]), ([0, 1, 2, 3, 4, 5, 6, 7, 8, 9], []), ([10, 9, 9, 0, 1, 2, 3, 4, 5, 6, 7, 8, 9], [9, 10])])
def r06_Add.B10 : List Nat := [0, 0, 2, 7, 0, 0, 32, 112, 240, 511, 1023, 2047]
theorem r06_Add.tab10 : rtab .any (opsOf Tryd.f26 10) = r06_Add.T10 := by kernel_rfl
theorem r06_Add.bits10 : waitsOk r06_Add.T10.2 r06_Add.B10 = true := by kernel_rfl
set_option maxHeartbeats 8000000 in
set_option maxRecDepth 100000 in
theorem r06_Add.calls (k : Nat) (a0_0 : Int) (a0_1 : ByteArray) (a0_2 : ByteArray) (a0_3 : Int) (A0_4 : Option Addr) (c0_4 : Nat) (l0_4 : List (S60)) (a0_5 : Int) (a1 : Int) (r1 : Int) (r2 : ByteArray) (r3 : ByteArray) (r4 : Int) (r5 : List (S60)) (r6 : Int) (r7 : Int) (w : World) (hG : TheG w) (hr0_4 : Kd.C k60 w A0_4 l0_4.length l0_4) (hc0_4 : l0_4.length ≤ c0_4) (h : r06_Add.f k a0_0 a0_1 a0_2 a0_3 l0_4 a0_5 a1 = some (r1, r2, r3, r4, r5, r6, r7)) :
 Calls Tryd.prog 26 #[.agg #[.int .i64 a0_0, .string a0_1, .string a0_2, .int .i64 a0_3, .slice A0_4 l0_4.length c0_4, .int .i64 a0_5], .int .i64 a1] w fun e w' => ∃ v4_ : Value, e = .returned (.tuple #[.agg #[.int .i64 r1, .string r2, .string r3, .int .i64 r4, v4_, .int .i64 r6], .int .i64 r7]) ∧ Kd.V k60 60 w' w.heap.size (fun k_ => (w.heap.size ≤ k_)) v4_ r5 ∧ Below w.heap.size w w' := by
 have hu26 := Tryd.underlying26
 have hu60 := Tryd.underlying60
 have HR0_4 := Az.mk hr0_4
 have HC0_4 := Az.mk hc0_4
 clear hr0_4 hc0_4
 have HB := Az.mk (Below.refl w.heap.size w)
 have H : ((r06_On.f k a0_0 a0_1 a0_2 a0_3 l0_4 a0_5 a1).bind fun bt542 => ((r06_Is.f k a0_0 a0_1 a0_2 a0_3 l0_4 a0_5).bind fun t546 => (if t546 = true then (if a1 < 1 then (r06_Add.j0 k a1 bt542.2.2 true a0_0 a0_1 a0_2 a0_3 l0_4 a0_5) else (r06_Add.j0 k a1 bt542.2.2 (decide (a1 > 7)) a0_0 a0_1 a0_2 a0_3 l0_4 a0_5)) else (some (0, (⟨#[]⟩ : ByteArray), (⟨#[]⟩ : ByteArray), 0, ([] : List (S60)), 0, 60))))) = some (r1, r2, r3, r4, r5, r6, r7) := h
 clear h
 replace H := Option.bind_eq_some_iff.mp H
 obtain ⟨⟨t542, t543, t544⟩, A30, H⟩ := H
 replace H : ((r06_Is.f k a0_0 a0_1 a0_2 a0_3 l0_4 a0_5).bind fun t546 => (if t546 = true then (if a1 < 1 then (r06_Add.j0 k a1 t544 true a0_0 a0_1 a0_2 a0_3 l0_4 a0_5) else (r06_Add.j0 k a1 t544 (decide (a1 > 7)) a0_0 a0_1 a0_2 a0_3 l0_4 a0_5)) else (some (0, (⟨#[]⟩ : ByteArray), (⟨#[]⟩ : ByteArray), 0, ([] : List (S60)), 0, 60)))) = some (r1, r2, r3, r4, r5, r6, r7) := H
 have A3 := Az.mk A30
 clear A30
 replace H := Option.bind_eq_some_iff.mp H
 obtain ⟨t546, A40, H⟩ := H
 replace H : (if t546 = true then (if a1 < 1 then (r06_Add.j0 k a1 t544 true a0_0 a0_1 a0_2 a0_3 l0_4 a0_5) else (r06_Add.j0 k a1 t544 (decide (a1 > 7)) a0_0 a0_1 a0_2 a0_3 l0_4 a0_5)) else (some (0, (⟨#[]⟩ : ByteArray), (⟨#[]⟩ : ByteArray), 0, ([] : List (S60)), 0, 60))) = some (r1, r2, r3, r4, r5, r6, r7) := H
 have A4 := Az.mk A40
 clear A40
 by_cases c5 : t546 = true
 ·subst c5
  have H1 : (if a1 < 1 then (r06_Add.j0 k a1 t544 true a0_0 a0_1 a0_2 a0_3 l0_4 a0_5) else (r06_Add.j0 k a1 t544 (decide (a1 > 7)) a0_0 a0_1 a0_2 a0_3 l0_4 a0_5)) = some (r1, r2, r3, r4, r5, r6, r7) := by rw [if_pos rfl] at H; exact H
  clear H
  have H := H1
  clear H1
  have HC6 := Az.mk H
  clear H
  go_enter Tryd.func26, Tryd.ntmps26
  go_upto_region 4 with (first | ((with_reducible refine gate_dst (N := 2) rfl ?_); refine box_event ?hg (N := 2) ?hd (cs := #[.int .i64 a0_0, .string a0_1, .string a0_2, .int .i64 a0_3, .slice A0_4 l0_4.length c0_4, .int .i64 a0_5]) (t := 26) ?hr ?_; (case hd => rfl); (case hg => rfl); (case hr => first | (go_simp; done) | (go_simp; rfl)); intro gb540 hg w7 hbox hb; have BK540 := Az.mk (hbox); have GW540 := Az.mk (geO hg (pbE HB.out)); have GE540 := Az.mk (geO hg (pbE HB.out)); replace HB := Az.mk (pbT (by exact pbE HB.out) hb); clear hb hbox hg) | ((with_reducible refine gate_dst (N := 4) rfl ?_); refine box_event ?hg (N := 4) ?hd (cs := #[.int .i64 0, .string (⟨#[]⟩ : ByteArray), .string (⟨#[]⟩ : ByteArray), .int .i64 0, .slice none 0 0, .int .i64 0]) (t := 26) ?hr ?_; (case hd => rfl); (case hg => rfl); (case hr => first | (go_simp; done) | (go_simp; rfl)); intro gb541 hg w8 hbox hb; have BK541 := Az.mk (hbox); have GW541 := Az.mk (geO hg (pbE HB.out)); have GE541 := Az.mk (geO hg (pbE HB.out)); replace HB := Az.mk (pbT (by exact pbE HB.out) hb); have NB540_541 := Az.mk (neO hg (bk BK540.out)); have NB541_540 := Az.mk (neP hg (bk BK540.out)); replace BK540 := Az.mk (bkB (bk BK540.out) hb); clear hb hbox hg; have hnb9 := NB540_541.out; have hnc9 := NB541_540.out; have hcz10 := cells6 BK540.out) | ((with_reducible refine gtc (f := 50) rfl ?_); refine goesL_ (some 11) rfl rfl Tryd.func50 (by kernel_rfl) rfl #[.agg #[.int .i64 a0_0, .string a0_1, .string a0_2, .int .i64 a0_3, .slice A0_4 l0_4.length c0_4, .int .i64 a0_5], .int .i64 a1] rfl (by (try simp only [List.map_toArray, List.map_cons, List.map_nil]); first | done | rfl | (simp only [List.length_drop, List.length_take]; rfl)) ?_; (with_reducible refine (r06_On.calls k a0_0 a0_1 a0_2 a0_3 _ _ l0_4 a0_5 a1 t542 t543 t544 _ ?side1 ?side2 ?side3 A3.out).mono ?_); (case side1 => exact hG.below (by exact pbE HB.out)); (case side2 => repeat (first | exact (Kd.C_below HR0_4.out HB.out) | (with_reducible refine Kd.C_alloc ?_ _) | (with_reducible refine Kd.C_drewN ?_ _) | (with_reducible refine Kd.C_drew ?_))); (case side3 => exact HC0_4.out); rintro e w11 ⟨rfl, hb⟩; refine ⟨_, rfl, ?_⟩; replace BK540 := Az.mk (bkB (bk BK540.out) hb); replace BK541 := Az.mk (bkB (bk BK541.out) hb); replace HB := Az.mk (pbT (by exact pbE HB.out) hb); (try clear hb); (try clear hb2); (try clear hk); (try clear hi)) | ((with_reducible refine gate_dst (N := 6) rfl ?_); refine box_event ?hg (N := 6) ?hd (cs := #[.int .i64 0, .int .i64 0]) (t := 60) ?hr ?_; (case hd => rfl); (case hg => rfl); (case hr => first | (go_simp; done) | (go_simp; rfl)); intro gb545 hg w12 hbox hb; have BK545 := Az.mk (hbox); have GW545 := Az.mk (geO hg (pbE HB.out)); have GE545 := Az.mk (geO hg (pbE HB.out)); replace HB := Az.mk (pbT (by exact pbE HB.out) hb); have NB540_545 := Az.mk (neO hg (bk BK540.out)); have NB545_540 := Az.mk (neP hg (bk BK540.out)); replace BK540 := Az.mk (bkB (bk BK540.out) hb); have NB541_545 := Az.mk (neO hg (bk BK541.out)); have NB545_541 := Az.mk (neP hg (bk BK541.out)); replace BK541 := Az.mk (bkB (bk BK541.out) hb); clear hb hbox hg; have hnb13 := NB545_540.out; have hnc13 := NB540_545.out; have hnb14 := NB545_541.out; have hnc14 := NB541_545.out; have hcz15 := cells2 BK545.out; have hcz16 := cells6 BK540.out) | ((with_reducible refine gtc (f := 34) rfl ?_); refine goesL_ (some 16) rfl rfl Tryd.func34 (by kernel_rfl) rfl #[.agg #[.int .i64 a0_0, .string a0_1, .string a0_2, .int .i64 a0_3, .slice A0_4 l0_4.length c0_4, .int .i64 a0_5]] rfl (by (try simp only [List.map_toArray, List.map_cons, List.map_nil]); first | done | rfl | (simp only [List.length_drop, List.length_take]; rfl)) ?_; (with_reducible refine (r06_Is.calls k a0_0 a0_1 a0_2 a0_3 _ _ l0_4 a0_5 true _ ?side1 ?side2 ?side3 A4.out).mono ?_); (case side1 => exact hG.below (by exact pbE HB.out)); (case side2 => exact Kd.C_below HR0_4.out (by exact pbE HB.out)); (case side3 => exact HC0_4.out); rintro e w17 ⟨rfl, hb⟩; refine ⟨_, rfl, ?_⟩; replace BK540 := Az.mk (bkB (bf BK540.out) hb); replace BK541 := Az.mk (bkB (bf BK541.out) hb); replace BK545 := Az.mk (bkB (g := gb545) (o := .cells #[.int .i64 t542, .int .i64 t543] 60 (0, 0)) (by refine bk ?_; refine blk_put (cs := #[.int .i64 t542, .int .i64 0]) ?_ 1 _ rfl; refine bk ?_; refine blk_put (cs := #[.int .i64 0, .int .i64 0]) ?_ 0 _ rfl; refine bk ?_; exact BK545.out) hb); replace HB := Az.mk (pbT (by exact pbE HB.out) hb); (try clear hb); (try clear hb2); (try clear hk); (try clear hi)))
  (try simp only [Act.put, List.setIfInBounds_toArray, List.set_cons_zero, List.set_cons_succ])
  go_cut [19] (fun v19 wc => ∃ (kq : Nat) (x19_5 : Bool), v19 = .bool x19_5 ∧ Az (r06_Add.j0 kq a1 t544 x19_5 a0_0 a0_1 a0_2 a0_3 l0_4 a0_5 = some (r1, r2, r3, r4, r5, r6, r7)) ∧ Az (kq ≤ k) ∧ Az (wc.heap[gb540]? = some (.cells #[.int .i64 a0_0, .string a0_1, .string a0_2, .int .i64 a0_3, (.slice A0_4 l0_4.length c0_4), .int .i64 a0_5] 26 (0, 0))) ∧ Az (wc.heap[gb541]? = some (.cells #[.int .i64 0, .string (⟨#[]⟩ : ByteArray), .string (⟨#[]⟩ : ByteArray), .int .i64 0, (.slice none 0 0), .int .i64 0] 26 (0, 0))) ∧ Az (wc.heap[gb545]? = some (.cells #[.int .i64 t542, .int .i64 t543] 60 (0, 0))) ∧ Az (Below w.heap.size w wc))
  case first =>
   have H := HC6.out
   clear HC6
   by_cases c18 : a1 < 1
   ·rw [if_pos c18] at H
    have c18b0 : decide (a1 < 1) = true := decide_eq_true c18
    clear c18
    (first | rw [c18b0] | (simp only [i64_w, i32_w]; rw [c18b0]) | skip)
    have H' := Az.mk H
    clear H
    go_wp2
    go_meet
    case rel => exact ⟨_, (true), (by first | rfl | (simp; done) | (simp [*]; done)), H', ⟨by first | omega | exact Nat.le_refl _⟩, ⟨by refine bk ?_; exact BK540.out⟩, ⟨by refine bk ?_; exact BK541.out⟩, ⟨by refine bk ?_; exact BK545.out⟩, ⟨by exact pbE HB.out⟩⟩
   ·rw [if_neg c18] at H
    have c18b0 : decide (a1 < 1) = false := decide_eq_false c18
    clear c18
    (first | rw [c18b0] | (simp only [i64_w, i32_w]; rw [c18b0]) | skip)
    have H' := Az.mk H
    clear H
    go_wp2
    go_meet
    case rel => exact ⟨_, (decide (a1 > 7)), (by first | rfl | (simp; done) | (simp [*]; done)), H', ⟨by first | omega | exact Nat.le_refl _⟩, ⟨by refine bk ?_; exact BK540.out⟩, ⟨by refine bk ?_; exact BK541.out⟩, ⟨by refine bk ?_; exact BK545.out⟩, ⟨by exact pbE HB.out⟩⟩
  case rest =>
   clear HC6
   try clear c1
   try clear c2
   try clear p2
   try clear c3
   try clear c5
   try clear c9
   try clear c13
   try clear c14
   try clear c18
   try clear c18b0
   try clear hcz10
   try clear hcz15
   try clear hcz16
   obtain ⟨kq, x19_5, rfl, HA, HJ5, BK540, BK541, BK545, HB⟩ := hcut
   cases kq with
   | zero => exact absurd HA.out (by simp [r06_Add.j0])
   | succ kj5 =>
    have H := HA.out
    clear HA
    simp only [r06_Add.j0] at H
    by_cases c19 : x19_5 = true
    ·subst c19
     have H1 : (some (0, (⟨#[]⟩ : ByteArray), (⟨#[]⟩ : ByteArray), 0, ([] : List (S60)), 0, 2)) = some (r1, r2, r3, r4, r5, r6, r7) := by rw [if_pos rfl] at H; exact H
     clear H
     have H := H1
     clear H1
     simp only [Option.some.injEq, Prod.mk.injEq] at H
     obtain ⟨rfl, rfl, rfl, rfl, rfl, rfl, rfl⟩ := H
     have hnb20 := NB541_540.out
     have hnc20 := NB540_541.out
     have hnb21 := NB541_545.out
     have hnc21 := NB545_541.out
     have hcz22 := cells6 BK541.out
     go_wp2
     refine bodyPost_ret (results_ct rfl _ _ gb541 26 #[.int .i64 0, .string (⟨#[]⟩ : ByteArray), .string (⟨#[]⟩ : ByteArray), .int .i64 0, .slice none 0 0, .int .i64 0] (0, 0) _ rfl (by refine bk ?_; refine blk_put (cs := #[.int .i64 0, .string (⟨#[]⟩ : ByteArray), .string (⟨#[]⟩ : ByteArray), .int .i64 0, .slice none 0 0, .int .i64 0]) ?_ 5 _ rfl; refine bk ?_; refine blk_put (cs := #[.int .i64 0, .string (⟨#[]⟩ : ByteArray), .string (⟨#[]⟩ : ByteArray), .int .i64 0, .slice none 0 0, .int .i64 0]) ?_ 4 _ rfl; refine bk ?_; refine blk_put (cs := #[.int .i64 0, .string (⟨#[]⟩ : ByteArray), .string (⟨#[]⟩ : ByteArray), .int .i64 0, .slice none 0 0, .int .i64 0]) ?_ 3 _ rfl; refine bk ?_; refine blk_put (cs := #[.int .i64 0, .string (⟨#[]⟩ : ByteArray), .string (⟨#[]⟩ : ByteArray), .int .i64 0, .slice none 0 0, .int .i64 0]) ?_ 2 _ rfl; refine bk ?_; refine blk_put (cs := #[.int .i64 0, .string (⟨#[]⟩ : ByteArray), .string (⟨#[]⟩ : ByteArray), .int .i64 0, .slice none 0 0, .int .i64 0]) ?_ 1 _ rfl; refine bk ?_; refine blk_put (cs := #[.int .i64 0, .string (⟨#[]⟩ : ByteArray), .string (⟨#[]⟩ : ByteArray), .int .i64 0, .slice none 0 0, .int .i64 0]) ?_ 0 _ rfl; refine bk ?_; exact BK541.out) Tryd.underlying26 rfl (by kernel_rfl)) rfl ?_
     exact ⟨_, by first | rfl | (simp [errW_none, errW_some] <;> rfl) | (simp [*, errW_none, errW_some] <;> rfl), Kd.V_nil _ _ _ _ _, by exact pbE HB.out⟩
    ·replace c19 := Bool.eq_false_iff.mpr c19
     subst c19
     have H1 : (if t544 = true then (some (0, (⟨#[]⟩ : ByteArray), (⟨#[]⟩ : ByteArray), 0, ([] : List (S60)), 0, 8)) else (if (l0_4.length : Int) = 5 then (some (0, (⟨#[]⟩ : ByteArray), (⟨#[]⟩ : ByteArray), 0, ([] : List (S60)), 0, 6)) else ((some (([] : List (S60)) : List (S60))).bind fun y547 => (if y547.length + l0_4.length < 8796093022208 then ((some (y547 ++ l0_4 : List (S60))).bind fun y550 => ((some (([(⟨a1, a0_5⟩ : S60)] : List (S60)) : List (S60))).bind fun y553 => (if y550.length + y553.length < 8796093022208 then ((r06_right.f kj5 a0_0 a0_1 a0_2 (wrap64 (a0_3 + 1)) (y550 ++ y553) (wrap64 (a0_5 + 1))).bind fun bt559 => (some (bt559.1, bt559.2.1, bt559.2.2.1, bt559.2.2.2.1, bt559.2.2.2.2.1, bt559.2.2.2.2.2.1, bt559.2.2.2.2.2.2))) else (none)))) else (none))))) = some (r1, r2, r3, r4, r5, r6, r7) := by rw [if_neg (show ¬ (false = true) by decide)] at H; exact H
     clear H
     have H := H1
     clear H1
     by_cases c23 : t544 = true
     ·subst c23
      have H1 : (some (0, (⟨#[]⟩ : ByteArray), (⟨#[]⟩ : ByteArray), 0, ([] : List (S60)), 0, 8)) = some (r1, r2, r3, r4, r5, r6, r7) := by rw [if_pos rfl] at H; exact H
      clear H
      have H := H1
      clear H1
      simp only [Option.some.injEq, Prod.mk.injEq] at H
      obtain ⟨rfl, rfl, rfl, rfl, rfl, rfl, rfl⟩ := H
      have hnb24 := NB541_540.out
      have hnc24 := NB540_541.out
      have hnb25 := NB541_545.out
      have hnc25 := NB545_541.out
      have hcz26 := cells6 BK541.out
      go_wp2
      refine bodyPost_ret (results_ct rfl _ _ gb541 26 #[.int .i64 0, .string (⟨#[]⟩ : ByteArray), .string (⟨#[]⟩ : ByteArray), .int .i64 0, .slice none 0 0, .int .i64 0] (0, 0) _ rfl (by refine bk ?_; refine blk_put (cs := #[.int .i64 0, .string (⟨#[]⟩ : ByteArray), .string (⟨#[]⟩ : ByteArray), .int .i64 0, .slice none 0 0, .int .i64 0]) ?_ 5 _ rfl; refine bk ?_; refine blk_put (cs := #[.int .i64 0, .string (⟨#[]⟩ : ByteArray), .string (⟨#[]⟩ : ByteArray), .int .i64 0, .slice none 0 0, .int .i64 0]) ?_ 4 _ rfl; refine bk ?_; refine blk_put (cs := #[.int .i64 0, .string (⟨#[]⟩ : ByteArray), .string (⟨#[]⟩ : ByteArray), .int .i64 0, .slice none 0 0, .int .i64 0]) ?_ 3 _ rfl; refine bk ?_; refine blk_put (cs := #[.int .i64 0, .string (⟨#[]⟩ : ByteArray), .string (⟨#[]⟩ : ByteArray), .int .i64 0, .slice none 0 0, .int .i64 0]) ?_ 2 _ rfl; refine bk ?_; refine blk_put (cs := #[.int .i64 0, .string (⟨#[]⟩ : ByteArray), .string (⟨#[]⟩ : ByteArray), .int .i64 0, .slice none 0 0, .int .i64 0]) ?_ 1 _ rfl; refine bk ?_; refine blk_put (cs := #[.int .i64 0, .string (⟨#[]⟩ : ByteArray), .string (⟨#[]⟩ : ByteArray), .int .i64 0, .slice none 0 0, .int .i64 0]) ?_ 0 _ rfl; refine bk ?_; exact BK541.out) Tryd.underlying26 rfl (by kernel_rfl)) rfl ?_
      exact ⟨_, by first | rfl | (simp [errW_none, errW_some] <;> rfl) | (simp [*, errW_none, errW_some] <;> rfl), Kd.V_nil _ _ _ _ _, by exact pbE HB.out⟩
     ·replace c23 := Bool.eq_false_iff.mpr c23
      subst c23
      have H1 : (if (l0_4.length : Int) = 5 then (some (0, (⟨#[]⟩ : ByteArray), (⟨#[]⟩ : ByteArray), 0, ([] : List (S60)), 0, 6)) else ((some (([] : List (S60)) : List (S60))).bind fun y547 => (if y547.length + l0_4.length < 8796093022208 then ((some (y547 ++ l0_4 : List (S60))).bind fun y550 => ((some (([(⟨a1, a0_5⟩ : S60)] : List (S60)) : List (S60))).bind fun y553 => (if y550.length + y553.length < 8796093022208 then ((r06_right.f kj5 a0_0 a0_1 a0_2 (wrap64 (a0_3 + 1)) (y550 ++ y553) (wrap64 (a0_5 + 1))).bind fun bt559 => (some (bt559.1, bt559.2.1, bt559.2.2.1, bt559.2.2.2.1, bt559.2.2.2.2.1, bt559.2.2.2.2.2.1, bt559.2.2.2.2.2.2))) else (none)))) else (none)))) = some (r1, r2, r3, r4, r5, r6, r7) := by rw [if_neg (show ¬ (false = true) by decide)] at H; exact H
      clear H
      have H := H1
      clear H1
      by_cases c27 : (l0_4.length : Int) = 5
      ·rw [if_pos c27] at H
       have c27b0 : ((l0_4.length : Int) == 5) = true := beq_iff_eq.mpr c27
       have c27b1 : ((l0_4.length : Int) != 5) = false := bne_eq_false_iff_eq.mpr c27
       clear c27
       simp only [Option.some.injEq, Prod.mk.injEq] at H
       obtain ⟨rfl, rfl, rfl, rfl, rfl, rfl, rfl⟩ := H
       have hnb28 := NB540_541.out
       have hnc28 := NB541_540.out
       have hnb29 := NB540_545.out
       have hnc29 := NB545_540.out
       have hcz30 := cells6 BK540.out
       have hnb31 := NB541_545.out
       have hnc31 := NB545_541.out
       have hcz32 := cells6 BK541.out
       go_wp2
       refine bodyPost_ret (results_ct rfl _ _ gb541 26 #[.int .i64 0, .string (⟨#[]⟩ : ByteArray), .string (⟨#[]⟩ : ByteArray), .int .i64 0, .slice none 0 0, .int .i64 0] (0, 0) _ rfl (by refine bk ?_; refine blk_put (cs := #[.int .i64 0, .string (⟨#[]⟩ : ByteArray), .string (⟨#[]⟩ : ByteArray), .int .i64 0, .slice none 0 0, .int .i64 0]) ?_ 5 _ rfl; refine bk ?_; refine blk_put (cs := #[.int .i64 0, .string (⟨#[]⟩ : ByteArray), .string (⟨#[]⟩ : ByteArray), .int .i64 0, .slice none 0 0, .int .i64 0]) ?_ 4 _ rfl; refine bk ?_; refine blk_put (cs := #[.int .i64 0, .string (⟨#[]⟩ : ByteArray), .string (⟨#[]⟩ : ByteArray), .int .i64 0, .slice none 0 0, .int .i64 0]) ?_ 3 _ rfl; refine bk ?_; refine blk_put (cs := #[.int .i64 0, .string (⟨#[]⟩ : ByteArray), .string (⟨#[]⟩ : ByteArray), .int .i64 0, .slice none 0 0, .int .i64 0]) ?_ 2 _ rfl; refine bk ?_; refine blk_put (cs := #[.int .i64 0, .string (⟨#[]⟩ : ByteArray), .string (⟨#[]⟩ : ByteArray), .int .i64 0, .slice none 0 0, .int .i64 0]) ?_ 1 _ rfl; refine bk ?_; refine blk_put (cs := #[.int .i64 0, .string (⟨#[]⟩ : ByteArray), .string (⟨#[]⟩ : ByteArray), .int .i64 0, .slice none 0 0, .int .i64 0]) ?_ 0 _ rfl; refine bk ?_; exact BK541.out) Tryd.underlying26 rfl (by kernel_rfl)) rfl ?_
       exact ⟨_, by first | rfl | (simp [errW_none, errW_some] <;> rfl) | (simp [*, errW_none, errW_some] <;> rfl), Kd.V_nil _ _ _ _ _, by exact pbE HB.out⟩
      ·rw [if_neg c27] at H
       have c27b0 : ((l0_4.length : Int) == 5) = false := beq_eq_false_iff_ne.mpr c27
       have c27b1 : ((l0_4.length : Int) != 5) = true := bne_iff_ne.mpr c27
       obtain ⟨y547, hy547⟩ : ∃ y_ : List (S60), y_ = (([] : List (S60))) := ⟨_, rfl⟩
       replace H : (if y547.length + l0_4.length < 8796093022208 then ((some (y547 ++ l0_4 : List (S60))).bind fun y550 => ((some (([(⟨a1, a0_5⟩ : S60)] : List (S60)) : List (S60))).bind fun y553 => (if y550.length + y553.length < 8796093022208 then ((r06_right.f kj5 a0_0 a0_1 a0_2 (wrap64 (a0_3 + 1)) (y550 ++ y553) (wrap64 (a0_5 + 1))).bind fun bt559 => (some (bt559.1, bt559.2.1, bt559.2.2.1, bt559.2.2.2.1, bt559.2.2.2.2.1, bt559.2.2.2.2.2.1, bt559.2.2.2.2.2.2))) else (none)))) else (none)) = some (r1, r2, r3, r4, r5, r6, r7) := by first | (rw [hy547]; with_reducible exact H) | (have H2_ := (Option.bind_some _ _).symm.trans H; rw [hy547]; with_reducible exact H2_) | (have H2_ := (Option.bind_some _ _).symm.trans H; with_reducible exact H2_) | with_reducible exact H | (rw [hy547]; exact H) | exact H
       have Ny547 := Az.mk hy547
       clear hy547
       by_cases c33 : y547.length + l0_4.length < 8796093022208
       ·rw [if_pos c33] at H
        have LMc33 := Az.mk c33
        clear c33
        obtain ⟨y550, hy550⟩ : ∃ y_ : List (S60), y_ = (y547 ++ l0_4) := ⟨_, rfl⟩
        replace H : ((some (([(⟨a1, a0_5⟩ : S60)] : List (S60)) : List (S60))).bind fun y553 => (if y550.length + y553.length < 8796093022208 then ((r06_right.f kj5 a0_0 a0_1 a0_2 (wrap64 (a0_3 + 1)) (y550 ++ y553) (wrap64 (a0_5 + 1))).bind fun bt559 => (some (bt559.1, bt559.2.1, bt559.2.2.1, bt559.2.2.2.1, bt559.2.2.2.2.1, bt559.2.2.2.2.2.1, bt559.2.2.2.2.2.2))) else (none))) = some (r1, r2, r3, r4, r5, r6, r7) := by first | (rw [hy550]; with_reducible exact H) | (have H2_ := (Option.bind_some _ _).symm.trans H; rw [hy550]; with_reducible exact H2_) | (have H2_ := (Option.bind_some _ _).symm.trans H; with_reducible exact H2_) | with_reducible exact H | (rw [hy550]; exact H) | exact H
        have Ny550 := Az.mk hy550
        clear hy550
        obtain ⟨y553, hy553⟩ : ∃ y_ : List (S60), y_ = (([(⟨a1, a0_5⟩ : S60)] : List (S60))) := ⟨_, rfl⟩
        replace H : (if y550.length + y553.length < 8796093022208 then ((r06_right.f kj5 a0_0 a0_1 a0_2 (wrap64 (a0_3 + 1)) (y550 ++ y553) (wrap64 (a0_5 + 1))).bind fun bt559 => (some (bt559.1, bt559.2.1, bt559.2.2.1, bt559.2.2.2.1, bt559.2.2.2.2.1, bt559.2.2.2.2.2.1, bt559.2.2.2.2.2.2))) else (none)) = some (r1, r2, r3, r4, r5, r6, r7) := by first | (rw [hy553]; with_reducible exact H) | (have H2_ := (Option.bind_some _ _).symm.trans H; rw [hy553]; with_reducible exact H2_) | (have H2_ := (Option.bind_some _ _).symm.trans H; with_reducible exact H2_) | with_reducible exact H | (rw [hy553]; exact H) | exact H
        have Ny553 := Az.mk hy553
        clear hy553
        by_cases c34 : y550.length + y553.length < 8796093022208
        ·rw [if_pos c34] at H
         have LMc34 := Az.mk c34
         clear c34
         obtain ⟨y556, hy556⟩ : ∃ y_ : List (S60), y_ = (y550 ++ y553) := ⟨_, rfl⟩
         replace H : ((r06_right.f kj5 a0_0 a0_1 a0_2 (wrap64 (a0_3 + 1)) y556 (wrap64 (a0_5 + 1))).bind fun bt559 => (some (bt559.1, bt559.2.1, bt559.2.2.1, bt559.2.2.2.1, bt559.2.2.2.2.1, bt559.2.2.2.2.2.1, bt559.2.2.2.2.2.2))) = some (r1, r2, r3, r4, r5, r6, r7) := by first | (rw [hy556]; with_reducible exact H) | (have H2_ := (Option.bind_some _ _).symm.trans H; rw [hy556]; with_reducible exact H2_) | (have H2_ := (Option.bind_some _ _).symm.trans H; with_reducible exact H2_) | with_reducible exact H | (rw [hy556]; exact H) | exact H
         have Ny556 := Az.mk hy556
         clear hy556
         replace H := Option.bind_eq_some_iff.mp H
         obtain ⟨⟨t559, t560, t561, t562, t563, t566, t567⟩, A350, H⟩ := H
         replace H : (some (t559, t560, t561, t562, t563, t566, t567)) = some (r1, r2, r3, r4, r5, r6, r7) := H
         have A35 := Az.mk A350
         clear A350
         simp only [Option.some.injEq, Prod.mk.injEq] at H
         obtain ⟨rfl, rfl, rfl, rfl, rfl, rfl, rfl⟩ := H
         have hnb36 := NB540_541.out
         have hnc36 := NB541_540.out
         have hnb37 := NB540_545.out
         have hnc37 := NB545_540.out
         have hcz38 := cells6 BK540.out
         try go_wp2
         replace BK540 := Az.mk (bkD BK540.out)
         replace BK541 := Az.mk (bkD BK541.out)
         replace BK545 := Az.mk (bkD BK545.out)
         replace HB := Az.mk (pb1 HB.out)
         refine start_ (n := 12) (S := fun w' => w'.cell? ⟨gb540, 0, none⟩ = some (.int .i64 a0_0) ∧ w'.cell? ⟨gb540, 1, none⟩ = some (.string a0_1) ∧ w'.cell? ⟨gb540, 2, none⟩ = some (.string a0_2) ∧ w'.cell? ⟨gb540, 3, none⟩ = some (.int .i64 a0_3) ∧ w'.cell? ⟨gb540, 4, none⟩ = some (.slice A0_4 l0_4.length c0_4) ∧ w'.cell? ⟨gb540, 5, none⟩ = some (.int .i64 a0_5)) (ds := [11]) #[false, false, false, false, false, false, false, false, false, false, false, false] (by kernel_rfl) rfl rfl ⟨(bkC BK540.out 0).trans rfl, (bkC BK540.out 1).trans rfl, (bkC BK540.out 2).trans rfl, (bkC BK540.out 3).trans rfl, (bkC BK540.out 4).trans rfl, (bkC BK540.out 5).trans rfl⟩ (fun hHeld => ?_); refine with_tabW r06_Add.tab10 r06_Add.bits10 (fun HT_ HW_ => ?_)
         generalize wc.drew = w39 at BK540 BK541 BK545 HB hHeld ⊢
         refine pure_ (i := 1) (N := some 37) (v := ?_) (a' := ?_) #[false, true, false, false, false, false, false, false, false, false, false, false] rfl rfl (any_of HT_.out (by kernel_rfl)) (fun _ _ _ h => h) (Or.inl ⟨by rfl, ?_⟩) ?_ ?_
         rotate_left
         ·intro w'
          go_simp
          with_reducible rfl
         rotate_left
         ·simp only [Act.put, List.setIfInBounds_toArray, List.set_cons_zero, List.set_cons_succ, i64_w, i32_w]
          rfl
         refine pure_ (i := 4) (N := some 40) (v := ?_) (a' := ?_) #[false, true, false, false, true, false, false, false, false, false, false, false] rfl rfl (any_of HT_.out (by kernel_rfl)) (fun _ _ _ h => h) (Or.inl ⟨by rfl, ?_⟩) ?_ ?_
         rotate_left
         ·intro w'
          go_simp
          with_reducible rfl
         rotate_left
         ·simp only [Act.put, List.setIfInBounds_toArray, List.set_cons_zero, List.set_cons_succ, i64_w, i32_w]
          rfl
         refine pure_ (i := 5) (N := some 41) (v := ?_) (a' := ?_) #[false, true, false, false, true, true, false, false, false, false, false, false] rfl rfl (any_of HT_.out (by kernel_rfl)) (fun _ _ _ h => h) (Or.inl ⟨by rfl, ?_⟩) ?_ ?_
         rotate_left
         ·intro w'
          go_simp
          with_reducible rfl
         rotate_left
         ·simp only [Act.put, List.setIfInBounds_toArray, List.set_cons_zero, List.set_cons_succ, i64_w, i32_w]
          rfl
         refine take_ (i := 2) (N := some 38) (v := ?_) (a' := ?_) #[false, true, true, false, true, true, false, false, false, false, false, false] rfl rfl (take_ofW HT_.out HW_.out (by kernel_rfl)) (fun _ _ _ h => h) (Or.inl ⟨by rfl, ?_⟩) hHeld ?_ ?_
         rotate_left
         ·rintro w' ⟨s0, s1, s2, s3, s4, s5⟩
          go_simp
          with_reducible rfl
         rotate_left
         ·simp only [Act.put, List.setIfInBounds_toArray, List.set_cons_zero, List.set_cons_succ, i64_w, i32_w]
          rfl
         refine take_ (i := 6) (N := some 42) (v := ?_) (a' := ?_) #[false, true, true, false, true, true, true, false, false, false, false, false] rfl rfl (take_ofW HT_.out HW_.out (by kernel_rfl)) (fun _ _ _ h => h) (Or.inl ⟨by rfl, ?_⟩) hHeld ?_ ?_
         rotate_left
         ·rintro w' ⟨s0, s1, s2, s3, s4, s5⟩
          go_simp
          with_reducible rfl
         rotate_left
         ·simp only [Act.put, List.setIfInBounds_toArray, List.set_cons_zero, List.set_cons_succ, i64_w, i32_w]
          rfl
         refine pure_ (i := 7) (N := some 43) (v := ?_) (a' := ?_) #[false, true, true, false, true, true, true, true, false, false, false, false] rfl rfl (any_of HT_.out (by kernel_rfl)) (fun _ _ _ h => h) (Or.inl ⟨by rfl, ?_⟩) ?_ ?_
         rotate_left
         ·intro w'
          go_simp
          with_reducible rfl
         rotate_left
         ·simp only [Act.put, List.setIfInBounds_toArray, List.set_cons_zero, List.set_cons_succ, i64_w, i32_w]
          rfl
         refine join_ (σ := Value × Value × Value) 3 #[true, true, true, true, true, true, true, true, true, false, false, false] (fun s_ => [(36, s_.1), (39, s_.2.1), (44, s_.2.2)]) (fun s_ w' => (w'.cell? ⟨gb540, 0, none⟩ = some (.int .i64 a0_0) ∧ w'.cell? ⟨gb540, 1, none⟩ = some (.string a0_1) ∧ w'.cell? ⟨gb540, 2, none⟩ = some (.string a0_2) ∧ w'.cell? ⟨gb540, 3, none⟩ = some (.int .i64 a0_3) ∧ w'.cell? ⟨gb540, 4, none⟩ = some (.slice A0_4 l0_4.length c0_4) ∧ w'.cell? ⟨gb540, 5, none⟩ = some (.int .i64 a0_5)) ∧ (Kd.R k60 60 w' w.heap.size (fun k_ => (w.heap.size ≤ k_) ∧ some k_ ≠ (s_.2.2 : Value).ownBlock ∧ k_ ≠ gb545) s_.2.1 y550) ∧ (Kd.R k60 60 w' w.heap.size (fun k_ => (w.heap.size ≤ k_) ∧ some k_ ≠ (s_.2.1 : Value).ownBlock ∧ k_ ≠ gb545) s_.2.2 y553) ∧ (w'.heap[gb540]? = some (.cells #[.int .i64 a0_0, .string a0_1, .string a0_2, .int .i64 a0_3, .slice A0_4 l0_4.length c0_4, .int .i64 a0_5] 26 (0, 0))) ∧ (w'.heap[gb541]? = some (.cells #[.int .i64 0, .string (⟨#[]⟩ : ByteArray), .string (⟨#[]⟩ : ByteArray), .int .i64 0, .slice none 0 0, .int .i64 0] 26 (0, 0))) ∧ (w'.heap[gb545]? = some (.cells #[.int .i64 t542, .int .i64 t543] 60 (0, 0))) ∧ (Below w.heap.size w w')) ?_ ?_
         rotate_left
         ·intro hCont
          refine two_ (i := 0) (j := 8) (Ni := some 36) (Nj := some 44) #[true, true, true, false, true, true, true, true, false, false, false, false] #[false, true, true, false, true, true, true, true, true, false, false, false] rfl rfl rfl rfl (two_of HT_.out (by kernel_rfl)) (by decide) (by decide) (fun K hK => ?_) (fun K hK => ?_)
          ·skip
           refine Kd.R_lit_step k60 _ 60 ?hg (N := 36) ?hd (xs := ([] : List (S60))) (inner := []) (ok := fun _ => True) (okp := fun _ => True) ?hr ?hp (fun _ hk => hk) trivial (Below.refl _ _) (Nat.le_refl _) (by simp) ?_; (case hd => rfl); (case hg => rfl); (case hr => first | (go_simp; done) | (go_simp; rfl)); (case hp => exact (Reps.none _ _))
           intro v548 w40 ho41 hb hg_ hnew_
           clear hg_ hnew_
           (first | rw [← Ny547.out] at ho41 | (simp only [Int.reduceToNat] at ho41; rw [← Ny547.out] at ho41))
           have HO549 := Az.mk (Kd.R_lower (Kd.R_newB (Kd.R_newM (M := fun k_ => (w.heap.size ≤ k_)) ho41 (pbZ (by exact pbE HB.out)) (fun k_ h_ => h_)) (bk BK545.out)) (pbZ (by exact pbE HB.out)))
           replace BK540 := Az.mk (bkB (bk BK540.out) hb)
           replace BK541 := Az.mk (bkB (bk BK541.out) hb)
           replace BK545 := Az.mk (bkB (bk BK545.out) hb)
           replace HB := Az.mk (pbT (by exact pbE HB.out) hb)
           clear hb ho41
           refine hK.out _ _ ⟨(bkC BK540.out 0).trans rfl, (bkC BK540.out 1).trans rfl, (bkC BK540.out 2).trans rfl, (bkC BK540.out 3).trans rfl, (bkC BK540.out 4).trans rfl, (bkC BK540.out 5).trans rfl⟩ (fun hHeld => ?_)
           clear hK K
           refine norm_ (a' := ?_) ?_ ?_
           rotate_left
           ·show Act.put _ (some 36) _ = _
            simp only [Act.put, List.setIfInBounds_toArray, List.set_cons_zero, List.set_cons_succ, i64_w, i32_w]
            rfl
           refine two_ (i := 3) (j := 8) (Ni := some 39) (Nj := some 44) #[true, true, true, true, true, true, true, true, false, false, false, false] #[true, true, true, false, true, true, true, true, true, false, false, false] rfl rfl rfl rfl (two_of HT_.out (by kernel_rfl)) (by decide) (by decide) (fun K hK => ?_) (fun K hK => ?_)
           ·skip
            refine Kd.R_append_rows_step k60 (w0 := w) w.heap.size (by rfl) (.tmp 36) (.tmp 38) 24 60 (.agg #[(.int .i64 0), (.int .i64 0)]) 16 rfl Tryd.underlying24 info60 rfl (by decide) (by omega) v548 y547 l0_4 _ _ _ (fun k_ => (w.heap.size ≤ k_) ∧ k_ ≠ gb545) (fun _ => False) rfl rfl ?aO ?aR (fun _ _ h => h) (fun _ h => h.elim) ?aF ?aB ?aS ?aL ?_
            (case aR => repeat (first | exact (Kd.C_below HR0_4.out HB.out) | (with_reducible refine Kd.C_alloc ?_ _) | (with_reducible refine Kd.C_drewN ?_ _) | (with_reducible refine Kd.C_drew ?_)))
            (case aB => exact (by exact pbE HB.out))
            (case aF => exact (fun k_ hk => ⟨(Nat.le_trans (pbZ (by exact pbE HB.out)) hk), Kd.freshB (bk BK545.out) k_ hk⟩))
            (case aO => exact (by (with_reducible repeat (first | apply Kd.R_alloc | apply Kd.R_drewN | apply Kd.R_drew)); exact Kd.R_mono HO549.out (fun _ hk => ⟨hk.1.1, hk.2⟩)))
            (case aS => exact (pbZ (by exact pbE HB.out)))
            (case aL => have := LMc33.out; omega)
            intro v551 w42 ho hb hg hat
            rw [← Ny550.out] at ho
            replace BK540 := Az.mk (blk_grown (bk BK540.out) hg (Kd.R_ne HO549.out BK540.out (by decide)))
            replace BK541 := Az.mk (blk_grown (bk BK541.out) hg (Kd.R_ne HO549.out BK541.out (by decide)))
            replace BK545 := Az.mk (blk_grown (bk BK545.out) hg (Kd.R_away HO549.out (fun _ hk => hk.2)))
            replace HB := Az.mk (hb)
            have HO552 := Az.mk (ho)
            clear HO549
            clear ho hb hg hat
            refine hK.out _ _ ⟨(bkC BK540.out 0).trans rfl, (bkC BK540.out 1).trans rfl, (bkC BK540.out 2).trans rfl, (bkC BK540.out 3).trans rfl, (bkC BK540.out 4).trans rfl, (bkC BK540.out 5).trans rfl⟩ (fun hHeld => ?_)
            clear hK K
            refine norm_ (a' := ?_) ?_ ?_
            rotate_left
            ·show Act.put _ (some 39) _ = _
             simp only [Act.put, List.setIfInBounds_toArray, List.set_cons_zero, List.set_cons_succ, i64_w, i32_w]
             rfl
            refine one_ (i := 8) (N := some 44) #[true, true, true, true, true, true, true, true, true, false, false, false] rfl rfl (one_of HT_.out (by kernel_rfl)) (by decide) (fun K hK => ?_)
            refine Kd.R_lit_step k60 _ 60 ?hg (N := 44) ?hd (xs := ([(⟨a1, a0_5⟩ : S60)] : List (S60))) (inner := [.int .i64 a1, .int .i64 a0_5]) (ok := fun _ => True) (okp := fun _ => True) ?hr ?hp (fun _ hk => hk) trivial (Below.refl _ _) (Nat.le_refl _) (by simp) ?_; (case hd => rfl); (case hg => rfl); (case hr => first | (go_simp; done) | (go_simp; rfl)); (case hp => exact (Reps.c2 (show Kd.M k60 _ _ _ (⟨a1, a0_5⟩ : S60) [.int .i64 a1, .int .i64 a0_5] from (k60_mkM _ _ _ (⟨a1, a0_5⟩ : S60) )) (Reps.none _ _)))
            intro v554 w43 ho44 hb hg_ hnew_
            clear hg_ hnew_
            (first | rw [← Ny553.out] at ho44 | (simp only [Int.reduceToNat] at ho44; rw [← Ny553.out] at ho44))
            have HO555 := Az.mk (Kd.R_lower (Kd.R_newB (Kd.R_new' (Kd.R_newM (M := fun k_ => (w.heap.size ≤ k_)) ho44 (pbZ (by exact pbE HB.out)) (fun k_ h_ => h_)) (Kd.R_lt (Kd.R_ext HO552.out))) (bk BK545.out)) (pbZ (by exact pbE HB.out)))
            replace HO552 := Az.mk (Kd.R_elder' (Kd.R_ext HO552.out) (Kd.R_base ho44) hb)
            replace BK540 := Az.mk (bkB (bk BK540.out) hb)
            replace BK541 := Az.mk (bkB (bk BK541.out) hb)
            replace BK545 := Az.mk (bkB (bk BK545.out) hb)
            replace HB := Az.mk (pbT (by exact pbE HB.out) hb)
            clear hb ho44
            refine hK.out _ _ ⟨(bkC BK540.out 0).trans rfl, (bkC BK540.out 1).trans rfl, (bkC BK540.out 2).trans rfl, (bkC BK540.out 3).trans rfl, (bkC BK540.out 4).trans rfl, (bkC BK540.out 5).trans rfl⟩ (fun hHeld => ?_)
            clear hK K
            refine norm_ (a' := ?_) ?_ ?_
            rotate_left
            ·show Act.put _ (some 44) _ = _
             simp only [Act.put, List.setIfInBounds_toArray, List.set_cons_zero, List.set_cons_succ, i64_w, i32_w]
             rfl
            exact norm_ (by simp only [putAll, Act.put, List.setIfInBounds_toArray, List.set_cons_zero, List.set_cons_succ]) (hCont (v548, v551, v554) _ ⟨hHeld, (by (with_reducible repeat (first | apply Kd.R_alloc | apply Kd.R_drewN | apply Kd.R_drew)); exact Kd.R_mono HO552.out (fun _ hk => ⟨hk.1.1, ⟨hk.2, hk.1.2⟩⟩)), (by (with_reducible repeat (first | apply Kd.R_alloc | apply Kd.R_drewN | apply Kd.R_drew)); exact Kd.R_mono HO555.out (fun _ hk => ⟨hk.1.1.1, ⟨hk.1.2, hk.2⟩⟩)), (bk BK540.out), (bk BK541.out), (bk BK545.out), (by exact pbE HB.out)⟩)
           ·skip
            refine Kd.R_lit_step k60 _ 60 ?hg (N := 44) ?hd (xs := ([(⟨a1, a0_5⟩ : S60)] : List (S60))) (inner := [.int .i64 a1, .int .i64 a0_5]) (ok := fun _ => True) (okp := fun _ => True) ?hr ?hp (fun _ hk => hk) trivial (Below.refl _ _) (Nat.le_refl _) (by simp) ?_; (case hd => rfl); (case hg => rfl); (case hr => first | (go_simp; done) | (go_simp; rfl)); (case hp => exact (Reps.c2 (show Kd.M k60 _ _ _ (⟨a1, a0_5⟩ : S60) [.int .i64 a1, .int .i64 a0_5] from (k60_mkM _ _ _ (⟨a1, a0_5⟩ : S60) )) (Reps.none _ _)))
            intro v554 w42 ho43 hb hg_ hnew_
            clear hg_ hnew_
            (first | rw [← Ny553.out] at ho43 | (simp only [Int.reduceToNat] at ho43; rw [← Ny553.out] at ho43))
            have HO555 := Az.mk (Kd.R_lower (Kd.R_newB (Kd.R_new' (Kd.R_newM (M := fun k_ => (w.heap.size ≤ k_)) ho43 (pbZ (by exact pbE HB.out)) (fun k_ h_ => h_)) (Kd.R_lt (Kd.R_ext HO549.out))) (bk BK545.out)) (pbZ (by exact pbE HB.out)))
            replace HO549 := Az.mk (Kd.R_elder' (Kd.R_ext HO549.out) (Kd.R_base ho43) hb)
            replace BK540 := Az.mk (bkB (bk BK540.out) hb)
            replace BK541 := Az.mk (bkB (bk BK541.out) hb)
            replace BK545 := Az.mk (bkB (bk BK545.out) hb)
            replace HB := Az.mk (pbT (by exact pbE HB.out) hb)
            clear hb ho43
            refine hK.out _ _ ⟨(bkC BK540.out 0).trans rfl, (bkC BK540.out 1).trans rfl, (bkC BK540.out 2).trans rfl, (bkC BK540.out 3).trans rfl, (bkC BK540.out 4).trans rfl, (bkC BK540.out 5).trans rfl⟩ (fun hHeld => ?_)
            clear hK K
            refine norm_ (a' := ?_) ?_ ?_
            rotate_left
            ·show Act.put _ (some 44) _ = _
             simp only [Act.put, List.setIfInBounds_toArray, List.set_cons_zero, List.set_cons_succ, i64_w, i32_w]
             rfl
            refine one_ (i := 3) (N := some 39) #[true, true, true, true, true, true, true, true, true, false, false, false] rfl rfl (one_of HT_.out (by kernel_rfl)) (by decide) (fun K hK => ?_)
            refine Kd.R_append_rows_step k60 (w0 := w) w.heap.size (by rfl) (.tmp 36) (.tmp 38) 24 60 (.agg #[(.int .i64 0), (.int .i64 0)]) 16 rfl Tryd.underlying24 info60 rfl (by decide) (by omega) v548 y547 l0_4 _ _ _ (fun k_ => (w.heap.size ≤ k_) ∧ some k_ ≠ (v554 : Value).ownBlock ∧ k_ ≠ gb545) (fun _ => False) rfl rfl ?aO ?aR (fun _ _ h => h) (fun _ h => h.elim) ?aF ?aB ?aS ?aL ?_
            (case aR => repeat (first | exact (Kd.C_below HR0_4.out HB.out) | (with_reducible refine Kd.C_alloc ?_ _) | (with_reducible refine Kd.C_drewN ?_ _) | (with_reducible refine Kd.C_drew ?_)))
            (case aB => exact (by exact pbE HB.out))
            (case aF => exact (fun k_ hk => ⟨(Nat.le_trans (pbZ (by exact pbE HB.out)) hk), Kd.fresh' (Kd.R_lt (Kd.R_ext HO555.out)) k_ hk, Kd.freshB (bk BK545.out) k_ hk⟩))
            (case aO => exact (by (with_reducible repeat (first | apply Kd.R_alloc | apply Kd.R_drewN | apply Kd.R_drew)); exact Kd.R_mono HO549.out (fun _ hk => ⟨hk.1.1.1, ⟨hk.2, hk.1.2⟩⟩)))
            (case aS => exact (pbZ (by exact pbE HB.out)))
            (case aL => have := LMc33.out; omega)
            intro v551 w44 ho hb hg hat
            rw [← Ny550.out] at ho
            replace BK540 := Az.mk (blk_grown (bk BK540.out) hg (Kd.R_ne HO549.out BK540.out (by decide)))
            replace BK541 := Az.mk (blk_grown (bk BK541.out) hg (Kd.R_ne HO549.out BK541.out (by decide)))
            replace BK545 := Az.mk (blk_grown (bk BK545.out) hg (Kd.R_away HO549.out (fun _ hk => hk.1.2)))
            replace HO555 := Az.mk (Kd.R_after (ok := (fun k_ => (w.heap.size ≤ k_) ∧ k_ ≠ gb545)) (by (with_reducible repeat (first | apply Kd.R_alloc | apply Kd.R_drewN | apply Kd.R_drew)); exact Kd.R_mono HO555.out (fun _ hk => ⟨⟨hk.1.1.1, hk.2⟩, hk.1.2⟩)) hg hat)
            replace HB := Az.mk (hb)
            have HO552 := Az.mk (ho)
            clear HO549
            clear ho hb hg hat
            refine hK.out _ _ ⟨(bkC BK540.out 0).trans rfl, (bkC BK540.out 1).trans rfl, (bkC BK540.out 2).trans rfl, (bkC BK540.out 3).trans rfl, (bkC BK540.out 4).trans rfl, (bkC BK540.out 5).trans rfl⟩ (fun hHeld => ?_)
            clear hK K
            refine norm_ (a' := ?_) ?_ ?_
            rotate_left
            ·show Act.put _ (some 39) _ = _
             simp only [Act.put, List.setIfInBounds_toArray, List.set_cons_zero, List.set_cons_succ, i64_w, i32_w]
             rfl
            exact norm_ (by simp only [putAll, Act.put, List.setIfInBounds_toArray, List.set_cons_zero, List.set_cons_succ]) (hCont (v548, v551, v554) _ ⟨hHeld, (Kd.R_ext HO552.out), (by (with_reducible repeat (first | apply Kd.R_alloc | apply Kd.R_drewN | apply Kd.R_drew)); exact Kd.R_mono HO555.out (fun _ hk => ⟨hk.1.1, ⟨hk.2, hk.1.2⟩⟩)), (bk BK540.out), (bk BK541.out), (bk BK545.out), (by exact pbE HB.out)⟩)
          ·skip
           refine Kd.R_lit_step k60 _ 60 ?hg (N := 44) ?hd (xs := ([(⟨a1, a0_5⟩ : S60)] : List (S60))) (inner := [.int .i64 a1, .int .i64 a0_5]) (ok := fun _ => True) (okp := fun _ => True) ?hr ?hp (fun _ hk => hk) trivial (Below.refl _ _) (Nat.le_refl _) (by simp) ?_; (case hd => rfl); (case hg => rfl); (case hr => first | (go_simp; done) | (go_simp; rfl)); (case hp => exact (Reps.c2 (show Kd.M k60 _ _ _ (⟨a1, a0_5⟩ : S60) [.int .i64 a1, .int .i64 a0_5] from (k60_mkM _ _ _ (⟨a1, a0_5⟩ : S60) )) (Reps.none _ _)))
           intro v554 w40 ho41 hb hg_ hnew_
           clear hg_ hnew_
           (first | rw [← Ny553.out] at ho41 | (simp only [Int.reduceToNat] at ho41; rw [← Ny553.out] at ho41))
           have HO555 := Az.mk (Kd.R_lower (Kd.R_newB (Kd.R_newM (M := fun k_ => (w.heap.size ≤ k_)) ho41 (pbZ (by exact pbE HB.out)) (fun k_ h_ => h_)) (bk BK545.out)) (pbZ (by exact pbE HB.out)))
           replace BK540 := Az.mk (bkB (bk BK540.out) hb)
           replace BK541 := Az.mk (bkB (bk BK541.out) hb)
           replace BK545 := Az.mk (bkB (bk BK545.out) hb)
           replace HB := Az.mk (pbT (by exact pbE HB.out) hb)
           clear hb ho41
           refine hK.out _ _ ⟨(bkC BK540.out 0).trans rfl, (bkC BK540.out 1).trans rfl, (bkC BK540.out 2).trans rfl, (bkC BK540.out 3).trans rfl, (bkC BK540.out 4).trans rfl, (bkC BK540.out 5).trans rfl⟩ (fun hHeld => ?_)
           clear hK K
           refine norm_ (a' := ?_) ?_ ?_
           rotate_left
           ·show Act.put _ (some 44) _ = _
            simp only [Act.put, List.setIfInBounds_toArray, List.set_cons_zero, List.set_cons_succ, i64_w, i32_w]
            rfl
           refine one_ (i := 0) (N := some 36) #[true, true, true, false, true, true, true, true, true, false, false, false] rfl rfl (one_of HT_.out (by kernel_rfl)) (by decide) (fun K hK => ?_)
           refine Kd.R_lit_step k60 _ 60 ?hg (N := 36) ?hd (xs := ([] : List (S60))) (inner := []) (ok := fun _ => True) (okp := fun _ => True) ?hr ?hp (fun _ hk => hk) trivial (Below.refl _ _) (Nat.le_refl _) (by simp) ?_; (case hd => rfl); (case hg => rfl); (case hr => first | (go_simp; done) | (go_simp; rfl)); (case hp => exact (Reps.none _ _))
           intro v548 w42 ho43 hb hg_ hnew_
           clear hg_ hnew_
           (first | rw [← Ny547.out] at ho43 | (simp only [Int.reduceToNat] at ho43; rw [← Ny547.out] at ho43))
           have HO549 := Az.mk (Kd.R_lower (Kd.R_newB (Kd.R_new' (Kd.R_newM (M := fun k_ => (w.heap.size ≤ k_)) ho43 (pbZ (by exact pbE HB.out)) (fun k_ h_ => h_)) (Kd.R_lt (Kd.R_ext HO555.out))) (bk BK545.out)) (pbZ (by exact pbE HB.out)))
           replace HO555 := Az.mk (Kd.R_elder' (Kd.R_ext HO555.out) (Kd.R_base ho43) hb)
           replace BK540 := Az.mk (bkB (bk BK540.out) hb)
           replace BK541 := Az.mk (bkB (bk BK541.out) hb)
           replace BK545 := Az.mk (bkB (bk BK545.out) hb)
           replace HB := Az.mk (pbT (by exact pbE HB.out) hb)
           clear hb ho43
           refine hK.out _ _ ⟨(bkC BK540.out 0).trans rfl, (bkC BK540.out 1).trans rfl, (bkC BK540.out 2).trans rfl, (bkC BK540.out 3).trans rfl, (bkC BK540.out 4).trans rfl, (bkC BK540.out 5).trans rfl⟩ (fun hHeld => ?_)
           clear hK K
           refine norm_ (a' := ?_) ?_ ?_
           rotate_left
           ·show Act.put _ (some 36) _ = _
            simp only [Act.put, List.setIfInBounds_toArray, List.set_cons_zero, List.set_cons_succ, i64_w, i32_w]
            rfl
           refine one_ (i := 3) (N := some 39) #[true, true, true, true, true, true, true, true, true, false, false, false] rfl rfl (one_of HT_.out (by kernel_rfl)) (by decide) (fun K hK => ?_)
           refine Kd.R_append_rows_step k60 (w0 := w) w.heap.size (by rfl) (.tmp 36) (.tmp 38) 24 60 (.agg #[(.int .i64 0), (.int .i64 0)]) 16 rfl Tryd.underlying24 info60 rfl (by decide) (by omega) v548 y547 l0_4 _ _ _ (fun k_ => (w.heap.size ≤ k_) ∧ some k_ ≠ (v554 : Value).ownBlock ∧ k_ ≠ gb545) (fun _ => False) rfl rfl ?aO ?aR (fun _ _ h => h) (fun _ h => h.elim) ?aF ?aB ?aS ?aL ?_
           (case aR => repeat (first | exact (Kd.C_below HR0_4.out HB.out) | (with_reducible refine Kd.C_alloc ?_ _) | (with_reducible refine Kd.C_drewN ?_ _) | (with_reducible refine Kd.C_drew ?_)))
           (case aB => exact (by exact pbE HB.out))
           (case aF => exact (fun k_ hk => ⟨(Nat.le_trans (pbZ (by exact pbE HB.out)) hk), Kd.fresh' (Kd.R_lt (Kd.R_ext HO555.out)) k_ hk, Kd.freshB (bk BK545.out) k_ hk⟩))
           (case aO => exact (by (with_reducible repeat (first | apply Kd.R_alloc | apply Kd.R_drewN | apply Kd.R_drew)); exact Kd.R_mono HO549.out (fun _ hk => ⟨hk.1.1.1, ⟨hk.1.2, hk.2⟩⟩)))
           (case aS => exact (pbZ (by exact pbE HB.out)))
           (case aL => have := LMc33.out; omega)
           intro v551 w44 ho hb hg hat
           rw [← Ny550.out] at ho
           replace BK540 := Az.mk (blk_grown (bk BK540.out) hg (Kd.R_ne HO549.out BK540.out (by decide)))
           replace BK541 := Az.mk (blk_grown (bk BK541.out) hg (Kd.R_ne HO549.out BK541.out (by decide)))
           replace BK545 := Az.mk (blk_grown (bk BK545.out) hg (Kd.R_away HO549.out (fun _ hk => hk.2)))
           replace HO555 := Az.mk (Kd.R_after (ok := (fun k_ => (w.heap.size ≤ k_) ∧ k_ ≠ gb545)) (by (with_reducible repeat (first | apply Kd.R_alloc | apply Kd.R_drewN | apply Kd.R_drew)); exact Kd.R_mono HO555.out (fun _ hk => ⟨⟨hk.1.1.1, hk.1.2⟩, hk.2⟩)) hg hat)
           replace HB := Az.mk (hb)
           have HO552 := Az.mk (ho)
           clear HO549
           clear ho hb hg hat
           refine hK.out _ _ ⟨(bkC BK540.out 0).trans rfl, (bkC BK540.out 1).trans rfl, (bkC BK540.out 2).trans rfl, (bkC BK540.out 3).trans rfl, (bkC BK540.out 4).trans rfl, (bkC BK540.out 5).trans rfl⟩ (fun hHeld => ?_)
           clear hK K
           refine norm_ (a' := ?_) ?_ ?_
           rotate_left
           ·show Act.put _ (some 39) _ = _
            simp only [Act.put, List.setIfInBounds_toArray, List.set_cons_zero, List.set_cons_succ, i64_w, i32_w]
            rfl
           exact norm_ (by simp only [putAll, Act.put, List.setIfInBounds_toArray, List.set_cons_zero, List.set_cons_succ]) (hCont (v548, v551, v554) _ ⟨hHeld, (Kd.R_ext HO552.out), (by (with_reducible repeat (first | apply Kd.R_alloc | apply Kd.R_drewN | apply Kd.R_drew)); exact Kd.R_mono HO555.out (fun _ hk => ⟨hk.1.1, ⟨hk.2, hk.1.2⟩⟩)), (bk BK540.out), (bk BK541.out), (bk BK545.out), (by exact pbE HB.out)⟩)
         rintro ⟨v548, v551, v554⟩ w45 ⟨hS_, h0_, h1_, h2_, h3_, h4_, h5_⟩
         have n0_ : Az (Kd.R k60 60 w45 w.heap.size (fun k_ => (w.heap.size ≤ k_) ∧ some k_ ≠ (v554 : Value).ownBlock ∧ k_ ≠ gb545) v551 y550) := ⟨h0_⟩
         have n1_ : Az (Kd.R k60 60 w45 w.heap.size (fun k_ => (w.heap.size ≤ k_) ∧ some k_ ≠ (v551 : Value).ownBlock ∧ k_ ≠ gb545) v554 y553) := ⟨h1_⟩
         have n2_ : Az (w45.heap[gb540]? = some (.cells #[.int .i64 a0_0, .string a0_1, .string a0_2, .int .i64 a0_3, .slice A0_4 l0_4.length c0_4, .int .i64 a0_5] 26 (0, 0))) := ⟨h2_⟩
         have n3_ : Az (w45.heap[gb541]? = some (.cells #[.int .i64 0, .string (⟨#[]⟩ : ByteArray), .string (⟨#[]⟩ : ByteArray), .int .i64 0, .slice none 0 0, .int .i64 0] 26 (0, 0))) := ⟨h3_⟩
         have n4_ : Az (w45.heap[gb545]? = some (.cells #[.int .i64 t542, .int .i64 t543] 60 (0, 0))) := ⟨h4_⟩
         have n5_ : Az (Below w.heap.size w w45) := ⟨h5_⟩
         clear BK540
         clear BK541
         clear BK545
         clear HB
         clear h0_ h1_ h2_ h3_ h4_ h5_
         have HO552 := n0_
         have HO555 := n1_
         have BK540 := n2_
         have BK541 := n3_
         have BK545 := n4_
         have HB := n5_
         clear n0_ n1_ n2_ n3_ n4_ n5_
         have hHeld : w45.cell? ⟨gb540, 0, none⟩ = some (.int .i64 a0_0) ∧ w45.cell? ⟨gb540, 1, none⟩ = some (.string a0_1) ∧ w45.cell? ⟨gb540, 2, none⟩ = some (.string a0_2) ∧ w45.cell? ⟨gb540, 3, none⟩ = some (.int .i64 a0_3) ∧ w45.cell? ⟨gb540, 4, none⟩ = some (.slice A0_4 l0_4.length c0_4) ∧ w45.cell? ⟨gb540, 5, none⟩ = some (.int .i64 a0_5) := hS_
         obtain ⟨Ao47, co47, eo47⟩ := Kd.R_slice HO555.out
         (first | subst eo47 | (injection eo47 with f1_ f2_ f3_; have f4_ := f1_.symm; have f5_ := f3_.symm; clear f1_ f2_ f3_; subst f4_; subst f5_))
         refine norm_ (a' := ?_) ?_ ?_
         rotate_left
         ·simp only [putAll, Act.put, List.setIfInBounds_toArray, List.set_cons_zero, List.set_cons_succ]
          rfl
         refine one_ (i := 9) (N := some 45) #[true, true, true, true, true, true, true, true, true, true, false, false] rfl rfl (one_of HT_.out (by kernel_rfl)) (by decide) (fun K hK => ?_)
         refine Kd.R_append_rows_step k60 (w0 := w) w.heap.size (by rfl) (.tmp 39) (.tmp 44) 24 60 (.agg #[(.int .i64 0), (.int .i64 0)]) 16 rfl Tryd.underlying24 info60 rfl (by decide) (by omega) v551 y550 y553 _ _ _ (fun k_ => (w.heap.size ≤ k_) ∧ some k_ ≠ (.slice Ao47 y553.length co47 : Value).ownBlock ∧ k_ ≠ gb545) (fun _ => False) rfl rfl ?aO ?aR (fun _ _ h => h) (fun _ h => h.elim) ?aF ?aB ?aS ?aL ?_
         (case aR => exact Kd.C_ext (Kd.R_reads' HO555.out).2.2)
         (case aB => exact (by exact pbE HB.out))
         (case aF => exact (fun k_ hk => ⟨(Nat.le_trans (pbZ (by exact pbE HB.out)) hk), Kd.fresh' (Kd.R_lt (Kd.R_ext HO555.out)) k_ hk, Kd.freshB (bk BK545.out) k_ hk⟩))
         (case aO => exact (Kd.R_ext HO552.out))
         (case aS => exact (pbZ (by exact pbE HB.out)))
         (case aL => have := LMc34.out; omega)
         intro v557 w46 ho hb hg hat
         rw [← Ny556.out] at ho
         replace BK540 := Az.mk (blk_grown (bk BK540.out) hg (Kd.R_ne HO552.out BK540.out (by decide)))
         replace BK541 := Az.mk (blk_grown (bk BK541.out) hg (Kd.R_ne HO552.out BK541.out (by decide)))
         replace BK545 := Az.mk (blk_grown (bk BK545.out) hg (Kd.R_away HO552.out (fun _ hk => hk.2.2)))
         replace HO555 := Az.mk (Kd.R_after (ok := (fun k_ => (w.heap.size ≤ k_) ∧ k_ ≠ gb545)) (by (with_reducible repeat (first | apply Kd.R_alloc | apply Kd.R_drewN | apply Kd.R_drew)); exact Kd.R_mono HO555.out (fun _ hk => ⟨⟨hk.1, hk.2.2⟩, hk.2.1⟩)) hg hat)
         replace HB := Az.mk (hb)
         have HO558 := Az.mk (ho)
         clear HO552
         clear ho hb hg hat
         obtain ⟨Ao48, co48, eo48⟩ := Kd.R_slice HO558.out
         (first | subst eo48 | (injection eo48 with f1_ f2_ f3_; have f4_ := f1_.symm; have f5_ := f3_.symm; clear f1_ f2_ f3_; subst f4_; subst f5_))
         refine hK.out _ _ ⟨(bkC BK540.out 0).trans rfl, (bkC BK540.out 1).trans rfl, (bkC BK540.out 2).trans rfl, (bkC BK540.out 3).trans rfl, (bkC BK540.out 4).trans rfl, (bkC BK540.out 5).trans rfl⟩ (fun hHeld => ?_)
         clear hK K
         refine norm_ (a' := ?_) ?_ ?_
         rotate_left
         ·show Act.put _ (some 45) _ = _
          simp only [Act.put, List.setIfInBounds_toArray, List.set_cons_zero, List.set_cons_succ, i64_w, i32_w]
          rfl
         refine pure_ (i := 10) (N := some 46) (v := ?_) (a' := ?_) #[true, true, true, true, true, true, true, true, true, true, true, false] rfl rfl (any_of HT_.out (by kernel_rfl)) (fun _ _ _ h => h) (Or.inl ⟨by rfl, ?_⟩) ?_ ?_
         rotate_left
         ·intro w'
          go_simp
          with_reducible rfl
         rotate_left
         ·simp only [Act.put, List.setIfInBounds_toArray, List.set_cons_zero, List.set_cons_succ, i64_w, i32_w]
          rfl
         refine last_ (i := 11) (N := none) #[true, true, true, true, true, true, true, true, true, true, true, true] rfl rfl (one_of HT_.out (by kernel_rfl)) (by decide) (fun K hK => ?_)
         have hs49 : w46.cell? ⟨gb540, 4, none⟩ = some (.slice A0_4 l0_4.length c0_4) := (bkC BK540.out 4).trans rfl
         have hfs49 := bkF BK540.out 4
         have hns49_1 := NB541_540.out
         have hns49_2 := NB545_540.out
         have hms49_1 := NB540_541.out
         have hms49_2 := NB540_545.out
         refine skip_ (w1 := ?_) (by rfl) rfl ?_ ?_
         rotate_left
         ·go_simp
          rfl
         refine hK.out _ _ ?_
         clear hK K
         refine done_ (done_of HT_.out (by kernel_rfl)) ?_
         have n0_ : Az (Kd.R k60 60 (w46.setCell ⟨gb540, 4, none⟩ (.slice Ao48 y556.length co48)) w.heap.size (fun k_ => (w.heap.size ≤ k_) ∧ some k_ ≠ (.slice Ao48 y556.length co48 : Value).ownBlock ∧ k_ ≠ gb545) (.slice Ao47 y553.length co47) y553) := ⟨by (with_reducible repeat (first | apply Kd.R_alloc | apply Kd.R_drewN | apply Kd.R_drew)); exact Kd.R_mono (Kd.R_far (p := ⟨gb540, 4, none⟩) (Kd.R_types HO555.out BK540.out (by decide)) (fun _ hk => hk.2) (.slice Ao48 y556.length co48)) (fun _ hk => ⟨hk.1.1.1, ⟨hk.1.2, hk.1.1.2⟩⟩)⟩
         have n1_ : Az (Kd.R k60 60 (w46.setCell ⟨gb540, 4, none⟩ (.slice Ao48 y556.length co48)) w.heap.size (fun k_ => (w.heap.size ≤ k_) ∧ some k_ ≠ (.slice Ao47 y553.length co47 : Value).ownBlock ∧ k_ ≠ gb545) (.slice Ao48 y556.length co48) y556) := ⟨by (with_reducible repeat (first | apply Kd.R_alloc | apply Kd.R_drewN | apply Kd.R_drew)); exact Kd.R_mono (Kd.R_far (p := ⟨gb540, 4, none⟩) (Kd.R_types HO558.out BK540.out (by decide)) (fun _ hk => hk.2) (.slice Ao48 y556.length co48)) (fun _ hk => ⟨hk.1.1, ⟨hk.1.2.1, hk.1.2.2⟩⟩)⟩
         have n2_ : Az ((w46.setCell ⟨gb540, 4, none⟩ (.slice Ao48 y556.length co48)).heap[gb540]? = some (.cells #[.int .i64 a0_0, .string a0_1, .string a0_2, .int .i64 a0_3, .slice Ao48 y556.length co48, .int .i64 a0_5] 26 (0, 0))) := ⟨by refine bk ?_; refine blk_put (cs := #[.int .i64 a0_0, .string a0_1, .string a0_2, .int .i64 a0_3, .slice A0_4 l0_4.length c0_4, .int .i64 a0_5]) ?_ 4 _ rfl; refine bk ?_; exact BK540.out⟩
         have n3_ : Az ((w46.setCell ⟨gb540, 4, none⟩ (.slice Ao48 y556.length co48)).heap[gb541]? = some (.cells #[.int .i64 0, .string (⟨#[]⟩ : ByteArray), .string (⟨#[]⟩ : ByteArray), .int .i64 0, .slice none 0 0, .int .i64 0] 26 (0, 0))) := ⟨by exact bf BK541.out⟩
         have n4_ : Az ((w46.setCell ⟨gb540, 4, none⟩ (.slice Ao48 y556.length co48)).heap[gb545]? = some (.cells #[.int .i64 t542, .int .i64 t543] 60 (0, 0))) := ⟨by exact bf BK545.out⟩
         have n5_ : Az (Below w.heap.size w (w46.setCell ⟨gb540, 4, none⟩ (.slice Ao48 y556.length co48))) := ⟨by exact pbE HB.out⟩
         (try clear HO555)
         (try clear HO558)
         (try clear BK540)
         (try clear BK541)
         (try clear BK545)
         (try clear HB)
         generalize (w46.setCell ⟨gb540, 4, none⟩ (.slice Ao48 y556.length co48)) = w50 at n0_ n1_ n2_ n3_ n4_ n5_ ⊢
         have HO555 := n0_
         have HO558 := n1_
         have BK540 := n2_
         have BK541 := n3_
         have BK545 := n4_
         have HB := n5_
         clear n0_ n1_ n2_ n3_ n4_ n5_
         have hcz51 := cells6 BK540.out
         try go_wp2_with (first | ((with_reducible refine gate_store (t := 2) (p := 50) rfl ?_); refine store_event (t := 2) (p := 50) (v := ?vo_w52) (w1 := (w50.setCell ⟨gb540, 5, none⟩ (.int .i64 (wrap64 (a0_5 + 1))))) ?hg ?ho ?hn ?hr ?_; (case ho => rfl); (case hg => rfl); (case hn => rfl); (case hr => first | (go_simp; done) | (go_simp; rfl)); intro w52 hw; have n0_ : Az (Kd.R k60 60 w52 w.heap.size (fun k_ => (w.heap.size ≤ k_) ∧ some k_ ≠ (.slice Ao48 y556.length co48 : Value).ownBlock ∧ k_ ≠ gb545) (.slice Ao47 y553.length co47) y553) := ⟨(by rw [hw]; exact (by (with_reducible repeat (first | apply Kd.R_alloc | apply Kd.R_drewN | apply Kd.R_drew)); exact Kd.R_mono (Kd.R_far (p := ⟨gb540, 5, none⟩) (Kd.R_types HO555.out BK540.out (by decide)) (fun _ hk => hk.2) (.int .i64 (wrap64 (a0_5 + 1)))) (fun _ hk => ⟨hk.1.1, ⟨hk.1.2.1, hk.1.2.2⟩⟩)))⟩; have n1_ : Az (Kd.R k60 60 w52 w.heap.size (fun k_ => (w.heap.size ≤ k_) ∧ some k_ ≠ (.slice Ao47 y553.length co47 : Value).ownBlock ∧ k_ ≠ gb545) (.slice Ao48 y556.length co48) y556) := ⟨(by rw [hw]; exact (by (with_reducible repeat (first | apply Kd.R_alloc | apply Kd.R_drewN | apply Kd.R_drew)); exact Kd.R_mono (Kd.R_far (p := ⟨gb540, 5, none⟩) (Kd.R_types HO558.out BK540.out (by decide)) (fun _ hk => hk.2) (.int .i64 (wrap64 (a0_5 + 1)))) (fun _ hk => ⟨hk.1.1, ⟨hk.1.2.1, hk.1.2.2⟩⟩)))⟩; have n2_ : Az (w52.heap[gb540]? = some (.cells #[.int .i64 a0_0, .string a0_1, .string a0_2, .int .i64 a0_3, .slice Ao48 y556.length co48, .int .i64 (wrap64 (a0_5 + 1))] 26 (0, 0))) := ⟨(by rw [hw]; exact (by refine bk ?_; refine blk_put (cs := #[.int .i64 a0_0, .string a0_1, .string a0_2, .int .i64 a0_3, .slice Ao48 y556.length co48, .int .i64 a0_5]) ?_ 5 _ rfl; refine bk ?_; exact BK540.out))⟩; have n3_ : Az (w52.heap[gb541]? = some (.cells #[.int .i64 0, .string (⟨#[]⟩ : ByteArray), .string (⟨#[]⟩ : ByteArray), .int .i64 0, .slice none 0 0, .int .i64 0] 26 (0, 0))) := ⟨(by rw [hw]; exact (bf BK541.out))⟩; have n4_ : Az (w52.heap[gb545]? = some (.cells #[.int .i64 t542, .int .i64 t543] 60 (0, 0))) := ⟨(by rw [hw]; exact (bf BK545.out))⟩; have n5_ : Az (Below w.heap.size w w52) := ⟨(by rw [hw]; exact (by exact pbE HB.out))⟩; clear hw; clear HO555; clear HO558; clear BK540; clear BK541; clear BK545; clear HB; have HO555 := n0_; have HO558 := n1_; have BK540 := n2_; have BK541 := n3_; have BK545 := n4_; have HB := n5_; clear n0_ n1_ n2_ n3_ n4_ n5_; have hcz53 := cells6 BK540.out) | ((with_reducible refine gate_store (t := 2) (p := 54) rfl ?_); refine store_event (t := 2) (p := 54) (v := ?vo_w54) (w1 := (w52.setCell ⟨gb540, 3, none⟩ (.int .i64 (wrap64 (a0_3 + 1))))) ?hg ?ho ?hn ?hr ?_; (case ho => rfl); (case hg => rfl); (case hn => rfl); (case hr => first | (go_simp; done) | (go_simp; rfl)); intro w54 hw; have n0_ : Az (Kd.R k60 60 w54 w.heap.size (fun k_ => (w.heap.size ≤ k_) ∧ some k_ ≠ (.slice Ao48 y556.length co48 : Value).ownBlock ∧ k_ ≠ gb545) (.slice Ao47 y553.length co47) y553) := ⟨(by rw [hw]; exact (by (with_reducible repeat (first | apply Kd.R_alloc | apply Kd.R_drewN | apply Kd.R_drew)); exact Kd.R_mono (Kd.R_far (p := ⟨gb540, 3, none⟩) (Kd.R_types HO555.out BK540.out (by decide)) (fun _ hk => hk.2) (.int .i64 (wrap64 (a0_3 + 1)))) (fun _ hk => ⟨hk.1.1, ⟨hk.1.2.1, hk.1.2.2⟩⟩)))⟩; have n1_ : Az (Kd.R k60 60 w54 w.heap.size (fun k_ => (w.heap.size ≤ k_) ∧ some k_ ≠ (.slice Ao47 y553.length co47 : Value).ownBlock ∧ k_ ≠ gb545) (.slice Ao48 y556.length co48) y556) := ⟨(by rw [hw]; exact (by (with_reducible repeat (first | apply Kd.R_alloc | apply Kd.R_drewN | apply Kd.R_drew)); exact Kd.R_mono (Kd.R_far (p := ⟨gb540, 3, none⟩) (Kd.R_types HO558.out BK540.out (by decide)) (fun _ hk => hk.2) (.int .i64 (wrap64 (a0_3 + 1)))) (fun _ hk => ⟨hk.1.1, ⟨hk.1.2.1, hk.1.2.2⟩⟩)))⟩; have n2_ : Az (w54.heap[gb540]? = some (.cells #[.int .i64 a0_0, .string a0_1, .string a0_2, .int .i64 (wrap64 (a0_3 + 1)), .slice Ao48 y556.length co48, .int .i64 (wrap64 (a0_5 + 1))] 26 (0, 0))) := ⟨(by rw [hw]; exact (by refine bk ?_; refine blk_put (cs := #[.int .i64 a0_0, .string a0_1, .string a0_2, .int .i64 a0_3, .slice Ao48 y556.length co48, .int .i64 (wrap64 (a0_5 + 1))]) ?_ 3 _ rfl; refine bk ?_; exact BK540.out))⟩; have n3_ : Az (w54.heap[gb541]? = some (.cells #[.int .i64 0, .string (⟨#[]⟩ : ByteArray), .string (⟨#[]⟩ : ByteArray), .int .i64 0, .slice none 0 0, .int .i64 0] 26 (0, 0))) := ⟨(by rw [hw]; exact (bf BK541.out))⟩; have n4_ : Az (w54.heap[gb545]? = some (.cells #[.int .i64 t542, .int .i64 t543] 60 (0, 0))) := ⟨(by rw [hw]; exact (bf BK545.out))⟩; have n5_ : Az (Below w.heap.size w w54) := ⟨(by rw [hw]; exact (by exact pbE HB.out))⟩; clear hw; clear HO555; clear HO558; clear BK540; clear BK541; clear BK545; clear HB; have HO555 := n0_; have HO558 := n1_; have BK540 := n2_; have BK541 := n3_; have BK545 := n4_; have HB := n5_; clear n0_ n1_ n2_ n3_ n4_ n5_; have hcz55 := cells6 BK540.out) | ((with_reducible refine gtc (f := 39) rfl ?_); refine goesL_ (some 56) rfl rfl Tryd.func39 (by kernel_rfl) rfl #[.agg #[.int .i64 a0_0, .string a0_1, .string a0_2, .int .i64 (wrap64 (a0_3 + 1)), .slice Ao48 y556.length co48, .int .i64 (wrap64 (a0_5 + 1))]] rfl (by (try simp only [List.map_toArray, List.map_cons, List.map_nil]); first | done | rfl | (simp only [List.length_drop, List.length_take]; rfl)) ?_; (with_reducible refine (r06_right.calls kj5 a0_0 a0_1 a0_2 (wrap64 (a0_3 + 1)) (fun k_ => some k_ = (.slice Ao48 y556.length co48 : Value).ownBlock) _ _ y556 (wrap64 (a0_5 + 1)) t559 t560 t561 t562 t563 t566 t567 _ ?side1 ?side2 A35.out).mono ?_); (case side1 => exact hG.below (by exact pbE HB.out)); (case side2 => exact Kd.R_V (Kd.R_tight rfl (Kd.R_types (Kd.R_types (HO558.out) BK540.out (by decide)) BK541.out (by decide)))); rintro e w56 ⟨v564, rfl, ho0, hb⟩; refine ⟨_, rfl, ?_⟩; have HO565 := Az.mk (Kd.V_lower (Kd.V_mono (ok' := fun k_ => (w.heap.size ≤ k_) ∧ some k_ ≠ (.slice Ao47 y553.length co47 : Value).ownBlock ∧ k_ ≠ gb540 ∧ k_ ≠ gb541 ∧ k_ ≠ gb545) ho0 (fun k_ hk_ => ⟨Or.elim hk_ (fun hs_ => ((Kd.R_types (Kd.R_types (HO558.out) BK540.out (by decide)) BK541.out (by decide)).1 k_ hs_.symm).1.1.1) (fun hn_ => (Nat.le_trans (pbZ (by exact pbE HB.out)) hn_)), Or.elim hk_ (fun hs_ => ((Kd.R_types (Kd.R_types (HO558.out) BK540.out (by decide)) BK541.out (by decide)).1 k_ hs_.symm).1.1.2.1) (fun hn_ => (Kd.fresh' (Kd.R_lt (Kd.R_ext HO555.out)) k_ hn_)), Or.elim hk_ (fun hs_ => ((Kd.R_types (Kd.R_types (HO558.out) BK540.out (by decide)) BK541.out (by decide)).1 k_ hs_.symm).1.2) (fun hn_ => (Kd.freshB (bk BK540.out) k_ hn_)), Or.elim hk_ (fun hs_ => ((Kd.R_types (Kd.R_types (HO558.out) BK540.out (by decide)) BK541.out (by decide)).1 k_ hs_.symm).2) (fun hn_ => (Kd.freshB (bk BK541.out) k_ hn_)), Or.elim hk_ (fun hs_ => ((Kd.R_types (Kd.R_types (HO558.out) BK540.out (by decide)) BK541.out (by decide)).1 k_ hs_.symm).1.1.2.2) (fun hn_ => (Kd.freshB (bk BK545.out) k_ hn_))⟩)) (pbZ (by exact pbE HB.out))); replace HO555 := Az.mk (Kd.R_below (Kd.R_ext HO555.out) hb); replace HO558 := Az.mk (Kd.R_below (Kd.R_ext HO558.out) hb); replace BK540 := Az.mk (bkB (bk BK540.out) hb); replace BK541 := Az.mk (bkB (bk BK541.out) hb); replace BK545 := Az.mk (bkB (bk BK545.out) hb); replace HB := Az.mk (pbT (by exact pbE HB.out) hb); (try clear hb); (try clear hb2); (try clear hk); (try clear hi); (try clear ho0); have hnb57 := NB541_545.out; have hnc57 := NB545_541.out; have hcz58 := cells6 BK541.out; obtain ⟨Ao59, co59, eo59⟩ := Kd.V_slice HO565.out; subst eo59))
         refine bodyPost_ret (results_ct rfl _ _ gb541 26 #[.int .i64 t559, .string t560, .string t561, .int .i64 t562, .slice Ao59 t563.length co59, .int .i64 t566] (0, 0) _ rfl (by refine bk ?_; refine blk_put (cs := #[.int .i64 t559, .string t560, .string t561, .int .i64 t562, .slice Ao59 t563.length co59, .int .i64 0]) ?_ 5 _ rfl; refine bk ?_; refine blk_put (cs := #[.int .i64 t559, .string t560, .string t561, .int .i64 t562, .slice none 0 0, .int .i64 0]) ?_ 4 _ rfl; refine bk ?_; refine blk_put (cs := #[.int .i64 t559, .string t560, .string t561, .int .i64 0, .slice none 0 0, .int .i64 0]) ?_ 3 _ rfl; refine bk ?_; refine blk_put (cs := #[.int .i64 t559, .string t560, .string (⟨#[]⟩ : ByteArray), .int .i64 0, .slice none 0 0, .int .i64 0]) ?_ 2 _ rfl; refine bk ?_; refine blk_put (cs := #[.int .i64 t559, .string (⟨#[]⟩ : ByteArray), .string (⟨#[]⟩ : ByteArray), .int .i64 0, .slice none 0 0, .int .i64 0]) ?_ 1 _ rfl; refine bk ?_; refine blk_put (cs := #[.int .i64 0, .string (⟨#[]⟩ : ByteArray), .string (⟨#[]⟩ : ByteArray), .int .i64 0, .slice none 0 0, .int .i64 0]) ?_ 0 _ rfl; refine bk ?_; exact BK541.out) Tryd.underlying26 rfl (by kernel_rfl)) rfl ?_
         exact ⟨_, by first | rfl | (simp [errW_none, errW_some] <;> rfl) | (simp [*, errW_none, errW_some] <;> rfl), by (with_reducible repeat (first | apply Kd.V_alloc | apply Kd.V_drewN | apply Kd.V_drew)); exact Kd.V_mono (Kd.V_off (g := gb541) (fun _ hk => hk.2) (Kd.V_mono HO565.out (fun k_ hk => (⟨hk, hk.2.2.2.1⟩ : _ ∧ k_ ≠ gb541)))) (fun _ hk => hk.1.1), by exact pbE HB.out⟩
        ·rw [if_neg c34] at H
         exact absurd H (by simp)
       ·rw [if_neg c33] at H
        exact absurd H (by simp)
 ·replace c5 := Bool.eq_false_iff.mpr c5
  subst c5
  have H1 : (some (0, (⟨#[]⟩ : ByteArray), (⟨#[]⟩ : ByteArray), 0, ([] : List (S60)), 0, 60)) = some (r1, r2, r3, r4, r5, r6, r7) := by rw [if_neg (show ¬ (false = true) by decide)] at H; exact H
  clear H
  have H := H1
  clear H1
  simp only [Option.some.injEq, Prod.mk.injEq] at H
  obtain ⟨rfl, rfl, rfl, rfl, rfl, rfl, rfl⟩ := H
  go_enter Tryd.func26, Tryd.ntmps26
  go_wp2_with (first | ((with_reducible refine gate_dst (N := 2) rfl ?_); refine box_event ?hg (N := 2) ?hd (cs := #[.int .i64 a0_0, .string a0_1, .string a0_2, .int .i64 a0_3, .slice A0_4 l0_4.length c0_4, .int .i64 a0_5]) (t := 26) ?hr ?_; (case hd => rfl); (case hg => rfl); (case hr => first | (go_simp; done) | (go_simp; rfl)); intro gb540 hg w60 hbox hb; have BK540 := Az.mk (hbox); have GW540 := Az.mk (geO hg (pbE HB.out)); have GE540 := Az.mk (geO hg (pbE HB.out)); replace HB := Az.mk (pbT (by exact pbE HB.out) hb); clear hb hbox hg) | ((with_reducible refine gate_dst (N := 4) rfl ?_); refine box_event ?hg (N := 4) ?hd (cs := #[.int .i64 0, .string (⟨#[]⟩ : ByteArray), .string (⟨#[]⟩ : ByteArray), .int .i64 0, .slice none 0 0, .int .i64 0]) (t := 26) ?hr ?_; (case hd => rfl); (case hg => rfl); (case hr => first | (go_simp; done) | (go_simp; rfl)); intro gb541 hg w61 hbox hb; have BK541 := Az.mk (hbox); have GW541 := Az.mk (geO hg (pbE HB.out)); have GE541 := Az.mk (geO hg (pbE HB.out)); replace HB := Az.mk (pbT (by exact pbE HB.out) hb); have NB540_541 := Az.mk (neO hg (bk BK540.out)); have NB541_540 := Az.mk (neP hg (bk BK540.out)); replace BK540 := Az.mk (bkB (bk BK540.out) hb); clear hb hbox hg; have hnb62 := NB540_541.out; have hnc62 := NB541_540.out; have hcz63 := cells6 BK540.out) | ((with_reducible refine gtc (f := 50) rfl ?_); refine goesL_ (some 11) rfl rfl Tryd.func50 (by kernel_rfl) rfl #[.agg #[.int .i64 a0_0, .string a0_1, .string a0_2, .int .i64 a0_3, .slice A0_4 l0_4.length c0_4, .int .i64 a0_5], .int .i64 a1] rfl (by (try simp only [List.map_toArray, List.map_cons, List.map_nil]); first | done | rfl | (simp only [List.length_drop, List.length_take]; rfl)) ?_; (with_reducible refine (r06_On.calls k a0_0 a0_1 a0_2 a0_3 _ _ l0_4 a0_5 a1 t542 t543 t544 _ ?side1 ?side2 ?side3 A3.out).mono ?_); (case side1 => exact hG.below (by exact pbE HB.out)); (case side2 => repeat (first | exact (Kd.C_below HR0_4.out HB.out) | (with_reducible refine Kd.C_alloc ?_ _) | (with_reducible refine Kd.C_drewN ?_ _) | (with_reducible refine Kd.C_drew ?_))); (case side3 => exact HC0_4.out); rintro e w64 ⟨rfl, hb⟩; refine ⟨_, rfl, ?_⟩; replace BK540 := Az.mk (bkB (bk BK540.out) hb); replace BK541 := Az.mk (bkB (bk BK541.out) hb); replace HB := Az.mk (pbT (by exact pbE HB.out) hb); (try clear hb); (try clear hb2); (try clear hk); (try clear hi)) | ((with_reducible refine gate_dst (N := 6) rfl ?_); refine box_event ?hg (N := 6) ?hd (cs := #[.int .i64 0, .int .i64 0]) (t := 60) ?hr ?_; (case hd => rfl); (case hg => rfl); (case hr => first | (go_simp; done) | (go_simp; rfl)); intro gb545 hg w65 hbox hb; have BK545 := Az.mk (hbox); have GW545 := Az.mk (geO hg (pbE HB.out)); have GE545 := Az.mk (geO hg (pbE HB.out)); replace HB := Az.mk (pbT (by exact pbE HB.out) hb); have NB540_545 := Az.mk (neO hg (bk BK540.out)); have NB545_540 := Az.mk (neP hg (bk BK540.out)); replace BK540 := Az.mk (bkB (bk BK540.out) hb); have NB541_545 := Az.mk (neO hg (bk BK541.out)); have NB545_541 := Az.mk (neP hg (bk BK541.out)); replace BK541 := Az.mk (bkB (bk BK541.out) hb); clear hb hbox hg; have hnb66 := NB545_540.out; have hnc66 := NB540_545.out; have hnb67 := NB545_541.out; have hnc67 := NB541_545.out; have hcz68 := cells2 BK545.out; have hcz69 := cells6 BK540.out) | ((with_reducible refine gtc (f := 34) rfl ?_); refine goesL_ (some 16) rfl rfl Tryd.func34 (by kernel_rfl) rfl #[.agg #[.int .i64 a0_0, .string a0_1, .string a0_2, .int .i64 a0_3, .slice A0_4 l0_4.length c0_4, .int .i64 a0_5]] rfl (by (try simp only [List.map_toArray, List.map_cons, List.map_nil]); first | done | rfl | (simp only [List.length_drop, List.length_take]; rfl)) ?_; (with_reducible refine (r06_Is.calls k a0_0 a0_1 a0_2 a0_3 _ _ l0_4 a0_5 false _ ?side1 ?side2 ?side3 A4.out).mono ?_); (case side1 => exact hG.below (by exact pbE HB.out)); (case side2 => exact Kd.C_below HR0_4.out (by exact pbE HB.out)); (case side3 => exact HC0_4.out); rintro e w70 ⟨rfl, hb⟩; refine ⟨_, rfl, ?_⟩; replace BK540 := Az.mk (bkB (bf BK540.out) hb); replace BK541 := Az.mk (bkB (bf BK541.out) hb); replace BK545 := Az.mk (bkB (g := gb545) (o := .cells #[.int .i64 t542, .int .i64 t543] 60 (0, 0)) (by refine bk ?_; refine blk_put (cs := #[.int .i64 t542, .int .i64 0]) ?_ 1 _ rfl; refine bk ?_; refine blk_put (cs := #[.int .i64 0, .int .i64 0]) ?_ 0 _ rfl; refine bk ?_; exact BK545.out) hb); replace HB := Az.mk (pbT (by exact pbE HB.out) hb); (try clear hb); (try clear hb2); (try clear hk); (try clear hi); have hcz71 := cells6 BK541.out))
  refine bodyPost_ret (results_ct rfl _ _ gb541 26 #[.int .i64 0, .string (⟨#[]⟩ : ByteArray), .string (⟨#[]⟩ : ByteArray), .int .i64 0, .slice none 0 0, .int .i64 0] (0, 0) _ rfl (by refine bk ?_; refine blk_put (cs := #[.int .i64 0, .string (⟨#[]⟩ : ByteArray), .string (⟨#[]⟩ : ByteArray), .int .i64 0, .slice none 0 0, .int .i64 0]) ?_ 5 _ rfl; refine bk ?_; refine blk_put (cs := #[.int .i64 0, .string (⟨#[]⟩ : ByteArray), .string (⟨#[]⟩ : ByteArray), .int .i64 0, .slice none 0 0, .int .i64 0]) ?_ 4 _ rfl; refine bk ?_; refine blk_put (cs := #[.int .i64 0, .string (⟨#[]⟩ : ByteArray), .string (⟨#[]⟩ : ByteArray), .int .i64 0, .slice none 0 0, .int .i64 0]) ?_ 3 _ rfl; refine bk ?_; refine blk_put (cs := #[.int .i64 0, .string (⟨#[]⟩ : ByteArray), .string (⟨#[]⟩ : ByteArray), .int .i64 0, .slice none 0 0, .int .i64 0]) ?_ 2 _ rfl; refine bk ?_; refine blk_put (cs := #[.int .i64 0, .string (⟨#[]⟩ : ByteArray), .string (⟨#[]⟩ : ByteArray), .int .i64 0, .slice none 0 0, .int .i64 0]) ?_ 1 _ rfl; refine bk ?_; refine blk_put (cs := #[.int .i64 0, .string (⟨#[]⟩ : ByteArray), .string (⟨#[]⟩ : ByteArray), .int .i64 0, .slice none 0 0, .int .i64 0]) ?_ 0 _ rfl; refine bk ?_; exact BK541.out) Tryd.underlying26 rfl (by kernel_rfl)) rfl ?_
  exact ⟨_, by first | rfl | (simp [errW_none, errW_some] <;> rfl) | (simp [*, errW_none, errW_some] <;> rfl), Kd.V_nil _ _ _ _ _, by exact pbE HB.out⟩
def r06_Remove.l0 : Nat → Int → List (S60) → Int → Int → ByteArray → ByteArray → Int → List (S60) → Int → Option (Int × ByteArray × ByteArray × Int × (List (S60)) × Int × Int)
 | 0, _, _, _, _, _, _, _, _, _ => none
 | k + 1, x1, x8, x9, x593000, x593001, x593002, x593003, x593004, x593005 => if x9 < (x593004.length : Int) then (if 0 ≤ x9 then (if ((rd_T60 x593004 x9).f1) = x1 then (r06_Remove.l0 k x1 x8 (wrap64 (x9 + 1)) x593000 x593001 x593002 x593003 x593004 x593005) else (if x8.length < 8796093022208 then (r06_Remove.l0 k x1 (x8 ++ [(⟨(rd_T60 x593004 x9).f0, (rd_T60 x593004 x9).f1⟩ : S60)]) (wrap64 (x9 + 1)) x593000 x593001 x593002 x593003 x593004 x593005) else (none))) else (none)) else ((r06_right.f k x593000 x593001 x593002 (wrap64 (x593003 + 1)) x8 x593005).bind fun bt604 => (some (bt604.1, bt604.2.1, bt604.2.2.1, bt604.2.2.2.1, bt604.2.2.2.2.1, bt604.2.2.2.2.2.1, bt604.2.2.2.2.2.2)))
def r06_Remove.f (k : Nat) (a0_0 : Int) (a0_1 : ByteArray) (a0_2 : ByteArray) (a0_3 : Int) (l0_4 : List (S60)) (a0_5 : Int) (a1 : Int) : Option (Int × ByteArray × ByteArray × Int × (List (S60)) × Int × Int) := (r06_Has.f k a0_0 a0_1 a0_2 a0_3 l0_4 a0_5 a1).bind fun bt594 => ((r06_Is.f k a0_0 a0_1 a0_2 a0_3 l0_4 a0_5).bind fun t598 => (if t598 = true then (if bt594.2.2 = true then (if (l0_4.length : Int) = 1 then (some (0, (⟨#[]⟩ : ByteArray), (⟨#[]⟩ : ByteArray), 0, ([] : List (S60)), 0, 2)) else (r06_Remove.l0 k a1 ([] : List (S60)) 0 a0_0 a0_1 a0_2 a0_3 l0_4 a0_5)) else (some (0, (⟨#[]⟩ : ByteArray), (⟨#[]⟩ : ByteArray), 0, ([] : List (S60)), 0, 7))) else (some (0, (⟨#[]⟩ : ByteArray), (⟨#[]⟩ : ByteArray), 0, ([] : List (S60)), 0, 60))))
theorem r06_Remove.mono_l : ∀ k, (∀ y0 y1 y2 y3 y4 y5 y6 y7 y8, LeO (r06_Remove.l0 k y0 y1 y2 y3 y4 y5 y6 y7 y8) (r06_Remove.l0 (k + 1) y0 y1 y2 y3 y4 y5 y6 y7 y8))
 | 0 => fun _ _ _ _ _ _ _ _ _ r h => by simp [r06_Remove.l0] at h
 | k + 1 => by
  have ih0 := r06_Remove.mono_l k
  ·intro y0 y1 y2 y3 y4 y5 y6 y7 y8
   unfold r06_Remove.l0
   repeat' first
   | (with_reducible exact ih0 _ _ _ _ _ _ _ _ _)
   | (with_reducible exact r06_Has.mono _ _ _ _ _ _ _ _)
   | (with_reducible exact r06_Is.mono _ _ _ _ _ _ _)
   | (with_reducible exact r06_right.mono _ _ _ _ _ _ _)
   | (with_reducible exact LeO.refl _)
   | (with_reducible exact LeO.none _)
   | (with_reducible refine LeO.ite ?_ ?_)
   | (with_reducible refine LeO.bind ?_ (fun _ => ?_))
   | exact ih0 _ _ _ _ _ _ _ _ _
   | exact r06_Has.mono _ _ _ _ _ _ _ _
   | exact r06_Is.mono _ _ _ _ _ _ _
   | exact r06_right.mono _ _ _ _ _ _ _
   | exact LeO.none _
   | refine LeO.ite ?_ ?_
   | refine LeO.bind ?_ (fun _ => ?_)
theorem r06_Remove.mono : ∀ a0 a1 a2 a3 a4 a5 a6 k, LeO (r06_Remove.f k a0 a1 a2 a3 a4 a5 a6) (r06_Remove.f (k + 1) a0 a1 a2 a3 a4 a5 a6) := by
 intro a0 a1 a2 a3 a4 a5 a6 k
 have ih0 := r06_Remove.mono_l k
 unfold r06_Remove.f
 repeat' first
  | (with_reducible exact ih0 _ _ _ _ _ _ _ _ _)
  | (with_reducible exact r06_Has.mono _ _ _ _ _ _ _ _)
  | (with_reducible exact r06_Is.mono _ _ _ _ _ _ _)
  | (with_reducible exact r06_right.mono _ _ _ _ _ _ _)
  | (with_reducible exact LeO.refl _)
  | (with_reducible exact LeO.none _)
  | (with_reducible refine LeO.ite ?_ ?_)
  | (with_reducible refine LeO.bind ?_ (fun _ => ?_))
  | exact ih0 _ _ _ _ _ _ _ _ _
  | exact r06_Has.mono _ _ _ _ _ _ _ _
  | exact r06_Is.mono _ _ _ _ _ _ _
  | exact r06_right.mono _ _ _ _ _ _ _
  | exact LeO.none _
  | refine LeO.ite ?_ ?_
  | refine LeO.bind ?_ (fun _ => ?_)
set_option maxHeartbeats 8000000 in
set_option maxRecDepth 100000 in
theorem r06_Remove.calls (k : Nat) (a0_0 : Int) (a0_1 : ByteArray) (a0_2 : ByteArray) (a0_3 : Int) (A0_4 : Option Addr) (c0_4 : Nat) (l0_4 : List (S60)) (a0_5 : Int) (a1 : Int) (r1 : Int) (r2 : ByteArray) (r3 : ByteArray) (r4 : Int) (r5 : List (S60)) (r6 : Int) (r7 : Int) (w : World) (hG : TheG w) (hr0_4 : Kd.C k60 w A0_4 l0_4.length l0_4) (hc0_4 : l0_4.length ≤ c0_4) (h : r06_Remove.f k a0_0 a0_1 a0_2 a0_3 l0_4 a0_5 a1 = some (r1, r2, r3, r4, r5, r6, r7)) :
 Calls Tryd.prog 28 #[.agg #[.int .i64 a0_0, .string a0_1, .string a0_2, .int .i64 a0_3, .slice A0_4 l0_4.length c0_4, .int .i64 a0_5], .int .i64 a1] w fun e w' => ∃ v4_ : Value, e = .returned (.tuple #[.agg #[.int .i64 r1, .string r2, .string r3, .int .i64 r4, v4_, .int .i64 r6], .int .i64 r7]) ∧ Kd.V k60 60 w' w.heap.size (fun k_ => (w.heap.size ≤ k_)) v4_ r5 ∧ Below w.heap.size w w' := by
 have hu26 := Tryd.underlying26
 have hu60 := Tryd.underlying60
 have HR0_4 := Az.mk hr0_4
 have HC0_4 := Az.mk hc0_4
 clear hr0_4 hc0_4
 have HB := Az.mk (Below.refl w.heap.size w)
 have H : ((r06_Has.f k a0_0 a0_1 a0_2 a0_3 l0_4 a0_5 a1).bind fun bt594 => ((r06_Is.f k a0_0 a0_1 a0_2 a0_3 l0_4 a0_5).bind fun t598 => (if t598 = true then (if bt594.2.2 = true then (if (l0_4.length : Int) = 1 then (some (0, (⟨#[]⟩ : ByteArray), (⟨#[]⟩ : ByteArray), 0, ([] : List (S60)), 0, 2)) else (r06_Remove.l0 k a1 ([] : List (S60)) 0 a0_0 a0_1 a0_2 a0_3 l0_4 a0_5)) else (some (0, (⟨#[]⟩ : ByteArray), (⟨#[]⟩ : ByteArray), 0, ([] : List (S60)), 0, 7))) else (some (0, (⟨#[]⟩ : ByteArray), (⟨#[]⟩ : ByteArray), 0, ([] : List (S60)), 0, 60))))) = some (r1, r2, r3, r4, r5, r6, r7) := h
 clear h
 replace H := Option.bind_eq_some_iff.mp H
 obtain ⟨⟨t594, t595, t596⟩, A30, H⟩ := H
 replace H : ((r06_Is.f k a0_0 a0_1 a0_2 a0_3 l0_4 a0_5).bind fun t598 => (if t598 = true then (if t596 = true then (if (l0_4.length : Int) = 1 then (some (0, (⟨#[]⟩ : ByteArray), (⟨#[]⟩ : ByteArray), 0, ([] : List (S60)), 0, 2)) else (r06_Remove.l0 k a1 ([] : List (S60)) 0 a0_0 a0_1 a0_2 a0_3 l0_4 a0_5)) else (some (0, (⟨#[]⟩ : ByteArray), (⟨#[]⟩ : ByteArray), 0, ([] : List (S60)), 0, 7))) else (some (0, (⟨#[]⟩ : ByteArray), (⟨#[]⟩ : ByteArray), 0, ([] : List (S60)), 0, 60)))) = some (r1, r2, r3, r4, r5, r6, r7) := H
 have A3 := Az.mk A30
 clear A30
 replace H := Option.bind_eq_some_iff.mp H
 obtain ⟨t598, A40, H⟩ := H
 replace H : (if t598 = true then (if t596 = true then (if (l0_4.length : Int) = 1 then (some (0, (⟨#[]⟩ : ByteArray), (⟨#[]⟩ : ByteArray), 0, ([] : List (S60)), 0, 2)) else (r06_Remove.l0 k a1 ([] : List (S60)) 0 a0_0 a0_1 a0_2 a0_3 l0_4 a0_5)) else (some (0, (⟨#[]⟩ : ByteArray), (⟨#[]⟩ : ByteArray), 0, ([] : List (S60)), 0, 7))) else (some (0, (⟨#[]⟩ : ByteArray), (⟨#[]⟩ : ByteArray), 0, ([] : List (S60)), 0, 60))) = some (r1, r2, r3, r4, r5, r6, r7) := H
 have A4 := Az.mk A40
 clear A40
 by_cases c5 : t598 = true
 ·subst c5
  have H1 : (if t596 = true then (if (l0_4.length : Int) = 1 then (some (0, (⟨#[]⟩ : ByteArray), (⟨#[]⟩ : ByteArray), 0, ([] : List (S60)), 0, 2)) else (r06_Remove.l0 k a1 ([] : List (S60)) 0 a0_0 a0_1 a0_2 a0_3 l0_4 a0_5)) else (some (0, (⟨#[]⟩ : ByteArray), (⟨#[]⟩ : ByteArray), 0, ([] : List (S60)), 0, 7))) = some (r1, r2, r3, r4, r5, r6, r7) := by rw [if_pos rfl] at H; exact H
  clear H
  have H := H1
  clear H1
  by_cases c6 : t596 = true
  ·subst c6
   have H1 : (if (l0_4.length : Int) = 1 then (some (0, (⟨#[]⟩ : ByteArray), (⟨#[]⟩ : ByteArray), 0, ([] : List (S60)), 0, 2)) else (r06_Remove.l0 k a1 ([] : List (S60)) 0 a0_0 a0_1 a0_2 a0_3 l0_4 a0_5)) = some (r1, r2, r3, r4, r5, r6, r7) := by rw [if_pos rfl] at H; exact H
   clear H
   have H := H1
   clear H1
   by_cases c7 : (l0_4.length : Int) = 1
   ·rw [if_pos c7] at H
    have c7b0 : ((l0_4.length : Int) == 1) = true := beq_iff_eq.mpr c7
    have c7b1 : ((l0_4.length : Int) != 1) = false := bne_eq_false_iff_eq.mpr c7
    clear c7
    simp only [Option.some.injEq, Prod.mk.injEq] at H
    obtain ⟨rfl, rfl, rfl, rfl, rfl, rfl, rfl⟩ := H
    go_enter Tryd.func28, Tryd.ntmps28
    go_wp2_with (first | ((with_reducible refine gate_dst (N := 2) rfl ?_); refine box_event ?hg (N := 2) ?hd (cs := #[.int .i64 a0_0, .string a0_1, .string a0_2, .int .i64 a0_3, .slice A0_4 l0_4.length c0_4, .int .i64 a0_5]) (t := 26) ?hr ?_; (case hd => rfl); (case hg => rfl); (case hr => first | (go_simp; done) | (go_simp; rfl)); intro gb592 hg w8 hbox hb; have BK592 := Az.mk (hbox); have GW592 := Az.mk (geO hg (pbE HB.out)); have GE592 := Az.mk (geO hg (pbE HB.out)); replace HB := Az.mk (pbT (by exact pbE HB.out) hb); clear hb hbox hg) | ((with_reducible refine gate_dst (N := 4) rfl ?_); refine box_event ?hg (N := 4) ?hd (cs := #[.int .i64 0, .string (⟨#[]⟩ : ByteArray), .string (⟨#[]⟩ : ByteArray), .int .i64 0, .slice none 0 0, .int .i64 0]) (t := 26) ?hr ?_; (case hd => rfl); (case hg => rfl); (case hr => first | (go_simp; done) | (go_simp; rfl)); intro gb593 hg w9 hbox hb; have BK593 := Az.mk (hbox); have GW593 := Az.mk (geO hg (pbE HB.out)); have GE593 := Az.mk (geO hg (pbE HB.out)); replace HB := Az.mk (pbT (by exact pbE HB.out) hb); have NB592_593 := Az.mk (neO hg (bk BK592.out)); have NB593_592 := Az.mk (neP hg (bk BK592.out)); replace BK592 := Az.mk (bkB (bk BK592.out) hb); clear hb hbox hg; have hnb10 := NB592_593.out; have hnc10 := NB593_592.out; have hcz11 := cells6 BK592.out) | ((with_reducible refine gtc (f := 53) rfl ?_); refine goesL_ (some 13) rfl rfl Tryd.func53 (by kernel_rfl) rfl #[.agg #[.int .i64 a0_0, .string a0_1, .string a0_2, .int .i64 a0_3, .slice A0_4 l0_4.length c0_4, .int .i64 a0_5], .int .i64 a1] rfl (by (try simp only [List.map_toArray, List.map_cons, List.map_nil]); first | done | rfl | (simp only [List.length_drop, List.length_take]; rfl)) ?_; (with_reducible refine (r06_Has.calls k a0_0 a0_1 a0_2 a0_3 _ _ l0_4 a0_5 a1 t594 t595 true _ ?side1 ?side2 ?side3 A3.out).mono ?_); (case side1 => exact hG.below (by exact pbE HB.out)); (case side2 => repeat (first | exact (Kd.C_below HR0_4.out HB.out) | (with_reducible refine Kd.C_alloc ?_ _) | (with_reducible refine Kd.C_drewN ?_ _) | (with_reducible refine Kd.C_drew ?_))); (case side3 => exact HC0_4.out); rintro e w12 ⟨rfl, hb⟩; refine ⟨_, rfl, ?_⟩; replace BK592 := Az.mk (bkB (bk BK592.out) hb); replace BK593 := Az.mk (bkB (bk BK593.out) hb); replace HB := Az.mk (pbT (by exact pbE HB.out) hb); (try clear hb); (try clear hb2); (try clear hk); (try clear hi)) | ((with_reducible refine gate_dst (N := 6) rfl ?_); refine box_event ?hg (N := 6) ?hd (cs := #[.int .i64 0, .int .i64 0]) (t := 60) ?hr ?_; (case hd => rfl); (case hg => rfl); (case hr => first | (go_simp; done) | (go_simp; rfl)); intro gb597 hg w13 hbox hb; have BK597 := Az.mk (hbox); have GW597 := Az.mk (geO hg (pbE HB.out)); have GE597 := Az.mk (geO hg (pbE HB.out)); replace HB := Az.mk (pbT (by exact pbE HB.out) hb); have NB592_597 := Az.mk (neO hg (bk BK592.out)); have NB597_592 := Az.mk (neP hg (bk BK592.out)); replace BK592 := Az.mk (bkB (bk BK592.out) hb); have NB593_597 := Az.mk (neO hg (bk BK593.out)); have NB597_593 := Az.mk (neP hg (bk BK593.out)); replace BK593 := Az.mk (bkB (bk BK593.out) hb); clear hb hbox hg; have hnb14 := NB597_592.out; have hnc14 := NB592_597.out; have hnb15 := NB597_593.out; have hnc15 := NB593_597.out; have hcz16 := cells2 BK597.out; have hcz17 := cells6 BK592.out) | ((with_reducible refine gtc (f := 34) rfl ?_); refine goesL_ (some 18) rfl rfl Tryd.func34 (by kernel_rfl) rfl #[.agg #[.int .i64 a0_0, .string a0_1, .string a0_2, .int .i64 a0_3, .slice A0_4 l0_4.length c0_4, .int .i64 a0_5]] rfl (by (try simp only [List.map_toArray, List.map_cons, List.map_nil]); first | done | rfl | (simp only [List.length_drop, List.length_take]; rfl)) ?_; (with_reducible refine (r06_Is.calls k a0_0 a0_1 a0_2 a0_3 _ _ l0_4 a0_5 true _ ?side1 ?side2 ?side3 A4.out).mono ?_); (case side1 => exact hG.below (by exact pbE HB.out)); (case side2 => exact Kd.C_below HR0_4.out (by exact pbE HB.out)); (case side3 => exact HC0_4.out); rintro e w18 ⟨rfl, hb⟩; refine ⟨_, rfl, ?_⟩; replace BK592 := Az.mk (bkB (bf BK592.out) hb); replace BK593 := Az.mk (bkB (bf BK593.out) hb); replace BK597 := Az.mk (bkB (g := gb597) (o := .cells #[.int .i64 t594, .int .i64 t595] 60 (0, 0)) (by refine bk ?_; refine blk_put (cs := #[.int .i64 t594, .int .i64 0]) ?_ 1 _ rfl; refine bk ?_; refine blk_put (cs := #[.int .i64 0, .int .i64 0]) ?_ 0 _ rfl; refine bk ?_; exact BK597.out) hb); replace HB := Az.mk (pbT (by exact pbE HB.out) hb); (try clear hb); (try clear hb2); (try clear hk); (try clear hi); have hcz19 := cells6 BK592.out; have hcz20 := cells6 BK593.out))
    refine bodyPost_ret (results_ct rfl _ _ gb593 26 #[.int .i64 0, .string (⟨#[]⟩ : ByteArray), .string (⟨#[]⟩ : ByteArray), .int .i64 0, .slice none 0 0, .int .i64 0] (0, 0) _ rfl (by refine bk ?_; refine blk_put (cs := #[.int .i64 0, .string (⟨#[]⟩ : ByteArray), .string (⟨#[]⟩ : ByteArray), .int .i64 0, .slice none 0 0, .int .i64 0]) ?_ 5 _ rfl; refine bk ?_; refine blk_put (cs := #[.int .i64 0, .string (⟨#[]⟩ : ByteArray), .string (⟨#[]⟩ : ByteArray), .int .i64 0, .slice none 0 0, .int .i64 0]) ?_ 4 _ rfl; refine bk ?_; refine blk_put (cs := #[.int .i64 0, .string (⟨#[]⟩ : ByteArray), .string (⟨#[]⟩ : ByteArray), .int .i64 0, .slice none 0 0, .int .i64 0]) ?_ 3 _ rfl; refine bk ?_; refine blk_put (cs := #[.int .i64 0, .string (⟨#[]⟩ : ByteArray), .string (⟨#[]⟩ : ByteArray), .int .i64 0, .slice none 0 0, .int .i64 0]) ?_ 2 _ rfl; refine bk ?_; refine blk_put (cs := #[.int .i64 0, .string (⟨#[]⟩ : ByteArray), .string (⟨#[]⟩ : ByteArray), .int .i64 0, .slice none 0 0, .int .i64 0]) ?_ 1 _ rfl; refine bk ?_; refine blk_put (cs := #[.int .i64 0, .string (⟨#[]⟩ : ByteArray), .string (⟨#[]⟩ : ByteArray), .int .i64 0, .slice none 0 0, .int .i64 0]) ?_ 0 _ rfl; refine bk ?_; exact BK593.out) Tryd.underlying26 rfl (by kernel_rfl)) rfl ?_
    exact ⟨_, by first | rfl | (simp [errW_none, errW_some] <;> rfl) | (simp [*, errW_none, errW_some] <;> rfl), Kd.V_nil _ _ _ _ _, by exact pbE HB.out⟩
   ·rw [if_neg c7] at H
    have c7b0 : ((l0_4.length : Int) == 1) = false := beq_eq_false_iff_ne.mpr c7
    have c7b1 : ((l0_4.length : Int) != 1) = true := bne_iff_ne.mpr c7
    have H' := Az.mk H
    clear H
    go_enter Tryd.func28, Tryd.ntmps28
    go_wp2_with (first | ((with_reducible refine gate_dst (N := 2) rfl ?_); refine box_event ?hg (N := 2) ?hd (cs := #[.int .i64 a0_0, .string a0_1, .string a0_2, .int .i64 a0_3, .slice A0_4 l0_4.length c0_4, .int .i64 a0_5]) (t := 26) ?hr ?_; (case hd => rfl); (case hg => rfl); (case hr => first | (go_simp; done) | (go_simp; rfl)); intro gb592 hg w21 hbox hb; have BK592 := Az.mk (hbox); have GW592 := Az.mk (geO hg (pbE HB.out)); have GE592 := Az.mk (geO hg (pbE HB.out)); replace HB := Az.mk (pbT (by exact pbE HB.out) hb); clear hb hbox hg) | ((with_reducible refine gate_dst (N := 4) rfl ?_); refine box_event ?hg (N := 4) ?hd (cs := #[.int .i64 0, .string (⟨#[]⟩ : ByteArray), .string (⟨#[]⟩ : ByteArray), .int .i64 0, .slice none 0 0, .int .i64 0]) (t := 26) ?hr ?_; (case hd => rfl); (case hg => rfl); (case hr => first | (go_simp; done) | (go_simp; rfl)); intro gb593 hg w22 hbox hb; have BK593 := Az.mk (hbox); have GW593 := Az.mk (geO hg (pbE HB.out)); have GE593 := Az.mk (geO hg (pbE HB.out)); replace HB := Az.mk (pbT (by exact pbE HB.out) hb); have NB592_593 := Az.mk (neO hg (bk BK592.out)); have NB593_592 := Az.mk (neP hg (bk BK592.out)); replace BK592 := Az.mk (bkB (bk BK592.out) hb); clear hb hbox hg; have hnb23 := NB592_593.out; have hnc23 := NB593_592.out; have hcz24 := cells6 BK592.out) | ((with_reducible refine gtc (f := 53) rfl ?_); refine goesL_ (some 13) rfl rfl Tryd.func53 (by kernel_rfl) rfl #[.agg #[.int .i64 a0_0, .string a0_1, .string a0_2, .int .i64 a0_3, .slice A0_4 l0_4.length c0_4, .int .i64 a0_5], .int .i64 a1] rfl (by (try simp only [List.map_toArray, List.map_cons, List.map_nil]); first | done | rfl | (simp only [List.length_drop, List.length_take]; rfl)) ?_; (with_reducible refine (r06_Has.calls k a0_0 a0_1 a0_2 a0_3 _ _ l0_4 a0_5 a1 t594 t595 true _ ?side1 ?side2 ?side3 A3.out).mono ?_); (case side1 => exact hG.below (by exact pbE HB.out)); (case side2 => repeat (first | exact (Kd.C_below HR0_4.out HB.out) | (with_reducible refine Kd.C_alloc ?_ _) | (with_reducible refine Kd.C_drewN ?_ _) | (with_reducible refine Kd.C_drew ?_))); (case side3 => exact HC0_4.out); rintro e w25 ⟨rfl, hb⟩; refine ⟨_, rfl, ?_⟩; replace BK592 := Az.mk (bkB (bk BK592.out) hb); replace BK593 := Az.mk (bkB (bk BK593.out) hb); replace HB := Az.mk (pbT (by exact pbE HB.out) hb); (try clear hb); (try clear hb2); (try clear hk); (try clear hi)) | ((with_reducible refine gate_dst (N := 6) rfl ?_); refine box_event ?hg (N := 6) ?hd (cs := #[.int .i64 0, .int .i64 0]) (t := 60) ?hr ?_; (case hd => rfl); (case hg => rfl); (case hr => first | (go_simp; done) | (go_simp; rfl)); intro gb597 hg w26 hbox hb; have BK597 := Az.mk (hbox); have GW597 := Az.mk (geO hg (pbE HB.out)); have GE597 := Az.mk (geO hg (pbE HB.out)); replace HB := Az.mk (pbT (by exact pbE HB.out) hb); have NB592_597 := Az.mk (neO hg (bk BK592.out)); have NB597_592 := Az.mk (neP hg (bk BK592.out)); replace BK592 := Az.mk (bkB (bk BK592.out) hb); have NB593_597 := Az.mk (neO hg (bk BK593.out)); have NB597_593 := Az.mk (neP hg (bk BK593.out)); replace BK593 := Az.mk (bkB (bk BK593.out) hb); clear hb hbox hg; have hnb27 := NB597_592.out; have hnc27 := NB592_597.out; have hnb28 := NB597_593.out; have hnc28 := NB593_597.out; have hcz29 := cells2 BK597.out; have hcz30 := cells6 BK592.out) | ((with_reducible refine gtc (f := 34) rfl ?_); refine goesL_ (some 18) rfl rfl Tryd.func34 (by kernel_rfl) rfl #[.agg #[.int .i64 a0_0, .string a0_1, .string a0_2, .int .i64 a0_3, .slice A0_4 l0_4.length c0_4, .int .i64 a0_5]] rfl (by (try simp only [List.map_toArray, List.map_cons, List.map_nil]); first | done | rfl | (simp only [List.length_drop, List.length_take]; rfl)) ?_; (with_reducible refine (r06_Is.calls k a0_0 a0_1 a0_2 a0_3 _ _ l0_4 a0_5 true _ ?side1 ?side2 ?side3 A4.out).mono ?_); (case side1 => exact hG.below (by exact pbE HB.out)); (case side2 => exact Kd.C_below HR0_4.out (by exact pbE HB.out)); (case side3 => exact HC0_4.out); rintro e w31 ⟨rfl, hb⟩; refine ⟨_, rfl, ?_⟩; replace BK592 := Az.mk (bkB (bf BK592.out) hb); replace BK593 := Az.mk (bkB (bf BK593.out) hb); replace BK597 := Az.mk (bkB (g := gb597) (o := .cells #[.int .i64 t594, .int .i64 t595] 60 (0, 0)) (by refine bk ?_; refine blk_put (cs := #[.int .i64 t594, .int .i64 0]) ?_ 1 _ rfl; refine bk ?_; refine blk_put (cs := #[.int .i64 0, .int .i64 0]) ?_ 0 _ rfl; refine bk ?_; exact BK597.out) hb); replace HB := Az.mk (pbT (by exact pbE HB.out) hb); (try clear hb); (try clear hb2); (try clear hk); (try clear hi); have hcz32 := cells6 BK592.out))
    go_loopg [8, 9] k (fun kq v8 v9 w' => ∃ (x8_1 : List (S60)) (x9_1 : Int), v9 = .int .i64 x9_1 ∧ Az (r06_Remove.l0 kq a1 x8_1 x9_1 a0_0 a0_1 a0_2 a0_3 l0_4 a0_5 = some (r1, r2, r3, r4, r5, r6, r7)) ∧ Az (kq ≤ k) ∧ Az (Kd.R k60 60 w' w.heap.size (fun k_ => (w.heap.size ≤ k_) ∧ k_ ≠ gb597) v8 x8_1) ∧ Az (w'.heap[gb592]? = some (.cells #[.int .i64 a0_0, .string a0_1, .string a0_2, .int .i64 a0_3, (.slice A0_4 l0_4.length c0_4), .int .i64 a0_5] 26 (0, 0))) ∧ Az (w'.heap[gb593]? = some (.cells #[.int .i64 0, .string (⟨#[]⟩ : ByteArray), .string (⟨#[]⟩ : ByteArray), .int .i64 0, (.slice none 0 0), .int .i64 0] 26 (0, 0))) ∧ Az (w'.heap[gb597]? = some (.cells #[.int .i64 t594, .int .i64 t595] 60 (0, 0))) ∧ Az (Below w.heap.size w w'))
    case atStart => exact ⟨(([] : List (S60))), (0), (by first | rfl | (simp; done) | (simp [*]; done)), H', ⟨Nat.le_refl _⟩, ⟨by first | exact Kd.R_nil _ _ _ _ _ | exact Kd.N_nil _ _ _ _ _ | exact Kd.V_nil _ _ _ _ _ | exact Kd.Q_nil _ _ _ _ _ | exact Kd.S_nil _ _ _ _ _⟩, ⟨by refine bk ?_; exact BK592.out⟩, ⟨by refine bk ?_; exact BK593.out⟩, ⟨by refine bk ?_; exact BK597.out⟩, ⟨by exact pbE HB.out⟩⟩
    case round =>
     clear H'
     try clear c1
     try clear c2
     try clear p2
     try clear c3
     try clear c5
     try clear c6
     try clear c7
     try clear c7b0
     try clear c7b1
     try clear c10
     try clear c14
     try clear c15
     try clear c23
     try clear c27
     try clear c28
     try clear hcz11
     try clear hcz16
     try clear hcz17
     try clear hcz19
     try clear hcz20
     try clear hcz24
     try clear hcz29
     try clear hcz30
     try clear hcz32
     obtain ⟨x8_1, x9_1, rfl, HA, HK1, HO_8, BK592, BK593, BK597, HB⟩ := hrel
     cases gk with
     | zero => exact absurd HA.out (by simp [r06_Remove.l0])
     | succ k1 =>
      have H := HA.out
      clear HA
      simp only [r06_Remove.l0] at H
      by_cases c33 : x9_1 < (l0_4.length : Int)
      ·rw [if_pos c33] at H
       have c33b0 : decide (x9_1 < (l0_4.length : Int)) = true := decide_eq_true c33
       clear c33
       by_cases c34 : 0 ≤ x9_1
       ·rw [if_pos c34] at H
        have c34b0 : decide (0 ≤ x9_1) = true := decide_eq_true c34
        clear c34
        by_cases c35 : ((rd_T60 l0_4 x9_1).f1) = a1
        ·rw [if_pos c35] at H
         have c35b0 : (((rd_T60 l0_4 x9_1).f1) == a1) = true := beq_iff_eq.mpr c35
         have c35b1 : (((rd_T60 l0_4 x9_1).f1) != a1) = false := bne_eq_false_iff_eq.mpr c35
         clear c35
         have H' := Az.mk H
         clear H
         have hnb36 := NB592_593.out
         have hnc36 := NB593_592.out
         have hnb37 := NB592_597.out
         have hnc37 := NB597_592.out
         have hcz38 := cells6 BK592.out
         have p599 : 0 ≤ (x9_1 : Int) := of_decide_eq_true (by first | (with_reducible assumption) | assumption)
         have q599 : x9_1 < (l0_4.length : Int) := of_decide_eq_true (by first | (with_reducible assumption) | assumption)
         obtain ⟨ad599, e599, hx599_0, hx599_1⟩ := at_T60 HR0_4.out x9_1 p599 q599
         cases e599
         replace hx599_0 := (HB.out.cell (World.block_lt_of_cell? w _ hx599_0)).trans hx599_0
         replace hx599_1 := (HB.out.cell (World.block_lt_of_cell? w _ hx599_1)).trans hx599_1
         replace p599 := eq_true p599
         replace q599 := eq_true q599
         go_wp2
         go_roundg k1
         case measure => have := HK1.out; omega
         case rel => exact ⟨(x8_1), (wrap64 (x9_1 + 1)), (by first | rfl | (simp; done) | (simp [*]; done)), H', ⟨by have := HK1.out; omega⟩, ⟨by (with_reducible repeat (first | apply Kd.R_alloc | apply Kd.R_drewN | apply Kd.R_drew)); exact HO_8.out⟩, ⟨by refine bk ?_; exact BK592.out⟩, ⟨by refine bk ?_; exact BK593.out⟩, ⟨by refine bk ?_; exact BK597.out⟩, ⟨by exact pbE HB.out⟩⟩
        ·rw [if_neg c35] at H
         have c35b0 : (((rd_T60 l0_4 x9_1).f1) == a1) = false := beq_eq_false_iff_ne.mpr c35
         have c35b1 : (((rd_T60 l0_4 x9_1).f1) != a1) = true := bne_iff_ne.mpr c35
         by_cases c39 : x8_1.length < 8796093022208
         ·rw [if_pos c39] at H
          have LMc39 := Az.mk c39
          clear c39
          obtain ⟨y601, hy601⟩ : ∃ y_ : List (S60), y_ = (x8_1 ++ [(⟨(rd_T60 l0_4 x9_1).f0, (rd_T60 l0_4 x9_1).f1⟩ : S60)]) := ⟨_, rfl⟩
          replace H : (r06_Remove.l0 k1 a1 y601 (wrap64 (x9_1 + 1)) a0_0 a0_1 a0_2 a0_3 l0_4 a0_5) = some (r1, r2, r3, r4, r5, r6, r7) := by first | (rw [hy601]; with_reducible exact H) | (have H2_ := (Option.bind_some _ _).symm.trans H; rw [hy601]; with_reducible exact H2_) | (have H2_ := (Option.bind_some _ _).symm.trans H; with_reducible exact H2_) | with_reducible exact H | (rw [hy601]; exact H) | exact H
          have Ny601 := Az.mk hy601
          clear hy601
          have H' := Az.mk H
          clear H
          have hnb40 := NB592_593.out
          have hnc40 := NB593_592.out
          have hnb41 := NB592_597.out
          have hnc41 := NB597_592.out
          have hcz42 := cells6 BK592.out
          have p599 : 0 ≤ (x9_1 : Int) := of_decide_eq_true (by first | (with_reducible assumption) | assumption)
          have q599 : x9_1 < (l0_4.length : Int) := of_decide_eq_true (by first | (with_reducible assumption) | assumption)
          obtain ⟨ad599, e599, hx599_0, hx599_1⟩ := at_T60 HR0_4.out x9_1 p599 q599
          cases e599
          replace hx599_0 := (HB.out.cell (World.block_lt_of_cell? w _ hx599_0)).trans hx599_0
          replace hx599_1 := (HB.out.cell (World.block_lt_of_cell? w _ hx599_1)).trans hx599_1
          replace p599 := eq_true p599
          replace q599 := eq_true q599
          have p600 : 0 ≤ (x9_1 : Int) := of_decide_eq_true (by first | (with_reducible assumption) | assumption)
          have q600 : x9_1 < (l0_4.length : Int) := of_decide_eq_true (by first | (with_reducible assumption) | assumption)
          obtain ⟨ad600, e600, hx600_0, hx600_1⟩ := at_T60 HR0_4.out x9_1 p600 q600
          obtain rfl : ad599 = ad600 := (by injection e600)
          replace hx600_0 := (HB.out.cell (World.block_lt_of_cell? w _ hx600_0)).trans hx600_0
          replace hx600_1 := (HB.out.cell (World.block_lt_of_cell? w _ hx600_1)).trans hx600_1
          replace p600 := eq_true p600
          replace q600 := eq_true q600
          go_wp2_with (first | ((with_reducible refine gate_builtin (b := .append) (xs := #[.tmp 46, .tmp 52]) rfl ?_); at_builtin; refine Kd.R_append k60 (w0 := w) w.heap.size rfl (.tmp 46) (.tmp 52) 24 60 (.agg #[(.int .i64 0), (.int .i64 0)]) 16 rfl Tryd.underlying24 info60 rfl (by decide) (by omega) u8 x8_1 (⟨(rd_T60 l0_4 x9_1).f0, (rd_T60 l0_4 x9_1).f1⟩ : S60) [.int .i64 ((rd_T60 l0_4 x9_1).f0), .int .i64 ((rd_T60 l0_4 x9_1).f1)] (fun k_ => (w.heap.size ≤ k_) ∧ k_ ≠ gb597) (fun _ => False) rfl rfl ?aP (fun _ hk => hk.elim) ?aF ?aO ?aB ?aS ?aL ?_; (case aP => exact k60_mkM _ _ _ (⟨(rd_T60 l0_4 x9_1).f0, (rd_T60 l0_4 x9_1).f1⟩ : S60)); (case aB => exact (by exact pbE HB.out)); (case aF => exact (fun k_ hk => ⟨(Nat.le_trans (pbZ (by exact pbE HB.out)) hk), Kd.freshB (bk BK597.out) k_ hk⟩)); (case aO => exact (Kd.R_ext HO_8.out)); (case aS => exact (pbZ (by exact pbE HB.out))); (case aL => have := LMc39.out; omega); intro v602 w43 ho hb hg hat; rw [← Ny601.out] at ho; replace BK592 := Az.mk (blk_grown (bk BK592.out) hg (Kd.R_ne HO_8.out BK592.out (by decide))); replace BK593 := Az.mk (blk_grown (bk BK593.out) hg (Kd.R_ne HO_8.out BK593.out (by decide))); replace BK597 := Az.mk (blk_grown (bk BK597.out) hg (Kd.R_away HO_8.out (fun _ hk => hk.2))); replace HB := Az.mk (hb); have HO603 := Az.mk (ho); clear HO_8; clear ho hb hg hat))
          go_roundg k1
          case measure => have := HK1.out; omega
          case rel => exact ⟨(y601), (wrap64 (x9_1 + 1)), (by first | rfl | (simp; done) | (simp [*]; done)), H', ⟨by have := HK1.out; omega⟩, ⟨by (with_reducible repeat (first | apply Kd.R_alloc | apply Kd.R_drewN | apply Kd.R_drew)); exact HO603.out⟩, ⟨by refine bk ?_; exact BK592.out⟩, ⟨by refine bk ?_; exact BK593.out⟩, ⟨by refine bk ?_; exact BK597.out⟩, ⟨by exact pbE HB.out⟩⟩
         ·rw [if_neg c39] at H
          exact absurd H (by simp)
       ·rw [if_neg c34] at H
        exact absurd H (by simp)
      ·rw [if_neg c33] at H
       have c33b0 : decide (x9_1 < (l0_4.length : Int)) = false := decide_eq_false c33
       clear c33
       replace H := Option.bind_eq_some_iff.mp H
       obtain ⟨⟨t604, t605, t606, t607, t608, t611, t612⟩, A440, H⟩ := H
       replace H : (some (t604, t605, t606, t607, t608, t611, t612)) = some (r1, r2, r3, r4, r5, r6, r7) := H
       have A44 := Az.mk A440
       clear A440
       simp only [Option.some.injEq, Prod.mk.injEq] at H
       obtain ⟨rfl, rfl, rfl, rfl, rfl, rfl, rfl⟩ := H
       have hnb45 := NB592_593.out
       have hnc45 := NB593_592.out
       have hnb46 := NB592_597.out
       have hnc46 := NB597_592.out
       have hcz47 := cells6 BK592.out
       obtain ⟨Ao48, co48, eo48⟩ := Kd.R_slice HO_8.out
       subst eo48
       go_wp2_with (first | ((with_reducible refine gate_store (t := 24) (p := 55) rfl ?_); refine store_event (t := 24) (p := 55) (v := ?vo_w49) (w1 := (wr.setCell ⟨gb592, 4, none⟩ (.slice Ao48 x8_1.length co48))) ?hg ?ho ?hn ?hr ?_; (case ho => rfl); (case hg => rfl); (case hn => rfl); (case hr => first | (go_simp; done) | (go_simp; rfl)); intro w49 hw; have n0_ : Az (Kd.R k60 60 w49 w.heap.size (fun k_ => (w.heap.size ≤ k_) ∧ k_ ≠ gb597) (.slice Ao48 x8_1.length co48) x8_1) := ⟨(by rw [hw]; exact (by (with_reducible repeat (first | apply Kd.R_alloc | apply Kd.R_drewN | apply Kd.R_drew)); exact Kd.R_mono (Kd.R_far (p := ⟨gb592, 4, none⟩) (Kd.R_types HO_8.out BK592.out (by decide)) (fun _ hk => hk.2) (.slice Ao48 x8_1.length co48)) (fun _ hk => ⟨hk.1.1, hk.1.2⟩)))⟩; have n1_ : Az (w49.heap[gb592]? = some (.cells #[.int .i64 a0_0, .string a0_1, .string a0_2, .int .i64 a0_3, .slice Ao48 x8_1.length co48, .int .i64 a0_5] 26 (0, 0))) := ⟨(by rw [hw]; exact (by refine bk ?_; refine blk_put (cs := #[.int .i64 a0_0, .string a0_1, .string a0_2, .int .i64 a0_3, .slice A0_4 l0_4.length c0_4, .int .i64 a0_5]) ?_ 4 _ rfl; refine bk ?_; exact BK592.out))⟩; have n2_ : Az (w49.heap[gb593]? = some (.cells #[.int .i64 0, .string (⟨#[]⟩ : ByteArray), .string (⟨#[]⟩ : ByteArray), .int .i64 0, .slice none 0 0, .int .i64 0] 26 (0, 0))) := ⟨(by rw [hw]; exact (bf BK593.out))⟩; have n3_ : Az (w49.heap[gb597]? = some (.cells #[.int .i64 t594, .int .i64 t595] 60 (0, 0))) := ⟨(by rw [hw]; exact (bf BK597.out))⟩; have n4_ : Az (Below w.heap.size w w49) := ⟨(by rw [hw]; exact (by exact pbE HB.out))⟩; clear hw; clear HO_8; clear BK592; clear BK593; clear BK597; clear HB; have HO_8 := n0_; have BK592 := n1_; have BK593 := n2_; have BK597 := n3_; have HB := n4_; clear n0_ n1_ n2_ n3_ n4_; have hcz50 := cells6 BK592.out) | ((with_reducible refine gate_store (t := 2) (p := 59) rfl ?_); refine store_event (t := 2) (p := 59) (v := ?vo_w51) (w1 := (w49.setCell ⟨gb592, 3, none⟩ (.int .i64 (wrap64 (a0_3 + 1))))) ?hg ?ho ?hn ?hr ?_; (case ho => rfl); (case hg => rfl); (case hn => rfl); (case hr => first | (go_simp; done) | (go_simp; rfl)); intro w51 hw; have n0_ : Az (Kd.R k60 60 w51 w.heap.size (fun k_ => (w.heap.size ≤ k_) ∧ k_ ≠ gb597) (.slice Ao48 x8_1.length co48) x8_1) := ⟨(by rw [hw]; exact (by (with_reducible repeat (first | apply Kd.R_alloc | apply Kd.R_drewN | apply Kd.R_drew)); exact Kd.R_mono (Kd.R_far (p := ⟨gb592, 3, none⟩) (Kd.R_types HO_8.out BK592.out (by decide)) (fun _ hk => hk.2) (.int .i64 (wrap64 (a0_3 + 1)))) (fun _ hk => ⟨hk.1.1, hk.1.2⟩)))⟩; have n1_ : Az (w51.heap[gb592]? = some (.cells #[.int .i64 a0_0, .string a0_1, .string a0_2, .int .i64 (wrap64 (a0_3 + 1)), .slice Ao48 x8_1.length co48, .int .i64 a0_5] 26 (0, 0))) := ⟨(by rw [hw]; exact (by refine bk ?_; refine blk_put (cs := #[.int .i64 a0_0, .string a0_1, .string a0_2, .int .i64 a0_3, .slice Ao48 x8_1.length co48, .int .i64 a0_5]) ?_ 3 _ rfl; refine bk ?_; exact BK592.out))⟩; have n2_ : Az (w51.heap[gb593]? = some (.cells #[.int .i64 0, .string (⟨#[]⟩ : ByteArray), .string (⟨#[]⟩ : ByteArray), .int .i64 0, .slice none 0 0, .int .i64 0] 26 (0, 0))) := ⟨(by rw [hw]; exact (bf BK593.out))⟩; have n3_ : Az (w51.heap[gb597]? = some (.cells #[.int .i64 t594, .int .i64 t595] 60 (0, 0))) := ⟨(by rw [hw]; exact (bf BK597.out))⟩; have n4_ : Az (Below w.heap.size w w51) := ⟨(by rw [hw]; exact (by exact pbE HB.out))⟩; clear hw; clear HO_8; clear BK592; clear BK593; clear BK597; clear HB; have HO_8 := n0_; have BK592 := n1_; have BK593 := n2_; have BK597 := n3_; have HB := n4_; clear n0_ n1_ n2_ n3_ n4_; have hcz52 := cells6 BK592.out) | ((with_reducible refine gtc (f := 39) rfl ?_); refine goesL_ (some 61) rfl rfl Tryd.func39 (by kernel_rfl) rfl #[.agg #[.int .i64 a0_0, .string a0_1, .string a0_2, .int .i64 (wrap64 (a0_3 + 1)), .slice Ao48 x8_1.length co48, .int .i64 a0_5]] rfl (by (try simp only [List.map_toArray, List.map_cons, List.map_nil]); first | done | rfl | (simp only [List.length_drop, List.length_take]; rfl)) ?_; (with_reducible refine (r06_right.calls k1 a0_0 a0_1 a0_2 (wrap64 (a0_3 + 1)) (fun k_ => some k_ = (.slice Ao48 x8_1.length co48 : Value).ownBlock) _ _ x8_1 a0_5 t604 t605 t606 t607 t608 t611 t612 _ ?side1 ?side2 A44.out).mono ?_); (case side1 => exact hG.below (by exact pbE HB.out)); (case side2 => exact Kd.R_V (Kd.R_tight rfl (Kd.R_types (Kd.R_types (HO_8.out) BK592.out (by decide)) BK593.out (by decide)))); rintro e w53 ⟨v609, rfl, ho0, hb⟩; refine ⟨_, rfl, ?_⟩; have HO610 := Az.mk (Kd.V_lower (Kd.V_mono (ok' := fun k_ => (w.heap.size ≤ k_) ∧ k_ ≠ gb592 ∧ k_ ≠ gb593 ∧ k_ ≠ gb597) ho0 (fun k_ hk_ => ⟨Or.elim hk_ (fun hs_ => ((Kd.R_types (Kd.R_types (HO_8.out) BK592.out (by decide)) BK593.out (by decide)).1 k_ hs_.symm).1.1.1) (fun hn_ => (Nat.le_trans (pbZ (by exact pbE HB.out)) hn_)), Or.elim hk_ (fun hs_ => ((Kd.R_types (Kd.R_types (HO_8.out) BK592.out (by decide)) BK593.out (by decide)).1 k_ hs_.symm).1.2) (fun hn_ => (Kd.freshB (bk BK592.out) k_ hn_)), Or.elim hk_ (fun hs_ => ((Kd.R_types (Kd.R_types (HO_8.out) BK592.out (by decide)) BK593.out (by decide)).1 k_ hs_.symm).2) (fun hn_ => (Kd.freshB (bk BK593.out) k_ hn_)), Or.elim hk_ (fun hs_ => ((Kd.R_types (Kd.R_types (HO_8.out) BK592.out (by decide)) BK593.out (by decide)).1 k_ hs_.symm).1.1.2) (fun hn_ => (Kd.freshB (bk BK597.out) k_ hn_))⟩)) (pbZ (by exact pbE HB.out))); replace HO_8 := Az.mk (Kd.R_below (Kd.R_ext HO_8.out) hb); replace BK592 := Az.mk (bkB (bk BK592.out) hb); replace BK593 := Az.mk (bkB (bk BK593.out) hb); replace BK597 := Az.mk (bkB (bk BK597.out) hb); replace HB := Az.mk (pbT (by exact pbE HB.out) hb); (try clear hb); (try clear hb2); (try clear hk); (try clear hi); (try clear ho0); have hnb54 := NB593_597.out; have hnc54 := NB597_593.out; have hcz55 := cells6 BK593.out; obtain ⟨Ao56, co56, eo56⟩ := Kd.V_slice HO610.out; subst eo56))
       refine bodyPost_ret (results_ct rfl _ _ gb593 26 #[.int .i64 t604, .string t605, .string t606, .int .i64 t607, .slice Ao56 t608.length co56, .int .i64 t611] (0, 0) _ rfl (by refine bk ?_; refine blk_put (cs := #[.int .i64 t604, .string t605, .string t606, .int .i64 t607, .slice Ao56 t608.length co56, .int .i64 0]) ?_ 5 _ rfl; refine bk ?_; refine blk_put (cs := #[.int .i64 t604, .string t605, .string t606, .int .i64 t607, .slice none 0 0, .int .i64 0]) ?_ 4 _ rfl; refine bk ?_; refine blk_put (cs := #[.int .i64 t604, .string t605, .string t606, .int .i64 0, .slice none 0 0, .int .i64 0]) ?_ 3 _ rfl; refine bk ?_; refine blk_put (cs := #[.int .i64 t604, .string t605, .string (⟨#[]⟩ : ByteArray), .int .i64 0, .slice none 0 0, .int .i64 0]) ?_ 2 _ rfl; refine bk ?_; refine blk_put (cs := #[.int .i64 t604, .string (⟨#[]⟩ : ByteArray), .string (⟨#[]⟩ : ByteArray), .int .i64 0, .slice none 0 0, .int .i64 0]) ?_ 1 _ rfl; refine bk ?_; refine blk_put (cs := #[.int .i64 0, .string (⟨#[]⟩ : ByteArray), .string (⟨#[]⟩ : ByteArray), .int .i64 0, .slice none 0 0, .int .i64 0]) ?_ 0 _ rfl; refine bk ?_; exact BK593.out) Tryd.underlying26 rfl (by kernel_rfl)) rfl ?_
       exact ⟨_, by first | rfl | (simp [errW_none, errW_some] <;> rfl) | (simp [*, errW_none, errW_some] <;> rfl), by (with_reducible repeat (first | apply Kd.V_alloc | apply Kd.V_drewN | apply Kd.V_drew)); exact Kd.V_mono (Kd.V_off (g := gb593) (fun _ hk => hk.2) (Kd.V_mono HO610.out (fun k_ hk => (⟨hk, hk.2.2.1⟩ : _ ∧ k_ ≠ gb593)))) (fun _ hk => hk.1.1), by exact pbE HB.out⟩
  ·replace c6 := Bool.eq_false_iff.mpr c6
   subst c6
   have H1 : (some (0, (⟨#[]⟩ : ByteArray), (⟨#[]⟩ : ByteArray), 0, ([] : List (S60)), 0, 7)) = some (r1, r2, r3, r4, r5, r6, r7) := by rw [if_neg (show ¬ (false = true) by decide)] at H; exact H
   clear H
   have H := H1
   clear H1
   simp only [Option.some.injEq, Prod.mk.injEq] at H
   obtain ⟨rfl, rfl, rfl, rfl, rfl, rfl, rfl⟩ := H
   go_enter Tryd.func28, Tryd.ntmps28
   go_wp2_with (first | ((with_reducible refine gate_dst (N := 2) rfl ?_); refine box_event ?hg (N := 2) ?hd (cs := #[.int .i64 a0_0, .string a0_1, .string a0_2, .int .i64 a0_3, .slice A0_4 l0_4.length c0_4, .int .i64 a0_5]) (t := 26) ?hr ?_; (case hd => rfl); (case hg => rfl); (case hr => first | (go_simp; done) | (go_simp; rfl)); intro gb592 hg w57 hbox hb; have BK592 := Az.mk (hbox); have GW592 := Az.mk (geO hg (pbE HB.out)); have GE592 := Az.mk (geO hg (pbE HB.out)); replace HB := Az.mk (pbT (by exact pbE HB.out) hb); clear hb hbox hg) | ((with_reducible refine gate_dst (N := 4) rfl ?_); refine box_event ?hg (N := 4) ?hd (cs := #[.int .i64 0, .string (⟨#[]⟩ : ByteArray), .string (⟨#[]⟩ : ByteArray), .int .i64 0, .slice none 0 0, .int .i64 0]) (t := 26) ?hr ?_; (case hd => rfl); (case hg => rfl); (case hr => first | (go_simp; done) | (go_simp; rfl)); intro gb593 hg w58 hbox hb; have BK593 := Az.mk (hbox); have GW593 := Az.mk (geO hg (pbE HB.out)); have GE593 := Az.mk (geO hg (pbE HB.out)); replace HB := Az.mk (pbT (by exact pbE HB.out) hb); have NB592_593 := Az.mk (neO hg (bk BK592.out)); have NB593_592 := Az.mk (neP hg (bk BK592.out)); replace BK592 := Az.mk (bkB (bk BK592.out) hb); clear hb hbox hg; have hnb59 := NB592_593.out; have hnc59 := NB593_592.out; have hcz60 := cells6 BK592.out) | ((with_reducible refine gtc (f := 53) rfl ?_); refine goesL_ (some 13) rfl rfl Tryd.func53 (by kernel_rfl) rfl #[.agg #[.int .i64 a0_0, .string a0_1, .string a0_2, .int .i64 a0_3, .slice A0_4 l0_4.length c0_4, .int .i64 a0_5], .int .i64 a1] rfl (by (try simp only [List.map_toArray, List.map_cons, List.map_nil]); first | done | rfl | (simp only [List.length_drop, List.length_take]; rfl)) ?_; (with_reducible refine (r06_Has.calls k a0_0 a0_1 a0_2 a0_3 _ _ l0_4 a0_5 a1 t594 t595 false _ ?side1 ?side2 ?side3 A3.out).mono ?_); (case side1 => exact hG.below (by exact pbE HB.out)); (case side2 => repeat (first | exact (Kd.C_below HR0_4.out HB.out) | (with_reducible refine Kd.C_alloc ?_ _) | (with_reducible refine Kd.C_drewN ?_ _) | (with_reducible refine Kd.C_drew ?_))); (case side3 => exact HC0_4.out); rintro e w61 ⟨rfl, hb⟩; refine ⟨_, rfl, ?_⟩; replace BK592 := Az.mk (bkB (bk BK592.out) hb); replace BK593 := Az.mk (bkB (bk BK593.out) hb); replace HB := Az.mk (pbT (by exact pbE HB.out) hb); (try clear hb); (try clear hb2); (try clear hk); (try clear hi)) | ((with_reducible refine gate_dst (N := 6) rfl ?_); refine box_event ?hg (N := 6) ?hd (cs := #[.int .i64 0, .int .i64 0]) (t := 60) ?hr ?_; (case hd => rfl); (case hg => rfl); (case hr => first | (go_simp; done) | (go_simp; rfl)); intro gb597 hg w62 hbox hb; have BK597 := Az.mk (hbox); have GW597 := Az.mk (geO hg (pbE HB.out)); have GE597 := Az.mk (geO hg (pbE HB.out)); replace HB := Az.mk (pbT (by exact pbE HB.out) hb); have NB592_597 := Az.mk (neO hg (bk BK592.out)); have NB597_592 := Az.mk (neP hg (bk BK592.out)); replace BK592 := Az.mk (bkB (bk BK592.out) hb); have NB593_597 := Az.mk (neO hg (bk BK593.out)); have NB597_593 := Az.mk (neP hg (bk BK593.out)); replace BK593 := Az.mk (bkB (bk BK593.out) hb); clear hb hbox hg; have hnb63 := NB597_592.out; have hnc63 := NB592_597.out; have hnb64 := NB597_593.out; have hnc64 := NB593_597.out; have hcz65 := cells2 BK597.out; have hcz66 := cells6 BK592.out) | ((with_reducible refine gtc (f := 34) rfl ?_); refine goesL_ (some 18) rfl rfl Tryd.func34 (by kernel_rfl) rfl #[.agg #[.int .i64 a0_0, .string a0_1, .string a0_2, .int .i64 a0_3, .slice A0_4 l0_4.length c0_4, .int .i64 a0_5]] rfl (by (try simp only [List.map_toArray, List.map_cons, List.map_nil]); first | done | rfl | (simp only [List.length_drop, List.length_take]; rfl)) ?_; (with_reducible refine (r06_Is.calls k a0_0 a0_1 a0_2 a0_3 _ _ l0_4 a0_5 true _ ?side1 ?side2 ?side3 A4.out).mono ?_); (case side1 => exact hG.below (by exact pbE HB.out)); (case side2 => exact Kd.C_below HR0_4.out (by exact pbE HB.out)); (case side3 => exact HC0_4.out); rintro e w67 ⟨rfl, hb⟩; refine ⟨_, rfl, ?_⟩; replace BK592 := Az.mk (bkB (bf BK592.out) hb); replace BK593 := Az.mk (bkB (bf BK593.out) hb); replace BK597 := Az.mk (bkB (g := gb597) (o := .cells #[.int .i64 t594, .int .i64 t595] 60 (0, 0)) (by refine bk ?_; refine blk_put (cs := #[.int .i64 t594, .int .i64 0]) ?_ 1 _ rfl; refine bk ?_; refine blk_put (cs := #[.int .i64 0, .int .i64 0]) ?_ 0 _ rfl; refine bk ?_; exact BK597.out) hb); replace HB := Az.mk (pbT (by exact pbE HB.out) hb); (try clear hb); (try clear hb2); (try clear hk); (try clear hi); have hcz68 := cells6 BK593.out))
   refine bodyPost_ret (results_ct rfl _ _ gb593 26 #[.int .i64 0, .string (⟨#[]⟩ : ByteArray), .string (⟨#[]⟩ : ByteArray), .int .i64 0, .slice none 0 0, .int .i64 0] (0, 0) _ rfl (by refine bk ?_; refine blk_put (cs := #[.int .i64 0, .string (⟨#[]⟩ : ByteArray), .string (⟨#[]⟩ : ByteArray), .int .i64 0, .slice none 0 0, .int .i64 0]) ?_ 5 _ rfl; refine bk ?_; refine blk_put (cs := #[.int .i64 0, .string (⟨#[]⟩ : ByteArray), .string (⟨#[]⟩ : ByteArray), .int .i64 0, .slice none 0 0, .int .i64 0]) ?_ 4 _ rfl; refine bk ?_; refine blk_put (cs := #[.int .i64 0, .string (⟨#[]⟩ : ByteArray), .string (⟨#[]⟩ : ByteArray), .int .i64 0, .slice none 0 0, .int .i64 0]) ?_ 3 _ rfl; refine bk ?_; refine blk_put (cs := #[.int .i64 0, .string (⟨#[]⟩ : ByteArray), .string (⟨#[]⟩ : ByteArray), .int .i64 0, .slice none 0 0, .int .i64 0]) ?_ 2 _ rfl; refine bk ?_; refine blk_put (cs := #[.int .i64 0, .string (⟨#[]⟩ : ByteArray), .string (⟨#[]⟩ : ByteArray), .int .i64 0, .slice none 0 0, .int .i64 0]) ?_ 1 _ rfl; refine bk ?_; refine blk_put (cs := #[.int .i64 0, .string (⟨#[]⟩ : ByteArray), .string (⟨#[]⟩ : ByteArray), .int .i64 0, .slice none 0 0, .int .i64 0]) ?_ 0 _ rfl; refine bk ?_; exact BK593.out) Tryd.underlying26 rfl (by kernel_rfl)) rfl ?_
   exact ⟨_, by first | rfl | (simp [errW_none, errW_some] <;> rfl) | (simp [*, errW_none, errW_some] <;> rfl), Kd.V_nil _ _ _ _ _, by exact pbE HB.out⟩
 ·replace c5 := Bool.eq_false_iff.mpr c5
  subst c5
  have H1 : (some (0, (⟨#[]⟩ : ByteArray), (⟨#[]⟩ : ByteArray), 0, ([] : List (S60)), 0, 60)) = some (r1, r2, r3, r4, r5, r6, r7) := by rw [if_neg (show ¬ (false = true) by decide)] at H; exact H
  clear H
  have H := H1
  clear H1
  simp only [Option.some.injEq, Prod.mk.injEq] at H
  obtain ⟨rfl, rfl, rfl, rfl, rfl, rfl, rfl⟩ := H
  go_enter Tryd.func28, Tryd.ntmps28
  go_wp2_with (first | ((with_reducible refine gate_dst (N := 2) rfl ?_); refine box_event ?hg (N := 2) ?hd (cs := #[.int .i64 a0_0, .string a0_1, .string a0_2, .int .i64 a0_3, .slice A0_4 l0_4.length c0_4, .int .i64 a0_5]) (t := 26) ?hr ?_; (case hd => rfl); (case hg => rfl); (case hr => first | (go_simp; done) | (go_simp; rfl)); intro gb592 hg w69 hbox hb; have BK592 := Az.mk (hbox); have GW592 := Az.mk (geO hg (pbE HB.out)); have GE592 := Az.mk (geO hg (pbE HB.out)); replace HB := Az.mk (pbT (by exact pbE HB.out) hb); clear hb hbox hg) | ((with_reducible refine gate_dst (N := 4) rfl ?_); refine box_event ?hg (N := 4) ?hd (cs := #[.int .i64 0, .string (⟨#[]⟩ : ByteArray), .string (⟨#[]⟩ : ByteArray), .int .i64 0, .slice none 0 0, .int .i64 0]) (t := 26) ?hr ?_; (case hd => rfl); (case hg => rfl); (case hr => first | (go_simp; done) | (go_simp; rfl)); intro gb593 hg w70 hbox hb; have BK593 := Az.mk (hbox); have GW593 := Az.mk (geO hg (pbE HB.out)); have GE593 := Az.mk (geO hg (pbE HB.out)); replace HB := Az.mk (pbT (by exact pbE HB.out) hb); have NB592_593 := Az.mk (neO hg (bk BK592.out)); have NB593_592 := Az.mk (neP hg (bk BK592.out)); replace BK592 := Az.mk (bkB (bk BK592.out) hb); clear hb hbox hg; have hnb71 := NB592_593.out; have hnc71 := NB593_592.out; have hcz72 := cells6 BK592.out) | ((with_reducible refine gtc (f := 53) rfl ?_); refine goesL_ (some 13) rfl rfl Tryd.func53 (by kernel_rfl) rfl #[.agg #[.int .i64 a0_0, .string a0_1, .string a0_2, .int .i64 a0_3, .slice A0_4 l0_4.length c0_4, .int .i64 a0_5], .int .i64 a1] rfl (by (try simp only [List.map_toArray, List.map_cons, List.map_nil]); first | done | rfl | (simp only [List.length_drop, List.length_take]; rfl)) ?_; (with_reducible refine (r06_Has.calls k a0_0 a0_1 a0_2 a0_3 _ _ l0_4 a0_5 a1 t594 t595 t596 _ ?side1 ?side2 ?side3 A3.out).mono ?_); (case side1 => exact hG.below (by exact pbE HB.out)); (case side2 => repeat (first | exact (Kd.C_below HR0_4.out HB.out) | (with_reducible refine Kd.C_alloc ?_ _) | (with_reducible refine Kd.C_drewN ?_ _) | (with_reducible refine Kd.C_drew ?_))); (case side3 => exact HC0_4.out); rintro e w73 ⟨rfl, hb⟩; refine ⟨_, rfl, ?_⟩; replace BK592 := Az.mk (bkB (bk BK592.out) hb); replace BK593 := Az.mk (bkB (bk BK593.out) hb); replace HB := Az.mk (pbT (by exact pbE HB.out) hb); (try clear hb); (try clear hb2); (try clear hk); (try clear hi)) | ((with_reducible refine gate_dst (N := 6) rfl ?_); refine box_event ?hg (N := 6) ?hd (cs := #[.int .i64 0, .int .i64 0]) (t := 60) ?hr ?_; (case hd => rfl); (case hg => rfl); (case hr => first | (go_simp; done) | (go_simp; rfl)); intro gb597 hg w74 hbox hb; have BK597 := Az.mk (hbox); have GW597 := Az.mk (geO hg (pbE HB.out)); have GE597 := Az.mk (geO hg (pbE HB.out)); replace HB := Az.mk (pbT (by exact pbE HB.out) hb); have NB592_597 := Az.mk (neO hg (bk BK592.out)); have NB597_592 := Az.mk (neP hg (bk BK592.out)); replace BK592 := Az.mk (bkB (bk BK592.out) hb); have NB593_597 := Az.mk (neO hg (bk BK593.out)); have NB597_593 := Az.mk (neP hg (bk BK593.out)); replace BK593 := Az.mk (bkB (bk BK593.out) hb); clear hb hbox hg; have hnb75 := NB597_592.out; have hnc75 := NB592_597.out; have hnb76 := NB597_593.out; have hnc76 := NB593_597.out; have hcz77 := cells2 BK597.out; have hcz78 := cells6 BK592.out) | ((with_reducible refine gtc (f := 34) rfl ?_); refine goesL_ (some 18) rfl rfl Tryd.func34 (by kernel_rfl) rfl #[.agg #[.int .i64 a0_0, .string a0_1, .string a0_2, .int .i64 a0_3, .slice A0_4 l0_4.length c0_4, .int .i64 a0_5]] rfl (by (try simp only [List.map_toArray, List.map_cons, List.map_nil]); first | done | rfl | (simp only [List.length_drop, List.length_take]; rfl)) ?_; (with_reducible refine (r06_Is.calls k a0_0 a0_1 a0_2 a0_3 _ _ l0_4 a0_5 false _ ?side1 ?side2 ?side3 A4.out).mono ?_); (case side1 => exact hG.below (by exact pbE HB.out)); (case side2 => exact Kd.C_below HR0_4.out (by exact pbE HB.out)); (case side3 => exact HC0_4.out); rintro e w79 ⟨rfl, hb⟩; refine ⟨_, rfl, ?_⟩; replace BK592 := Az.mk (bkB (bf BK592.out) hb); replace BK593 := Az.mk (bkB (bf BK593.out) hb); replace BK597 := Az.mk (bkB (g := gb597) (o := .cells #[.int .i64 t594, .int .i64 t595] 60 (0, 0)) (by refine bk ?_; refine blk_put (cs := #[.int .i64 t594, .int .i64 0]) ?_ 1 _ rfl; refine bk ?_; refine blk_put (cs := #[.int .i64 0, .int .i64 0]) ?_ 0 _ rfl; refine bk ?_; exact BK597.out) hb); replace HB := Az.mk (pbT (by exact pbE HB.out) hb); (try clear hb); (try clear hb2); (try clear hk); (try clear hi); have hcz80 := cells6 BK593.out))
  refine bodyPost_ret (results_ct rfl _ _ gb593 26 #[.int .i64 0, .string (⟨#[]⟩ : ByteArray), .string (⟨#[]⟩ : ByteArray), .int .i64 0, .slice none 0 0, .int .i64 0] (0, 0) _ rfl (by refine bk ?_; refine blk_put (cs := #[.int .i64 0, .string (⟨#[]⟩ : ByteArray), .string (⟨#[]⟩ : ByteArray), .int .i64 0, .slice none 0 0, .int .i64 0]) ?_ 5 _ rfl; refine bk ?_; refine blk_put (cs := #[.int .i64 0, .string (⟨#[]⟩ : ByteArray), .string (⟨#[]⟩ : ByteArray), .int .i64 0, .slice none 0 0, .int .i64 0]) ?_ 4 _ rfl; refine bk ?_; refine blk_put (cs := #[.int .i64 0, .string (⟨#[]⟩ : ByteArray), .string (⟨#[]⟩ : ByteArray), .int .i64 0, .slice none 0 0, .int .i64 0]) ?_ 3 _ rfl; refine bk ?_; refine blk_put (cs := #[.int .i64 0, .string (⟨#[]⟩ : ByteArray), .string (⟨#[]⟩ : ByteArray), .int .i64 0, .slice none 0 0, .int .i64 0]) ?_ 2 _ rfl; refine bk ?_; refine blk_put (cs := #[.int .i64 0, .string (⟨#[]⟩ : ByteArray), .string (⟨#[]⟩ : ByteArray), .int .i64 0, .slice none 0 0, .int .i64 0]) ?_ 1 _ rfl; refine bk ?_; refine blk_put (cs := #[.int .i64 0, .string (⟨#[]⟩ : ByteArray), .string (⟨#[]⟩ : ByteArray), .int .i64 0, .slice none 0 0, .int .i64 0]) ?_ 0 _ rfl; refine bk ?_; exact BK593.out) Tryd.underlying26 rfl (by kernel_rfl)) rfl ?_
  exact ⟨_, by first | rfl | (simp [errW_none, errW_some] <;> rfl) | (simp [*, errW_none, errW_some] <;> rfl), Kd.V_nil _ _ _ _ _, by exact pbE HB.out⟩
end Go.Proofs.YtjfhcijjjadhbaaDoor.P
end
section
namespace Go.Proofs.YtjfhcijjjadhbaaDoor.P
open Go.RowKit Go.Proofs.YtjfhcijjjadhbaaDoor.K Go.Proofs.YtjfhcijjjadhbaaDoorW.PrintWords Go.Proofs.YtjfhcijjjadhbaaDoorW.PrintLast Go.Proofs.YtjfhcijjjadhbaaDoorW.PrintMore
attribute [local go_sem] max2_int min2_int max_two min_two max_three min_three max_four min_four   -- for this text's walks alone
attribute [local go_sem high] eqA60
def r06_Members.l0 : Nat → List (S60) → List (S60) → Int → Option (Bool)
 | 0, _, _, _ => none
 | k + 1, x0, x1, x5 => if x5 < (x0.length : Int) then (if 0 ≤ x5 then (if x5 < (x1.length : Int) then (if (!(((rd_T60 x0 x5).f0) == ((rd_T60 x1 x5).f0)) || (!(((rd_T60 x0 x5).f1) == ((rd_T60 x1 x5).f1)))) = true then (some false) else (r06_Members.l0 k x0 x1 (wrap64 (x5 + 1)))) else (none)) else (none)) else (some true)
def r06_Members.f (k : Nat) (l0 : List (S60)) (l1 : List (S60)) : Option (Bool) := if (l0.length : Int) = (l1.length : Int) then (r06_Members.l0 k l0 l1 0) else (some false)
theorem r06_Members.mono_l : ∀ k, (∀ y0 y1 y2, LeO (r06_Members.l0 k y0 y1 y2) (r06_Members.l0 (k + 1) y0 y1 y2))
 | 0 => fun _ _ _ r h => by simp [r06_Members.l0] at h
 | k + 1 => by
  have ih0 := r06_Members.mono_l k
  ·intro y0 y1 y2
   unfold r06_Members.l0
   repeat' first
   | (with_reducible exact ih0 _ _ _)
   | (with_reducible exact LeO.refl _)
   | (with_reducible exact LeO.none _)
   | (with_reducible refine LeO.ite ?_ ?_)
   | (with_reducible refine LeO.bind ?_ (fun _ => ?_))
   | exact ih0 _ _ _
   | exact LeO.none _
   | refine LeO.ite ?_ ?_
   | refine LeO.bind ?_ (fun _ => ?_)
theorem r06_Members.mono : ∀ a0 a1 k, LeO (r06_Members.f k a0 a1) (r06_Members.f (k + 1) a0 a1) := by
 intro a0 a1 k
 have ih0 := r06_Members.mono_l k
 unfold r06_Members.f
 repeat' first
  | (with_reducible exact ih0 _ _ _)
  | (with_reducible exact LeO.refl _)
  | (with_reducible exact LeO.none _)
  | (with_reducible refine LeO.ite ?_ ?_)
  | (with_reducible refine LeO.bind ?_ (fun _ => ?_))
  | exact ih0 _ _ _
  | exact LeO.none _
  | refine LeO.ite ?_ ?_
  | refine LeO.bind ?_ (fun _ => ?_)
set_option maxHeartbeats 8000000 in
set_option maxRecDepth 100000 in
theorem r06_Members.calls (k : Nat) (A0 : Option Addr) (c0 : Nat) (l0 : List (S60)) (A1 : Option Addr) (c1 : Nat) (l1 : List (S60)) (r : Bool) (w : World) (hG : TheG w) (hr0 : Kd.C k60 w A0 l0.length l0) (hc0 : l0.length ≤ c0) (hr1 : Kd.C k60 w A1 l1.length l1) (hc1 : l1.length ≤ c1) (h : r06_Members.f k l0 l1 = some r) :
 Calls Tryd.prog 31 #[.slice A0 l0.length c0, .slice A1 l1.length c1] w fun e w' => e = .returned (.bool r) ∧ Drawn0 w w' := by
 have hu60 := Tryd.underlying60
 have HR0 := Az.mk hr0
 have HC0 := Az.mk hc0
 clear hr0 hc0
 have HR1 := Az.mk hr1
 have HC1 := Az.mk hc1
 clear hr1 hc1
 have H : (if (l0.length : Int) = (l1.length : Int) then (r06_Members.l0 k l0 l1 0) else (some false)) = some r := h
 clear h
 by_cases c3 : (l0.length : Int) = (l1.length : Int)
 ·rw [if_pos c3] at H
  have c3b0 : ((l0.length : Int) == (l1.length : Int)) = true := beq_iff_eq.mpr c3
  have c3b1 : ((l0.length : Int) != (l1.length : Int)) = false := bne_eq_false_iff_eq.mpr c3
  have c3b2 : (l0.length == l1.length) = true := by first | simpa using c3 | (simp at c3 ⊢; omega)
  clear c3
  have H' := Az.mk H
  clear H
  go_enter Tryd.func31, Tryd.ntmps31
  go_wp2
  repeat (go_quiet (fail); try go_wp2)
  go_loopg [5] k (fun kq v5 w' => ∃ (x5_1 : Int), v5 = .int .i64 x5_1 ∧ Az (r06_Members.l0 kq l0 l1 x5_1 = some r) ∧ Az (kq ≤ k) ∧ Drawn0 w w')
  case atStart => exact ⟨(0), (by first | rfl | (simp; done) | (simp [*]; done)), H', ⟨Nat.le_refl _⟩, by repeat (first | exact Drawn0.refl _ | apply Drawn0.step)⟩
  case round =>
   clear H'
   try clear c1
   try clear p2
   try clear c3
   try clear c3b0
   try clear c3b1
   try clear c3b2
   obtain ⟨x5_1, rfl, HA, HK1, ⟨m1, rfl⟩⟩ := hrel
   cases gk with
   | zero => exact absurd HA.out (by simp [r06_Members.l0])
   | succ k1 =>
    have H := HA.out
    clear HA
    simp only [r06_Members.l0] at H
    by_cases c4 : x5_1 < (l0.length : Int)
    ·rw [if_pos c4] at H
     have c4b0 : decide (x5_1 < (l0.length : Int)) = true := decide_eq_true c4
     clear c4
     by_cases c5 : 0 ≤ x5_1
     ·rw [if_pos c5] at H
      have c5b0 : decide (0 ≤ x5_1) = true := decide_eq_true c5
      clear c5
      by_cases c6 : x5_1 < (l1.length : Int)
      ·rw [if_pos c6] at H
       have c6b0 : decide (x5_1 < (l1.length : Int)) = true := decide_eq_true c6
       clear c6
       by_cases c7 : (!(((rd_T60 l0 x5_1).f0) == ((rd_T60 l1 x5_1).f0)) || (!(((rd_T60 l0 x5_1).f1) == ((rd_T60 l1 x5_1).f1)))) = true
       ·rw [if_pos c7] at H
        have c7b0 : (!(((rd_T60 l0 x5_1).f0) == ((rd_T60 l1 x5_1).f0)) || (!(((rd_T60 l0 x5_1).f1) == ((rd_T60 l1 x5_1).f1)))) = true := c7
        clear c7
        obtain rfl := Option.some.inj H
        have p140 : 0 ≤ (x5_1 : Int) := of_decide_eq_true (by first | (with_reducible assumption) | assumption)
        have q140 : x5_1 < (l0.length : Int) := of_decide_eq_true (by first | (with_reducible assumption) | assumption)
        obtain ⟨ad140, e140, hx140_0, hx140_1⟩ := at_T60 HR0.out x5_1 p140 q140
        cases e140
        replace p140 := eq_true p140
        replace q140 := eq_true q140
        have p141 : 0 ≤ (x5_1 : Int) := of_decide_eq_true (by first | (with_reducible assumption) | assumption)
        have q141 : x5_1 < (l1.length : Int) := of_decide_eq_true (by first | (with_reducible assumption) | assumption)
        obtain ⟨ad141, e141, hx141_0, hx141_1⟩ := at_T60 HR1.out x5_1 p141 q141
        cases e141
        replace p141 := eq_true p141
        replace q141 := eq_true q141
        go_wp2
        repeat (go_quiet (fail); try go_wp2)
        go_ret
        exact ⟨by first | rfl | (simp; done) | (simp [*]; done), by repeat (first | exact Drawn0.refl _ | apply Drawn0.step)⟩
       ·rw [if_neg c7] at H
        have c7b0 : (!(((rd_T60 l0 x5_1).f0) == ((rd_T60 l1 x5_1).f0)) || (!(((rd_T60 l0 x5_1).f1) == ((rd_T60 l1 x5_1).f1)))) = false := by simpa using c7
        clear c7
        have H' := Az.mk H
        clear H
        have p140 : 0 ≤ (x5_1 : Int) := of_decide_eq_true (by first | (with_reducible assumption) | assumption)
        have q140 : x5_1 < (l0.length : Int) := of_decide_eq_true (by first | (with_reducible assumption) | assumption)
        obtain ⟨ad140, e140, hx140_0, hx140_1⟩ := at_T60 HR0.out x5_1 p140 q140
        cases e140
        replace p140 := eq_true p140
        replace q140 := eq_true q140
        have p141 : 0 ≤ (x5_1 : Int) := of_decide_eq_true (by first | (with_reducible assumption) | assumption)
        have q141 : x5_1 < (l1.length : Int) := of_decide_eq_true (by first | (with_reducible assumption) | assumption)
        obtain ⟨ad141, e141, hx141_0, hx141_1⟩ := at_T60 HR1.out x5_1 p141 q141
        cases e141
        replace p141 := eq_true p141
        replace q141 := eq_true q141
        go_wp2
        repeat (go_quiet (fail); try go_wp2)
        go_roundg k1
        case measure => have := HK1.out; omega
        case rel => exact ⟨(wrap64 (x5_1 + 1)), (by first | rfl | (simp; done) | (simp [*]; done)), H', ⟨by have := HK1.out; omega⟩, by repeat (first | exact Drawn0.refl _ | apply Drawn0.step)⟩
      ·rw [if_neg c6] at H
       exact absurd H (by simp)
     ·rw [if_neg c5] at H
      exact absurd H (by simp)
    ·rw [if_neg c4] at H
     have c4b0 : decide (x5_1 < (l0.length : Int)) = false := decide_eq_false c4
     clear c4
     obtain rfl := Option.some.inj H
     go_wp2
     repeat (go_quiet (fail); try go_wp2)
     go_ret
     exact ⟨by first | rfl | (simp; done) | (simp [*]; done), by repeat (first | exact Drawn0.refl _ | apply Drawn0.step)⟩
 ·rw [if_neg c3] at H
  have c3b0 : ((l0.length : Int) == (l1.length : Int)) = false := beq_eq_false_iff_ne.mpr c3
  have c3b1 : ((l0.length : Int) != (l1.length : Int)) = true := bne_iff_ne.mpr c3
  have c3b2 : (l0.length == l1.length) = false := by first | simpa using c3 | (simp at c3 ⊢; omega)
  obtain rfl := Option.some.inj H
  go_enter Tryd.func31, Tryd.ntmps31
  go_wp2
  repeat (go_quiet (fail); try go_wp2)
  go_ret
  exact ⟨by first | rfl | (simp; done) | (simp [*]; done), by repeat (first | exact Drawn0.refl _ | apply Drawn0.step)⟩
end Go.Proofs.YtjfhcijjjadhbaaDoor.P
end
section
namespace Go.Proofs.YtjfhcijjjadhbaaDoor.P
open Go.RowKit Go.Proofs.YtjfhcijjjadhbaaDoor.K Go.Proofs.YtjfhcijjjadhbaaDoorW.PrintWords Go.Proofs.YtjfhcijjjadhbaaDoorW.PrintLast Go.Proofs.YtjfhcijjjadhbaaDoorW.PrintMore
attribute [local go_sem] max2_int min2_int max_two min_two max_three min_three max_four min_four   -- for this text's walks alone
attribute [local go_sem high] eqA23
def r06_Same.f (k : Nat) (a0_0 : Int) (a0_1 : ByteArray) (a0_2 : ByteArray) (a0_3 : Int) (l0_4 : List (S60)) (a0_5 : Int) (a1_0 : Int) (a1_1 : ByteArray) (a1_2 : ByteArray) (a1_3 : Int) (l1_4 : List (S60)) (a1_5 : Int) : Option (Bool) := if a0_0 = a1_0 then (if (a0_1.toList == a1_1.toList && (a0_2.toList == a1_2.toList)) = true then (if a0_3 = a1_3 then (if a0_5 = a1_5 then ((r06_Members.f k l0_4 l1_4).bind fun t144 => (some t144)) else (some false)) else (some false)) else (some false)) else (some false)
theorem r06_Same.mono : ∀ a0 a1 a2 a3 a4 a5 a6 a7 a8 a9 a10 a11 k, LeO (r06_Same.f k a0 a1 a2 a3 a4 a5 a6 a7 a8 a9 a10 a11) (r06_Same.f (k + 1) a0 a1 a2 a3 a4 a5 a6 a7 a8 a9 a10 a11) := by
 intro a0 a1 a2 a3 a4 a5 a6 a7 a8 a9 a10 a11 k
 unfold r06_Same.f
 repeat' first
  | (with_reducible exact r06_Members.mono _ _ _)
  | (with_reducible exact LeO.refl _)
  | (with_reducible exact LeO.none _)
  | (with_reducible refine LeO.ite ?_ ?_)
  | (with_reducible refine LeO.bind ?_ (fun _ => ?_))
  | exact r06_Members.mono _ _ _
  | exact LeO.none _
  | refine LeO.ite ?_ ?_
  | refine LeO.bind ?_ (fun _ => ?_)
set_option maxHeartbeats 8000000 in
set_option maxRecDepth 100000 in
theorem r06_Same.calls (k : Nat) (a0_0 : Int) (a0_1 : ByteArray) (a0_2 : ByteArray) (a0_3 : Int) (A0_4 : Option Addr) (c0_4 : Nat) (l0_4 : List (S60)) (a0_5 : Int) (a1_0 : Int) (a1_1 : ByteArray) (a1_2 : ByteArray) (a1_3 : Int) (A1_4 : Option Addr) (c1_4 : Nat) (l1_4 : List (S60)) (a1_5 : Int) (r : Bool) (w : World) (hG : TheG w) (hr0_4 : Kd.C k60 w A0_4 l0_4.length l0_4) (hc0_4 : l0_4.length ≤ c0_4) (hr1_4 : Kd.C k60 w A1_4 l1_4.length l1_4) (hc1_4 : l1_4.length ≤ c1_4) (h : r06_Same.f k a0_0 a0_1 a0_2 a0_3 l0_4 a0_5 a1_0 a1_1 a1_2 a1_3 l1_4 a1_5 = some r) :
 Calls Tryd.prog 16 #[.agg #[.int .i64 a0_0, .string a0_1, .string a0_2, .int .i64 a0_3, .slice A0_4 l0_4.length c0_4, .int .i64 a0_5], .agg #[.int .i64 a1_0, .string a1_1, .string a1_2, .int .i64 a1_3, .slice A1_4 l1_4.length c1_4, .int .i64 a1_5]] w fun e w' => e = .returned (.bool r) ∧ Below w.heap.size w w' := by
 have hu26 := Tryd.underlying26
 have hu23 := Tryd.underlying23
 have HR0_4 := Az.mk hr0_4
 have HC0_4 := Az.mk hc0_4
 clear hr0_4 hc0_4
 have HR1_4 := Az.mk hr1_4
 have HC1_4 := Az.mk hc1_4
 clear hr1_4 hc1_4
 have HB := Az.mk (Below.refl w.heap.size w)
 have H : (if a0_0 = a1_0 then (if (a0_1.toList == a1_1.toList && (a0_2.toList == a1_2.toList)) = true then (if a0_3 = a1_3 then (if a0_5 = a1_5 then ((r06_Members.f k l0_4 l1_4).bind fun t144 => (some t144)) else (some false)) else (some false)) else (some false)) else (some false)) = some r := h
 clear h
 by_cases c3 : a0_0 = a1_0
 ·rw [if_pos c3] at H
  have c3b0 : (a0_0 == a1_0) = true := beq_iff_eq.mpr c3
  have c3b1 : (a0_0 != a1_0) = false := bne_eq_false_iff_eq.mpr c3
  clear c3
  by_cases c4 : (a0_1.toList == a1_1.toList && (a0_2.toList == a1_2.toList)) = true
  ·rw [if_pos c4] at H
   have c4b0 : (a0_1.toList == a1_1.toList && (a0_2.toList == a1_2.toList)) = true := c4
   (try (have c4b1 : decide (a0_1.toList = a1_1.toList && (a0_2.toList == a1_2.toList)) = true := by simpa using c4))
   (try (have c4b2 : (a0_1.toList == a1_1.toList && (a0_2.toList == a1_2.toList)) = true := by simpa using c4))
   clear c4
   by_cases c5 : a0_3 = a1_3
   ·rw [if_pos c5] at H
    have c5b0 : (a0_3 == a1_3) = true := beq_iff_eq.mpr c5
    have c5b1 : (a0_3 != a1_3) = false := bne_eq_false_iff_eq.mpr c5
    clear c5
    by_cases c6 : a0_5 = a1_5
    ·rw [if_pos c6] at H
     have c6b0 : (a0_5 == a1_5) = true := beq_iff_eq.mpr c6
     have c6b1 : (a0_5 != a1_5) = false := bne_eq_false_iff_eq.mpr c6
     clear c6
     replace H := Option.bind_eq_some_iff.mp H
     obtain ⟨t144, A70, H⟩ := H
     replace H : (some t144) = some r := H
     have A7 := Az.mk A70
     clear A70
     obtain rfl := Option.some.inj H
     go_enter Tryd.func16, Tryd.ntmps16
     go_wp2_with (first | ((with_reducible refine gate_dst (N := 2) rfl ?_); refine box_event ?hg (N := 2) ?hd (cs := #[.int .i64 a0_0, .string a0_1, .string a0_2, .int .i64 a0_3, .slice A0_4 l0_4.length c0_4, .int .i64 a0_5]) (t := 26) ?hr ?_; (case hd => rfl); (case hg => rfl); (case hr => first | (go_simp; done) | (go_simp; rfl)); intro gb142 hg w8 hbox hb; have BK142 := Az.mk (hbox); have GW142 := Az.mk (geO hg (pbE HB.out)); have GE142 := Az.mk (geO hg (pbE HB.out)); replace HB := Az.mk (pbT (by exact pbE HB.out) hb); clear hb hbox hg) | ((with_reducible refine gate_dst (N := 3) rfl ?_); refine box_event ?hg (N := 3) ?hd (cs := #[.int .i64 a1_0, .string a1_1, .string a1_2, .int .i64 a1_3, .slice A1_4 l1_4.length c1_4, .int .i64 a1_5]) (t := 26) ?hr ?_; (case hd => rfl); (case hg => rfl); (case hr => first | (go_simp; done) | (go_simp; rfl)); intro gb143 hg w9 hbox hb; have BK143 := Az.mk (hbox); have GW143 := Az.mk (geO hg (pbE HB.out)); have GE143 := Az.mk (geO hg (pbE HB.out)); replace HB := Az.mk (pbT (by exact pbE HB.out) hb); have NB142_143 := Az.mk (neO hg (bk BK142.out)); have NB143_142 := Az.mk (neP hg (bk BK142.out)); replace BK142 := Az.mk (bkB (bk BK142.out) hb); clear hb hbox hg; have hnb10 := NB142_143.out; have hnc10 := NB143_142.out; have hcz11 := cells6 BK142.out; have hcz12 := cells6 BK143.out) | (go_at_call 31; (with_reducible refine (r06_Members.calls k _ _ l0_4 _ _ l1_4 t144 _ ?side1 ?side2 ?side3 ?side4 ?side5 A7.out).mono ?_); (case side1 => exact hG.below (by exact pbE HB.out)); (case side2 => repeat (first | exact (Kd.C_below HR0_4.out HB.out) | (with_reducible refine Kd.C_alloc ?_ _) | (with_reducible refine Kd.C_drewN ?_ _) | (with_reducible refine Kd.C_drew ?_))); (case side3 => exact HC0_4.out); (case side4 => repeat (first | exact (Kd.C_below HR1_4.out HB.out) | (with_reducible refine Kd.C_alloc ?_ _) | (with_reducible refine Kd.C_drewN ?_ _) | (with_reducible refine Kd.C_drew ?_))); (case side5 => exact HC1_4.out); rintro e w' ⟨rfl, ⟨nd, rfl⟩⟩))
     go_ret
     exact ⟨by first | rfl | (simp [errW_none, errW_some] <;> rfl) | (simp [*, errW_none, errW_some] <;> rfl), by exact pbE HB.out⟩
    ·rw [if_neg c6] at H
     have c6b0 : (a0_5 == a1_5) = false := beq_eq_false_iff_ne.mpr c6
     have c6b1 : (a0_5 != a1_5) = true := bne_iff_ne.mpr c6
     obtain rfl := Option.some.inj H
     go_enter Tryd.func16, Tryd.ntmps16
     go_wp2_with (first | ((with_reducible refine gate_dst (N := 2) rfl ?_); refine box_event ?hg (N := 2) ?hd (cs := #[.int .i64 a0_0, .string a0_1, .string a0_2, .int .i64 a0_3, .slice A0_4 l0_4.length c0_4, .int .i64 a0_5]) (t := 26) ?hr ?_; (case hd => rfl); (case hg => rfl); (case hr => first | (go_simp; done) | (go_simp; rfl)); intro gb142 hg w13 hbox hb; have BK142 := Az.mk (hbox); have GW142 := Az.mk (geO hg (pbE HB.out)); have GE142 := Az.mk (geO hg (pbE HB.out)); replace HB := Az.mk (pbT (by exact pbE HB.out) hb); clear hb hbox hg) | ((with_reducible refine gate_dst (N := 3) rfl ?_); refine box_event ?hg (N := 3) ?hd (cs := #[.int .i64 a1_0, .string a1_1, .string a1_2, .int .i64 a1_3, .slice A1_4 l1_4.length c1_4, .int .i64 a1_5]) (t := 26) ?hr ?_; (case hd => rfl); (case hg => rfl); (case hr => first | (go_simp; done) | (go_simp; rfl)); intro gb143 hg w14 hbox hb; have BK143 := Az.mk (hbox); have GW143 := Az.mk (geO hg (pbE HB.out)); have GE143 := Az.mk (geO hg (pbE HB.out)); replace HB := Az.mk (pbT (by exact pbE HB.out) hb); have NB142_143 := Az.mk (neO hg (bk BK142.out)); have NB143_142 := Az.mk (neP hg (bk BK142.out)); replace BK142 := Az.mk (bkB (bk BK142.out) hb); clear hb hbox hg; have hnb15 := NB142_143.out; have hnc15 := NB143_142.out; have hcz16 := cells6 BK142.out; have hcz17 := cells6 BK143.out))
     go_ret
     exact ⟨by first | rfl | (simp [errW_none, errW_some] <;> rfl) | (simp [*, errW_none, errW_some] <;> rfl), by exact pbE HB.out⟩
   ·rw [if_neg c5] at H
    have c5b0 : (a0_3 == a1_3) = false := beq_eq_false_iff_ne.mpr c5
    have c5b1 : (a0_3 != a1_3) = true := bne_iff_ne.mpr c5
    obtain rfl := Option.some.inj H
    go_enter Tryd.func16, Tryd.ntmps16
    go_wp2_with (first | ((with_reducible refine gate_dst (N := 2) rfl ?_); refine box_event ?hg (N := 2) ?hd (cs := #[.int .i64 a0_0, .string a0_1, .string a0_2, .int .i64 a0_3, .slice A0_4 l0_4.length c0_4, .int .i64 a0_5]) (t := 26) ?hr ?_; (case hd => rfl); (case hg => rfl); (case hr => first | (go_simp; done) | (go_simp; rfl)); intro gb142 hg w18 hbox hb; have BK142 := Az.mk (hbox); have GW142 := Az.mk (geO hg (pbE HB.out)); have GE142 := Az.mk (geO hg (pbE HB.out)); replace HB := Az.mk (pbT (by exact pbE HB.out) hb); clear hb hbox hg) | ((with_reducible refine gate_dst (N := 3) rfl ?_); refine box_event ?hg (N := 3) ?hd (cs := #[.int .i64 a1_0, .string a1_1, .string a1_2, .int .i64 a1_3, .slice A1_4 l1_4.length c1_4, .int .i64 a1_5]) (t := 26) ?hr ?_; (case hd => rfl); (case hg => rfl); (case hr => first | (go_simp; done) | (go_simp; rfl)); intro gb143 hg w19 hbox hb; have BK143 := Az.mk (hbox); have GW143 := Az.mk (geO hg (pbE HB.out)); have GE143 := Az.mk (geO hg (pbE HB.out)); replace HB := Az.mk (pbT (by exact pbE HB.out) hb); have NB142_143 := Az.mk (neO hg (bk BK142.out)); have NB143_142 := Az.mk (neP hg (bk BK142.out)); replace BK142 := Az.mk (bkB (bk BK142.out) hb); clear hb hbox hg; have hnb20 := NB142_143.out; have hnc20 := NB143_142.out; have hcz21 := cells6 BK142.out; have hcz22 := cells6 BK143.out))
    go_ret
    exact ⟨by first | rfl | (simp [errW_none, errW_some] <;> rfl) | (simp [*, errW_none, errW_some] <;> rfl), by exact pbE HB.out⟩
  ·rw [if_neg c4] at H
   have c4b0 : (a0_1.toList == a1_1.toList && (a0_2.toList == a1_2.toList)) = false := by simpa using c4
   (try (have c4b1 : decide (a0_1.toList = a1_1.toList && (a0_2.toList == a1_2.toList)) = false := by simpa using c4))
   (try (have c4b2 : (a0_1.toList == a1_1.toList && (a0_2.toList == a1_2.toList)) = false := by simpa using c4))
   (try (have c4b3 : ¬ (a0_1.toList = a1_1.toList && (a0_2.toList == a1_2.toList)) := by simpa using c4))
   clear c4
   obtain rfl := Option.some.inj H
   go_enter Tryd.func16, Tryd.ntmps16
   go_wp2_with (first | ((with_reducible refine gate_dst (N := 2) rfl ?_); refine box_event ?hg (N := 2) ?hd (cs := #[.int .i64 a0_0, .string a0_1, .string a0_2, .int .i64 a0_3, .slice A0_4 l0_4.length c0_4, .int .i64 a0_5]) (t := 26) ?hr ?_; (case hd => rfl); (case hg => rfl); (case hr => first | (go_simp; done) | (go_simp; rfl)); intro gb142 hg w23 hbox hb; have BK142 := Az.mk (hbox); have GW142 := Az.mk (geO hg (pbE HB.out)); have GE142 := Az.mk (geO hg (pbE HB.out)); replace HB := Az.mk (pbT (by exact pbE HB.out) hb); clear hb hbox hg) | ((with_reducible refine gate_dst (N := 3) rfl ?_); refine box_event ?hg (N := 3) ?hd (cs := #[.int .i64 a1_0, .string a1_1, .string a1_2, .int .i64 a1_3, .slice A1_4 l1_4.length c1_4, .int .i64 a1_5]) (t := 26) ?hr ?_; (case hd => rfl); (case hg => rfl); (case hr => first | (go_simp; done) | (go_simp; rfl)); intro gb143 hg w24 hbox hb; have BK143 := Az.mk (hbox); have GW143 := Az.mk (geO hg (pbE HB.out)); have GE143 := Az.mk (geO hg (pbE HB.out)); replace HB := Az.mk (pbT (by exact pbE HB.out) hb); have NB142_143 := Az.mk (neO hg (bk BK142.out)); have NB143_142 := Az.mk (neP hg (bk BK142.out)); replace BK142 := Az.mk (bkB (bk BK142.out) hb); clear hb hbox hg; have hnb25 := NB142_143.out; have hnc25 := NB143_142.out; have hcz26 := cells6 BK142.out; have hcz27 := cells6 BK143.out))
   go_ret
   exact ⟨by first | rfl | (simp [errW_none, errW_some] <;> rfl) | (simp [*, errW_none, errW_some] <;> rfl), by exact pbE HB.out⟩
 ·rw [if_neg c3] at H
  have c3b0 : (a0_0 == a1_0) = false := beq_eq_false_iff_ne.mpr c3
  have c3b1 : (a0_0 != a1_0) = true := bne_iff_ne.mpr c3
  obtain rfl := Option.some.inj H
  go_enter Tryd.func16, Tryd.ntmps16
  go_wp2_with (first | ((with_reducible refine gate_dst (N := 2) rfl ?_); refine box_event ?hg (N := 2) ?hd (cs := #[.int .i64 a0_0, .string a0_1, .string a0_2, .int .i64 a0_3, .slice A0_4 l0_4.length c0_4, .int .i64 a0_5]) (t := 26) ?hr ?_; (case hd => rfl); (case hg => rfl); (case hr => first | (go_simp; done) | (go_simp; rfl)); intro gb142 hg w28 hbox hb; have BK142 := Az.mk (hbox); have GW142 := Az.mk (geO hg (pbE HB.out)); have GE142 := Az.mk (geO hg (pbE HB.out)); replace HB := Az.mk (pbT (by exact pbE HB.out) hb); clear hb hbox hg) | ((with_reducible refine gate_dst (N := 3) rfl ?_); refine box_event ?hg (N := 3) ?hd (cs := #[.int .i64 a1_0, .string a1_1, .string a1_2, .int .i64 a1_3, .slice A1_4 l1_4.length c1_4, .int .i64 a1_5]) (t := 26) ?hr ?_; (case hd => rfl); (case hg => rfl); (case hr => first | (go_simp; done) | (go_simp; rfl)); intro gb143 hg w29 hbox hb; have BK143 := Az.mk (hbox); have GW143 := Az.mk (geO hg (pbE HB.out)); have GE143 := Az.mk (geO hg (pbE HB.out)); replace HB := Az.mk (pbT (by exact pbE HB.out) hb); have NB142_143 := Az.mk (neO hg (bk BK142.out)); have NB143_142 := Az.mk (neP hg (bk BK142.out)); replace BK142 := Az.mk (bkB (bk BK142.out) hb); clear hb hbox hg; have hnb30 := NB142_143.out; have hnc30 := NB143_142.out; have hcz31 := cells6 BK142.out; have hcz32 := cells6 BK143.out))
  go_ret
  exact ⟨by first | rfl | (simp [errW_none, errW_some] <;> rfl) | (simp [*, errW_none, errW_some] <;> rfl), by exact pbE HB.out⟩
end Go.Proofs.YtjfhcijjjadhbaaDoor.P
end
section
namespace Go.Proofs.YtjfhcijjjadhbaaDoor.P
open Go.RowKit Go.Proofs.YtjfhcijjjadhbaaDoor.K Go.Proofs.YtjfhcijjjadhbaaDoorW.PrintWords Go.Proofs.YtjfhcijjjadhbaaDoorW.PrintLast Go.Proofs.YtjfhcijjjadhbaaDoorW.PrintMore
attribute [local go_sem] max2_int min2_int max_two min_two max_three min_three max_four min_four   -- for this text's walks alone
def l06_own.f (a0_0 : Int) (a0_1 : ByteArray) (a0_2 : ByteArray) (a0_3 : Int) (l0_4 : List (S60)) (a0_5 : Int) : Option (Int × ByteArray × ByteArray × Int × (List (S60)) × Int) := (some (([] : List (S60)) : List (S60))).bind fun y337 => (if y337.length + l0_4.length < 8796093022208 then (some (a0_0, a0_1, a0_2, a0_3, (y337 ++ l0_4), a0_5)) else (none))
set_option maxHeartbeats 8000000 in
set_option maxRecDepth 100000 in
theorem l06_own.calls (a0_0 : Int) (a0_1 : ByteArray) (a0_2 : ByteArray) (a0_3 : Int) (A0_4 : Option Addr) (c0_4 : Nat) (l0_4 : List (S60)) (a0_5 : Int) (r1 : Int) (r2 : ByteArray) (r3 : ByteArray) (r4 : Int) (r5 : List (S60)) (r6 : Int) (w : World) (hG : TheG w) (hr0_4 : Kd.C k60 w A0_4 l0_4.length l0_4) (hc0_4 : l0_4.length ≤ c0_4) (h : l06_own.f a0_0 a0_1 a0_2 a0_3 l0_4 a0_5 = some (r1, r2, r3, r4, r5, r6)) :
 Calls Tryd.prog 12 #[.agg #[.int .i64 a0_0, .string a0_1, .string a0_2, .int .i64 a0_3, .slice A0_4 l0_4.length c0_4, .int .i64 a0_5]] w fun e w' => ∃ v4_ : Value, e = .returned (.agg #[.int .i64 r1, .string r2, .string r3, .int .i64 r4, v4_, .int .i64 r6]) ∧ Kd.R k60 60 w' w.heap.size (fun _ => True) v4_ r5 ∧ Below w.heap.size w w' := by
 have hu26 := Tryd.underlying26
 have HR0_4 := Az.mk hr0_4
 have HC0_4 := Az.mk hc0_4
 clear hr0_4 hc0_4
 have HB := Az.mk (Below.refl w.heap.size w)
 have H : ((some (([] : List (S60)) : List (S60))).bind fun y337 => (if y337.length + l0_4.length < 8796093022208 then (some (a0_0, a0_1, a0_2, a0_3, (y337 ++ l0_4), a0_5)) else (none))) = some (r1, r2, r3, r4, r5, r6) := h
 clear h
 obtain ⟨y337, hy337⟩ : ∃ y_ : List (S60), y_ = (([] : List (S60))) := ⟨_, rfl⟩
 replace H : (if y337.length + l0_4.length < 8796093022208 then (some (a0_0, a0_1, a0_2, a0_3, (y337 ++ l0_4), a0_5)) else (none)) = some (r1, r2, r3, r4, r5, r6) := by first | (rw [hy337]; with_reducible exact H) | (have H2_ := (Option.bind_some _ _).symm.trans H; rw [hy337]; with_reducible exact H2_) | (have H2_ := (Option.bind_some _ _).symm.trans H; with_reducible exact H2_) | with_reducible exact H | (rw [hy337]; exact H) | exact H
 have Ny337 := Az.mk hy337
 clear hy337
 by_cases c2 : y337.length + l0_4.length < 8796093022208
 ·rw [if_pos c2] at H
  have LMc2 := Az.mk c2
  clear c2
  obtain ⟨y340, hy340⟩ : ∃ y_ : List (S60), y_ = (y337 ++ l0_4) := ⟨_, rfl⟩
  replace H : (some (a0_0, a0_1, a0_2, a0_3, y340, a0_5)) = some (r1, r2, r3, r4, r5, r6) := by first | (rw [hy340]; with_reducible exact H) | (have H2_ := (Option.bind_some _ _).symm.trans H; rw [hy340]; with_reducible exact H2_) | (have H2_ := (Option.bind_some _ _).symm.trans H; with_reducible exact H2_) | with_reducible exact H | (rw [hy340]; exact H) | exact H
  have Ny340 := Az.mk hy340
  clear hy340
  simp only [Option.some.injEq, Prod.mk.injEq] at H
  obtain ⟨rfl, rfl, rfl, rfl, rfl, rfl⟩ := H
  go_enter Tryd.func12, Tryd.ntmps12
  go_wp2_with (first | ((with_reducible refine gate_dst (N := 1) rfl ?_); refine box_event ?hg (N := 1) ?hd (cs := #[.int .i64 a0_0, .string a0_1, .string a0_2, .int .i64 a0_3, .slice A0_4 l0_4.length c0_4, .int .i64 a0_5]) (t := 26) ?hr ?_; (case hd => rfl); (case hg => rfl); (case hr => first | (go_simp; done) | (go_simp; rfl)); intro gb335 hg w3 hbox hb; have BK335 := Az.mk (hbox); have GW335 := Az.mk (geO hg (pbE HB.out)); have GE335 := Az.mk (geO hg (pbE HB.out)); replace HB := Az.mk (pbT (by exact pbE HB.out) hb); clear hb hbox hg) | ((with_reducible refine gate_dst (N := 2) rfl ?_); refine box_event ?hg (N := 2) ?hd (cs := #[.int .i64 0, .string (⟨#[]⟩ : ByteArray), .string (⟨#[]⟩ : ByteArray), .int .i64 0, .slice none 0 0, .int .i64 0]) (t := 26) ?hr ?_; (case hd => rfl); (case hg => rfl); (case hr => first | (go_simp; done) | (go_simp; rfl)); intro gb336 hg w4 hbox hb; have BK336 := Az.mk (hbox); have GW336 := Az.mk (geO hg (pbE HB.out)); have GE336 := Az.mk (geO hg (pbE HB.out)); replace HB := Az.mk (pbT (by exact pbE HB.out) hb); have NB335_336 := Az.mk (neO hg (bk BK335.out)); have NB336_335 := Az.mk (neP hg (bk BK335.out)); replace BK335 := Az.mk (bkB (bk BK335.out) hb); clear hb hbox hg) | ((with_reducible refine gate_dst (N := 3) rfl ?_); refine Kd.R_lit k60 _ 60 ?hg (N := 3) ?hd (xs := ([] : List (S60))) (inner := []) (ok := fun _ => True) (okp := fun _ => True) ?hr ?hp (fun _ hk => hk) trivial (Below.refl _ _) (Nat.le_refl _) (by simp) ?_; (case hd => rfl); (case hg => rfl); (case hr => first | (go_simp; done) | (go_simp; rfl)); (case hp => exact (Reps.none _ _)); intro v338 w5 ho6 hb hg_ hnew_; clear hg_ hnew_; (first | rw [← Ny337.out] at ho6 | (simp only [Int.reduceToNat] at ho6; rw [← Ny337.out] at ho6)); have HO339 := Az.mk (Kd.R_lower ho6 (pbZ (by exact pbE HB.out))); replace BK335 := Az.mk (bkB (bk BK335.out) hb); replace BK336 := Az.mk (bkB (bk BK336.out) hb); replace HB := Az.mk (pbT (by exact pbE HB.out) hb); clear hb ho6; have hnb7 := NB335_336.out; have hnc7 := NB336_335.out; have hcz8 := cells6 BK335.out) | ((with_reducible refine gate_builtin (b := .append) (xs := #[.tmp 3, .tmp 5]) rfl ?_); at_builtin; refine Kd.R_append_rows k60 (w0 := w) w.heap.size rfl (.tmp 3) (.tmp 5) 24 60 (.agg #[(.int .i64 0), (.int .i64 0)]) 16 rfl Tryd.underlying24 info60 rfl (by decide) (by omega) v338 y337 l0_4 _ _ _ (fun _ => True) (fun _ => False) rfl rfl ?aO ?aR (fun _ _ h => h) (fun _ h => h.elim) ?aF ?aB ?aS ?aL ?_; (case aR => repeat (first | exact (Kd.C_below HR0_4.out HB.out) | (with_reducible refine Kd.C_alloc ?_ _) | (with_reducible refine Kd.C_drewN ?_ _) | (with_reducible refine Kd.C_drew ?_))); (case aB => exact (by exact pbE HB.out)); (case aF => exact (fun _ _ => trivial)); (case aO => exact (Kd.R_ext HO339.out)); (case aS => exact (pbZ (by exact pbE HB.out))); (case aL => have := LMc2.out; omega); intro v341 w9 ho hb hg hat; rw [← Ny340.out] at ho; replace BK335 := Az.mk (blk_grown (bk BK335.out) hg (Kd.R_ne HO339.out BK335.out (by decide))); replace BK336 := Az.mk (blk_grown (bk BK336.out) hg (Kd.R_ne HO339.out BK336.out (by decide))); replace HB := Az.mk (hb); have HO342 := Az.mk (ho); clear HO339; clear ho hb hg hat; obtain ⟨Ao10, co10, eo10⟩ := Kd.R_slice HO342.out; subst eo10; have hcz11 := cells6 BK335.out; have hcz12 := cells6 BK336.out))
  refine bodyPost_ret (results_cell_row rfl _ _ gb336 26 #[.int .i64 a0_0, .string a0_1, .string a0_2, .int .i64 a0_3, .slice Ao10 y340.length co10, .int .i64 a0_5] (0, 0) _ rfl (by refine bk ?_; refine blk_put (cs := #[.int .i64 a0_0, .string a0_1, .string a0_2, .int .i64 a0_3, .slice Ao10 y340.length co10, .int .i64 0]) ?_ 5 _ rfl; refine bk ?_; refine blk_put (cs := #[.int .i64 a0_0, .string a0_1, .string a0_2, .int .i64 a0_3, .slice none 0 0, .int .i64 0]) ?_ 4 _ rfl; refine bk ?_; refine blk_put (cs := #[.int .i64 a0_0, .string a0_1, .string a0_2, .int .i64 0, .slice none 0 0, .int .i64 0]) ?_ 3 _ rfl; refine bk ?_; refine blk_put (cs := #[.int .i64 a0_0, .string a0_1, .string (⟨#[]⟩ : ByteArray), .int .i64 0, .slice none 0 0, .int .i64 0]) ?_ 2 _ rfl; refine bk ?_; refine blk_put (cs := #[.int .i64 a0_0, .string (⟨#[]⟩ : ByteArray), .string (⟨#[]⟩ : ByteArray), .int .i64 0, .slice none 0 0, .int .i64 0]) ?_ 1 _ rfl; refine bk ?_; refine blk_put (cs := #[.int .i64 0, .string (⟨#[]⟩ : ByteArray), .string (⟨#[]⟩ : ByteArray), .int .i64 0, .slice none 0 0, .int .i64 0]) ?_ 0 _ rfl; exact bf BK336.out) Tryd.underlying26 rfl (by kernel_rfl)) rfl ?_
  exact ⟨_, by first | rfl | (simp [errW_none, errW_some] <;> rfl) | (simp [*, errW_none, errW_some] <;> rfl), by (with_reducible repeat (first | apply Kd.R_alloc | apply Kd.R_drewN | apply Kd.R_drew)); exact Kd.R_mono (Kd.R_far (p := ⟨gb336, 5, none⟩) (Kd.R_far (p := ⟨gb336, 4, none⟩) (Kd.R_far (p := ⟨gb336, 3, none⟩) (Kd.R_far (p := ⟨gb336, 2, none⟩) (Kd.R_far (p := ⟨gb336, 1, none⟩) (Kd.R_far (p := ⟨gb336, 0, none⟩) (Kd.R_far (p := ⟨gb335, 4, none⟩) (Kd.R_types (Kd.R_types HO342.out BK335.out (by decide)) BK336.out (by decide)) (fun _ hk => hk.1.2) (.slice Ao10 y340.length co10)) (fun _ hk => hk.2) (.int .i64 a0_0)) (fun _ hk => hk.2) (.string a0_1)) (fun _ hk => hk.2) (.string a0_2)) (fun _ hk => hk.2) (.int .i64 a0_3)) (fun _ hk => hk.2) (.slice Ao10 y340.length co10)) (fun _ hk => hk.2) (.int .i64 a0_5)) (fun _ hk => trivial), by exact pbE HB.out⟩
 ·rw [if_neg c2] at H
  exact absurd H (by simp)
end Go.Proofs.YtjfhcijjjadhbaaDoor.P
end
section
namespace Go.Proofs.YtjfhcijjjadhbaaDoor.V
open Go.RowKit Go.Proofs.YtjfhcijjjadhbaaDoorW.PrintWords Go.Proofs.YtjfhcijjjadhbaaDoorW.PrintLast Go.Proofs.YtjfhcijjjadhbaaDoorW.PrintMore Go.Proofs.YtjfhcijjjadhbaaDoor.P Go.Proofs.YtjfhcijjjadhbaaDoor.K Go.Proofs.YtjfhcijjjadhbaaDoor.A
theorem rid_eq (n : Int) : r06_id.f n = some (okId n) := by
 unfold r06_id.f okId
 split
 ·congr 1; exact decide_eq_decide.2 (by omega)
 ·rw [decide_eq_false (by omega)]
theorem rbound_eq (f t : ByteArray) : r02_Is.f f t = some (boundOk f t) := by
 unfold r02_Is.f boundOk
 by_cases h1 : (f.size : Int) ≤ 33
 ·by_cases h2 : (t.size : Int) ≤ 33
  ·rw [if_pos h1, if_pos h2, if_pos (show f.size ≤ 33 ∧ t.size ≤ 33 by omega)]
   split
   ·rename_i h; rw [h]; rfl
   ·rename_i h; rw [beq_eq_false_iff_ne.2 h, Bool.false_or]
  ·rw [if_pos h1, if_neg h2, if_neg (by omega)]
 ·rw [if_neg h1, if_neg (by omega)]
def lastAt (l : List S60) (i : Nat) : Int := if i = 0 then 0 else (l.getD (i - 1) ⟨0, 0⟩).f1
def onAt (l : List S60) (i : Nat) : Nat → Bool := fun j => (l.take i).any fun m => m.f0.toNat == j
theorem onAt_succ {l : List S60} {i : Nat} (h : i < l.length) : onAt l (i + 1) = fun j => j == l[i].f0.toNat || onAt l i j := by
 funext j
 unfold onAt
 rw [List.take_succ_eq_append_getElem h, List.any_append, Bool.or_comm]
 simp [Bool.beq_comm]
theorem lastAt_succ {l : List S60} {i : Nat} (h : i < l.length) : lastAt l (i + 1) = l[i].f1 := by
 unfold lastAt
 rw [if_neg (by omega), Nat.add_sub_cancel, List.getD_eq_getElem?_getD, List.getElem?_eq_getElem h]; rfl
theorem onAt_any {l : List S60} {i : Nat} {n : Int} (hv : ∀ x ∈ l.take i, 1 ≤ x.f0) (hn : 1 ≤ n) : onAt l i n.toNat = (l.take i).any fun x => x.f0 == n := by
 unfold onAt
 rw [Bool.eq_iff_iff, List.any_eq_true, List.any_eq_true]
 constructor
 ·rintro ⟨x, hx, h⟩
  have := hv x hx
  have h := beq_iff_eq.1 h
  exact ⟨x, hx, beq_iff_eq.2 (by omega)⟩
 ·rintro ⟨x, hx, h⟩
  have h := beq_iff_eq.1 h
  exact ⟨x, hx, beq_iff_eq.2 (by rw [h])⟩
theorem is_inner {id : Int} {fr tu : ByteArray} {gen : Int} {l : List S60} {nx m0 m1 : Int} (hm : l.length ≤ 1000000) {i : Nat} (hi : i < l.length) {r : Bool} (hK : Ev (fun k => r06_Is.l0 k ((i + 1 : Nat) : Int) id fr tu gen l nx) r) :
 Ev (fun k => r06_Is.l1 k (i : Int) 0 id fr tu gen l nx m0 m1) (if ((l.take i).any fun x => x.f0 == m0) = true then false else r) := by
 have := Ev.upto (F := fun k (_ : Unit) j => r06_Is.l1 k (i : Int) j id fr tu gen l nx m0 m1) (n := i) (G := fun _ j => if (((l.take i).drop j).any fun x => x.f0 == m0) = true then false else r) (I := fun _ _ => True)
  (by
   intro _ j hj _ ih
   have hjl : j < l.length := by omega
   have hjt : j < (l.take i).length := by rw [List.length_take]; omega
   have hdrop : (l.take i).drop j = l[j] :: (l.take i).drop (j + 1) := by rw [List.drop_eq_getElem_cons hjt, List.getElem_take]
   simp only [r06_Is.l1, if_pos (lt_cast hj), if_pos (nn j), if_pos (lt_cast hjl), rd_lt hjl, wrap_nat (n := j) (by omega), hdrop, List.any_cons]
   refine Ev.ite (fun h => ?_) (fun h => ?_)
   ·rw [beq_iff_eq.2 h, Bool.true_or, if_pos rfl]; exact Ev.now _
   ·rw [beq_eq_false_iff_ne.2 h, Bool.false_or]; exact ih () trivial)
  (by
   intro _ _
   rw [List.drop_of_length_le (by rw [List.length_take]; omega)]
   simp only [r06_Is.l1, if_neg (Int.lt_irrefl _), wrap_nat (n := i) (by omega), List.any_nil]
   exact hK) 0 (Nat.zero_le _) () trivial
 rw [List.drop_zero] at this
 exact this
theorem is_loop {id : Int} {fr tu : ByteArray} {gen : Int} {l : List S60} {nx : Int} (hm : l.length ≤ 1000000) : Ev (fun k => r06_Is.l0 k 0 id fr tu gen l nx) (isMem nx 0 (fun _ => false) l) := by
 have hj2 : ∀ {i : Int} {m0 m1 : Int}, Ev (fun k => r06_Is.j2 k i true id fr tu gen l nx m0 m1) false := by
  intro i m0 m1
  refine Ev.shift ?_
  simp only [r06_Is.j2, if_true]
  exact Ev.now _
 have := Ev.upto (F := fun k (_ : Unit) i => r06_Is.l0 k i id fr tu gen l nx) (n := l.length) (G := fun _ i => isMem nx (lastAt l i) (onAt l i) (l.drop i)) (I := fun _ i => (∀ x ∈ l.take i, 1 ≤ x.f0) ∧ 0 ≤ lastAt l i)
  (by
   intro _ i hi hI ih
   obtain ⟨hv, hl0⟩ := hI
   have hdrop : l.drop i = l[i] :: l.drop (i + 1) := List.drop_eq_getElem_cons hi
   simp only [r06_Is.l0, if_pos (lt_cast hi), if_pos (nn i), rd_lt hi, hdrop, isMem]
   refine Ev.ite (fun c1 => ?_) (fun c1 => Ev.ite (fun c2 => ?_) (fun c2 => Ev.ite (fun c3 => ?_) (fun c3 => Ev.ite (fun c4 => ?_) (fun c4 => ?_))))
   ·rw [if_neg (by omega)]; exact hj2
   ·rw [if_neg (by omega)]; exact hj2
   ·rw [if_neg (by omega)]; exact hj2
   ·rw [if_neg (by omega)]; exact hj2
   ·have h1 : 1 ≤ l[i].f0 := by omega
    have fin : ∀ b : Bool, (b = true ↔ l[i].f1 ≤ lastAt l i) → Ev (fun k => r06_Is.j2 k (i : Int) b id fr tu gen l nx l[i].f0 l[i].f1) (if 1 ≤ l[i].f0 ∧ l[i].f0 ≤ 7 ∧ onAt l i l[i].f0.toNat = false ∧ lastAt l i < l[i].f1 ∧ l[i].f1 < nx then isMem nx l[i].f1 (fun j => j == l[i].f0.toNat || onAt l i j) (l.drop (i + 1)) else false) := by
     intro b hb
     cases b with
     | true =>
      have := hb.1 rfl
      rw [if_neg (by omega)]; exact hj2
     | false =>
      have hlt : lastAt l i < l[i].f1 := by
       by_cases c : l[i].f1 ≤ lastAt l i
       ·exact absurd (hb.2 c) (by simp)
       ·omega
      refine Ev.shift ?_
      simp only [r06_Is.j2, Bool.false_eq_true, if_false]
      have hk := ih () ⟨fun x hx => by
       rw [List.take_succ_eq_append_getElem hi] at hx
       rcases List.mem_append.1 hx with hx | hx
       ·exact hv x hx
       ·rw [List.mem_singleton.1 hx]; exact h1, by rw [lastAt_succ hi]; omega⟩
      have hin := is_inner (m0 := l[i].f0) (m1 := l[i].f1) hm hi hk
      rw [← onAt_any hv h1, lastAt_succ hi, onAt_succ hi] at hin
      cases ho : onAt l i l[i].f0.toNat with
      | true =>
       rw [ho, if_pos rfl] at hin
       rw [if_neg (by simp)]; exact hin
      | false =>
       rw [ho, if_neg (by simp)] at hin
       rw [if_pos ⟨h1, by omega, rfl, hlt, by omega⟩]; exact hin
    refine Ev.ite (fun c5 => ?_) (fun c5 => ?_)
    ·have hw : wrap64 ((i : Int) - 1) = ((i - 1 : Nat) : Int) := by rw [wrap_in (by omega) (by omega)]; omega
     have hi1 : i - 1 < l.length := by omega
     simp only [hw, if_pos (nn (i - 1)), if_pos (lt_cast hi1), rd_lt hi1]
     refine fin _ ?_
     have e : lastAt l i = l[i - 1].f1 := by
      unfold lastAt
      rw [if_neg (by omega), List.getD_eq_getElem?_getD, List.getElem?_eq_getElem hi1]; rfl
     rw [e, decide_eq_true_iff]
    ·obtain rfl : i = 0 := by omega
     refine fin false ?_
     have e : lastAt l 0 = 0 := rfl
     rw [e]
     constructor
     ·intro h; cases h
     ·intro h; omega)
  (by
   intro _ _
   rw [List.drop_length]
   simp only [r06_Is.l0, if_neg (Int.lt_irrefl _), isMem]
   exact Ev.now _) 0 (Nat.zero_le _) () ⟨fun x hx => by simp at hx, Int.le_refl _⟩
 rw [List.drop_zero] at this
 exact this
theorem is_ev {id : Int} {fr tu : ByteArray} {gen : Int} {l : List S60} {nx : Int} (hm : l.length ≤ 1000000) : Ev (fun k => r06_Is.f k id fr tu gen l nx) (okD id fr tu gen l nx) := by
 have hbad : Ev (fun k => r06_Is.j0 k true id fr tu gen l nx) false := by
  refine Ev.shift ?_
  simp only [r06_Is.j0, if_true]
  exact Ev.now _
 simp only [r06_Is.f, rid_eq, rbound_eq, Option.bind_some]
 unfold okD
 refine Ev.ite (fun h1 => ?_) (fun h1 => ?_)
 ·rw [h1, Bool.true_and]
  refine Ev.ite (fun h2 => ?_) (fun h2 => ?_)
  ·rw [h2, Bool.true_and]
   refine Ev.ite (fun h3 => ?_) (fun h3 => ?_)
   ·rw [h3, Bool.true_and]
    refine Ev.ite (fun h4 => ?_) (fun h4 => ?_)
    ·rw [h4, Bool.true_and]
     unfold okM
     refine Ev.ite (fun h5 => ?_) (fun h5 => ?_)
     ·rw [if_pos (by omega)]; exact hbad
     ·by_cases h6 : (l.length : Int) > 5
      ·rw [decide_eq_true h6, if_pos (by omega)]; exact hbad
      ·rw [decide_eq_false h6, if_neg (by omega)]
       refine Ev.shift ?_
       simp only [r06_Is.j0, Bool.false_eq_true, if_false]
       exact is_loop hm
    ·rw [Bool.eq_false_iff.2 h4, Bool.false_and]; exact hbad
   ·rw [Bool.eq_false_iff.2 h3, Bool.false_and]; exact hbad
  ·rw [Bool.eq_false_iff.2 h2, Bool.false_and]; exact hbad
 ·rw [Bool.eq_false_iff.2 h1, Bool.false_and]; exact hbad
theorem rright_ev {id : Int} {fr tu : ByteArray} {gen : Int} {l : List S60} {nx : Int} (hm : l.length ≤ 1000000) : Ev (fun k => r06_right.f k id fr tu gen l nx) (rightR id fr tu gen l nx) := by
 refine Ev.bind (is_ev hm) ?_
 unfold rightR
 exact Ev.ite (fun h => by rw [if_pos h]; exact Ev.now _) (fun h => by rw [if_neg h]; exact Ev.now _)
def hitM (p : S60 → Bool) (l : List S60) : Int × Int × Bool := match l.find? p with | some m => (m.f0, m.f1, true) | none => (0, 0, false)
theorem hitM_cons {p : S60 → Bool} {m : S60} {l : List S60} : hitM p (m :: l) = if p m = true then (m.f0, m.f1, true) else hitM p l := by
 unfold hitM
 rw [List.find?_cons]
 cases hp : p m <;> simp
theorem on_eq {id : Int} {fr tu : ByteArray} {gen : Int} {l : List S60} {nx a : Int} (hm : l.length ≤ 1000000) : desc_On.f id fr tu gen l nx a = some (hitM (fun m => m.f0 == a) l) := by
 unfold desc_On.f hitM; rw [if_pos (by omega)]; cases l.find? (fun m => m.f0 == a) <;> rfl
theorem has_eq {id : Int} {fr tu : ByteArray} {gen : Int} {l : List S60} {nx a : Int} (hm : l.length ≤ 1000000) : desc_Has.f id fr tu gen l nx a = some (hitM (fun m => m.f1 == a) l) := by
 unfold desc_Has.f hitM; rw [if_pos (by omega)]; cases l.find? (fun m => m.f1 == a) <;> rfl
theorem ron_ev {id : Int} {fr tu : ByteArray} {gen : Int} {l : List S60} {nx a : Int} (hm : l.length ≤ 1000000) : Ev (fun k => r06_On.f k id fr tu gen l nx a) (hitM (fun m => m.f0 == a) l) := by
 have := Ev.upto (F := fun k (_ : Unit) i => r06_On.l0 k a i id fr tu gen l nx) (n := l.length) (G := fun _ i => hitM (fun m => m.f0 == a) (l.drop i)) (I := fun _ _ => True)
  (by
   intro _ i hi _ ih
   simp only [r06_On.l0, if_pos (lt_cast hi), if_pos (nn i), rd_lt hi, List.drop_eq_getElem_cons hi, hitM_cons, wrap_nat (n := i) (by omega)]
   refine Ev.ite (fun h => ?_) (fun h => ?_)
   ·rw [if_pos (beq_iff_eq.2 h)]; exact Ev.now _
   ·rw [if_neg (by rw [beq_iff_eq]; exact h)]; exact ih () trivial)
  (by
   intro _ _
   rw [List.drop_length]
   simp only [r06_On.l0, if_neg (Int.lt_irrefl _)]
   exact Ev.now _) 0 (Nat.zero_le _) () trivial
 rw [List.drop_zero] at this
 exact this
theorem rhas_ev {id : Int} {fr tu : ByteArray} {gen : Int} {l : List S60} {nx a : Int} (hm : l.length ≤ 1000000) : Ev (fun k => r06_Has.f k id fr tu gen l nx a) (hitM (fun m => m.f1 == a) l) := by
 have := Ev.upto (F := fun k (_ : Unit) i => r06_Has.l0 k a i id fr tu gen l nx) (n := l.length) (G := fun _ i => hitM (fun m => m.f1 == a) (l.drop i)) (I := fun _ _ => True)
  (by
   intro _ i hi _ ih
   simp only [r06_Has.l0, if_pos (lt_cast hi), if_pos (nn i), rd_lt hi, List.drop_eq_getElem_cons hi, hitM_cons, wrap_nat (n := i) (by omega)]
   refine Ev.ite (fun h => ?_) (fun h => ?_)
   ·rw [if_pos (beq_iff_eq.2 h)]; exact Ev.now _
   ·rw [if_neg (by rw [beq_iff_eq]; exact h)]; exact ih () trivial)
  (by
   intro _ _
   rw [List.drop_length]
   simp only [r06_Has.l0, if_neg (Int.lt_irrefl _)]
   exact Ev.now _) 0 (Nat.zero_le _) () trivial
 rw [List.drop_zero] at this
 exact this
def firstM : Nat → List Int → List S60
 | _, [] => []
 | i, n :: r => ⟨n, (i : Int) + 1⟩ :: firstM (i + 1) r
def firstD (ns : List Int) : DR := rightR 1 (⟨#[]⟩ : ByteArray) (⟨#[]⟩ : ByteArray) 1 (firstM 0 ns) ((ns.length : Int) + 1)
theorem firstM_length : ∀ (ns : List Int) (i : Nat), (firstM i ns).length = ns.length
 | [], _ => rfl
 | _ :: r, i => by simp [firstM, firstM_length r]
theorem rdI_lt {l : List Int} {i : Nat} (h : i < l.length) : rd l (i : Int) = l[i] := by simp [rd, h]
theorem first_ev {ns : List Int} (hm : ns.length ≤ 1000000) : Ev (fun k => desc_First.f k ns) (firstD ns) := by
 have := Ev.upto (F := fun k (out : List S60) i => desc_First.l0 k ns (ns.length : Int) i 1 (⟨#[]⟩ : ByteArray) (⟨#[]⟩ : ByteArray) 1 out (i + 1)) (n := ns.length) (G := fun out i => rightR 1 (⟨#[]⟩ : ByteArray) (⟨#[]⟩ : ByteArray) 1 (out ++ firstM i (ns.drop i)) ((ns.length : Int) + 1)) (I := fun out i => out.length ≤ i)
  (by
   intro out i hi hI ih
   have hl : out.length < 8796093022208 := by omega
   have hw2 : wrap64 ((i : Int) + 1 + 1) = ((i + 1 : Nat) : Int) + 1 := by rw [wrap_in (by omega) (by omega)]; omega
   simp only [desc_First.l0, if_pos (lt_cast hi), if_pos (nn i), if_pos hl, rdI_lt hi, List.drop_eq_getElem_cons hi, firstM, wrap_nat (n := i) (by omega), hw2]
   have := ih (out ++ [⟨ns[i], (i : Int) + 1⟩]) (by simp; omega)
   rw [List.append_assoc] at this
   exact this)
  (by
   intro out hI
   rw [List.drop_length]
   simp only [desc_First.l0, if_neg (Int.lt_irrefl _), firstM, List.append_nil, right_eq, Option.bind_some]
   exact Ev.now _) 0 (Nat.zero_le _) [] (Nat.zero_le _)
 rw [List.drop_zero] at this
 exact this
theorem rfirst_ev {ns : List Int} (hm : ns.length ≤ 1000000) : Ev (fun k => r06_First.f k ns) (firstD ns) := by
 have hn : wrap64 ((ns.length : Int) + 1) = (ns.length : Int) + 1 := wrap_in (by omega) (by omega)
 have := Ev.upto (F := fun k (out : List S60) i => r06_First.l0 k ns i 1 (⟨#[]⟩ : ByteArray) (⟨#[]⟩ : ByteArray) 1 out ((ns.length : Int) + 1)) (n := ns.length) (G := fun out i => rightR 1 (⟨#[]⟩ : ByteArray) (⟨#[]⟩ : ByteArray) 1 (out ++ firstM i (ns.drop i)) ((ns.length : Int) + 1)) (I := fun out i => out.length ≤ i)
  (by
   intro out i hi hI ih
   have hl : out.length < 8796093022208 := by omega
   simp only [r06_First.l0, if_pos (lt_cast hi), if_pos (nn i), if_pos hl, rdI_lt hi, List.drop_eq_getElem_cons hi, firstM, wrap_nat (n := i) (by omega)]
   have := ih (out ++ [⟨ns[i], (i : Int) + 1⟩]) (by simp; omega)
   rw [List.append_assoc] at this
   exact this)
  (by
   intro out hI
   rw [List.drop_length]
   simp only [r06_First.l0, if_neg (Int.lt_irrefl _), firstM, List.append_nil]
   refine Ev.bind (rright_ev (by omega)) ?_
   exact Ev.now _) 0 (Nat.zero_le _) [] (Nat.zero_le _)
 rw [List.drop_zero] at this
 simp only [r06_First.f, hn]
 exact this
def errD (e : Int) : DR := (0, (⟨#[]⟩ : ByteArray), (⟨#[]⟩ : ByteArray), 0, ([] : List S60), 0, e)
def addD (id : Int) (fr tu : ByteArray) (gen : Int) (l : List S60) (nx a : Int) : DR :=
 if okD id fr tu gen l nx = true then (if 1 ≤ a ∧ a ≤ 7 then (if (hitM (fun m => m.f0 == a) l).2.2 = true then errD 8 else if l.length = 5 then errD 6 else rightR id fr tu (wrap64 (gen + 1)) (l ++ [⟨a, nx⟩]) (wrap64 (nx + 1))) else errD 2) else errD 60
def remD (id : Int) (fr tu : ByteArray) (gen : Int) (l : List S60) (nx a : Int) : DR :=
 if okD id fr tu gen l nx = true then (if (hitM (fun m => m.f1 == a) l).2.2 = true then (if l.length = 1 then errD 2 else rightR id fr tu (wrap64 (gen + 1)) (delM (fun m => m.f1 == a) l) nx) else errD 7) else errD 60
theorem add_eq {id : Int} {fr tu : ByteArray} {gen : Int} {l : List S60} {nx a : Int} (hm : l.length ≤ 1000000) : desc_Add.f id fr tu gen l nx a = some (addD id fr tu gen l nx a) := by
 unfold desc_Add.f addD
 rw [on_eq hm, Option.bind_some, check_eq, Option.bind_some]
 by_cases hok : okD id fr tu gen l nx = true
 ·have h5 := okD_len hok
  rw [if_pos hok, if_pos hok, if_pos rfl]
  have hnode : desc_isNode.f a = some (decide (1 ≤ a ∧ a ≤ 7)) := by
   unfold desc_isNode.f
   split
   ·congr 1; exact decide_eq_decide.2 (by omega)
   ·rw [decide_eq_false (by omega)]
  rw [hnode, Option.bind_some]
  by_cases hn : 1 ≤ a ∧ a ≤ 7
  ·rw [if_pos (decide_eq_true hn), if_pos hn]
   split
   ·rfl
   ·by_cases h6 : l.length = 5
    ·rw [if_pos (by omega), if_pos h6]; rfl
    ·rw [if_neg (by omega), if_neg h6]
     unfold api_Member_33.f
     rw [if_pos (by omega), Option.bind_some, Option.bind_some, if_pos (by simp only [List.length_cons, List.length_nil]; omega), right_eq, Option.bind_some]
  ·rw [if_neg (by rw [decide_eq_true_iff]; exact hn), if_neg hn]; rfl
 ·rw [if_neg hok, if_neg hok, if_neg (by decide)]; rfl
theorem radd_ev {id : Int} {fr tu : ByteArray} {gen : Int} {l : List S60} {nx a : Int} (hm : l.length ≤ 1000) : Ev (fun k => r06_Add.f k id fr tu gen l nx a) (addD id fr tu gen l nx a) := by
 unfold addD
 refine Ev.bind (ron_ev (by omega)) (Ev.bind (is_ev (by omega)) (Ev.ite (fun hok => ?_) (fun hok => ?_)))
 ·rw [if_pos hok]
  have hbad : ∀ b, Ev (fun k => r06_Add.j0 k a b true id fr tu gen l nx) (errD 2) := by
   intro b
   refine Ev.shift ?_
   simp only [r06_Add.j0, if_true]
   exact Ev.now _
  refine Ev.ite (fun c1 => ?_) (fun c1 => ?_)
  ·rw [if_neg (by omega)]; exact hbad _
  ·by_cases c2 : a > 7
   ·rw [decide_eq_true c2, if_neg (by omega)]; exact hbad _
   ·rw [decide_eq_false c2, if_pos ⟨by omega, by omega⟩]
    refine Ev.shift ?_
    have e1 : ([] : List S60).length + l.length < 8796093022208 := by simp only [List.length_nil]; omega
    have e2 : ([] ++ l : List S60).length + ([(⟨a, nx⟩ : S60)] : List S60).length < 8796093022208 := by simp only [List.nil_append, List.length_cons, List.length_nil]; omega
    simp only [r06_Add.j0, Bool.false_eq_true, if_false, Option.bind_some, if_pos e1, if_pos e2]
    refine Ev.ite (fun c3 => ?_) (fun c3 => ?_)
    ·rw [if_pos c3]; exact Ev.now _
    ·rw [if_neg c3]
     refine Ev.ite (fun c4 => ?_) (fun c4 => ?_)
     ·rw [if_pos (by omega)]; exact Ev.now _
     ·rw [if_neg (by omega)]
      simp only [List.nil_append]
      refine Ev.bind (rright_ev (by simp; omega)) ?_
      exact Ev.now _
 ·rw [if_neg hok]; exact Ev.now _
theorem rem_eq {id : Int} {fr tu : ByteArray} {gen : Int} {l : List S60} {nx a : Int} (hm : l.length ≤ 1000000) : desc_Remove.f id fr tu gen l nx a = some (remD id fr tu gen l nx a) := by
 unfold desc_Remove.f remD
 rw [has_eq hm, Option.bind_some, check_eq, Option.bind_some]
 by_cases hok : okD id fr tu gen l nx = true
 ·rw [if_pos hok, if_pos hok, if_pos rfl]
  split
  ·by_cases h1 : l.length = 1
   ·rw [if_pos (by omega), if_pos h1]; rfl
   ·rw [if_neg (by omega), if_neg h1]
    unfold api_Member_51.f
    rw [if_pos (by omega), Option.bind_some, right_eq, Option.bind_some]
  ·rfl
 ·rw [if_neg hok, if_neg hok, if_neg (by decide)]; rfl
theorem rrem_ev {id : Int} {fr tu : ByteArray} {gen : Int} {l : List S60} {nx a : Int} (hm : l.length ≤ 1000) : Ev (fun k => r06_Remove.f k id fr tu gen l nx a) (remD id fr tu gen l nx a) := by
 unfold remD
 refine Ev.bind (rhas_ev (by omega)) (Ev.bind (is_ev (by omega)) (Ev.ite (fun hok => ?_) (fun hok => ?_)))
 ·rw [if_pos hok]
  refine Ev.ite (fun c1 => ?_) (fun c1 => ?_)
  ·rw [if_pos c1]
   refine Ev.ite (fun c2 => ?_) (fun c2 => ?_)
   ·rw [if_pos (by omega)]; exact Ev.now _
   ·rw [if_neg (by omega)]
    have := Ev.upto (F := fun k (out : List S60) i => r06_Remove.l0 k a out i id fr tu gen l nx) (n := l.length) (G := fun out i => rightR id fr tu (wrap64 (gen + 1)) (out ++ delM (fun m => m.f1 == a) (l.drop i)) nx) (I := fun out i => out.length ≤ i)
     (by
      intro out i hi hI ih
      have hl : out.length < 8796093022208 := by omega
      have hd : delM (fun m => m.f1 == a) (l[i] :: l.drop (i + 1)) = (if l[i].f1 = a then [] else [l[i]]) ++ delM (fun m => m.f1 == a) (l.drop (i + 1)) := by
       unfold delM
       rw [List.filter_cons]
       by_cases c : l[i].f1 = a
       ·simp [c]
       ·simp [c]
      simp only [r06_Remove.l0, if_pos (lt_cast hi), if_pos (nn i), rd_lt hi, List.drop_eq_getElem_cons hi, wrap_nat (n := i) (by omega), hd]
      refine Ev.ite (fun c => ?_) (fun c => ?_)
      ·rw [if_pos c, List.nil_append]; exact ih out (by omega)
      ·rw [if_neg c]
       simp only [if_pos hl]
       have := ih (out ++ [l[i]]) (by simp; omega)
       rw [List.append_assoc] at this
       exact this)
     (by
      intro out hI
      rw [List.drop_length]
      have e : delM (fun m => m.f1 == a) ([] : List S60) = [] := rfl
      simp only [r06_Remove.l0, if_neg (Int.lt_irrefl _), e, List.append_nil]
      refine Ev.bind (rright_ev (by omega)) ?_
      exact Ev.now _) 0 (Nat.zero_le _) [] (Nat.zero_le _)
    rw [List.drop_zero] at this
    exact this
  ·rw [if_neg c1]; exact Ev.now _
 ·rw [if_neg hok]; exact Ev.now _
theorem rmembers_ev (a b : List S60) (hm : a.length ≤ 9223372036854775000) : Ev (fun k => r06_Members.f k a b) (decide (a = b)) := by
 refine Ev.ite (fun h => ?_) (fun h => ?_)
 ·have hl : a.length = b.length := by omega
  have := Ev.upto (F := fun k (_ : Unit) i => r06_Members.l0 k a b i) (n := a.length) (G := fun _ i => decide (a.drop i = b.drop i)) (I := fun _ _ => True)
   (by
    intro _ i hi _ ih
    have hi2 : i < b.length := by omega
    have hd1 : a.drop i = a[i] :: a.drop (i + 1) := List.drop_eq_getElem_cons hi
    have hd2 : b.drop i = b[i] :: b.drop (i + 1) := List.drop_eq_getElem_cons hi2
    simp only [r06_Members.l0, if_pos (lt_cast hi), if_pos (nn i), if_pos (lt_cast hi2), rd_lt hi, rd_lt hi2, hd1, hd2, wrap_nat (n := i) (by omega)]
    refine Ev.ite (fun h => ?_) (fun h => ?_)
    ·rw [decide_eq_false (fun e => ?_)]
     ·exact Ev.now _
     ·injection e with e1 _
      rw [e1] at h
      simp at h
    ·have e1 : a[i] = b[i] := by
      simp only [Bool.or_eq_true, Bool.not_eq_true', beq_eq_false_iff_ne, not_or, ne_eq, Classical.not_not] at h
      exact M_ext h.1 h.2
     rw [show decide (a[i] :: a.drop (i + 1) = b[i] :: b.drop (i + 1)) = decide (a.drop (i + 1) = b.drop (i + 1)) from decide_eq_decide.2 ⟨fun h => by injection h, fun h => by rw [e1, h]⟩]
     exact ih () trivial)
   (by
    intro _ _
    have e : decide (a.drop a.length = b.drop a.length) = true := decide_eq_true (by rw [List.drop_length, hl, List.drop_length])
    rw [e]
    simp only [r06_Members.l0, if_neg (Int.lt_irrefl _)]
    exact Ev.now _) 0 (Nat.zero_le _) () trivial
  exact this
 ·rw [decide_eq_false (fun e => h (by rw [e]))]; exact Ev.now _
theorem rsame_ev {id : Int} {fr tu : ByteArray} {gen : Int} {l : List S60} {nx id2 : Int} {fr2 to2 : ByteArray} {gen2 : Int} {l2 : List S60} {nx2 : Int} (hm : l.length ≤ 9223372036854775000) :
 Ev (fun k => r06_Same.f k id fr tu gen l nx id2 fr2 to2 gen2 l2 nx2) (decide (id = id2 ∧ fr = fr2 ∧ tu = to2 ∧ gen = gen2 ∧ nx = nx2 ∧ l = l2)) := by
 refine Ev.ite (fun h1 => Ev.ite (fun h2 => Ev.ite (fun h3 => Ev.ite (fun h4 => Ev.bind (rmembers_ev l l2 hm) ?_) (fun h4 => ?_)) (fun h3 => ?_)) (fun h2 => ?_)) (fun h1 => ?_)
 ·simp only [Bool.and_eq_true, beq_iff_eq, toList_inj] at h2
  rw [show decide (id = id2 ∧ fr = fr2 ∧ tu = to2 ∧ gen = gen2 ∧ nx = nx2 ∧ l = l2) = decide (l = l2) from decide_eq_decide.2 ⟨fun h => h.2.2.2.2.2, fun h => ⟨h1, h2.1, h2.2, h3, h4, h⟩⟩]
  exact Ev.now _
 ·rw [decide_eq_false (fun e => h4 e.2.2.2.2.1)]; exact Ev.now _
 ·rw [decide_eq_false (fun e => h3 e.2.2.2.1)]; exact Ev.now _
 ·rw [decide_eq_false (fun e => h2 (by rw [e.2.1, e.2.2.1]; simp))]; exact Ev.now _
 ·rw [decide_eq_false (fun e => h1 e.1)]; exact Ev.now _
/-- A descriptor is the same as itself. -/
theorem rself_ev (d : DR) (hm : d.2.2.2.2.1.length ≤ 9223372036854775000) : Ev (fun k => r06_Same.f k d.1 d.2.1 d.2.2.1 d.2.2.2.1 d.2.2.2.2.1 d.2.2.2.2.2.1 d.1 d.2.1 d.2.2.1 d.2.2.2.1 d.2.2.2.2.1 d.2.2.2.2.2.1) true := by
 have := rsame_ev (id := d.1) (fr := d.2.1) (tu := d.2.2.1) (gen := d.2.2.2.1) (l := d.2.2.2.2.1) (nx := d.2.2.2.2.2.1) (id2 := d.1) (fr2 := d.2.1) (to2 := d.2.2.1) (gen2 := d.2.2.2.1) (l2 := d.2.2.2.2.1) (nx2 := d.2.2.2.2.2.1) hm
 simp only [and_self, decide_true] at this
 exact this
theorem own_eq {id : Int} {fr tu : ByteArray} {gen : Int} {l : List S60} {nx : Int} (hm : l.length ≤ 1000000) : l06_own.f id fr tu gen l nx = some (id, fr, tu, gen, l, nx) := by
 unfold l06_own.f
 rw [Option.bind_some, if_pos (by simp only [List.length_nil]; omega)]; rfl
end Go.Proofs.YtjfhcijjjadhbaaDoor.V
end
section
namespace Go.Proofs.YtjfhcijjjadhbaaDoor.P
open Go.RowKit Go.Proofs.YtjfhcijjjadhbaaDoor.K Go.Proofs.YtjfhcijjjadhbaaDoorW.PrintWords Go.Proofs.YtjfhcijjjadhbaaDoorW.PrintLast Go.Proofs.YtjfhcijjjadhbaaDoorW.PrintMore
attribute [local go_sem] max2_int min2_int max_two min_two max_three min_three max_four min_four   -- for this text's walks alone
def bound_both.f (a0_0 : ByteArray) (a0_1 : ByteArray) (a1_0 : ByteArray) (a1_1 : ByteArray) : Option (Bool) := (bound_Check.f a0_0 a0_1).bind fun t110 => (if t110 = 0 then ((bound_Check.f a1_0 a1_1).bind fun t111 => (some (t111 == 0))) else (some false))
set_option maxHeartbeats 8000000 in
set_option maxRecDepth 100000 in
theorem bound_both.calls (a0_0 : ByteArray) (a0_1 : ByteArray) (a1_0 : ByteArray) (a1_1 : ByteArray) (r : Bool) (w : World) (hG : TheG w) (h : bound_both.f a0_0 a0_1 a1_0 a1_1 = some r) :
 Calls Tryd.prog 73 #[.agg #[.string a0_0, .string a0_1], .agg #[.string a1_0, .string a1_1]] w fun e w' => e = .returned (.bool r) ∧ Below w.heap.size w w' := by
 have hu23 := Tryd.underlying23
 have HB := Az.mk (Below.refl w.heap.size w)
 have H : ((bound_Check.f a0_0 a0_1).bind fun t110 => (if t110 = 0 then ((bound_Check.f a1_0 a1_1).bind fun t111 => (some (t111 == 0))) else (some false))) = some r := h
 clear h
 replace H := Option.bind_eq_some_iff.mp H
 obtain ⟨t110, A30, H⟩ := H
 replace H : (if t110 = 0 then ((bound_Check.f a1_0 a1_1).bind fun t111 => (some (t111 == 0))) else (some false)) = some r := H
 have A3 := Az.mk A30
 clear A30
 by_cases c4 : t110 = 0
 ·rw [if_pos c4] at H
  have c4b0 : (t110 == 0) = true := beq_iff_eq.mpr c4
  have c4b1 : (t110 != 0) = false := bne_eq_false_iff_eq.mpr c4
  clear c4
  replace H := Option.bind_eq_some_iff.mp H
  obtain ⟨t111, A50, H⟩ := H
  replace H : (some (t111 == 0)) = some r := H
  have A5 := Az.mk A50
  clear A50
  obtain rfl := Option.some.inj H
  go_enter Tryd.func73, Tryd.ntmps73
  go_wp2_with (first | ((with_reducible refine gate_dst (N := 2) rfl ?_); refine box_event ?hg (N := 2) ?hd (cs := #[.string a0_0, .string a0_1]) (t := 23) ?hr ?_; (case hd => rfl); (case hg => rfl); (case hr => first | (go_simp; done) | (go_simp; rfl)); intro gb108 hg w6 hbox hb; have BK108 := Az.mk (hbox); have GW108 := Az.mk (geO hg (pbE HB.out)); have GE108 := Az.mk (geO hg (pbE HB.out)); replace HB := Az.mk (pbT (by exact pbE HB.out) hb); clear hb hbox hg) | ((with_reducible refine gate_dst (N := 3) rfl ?_); refine box_event ?hg (N := 3) ?hd (cs := #[.string a1_0, .string a1_1]) (t := 23) ?hr ?_; (case hd => rfl); (case hg => rfl); (case hr => first | (go_simp; done) | (go_simp; rfl)); intro gb109 hg w7 hbox hb; have BK109 := Az.mk (hbox); have GW109 := Az.mk (geO hg (pbE HB.out)); have GE109 := Az.mk (geO hg (pbE HB.out)); replace HB := Az.mk (pbT (by exact pbE HB.out) hb); have NB108_109 := Az.mk (neO hg (bk BK108.out)); have NB109_108 := Az.mk (neP hg (bk BK108.out)); replace BK108 := Az.mk (bkB (bk BK108.out) hb); clear hb hbox hg; have hnb8 := NB108_109.out; have hnc8 := NB109_108.out; have hcz9 := cells2 BK108.out) | ((with_reducible refine gtc (f := 47) rfl ?_); refine goesL_ (some 6) rfl rfl Tryd.func47 (by kernel_rfl) rfl #[.agg #[.string a0_0, .string a0_1]] rfl (by (try simp only [List.map_toArray, List.map_cons, List.map_nil]); first | done | rfl | (simp only [List.length_drop, List.length_take]; rfl)) ?_; (with_reducible refine (bound_Check.calls a0_0 a0_1 t110 _ ?side1 A3.out).mono ?_); (case side1 => exact hG.below (by exact pbE HB.out)); rintro e w10 ⟨rfl, hb⟩; refine ⟨_, rfl, ?_⟩; replace BK108 := Az.mk (bkB (bk BK108.out) hb); replace BK109 := Az.mk (bkB (bk BK109.out) hb); replace HB := Az.mk (pbT (by exact pbE HB.out) hb); (try clear hb); (try clear hb2); (try clear hk); (try clear hi); have hcz11 := cells2 BK109.out) | (go_at_call 47; (with_reducible refine (bound_Check.calls a1_0 a1_1 t111 _ ?side1 A5.out).mono ?_); (case side1 => exact hG.below (by exact pbE HB.out)); rintro e w12 ⟨rfl, hb⟩; replace BK108 := Az.mk (bkB (bk BK108.out) hb); replace BK109 := Az.mk (bkB (bk BK109.out) hb); replace HB := Az.mk (pbT (by exact pbE HB.out) hb); (try clear hb); (try clear hb2); (try clear hk); (try clear hi)))
  go_ret
  exact ⟨by first | rfl | (simp [errW_none, errW_some] <;> rfl) | (simp [*, errW_none, errW_some] <;> rfl), by exact pbE HB.out⟩
 ·rw [if_neg c4] at H
  have c4b0 : (t110 == 0) = false := beq_eq_false_iff_ne.mpr c4
  have c4b1 : (t110 != 0) = true := bne_iff_ne.mpr c4
  obtain rfl := Option.some.inj H
  go_enter Tryd.func73, Tryd.ntmps73
  go_wp2_with (first | ((with_reducible refine gate_dst (N := 2) rfl ?_); refine box_event ?hg (N := 2) ?hd (cs := #[.string a0_0, .string a0_1]) (t := 23) ?hr ?_; (case hd => rfl); (case hg => rfl); (case hr => first | (go_simp; done) | (go_simp; rfl)); intro gb108 hg w13 hbox hb; have BK108 := Az.mk (hbox); have GW108 := Az.mk (geO hg (pbE HB.out)); have GE108 := Az.mk (geO hg (pbE HB.out)); replace HB := Az.mk (pbT (by exact pbE HB.out) hb); clear hb hbox hg) | ((with_reducible refine gate_dst (N := 3) rfl ?_); refine box_event ?hg (N := 3) ?hd (cs := #[.string a1_0, .string a1_1]) (t := 23) ?hr ?_; (case hd => rfl); (case hg => rfl); (case hr => first | (go_simp; done) | (go_simp; rfl)); intro gb109 hg w14 hbox hb; have BK109 := Az.mk (hbox); have GW109 := Az.mk (geO hg (pbE HB.out)); have GE109 := Az.mk (geO hg (pbE HB.out)); replace HB := Az.mk (pbT (by exact pbE HB.out) hb); have NB108_109 := Az.mk (neO hg (bk BK108.out)); have NB109_108 := Az.mk (neP hg (bk BK108.out)); replace BK108 := Az.mk (bkB (bk BK108.out) hb); clear hb hbox hg; have hnb15 := NB108_109.out; have hnc15 := NB109_108.out; have hcz16 := cells2 BK108.out) | ((with_reducible refine gtc (f := 47) rfl ?_); refine goesL_ (some 6) rfl rfl Tryd.func47 (by kernel_rfl) rfl #[.agg #[.string a0_0, .string a0_1]] rfl (by (try simp only [List.map_toArray, List.map_cons, List.map_nil]); first | done | rfl | (simp only [List.length_drop, List.length_take]; rfl)) ?_; (with_reducible refine (bound_Check.calls a0_0 a0_1 t110 _ ?side1 A3.out).mono ?_); (case side1 => exact hG.below (by exact pbE HB.out)); rintro e w17 ⟨rfl, hb⟩; refine ⟨_, rfl, ?_⟩; replace BK108 := Az.mk (bkB (bk BK108.out) hb); replace BK109 := Az.mk (bkB (bk BK109.out) hb); replace HB := Az.mk (pbT (by exact pbE HB.out) hb); (try clear hb); (try clear hb2); (try clear hk); (try clear hi)))
  go_ret
  exact ⟨by first | rfl | (simp [errW_none, errW_some] <;> rfl) | (simp [*, errW_none, errW_some] <;> rfl), by exact pbE HB.out⟩
def bound_Next.f (a0_0 : ByteArray) (a0_1 : ByteArray) (a1_0 : ByteArray) (a1_1 : ByteArray) : Option (Bool) := (bound_both.f a0_0 a0_1 a1_0 a1_1).bind fun t114 => (if t114 = true then (if a0_1.toList = ([] : List UInt8) then (some false) else (some (a0_1.toList == a1_0.toList))) else (some false))
set_option maxHeartbeats 8000000 in
set_option maxRecDepth 100000 in
theorem bound_Next.calls (a0_0 : ByteArray) (a0_1 : ByteArray) (a1_0 : ByteArray) (a1_1 : ByteArray) (r : Bool) (w : World) (hG : TheG w) (h : bound_Next.f a0_0 a0_1 a1_0 a1_1 = some r) :
 Calls Tryd.prog 63 #[.agg #[.string a0_0, .string a0_1], .agg #[.string a1_0, .string a1_1]] w fun e w' => e = .returned (.bool r) ∧ Below w.heap.size w w' := by
 have hu23 := Tryd.underlying23
 have HB := Az.mk (Below.refl w.heap.size w)
 have H : ((bound_both.f a0_0 a0_1 a1_0 a1_1).bind fun t114 => (if t114 = true then (if a0_1.toList = ([] : List UInt8) then (some false) else (some (a0_1.toList == a1_0.toList))) else (some false))) = some r := h
 clear h
 replace H := Option.bind_eq_some_iff.mp H
 obtain ⟨t114, A30, H⟩ := H
 replace H : (if t114 = true then (if a0_1.toList = ([] : List UInt8) then (some false) else (some (a0_1.toList == a1_0.toList))) else (some false)) = some r := H
 have A3 := Az.mk A30
 clear A30
 by_cases c4 : t114 = true
 ·subst c4
  have H1 : (if a0_1.toList = ([] : List UInt8) then (some false) else (some (a0_1.toList == a1_0.toList))) = some r := by rw [if_pos rfl] at H; exact H
  clear H
  have H := H1
  clear H1
  by_cases c5 : a0_1.toList = ([] : List UInt8)
  ·rw [if_pos c5] at H
   have c5b0 : (a0_1.toList == ([] : List UInt8)) = true := beq_iff_eq.mpr c5
   have c5b1 : (a0_1.toList != ([] : List UInt8)) = false := bne_eq_false_iff_eq.mpr c5
   clear c5
   obtain rfl := Option.some.inj H
   go_enter Tryd.func63, Tryd.ntmps63
   go_wp2_with (first | ((with_reducible refine gate_dst (N := 2) rfl ?_); refine box_event ?hg (N := 2) ?hd (cs := #[.string a0_0, .string a0_1]) (t := 23) ?hr ?_; (case hd => rfl); (case hg => rfl); (case hr => first | (go_simp; done) | (go_simp; rfl)); intro gb112 hg w6 hbox hb; have BK112 := Az.mk (hbox); have GW112 := Az.mk (geO hg (pbE HB.out)); have GE112 := Az.mk (geO hg (pbE HB.out)); replace HB := Az.mk (pbT (by exact pbE HB.out) hb); clear hb hbox hg) | ((with_reducible refine gate_dst (N := 3) rfl ?_); refine box_event ?hg (N := 3) ?hd (cs := #[.string a1_0, .string a1_1]) (t := 23) ?hr ?_; (case hd => rfl); (case hg => rfl); (case hr => first | (go_simp; done) | (go_simp; rfl)); intro gb113 hg w7 hbox hb; have BK113 := Az.mk (hbox); have GW113 := Az.mk (geO hg (pbE HB.out)); have GE113 := Az.mk (geO hg (pbE HB.out)); replace HB := Az.mk (pbT (by exact pbE HB.out) hb); have NB112_113 := Az.mk (neO hg (bk BK112.out)); have NB113_112 := Az.mk (neP hg (bk BK112.out)); replace BK112 := Az.mk (bkB (bk BK112.out) hb); clear hb hbox hg; have hnb8 := NB112_113.out; have hnc8 := NB113_112.out; have hcz9 := cells2 BK112.out; have hcz10 := cells2 BK113.out) | ((with_reducible refine gtc (f := 73) rfl ?_); refine goesL_ (some 7) rfl rfl Tryd.func73 (by kernel_rfl) rfl #[.agg #[.string a0_0, .string a0_1], .agg #[.string a1_0, .string a1_1]] rfl (by (try simp only [List.map_toArray, List.map_cons, List.map_nil]); first | done | rfl | (simp only [List.length_drop, List.length_take]; rfl)) ?_; (with_reducible refine (bound_both.calls a0_0 a0_1 a1_0 a1_1 true _ ?side1 A3.out).mono ?_); (case side1 => exact hG.below (by exact pbE HB.out)); rintro e w11 ⟨rfl, hb⟩; refine ⟨_, rfl, ?_⟩; replace BK112 := Az.mk (bkB (bk BK112.out) hb); replace BK113 := Az.mk (bkB (bk BK113.out) hb); replace HB := Az.mk (pbT (by exact pbE HB.out) hb); (try clear hb); (try clear hb2); (try clear hk); (try clear hi); have hcz12 := cells2 BK112.out))
   go_ret
   exact ⟨by first | rfl | (simp [errW_none, errW_some] <;> rfl) | (simp [*, errW_none, errW_some] <;> rfl), by exact pbE HB.out⟩
  ·rw [if_neg c5] at H
   have c5b0 : (a0_1.toList == ([] : List UInt8)) = false := beq_eq_false_iff_ne.mpr c5
   have c5b1 : (a0_1.toList != ([] : List UInt8)) = true := bne_iff_ne.mpr c5
   obtain rfl := Option.some.inj H
   go_enter Tryd.func63, Tryd.ntmps63
   go_wp2_with (first | ((with_reducible refine gate_dst (N := 2) rfl ?_); refine box_event ?hg (N := 2) ?hd (cs := #[.string a0_0, .string a0_1]) (t := 23) ?hr ?_; (case hd => rfl); (case hg => rfl); (case hr => first | (go_simp; done) | (go_simp; rfl)); intro gb112 hg w13 hbox hb; have BK112 := Az.mk (hbox); have GW112 := Az.mk (geO hg (pbE HB.out)); have GE112 := Az.mk (geO hg (pbE HB.out)); replace HB := Az.mk (pbT (by exact pbE HB.out) hb); clear hb hbox hg) | ((with_reducible refine gate_dst (N := 3) rfl ?_); refine box_event ?hg (N := 3) ?hd (cs := #[.string a1_0, .string a1_1]) (t := 23) ?hr ?_; (case hd => rfl); (case hg => rfl); (case hr => first | (go_simp; done) | (go_simp; rfl)); intro gb113 hg w14 hbox hb; have BK113 := Az.mk (hbox); have GW113 := Az.mk (geO hg (pbE HB.out)); have GE113 := Az.mk (geO hg (pbE HB.out)); replace HB := Az.mk (pbT (by exact pbE HB.out) hb); have NB112_113 := Az.mk (neO hg (bk BK112.out)); have NB113_112 := Az.mk (neP hg (bk BK112.out)); replace BK112 := Az.mk (bkB (bk BK112.out) hb); clear hb hbox hg; have hnb15 := NB112_113.out; have hnc15 := NB113_112.out; have hcz16 := cells2 BK112.out; have hcz17 := cells2 BK113.out) | ((with_reducible refine gtc (f := 73) rfl ?_); refine goesL_ (some 7) rfl rfl Tryd.func73 (by kernel_rfl) rfl #[.agg #[.string a0_0, .string a0_1], .agg #[.string a1_0, .string a1_1]] rfl (by (try simp only [List.map_toArray, List.map_cons, List.map_nil]); first | done | rfl | (simp only [List.length_drop, List.length_take]; rfl)) ?_; (with_reducible refine (bound_both.calls a0_0 a0_1 a1_0 a1_1 true _ ?side1 A3.out).mono ?_); (case side1 => exact hG.below (by exact pbE HB.out)); rintro e w18 ⟨rfl, hb⟩; refine ⟨_, rfl, ?_⟩; replace BK112 := Az.mk (bkB (bk BK112.out) hb); replace BK113 := Az.mk (bkB (bk BK113.out) hb); replace HB := Az.mk (pbT (by exact pbE HB.out) hb); (try clear hb); (try clear hb2); (try clear hk); (try clear hi); have hcz19 := cells2 BK112.out; have hcz20 := cells2 BK113.out))
   go_ret
   exact ⟨by first | rfl | (simp [errW_none, errW_some] <;> rfl) | (simp [*, errW_none, errW_some] <;> rfl), by exact pbE HB.out⟩
 ·replace c4 := Bool.eq_false_iff.mpr c4
  subst c4
  have H1 : (some false) = some r := by rw [if_neg (show ¬ (false = true) by decide)] at H; exact H
  clear H
  have H := H1
  clear H1
  obtain rfl := Option.some.inj H
  go_enter Tryd.func63, Tryd.ntmps63
  go_wp2_with (first | ((with_reducible refine gate_dst (N := 2) rfl ?_); refine box_event ?hg (N := 2) ?hd (cs := #[.string a0_0, .string a0_1]) (t := 23) ?hr ?_; (case hd => rfl); (case hg => rfl); (case hr => first | (go_simp; done) | (go_simp; rfl)); intro gb112 hg w21 hbox hb; have BK112 := Az.mk (hbox); have GW112 := Az.mk (geO hg (pbE HB.out)); have GE112 := Az.mk (geO hg (pbE HB.out)); replace HB := Az.mk (pbT (by exact pbE HB.out) hb); clear hb hbox hg) | ((with_reducible refine gate_dst (N := 3) rfl ?_); refine box_event ?hg (N := 3) ?hd (cs := #[.string a1_0, .string a1_1]) (t := 23) ?hr ?_; (case hd => rfl); (case hg => rfl); (case hr => first | (go_simp; done) | (go_simp; rfl)); intro gb113 hg w22 hbox hb; have BK113 := Az.mk (hbox); have GW113 := Az.mk (geO hg (pbE HB.out)); have GE113 := Az.mk (geO hg (pbE HB.out)); replace HB := Az.mk (pbT (by exact pbE HB.out) hb); have NB112_113 := Az.mk (neO hg (bk BK112.out)); have NB113_112 := Az.mk (neP hg (bk BK112.out)); replace BK112 := Az.mk (bkB (bk BK112.out) hb); clear hb hbox hg; have hnb23 := NB112_113.out; have hnc23 := NB113_112.out; have hcz24 := cells2 BK112.out; have hcz25 := cells2 BK113.out) | ((with_reducible refine gtc (f := 73) rfl ?_); refine goesL_ (some 7) rfl rfl Tryd.func73 (by kernel_rfl) rfl #[.agg #[.string a0_0, .string a0_1], .agg #[.string a1_0, .string a1_1]] rfl (by (try simp only [List.map_toArray, List.map_cons, List.map_nil]); first | done | rfl | (simp only [List.length_drop, List.length_take]; rfl)) ?_; (with_reducible refine (bound_both.calls a0_0 a0_1 a1_0 a1_1 false _ ?side1 A3.out).mono ?_); (case side1 => exact hG.below (by exact pbE HB.out)); rintro e w26 ⟨rfl, hb⟩; refine ⟨_, rfl, ?_⟩; replace BK112 := Az.mk (bkB (bk BK112.out) hb); replace BK113 := Az.mk (bkB (bk BK113.out) hb); replace HB := Az.mk (pbT (by exact pbE HB.out) hb); (try clear hb); (try clear hb2); (try clear hk); (try clear hi)))
  go_ret
  exact ⟨by first | rfl | (simp [errW_none, errW_some] <;> rfl) | (simp [*, errW_none, errW_some] <;> rfl), by exact pbE HB.out⟩
def bound_Join.f (a0_0 : ByteArray) (a0_1 : ByteArray) (a1_0 : ByteArray) (a1_1 : ByteArray) : Option (ByteArray × ByteArray × Int) := (bound_Next.f a0_0 a0_1 a1_0 a1_1).bind fun t118 => (if t118 = true then (some (a0_0, a1_1, 0)) else (some ((⟨#[]⟩ : ByteArray), (⟨#[]⟩ : ByteArray), 20)))
set_option maxHeartbeats 8000000 in
set_option maxRecDepth 100000 in
theorem bound_Join.calls (a0_0 : ByteArray) (a0_1 : ByteArray) (a1_0 : ByteArray) (a1_1 : ByteArray) (r1 : ByteArray) (r2 : ByteArray) (r3 : Int) (w : World) (hG : TheG w) (h : bound_Join.f a0_0 a0_1 a1_0 a1_1 = some (r1, r2, r3)) :
 Calls Tryd.prog 36 #[.agg #[.string a0_0, .string a0_1], .agg #[.string a1_0, .string a1_1]] w fun e w' => e = .returned (.tuple #[.agg #[.string r1, .string r2], .int .i64 r3]) ∧ Below w.heap.size w w' := by
 have hu23 := Tryd.underlying23
 have HB := Az.mk (Below.refl w.heap.size w)
 have H : ((bound_Next.f a0_0 a0_1 a1_0 a1_1).bind fun t118 => (if t118 = true then (some (a0_0, a1_1, 0)) else (some ((⟨#[]⟩ : ByteArray), (⟨#[]⟩ : ByteArray), 20)))) = some (r1, r2, r3) := h
 clear h
 replace H := Option.bind_eq_some_iff.mp H
 obtain ⟨t118, A30, H⟩ := H
 replace H : (if t118 = true then (some (a0_0, a1_1, 0)) else (some ((⟨#[]⟩ : ByteArray), (⟨#[]⟩ : ByteArray), 20))) = some (r1, r2, r3) := H
 have A3 := Az.mk A30
 clear A30
 by_cases c4 : t118 = true
 ·subst c4
  have H1 : (some (a0_0, a1_1, 0)) = some (r1, r2, r3) := by rw [if_pos rfl] at H; exact H
  clear H
  have H := H1
  clear H1
  simp only [Option.some.injEq, Prod.mk.injEq] at H
  obtain ⟨rfl, rfl, rfl⟩ := H
  go_enter Tryd.func36, Tryd.ntmps36
  go_wp2_with (first | ((with_reducible refine gate_dst (N := 2) rfl ?_); refine box_event ?hg (N := 2) ?hd (cs := #[.string a0_0, .string a0_1]) (t := 23) ?hr ?_; (case hd => rfl); (case hg => rfl); (case hr => first | (go_simp; done) | (go_simp; rfl)); intro gb115 hg w5 hbox hb; have BK115 := Az.mk (hbox); have GW115 := Az.mk (geO hg (pbE HB.out)); have GE115 := Az.mk (geO hg (pbE HB.out)); replace HB := Az.mk (pbT (by exact pbE HB.out) hb); clear hb hbox hg) | ((with_reducible refine gate_dst (N := 3) rfl ?_); refine box_event ?hg (N := 3) ?hd (cs := #[.string a1_0, .string a1_1]) (t := 23) ?hr ?_; (case hd => rfl); (case hg => rfl); (case hr => first | (go_simp; done) | (go_simp; rfl)); intro gb116 hg w6 hbox hb; have BK116 := Az.mk (hbox); have GW116 := Az.mk (geO hg (pbE HB.out)); have GE116 := Az.mk (geO hg (pbE HB.out)); replace HB := Az.mk (pbT (by exact pbE HB.out) hb); have NB115_116 := Az.mk (neO hg (bk BK115.out)); have NB116_115 := Az.mk (neP hg (bk BK115.out)); replace BK115 := Az.mk (bkB (bk BK115.out) hb); clear hb hbox hg) | ((with_reducible refine gate_dst (N := 4) rfl ?_); refine box_event ?hg (N := 4) ?hd (cs := #[.string (⟨#[]⟩ : ByteArray), .string (⟨#[]⟩ : ByteArray)]) (t := 23) ?hr ?_; (case hd => rfl); (case hg => rfl); (case hr => first | (go_simp; done) | (go_simp; rfl)); intro gb117 hg w7 hbox hb; have BK117 := Az.mk (hbox); have GW117 := Az.mk (geO hg (pbE HB.out)); have GE117 := Az.mk (geO hg (pbE HB.out)); replace HB := Az.mk (pbT (by exact pbE HB.out) hb); have NB115_117 := Az.mk (neO hg (bk BK115.out)); have NB117_115 := Az.mk (neP hg (bk BK115.out)); replace BK115 := Az.mk (bkB (bk BK115.out) hb); have NB116_117 := Az.mk (neO hg (bk BK116.out)); have NB117_116 := Az.mk (neP hg (bk BK116.out)); replace BK116 := Az.mk (bkB (bk BK116.out) hb); clear hb hbox hg; have hnb8 := NB115_116.out; have hnc8 := NB116_115.out; have hnb9 := NB115_117.out; have hnc9 := NB117_115.out; have hcz10 := cells2 BK115.out; have hnb11 := NB116_117.out; have hnc11 := NB117_116.out; have hcz12 := cells2 BK116.out) | ((with_reducible refine gtc (f := 63) rfl ?_); refine goesL_ (some 8) rfl rfl Tryd.func63 (by kernel_rfl) rfl #[.agg #[.string a0_0, .string a0_1], .agg #[.string a1_0, .string a1_1]] rfl (by (try simp only [List.map_toArray, List.map_cons, List.map_nil]); first | done | rfl | (simp only [List.length_drop, List.length_take]; rfl)) ?_; (with_reducible refine (bound_Next.calls a0_0 a0_1 a1_0 a1_1 true _ ?side1 A3.out).mono ?_); (case side1 => exact hG.below (by exact pbE HB.out)); rintro e w13 ⟨rfl, hb⟩; refine ⟨_, rfl, ?_⟩; replace BK115 := Az.mk (bkB (bk BK115.out) hb); replace BK116 := Az.mk (bkB (bk BK116.out) hb); replace BK117 := Az.mk (bkB (bk BK117.out) hb); replace HB := Az.mk (pbT (by exact pbE HB.out) hb); (try clear hb); (try clear hb2); (try clear hk); (try clear hi); have hcz14 := cells2 BK115.out; have hcz15 := cells2 BK116.out; have hcz16 := cells2 BK117.out))
  refine bodyPost_ret (results_ct rfl _ _ gb117 23 #[.string a0_0, .string a1_1] (0, 0) _ rfl (by refine bk ?_; refine blk_put (cs := #[.string a0_0, .string (⟨#[]⟩ : ByteArray)]) ?_ 1 _ rfl; refine bk ?_; refine blk_put (cs := #[.string (⟨#[]⟩ : ByteArray), .string (⟨#[]⟩ : ByteArray)]) ?_ 0 _ rfl; refine bk ?_; exact BK117.out) Tryd.underlying23 rfl (by kernel_rfl)) rfl ?_
  exact ⟨by first | rfl | (simp [errW_none, errW_some] <;> rfl) | (simp [*, errW_none, errW_some] <;> rfl), by exact pbE HB.out⟩
 ·replace c4 := Bool.eq_false_iff.mpr c4
  subst c4
  have H1 : (some ((⟨#[]⟩ : ByteArray), (⟨#[]⟩ : ByteArray), 20)) = some (r1, r2, r3) := by rw [if_neg (show ¬ (false = true) by decide)] at H; exact H
  clear H
  have H := H1
  clear H1
  simp only [Option.some.injEq, Prod.mk.injEq] at H
  obtain ⟨rfl, rfl, rfl⟩ := H
  go_enter Tryd.func36, Tryd.ntmps36
  go_wp2_with (first | ((with_reducible refine gate_dst (N := 2) rfl ?_); refine box_event ?hg (N := 2) ?hd (cs := #[.string a0_0, .string a0_1]) (t := 23) ?hr ?_; (case hd => rfl); (case hg => rfl); (case hr => first | (go_simp; done) | (go_simp; rfl)); intro gb115 hg w17 hbox hb; have BK115 := Az.mk (hbox); have GW115 := Az.mk (geO hg (pbE HB.out)); have GE115 := Az.mk (geO hg (pbE HB.out)); replace HB := Az.mk (pbT (by exact pbE HB.out) hb); clear hb hbox hg) | ((with_reducible refine gate_dst (N := 3) rfl ?_); refine box_event ?hg (N := 3) ?hd (cs := #[.string a1_0, .string a1_1]) (t := 23) ?hr ?_; (case hd => rfl); (case hg => rfl); (case hr => first | (go_simp; done) | (go_simp; rfl)); intro gb116 hg w18 hbox hb; have BK116 := Az.mk (hbox); have GW116 := Az.mk (geO hg (pbE HB.out)); have GE116 := Az.mk (geO hg (pbE HB.out)); replace HB := Az.mk (pbT (by exact pbE HB.out) hb); have NB115_116 := Az.mk (neO hg (bk BK115.out)); have NB116_115 := Az.mk (neP hg (bk BK115.out)); replace BK115 := Az.mk (bkB (bk BK115.out) hb); clear hb hbox hg) | ((with_reducible refine gate_dst (N := 4) rfl ?_); refine box_event ?hg (N := 4) ?hd (cs := #[.string (⟨#[]⟩ : ByteArray), .string (⟨#[]⟩ : ByteArray)]) (t := 23) ?hr ?_; (case hd => rfl); (case hg => rfl); (case hr => first | (go_simp; done) | (go_simp; rfl)); intro gb117 hg w19 hbox hb; have BK117 := Az.mk (hbox); have GW117 := Az.mk (geO hg (pbE HB.out)); have GE117 := Az.mk (geO hg (pbE HB.out)); replace HB := Az.mk (pbT (by exact pbE HB.out) hb); have NB115_117 := Az.mk (neO hg (bk BK115.out)); have NB117_115 := Az.mk (neP hg (bk BK115.out)); replace BK115 := Az.mk (bkB (bk BK115.out) hb); have NB116_117 := Az.mk (neO hg (bk BK116.out)); have NB117_116 := Az.mk (neP hg (bk BK116.out)); replace BK116 := Az.mk (bkB (bk BK116.out) hb); clear hb hbox hg; have hnb20 := NB115_116.out; have hnc20 := NB116_115.out; have hnb21 := NB115_117.out; have hnc21 := NB117_115.out; have hcz22 := cells2 BK115.out; have hnb23 := NB116_117.out; have hnc23 := NB117_116.out; have hcz24 := cells2 BK116.out) | ((with_reducible refine gtc (f := 63) rfl ?_); refine goesL_ (some 8) rfl rfl Tryd.func63 (by kernel_rfl) rfl #[.agg #[.string a0_0, .string a0_1], .agg #[.string a1_0, .string a1_1]] rfl (by (try simp only [List.map_toArray, List.map_cons, List.map_nil]); first | done | rfl | (simp only [List.length_drop, List.length_take]; rfl)) ?_; (with_reducible refine (bound_Next.calls a0_0 a0_1 a1_0 a1_1 false _ ?side1 A3.out).mono ?_); (case side1 => exact hG.below (by exact pbE HB.out)); rintro e w25 ⟨rfl, hb⟩; refine ⟨_, rfl, ?_⟩; replace BK115 := Az.mk (bkB (bk BK115.out) hb); replace BK116 := Az.mk (bkB (bk BK116.out) hb); replace BK117 := Az.mk (bkB (bk BK117.out) hb); replace HB := Az.mk (pbT (by exact pbE HB.out) hb); (try clear hb); (try clear hb2); (try clear hk); (try clear hi); have hcz26 := cells2 BK117.out))
  refine bodyPost_ret (results_ct rfl _ _ gb117 23 #[.string (⟨#[]⟩ : ByteArray), .string (⟨#[]⟩ : ByteArray)] (0, 0) _ rfl (by refine bk ?_; refine blk_put (cs := #[.string (⟨#[]⟩ : ByteArray), .string (⟨#[]⟩ : ByteArray)]) ?_ 1 _ rfl; refine bk ?_; refine blk_put (cs := #[.string (⟨#[]⟩ : ByteArray), .string (⟨#[]⟩ : ByteArray)]) ?_ 0 _ rfl; refine bk ?_; exact BK117.out) Tryd.underlying23 rfl (by kernel_rfl)) rfl ?_
  exact ⟨by first | rfl | (simp [errW_none, errW_some] <;> rfl) | (simp [*, errW_none, errW_some] <;> rfl), by exact pbE HB.out⟩
def desc_Merge.j0 : Nat → Bool → Int → ByteArray → ByteArray → Int → List (S60) → Int → Int → ByteArray → ByteArray → Int → List (S60) → Int → Option (Int × ByteArray × ByteArray × Int × (List (S60)) × Int × Int)
 | 0, _, _, _, _, _, _, _, _, _, _, _, _, _ => none
 | k + 1, x15, x123000, x123001, x123002, x123003, x123004, x123005, x124000, x124001, x124002, x124003, x124004, x124005 => if x15 = true then (some (0, (⟨#[]⟩ : ByteArray), (⟨#[]⟩ : ByteArray), 0, ([] : List (S60)), 0, 60)) else ((bound_Join.f x123001 x123002 x124001 x124002).bind fun bt127 => (if bt127.2.2 = 0 then (if x123000 = x124000 then (some (0, (⟨#[]⟩ : ByteArray), (⟨#[]⟩ : ByteArray), 0, ([] : List (S60)), 0, 2)) else ((desc_right.f x123000 bt127.1 bt127.2.1 (wrap64 ((mx x123003 x124003) + 1)) x123004 x123005).bind fun bt131 => (some (bt131.1, bt131.2.1, bt131.2.2.1, bt131.2.2.2.1, bt131.2.2.2.2.1, bt131.2.2.2.2.2.1, bt131.2.2.2.2.2.2)))) else (some (0, (⟨#[]⟩ : ByteArray), (⟨#[]⟩ : ByteArray), 0, ([] : List (S60)), 0, bt127.2.2))))
def desc_Merge.f (k : Nat) (a0_0 : Int) (a0_1 : ByteArray) (a0_2 : ByteArray) (a0_3 : Int) (l0_4 : List (S60)) (a0_5 : Int) (a1_0 : Int) (a1_1 : ByteArray) (a1_2 : ByteArray) (a1_3 : Int) (l1_4 : List (S60)) (a1_5 : Int) : Option (Int × ByteArray × ByteArray × Int × (List (S60)) × Int × Int) := (desc_Check.f a0_0 a0_1 a0_2 a0_3 l0_4 a0_5).bind fun t125 => (if t125 = 0 then ((desc_Check.f a1_0 a1_1 a1_2 a1_3 l1_4 a1_5).bind fun t126 => (desc_Merge.j0 k (t126 != 0) a0_0 a0_1 a0_2 a0_3 l0_4 a0_5 a1_0 a1_1 a1_2 a1_3 l1_4 a1_5)) else (desc_Merge.j0 k true a0_0 a0_1 a0_2 a0_3 l0_4 a0_5 a1_0 a1_1 a1_2 a1_3 l1_4 a1_5))
theorem desc_Merge.mono_l : ∀ k, (∀ y0 y1 y2 y3 y4 y5 y6 y7 y8 y9 y10 y11 y12, LeO (desc_Merge.j0 k y0 y1 y2 y3 y4 y5 y6 y7 y8 y9 y10 y11 y12) (desc_Merge.j0 (k + 1) y0 y1 y2 y3 y4 y5 y6 y7 y8 y9 y10 y11 y12))
 | 0 => fun _ _ _ _ _ _ _ _ _ _ _ _ _ r h => by simp [desc_Merge.j0] at h
 | k + 1 => by
  have ih0 := desc_Merge.mono_l k
  ·intro y0 y1 y2 y3 y4 y5 y6 y7 y8 y9 y10 y11 y12
   unfold desc_Merge.j0
   repeat' first
   | (with_reducible exact ih0 _ _ _ _ _ _ _ _ _ _ _ _ _)
   | (with_reducible exact LeO.refl _)
   | (with_reducible exact LeO.none _)
   | (with_reducible refine LeO.ite ?_ ?_)
   | (with_reducible refine LeO.bind ?_ (fun _ => ?_))
   | exact ih0 _ _ _ _ _ _ _ _ _ _ _ _ _
   | exact LeO.none _
   | refine LeO.ite ?_ ?_
   | refine LeO.bind ?_ (fun _ => ?_)
theorem desc_Merge.mono : ∀ a0 a1 a2 a3 a4 a5 a6 a7 a8 a9 a10 a11 k, LeO (desc_Merge.f k a0 a1 a2 a3 a4 a5 a6 a7 a8 a9 a10 a11) (desc_Merge.f (k + 1) a0 a1 a2 a3 a4 a5 a6 a7 a8 a9 a10 a11) := by
 intro a0 a1 a2 a3 a4 a5 a6 a7 a8 a9 a10 a11 k
 have ih0 := desc_Merge.mono_l k
 unfold desc_Merge.f
 repeat' first
  | (with_reducible exact ih0 _ _ _ _ _ _ _ _ _ _ _ _ _)
  | (with_reducible exact LeO.refl _)
  | (with_reducible exact LeO.none _)
  | (with_reducible refine LeO.ite ?_ ?_)
  | (with_reducible refine LeO.bind ?_ (fun _ => ?_))
  | exact ih0 _ _ _ _ _ _ _ _ _ _ _ _ _
  | exact LeO.none _
  | refine LeO.ite ?_ ?_
  | refine LeO.bind ?_ (fun _ => ?_)
set_option maxHeartbeats 8000000 in
set_option maxRecDepth 100000 in
theorem desc_Merge.calls (k : Nat) (a0_0 : Int) (a0_1 : ByteArray) (a0_2 : ByteArray) (a0_3 : Int) (P0_4_ : Nat → Prop) (A0_4 : Option Addr) (c0_4 : Nat) (l0_4 : List (S60)) (a0_5 : Int) (a1_0 : Int) (a1_1 : ByteArray) (a1_2 : ByteArray) (a1_3 : Int) (A1_4 : Option Addr) (c1_4 : Nat) (l1_4 : List (S60)) (a1_5 : Int) (r1 : Int) (r2 : ByteArray) (r3 : ByteArray) (r4 : Int) (r5 : List (S60)) (r6 : Int) (r7 : Int) (w : World) (hG : TheG w) (hs0_4 : Kd.V k60 60 w w.heap.size (fun k_ => P0_4_ k_) (.slice A0_4 l0_4.length c0_4) l0_4) (hr1_4 : Kd.C k60 w A1_4 l1_4.length l1_4) (hc1_4 : l1_4.length ≤ c1_4) (h : desc_Merge.f k a0_0 a0_1 a0_2 a0_3 l0_4 a0_5 a1_0 a1_1 a1_2 a1_3 l1_4 a1_5 = some (r1, r2, r3, r4, r5, r6, r7)) :
 Calls Tryd.prog 14 #[.agg #[.int .i64 a0_0, .string a0_1, .string a0_2, .int .i64 a0_3, .slice A0_4 l0_4.length c0_4, .int .i64 a0_5], .agg #[.int .i64 a1_0, .string a1_1, .string a1_2, .int .i64 a1_3, .slice A1_4 l1_4.length c1_4, .int .i64 a1_5]] w fun e w' => ∃ v4_ : Value, e = .returned (.tuple #[.agg #[.int .i64 r1, .string r2, .string r3, .int .i64 r4, v4_, .int .i64 r6], .int .i64 r7]) ∧ Kd.V k60 60 w' w.heap.size (fun k_ => (P0_4_ k_ ∨ w.heap.size ≤ k_)) v4_ r5 ∧ Below w.heap.size w w' := by
 have hu26 := Tryd.underlying26
 have hu23 := Tryd.underlying23
 have HO0_4 := Az.mk (show Kd.V k60 60 w w.heap.size (fun k_ => (P0_4_ k_ ∨ w.heap.size ≤ k_)) (.slice A0_4 l0_4.length c0_4) l0_4 from Kd.V_mono hs0_4 (fun k_ hk => .inl hk))
 have HR1_4 := Az.mk hr1_4
 have HC1_4 := Az.mk hc1_4
 clear hr1_4 hc1_4
 have HB := Az.mk (Below.refl w.heap.size w)
 have H : ((desc_Check.f a0_0 a0_1 a0_2 a0_3 l0_4 a0_5).bind fun t125 => (if t125 = 0 then ((desc_Check.f a1_0 a1_1 a1_2 a1_3 l1_4 a1_5).bind fun t126 => (desc_Merge.j0 k (t126 != 0) a0_0 a0_1 a0_2 a0_3 l0_4 a0_5 a1_0 a1_1 a1_2 a1_3 l1_4 a1_5)) else (desc_Merge.j0 k true a0_0 a0_1 a0_2 a0_3 l0_4 a0_5 a1_0 a1_1 a1_2 a1_3 l1_4 a1_5))) = some (r1, r2, r3, r4, r5, r6, r7) := h
 clear h
 have HC3 := Az.mk H
 clear H
 go_enter Tryd.func14, Tryd.ntmps14
 go_upto_region 1 with (first | ((with_reducible refine gate_dst (N := 2) rfl ?_); refine box_event ?hg (N := 2) ?hd (cs := #[.int .i64 a0_0, .string a0_1, .string a0_2, .int .i64 a0_3, .slice A0_4 l0_4.length c0_4, .int .i64 a0_5]) (t := 26) ?hr ?_; (case hd => rfl); (case hg => rfl); (case hr => first | (go_simp; done) | (go_simp; rfl)); intro gb122 hg w4 hbox hb; replace HO0_4 := Az.mk (Kd.V_below (Kd.V_elderB (Kd.V_ext HO0_4.out) gb122 (Nat.le_of_eq hg.symm)) hb); have BK122 := Az.mk (hbox); have GW122 := Az.mk (geO hg (pbE HB.out)); have GE122 := Az.mk (geO hg (pbE HB.out)); replace HB := Az.mk (pbT (by exact pbE HB.out) hb); clear hb hbox hg) | ((with_reducible refine gate_dst (N := 3) rfl ?_); refine box_event ?hg (N := 3) ?hd (cs := #[.int .i64 a1_0, .string a1_1, .string a1_2, .int .i64 a1_3, .slice A1_4 l1_4.length c1_4, .int .i64 a1_5]) (t := 26) ?hr ?_; (case hd => rfl); (case hg => rfl); (case hr => first | (go_simp; done) | (go_simp; rfl)); intro gb123 hg w5 hbox hb; replace HO0_4 := Az.mk (Kd.V_below (Kd.V_elderB (Kd.V_ext HO0_4.out) gb123 (Nat.le_of_eq hg.symm)) hb); have BK123 := Az.mk (hbox); have GW123 := Az.mk (geO hg (pbE HB.out)); have GE123 := Az.mk (geO hg (pbE HB.out)); replace HB := Az.mk (pbT (by exact pbE HB.out) hb); have NB122_123 := Az.mk (neO hg (bk BK122.out)); have NB123_122 := Az.mk (neP hg (bk BK122.out)); replace BK122 := Az.mk (bkB (bk BK122.out) hb); clear hb hbox hg) | ((with_reducible refine gate_dst (N := 4) rfl ?_); refine box_event ?hg (N := 4) ?hd (cs := #[.int .i64 0, .string (⟨#[]⟩ : ByteArray), .string (⟨#[]⟩ : ByteArray), .int .i64 0, .slice none 0 0, .int .i64 0]) (t := 26) ?hr ?_; (case hd => rfl); (case hg => rfl); (case hr => first | (go_simp; done) | (go_simp; rfl)); intro gb124 hg w6 hbox hb; replace HO0_4 := Az.mk (Kd.V_below (Kd.V_elderB (Kd.V_ext HO0_4.out) gb124 (Nat.le_of_eq hg.symm)) hb); have BK124 := Az.mk (hbox); have GW124 := Az.mk (geO hg (pbE HB.out)); have GE124 := Az.mk (geO hg (pbE HB.out)); replace HB := Az.mk (pbT (by exact pbE HB.out) hb); have NB122_124 := Az.mk (neO hg (bk BK122.out)); have NB124_122 := Az.mk (neP hg (bk BK122.out)); replace BK122 := Az.mk (bkB (bk BK122.out) hb); have NB123_124 := Az.mk (neO hg (bk BK123.out)); have NB124_123 := Az.mk (neP hg (bk BK123.out)); replace BK123 := Az.mk (bkB (bk BK123.out) hb); clear hb hbox hg))
 (try simp only [Act.put, List.setIfInBounds_toArray, List.set_cons_zero, List.set_cons_succ])
 go_cut [15] (fun v15 wc => ∃ (kq : Nat) (x15_2 : Bool), v15 = .bool x15_2 ∧ Az (desc_Merge.j0 kq x15_2 a0_0 a0_1 a0_2 a0_3 l0_4 a0_5 a1_0 a1_1 a1_2 a1_3 l1_4 a1_5 = some (r1, r2, r3, r4, r5, r6, r7)) ∧ Az (kq ≤ k) ∧ Az (Kd.V k60 60 wc w.heap.size (fun k_ => (P0_4_ k_ ∨ w.heap.size ≤ k_) ∧ k_ ≠ gb122 ∧ k_ ≠ gb123 ∧ k_ ≠ gb124) (.slice A0_4 l0_4.length c0_4) l0_4) ∧ Az (wc.heap[gb122]? = some (.cells #[.int .i64 a0_0, .string a0_1, .string a0_2, .int .i64 a0_3, (.slice A0_4 l0_4.length c0_4), .int .i64 a0_5] 26 (0, 0))) ∧ Az (wc.heap[gb123]? = some (.cells #[.int .i64 a1_0, .string a1_1, .string a1_2, .int .i64 a1_3, (.slice A1_4 l1_4.length c1_4), .int .i64 a1_5] 26 (0, 0))) ∧ Az (wc.heap[gb124]? = some (.cells #[.int .i64 0, .string (⟨#[]⟩ : ByteArray), .string (⟨#[]⟩ : ByteArray), .int .i64 0, (.slice none 0 0), .int .i64 0] 26 (0, 0))) ∧ Az (Below w.heap.size w wc))
 case first =>
  have H := HC3.out
  clear HC3
  replace H := Option.bind_eq_some_iff.mp H
  obtain ⟨t125, A70, H⟩ := H
  replace H : (if t125 = 0 then ((desc_Check.f a1_0 a1_1 a1_2 a1_3 l1_4 a1_5).bind fun t126 => (desc_Merge.j0 k (t126 != 0) a0_0 a0_1 a0_2 a0_3 l0_4 a0_5 a1_0 a1_1 a1_2 a1_3 l1_4 a1_5)) else (desc_Merge.j0 k true a0_0 a0_1 a0_2 a0_3 l0_4 a0_5 a1_0 a1_1 a1_2 a1_3 l1_4 a1_5)) = some (r1, r2, r3, r4, r5, r6, r7) := H
  have A7 := Az.mk A70
  clear A70
  by_cases c8 : t125 = 0
  ·rw [if_pos c8] at H
   have c8b0 : (t125 == 0) = true := beq_iff_eq.mpr c8
   have c8b1 : (t125 != 0) = false := bne_eq_false_iff_eq.mpr c8
   clear c8
   (first | rw [c8b0] | (simp only [i64_w, i32_w]; rw [c8b0]) | skip)
   replace H := Option.bind_eq_some_iff.mp H
   obtain ⟨t126, A90, H⟩ := H
   replace H : (desc_Merge.j0 k (t126 != 0) a0_0 a0_1 a0_2 a0_3 l0_4 a0_5 a1_0 a1_1 a1_2 a1_3 l1_4 a1_5) = some (r1, r2, r3, r4, r5, r6, r7) := H
   have A9 := Az.mk A90
   clear A90
   have H' := Az.mk H
   clear H
   have hnb10 := NB122_123.out
   have hnc10 := NB123_122.out
   have hnb11 := NB122_124.out
   have hnc11 := NB124_122.out
   have hcz12 := cells6 BK122.out
   go_wp2_with (first | ((with_reducible refine gtc (f := 22) rfl ?_); refine goesL_ (some 9) rfl rfl Tryd.func22 (by kernel_rfl) rfl #[.agg #[.int .i64 a0_0, .string a0_1, .string a0_2, .int .i64 a0_3, .slice A0_4 l0_4.length c0_4, .int .i64 a0_5]] rfl (by (try simp only [List.map_toArray, List.map_cons, List.map_nil]); first | done | rfl | (simp only [List.length_drop, List.length_take]; rfl)) ?_; (with_reducible refine (desc_Check.calls a0_0 a0_1 a0_2 a0_3 _ _ l0_4 a0_5 t125 _ ?side1 ?side2 ?side3 A7.out).mono ?_); (case side1 => exact hG.below (by exact pbE HB.out)); (case side2 => repeat (first | exact (Kd.V_reads' HO0_4.out).2.2 | (with_reducible refine Kd.C_alloc ?_ _) | (with_reducible refine Kd.C_drewN ?_ _) | (with_reducible refine Kd.C_drew ?_))); (case side3 => exact (Kd.V_reads' HO0_4.out).2.1); rintro e w13 ⟨rfl, hb⟩; refine ⟨_, rfl, ?_⟩; replace HO0_4 := Az.mk (Kd.V_below (Kd.V_ext HO0_4.out) hb); replace BK122 := Az.mk (bkB (bk BK122.out) hb); replace BK123 := Az.mk (bkB (bk BK123.out) hb); replace BK124 := Az.mk (bkB (bk BK124.out) hb); replace HB := Az.mk (pbT (by exact pbE HB.out) hb); (try clear hb); (try clear hb2); (try clear hk); (try clear hi); have hnb14 := NB123_124.out; have hnc14 := NB124_123.out; have hcz15 := cells6 BK123.out) | (go_at_call 22; (with_reducible refine (desc_Check.calls a1_0 a1_1 a1_2 a1_3 _ _ l1_4 a1_5 t126 _ ?side1 ?side2 ?side3 A9.out).mono ?_); (case side1 => exact hG.below (by exact pbE HB.out)); (case side2 => repeat (first | exact (Kd.C_below HR1_4.out HB.out) | (with_reducible refine Kd.C_alloc ?_ _) | (with_reducible refine Kd.C_drewN ?_ _) | (with_reducible refine Kd.C_drew ?_))); (case side3 => exact HC1_4.out); rintro e w16 ⟨rfl, hb⟩; replace HO0_4 := Az.mk (Kd.V_below (Kd.V_ext HO0_4.out) hb); replace BK122 := Az.mk (bkB (bk BK122.out) hb); replace BK123 := Az.mk (bkB (bk BK123.out) hb); replace BK124 := Az.mk (bkB (bk BK124.out) hb); replace HB := Az.mk (pbT (by exact pbE HB.out) hb); (try clear hb); (try clear hb2); (try clear hk); (try clear hi)))
   repeat (go_region; try go_wp2_with (fail))
   go_meet
   case rel => exact ⟨_, ((t126 != 0)), (by first | rfl | (simp; done) | (simp [*]; done)), H', ⟨by first | omega | exact Nat.le_refl _⟩, ⟨by (with_reducible repeat (first | apply Kd.V_alloc | apply Kd.V_drewN | apply Kd.V_drew)); exact Kd.V_mono HO0_4.out (fun _ hk => ⟨hk.1.1.1, ⟨hk.1.1.2, ⟨hk.1.2, hk.2⟩⟩⟩)⟩, ⟨by refine bk ?_; exact BK122.out⟩, ⟨by refine bk ?_; exact BK123.out⟩, ⟨by refine bk ?_; exact BK124.out⟩, ⟨by exact pbE HB.out⟩⟩
  ·rw [if_neg c8] at H
   have c8b0 : (t125 == 0) = false := beq_eq_false_iff_ne.mpr c8
   have c8b1 : (t125 != 0) = true := bne_iff_ne.mpr c8
   (first | rw [c8b0] | (simp only [i64_w, i32_w]; rw [c8b0]) | skip)
   have H' := Az.mk H
   clear H
   have hnb17 := NB122_123.out
   have hnc17 := NB123_122.out
   have hnb18 := NB122_124.out
   have hnc18 := NB124_122.out
   have hcz19 := cells6 BK122.out
   go_wp2_with ((with_reducible refine gtc (f := 22) rfl ?_); refine goesL_ (some 9) rfl rfl Tryd.func22 (by kernel_rfl) rfl #[.agg #[.int .i64 a0_0, .string a0_1, .string a0_2, .int .i64 a0_3, .slice A0_4 l0_4.length c0_4, .int .i64 a0_5]] rfl (by (try simp only [List.map_toArray, List.map_cons, List.map_nil]); first | done | rfl | (simp only [List.length_drop, List.length_take]; rfl)) ?_; (with_reducible refine (desc_Check.calls a0_0 a0_1 a0_2 a0_3 _ _ l0_4 a0_5 t125 _ ?side1 ?side2 ?side3 A7.out).mono ?_); (case side1 => exact hG.below (by exact pbE HB.out)); (case side2 => repeat (first | exact (Kd.V_reads' HO0_4.out).2.2 | (with_reducible refine Kd.C_alloc ?_ _) | (with_reducible refine Kd.C_drewN ?_ _) | (with_reducible refine Kd.C_drew ?_))); (case side3 => exact (Kd.V_reads' HO0_4.out).2.1); rintro e w20 ⟨rfl, hb⟩; refine ⟨_, rfl, ?_⟩; replace HO0_4 := Az.mk (Kd.V_below (Kd.V_ext HO0_4.out) hb); replace BK122 := Az.mk (bkB (bk BK122.out) hb); replace BK123 := Az.mk (bkB (bk BK123.out) hb); replace BK124 := Az.mk (bkB (bk BK124.out) hb); replace HB := Az.mk (pbT (by exact pbE HB.out) hb); (try clear hb); (try clear hb2); (try clear hk); (try clear hi))
   repeat (go_region; try go_wp2_with (fail))
   go_meet
   case rel => exact ⟨_, (true), (by first | rfl | (simp; done) | (simp [*]; done)), H', ⟨by first | omega | exact Nat.le_refl _⟩, ⟨by (with_reducible repeat (first | apply Kd.V_alloc | apply Kd.V_drewN | apply Kd.V_drew)); exact Kd.V_mono HO0_4.out (fun _ hk => ⟨hk.1.1.1, ⟨hk.1.1.2, ⟨hk.1.2, hk.2⟩⟩⟩)⟩, ⟨by refine bk ?_; exact BK122.out⟩, ⟨by refine bk ?_; exact BK123.out⟩, ⟨by refine bk ?_; exact BK124.out⟩, ⟨by exact pbE HB.out⟩⟩
 case rest =>
  clear HC3
  try clear c1
  try clear c2
  try clear p2
  try clear c8
  try clear c8b0
  try clear c8b1
  try clear c10
  try clear c11
  try clear c14
  try clear c17
  try clear c18
  try clear hcz12
  try clear hcz15
  try clear hcz19
  obtain ⟨kq, x15_2, rfl, HA, HJ2, HO_123004, BK122, BK123, BK124, HB⟩ := hcut
  cases kq with
  | zero => exact absurd HA.out (by simp [desc_Merge.j0])
  | succ kj2 =>
   have H := HA.out
   clear HA
   simp only [desc_Merge.j0] at H
   by_cases c21 : x15_2 = true
   ·subst c21
    have H1 : (some (0, (⟨#[]⟩ : ByteArray), (⟨#[]⟩ : ByteArray), 0, ([] : List (S60)), 0, 60)) = some (r1, r2, r3, r4, r5, r6, r7) := by rw [if_pos rfl] at H; exact H
    clear H
    have H := H1
    clear H1
    simp only [Option.some.injEq, Prod.mk.injEq] at H
    obtain ⟨rfl, rfl, rfl, rfl, rfl, rfl, rfl⟩ := H
    have hnb22 := NB124_122.out
    have hnc22 := NB122_124.out
    have hnb23 := NB124_123.out
    have hnc23 := NB123_124.out
    have hcz24 := cells6 BK124.out
    go_wp2
    repeat (go_region; try go_wp2)
    refine bodyPost_ret (results_ct rfl _ _ gb124 26 #[.int .i64 0, .string (⟨#[]⟩ : ByteArray), .string (⟨#[]⟩ : ByteArray), .int .i64 0, .slice none 0 0, .int .i64 0] (0, 0) _ rfl (by refine bk ?_; refine blk_put (cs := #[.int .i64 0, .string (⟨#[]⟩ : ByteArray), .string (⟨#[]⟩ : ByteArray), .int .i64 0, .slice none 0 0, .int .i64 0]) ?_ 5 _ rfl; refine bk ?_; refine blk_put (cs := #[.int .i64 0, .string (⟨#[]⟩ : ByteArray), .string (⟨#[]⟩ : ByteArray), .int .i64 0, .slice none 0 0, .int .i64 0]) ?_ 4 _ rfl; refine bk ?_; refine blk_put (cs := #[.int .i64 0, .string (⟨#[]⟩ : ByteArray), .string (⟨#[]⟩ : ByteArray), .int .i64 0, .slice none 0 0, .int .i64 0]) ?_ 3 _ rfl; refine bk ?_; refine blk_put (cs := #[.int .i64 0, .string (⟨#[]⟩ : ByteArray), .string (⟨#[]⟩ : ByteArray), .int .i64 0, .slice none 0 0, .int .i64 0]) ?_ 2 _ rfl; refine bk ?_; refine blk_put (cs := #[.int .i64 0, .string (⟨#[]⟩ : ByteArray), .string (⟨#[]⟩ : ByteArray), .int .i64 0, .slice none 0 0, .int .i64 0]) ?_ 1 _ rfl; refine bk ?_; refine blk_put (cs := #[.int .i64 0, .string (⟨#[]⟩ : ByteArray), .string (⟨#[]⟩ : ByteArray), .int .i64 0, .slice none 0 0, .int .i64 0]) ?_ 0 _ rfl; refine bk ?_; exact BK124.out) Tryd.underlying26 rfl (by kernel_rfl)) rfl ?_
    exact ⟨_, by first | rfl | (simp [errW_none, errW_some] <;> rfl) | (simp [*, errW_none, errW_some] <;> rfl), Kd.V_nil _ _ _ _ _, by exact pbE HB.out⟩
   ·replace c21 := Bool.eq_false_iff.mpr c21
    subst c21
    have H1 : ((bound_Join.f a0_1 a0_2 a1_1 a1_2).bind fun bt127 => (if bt127.2.2 = 0 then (if a0_0 = a1_0 then (some (0, (⟨#[]⟩ : ByteArray), (⟨#[]⟩ : ByteArray), 0, ([] : List (S60)), 0, 2)) else ((desc_right.f a0_0 bt127.1 bt127.2.1 (wrap64 ((mx a0_3 a1_3) + 1)) l0_4 a0_5).bind fun bt131 => (some (bt131.1, bt131.2.1, bt131.2.2.1, bt131.2.2.2.1, bt131.2.2.2.2.1, bt131.2.2.2.2.2.1, bt131.2.2.2.2.2.2)))) else (some (0, (⟨#[]⟩ : ByteArray), (⟨#[]⟩ : ByteArray), 0, ([] : List (S60)), 0, bt127.2.2)))) = some (r1, r2, r3, r4, r5, r6, r7) := by rw [if_neg (show ¬ (false = true) by decide)] at H; exact H
    clear H
    have H := H1
    clear H1
    replace H := Option.bind_eq_some_iff.mp H
    obtain ⟨⟨t127, t128, t129⟩, A250, H⟩ := H
    replace H : (if t129 = 0 then (if a0_0 = a1_0 then (some (0, (⟨#[]⟩ : ByteArray), (⟨#[]⟩ : ByteArray), 0, ([] : List (S60)), 0, 2)) else ((desc_right.f a0_0 t127 t128 (wrap64 ((mx a0_3 a1_3) + 1)) l0_4 a0_5).bind fun bt131 => (some (bt131.1, bt131.2.1, bt131.2.2.1, bt131.2.2.2.1, bt131.2.2.2.2.1, bt131.2.2.2.2.2.1, bt131.2.2.2.2.2.2)))) else (some (0, (⟨#[]⟩ : ByteArray), (⟨#[]⟩ : ByteArray), 0, ([] : List (S60)), 0, t129))) = some (r1, r2, r3, r4, r5, r6, r7) := H
    have A25 := Az.mk A250
    clear A250
    by_cases c26 : t129 = 0
    ·rw [if_pos c26] at H
     have c26b0 : (t129 == 0) = true := beq_iff_eq.mpr c26
     have c26b1 : (t129 != 0) = false := bne_eq_false_iff_eq.mpr c26
     clear c26
     by_cases c27 : a0_0 = a1_0
     ·rw [if_pos c27] at H
      have c27b0 : (a0_0 == a1_0) = true := beq_iff_eq.mpr c27
      have c27b1 : (a0_0 != a1_0) = false := bne_eq_false_iff_eq.mpr c27
      clear c27
      simp only [Option.some.injEq, Prod.mk.injEq] at H
      obtain ⟨rfl, rfl, rfl, rfl, rfl, rfl, rfl⟩ := H
      have hnb28 := NB122_123.out
      have hnc28 := NB123_122.out
      have hnb29 := NB122_124.out
      have hnc29 := NB124_122.out
      have hcz30 := cells6 BK122.out
      have hnb31 := NB123_124.out
      have hnc31 := NB124_123.out
      have hcz32 := cells6 BK123.out
      go_wp2_with (first | ((with_reducible refine gtc (f := 36) rfl ?_); refine goesL_ (some 22) rfl rfl Tryd.func36 (by kernel_rfl) rfl #[.agg #[.string a0_1, .string a0_2], .agg #[.string a1_1, .string a1_2]] rfl (by (try simp only [List.map_toArray, List.map_cons, List.map_nil]); first | done | rfl | (simp only [List.length_drop, List.length_take]; rfl)) ?_; (with_reducible refine (bound_Join.calls a0_1 a0_2 a1_1 a1_2 t127 t128 t129 _ ?side1 A25.out).mono ?_); (case side1 => exact hG.below (by exact pbE HB.out)); rintro e w33 ⟨rfl, hb⟩; refine ⟨_, rfl, ?_⟩; replace HO_123004 := Az.mk (Kd.V_below (Kd.V_ext HO_123004.out) hb); replace BK122 := Az.mk (bkB (bk BK122.out) hb); replace BK123 := Az.mk (bkB (bk BK123.out) hb); replace BK124 := Az.mk (bkB (bk BK124.out) hb); replace HB := Az.mk (pbT (by exact pbE HB.out) hb); (try clear hb); (try clear hb2); (try clear hk); (try clear hi)) | ((with_reducible refine gate_dst (N := 6) rfl ?_); refine box_event ?hg (N := 6) ?hd (cs := #[.string (⟨#[]⟩ : ByteArray), .string (⟨#[]⟩ : ByteArray)]) (t := 23) ?hr ?_; (case hd => rfl); (case hg => rfl); (case hr => first | (go_simp; done) | (go_simp; rfl)); intro gb130 hg w34 hbox hb; replace HO_123004 := Az.mk (Kd.V_below (Kd.V_elderB (Kd.V_ext HO_123004.out) gb130 (Nat.le_of_eq hg.symm)) hb); have BK130 := Az.mk (hbox); have GW130 := Az.mk (geO hg (pbE HB.out)); have GE130 := Az.mk (geO hg (pbE HB.out)); replace HB := Az.mk (pbT (by exact pbE HB.out) hb); have NB122_130 := Az.mk (neO hg (bk BK122.out)); have NB130_122 := Az.mk (neP hg (bk BK122.out)); replace BK122 := Az.mk (bkB (bk BK122.out) hb); have NB123_130 := Az.mk (neO hg (bk BK123.out)); have NB130_123 := Az.mk (neP hg (bk BK123.out)); replace BK123 := Az.mk (bkB (bk BK123.out) hb); have NB124_130 := Az.mk (neO hg (bk BK124.out)); have NB130_124 := Az.mk (neP hg (bk BK124.out)); replace BK124 := Az.mk (bkB (bk BK124.out) hb); clear hb hbox hg; have hnb35 := NB130_122.out; have hnc35 := NB122_130.out; have hnb36 := NB130_123.out; have hnc36 := NB123_130.out; have hnb37 := NB130_124.out; have hnc37 := NB124_130.out; have hcz38 := cells2 BK130.out; have hcz39 := cells6 BK122.out; have hcz40 := cells6 BK123.out; have hcz41 := cells6 BK124.out))
      repeat (go_region; try go_wp2_with (fail))
      refine bodyPost_ret (results_ct rfl _ _ gb124 26 #[.int .i64 0, .string (⟨#[]⟩ : ByteArray), .string (⟨#[]⟩ : ByteArray), .int .i64 0, .slice none 0 0, .int .i64 0] (0, 0) _ rfl (by refine bk ?_; refine blk_put (cs := #[.int .i64 0, .string (⟨#[]⟩ : ByteArray), .string (⟨#[]⟩ : ByteArray), .int .i64 0, .slice none 0 0, .int .i64 0]) ?_ 5 _ rfl; refine bk ?_; refine blk_put (cs := #[.int .i64 0, .string (⟨#[]⟩ : ByteArray), .string (⟨#[]⟩ : ByteArray), .int .i64 0, .slice none 0 0, .int .i64 0]) ?_ 4 _ rfl; refine bk ?_; refine blk_put (cs := #[.int .i64 0, .string (⟨#[]⟩ : ByteArray), .string (⟨#[]⟩ : ByteArray), .int .i64 0, .slice none 0 0, .int .i64 0]) ?_ 3 _ rfl; refine bk ?_; refine blk_put (cs := #[.int .i64 0, .string (⟨#[]⟩ : ByteArray), .string (⟨#[]⟩ : ByteArray), .int .i64 0, .slice none 0 0, .int .i64 0]) ?_ 2 _ rfl; refine bk ?_; refine blk_put (cs := #[.int .i64 0, .string (⟨#[]⟩ : ByteArray), .string (⟨#[]⟩ : ByteArray), .int .i64 0, .slice none 0 0, .int .i64 0]) ?_ 1 _ rfl; refine bk ?_; refine blk_put (cs := #[.int .i64 0, .string (⟨#[]⟩ : ByteArray), .string (⟨#[]⟩ : ByteArray), .int .i64 0, .slice none 0 0, .int .i64 0]) ?_ 0 _ rfl; exact bf BK124.out) Tryd.underlying26 rfl (by kernel_rfl)) rfl ?_
      exact ⟨_, by first | rfl | (simp [errW_none, errW_some] <;> rfl) | (simp [*, errW_none, errW_some] <;> rfl), Kd.V_nil _ _ _ _ _, by exact pbE HB.out⟩
     ·rw [if_neg c27] at H
      have c27b0 : (a0_0 == a1_0) = false := beq_eq_false_iff_ne.mpr c27
      have c27b1 : (a0_0 != a1_0) = true := bne_iff_ne.mpr c27
      obtain ⟨ji42, hji42⟩ : ∃ j_ : Int, (mx a0_3 a1_3) = j_ := ⟨_, rfl⟩
      replace H : ((desc_right.f a0_0 t127 t128 (wrap64 ((ji42) + 1)) l0_4 a0_5).bind fun bt131 => (some (bt131.1, bt131.2.1, bt131.2.2.1, bt131.2.2.2.1, bt131.2.2.2.2.1, bt131.2.2.2.2.2.1, bt131.2.2.2.2.2.2))) = some (r1, r2, r3, r4, r5, r6, r7) := by first | (rw [hji42] at H; exact H) | (simp only [hji42] at H ⊢; exact H)
      (try rw [hji42] at A25)
      have hji42_ : (if a0_3 < a1_3 then a1_3 else a0_3) = ji42 := hji42
      replace H := Option.bind_eq_some_iff.mp H
      obtain ⟨⟨t131, t132, t133, t134, t135, t138, t139⟩, A430, H⟩ := H
      replace H : (some (t131, t132, t133, t134, t135, t138, t139)) = some (r1, r2, r3, r4, r5, r6, r7) := H
      have A43 := Az.mk A430
      clear A430
      simp only [Option.some.injEq, Prod.mk.injEq] at H
      obtain ⟨rfl, rfl, rfl, rfl, rfl, rfl, rfl⟩ := H
      have hnb44 := NB122_123.out
      have hnc44 := NB123_122.out
      have hnb45 := NB122_124.out
      have hnc45 := NB124_122.out
      have hcz46 := cells6 BK122.out
      have hnb47 := NB123_124.out
      have hnc47 := NB124_123.out
      have hcz48 := cells6 BK123.out
      go_wp2_with (first | ((with_reducible refine gtc (f := 36) rfl ?_); refine goesL_ (some 22) rfl rfl Tryd.func36 (by kernel_rfl) rfl #[.agg #[.string a0_1, .string a0_2], .agg #[.string a1_1, .string a1_2]] rfl (by (try simp only [List.map_toArray, List.map_cons, List.map_nil]); first | done | rfl | (simp only [List.length_drop, List.length_take]; rfl)) ?_; (with_reducible refine (bound_Join.calls a0_1 a0_2 a1_1 a1_2 t127 t128 t129 _ ?side1 A25.out).mono ?_); (case side1 => exact hG.below (by exact pbE HB.out)); rintro e w49 ⟨rfl, hb⟩; refine ⟨_, rfl, ?_⟩; replace HO_123004 := Az.mk (Kd.V_below (Kd.V_ext HO_123004.out) hb); replace BK122 := Az.mk (bkB (bk BK122.out) hb); replace BK123 := Az.mk (bkB (bk BK123.out) hb); replace BK124 := Az.mk (bkB (bk BK124.out) hb); replace HB := Az.mk (pbT (by exact pbE HB.out) hb); (try clear hb); (try clear hb2); (try clear hk); (try clear hi)) | ((with_reducible refine gate_dst (N := 6) rfl ?_); refine box_event ?hg (N := 6) ?hd (cs := #[.string (⟨#[]⟩ : ByteArray), .string (⟨#[]⟩ : ByteArray)]) (t := 23) ?hr ?_; (case hd => rfl); (case hg => rfl); (case hr => first | (go_simp; done) | (go_simp; rfl)); intro gb130 hg w50 hbox hb; replace HO_123004 := Az.mk (Kd.V_below (Kd.V_elderB (Kd.V_ext HO_123004.out) gb130 (Nat.le_of_eq hg.symm)) hb); have BK130 := Az.mk (hbox); have GW130 := Az.mk (geO hg (pbE HB.out)); have GE130 := Az.mk (geO hg (pbE HB.out)); replace HB := Az.mk (pbT (by exact pbE HB.out) hb); have NB122_130 := Az.mk (neO hg (bk BK122.out)); have NB130_122 := Az.mk (neP hg (bk BK122.out)); replace BK122 := Az.mk (bkB (bk BK122.out) hb); have NB123_130 := Az.mk (neO hg (bk BK123.out)); have NB130_123 := Az.mk (neP hg (bk BK123.out)); replace BK123 := Az.mk (bkB (bk BK123.out) hb); have NB124_130 := Az.mk (neO hg (bk BK124.out)); have NB130_124 := Az.mk (neP hg (bk BK124.out)); replace BK124 := Az.mk (bkB (bk BK124.out) hb); clear hb hbox hg; have hnb51 := NB130_122.out; have hnc51 := NB122_130.out; have hnb52 := NB130_123.out; have hnc52 := NB123_130.out; have hnb53 := NB130_124.out; have hnc53 := NB124_130.out; have hcz54 := cells2 BK130.out) | ((with_reducible refine gate_store (t := 23) (p := 6) rfl ?_); refine store_event (t := 23) (p := 6) (v := ?vo_w55) (w1 := ((w50.setCell ⟨gb130, 0, none⟩ (.string t127)).setCell ⟨gb130, 1, none⟩ (.string t128))) ?hg ?ho ?hn ?hr ?_; (case ho => rfl); (case hg => rfl); (case hn => rfl); (case hr => first | (go_simp; done) | (go_simp; rfl)); intro w55 hw; have n0_ : Az (Kd.V k60 60 w55 w.heap.size (fun k_ => (P0_4_ k_ ∨ w.heap.size ≤ k_) ∧ k_ ≠ gb122 ∧ k_ ≠ gb123 ∧ k_ ≠ gb124 ∧ k_ ≠ gb130) (.slice A0_4 l0_4.length c0_4) l0_4) := ⟨(by rw [hw]; exact (by (with_reducible repeat (first | apply Kd.V_alloc | apply Kd.V_drewN | apply Kd.V_drew)); exact Kd.V_mono (Kd.V_off (g := gb130) (fun _ hk => hk.2) (Kd.V_mono HO_123004.out (fun k_ hk => (⟨hk, hk.2⟩ : _ ∧ k_ ≠ gb130)))) (fun _ hk => ⟨hk.1.1.1, ⟨hk.1.1.2.1, ⟨hk.1.1.2.2.1, ⟨hk.1.1.2.2.2, hk.1.2⟩⟩⟩⟩)))⟩; have n1_ : Az (w55.heap[gb122]? = some (.cells #[.int .i64 a0_0, .string a0_1, .string a0_2, .int .i64 a0_3, .slice A0_4 l0_4.length c0_4, .int .i64 a0_5] 26 (0, 0))) := ⟨(by rw [hw]; exact (bf BK122.out))⟩; have n2_ : Az (w55.heap[gb123]? = some (.cells #[.int .i64 a1_0, .string a1_1, .string a1_2, .int .i64 a1_3, .slice A1_4 l1_4.length c1_4, .int .i64 a1_5] 26 (0, 0))) := ⟨(by rw [hw]; exact (bf BK123.out))⟩; have n3_ : Az (w55.heap[gb124]? = some (.cells #[.int .i64 0, .string (⟨#[]⟩ : ByteArray), .string (⟨#[]⟩ : ByteArray), .int .i64 0, .slice none 0 0, .int .i64 0] 26 (0, 0))) := ⟨(by rw [hw]; exact (bf BK124.out))⟩; have n4_ : Az (w55.heap[gb130]? = some (.cells #[.string t127, .string t128] 23 (0, 0))) := ⟨(by rw [hw]; exact (by refine bk ?_; refine blk_put (cs := #[.string t127, .string (⟨#[]⟩ : ByteArray)]) ?_ 1 _ rfl; refine bk ?_; refine blk_put (cs := #[.string (⟨#[]⟩ : ByteArray), .string (⟨#[]⟩ : ByteArray)]) ?_ 0 _ rfl; refine bk ?_; exact BK130.out))⟩; have n5_ : Az (Below w.heap.size w w55) := ⟨(by rw [hw]; exact (by exact pbE HB.out))⟩; clear hw; clear HO_123004; clear BK122; clear BK123; clear BK124; clear BK130; clear HB; have HO_123004 := n0_; have BK122 := n1_; have BK123 := n2_; have BK124 := n3_; have BK130 := n4_; have HB := n5_; clear n0_ n1_ n2_ n3_ n4_ n5_; have hcz56 := cells6 BK122.out; have hcz57 := cells6 BK123.out; have hcz58 := cells2 BK130.out))
      go_region
      have n0_ := Az.mk (Kd.V_drew (Kd.V_far (p := ⟨gb122, 3, none⟩) (Kd.V_far (p := ⟨gb122, 2, none⟩) (Kd.V_far (p := ⟨gb122, 1, none⟩) HO_123004.out (fun _ hk => hk.2.1) (.string t127)) (fun _ hk => hk.2.1) (.string t128)) (fun _ hk => hk.2.1) (.int .i64 (wrap64 ((ji42) + 1)))))
      have n1_ := Az.mk (pb1 (pbS (pbS (pbS HB.out GE122.out (j := 1) (v := .string t127)) GE122.out (j := 2) (v := .string t128)) GE122.out (j := 3) (v := .int .i64 (wrap64 ((ji42) + 1)))))
      have m122_ : Az (((((w55.setCell ⟨gb122, 1, none⟩ (.string t127)).setCell ⟨gb122, 2, none⟩ (.string t128)).setCell ⟨gb122, 3, none⟩ (.int .i64 (wrap64 ((ji42) + 1)))).drew).heap[gb122]? = some (.cells #[.int .i64 a0_0, .string t127, .string t128, .int .i64 (wrap64 ((ji42) + 1)), .slice A0_4 l0_4.length c0_4, .int .i64 a0_5] 26 (0, 0))) := Az.mk (bkD (blk_put (blk_put (blk_put BK122.out 1 (.string t127) rfl) 2 (.string t128) rfl) 3 (.int .i64 (wrap64 ((ji42) + 1))) rfl))
      have m123_ := Az.mk (bkD (blk_far (p := ⟨gb122, 3, none⟩) (blk_far (p := ⟨gb122, 2, none⟩) (blk_far (p := ⟨gb122, 1, none⟩) BK123.out NB123_122.out (.string t127)) NB123_122.out (.string t128)) NB123_122.out (.int .i64 (wrap64 ((ji42) + 1)))))
      have m124_ := Az.mk (bkD (blk_far (p := ⟨gb122, 3, none⟩) (blk_far (p := ⟨gb122, 2, none⟩) (blk_far (p := ⟨gb122, 1, none⟩) BK124.out NB124_122.out (.string t127)) NB124_122.out (.string t128)) NB124_122.out (.int .i64 (wrap64 ((ji42) + 1)))))
      have m130_ := Az.mk (bkD (blk_far (p := ⟨gb122, 3, none⟩) (blk_far (p := ⟨gb122, 2, none⟩) (blk_far (p := ⟨gb122, 1, none⟩) BK130.out NB130_122.out (.string t127)) NB130_122.out (.string t128)) NB130_122.out (.int .i64 (wrap64 ((ji42) + 1)))))
      clear HO_123004 HB BK122 BK123 BK124 BK130
      generalize (((w55.setCell ⟨gb122, 1, none⟩ (.string t127)).setCell ⟨gb122, 2, none⟩ (.string t128)).setCell ⟨gb122, 3, none⟩ (.int .i64 (wrap64 ((ji42) + 1)))).drew = wq_ at n0_ n1_ m122_ m123_ m124_ m130_ ⊢
      have HO_123004 := n0_
      have HB := n1_
      have BK122 := m122_
      have BK123 := m123_
      have BK124 := m124_
      have BK130 := m130_
      clear n0_ n1_ m122_ m123_ m124_ m130_
      have hczq_0 : wq_.cell? ⟨gb122, 0, none⟩ = some (.int .i64 a0_0) := (bkC BK122.out 0).trans rfl
      have hczq_1 : wq_.cell? ⟨gb122, 1, none⟩ = some (.string t127) := (bkC BK122.out 1).trans rfl
      have hczq_2 : wq_.cell? ⟨gb122, 2, none⟩ = some (.string t128) := (bkC BK122.out 2).trans rfl
      have hczq_3 : wq_.cell? ⟨gb122, 3, none⟩ = some (.int .i64 (wrap64 ((ji42) + 1))) := (bkC BK122.out 3).trans rfl
      have hczq_4 : wq_.cell? ⟨gb122, 4, none⟩ = some (.slice A0_4 l0_4.length c0_4) := (bkC BK122.out 4).trans rfl
      have hczq_5 : wq_.cell? ⟨gb122, 5, none⟩ = some (.int .i64 a0_5) := (bkC BK122.out 5).trans rfl
      go_wp2_with ((with_reducible refine gtc (f := 37) rfl ?_); refine goesL_ (some 47) rfl rfl Tryd.func37 (by kernel_rfl) rfl #[.agg #[.int .i64 a0_0, .string t127, .string t128, .int .i64 (wrap64 ((ji42) + 1)), .slice A0_4 l0_4.length c0_4, .int .i64 a0_5]] rfl (by (try simp only [List.map_toArray, List.map_cons, List.map_nil]); first | done | (simp only [hji42]; rfl) | rfl | (simp only [List.length_drop, List.length_take]; rfl)) ?_; (with_reducible refine (desc_right.calls a0_0 t127 t128 (wrap64 ((ji42) + 1)) (fun k_ => ((P0_4_ k_ ∨ w.heap.size ≤ k_) ∧ (k_ ≠ gb122 ∧ (k_ ≠ gb123 ∧ (k_ ≠ gb124 ∧ k_ ≠ gb130))))) _ _ l0_4 a0_5 t131 t132 t133 t134 t135 t138 t139 _ ?side1 ?side2 A43.out).mono ?_); (case side1 => exact hG.below (by exact pbE HB.out)); (case side2 => exact HO_123004.out); rintro e w63 ⟨v136, rfl, ho0, hb⟩; refine ⟨_, rfl, ?_⟩; replace HO_123004 := Az.mk (Kd.V_below (Kd.V_ext HO_123004.out) hb); have HO137 := Az.mk (Kd.V_lower (Kd.V_mono (ok' := fun k_ => (P0_4_ k_ ∨ w.heap.size ≤ k_) ∧ k_ ≠ gb122 ∧ k_ ≠ gb123 ∧ k_ ≠ gb124 ∧ k_ ≠ gb130) ho0 (fun k_ hk_ => ⟨Or.elim hk_ (fun hs_ => hs_.1) (fun hn_ => (.inr (Nat.le_trans (pbZ (by exact pbE HB.out)) hn_))), Or.elim hk_ (fun hs_ => hs_.2.1) (fun hn_ => (Kd.freshB (bk BK122.out) k_ hn_)), Or.elim hk_ (fun hs_ => hs_.2.2.1) (fun hn_ => (Kd.freshB (bk BK123.out) k_ hn_)), Or.elim hk_ (fun hs_ => hs_.2.2.2.1) (fun hn_ => (Kd.freshB (bk BK124.out) k_ hn_)), Or.elim hk_ (fun hs_ => hs_.2.2.2.2) (fun hn_ => (Kd.freshB (bk BK130.out) k_ hn_))⟩)) (pbZ (by exact pbE HB.out))); replace BK122 := Az.mk (bkB (bk BK122.out) hb); replace BK123 := Az.mk (bkB (bk BK123.out) hb); replace BK124 := Az.mk (bkB (bk BK124.out) hb); replace BK130 := Az.mk (bkB (bk BK130.out) hb); replace HB := Az.mk (pbT (by exact pbE HB.out) hb); (try clear hb); (try clear hb2); (try clear hk); (try clear hi); (try clear ho0); have hcz64 := cells6 BK124.out; obtain ⟨Ao65, co65, eo65⟩ := Kd.V_slice HO137.out; subst eo65)
      refine bodyPost_ret (results_ct rfl _ _ gb124 26 #[.int .i64 t131, .string t132, .string t133, .int .i64 t134, .slice Ao65 t135.length co65, .int .i64 t138] (0, 0) _ rfl (by refine bk ?_; refine blk_put (cs := #[.int .i64 t131, .string t132, .string t133, .int .i64 t134, .slice Ao65 t135.length co65, .int .i64 0]) ?_ 5 _ rfl; refine bk ?_; refine blk_put (cs := #[.int .i64 t131, .string t132, .string t133, .int .i64 t134, .slice none 0 0, .int .i64 0]) ?_ 4 _ rfl; refine bk ?_; refine blk_put (cs := #[.int .i64 t131, .string t132, .string t133, .int .i64 0, .slice none 0 0, .int .i64 0]) ?_ 3 _ rfl; refine bk ?_; refine blk_put (cs := #[.int .i64 t131, .string t132, .string (⟨#[]⟩ : ByteArray), .int .i64 0, .slice none 0 0, .int .i64 0]) ?_ 2 _ rfl; refine bk ?_; refine blk_put (cs := #[.int .i64 t131, .string (⟨#[]⟩ : ByteArray), .string (⟨#[]⟩ : ByteArray), .int .i64 0, .slice none 0 0, .int .i64 0]) ?_ 1 _ rfl; refine bk ?_; refine blk_put (cs := #[.int .i64 0, .string (⟨#[]⟩ : ByteArray), .string (⟨#[]⟩ : ByteArray), .int .i64 0, .slice none 0 0, .int .i64 0]) ?_ 0 _ rfl; refine bk ?_; exact BK124.out) Tryd.underlying26 rfl (by kernel_rfl)) rfl ?_
      exact ⟨_, by first | rfl | (simp [errW_none, errW_some] <;> rfl) | (simp only [← hji42]; first | rfl | (simp [errW_none, errW_some] <;> rfl)) | (simp [*, errW_none, errW_some] <;> rfl), by (with_reducible repeat (first | apply Kd.V_alloc | apply Kd.V_drewN | apply Kd.V_drew)); exact Kd.V_mono (Kd.V_off (g := gb124) (fun _ hk => hk.2) (Kd.V_mono HO137.out (fun k_ hk => (⟨hk, hk.2.2.2.1⟩ : _ ∧ k_ ≠ gb124)))) (fun _ hk => hk.1.1), by exact pbE HB.out⟩
    ·rw [if_neg c26] at H
     have c26b0 : (t129 == 0) = false := beq_eq_false_iff_ne.mpr c26
     have c26b1 : (t129 != 0) = true := bne_iff_ne.mpr c26
     simp only [Option.some.injEq, Prod.mk.injEq] at H
     obtain ⟨rfl, rfl, rfl, rfl, rfl, rfl, rfl⟩ := H
     have hnb66 := NB122_123.out
     have hnc66 := NB123_122.out
     have hnb67 := NB122_124.out
     have hnc67 := NB124_122.out
     have hcz68 := cells6 BK122.out
     have hnb69 := NB123_124.out
     have hnc69 := NB124_123.out
     have hcz70 := cells6 BK123.out
     go_wp2_with (first | ((with_reducible refine gtc (f := 36) rfl ?_); refine goesL_ (some 22) rfl rfl Tryd.func36 (by kernel_rfl) rfl #[.agg #[.string a0_1, .string a0_2], .agg #[.string a1_1, .string a1_2]] rfl (by (try simp only [List.map_toArray, List.map_cons, List.map_nil]); first | done | rfl | (simp only [List.length_drop, List.length_take]; rfl)) ?_; (with_reducible refine (bound_Join.calls a0_1 a0_2 a1_1 a1_2 t127 t128 t129 _ ?side1 A25.out).mono ?_); (case side1 => exact hG.below (by exact pbE HB.out)); rintro e w71 ⟨rfl, hb⟩; refine ⟨_, rfl, ?_⟩; replace HO_123004 := Az.mk (Kd.V_below (Kd.V_ext HO_123004.out) hb); replace BK122 := Az.mk (bkB (bk BK122.out) hb); replace BK123 := Az.mk (bkB (bk BK123.out) hb); replace BK124 := Az.mk (bkB (bk BK124.out) hb); replace HB := Az.mk (pbT (by exact pbE HB.out) hb); (try clear hb); (try clear hb2); (try clear hk); (try clear hi)) | ((with_reducible refine gate_dst (N := 6) rfl ?_); refine box_event ?hg (N := 6) ?hd (cs := #[.string (⟨#[]⟩ : ByteArray), .string (⟨#[]⟩ : ByteArray)]) (t := 23) ?hr ?_; (case hd => rfl); (case hg => rfl); (case hr => first | (go_simp; done) | (go_simp; rfl)); intro gb130 hg w72 hbox hb; replace HO_123004 := Az.mk (Kd.V_below (Kd.V_elderB (Kd.V_ext HO_123004.out) gb130 (Nat.le_of_eq hg.symm)) hb); have BK130 := Az.mk (hbox); have GW130 := Az.mk (geO hg (pbE HB.out)); have GE130 := Az.mk (geO hg (pbE HB.out)); replace HB := Az.mk (pbT (by exact pbE HB.out) hb); have NB122_130 := Az.mk (neO hg (bk BK122.out)); have NB130_122 := Az.mk (neP hg (bk BK122.out)); replace BK122 := Az.mk (bkB (bk BK122.out) hb); have NB123_130 := Az.mk (neO hg (bk BK123.out)); have NB130_123 := Az.mk (neP hg (bk BK123.out)); replace BK123 := Az.mk (bkB (bk BK123.out) hb); have NB124_130 := Az.mk (neO hg (bk BK124.out)); have NB130_124 := Az.mk (neP hg (bk BK124.out)); replace BK124 := Az.mk (bkB (bk BK124.out) hb); clear hb hbox hg; have hnb73 := NB130_122.out; have hnc73 := NB122_130.out; have hnb74 := NB130_123.out; have hnc74 := NB123_130.out; have hnb75 := NB130_124.out; have hnc75 := NB124_130.out; have hcz76 := cells2 BK130.out; have hcz77 := cells6 BK124.out))
     repeat (go_region; try go_wp2_with (fail))
     refine bodyPost_ret (results_ct rfl _ _ gb124 26 #[.int .i64 0, .string (⟨#[]⟩ : ByteArray), .string (⟨#[]⟩ : ByteArray), .int .i64 0, .slice none 0 0, .int .i64 0] (0, 0) _ rfl (by refine bk ?_; refine blk_put (cs := #[.int .i64 0, .string (⟨#[]⟩ : ByteArray), .string (⟨#[]⟩ : ByteArray), .int .i64 0, .slice none 0 0, .int .i64 0]) ?_ 5 _ rfl; refine bk ?_; refine blk_put (cs := #[.int .i64 0, .string (⟨#[]⟩ : ByteArray), .string (⟨#[]⟩ : ByteArray), .int .i64 0, .slice none 0 0, .int .i64 0]) ?_ 4 _ rfl; refine bk ?_; refine blk_put (cs := #[.int .i64 0, .string (⟨#[]⟩ : ByteArray), .string (⟨#[]⟩ : ByteArray), .int .i64 0, .slice none 0 0, .int .i64 0]) ?_ 3 _ rfl; refine bk ?_; refine blk_put (cs := #[.int .i64 0, .string (⟨#[]⟩ : ByteArray), .string (⟨#[]⟩ : ByteArray), .int .i64 0, .slice none 0 0, .int .i64 0]) ?_ 2 _ rfl; refine bk ?_; refine blk_put (cs := #[.int .i64 0, .string (⟨#[]⟩ : ByteArray), .string (⟨#[]⟩ : ByteArray), .int .i64 0, .slice none 0 0, .int .i64 0]) ?_ 1 _ rfl; refine bk ?_; refine blk_put (cs := #[.int .i64 0, .string (⟨#[]⟩ : ByteArray), .string (⟨#[]⟩ : ByteArray), .int .i64 0, .slice none 0 0, .int .i64 0]) ?_ 0 _ rfl; exact bf BK124.out) Tryd.underlying26 rfl (by kernel_rfl)) rfl ?_
     exact ⟨_, by first | rfl | (simp [errW_none, errW_some] <;> rfl) | (simp [*, errW_none, errW_some] <;> rfl), Kd.V_nil _ _ _ _ _, by exact pbE HB.out⟩
def desc_Quorum.f (a0 : Int) : Option (Int) := some (wrap64 ((wrap64 (Int.tdiv a0 2)) + 1))
set_option maxHeartbeats 8000000 in
set_option maxRecDepth 100000 in
theorem desc_Quorum.calls (a0 : Int) (r : Int) (w : World) (hG : TheG w) (h : desc_Quorum.f a0 = some r) :
 Calls Tryd.prog 18 #[.int .i64 a0] w fun e w' => e = .returned (.int .i64 r) ∧ Drawn0 w w' := by
 have H : (some (wrap64 ((wrap64 (Int.tdiv a0 2)) + 1))) = some r := h
 clear h
 obtain rfl := Option.some.inj H
 go_enter Tryd.func18, Tryd.ntmps18
 go_wp2
 go_ret
 exact ⟨by first | rfl | (simp; done) | (simp [*]; done), by repeat (first | exact Drawn0.refl _ | apply Drawn0.step)⟩
end Go.Proofs.YtjfhcijjjadhbaaDoor.P
end
section
namespace Go.Proofs.YtjfhcijjjadhbaaDoor.P
open Go.RowKit Go.Proofs.YtjfhcijjjadhbaaDoor.K Go.Proofs.YtjfhcijjjadhbaaDoorW.PrintWords Go.Proofs.YtjfhcijjjadhbaaDoorW.PrintLast Go.Proofs.YtjfhcijjjadhbaaDoorW.PrintMore
attribute [local go_sem ↓] Go.wp_at_zero Go.wp_at_succ
/-- Where a bound may be cut. -/
def cutOk (f t k : ByteArray) : Bool := boundOk f t && (!(k.toList == ([] : List UInt8)) && decide (k.size ≤ 32)) && Op.bytesLess f.toList k.toList && (t.toList == ([] : List UInt8) || Op.bytesLess k.toList t.toList)
def bound_Cut.f (a0_0 a0_1 a1 : ByteArray) : Option (ByteArray × ByteArray × ByteArray × ByteArray × Int) :=
 if cutOk a0_0 a0_1 a1 = true then some (a0_0, a1, a1, a0_1, 0) else some (⟨#[]⟩, ⟨#[]⟩, ⟨#[]⟩, ⟨#[]⟩, 20)
theorem put2s {w1 : World} {B : Nat} {t : TypeId} {x y : Value} (BL : w1.heap[B]? = some (.cells #[.string ⟨#[]⟩, .string ⟨#[]⟩] t (0, 0))) : ((w1.setCell ⟨B, 0, none⟩ x).setCell ⟨B, 1, none⟩ y).heap[B]? = some (.cells #[x, y] t (0, 0)) := by
 refine blk_put (cs := #[x, .string ⟨#[]⟩]) ?_ 1 _ rfl
 exact blk_put (cs := #[.string ⟨#[]⟩, .string ⟨#[]⟩]) BL 0 _ rfl
set_option maxHeartbeats 8000000 in
set_option maxRecDepth 100000 in
theorem bound_Cut.calls (a0_0 a0_1 a1 : ByteArray) (r1 r2 r3 r4 : ByteArray) (r5 : Int) (w : World) (hG : TheG w) (h : bound_Cut.f a0_0 a0_1 a1 = some (r1, r2, r3, r4, r5)) :
 Calls Tryd.prog 32 #[.agg #[.string a0_0, .string a0_1], .string a1] w fun e w' => e = .returned (.tuple #[.agg #[.string r1, .string r2], .agg #[.string r3, .string r4], .int .i64 r5]) ∧ Below w.heap.size w w' := by
 unfold bound_Cut.f cutOk at h
 have hu := Tryd.underlying23
 have HC : ∀ W, Below w.heap.size w W → Hid (Calls Tryd.prog 47 #[.agg #[.string a0_0, .string a0_1]] W fun e w' => e = .returned (.int .i64 (if boundOk a0_0 a0_1 = true then 0 else 20)) ∧ Below W.heap.size W w') := fun W hW => Lib.hid (bound_Check.calls a0_0 a0_1 _ W (hG.below hW) rfl)
 cases hok : boundOk a0_0 a0_1
 ·rw [hok, if_neg (by simp)] at HC
  simp only [hok, Bool.false_and, Bool.and_false, Bool.true_and, Bool.and_true, Bool.not_true, Bool.not_false, Bool.or_true, Bool.true_or, Bool.false_or, Bool.or_false, if_false, if_true, Bool.false_eq_true, Option.some.injEq, Prod.mk.injEq, decide_true, decide_false] at h
  obtain ⟨rfl, rfl, rfl, rfl, rfl⟩ := h
  go_enter Tryd.func32, Tryd.ntmps32
  go_wp2_with (first | (go_at_call 47; refine (HC _ (pbA (pbA (pbA (Below.refl _ _) _) _) _)).out.mono ?_; rintro e w1 ⟨rfl, hb⟩; have B0 := three_old hb () (); have B1 := three_mid2 hb () (); have B2 := three_new hb () (); have z0 := (bkC B0 0).trans rfl; have z1 := (bkC B0 1).trans rfl; have y0 := (bkC B1 0).trans rfl; have y1 := (bkC B1 1).trans rfl; have x0 := (bkC B2 0).trans rfl; have x1 := (bkC B2 1).trans rfl; have e0 := bkF B1 0; have e1 := bkF B1 1; have d0 := bkF B2 0; have d1 := bkF B2 1; have HB := pbT (pbA (pbA (pbA (Below.refl _ _) _) _) _) hb; have L0 := blk_lt B0; have L1 := blk_lt B1; have L2 := blk_lt B2) | go_in)
  go_region
  all_goals go_wp2
  refine bodyPost_ret (results_list (rs := [.cell 4 23, .cell 5 23, .tmp 6]) rfl (by simp) (.cell (w.heap.size + 1) 23 #[.string ⟨#[]⟩, .string ⟨#[]⟩] (0, 0) _ rfl ?b1 hu rfl (by kernel_rfl) (.cell (w.heap.size + 1 + 1) 23 #[.string ⟨#[]⟩, .string ⟨#[]⟩] (0, 0) _ rfl ?b2 hu rfl (by kernel_rfl) (.tmp .nil)))) rfl ?_
  case b1 => (with_reducible repeat (first | refine bkN ?_ _ | refine bkD ?_ | refine bkA ?_ _)); exact blk_far (blk_far (put2s (by (with_reducible repeat (first | refine bkN ?_ _ | refine bkD ?_ | refine bkA ?_ _)); exact B1)) (by simp) _) (by simp) _
  case b2 => (with_reducible repeat (first | refine bkN ?_ _ | refine bkD ?_ | refine bkA ?_ _)); exact put2s (blk_far (blk_far (by (with_reducible repeat (first | refine bkN ?_ _ | refine bkD ?_ | refine bkA ?_ _)); exact B2) (by simp) _) (by simp) _)
  exact ⟨rfl, by repeat (first | (with_reducible first | exact HB | apply pb1 | apply pbA) | refine pbS ?_ (by omega))⟩
 rw [hok, if_pos rfl] at HC
 cases hk : (a1.toList == ([] : List UInt8))
 case true =>
  simp only [hok, hk, Bool.false_and, Bool.and_false, Bool.true_and, Bool.and_true, Bool.not_true, Bool.not_false, Bool.or_true, Bool.true_or, Bool.false_or, Bool.or_false, if_false, if_true, Bool.false_eq_true, Option.some.injEq, Prod.mk.injEq, decide_true, decide_false] at h
  obtain ⟨rfl, rfl, rfl, rfl, rfl⟩ := h
  go_enter Tryd.func32, Tryd.ntmps32
  go_wp2_with (first | (go_at_call 47; refine (HC _ (pbA (pbA (pbA (Below.refl _ _) _) _) _)).out.mono ?_; rintro e w1 ⟨rfl, hb⟩; have B0 := three_old hb () (); have B1 := three_mid2 hb () (); have B2 := three_new hb () (); have z0 := (bkC B0 0).trans rfl; have z1 := (bkC B0 1).trans rfl; have y0 := (bkC B1 0).trans rfl; have y1 := (bkC B1 1).trans rfl; have x0 := (bkC B2 0).trans rfl; have x1 := (bkC B2 1).trans rfl; have e0 := bkF B1 0; have e1 := bkF B1 1; have d0 := bkF B2 0; have d1 := bkF B2 1; have HB := pbT (pbA (pbA (pbA (Below.refl _ _) _) _) _) hb; have L0 := blk_lt B0; have L1 := blk_lt B1; have L2 := blk_lt B2) | go_in)
  go_region
  all_goals go_wp2
  refine bodyPost_ret (results_list (rs := [.cell 4 23, .cell 5 23, .tmp 6]) rfl (by simp) (.cell (w.heap.size + 1) 23 #[.string ⟨#[]⟩, .string ⟨#[]⟩] (0, 0) _ rfl ?b1 hu rfl (by kernel_rfl) (.cell (w.heap.size + 1 + 1) 23 #[.string ⟨#[]⟩, .string ⟨#[]⟩] (0, 0) _ rfl ?b2 hu rfl (by kernel_rfl) (.tmp .nil)))) rfl ?_
  case b1 => (with_reducible repeat (first | refine bkN ?_ _ | refine bkD ?_ | refine bkA ?_ _)); exact blk_far (blk_far (put2s (by (with_reducible repeat (first | refine bkN ?_ _ | refine bkD ?_ | refine bkA ?_ _)); exact B1)) (by simp) _) (by simp) _
  case b2 => (with_reducible repeat (first | refine bkN ?_ _ | refine bkD ?_ | refine bkA ?_ _)); exact put2s (blk_far (blk_far (by (with_reducible repeat (first | refine bkN ?_ _ | refine bkD ?_ | refine bkA ?_ _)); exact B2) (by simp) _) (by simp) _)
  exact ⟨rfl, by repeat (first | (with_reducible first | exact HB | apply pb1 | apply pbA) | refine pbS ?_ (by omega))⟩
 have hk2 : (a1.toList != ([] : List UInt8)) = true := by rw [bne, hk]; rfl
 by_cases hs : a1.size ≤ 32
 case neg =>
  have hs2 : (32 : Int) < (a1.size : Int) := by omega
  have hs3 : decide (a1.size ≤ 32) = false := decide_eq_false hs
  simp only [hok, hk, hs3, Bool.false_and, Bool.and_false, Bool.true_and, Bool.and_true, Bool.not_true, Bool.not_false, Bool.or_true, Bool.true_or, Bool.false_or, Bool.or_false, if_false, if_true, Bool.false_eq_true, Option.some.injEq, Prod.mk.injEq, decide_true, decide_false] at h
  obtain ⟨rfl, rfl, rfl, rfl, rfl⟩ := h
  go_enter Tryd.func32, Tryd.ntmps32
  go_wp2_with (first | (go_at_call 47; refine (HC _ (pbA (pbA (pbA (Below.refl _ _) _) _) _)).out.mono ?_; rintro e w1 ⟨rfl, hb⟩; have B0 := three_old hb () (); have B1 := three_mid2 hb () (); have B2 := three_new hb () (); have z0 := (bkC B0 0).trans rfl; have z1 := (bkC B0 1).trans rfl; have y0 := (bkC B1 0).trans rfl; have y1 := (bkC B1 1).trans rfl; have x0 := (bkC B2 0).trans rfl; have x1 := (bkC B2 1).trans rfl; have e0 := bkF B1 0; have e1 := bkF B1 1; have d0 := bkF B2 0; have d1 := bkF B2 1; have HB := pbT (pbA (pbA (pbA (Below.refl _ _) _) _) _) hb; have L0 := blk_lt B0; have L1 := blk_lt B1; have L2 := blk_lt B2) | go_in)
  go_region
  all_goals go_wp2
  refine bodyPost_ret (results_list (rs := [.cell 4 23, .cell 5 23, .tmp 6]) rfl (by simp) (.cell (w.heap.size + 1) 23 #[.string ⟨#[]⟩, .string ⟨#[]⟩] (0, 0) _ rfl ?b1 hu rfl (by kernel_rfl) (.cell (w.heap.size + 1 + 1) 23 #[.string ⟨#[]⟩, .string ⟨#[]⟩] (0, 0) _ rfl ?b2 hu rfl (by kernel_rfl) (.tmp .nil)))) rfl ?_
  case b1 => (with_reducible repeat (first | refine bkN ?_ _ | refine bkD ?_ | refine bkA ?_ _)); exact blk_far (blk_far (put2s (by (with_reducible repeat (first | refine bkN ?_ _ | refine bkD ?_ | refine bkA ?_ _)); exact B1)) (by simp) _) (by simp) _
  case b2 => (with_reducible repeat (first | refine bkN ?_ _ | refine bkD ?_ | refine bkA ?_ _)); exact put2s (blk_far (blk_far (by (with_reducible repeat (first | refine bkN ?_ _ | refine bkD ?_ | refine bkA ?_ _)); exact B2) (by simp) _) (by simp) _)
  exact ⟨rfl, by repeat (first | (with_reducible first | exact HB | apply pb1 | apply pbA) | refine pbS ?_ (by omega))⟩
 have hs2 : ¬ (32 : Int) < (a1.size : Int) := by omega
 have hs3 : decide (a1.size ≤ 32) = true := decide_eq_true hs
 cases hl : Op.bytesLess a0_0.toList a1.toList
 case false =>
  simp only [hok, hk, hs3, hl, Bool.false_and, Bool.and_false, Bool.true_and, Bool.and_true, Bool.not_true, Bool.not_false, Bool.or_true, Bool.true_or, Bool.false_or, Bool.or_false, if_false, if_true, Bool.false_eq_true, Option.some.injEq, Prod.mk.injEq, decide_true, decide_false] at h
  obtain ⟨rfl, rfl, rfl, rfl, rfl⟩ := h
  go_enter Tryd.func32, Tryd.ntmps32
  go_wp2_with (first | (go_at_call 47; refine (HC _ (pbA (pbA (pbA (Below.refl _ _) _) _) _)).out.mono ?_; rintro e w1 ⟨rfl, hb⟩; have B0 := three_old hb () (); have B1 := three_mid2 hb () (); have B2 := three_new hb () (); have z0 := (bkC B0 0).trans rfl; have z1 := (bkC B0 1).trans rfl; have y0 := (bkC B1 0).trans rfl; have y1 := (bkC B1 1).trans rfl; have x0 := (bkC B2 0).trans rfl; have x1 := (bkC B2 1).trans rfl; have e0 := bkF B1 0; have e1 := bkF B1 1; have d0 := bkF B2 0; have d1 := bkF B2 1; have HB := pbT (pbA (pbA (pbA (Below.refl _ _) _) _) _) hb; have L0 := blk_lt B0; have L1 := blk_lt B1; have L2 := blk_lt B2) | go_in)
  go_region
  all_goals go_wp2
  refine bodyPost_ret (results_list (rs := [.cell 4 23, .cell 5 23, .tmp 6]) rfl (by simp) (.cell (w.heap.size + 1) 23 #[.string ⟨#[]⟩, .string ⟨#[]⟩] (0, 0) _ rfl ?b1 hu rfl (by kernel_rfl) (.cell (w.heap.size + 1 + 1) 23 #[.string ⟨#[]⟩, .string ⟨#[]⟩] (0, 0) _ rfl ?b2 hu rfl (by kernel_rfl) (.tmp .nil)))) rfl ?_
  case b1 => (with_reducible repeat (first | refine bkN ?_ _ | refine bkD ?_ | refine bkA ?_ _)); exact blk_far (blk_far (put2s (by (with_reducible repeat (first | refine bkN ?_ _ | refine bkD ?_ | refine bkA ?_ _)); exact B1)) (by simp) _) (by simp) _
  case b2 => (with_reducible repeat (first | refine bkN ?_ _ | refine bkD ?_ | refine bkA ?_ _)); exact put2s (blk_far (blk_far (by (with_reducible repeat (first | refine bkN ?_ _ | refine bkD ?_ | refine bkA ?_ _)); exact B2) (by simp) _) (by simp) _)
  exact ⟨rfl, by repeat (first | (with_reducible first | exact HB | apply pb1 | apply pbA) | refine pbS ?_ (by omega))⟩
 cases ht : (a0_1.toList == ([] : List UInt8))
 case true =>
  have ht2 : (a0_1.toList != ([] : List UInt8)) = false := by rw [bne, ht]; rfl
  simp only [hok, hk, hs3, hl, ht, Bool.false_and, Bool.and_false, Bool.true_and, Bool.and_true, Bool.not_true, Bool.not_false, Bool.or_true, Bool.true_or, Bool.false_or, Bool.or_false, if_false, if_true, Bool.false_eq_true, Option.some.injEq, Prod.mk.injEq, decide_true, decide_false] at h
  obtain ⟨rfl, rfl, rfl, rfl, rfl⟩ := h
  go_enter Tryd.func32, Tryd.ntmps32
  go_wp2_with (first | (go_at_call 47; refine (HC _ (pbA (pbA (pbA (Below.refl _ _) _) _) _)).out.mono ?_; rintro e w1 ⟨rfl, hb⟩; have B0 := three_old hb () (); have B1 := three_mid2 hb () (); have B2 := three_new hb () (); have z0 := (bkC B0 0).trans rfl; have z1 := (bkC B0 1).trans rfl; have y0 := (bkC B1 0).trans rfl; have y1 := (bkC B1 1).trans rfl; have x0 := (bkC B2 0).trans rfl; have x1 := (bkC B2 1).trans rfl; have e0 := bkF B1 0; have e1 := bkF B1 1; have d0 := bkF B2 0; have d1 := bkF B2 1; have HB := pbT (pbA (pbA (pbA (Below.refl _ _) _) _) _) hb; have L0 := blk_lt B0; have L1 := blk_lt B1; have L2 := blk_lt B2) | go_in)
  go_region
  all_goals go_wp2
  refine bodyPost_ret (results_list (rs := [.cell 4 23, .cell 5 23, .tmp 6]) rfl (by simp) (.cell (w.heap.size + 1) 23 #[.string a0_0, .string a1] (0, 0) _ rfl ?b1 hu rfl (by kernel_rfl) (.cell (w.heap.size + 1 + 1) 23 #[.string a1, .string a0_1] (0, 0) _ rfl ?b2 hu rfl (by kernel_rfl) (.tmp .nil)))) rfl ?_
  case b1 => (with_reducible repeat (first | refine bkN ?_ _ | refine bkD ?_ | refine bkA ?_ _)); exact blk_far (blk_far (put2s (by (with_reducible repeat (first | refine bkN ?_ _ | refine bkD ?_ | refine bkA ?_ _)); exact B1)) (by simp) _) (by simp) _
  case b2 => (with_reducible repeat (first | refine bkN ?_ _ | refine bkD ?_ | refine bkA ?_ _)); exact put2s (blk_far (blk_far (by (with_reducible repeat (first | refine bkN ?_ _ | refine bkD ?_ | refine bkA ?_ _)); exact B2) (by simp) _) (by simp) _)
  exact ⟨rfl, by repeat (first | (with_reducible first | exact HB | apply pb1 | apply pbA) | refine pbS ?_ (by omega))⟩
 have ht2 : (a0_1.toList != ([] : List UInt8)) = true := by rw [bne, ht]; rfl
 cases hg : Op.bytesLess a1.toList a0_1.toList
 case false =>
  simp only [hok, hk, hs3, hl, ht, hg, Bool.false_and, Bool.and_false, Bool.true_and, Bool.and_true, Bool.not_true, Bool.not_false, Bool.or_true, Bool.true_or, Bool.false_or, Bool.or_false, if_false, if_true, Bool.false_eq_true, Option.some.injEq, Prod.mk.injEq, decide_true, decide_false] at h
  obtain ⟨rfl, rfl, rfl, rfl, rfl⟩ := h
  go_enter Tryd.func32, Tryd.ntmps32
  go_wp2_with (first | (go_at_call 47; refine (HC _ (pbA (pbA (pbA (Below.refl _ _) _) _) _)).out.mono ?_; rintro e w1 ⟨rfl, hb⟩; have B0 := three_old hb () (); have B1 := three_mid2 hb () (); have B2 := three_new hb () (); have z0 := (bkC B0 0).trans rfl; have z1 := (bkC B0 1).trans rfl; have y0 := (bkC B1 0).trans rfl; have y1 := (bkC B1 1).trans rfl; have x0 := (bkC B2 0).trans rfl; have x1 := (bkC B2 1).trans rfl; have e0 := bkF B1 0; have e1 := bkF B1 1; have d0 := bkF B2 0; have d1 := bkF B2 1; have HB := pbT (pbA (pbA (pbA (Below.refl _ _) _) _) _) hb; have L0 := blk_lt B0; have L1 := blk_lt B1; have L2 := blk_lt B2) | go_in)
  go_region
  all_goals go_wp2
  refine bodyPost_ret (results_list (rs := [.cell 4 23, .cell 5 23, .tmp 6]) rfl (by simp) (.cell (w.heap.size + 1) 23 #[.string ⟨#[]⟩, .string ⟨#[]⟩] (0, 0) _ rfl ?b1 hu rfl (by kernel_rfl) (.cell (w.heap.size + 1 + 1) 23 #[.string ⟨#[]⟩, .string ⟨#[]⟩] (0, 0) _ rfl ?b2 hu rfl (by kernel_rfl) (.tmp .nil)))) rfl ?_
  case b1 => (with_reducible repeat (first | refine bkN ?_ _ | refine bkD ?_ | refine bkA ?_ _)); exact blk_far (blk_far (put2s (by (with_reducible repeat (first | refine bkN ?_ _ | refine bkD ?_ | refine bkA ?_ _)); exact B1)) (by simp) _) (by simp) _
  case b2 => (with_reducible repeat (first | refine bkN ?_ _ | refine bkD ?_ | refine bkA ?_ _)); exact put2s (blk_far (blk_far (by (with_reducible repeat (first | refine bkN ?_ _ | refine bkD ?_ | refine bkA ?_ _)); exact B2) (by simp) _) (by simp) _)
  exact ⟨rfl, by repeat (first | (with_reducible first | exact HB | apply pb1 | apply pbA) | refine pbS ?_ (by omega))⟩
 case true =>
  simp only [hok, hk, hs3, hl, ht, hg, Bool.false_and, Bool.and_false, Bool.true_and, Bool.and_true, Bool.not_true, Bool.not_false, Bool.or_true, Bool.true_or, Bool.false_or, Bool.or_false, if_false, if_true, Bool.false_eq_true, Option.some.injEq, Prod.mk.injEq, decide_true, decide_false] at h
  obtain ⟨rfl, rfl, rfl, rfl, rfl⟩ := h
  go_enter Tryd.func32, Tryd.ntmps32
  go_wp2_with (first | (go_at_call 47; refine (HC _ (pbA (pbA (pbA (Below.refl _ _) _) _) _)).out.mono ?_; rintro e w1 ⟨rfl, hb⟩; have B0 := three_old hb () (); have B1 := three_mid2 hb () (); have B2 := three_new hb () (); have z0 := (bkC B0 0).trans rfl; have z1 := (bkC B0 1).trans rfl; have y0 := (bkC B1 0).trans rfl; have y1 := (bkC B1 1).trans rfl; have x0 := (bkC B2 0).trans rfl; have x1 := (bkC B2 1).trans rfl; have e0 := bkF B1 0; have e1 := bkF B1 1; have d0 := bkF B2 0; have d1 := bkF B2 1; have HB := pbT (pbA (pbA (pbA (Below.refl _ _) _) _) _) hb; have L0 := blk_lt B0; have L1 := blk_lt B1; have L2 := blk_lt B2) | go_in)
  go_region
  all_goals go_wp2
  refine bodyPost_ret (results_list (rs := [.cell 4 23, .cell 5 23, .tmp 6]) rfl (by simp) (.cell (w.heap.size + 1) 23 #[.string a0_0, .string a1] (0, 0) _ rfl ?b1 hu rfl (by kernel_rfl) (.cell (w.heap.size + 1 + 1) 23 #[.string a1, .string a0_1] (0, 0) _ rfl ?b2 hu rfl (by kernel_rfl) (.tmp .nil)))) rfl ?_
  case b1 => (with_reducible repeat (first | refine bkN ?_ _ | refine bkD ?_ | refine bkA ?_ _)); exact blk_far (blk_far (put2s (by (with_reducible repeat (first | refine bkN ?_ _ | refine bkD ?_ | refine bkA ?_ _)); exact B1)) (by simp) _) (by simp) _
  case b2 => (with_reducible repeat (first | refine bkN ?_ _ | refine bkD ?_ | refine bkA ?_ _)); exact put2s (blk_far (blk_far (by (with_reducible repeat (first | refine bkN ?_ _ | refine bkD ?_ | refine bkA ?_ _)); exact B2) (by simp) _) (by simp) _)
  exact ⟨rfl, by repeat (first | (with_reducible first | exact HB | apply pb1 | apply pbA) | refine pbS ?_ (by omega))⟩
end Go.Proofs.YtjfhcijjjadhbaaDoor.P
end
