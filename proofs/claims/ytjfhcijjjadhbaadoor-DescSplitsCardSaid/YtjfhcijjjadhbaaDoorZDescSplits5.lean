import Derived.Test.YtjfhcijjjadhbaaDoorZDescSplits1
import Derived.Test.YtjfhcijjjadhbaaDoorZDescSplits2
import Derived.Test.YtjfhcijjjadhbaaDoorZDescSplits3
import Derived.Test.YtjfhcijjjadhbaaDoorZDescSplits4
set_option linter.unusedVariables false
set_option linter.unusedSimpArgs false
set_option linter.unnecessarySimpa false
section
namespace Go.Proofs.YtjfhcijjjadhbaaDoor.P
open Go.RowKit Go.Proofs.YtjfhcijjjadhbaaDoor.K Go.Proofs.YtjfhcijjjadhbaaDoorW.PrintWords Go.Proofs.YtjfhcijjjadhbaaDoorW.PrintLast Go.Proofs.YtjfhcijjjadhbaaDoorW.PrintMore
attribute [local go_sem] max2_int min2_int max_two min_two max_three min_three max_four min_four   -- for this text's walks alone
def l06_DescSplits.j0 : Nat → ByteArray → Int → Bool → Int → ByteArray → ByteArray → Int → List (S60) → Int → Int → ByteArray → ByteArray → Int → List (S60) → Int → Option (Bool)
 | 0, _, _, _, _, _, _, _, _, _, _, _, _, _, _, _ => none
 | k + 1, x1, x2, x31, x390000, x390001, x390002, x390003, x390004, x390005, x391000, x391001, x391002, x391003, x391004, x391005 => if x31 = true then ((l06_live.f).bind fun t393 => (some t393)) else ((l06_own.f x390000 x390001 x390002 x390003 x390004 x390005).bind fun bt394 => ((desc_Split.f bt394.1 bt394.2.1 bt394.2.2.1 bt394.2.2.2.1 bt394.2.2.2.2.1 bt394.2.2.2.2.2 x1 x2).bind fun bt402 => ((r06_Split.f x390000 x390001 x390002 x390003 x390004 x390005 x1 x2).bind fun bt421 => ((l06_own.f x390000 x390001 x390002 x390003 x390004 x390005).bind fun bt440 => ((l06_own.f x391000 x391001 x391002 x391003 x391004 x391005).bind fun bt448 => ((desc_Merge.f k bt440.1 bt440.2.1 bt440.2.2.1 bt440.2.2.2.1 bt440.2.2.2.2.1 bt440.2.2.2.2.2 bt448.1 bt448.2.1 bt448.2.2.1 bt448.2.2.2.1 bt448.2.2.2.2.1 bt448.2.2.2.2.2).bind fun bt456 => ((r06_Merge.f k x390000 x390001 x390002 x390003 x390004 x390005 x391000 x391001 x391002 x391003 x391004 x391005).bind fun bt466 => ((r06_Same.f k bt402.1 bt402.2.1 bt402.2.2.1 bt402.2.2.2.1 bt402.2.2.2.2.1 bt402.2.2.2.2.2.1 bt421.1 bt421.2.1 bt421.2.2.1 bt421.2.2.2.1 bt421.2.2.2.2.1 bt421.2.2.2.2.2.1).bind fun t476 => (if t476 = true then ((r06_Same.f k bt402.2.2.2.2.2.2.1 bt402.2.2.2.2.2.2.2.1 bt402.2.2.2.2.2.2.2.2.1 bt402.2.2.2.2.2.2.2.2.2.1 bt402.2.2.2.2.2.2.2.2.2.2.1 bt402.2.2.2.2.2.2.2.2.2.2.2.1 bt421.2.2.2.2.2.2.1 bt421.2.2.2.2.2.2.2.1 bt421.2.2.2.2.2.2.2.2.1 bt421.2.2.2.2.2.2.2.2.2.1 bt421.2.2.2.2.2.2.2.2.2.2.1 bt421.2.2.2.2.2.2.2.2.2.2.2.1).bind fun t477 => (if t477 = true then ((l06_num.f bt402.2.2.2.2.2.2.2.2.2.2.2.2).bind fun t478 => (if t478 = bt421.2.2.2.2.2.2.2.2.2.2.2.2 then ((r06_Same.f k bt456.1 bt456.2.1 bt456.2.2.1 bt456.2.2.2.1 bt456.2.2.2.2.1 bt456.2.2.2.2.2.1 bt466.1 bt466.2.1 bt466.2.2.1 bt466.2.2.2.1 bt466.2.2.2.2.1 bt466.2.2.2.2.2.1).bind fun t479 => (if t479 = true then ((l06_num.f bt456.2.2.2.2.2.2).bind fun t480 => (if t480 = bt466.2.2.2.2.2.2 then ((l06_live.f).bind fun t481 => (some t481)) else (some false))) else (some false))) else (some false))) else (some false))) else (some false))))))))))
def l06_DescSplits.f (k : Nat) (a0_0 : Int) (a0_1 : ByteArray) (a0_2 : ByteArray) (a0_3 : Int) (l0_4 : List (S60)) (a0_5 : Int) (a1 : ByteArray) (a2 : Int) (a3_0 : Int) (a3_1 : ByteArray) (a3_2 : ByteArray) (a3_3 : Int) (l3_4 : List (S60)) (a3_5 : Int) : Option (Bool) := (l06_small.f a0_0 a0_1 a0_2 a0_3 l0_4 a0_5).bind fun t391 => (if t391 = true then ((l06_small.f a3_0 a3_1 a3_2 a3_3 l3_4 a3_5).bind fun t392 => (if t392 = true then (l06_DescSplits.j0 k a1 a2 (decide ((a1.size : Int) > 2000)) a0_0 a0_1 a0_2 a0_3 l0_4 a0_5 a3_0 a3_1 a3_2 a3_3 l3_4 a3_5) else (l06_DescSplits.j0 k a1 a2 true a0_0 a0_1 a0_2 a0_3 l0_4 a0_5 a3_0 a3_1 a3_2 a3_3 l3_4 a3_5))) else (l06_DescSplits.j0 k a1 a2 true a0_0 a0_1 a0_2 a0_3 l0_4 a0_5 a3_0 a3_1 a3_2 a3_3 l3_4 a3_5))
theorem l06_DescSplits.mono_l : ∀ k, (∀ y0 y1 y2 y3 y4 y5 y6 y7 y8 y9 y10 y11 y12 y13 y14, LeO (l06_DescSplits.j0 k y0 y1 y2 y3 y4 y5 y6 y7 y8 y9 y10 y11 y12 y13 y14) (l06_DescSplits.j0 (k + 1) y0 y1 y2 y3 y4 y5 y6 y7 y8 y9 y10 y11 y12 y13 y14))
 | 0 => fun _ _ _ _ _ _ _ _ _ _ _ _ _ _ _ r h => by simp [l06_DescSplits.j0] at h
 | k + 1 => by
  have ih0 := l06_DescSplits.mono_l k
  ·intro y0 y1 y2 y3 y4 y5 y6 y7 y8 y9 y10 y11 y12 y13 y14
   unfold l06_DescSplits.j0
   repeat' first
   | (with_reducible exact ih0 _ _ _ _ _ _ _ _ _ _ _ _ _ _ _)
   | (with_reducible exact desc_Merge.mono _ _ _ _ _ _ _ _ _ _ _ _ _)
   | (with_reducible exact r06_Merge.mono _ _ _ _ _ _ _ _ _ _ _ _ _)
   | (with_reducible exact r06_Same.mono _ _ _ _ _ _ _ _ _ _ _ _ _)
   | (with_reducible exact LeO.refl _)
   | (with_reducible exact LeO.none _)
   | (with_reducible refine LeO.ite ?_ ?_)
   | (with_reducible refine LeO.bind ?_ (fun _ => ?_))
   | exact ih0 _ _ _ _ _ _ _ _ _ _ _ _ _ _ _
   | exact desc_Merge.mono _ _ _ _ _ _ _ _ _ _ _ _ _
   | exact r06_Merge.mono _ _ _ _ _ _ _ _ _ _ _ _ _
   | exact r06_Same.mono _ _ _ _ _ _ _ _ _ _ _ _ _
   | exact LeO.none _
   | refine LeO.ite ?_ ?_
   | refine LeO.bind ?_ (fun _ => ?_)
theorem l06_DescSplits.mono : ∀ a0 a1 a2 a3 a4 a5 a6 a7 a8 a9 a10 a11 a12 a13 k, LeO (l06_DescSplits.f k a0 a1 a2 a3 a4 a5 a6 a7 a8 a9 a10 a11 a12 a13) (l06_DescSplits.f (k + 1) a0 a1 a2 a3 a4 a5 a6 a7 a8 a9 a10 a11 a12 a13) := by
 intro a0 a1 a2 a3 a4 a5 a6 a7 a8 a9 a10 a11 a12 a13 k
 have ih0 := l06_DescSplits.mono_l k
 unfold l06_DescSplits.f
 repeat' first
  | (with_reducible exact ih0 _ _ _ _ _ _ _ _ _ _ _ _ _ _ _)
  | (with_reducible exact desc_Merge.mono _ _ _ _ _ _ _ _ _ _ _ _ _)
  | (with_reducible exact r06_Merge.mono _ _ _ _ _ _ _ _ _ _ _ _ _)
  | (with_reducible exact r06_Same.mono _ _ _ _ _ _ _ _ _ _ _ _ _)
  | (with_reducible exact LeO.refl _)
  | (with_reducible exact LeO.none _)
  | (with_reducible refine LeO.ite ?_ ?_)
  | (with_reducible refine LeO.bind ?_ (fun _ => ?_))
  | exact ih0 _ _ _ _ _ _ _ _ _ _ _ _ _ _ _
  | exact desc_Merge.mono _ _ _ _ _ _ _ _ _ _ _ _ _
  | exact r06_Merge.mono _ _ _ _ _ _ _ _ _ _ _ _ _
  | exact r06_Same.mono _ _ _ _ _ _ _ _ _ _ _ _ _
  | exact LeO.none _
  | refine LeO.ite ?_ ?_
  | refine LeO.bind ?_ (fun _ => ?_)
def l06_DescSplits.T5 : Bool × List (List Nat × List Nat) := (true, [([], []), ([0], [0]), ([], []), ([2, 1], [2]), ([1, 3, 3], [1, 3]), ([4], [4]), ([5], [5]), ([5], [5]), ([], []), ([8, 6, 4, 0, 1, 2, 3, 4, 5, 6, 8], [6, 8]), ([7, 9, 0, 1, 2, 3, 4, 5, 6, 7, 8, 9], [7])])
def l06_DescSplits.B5 : List Nat := [0, 1, 0, 7, 15, 31, 63, 63, 0, 383, 1023]
theorem l06_DescSplits.tab5 : rtab .any (opsOf Tryd.f3 5) = l06_DescSplits.T5 := by kernel_rfl
theorem l06_DescSplits.bits5 : waitsOk l06_DescSplits.T5.2 l06_DescSplits.B5 = true := by kernel_rfl
set_option maxHeartbeats 8000000 in
set_option maxRecDepth 100000 in
theorem l06_DescSplits.calls (k : Nat) (a0_0 : Int) (a0_1 : ByteArray) (a0_2 : ByteArray) (a0_3 : Int) (A0_4 : Option Addr) (c0_4 : Nat) (l0_4 : List (S60)) (a0_5 : Int) (a1 : ByteArray) (a2 : Int) (a3_0 : Int) (a3_1 : ByteArray) (a3_2 : ByteArray) (a3_3 : Int) (A3_4 : Option Addr) (c3_4 : Nat) (l3_4 : List (S60)) (a3_5 : Int) (r : Bool) (w : World) (hG : TheG w) (hr : r = true) (hr0_4 : Kd.C k60 w A0_4 l0_4.length l0_4) (hc0_4 : l0_4.length ≤ c0_4) (hr3_4 : Kd.C k60 w A3_4 l3_4.length l3_4) (hc3_4 : l3_4.length ≤ c3_4) (h : l06_DescSplits.f k a0_0 a0_1 a0_2 a0_3 l0_4 a0_5 a1 a2 a3_0 a3_1 a3_2 a3_3 l3_4 a3_5 = some r) :
 Calls Tryd.prog 3 #[.agg #[.int .i64 a0_0, .string a0_1, .string a0_2, .int .i64 a0_3, .slice A0_4 l0_4.length c0_4, .int .i64 a0_5], .string a1, .int .i64 a2, .agg #[.int .i64 a3_0, .string a3_1, .string a3_2, .int .i64 a3_3, .slice A3_4 l3_4.length c3_4, .int .i64 a3_5]] w fun e w' => e = .returned (.bool r) ∧ Below w.heap.size w w' := by
 have hu26 := Tryd.underlying26
 have HR0_4 := Az.mk hr0_4
 have HC0_4 := Az.mk hc0_4
 clear hr0_4 hc0_4
 have HR3_4 := Az.mk hr3_4
 have HC3_4 := Az.mk hc3_4
 clear hr3_4 hc3_4
 have HB := Az.mk (Below.refl w.heap.size w)
 have H : ((l06_small.f a0_0 a0_1 a0_2 a0_3 l0_4 a0_5).bind fun t391 => (if t391 = true then ((l06_small.f a3_0 a3_1 a3_2 a3_3 l3_4 a3_5).bind fun t392 => (if t392 = true then (l06_DescSplits.j0 k a1 a2 (decide ((a1.size : Int) > 2000)) a0_0 a0_1 a0_2 a0_3 l0_4 a0_5 a3_0 a3_1 a3_2 a3_3 l3_4 a3_5) else (l06_DescSplits.j0 k a1 a2 true a0_0 a0_1 a0_2 a0_3 l0_4 a0_5 a3_0 a3_1 a3_2 a3_3 l3_4 a3_5))) else (l06_DescSplits.j0 k a1 a2 true a0_0 a0_1 a0_2 a0_3 l0_4 a0_5 a3_0 a3_1 a3_2 a3_3 l3_4 a3_5))) = some r := h
 clear h
 have HC5 := Az.mk H
 clear H
 go_enter Tryd.func3, Tryd.ntmps3
 go_upto_region 1 with (first | ((with_reducible refine gate_dst (N := 4) rfl ?_); (try (refine gate_guard (by rfl) ?_; dsimp only)); refine box_event ?hg (N := 4) ?hd (cs := #[.int .i64 a0_0, .string a0_1, .string a0_2, .int .i64 a0_3, .slice A0_4 l0_4.length c0_4, .int .i64 a0_5]) (t := 26) ?hr ?_; (case hd => rfl); (case hg => rfl); (case hr => first | (go_simp; done) | (go_simp; rfl)); intro gb389 hg w6 hbox hb; have BK389 := Az.mk (hbox); have GW389 := Az.mk (geO hg (pbE HB.out)); have GE389 := Az.mk (geO hg (pbE HB.out)); replace HB := Az.mk (pbT (by exact pbE HB.out) hb); clear hb hbox hg) | ((with_reducible refine gate_dst (N := 7) rfl ?_); (try (refine gate_guard (by rfl) ?_; dsimp only)); refine box_event ?hg (N := 7) ?hd (cs := #[.int .i64 a3_0, .string a3_1, .string a3_2, .int .i64 a3_3, .slice A3_4 l3_4.length c3_4, .int .i64 a3_5]) (t := 26) ?hr ?_; (case hd => rfl); (case hg => rfl); (case hr => first | (go_simp; done) | (go_simp; rfl)); intro gb390 hg w7 hbox hb; have BK390 := Az.mk (hbox); have GW390 := Az.mk (geO hg (pbE HB.out)); have GE390 := Az.mk (geO hg (pbE HB.out)); replace HB := Az.mk (pbT (by exact pbE HB.out) hb); have NB389_390 := Az.mk (neO hg (bk BK389.out)); have NB390_389 := Az.mk (neP hg (bk BK389.out)); replace BK389 := Az.mk (bkB (bk BK389.out) hb); clear hb hbox hg))
 (try simp only [Act.put, List.setIfInBounds_toArray, List.set_cons_zero, List.set_cons_succ])
 go_cut [31] (fun v31 wc => ∃ (kq : Nat) (x31_4 : Bool), v31 = .bool x31_4 ∧ Az (l06_DescSplits.j0 kq a1 a2 x31_4 a0_0 a0_1 a0_2 a0_3 l0_4 a0_5 a3_0 a3_1 a3_2 a3_3 l3_4 a3_5 = some r) ∧ Az (kq ≤ k) ∧ Az (wc.heap[gb389]? = some (.cells #[.int .i64 a0_0, .string a0_1, .string a0_2, .int .i64 a0_3, (.slice A0_4 l0_4.length c0_4), .int .i64 a0_5] 26 (0, 0))) ∧ Az (wc.heap[gb390]? = some (.cells #[.int .i64 a3_0, .string a3_1, .string a3_2, .int .i64 a3_3, (.slice A3_4 l3_4.length c3_4), .int .i64 a3_5] 26 (0, 0))) ∧ Az (Below w.heap.size w wc))
 case first =>
  have H := HC5.out
  clear HC5
  replace H := Option.bind_eq_some_iff.mp H
  obtain ⟨t391, A80, H⟩ := H
  try dsimp only at H
  have A8 := Az.mk A80
  clear A80
  by_cases c9 : t391 = true
  ·subst c9
   rw [if_pos rfl] at H
   replace H := Option.bind_eq_some_iff.mp H
   obtain ⟨t392, A100, H⟩ := H
   try dsimp only at H
   have A10 := Az.mk A100
   clear A100
   by_cases c11 : t392 = true
   ·subst c11
    rw [if_pos rfl] at H
    have H' := Az.mk H
    clear H
    have hnb12 := NB389_390.out
    have hnc12 := NB390_389.out
    have hcz13 := cells6 BK389.out
    go_wp2_with (first | ((with_reducible refine gtc (f := 9) rfl ?_); refine goesL_ (some 20) rfl rfl Tryd.func9 (by kernel_rfl) rfl #[.agg #[.int .i64 a0_0, .string a0_1, .string a0_2, .int .i64 a0_3, .slice A0_4 l0_4.length c0_4, .int .i64 a0_5]] rfl (by (try simp only [List.map_toArray, List.map_cons, List.map_nil]); first | done | rfl | (simp only [List.length_drop, List.length_take]; rfl)) ?_; (with_reducible refine (l06_small.calls a0_0 a0_1 a0_2 a0_3 _ _ l0_4 a0_5 true _ ?side1 ?side2 ?side3 A8.out).mono ?_); (case side1 => exact hG.below (by exact pbE HB.out)); (case side2 => repeat (first | exact (Kd.C_below HR0_4.out HB.out) | (with_reducible refine Kd.C_alloc ?_ _) | (with_reducible refine Kd.C_drewN ?_ _) | (with_reducible refine Kd.C_drew ?_))); (case side3 => exact HC0_4.out); rintro e w14 ⟨rfl, hb⟩; refine ⟨_, rfl, ?_⟩; replace BK389 := Az.mk (bkB (bk BK389.out) hb); replace BK390 := Az.mk (bkB (bk BK390.out) hb); replace HB := Az.mk (pbT (by exact pbE HB.out) hb); (try clear hb); (try clear hb2); (try clear hk); (try clear hi); have hcz15 := cells6 BK390.out) | (go_at_call 9; (with_reducible refine (l06_small.calls a3_0 a3_1 a3_2 a3_3 _ _ l3_4 a3_5 true _ ?side1 ?side2 ?side3 A10.out).mono ?_); (case side1 => exact hG.below (by exact pbE HB.out)); (case side2 => repeat (first | exact (Kd.C_below HR3_4.out HB.out) | (with_reducible refine Kd.C_alloc ?_ _) | (with_reducible refine Kd.C_drewN ?_ _) | (with_reducible refine Kd.C_drew ?_))); (case side3 => exact HC3_4.out); rintro e w16 ⟨rfl, hb⟩; replace BK389 := Az.mk (bkB (bk BK389.out) hb); replace BK390 := Az.mk (bkB (bk BK390.out) hb); replace HB := Az.mk (pbT (by exact pbE HB.out) hb); (try clear hb); (try clear hb2); (try clear hk); (try clear hi)))
    go_meet
    case rel => exact ⟨_, (decide ((a1.size : Int) > 2000)), (by first | rfl | (simp; done) | (simp [*]; done)), H', ⟨by first | omega | exact Nat.le_refl _⟩, ⟨by refine bk ?_; exact BK389.out⟩, ⟨by refine bk ?_; exact BK390.out⟩, ⟨by exact pbE HB.out⟩⟩
   ·replace c11 := Bool.eq_false_iff.mpr c11
    subst c11
    rw [if_neg (show ¬ (false = true) by decide)] at H
    have H' := Az.mk H
    clear H
    have hnb17 := NB389_390.out
    have hnc17 := NB390_389.out
    have hcz18 := cells6 BK389.out
    go_wp2_with (first | ((with_reducible refine gtc (f := 9) rfl ?_); refine goesL_ (some 20) rfl rfl Tryd.func9 (by kernel_rfl) rfl #[.agg #[.int .i64 a0_0, .string a0_1, .string a0_2, .int .i64 a0_3, .slice A0_4 l0_4.length c0_4, .int .i64 a0_5]] rfl (by (try simp only [List.map_toArray, List.map_cons, List.map_nil]); first | done | rfl | (simp only [List.length_drop, List.length_take]; rfl)) ?_; (with_reducible refine (l06_small.calls a0_0 a0_1 a0_2 a0_3 _ _ l0_4 a0_5 true _ ?side1 ?side2 ?side3 A8.out).mono ?_); (case side1 => exact hG.below (by exact pbE HB.out)); (case side2 => repeat (first | exact (Kd.C_below HR0_4.out HB.out) | (with_reducible refine Kd.C_alloc ?_ _) | (with_reducible refine Kd.C_drewN ?_ _) | (with_reducible refine Kd.C_drew ?_))); (case side3 => exact HC0_4.out); rintro e w19 ⟨rfl, hb⟩; refine ⟨_, rfl, ?_⟩; replace BK389 := Az.mk (bkB (bk BK389.out) hb); replace BK390 := Az.mk (bkB (bk BK390.out) hb); replace HB := Az.mk (pbT (by exact pbE HB.out) hb); (try clear hb); (try clear hb2); (try clear hk); (try clear hi); have hcz20 := cells6 BK390.out) | (go_at_call 9; (with_reducible refine (l06_small.calls a3_0 a3_1 a3_2 a3_3 _ _ l3_4 a3_5 false _ ?side1 ?side2 ?side3 A10.out).mono ?_); (case side1 => exact hG.below (by exact pbE HB.out)); (case side2 => repeat (first | exact (Kd.C_below HR3_4.out HB.out) | (with_reducible refine Kd.C_alloc ?_ _) | (with_reducible refine Kd.C_drewN ?_ _) | (with_reducible refine Kd.C_drew ?_))); (case side3 => exact HC3_4.out); rintro e w21 ⟨rfl, hb⟩; replace BK389 := Az.mk (bkB (bk BK389.out) hb); replace BK390 := Az.mk (bkB (bk BK390.out) hb); replace HB := Az.mk (pbT (by exact pbE HB.out) hb); (try clear hb); (try clear hb2); (try clear hk); (try clear hi)))
    go_meet
    case rel => exact ⟨_, (true), (by first | rfl | (simp; done) | (simp [*]; done)), H', ⟨by first | omega | exact Nat.le_refl _⟩, ⟨by refine bk ?_; exact BK389.out⟩, ⟨by refine bk ?_; exact BK390.out⟩, ⟨by exact pbE HB.out⟩⟩
  ·replace c9 := Bool.eq_false_iff.mpr c9
   subst c9
   rw [if_neg (show ¬ (false = true) by decide)] at H
   have H' := Az.mk H
   clear H
   have hnb22 := NB389_390.out
   have hnc22 := NB390_389.out
   have hcz23 := cells6 BK389.out
   go_wp2_with (first | ((with_reducible refine gtc (f := 9) rfl ?_); refine goesL_ (some 20) rfl rfl Tryd.func9 (by kernel_rfl) rfl #[.agg #[.int .i64 a0_0, .string a0_1, .string a0_2, .int .i64 a0_3, .slice A0_4 l0_4.length c0_4, .int .i64 a0_5]] rfl (by (try simp only [List.map_toArray, List.map_cons, List.map_nil]); first | done | rfl | (simp only [List.length_drop, List.length_take]; rfl)) ?_; (with_reducible refine (l06_small.calls a0_0 a0_1 a0_2 a0_3 _ _ l0_4 a0_5 false _ ?side1 ?side2 ?side3 A8.out).mono ?_); (case side1 => exact hG.below (by exact pbE HB.out)); (case side2 => repeat (first | exact (Kd.C_below HR0_4.out HB.out) | (with_reducible refine Kd.C_alloc ?_ _) | (with_reducible refine Kd.C_drewN ?_ _) | (with_reducible refine Kd.C_drew ?_))); (case side3 => exact HC0_4.out); rintro e w24 ⟨rfl, hb⟩; refine ⟨_, rfl, ?_⟩; replace BK389 := Az.mk (bkB (bk BK389.out) hb); replace BK390 := Az.mk (bkB (bk BK390.out) hb); replace HB := Az.mk (pbT (by exact pbE HB.out) hb); (try clear hb); (try clear hb2); (try clear hk); (try clear hi)))
   go_meet
   case rel => exact ⟨_, (true), (by first | rfl | (simp; done) | (simp [*]; done)), H', ⟨by first | omega | exact Nat.le_refl _⟩, ⟨by refine bk ?_; exact BK389.out⟩, ⟨by refine bk ?_; exact BK390.out⟩, ⟨by exact pbE HB.out⟩⟩
 case rest =>
  clear HC5
  try clear c1
  try clear c2
  try clear p2
  try clear c3
  try clear c9
  try clear c11
  try clear c12
  try clear c17
  try clear c22
  try clear hcz13
  try clear hcz15
  try clear hcz18
  try clear hcz20
  try clear hcz23
  obtain ⟨kq, x31_4, rfl, HA, HJ4, BK389, BK390, HB⟩ := hcut
  cases kq with
  | zero => exact absurd HA.out (by simp [l06_DescSplits.j0])
  | succ kj4 =>
   have H := HA.out
   clear HA
   simp only [l06_DescSplits.j0] at H
   by_cases c25 : x31_4 = true
   ·subst c25
    rw [if_pos rfl] at H
    replace H := Option.bind_eq_some_iff.mp H
    obtain ⟨t393, A260, H⟩ := H
    replace H : (some t393) = some r := H
    have A26 := Az.mk A260
    clear A260
    obtain rfl := Option.some.inj H
    go_wp2_with (first | ((with_reducible refine gtc (f := 10) rfl ?_); refine goesL_ (some 32) rfl rfl Tryd.func10 (by kernel_rfl) rfl #[] rfl (by (try simp only [List.map_toArray, List.map_cons, List.map_nil]); first | done | rfl | (simp only [List.length_drop, List.length_take]; rfl)) ?_; (with_reducible refine (l06_live.calls  t393 _ ?side1 A26.out).mono ?_); (case side1 => exact hG.below (by exact pbE HB.out)); rintro e w27 ⟨rfl, hb⟩; refine ⟨_, rfl, ?_⟩; replace BK389 := Az.mk (bkB (bk BK389.out) hb); replace BK390 := Az.mk (bkB (bk BK390.out) hb); replace HB := Az.mk (pbT (by exact pbE HB.out) hb); (try clear hb); (try clear hb2); (try clear hk); (try clear hi)))
    go_ret
    exact ⟨by first | rfl | (simp [errW_none, errW_some] <;> rfl) | (simp [*, errW_none, errW_some] <;> rfl), by exact pbE HB.out⟩
   ·replace c25 := Bool.eq_false_iff.mpr c25
    subst c25
    rw [if_neg (show ¬ (false = true) by decide)] at H
    replace H := Option.bind_eq_some_iff.mp H
    obtain ⟨⟨t394, t395, t396, t397, t398, t401⟩, A280, H⟩ := H
    try dsimp only at H
    have A28 := Az.mk A280
    clear A280
    replace H := Option.bind_eq_some_iff.mp H
    obtain ⟨⟨t402, t403, t404, t405, t406, t409, t410, t411, t412, t413, t414, t417, t418⟩, A290, H⟩ := H
    try dsimp only at H
    have A29 := Az.mk A290
    clear A290
    replace H := Option.bind_eq_some_iff.mp H
    obtain ⟨⟨t421, t422, t423, t424, t425, t428, t429, t430, t431, t432, t433, t436, t437⟩, A300, H⟩ := H
    try dsimp only at H
    have A30 := Az.mk A300
    clear A300
    replace H := Option.bind_eq_some_iff.mp H
    obtain ⟨⟨t440, t441, t442, t443, t444, t447⟩, A310, H⟩ := H
    try dsimp only at H
    have A31 := Az.mk A310
    clear A310
    replace H := Option.bind_eq_some_iff.mp H
    obtain ⟨⟨t448, t449, t450, t451, t452, t455⟩, A320, H⟩ := H
    try dsimp only at H
    have A32 := Az.mk A320
    clear A320
    replace H := Option.bind_eq_some_iff.mp H
    obtain ⟨⟨t456, t457, t458, t459, t460, t463, t464⟩, A330, H⟩ := H
    try dsimp only at H
    have A33 := Az.mk A330
    clear A330
    replace H := Option.bind_eq_some_iff.mp H
    obtain ⟨⟨t466, t467, t468, t469, t470, t473, t474⟩, A340, H⟩ := H
    try dsimp only at H
    have A34 := Az.mk A340
    clear A340
    replace H := Option.bind_eq_some_iff.mp H
    obtain ⟨t476, A350, H⟩ := H
    try dsimp only at H
    have A35 := Az.mk A350
    clear A350
    by_cases c36 : t476 = true
    ·subst c36
     rw [if_pos rfl] at H
     replace H := Option.bind_eq_some_iff.mp H
     obtain ⟨t477, A370, H⟩ := H
     try dsimp only at H
     have A37 := Az.mk A370
     clear A370
     by_cases c38 : t477 = true
     ·subst c38
      rw [if_pos rfl] at H
      replace H := Option.bind_eq_some_iff.mp H
      obtain ⟨t478, A390, H⟩ := H
      try dsimp only at H
      have A39 := Az.mk A390
      clear A390
      by_cases c40 : t478 = t437
      ·rw [if_pos c40] at H
       have c40b0 : (t478 == t437) = true := beq_iff_eq.mpr c40
       have c40b1 : (t478 != t437) = false := bne_eq_false_iff_eq.mpr c40
       clear c40
       replace H := Option.bind_eq_some_iff.mp H
       obtain ⟨t479, A410, H⟩ := H
       try dsimp only at H
       have A41 := Az.mk A410
       clear A410
       by_cases c42 : t479 = true
       ·subst c42
        rw [if_pos rfl] at H
        replace H := Option.bind_eq_some_iff.mp H
        obtain ⟨t480, A430, H⟩ := H
        try dsimp only at H
        have A43 := Az.mk A430
        clear A430
        by_cases c44 : t480 = t474
        ·rw [if_pos c44] at H
         have c44b0 : (t480 == t474) = true := beq_iff_eq.mpr c44
         have c44b1 : (t480 != t474) = false := bne_eq_false_iff_eq.mpr c44
         clear c44
         replace H := Option.bind_eq_some_iff.mp H
         obtain ⟨t481, A450, H⟩ := H
         replace H : (some t481) = some r := H
         have A45 := Az.mk A450
         clear A450
         obtain rfl := Option.some.inj H
         have hnb46 := NB389_390.out
         have hnc46 := NB390_389.out
         have hcz47 := cells6 BK389.out
         try go_wp2_with (first | ((with_reducible refine gtc (f := 12) rfl ?_); refine goesL_ (some 35) rfl rfl Tryd.func12 (by kernel_rfl) rfl #[.agg #[.int .i64 a0_0, .string a0_1, .string a0_2, .int .i64 a0_3, .slice A0_4 l0_4.length c0_4, .int .i64 a0_5]] rfl (by (try simp only [List.map_toArray, List.map_cons, List.map_nil]); first | done | rfl | (simp only [List.length_drop, List.length_take]; rfl)) ?_; (with_reducible refine (l06_own.calls a0_0 a0_1 a0_2 a0_3 _ _ l0_4 a0_5 t394 t395 t396 t397 t398 t401 _ ?side1 ?side2 ?side3 A28.out).mono ?_); (case side1 => exact hG.below (by exact pbE HB.out)); (case side2 => repeat (first | exact (Kd.C_below HR0_4.out HB.out) | (with_reducible refine Kd.C_alloc ?_ _) | (with_reducible refine Kd.C_drewN ?_ _) | (with_reducible refine Kd.C_drew ?_))); (case side3 => exact HC0_4.out); rintro e w48 ⟨v399, rfl, ho0, hb⟩; refine ⟨_, rfl, ?_⟩; have HO400 := Az.mk (Kd.R_lower ho0 (pbZ (by exact pbE HB.out))); replace BK389 := Az.mk (bkB (bk BK389.out) hb); replace BK390 := Az.mk (bkB (bk BK390.out) hb); replace HB := Az.mk (pbT (by exact pbE HB.out) hb); (try clear hb); (try clear hb2); (try clear hk); (try clear hi); (try clear ho0); obtain ⟨Ao49, co49, eo49⟩ := Kd.R_slice HO400.out; subst eo49) | ((with_reducible refine gtc (f := 11) rfl ?_); refine goesL_ (some 38) rfl rfl Tryd.func11 (by kernel_rfl) rfl #[.agg #[.int .i64 t394, .string t395, .string t396, .int .i64 t397, .slice Ao49 t398.length co49, .int .i64 t401], .string a1, .int .i64 a2] rfl (by (try simp only [List.map_toArray, List.map_cons, List.map_nil]); first | done | rfl | (simp only [List.length_drop, List.length_take]; rfl)) ?_; (with_reducible refine (desc_Split.calls t394 t395 t396 t397 (fun k_ => some k_ = (.slice Ao49 t398.length co49 : Value).ownBlock) _ _ t398 t401 a1 a2 t402 t403 t404 t405 t406 t409 t410 t411 t412 t413 t414 t417 t418 _ ?side1 ?side2 A29.out).mono ?_); (case side1 => exact hG.below (by exact pbE HB.out)); (case side2 => exact Kd.R_V (Kd.R_tight rfl (Kd.R_types (Kd.R_types (HO400.out) BK389.out (by decide)) BK390.out (by decide)))); rintro e w50 ⟨v407, v415, rfl, ho0, ho1, hb⟩; refine ⟨_, rfl, ?_⟩; have HO408 := Az.mk (Kd.V_lower (Kd.V_mono (ok' := fun k_ => some k_ ≠ (v415 : Value).ownBlock ∧ k_ ≠ gb389 ∧ k_ ≠ gb390) ho0 (fun k_ hk_ => ⟨hk_.2, Or.elim hk_.1 (fun hs_ => ((Kd.R_types (Kd.R_types (HO400.out) BK389.out (by decide)) BK390.out (by decide)).1 k_ hs_.symm).1.2) (fun hn_ => (Kd.freshB (bk BK389.out) k_ hn_)), Or.elim hk_.1 (fun hs_ => ((Kd.R_types (Kd.R_types (HO400.out) BK389.out (by decide)) BK390.out (by decide)).1 k_ hs_.symm).2) (fun hn_ => (Kd.freshB (bk BK390.out) k_ hn_))⟩)) (pbZ (by exact pbE HB.out))); have HO416 := Az.mk (Kd.R_lower (Kd.R_new' (Kd.R_mono (ok' := fun k_ => True) ho1 (fun _ hk_ => trivial)) (Kd.R_lt (Kd.R_ext HO400.out))) (pbZ (by exact pbE HB.out))); replace HO400 := Az.mk (Kd.R_elder' (Kd.R_ext HO400.out) (Kd.R_base ho1) hb); replace BK389 := Az.mk (bkB (bk BK389.out) hb); replace BK390 := Az.mk (bkB (bk BK390.out) hb); replace HB := Az.mk (pbT (by exact pbE HB.out) hb); (try clear hb); (try clear hb2); (try clear hk); (try clear hi); (try clear ho0); (try clear ho1)) | ((with_reducible refine gate_dst (N := 9) rfl ?_); (try (refine gate_guard (by rfl) ?_; dsimp only)); refine box_event ?hg (N := 9) ?hd (cs := #[.int .i64 0, .string (⟨#[]⟩ : ByteArray), .string (⟨#[]⟩ : ByteArray), .int .i64 0, .slice none 0 0, .int .i64 0]) (t := 26) ?hr ?_; (case hd => rfl); (case hg => rfl); (case hr => first | (go_simp; done) | (go_simp; rfl)); intro gb419 hg w51 hbox hb; replace HO400 := Az.mk (Kd.R_below (Kd.R_ext HO400.out) hb); replace HO408 := Az.mk (Kd.V_below (Kd.V_elderB (Kd.V_ext HO408.out) gb419 (Nat.le_of_eq hg.symm)) hb); replace HO416 := Az.mk (Kd.R_below (Kd.R_ext HO416.out) hb); have BK419 := Az.mk (hbox); have GW419 := Az.mk (geO hg (pbE HB.out)); have GE419 := Az.mk (geO hg (pbE HB.out)); replace HB := Az.mk (pbT (by exact pbE HB.out) hb); have NB389_419 := Az.mk (neO hg (bk BK389.out)); have NB419_389 := Az.mk (neP hg (bk BK389.out)); replace BK389 := Az.mk (bkB (bk BK389.out) hb); have NB390_419 := Az.mk (neO hg (bk BK390.out)); have NB419_390 := Az.mk (neP hg (bk BK390.out)); replace BK390 := Az.mk (bkB (bk BK390.out) hb); clear hb hbox hg) | ((with_reducible refine gate_dst (N := 10) rfl ?_); (try (refine gate_guard (by rfl) ?_; dsimp only)); refine box_event ?hg (N := 10) ?hd (cs := #[.int .i64 0, .string (⟨#[]⟩ : ByteArray), .string (⟨#[]⟩ : ByteArray), .int .i64 0, .slice none 0 0, .int .i64 0]) (t := 26) ?hr ?_; (case hd => rfl); (case hg => rfl); (case hr => first | (go_simp; done) | (go_simp; rfl)); intro gb420 hg w52 hbox hb; replace HO400 := Az.mk (Kd.R_below (Kd.R_ext HO400.out) hb); replace HO408 := Az.mk (Kd.V_below (Kd.V_elderB (Kd.V_ext HO408.out) gb420 (Nat.le_of_eq hg.symm)) hb); replace HO416 := Az.mk (Kd.R_below (Kd.R_ext HO416.out) hb); have BK420 := Az.mk (hbox); have GW420 := Az.mk (geO hg (pbE HB.out)); have GE420 := Az.mk (geO hg (pbE HB.out)); replace HB := Az.mk (pbT (by exact pbE HB.out) hb); have NB389_420 := Az.mk (neO hg (bk BK389.out)); have NB420_389 := Az.mk (neP hg (bk BK389.out)); replace BK389 := Az.mk (bkB (bk BK389.out) hb); have NB390_420 := Az.mk (neO hg (bk BK390.out)); have NB420_390 := Az.mk (neP hg (bk BK390.out)); replace BK390 := Az.mk (bkB (bk BK390.out) hb); have NB419_420 := Az.mk (neO hg (bk BK419.out)); have NB420_419 := Az.mk (neP hg (bk BK419.out)); replace BK419 := Az.mk (bkB (bk BK419.out) hb); clear hb hbox hg; have hnb53 := NB419_389.out; have hnc53 := NB389_419.out; have hnb54 := NB419_390.out; have hnc54 := NB390_419.out; have hnb55 := NB419_420.out; have hnc55 := NB420_419.out; have hcz56 := cells6 BK419.out; obtain ⟨Ao57, co57, eo57⟩ := Kd.V_slice HO408.out; subst eo57) | ((with_reducible refine gate_store (t := 26) (p := 9) rfl ?_); refine store_event (t := 26) (p := 9) (v := ?vo_w58) (w1 := ((((((w52.setCell ⟨gb419, 0, none⟩ (.int .i64 t402)).setCell ⟨gb419, 1, none⟩ (.string t403)).setCell ⟨gb419, 2, none⟩ (.string t404)).setCell ⟨gb419, 3, none⟩ (.int .i64 t405)).setCell ⟨gb419, 4, none⟩ (.slice Ao57 t406.length co57)).setCell ⟨gb419, 5, none⟩ (.int .i64 t409))) ?hg ?ho ?hn ?hr ?_; (case ho => rfl); (case hg => rfl); (case hn => rfl); (case hr => first | (go_simp; done) | (go_simp; rfl)); intro w58 hw; have n0_ : Az (Kd.R k60 60 w58 w.heap.size (fun k_ => some k_ ≠ (v415 : Value).ownBlock) (.slice Ao49 t398.length co49) t398) := ⟨(by rw [hw]; exact (by (with_reducible repeat (first | apply Kd.R_alloc | apply Kd.R_drewN | apply Kd.R_drew)); exact Kd.R_mono (Kd.R_far (p := ⟨gb419, 5, none⟩) (Kd.R_far (p := ⟨gb419, 4, none⟩) (Kd.R_far (p := ⟨gb419, 3, none⟩) (Kd.R_far (p := ⟨gb419, 2, none⟩) (Kd.R_far (p := ⟨gb419, 1, none⟩) (Kd.R_far (p := ⟨gb419, 0, none⟩) (Kd.R_types HO400.out BK419.out (by decide)) (fun _ hk => hk.2) (.int .i64 t402)) (fun _ hk => hk.2) (.string t403)) (fun _ hk => hk.2) (.string t404)) (fun _ hk => hk.2) (.int .i64 t405)) (fun _ hk => hk.2) (.slice Ao57 t406.length co57)) (fun _ hk => hk.2) (.int .i64 t409)) (fun _ hk => hk.1.2)))⟩; have n1_ : Az (Kd.V k60 60 w58 w.heap.size (fun k_ => some k_ ≠ (v415 : Value).ownBlock ∧ k_ ≠ gb389 ∧ k_ ≠ gb390 ∧ k_ ≠ gb419 ∧ k_ ≠ gb420) (.slice Ao57 t406.length co57) t406) := ⟨(by rw [hw]; exact (by (with_reducible repeat (first | apply Kd.V_alloc | apply Kd.V_drewN | apply Kd.V_drew)); exact Kd.V_mono (Kd.V_off (g := gb419) (fun _ hk => hk.2) (Kd.V_mono HO408.out (fun k_ hk => (⟨hk, hk.1.2⟩ : _ ∧ k_ ≠ gb419)))) (fun _ hk => ⟨hk.1.1.1.1, ⟨hk.1.1.1.2.1, ⟨hk.1.1.1.2.2, ⟨hk.1.1.2, hk.1.2⟩⟩⟩⟩)))⟩; have n2_ : Az (Kd.R k60 60 w58 w.heap.size (fun k_ => some k_ ≠ (.slice Ao49 t398.length co49 : Value).ownBlock) v415 t414) := ⟨(by rw [hw]; exact (by (with_reducible repeat (first | apply Kd.R_alloc | apply Kd.R_drewN | apply Kd.R_drew)); exact Kd.R_mono (Kd.R_far (p := ⟨gb419, 5, none⟩) (Kd.R_far (p := ⟨gb419, 4, none⟩) (Kd.R_far (p := ⟨gb419, 3, none⟩) (Kd.R_far (p := ⟨gb419, 2, none⟩) (Kd.R_far (p := ⟨gb419, 1, none⟩) (Kd.R_far (p := ⟨gb419, 0, none⟩) (Kd.R_types HO416.out BK419.out (by decide)) (fun _ hk => hk.2) (.int .i64 t402)) (fun _ hk => hk.2) (.string t403)) (fun _ hk => hk.2) (.string t404)) (fun _ hk => hk.2) (.int .i64 t405)) (fun _ hk => hk.2) (.slice Ao57 t406.length co57)) (fun _ hk => hk.2) (.int .i64 t409)) (fun _ hk => hk.1.2)))⟩; have n3_ : Az (w58.heap[gb389]? = some (.cells #[.int .i64 a0_0, .string a0_1, .string a0_2, .int .i64 a0_3, .slice A0_4 l0_4.length c0_4, .int .i64 a0_5] 26 (0, 0))) := ⟨(by rw [hw]; exact (bf BK389.out))⟩; have n4_ : Az (w58.heap[gb390]? = some (.cells #[.int .i64 a3_0, .string a3_1, .string a3_2, .int .i64 a3_3, .slice A3_4 l3_4.length c3_4, .int .i64 a3_5] 26 (0, 0))) := ⟨(by rw [hw]; exact (bf BK390.out))⟩; have n5_ : Az (w58.heap[gb419]? = some (.cells #[.int .i64 t402, .string t403, .string t404, .int .i64 t405, .slice Ao57 t406.length co57, .int .i64 t409] 26 (0, 0))) := ⟨(by rw [hw]; exact (by refine bk ?_; refine blk_put (cs := #[.int .i64 t402, .string t403, .string t404, .int .i64 t405, .slice Ao57 t406.length co57, .int .i64 0]) ?_ 5 _ rfl; refine bk ?_; refine blk_put (cs := #[.int .i64 t402, .string t403, .string t404, .int .i64 t405, .slice none 0 0, .int .i64 0]) ?_ 4 _ rfl; refine bk ?_; refine blk_put (cs := #[.int .i64 t402, .string t403, .string t404, .int .i64 0, .slice none 0 0, .int .i64 0]) ?_ 3 _ rfl; refine bk ?_; refine blk_put (cs := #[.int .i64 t402, .string t403, .string (⟨#[]⟩ : ByteArray), .int .i64 0, .slice none 0 0, .int .i64 0]) ?_ 2 _ rfl; refine bk ?_; refine blk_put (cs := #[.int .i64 t402, .string (⟨#[]⟩ : ByteArray), .string (⟨#[]⟩ : ByteArray), .int .i64 0, .slice none 0 0, .int .i64 0]) ?_ 1 _ rfl; refine bk ?_; refine blk_put (cs := #[.int .i64 0, .string (⟨#[]⟩ : ByteArray), .string (⟨#[]⟩ : ByteArray), .int .i64 0, .slice none 0 0, .int .i64 0]) ?_ 0 _ rfl; refine bk ?_; exact BK419.out))⟩; have n6_ : Az (w58.heap[gb420]? = some (.cells #[.int .i64 0, .string (⟨#[]⟩ : ByteArray), .string (⟨#[]⟩ : ByteArray), .int .i64 0, .slice none 0 0, .int .i64 0] 26 (0, 0))) := ⟨(by rw [hw]; exact (bf BK420.out))⟩; have n7_ : Az (Below w.heap.size w w58) := ⟨(by rw [hw]; exact (by exact pbE HB.out))⟩; clear hw; clear HO400; clear HO408; clear HO416; clear BK389; clear BK390; clear BK419; clear BK420; clear HB; have HO400 := n0_; have HO408 := n1_; have HO416 := n2_; have BK389 := n3_; have BK390 := n4_; have BK419 := n5_; have BK420 := n6_; have HB := n7_; clear n0_ n1_ n2_ n3_ n4_ n5_ n6_ n7_; have hnb59 := NB420_389.out; have hnc59 := NB389_420.out; have hnb60 := NB420_390.out; have hnc60 := NB390_420.out; have hcz61 := cells6 BK420.out; obtain ⟨Ao62, co62, eo62⟩ := Kd.R_slice HO416.out; subst eo62) | ((with_reducible refine gate_store (t := 26) (p := 10) rfl ?_); refine store_event (t := 26) (p := 10) (v := ?vo_w63) (w1 := ((((((w58.setCell ⟨gb420, 0, none⟩ (.int .i64 t410)).setCell ⟨gb420, 1, none⟩ (.string t411)).setCell ⟨gb420, 2, none⟩ (.string t412)).setCell ⟨gb420, 3, none⟩ (.int .i64 t413)).setCell ⟨gb420, 4, none⟩ (.slice Ao62 t414.length co62)).setCell ⟨gb420, 5, none⟩ (.int .i64 t417))) ?hg ?ho ?hn ?hr ?_; (case ho => rfl); (case hg => rfl); (case hn => rfl); (case hr => first | (go_simp; done) | (go_simp; rfl)); intro w63 hw; have n0_ : Az (Kd.R k60 60 w63 w.heap.size (fun k_ => some k_ ≠ (.slice Ao62 t414.length co62 : Value).ownBlock) (.slice Ao49 t398.length co49) t398) := ⟨(by rw [hw]; exact (by (with_reducible repeat (first | apply Kd.R_alloc | apply Kd.R_drewN | apply Kd.R_drew)); exact Kd.R_mono (Kd.R_far (p := ⟨gb420, 5, none⟩) (Kd.R_far (p := ⟨gb420, 4, none⟩) (Kd.R_far (p := ⟨gb420, 3, none⟩) (Kd.R_far (p := ⟨gb420, 2, none⟩) (Kd.R_far (p := ⟨gb420, 1, none⟩) (Kd.R_far (p := ⟨gb420, 0, none⟩) (Kd.R_types HO400.out BK420.out (by decide)) (fun _ hk => hk.2) (.int .i64 t410)) (fun _ hk => hk.2) (.string t411)) (fun _ hk => hk.2) (.string t412)) (fun _ hk => hk.2) (.int .i64 t413)) (fun _ hk => hk.2) (.slice Ao62 t414.length co62)) (fun _ hk => hk.2) (.int .i64 t417)) (fun _ hk => hk.1)))⟩; have n1_ : Az (Kd.V k60 60 w63 w.heap.size (fun k_ => some k_ ≠ (.slice Ao62 t414.length co62 : Value).ownBlock ∧ k_ ≠ gb389 ∧ k_ ≠ gb390 ∧ k_ ≠ gb419 ∧ k_ ≠ gb420) (.slice Ao57 t406.length co57) t406) := ⟨(by rw [hw]; exact (by (with_reducible repeat (first | apply Kd.V_alloc | apply Kd.V_drewN | apply Kd.V_drew)); exact Kd.V_mono (Kd.V_off (g := gb420) (fun _ hk => hk.2) (Kd.V_mono HO408.out (fun k_ hk => (⟨hk, hk.2.2.2.2⟩ : _ ∧ k_ ≠ gb420)))) (fun _ hk => ⟨hk.1.1, ⟨hk.1.2.1, ⟨hk.1.2.2.1, ⟨hk.1.2.2.2.1, hk.1.2.2.2.2⟩⟩⟩⟩)))⟩; have n2_ : Az (Kd.R k60 60 w63 w.heap.size (fun k_ => some k_ ≠ (.slice Ao49 t398.length co49 : Value).ownBlock) (.slice Ao62 t414.length co62) t414) := ⟨(by rw [hw]; exact (by (with_reducible repeat (first | apply Kd.R_alloc | apply Kd.R_drewN | apply Kd.R_drew)); exact Kd.R_mono (Kd.R_far (p := ⟨gb420, 5, none⟩) (Kd.R_far (p := ⟨gb420, 4, none⟩) (Kd.R_far (p := ⟨gb420, 3, none⟩) (Kd.R_far (p := ⟨gb420, 2, none⟩) (Kd.R_far (p := ⟨gb420, 1, none⟩) (Kd.R_far (p := ⟨gb420, 0, none⟩) (Kd.R_types HO416.out BK420.out (by decide)) (fun _ hk => hk.2) (.int .i64 t410)) (fun _ hk => hk.2) (.string t411)) (fun _ hk => hk.2) (.string t412)) (fun _ hk => hk.2) (.int .i64 t413)) (fun _ hk => hk.2) (.slice Ao62 t414.length co62)) (fun _ hk => hk.2) (.int .i64 t417)) (fun _ hk => hk.1)))⟩; have n3_ : Az (w63.heap[gb389]? = some (.cells #[.int .i64 a0_0, .string a0_1, .string a0_2, .int .i64 a0_3, .slice A0_4 l0_4.length c0_4, .int .i64 a0_5] 26 (0, 0))) := ⟨(by rw [hw]; exact (bf BK389.out))⟩; have n4_ : Az (w63.heap[gb390]? = some (.cells #[.int .i64 a3_0, .string a3_1, .string a3_2, .int .i64 a3_3, .slice A3_4 l3_4.length c3_4, .int .i64 a3_5] 26 (0, 0))) := ⟨(by rw [hw]; exact (bf BK390.out))⟩; have n5_ : Az (w63.heap[gb419]? = some (.cells #[.int .i64 t402, .string t403, .string t404, .int .i64 t405, .slice Ao57 t406.length co57, .int .i64 t409] 26 (0, 0))) := ⟨(by rw [hw]; exact (bf BK419.out))⟩; have n6_ : Az (w63.heap[gb420]? = some (.cells #[.int .i64 t410, .string t411, .string t412, .int .i64 t413, .slice Ao62 t414.length co62, .int .i64 t417] 26 (0, 0))) := ⟨(by rw [hw]; exact (by refine bk ?_; refine blk_put (cs := #[.int .i64 t410, .string t411, .string t412, .int .i64 t413, .slice Ao62 t414.length co62, .int .i64 0]) ?_ 5 _ rfl; refine bk ?_; refine blk_put (cs := #[.int .i64 t410, .string t411, .string t412, .int .i64 t413, .slice none 0 0, .int .i64 0]) ?_ 4 _ rfl; refine bk ?_; refine blk_put (cs := #[.int .i64 t410, .string t411, .string t412, .int .i64 0, .slice none 0 0, .int .i64 0]) ?_ 3 _ rfl; refine bk ?_; refine blk_put (cs := #[.int .i64 t410, .string t411, .string (⟨#[]⟩ : ByteArray), .int .i64 0, .slice none 0 0, .int .i64 0]) ?_ 2 _ rfl; refine bk ?_; refine blk_put (cs := #[.int .i64 t410, .string (⟨#[]⟩ : ByteArray), .string (⟨#[]⟩ : ByteArray), .int .i64 0, .slice none 0 0, .int .i64 0]) ?_ 1 _ rfl; refine bk ?_; refine blk_put (cs := #[.int .i64 0, .string (⟨#[]⟩ : ByteArray), .string (⟨#[]⟩ : ByteArray), .int .i64 0, .slice none 0 0, .int .i64 0]) ?_ 0 _ rfl; refine bk ?_; exact BK420.out))⟩; have n7_ : Az (Below w.heap.size w w63) := ⟨(by rw [hw]; exact (by exact pbE HB.out))⟩; clear hw; clear HO400; clear HO408; clear HO416; clear BK389; clear BK390; clear BK419; clear BK420; clear HB; have HO400 := n0_; have HO408 := n1_; have HO416 := n2_; have BK389 := n3_; have BK390 := n4_; have BK419 := n5_; have BK420 := n6_; have HB := n7_; clear n0_ n1_ n2_ n3_ n4_ n5_ n6_ n7_; have hcz64 := cells6 BK389.out) | ((with_reducible refine gtc (f := 13) rfl ?_); refine goesL_ (some 46) rfl rfl Tryd.func13 (by kernel_rfl) rfl #[.agg #[.int .i64 a0_0, .string a0_1, .string a0_2, .int .i64 a0_3, .slice A0_4 l0_4.length c0_4, .int .i64 a0_5], .string a1, .int .i64 a2] rfl (by (try simp only [List.map_toArray, List.map_cons, List.map_nil]); first | done | rfl | (simp only [List.length_drop, List.length_take]; rfl)) ?_; (with_reducible refine (r06_Split.calls a0_0 a0_1 a0_2 a0_3 (fun k_ => k_ < w.heap.size) _ _ l0_4 a0_5 a1 a2 t421 t422 t423 t424 t425 t428 t429 t430 t431 t432 t433 t436 t437 _ ?side1 ?side2 A30.out).mono ?_); (case side1 => exact hG.below (by exact pbE HB.out)); (case side2 => exact Kd.V_mk HC0_4.out (Kd.F_below (Kd.C_F k60_heap HR0_4.out) (by exact pbE HB.out))); rintro e w65 ⟨v426, v434, rfl, ho0, ho1, hb⟩; refine ⟨_, rfl, ?_⟩; replace HO408 := Az.mk (Kd.V_below (Kd.V_ext HO408.out) hb); have HO427 := Az.mk (Kd.V_lower (Kd.V_mono (ok' := fun k_ => some k_ ≠ (.slice Ao49 t398.length co49 : Value).ownBlock ∧ some k_ ≠ (.slice Ao62 t414.length co62 : Value).ownBlock ∧ k_ ≠ gb389 ∧ k_ ≠ gb390 ∧ k_ ≠ gb419 ∧ k_ ≠ gb420) ho0 (fun k_ hk_ => ⟨Or.elim hk_ (fun hs_ => fun e_ => Nat.not_le.2 hs_ (Kd.R_base HO400.out k_ e_.symm)) (fun hn_ => (Kd.fresh' (Kd.R_lt (Kd.R_ext HO400.out)) k_ hn_)), Or.elim hk_ (fun hs_ => fun e_ => Nat.not_le.2 hs_ (Kd.R_base HO416.out k_ e_.symm)) (fun hn_ => (Kd.fresh' (Kd.R_lt (Kd.R_ext HO416.out)) k_ hn_)), Or.elim hk_ (fun hs_ => fun e_ => Nat.not_le.2 hs_ (by rw [e_]; exact GW389.out)) (fun hn_ => (Kd.freshB (bk BK389.out) k_ hn_)), Or.elim hk_ (fun hs_ => fun e_ => Nat.not_le.2 hs_ (by rw [e_]; exact GW390.out)) (fun hn_ => (Kd.freshB (bk BK390.out) k_ hn_)), Or.elim hk_ (fun hs_ => fun e_ => Nat.not_le.2 hs_ (by rw [e_]; exact GW419.out)) (fun hn_ => (Kd.freshB (bk BK419.out) k_ hn_)), Or.elim hk_ (fun hs_ => fun e_ => Nat.not_le.2 hs_ (by rw [e_]; exact GW420.out)) (fun hn_ => (Kd.freshB (bk BK420.out) k_ hn_))⟩)) (pbZ (by exact pbE HB.out))); have HO435 := Az.mk (Kd.V_lower (Kd.V_mono (ok' := fun k_ => some k_ ≠ (.slice Ao49 t398.length co49 : Value).ownBlock ∧ some k_ ≠ (.slice Ao62 t414.length co62 : Value).ownBlock ∧ k_ ≠ gb389 ∧ k_ ≠ gb390 ∧ k_ ≠ gb419 ∧ k_ ≠ gb420) ho1 (fun k_ hk_ => ⟨Or.elim hk_ (fun hs_ => fun e_ => Nat.not_le.2 hs_ (Kd.R_base HO400.out k_ e_.symm)) (fun hn_ => (Kd.fresh' (Kd.R_lt (Kd.R_ext HO400.out)) k_ hn_)), Or.elim hk_ (fun hs_ => fun e_ => Nat.not_le.2 hs_ (Kd.R_base HO416.out k_ e_.symm)) (fun hn_ => (Kd.fresh' (Kd.R_lt (Kd.R_ext HO416.out)) k_ hn_)), Or.elim hk_ (fun hs_ => fun e_ => Nat.not_le.2 hs_ (by rw [e_]; exact GW389.out)) (fun hn_ => (Kd.freshB (bk BK389.out) k_ hn_)), Or.elim hk_ (fun hs_ => fun e_ => Nat.not_le.2 hs_ (by rw [e_]; exact GW390.out)) (fun hn_ => (Kd.freshB (bk BK390.out) k_ hn_)), Or.elim hk_ (fun hs_ => fun e_ => Nat.not_le.2 hs_ (by rw [e_]; exact GW419.out)) (fun hn_ => (Kd.freshB (bk BK419.out) k_ hn_)), Or.elim hk_ (fun hs_ => fun e_ => Nat.not_le.2 hs_ (by rw [e_]; exact GW420.out)) (fun hn_ => (Kd.freshB (bk BK420.out) k_ hn_))⟩)) (pbZ (by exact pbE HB.out))); replace HO400 := Az.mk (Kd.R_below (Kd.R_ext HO400.out) hb); replace HO416 := Az.mk (Kd.R_below (Kd.R_ext HO416.out) hb); replace BK389 := Az.mk (bkB (bk BK389.out) hb); replace BK390 := Az.mk (bkB (bk BK390.out) hb); replace BK419 := Az.mk (bkB (bk BK419.out) hb); replace BK420 := Az.mk (bkB (bk BK420.out) hb); replace HB := Az.mk (pbT (by exact pbE HB.out) hb); (try clear hb); (try clear hb2); (try clear hk); (try clear hi); (try clear ho0); (try clear ho1)) | ((with_reducible refine gate_dst (N := 12) rfl ?_); (try (refine gate_guard (by rfl) ?_; dsimp only)); refine box_event ?hg (N := 12) ?hd (cs := #[.int .i64 0, .string (⟨#[]⟩ : ByteArray), .string (⟨#[]⟩ : ByteArray), .int .i64 0, .slice none 0 0, .int .i64 0]) (t := 26) ?hr ?_; (case hd => rfl); (case hg => rfl); (case hr => first | (go_simp; done) | (go_simp; rfl)); intro gb438 hg w66 hbox hb; replace HO400 := Az.mk (Kd.R_below (Kd.R_ext HO400.out) hb); replace HO408 := Az.mk (Kd.V_below (Kd.V_elderB (Kd.V_ext HO408.out) gb438 (Nat.le_of_eq hg.symm)) hb); replace HO416 := Az.mk (Kd.R_below (Kd.R_ext HO416.out) hb); replace HO427 := Az.mk (Kd.V_below (Kd.V_elderB (Kd.V_ext HO427.out) gb438 (Nat.le_of_eq hg.symm)) hb); replace HO435 := Az.mk (Kd.V_below (Kd.V_elderB (Kd.V_ext HO435.out) gb438 (Nat.le_of_eq hg.symm)) hb); have BK438 := Az.mk (hbox); have GW438 := Az.mk (geO hg (pbE HB.out)); have GE438 := Az.mk (geO hg (pbE HB.out)); replace HB := Az.mk (pbT (by exact pbE HB.out) hb); have NB389_438 := Az.mk (neO hg (bk BK389.out)); have NB438_389 := Az.mk (neP hg (bk BK389.out)); replace BK389 := Az.mk (bkB (bk BK389.out) hb); have NB390_438 := Az.mk (neO hg (bk BK390.out)); have NB438_390 := Az.mk (neP hg (bk BK390.out)); replace BK390 := Az.mk (bkB (bk BK390.out) hb); have NB419_438 := Az.mk (neO hg (bk BK419.out)); have NB438_419 := Az.mk (neP hg (bk BK419.out)); replace BK419 := Az.mk (bkB (bk BK419.out) hb); have NB420_438 := Az.mk (neO hg (bk BK420.out)); have NB438_420 := Az.mk (neP hg (bk BK420.out)); replace BK420 := Az.mk (bkB (bk BK420.out) hb); clear hb hbox hg) | ((with_reducible refine gate_dst (N := 13) rfl ?_); (try (refine gate_guard (by rfl) ?_; dsimp only)); refine box_event ?hg (N := 13) ?hd (cs := #[.int .i64 0, .string (⟨#[]⟩ : ByteArray), .string (⟨#[]⟩ : ByteArray), .int .i64 0, .slice none 0 0, .int .i64 0]) (t := 26) ?hr ?_; (case hd => rfl); (case hg => rfl); (case hr => first | (go_simp; done) | (go_simp; rfl)); intro gb439 hg w67 hbox hb; replace HO400 := Az.mk (Kd.R_below (Kd.R_ext HO400.out) hb); replace HO408 := Az.mk (Kd.V_below (Kd.V_elderB (Kd.V_ext HO408.out) gb439 (Nat.le_of_eq hg.symm)) hb); replace HO416 := Az.mk (Kd.R_below (Kd.R_ext HO416.out) hb); replace HO427 := Az.mk (Kd.V_below (Kd.V_elderB (Kd.V_ext HO427.out) gb439 (Nat.le_of_eq hg.symm)) hb); replace HO435 := Az.mk (Kd.V_below (Kd.V_elderB (Kd.V_ext HO435.out) gb439 (Nat.le_of_eq hg.symm)) hb); have BK439 := Az.mk (hbox); have GW439 := Az.mk (geO hg (pbE HB.out)); have GE439 := Az.mk (geO hg (pbE HB.out)); replace HB := Az.mk (pbT (by exact pbE HB.out) hb); have NB389_439 := Az.mk (neO hg (bk BK389.out)); have NB439_389 := Az.mk (neP hg (bk BK389.out)); replace BK389 := Az.mk (bkB (bk BK389.out) hb); have NB390_439 := Az.mk (neO hg (bk BK390.out)); have NB439_390 := Az.mk (neP hg (bk BK390.out)); replace BK390 := Az.mk (bkB (bk BK390.out) hb); have NB419_439 := Az.mk (neO hg (bk BK419.out)); have NB439_419 := Az.mk (neP hg (bk BK419.out)); replace BK419 := Az.mk (bkB (bk BK419.out) hb); have NB420_439 := Az.mk (neO hg (bk BK420.out)); have NB439_420 := Az.mk (neP hg (bk BK420.out)); replace BK420 := Az.mk (bkB (bk BK420.out) hb); have NB438_439 := Az.mk (neO hg (bk BK438.out)); have NB439_438 := Az.mk (neP hg (bk BK438.out)); replace BK438 := Az.mk (bkB (bk BK438.out) hb); clear hb hbox hg; have hnb68 := NB438_389.out; have hnc68 := NB389_438.out; have hnb69 := NB438_390.out; have hnc69 := NB390_438.out; have hnb70 := NB438_419.out; have hnc70 := NB419_438.out; have hnb71 := NB438_420.out; have hnc71 := NB420_438.out; have hnb72 := NB438_439.out; have hnc72 := NB439_438.out; have hcz73 := cells6 BK438.out; obtain ⟨Ao74, co74, eo74⟩ := Kd.V_slice HO427.out; subst eo74; have hnb75 := NB439_389.out; have hnc75 := NB389_439.out; have hnb76 := NB439_390.out; have hnc76 := NB390_439.out; have hnb77 := NB439_419.out; have hnc77 := NB419_439.out; have hnb78 := NB439_420.out; have hnc78 := NB420_439.out; have hcz79 := cells6 BK439.out; obtain ⟨Ao80, co80, eo80⟩ := Kd.V_slice HO435.out; subst eo80))
         have n0_ : Az (Kd.R k60 60 ((((((((((((w67.setCell ⟨gb438, 0, none⟩ (.int .i64 t421)).setCell ⟨gb438, 1, none⟩ (.string t422)).setCell ⟨gb438, 2, none⟩ (.string t423)).setCell ⟨gb438, 3, none⟩ (.int .i64 t424)).setCell ⟨gb438, 4, none⟩ (.slice Ao74 t425.length co74)).setCell ⟨gb438, 5, none⟩ (.int .i64 t428)).setCell ⟨gb439, 0, none⟩ (.int .i64 t429)).setCell ⟨gb439, 1, none⟩ (.string t430)).setCell ⟨gb439, 2, none⟩ (.string t431)).setCell ⟨gb439, 3, none⟩ (.int .i64 t432)).setCell ⟨gb439, 4, none⟩ (.slice Ao80 t433.length co80)).setCell ⟨gb439, 5, none⟩ (.int .i64 t436)) w.heap.size (fun k_ => some k_ ≠ (.slice Ao62 t414.length co62 : Value).ownBlock) (.slice Ao49 t398.length co49) t398) := ⟨by (with_reducible repeat (first | apply Kd.R_alloc | apply Kd.R_drewN | apply Kd.R_drew)); exact Kd.R_mono (Kd.R_far (p := ⟨gb439, 5, none⟩) (Kd.R_far (p := ⟨gb439, 4, none⟩) (Kd.R_far (p := ⟨gb439, 3, none⟩) (Kd.R_far (p := ⟨gb439, 2, none⟩) (Kd.R_far (p := ⟨gb439, 1, none⟩) (Kd.R_far (p := ⟨gb439, 0, none⟩) (Kd.R_far (p := ⟨gb438, 5, none⟩) (Kd.R_far (p := ⟨gb438, 4, none⟩) (Kd.R_far (p := ⟨gb438, 3, none⟩) (Kd.R_far (p := ⟨gb438, 2, none⟩) (Kd.R_far (p := ⟨gb438, 1, none⟩) (Kd.R_far (p := ⟨gb438, 0, none⟩) (Kd.R_types (Kd.R_types HO400.out BK438.out (by decide)) BK439.out (by decide)) (fun _ hk => hk.1.2) (.int .i64 t421)) (fun _ hk => hk.1.2) (.string t422)) (fun _ hk => hk.1.2) (.string t423)) (fun _ hk => hk.1.2) (.int .i64 t424)) (fun _ hk => hk.1.2) (.slice Ao74 t425.length co74)) (fun _ hk => hk.1.2) (.int .i64 t428)) (fun _ hk => hk.2) (.int .i64 t429)) (fun _ hk => hk.2) (.string t430)) (fun _ hk => hk.2) (.string t431)) (fun _ hk => hk.2) (.int .i64 t432)) (fun _ hk => hk.2) (.slice Ao80 t433.length co80)) (fun _ hk => hk.2) (.int .i64 t436)) (fun _ hk => hk.1.1)⟩
         have n1_ : Az (Kd.V k60 60 ((((((((((((w67.setCell ⟨gb438, 0, none⟩ (.int .i64 t421)).setCell ⟨gb438, 1, none⟩ (.string t422)).setCell ⟨gb438, 2, none⟩ (.string t423)).setCell ⟨gb438, 3, none⟩ (.int .i64 t424)).setCell ⟨gb438, 4, none⟩ (.slice Ao74 t425.length co74)).setCell ⟨gb438, 5, none⟩ (.int .i64 t428)).setCell ⟨gb439, 0, none⟩ (.int .i64 t429)).setCell ⟨gb439, 1, none⟩ (.string t430)).setCell ⟨gb439, 2, none⟩ (.string t431)).setCell ⟨gb439, 3, none⟩ (.int .i64 t432)).setCell ⟨gb439, 4, none⟩ (.slice Ao80 t433.length co80)).setCell ⟨gb439, 5, none⟩ (.int .i64 t436)) w.heap.size (fun k_ => some k_ ≠ (.slice Ao62 t414.length co62 : Value).ownBlock ∧ k_ ≠ gb389 ∧ k_ ≠ gb390 ∧ k_ ≠ gb419 ∧ k_ ≠ gb420 ∧ k_ ≠ gb438 ∧ k_ ≠ gb439) (.slice Ao57 t406.length co57) t406) := ⟨by (with_reducible repeat (first | apply Kd.V_alloc | apply Kd.V_drewN | apply Kd.V_drew)); exact Kd.V_mono (Kd.V_off (g := gb439) (fun _ hk => hk.2) (Kd.V_off (g := gb438) (fun _ hk => hk.1.2) (Kd.V_mono (Kd.V_mono HO408.out (fun k_ hk => (⟨hk, hk.1.2⟩ : _ ∧ k_ ≠ gb438))) (fun k_ hk => (⟨hk, hk.1.2⟩ : _ ∧ k_ ≠ gb439))))) (fun _ hk => ⟨hk.1.1.1.1.1, ⟨hk.1.1.1.1.2.1, ⟨hk.1.1.1.1.2.2.1, ⟨hk.1.1.1.1.2.2.2.1, ⟨hk.1.1.1.1.2.2.2.2, ⟨hk.1.1.1.2, hk.1.1.2⟩⟩⟩⟩⟩⟩)⟩
         have n2_ : Az (Kd.R k60 60 ((((((((((((w67.setCell ⟨gb438, 0, none⟩ (.int .i64 t421)).setCell ⟨gb438, 1, none⟩ (.string t422)).setCell ⟨gb438, 2, none⟩ (.string t423)).setCell ⟨gb438, 3, none⟩ (.int .i64 t424)).setCell ⟨gb438, 4, none⟩ (.slice Ao74 t425.length co74)).setCell ⟨gb438, 5, none⟩ (.int .i64 t428)).setCell ⟨gb439, 0, none⟩ (.int .i64 t429)).setCell ⟨gb439, 1, none⟩ (.string t430)).setCell ⟨gb439, 2, none⟩ (.string t431)).setCell ⟨gb439, 3, none⟩ (.int .i64 t432)).setCell ⟨gb439, 4, none⟩ (.slice Ao80 t433.length co80)).setCell ⟨gb439, 5, none⟩ (.int .i64 t436)) w.heap.size (fun k_ => some k_ ≠ (.slice Ao49 t398.length co49 : Value).ownBlock) (.slice Ao62 t414.length co62) t414) := ⟨by (with_reducible repeat (first | apply Kd.R_alloc | apply Kd.R_drewN | apply Kd.R_drew)); exact Kd.R_mono (Kd.R_far (p := ⟨gb439, 5, none⟩) (Kd.R_far (p := ⟨gb439, 4, none⟩) (Kd.R_far (p := ⟨gb439, 3, none⟩) (Kd.R_far (p := ⟨gb439, 2, none⟩) (Kd.R_far (p := ⟨gb439, 1, none⟩) (Kd.R_far (p := ⟨gb439, 0, none⟩) (Kd.R_far (p := ⟨gb438, 5, none⟩) (Kd.R_far (p := ⟨gb438, 4, none⟩) (Kd.R_far (p := ⟨gb438, 3, none⟩) (Kd.R_far (p := ⟨gb438, 2, none⟩) (Kd.R_far (p := ⟨gb438, 1, none⟩) (Kd.R_far (p := ⟨gb438, 0, none⟩) (Kd.R_types (Kd.R_types HO416.out BK438.out (by decide)) BK439.out (by decide)) (fun _ hk => hk.1.2) (.int .i64 t421)) (fun _ hk => hk.1.2) (.string t422)) (fun _ hk => hk.1.2) (.string t423)) (fun _ hk => hk.1.2) (.int .i64 t424)) (fun _ hk => hk.1.2) (.slice Ao74 t425.length co74)) (fun _ hk => hk.1.2) (.int .i64 t428)) (fun _ hk => hk.2) (.int .i64 t429)) (fun _ hk => hk.2) (.string t430)) (fun _ hk => hk.2) (.string t431)) (fun _ hk => hk.2) (.int .i64 t432)) (fun _ hk => hk.2) (.slice Ao80 t433.length co80)) (fun _ hk => hk.2) (.int .i64 t436)) (fun _ hk => hk.1.1)⟩
         have n3_ : Az (Kd.V k60 60 ((((((((((((w67.setCell ⟨gb438, 0, none⟩ (.int .i64 t421)).setCell ⟨gb438, 1, none⟩ (.string t422)).setCell ⟨gb438, 2, none⟩ (.string t423)).setCell ⟨gb438, 3, none⟩ (.int .i64 t424)).setCell ⟨gb438, 4, none⟩ (.slice Ao74 t425.length co74)).setCell ⟨gb438, 5, none⟩ (.int .i64 t428)).setCell ⟨gb439, 0, none⟩ (.int .i64 t429)).setCell ⟨gb439, 1, none⟩ (.string t430)).setCell ⟨gb439, 2, none⟩ (.string t431)).setCell ⟨gb439, 3, none⟩ (.int .i64 t432)).setCell ⟨gb439, 4, none⟩ (.slice Ao80 t433.length co80)).setCell ⟨gb439, 5, none⟩ (.int .i64 t436)) w.heap.size (fun k_ => some k_ ≠ (.slice Ao49 t398.length co49 : Value).ownBlock ∧ some k_ ≠ (.slice Ao62 t414.length co62 : Value).ownBlock ∧ k_ ≠ gb389 ∧ k_ ≠ gb390 ∧ k_ ≠ gb419 ∧ k_ ≠ gb420 ∧ k_ ≠ gb438 ∧ k_ ≠ gb439) (.slice Ao74 t425.length co74) t425) := ⟨by (with_reducible repeat (first | apply Kd.V_alloc | apply Kd.V_drewN | apply Kd.V_drew)); exact Kd.V_mono (Kd.V_off (g := gb439) (fun _ hk => hk.2) (Kd.V_off (g := gb438) (fun _ hk => hk.1.2) (Kd.V_mono (Kd.V_mono HO427.out (fun k_ hk => (⟨hk, hk.1.2⟩ : _ ∧ k_ ≠ gb438))) (fun k_ hk => (⟨hk, hk.1.2⟩ : _ ∧ k_ ≠ gb439))))) (fun _ hk => ⟨hk.1.1.1.1.1, ⟨hk.1.1.1.1.2.1, ⟨hk.1.1.1.1.2.2.1, ⟨hk.1.1.1.1.2.2.2.1, ⟨hk.1.1.1.1.2.2.2.2.1, ⟨hk.1.1.1.1.2.2.2.2.2, ⟨hk.1.1.1.2, hk.1.1.2⟩⟩⟩⟩⟩⟩⟩)⟩
         have n4_ : Az (Kd.V k60 60 ((((((((((((w67.setCell ⟨gb438, 0, none⟩ (.int .i64 t421)).setCell ⟨gb438, 1, none⟩ (.string t422)).setCell ⟨gb438, 2, none⟩ (.string t423)).setCell ⟨gb438, 3, none⟩ (.int .i64 t424)).setCell ⟨gb438, 4, none⟩ (.slice Ao74 t425.length co74)).setCell ⟨gb438, 5, none⟩ (.int .i64 t428)).setCell ⟨gb439, 0, none⟩ (.int .i64 t429)).setCell ⟨gb439, 1, none⟩ (.string t430)).setCell ⟨gb439, 2, none⟩ (.string t431)).setCell ⟨gb439, 3, none⟩ (.int .i64 t432)).setCell ⟨gb439, 4, none⟩ (.slice Ao80 t433.length co80)).setCell ⟨gb439, 5, none⟩ (.int .i64 t436)) w.heap.size (fun k_ => some k_ ≠ (.slice Ao49 t398.length co49 : Value).ownBlock ∧ some k_ ≠ (.slice Ao62 t414.length co62 : Value).ownBlock ∧ k_ ≠ gb389 ∧ k_ ≠ gb390 ∧ k_ ≠ gb419 ∧ k_ ≠ gb420 ∧ k_ ≠ gb438 ∧ k_ ≠ gb439) (.slice Ao80 t433.length co80) t433) := ⟨by (with_reducible repeat (first | apply Kd.V_alloc | apply Kd.V_drewN | apply Kd.V_drew)); exact Kd.V_mono (Kd.V_off (g := gb439) (fun _ hk => hk.2) (Kd.V_off (g := gb438) (fun _ hk => hk.1.2) (Kd.V_mono (Kd.V_mono HO435.out (fun k_ hk => (⟨hk, hk.1.2⟩ : _ ∧ k_ ≠ gb438))) (fun k_ hk => (⟨hk, hk.1.2⟩ : _ ∧ k_ ≠ gb439))))) (fun _ hk => ⟨hk.1.1.1.1.1, ⟨hk.1.1.1.1.2.1, ⟨hk.1.1.1.1.2.2.1, ⟨hk.1.1.1.1.2.2.2.1, ⟨hk.1.1.1.1.2.2.2.2.1, ⟨hk.1.1.1.1.2.2.2.2.2, ⟨hk.1.1.1.2, hk.1.1.2⟩⟩⟩⟩⟩⟩⟩)⟩
         have n5_ : Az (((((((((((((w67.setCell ⟨gb438, 0, none⟩ (.int .i64 t421)).setCell ⟨gb438, 1, none⟩ (.string t422)).setCell ⟨gb438, 2, none⟩ (.string t423)).setCell ⟨gb438, 3, none⟩ (.int .i64 t424)).setCell ⟨gb438, 4, none⟩ (.slice Ao74 t425.length co74)).setCell ⟨gb438, 5, none⟩ (.int .i64 t428)).setCell ⟨gb439, 0, none⟩ (.int .i64 t429)).setCell ⟨gb439, 1, none⟩ (.string t430)).setCell ⟨gb439, 2, none⟩ (.string t431)).setCell ⟨gb439, 3, none⟩ (.int .i64 t432)).setCell ⟨gb439, 4, none⟩ (.slice Ao80 t433.length co80)).setCell ⟨gb439, 5, none⟩ (.int .i64 t436)).heap[gb389]? = some (.cells #[.int .i64 a0_0, .string a0_1, .string a0_2, .int .i64 a0_3, .slice A0_4 l0_4.length c0_4, .int .i64 a0_5] 26 (0, 0))) := ⟨by exact bf BK389.out⟩
         have n6_ : Az (((((((((((((w67.setCell ⟨gb438, 0, none⟩ (.int .i64 t421)).setCell ⟨gb438, 1, none⟩ (.string t422)).setCell ⟨gb438, 2, none⟩ (.string t423)).setCell ⟨gb438, 3, none⟩ (.int .i64 t424)).setCell ⟨gb438, 4, none⟩ (.slice Ao74 t425.length co74)).setCell ⟨gb438, 5, none⟩ (.int .i64 t428)).setCell ⟨gb439, 0, none⟩ (.int .i64 t429)).setCell ⟨gb439, 1, none⟩ (.string t430)).setCell ⟨gb439, 2, none⟩ (.string t431)).setCell ⟨gb439, 3, none⟩ (.int .i64 t432)).setCell ⟨gb439, 4, none⟩ (.slice Ao80 t433.length co80)).setCell ⟨gb439, 5, none⟩ (.int .i64 t436)).heap[gb390]? = some (.cells #[.int .i64 a3_0, .string a3_1, .string a3_2, .int .i64 a3_3, .slice A3_4 l3_4.length c3_4, .int .i64 a3_5] 26 (0, 0))) := ⟨by exact bf BK390.out⟩
         have n7_ : Az (((((((((((((w67.setCell ⟨gb438, 0, none⟩ (.int .i64 t421)).setCell ⟨gb438, 1, none⟩ (.string t422)).setCell ⟨gb438, 2, none⟩ (.string t423)).setCell ⟨gb438, 3, none⟩ (.int .i64 t424)).setCell ⟨gb438, 4, none⟩ (.slice Ao74 t425.length co74)).setCell ⟨gb438, 5, none⟩ (.int .i64 t428)).setCell ⟨gb439, 0, none⟩ (.int .i64 t429)).setCell ⟨gb439, 1, none⟩ (.string t430)).setCell ⟨gb439, 2, none⟩ (.string t431)).setCell ⟨gb439, 3, none⟩ (.int .i64 t432)).setCell ⟨gb439, 4, none⟩ (.slice Ao80 t433.length co80)).setCell ⟨gb439, 5, none⟩ (.int .i64 t436)).heap[gb419]? = some (.cells #[.int .i64 t402, .string t403, .string t404, .int .i64 t405, .slice Ao57 t406.length co57, .int .i64 t409] 26 (0, 0))) := ⟨by exact bf BK419.out⟩
         have n8_ : Az (((((((((((((w67.setCell ⟨gb438, 0, none⟩ (.int .i64 t421)).setCell ⟨gb438, 1, none⟩ (.string t422)).setCell ⟨gb438, 2, none⟩ (.string t423)).setCell ⟨gb438, 3, none⟩ (.int .i64 t424)).setCell ⟨gb438, 4, none⟩ (.slice Ao74 t425.length co74)).setCell ⟨gb438, 5, none⟩ (.int .i64 t428)).setCell ⟨gb439, 0, none⟩ (.int .i64 t429)).setCell ⟨gb439, 1, none⟩ (.string t430)).setCell ⟨gb439, 2, none⟩ (.string t431)).setCell ⟨gb439, 3, none⟩ (.int .i64 t432)).setCell ⟨gb439, 4, none⟩ (.slice Ao80 t433.length co80)).setCell ⟨gb439, 5, none⟩ (.int .i64 t436)).heap[gb420]? = some (.cells #[.int .i64 t410, .string t411, .string t412, .int .i64 t413, .slice Ao62 t414.length co62, .int .i64 t417] 26 (0, 0))) := ⟨by exact bf BK420.out⟩
         have n9_ : Az (((((((((((((w67.setCell ⟨gb438, 0, none⟩ (.int .i64 t421)).setCell ⟨gb438, 1, none⟩ (.string t422)).setCell ⟨gb438, 2, none⟩ (.string t423)).setCell ⟨gb438, 3, none⟩ (.int .i64 t424)).setCell ⟨gb438, 4, none⟩ (.slice Ao74 t425.length co74)).setCell ⟨gb438, 5, none⟩ (.int .i64 t428)).setCell ⟨gb439, 0, none⟩ (.int .i64 t429)).setCell ⟨gb439, 1, none⟩ (.string t430)).setCell ⟨gb439, 2, none⟩ (.string t431)).setCell ⟨gb439, 3, none⟩ (.int .i64 t432)).setCell ⟨gb439, 4, none⟩ (.slice Ao80 t433.length co80)).setCell ⟨gb439, 5, none⟩ (.int .i64 t436)).heap[gb438]? = some (.cells #[.int .i64 t421, .string t422, .string t423, .int .i64 t424, .slice Ao74 t425.length co74, .int .i64 t428] 26 (0, 0))) := ⟨by refine bk ?_; refine blk_far ?_ NB438_439.out _; refine bk ?_; refine blk_far ?_ NB438_439.out _; refine bk ?_; refine blk_far ?_ NB438_439.out _; refine bk ?_; refine blk_far ?_ NB438_439.out _; refine bk ?_; refine blk_far ?_ NB438_439.out _; refine bk ?_; refine blk_far ?_ NB438_439.out _; refine bk ?_; refine blk_put (cs := #[.int .i64 t421, .string t422, .string t423, .int .i64 t424, .slice Ao74 t425.length co74, .int .i64 0]) ?_ 5 _ rfl; refine bk ?_; refine blk_put (cs := #[.int .i64 t421, .string t422, .string t423, .int .i64 t424, .slice none 0 0, .int .i64 0]) ?_ 4 _ rfl; refine bk ?_; refine blk_put (cs := #[.int .i64 t421, .string t422, .string t423, .int .i64 0, .slice none 0 0, .int .i64 0]) ?_ 3 _ rfl; refine bk ?_; refine blk_put (cs := #[.int .i64 t421, .string t422, .string (⟨#[]⟩ : ByteArray), .int .i64 0, .slice none 0 0, .int .i64 0]) ?_ 2 _ rfl; refine bk ?_; refine blk_put (cs := #[.int .i64 t421, .string (⟨#[]⟩ : ByteArray), .string (⟨#[]⟩ : ByteArray), .int .i64 0, .slice none 0 0, .int .i64 0]) ?_ 1 _ rfl; refine bk ?_; refine blk_put (cs := #[.int .i64 0, .string (⟨#[]⟩ : ByteArray), .string (⟨#[]⟩ : ByteArray), .int .i64 0, .slice none 0 0, .int .i64 0]) ?_ 0 _ rfl; refine bk ?_; exact BK438.out⟩
         have n10_ : Az (((((((((((((w67.setCell ⟨gb438, 0, none⟩ (.int .i64 t421)).setCell ⟨gb438, 1, none⟩ (.string t422)).setCell ⟨gb438, 2, none⟩ (.string t423)).setCell ⟨gb438, 3, none⟩ (.int .i64 t424)).setCell ⟨gb438, 4, none⟩ (.slice Ao74 t425.length co74)).setCell ⟨gb438, 5, none⟩ (.int .i64 t428)).setCell ⟨gb439, 0, none⟩ (.int .i64 t429)).setCell ⟨gb439, 1, none⟩ (.string t430)).setCell ⟨gb439, 2, none⟩ (.string t431)).setCell ⟨gb439, 3, none⟩ (.int .i64 t432)).setCell ⟨gb439, 4, none⟩ (.slice Ao80 t433.length co80)).setCell ⟨gb439, 5, none⟩ (.int .i64 t436)).heap[gb439]? = some (.cells #[.int .i64 t429, .string t430, .string t431, .int .i64 t432, .slice Ao80 t433.length co80, .int .i64 t436] 26 (0, 0))) := ⟨by refine bk ?_; refine blk_put (cs := #[.int .i64 t429, .string t430, .string t431, .int .i64 t432, .slice Ao80 t433.length co80, .int .i64 0]) ?_ 5 _ rfl; refine bk ?_; refine blk_put (cs := #[.int .i64 t429, .string t430, .string t431, .int .i64 t432, .slice none 0 0, .int .i64 0]) ?_ 4 _ rfl; refine bk ?_; refine blk_put (cs := #[.int .i64 t429, .string t430, .string t431, .int .i64 0, .slice none 0 0, .int .i64 0]) ?_ 3 _ rfl; refine bk ?_; refine blk_put (cs := #[.int .i64 t429, .string t430, .string (⟨#[]⟩ : ByteArray), .int .i64 0, .slice none 0 0, .int .i64 0]) ?_ 2 _ rfl; refine bk ?_; refine blk_put (cs := #[.int .i64 t429, .string (⟨#[]⟩ : ByteArray), .string (⟨#[]⟩ : ByteArray), .int .i64 0, .slice none 0 0, .int .i64 0]) ?_ 1 _ rfl; refine bk ?_; refine blk_put (cs := #[.int .i64 0, .string (⟨#[]⟩ : ByteArray), .string (⟨#[]⟩ : ByteArray), .int .i64 0, .slice none 0 0, .int .i64 0]) ?_ 0 _ rfl; exact bf BK439.out⟩
         have n11_ : Az (Below w.heap.size w ((((((((((((w67.setCell ⟨gb438, 0, none⟩ (.int .i64 t421)).setCell ⟨gb438, 1, none⟩ (.string t422)).setCell ⟨gb438, 2, none⟩ (.string t423)).setCell ⟨gb438, 3, none⟩ (.int .i64 t424)).setCell ⟨gb438, 4, none⟩ (.slice Ao74 t425.length co74)).setCell ⟨gb438, 5, none⟩ (.int .i64 t428)).setCell ⟨gb439, 0, none⟩ (.int .i64 t429)).setCell ⟨gb439, 1, none⟩ (.string t430)).setCell ⟨gb439, 2, none⟩ (.string t431)).setCell ⟨gb439, 3, none⟩ (.int .i64 t432)).setCell ⟨gb439, 4, none⟩ (.slice Ao80 t433.length co80)).setCell ⟨gb439, 5, none⟩ (.int .i64 t436))) := ⟨by exact pbE HB.out⟩
         (try clear HO400)
         (try clear HO408)
         (try clear HO416)
         (try clear HO427)
         (try clear HO435)
         (try clear BK389)
         (try clear BK390)
         (try clear BK419)
         (try clear BK420)
         (try clear BK438)
         (try clear BK439)
         (try clear HB)
         generalize ((((((((((((w67.setCell ⟨gb438, 0, none⟩ (.int .i64 t421)).setCell ⟨gb438, 1, none⟩ (.string t422)).setCell ⟨gb438, 2, none⟩ (.string t423)).setCell ⟨gb438, 3, none⟩ (.int .i64 t424)).setCell ⟨gb438, 4, none⟩ (.slice Ao74 t425.length co74)).setCell ⟨gb438, 5, none⟩ (.int .i64 t428)).setCell ⟨gb439, 0, none⟩ (.int .i64 t429)).setCell ⟨gb439, 1, none⟩ (.string t430)).setCell ⟨gb439, 2, none⟩ (.string t431)).setCell ⟨gb439, 3, none⟩ (.int .i64 t432)).setCell ⟨gb439, 4, none⟩ (.slice Ao80 t433.length co80)).setCell ⟨gb439, 5, none⟩ (.int .i64 t436)) = w81 at n0_ n1_ n2_ n3_ n4_ n5_ n6_ n7_ n8_ n9_ n10_ n11_ ⊢
         have HO400 := n0_
         have HO408 := n1_
         have HO416 := n2_
         have HO427 := n3_
         have HO435 := n4_
         have BK389 := n5_
         have BK390 := n6_
         have BK419 := n7_
         have BK420 := n8_
         have BK438 := n9_
         have BK439 := n10_
         have HB := n11_
         clear n0_ n1_ n2_ n3_ n4_ n5_ n6_ n7_ n8_ n9_ n10_ n11_
         replace HO400 := Az.mk (Kd.R_drew HO400.out)
         replace HO408 := Az.mk (Kd.V_drew HO408.out)
         replace HO416 := Az.mk (Kd.R_drew HO416.out)
         replace HO427 := Az.mk (Kd.V_drew HO427.out)
         replace HO435 := Az.mk (Kd.V_drew HO435.out)
         replace BK389 := Az.mk (bkD BK389.out)
         replace BK390 := Az.mk (bkD BK390.out)
         replace BK419 := Az.mk (bkD BK419.out)
         replace BK420 := Az.mk (bkD BK420.out)
         replace BK438 := Az.mk (bkD BK438.out)
         replace BK439 := Az.mk (bkD BK439.out)
         replace HB := Az.mk (pb1 HB.out)
         refine start_ (n := 11) (S := fun w' => w'.cell? ⟨gb389, 0, none⟩ = some (.int .i64 a0_0) ∧ w'.cell? ⟨gb389, 1, none⟩ = some (.string a0_1) ∧ w'.cell? ⟨gb389, 2, none⟩ = some (.string a0_2) ∧ w'.cell? ⟨gb389, 3, none⟩ = some (.int .i64 a0_3) ∧ w'.cell? ⟨gb389, 4, none⟩ = some (.slice A0_4 l0_4.length c0_4) ∧ w'.cell? ⟨gb389, 5, none⟩ = some (.int .i64 a0_5) ∧ w'.cell? ⟨gb390, 0, none⟩ = some (.int .i64 a3_0) ∧ w'.cell? ⟨gb390, 1, none⟩ = some (.string a3_1) ∧ w'.cell? ⟨gb390, 2, none⟩ = some (.string a3_2) ∧ w'.cell? ⟨gb390, 3, none⟩ = some (.int .i64 a3_3) ∧ w'.cell? ⟨gb390, 4, none⟩ = some (.slice A3_4 l3_4.length c3_4) ∧ w'.cell? ⟨gb390, 5, none⟩ = some (.int .i64 a3_5)) (ds := []) #[false, false, false, false, false, false, false, false, false, false, false] (by kernel_rfl) rfl rfl ⟨(bkC BK389.out 0).trans rfl, (bkC BK389.out 1).trans rfl, (bkC BK389.out 2).trans rfl, (bkC BK389.out 3).trans rfl, (bkC BK389.out 4).trans rfl, (bkC BK389.out 5).trans rfl, (bkC BK390.out 0).trans rfl, (bkC BK390.out 1).trans rfl, (bkC BK390.out 2).trans rfl, (bkC BK390.out 3).trans rfl, (bkC BK390.out 4).trans rfl, (bkC BK390.out 5).trans rfl⟩ (fun hHeld => ?_); refine with_tabW l06_DescSplits.tab5 l06_DescSplits.bits5 (fun HT_ HW_ => ?_)
         generalize w81.drew = w82 at HO400 HO408 HO416 HO427 HO435 BK389 BK390 BK419 BK420 BK438 BK439 HB hHeld ⊢
         refine take_ (i := 0) (N := some 51) (v := ?_) (a' := ?_) #[true, false, false, false, false, false, false, false, false, false, false] rfl rfl (take_ofW HT_.out HW_.out (by kernel_rfl)) (fun _ _ _ h => h) (Or.inl ⟨by rfl, ?_⟩) hHeld ?_ ?_
         rotate_left
         ·rintro w' ⟨s0, s1, s2, s3, s4, s5, s6, s7, s8, s9, s10, s11⟩
          go_simp
          with_reducible rfl
         rotate_left
         ·simp only [Act.put, List.setIfInBounds_toArray, List.set_cons_zero, List.set_cons_succ, i64_w, i32_w]
          rfl
         refine take_ (i := 2) (N := some 53) (v := ?_) (a' := ?_) #[true, false, true, false, false, false, false, false, false, false, false] rfl rfl (take_ofW HT_.out HW_.out (by kernel_rfl)) (fun _ _ _ h => h) (Or.inl ⟨by rfl, ?_⟩) hHeld ?_ ?_
         rotate_left
         ·rintro w' ⟨s0, s1, s2, s3, s4, s5, s6, s7, s8, s9, s10, s11⟩
          go_simp
          with_reducible rfl
         rotate_left
         ·simp only [Act.put, List.setIfInBounds_toArray, List.set_cons_zero, List.set_cons_succ, i64_w, i32_w]
          rfl
         refine join_ (σ := Value × Value × Value × Nat) 2 #[true, true, true, true, true, true, true, true, true, false, false] (fun s_ => [(52, .agg #[.int .i64 t440, .string t441, .string t442, .int .i64 t443, s_.1, .int .i64 t447]), (54, .agg #[.int .i64 t448, .string t449, .string t450, .int .i64 t451, s_.2.1, .int .i64 t455]), (55, .tuple #[.agg #[.int .i64 t456, .string t457, .string t458, .int .i64 t459, s_.2.2.1, .int .i64 t463], .int .i64 t464]), (15, .pointer (some ⟨s_.2.2.2, 0, none⟩)), (50, .tuple #[.agg #[.int .i64 t456, .string t457, .string t458, .int .i64 t459, s_.2.2.1, .int .i64 t463], .int .i64 t464]), (56, .agg #[.int .i64 t456, .string t457, .string t458, .int .i64 t459, s_.2.2.1, .int .i64 t463]), (57, .int .i64 t464)]) (fun s_ w' => (w'.cell? ⟨gb389, 0, none⟩ = some (.int .i64 a0_0) ∧ w'.cell? ⟨gb389, 1, none⟩ = some (.string a0_1) ∧ w'.cell? ⟨gb389, 2, none⟩ = some (.string a0_2) ∧ w'.cell? ⟨gb389, 3, none⟩ = some (.int .i64 a0_3) ∧ w'.cell? ⟨gb389, 4, none⟩ = some (.slice A0_4 l0_4.length c0_4) ∧ w'.cell? ⟨gb389, 5, none⟩ = some (.int .i64 a0_5) ∧ w'.cell? ⟨gb390, 0, none⟩ = some (.int .i64 a3_0) ∧ w'.cell? ⟨gb390, 1, none⟩ = some (.string a3_1) ∧ w'.cell? ⟨gb390, 2, none⟩ = some (.string a3_2) ∧ w'.cell? ⟨gb390, 3, none⟩ = some (.int .i64 a3_3) ∧ w'.cell? ⟨gb390, 4, none⟩ = some (.slice A3_4 l3_4.length c3_4) ∧ w'.cell? ⟨gb390, 5, none⟩ = some (.int .i64 a3_5)) ∧ (Kd.R k60 60 w' w.heap.size (fun k_ => some k_ ≠ (.slice Ao62 t414.length co62 : Value).ownBlock ∧ some k_ ≠ (s_.1 : Value).ownBlock ∧ some k_ ≠ (s_.2.1 : Value).ownBlock) (.slice Ao49 t398.length co49) t398) ∧ (Kd.V k60 60 w' w.heap.size (fun k_ => some k_ ≠ (.slice Ao62 t414.length co62 : Value).ownBlock ∧ some k_ ≠ (s_.1 : Value).ownBlock ∧ some k_ ≠ (s_.2.1 : Value).ownBlock ∧ k_ ≠ gb389 ∧ k_ ≠ gb390 ∧ k_ ≠ gb419 ∧ k_ ≠ gb420 ∧ k_ ≠ gb438 ∧ k_ ≠ gb439 ∧ k_ ≠ s_.2.2.2) (.slice Ao57 t406.length co57) t406) ∧ (Kd.R k60 60 w' w.heap.size (fun k_ => some k_ ≠ (.slice Ao49 t398.length co49 : Value).ownBlock ∧ some k_ ≠ (s_.1 : Value).ownBlock ∧ some k_ ≠ (s_.2.1 : Value).ownBlock) (.slice Ao62 t414.length co62) t414) ∧ (Kd.V k60 60 w' w.heap.size (fun k_ => some k_ ≠ (.slice Ao49 t398.length co49 : Value).ownBlock ∧ some k_ ≠ (.slice Ao62 t414.length co62 : Value).ownBlock ∧ some k_ ≠ (s_.1 : Value).ownBlock ∧ some k_ ≠ (s_.2.1 : Value).ownBlock ∧ k_ ≠ gb389 ∧ k_ ≠ gb390 ∧ k_ ≠ gb419 ∧ k_ ≠ gb420 ∧ k_ ≠ gb438 ∧ k_ ≠ gb439 ∧ k_ ≠ s_.2.2.2) (.slice Ao74 t425.length co74) t425) ∧ (Kd.V k60 60 w' w.heap.size (fun k_ => some k_ ≠ (.slice Ao49 t398.length co49 : Value).ownBlock ∧ some k_ ≠ (.slice Ao62 t414.length co62 : Value).ownBlock ∧ some k_ ≠ (s_.1 : Value).ownBlock ∧ some k_ ≠ (s_.2.1 : Value).ownBlock ∧ k_ ≠ gb389 ∧ k_ ≠ gb390 ∧ k_ ≠ gb419 ∧ k_ ≠ gb420 ∧ k_ ≠ gb438 ∧ k_ ≠ gb439 ∧ k_ ≠ s_.2.2.2) (.slice Ao80 t433.length co80) t433) ∧ (Kd.R k60 60 w' w.heap.size (fun k_ => some k_ ≠ (.slice Ao49 t398.length co49 : Value).ownBlock ∧ some k_ ≠ (.slice Ao62 t414.length co62 : Value).ownBlock ∧ some k_ ≠ (s_.2.1 : Value).ownBlock) s_.1 t444) ∧ (Kd.R k60 60 w' w.heap.size (fun k_ => some k_ ≠ (.slice Ao49 t398.length co49 : Value).ownBlock ∧ some k_ ≠ (.slice Ao62 t414.length co62 : Value).ownBlock ∧ some k_ ≠ (s_.1 : Value).ownBlock) s_.2.1 t452) ∧ (Kd.V k60 60 w' w.heap.size (fun k_ => some k_ ≠ (.slice Ao49 t398.length co49 : Value).ownBlock ∧ some k_ ≠ (.slice Ao62 t414.length co62 : Value).ownBlock ∧ some k_ ≠ (s_.2.1 : Value).ownBlock ∧ k_ ≠ gb389 ∧ k_ ≠ gb390 ∧ k_ ≠ gb419 ∧ k_ ≠ gb420 ∧ k_ ≠ gb438 ∧ k_ ≠ gb439 ∧ k_ ≠ s_.2.2.2) s_.2.2.1 t460) ∧ (w'.heap[gb389]? = some (.cells #[.int .i64 a0_0, .string a0_1, .string a0_2, .int .i64 a0_3, .slice A0_4 l0_4.length c0_4, .int .i64 a0_5] 26 (0, 0))) ∧ (w'.heap[gb390]? = some (.cells #[.int .i64 a3_0, .string a3_1, .string a3_2, .int .i64 a3_3, .slice A3_4 l3_4.length c3_4, .int .i64 a3_5] 26 (0, 0))) ∧ (w'.heap[gb419]? = some (.cells #[.int .i64 t402, .string t403, .string t404, .int .i64 t405, .slice Ao57 t406.length co57, .int .i64 t409] 26 (0, 0))) ∧ (w'.heap[gb420]? = some (.cells #[.int .i64 t410, .string t411, .string t412, .int .i64 t413, .slice Ao62 t414.length co62, .int .i64 t417] 26 (0, 0))) ∧ (w'.heap[gb438]? = some (.cells #[.int .i64 t421, .string t422, .string t423, .int .i64 t424, .slice Ao74 t425.length co74, .int .i64 t428] 26 (0, 0))) ∧ (w'.heap[gb439]? = some (.cells #[.int .i64 t429, .string t430, .string t431, .int .i64 t432, .slice Ao80 t433.length co80, .int .i64 t436] 26 (0, 0))) ∧ (w'.heap[s_.2.2.2]? = some (.cells #[.int .i64 0, .string (⟨#[]⟩ : ByteArray), .string (⟨#[]⟩ : ByteArray), .int .i64 0, .slice none 0 0, .int .i64 0] 26 (0, 0))) ∧ (w.heap.size ≤ s_.2.2.2) ∧ (w.heap.size ≤ s_.2.2.2) ∧ (gb389 ≠ s_.2.2.2) ∧ (s_.2.2.2 ≠ gb389) ∧ (gb390 ≠ s_.2.2.2) ∧ (s_.2.2.2 ≠ gb390) ∧ (gb419 ≠ s_.2.2.2) ∧ (s_.2.2.2 ≠ gb419) ∧ (gb420 ≠ s_.2.2.2) ∧ (s_.2.2.2 ≠ gb420) ∧ (gb438 ≠ s_.2.2.2) ∧ (s_.2.2.2 ≠ gb438) ∧ (gb439 ≠ s_.2.2.2) ∧ (s_.2.2.2 ≠ gb439) ∧ (Below w.heap.size w w')) ?_ ?_
         rotate_left
         ·intro hCont
          refine two_ (i := 1) (j := 8) (Ni := some 52) (Nj := some 15) #[true, true, true, false, false, false, false, false, false, false, false] #[true, false, true, false, false, false, false, false, true, false, false] rfl rfl rfl rfl (two_of HT_.out (by kernel_rfl)) (by decide) (by decide) (fun K hK => ?_) (fun K hK => ?_)
          ·skip
           refine goes_ Tryd.func12 (by kernel_rfl) rfl #[.agg #[.int .i64 a0_0, .string a0_1, .string a0_2, .int .i64 a0_3, .slice A0_4 l0_4.length c0_4, .int .i64 a0_5]] (by rfl) rfl rfl (by (try simp only [List.map_toArray, List.map_cons, List.map_nil]); first | done | rfl | (simp only [List.length_drop, List.length_take]; rfl)) ?_
           with_reducible refine (l06_own.calls a0_0 a0_1 a0_2 a0_3 _ _ l0_4 a0_5 t440 t441 t442 t443 t444 t447 _ ?side1 ?side2 ?side3 A31.out).mono ?_
           (case side1 => exact hG.below (by exact pbE HB.out))
           (case side2 => repeat (first | exact (Kd.C_below HR0_4.out HB.out) | (with_reducible refine Kd.C_alloc ?_ _) | (with_reducible refine Kd.C_drewN ?_ _) | (with_reducible refine Kd.C_drew ?_)))
           (case side3 => exact HC0_4.out)
           rintro e w83 ⟨v445, rfl, ho0, hb⟩
           refine ⟨_, rfl, ?_⟩
           replace HO408 := Az.mk (Kd.V_elder' (Kd.V_ext HO408.out) (Kd.R_base ho0) hb)
           replace HO427 := Az.mk (Kd.V_elder' (Kd.V_ext HO427.out) (Kd.R_base ho0) hb)
           replace HO435 := Az.mk (Kd.V_elder' (Kd.V_ext HO435.out) (Kd.R_base ho0) hb)
           have HO446 := Az.mk (Kd.R_lower (Kd.R_new' (Kd.R_new' ho0 (Kd.R_lt (Kd.R_ext HO400.out))) (Kd.R_lt (Kd.R_ext HO416.out))) (pbZ (by exact pbE HB.out)))
           replace HO400 := Az.mk (Kd.R_elder' (Kd.R_ext HO400.out) (Kd.R_base ho0) hb)
           replace HO416 := Az.mk (Kd.R_elder' (Kd.R_ext HO416.out) (Kd.R_base ho0) hb)
           replace BK389 := Az.mk (bkB (bk BK389.out) hb)
           replace BK390 := Az.mk (bkB (bk BK390.out) hb)
           replace BK419 := Az.mk (bkB (bk BK419.out) hb)
           replace BK420 := Az.mk (bkB (bk BK420.out) hb)
           replace BK438 := Az.mk (bkB (bk BK438.out) hb)
           replace BK439 := Az.mk (bkB (bk BK439.out) hb)
           replace HB := Az.mk (pbT (by exact pbE HB.out) hb)
           (try clear hb)
           (try clear hb2)
           (try clear hk)
           (try clear hi)
           (try clear ho0)
           refine hK.out _ _ ⟨(bkC BK389.out 0).trans rfl, (bkC BK389.out 1).trans rfl, (bkC BK389.out 2).trans rfl, (bkC BK389.out 3).trans rfl, (bkC BK389.out 4).trans rfl, (bkC BK389.out 5).trans rfl, (bkC BK390.out 0).trans rfl, (bkC BK390.out 1).trans rfl, (bkC BK390.out 2).trans rfl, (bkC BK390.out 3).trans rfl, (bkC BK390.out 4).trans rfl, (bkC BK390.out 5).trans rfl⟩ (fun hHeld => ?_)
           clear hK K
           refine norm_ (a' := ?_) ?_ ?_
           rotate_left
           ·show Act.put _ (some 52) _ = _
            simp only [Act.put, List.setIfInBounds_toArray, List.set_cons_zero, List.set_cons_succ, i64_w, i32_w]
            rfl
           refine two_ (i := 3) (j := 8) (Ni := some 54) (Nj := some 15) #[true, true, true, true, false, false, false, false, false, false, false] #[true, true, true, false, false, false, false, false, true, false, false] rfl rfl rfl rfl (two_of HT_.out (by kernel_rfl)) (by decide) (by decide) (fun K hK => ?_) (fun K hK => ?_)
           ·skip
            refine goes_ Tryd.func12 (by kernel_rfl) rfl #[.agg #[.int .i64 a3_0, .string a3_1, .string a3_2, .int .i64 a3_3, .slice A3_4 l3_4.length c3_4, .int .i64 a3_5]] (by rfl) rfl rfl (by (try simp only [List.map_toArray, List.map_cons, List.map_nil]); first | done | rfl | (simp only [List.length_drop, List.length_take]; rfl)) ?_
            with_reducible refine (l06_own.calls a3_0 a3_1 a3_2 a3_3 _ _ l3_4 a3_5 t448 t449 t450 t451 t452 t455 _ ?side1 ?side2 ?side3 A32.out).mono ?_
            (case side1 => exact hG.below (by exact pbE HB.out))
            (case side2 => repeat (first | exact (Kd.C_below HR3_4.out HB.out) | (with_reducible refine Kd.C_alloc ?_ _) | (with_reducible refine Kd.C_drewN ?_ _) | (with_reducible refine Kd.C_drew ?_)))
            (case side3 => exact HC3_4.out)
            rintro e w84 ⟨v453, rfl, ho0, hb⟩
            refine ⟨_, rfl, ?_⟩
            replace HO408 := Az.mk (Kd.V_elder' (Kd.V_ext HO408.out) (Kd.R_base ho0) hb)
            replace HO427 := Az.mk (Kd.V_elder' (Kd.V_ext HO427.out) (Kd.R_base ho0) hb)
            replace HO435 := Az.mk (Kd.V_elder' (Kd.V_ext HO435.out) (Kd.R_base ho0) hb)
            have HO454 := Az.mk (Kd.R_lower (Kd.R_new' (Kd.R_new' (Kd.R_new' ho0 (Kd.R_lt (Kd.R_ext HO400.out))) (Kd.R_lt (Kd.R_ext HO416.out))) (Kd.R_lt (Kd.R_ext HO446.out))) (pbZ (by exact pbE HB.out)))
            replace HO400 := Az.mk (Kd.R_elder' (Kd.R_ext HO400.out) (Kd.R_base ho0) hb)
            replace HO416 := Az.mk (Kd.R_elder' (Kd.R_ext HO416.out) (Kd.R_base ho0) hb)
            replace HO446 := Az.mk (Kd.R_elder' (Kd.R_ext HO446.out) (Kd.R_base ho0) hb)
            replace BK389 := Az.mk (bkB (bk BK389.out) hb)
            replace BK390 := Az.mk (bkB (bk BK390.out) hb)
            replace BK419 := Az.mk (bkB (bk BK419.out) hb)
            replace BK420 := Az.mk (bkB (bk BK420.out) hb)
            replace BK438 := Az.mk (bkB (bk BK438.out) hb)
            replace BK439 := Az.mk (bkB (bk BK439.out) hb)
            replace HB := Az.mk (pbT (by exact pbE HB.out) hb)
            (try clear hb)
            (try clear hb2)
            (try clear hk)
            (try clear hi)
            (try clear ho0)
            obtain ⟨Ao85, co85, eo85⟩ := Kd.R_slice HO446.out
            (first | subst eo85 | (injection eo85 with f1_ f2_ f3_; have f4_ := f1_.symm; have f5_ := f3_.symm; clear f1_ f2_ f3_; subst f4_; subst f5_))
            obtain ⟨Ao86, co86, eo86⟩ := Kd.R_slice HO454.out
            (first | subst eo86 | (injection eo86 with f1_ f2_ f3_; have f4_ := f1_.symm; have f5_ := f3_.symm; clear f1_ f2_ f3_; subst f4_; subst f5_))
            refine hK.out _ _ ⟨(bkC BK389.out 0).trans rfl, (bkC BK389.out 1).trans rfl, (bkC BK389.out 2).trans rfl, (bkC BK389.out 3).trans rfl, (bkC BK389.out 4).trans rfl, (bkC BK389.out 5).trans rfl, (bkC BK390.out 0).trans rfl, (bkC BK390.out 1).trans rfl, (bkC BK390.out 2).trans rfl, (bkC BK390.out 3).trans rfl, (bkC BK390.out 4).trans rfl, (bkC BK390.out 5).trans rfl⟩ (fun hHeld => ?_)
            clear hK K
            refine norm_ (a' := ?_) ?_ ?_
            rotate_left
            ·show Act.put _ (some 54) _ = _
             simp only [Act.put, List.setIfInBounds_toArray, List.set_cons_zero, List.set_cons_succ, i64_w, i32_w]
             rfl
            refine two_ (i := 4) (j := 8) (Ni := some 55) (Nj := some 15) #[true, true, true, true, true, false, false, false, false, false, false] #[true, true, true, true, false, false, false, false, true, false, false] rfl rfl rfl rfl (two_of HT_.out (by kernel_rfl)) (by decide) (by decide) (fun K hK => ?_) (fun K hK => ?_)
            ·skip
             refine goes_ Tryd.func14 (by kernel_rfl) rfl #[.agg #[.int .i64 t440, .string t441, .string t442, .int .i64 t443, .slice Ao85 t444.length co85, .int .i64 t447], .agg #[.int .i64 t448, .string t449, .string t450, .int .i64 t451, .slice Ao86 t452.length co86, .int .i64 t455]] (by rfl) rfl rfl (by (try simp only [List.map_toArray, List.map_cons, List.map_nil]); first | done | rfl | (simp only [List.length_drop, List.length_take]; rfl)) ?_
             with_reducible refine (desc_Merge.calls kj4 t440 t441 t442 t443 (fun k_ => some k_ = (.slice Ao85 t444.length co85 : Value).ownBlock) _ _ t444 t447 t448 t449 t450 t451 _ _ t452 t455 t456 t457 t458 t459 t460 t463 t464 _ ?side1 ?side2 ?side3 ?side4 A33.out).mono ?_
             (case side1 => exact hG.below (by exact pbE HB.out))
             (case side2 => exact Kd.R_V (Kd.R_tight rfl (Kd.R_types (Kd.R_types (Kd.R_types (Kd.R_types (Kd.R_types (Kd.R_types (HO446.out) BK389.out (by decide)) BK390.out (by decide)) BK419.out (by decide)) BK420.out (by decide)) BK438.out (by decide)) BK439.out (by decide))))
             (case side3 => exact Kd.C_ext (Kd.R_reads' HO454.out).2.2)
             (case side4 => exact (Kd.R_reads' HO454.out).2.1)
             rintro e w87 ⟨v461, rfl, ho0, hb⟩
             refine ⟨_, rfl, ?_⟩
             replace HO408 := Az.mk (Kd.V_below (Kd.V_ext HO408.out) hb)
             replace HO427 := Az.mk (Kd.V_below (Kd.V_ext HO427.out) hb)
             replace HO435 := Az.mk (Kd.V_below (Kd.V_ext HO435.out) hb)
             have HO462 := Az.mk (Kd.V_lower (Kd.V_mono (ok' := fun k_ => some k_ ≠ (.slice Ao49 t398.length co49 : Value).ownBlock ∧ some k_ ≠ (.slice Ao62 t414.length co62 : Value).ownBlock ∧ some k_ ≠ (.slice Ao86 t452.length co86 : Value).ownBlock ∧ k_ ≠ gb389 ∧ k_ ≠ gb390 ∧ k_ ≠ gb419 ∧ k_ ≠ gb420 ∧ k_ ≠ gb438 ∧ k_ ≠ gb439) ho0 (fun k_ hk_ => ⟨Or.elim hk_ (fun hs_ => ((Kd.R_types (Kd.R_types (Kd.R_types (Kd.R_types (Kd.R_types (Kd.R_types (HO446.out) BK389.out (by decide)) BK390.out (by decide)) BK419.out (by decide)) BK420.out (by decide)) BK438.out (by decide)) BK439.out (by decide)).1 k_ hs_.symm).1.1.1.1.1.1.1.1.2) (fun hn_ => (Kd.fresh' (Kd.R_lt (Kd.R_ext HO400.out)) k_ hn_)), Or.elim hk_ (fun hs_ => ((Kd.R_types (Kd.R_types (Kd.R_types (Kd.R_types (Kd.R_types (Kd.R_types (HO446.out) BK389.out (by decide)) BK390.out (by decide)) BK419.out (by decide)) BK420.out (by decide)) BK438.out (by decide)) BK439.out (by decide)).1 k_ hs_.symm).1.1.1.1.1.1.1.2) (fun hn_ => (Kd.fresh' (Kd.R_lt (Kd.R_ext HO416.out)) k_ hn_)), Or.elim hk_ (fun hs_ => ((Kd.R_types (Kd.R_types (Kd.R_types (Kd.R_types (Kd.R_types (Kd.R_types (HO446.out) BK389.out (by decide)) BK390.out (by decide)) BK419.out (by decide)) BK420.out (by decide)) BK438.out (by decide)) BK439.out (by decide)).1 k_ hs_.symm).1.1.1.1.1.1.2) (fun hn_ => (Kd.fresh' (Kd.R_lt (Kd.R_ext HO454.out)) k_ hn_)), Or.elim hk_ (fun hs_ => ((Kd.R_types (Kd.R_types (Kd.R_types (Kd.R_types (Kd.R_types (Kd.R_types (HO446.out) BK389.out (by decide)) BK390.out (by decide)) BK419.out (by decide)) BK420.out (by decide)) BK438.out (by decide)) BK439.out (by decide)).1 k_ hs_.symm).1.1.1.1.1.2) (fun hn_ => (Kd.freshB (bk BK389.out) k_ hn_)), Or.elim hk_ (fun hs_ => ((Kd.R_types (Kd.R_types (Kd.R_types (Kd.R_types (Kd.R_types (Kd.R_types (HO446.out) BK389.out (by decide)) BK390.out (by decide)) BK419.out (by decide)) BK420.out (by decide)) BK438.out (by decide)) BK439.out (by decide)).1 k_ hs_.symm).1.1.1.1.2) (fun hn_ => (Kd.freshB (bk BK390.out) k_ hn_)), Or.elim hk_ (fun hs_ => ((Kd.R_types (Kd.R_types (Kd.R_types (Kd.R_types (Kd.R_types (Kd.R_types (HO446.out) BK389.out (by decide)) BK390.out (by decide)) BK419.out (by decide)) BK420.out (by decide)) BK438.out (by decide)) BK439.out (by decide)).1 k_ hs_.symm).1.1.1.2) (fun hn_ => (Kd.freshB (bk BK419.out) k_ hn_)), Or.elim hk_ (fun hs_ => ((Kd.R_types (Kd.R_types (Kd.R_types (Kd.R_types (Kd.R_types (Kd.R_types (HO446.out) BK389.out (by decide)) BK390.out (by decide)) BK419.out (by decide)) BK420.out (by decide)) BK438.out (by decide)) BK439.out (by decide)).1 k_ hs_.symm).1.1.2) (fun hn_ => (Kd.freshB (bk BK420.out) k_ hn_)), Or.elim hk_ (fun hs_ => ((Kd.R_types (Kd.R_types (Kd.R_types (Kd.R_types (Kd.R_types (Kd.R_types (HO446.out) BK389.out (by decide)) BK390.out (by decide)) BK419.out (by decide)) BK420.out (by decide)) BK438.out (by decide)) BK439.out (by decide)).1 k_ hs_.symm).1.2) (fun hn_ => (Kd.freshB (bk BK438.out) k_ hn_)), Or.elim hk_ (fun hs_ => ((Kd.R_types (Kd.R_types (Kd.R_types (Kd.R_types (Kd.R_types (Kd.R_types (HO446.out) BK389.out (by decide)) BK390.out (by decide)) BK419.out (by decide)) BK420.out (by decide)) BK438.out (by decide)) BK439.out (by decide)).1 k_ hs_.symm).2) (fun hn_ => (Kd.freshB (bk BK439.out) k_ hn_))⟩)) (pbZ (by exact pbE HB.out)))
             replace HO400 := Az.mk (Kd.R_below (Kd.R_ext HO400.out) hb)
             replace HO416 := Az.mk (Kd.R_below (Kd.R_ext HO416.out) hb)
             replace HO446 := Az.mk (Kd.R_below (Kd.R_ext HO446.out) hb)
             replace HO454 := Az.mk (Kd.R_below (Kd.R_ext HO454.out) hb)
             replace BK389 := Az.mk (bkB (bk BK389.out) hb)
             replace BK390 := Az.mk (bkB (bk BK390.out) hb)
             replace BK419 := Az.mk (bkB (bk BK419.out) hb)
             replace BK420 := Az.mk (bkB (bk BK420.out) hb)
             replace BK438 := Az.mk (bkB (bk BK438.out) hb)
             replace BK439 := Az.mk (bkB (bk BK439.out) hb)
             replace HB := Az.mk (pbT (by exact pbE HB.out) hb)
             (try clear hb)
             (try clear hb2)
             (try clear hk)
             (try clear hi)
             (try clear ho0)
             refine hK.out _ _ ⟨(bkC BK389.out 0).trans rfl, (bkC BK389.out 1).trans rfl, (bkC BK389.out 2).trans rfl, (bkC BK389.out 3).trans rfl, (bkC BK389.out 4).trans rfl, (bkC BK389.out 5).trans rfl, (bkC BK390.out 0).trans rfl, (bkC BK390.out 1).trans rfl, (bkC BK390.out 2).trans rfl, (bkC BK390.out 3).trans rfl, (bkC BK390.out 4).trans rfl, (bkC BK390.out 5).trans rfl⟩ (fun hHeld => ?_)
             clear hK K
             refine norm_ (a' := ?_) ?_ ?_
             rotate_left
             ·show Act.put _ (some 55) _ = _
              simp only [Act.put, List.setIfInBounds_toArray, List.set_cons_zero, List.set_cons_succ, i64_w, i32_w]
              rfl
             refine pure_ (i := 5) (N := some 50) (v := ?_) (a' := ?_) #[true, true, true, true, true, true, false, false, false, false, false] rfl rfl (any_of HT_.out (by kernel_rfl)) (fun _ _ _ h => h) (Or.inl ⟨by rfl, ?_⟩) ?_ ?_
             rotate_left
             ·intro w'
              go_simp
              with_reducible rfl
             rotate_left
             ·simp only [Act.put, List.setIfInBounds_toArray, List.set_cons_zero, List.set_cons_succ, i64_w, i32_w]
              rfl
             refine pure_ (i := 6) (N := some 56) (v := ?_) (a' := ?_) #[true, true, true, true, true, true, true, false, false, false, false] rfl rfl (any_of HT_.out (by kernel_rfl)) (fun _ _ _ h => h) (Or.inl ⟨by rfl, ?_⟩) ?_ ?_
             rotate_left
             ·intro w'
              go_simp
              with_reducible rfl
             rotate_left
             ·simp only [Act.put, List.setIfInBounds_toArray, List.set_cons_zero, List.set_cons_succ, i64_w, i32_w]
              rfl
             refine pure_ (i := 7) (N := some 57) (v := ?_) (a' := ?_) #[true, true, true, true, true, true, true, true, false, false, false] rfl rfl (any_of HT_.out (by kernel_rfl)) (fun _ _ _ h => h) (Or.inl ⟨by rfl, ?_⟩) ?_ ?_
             rotate_left
             ·intro w'
              go_simp
              with_reducible rfl
             rotate_left
             ·simp only [Act.put, List.setIfInBounds_toArray, List.set_cons_zero, List.set_cons_succ, i64_w, i32_w]
              rfl
             refine one_ (i := 8) (N := some 15) #[true, true, true, true, true, true, true, true, true, false, false] rfl rfl (one_of HT_.out (by kernel_rfl)) (by decide) (fun K hK => ?_)
             refine box_step ?hg (N := 15) ?hd (cs := #[.int .i64 0, .string (⟨#[]⟩ : ByteArray), .string (⟨#[]⟩ : ByteArray), .int .i64 0, .slice none 0 0, .int .i64 0]) (t := 26) ?hr ?_; (case hd => rfl); (case hg => rfl); (case hr => first | (go_simp; done) | (go_simp; rfl))
             intro gb465 hg w88 hbox hb
             replace HO400 := Az.mk (Kd.R_below (Kd.R_ext HO400.out) hb)
             replace HO408 := Az.mk (Kd.V_below (Kd.V_elderB (Kd.V_ext HO408.out) gb465 (Nat.le_of_eq hg.symm)) hb)
             replace HO416 := Az.mk (Kd.R_below (Kd.R_ext HO416.out) hb)
             replace HO427 := Az.mk (Kd.V_below (Kd.V_elderB (Kd.V_ext HO427.out) gb465 (Nat.le_of_eq hg.symm)) hb)
             replace HO435 := Az.mk (Kd.V_below (Kd.V_elderB (Kd.V_ext HO435.out) gb465 (Nat.le_of_eq hg.symm)) hb)
             replace HO446 := Az.mk (Kd.R_below (Kd.R_ext HO446.out) hb)
             replace HO454 := Az.mk (Kd.R_below (Kd.R_ext HO454.out) hb)
             replace HO462 := Az.mk (Kd.V_below (Kd.V_elderB (Kd.V_ext HO462.out) gb465 (Nat.le_of_eq hg.symm)) hb)
             have BK465 := Az.mk (hbox)
             have GW465 := Az.mk (geO hg (pbE HB.out))
             have GE465 := Az.mk (geO hg (pbE HB.out))
             replace HB := Az.mk (pbT (by exact pbE HB.out) hb)
             have NB389_465 := Az.mk (neO hg (bk BK389.out))
             have NB465_389 := Az.mk (neP hg (bk BK389.out))
             replace BK389 := Az.mk (bkB (bk BK389.out) hb)
             have NB390_465 := Az.mk (neO hg (bk BK390.out))
             have NB465_390 := Az.mk (neP hg (bk BK390.out))
             replace BK390 := Az.mk (bkB (bk BK390.out) hb)
             have NB419_465 := Az.mk (neO hg (bk BK419.out))
             have NB465_419 := Az.mk (neP hg (bk BK419.out))
             replace BK419 := Az.mk (bkB (bk BK419.out) hb)
             have NB420_465 := Az.mk (neO hg (bk BK420.out))
             have NB465_420 := Az.mk (neP hg (bk BK420.out))
             replace BK420 := Az.mk (bkB (bk BK420.out) hb)
             have NB438_465 := Az.mk (neO hg (bk BK438.out))
             have NB465_438 := Az.mk (neP hg (bk BK438.out))
             replace BK438 := Az.mk (bkB (bk BK438.out) hb)
             have NB439_465 := Az.mk (neO hg (bk BK439.out))
             have NB465_439 := Az.mk (neP hg (bk BK439.out))
             replace BK439 := Az.mk (bkB (bk BK439.out) hb)
             clear hb hbox hg
             refine hK.out _ _ ⟨(bkC BK389.out 0).trans rfl, (bkC BK389.out 1).trans rfl, (bkC BK389.out 2).trans rfl, (bkC BK389.out 3).trans rfl, (bkC BK389.out 4).trans rfl, (bkC BK389.out 5).trans rfl, (bkC BK390.out 0).trans rfl, (bkC BK390.out 1).trans rfl, (bkC BK390.out 2).trans rfl, (bkC BK390.out 3).trans rfl, (bkC BK390.out 4).trans rfl, (bkC BK390.out 5).trans rfl⟩ (fun hHeld => ?_)
             clear hK K
             refine norm_ (a' := ?_) ?_ ?_
             rotate_left
             ·show Act.put _ (some 15) _ = _
              simp only [Act.put, List.setIfInBounds_toArray, List.set_cons_zero, List.set_cons_succ, i64_w, i32_w]
              rfl
             exact norm_ (by simp only [putAll, Act.put, List.setIfInBounds_toArray, List.set_cons_zero, List.set_cons_succ]) (hCont (.slice Ao85 t444.length co85, .slice Ao86 t452.length co86, v461, gb465) _ ⟨hHeld, (by (with_reducible repeat (first | apply Kd.R_alloc | apply Kd.R_drewN | apply Kd.R_drew)); exact Kd.R_mono HO400.out (fun _ hk => ⟨hk.1.1, ⟨hk.1.2, hk.2⟩⟩)), (by (with_reducible repeat (first | apply Kd.V_alloc | apply Kd.V_drewN | apply Kd.V_drew)); exact Kd.V_mono HO408.out (fun _ hk => ⟨hk.1.1.1.1, ⟨hk.1.1.2, ⟨hk.1.2, ⟨hk.1.1.1.2.1, ⟨hk.1.1.1.2.2.1, ⟨hk.1.1.1.2.2.2.1, ⟨hk.1.1.1.2.2.2.2.1, ⟨hk.1.1.1.2.2.2.2.2.1, ⟨hk.1.1.1.2.2.2.2.2.2, hk.2⟩⟩⟩⟩⟩⟩⟩⟩⟩)), (by (with_reducible repeat (first | apply Kd.R_alloc | apply Kd.R_drewN | apply Kd.R_drew)); exact Kd.R_mono HO416.out (fun _ hk => ⟨hk.1.1, ⟨hk.1.2, hk.2⟩⟩)), (by (with_reducible repeat (first | apply Kd.V_alloc | apply Kd.V_drewN | apply Kd.V_drew)); exact Kd.V_mono HO427.out (fun _ hk => ⟨hk.1.1.1.1, ⟨hk.1.1.1.2.1, ⟨hk.1.1.2, ⟨hk.1.2, ⟨hk.1.1.1.2.2.1, ⟨hk.1.1.1.2.2.2.1, ⟨hk.1.1.1.2.2.2.2.1, ⟨hk.1.1.1.2.2.2.2.2.1, ⟨hk.1.1.1.2.2.2.2.2.2.1, ⟨hk.1.1.1.2.2.2.2.2.2.2, hk.2⟩⟩⟩⟩⟩⟩⟩⟩⟩⟩)), (by (with_reducible repeat (first | apply Kd.V_alloc | apply Kd.V_drewN | apply Kd.V_drew)); exact Kd.V_mono HO435.out (fun _ hk => ⟨hk.1.1.1.1, ⟨hk.1.1.1.2.1, ⟨hk.1.1.2, ⟨hk.1.2, ⟨hk.1.1.1.2.2.1, ⟨hk.1.1.1.2.2.2.1, ⟨hk.1.1.1.2.2.2.2.1, ⟨hk.1.1.1.2.2.2.2.2.1, ⟨hk.1.1.1.2.2.2.2.2.2.1, ⟨hk.1.1.1.2.2.2.2.2.2.2, hk.2⟩⟩⟩⟩⟩⟩⟩⟩⟩⟩)), (by (with_reducible repeat (first | apply Kd.R_alloc | apply Kd.R_drewN | apply Kd.R_drew)); exact Kd.R_mono HO446.out (fun _ hk => ⟨hk.1.1.2, ⟨hk.1.2, hk.2⟩⟩)), (by (with_reducible repeat (first | apply Kd.R_alloc | apply Kd.R_drewN | apply Kd.R_drew)); exact Kd.R_mono HO454.out (fun _ hk => ⟨hk.1.1.2, ⟨hk.1.2, hk.2⟩⟩)), (by (with_reducible repeat (first | apply Kd.V_alloc | apply Kd.V_drewN | apply Kd.V_drew)); exact Kd.V_mono HO462.out (fun _ hk => ⟨hk.1.1, ⟨hk.1.2.1, ⟨hk.1.2.2.1, ⟨hk.1.2.2.2.1, ⟨hk.1.2.2.2.2.1, ⟨hk.1.2.2.2.2.2.1, ⟨hk.1.2.2.2.2.2.2.1, ⟨hk.1.2.2.2.2.2.2.2.1, ⟨hk.1.2.2.2.2.2.2.2.2, hk.2⟩⟩⟩⟩⟩⟩⟩⟩⟩)), (bk BK389.out), (bk BK390.out), (bk BK419.out), (bk BK420.out), (bk BK438.out), (bk BK439.out), (bk BK465.out), GW465.out, GE465.out, NB389_465.out, NB465_389.out, NB390_465.out, NB465_390.out, NB419_465.out, NB465_419.out, NB420_465.out, NB465_420.out, NB438_465.out, NB465_438.out, NB439_465.out, NB465_439.out, (by exact pbE HB.out)⟩)
            ·skip
             refine box_step ?hg (N := 15) ?hd (cs := #[.int .i64 0, .string (⟨#[]⟩ : ByteArray), .string (⟨#[]⟩ : ByteArray), .int .i64 0, .slice none 0 0, .int .i64 0]) (t := 26) ?hr ?_; (case hd => rfl); (case hg => rfl); (case hr => first | (go_simp; done) | (go_simp; rfl))
             intro gb465 hg w85 hbox hb
             replace HO400 := Az.mk (Kd.R_below (Kd.R_ext HO400.out) hb)
             replace HO408 := Az.mk (Kd.V_below (Kd.V_elderB (Kd.V_ext HO408.out) gb465 (Nat.le_of_eq hg.symm)) hb)
             replace HO416 := Az.mk (Kd.R_below (Kd.R_ext HO416.out) hb)
             replace HO427 := Az.mk (Kd.V_below (Kd.V_elderB (Kd.V_ext HO427.out) gb465 (Nat.le_of_eq hg.symm)) hb)
             replace HO435 := Az.mk (Kd.V_below (Kd.V_elderB (Kd.V_ext HO435.out) gb465 (Nat.le_of_eq hg.symm)) hb)
             replace HO446 := Az.mk (Kd.R_below (Kd.R_ext HO446.out) hb)
             replace HO454 := Az.mk (Kd.R_below (Kd.R_ext HO454.out) hb)
             have BK465 := Az.mk (hbox)
             have GW465 := Az.mk (geO hg (pbE HB.out))
             have GE465 := Az.mk (geO hg (pbE HB.out))
             replace HB := Az.mk (pbT (by exact pbE HB.out) hb)
             have NB389_465 := Az.mk (neO hg (bk BK389.out))
             have NB465_389 := Az.mk (neP hg (bk BK389.out))
             replace BK389 := Az.mk (bkB (bk BK389.out) hb)
             have NB390_465 := Az.mk (neO hg (bk BK390.out))
             have NB465_390 := Az.mk (neP hg (bk BK390.out))
             replace BK390 := Az.mk (bkB (bk BK390.out) hb)
             have NB419_465 := Az.mk (neO hg (bk BK419.out))
             have NB465_419 := Az.mk (neP hg (bk BK419.out))
             replace BK419 := Az.mk (bkB (bk BK419.out) hb)
             have NB420_465 := Az.mk (neO hg (bk BK420.out))
             have NB465_420 := Az.mk (neP hg (bk BK420.out))
             replace BK420 := Az.mk (bkB (bk BK420.out) hb)
             have NB438_465 := Az.mk (neO hg (bk BK438.out))
             have NB465_438 := Az.mk (neP hg (bk BK438.out))
             replace BK438 := Az.mk (bkB (bk BK438.out) hb)
             have NB439_465 := Az.mk (neO hg (bk BK439.out))
             have NB465_439 := Az.mk (neP hg (bk BK439.out))
             replace BK439 := Az.mk (bkB (bk BK439.out) hb)
             clear hb hbox hg
             obtain ⟨Ao86, co86, eo86⟩ := Kd.R_slice HO446.out
             (first | subst eo86 | (injection eo86 with f1_ f2_ f3_; have f4_ := f1_.symm; have f5_ := f3_.symm; clear f1_ f2_ f3_; subst f4_; subst f5_))
             obtain ⟨Ao87, co87, eo87⟩ := Kd.R_slice HO454.out
             (first | subst eo87 | (injection eo87 with f1_ f2_ f3_; have f4_ := f1_.symm; have f5_ := f3_.symm; clear f1_ f2_ f3_; subst f4_; subst f5_))
             refine hK.out _ _ ⟨(bkC BK389.out 0).trans rfl, (bkC BK389.out 1).trans rfl, (bkC BK389.out 2).trans rfl, (bkC BK389.out 3).trans rfl, (bkC BK389.out 4).trans rfl, (bkC BK389.out 5).trans rfl, (bkC BK390.out 0).trans rfl, (bkC BK390.out 1).trans rfl, (bkC BK390.out 2).trans rfl, (bkC BK390.out 3).trans rfl, (bkC BK390.out 4).trans rfl, (bkC BK390.out 5).trans rfl⟩ (fun hHeld => ?_)
             clear hK K
             refine norm_ (a' := ?_) ?_ ?_
             rotate_left
             ·show Act.put _ (some 15) _ = _
              simp only [Act.put, List.setIfInBounds_toArray, List.set_cons_zero, List.set_cons_succ, i64_w, i32_w]
              rfl
             refine one_ (i := 4) (N := some 55) #[true, true, true, true, true, false, false, false, true, false, false] rfl rfl (one_of HT_.out (by kernel_rfl)) (by decide) (fun K hK => ?_)
             refine goes_ Tryd.func14 (by kernel_rfl) rfl #[.agg #[.int .i64 t440, .string t441, .string t442, .int .i64 t443, .slice Ao86 t444.length co86, .int .i64 t447], .agg #[.int .i64 t448, .string t449, .string t450, .int .i64 t451, .slice Ao87 t452.length co87, .int .i64 t455]] (by rfl) rfl rfl (by (try simp only [List.map_toArray, List.map_cons, List.map_nil]); first | done | rfl | (simp only [List.length_drop, List.length_take]; rfl)) ?_
             with_reducible refine (desc_Merge.calls kj4 t440 t441 t442 t443 (fun k_ => some k_ = (.slice Ao86 t444.length co86 : Value).ownBlock) _ _ t444 t447 t448 t449 t450 t451 _ _ t452 t455 t456 t457 t458 t459 t460 t463 t464 _ ?side1 ?side2 ?side3 ?side4 A33.out).mono ?_
             (case side1 => exact hG.below (by exact pbE HB.out))
             (case side2 => exact Kd.R_V (Kd.R_tight rfl (Kd.R_types (Kd.R_types (Kd.R_types (Kd.R_types (Kd.R_types (Kd.R_types (Kd.R_types (HO446.out) BK389.out (by decide)) BK390.out (by decide)) BK419.out (by decide)) BK420.out (by decide)) BK438.out (by decide)) BK439.out (by decide)) BK465.out (by decide))))
             (case side3 => exact Kd.C_ext (Kd.R_reads' HO454.out).2.2)
             (case side4 => exact (Kd.R_reads' HO454.out).2.1)
             rintro e w88 ⟨v461, rfl, ho0, hb⟩
             refine ⟨_, rfl, ?_⟩
             replace HO408 := Az.mk (Kd.V_below (Kd.V_ext HO408.out) hb)
             replace HO427 := Az.mk (Kd.V_below (Kd.V_ext HO427.out) hb)
             replace HO435 := Az.mk (Kd.V_below (Kd.V_ext HO435.out) hb)
             have HO462 := Az.mk (Kd.V_lower (Kd.V_mono (ok' := fun k_ => some k_ ≠ (.slice Ao49 t398.length co49 : Value).ownBlock ∧ some k_ ≠ (.slice Ao62 t414.length co62 : Value).ownBlock ∧ some k_ ≠ (.slice Ao87 t452.length co87 : Value).ownBlock ∧ k_ ≠ gb389 ∧ k_ ≠ gb390 ∧ k_ ≠ gb419 ∧ k_ ≠ gb420 ∧ k_ ≠ gb438 ∧ k_ ≠ gb439 ∧ k_ ≠ gb465) ho0 (fun k_ hk_ => ⟨Or.elim hk_ (fun hs_ => ((Kd.R_types (Kd.R_types (Kd.R_types (Kd.R_types (Kd.R_types (Kd.R_types (Kd.R_types (HO446.out) BK389.out (by decide)) BK390.out (by decide)) BK419.out (by decide)) BK420.out (by decide)) BK438.out (by decide)) BK439.out (by decide)) BK465.out (by decide)).1 k_ hs_.symm).1.1.1.1.1.1.1.1.1.2) (fun hn_ => (Kd.fresh' (Kd.R_lt (Kd.R_ext HO400.out)) k_ hn_)), Or.elim hk_ (fun hs_ => ((Kd.R_types (Kd.R_types (Kd.R_types (Kd.R_types (Kd.R_types (Kd.R_types (Kd.R_types (HO446.out) BK389.out (by decide)) BK390.out (by decide)) BK419.out (by decide)) BK420.out (by decide)) BK438.out (by decide)) BK439.out (by decide)) BK465.out (by decide)).1 k_ hs_.symm).1.1.1.1.1.1.1.1.2) (fun hn_ => (Kd.fresh' (Kd.R_lt (Kd.R_ext HO416.out)) k_ hn_)), Or.elim hk_ (fun hs_ => ((Kd.R_types (Kd.R_types (Kd.R_types (Kd.R_types (Kd.R_types (Kd.R_types (Kd.R_types (HO446.out) BK389.out (by decide)) BK390.out (by decide)) BK419.out (by decide)) BK420.out (by decide)) BK438.out (by decide)) BK439.out (by decide)) BK465.out (by decide)).1 k_ hs_.symm).1.1.1.1.1.1.1.2) (fun hn_ => (Kd.fresh' (Kd.R_lt (Kd.R_ext HO454.out)) k_ hn_)), Or.elim hk_ (fun hs_ => ((Kd.R_types (Kd.R_types (Kd.R_types (Kd.R_types (Kd.R_types (Kd.R_types (Kd.R_types (HO446.out) BK389.out (by decide)) BK390.out (by decide)) BK419.out (by decide)) BK420.out (by decide)) BK438.out (by decide)) BK439.out (by decide)) BK465.out (by decide)).1 k_ hs_.symm).1.1.1.1.1.1.2) (fun hn_ => (Kd.freshB (bk BK389.out) k_ hn_)), Or.elim hk_ (fun hs_ => ((Kd.R_types (Kd.R_types (Kd.R_types (Kd.R_types (Kd.R_types (Kd.R_types (Kd.R_types (HO446.out) BK389.out (by decide)) BK390.out (by decide)) BK419.out (by decide)) BK420.out (by decide)) BK438.out (by decide)) BK439.out (by decide)) BK465.out (by decide)).1 k_ hs_.symm).1.1.1.1.1.2) (fun hn_ => (Kd.freshB (bk BK390.out) k_ hn_)), Or.elim hk_ (fun hs_ => ((Kd.R_types (Kd.R_types (Kd.R_types (Kd.R_types (Kd.R_types (Kd.R_types (Kd.R_types (HO446.out) BK389.out (by decide)) BK390.out (by decide)) BK419.out (by decide)) BK420.out (by decide)) BK438.out (by decide)) BK439.out (by decide)) BK465.out (by decide)).1 k_ hs_.symm).1.1.1.1.2) (fun hn_ => (Kd.freshB (bk BK419.out) k_ hn_)), Or.elim hk_ (fun hs_ => ((Kd.R_types (Kd.R_types (Kd.R_types (Kd.R_types (Kd.R_types (Kd.R_types (Kd.R_types (HO446.out) BK389.out (by decide)) BK390.out (by decide)) BK419.out (by decide)) BK420.out (by decide)) BK438.out (by decide)) BK439.out (by decide)) BK465.out (by decide)).1 k_ hs_.symm).1.1.1.2) (fun hn_ => (Kd.freshB (bk BK420.out) k_ hn_)), Or.elim hk_ (fun hs_ => ((Kd.R_types (Kd.R_types (Kd.R_types (Kd.R_types (Kd.R_types (Kd.R_types (Kd.R_types (HO446.out) BK389.out (by decide)) BK390.out (by decide)) BK419.out (by decide)) BK420.out (by decide)) BK438.out (by decide)) BK439.out (by decide)) BK465.out (by decide)).1 k_ hs_.symm).1.1.2) (fun hn_ => (Kd.freshB (bk BK438.out) k_ hn_)), Or.elim hk_ (fun hs_ => ((Kd.R_types (Kd.R_types (Kd.R_types (Kd.R_types (Kd.R_types (Kd.R_types (Kd.R_types (HO446.out) BK389.out (by decide)) BK390.out (by decide)) BK419.out (by decide)) BK420.out (by decide)) BK438.out (by decide)) BK439.out (by decide)) BK465.out (by decide)).1 k_ hs_.symm).1.2) (fun hn_ => (Kd.freshB (bk BK439.out) k_ hn_)), Or.elim hk_ (fun hs_ => ((Kd.R_types (Kd.R_types (Kd.R_types (Kd.R_types (Kd.R_types (Kd.R_types (Kd.R_types (HO446.out) BK389.out (by decide)) BK390.out (by decide)) BK419.out (by decide)) BK420.out (by decide)) BK438.out (by decide)) BK439.out (by decide)) BK465.out (by decide)).1 k_ hs_.symm).2) (fun hn_ => (Kd.freshB (bk BK465.out) k_ hn_))⟩)) (pbZ (by exact pbE HB.out)))
             replace HO400 := Az.mk (Kd.R_below (Kd.R_ext HO400.out) hb)
             replace HO416 := Az.mk (Kd.R_below (Kd.R_ext HO416.out) hb)
             replace HO446 := Az.mk (Kd.R_below (Kd.R_ext HO446.out) hb)
             replace HO454 := Az.mk (Kd.R_below (Kd.R_ext HO454.out) hb)
             replace BK389 := Az.mk (bkB (bk BK389.out) hb)
             replace BK390 := Az.mk (bkB (bk BK390.out) hb)
             replace BK419 := Az.mk (bkB (bk BK419.out) hb)
             replace BK420 := Az.mk (bkB (bk BK420.out) hb)
             replace BK438 := Az.mk (bkB (bk BK438.out) hb)
             replace BK439 := Az.mk (bkB (bk BK439.out) hb)
             replace BK465 := Az.mk (bkB (bk BK465.out) hb)
             replace HB := Az.mk (pbT (by exact pbE HB.out) hb)
             (try clear hb)
             (try clear hb2)
             (try clear hk)
             (try clear hi)
             (try clear ho0)
             refine hK.out _ _ ⟨(bkC BK389.out 0).trans rfl, (bkC BK389.out 1).trans rfl, (bkC BK389.out 2).trans rfl, (bkC BK389.out 3).trans rfl, (bkC BK389.out 4).trans rfl, (bkC BK389.out 5).trans rfl, (bkC BK390.out 0).trans rfl, (bkC BK390.out 1).trans rfl, (bkC BK390.out 2).trans rfl, (bkC BK390.out 3).trans rfl, (bkC BK390.out 4).trans rfl, (bkC BK390.out 5).trans rfl⟩ (fun hHeld => ?_)
             clear hK K
             refine norm_ (a' := ?_) ?_ ?_
             rotate_left
             ·show Act.put _ (some 55) _ = _
              simp only [Act.put, List.setIfInBounds_toArray, List.set_cons_zero, List.set_cons_succ, i64_w, i32_w]
              rfl
             refine pure_ (i := 5) (N := some 50) (v := ?_) (a' := ?_) #[true, true, true, true, true, true, false, false, true, false, false] rfl rfl (any_of HT_.out (by kernel_rfl)) (fun _ _ _ h => h) (Or.inl ⟨by rfl, ?_⟩) ?_ ?_
             rotate_left
             ·intro w'
              go_simp
              with_reducible rfl
             rotate_left
             ·simp only [Act.put, List.setIfInBounds_toArray, List.set_cons_zero, List.set_cons_succ, i64_w, i32_w]
              rfl
             refine pure_ (i := 6) (N := some 56) (v := ?_) (a' := ?_) #[true, true, true, true, true, true, true, false, true, false, false] rfl rfl (any_of HT_.out (by kernel_rfl)) (fun _ _ _ h => h) (Or.inl ⟨by rfl, ?_⟩) ?_ ?_
             rotate_left
             ·intro w'
              go_simp
              with_reducible rfl
             rotate_left
             ·simp only [Act.put, List.setIfInBounds_toArray, List.set_cons_zero, List.set_cons_succ, i64_w, i32_w]
              rfl
             refine pure_ (i := 7) (N := some 57) (v := ?_) (a' := ?_) #[true, true, true, true, true, true, true, true, true, false, false] rfl rfl (any_of HT_.out (by kernel_rfl)) (fun _ _ _ h => h) (Or.inl ⟨by rfl, ?_⟩) ?_ ?_
             rotate_left
             ·intro w'
              go_simp
              with_reducible rfl
             rotate_left
             ·simp only [Act.put, List.setIfInBounds_toArray, List.set_cons_zero, List.set_cons_succ, i64_w, i32_w]
              rfl
             exact norm_ (by simp only [putAll, Act.put, List.setIfInBounds_toArray, List.set_cons_zero, List.set_cons_succ]) (hCont (.slice Ao86 t444.length co86, .slice Ao87 t452.length co87, v461, gb465) _ ⟨hHeld, (by (with_reducible repeat (first | apply Kd.R_alloc | apply Kd.R_drewN | apply Kd.R_drew)); exact Kd.R_mono HO400.out (fun _ hk => ⟨hk.1.1, ⟨hk.1.2, hk.2⟩⟩)), (by (with_reducible repeat (first | apply Kd.V_alloc | apply Kd.V_drewN | apply Kd.V_drew)); exact Kd.V_mono HO408.out (fun _ hk => ⟨hk.1.1.1.1, ⟨hk.1.1.2, ⟨hk.1.2, ⟨hk.1.1.1.2.1, ⟨hk.1.1.1.2.2.1, ⟨hk.1.1.1.2.2.2.1, ⟨hk.1.1.1.2.2.2.2.1, ⟨hk.1.1.1.2.2.2.2.2.1, ⟨hk.1.1.1.2.2.2.2.2.2, hk.2⟩⟩⟩⟩⟩⟩⟩⟩⟩)), (by (with_reducible repeat (first | apply Kd.R_alloc | apply Kd.R_drewN | apply Kd.R_drew)); exact Kd.R_mono HO416.out (fun _ hk => ⟨hk.1.1, ⟨hk.1.2, hk.2⟩⟩)), (by (with_reducible repeat (first | apply Kd.V_alloc | apply Kd.V_drewN | apply Kd.V_drew)); exact Kd.V_mono HO427.out (fun _ hk => ⟨hk.1.1.1.1, ⟨hk.1.1.1.2.1, ⟨hk.1.1.2, ⟨hk.1.2, ⟨hk.1.1.1.2.2.1, ⟨hk.1.1.1.2.2.2.1, ⟨hk.1.1.1.2.2.2.2.1, ⟨hk.1.1.1.2.2.2.2.2.1, ⟨hk.1.1.1.2.2.2.2.2.2.1, ⟨hk.1.1.1.2.2.2.2.2.2.2, hk.2⟩⟩⟩⟩⟩⟩⟩⟩⟩⟩)), (by (with_reducible repeat (first | apply Kd.V_alloc | apply Kd.V_drewN | apply Kd.V_drew)); exact Kd.V_mono HO435.out (fun _ hk => ⟨hk.1.1.1.1, ⟨hk.1.1.1.2.1, ⟨hk.1.1.2, ⟨hk.1.2, ⟨hk.1.1.1.2.2.1, ⟨hk.1.1.1.2.2.2.1, ⟨hk.1.1.1.2.2.2.2.1, ⟨hk.1.1.1.2.2.2.2.2.1, ⟨hk.1.1.1.2.2.2.2.2.2.1, ⟨hk.1.1.1.2.2.2.2.2.2.2, hk.2⟩⟩⟩⟩⟩⟩⟩⟩⟩⟩)), (by (with_reducible repeat (first | apply Kd.R_alloc | apply Kd.R_drewN | apply Kd.R_drew)); exact Kd.R_mono HO446.out (fun _ hk => ⟨hk.1.1.2, ⟨hk.1.2, hk.2⟩⟩)), (by (with_reducible repeat (first | apply Kd.R_alloc | apply Kd.R_drewN | apply Kd.R_drew)); exact Kd.R_mono HO454.out (fun _ hk => ⟨hk.1.1.2, ⟨hk.1.2, hk.2⟩⟩)), (Kd.V_ext HO462.out), (bk BK389.out), (bk BK390.out), (bk BK419.out), (bk BK420.out), (bk BK438.out), (bk BK439.out), (bk BK465.out), GW465.out, GE465.out, NB389_465.out, NB465_389.out, NB390_465.out, NB465_390.out, NB419_465.out, NB465_419.out, NB420_465.out, NB465_420.out, NB438_465.out, NB465_438.out, NB439_465.out, NB465_439.out, (by exact pbE HB.out)⟩)
           ·skip
            refine box_step ?hg (N := 15) ?hd (cs := #[.int .i64 0, .string (⟨#[]⟩ : ByteArray), .string (⟨#[]⟩ : ByteArray), .int .i64 0, .slice none 0 0, .int .i64 0]) (t := 26) ?hr ?_; (case hd => rfl); (case hg => rfl); (case hr => first | (go_simp; done) | (go_simp; rfl))
            intro gb465 hg w84 hbox hb
            replace HO400 := Az.mk (Kd.R_below (Kd.R_ext HO400.out) hb)
            replace HO408 := Az.mk (Kd.V_below (Kd.V_elderB (Kd.V_ext HO408.out) gb465 (Nat.le_of_eq hg.symm)) hb)
            replace HO416 := Az.mk (Kd.R_below (Kd.R_ext HO416.out) hb)
            replace HO427 := Az.mk (Kd.V_below (Kd.V_elderB (Kd.V_ext HO427.out) gb465 (Nat.le_of_eq hg.symm)) hb)
            replace HO435 := Az.mk (Kd.V_below (Kd.V_elderB (Kd.V_ext HO435.out) gb465 (Nat.le_of_eq hg.symm)) hb)
            replace HO446 := Az.mk (Kd.R_below (Kd.R_ext HO446.out) hb)
            have BK465 := Az.mk (hbox)
            have GW465 := Az.mk (geO hg (pbE HB.out))
            have GE465 := Az.mk (geO hg (pbE HB.out))
            replace HB := Az.mk (pbT (by exact pbE HB.out) hb)
            have NB389_465 := Az.mk (neO hg (bk BK389.out))
            have NB465_389 := Az.mk (neP hg (bk BK389.out))
            replace BK389 := Az.mk (bkB (bk BK389.out) hb)
            have NB390_465 := Az.mk (neO hg (bk BK390.out))
            have NB465_390 := Az.mk (neP hg (bk BK390.out))
            replace BK390 := Az.mk (bkB (bk BK390.out) hb)
            have NB419_465 := Az.mk (neO hg (bk BK419.out))
            have NB465_419 := Az.mk (neP hg (bk BK419.out))
            replace BK419 := Az.mk (bkB (bk BK419.out) hb)
            have NB420_465 := Az.mk (neO hg (bk BK420.out))
            have NB465_420 := Az.mk (neP hg (bk BK420.out))
            replace BK420 := Az.mk (bkB (bk BK420.out) hb)
            have NB438_465 := Az.mk (neO hg (bk BK438.out))
            have NB465_438 := Az.mk (neP hg (bk BK438.out))
            replace BK438 := Az.mk (bkB (bk BK438.out) hb)
            have NB439_465 := Az.mk (neO hg (bk BK439.out))
            have NB465_439 := Az.mk (neP hg (bk BK439.out))
            replace BK439 := Az.mk (bkB (bk BK439.out) hb)
            clear hb hbox hg
            refine hK.out _ _ ⟨(bkC BK389.out 0).trans rfl, (bkC BK389.out 1).trans rfl, (bkC BK389.out 2).trans rfl, (bkC BK389.out 3).trans rfl, (bkC BK389.out 4).trans rfl, (bkC BK389.out 5).trans rfl, (bkC BK390.out 0).trans rfl, (bkC BK390.out 1).trans rfl, (bkC BK390.out 2).trans rfl, (bkC BK390.out 3).trans rfl, (bkC BK390.out 4).trans rfl, (bkC BK390.out 5).trans rfl⟩ (fun hHeld => ?_)
            clear hK K
            refine norm_ (a' := ?_) ?_ ?_
            rotate_left
            ·show Act.put _ (some 15) _ = _
             simp only [Act.put, List.setIfInBounds_toArray, List.set_cons_zero, List.set_cons_succ, i64_w, i32_w]
             rfl
            refine one_ (i := 3) (N := some 54) #[true, true, true, true, false, false, false, false, true, false, false] rfl rfl (one_of HT_.out (by kernel_rfl)) (by decide) (fun K hK => ?_)
            refine goes_ Tryd.func12 (by kernel_rfl) rfl #[.agg #[.int .i64 a3_0, .string a3_1, .string a3_2, .int .i64 a3_3, .slice A3_4 l3_4.length c3_4, .int .i64 a3_5]] (by rfl) rfl rfl (by (try simp only [List.map_toArray, List.map_cons, List.map_nil]); first | done | rfl | (simp only [List.length_drop, List.length_take]; rfl)) ?_
            with_reducible refine (l06_own.calls a3_0 a3_1 a3_2 a3_3 _ _ l3_4 a3_5 t448 t449 t450 t451 t452 t455 _ ?side1 ?side2 ?side3 A32.out).mono ?_
            (case side1 => exact hG.below (by exact pbE HB.out))
            (case side2 => repeat (first | exact (Kd.C_below HR3_4.out HB.out) | (with_reducible refine Kd.C_alloc ?_ _) | (with_reducible refine Kd.C_drewN ?_ _) | (with_reducible refine Kd.C_drew ?_)))
            (case side3 => exact HC3_4.out)
            rintro e w85 ⟨v453, rfl, ho0, hb⟩
            refine ⟨_, rfl, ?_⟩
            replace HO408 := Az.mk (Kd.V_elder' (Kd.V_ext HO408.out) (Kd.R_base ho0) hb)
            replace HO427 := Az.mk (Kd.V_elder' (Kd.V_ext HO427.out) (Kd.R_base ho0) hb)
            replace HO435 := Az.mk (Kd.V_elder' (Kd.V_ext HO435.out) (Kd.R_base ho0) hb)
            have HO454 := Az.mk (Kd.R_lower (Kd.R_new' (Kd.R_new' (Kd.R_new' ho0 (Kd.R_lt (Kd.R_ext HO400.out))) (Kd.R_lt (Kd.R_ext HO416.out))) (Kd.R_lt (Kd.R_ext HO446.out))) (pbZ (by exact pbE HB.out)))
            replace HO400 := Az.mk (Kd.R_elder' (Kd.R_ext HO400.out) (Kd.R_base ho0) hb)
            replace HO416 := Az.mk (Kd.R_elder' (Kd.R_ext HO416.out) (Kd.R_base ho0) hb)
            replace HO446 := Az.mk (Kd.R_elder' (Kd.R_ext HO446.out) (Kd.R_base ho0) hb)
            replace BK389 := Az.mk (bkB (bk BK389.out) hb)
            replace BK390 := Az.mk (bkB (bk BK390.out) hb)
            replace BK419 := Az.mk (bkB (bk BK419.out) hb)
            replace BK420 := Az.mk (bkB (bk BK420.out) hb)
            replace BK438 := Az.mk (bkB (bk BK438.out) hb)
            replace BK439 := Az.mk (bkB (bk BK439.out) hb)
            replace BK465 := Az.mk (bkB (bk BK465.out) hb)
            replace HB := Az.mk (pbT (by exact pbE HB.out) hb)
            (try clear hb)
            (try clear hb2)
            (try clear hk)
            (try clear hi)
            (try clear ho0)
            obtain ⟨Ao86, co86, eo86⟩ := Kd.R_slice HO446.out
            (first | subst eo86 | (injection eo86 with f1_ f2_ f3_; have f4_ := f1_.symm; have f5_ := f3_.symm; clear f1_ f2_ f3_; subst f4_; subst f5_))
            obtain ⟨Ao87, co87, eo87⟩ := Kd.R_slice HO454.out
            (first | subst eo87 | (injection eo87 with f1_ f2_ f3_; have f4_ := f1_.symm; have f5_ := f3_.symm; clear f1_ f2_ f3_; subst f4_; subst f5_))
            refine hK.out _ _ ⟨(bkC BK389.out 0).trans rfl, (bkC BK389.out 1).trans rfl, (bkC BK389.out 2).trans rfl, (bkC BK389.out 3).trans rfl, (bkC BK389.out 4).trans rfl, (bkC BK389.out 5).trans rfl, (bkC BK390.out 0).trans rfl, (bkC BK390.out 1).trans rfl, (bkC BK390.out 2).trans rfl, (bkC BK390.out 3).trans rfl, (bkC BK390.out 4).trans rfl, (bkC BK390.out 5).trans rfl⟩ (fun hHeld => ?_)
            clear hK K
            refine norm_ (a' := ?_) ?_ ?_
            rotate_left
            ·show Act.put _ (some 54) _ = _
             simp only [Act.put, List.setIfInBounds_toArray, List.set_cons_zero, List.set_cons_succ, i64_w, i32_w]
             rfl
            refine one_ (i := 4) (N := some 55) #[true, true, true, true, true, false, false, false, true, false, false] rfl rfl (one_of HT_.out (by kernel_rfl)) (by decide) (fun K hK => ?_)
            refine goes_ Tryd.func14 (by kernel_rfl) rfl #[.agg #[.int .i64 t440, .string t441, .string t442, .int .i64 t443, .slice Ao86 t444.length co86, .int .i64 t447], .agg #[.int .i64 t448, .string t449, .string t450, .int .i64 t451, .slice Ao87 t452.length co87, .int .i64 t455]] (by rfl) rfl rfl (by (try simp only [List.map_toArray, List.map_cons, List.map_nil]); first | done | rfl | (simp only [List.length_drop, List.length_take]; rfl)) ?_
            with_reducible refine (desc_Merge.calls kj4 t440 t441 t442 t443 (fun k_ => some k_ = (.slice Ao86 t444.length co86 : Value).ownBlock) _ _ t444 t447 t448 t449 t450 t451 _ _ t452 t455 t456 t457 t458 t459 t460 t463 t464 _ ?side1 ?side2 ?side3 ?side4 A33.out).mono ?_
            (case side1 => exact hG.below (by exact pbE HB.out))
            (case side2 => exact Kd.R_V (Kd.R_tight rfl (Kd.R_types (Kd.R_types (Kd.R_types (Kd.R_types (Kd.R_types (Kd.R_types (Kd.R_types (HO446.out) BK389.out (by decide)) BK390.out (by decide)) BK419.out (by decide)) BK420.out (by decide)) BK438.out (by decide)) BK439.out (by decide)) BK465.out (by decide))))
            (case side3 => exact Kd.C_ext (Kd.R_reads' HO454.out).2.2)
            (case side4 => exact (Kd.R_reads' HO454.out).2.1)
            rintro e w88 ⟨v461, rfl, ho0, hb⟩
            refine ⟨_, rfl, ?_⟩
            replace HO408 := Az.mk (Kd.V_below (Kd.V_ext HO408.out) hb)
            replace HO427 := Az.mk (Kd.V_below (Kd.V_ext HO427.out) hb)
            replace HO435 := Az.mk (Kd.V_below (Kd.V_ext HO435.out) hb)
            have HO462 := Az.mk (Kd.V_lower (Kd.V_mono (ok' := fun k_ => some k_ ≠ (.slice Ao49 t398.length co49 : Value).ownBlock ∧ some k_ ≠ (.slice Ao62 t414.length co62 : Value).ownBlock ∧ some k_ ≠ (.slice Ao87 t452.length co87 : Value).ownBlock ∧ k_ ≠ gb389 ∧ k_ ≠ gb390 ∧ k_ ≠ gb419 ∧ k_ ≠ gb420 ∧ k_ ≠ gb438 ∧ k_ ≠ gb439 ∧ k_ ≠ gb465) ho0 (fun k_ hk_ => ⟨Or.elim hk_ (fun hs_ => ((Kd.R_types (Kd.R_types (Kd.R_types (Kd.R_types (Kd.R_types (Kd.R_types (Kd.R_types (HO446.out) BK389.out (by decide)) BK390.out (by decide)) BK419.out (by decide)) BK420.out (by decide)) BK438.out (by decide)) BK439.out (by decide)) BK465.out (by decide)).1 k_ hs_.symm).1.1.1.1.1.1.1.1.1.2) (fun hn_ => (Kd.fresh' (Kd.R_lt (Kd.R_ext HO400.out)) k_ hn_)), Or.elim hk_ (fun hs_ => ((Kd.R_types (Kd.R_types (Kd.R_types (Kd.R_types (Kd.R_types (Kd.R_types (Kd.R_types (HO446.out) BK389.out (by decide)) BK390.out (by decide)) BK419.out (by decide)) BK420.out (by decide)) BK438.out (by decide)) BK439.out (by decide)) BK465.out (by decide)).1 k_ hs_.symm).1.1.1.1.1.1.1.1.2) (fun hn_ => (Kd.fresh' (Kd.R_lt (Kd.R_ext HO416.out)) k_ hn_)), Or.elim hk_ (fun hs_ => ((Kd.R_types (Kd.R_types (Kd.R_types (Kd.R_types (Kd.R_types (Kd.R_types (Kd.R_types (HO446.out) BK389.out (by decide)) BK390.out (by decide)) BK419.out (by decide)) BK420.out (by decide)) BK438.out (by decide)) BK439.out (by decide)) BK465.out (by decide)).1 k_ hs_.symm).1.1.1.1.1.1.1.2) (fun hn_ => (Kd.fresh' (Kd.R_lt (Kd.R_ext HO454.out)) k_ hn_)), Or.elim hk_ (fun hs_ => ((Kd.R_types (Kd.R_types (Kd.R_types (Kd.R_types (Kd.R_types (Kd.R_types (Kd.R_types (HO446.out) BK389.out (by decide)) BK390.out (by decide)) BK419.out (by decide)) BK420.out (by decide)) BK438.out (by decide)) BK439.out (by decide)) BK465.out (by decide)).1 k_ hs_.symm).1.1.1.1.1.1.2) (fun hn_ => (Kd.freshB (bk BK389.out) k_ hn_)), Or.elim hk_ (fun hs_ => ((Kd.R_types (Kd.R_types (Kd.R_types (Kd.R_types (Kd.R_types (Kd.R_types (Kd.R_types (HO446.out) BK389.out (by decide)) BK390.out (by decide)) BK419.out (by decide)) BK420.out (by decide)) BK438.out (by decide)) BK439.out (by decide)) BK465.out (by decide)).1 k_ hs_.symm).1.1.1.1.1.2) (fun hn_ => (Kd.freshB (bk BK390.out) k_ hn_)), Or.elim hk_ (fun hs_ => ((Kd.R_types (Kd.R_types (Kd.R_types (Kd.R_types (Kd.R_types (Kd.R_types (Kd.R_types (HO446.out) BK389.out (by decide)) BK390.out (by decide)) BK419.out (by decide)) BK420.out (by decide)) BK438.out (by decide)) BK439.out (by decide)) BK465.out (by decide)).1 k_ hs_.symm).1.1.1.1.2) (fun hn_ => (Kd.freshB (bk BK419.out) k_ hn_)), Or.elim hk_ (fun hs_ => ((Kd.R_types (Kd.R_types (Kd.R_types (Kd.R_types (Kd.R_types (Kd.R_types (Kd.R_types (HO446.out) BK389.out (by decide)) BK390.out (by decide)) BK419.out (by decide)) BK420.out (by decide)) BK438.out (by decide)) BK439.out (by decide)) BK465.out (by decide)).1 k_ hs_.symm).1.1.1.2) (fun hn_ => (Kd.freshB (bk BK420.out) k_ hn_)), Or.elim hk_ (fun hs_ => ((Kd.R_types (Kd.R_types (Kd.R_types (Kd.R_types (Kd.R_types (Kd.R_types (Kd.R_types (HO446.out) BK389.out (by decide)) BK390.out (by decide)) BK419.out (by decide)) BK420.out (by decide)) BK438.out (by decide)) BK439.out (by decide)) BK465.out (by decide)).1 k_ hs_.symm).1.1.2) (fun hn_ => (Kd.freshB (bk BK438.out) k_ hn_)), Or.elim hk_ (fun hs_ => ((Kd.R_types (Kd.R_types (Kd.R_types (Kd.R_types (Kd.R_types (Kd.R_types (Kd.R_types (HO446.out) BK389.out (by decide)) BK390.out (by decide)) BK419.out (by decide)) BK420.out (by decide)) BK438.out (by decide)) BK439.out (by decide)) BK465.out (by decide)).1 k_ hs_.symm).1.2) (fun hn_ => (Kd.freshB (bk BK439.out) k_ hn_)), Or.elim hk_ (fun hs_ => ((Kd.R_types (Kd.R_types (Kd.R_types (Kd.R_types (Kd.R_types (Kd.R_types (Kd.R_types (HO446.out) BK389.out (by decide)) BK390.out (by decide)) BK419.out (by decide)) BK420.out (by decide)) BK438.out (by decide)) BK439.out (by decide)) BK465.out (by decide)).1 k_ hs_.symm).2) (fun hn_ => (Kd.freshB (bk BK465.out) k_ hn_))⟩)) (pbZ (by exact pbE HB.out)))
            replace HO400 := Az.mk (Kd.R_below (Kd.R_ext HO400.out) hb)
            replace HO416 := Az.mk (Kd.R_below (Kd.R_ext HO416.out) hb)
            replace HO446 := Az.mk (Kd.R_below (Kd.R_ext HO446.out) hb)
            replace HO454 := Az.mk (Kd.R_below (Kd.R_ext HO454.out) hb)
            replace BK389 := Az.mk (bkB (bk BK389.out) hb)
            replace BK390 := Az.mk (bkB (bk BK390.out) hb)
            replace BK419 := Az.mk (bkB (bk BK419.out) hb)
            replace BK420 := Az.mk (bkB (bk BK420.out) hb)
            replace BK438 := Az.mk (bkB (bk BK438.out) hb)
            replace BK439 := Az.mk (bkB (bk BK439.out) hb)
            replace BK465 := Az.mk (bkB (bk BK465.out) hb)
            replace HB := Az.mk (pbT (by exact pbE HB.out) hb)
            (try clear hb)
            (try clear hb2)
            (try clear hk)
            (try clear hi)
            (try clear ho0)
            refine hK.out _ _ ⟨(bkC BK389.out 0).trans rfl, (bkC BK389.out 1).trans rfl, (bkC BK389.out 2).trans rfl, (bkC BK389.out 3).trans rfl, (bkC BK389.out 4).trans rfl, (bkC BK389.out 5).trans rfl, (bkC BK390.out 0).trans rfl, (bkC BK390.out 1).trans rfl, (bkC BK390.out 2).trans rfl, (bkC BK390.out 3).trans rfl, (bkC BK390.out 4).trans rfl, (bkC BK390.out 5).trans rfl⟩ (fun hHeld => ?_)
            clear hK K
            refine norm_ (a' := ?_) ?_ ?_
            rotate_left
            ·show Act.put _ (some 55) _ = _
             simp only [Act.put, List.setIfInBounds_toArray, List.set_cons_zero, List.set_cons_succ, i64_w, i32_w]
             rfl
            refine pure_ (i := 5) (N := some 50) (v := ?_) (a' := ?_) #[true, true, true, true, true, true, false, false, true, false, false] rfl rfl (any_of HT_.out (by kernel_rfl)) (fun _ _ _ h => h) (Or.inl ⟨by rfl, ?_⟩) ?_ ?_
            rotate_left
            ·intro w'
             go_simp
             with_reducible rfl
            rotate_left
            ·simp only [Act.put, List.setIfInBounds_toArray, List.set_cons_zero, List.set_cons_succ, i64_w, i32_w]
             rfl
            refine pure_ (i := 6) (N := some 56) (v := ?_) (a' := ?_) #[true, true, true, true, true, true, true, false, true, false, false] rfl rfl (any_of HT_.out (by kernel_rfl)) (fun _ _ _ h => h) (Or.inl ⟨by rfl, ?_⟩) ?_ ?_
            rotate_left
            ·intro w'
             go_simp
             with_reducible rfl
            rotate_left
            ·simp only [Act.put, List.setIfInBounds_toArray, List.set_cons_zero, List.set_cons_succ, i64_w, i32_w]
             rfl
            refine pure_ (i := 7) (N := some 57) (v := ?_) (a' := ?_) #[true, true, true, true, true, true, true, true, true, false, false] rfl rfl (any_of HT_.out (by kernel_rfl)) (fun _ _ _ h => h) (Or.inl ⟨by rfl, ?_⟩) ?_ ?_
            rotate_left
            ·intro w'
             go_simp
             with_reducible rfl
            rotate_left
            ·simp only [Act.put, List.setIfInBounds_toArray, List.set_cons_zero, List.set_cons_succ, i64_w, i32_w]
             rfl
            exact norm_ (by simp only [putAll, Act.put, List.setIfInBounds_toArray, List.set_cons_zero, List.set_cons_succ]) (hCont (.slice Ao86 t444.length co86, .slice Ao87 t452.length co87, v461, gb465) _ ⟨hHeld, (by (with_reducible repeat (first | apply Kd.R_alloc | apply Kd.R_drewN | apply Kd.R_drew)); exact Kd.R_mono HO400.out (fun _ hk => ⟨hk.1.1, ⟨hk.1.2, hk.2⟩⟩)), (by (with_reducible repeat (first | apply Kd.V_alloc | apply Kd.V_drewN | apply Kd.V_drew)); exact Kd.V_mono HO408.out (fun _ hk => ⟨hk.1.1.1.1, ⟨hk.1.1.2, ⟨hk.2, ⟨hk.1.1.1.2.1, ⟨hk.1.1.1.2.2.1, ⟨hk.1.1.1.2.2.2.1, ⟨hk.1.1.1.2.2.2.2.1, ⟨hk.1.1.1.2.2.2.2.2.1, ⟨hk.1.1.1.2.2.2.2.2.2, hk.1.2⟩⟩⟩⟩⟩⟩⟩⟩⟩)), (by (with_reducible repeat (first | apply Kd.R_alloc | apply Kd.R_drewN | apply Kd.R_drew)); exact Kd.R_mono HO416.out (fun _ hk => ⟨hk.1.1, ⟨hk.1.2, hk.2⟩⟩)), (by (with_reducible repeat (first | apply Kd.V_alloc | apply Kd.V_drewN | apply Kd.V_drew)); exact Kd.V_mono HO427.out (fun _ hk => ⟨hk.1.1.1.1, ⟨hk.1.1.1.2.1, ⟨hk.1.1.2, ⟨hk.2, ⟨hk.1.1.1.2.2.1, ⟨hk.1.1.1.2.2.2.1, ⟨hk.1.1.1.2.2.2.2.1, ⟨hk.1.1.1.2.2.2.2.2.1, ⟨hk.1.1.1.2.2.2.2.2.2.1, ⟨hk.1.1.1.2.2.2.2.2.2.2, hk.1.2⟩⟩⟩⟩⟩⟩⟩⟩⟩⟩)), (by (with_reducible repeat (first | apply Kd.V_alloc | apply Kd.V_drewN | apply Kd.V_drew)); exact Kd.V_mono HO435.out (fun _ hk => ⟨hk.1.1.1.1, ⟨hk.1.1.1.2.1, ⟨hk.1.1.2, ⟨hk.2, ⟨hk.1.1.1.2.2.1, ⟨hk.1.1.1.2.2.2.1, ⟨hk.1.1.1.2.2.2.2.1, ⟨hk.1.1.1.2.2.2.2.2.1, ⟨hk.1.1.1.2.2.2.2.2.2.1, ⟨hk.1.1.1.2.2.2.2.2.2.2, hk.1.2⟩⟩⟩⟩⟩⟩⟩⟩⟩⟩)), (by (with_reducible repeat (first | apply Kd.R_alloc | apply Kd.R_drewN | apply Kd.R_drew)); exact Kd.R_mono HO446.out (fun _ hk => ⟨hk.1.1.2, ⟨hk.1.2, hk.2⟩⟩)), (by (with_reducible repeat (first | apply Kd.R_alloc | apply Kd.R_drewN | apply Kd.R_drew)); exact Kd.R_mono HO454.out (fun _ hk => ⟨hk.1.1.2, ⟨hk.1.2, hk.2⟩⟩)), (Kd.V_ext HO462.out), (bk BK389.out), (bk BK390.out), (bk BK419.out), (bk BK420.out), (bk BK438.out), (bk BK439.out), (bk BK465.out), GW465.out, GE465.out, NB389_465.out, NB465_389.out, NB390_465.out, NB465_390.out, NB419_465.out, NB465_419.out, NB420_465.out, NB465_420.out, NB438_465.out, NB465_438.out, NB439_465.out, NB465_439.out, (by exact pbE HB.out)⟩)
          ·skip
           refine box_step ?hg (N := 15) ?hd (cs := #[.int .i64 0, .string (⟨#[]⟩ : ByteArray), .string (⟨#[]⟩ : ByteArray), .int .i64 0, .slice none 0 0, .int .i64 0]) (t := 26) ?hr ?_; (case hd => rfl); (case hg => rfl); (case hr => first | (go_simp; done) | (go_simp; rfl))
           intro gb465 hg w83 hbox hb
           replace HO400 := Az.mk (Kd.R_below (Kd.R_ext HO400.out) hb)
           replace HO408 := Az.mk (Kd.V_below (Kd.V_elderB (Kd.V_ext HO408.out) gb465 (Nat.le_of_eq hg.symm)) hb)
           replace HO416 := Az.mk (Kd.R_below (Kd.R_ext HO416.out) hb)
           replace HO427 := Az.mk (Kd.V_below (Kd.V_elderB (Kd.V_ext HO427.out) gb465 (Nat.le_of_eq hg.symm)) hb)
           replace HO435 := Az.mk (Kd.V_below (Kd.V_elderB (Kd.V_ext HO435.out) gb465 (Nat.le_of_eq hg.symm)) hb)
           have BK465 := Az.mk (hbox)
           have GW465 := Az.mk (geO hg (pbE HB.out))
           have GE465 := Az.mk (geO hg (pbE HB.out))
           replace HB := Az.mk (pbT (by exact pbE HB.out) hb)
           have NB389_465 := Az.mk (neO hg (bk BK389.out))
           have NB465_389 := Az.mk (neP hg (bk BK389.out))
           replace BK389 := Az.mk (bkB (bk BK389.out) hb)
           have NB390_465 := Az.mk (neO hg (bk BK390.out))
           have NB465_390 := Az.mk (neP hg (bk BK390.out))
           replace BK390 := Az.mk (bkB (bk BK390.out) hb)
           have NB419_465 := Az.mk (neO hg (bk BK419.out))
           have NB465_419 := Az.mk (neP hg (bk BK419.out))
           replace BK419 := Az.mk (bkB (bk BK419.out) hb)
           have NB420_465 := Az.mk (neO hg (bk BK420.out))
           have NB465_420 := Az.mk (neP hg (bk BK420.out))
           replace BK420 := Az.mk (bkB (bk BK420.out) hb)
           have NB438_465 := Az.mk (neO hg (bk BK438.out))
           have NB465_438 := Az.mk (neP hg (bk BK438.out))
           replace BK438 := Az.mk (bkB (bk BK438.out) hb)
           have NB439_465 := Az.mk (neO hg (bk BK439.out))
           have NB465_439 := Az.mk (neP hg (bk BK439.out))
           replace BK439 := Az.mk (bkB (bk BK439.out) hb)
           clear hb hbox hg
           refine hK.out _ _ ⟨(bkC BK389.out 0).trans rfl, (bkC BK389.out 1).trans rfl, (bkC BK389.out 2).trans rfl, (bkC BK389.out 3).trans rfl, (bkC BK389.out 4).trans rfl, (bkC BK389.out 5).trans rfl, (bkC BK390.out 0).trans rfl, (bkC BK390.out 1).trans rfl, (bkC BK390.out 2).trans rfl, (bkC BK390.out 3).trans rfl, (bkC BK390.out 4).trans rfl, (bkC BK390.out 5).trans rfl⟩ (fun hHeld => ?_)
           clear hK K
           refine norm_ (a' := ?_) ?_ ?_
           rotate_left
           ·show Act.put _ (some 15) _ = _
            simp only [Act.put, List.setIfInBounds_toArray, List.set_cons_zero, List.set_cons_succ, i64_w, i32_w]
            rfl
           refine one_ (i := 1) (N := some 52) #[true, true, true, false, false, false, false, false, true, false, false] rfl rfl (one_of HT_.out (by kernel_rfl)) (by decide) (fun K hK => ?_)
           refine goes_ Tryd.func12 (by kernel_rfl) rfl #[.agg #[.int .i64 a0_0, .string a0_1, .string a0_2, .int .i64 a0_3, .slice A0_4 l0_4.length c0_4, .int .i64 a0_5]] (by rfl) rfl rfl (by (try simp only [List.map_toArray, List.map_cons, List.map_nil]); first | done | rfl | (simp only [List.length_drop, List.length_take]; rfl)) ?_
           with_reducible refine (l06_own.calls a0_0 a0_1 a0_2 a0_3 _ _ l0_4 a0_5 t440 t441 t442 t443 t444 t447 _ ?side1 ?side2 ?side3 A31.out).mono ?_
           (case side1 => exact hG.below (by exact pbE HB.out))
           (case side2 => repeat (first | exact (Kd.C_below HR0_4.out HB.out) | (with_reducible refine Kd.C_alloc ?_ _) | (with_reducible refine Kd.C_drewN ?_ _) | (with_reducible refine Kd.C_drew ?_)))
           (case side3 => exact HC0_4.out)
           rintro e w84 ⟨v445, rfl, ho0, hb⟩
           refine ⟨_, rfl, ?_⟩
           replace HO408 := Az.mk (Kd.V_elder' (Kd.V_ext HO408.out) (Kd.R_base ho0) hb)
           replace HO427 := Az.mk (Kd.V_elder' (Kd.V_ext HO427.out) (Kd.R_base ho0) hb)
           replace HO435 := Az.mk (Kd.V_elder' (Kd.V_ext HO435.out) (Kd.R_base ho0) hb)
           have HO446 := Az.mk (Kd.R_lower (Kd.R_new' (Kd.R_new' ho0 (Kd.R_lt (Kd.R_ext HO400.out))) (Kd.R_lt (Kd.R_ext HO416.out))) (pbZ (by exact pbE HB.out)))
           replace HO400 := Az.mk (Kd.R_elder' (Kd.R_ext HO400.out) (Kd.R_base ho0) hb)
           replace HO416 := Az.mk (Kd.R_elder' (Kd.R_ext HO416.out) (Kd.R_base ho0) hb)
           replace BK389 := Az.mk (bkB (bk BK389.out) hb)
           replace BK390 := Az.mk (bkB (bk BK390.out) hb)
           replace BK419 := Az.mk (bkB (bk BK419.out) hb)
           replace BK420 := Az.mk (bkB (bk BK420.out) hb)
           replace BK438 := Az.mk (bkB (bk BK438.out) hb)
           replace BK439 := Az.mk (bkB (bk BK439.out) hb)
           replace BK465 := Az.mk (bkB (bk BK465.out) hb)
           replace HB := Az.mk (pbT (by exact pbE HB.out) hb)
           (try clear hb)
           (try clear hb2)
           (try clear hk)
           (try clear hi)
           (try clear ho0)
           refine hK.out _ _ ⟨(bkC BK389.out 0).trans rfl, (bkC BK389.out 1).trans rfl, (bkC BK389.out 2).trans rfl, (bkC BK389.out 3).trans rfl, (bkC BK389.out 4).trans rfl, (bkC BK389.out 5).trans rfl, (bkC BK390.out 0).trans rfl, (bkC BK390.out 1).trans rfl, (bkC BK390.out 2).trans rfl, (bkC BK390.out 3).trans rfl, (bkC BK390.out 4).trans rfl, (bkC BK390.out 5).trans rfl⟩ (fun hHeld => ?_)
           clear hK K
           refine norm_ (a' := ?_) ?_ ?_
           rotate_left
           ·show Act.put _ (some 52) _ = _
            simp only [Act.put, List.setIfInBounds_toArray, List.set_cons_zero, List.set_cons_succ, i64_w, i32_w]
            rfl
           refine one_ (i := 3) (N := some 54) #[true, true, true, true, false, false, false, false, true, false, false] rfl rfl (one_of HT_.out (by kernel_rfl)) (by decide) (fun K hK => ?_)
           refine goes_ Tryd.func12 (by kernel_rfl) rfl #[.agg #[.int .i64 a3_0, .string a3_1, .string a3_2, .int .i64 a3_3, .slice A3_4 l3_4.length c3_4, .int .i64 a3_5]] (by rfl) rfl rfl (by (try simp only [List.map_toArray, List.map_cons, List.map_nil]); first | done | rfl | (simp only [List.length_drop, List.length_take]; rfl)) ?_
           with_reducible refine (l06_own.calls a3_0 a3_1 a3_2 a3_3 _ _ l3_4 a3_5 t448 t449 t450 t451 t452 t455 _ ?side1 ?side2 ?side3 A32.out).mono ?_
           (case side1 => exact hG.below (by exact pbE HB.out))
           (case side2 => repeat (first | exact (Kd.C_below HR3_4.out HB.out) | (with_reducible refine Kd.C_alloc ?_ _) | (with_reducible refine Kd.C_drewN ?_ _) | (with_reducible refine Kd.C_drew ?_)))
           (case side3 => exact HC3_4.out)
           rintro e w85 ⟨v453, rfl, ho0, hb⟩
           refine ⟨_, rfl, ?_⟩
           replace HO408 := Az.mk (Kd.V_elder' (Kd.V_ext HO408.out) (Kd.R_base ho0) hb)
           replace HO427 := Az.mk (Kd.V_elder' (Kd.V_ext HO427.out) (Kd.R_base ho0) hb)
           replace HO435 := Az.mk (Kd.V_elder' (Kd.V_ext HO435.out) (Kd.R_base ho0) hb)
           have HO454 := Az.mk (Kd.R_lower (Kd.R_new' (Kd.R_new' (Kd.R_new' ho0 (Kd.R_lt (Kd.R_ext HO400.out))) (Kd.R_lt (Kd.R_ext HO416.out))) (Kd.R_lt (Kd.R_ext HO446.out))) (pbZ (by exact pbE HB.out)))
           replace HO400 := Az.mk (Kd.R_elder' (Kd.R_ext HO400.out) (Kd.R_base ho0) hb)
           replace HO416 := Az.mk (Kd.R_elder' (Kd.R_ext HO416.out) (Kd.R_base ho0) hb)
           replace HO446 := Az.mk (Kd.R_elder' (Kd.R_ext HO446.out) (Kd.R_base ho0) hb)
           replace BK389 := Az.mk (bkB (bk BK389.out) hb)
           replace BK390 := Az.mk (bkB (bk BK390.out) hb)
           replace BK419 := Az.mk (bkB (bk BK419.out) hb)
           replace BK420 := Az.mk (bkB (bk BK420.out) hb)
           replace BK438 := Az.mk (bkB (bk BK438.out) hb)
           replace BK439 := Az.mk (bkB (bk BK439.out) hb)
           replace BK465 := Az.mk (bkB (bk BK465.out) hb)
           replace HB := Az.mk (pbT (by exact pbE HB.out) hb)
           (try clear hb)
           (try clear hb2)
           (try clear hk)
           (try clear hi)
           (try clear ho0)
           obtain ⟨Ao86, co86, eo86⟩ := Kd.R_slice HO446.out
           (first | subst eo86 | (injection eo86 with f1_ f2_ f3_; have f4_ := f1_.symm; have f5_ := f3_.symm; clear f1_ f2_ f3_; subst f4_; subst f5_))
           obtain ⟨Ao87, co87, eo87⟩ := Kd.R_slice HO454.out
           (first | subst eo87 | (injection eo87 with f1_ f2_ f3_; have f4_ := f1_.symm; have f5_ := f3_.symm; clear f1_ f2_ f3_; subst f4_; subst f5_))
           refine hK.out _ _ ⟨(bkC BK389.out 0).trans rfl, (bkC BK389.out 1).trans rfl, (bkC BK389.out 2).trans rfl, (bkC BK389.out 3).trans rfl, (bkC BK389.out 4).trans rfl, (bkC BK389.out 5).trans rfl, (bkC BK390.out 0).trans rfl, (bkC BK390.out 1).trans rfl, (bkC BK390.out 2).trans rfl, (bkC BK390.out 3).trans rfl, (bkC BK390.out 4).trans rfl, (bkC BK390.out 5).trans rfl⟩ (fun hHeld => ?_)
           clear hK K
           refine norm_ (a' := ?_) ?_ ?_
           rotate_left
           ·show Act.put _ (some 54) _ = _
            simp only [Act.put, List.setIfInBounds_toArray, List.set_cons_zero, List.set_cons_succ, i64_w, i32_w]
            rfl
           refine one_ (i := 4) (N := some 55) #[true, true, true, true, true, false, false, false, true, false, false] rfl rfl (one_of HT_.out (by kernel_rfl)) (by decide) (fun K hK => ?_)
           refine goes_ Tryd.func14 (by kernel_rfl) rfl #[.agg #[.int .i64 t440, .string t441, .string t442, .int .i64 t443, .slice Ao86 t444.length co86, .int .i64 t447], .agg #[.int .i64 t448, .string t449, .string t450, .int .i64 t451, .slice Ao87 t452.length co87, .int .i64 t455]] (by rfl) rfl rfl (by (try simp only [List.map_toArray, List.map_cons, List.map_nil]); first | done | rfl | (simp only [List.length_drop, List.length_take]; rfl)) ?_
           with_reducible refine (desc_Merge.calls kj4 t440 t441 t442 t443 (fun k_ => some k_ = (.slice Ao86 t444.length co86 : Value).ownBlock) _ _ t444 t447 t448 t449 t450 t451 _ _ t452 t455 t456 t457 t458 t459 t460 t463 t464 _ ?side1 ?side2 ?side3 ?side4 A33.out).mono ?_
           (case side1 => exact hG.below (by exact pbE HB.out))
           (case side2 => exact Kd.R_V (Kd.R_tight rfl (Kd.R_types (Kd.R_types (Kd.R_types (Kd.R_types (Kd.R_types (Kd.R_types (Kd.R_types (HO446.out) BK389.out (by decide)) BK390.out (by decide)) BK419.out (by decide)) BK420.out (by decide)) BK438.out (by decide)) BK439.out (by decide)) BK465.out (by decide))))
           (case side3 => exact Kd.C_ext (Kd.R_reads' HO454.out).2.2)
           (case side4 => exact (Kd.R_reads' HO454.out).2.1)
           rintro e w88 ⟨v461, rfl, ho0, hb⟩
           refine ⟨_, rfl, ?_⟩
           replace HO408 := Az.mk (Kd.V_below (Kd.V_ext HO408.out) hb)
           replace HO427 := Az.mk (Kd.V_below (Kd.V_ext HO427.out) hb)
           replace HO435 := Az.mk (Kd.V_below (Kd.V_ext HO435.out) hb)
           have HO462 := Az.mk (Kd.V_lower (Kd.V_mono (ok' := fun k_ => some k_ ≠ (.slice Ao49 t398.length co49 : Value).ownBlock ∧ some k_ ≠ (.slice Ao62 t414.length co62 : Value).ownBlock ∧ some k_ ≠ (.slice Ao87 t452.length co87 : Value).ownBlock ∧ k_ ≠ gb389 ∧ k_ ≠ gb390 ∧ k_ ≠ gb419 ∧ k_ ≠ gb420 ∧ k_ ≠ gb438 ∧ k_ ≠ gb439 ∧ k_ ≠ gb465) ho0 (fun k_ hk_ => ⟨Or.elim hk_ (fun hs_ => ((Kd.R_types (Kd.R_types (Kd.R_types (Kd.R_types (Kd.R_types (Kd.R_types (Kd.R_types (HO446.out) BK389.out (by decide)) BK390.out (by decide)) BK419.out (by decide)) BK420.out (by decide)) BK438.out (by decide)) BK439.out (by decide)) BK465.out (by decide)).1 k_ hs_.symm).1.1.1.1.1.1.1.1.1.2) (fun hn_ => (Kd.fresh' (Kd.R_lt (Kd.R_ext HO400.out)) k_ hn_)), Or.elim hk_ (fun hs_ => ((Kd.R_types (Kd.R_types (Kd.R_types (Kd.R_types (Kd.R_types (Kd.R_types (Kd.R_types (HO446.out) BK389.out (by decide)) BK390.out (by decide)) BK419.out (by decide)) BK420.out (by decide)) BK438.out (by decide)) BK439.out (by decide)) BK465.out (by decide)).1 k_ hs_.symm).1.1.1.1.1.1.1.1.2) (fun hn_ => (Kd.fresh' (Kd.R_lt (Kd.R_ext HO416.out)) k_ hn_)), Or.elim hk_ (fun hs_ => ((Kd.R_types (Kd.R_types (Kd.R_types (Kd.R_types (Kd.R_types (Kd.R_types (Kd.R_types (HO446.out) BK389.out (by decide)) BK390.out (by decide)) BK419.out (by decide)) BK420.out (by decide)) BK438.out (by decide)) BK439.out (by decide)) BK465.out (by decide)).1 k_ hs_.symm).1.1.1.1.1.1.1.2) (fun hn_ => (Kd.fresh' (Kd.R_lt (Kd.R_ext HO454.out)) k_ hn_)), Or.elim hk_ (fun hs_ => ((Kd.R_types (Kd.R_types (Kd.R_types (Kd.R_types (Kd.R_types (Kd.R_types (Kd.R_types (HO446.out) BK389.out (by decide)) BK390.out (by decide)) BK419.out (by decide)) BK420.out (by decide)) BK438.out (by decide)) BK439.out (by decide)) BK465.out (by decide)).1 k_ hs_.symm).1.1.1.1.1.1.2) (fun hn_ => (Kd.freshB (bk BK389.out) k_ hn_)), Or.elim hk_ (fun hs_ => ((Kd.R_types (Kd.R_types (Kd.R_types (Kd.R_types (Kd.R_types (Kd.R_types (Kd.R_types (HO446.out) BK389.out (by decide)) BK390.out (by decide)) BK419.out (by decide)) BK420.out (by decide)) BK438.out (by decide)) BK439.out (by decide)) BK465.out (by decide)).1 k_ hs_.symm).1.1.1.1.1.2) (fun hn_ => (Kd.freshB (bk BK390.out) k_ hn_)), Or.elim hk_ (fun hs_ => ((Kd.R_types (Kd.R_types (Kd.R_types (Kd.R_types (Kd.R_types (Kd.R_types (Kd.R_types (HO446.out) BK389.out (by decide)) BK390.out (by decide)) BK419.out (by decide)) BK420.out (by decide)) BK438.out (by decide)) BK439.out (by decide)) BK465.out (by decide)).1 k_ hs_.symm).1.1.1.1.2) (fun hn_ => (Kd.freshB (bk BK419.out) k_ hn_)), Or.elim hk_ (fun hs_ => ((Kd.R_types (Kd.R_types (Kd.R_types (Kd.R_types (Kd.R_types (Kd.R_types (Kd.R_types (HO446.out) BK389.out (by decide)) BK390.out (by decide)) BK419.out (by decide)) BK420.out (by decide)) BK438.out (by decide)) BK439.out (by decide)) BK465.out (by decide)).1 k_ hs_.symm).1.1.1.2) (fun hn_ => (Kd.freshB (bk BK420.out) k_ hn_)), Or.elim hk_ (fun hs_ => ((Kd.R_types (Kd.R_types (Kd.R_types (Kd.R_types (Kd.R_types (Kd.R_types (Kd.R_types (HO446.out) BK389.out (by decide)) BK390.out (by decide)) BK419.out (by decide)) BK420.out (by decide)) BK438.out (by decide)) BK439.out (by decide)) BK465.out (by decide)).1 k_ hs_.symm).1.1.2) (fun hn_ => (Kd.freshB (bk BK438.out) k_ hn_)), Or.elim hk_ (fun hs_ => ((Kd.R_types (Kd.R_types (Kd.R_types (Kd.R_types (Kd.R_types (Kd.R_types (Kd.R_types (HO446.out) BK389.out (by decide)) BK390.out (by decide)) BK419.out (by decide)) BK420.out (by decide)) BK438.out (by decide)) BK439.out (by decide)) BK465.out (by decide)).1 k_ hs_.symm).1.2) (fun hn_ => (Kd.freshB (bk BK439.out) k_ hn_)), Or.elim hk_ (fun hs_ => ((Kd.R_types (Kd.R_types (Kd.R_types (Kd.R_types (Kd.R_types (Kd.R_types (Kd.R_types (HO446.out) BK389.out (by decide)) BK390.out (by decide)) BK419.out (by decide)) BK420.out (by decide)) BK438.out (by decide)) BK439.out (by decide)) BK465.out (by decide)).1 k_ hs_.symm).2) (fun hn_ => (Kd.freshB (bk BK465.out) k_ hn_))⟩)) (pbZ (by exact pbE HB.out)))
           replace HO400 := Az.mk (Kd.R_below (Kd.R_ext HO400.out) hb)
           replace HO416 := Az.mk (Kd.R_below (Kd.R_ext HO416.out) hb)
           replace HO446 := Az.mk (Kd.R_below (Kd.R_ext HO446.out) hb)
           replace HO454 := Az.mk (Kd.R_below (Kd.R_ext HO454.out) hb)
           replace BK389 := Az.mk (bkB (bk BK389.out) hb)
           replace BK390 := Az.mk (bkB (bk BK390.out) hb)
           replace BK419 := Az.mk (bkB (bk BK419.out) hb)
           replace BK420 := Az.mk (bkB (bk BK420.out) hb)
           replace BK438 := Az.mk (bkB (bk BK438.out) hb)
           replace BK439 := Az.mk (bkB (bk BK439.out) hb)
           replace BK465 := Az.mk (bkB (bk BK465.out) hb)
           replace HB := Az.mk (pbT (by exact pbE HB.out) hb)
           (try clear hb)
           (try clear hb2)
           (try clear hk)
           (try clear hi)
           (try clear ho0)
           refine hK.out _ _ ⟨(bkC BK389.out 0).trans rfl, (bkC BK389.out 1).trans rfl, (bkC BK389.out 2).trans rfl, (bkC BK389.out 3).trans rfl, (bkC BK389.out 4).trans rfl, (bkC BK389.out 5).trans rfl, (bkC BK390.out 0).trans rfl, (bkC BK390.out 1).trans rfl, (bkC BK390.out 2).trans rfl, (bkC BK390.out 3).trans rfl, (bkC BK390.out 4).trans rfl, (bkC BK390.out 5).trans rfl⟩ (fun hHeld => ?_)
           clear hK K
           refine norm_ (a' := ?_) ?_ ?_
           rotate_left
           ·show Act.put _ (some 55) _ = _
            simp only [Act.put, List.setIfInBounds_toArray, List.set_cons_zero, List.set_cons_succ, i64_w, i32_w]
            rfl
           refine pure_ (i := 5) (N := some 50) (v := ?_) (a' := ?_) #[true, true, true, true, true, true, false, false, true, false, false] rfl rfl (any_of HT_.out (by kernel_rfl)) (fun _ _ _ h => h) (Or.inl ⟨by rfl, ?_⟩) ?_ ?_
           rotate_left
           ·intro w'
            go_simp
            with_reducible rfl
           rotate_left
           ·simp only [Act.put, List.setIfInBounds_toArray, List.set_cons_zero, List.set_cons_succ, i64_w, i32_w]
            rfl
           refine pure_ (i := 6) (N := some 56) (v := ?_) (a' := ?_) #[true, true, true, true, true, true, true, false, true, false, false] rfl rfl (any_of HT_.out (by kernel_rfl)) (fun _ _ _ h => h) (Or.inl ⟨by rfl, ?_⟩) ?_ ?_
           rotate_left
           ·intro w'
            go_simp
            with_reducible rfl
           rotate_left
           ·simp only [Act.put, List.setIfInBounds_toArray, List.set_cons_zero, List.set_cons_succ, i64_w, i32_w]
            rfl
           refine pure_ (i := 7) (N := some 57) (v := ?_) (a' := ?_) #[true, true, true, true, true, true, true, true, true, false, false] rfl rfl (any_of HT_.out (by kernel_rfl)) (fun _ _ _ h => h) (Or.inl ⟨by rfl, ?_⟩) ?_ ?_
           rotate_left
           ·intro w'
            go_simp
            with_reducible rfl
           rotate_left
           ·simp only [Act.put, List.setIfInBounds_toArray, List.set_cons_zero, List.set_cons_succ, i64_w, i32_w]
            rfl
           exact norm_ (by simp only [putAll, Act.put, List.setIfInBounds_toArray, List.set_cons_zero, List.set_cons_succ]) (hCont (.slice Ao86 t444.length co86, .slice Ao87 t452.length co87, v461, gb465) _ ⟨hHeld, (by (with_reducible repeat (first | apply Kd.R_alloc | apply Kd.R_drewN | apply Kd.R_drew)); exact Kd.R_mono HO400.out (fun _ hk => ⟨hk.1.1, ⟨hk.1.2, hk.2⟩⟩)), (by (with_reducible repeat (first | apply Kd.V_alloc | apply Kd.V_drewN | apply Kd.V_drew)); exact Kd.V_mono HO408.out (fun _ hk => ⟨hk.1.1.1.1, ⟨hk.1.2, ⟨hk.2, ⟨hk.1.1.1.2.1, ⟨hk.1.1.1.2.2.1, ⟨hk.1.1.1.2.2.2.1, ⟨hk.1.1.1.2.2.2.2.1, ⟨hk.1.1.1.2.2.2.2.2.1, ⟨hk.1.1.1.2.2.2.2.2.2, hk.1.1.2⟩⟩⟩⟩⟩⟩⟩⟩⟩)), (by (with_reducible repeat (first | apply Kd.R_alloc | apply Kd.R_drewN | apply Kd.R_drew)); exact Kd.R_mono HO416.out (fun _ hk => ⟨hk.1.1, ⟨hk.1.2, hk.2⟩⟩)), (by (with_reducible repeat (first | apply Kd.V_alloc | apply Kd.V_drewN | apply Kd.V_drew)); exact Kd.V_mono HO427.out (fun _ hk => ⟨hk.1.1.1.1, ⟨hk.1.1.1.2.1, ⟨hk.1.2, ⟨hk.2, ⟨hk.1.1.1.2.2.1, ⟨hk.1.1.1.2.2.2.1, ⟨hk.1.1.1.2.2.2.2.1, ⟨hk.1.1.1.2.2.2.2.2.1, ⟨hk.1.1.1.2.2.2.2.2.2.1, ⟨hk.1.1.1.2.2.2.2.2.2.2, hk.1.1.2⟩⟩⟩⟩⟩⟩⟩⟩⟩⟩)), (by (with_reducible repeat (first | apply Kd.V_alloc | apply Kd.V_drewN | apply Kd.V_drew)); exact Kd.V_mono HO435.out (fun _ hk => ⟨hk.1.1.1.1, ⟨hk.1.1.1.2.1, ⟨hk.1.2, ⟨hk.2, ⟨hk.1.1.1.2.2.1, ⟨hk.1.1.1.2.2.2.1, ⟨hk.1.1.1.2.2.2.2.1, ⟨hk.1.1.1.2.2.2.2.2.1, ⟨hk.1.1.1.2.2.2.2.2.2.1, ⟨hk.1.1.1.2.2.2.2.2.2.2, hk.1.1.2⟩⟩⟩⟩⟩⟩⟩⟩⟩⟩)), (by (with_reducible repeat (first | apply Kd.R_alloc | apply Kd.R_drewN | apply Kd.R_drew)); exact Kd.R_mono HO446.out (fun _ hk => ⟨hk.1.1.2, ⟨hk.1.2, hk.2⟩⟩)), (by (with_reducible repeat (first | apply Kd.R_alloc | apply Kd.R_drewN | apply Kd.R_drew)); exact Kd.R_mono HO454.out (fun _ hk => ⟨hk.1.1.2, ⟨hk.1.2, hk.2⟩⟩)), (Kd.V_ext HO462.out), (bk BK389.out), (bk BK390.out), (bk BK419.out), (bk BK420.out), (bk BK438.out), (bk BK439.out), (bk BK465.out), GW465.out, GE465.out, NB389_465.out, NB465_389.out, NB390_465.out, NB465_390.out, NB419_465.out, NB465_419.out, NB420_465.out, NB465_420.out, NB438_465.out, NB465_438.out, NB439_465.out, NB465_439.out, (by exact pbE HB.out)⟩)
         rintro ⟨v445, v453, v461, gb465⟩ w89 ⟨hS_, h0_, h1_, h2_, h3_, h4_, h5_, h6_, h7_, h8_, h9_, h10_, h11_, h12_, h13_, h14_, h15_, h16_, h17_, h18_, h19_, h20_, h21_, h22_, h23_, h24_, h25_, h26_, h27_, h28_, h29_⟩
         have n0_ : Az (Kd.R k60 60 w89 w.heap.size (fun k_ => some k_ ≠ (.slice Ao62 t414.length co62 : Value).ownBlock ∧ some k_ ≠ (v445 : Value).ownBlock ∧ some k_ ≠ (v453 : Value).ownBlock) (.slice Ao49 t398.length co49) t398) := ⟨h0_⟩
         have n1_ : Az (Kd.V k60 60 w89 w.heap.size (fun k_ => some k_ ≠ (.slice Ao62 t414.length co62 : Value).ownBlock ∧ some k_ ≠ (v445 : Value).ownBlock ∧ some k_ ≠ (v453 : Value).ownBlock ∧ k_ ≠ gb389 ∧ k_ ≠ gb390 ∧ k_ ≠ gb419 ∧ k_ ≠ gb420 ∧ k_ ≠ gb438 ∧ k_ ≠ gb439 ∧ k_ ≠ gb465) (.slice Ao57 t406.length co57) t406) := ⟨h1_⟩
         have n2_ : Az (Kd.R k60 60 w89 w.heap.size (fun k_ => some k_ ≠ (.slice Ao49 t398.length co49 : Value).ownBlock ∧ some k_ ≠ (v445 : Value).ownBlock ∧ some k_ ≠ (v453 : Value).ownBlock) (.slice Ao62 t414.length co62) t414) := ⟨h2_⟩
         have n3_ : Az (Kd.V k60 60 w89 w.heap.size (fun k_ => some k_ ≠ (.slice Ao49 t398.length co49 : Value).ownBlock ∧ some k_ ≠ (.slice Ao62 t414.length co62 : Value).ownBlock ∧ some k_ ≠ (v445 : Value).ownBlock ∧ some k_ ≠ (v453 : Value).ownBlock ∧ k_ ≠ gb389 ∧ k_ ≠ gb390 ∧ k_ ≠ gb419 ∧ k_ ≠ gb420 ∧ k_ ≠ gb438 ∧ k_ ≠ gb439 ∧ k_ ≠ gb465) (.slice Ao74 t425.length co74) t425) := ⟨h3_⟩
         have n4_ : Az (Kd.V k60 60 w89 w.heap.size (fun k_ => some k_ ≠ (.slice Ao49 t398.length co49 : Value).ownBlock ∧ some k_ ≠ (.slice Ao62 t414.length co62 : Value).ownBlock ∧ some k_ ≠ (v445 : Value).ownBlock ∧ some k_ ≠ (v453 : Value).ownBlock ∧ k_ ≠ gb389 ∧ k_ ≠ gb390 ∧ k_ ≠ gb419 ∧ k_ ≠ gb420 ∧ k_ ≠ gb438 ∧ k_ ≠ gb439 ∧ k_ ≠ gb465) (.slice Ao80 t433.length co80) t433) := ⟨h4_⟩
         have n5_ : Az (Kd.R k60 60 w89 w.heap.size (fun k_ => some k_ ≠ (.slice Ao49 t398.length co49 : Value).ownBlock ∧ some k_ ≠ (.slice Ao62 t414.length co62 : Value).ownBlock ∧ some k_ ≠ (v453 : Value).ownBlock) v445 t444) := ⟨h5_⟩
         have n6_ : Az (Kd.R k60 60 w89 w.heap.size (fun k_ => some k_ ≠ (.slice Ao49 t398.length co49 : Value).ownBlock ∧ some k_ ≠ (.slice Ao62 t414.length co62 : Value).ownBlock ∧ some k_ ≠ (v445 : Value).ownBlock) v453 t452) := ⟨h6_⟩
         have n7_ : Az (Kd.V k60 60 w89 w.heap.size (fun k_ => some k_ ≠ (.slice Ao49 t398.length co49 : Value).ownBlock ∧ some k_ ≠ (.slice Ao62 t414.length co62 : Value).ownBlock ∧ some k_ ≠ (v453 : Value).ownBlock ∧ k_ ≠ gb389 ∧ k_ ≠ gb390 ∧ k_ ≠ gb419 ∧ k_ ≠ gb420 ∧ k_ ≠ gb438 ∧ k_ ≠ gb439 ∧ k_ ≠ gb465) v461 t460) := ⟨h7_⟩
         have n8_ : Az (w89.heap[gb389]? = some (.cells #[.int .i64 a0_0, .string a0_1, .string a0_2, .int .i64 a0_3, .slice A0_4 l0_4.length c0_4, .int .i64 a0_5] 26 (0, 0))) := ⟨h8_⟩
         have n9_ : Az (w89.heap[gb390]? = some (.cells #[.int .i64 a3_0, .string a3_1, .string a3_2, .int .i64 a3_3, .slice A3_4 l3_4.length c3_4, .int .i64 a3_5] 26 (0, 0))) := ⟨h9_⟩
         have n10_ : Az (w89.heap[gb419]? = some (.cells #[.int .i64 t402, .string t403, .string t404, .int .i64 t405, .slice Ao57 t406.length co57, .int .i64 t409] 26 (0, 0))) := ⟨h10_⟩
         have n11_ : Az (w89.heap[gb420]? = some (.cells #[.int .i64 t410, .string t411, .string t412, .int .i64 t413, .slice Ao62 t414.length co62, .int .i64 t417] 26 (0, 0))) := ⟨h11_⟩
         have n12_ : Az (w89.heap[gb438]? = some (.cells #[.int .i64 t421, .string t422, .string t423, .int .i64 t424, .slice Ao74 t425.length co74, .int .i64 t428] 26 (0, 0))) := ⟨h12_⟩
         have n13_ : Az (w89.heap[gb439]? = some (.cells #[.int .i64 t429, .string t430, .string t431, .int .i64 t432, .slice Ao80 t433.length co80, .int .i64 t436] 26 (0, 0))) := ⟨h13_⟩
         have n14_ : Az (w89.heap[gb465]? = some (.cells #[.int .i64 0, .string (⟨#[]⟩ : ByteArray), .string (⟨#[]⟩ : ByteArray), .int .i64 0, .slice none 0 0, .int .i64 0] 26 (0, 0))) := ⟨h14_⟩
         have n15_ : Az (w.heap.size ≤ gb465) := ⟨h15_⟩
         have n16_ : Az (w.heap.size ≤ gb465) := ⟨h16_⟩
         have n17_ : Az (gb389 ≠ gb465) := ⟨h17_⟩
         have n18_ : Az (gb465 ≠ gb389) := ⟨h18_⟩
         have n19_ : Az (gb390 ≠ gb465) := ⟨h19_⟩
         have n20_ : Az (gb465 ≠ gb390) := ⟨h20_⟩
         have n21_ : Az (gb419 ≠ gb465) := ⟨h21_⟩
         have n22_ : Az (gb465 ≠ gb419) := ⟨h22_⟩
         have n23_ : Az (gb420 ≠ gb465) := ⟨h23_⟩
         have n24_ : Az (gb465 ≠ gb420) := ⟨h24_⟩
         have n25_ : Az (gb438 ≠ gb465) := ⟨h25_⟩
         have n26_ : Az (gb465 ≠ gb438) := ⟨h26_⟩
         have n27_ : Az (gb439 ≠ gb465) := ⟨h27_⟩
         have n28_ : Az (gb465 ≠ gb439) := ⟨h28_⟩
         have n29_ : Az (Below w.heap.size w w89) := ⟨h29_⟩
         clear HO400
         clear HO408
         clear HO416
         clear HO427
         clear HO435
         clear BK389
         clear BK390
         clear BK419
         clear BK420
         clear BK438
         clear BK439
         clear HB
         clear h0_ h1_ h2_ h3_ h4_ h5_ h6_ h7_ h8_ h9_ h10_ h11_ h12_ h13_ h14_ h15_ h16_ h17_ h18_ h19_ h20_ h21_ h22_ h23_ h24_ h25_ h26_ h27_ h28_ h29_
         have HO400 := n0_
         have HO408 := n1_
         have HO416 := n2_
         have HO427 := n3_
         have HO435 := n4_
         have HO446 := n5_
         have HO454 := n6_
         have HO462 := n7_
         have BK389 := n8_
         have BK390 := n9_
         have BK419 := n10_
         have BK420 := n11_
         have BK438 := n12_
         have BK439 := n13_
         have BK465 := n14_
         have GW465 := n15_
         have GE465 := n16_
         have NB389_465 := n17_
         have NB465_389 := n18_
         have NB390_465 := n19_
         have NB465_390 := n20_
         have NB419_465 := n21_
         have NB465_419 := n22_
         have NB420_465 := n23_
         have NB465_420 := n24_
         have NB438_465 := n25_
         have NB465_438 := n26_
         have NB439_465 := n27_
         have NB465_439 := n28_
         have HB := n29_
         clear n0_ n1_ n2_ n3_ n4_ n5_ n6_ n7_ n8_ n9_ n10_ n11_ n12_ n13_ n14_ n15_ n16_ n17_ n18_ n19_ n20_ n21_ n22_ n23_ n24_ n25_ n26_ n27_ n28_ n29_
         have hHeld : w89.cell? ⟨gb389, 0, none⟩ = some (.int .i64 a0_0) ∧ w89.cell? ⟨gb389, 1, none⟩ = some (.string a0_1) ∧ w89.cell? ⟨gb389, 2, none⟩ = some (.string a0_2) ∧ w89.cell? ⟨gb389, 3, none⟩ = some (.int .i64 a0_3) ∧ w89.cell? ⟨gb389, 4, none⟩ = some (.slice A0_4 l0_4.length c0_4) ∧ w89.cell? ⟨gb389, 5, none⟩ = some (.int .i64 a0_5) ∧ w89.cell? ⟨gb390, 0, none⟩ = some (.int .i64 a3_0) ∧ w89.cell? ⟨gb390, 1, none⟩ = some (.string a3_1) ∧ w89.cell? ⟨gb390, 2, none⟩ = some (.string a3_2) ∧ w89.cell? ⟨gb390, 3, none⟩ = some (.int .i64 a3_3) ∧ w89.cell? ⟨gb390, 4, none⟩ = some (.slice A3_4 l3_4.length c3_4) ∧ w89.cell? ⟨gb390, 5, none⟩ = some (.int .i64 a3_5) := hS_
         obtain ⟨Ao94, co94, eo94⟩ := Kd.V_slice HO462.out
         (first | subst eo94 | (injection eo94 with f1_ f2_ f3_; have f4_ := f1_.symm; have f5_ := f3_.symm; clear f1_ f2_ f3_; subst f4_; subst f5_))
         refine norm_ (a' := ?_) ?_ ?_
         rotate_left
         ·simp only [putAll, Act.put, List.setIfInBounds_toArray, List.set_cons_zero, List.set_cons_succ]
          rfl
         refine one_ (i := 9) (N := none) #[true, true, true, true, true, true, true, true, true, true, false] rfl rfl (one_of HT_.out (by kernel_rfl)) (by decide) (fun K hK => ?_)
         have hs90 : w89.cell? ⟨gb465, 0, none⟩ = some (.int .i64 0) := (bkC BK465.out 0).trans rfl
         have hfs90 := bkF BK465.out 0
         have hns90_0 := NB389_465.out
         have hns90_1 := NB390_465.out
         have hns90_2 := NB419_465.out
         have hns90_3 := NB420_465.out
         have hns90_4 := NB438_465.out
         have hns90_5 := NB439_465.out
         have hms90_0 := NB465_389.out
         have hms90_1 := NB465_390.out
         have hms90_2 := NB465_419.out
         have hms90_3 := NB465_420.out
         have hms90_4 := NB465_438.out
         have hms90_5 := NB465_439.out
         have hs91 : w89.cell? ⟨gb465, 1, none⟩ = some (.string (⟨#[]⟩ : ByteArray)) := (bkC BK465.out 1).trans rfl
         have hfs91 := bkF BK465.out 1
         have hns91_0 := NB389_465.out
         have hns91_1 := NB390_465.out
         have hns91_2 := NB419_465.out
         have hns91_3 := NB420_465.out
         have hns91_4 := NB438_465.out
         have hns91_5 := NB439_465.out
         have hms91_0 := NB465_389.out
         have hms91_1 := NB465_390.out
         have hms91_2 := NB465_419.out
         have hms91_3 := NB465_420.out
         have hms91_4 := NB465_438.out
         have hms91_5 := NB465_439.out
         have hs92 : w89.cell? ⟨gb465, 2, none⟩ = some (.string (⟨#[]⟩ : ByteArray)) := (bkC BK465.out 2).trans rfl
         have hfs92 := bkF BK465.out 2
         have hns92_0 := NB389_465.out
         have hns92_1 := NB390_465.out
         have hns92_2 := NB419_465.out
         have hns92_3 := NB420_465.out
         have hns92_4 := NB438_465.out
         have hns92_5 := NB439_465.out
         have hms92_0 := NB465_389.out
         have hms92_1 := NB465_390.out
         have hms92_2 := NB465_419.out
         have hms92_3 := NB465_420.out
         have hms92_4 := NB465_438.out
         have hms92_5 := NB465_439.out
         have hs93 : w89.cell? ⟨gb465, 3, none⟩ = some (.int .i64 0) := (bkC BK465.out 3).trans rfl
         have hfs93 := bkF BK465.out 3
         have hns93_0 := NB389_465.out
         have hns93_1 := NB390_465.out
         have hns93_2 := NB419_465.out
         have hns93_3 := NB420_465.out
         have hns93_4 := NB438_465.out
         have hns93_5 := NB439_465.out
         have hms93_0 := NB465_389.out
         have hms93_1 := NB465_390.out
         have hms93_2 := NB465_419.out
         have hms93_3 := NB465_420.out
         have hms93_4 := NB465_438.out
         have hms93_5 := NB465_439.out
         have hs95 : w89.cell? ⟨gb465, 4, none⟩ = some (.slice none 0 0) := (bkC BK465.out 4).trans rfl
         have hfs95 := bkF BK465.out 4
         have hns95_0 := NB389_465.out
         have hns95_1 := NB390_465.out
         have hns95_2 := NB419_465.out
         have hns95_3 := NB420_465.out
         have hns95_4 := NB438_465.out
         have hns95_5 := NB439_465.out
         have hms95_0 := NB465_389.out
         have hms95_1 := NB465_390.out
         have hms95_2 := NB465_419.out
         have hms95_3 := NB465_420.out
         have hms95_4 := NB465_438.out
         have hms95_5 := NB465_439.out
         have hs96 : w89.cell? ⟨gb465, 5, none⟩ = some (.int .i64 0) := (bkC BK465.out 5).trans rfl
         have hfs96 := bkF BK465.out 5
         have hns96_0 := NB389_465.out
         have hns96_1 := NB390_465.out
         have hns96_2 := NB419_465.out
         have hns96_3 := NB420_465.out
         have hns96_4 := NB438_465.out
         have hns96_5 := NB439_465.out
         have hms96_0 := NB465_389.out
         have hms96_1 := NB465_390.out
         have hms96_2 := NB465_419.out
         have hms96_3 := NB465_420.out
         have hms96_4 := NB465_438.out
         have hms96_5 := NB465_439.out
         refine skip_ (w1 := ?_) (by rfl) rfl ?_ ?_
         rotate_left
         ·go_simp
          rfl
         refine hK.out _ _ ⟨((cell_far (p := ⟨gb465, _, none⟩) NB389_465.out _).trans (((cell_far (p := ⟨gb465, _, none⟩) NB389_465.out _).trans (((cell_far (p := ⟨gb465, _, none⟩) NB389_465.out _).trans (((cell_far (p := ⟨gb465, _, none⟩) NB389_465.out _).trans (((cell_far (p := ⟨gb465, _, none⟩) NB389_465.out _).trans (((cell_far (p := ⟨gb465, _, none⟩) NB389_465.out _).trans (hHeld.1)))))))))))), ((cell_far (p := ⟨gb465, _, none⟩) NB389_465.out _).trans (((cell_far (p := ⟨gb465, _, none⟩) NB389_465.out _).trans (((cell_far (p := ⟨gb465, _, none⟩) NB389_465.out _).trans (((cell_far (p := ⟨gb465, _, none⟩) NB389_465.out _).trans (((cell_far (p := ⟨gb465, _, none⟩) NB389_465.out _).trans (((cell_far (p := ⟨gb465, _, none⟩) NB389_465.out _).trans (hHeld.2.1)))))))))))), ((cell_far (p := ⟨gb465, _, none⟩) NB389_465.out _).trans (((cell_far (p := ⟨gb465, _, none⟩) NB389_465.out _).trans (((cell_far (p := ⟨gb465, _, none⟩) NB389_465.out _).trans (((cell_far (p := ⟨gb465, _, none⟩) NB389_465.out _).trans (((cell_far (p := ⟨gb465, _, none⟩) NB389_465.out _).trans (((cell_far (p := ⟨gb465, _, none⟩) NB389_465.out _).trans (hHeld.2.2.1)))))))))))), ((cell_far (p := ⟨gb465, _, none⟩) NB389_465.out _).trans (((cell_far (p := ⟨gb465, _, none⟩) NB389_465.out _).trans (((cell_far (p := ⟨gb465, _, none⟩) NB389_465.out _).trans (((cell_far (p := ⟨gb465, _, none⟩) NB389_465.out _).trans (((cell_far (p := ⟨gb465, _, none⟩) NB389_465.out _).trans (((cell_far (p := ⟨gb465, _, none⟩) NB389_465.out _).trans (hHeld.2.2.2.1)))))))))))), ((cell_far (p := ⟨gb465, _, none⟩) NB389_465.out _).trans (((cell_far (p := ⟨gb465, _, none⟩) NB389_465.out _).trans (((cell_far (p := ⟨gb465, _, none⟩) NB389_465.out _).trans (((cell_far (p := ⟨gb465, _, none⟩) NB389_465.out _).trans (((cell_far (p := ⟨gb465, _, none⟩) NB389_465.out _).trans (((cell_far (p := ⟨gb465, _, none⟩) NB389_465.out _).trans (hHeld.2.2.2.2.1)))))))))))), ((cell_far (p := ⟨gb465, _, none⟩) NB389_465.out _).trans (((cell_far (p := ⟨gb465, _, none⟩) NB389_465.out _).trans (((cell_far (p := ⟨gb465, _, none⟩) NB389_465.out _).trans (((cell_far (p := ⟨gb465, _, none⟩) NB389_465.out _).trans (((cell_far (p := ⟨gb465, _, none⟩) NB389_465.out _).trans (((cell_far (p := ⟨gb465, _, none⟩) NB389_465.out _).trans (hHeld.2.2.2.2.2.1)))))))))))), ((cell_far (p := ⟨gb465, _, none⟩) NB390_465.out _).trans (((cell_far (p := ⟨gb465, _, none⟩) NB390_465.out _).trans (((cell_far (p := ⟨gb465, _, none⟩) NB390_465.out _).trans (((cell_far (p := ⟨gb465, _, none⟩) NB390_465.out _).trans (((cell_far (p := ⟨gb465, _, none⟩) NB390_465.out _).trans (((cell_far (p := ⟨gb465, _, none⟩) NB390_465.out _).trans (hHeld.2.2.2.2.2.2.1)))))))))))), ((cell_far (p := ⟨gb465, _, none⟩) NB390_465.out _).trans (((cell_far (p := ⟨gb465, _, none⟩) NB390_465.out _).trans (((cell_far (p := ⟨gb465, _, none⟩) NB390_465.out _).trans (((cell_far (p := ⟨gb465, _, none⟩) NB390_465.out _).trans (((cell_far (p := ⟨gb465, _, none⟩) NB390_465.out _).trans (((cell_far (p := ⟨gb465, _, none⟩) NB390_465.out _).trans (hHeld.2.2.2.2.2.2.2.1)))))))))))), ((cell_far (p := ⟨gb465, _, none⟩) NB390_465.out _).trans (((cell_far (p := ⟨gb465, _, none⟩) NB390_465.out _).trans (((cell_far (p := ⟨gb465, _, none⟩) NB390_465.out _).trans (((cell_far (p := ⟨gb465, _, none⟩) NB390_465.out _).trans (((cell_far (p := ⟨gb465, _, none⟩) NB390_465.out _).trans (((cell_far (p := ⟨gb465, _, none⟩) NB390_465.out _).trans (hHeld.2.2.2.2.2.2.2.2.1)))))))))))), ((cell_far (p := ⟨gb465, _, none⟩) NB390_465.out _).trans (((cell_far (p := ⟨gb465, _, none⟩) NB390_465.out _).trans (((cell_far (p := ⟨gb465, _, none⟩) NB390_465.out _).trans (((cell_far (p := ⟨gb465, _, none⟩) NB390_465.out _).trans (((cell_far (p := ⟨gb465, _, none⟩) NB390_465.out _).trans (((cell_far (p := ⟨gb465, _, none⟩) NB390_465.out _).trans (hHeld.2.2.2.2.2.2.2.2.2.1)))))))))))), ((cell_far (p := ⟨gb465, _, none⟩) NB390_465.out _).trans (((cell_far (p := ⟨gb465, _, none⟩) NB390_465.out _).trans (((cell_far (p := ⟨gb465, _, none⟩) NB390_465.out _).trans (((cell_far (p := ⟨gb465, _, none⟩) NB390_465.out _).trans (((cell_far (p := ⟨gb465, _, none⟩) NB390_465.out _).trans (((cell_far (p := ⟨gb465, _, none⟩) NB390_465.out _).trans (hHeld.2.2.2.2.2.2.2.2.2.2.1)))))))))))), ((cell_far (p := ⟨gb465, _, none⟩) NB390_465.out _).trans (((cell_far (p := ⟨gb465, _, none⟩) NB390_465.out _).trans (((cell_far (p := ⟨gb465, _, none⟩) NB390_465.out _).trans (((cell_far (p := ⟨gb465, _, none⟩) NB390_465.out _).trans (((cell_far (p := ⟨gb465, _, none⟩) NB390_465.out _).trans (((cell_far (p := ⟨gb465, _, none⟩) NB390_465.out _).trans (hHeld.2.2.2.2.2.2.2.2.2.2.2))))))))))))⟩ (fun hHeld => ?_)
         clear hK K
         refine pure_ (i := 10) (N := some 16) (v := ?_) (a' := ?_) #[true, true, true, true, true, true, true, true, true, true, true] rfl rfl (any_of HT_.out (by kernel_rfl)) (fun _ _ _ h => h) (Or.inl ⟨by rfl, ?_⟩) ?_ ?_
         rotate_left
         ·intro w'
          go_simp
          with_reducible rfl
         rotate_left
         ·simp only [Act.put, List.setIfInBounds_toArray, List.set_cons_zero, List.set_cons_succ, i64_w, i32_w]
          rfl
         refine done_ (done_of HT_.out (by kernel_rfl)) ?_
         have n0_ : Az (Kd.R k60 60 ((((((w89.setCell ⟨gb465, 0, none⟩ (.int .i64 t456)).setCell ⟨gb465, 1, none⟩ (.string t457)).setCell ⟨gb465, 2, none⟩ (.string t458)).setCell ⟨gb465, 3, none⟩ (.int .i64 t459)).setCell ⟨gb465, 4, none⟩ (.slice Ao94 t460.length co94)).setCell ⟨gb465, 5, none⟩ (.int .i64 t463)) w.heap.size (fun k_ => some k_ ≠ (.slice Ao62 t414.length co62 : Value).ownBlock ∧ some k_ ≠ (v445 : Value).ownBlock ∧ some k_ ≠ (v453 : Value).ownBlock) (.slice Ao49 t398.length co49) t398) := ⟨by (with_reducible repeat (first | apply Kd.R_alloc | apply Kd.R_drewN | apply Kd.R_drew)); exact Kd.R_mono (Kd.R_far (p := ⟨gb465, 5, none⟩) (Kd.R_far (p := ⟨gb465, 4, none⟩) (Kd.R_far (p := ⟨gb465, 3, none⟩) (Kd.R_far (p := ⟨gb465, 2, none⟩) (Kd.R_far (p := ⟨gb465, 1, none⟩) (Kd.R_far (p := ⟨gb465, 0, none⟩) (Kd.R_types HO400.out BK465.out (by decide)) (fun _ hk => hk.2) (.int .i64 t456)) (fun _ hk => hk.2) (.string t457)) (fun _ hk => hk.2) (.string t458)) (fun _ hk => hk.2) (.int .i64 t459)) (fun _ hk => hk.2) (.slice Ao94 t460.length co94)) (fun _ hk => hk.2) (.int .i64 t463)) (fun _ hk => ⟨hk.1.1, ⟨hk.1.2.1, hk.1.2.2⟩⟩)⟩
         have n1_ : Az (Kd.V k60 60 ((((((w89.setCell ⟨gb465, 0, none⟩ (.int .i64 t456)).setCell ⟨gb465, 1, none⟩ (.string t457)).setCell ⟨gb465, 2, none⟩ (.string t458)).setCell ⟨gb465, 3, none⟩ (.int .i64 t459)).setCell ⟨gb465, 4, none⟩ (.slice Ao94 t460.length co94)).setCell ⟨gb465, 5, none⟩ (.int .i64 t463)) w.heap.size (fun k_ => some k_ ≠ (.slice Ao62 t414.length co62 : Value).ownBlock ∧ some k_ ≠ (v445 : Value).ownBlock ∧ some k_ ≠ (v453 : Value).ownBlock ∧ k_ ≠ gb389 ∧ k_ ≠ gb390 ∧ k_ ≠ gb419 ∧ k_ ≠ gb420 ∧ k_ ≠ gb438 ∧ k_ ≠ gb439 ∧ k_ ≠ gb465) (.slice Ao57 t406.length co57) t406) := ⟨by (with_reducible repeat (first | apply Kd.V_alloc | apply Kd.V_drewN | apply Kd.V_drew)); exact Kd.V_mono (Kd.V_off (g := gb465) (fun _ hk => hk.2) (Kd.V_mono HO408.out (fun k_ hk => (⟨hk, hk.2.2.2.2.2.2.2.2.2⟩ : _ ∧ k_ ≠ gb465)))) (fun _ hk => ⟨hk.1.1, ⟨hk.1.2.1, ⟨hk.1.2.2.1, ⟨hk.1.2.2.2.1, ⟨hk.1.2.2.2.2.1, ⟨hk.1.2.2.2.2.2.1, ⟨hk.1.2.2.2.2.2.2.1, ⟨hk.1.2.2.2.2.2.2.2.1, ⟨hk.1.2.2.2.2.2.2.2.2.1, hk.1.2.2.2.2.2.2.2.2.2⟩⟩⟩⟩⟩⟩⟩⟩⟩)⟩
         have n2_ : Az (Kd.R k60 60 ((((((w89.setCell ⟨gb465, 0, none⟩ (.int .i64 t456)).setCell ⟨gb465, 1, none⟩ (.string t457)).setCell ⟨gb465, 2, none⟩ (.string t458)).setCell ⟨gb465, 3, none⟩ (.int .i64 t459)).setCell ⟨gb465, 4, none⟩ (.slice Ao94 t460.length co94)).setCell ⟨gb465, 5, none⟩ (.int .i64 t463)) w.heap.size (fun k_ => some k_ ≠ (.slice Ao49 t398.length co49 : Value).ownBlock ∧ some k_ ≠ (v445 : Value).ownBlock ∧ some k_ ≠ (v453 : Value).ownBlock) (.slice Ao62 t414.length co62) t414) := ⟨by (with_reducible repeat (first | apply Kd.R_alloc | apply Kd.R_drewN | apply Kd.R_drew)); exact Kd.R_mono (Kd.R_far (p := ⟨gb465, 5, none⟩) (Kd.R_far (p := ⟨gb465, 4, none⟩) (Kd.R_far (p := ⟨gb465, 3, none⟩) (Kd.R_far (p := ⟨gb465, 2, none⟩) (Kd.R_far (p := ⟨gb465, 1, none⟩) (Kd.R_far (p := ⟨gb465, 0, none⟩) (Kd.R_types HO416.out BK465.out (by decide)) (fun _ hk => hk.2) (.int .i64 t456)) (fun _ hk => hk.2) (.string t457)) (fun _ hk => hk.2) (.string t458)) (fun _ hk => hk.2) (.int .i64 t459)) (fun _ hk => hk.2) (.slice Ao94 t460.length co94)) (fun _ hk => hk.2) (.int .i64 t463)) (fun _ hk => ⟨hk.1.1, ⟨hk.1.2.1, hk.1.2.2⟩⟩)⟩
         have n3_ : Az (Kd.V k60 60 ((((((w89.setCell ⟨gb465, 0, none⟩ (.int .i64 t456)).setCell ⟨gb465, 1, none⟩ (.string t457)).setCell ⟨gb465, 2, none⟩ (.string t458)).setCell ⟨gb465, 3, none⟩ (.int .i64 t459)).setCell ⟨gb465, 4, none⟩ (.slice Ao94 t460.length co94)).setCell ⟨gb465, 5, none⟩ (.int .i64 t463)) w.heap.size (fun k_ => some k_ ≠ (.slice Ao49 t398.length co49 : Value).ownBlock ∧ some k_ ≠ (.slice Ao62 t414.length co62 : Value).ownBlock ∧ some k_ ≠ (v445 : Value).ownBlock ∧ some k_ ≠ (v453 : Value).ownBlock ∧ k_ ≠ gb389 ∧ k_ ≠ gb390 ∧ k_ ≠ gb419 ∧ k_ ≠ gb420 ∧ k_ ≠ gb438 ∧ k_ ≠ gb439 ∧ k_ ≠ gb465) (.slice Ao74 t425.length co74) t425) := ⟨by (with_reducible repeat (first | apply Kd.V_alloc | apply Kd.V_drewN | apply Kd.V_drew)); exact Kd.V_mono (Kd.V_off (g := gb465) (fun _ hk => hk.2) (Kd.V_mono HO427.out (fun k_ hk => (⟨hk, hk.2.2.2.2.2.2.2.2.2.2⟩ : _ ∧ k_ ≠ gb465)))) (fun _ hk => ⟨hk.1.1, ⟨hk.1.2.1, ⟨hk.1.2.2.1, ⟨hk.1.2.2.2.1, ⟨hk.1.2.2.2.2.1, ⟨hk.1.2.2.2.2.2.1, ⟨hk.1.2.2.2.2.2.2.1, ⟨hk.1.2.2.2.2.2.2.2.1, ⟨hk.1.2.2.2.2.2.2.2.2.1, ⟨hk.1.2.2.2.2.2.2.2.2.2.1, hk.1.2.2.2.2.2.2.2.2.2.2⟩⟩⟩⟩⟩⟩⟩⟩⟩⟩)⟩
         have n4_ : Az (Kd.V k60 60 ((((((w89.setCell ⟨gb465, 0, none⟩ (.int .i64 t456)).setCell ⟨gb465, 1, none⟩ (.string t457)).setCell ⟨gb465, 2, none⟩ (.string t458)).setCell ⟨gb465, 3, none⟩ (.int .i64 t459)).setCell ⟨gb465, 4, none⟩ (.slice Ao94 t460.length co94)).setCell ⟨gb465, 5, none⟩ (.int .i64 t463)) w.heap.size (fun k_ => some k_ ≠ (.slice Ao49 t398.length co49 : Value).ownBlock ∧ some k_ ≠ (.slice Ao62 t414.length co62 : Value).ownBlock ∧ some k_ ≠ (v445 : Value).ownBlock ∧ some k_ ≠ (v453 : Value).ownBlock ∧ k_ ≠ gb389 ∧ k_ ≠ gb390 ∧ k_ ≠ gb419 ∧ k_ ≠ gb420 ∧ k_ ≠ gb438 ∧ k_ ≠ gb439 ∧ k_ ≠ gb465) (.slice Ao80 t433.length co80) t433) := ⟨by (with_reducible repeat (first | apply Kd.V_alloc | apply Kd.V_drewN | apply Kd.V_drew)); exact Kd.V_mono (Kd.V_off (g := gb465) (fun _ hk => hk.2) (Kd.V_mono HO435.out (fun k_ hk => (⟨hk, hk.2.2.2.2.2.2.2.2.2.2⟩ : _ ∧ k_ ≠ gb465)))) (fun _ hk => ⟨hk.1.1, ⟨hk.1.2.1, ⟨hk.1.2.2.1, ⟨hk.1.2.2.2.1, ⟨hk.1.2.2.2.2.1, ⟨hk.1.2.2.2.2.2.1, ⟨hk.1.2.2.2.2.2.2.1, ⟨hk.1.2.2.2.2.2.2.2.1, ⟨hk.1.2.2.2.2.2.2.2.2.1, ⟨hk.1.2.2.2.2.2.2.2.2.2.1, hk.1.2.2.2.2.2.2.2.2.2.2⟩⟩⟩⟩⟩⟩⟩⟩⟩⟩)⟩
         have n5_ : Az (Kd.R k60 60 ((((((w89.setCell ⟨gb465, 0, none⟩ (.int .i64 t456)).setCell ⟨gb465, 1, none⟩ (.string t457)).setCell ⟨gb465, 2, none⟩ (.string t458)).setCell ⟨gb465, 3, none⟩ (.int .i64 t459)).setCell ⟨gb465, 4, none⟩ (.slice Ao94 t460.length co94)).setCell ⟨gb465, 5, none⟩ (.int .i64 t463)) w.heap.size (fun k_ => some k_ ≠ (.slice Ao49 t398.length co49 : Value).ownBlock ∧ some k_ ≠ (.slice Ao62 t414.length co62 : Value).ownBlock ∧ some k_ ≠ (v453 : Value).ownBlock) v445 t444) := ⟨by (with_reducible repeat (first | apply Kd.R_alloc | apply Kd.R_drewN | apply Kd.R_drew)); exact Kd.R_mono (Kd.R_far (p := ⟨gb465, 5, none⟩) (Kd.R_far (p := ⟨gb465, 4, none⟩) (Kd.R_far (p := ⟨gb465, 3, none⟩) (Kd.R_far (p := ⟨gb465, 2, none⟩) (Kd.R_far (p := ⟨gb465, 1, none⟩) (Kd.R_far (p := ⟨gb465, 0, none⟩) (Kd.R_types HO446.out BK465.out (by decide)) (fun _ hk => hk.2) (.int .i64 t456)) (fun _ hk => hk.2) (.string t457)) (fun _ hk => hk.2) (.string t458)) (fun _ hk => hk.2) (.int .i64 t459)) (fun _ hk => hk.2) (.slice Ao94 t460.length co94)) (fun _ hk => hk.2) (.int .i64 t463)) (fun _ hk => ⟨hk.1.1, ⟨hk.1.2.1, hk.1.2.2⟩⟩)⟩
         have n6_ : Az (Kd.R k60 60 ((((((w89.setCell ⟨gb465, 0, none⟩ (.int .i64 t456)).setCell ⟨gb465, 1, none⟩ (.string t457)).setCell ⟨gb465, 2, none⟩ (.string t458)).setCell ⟨gb465, 3, none⟩ (.int .i64 t459)).setCell ⟨gb465, 4, none⟩ (.slice Ao94 t460.length co94)).setCell ⟨gb465, 5, none⟩ (.int .i64 t463)) w.heap.size (fun k_ => some k_ ≠ (.slice Ao49 t398.length co49 : Value).ownBlock ∧ some k_ ≠ (.slice Ao62 t414.length co62 : Value).ownBlock ∧ some k_ ≠ (v445 : Value).ownBlock) v453 t452) := ⟨by (with_reducible repeat (first | apply Kd.R_alloc | apply Kd.R_drewN | apply Kd.R_drew)); exact Kd.R_mono (Kd.R_far (p := ⟨gb465, 5, none⟩) (Kd.R_far (p := ⟨gb465, 4, none⟩) (Kd.R_far (p := ⟨gb465, 3, none⟩) (Kd.R_far (p := ⟨gb465, 2, none⟩) (Kd.R_far (p := ⟨gb465, 1, none⟩) (Kd.R_far (p := ⟨gb465, 0, none⟩) (Kd.R_types HO454.out BK465.out (by decide)) (fun _ hk => hk.2) (.int .i64 t456)) (fun _ hk => hk.2) (.string t457)) (fun _ hk => hk.2) (.string t458)) (fun _ hk => hk.2) (.int .i64 t459)) (fun _ hk => hk.2) (.slice Ao94 t460.length co94)) (fun _ hk => hk.2) (.int .i64 t463)) (fun _ hk => ⟨hk.1.1, ⟨hk.1.2.1, hk.1.2.2⟩⟩)⟩
         have n7_ : Az (Kd.V k60 60 ((((((w89.setCell ⟨gb465, 0, none⟩ (.int .i64 t456)).setCell ⟨gb465, 1, none⟩ (.string t457)).setCell ⟨gb465, 2, none⟩ (.string t458)).setCell ⟨gb465, 3, none⟩ (.int .i64 t459)).setCell ⟨gb465, 4, none⟩ (.slice Ao94 t460.length co94)).setCell ⟨gb465, 5, none⟩ (.int .i64 t463)) w.heap.size (fun k_ => some k_ ≠ (.slice Ao49 t398.length co49 : Value).ownBlock ∧ some k_ ≠ (.slice Ao62 t414.length co62 : Value).ownBlock ∧ some k_ ≠ (v453 : Value).ownBlock ∧ k_ ≠ gb389 ∧ k_ ≠ gb390 ∧ k_ ≠ gb419 ∧ k_ ≠ gb420 ∧ k_ ≠ gb438 ∧ k_ ≠ gb439 ∧ k_ ≠ gb465) (.slice Ao94 t460.length co94) t460) := ⟨by (with_reducible repeat (first | apply Kd.V_alloc | apply Kd.V_drewN | apply Kd.V_drew)); exact Kd.V_mono (Kd.V_off (g := gb465) (fun _ hk => hk.2) (Kd.V_mono HO462.out (fun k_ hk => (⟨hk, hk.2.2.2.2.2.2.2.2.2⟩ : _ ∧ k_ ≠ gb465)))) (fun _ hk => ⟨hk.1.1, ⟨hk.1.2.1, ⟨hk.1.2.2.1, ⟨hk.1.2.2.2.1, ⟨hk.1.2.2.2.2.1, ⟨hk.1.2.2.2.2.2.1, ⟨hk.1.2.2.2.2.2.2.1, ⟨hk.1.2.2.2.2.2.2.2.1, ⟨hk.1.2.2.2.2.2.2.2.2.1, hk.1.2.2.2.2.2.2.2.2.2⟩⟩⟩⟩⟩⟩⟩⟩⟩)⟩
         have n8_ : Az (((((((w89.setCell ⟨gb465, 0, none⟩ (.int .i64 t456)).setCell ⟨gb465, 1, none⟩ (.string t457)).setCell ⟨gb465, 2, none⟩ (.string t458)).setCell ⟨gb465, 3, none⟩ (.int .i64 t459)).setCell ⟨gb465, 4, none⟩ (.slice Ao94 t460.length co94)).setCell ⟨gb465, 5, none⟩ (.int .i64 t463)).heap[gb389]? = some (.cells #[.int .i64 a0_0, .string a0_1, .string a0_2, .int .i64 a0_3, .slice A0_4 l0_4.length c0_4, .int .i64 a0_5] 26 (0, 0))) := ⟨by exact bf BK389.out⟩
         have n9_ : Az (((((((w89.setCell ⟨gb465, 0, none⟩ (.int .i64 t456)).setCell ⟨gb465, 1, none⟩ (.string t457)).setCell ⟨gb465, 2, none⟩ (.string t458)).setCell ⟨gb465, 3, none⟩ (.int .i64 t459)).setCell ⟨gb465, 4, none⟩ (.slice Ao94 t460.length co94)).setCell ⟨gb465, 5, none⟩ (.int .i64 t463)).heap[gb390]? = some (.cells #[.int .i64 a3_0, .string a3_1, .string a3_2, .int .i64 a3_3, .slice A3_4 l3_4.length c3_4, .int .i64 a3_5] 26 (0, 0))) := ⟨by exact bf BK390.out⟩
         have n10_ : Az (((((((w89.setCell ⟨gb465, 0, none⟩ (.int .i64 t456)).setCell ⟨gb465, 1, none⟩ (.string t457)).setCell ⟨gb465, 2, none⟩ (.string t458)).setCell ⟨gb465, 3, none⟩ (.int .i64 t459)).setCell ⟨gb465, 4, none⟩ (.slice Ao94 t460.length co94)).setCell ⟨gb465, 5, none⟩ (.int .i64 t463)).heap[gb419]? = some (.cells #[.int .i64 t402, .string t403, .string t404, .int .i64 t405, .slice Ao57 t406.length co57, .int .i64 t409] 26 (0, 0))) := ⟨by exact bf BK419.out⟩
         have n11_ : Az (((((((w89.setCell ⟨gb465, 0, none⟩ (.int .i64 t456)).setCell ⟨gb465, 1, none⟩ (.string t457)).setCell ⟨gb465, 2, none⟩ (.string t458)).setCell ⟨gb465, 3, none⟩ (.int .i64 t459)).setCell ⟨gb465, 4, none⟩ (.slice Ao94 t460.length co94)).setCell ⟨gb465, 5, none⟩ (.int .i64 t463)).heap[gb420]? = some (.cells #[.int .i64 t410, .string t411, .string t412, .int .i64 t413, .slice Ao62 t414.length co62, .int .i64 t417] 26 (0, 0))) := ⟨by exact bf BK420.out⟩
         have n12_ : Az (((((((w89.setCell ⟨gb465, 0, none⟩ (.int .i64 t456)).setCell ⟨gb465, 1, none⟩ (.string t457)).setCell ⟨gb465, 2, none⟩ (.string t458)).setCell ⟨gb465, 3, none⟩ (.int .i64 t459)).setCell ⟨gb465, 4, none⟩ (.slice Ao94 t460.length co94)).setCell ⟨gb465, 5, none⟩ (.int .i64 t463)).heap[gb438]? = some (.cells #[.int .i64 t421, .string t422, .string t423, .int .i64 t424, .slice Ao74 t425.length co74, .int .i64 t428] 26 (0, 0))) := ⟨by exact bf BK438.out⟩
         have n13_ : Az (((((((w89.setCell ⟨gb465, 0, none⟩ (.int .i64 t456)).setCell ⟨gb465, 1, none⟩ (.string t457)).setCell ⟨gb465, 2, none⟩ (.string t458)).setCell ⟨gb465, 3, none⟩ (.int .i64 t459)).setCell ⟨gb465, 4, none⟩ (.slice Ao94 t460.length co94)).setCell ⟨gb465, 5, none⟩ (.int .i64 t463)).heap[gb439]? = some (.cells #[.int .i64 t429, .string t430, .string t431, .int .i64 t432, .slice Ao80 t433.length co80, .int .i64 t436] 26 (0, 0))) := ⟨by exact bf BK439.out⟩
         have n14_ : Az (((((((w89.setCell ⟨gb465, 0, none⟩ (.int .i64 t456)).setCell ⟨gb465, 1, none⟩ (.string t457)).setCell ⟨gb465, 2, none⟩ (.string t458)).setCell ⟨gb465, 3, none⟩ (.int .i64 t459)).setCell ⟨gb465, 4, none⟩ (.slice Ao94 t460.length co94)).setCell ⟨gb465, 5, none⟩ (.int .i64 t463)).heap[gb465]? = some (.cells #[.int .i64 t456, .string t457, .string t458, .int .i64 t459, .slice Ao94 t460.length co94, .int .i64 t463] 26 (0, 0))) := ⟨by refine bk ?_; refine blk_put (cs := #[.int .i64 t456, .string t457, .string t458, .int .i64 t459, .slice Ao94 t460.length co94, .int .i64 0]) ?_ 5 _ rfl; refine bk ?_; refine blk_put (cs := #[.int .i64 t456, .string t457, .string t458, .int .i64 t459, .slice none 0 0, .int .i64 0]) ?_ 4 _ rfl; refine bk ?_; refine blk_put (cs := #[.int .i64 t456, .string t457, .string t458, .int .i64 0, .slice none 0 0, .int .i64 0]) ?_ 3 _ rfl; refine bk ?_; refine blk_put (cs := #[.int .i64 t456, .string t457, .string (⟨#[]⟩ : ByteArray), .int .i64 0, .slice none 0 0, .int .i64 0]) ?_ 2 _ rfl; refine bk ?_; refine blk_put (cs := #[.int .i64 t456, .string (⟨#[]⟩ : ByteArray), .string (⟨#[]⟩ : ByteArray), .int .i64 0, .slice none 0 0, .int .i64 0]) ?_ 1 _ rfl; refine bk ?_; refine blk_put (cs := #[.int .i64 0, .string (⟨#[]⟩ : ByteArray), .string (⟨#[]⟩ : ByteArray), .int .i64 0, .slice none 0 0, .int .i64 0]) ?_ 0 _ rfl; refine bk ?_; exact BK465.out⟩
         have n15_ : Az (Below w.heap.size w ((((((w89.setCell ⟨gb465, 0, none⟩ (.int .i64 t456)).setCell ⟨gb465, 1, none⟩ (.string t457)).setCell ⟨gb465, 2, none⟩ (.string t458)).setCell ⟨gb465, 3, none⟩ (.int .i64 t459)).setCell ⟨gb465, 4, none⟩ (.slice Ao94 t460.length co94)).setCell ⟨gb465, 5, none⟩ (.int .i64 t463))) := ⟨by exact pbE HB.out⟩
         (try clear HO400)
         (try clear HO408)
         (try clear HO416)
         (try clear HO427)
         (try clear HO435)
         (try clear HO446)
         (try clear HO454)
         (try clear HO462)
         (try clear BK389)
         (try clear BK390)
         (try clear BK419)
         (try clear BK420)
         (try clear BK438)
         (try clear BK439)
         (try clear BK465)
         (try clear HB)
         generalize ((((((w89.setCell ⟨gb465, 0, none⟩ (.int .i64 t456)).setCell ⟨gb465, 1, none⟩ (.string t457)).setCell ⟨gb465, 2, none⟩ (.string t458)).setCell ⟨gb465, 3, none⟩ (.int .i64 t459)).setCell ⟨gb465, 4, none⟩ (.slice Ao94 t460.length co94)).setCell ⟨gb465, 5, none⟩ (.int .i64 t463)) = w97 at n0_ n1_ n2_ n3_ n4_ n5_ n6_ n7_ n8_ n9_ n10_ n11_ n12_ n13_ n14_ n15_ ⊢
         have HO400 := n0_
         have HO408 := n1_
         have HO416 := n2_
         have HO427 := n3_
         have HO435 := n4_
         have HO446 := n5_
         have HO454 := n6_
         have HO462 := n7_
         have BK389 := n8_
         have BK390 := n9_
         have BK419 := n10_
         have BK420 := n11_
         have BK438 := n12_
         have BK439 := n13_
         have BK465 := n14_
         have HB := n15_
         clear n0_ n1_ n2_ n3_ n4_ n5_ n6_ n7_ n8_ n9_ n10_ n11_ n12_ n13_ n14_ n15_
         have hnb98 := NB389_465.out
         have hnc98 := NB465_389.out
         have hcz99 := cells6 BK389.out
         have hnb100 := NB390_465.out
         have hnc100 := NB465_390.out
         have hcz101 := cells6 BK390.out
         try go_wp2_with (first | ((with_reducible refine gtc (f := 15) rfl ?_); refine goesL_ (some 61) rfl rfl Tryd.func15 (by kernel_rfl) rfl #[.agg #[.int .i64 a0_0, .string a0_1, .string a0_2, .int .i64 a0_3, .slice A0_4 l0_4.length c0_4, .int .i64 a0_5], .agg #[.int .i64 a3_0, .string a3_1, .string a3_2, .int .i64 a3_3, .slice A3_4 l3_4.length c3_4, .int .i64 a3_5]] rfl (by (try simp only [List.map_toArray, List.map_cons, List.map_nil]); first | done | rfl | (simp only [List.length_drop, List.length_take]; rfl)) ?_; (with_reducible refine (r06_Merge.calls kj4 a0_0 a0_1 a0_2 a0_3 (fun k_ => k_ < w.heap.size) _ _ l0_4 a0_5 a3_0 a3_1 a3_2 a3_3 _ _ l3_4 a3_5 t466 t467 t468 t469 t470 t473 t474 _ ?side1 ?side2 ?side3 ?side4 A34.out).mono ?_); (case side1 => exact hG.below (by exact pbE HB.out)); (case side2 => exact Kd.V_mk HC0_4.out (Kd.F_below (Kd.C_F k60_heap HR0_4.out) (by exact pbE HB.out))); (case side3 => repeat (first | exact (Kd.C_below HR3_4.out HB.out) | (with_reducible refine Kd.C_alloc ?_ _) | (with_reducible refine Kd.C_drewN ?_ _) | (with_reducible refine Kd.C_drew ?_))); (case side4 => exact HC3_4.out); rintro e w102 ⟨v471, rfl, ho0, hb⟩; refine ⟨_, rfl, ?_⟩; replace HO408 := Az.mk (Kd.V_below (Kd.V_ext HO408.out) hb); replace HO427 := Az.mk (Kd.V_below (Kd.V_ext HO427.out) hb); replace HO435 := Az.mk (Kd.V_below (Kd.V_ext HO435.out) hb); replace HO462 := Az.mk (Kd.V_below (Kd.V_ext HO462.out) hb); have HO472 := Az.mk (Kd.V_lower (Kd.V_mono (ok' := fun k_ => some k_ ≠ (.slice Ao49 t398.length co49 : Value).ownBlock ∧ some k_ ≠ (.slice Ao62 t414.length co62 : Value).ownBlock ∧ some k_ ≠ (v445 : Value).ownBlock ∧ some k_ ≠ (v453 : Value).ownBlock ∧ k_ ≠ gb389 ∧ k_ ≠ gb390 ∧ k_ ≠ gb419 ∧ k_ ≠ gb420 ∧ k_ ≠ gb438 ∧ k_ ≠ gb439 ∧ k_ ≠ gb465) ho0 (fun k_ hk_ => ⟨Or.elim hk_ (fun hs_ => fun e_ => Nat.not_le.2 hs_ (Kd.R_base HO400.out k_ e_.symm)) (fun hn_ => (Kd.fresh' (Kd.R_lt (Kd.R_ext HO400.out)) k_ hn_)), Or.elim hk_ (fun hs_ => fun e_ => Nat.not_le.2 hs_ (Kd.R_base HO416.out k_ e_.symm)) (fun hn_ => (Kd.fresh' (Kd.R_lt (Kd.R_ext HO416.out)) k_ hn_)), Or.elim hk_ (fun hs_ => fun e_ => Nat.not_le.2 hs_ (Kd.R_base HO446.out k_ e_.symm)) (fun hn_ => (Kd.fresh' (Kd.R_lt (Kd.R_ext HO446.out)) k_ hn_)), Or.elim hk_ (fun hs_ => fun e_ => Nat.not_le.2 hs_ (Kd.R_base HO454.out k_ e_.symm)) (fun hn_ => (Kd.fresh' (Kd.R_lt (Kd.R_ext HO454.out)) k_ hn_)), Or.elim hk_ (fun hs_ => fun e_ => Nat.not_le.2 hs_ (by rw [e_]; exact GW389.out)) (fun hn_ => (Kd.freshB (bk BK389.out) k_ hn_)), Or.elim hk_ (fun hs_ => fun e_ => Nat.not_le.2 hs_ (by rw [e_]; exact GW390.out)) (fun hn_ => (Kd.freshB (bk BK390.out) k_ hn_)), Or.elim hk_ (fun hs_ => fun e_ => Nat.not_le.2 hs_ (by rw [e_]; exact GW419.out)) (fun hn_ => (Kd.freshB (bk BK419.out) k_ hn_)), Or.elim hk_ (fun hs_ => fun e_ => Nat.not_le.2 hs_ (by rw [e_]; exact GW420.out)) (fun hn_ => (Kd.freshB (bk BK420.out) k_ hn_)), Or.elim hk_ (fun hs_ => fun e_ => Nat.not_le.2 hs_ (by rw [e_]; exact GW438.out)) (fun hn_ => (Kd.freshB (bk BK438.out) k_ hn_)), Or.elim hk_ (fun hs_ => fun e_ => Nat.not_le.2 hs_ (by rw [e_]; exact GW439.out)) (fun hn_ => (Kd.freshB (bk BK439.out) k_ hn_)), Or.elim hk_ (fun hs_ => fun e_ => Nat.not_le.2 hs_ (by rw [e_]; exact GW465.out)) (fun hn_ => (Kd.freshB (bk BK465.out) k_ hn_))⟩)) (pbZ (by exact pbE HB.out))); replace HO400 := Az.mk (Kd.R_below (Kd.R_ext HO400.out) hb); replace HO416 := Az.mk (Kd.R_below (Kd.R_ext HO416.out) hb); replace HO446 := Az.mk (Kd.R_below (Kd.R_ext HO446.out) hb); replace HO454 := Az.mk (Kd.R_below (Kd.R_ext HO454.out) hb); replace BK389 := Az.mk (bkB (bk BK389.out) hb); replace BK390 := Az.mk (bkB (bk BK390.out) hb); replace BK419 := Az.mk (bkB (bk BK419.out) hb); replace BK420 := Az.mk (bkB (bk BK420.out) hb); replace BK438 := Az.mk (bkB (bk BK438.out) hb); replace BK439 := Az.mk (bkB (bk BK439.out) hb); replace BK465 := Az.mk (bkB (bk BK465.out) hb); replace HB := Az.mk (pbT (by exact pbE HB.out) hb); (try clear hb); (try clear hb2); (try clear hk); (try clear hi); (try clear ho0)) | ((with_reducible refine gate_dst (N := 17) rfl ?_); (try (refine gate_guard (by rfl) ?_; dsimp only)); refine box_event ?hg (N := 17) ?hd (cs := #[.int .i64 0, .string (⟨#[]⟩ : ByteArray), .string (⟨#[]⟩ : ByteArray), .int .i64 0, .slice none 0 0, .int .i64 0]) (t := 26) ?hr ?_; (case hd => rfl); (case hg => rfl); (case hr => first | (go_simp; done) | (go_simp; rfl)); intro gb475 hg w103 hbox hb; replace HO400 := Az.mk (Kd.R_below (Kd.R_ext HO400.out) hb); replace HO408 := Az.mk (Kd.V_below (Kd.V_elderB (Kd.V_ext HO408.out) gb475 (Nat.le_of_eq hg.symm)) hb); replace HO416 := Az.mk (Kd.R_below (Kd.R_ext HO416.out) hb); replace HO427 := Az.mk (Kd.V_below (Kd.V_elderB (Kd.V_ext HO427.out) gb475 (Nat.le_of_eq hg.symm)) hb); replace HO435 := Az.mk (Kd.V_below (Kd.V_elderB (Kd.V_ext HO435.out) gb475 (Nat.le_of_eq hg.symm)) hb); replace HO446 := Az.mk (Kd.R_below (Kd.R_ext HO446.out) hb); replace HO454 := Az.mk (Kd.R_below (Kd.R_ext HO454.out) hb); replace HO462 := Az.mk (Kd.V_below (Kd.V_elderB (Kd.V_ext HO462.out) gb475 (Nat.le_of_eq hg.symm)) hb); replace HO472 := Az.mk (Kd.V_below (Kd.V_elderB (Kd.V_ext HO472.out) gb475 (Nat.le_of_eq hg.symm)) hb); have BK475 := Az.mk (hbox); have GW475 := Az.mk (geO hg (pbE HB.out)); have GE475 := Az.mk (geO hg (pbE HB.out)); replace HB := Az.mk (pbT (by exact pbE HB.out) hb); have NB389_475 := Az.mk (neO hg (bk BK389.out)); have NB475_389 := Az.mk (neP hg (bk BK389.out)); replace BK389 := Az.mk (bkB (bk BK389.out) hb); have NB390_475 := Az.mk (neO hg (bk BK390.out)); have NB475_390 := Az.mk (neP hg (bk BK390.out)); replace BK390 := Az.mk (bkB (bk BK390.out) hb); have NB419_475 := Az.mk (neO hg (bk BK419.out)); have NB475_419 := Az.mk (neP hg (bk BK419.out)); replace BK419 := Az.mk (bkB (bk BK419.out) hb); have NB420_475 := Az.mk (neO hg (bk BK420.out)); have NB475_420 := Az.mk (neP hg (bk BK420.out)); replace BK420 := Az.mk (bkB (bk BK420.out) hb); have NB438_475 := Az.mk (neO hg (bk BK438.out)); have NB475_438 := Az.mk (neP hg (bk BK438.out)); replace BK438 := Az.mk (bkB (bk BK438.out) hb); have NB439_475 := Az.mk (neO hg (bk BK439.out)); have NB475_439 := Az.mk (neP hg (bk BK439.out)); replace BK439 := Az.mk (bkB (bk BK439.out) hb); have NB465_475 := Az.mk (neO hg (bk BK465.out)); have NB475_465 := Az.mk (neP hg (bk BK465.out)); replace BK465 := Az.mk (bkB (bk BK465.out) hb); clear hb hbox hg; have hnb104 := NB475_389.out; have hnc104 := NB389_475.out; have hnb105 := NB475_390.out; have hnc105 := NB390_475.out; have hnb106 := NB475_419.out; have hnc106 := NB419_475.out; have hnb107 := NB475_420.out; have hnc107 := NB420_475.out; have hnb108 := NB475_438.out; have hnc108 := NB438_475.out; have hnb109 := NB475_439.out; have hnc109 := NB439_475.out; have hnb110 := NB475_465.out; have hnc110 := NB465_475.out; have hcz111 := cells6 BK475.out; obtain ⟨Ao112, co112, eo112⟩ := Kd.V_slice HO472.out; subst eo112; have hnb113 := NB419_465.out; have hnc113 := NB465_419.out; have hcz114 := cells6 BK419.out; have hnb115 := NB438_465.out; have hnc115 := NB465_438.out; have hcz116 := cells6 BK438.out) | ((with_reducible refine gtc (f := 16) rfl ?_); refine goesL_ (some 66) rfl rfl Tryd.func16 (by kernel_rfl) rfl #[.agg #[.int .i64 t402, .string t403, .string t404, .int .i64 t405, .slice Ao57 t406.length co57, .int .i64 t409], .agg #[.int .i64 t421, .string t422, .string t423, .int .i64 t424, .slice Ao74 t425.length co74, .int .i64 t428]] rfl (by (try simp only [List.map_toArray, List.map_cons, List.map_nil]); first | done | rfl | (simp only [List.length_drop, List.length_take]; rfl)) ?_; (with_reducible refine (r06_Same.calls kj4 t402 t403 t404 t405 _ _ t406 t409 t421 t422 t423 t424 _ _ t425 t428 true _ ?side1 ?side2 ?side3 ?side4 ?side5 A35.out).mono ?_); (case side1 => exact hG.below (by exact pbE HB.out)); (case side2 => refine (Kd.V_reads' (e := 60) (base := w.heap.size) (ok := fun k_ => ((some k_ ≠ (.slice Ao62 t414.length co62 : Value).ownBlock ∧ (some k_ ≠ (v445 : Value).ownBlock ∧ (some k_ ≠ (v453 : Value).ownBlock ∧ (k_ ≠ gb389 ∧ (k_ ≠ gb390 ∧ (k_ ≠ gb419 ∧ (k_ ≠ gb420 ∧ (k_ ≠ gb438 ∧ (k_ ≠ gb439 ∧ k_ ≠ gb465))))))))) ∧ k_ ≠ gb475)) (n := t406.length) (c := co57) ?_).2.2; exact (by (with_reducible repeat (first | apply Kd.V_alloc | apply Kd.V_drewN | apply Kd.V_drew)); exact (Kd.V_mono (Kd.V_off (g := gb475) (fun _ hk => hk.2) (Kd.V_mono HO408.out (fun k_ hk => (⟨hk, hk.2⟩ : _ ∧ k_ ≠ gb475)))) (fun _ h_ => h_.1)))); (case side3 => exact (Kd.V_reads' HO408.out).2.1); (case side4 => refine (Kd.V_reads' (e := 60) (base := w.heap.size) (ok := fun k_ => ((some k_ ≠ (.slice Ao49 t398.length co49 : Value).ownBlock ∧ (some k_ ≠ (.slice Ao62 t414.length co62 : Value).ownBlock ∧ (some k_ ≠ (v445 : Value).ownBlock ∧ (some k_ ≠ (v453 : Value).ownBlock ∧ (k_ ≠ gb389 ∧ (k_ ≠ gb390 ∧ (k_ ≠ gb419 ∧ (k_ ≠ gb420 ∧ (k_ ≠ gb438 ∧ (k_ ≠ gb439 ∧ k_ ≠ gb465)))))))))) ∧ k_ ≠ gb475)) (n := t425.length) (c := co74) ?_).2.2; exact (by (with_reducible repeat (first | apply Kd.V_alloc | apply Kd.V_drewN | apply Kd.V_drew)); exact (Kd.V_mono (Kd.V_off (g := gb475) (fun _ hk => hk.2) (Kd.V_mono HO427.out (fun k_ hk => (⟨hk, hk.2⟩ : _ ∧ k_ ≠ gb475)))) (fun _ h_ => h_.1)))); (case side5 => exact (Kd.V_reads' HO427.out).2.1); rintro e w117 ⟨rfl, hb⟩; refine ⟨_, rfl, ?_⟩; replace HO400 := Az.mk (Kd.R_below (by (with_reducible repeat (first | apply Kd.R_alloc | apply Kd.R_drewN | apply Kd.R_drew)); exact (Kd.R_mono (Kd.R_far (p := ⟨gb475, 5, none⟩) (Kd.R_far (p := ⟨gb475, 4, none⟩) (Kd.R_far (p := ⟨gb475, 3, none⟩) (Kd.R_far (p := ⟨gb475, 2, none⟩) (Kd.R_far (p := ⟨gb475, 1, none⟩) (Kd.R_far (p := ⟨gb475, 0, none⟩) (Kd.R_types HO400.out BK475.out (by decide)) (fun _ hk => hk.2) (.int .i64 t466)) (fun _ hk => hk.2) (.string t467)) (fun _ hk => hk.2) (.string t468)) (fun _ hk => hk.2) (.int .i64 t469)) (fun _ hk => hk.2) (.slice Ao112 t470.length co112)) (fun _ hk => hk.2) (.int .i64 t473)) (fun _ h_ => h_.1))) hb); replace HO408 := Az.mk (Kd.V_below (by (with_reducible repeat (first | apply Kd.V_alloc | apply Kd.V_drewN | apply Kd.V_drew)); exact (Kd.V_mono (Kd.V_off (g := gb475) (fun _ hk => hk.2) (Kd.V_mono HO408.out (fun k_ hk => (⟨hk, hk.2⟩ : _ ∧ k_ ≠ gb475)))) (fun _ h_ => h_.1))) hb); replace HO416 := Az.mk (Kd.R_below (by (with_reducible repeat (first | apply Kd.R_alloc | apply Kd.R_drewN | apply Kd.R_drew)); exact (Kd.R_mono (Kd.R_far (p := ⟨gb475, 5, none⟩) (Kd.R_far (p := ⟨gb475, 4, none⟩) (Kd.R_far (p := ⟨gb475, 3, none⟩) (Kd.R_far (p := ⟨gb475, 2, none⟩) (Kd.R_far (p := ⟨gb475, 1, none⟩) (Kd.R_far (p := ⟨gb475, 0, none⟩) (Kd.R_types HO416.out BK475.out (by decide)) (fun _ hk => hk.2) (.int .i64 t466)) (fun _ hk => hk.2) (.string t467)) (fun _ hk => hk.2) (.string t468)) (fun _ hk => hk.2) (.int .i64 t469)) (fun _ hk => hk.2) (.slice Ao112 t470.length co112)) (fun _ hk => hk.2) (.int .i64 t473)) (fun _ h_ => h_.1))) hb); replace HO427 := Az.mk (Kd.V_below (by (with_reducible repeat (first | apply Kd.V_alloc | apply Kd.V_drewN | apply Kd.V_drew)); exact (Kd.V_mono (Kd.V_off (g := gb475) (fun _ hk => hk.2) (Kd.V_mono HO427.out (fun k_ hk => (⟨hk, hk.2⟩ : _ ∧ k_ ≠ gb475)))) (fun _ h_ => h_.1))) hb); replace HO435 := Az.mk (Kd.V_below (by (with_reducible repeat (first | apply Kd.V_alloc | apply Kd.V_drewN | apply Kd.V_drew)); exact (Kd.V_mono (Kd.V_off (g := gb475) (fun _ hk => hk.2) (Kd.V_mono HO435.out (fun k_ hk => (⟨hk, hk.2⟩ : _ ∧ k_ ≠ gb475)))) (fun _ h_ => h_.1))) hb); replace HO446 := Az.mk (Kd.R_below (by (with_reducible repeat (first | apply Kd.R_alloc | apply Kd.R_drewN | apply Kd.R_drew)); exact (Kd.R_mono (Kd.R_far (p := ⟨gb475, 5, none⟩) (Kd.R_far (p := ⟨gb475, 4, none⟩) (Kd.R_far (p := ⟨gb475, 3, none⟩) (Kd.R_far (p := ⟨gb475, 2, none⟩) (Kd.R_far (p := ⟨gb475, 1, none⟩) (Kd.R_far (p := ⟨gb475, 0, none⟩) (Kd.R_types HO446.out BK475.out (by decide)) (fun _ hk => hk.2) (.int .i64 t466)) (fun _ hk => hk.2) (.string t467)) (fun _ hk => hk.2) (.string t468)) (fun _ hk => hk.2) (.int .i64 t469)) (fun _ hk => hk.2) (.slice Ao112 t470.length co112)) (fun _ hk => hk.2) (.int .i64 t473)) (fun _ h_ => h_.1))) hb); replace HO454 := Az.mk (Kd.R_below (by (with_reducible repeat (first | apply Kd.R_alloc | apply Kd.R_drewN | apply Kd.R_drew)); exact (Kd.R_mono (Kd.R_far (p := ⟨gb475, 5, none⟩) (Kd.R_far (p := ⟨gb475, 4, none⟩) (Kd.R_far (p := ⟨gb475, 3, none⟩) (Kd.R_far (p := ⟨gb475, 2, none⟩) (Kd.R_far (p := ⟨gb475, 1, none⟩) (Kd.R_far (p := ⟨gb475, 0, none⟩) (Kd.R_types HO454.out BK475.out (by decide)) (fun _ hk => hk.2) (.int .i64 t466)) (fun _ hk => hk.2) (.string t467)) (fun _ hk => hk.2) (.string t468)) (fun _ hk => hk.2) (.int .i64 t469)) (fun _ hk => hk.2) (.slice Ao112 t470.length co112)) (fun _ hk => hk.2) (.int .i64 t473)) (fun _ h_ => h_.1))) hb); replace HO462 := Az.mk (Kd.V_below (by (with_reducible repeat (first | apply Kd.V_alloc | apply Kd.V_drewN | apply Kd.V_drew)); exact (Kd.V_mono (Kd.V_off (g := gb475) (fun _ hk => hk.2) (Kd.V_mono HO462.out (fun k_ hk => (⟨hk, hk.2⟩ : _ ∧ k_ ≠ gb475)))) (fun _ h_ => h_.1))) hb); replace HO472 := Az.mk (Kd.V_below (by (with_reducible repeat (first | apply Kd.V_alloc | apply Kd.V_drewN | apply Kd.V_drew)); exact (Kd.V_mono (Kd.V_off (g := gb475) (fun _ hk => hk.2) (Kd.V_mono HO472.out (fun k_ hk => (⟨hk, hk.2⟩ : _ ∧ k_ ≠ gb475)))) (fun _ h_ => h_.1))) hb); replace BK389 := Az.mk (bkB (bf BK389.out) hb); replace BK390 := Az.mk (bkB (bf BK390.out) hb); replace BK419 := Az.mk (bkB (bf BK419.out) hb); replace BK420 := Az.mk (bkB (bf BK420.out) hb); replace BK438 := Az.mk (bkB (bf BK438.out) hb); replace BK439 := Az.mk (bkB (bf BK439.out) hb); replace BK465 := Az.mk (bkB (bf BK465.out) hb); replace BK475 := Az.mk (bkB (g := gb475) (o := .cells #[.int .i64 t466, .string t467, .string t468, .int .i64 t469, .slice Ao112 t470.length co112, .int .i64 t473] 26 (0, 0)) (by refine bk ?_; refine blk_put (cs := #[.int .i64 t466, .string t467, .string t468, .int .i64 t469, .slice Ao112 t470.length co112, .int .i64 0]) ?_ 5 _ rfl; refine bk ?_; refine blk_put (cs := #[.int .i64 t466, .string t467, .string t468, .int .i64 t469, .slice none 0 0, .int .i64 0]) ?_ 4 _ rfl; refine bk ?_; refine blk_put (cs := #[.int .i64 t466, .string t467, .string t468, .int .i64 0, .slice none 0 0, .int .i64 0]) ?_ 3 _ rfl; refine bk ?_; refine blk_put (cs := #[.int .i64 t466, .string t467, .string (⟨#[]⟩ : ByteArray), .int .i64 0, .slice none 0 0, .int .i64 0]) ?_ 2 _ rfl; refine bk ?_; refine blk_put (cs := #[.int .i64 t466, .string (⟨#[]⟩ : ByteArray), .string (⟨#[]⟩ : ByteArray), .int .i64 0, .slice none 0 0, .int .i64 0]) ?_ 1 _ rfl; refine bk ?_; refine blk_put (cs := #[.int .i64 0, .string (⟨#[]⟩ : ByteArray), .string (⟨#[]⟩ : ByteArray), .int .i64 0, .slice none 0 0, .int .i64 0]) ?_ 0 _ rfl; refine bk ?_; exact BK475.out) hb); replace HB := Az.mk (pbT (by exact pbE HB.out) hb); (try clear hb); (try clear hb2); (try clear hk); (try clear hi); have hnb118 := NB420_465.out; have hnc118 := NB465_420.out; have hcz119 := cells6 BK420.out; have hnb120 := NB439_465.out; have hnc120 := NB465_439.out; have hcz121 := cells6 BK439.out) | (go_at_call 16; (with_reducible refine (r06_Same.calls kj4 t410 t411 t412 t413 _ _ t414 t417 t429 t430 t431 t432 _ _ t433 t436 true _ ?side1 ?side2 ?side3 ?side4 ?side5 A37.out).mono ?_); (case side1 => exact hG.below (by exact pbE HB.out)); (case side2 => exact Kd.C_ext (Kd.R_reads' HO416.out).2.2); (case side3 => exact (Kd.R_reads' HO416.out).2.1); (case side4 => repeat (first | exact (Kd.V_reads' HO435.out).2.2 | (with_reducible refine Kd.C_alloc ?_ _) | (with_reducible refine Kd.C_drewN ?_ _) | (with_reducible refine Kd.C_drew ?_))); (case side5 => exact (Kd.V_reads' HO435.out).2.1); rintro e w122 ⟨rfl, hb⟩; replace HO400 := Az.mk (Kd.R_below (Kd.R_ext HO400.out) hb); replace HO408 := Az.mk (Kd.V_below (Kd.V_ext HO408.out) hb); replace HO416 := Az.mk (Kd.R_below (Kd.R_ext HO416.out) hb); replace HO427 := Az.mk (Kd.V_below (Kd.V_ext HO427.out) hb); replace HO435 := Az.mk (Kd.V_below (Kd.V_ext HO435.out) hb); replace HO446 := Az.mk (Kd.R_below (Kd.R_ext HO446.out) hb); replace HO454 := Az.mk (Kd.R_below (Kd.R_ext HO454.out) hb); replace HO462 := Az.mk (Kd.V_below (Kd.V_ext HO462.out) hb); replace HO472 := Az.mk (Kd.V_below (Kd.V_ext HO472.out) hb); replace BK389 := Az.mk (bkB (bk BK389.out) hb); replace BK390 := Az.mk (bkB (bk BK390.out) hb); replace BK419 := Az.mk (bkB (bk BK419.out) hb); replace BK420 := Az.mk (bkB (bk BK420.out) hb); replace BK438 := Az.mk (bkB (bk BK438.out) hb); replace BK439 := Az.mk (bkB (bk BK439.out) hb); replace BK465 := Az.mk (bkB (bk BK465.out) hb); replace BK475 := Az.mk (bkB (bk BK475.out) hb); replace HB := Az.mk (pbT (by exact pbE HB.out) hb); (try clear hb); (try clear hb2); (try clear hk); (try clear hi)) | (go_at_call 17; (with_reducible refine (l06_num.calls t418 t478 _ ?side1 A39.out).mono ?_); (case side1 => exact hG.below (by exact pbE HB.out)); rintro e w' ⟨rfl, ⟨nd, rfl⟩⟩; have hcz123 := cells6 BK465.out; have hcz124 := cells6 BK475.out) | (go_at_call 16; (with_reducible refine (r06_Same.calls kj4 t456 t457 t458 t459 _ _ t460 t463 t466 t467 t468 t469 _ _ t470 t473 true _ ?side1 ?side2 ?side3 ?side4 ?side5 A41.out).mono ?_); (case side1 => exact hG.below (by exact pbE HB.out)); (case side2 => repeat (first | exact (Kd.V_reads' HO462.out).2.2 | (with_reducible refine Kd.C_alloc ?_ _) | (with_reducible refine Kd.C_drewN ?_ _) | (with_reducible refine Kd.C_drew ?_))); (case side3 => exact (Kd.V_reads' HO462.out).2.1); (case side4 => repeat (first | exact (Kd.V_reads' HO472.out).2.2 | (with_reducible refine Kd.C_alloc ?_ _) | (with_reducible refine Kd.C_drewN ?_ _) | (with_reducible refine Kd.C_drew ?_))); (case side5 => exact (Kd.V_reads' HO472.out).2.1); rintro e w125 ⟨rfl, hb⟩; replace HO400 := Az.mk (Kd.R_below (Kd.R_ext HO400.out) hb); replace HO408 := Az.mk (Kd.V_below (Kd.V_ext HO408.out) hb); replace HO416 := Az.mk (Kd.R_below (Kd.R_ext HO416.out) hb); replace HO427 := Az.mk (Kd.V_below (Kd.V_ext HO427.out) hb); replace HO435 := Az.mk (Kd.V_below (Kd.V_ext HO435.out) hb); replace HO446 := Az.mk (Kd.R_below (Kd.R_ext HO446.out) hb); replace HO454 := Az.mk (Kd.R_below (Kd.R_ext HO454.out) hb); replace HO462 := Az.mk (Kd.V_below (Kd.V_ext HO462.out) hb); replace HO472 := Az.mk (Kd.V_below (Kd.V_ext HO472.out) hb); replace BK389 := Az.mk (bkB (bk BK389.out) hb); replace BK390 := Az.mk (bkB (bk BK390.out) hb); replace BK419 := Az.mk (bkB (bk BK419.out) hb); replace BK420 := Az.mk (bkB (bk BK420.out) hb); replace BK438 := Az.mk (bkB (bk BK438.out) hb); replace BK439 := Az.mk (bkB (bk BK439.out) hb); replace BK465 := Az.mk (bkB (bk BK465.out) hb); replace BK475 := Az.mk (bkB (bk BK475.out) hb); replace HB := Az.mk (pbT (by exact pbE HB.out) hb); (try clear hb); (try clear hb2); (try clear hk); (try clear hi)) | (go_at_call 17; (with_reducible refine (l06_num.calls t464 t480 _ ?side1 A43.out).mono ?_); (case side1 => exact hG.below (by exact pbE HB.out)); rintro e w' ⟨rfl, ⟨nd, rfl⟩⟩) | (go_at_call 10; (with_reducible refine (l06_live.calls  t481 _ ?side1 A45.out).mono ?_); (case side1 => exact hG.below (by exact pbE HB.out)); rintro e w126 ⟨rfl, hb⟩; replace HO400 := Az.mk (Kd.R_below (Kd.R_ext HO400.out) hb); replace HO408 := Az.mk (Kd.V_below (Kd.V_ext HO408.out) hb); replace HO416 := Az.mk (Kd.R_below (Kd.R_ext HO416.out) hb); replace HO427 := Az.mk (Kd.V_below (Kd.V_ext HO427.out) hb); replace HO435 := Az.mk (Kd.V_below (Kd.V_ext HO435.out) hb); replace HO446 := Az.mk (Kd.R_below (Kd.R_ext HO446.out) hb); replace HO454 := Az.mk (Kd.R_below (Kd.R_ext HO454.out) hb); replace HO462 := Az.mk (Kd.V_below (Kd.V_ext HO462.out) hb); replace HO472 := Az.mk (Kd.V_below (Kd.V_ext HO472.out) hb); replace BK389 := Az.mk (bkB (bk BK389.out) hb); replace BK390 := Az.mk (bkB (bk BK390.out) hb); replace BK419 := Az.mk (bkB (bk BK419.out) hb); replace BK420 := Az.mk (bkB (bk BK420.out) hb); replace BK438 := Az.mk (bkB (bk BK438.out) hb); replace BK439 := Az.mk (bkB (bk BK439.out) hb); replace BK465 := Az.mk (bkB (bk BK465.out) hb); replace BK475 := Az.mk (bkB (bk BK475.out) hb); replace HB := Az.mk (pbT (by exact pbE HB.out) hb); (try clear hb); (try clear hb2); (try clear hk); (try clear hi)))
         go_ret
         exact ⟨by first | rfl | (simp [errW_none, errW_some] <;> rfl) | (simp [*, errW_none, errW_some] <;> rfl), by exact pbE HB.out⟩
        ·rw [if_neg c44] at H
         have c44b0 : (t480 == t474) = false := beq_eq_false_iff_ne.mpr c44
         have c44b1 : (t480 != t474) = true := bne_iff_ne.mpr c44
         exact absurd (Option.some.inj (H.trans (congrArg some hr))) (by decide)
       ·replace c42 := Bool.eq_false_iff.mpr c42
        subst c42
        rw [if_neg (show ¬ (false = true) by decide)] at H
        exact absurd (Option.some.inj (H.trans (congrArg some hr))) (by decide)
      ·rw [if_neg c40] at H
       have c40b0 : (t478 == t437) = false := beq_eq_false_iff_ne.mpr c40
       have c40b1 : (t478 != t437) = true := bne_iff_ne.mpr c40
       exact absurd (Option.some.inj (H.trans (congrArg some hr))) (by decide)
     ·replace c38 := Bool.eq_false_iff.mpr c38
      subst c38
      rw [if_neg (show ¬ (false = true) by decide)] at H
      exact absurd (Option.some.inj (H.trans (congrArg some hr))) (by decide)
    ·replace c36 := Bool.eq_false_iff.mpr c36
     subst c36
     rw [if_neg (show ¬ (false = true) by decide)] at H
     exact absurd (Option.some.inj (H.trans (congrArg some hr))) (by decide)
end Go.Proofs.YtjfhcijjjadhbaaDoor.P
end
section
namespace Go.Proofs.YtjfhcijjjadhbaaDoor.U
open Go.RowKit Go.Proofs.YtjfhcijjjadhbaaDoorW.PrintWords Go.Proofs.YtjfhcijjjadhbaaDoorW.PrintLast Go.Proofs.YtjfhcijjjadhbaaDoorW.PrintMore Go.Proofs.YtjfhcijjjadhbaaDoor.P Go.Proofs.YtjfhcijjjadhbaaDoor.K Go.Proofs.YtjfhcijjjadhbaaDoor.A Go.Proofs.YtjfhcijjjadhbaaDoor.V
theorem live_ev : Ev (fun _ => (l06_live.f).bind fun x => some x) true := by
 simp only [l06_live.f, Option.bind_some]
 exact Ev.now _
theorem own_eq {id : Int} {fr tu : ByteArray} {gen : Int} {l : List S60} {nx : Int} (hm : l.length ≤ 1000000) : l06_own.f id fr tu gen l nx = some (id, fr, tu, gen, l, nx) := by
 unfold l06_own.f
 rw [Option.bind_some, if_pos (by simp only [List.length_nil]; omega)]; rfl
theorem rightR_len (id : Int) (fr tu : ByteArray) (gen : Int) (l : List S60) (nx : Int) : (rightR id fr tu gen l nx).2.2.2.2.1.length ≤ l.length := by
 unfold rightR
 split
 ·exact Nat.le_refl _
 ·exact Nat.zero_le _
theorem rjoin_eq (a b c d : ByteArray) : r02_Join.f a b c d = bound_Join.f a b c d := by
 unfold r02_Join.f bound_Join.f r02_Next.f bound_Next.f bound_both.f bound_Check.f
 rw [rbound_eq, rbound_eq]
 cases boundOk a b <;> cases boundOk c d <;> rfl
theorem join_some (a b c d : ByteArray) : ∃ s, bound_Join.f a b c d = some s := by
 unfold bound_Join.f bound_Next.f bound_both.f bound_Check.f
 cases boundOk a b
 ·exact ⟨_, rfl⟩
 ·cases boundOk c d
  ·exact ⟨_, rfl⟩
  ·by_cases h : b.toList = ([] : List UInt8)
   ·simp [h]
   ·by_cases h2 : b.toList = c.toList
    ·rw [h2] at h; simp [h, h2]
    ·simp [h, h2]
theorem split_some {id : Int} {fr tu : ByteArray} {gen : Int} {l : List S60} {nx : Int} {key : ByteArray} {id2 : Int} (hm : l.length ≤ 1000000) :
 ∃ s, desc_Split.f id fr tu gen l nx key id2 = some s ∧ s.2.2.2.2.1.length ≤ 1000000 ∧ s.2.2.2.2.2.2.2.2.2.2.1.length ≤ 1000000 := by
 have hc : api_Member_33.f l = some l := by
  unfold api_Member_33.f; rw [if_pos (by omega)]
 unfold desc_Split.f
 simp only [check_eq, Option.bind_some, hc]
 by_cases h0 : okD id fr tu gen l nx = true
 ·simp only [if_pos h0, if_true]
  by_cases h1 : cutOk fr tu key = true
  ·simp only [if_pos h1]
   by_cases h2 : id2 ≤ id
   ·simp only [if_pos h2]; exact ⟨_, rfl, by simp, by simp⟩
   ·simp only [if_neg h2]
    by_cases h3 : okD id fr key (wrap64 (gen + 1)) l nx = true
    ·simp only [if_pos h3, if_true]
     by_cases h4 : okD id2 key tu (wrap64 (gen + 1)) l nx = true
     ·simp only [if_pos h4, if_true]; exact ⟨_, rfl, hm, hm⟩
     ·simp only [if_neg h4]; rw [if_neg (by decide)]; exact ⟨_, rfl, by simp, by simp⟩
    ·simp only [if_neg h3]; rw [if_neg (by decide)]; exact ⟨_, rfl, by simp, by simp⟩
  ·simp only [if_neg h1]; exact ⟨_, rfl, by simp, by simp⟩
 ·simp only [if_neg h0]; rw [if_neg (by decide)]; exact ⟨_, rfl, by simp, by simp⟩
theorem merge_both {id : Int} {fr tu : ByteArray} {gen : Int} {l : List S60} {nx id2 : Int} {fr2 tu2 : ByteArray} {gen2 : Int} {l2 : List S60} {nx2 : Int} (hm : l.length ≤ 1000000) (hm2 : l2.length ≤ 1000000) :
 ∃ r : DR, Ev (fun k => desc_Merge.f k id fr tu gen l nx id2 fr2 tu2 gen2 l2 nx2) r ∧ Ev (fun k => r06_Merge.f k id fr tu gen l nx id2 fr2 tu2 gen2 l2 nx2) r ∧ r.2.2.2.2.1.length ≤ 1000000 := by
 have hbad : Ev (fun k => desc_Merge.j0 k true id fr tu gen l nx id2 fr2 tu2 gen2 l2 nx2) badD := by
  refine Ev.shift ?_
  simp only [desc_Merge.j0, if_true]
  exact Ev.now _
 have hbad2 : Ev (fun k => r06_Merge.j0 k true id fr tu gen l nx id2 fr2 tu2 gen2 l2 nx2) badD := by
  refine Ev.shift ?_
  simp only [r06_Merge.j0, if_true]
  exact Ev.now _
 simp only [desc_Merge.f, check_eq, Option.bind_some]
 cases h0 : okD id fr tu gen l nx with
 | false =>
  refine ⟨badD, Ev.ite (fun h => absurd h (by decide)) (fun _ => hbad), ?_, by simp [badD]⟩
  refine Ev.bind (is_ev hm) ?_
  rw [h0]
  exact Ev.ite (fun h => absurd h (by decide)) (fun _ => hbad2)
 | true =>
  cases h1 : okD id2 fr2 tu2 gen2 l2 nx2 with
  | false =>
   refine ⟨badD, Ev.ite (fun _ => hbad) (fun h => absurd rfl h), ?_, by simp [badD]⟩
   refine Ev.bind (is_ev hm) ?_
   rw [h0]
   refine Ev.ite (fun _ => ?_) (fun h => absurd rfl h)
   refine Ev.bind (is_ev hm2) ?_
   rw [h1]
   exact hbad2
  | true =>
   obtain ⟨s, hs⟩ := join_some fr tu fr2 tu2
   have key : ∀ (g : Nat → Option DR) (r : DR), Ev g r → Ev (fun k => (g k).bind fun bt => some (bt.1, bt.2.1, bt.2.2.1, bt.2.2.2.1, bt.2.2.2.2.1, bt.2.2.2.2.2.1, bt.2.2.2.2.2.2)) r := fun g r h => Ev.bind h (Ev.now _)
   refine ⟨if s.2.2 = 0 then (if id = id2 then (0, (⟨#[]⟩ : ByteArray), (⟨#[]⟩ : ByteArray), 0, ([] : List S60), 0, 2) else rightR id s.1 s.2.1 (wrap64 ((mx gen gen2) + 1)) l nx) else (0, (⟨#[]⟩ : ByteArray), (⟨#[]⟩ : ByteArray), 0, ([] : List S60), 0, s.2.2), ?_, ?_, ?_⟩
   ·refine Ev.ite (fun _ => ?_) (fun h => absurd rfl h)
    refine Ev.shift ?_
    simp only [desc_Merge.j0, hs, Option.bind_some, right_eq]
    refine Ev.ite (fun h => absurd h (by decide)) (fun _ => ?_)
    refine Ev.ite (fun c => ?_) (fun c => ?_)
    ·rw [if_pos c]
     refine Ev.ite (fun c2 => ?_) (fun c2 => ?_)
     ·rw [if_pos c2]; exact Ev.now _
     ·rw [if_neg c2]; exact Ev.now _
    ·rw [if_neg c]; exact Ev.now _
   ·refine Ev.bind (is_ev hm) ?_
    rw [h0]
    refine Ev.ite (fun _ => ?_) (fun h => absurd rfl h)
    refine Ev.bind (is_ev hm2) ?_
    rw [h1]
    refine Ev.shift ?_
    simp only [r06_Merge.j0, Bool.not_true, Bool.false_eq_true, if_false, rjoin_eq, hs, Option.bind_some]
    refine Ev.ite (fun c => ?_) (fun c => ?_)
    ·rw [if_pos c]
     refine Ev.ite (fun c2 => ?_) (fun c2 => ?_)
     ·rw [if_pos c2]; exact Ev.now _
     ·rw [if_neg c2]; exact key _ _ (rright_ev hm)
    ·rw [if_neg c]; exact Ev.now _
   ·split
    ·split
     ·simp
     ·exact Nat.le_trans (rightR_len _ _ _ _ _ _) hm
    ·simp
theorem DescSplits : ∀ (a0_0 : Int), (Lit.int .i64 a0_0).wf = true → ∀ (a0_1 : ByteArray), a0_1.size ≤ reachBytes → ∀ (a0_2 : ByteArray), a0_2.size ≤ reachBytes → ∀ (a0_3 : Int), (Lit.int .i64 a0_3).wf = true → ∀ (l0_4 : List S60), (l0_4.length * 16 ≤ reachBytes ∧ l0_4.length ≤ maxLen ∧ ∀ x ∈ l0_4, ((Lit.int .i64 x.f0).wf = true ∧ (Lit.int .i64 x.f1).wf = true)) → ∀ (a0_5 : Int), (Lit.int .i64 a0_5).wf = true → ∀ (a1 : ByteArray), a1.size ≤ reachBytes → ∀ (a2 : Int), (Lit.int .i64 a2).wf = true → ∀ (a3_0 : Int), (Lit.int .i64 a3_0).wf = true → ∀ (a3_1 : ByteArray), a3_1.size ≤ reachBytes → ∀ (a3_2 : ByteArray), a3_2.size ≤ reachBytes → ∀ (a3_3 : Int), (Lit.int .i64 a3_3).wf = true → ∀ (l3_4 : List S60), (l3_4.length * 16 ≤ reachBytes ∧ l3_4.length ≤ maxLen ∧ ∀ x ∈ l3_4, ((Lit.int .i64 x.f0).wf = true ∧ (Lit.int .i64 x.f1).wf = true)) → ∀ (a3_5 : Int), (Lit.int .i64 a3_5).wf = true → ∃ k, l06_DescSplits.f k a0_0 a0_1 a0_2 a0_3 l0_4 a0_5 a1 a2 a3_0 a3_1 a3_2 a3_3 l3_4 a3_5 = some true := by
 intro id _ fr _ tu _ gen _ l _ nx _ key _ id2 _ io _ fo _ to_ _ go _ lo _ no _
 refine Ev.rounds ?_
 have hbad : Ev (fun k => l06_DescSplits.j0 k key id2 true id fr tu gen l nx io fo to_ go lo no) true := by
  refine Ev.shift ?_
  simp only [l06_DescSplits.j0, if_true]
  exact live_ev
 simp only [l06_DescSplits.f, small_eq, Option.bind_some]
 refine Ev.ite (fun hs => ?_) (fun _ => hbad)
 refine Ev.ite (fun hs2 => ?_) (fun _ => hbad)
 by_cases c : (key.size : Int) > 2000
 ·rw [decide_eq_true c]; exact hbad
 ·rw [decide_eq_false c]
  have hl := (of_decide_eq_true hs).1
  have hl2 := (of_decide_eq_true hs2).1
  have hm : l.length ≤ 1000000 := by omega
  have hm2 : lo.length ≤ 1000000 := by omega
  obtain ⟨s, e1, l1, l2⟩ := split_some (id := id) (fr := fr) (tu := tu) (gen := gen) (l := l) (nx := nx) (key := key) (id2 := id2) hm
  obtain ⟨r, v1, v2, l3⟩ := merge_both (id := id) (fr := fr) (tu := tu) (gen := gen) (l := l) (nx := nx) (id2 := io) (fr2 := fo) (tu2 := to_) (gen2 := go) (l2 := lo) (nx2 := no) hm hm2
  have e2 : r06_Split.f id fr tu gen l nx key id2 = some s := by unfold r06_Split.f; rw [if_pos hm]; exact e1
  refine Ev.shift ?_
  simp only [l06_DescSplits.j0, Bool.false_eq_true, if_false, Option.bind_some, own_eq hm, own_eq hm2, e1, e2, l06_num.f]
  refine Ev.bind v1 (Ev.bind v2 ?_)
  refine Ev.bind (rself_ev (s.1, s.2.1, s.2.2.1, s.2.2.2.1, s.2.2.2.2.1, s.2.2.2.2.2.1, 0) (by simp only; omega)) ?_
  refine Ev.ite (fun _ => ?_) (fun h => (by first | exact (h rfl).elim | exact (h trivial).elim))
  refine Ev.bind (rself_ev (s.2.2.2.2.2.2.1, s.2.2.2.2.2.2.2.1, s.2.2.2.2.2.2.2.2.1, s.2.2.2.2.2.2.2.2.2.1, s.2.2.2.2.2.2.2.2.2.2.1, s.2.2.2.2.2.2.2.2.2.2.2.1, 0) (by simp only; omega)) ?_
  refine Ev.ite (fun _ => Ev.ite (fun _ => ?_) (fun h => (by first | exact (h rfl).elim | exact (h trivial).elim))) (fun h => (by first | exact (h rfl).elim | exact (h trivial).elim))
  refine Ev.bind (rself_ev r (by omega)) ?_
  exact Ev.ite (fun _ => Ev.ite (fun _ => live_ev) (fun h => (by first | exact (h rfl).elim | exact (h trivial).elim))) (fun h => (by first | exact (h rfl).elim | exact (h trivial).elim))
end Go.Proofs.YtjfhcijjjadhbaaDoor.U
end
section
namespace Go.Proofs.YtjfhcijjjadhbaaDoor.descSplits
open Go.ChangeShapes Go.WideShapes Go.ChangeAt Go.RowKit Go.Proofs.YtjfhcijjjadhbaaDoor.K
open Go.ChangeMaps (open_string shut_string)
open Go.RowKit Go.Proofs.YtjfhcijjjadhbaaDoorW.PrintWords Go.Proofs.YtjfhcijjjadhbaaDoorW.PrintLast Go.Proofs.YtjfhcijjjadhbaaDoorW.PrintMore Go.Proofs.YtjfhcijjjadhbaaDoor.P Go.Proofs.YtjfhcijjjadhbaaDoor.K Go.Proofs.YtjfhcijjjadhbaaDoor.A Go.Proofs.YtjfhcijjjadhbaaDoor.V
set_option maxRecDepth 100000 in
theorem opn60 : O.Opn Tryd.prog 60 P.k60 (fun x => ((Lit.int .i64 x.f0).wf = true ∧ (Lit.int .i64 x.f1).wf = true)) := O.Opn.iso (fun y => ⟨y.1, y.2⟩) (fun _ => rfl) (O.Opn.struct Tryd.underlying60 (by kernel_rfl) (O.OpnF.cons rfl (by kernel_rfl) (O.Opn.int Tryd.underlying3) (O.OpnF.one rfl (by kernel_rfl) (O.Opn.int Tryd.underlying2))))
theorem fl60 : K.Flat P.k60 := by
 intro w w' x c h
 obtain rfl := P.k60_open h
 exact P.k60_mk w' x
set_option maxRecDepth 100000 in
theorem contract (H : Type) (enc : TypeId × Value → H) (W : World) (base : Nat) (args : Array Value) (ds gs : List (DataW H)) (before : List MemPlace)
 (hval0 : ∀ (j : Nat) t v, Tryd.f3.params[j]? = some t → args[j]? = some v → Value.okWide Tryd.prog W .any base t v)
 (hW : DataW.Whole enc Tryd.prog Tryd.f3.params.toList Rows.descSplitsSpec.vars false W args.toList ds gs before) (hG : TheG W)
 (hsz0 : (DataW.weightsEach Tryd.prog (Tryd.f3.params.toList ++ Rows.descSplitsSpec.plain.varTypes Tryd.prog) (ds ++ gs)).all (· ≤ reachBytes) = true) :
 Calls Tryd.prog 3 args W fun e W' => ∃ v, e = .returned v ∧ Rows.descSplitsSpec.post enc Tryd.prog Tryd.f3 false true false false W args v W' := by
 have hsz : (DataW.weightsEach Tryd.prog (Tryd.f3.params.toList ++ Rows.descSplitsSpec.plain.varTypes Tryd.prog) (ds ++ gs)).all (· ≤ reachBytes) = true := hsz0
 have hval : ∀ (j : Nat) t v, Tryd.f3.params[j]? = some t → args[j]? = some v → Value.okWide Tryd.prog W .any base t v := hval0
 have hW' := hW
 obtain ⟨p, q, hA0, hV, rfl, hfz, hnd⟩ := hW
 have hA : DataW.TrodAll enc Tryd.prog W 0 (fun _ => true) true Tryd.f3.params.toList args.toList ds p := hA0
 rw [Tryd.params3] at hA hval hsz
 obtain ⟨v0, vs0, d0, ds0, p0, q0, hargs, rfl, rfl, h0, r0⟩ := trodAll_cons hA
 obtain ⟨v1, vs1, d1, ds1, p1, q1, rfl, rfl, rfl, h1, r1⟩ := trodAll_cons r0
 obtain ⟨v2, vs2, d2, ds2, p2, q2, rfl, rfl, rfl, h2, r2⟩ := trodAll_cons r1
 obtain ⟨v3, vs3, d3, ds3, p3, q3, rfl, rfl, rfl, h3, r3⟩ := trodAll_cons r2
 obtain ⟨rfl, rfl, rfl⟩ := trodAll_nil r3
 obtain rfl : args = #[v0, v1, v2, v3] := by cases args; simp_all
 obtain ⟨rfl, rfl⟩ := trodVars_none hV
 have k0 := h0
 have lt0 : ∀ x ∈ p0, x.block < W.heap.size := by obtain ⟨m, hm⟩ := k0; exact DataW.trod_lt m _ _ _ hm
 have wt0 : ∀ n ∈ DataW.weights Tryd.prog 26 d0, n ≤ reachBytes := fun n hn => of_decide_eq_true (List.all_eq_true.1 hsz n (DataW.weights_mem_each (j := 0) rfl rfl n hn))
 obtain ⟨cs0, rfl, _⟩ := okWide_struct Tryd.underlying26 (hval 0 26 v0 rfl rfl)
 obtain ⟨fu0, hf0⟩ := h0
 obtain ⟨s0, hK0, hok0⟩ := (O.Opn.struct Tryd.underlying26 (by kernel_rfl) (O.OpnF.cons rfl (by kernel_rfl) (O.Opn.int Tryd.underlying2) (O.OpnF.cons rfl (by kernel_rfl) (O.Opn.struct Tryd.underlying23 (by kernel_rfl) (O.OpnF.cons rfl (by kernel_rfl) (O.Opn.string Tryd.underlying9) (O.OpnF.one rfl (by kernel_rfl) (O.Opn.string Tryd.underlying9)))) (O.OpnF.cons rfl (by kernel_rfl) (O.Opn.int Tryd.underlying2) (O.OpnF.cons rfl (by kernel_rfl) (O.Opn.slice Tryd.underlying24 (by kernel_rfl) (by kernel_rfl) opn60) (O.OpnF.one rfl (by kernel_rfl) (O.Opn.int Tryd.underlying2))))))) H enc W _ _ _ _ _ _ _ hf0 wt0
 obtain ⟨a0_0, ⟨a0_1, a0_2⟩, a0_3, l0_4, a0_5⟩ := s0
 obtain ⟨o0_0, ⟨o0_1, o0_2⟩, o0_3, o0_4, o0_5⟩ := hok0
 obtain ⟨_, _, hcs0, rfl, _, _, rfl, ⟨_, _, rfl, rfl, rfl⟩, _, _, rfl, rfl, _, _, rfl, ⟨A0_4, c0_4, rfl, hc0_4, hr0_4⟩, rfl⟩ := hK0
 obtain rfl : cs0 = #[.int .i64 a0_0, .string a0_1, .string a0_2, .int .i64 a0_3, .slice A0_4 l0_4.length c0_4, .int .i64 a0_5] := Array.toList_inj.1 (show cs0.toList = [.int .i64 a0_0, .string a0_1, .string a0_2, .int .i64 a0_3, .slice A0_4 l0_4.length c0_4, .int .i64 a0_5] from hcs0)
 have k1 := h1
 have lt1 : ∀ x ∈ p1, x.block < W.heap.size := by obtain ⟨m, hm⟩ := k1; exact DataW.trod_lt m _ _ _ hm
 have wt1 : ∀ n ∈ DataW.weights Tryd.prog 9 d1, n ≤ reachBytes := fun n hn => of_decide_eq_true (List.all_eq_true.1 hsz n (DataW.weights_mem_each (j := 1) rfl rfl n hn))
 obtain ⟨a1, rfl, rfl, rfl, y1⟩ := open_string Tryd.underlying9 (hval 1 9 v1 rfl rfl) h1
 have w1 : a1.size ≤ reachBytes := by have := wt1 a1.data.toList.length (by simp [DataW.weights]); rw [← Lib.size_eq] at this; exact this
 have k2 := h2
 have lt2 : ∀ x ∈ p2, x.block < W.heap.size := by obtain ⟨m, hm⟩ := k2; exact DataW.trod_lt m _ _ _ hm
 have wt2 : ∀ n ∈ DataW.weights Tryd.prog 2 d2, n ≤ reachBytes := fun n hn => of_decide_eq_true (List.all_eq_true.1 hsz n (DataW.weights_mem_each (j := 2) rfl rfl n hn))
 obtain ⟨a2, rfl, rfl, rfl, w2⟩ := open_int Tryd.underlying2 (hval 2 2 v2 rfl rfl) h2
 have k3 := h3
 have lt3 : ∀ x ∈ p3, x.block < W.heap.size := by obtain ⟨m, hm⟩ := k3; exact DataW.trod_lt m _ _ _ hm
 have wt3 : ∀ n ∈ DataW.weights Tryd.prog 26 d3, n ≤ reachBytes := fun n hn => of_decide_eq_true (List.all_eq_true.1 hsz n (DataW.weights_mem_each (j := 3) rfl rfl n hn))
 obtain ⟨cs3, rfl, _⟩ := okWide_struct Tryd.underlying26 (hval 3 26 v3 rfl rfl)
 obtain ⟨fu3, hf3⟩ := h3
 obtain ⟨s3, hK3, hok3⟩ := (O.Opn.struct Tryd.underlying26 (by kernel_rfl) (O.OpnF.cons rfl (by kernel_rfl) (O.Opn.int Tryd.underlying2) (O.OpnF.cons rfl (by kernel_rfl) (O.Opn.struct Tryd.underlying23 (by kernel_rfl) (O.OpnF.cons rfl (by kernel_rfl) (O.Opn.string Tryd.underlying9) (O.OpnF.one rfl (by kernel_rfl) (O.Opn.string Tryd.underlying9)))) (O.OpnF.cons rfl (by kernel_rfl) (O.Opn.int Tryd.underlying2) (O.OpnF.cons rfl (by kernel_rfl) (O.Opn.slice Tryd.underlying24 (by kernel_rfl) (by kernel_rfl) opn60) (O.OpnF.one rfl (by kernel_rfl) (O.Opn.int Tryd.underlying2))))))) H enc W _ _ _ _ _ _ _ hf3 wt3
 obtain ⟨a3_0, ⟨a3_1, a3_2⟩, a3_3, l3_4, a3_5⟩ := s3
 obtain ⟨o3_0, ⟨o3_1, o3_2⟩, o3_3, o3_4, o3_5⟩ := hok3
 obtain ⟨_, _, hcs3, rfl, _, _, rfl, ⟨_, _, rfl, rfl, rfl⟩, _, _, rfl, rfl, _, _, rfl, ⟨A3_4, c3_4, rfl, hc3_4, hr3_4⟩, rfl⟩ := hK3
 obtain rfl : cs3 = #[.int .i64 a3_0, .string a3_1, .string a3_2, .int .i64 a3_3, .slice A3_4 l3_4.length c3_4, .int .i64 a3_5] := Array.toList_inj.1 (show cs3.toList = [.int .i64 a3_0, .string a3_1, .string a3_2, .int .i64 a3_3, .slice A3_4 l3_4.length c3_4, .int .i64 a3_5] from hcs3)
 obtain ⟨k, hp⟩ := U.DescSplits a0_0 o0_0 a0_1 o0_1 a0_2 o0_2 a0_3 o0_3 l0_4 o0_4 a0_5 o0_5 a1 w1 a2 w2 a3_0 o3_0 a3_1 o3_1 a3_2 o3_2 a3_3 o3_3 l3_4 o3_4 a3_5 o3_5
 refine (l06_DescSplits.calls (k := k) (r := true) (w := W) (hG := hG) (hr := rfl) (hr0_4 := hr0_4) (hc0_4 := hc0_4) (hr3_4 := hr3_4) (hc3_4 := hc3_4) (h := hp)).mono ?_
 rintro e W' ⟨rfl, bel0⟩
 have bel : Below W.heap.size W W' := by first | exact bel0 | exact bel0.below
 exact ⟨_, rfl, _, _, _, [], _, [], hW', trodAll_mk1 (shut_bool Tryd.underlying4 _), (trodAll_cons_mk (Below.trod laidOut (by kernel_rfl) (of_decide_eq_true (by kernel_rfl)) k0 bel lt0) (trodAll_cons_mk (Below.trod laidOut (by kernel_rfl) (of_decide_eq_true (by kernel_rfl)) k1 bel lt1) (trodAll_cons_mk (Below.trod laidOut (by kernel_rfl) (of_decide_eq_true (by kernel_rfl)) k2 bel lt2) (trodAll_cons_mk (Below.trod laidOut (by kernel_rfl) (of_decide_eq_true (by kernel_rfl)) k3 bel lt3) trodAll_mk0)))), rfl, bel.frame _, fun h => by cases h⟩
set_option maxRecDepth 100000 in
theorem lifted (os : Os) (started : os.Started) (H : Type) (enc : TypeId × Value → H) (F : Stop.Interp) :
 ReturnsInHanded {} Tryd.checked os 3 .any ((OpenSpec.ofChange Rows.descSplitsSpec).preRow enc Tryd.prog Tryd.f3 Rows.descSplitsRow.domain false Rows.descSplitsRow.laid) (((OpenSpec.ofChange Rows.descSplitsSpec).at F).post enc Tryd.prog Tryd.f3 false true false false) := by
 have hx : ∃ places, DataW.whole enc Tryd.prog ((World.doorLaid Tryd.prog 62 os).forCall (fun _ _ => 0) ⟨#[], #[.agg #[.int .i64 0, .string ByteArray.empty, .string ByteArray.empty, .int .i64 0, .slice none 0 0, .int .i64 0], .string ByteArray.empty, .int .i64 0, .agg #[.int .i64 0, .string ByteArray.empty, .string ByteArray.empty, .int .i64 0, .slice none 0 0, .int .i64 0]], []⟩).memory Tryd.f3.params.toList Rows.descSplitsSpec.vars false (#[.agg #[.int .i64 0, .string ByteArray.empty, .string ByteArray.empty, .int .i64 0, .slice none 0 0, .int .i64 0], .string ByteArray.empty, .int .i64 0, .agg #[.int .i64 0, .string ByteArray.empty, .string ByteArray.empty, .int .i64 0, .slice none 0 0, .int .i64 0]] : Array Value).toList 8 = some ([.agg [.lit (.int .i64 0), .agg [.lit (.string []), .lit (.string [])], .lit (.int .i64 0), .nil, .lit (.int .i64 0)], .lit (.string []), .lit (.int .i64 0), .agg [.lit (.int .i64 0), .agg [.lit (.string []), .lit (.string [])], .lit (.int .i64 0), .nil, .lit (.int .i64 0)]], [], places) := ⟨[], by kernel_rfl⟩
 obtain ⟨places, hx⟩ := hx
 refine returnsInHanded_of_row (C := Tryd.checked) (s := OpenSpec.ofChange Rows.descSplitsSpec) own started (by kernel_rfl) Tryd.func3
  (witness_row_atRef (enc := enc) (C := Tryd.checked) false (World.doorLaid Tryd.prog 62 os) #[.agg #[.int .i64 0, .string ByteArray.empty, .string ByteArray.empty, .int .i64 0, .slice none 0 0, .int .i64 0], .string ByteArray.empty, .int .i64 0, .agg #[.int .i64 0, .string ByteArray.empty, .string ByteArray.empty, .int .i64 0, .slice none 0 0, .int .i64 0]] rfl (by kernel_rfl) (by kernel_rfl) (by kernel_rfl)
   (OpenSpec.preRow_of_cond 8 hx (by kernel_rfl) (fun k hk => by cases hk) (by kernel_rfl) (MakeChecks.laidMetH_plain _ _ _ (by kernel_rfl) ▸ door_met os _))) ?_
 intro W base args ds gs before hval hW _ _ hsz hL hsh _
 exact contract H enc W base args ds gs before hval hW (theG_of hL hsh) hsz
theorem said : Rows.DescSplitsSaid :=
 OpenClaim.holds_of_cond 3 Tryd.f3 rfl rfl rfl rfl rfl rfl rfl ⟨rfl, rfl, rfl, rfl, rfl⟩ rfl rfl rfl rfl rfl (by kernel_rfl) Tryd.func3 (by kernel_rfl)
  (of_decide_eq_true (by kernel_rfl)) (by unfold Func.isWrapper; first | (rw [if_pos (by decide +kernel)]; kernel_rfl) | (rw [if_neg (by decide +kernel)]; exact ⟨rfl, rfl⟩))
  (fun os started H enc _ F => by rw [OpenClaim.pre_eq_preRow]; exact lifted os started H enc F)
theorem plain (f : FuncId) (fn : Func) (hf : Tryd.pinned.checked.prog.funcNamed "furlong/furlonglaw06.DescSplits" = some f) (hfn : Tryd.pinned.checked.prog.funcs[f]? = some fn) :
 true = Tryd.pinned.checked.prog.looks [] ∧ ∀ (j : Nat) t, fn.params[j]? = some t → Tryd.pinned.checked.prog.wantsStandIn t = false := by
 obtain rfl : f = 3 := Option.some.inj ((show Tryd.prog.funcNamed "furlong/furlonglaw06.DescSplits" = some 3 by kernel_rfl).symm.trans hf) |>.symm
 obtain rfl : fn = Tryd.f3 := (Option.some.inj (Tryd.func3.symm.trans hfn)).symm
 refine ⟨by kernel_rfl, fun j t ht => ?_⟩
 rw [Tryd.params3] at ht
 have hm := Array.mem_of_getElem? ht
 simp only [List.mem_toArray, List.mem_cons, List.not_mem_nil, or_false] at hm
 rcases hm with rfl | rfl | rfl | rfl
 ·exact (show Tryd.prog.wantsStandIn 26 = false by kernel_rfl)
 ·exact (show Tryd.prog.wantsStandIn 9 = false by kernel_rfl)
 ·exact (show Tryd.prog.wantsStandIn 2 = false by kernel_rfl)
 ·exact (show Tryd.prog.wantsStandIn 26 = false by kernel_rfl)
/-- The tied card. -/
theorem card : Rows.DescSplitsCardSaid :=
 Claim7.holds_tied_plain_at .later [] _ _ _ _ said (fun _ h => by cases h) (by kernel_rfl) (fun _ h => by cases h) descSplits_row_tie rfl ⟨rfl, rfl⟩ (by kernel_rfl) rfl plain (by kernel_rfl)
#print axioms card
end Go.Proofs.YtjfhcijjjadhbaaDoor.descSplits
namespace Go.Proofs.YtjfhcijjjadhbaaDoor
theorem descSplits_holds : Rows.DescSplitsCardSaid := descSplits.card
end Go.Proofs.YtjfhcijjjadhbaaDoor
end
