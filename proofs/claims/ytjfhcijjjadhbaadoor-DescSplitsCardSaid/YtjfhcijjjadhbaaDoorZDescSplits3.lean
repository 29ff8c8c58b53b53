import Derived.Test.YtjfhcijjjadhbaaDoorZDescSplits0
import Derived.Test.YtjfhcijjjadhbaaDoorZDescSplits1
import Derived.Test.YtjfhcijjjadhbaaDoorZDescSplits2
import Derived.ArgAppend
import Derived.Deep.DrawnRows
import Derived.Deep.RegionHeld3
import Derived.Lib.Hide
import Derived.Lib.SliceRun
import Derived.Maps.AppendAt
import Derived.OwnWalk
set_option linter.unusedVariables false
set_option linter.unusedSimpArgs false
set_option linter.unnecessarySimpa false
section
namespace Go.Proofs.YtjfhcijjjadhbaaDoor.P
open Go.RowKit Go.Proofs.YtjfhcijjjadhbaaDoor.K Go.Proofs.YtjfhcijjjadhbaaDoorW.PrintWords Go.Proofs.YtjfhcijjjadhbaaDoorW.PrintLast Go.Proofs.YtjfhcijjjadhbaaDoorW.PrintMore
attribute [local go_sem] max2_int min2_int max_two min_two max_three min_three max_four min_four   -- for this text's walks alone
def r06_On.l0 : Nat → Int → Int → Int → ByteArray → ByteArray → Int → List (S60) → Int → Option (Int × Int × Bool)
 | 0, _, _, _, _, _, _, _, _ => none
 | k + 1, x1, x6, x544000, x544001, x544002, x544003, x544004, x544005 => if x6 < (x544004.length : Int) then (if 0 ≤ x6 then (if ((rd_T60 x544004 x6).f0) = x1 then (some ((rd_T60 x544004 x6).f0, (rd_T60 x544004 x6).f1, true)) else (r06_On.l0 k x1 (wrap64 (x6 + 1)) x544000 x544001 x544002 x544003 x544004 x544005)) else (none)) else (some (0, 0, false))
def r06_On.f (k : Nat) (a0_0 : Int) (a0_1 : ByteArray) (a0_2 : ByteArray) (a0_3 : Int) (l0_4 : List (S60)) (a0_5 : Int) (a1 : Int) : Option (Int × Int × Bool) := r06_On.l0 k a1 0 a0_0 a0_1 a0_2 a0_3 l0_4 a0_5
theorem r06_On.mono_l : ∀ k, (∀ y0 y1 y2 y3 y4 y5 y6 y7, LeO (r06_On.l0 k y0 y1 y2 y3 y4 y5 y6 y7) (r06_On.l0 (k + 1) y0 y1 y2 y3 y4 y5 y6 y7))
 | 0 => fun _ _ _ _ _ _ _ _ r h => by simp [r06_On.l0] at h
 | k + 1 => by
  have ih0 := r06_On.mono_l k
  ·intro y0 y1 y2 y3 y4 y5 y6 y7
   unfold r06_On.l0
   repeat' first
   | (with_reducible exact ih0 _ _ _ _ _ _ _ _)
   | (with_reducible exact LeO.refl _)
   | (with_reducible exact LeO.none _)
   | (with_reducible refine LeO.ite ?_ ?_)
   | (with_reducible refine LeO.bind ?_ (fun _ => ?_))
   | exact ih0 _ _ _ _ _ _ _ _
   | exact LeO.none _
   | refine LeO.ite ?_ ?_
   | refine LeO.bind ?_ (fun _ => ?_)
theorem r06_On.mono : ∀ a0 a1 a2 a3 a4 a5 a6 k, LeO (r06_On.f k a0 a1 a2 a3 a4 a5 a6) (r06_On.f (k + 1) a0 a1 a2 a3 a4 a5 a6) := by
 intro a0 a1 a2 a3 a4 a5 a6 k
 have ih0 := r06_On.mono_l k
 unfold r06_On.f
 repeat' first
  | (with_reducible exact ih0 _ _ _ _ _ _ _ _)
  | (with_reducible exact LeO.refl _)
  | (with_reducible exact LeO.none _)
  | (with_reducible refine LeO.ite ?_ ?_)
  | (with_reducible refine LeO.bind ?_ (fun _ => ?_))
  | exact ih0 _ _ _ _ _ _ _ _
  | exact LeO.none _
  | refine LeO.ite ?_ ?_
  | refine LeO.bind ?_ (fun _ => ?_)
set_option maxHeartbeats 8000000 in
set_option maxRecDepth 100000 in
theorem r06_On.calls (k : Nat) (a0_0 : Int) (a0_1 : ByteArray) (a0_2 : ByteArray) (a0_3 : Int) (A0_4 : Option Addr) (c0_4 : Nat) (l0_4 : List (S60)) (a0_5 : Int) (a1 : Int) (r1 : Int) (r2 : Int) (r3 : Bool) (w : World) (hG : TheG w) (hr0_4 : Kd.C k60 w A0_4 l0_4.length l0_4) (hc0_4 : l0_4.length ≤ c0_4) (h : r06_On.f k a0_0 a0_1 a0_2 a0_3 l0_4 a0_5 a1 = some (r1, r2, r3)) :
 Calls Tryd.prog 50 #[.agg #[.int .i64 a0_0, .string a0_1, .string a0_2, .int .i64 a0_3, .slice A0_4 l0_4.length c0_4, .int .i64 a0_5], .int .i64 a1] w fun e w' => e = .returned (.tuple #[.agg #[.int .i64 r1, .int .i64 r2], .bool r3]) ∧ Below w.heap.size w w' := by
 have hu26 := Tryd.underlying26
 have hu60 := Tryd.underlying60
 have HR0_4 := Az.mk hr0_4
 have HC0_4 := Az.mk hc0_4
 clear hr0_4 hc0_4
 have HB := Az.mk (Below.refl w.heap.size w)
 have H : (r06_On.l0 k a1 0 a0_0 a0_1 a0_2 a0_3 l0_4 a0_5) = some (r1, r2, r3) := h
 clear h
 have H' := Az.mk H
 clear H
 go_enter Tryd.func50, Tryd.ntmps50
 go_wp2_with (first | ((with_reducible refine gate_dst (N := 2) rfl ?_); refine box_event ?hg (N := 2) ?hd (cs := #[.int .i64 a0_0, .string a0_1, .string a0_2, .int .i64 a0_3, .slice A0_4 l0_4.length c0_4, .int .i64 a0_5]) (t := 26) ?hr ?_; (case hd => rfl); (case hg => rfl); (case hr => first | (go_simp; done) | (go_simp; rfl)); intro gb543 hg w3 hbox hb; have BK543 := Az.mk (hbox); have GW543 := Az.mk (geO hg (pbE HB.out)); have GE543 := Az.mk (geO hg (pbE HB.out)); replace HB := Az.mk (pbT (by exact pbE HB.out) hb); clear hb hbox hg) | ((with_reducible refine gate_dst (N := 4) rfl ?_); refine box_event ?hg (N := 4) ?hd (cs := #[.int .i64 0, .int .i64 0]) (t := 60) ?hr ?_; (case hd => rfl); (case hg => rfl); (case hr => first | (go_simp; done) | (go_simp; rfl)); intro gb544 hg w4 hbox hb; have BK544 := Az.mk (hbox); have GW544 := Az.mk (geO hg (pbE HB.out)); have GE544 := Az.mk (geO hg (pbE HB.out)); replace HB := Az.mk (pbT (by exact pbE HB.out) hb); have NB543_544 := Az.mk (neO hg (bk BK543.out)); have NB544_543 := Az.mk (neP hg (bk BK543.out)); replace BK543 := Az.mk (bkB (bk BK543.out) hb); clear hb hbox hg))
 go_loopg [6] k (fun kq v6 w' => ∃ (x6_1 : Int) (x545000_1 : Int) (x545001_1 : Int), v6 = .int .i64 x6_1 ∧ Az (r06_On.l0 kq a1 x6_1 a0_0 a0_1 a0_2 a0_3 l0_4 a0_5 = some (r1, r2, r3)) ∧ Az (kq ≤ k) ∧ Az (w'.heap[gb543]? = some (.cells #[.int .i64 a0_0, .string a0_1, .string a0_2, .int .i64 a0_3, (.slice A0_4 l0_4.length c0_4), .int .i64 a0_5] 26 (0, 0))) ∧ Az (w'.heap[gb544]? = some (.cells #[.int .i64 x545000_1, .int .i64 x545001_1] 60 (0, 0))) ∧ Az (Below w.heap.size w w'))
 case atStart => exact ⟨(0), (0), (0), (by first | rfl | (simp; done) | (simp [*]; done)), H', ⟨Nat.le_refl _⟩, ⟨by refine bk ?_; exact BK543.out⟩, ⟨by refine bk ?_; exact BK544.out⟩, ⟨by exact pbE HB.out⟩⟩
 case round =>
  clear H'
  try clear p2
  obtain ⟨x6_1, x545000_1, x545001_1, rfl, HA, HK1, BK543, BK544, HB⟩ := hrel
  cases gk with
  | zero => exact absurd HA.out (by simp [r06_On.l0])
  | succ k1 =>
   have H := HA.out
   clear HA
   simp only [r06_On.l0] at H
   by_cases c5 : x6_1 < (l0_4.length : Int)
   ·rw [if_pos c5] at H
    have c5b0 : decide (x6_1 < (l0_4.length : Int)) = true := decide_eq_true c5
    clear c5
    by_cases c6 : 0 ≤ x6_1
    ·rw [if_pos c6] at H
     have c6b0 : decide (0 ≤ x6_1) = true := decide_eq_true c6
     clear c6
     by_cases c7 : ((rd_T60 l0_4 x6_1).f0) = a1
     ·rw [if_pos c7] at H
      have c7b0 : (((rd_T60 l0_4 x6_1).f0) == a1) = true := beq_iff_eq.mpr c7
      have c7b1 : (((rd_T60 l0_4 x6_1).f0) != a1) = false := bne_eq_false_iff_eq.mpr c7
      clear c7
      simp only [Option.some.injEq, Prod.mk.injEq] at H
      obtain ⟨rfl, rfl, rfl⟩ := H
      have hnb8 := NB543_544.out
      have hnc8 := NB544_543.out
      have hcz9 := cells6 BK543.out
      have p545 : 0 ≤ (x6_1 : Int) := of_decide_eq_true (by first | (with_reducible assumption) | assumption)
      have q545 : x6_1 < (l0_4.length : Int) := of_decide_eq_true (by first | (with_reducible assumption) | assumption)
      obtain ⟨ad545, e545, hx545_0, hx545_1⟩ := at_T60 HR0_4.out x6_1 p545 q545
      cases e545
      replace hx545_0 := (HB.out.cell (World.block_lt_of_cell? w _ hx545_0)).trans hx545_0
      replace hx545_1 := (HB.out.cell (World.block_lt_of_cell? w _ hx545_1)).trans hx545_1
      replace p545 := eq_true p545
      replace q545 := eq_true q545
      have p546 : 0 ≤ (x6_1 : Int) := of_decide_eq_true (by first | (with_reducible assumption) | assumption)
      have q546 : x6_1 < (l0_4.length : Int) := of_decide_eq_true (by first | (with_reducible assumption) | assumption)
      obtain ⟨ad546, e546, hx546_0, hx546_1⟩ := at_T60 HR0_4.out x6_1 p546 q546
      obtain rfl : ad545 = ad546 := (by injection e546)
      replace hx546_0 := (HB.out.cell (World.block_lt_of_cell? w _ hx546_0)).trans hx546_0
      replace hx546_1 := (HB.out.cell (World.block_lt_of_cell? w _ hx546_1)).trans hx546_1
      replace p546 := eq_true p546
      replace q546 := eq_true q546
      have hcz10 := cells2 BK544.out
      go_wp2
      refine bodyPost_ret (results_ct rfl _ _ gb544 60 #[.int .i64 ((rd_T60 l0_4 x6_1).f0), .int .i64 ((rd_T60 l0_4 x6_1).f1)] (0, 0) _ rfl (by refine bk ?_; refine blk_put (cs := #[.int .i64 ((rd_T60 l0_4 x6_1).f0), .int .i64 x545001_1]) ?_ 1 _ rfl; refine bk ?_; refine blk_put (cs := #[.int .i64 x545000_1, .int .i64 x545001_1]) ?_ 0 _ rfl; refine bk ?_; exact BK544.out) Tryd.underlying60 rfl (by kernel_rfl)) rfl ?_
      exact ⟨by first | rfl | (simp [errW_none, errW_some] <;> rfl) | (simp [*, errW_none, errW_some] <;> rfl), by exact pbE HB.out⟩
     ·rw [if_neg c7] at H
      have c7b0 : (((rd_T60 l0_4 x6_1).f0) == a1) = false := beq_eq_false_iff_ne.mpr c7
      have c7b1 : (((rd_T60 l0_4 x6_1).f0) != a1) = true := bne_iff_ne.mpr c7
      have H' := Az.mk H
      clear H
      have hnb11 := NB543_544.out
      have hnc11 := NB544_543.out
      have hcz12 := cells6 BK543.out
      have p545 : 0 ≤ (x6_1 : Int) := of_decide_eq_true (by first | (with_reducible assumption) | assumption)
      have q545 : x6_1 < (l0_4.length : Int) := of_decide_eq_true (by first | (with_reducible assumption) | assumption)
      obtain ⟨ad545, e545, hx545_0, hx545_1⟩ := at_T60 HR0_4.out x6_1 p545 q545
      cases e545
      replace hx545_0 := (HB.out.cell (World.block_lt_of_cell? w _ hx545_0)).trans hx545_0
      replace hx545_1 := (HB.out.cell (World.block_lt_of_cell? w _ hx545_1)).trans hx545_1
      replace p545 := eq_true p545
      replace q545 := eq_true q545
      go_wp2
      go_roundg k1
      case measure => have := HK1.out; omega
      case rel => exact ⟨(wrap64 (x6_1 + 1)), (x545000_1), (x545001_1), (by first | rfl | (simp; done) | (simp [*]; done)), H', ⟨by have := HK1.out; omega⟩, ⟨by refine bk ?_; exact BK543.out⟩, ⟨by refine bk ?_; exact BK544.out⟩, ⟨by exact pbE HB.out⟩⟩
    ·rw [if_neg c6] at H
     exact absurd H (by simp)
   ·rw [if_neg c5] at H
    have c5b0 : decide (x6_1 < (l0_4.length : Int)) = false := decide_eq_false c5
    clear c5
    simp only [Option.some.injEq, Prod.mk.injEq] at H
    obtain ⟨rfl, rfl, rfl⟩ := H
    have hnb13 := NB543_544.out
    have hnc13 := NB544_543.out
    have hcz14 := cells6 BK543.out
    have hcz15 := cells2 BK544.out
    go_wp2
    refine bodyPost_ret (results_ct rfl _ _ gb544 60 #[.int .i64 0, .int .i64 0] (0, 0) _ rfl (by refine bk ?_; refine blk_put (cs := #[.int .i64 0, .int .i64 x545001_1]) ?_ 1 _ rfl; refine bk ?_; refine blk_put (cs := #[.int .i64 x545000_1, .int .i64 x545001_1]) ?_ 0 _ rfl; refine bk ?_; exact BK544.out) Tryd.underlying60 rfl (by kernel_rfl)) rfl ?_
    exact ⟨by first | rfl | (simp [errW_none, errW_some] <;> rfl) | (simp [*, errW_none, errW_some] <;> rfl), by exact pbE HB.out⟩
def r06_Has.l0 : Nat → Int → Int → Int → ByteArray → ByteArray → Int → List (S60) → Int → Option (Int × Int × Bool)
 | 0, _, _, _, _, _, _, _, _ => none
 | k + 1, x1, x6, x596000, x596001, x596002, x596003, x596004, x596005 => if x6 < (x596004.length : Int) then (if 0 ≤ x6 then (if ((rd_T60 x596004 x6).f1) = x1 then (some ((rd_T60 x596004 x6).f0, (rd_T60 x596004 x6).f1, true)) else (r06_Has.l0 k x1 (wrap64 (x6 + 1)) x596000 x596001 x596002 x596003 x596004 x596005)) else (none)) else (some (0, 0, false))
def r06_Has.f (k : Nat) (a0_0 : Int) (a0_1 : ByteArray) (a0_2 : ByteArray) (a0_3 : Int) (l0_4 : List (S60)) (a0_5 : Int) (a1 : Int) : Option (Int × Int × Bool) := r06_Has.l0 k a1 0 a0_0 a0_1 a0_2 a0_3 l0_4 a0_5
theorem r06_Has.mono_l : ∀ k, (∀ y0 y1 y2 y3 y4 y5 y6 y7, LeO (r06_Has.l0 k y0 y1 y2 y3 y4 y5 y6 y7) (r06_Has.l0 (k + 1) y0 y1 y2 y3 y4 y5 y6 y7))
 | 0 => fun _ _ _ _ _ _ _ _ r h => by simp [r06_Has.l0] at h
 | k + 1 => by
  have ih0 := r06_Has.mono_l k
  ·intro y0 y1 y2 y3 y4 y5 y6 y7
   unfold r06_Has.l0
   repeat' first
   | (with_reducible exact ih0 _ _ _ _ _ _ _ _)
   | (with_reducible exact LeO.refl _)
   | (with_reducible exact LeO.none _)
   | (with_reducible refine LeO.ite ?_ ?_)
   | (with_reducible refine LeO.bind ?_ (fun _ => ?_))
   | exact ih0 _ _ _ _ _ _ _ _
   | exact LeO.none _
   | refine LeO.ite ?_ ?_
   | refine LeO.bind ?_ (fun _ => ?_)
theorem r06_Has.mono : ∀ a0 a1 a2 a3 a4 a5 a6 k, LeO (r06_Has.f k a0 a1 a2 a3 a4 a5 a6) (r06_Has.f (k + 1) a0 a1 a2 a3 a4 a5 a6) := by
 intro a0 a1 a2 a3 a4 a5 a6 k
 have ih0 := r06_Has.mono_l k
 unfold r06_Has.f
 repeat' first
  | (with_reducible exact ih0 _ _ _ _ _ _ _ _)
  | (with_reducible exact LeO.refl _)
  | (with_reducible exact LeO.none _)
  | (with_reducible refine LeO.ite ?_ ?_)
  | (with_reducible refine LeO.bind ?_ (fun _ => ?_))
  | exact ih0 _ _ _ _ _ _ _ _
  | exact LeO.none _
  | refine LeO.ite ?_ ?_
  | refine LeO.bind ?_ (fun _ => ?_)
set_option maxHeartbeats 8000000 in
set_option maxRecDepth 100000 in
theorem r06_Has.calls (k : Nat) (a0_0 : Int) (a0_1 : ByteArray) (a0_2 : ByteArray) (a0_3 : Int) (A0_4 : Option Addr) (c0_4 : Nat) (l0_4 : List (S60)) (a0_5 : Int) (a1 : Int) (r1 : Int) (r2 : Int) (r3 : Bool) (w : World) (hG : TheG w) (hr0_4 : Kd.C k60 w A0_4 l0_4.length l0_4) (hc0_4 : l0_4.length ≤ c0_4) (h : r06_Has.f k a0_0 a0_1 a0_2 a0_3 l0_4 a0_5 a1 = some (r1, r2, r3)) :
 Calls Tryd.prog 53 #[.agg #[.int .i64 a0_0, .string a0_1, .string a0_2, .int .i64 a0_3, .slice A0_4 l0_4.length c0_4, .int .i64 a0_5], .int .i64 a1] w fun e w' => e = .returned (.tuple #[.agg #[.int .i64 r1, .int .i64 r2], .bool r3]) ∧ Below w.heap.size w w' := by
 have hu26 := Tryd.underlying26
 have hu60 := Tryd.underlying60
 have HR0_4 := Az.mk hr0_4
 have HC0_4 := Az.mk hc0_4
 clear hr0_4 hc0_4
 have HB := Az.mk (Below.refl w.heap.size w)
 have H : (r06_Has.l0 k a1 0 a0_0 a0_1 a0_2 a0_3 l0_4 a0_5) = some (r1, r2, r3) := h
 clear h
 have H' := Az.mk H
 clear H
 go_enter Tryd.func53, Tryd.ntmps53
 go_wp2_with (first | ((with_reducible refine gate_dst (N := 2) rfl ?_); refine box_event ?hg (N := 2) ?hd (cs := #[.int .i64 a0_0, .string a0_1, .string a0_2, .int .i64 a0_3, .slice A0_4 l0_4.length c0_4, .int .i64 a0_5]) (t := 26) ?hr ?_; (case hd => rfl); (case hg => rfl); (case hr => first | (go_simp; done) | (go_simp; rfl)); intro gb595 hg w3 hbox hb; have BK595 := Az.mk (hbox); have GW595 := Az.mk (geO hg (pbE HB.out)); have GE595 := Az.mk (geO hg (pbE HB.out)); replace HB := Az.mk (pbT (by exact pbE HB.out) hb); clear hb hbox hg) | ((with_reducible refine gate_dst (N := 4) rfl ?_); refine box_event ?hg (N := 4) ?hd (cs := #[.int .i64 0, .int .i64 0]) (t := 60) ?hr ?_; (case hd => rfl); (case hg => rfl); (case hr => first | (go_simp; done) | (go_simp; rfl)); intro gb596 hg w4 hbox hb; have BK596 := Az.mk (hbox); have GW596 := Az.mk (geO hg (pbE HB.out)); have GE596 := Az.mk (geO hg (pbE HB.out)); replace HB := Az.mk (pbT (by exact pbE HB.out) hb); have NB595_596 := Az.mk (neO hg (bk BK595.out)); have NB596_595 := Az.mk (neP hg (bk BK595.out)); replace BK595 := Az.mk (bkB (bk BK595.out) hb); clear hb hbox hg))
 go_loopg [6] k (fun kq v6 w' => ∃ (x6_1 : Int) (x597000_1 : Int) (x597001_1 : Int), v6 = .int .i64 x6_1 ∧ Az (r06_Has.l0 kq a1 x6_1 a0_0 a0_1 a0_2 a0_3 l0_4 a0_5 = some (r1, r2, r3)) ∧ Az (kq ≤ k) ∧ Az (w'.heap[gb595]? = some (.cells #[.int .i64 a0_0, .string a0_1, .string a0_2, .int .i64 a0_3, (.slice A0_4 l0_4.length c0_4), .int .i64 a0_5] 26 (0, 0))) ∧ Az (w'.heap[gb596]? = some (.cells #[.int .i64 x597000_1, .int .i64 x597001_1] 60 (0, 0))) ∧ Az (Below w.heap.size w w'))
 case atStart => exact ⟨(0), (0), (0), (by first | rfl | (simp; done) | (simp [*]; done)), H', ⟨Nat.le_refl _⟩, ⟨by refine bk ?_; exact BK595.out⟩, ⟨by refine bk ?_; exact BK596.out⟩, ⟨by exact pbE HB.out⟩⟩
 case round =>
  clear H'
  try clear p2
  obtain ⟨x6_1, x597000_1, x597001_1, rfl, HA, HK1, BK595, BK596, HB⟩ := hrel
  cases gk with
  | zero => exact absurd HA.out (by simp [r06_Has.l0])
  | succ k1 =>
   have H := HA.out
   clear HA
   simp only [r06_Has.l0] at H
   by_cases c5 : x6_1 < (l0_4.length : Int)
   ·rw [if_pos c5] at H
    have c5b0 : decide (x6_1 < (l0_4.length : Int)) = true := decide_eq_true c5
    clear c5
    by_cases c6 : 0 ≤ x6_1
    ·rw [if_pos c6] at H
     have c6b0 : decide (0 ≤ x6_1) = true := decide_eq_true c6
     clear c6
     by_cases c7 : ((rd_T60 l0_4 x6_1).f1) = a1
     ·rw [if_pos c7] at H
      have c7b0 : (((rd_T60 l0_4 x6_1).f1) == a1) = true := beq_iff_eq.mpr c7
      have c7b1 : (((rd_T60 l0_4 x6_1).f1) != a1) = false := bne_eq_false_iff_eq.mpr c7
      clear c7
      simp only [Option.some.injEq, Prod.mk.injEq] at H
      obtain ⟨rfl, rfl, rfl⟩ := H
      have hnb8 := NB595_596.out
      have hnc8 := NB596_595.out
      have hcz9 := cells6 BK595.out
      have p597 : 0 ≤ (x6_1 : Int) := of_decide_eq_true (by first | (with_reducible assumption) | assumption)
      have q597 : x6_1 < (l0_4.length : Int) := of_decide_eq_true (by first | (with_reducible assumption) | assumption)
      obtain ⟨ad597, e597, hx597_0, hx597_1⟩ := at_T60 HR0_4.out x6_1 p597 q597
      cases e597
      replace hx597_0 := (HB.out.cell (World.block_lt_of_cell? w _ hx597_0)).trans hx597_0
      replace hx597_1 := (HB.out.cell (World.block_lt_of_cell? w _ hx597_1)).trans hx597_1
      replace p597 := eq_true p597
      replace q597 := eq_true q597
      have p598 : 0 ≤ (x6_1 : Int) := of_decide_eq_true (by first | (with_reducible assumption) | assumption)
      have q598 : x6_1 < (l0_4.length : Int) := of_decide_eq_true (by first | (with_reducible assumption) | assumption)
      obtain ⟨ad598, e598, hx598_0, hx598_1⟩ := at_T60 HR0_4.out x6_1 p598 q598
      obtain rfl : ad597 = ad598 := (by injection e598)
      replace hx598_0 := (HB.out.cell (World.block_lt_of_cell? w _ hx598_0)).trans hx598_0
      replace hx598_1 := (HB.out.cell (World.block_lt_of_cell? w _ hx598_1)).trans hx598_1
      replace p598 := eq_true p598
      replace q598 := eq_true q598
      have hcz10 := cells2 BK596.out
      go_wp2
      refine bodyPost_ret (results_ct rfl _ _ gb596 60 #[.int .i64 ((rd_T60 l0_4 x6_1).f0), .int .i64 ((rd_T60 l0_4 x6_1).f1)] (0, 0) _ rfl (by refine bk ?_; refine blk_put (cs := #[.int .i64 ((rd_T60 l0_4 x6_1).f0), .int .i64 x597001_1]) ?_ 1 _ rfl; refine bk ?_; refine blk_put (cs := #[.int .i64 x597000_1, .int .i64 x597001_1]) ?_ 0 _ rfl; refine bk ?_; exact BK596.out) Tryd.underlying60 rfl (by kernel_rfl)) rfl ?_
      exact ⟨by first | rfl | (simp [errW_none, errW_some] <;> rfl) | (simp [*, errW_none, errW_some] <;> rfl), by exact pbE HB.out⟩
     ·rw [if_neg c7] at H
      have c7b0 : (((rd_T60 l0_4 x6_1).f1) == a1) = false := beq_eq_false_iff_ne.mpr c7
      have c7b1 : (((rd_T60 l0_4 x6_1).f1) != a1) = true := bne_iff_ne.mpr c7
      have H' := Az.mk H
      clear H
      have hnb11 := NB595_596.out
      have hnc11 := NB596_595.out
      have hcz12 := cells6 BK595.out
      have p597 : 0 ≤ (x6_1 : Int) := of_decide_eq_true (by first | (with_reducible assumption) | assumption)
      have q597 : x6_1 < (l0_4.length : Int) := of_decide_eq_true (by first | (with_reducible assumption) | assumption)
      obtain ⟨ad597, e597, hx597_0, hx597_1⟩ := at_T60 HR0_4.out x6_1 p597 q597
      cases e597
      replace hx597_0 := (HB.out.cell (World.block_lt_of_cell? w _ hx597_0)).trans hx597_0
      replace hx597_1 := (HB.out.cell (World.block_lt_of_cell? w _ hx597_1)).trans hx597_1
      replace p597 := eq_true p597
      replace q597 := eq_true q597
      go_wp2
      go_roundg k1
      case measure => have := HK1.out; omega
      case rel => exact ⟨(wrap64 (x6_1 + 1)), (x597000_1), (x597001_1), (by first | rfl | (simp; done) | (simp [*]; done)), H', ⟨by have := HK1.out; omega⟩, ⟨by refine bk ?_; exact BK595.out⟩, ⟨by refine bk ?_; exact BK596.out⟩, ⟨by exact pbE HB.out⟩⟩
    ·rw [if_neg c6] at H
     exact absurd H (by simp)
   ·rw [if_neg c5] at H
    have c5b0 : decide (x6_1 < (l0_4.length : Int)) = false := decide_eq_false c5
    clear c5
    simp only [Option.some.injEq, Prod.mk.injEq] at H
    obtain ⟨rfl, rfl, rfl⟩ := H
    have hnb13 := NB595_596.out
    have hnc13 := NB596_595.out
    have hcz14 := cells6 BK595.out
    have hcz15 := cells2 BK596.out
    go_wp2
    refine bodyPost_ret (results_ct rfl _ _ gb596 60 #[.int .i64 0, .int .i64 0] (0, 0) _ rfl (by refine bk ?_; refine blk_put (cs := #[.int .i64 0, .int .i64 x597001_1]) ?_ 1 _ rfl; refine bk ?_; refine blk_put (cs := #[.int .i64 x597000_1, .int .i64 x597001_1]) ?_ 0 _ rfl; refine bk ?_; exact BK596.out) Tryd.underlying60 rfl (by kernel_rfl)) rfl ?_
    exact ⟨by first | rfl | (simp [errW_none, errW_some] <;> rfl) | (simp [*, errW_none, errW_some] <;> rfl), by exact pbE HB.out⟩
end Go.Proofs.YtjfhcijjjadhbaaDoor.P
end
section
namespace Go.Proofs.YtjfhcijjjadhbaaDoor.P
open Go.RowKit Go.Proofs.YtjfhcijjjadhbaaDoor.K Go.Proofs.YtjfhcijjjadhbaaDoorW.PrintWords Go.Proofs.YtjfhcijjjadhbaaDoorW.PrintLast Go.Proofs.YtjfhcijjjadhbaaDoorW.PrintMore
attribute [local go_sem] max2_int min2_int max_two min_two max_three min_three max_four min_four   -- for this text's walks alone
attribute [local go_sem high] eqA23
def r06_Same.f (k : Nat) (a0_0 : Int) (a0_1 : ByteArray) (a0_2 : ByteArray) (a0_3 : Int) (l0_4 : List (S60)) (a0_5 : Int) (a1_0 : Int) (a1_1 : ByteArray) (a1_2 : ByteArray) (a1_3 : Int) (l1_4 : List (S60)) (a1_5 : Int) : Option (Bool) := if a0_0 = a1_0 then (if (a0_1.toList == a1_1.toList && (a0_2.toList == a1_2.toList)) = true then (if a0_3 = a1_3 then (if a0_5 = a1_5 then ((r06_Members.f k l0_4 l1_4).bind fun t144 => (some t144)) else (some false)) else (some false)) else (some false)) else (some false)
theorem r06_Same.mono : ∀ a0 a1 a2 a3 a4 a5 a6 a7 a8 a9 a10 a11 k, LeO (r06_Same.f k a0 a1 a2 a3 a4 a5 a6 a7 a8 a9 a10 a11) (r06_Same.f (k + 1) a0 a1 a2 a3 a4 a5 a6 a7 a8 a9 a10 a11) := by
 intro a0 a1 a2 a3 a4 a5 a6 a7 a8 a9 a10 a11 k
 unfold r06_Same.f
 repeat' first
  | (with_reducible exact r06_Members.mono _ _ _)
  | (with_reducible exact LeO.refl _)
  | (with_reducible exact LeO.none _)
  | (with_reducible refine LeO.ite ?_ ?_)
  | (with_reducible refine LeO.bind ?_ (fun _ => ?_))
  | exact r06_Members.mono _ _ _
  | exact LeO.none _
  | refine LeO.ite ?_ ?_
  | refine LeO.bind ?_ (fun _ => ?_)
set_option maxHeartbeats 8000000 in
set_option maxRecDepth 100000 in
theorem r06_Same.calls (k : Nat) (a0_0 : Int) (a0_1 : ByteArray) (a0_2 : ByteArray) (a0_3 : Int) (A0_4 : Option Addr) (c0_4 : Nat) (l0_4 : List (S60)) (a0_5 : Int) (a1_0 : Int) (a1_1 : ByteArray) (a1_2 : ByteArray) (a1_3 : Int) (A1_4 : Option Addr) (c1_4 : Nat) (l1_4 : List (S60)) (a1_5 : Int) (r : Bool) (w : World) (hG : TheG w) (hr0_4 : Kd.C k60 w A0_4 l0_4.length l0_4) (hc0_4 : l0_4.length ≤ c0_4) (hr1_4 : Kd.C k60 w A1_4 l1_4.length l1_4) (hc1_4 : l1_4.length ≤ c1_4) (h : r06_Same.f k a0_0 a0_1 a0_2 a0_3 l0_4 a0_5 a1_0 a1_1 a1_2 a1_3 l1_4 a1_5 = some r) :
 Calls Tryd.prog 16 #[.agg #[.int .i64 a0_0, .string a0_1, .string a0_2, .int .i64 a0_3, .slice A0_4 l0_4.length c0_4, .int .i64 a0_5], .agg #[.int .i64 a1_0, .string a1_1, .string a1_2, .int .i64 a1_3, .slice A1_4 l1_4.length c1_4, .int .i64 a1_5]] w fun e w' => e = .returned (.bool r) ∧ Below w.heap.size w w' := by
 have hu26 := Tryd.underlying26
 have hu23 := Tryd.underlying23
 have HR0_4 := Az.mk hr0_4
 have HC0_4 := Az.mk hc0_4
 clear hr0_4 hc0_4
 have HR1_4 := Az.mk hr1_4
 have HC1_4 := Az.mk hc1_4
 clear hr1_4 hc1_4
 have HB := Az.mk (Below.refl w.heap.size w)
 have H : (if a0_0 = a1_0 then (if (a0_1.toList == a1_1.toList && (a0_2.toList == a1_2.toList)) = true then (if a0_3 = a1_3 then (if a0_5 = a1_5 then ((r06_Members.f k l0_4 l1_4).bind fun t144 => (some t144)) else (some false)) else (some false)) else (some false)) else (some false)) = some r := h
 clear h
 by_cases c3 : a0_0 = a1_0
 ·rw [if_pos c3] at H
  have c3b0 : (a0_0 == a1_0) = true := beq_iff_eq.mpr c3
  have c3b1 : (a0_0 != a1_0) = false := bne_eq_false_iff_eq.mpr c3
  clear c3
  by_cases c4 : (a0_1.toList == a1_1.toList && (a0_2.toList == a1_2.toList)) = true
  ·rw [if_pos c4] at H
   have c4b0 : (a0_1.toList == a1_1.toList && (a0_2.toList == a1_2.toList)) = true := c4
   (try (have c4b1 : decide (a0_1.toList = a1_1.toList && (a0_2.toList == a1_2.toList)) = true := by simpa using c4))
   (try (have c4b2 : (a0_1.toList == a1_1.toList && (a0_2.toList == a1_2.toList)) = true := by simpa using c4))
   clear c4
   by_cases c5 : a0_3 = a1_3
   ·rw [if_pos c5] at H
    have c5b0 : (a0_3 == a1_3) = true := beq_iff_eq.mpr c5
    have c5b1 : (a0_3 != a1_3) = false := bne_eq_false_iff_eq.mpr c5
    clear c5
    by_cases c6 : a0_5 = a1_5
    ·rw [if_pos c6] at H
     have c6b0 : (a0_5 == a1_5) = true := beq_iff_eq.mpr c6
     have c6b1 : (a0_5 != a1_5) = false := bne_eq_false_iff_eq.mpr c6
     clear c6
     replace H := Option.bind_eq_some_iff.mp H
     obtain ⟨t144, A70, H⟩ := H
     replace H : (some t144) = some r := H
     have A7 := Az.mk A70
     clear A70
     obtain rfl := Option.some.inj H
     go_enter Tryd.func16, Tryd.ntmps16
     go_wp2_with (first | ((with_reducible refine gate_dst (N := 2) rfl ?_); refine box_event ?hg (N := 2) ?hd (cs := #[.int .i64 a0_0, .string a0_1, .string a0_2, .int .i64 a0_3, .slice A0_4 l0_4.length c0_4, .int .i64 a0_5]) (t := 26) ?hr ?_; (case hd => rfl); (case hg => rfl); (case hr => first | (go_simp; done) | (go_simp; rfl)); intro gb142 hg w8 hbox hb; have BK142 := Az.mk (hbox); have GW142 := Az.mk (geO hg (pbE HB.out)); have GE142 := Az.mk (geO hg (pbE HB.out)); replace HB := Az.mk (pbT (by exact pbE HB.out) hb); clear hb hbox hg) | ((with_reducible refine gate_dst (N := 3) rfl ?_); refine box_event ?hg (N := 3) ?hd (cs := #[.int .i64 a1_0, .string a1_1, .string a1_2, .int .i64 a1_3, .slice A1_4 l1_4.length c1_4, .int .i64 a1_5]) (t := 26) ?hr ?_; (case hd => rfl); (case hg => rfl); (case hr => first | (go_simp; done) | (go_simp; rfl)); intro gb143 hg w9 hbox hb; have BK143 := Az.mk (hbox); have GW143 := Az.mk (geO hg (pbE HB.out)); have GE143 := Az.mk (geO hg (pbE HB.out)); replace HB := Az.mk (pbT (by exact pbE HB.out) hb); have NB142_143 := Az.mk (neO hg (bk BK142.out)); have NB143_142 := Az.mk (neP hg (bk BK142.out)); replace BK142 := Az.mk (bkB (bk BK142.out) hb); clear hb hbox hg; have hnb10 := NB142_143.out; have hnc10 := NB143_142.out; have hcz11 := cells6 BK142.out; have hcz12 := cells6 BK143.out) | (go_at_call 31; (with_reducible refine (r06_Members.calls k _ _ l0_4 _ _ l1_4 t144 _ ?side1 ?side2 ?side3 ?side4 ?side5 A7.out).mono ?_); (case side1 => exact hG.below (by exact pbE HB.out)); (case side2 => repeat (first | exact (Kd.C_below HR0_4.out HB.out) | (with_reducible refine Kd.C_alloc ?_ _) | (with_reducible refine Kd.C_drewN ?_ _) | (with_reducible refine Kd.C_drew ?_))); (case side3 => exact HC0_4.out); (case side4 => repeat (first | exact (Kd.C_below HR1_4.out HB.out) | (with_reducible refine Kd.C_alloc ?_ _) | (with_reducible refine Kd.C_drewN ?_ _) | (with_reducible refine Kd.C_drew ?_))); (case side5 => exact HC1_4.out); rintro e w' ⟨rfl, ⟨nd, rfl⟩⟩))
     go_ret
     exact ⟨by first | rfl | (simp [errW_none, errW_some] <;> rfl) | (simp [*, errW_none, errW_some] <;> rfl), by exact pbE HB.out⟩
    ·rw [if_neg c6] at H
     have c6b0 : (a0_5 == a1_5) = false := beq_eq_false_iff_ne.mpr c6
     have c6b1 : (a0_5 != a1_5) = true := bne_iff_ne.mpr c6
     obtain rfl := Option.some.inj H
     go_enter Tryd.func16, Tryd.ntmps16
     go_wp2_with (first | ((with_reducible refine gate_dst (N := 2) rfl ?_); refine box_event ?hg (N := 2) ?hd (cs := #[.int .i64 a0_0, .string a0_1, .string a0_2, .int .i64 a0_3, .slice A0_4 l0_4.length c0_4, .int .i64 a0_5]) (t := 26) ?hr ?_; (case hd => rfl); (case hg => rfl); (case hr => first | (go_simp; done) | (go_simp; rfl)); intro gb142 hg w13 hbox hb; have BK142 := Az.mk (hbox); have GW142 := Az.mk (geO hg (pbE HB.out)); have GE142 := Az.mk (geO hg (pbE HB.out)); replace HB := Az.mk (pbT (by exact pbE HB.out) hb); clear hb hbox hg) | ((with_reducible refine gate_dst (N := 3) rfl ?_); refine box_event ?hg (N := 3) ?hd (cs := #[.int .i64 a1_0, .string a1_1, .string a1_2, .int .i64 a1_3, .slice A1_4 l1_4.length c1_4, .int .i64 a1_5]) (t := 26) ?hr ?_; (case hd => rfl); (case hg => rfl); (case hr => first | (go_simp; done) | (go_simp; rfl)); intro gb143 hg w14 hbox hb; have BK143 := Az.mk (hbox); have GW143 := Az.mk (geO hg (pbE HB.out)); have GE143 := Az.mk (geO hg (pbE HB.out)); replace HB := Az.mk (pbT (by exact pbE HB.out) hb); have NB142_143 := Az.mk (neO hg (bk BK142.out)); have NB143_142 := Az.mk (neP hg (bk BK142.out)); replace BK142 := Az.mk (bkB (bk BK142.out) hb); clear hb hbox hg; have hnb15 := NB142_143.out; have hnc15 := NB143_142.out; have hcz16 := cells6 BK142.out; have hcz17 := cells6 BK143.out))
     go_ret
     exact ⟨by first | rfl | (simp [errW_none, errW_some] <;> rfl) | (simp [*, errW_none, errW_some] <;> rfl), by exact pbE HB.out⟩
   ·rw [if_neg c5] at H
    have c5b0 : (a0_3 == a1_3) = false := beq_eq_false_iff_ne.mpr c5
    have c5b1 : (a0_3 != a1_3) = true := bne_iff_ne.mpr c5
    obtain rfl := Option.some.inj H
    go_enter Tryd.func16, Tryd.ntmps16
    go_wp2_with (first | ((with_reducible refine gate_dst (N := 2) rfl ?_); refine box_event ?hg (N := 2) ?hd (cs := #[.int .i64 a0_0, .string a0_1, .string a0_2, .int .i64 a0_3, .slice A0_4 l0_4.length c0_4, .int .i64 a0_5]) (t := 26) ?hr ?_; (case hd => rfl); (case hg => rfl); (case hr => first | (go_simp; done) | (go_simp; rfl)); intro gb142 hg w18 hbox hb; have BK142 := Az.mk (hbox); have GW142 := Az.mk (geO hg (pbE HB.out)); have GE142 := Az.mk (geO hg (pbE HB.out)); replace HB := Az.mk (pbT (by exact pbE HB.out) hb); clear hb hbox hg) | ((with_reducible refine gate_dst (N := 3) rfl ?_); refine box_event ?hg (N := 3) ?hd (cs := #[.int .i64 a1_0, .string a1_1, .string a1_2, .int .i64 a1_3, .slice A1_4 l1_4.length c1_4, .int .i64 a1_5]) (t := 26) ?hr ?_; (case hd => rfl); (case hg => rfl); (case hr => first | (go_simp; done) | (go_simp; rfl)); intro gb143 hg w19 hbox hb; have BK143 := Az.mk (hbox); have GW143 := Az.mk (geO hg (pbE HB.out)); have GE143 := Az.mk (geO hg (pbE HB.out)); replace HB := Az.mk (pbT (by exact pbE HB.out) hb); have NB142_143 := Az.mk (neO hg (bk BK142.out)); have NB143_142 := Az.mk (neP hg (bk BK142.out)); replace BK142 := Az.mk (bkB (bk BK142.out) hb); clear hb hbox hg; have hnb20 := NB142_143.out; have hnc20 := NB143_142.out; have hcz21 := cells6 BK142.out; have hcz22 := cells6 BK143.out))
    go_ret
    exact ⟨by first | rfl | (simp [errW_none, errW_some] <;> rfl) | (simp [*, errW_none, errW_some] <;> rfl), by exact pbE HB.out⟩
  ·rw [if_neg c4] at H
   have c4b0 : (a0_1.toList == a1_1.toList && (a0_2.toList == a1_2.toList)) = false := by simpa using c4
   (try (have c4b1 : decide (a0_1.toList = a1_1.toList && (a0_2.toList == a1_2.toList)) = false := by simpa using c4))
   (try (have c4b2 : (a0_1.toList == a1_1.toList && (a0_2.toList == a1_2.toList)) = false := by simpa using c4))
   (try (have c4b3 : ¬ (a0_1.toList = a1_1.toList && (a0_2.toList == a1_2.toList)) := by simpa using c4))
   clear c4
   obtain rfl := Option.some.inj H
   go_enter Tryd.func16, Tryd.ntmps16
   go_wp2_with (first | ((with_reducible refine gate_dst (N := 2) rfl ?_); refine box_event ?hg (N := 2) ?hd (cs := #[.int .i64 a0_0, .string a0_1, .string a0_2, .int .i64 a0_3, .slice A0_4 l0_4.length c0_4, .int .i64 a0_5]) (t := 26) ?hr ?_; (case hd => rfl); (case hg => rfl); (case hr => first | (go_simp; done) | (go_simp; rfl)); intro gb142 hg w23 hbox hb; have BK142 := Az.mk (hbox); have GW142 := Az.mk (geO hg (pbE HB.out)); have GE142 := Az.mk (geO hg (pbE HB.out)); replace HB := Az.mk (pbT (by exact pbE HB.out) hb); clear hb hbox hg) | ((with_reducible refine gate_dst (N := 3) rfl ?_); refine box_event ?hg (N := 3) ?hd (cs := #[.int .i64 a1_0, .string a1_1, .string a1_2, .int .i64 a1_3, .slice A1_4 l1_4.length c1_4, .int .i64 a1_5]) (t := 26) ?hr ?_; (case hd => rfl); (case hg => rfl); (case hr => first | (go_simp; done) | (go_simp; rfl)); intro gb143 hg w24 hbox hb; have BK143 := Az.mk (hbox); have GW143 := Az.mk (geO hg (pbE HB.out)); have GE143 := Az.mk (geO hg (pbE HB.out)); replace HB := Az.mk (pbT (by exact pbE HB.out) hb); have NB142_143 := Az.mk (neO hg (bk BK142.out)); have NB143_142 := Az.mk (neP hg (bk BK142.out)); replace BK142 := Az.mk (bkB (bk BK142.out) hb); clear hb hbox hg; have hnb25 := NB142_143.out; have hnc25 := NB143_142.out; have hcz26 := cells6 BK142.out; have hcz27 := cells6 BK143.out))
   go_ret
   exact ⟨by first | rfl | (simp [errW_none, errW_some] <;> rfl) | (simp [*, errW_none, errW_some] <;> rfl), by exact pbE HB.out⟩
 ·rw [if_neg c3] at H
  have c3b0 : (a0_0 == a1_0) = false := beq_eq_false_iff_ne.mpr c3
  have c3b1 : (a0_0 != a1_0) = true := bne_iff_ne.mpr c3
  obtain rfl := Option.some.inj H
  go_enter Tryd.func16, Tryd.ntmps16
  go_wp2_with (first | ((with_reducible refine gate_dst (N := 2) rfl ?_); refine box_event ?hg (N := 2) ?hd (cs := #[.int .i64 a0_0, .string a0_1, .string a0_2, .int .i64 a0_3, .slice A0_4 l0_4.length c0_4, .int .i64 a0_5]) (t := 26) ?hr ?_; (case hd => rfl); (case hg => rfl); (case hr => first | (go_simp; done) | (go_simp; rfl)); intro gb142 hg w28 hbox hb; have BK142 := Az.mk (hbox); have GW142 := Az.mk (geO hg (pbE HB.out)); have GE142 := Az.mk (geO hg (pbE HB.out)); replace HB := Az.mk (pbT (by exact pbE HB.out) hb); clear hb hbox hg) | ((with_reducible refine gate_dst (N := 3) rfl ?_); refine box_event ?hg (N := 3) ?hd (cs := #[.int .i64 a1_0, .string a1_1, .string a1_2, .int .i64 a1_3, .slice A1_4 l1_4.length c1_4, .int .i64 a1_5]) (t := 26) ?hr ?_; (case hd => rfl); (case hg => rfl); (case hr => first | (go_simp; done) | (go_simp; rfl)); intro gb143 hg w29 hbox hb; have BK143 := Az.mk (hbox); have GW143 := Az.mk (geO hg (pbE HB.out)); have GE143 := Az.mk (geO hg (pbE HB.out)); replace HB := Az.mk (pbT (by exact pbE HB.out) hb); have NB142_143 := Az.mk (neO hg (bk BK142.out)); have NB143_142 := Az.mk (neP hg (bk BK142.out)); replace BK142 := Az.mk (bkB (bk BK142.out) hb); clear hb hbox hg; have hnb30 := NB142_143.out; have hnc30 := NB143_142.out; have hcz31 := cells6 BK142.out; have hcz32 := cells6 BK143.out))
  go_ret
  exact ⟨by first | rfl | (simp [errW_none, errW_some] <;> rfl) | (simp [*, errW_none, errW_some] <;> rfl), by exact pbE HB.out⟩
end Go.Proofs.YtjfhcijjjadhbaaDoor.P
end
section
namespace Go.Proofs.YtjfhcijjjadhbaaDoor.V
open Go.RowKit Go.Proofs.YtjfhcijjjadhbaaDoorW.PrintWords Go.Proofs.YtjfhcijjjadhbaaDoorW.PrintLast Go.Proofs.YtjfhcijjjadhbaaDoorW.PrintMore Go.Proofs.YtjfhcijjjadhbaaDoor.P Go.Proofs.YtjfhcijjjadhbaaDoor.K Go.Proofs.YtjfhcijjjadhbaaDoor.A
theorem rmembers_ev (a b : List S60) (hm : a.length ≤ 9223372036854775000) : Ev (fun k => r06_Members.f k a b) (decide (a = b)) := by
 refine Ev.ite (fun h => ?_) (fun h => ?_)
 ·have hl : a.length = b.length := by omega
  have := Ev.upto (F := fun k (_ : Unit) i => r06_Members.l0 k a b i) (n := a.length) (G := fun _ i => decide (a.drop i = b.drop i)) (I := fun _ _ => True)
   (by
    intro _ i hi _ ih
    have hi2 : i < b.length := by omega
    have hd1 : a.drop i = a[i] :: a.drop (i + 1) := List.drop_eq_getElem_cons hi
    have hd2 : b.drop i = b[i] :: b.drop (i + 1) := List.drop_eq_getElem_cons hi2
    simp only [r06_Members.l0, if_pos (lt_cast hi), if_pos (nn i), if_pos (lt_cast hi2), rd_lt hi, rd_lt hi2, hd1, hd2, wrap_nat (n := i) (by omega)]
    refine Ev.ite (fun h => ?_) (fun h => ?_)
    ·rw [decide_eq_false (fun e => ?_)]
     ·exact Ev.now _
     ·injection e with e1 _
      rw [e1] at h
      simp at h
    ·have e1 : a[i] = b[i] := by
      simp only [Bool.or_eq_true, Bool.not_eq_true', beq_eq_false_iff_ne, not_or, ne_eq, Classical.not_not] at h
      exact M_ext h.1 h.2
     rw [show decide (a[i] :: a.drop (i + 1) = b[i] :: b.drop (i + 1)) = decide (a.drop (i + 1) = b.drop (i + 1)) from decide_eq_decide.2 ⟨fun h => by injection h, fun h => by rw [e1, h]⟩]
     exact ih () trivial)
   (by
    intro _ _
    have e : decide (a.drop a.length = b.drop a.length) = true := decide_eq_true (by rw [List.drop_length, hl, List.drop_length])
    rw [e]
    simp only [r06_Members.l0, if_neg (Int.lt_irrefl _)]
    exact Ev.now _) 0 (Nat.zero_le _) () trivial
  exact this
 ·rw [decide_eq_false (fun e => h (by rw [e]))]; exact Ev.now _
theorem rid_eq (n : Int) : r06_id.f n = some (okId n) := by
 unfold r06_id.f okId
 split
 ·congr 1; exact decide_eq_decide.2 (by omega)
 ·rw [decide_eq_false (by omega)]
theorem rbound_eq (f t : ByteArray) : r02_Is.f f t = some (boundOk f t) := by
 unfold r02_Is.f boundOk
 by_cases h1 : (f.size : Int) ≤ 33
 ·by_cases h2 : (t.size : Int) ≤ 33
  ·rw [if_pos h1, if_pos h2, if_pos (show f.size ≤ 33 ∧ t.size ≤ 33 by omega)]
   split
   ·rename_i h; rw [h]; rfl
   ·rename_i h; rw [beq_eq_false_iff_ne.2 h, Bool.false_or]
  ·rw [if_pos h1, if_neg h2, if_neg (by omega)]
 ·rw [if_neg h1, if_neg (by omega)]
def lastAt (l : List S60) (i : Nat) : Int := if i = 0 then 0 else (l.getD (i - 1) ⟨0, 0⟩).f1
def onAt (l : List S60) (i : Nat) : Nat → Bool := fun j => (l.take i).any fun m => m.f0.toNat == j
theorem onAt_succ {l : List S60} {i : Nat} (h : i < l.length) : onAt l (i + 1) = fun j => j == l[i].f0.toNat || onAt l i j := by
 funext j
 unfold onAt
 rw [List.take_succ_eq_append_getElem h, List.any_append, Bool.or_comm]
 simp [Bool.beq_comm]
theorem lastAt_succ {l : List S60} {i : Nat} (h : i < l.length) : lastAt l (i + 1) = l[i].f1 := by
 unfold lastAt
 rw [if_neg (by omega), Nat.add_sub_cancel, List.getD_eq_getElem?_getD, List.getElem?_eq_getElem h]; rfl
theorem onAt_any {l : List S60} {i : Nat} {n : Int} (hv : ∀ x ∈ l.take i, 1 ≤ x.f0) (hn : 1 ≤ n) : onAt l i n.toNat = (l.take i).any fun x => x.f0 == n := by
 unfold onAt
 rw [Bool.eq_iff_iff, List.any_eq_true, List.any_eq_true]
 constructor
 ·rintro ⟨x, hx, h⟩
  have := hv x hx
  have h := beq_iff_eq.1 h
  exact ⟨x, hx, beq_iff_eq.2 (by omega)⟩
 ·rintro ⟨x, hx, h⟩
  have h := beq_iff_eq.1 h
  exact ⟨x, hx, beq_iff_eq.2 (by rw [h])⟩
theorem is_inner {id : Int} {fr tu : ByteArray} {gen : Int} {l : List S60} {nx m0 m1 : Int} (hm : l.length ≤ 1000000) {i : Nat} (hi : i < l.length) {r : Bool} (hK : Ev (fun k => r06_Is.l0 k ((i + 1 : Nat) : Int) id fr tu gen l nx) r) :
 Ev (fun k => r06_Is.l1 k (i : Int) 0 id fr tu gen l nx m0 m1) (if ((l.take i).any fun x => x.f0 == m0) = true then false else r) := by
 have := Ev.upto (F := fun k (_ : Unit) j => r06_Is.l1 k (i : Int) j id fr tu gen l nx m0 m1) (n := i) (G := fun _ j => if (((l.take i).drop j).any fun x => x.f0 == m0) = true then false else r) (I := fun _ _ => True)
  (by
   intro _ j hj _ ih
   have hjl : j < l.length := by omega
   have hjt : j < (l.take i).length := by rw [List.length_take]; omega
   have hdrop : (l.take i).drop j = l[j] :: (l.take i).drop (j + 1) := by rw [List.drop_eq_getElem_cons hjt, List.getElem_take]
   simp only [r06_Is.l1, if_pos (lt_cast hj), if_pos (nn j), if_pos (lt_cast hjl), rd_lt hjl, wrap_nat (n := j) (by omega), hdrop, List.any_cons]
   refine Ev.ite (fun h => ?_) (fun h => ?_)
   ·rw [beq_iff_eq.2 h, Bool.true_or, if_pos rfl]; exact Ev.now _
   ·rw [beq_eq_false_iff_ne.2 h, Bool.false_or]; exact ih () trivial)
  (by
   intro _ _
   rw [List.drop_of_length_le (by rw [List.length_take]; omega)]
   simp only [r06_Is.l1, if_neg (Int.lt_irrefl _), wrap_nat (n := i) (by omega), List.any_nil]
   exact hK) 0 (Nat.zero_le _) () trivial
 rw [List.drop_zero] at this
 exact this
theorem is_loop {id : Int} {fr tu : ByteArray} {gen : Int} {l : List S60} {nx : Int} (hm : l.length ≤ 1000000) : Ev (fun k => r06_Is.l0 k 0 id fr tu gen l nx) (isMem nx 0 (fun _ => false) l) := by
 have hj2 : ∀ {i : Int} {m0 m1 : Int}, Ev (fun k => r06_Is.j2 k i true id fr tu gen l nx m0 m1) false := by
  intro i m0 m1
  refine Ev.shift ?_
  simp only [r06_Is.j2, if_true]
  exact Ev.now _
 have := Ev.upto (F := fun k (_ : Unit) i => r06_Is.l0 k i id fr tu gen l nx) (n := l.length) (G := fun _ i => isMem nx (lastAt l i) (onAt l i) (l.drop i)) (I := fun _ i => (∀ x ∈ l.take i, 1 ≤ x.f0) ∧ 0 ≤ lastAt l i)
  (by
   intro _ i hi hI ih
   obtain ⟨hv, hl0⟩ := hI
   have hdrop : l.drop i = l[i] :: l.drop (i + 1) := List.drop_eq_getElem_cons hi
   simp only [r06_Is.l0, if_pos (lt_cast hi), if_pos (nn i), rd_lt hi, hdrop, isMem]
   refine Ev.ite (fun c1 => ?_) (fun c1 => Ev.ite (fun c2 => ?_) (fun c2 => Ev.ite (fun c3 => ?_) (fun c3 => Ev.ite (fun c4 => ?_) (fun c4 => ?_))))
   ·rw [if_neg (by omega)]; exact hj2
   ·rw [if_neg (by omega)]; exact hj2
   ·rw [if_neg (by omega)]; exact hj2
   ·rw [if_neg (by omega)]; exact hj2
   ·have h1 : 1 ≤ l[i].f0 := by omega
    have fin : ∀ b : Bool, (b = true ↔ l[i].f1 ≤ lastAt l i) → Ev (fun k => r06_Is.j2 k (i : Int) b id fr tu gen l nx l[i].f0 l[i].f1) (if 1 ≤ l[i].f0 ∧ l[i].f0 ≤ 7 ∧ onAt l i l[i].f0.toNat = false ∧ lastAt l i < l[i].f1 ∧ l[i].f1 < nx then isMem nx l[i].f1 (fun j => j == l[i].f0.toNat || onAt l i j) (l.drop (i + 1)) else false) := by
     intro b hb
     cases b with
     | true =>
      have := hb.1 rfl
      rw [if_neg (by omega)]; exact hj2
     | false =>
      have hlt : lastAt l i < l[i].f1 := by
       by_cases c : l[i].f1 ≤ lastAt l i
       ·exact absurd (hb.2 c) (by simp)
       ·omega
      refine Ev.shift ?_
      simp only [r06_Is.j2, Bool.false_eq_true, if_false]
      have hk := ih () ⟨fun x hx => by
       rw [List.take_succ_eq_append_getElem hi] at hx
       rcases List.mem_append.1 hx with hx | hx
       ·exact hv x hx
       ·rw [List.mem_singleton.1 hx]; exact h1, by rw [lastAt_succ hi]; omega⟩
      have hin := is_inner (m0 := l[i].f0) (m1 := l[i].f1) hm hi hk
      rw [← onAt_any hv h1, lastAt_succ hi, onAt_succ hi] at hin
      cases ho : onAt l i l[i].f0.toNat with
      | true =>
       rw [ho, if_pos rfl] at hin
       rw [if_neg (by simp)]; exact hin
      | false =>
       rw [ho, if_neg (by simp)] at hin
       rw [if_pos ⟨h1, by omega, rfl, hlt, by omega⟩]; exact hin
    refine Ev.ite (fun c5 => ?_) (fun c5 => ?_)
    ·have hw : wrap64 ((i : Int) - 1) = ((i - 1 : Nat) : Int) := by rw [wrap_in (by omega) (by omega)]; omega
     have hi1 : i - 1 < l.length := by omega
     simp only [hw, if_pos (nn (i - 1)), if_pos (lt_cast hi1), rd_lt hi1]
     refine fin _ ?_
     have e : lastAt l i = l[i - 1].f1 := by
      unfold lastAt
      rw [if_neg (by omega), List.getD_eq_getElem?_getD, List.getElem?_eq_getElem hi1]; rfl
     rw [e, decide_eq_true_iff]
    ·obtain rfl : i = 0 := by omega
     refine fin false ?_
     have e : lastAt l 0 = 0 := rfl
     rw [e]
     constructor
     ·intro h; cases h
     ·intro h; omega)
  (by
   intro _ _
   rw [List.drop_length]
   simp only [r06_Is.l0, if_neg (Int.lt_irrefl _), isMem]
   exact Ev.now _) 0 (Nat.zero_le _) () ⟨fun x hx => by simp at hx, Int.le_refl _⟩
 rw [List.drop_zero] at this
 exact this
theorem is_ev {id : Int} {fr tu : ByteArray} {gen : Int} {l : List S60} {nx : Int} (hm : l.length ≤ 1000000) : Ev (fun k => r06_Is.f k id fr tu gen l nx) (okD id fr tu gen l nx) := by
 have hbad : Ev (fun k => r06_Is.j0 k true id fr tu gen l nx) false := by
  refine Ev.shift ?_
  simp only [r06_Is.j0, if_true]
  exact Ev.now _
 simp only [r06_Is.f, rid_eq, rbound_eq, Option.bind_some]
 unfold okD
 refine Ev.ite (fun h1 => ?_) (fun h1 => ?_)
 ·rw [h1, Bool.true_and]
  refine Ev.ite (fun h2 => ?_) (fun h2 => ?_)
  ·rw [h2, Bool.true_and]
   refine Ev.ite (fun h3 => ?_) (fun h3 => ?_)
   ·rw [h3, Bool.true_and]
    refine Ev.ite (fun h4 => ?_) (fun h4 => ?_)
    ·rw [h4, Bool.true_and]
     unfold okM
     refine Ev.ite (fun h5 => ?_) (fun h5 => ?_)
     ·rw [if_pos (by omega)]; exact hbad
     ·by_cases h6 : (l.length : Int) > 5
      ·rw [decide_eq_true h6, if_pos (by omega)]; exact hbad
      ·rw [decide_eq_false h6, if_neg (by omega)]
       refine Ev.shift ?_
       simp only [r06_Is.j0, Bool.false_eq_true, if_false]
       exact is_loop hm
    ·rw [Bool.eq_false_iff.2 h4, Bool.false_and]; exact hbad
   ·rw [Bool.eq_false_iff.2 h3, Bool.false_and]; exact hbad
  ·rw [Bool.eq_false_iff.2 h2, Bool.false_and]; exact hbad
 ·rw [Bool.eq_false_iff.2 h1, Bool.false_and]; exact hbad
theorem rright_ev {id : Int} {fr tu : ByteArray} {gen : Int} {l : List S60} {nx : Int} (hm : l.length ≤ 1000000) : Ev (fun k => r06_right.f k id fr tu gen l nx) (rightR id fr tu gen l nx) := by
 refine Ev.bind (is_ev hm) ?_
 unfold rightR
 exact Ev.ite (fun h => by rw [if_pos h]; exact Ev.now _) (fun h => by rw [if_neg h]; exact Ev.now _)
theorem ron_ev {id : Int} {fr tu : ByteArray} {gen : Int} {l : List S60} {nx a : Int} (hm : l.length ≤ 1000000) : Ev (fun k => r06_On.f k id fr tu gen l nx a) (hitM (fun m => m.f0 == a) l) := by
 have := Ev.upto (F := fun k (_ : Unit) i => r06_On.l0 k a i id fr tu gen l nx) (n := l.length) (G := fun _ i => hitM (fun m => m.f0 == a) (l.drop i)) (I := fun _ _ => True)
  (by
   intro _ i hi _ ih
   simp only [r06_On.l0, if_pos (lt_cast hi), if_pos (nn i), rd_lt hi, List.drop_eq_getElem_cons hi, hitM_cons, wrap_nat (n := i) (by omega)]
   refine Ev.ite (fun h => ?_) (fun h => ?_)
   ·rw [if_pos (beq_iff_eq.2 h)]; exact Ev.now _
   ·rw [if_neg (by rw [beq_iff_eq]; exact h)]; exact ih () trivial)
  (by
   intro _ _
   rw [List.drop_length]
   simp only [r06_On.l0, if_neg (Int.lt_irrefl _)]
   exact Ev.now _) 0 (Nat.zero_le _) () trivial
 rw [List.drop_zero] at this
 exact this
theorem rhas_ev {id : Int} {fr tu : ByteArray} {gen : Int} {l : List S60} {nx a : Int} (hm : l.length ≤ 1000000) : Ev (fun k => r06_Has.f k id fr tu gen l nx a) (hitM (fun m => m.f1 == a) l) := by
 have := Ev.upto (F := fun k (_ : Unit) i => r06_Has.l0 k a i id fr tu gen l nx) (n := l.length) (G := fun _ i => hitM (fun m => m.f1 == a) (l.drop i)) (I := fun _ _ => True)
  (by
   intro _ i hi _ ih
   simp only [r06_Has.l0, if_pos (lt_cast hi), if_pos (nn i), rd_lt hi, List.drop_eq_getElem_cons hi, hitM_cons, wrap_nat (n := i) (by omega)]
   refine Ev.ite (fun h => ?_) (fun h => ?_)
   ·rw [if_pos (beq_iff_eq.2 h)]; exact Ev.now _
   ·rw [if_neg (by rw [beq_iff_eq]; exact h)]; exact ih () trivial)
  (by
   intro _ _
   rw [List.drop_length]
   simp only [r06_Has.l0, if_neg (Int.lt_irrefl _)]
   exact Ev.now _) 0 (Nat.zero_le _) () trivial
 rw [List.drop_zero] at this
 exact this
theorem rsame_ev {id : Int} {fr tu : ByteArray} {gen : Int} {l : List S60} {nx id2 : Int} {fr2 to2 : ByteArray} {gen2 : Int} {l2 : List S60} {nx2 : Int} (hm : l.length ≤ 9223372036854775000) :
 Ev (fun k => r06_Same.f k id fr tu gen l nx id2 fr2 to2 gen2 l2 nx2) (decide (id = id2 ∧ fr = fr2 ∧ tu = to2 ∧ gen = gen2 ∧ nx = nx2 ∧ l = l2)) := by
 refine Ev.ite (fun h1 => Ev.ite (fun h2 => Ev.ite (fun h3 => Ev.ite (fun h4 => Ev.bind (rmembers_ev l l2 hm) ?_) (fun h4 => ?_)) (fun h3 => ?_)) (fun h2 => ?_)) (fun h1 => ?_)
 ·simp only [Bool.and_eq_true, beq_iff_eq, toList_inj] at h2
  rw [show decide (id = id2 ∧ fr = fr2 ∧ tu = to2 ∧ gen = gen2 ∧ nx = nx2 ∧ l = l2) = decide (l = l2) from decide_eq_decide.2 ⟨fun h => h.2.2.2.2.2, fun h => ⟨h1, h2.1, h2.2, h3, h4, h⟩⟩]
  exact Ev.now _
 ·rw [decide_eq_false (fun e => h4 e.2.2.2.2.1)]; exact Ev.now _
 ·rw [decide_eq_false (fun e => h3 e.2.2.2.1)]; exact Ev.now _
 ·rw [decide_eq_false (fun e => h2 (by rw [e.2.1, e.2.2.1]; simp))]; exact Ev.now _
 ·rw [decide_eq_false (fun e => h1 e.1)]; exact Ev.now _
/-- A descriptor is the same as itself. -/
theorem rself_ev (d : DR) (hm : d.2.2.2.2.1.length ≤ 9223372036854775000) : Ev (fun k => r06_Same.f k d.1 d.2.1 d.2.2.1 d.2.2.2.1 d.2.2.2.2.1 d.2.2.2.2.2.1 d.1 d.2.1 d.2.2.1 d.2.2.2.1 d.2.2.2.2.1 d.2.2.2.2.2.1) true := by
 have := rsame_ev (id := d.1) (fr := d.2.1) (tu := d.2.2.1) (gen := d.2.2.2.1) (l := d.2.2.2.2.1) (nx := d.2.2.2.2.2.1) (id2 := d.1) (fr2 := d.2.1) (to2 := d.2.2.1) (gen2 := d.2.2.2.1) (l2 := d.2.2.2.2.1) (nx2 := d.2.2.2.2.2.1) hm
 simp only [and_self, decide_true] at this
 exact this
end Go.Proofs.YtjfhcijjjadhbaaDoor.V
end
section
namespace Go.Proofs.YtjfhcijjjadhbaaDoor.P
open Go.RowKit Go.Proofs.YtjfhcijjjadhbaaDoor.K Go.Proofs.YtjfhcijjjadhbaaDoorW.PrintWords Go.Proofs.YtjfhcijjjadhbaaDoorW.PrintLast Go.Proofs.YtjfhcijjjadhbaaDoorW.PrintMore
attribute [local go_sem] max2_int min2_int max_two min_two max_three min_three max_four min_four   -- for this text's walks alone
def l06_own.f (a0_0 : Int) (a0_1 : ByteArray) (a0_2 : ByteArray) (a0_3 : Int) (l0_4 : List (S60)) (a0_5 : Int) : Option (Int × ByteArray × ByteArray × Int × (List (S60)) × Int) := (some (([] : List (S60)) : List (S60))).bind fun y337 => (if y337.length + l0_4.length < 8796093022208 then (some (a0_0, a0_1, a0_2, a0_3, (y337 ++ l0_4), a0_5)) else (none))
set_option maxHeartbeats 8000000 in
set_option maxRecDepth 100000 in
theorem l06_own.calls (a0_0 : Int) (a0_1 : ByteArray) (a0_2 : ByteArray) (a0_3 : Int) (A0_4 : Option Addr) (c0_4 : Nat) (l0_4 : List (S60)) (a0_5 : Int) (r1 : Int) (r2 : ByteArray) (r3 : ByteArray) (r4 : Int) (r5 : List (S60)) (r6 : Int) (w : World) (hG : TheG w) (hr0_4 : Kd.C k60 w A0_4 l0_4.length l0_4) (hc0_4 : l0_4.length ≤ c0_4) (h : l06_own.f a0_0 a0_1 a0_2 a0_3 l0_4 a0_5 = some (r1, r2, r3, r4, r5, r6)) :
 Calls Tryd.prog 12 #[.agg #[.int .i64 a0_0, .string a0_1, .string a0_2, .int .i64 a0_3, .slice A0_4 l0_4.length c0_4, .int .i64 a0_5]] w fun e w' => ∃ v4_ : Value, e = .returned (.agg #[.int .i64 r1, .string r2, .string r3, .int .i64 r4, v4_, .int .i64 r6]) ∧ Kd.R k60 60 w' w.heap.size (fun _ => True) v4_ r5 ∧ Below w.heap.size w w' := by
 have hu26 := Tryd.underlying26
 have HR0_4 := Az.mk hr0_4
 have HC0_4 := Az.mk hc0_4
 clear hr0_4 hc0_4
 have HB := Az.mk (Below.refl w.heap.size w)
 have H : ((some (([] : List (S60)) : List (S60))).bind fun y337 => (if y337.length + l0_4.length < 8796093022208 then (some (a0_0, a0_1, a0_2, a0_3, (y337 ++ l0_4), a0_5)) else (none))) = some (r1, r2, r3, r4, r5, r6) := h
 clear h
 obtain ⟨y337, hy337⟩ : ∃ y_ : List (S60), y_ = (([] : List (S60))) := ⟨_, rfl⟩
 replace H : (if y337.length + l0_4.length < 8796093022208 then (some (a0_0, a0_1, a0_2, a0_3, (y337 ++ l0_4), a0_5)) else (none)) = some (r1, r2, r3, r4, r5, r6) := by first | (rw [hy337]; with_reducible exact H) | (have H2_ := (Option.bind_some _ _).symm.trans H; rw [hy337]; with_reducible exact H2_) | (have H2_ := (Option.bind_some _ _).symm.trans H; with_reducible exact H2_) | with_reducible exact H | (rw [hy337]; exact H) | exact H
 have Ny337 := Az.mk hy337
 clear hy337
 by_cases c2 : y337.length + l0_4.length < 8796093022208
 ·rw [if_pos c2] at H
  have LMc2 := Az.mk c2
  clear c2
  obtain ⟨y340, hy340⟩ : ∃ y_ : List (S60), y_ = (y337 ++ l0_4) := ⟨_, rfl⟩
  replace H : (some (a0_0, a0_1, a0_2, a0_3, y340, a0_5)) = some (r1, r2, r3, r4, r5, r6) := by first | (rw [hy340]; with_reducible exact H) | (have H2_ := (Option.bind_some _ _).symm.trans H; rw [hy340]; with_reducible exact H2_) | (have H2_ := (Option.bind_some _ _).symm.trans H; with_reducible exact H2_) | with_reducible exact H | (rw [hy340]; exact H) | exact H
  have Ny340 := Az.mk hy340
  clear hy340
  simp only [Option.some.injEq, Prod.mk.injEq] at H
  obtain ⟨rfl, rfl, rfl, rfl, rfl, rfl⟩ := H
  go_enter Tryd.func12, Tryd.ntmps12
  go_wp2_with (first | ((with_reducible refine gate_dst (N := 1) rfl ?_); refine box_event ?hg (N := 1) ?hd (cs := #[.int .i64 a0_0, .string a0_1, .string a0_2, .int .i64 a0_3, .slice A0_4 l0_4.length c0_4, .int .i64 a0_5]) (t := 26) ?hr ?_; (case hd => rfl); (case hg => rfl); (case hr => first | (go_simp; done) | (go_simp; rfl)); intro gb335 hg w3 hbox hb; have BK335 := Az.mk (hbox); have GW335 := Az.mk (geO hg (pbE HB.out)); have GE335 := Az.mk (geO hg (pbE HB.out)); replace HB := Az.mk (pbT (by exact pbE HB.out) hb); clear hb hbox hg) | ((with_reducible refine gate_dst (N := 2) rfl ?_); refine box_event ?hg (N := 2) ?hd (cs := #[.int .i64 0, .string (⟨#[]⟩ : ByteArray), .string (⟨#[]⟩ : ByteArray), .int .i64 0, .slice none 0 0, .int .i64 0]) (t := 26) ?hr ?_; (case hd => rfl); (case hg => rfl); (case hr => first | (go_simp; done) | (go_simp; rfl)); intro gb336 hg w4 hbox hb; have BK336 := Az.mk (hbox); have GW336 := Az.mk (geO hg (pbE HB.out)); have GE336 := Az.mk (geO hg (pbE HB.out)); replace HB := Az.mk (pbT (by exact pbE HB.out) hb); have NB335_336 := Az.mk (neO hg (bk BK335.out)); have NB336_335 := Az.mk (neP hg (bk BK335.out)); replace BK335 := Az.mk (bkB (bk BK335.out) hb); clear hb hbox hg) | ((with_reducible refine gate_dst (N := 3) rfl ?_); refine Kd.R_lit k60 _ 60 ?hg (N := 3) ?hd (xs := ([] : List (S60))) (inner := []) (ok := fun _ => True) (okp := fun _ => True) ?hr ?hp (fun _ hk => hk) trivial (Below.refl _ _) (Nat.le_refl _) (by simp) ?_; (case hd => rfl); (case hg => rfl); (case hr => first | (go_simp; done) | (go_simp; rfl)); (case hp => exact (Reps.none _ _)); intro v338 w5 ho6 hb hg_ hnew_; clear hg_ hnew_; (first | rw [← Ny337.out] at ho6 | (simp only [Int.reduceToNat] at ho6; rw [← Ny337.out] at ho6)); have HO339 := Az.mk (Kd.R_lower ho6 (pbZ (by exact pbE HB.out))); replace BK335 := Az.mk (bkB (bk BK335.out) hb); replace BK336 := Az.mk (bkB (bk BK336.out) hb); replace HB := Az.mk (pbT (by exact pbE HB.out) hb); clear hb ho6; have hnb7 := NB335_336.out; have hnc7 := NB336_335.out; have hcz8 := cells6 BK335.out) | ((with_reducible refine gate_builtin (b := .append) (xs := #[.tmp 3, .tmp 5]) rfl ?_); at_builtin; refine Kd.R_append_rows k60 (w0 := w) w.heap.size rfl (.tmp 3) (.tmp 5) 24 60 (.agg #[(.int .i64 0), (.int .i64 0)]) 16 rfl Tryd.underlying24 info60 rfl (by decide) (by omega) v338 y337 l0_4 _ _ _ (fun _ => True) (fun _ => False) rfl rfl ?aO ?aR (fun _ _ h => h) (fun _ h => h.elim) ?aF ?aB ?aS ?aL ?_; (case aR => repeat (first | exact (Kd.C_below HR0_4.out HB.out) | (with_reducible refine Kd.C_alloc ?_ _) | (with_reducible refine Kd.C_drewN ?_ _) | (with_reducible refine Kd.C_drew ?_))); (case aB => exact (by exact pbE HB.out)); (case aF => exact (fun _ _ => trivial)); (case aO => exact (Kd.R_ext HO339.out)); (case aS => exact (pbZ (by exact pbE HB.out))); (case aL => have := LMc2.out; omega); intro v341 w9 ho hb hg hat; rw [← Ny340.out] at ho; replace BK335 := Az.mk (blk_grown (bk BK335.out) hg (Kd.R_ne HO339.out BK335.out (by decide))); replace BK336 := Az.mk (blk_grown (bk BK336.out) hg (Kd.R_ne HO339.out BK336.out (by decide))); replace HB := Az.mk (hb); have HO342 := Az.mk (ho); clear HO339; clear ho hb hg hat; obtain ⟨Ao10, co10, eo10⟩ := Kd.R_slice HO342.out; subst eo10; have hcz11 := cells6 BK335.out; have hcz12 := cells6 BK336.out))
  refine bodyPost_ret (results_cell_row rfl _ _ gb336 26 #[.int .i64 a0_0, .string a0_1, .string a0_2, .int .i64 a0_3, .slice Ao10 y340.length co10, .int .i64 a0_5] (0, 0) _ rfl (by refine bk ?_; refine blk_put (cs := #[.int .i64 a0_0, .string a0_1, .string a0_2, .int .i64 a0_3, .slice Ao10 y340.length co10, .int .i64 0]) ?_ 5 _ rfl; refine bk ?_; refine blk_put (cs := #[.int .i64 a0_0, .string a0_1, .string a0_2, .int .i64 a0_3, .slice none 0 0, .int .i64 0]) ?_ 4 _ rfl; refine bk ?_; refine blk_put (cs := #[.int .i64 a0_0, .string a0_1, .string a0_2, .int .i64 0, .slice none 0 0, .int .i64 0]) ?_ 3 _ rfl; refine bk ?_; refine blk_put (cs := #[.int .i64 a0_0, .string a0_1, .string (⟨#[]⟩ : ByteArray), .int .i64 0, .slice none 0 0, .int .i64 0]) ?_ 2 _ rfl; refine bk ?_; refine blk_put (cs := #[.int .i64 a0_0, .string (⟨#[]⟩ : ByteArray), .string (⟨#[]⟩ : ByteArray), .int .i64 0, .slice none 0 0, .int .i64 0]) ?_ 1 _ rfl; refine bk ?_; refine blk_put (cs := #[.int .i64 0, .string (⟨#[]⟩ : ByteArray), .string (⟨#[]⟩ : ByteArray), .int .i64 0, .slice none 0 0, .int .i64 0]) ?_ 0 _ rfl; exact bf BK336.out) Tryd.underlying26 rfl (by kernel_rfl)) rfl ?_
  exact ⟨_, by first | rfl | (simp [errW_none, errW_some] <;> rfl) | (simp [*, errW_none, errW_some] <;> rfl), by (with_reducible repeat (first | apply Kd.R_alloc | apply Kd.R_drewN | apply Kd.R_drew)); exact Kd.R_mono (Kd.R_far (p := ⟨gb336, 5, none⟩) (Kd.R_far (p := ⟨gb336, 4, none⟩) (Kd.R_far (p := ⟨gb336, 3, none⟩) (Kd.R_far (p := ⟨gb336, 2, none⟩) (Kd.R_far (p := ⟨gb336, 1, none⟩) (Kd.R_far (p := ⟨gb336, 0, none⟩) (Kd.R_far (p := ⟨gb335, 4, none⟩) (Kd.R_types (Kd.R_types HO342.out BK335.out (by decide)) BK336.out (by decide)) (fun _ hk => hk.1.2) (.slice Ao10 y340.length co10)) (fun _ hk => hk.2) (.int .i64 a0_0)) (fun _ hk => hk.2) (.string a0_1)) (fun _ hk => hk.2) (.string a0_2)) (fun _ hk => hk.2) (.int .i64 a0_3)) (fun _ hk => hk.2) (.slice Ao10 y340.length co10)) (fun _ hk => hk.2) (.int .i64 a0_5)) (fun _ hk => trivial), by exact pbE HB.out⟩
 ·rw [if_neg c2] at H
  exact absurd H (by simp)
end Go.Proofs.YtjfhcijjjadhbaaDoor.P
end
section
namespace Go.Proofs.YtjfhcijjjadhbaaDoor.K
open Go Go.RowKit Go.Proofs.YtjfhcijjjadhbaaDoorW.PrintWords Go.Proofs.YtjfhcijjjadhbaaDoorW.PrintLast Go.Proofs.YtjfhcijjjadhbaaDoorW.PrintMore
section
variable {P : Program} {α : Type}
/-- A kind whose cells tell all: none of it lies elsewhere. -/
def Flat (d : Kd α) : Prop := ∀ (w w' : World) x c, d.K w x c → d.K w' x c
theorem V_own {d : Kd α} (hf : Flat d) {W W1 : World} {base b2 : Nat} {e : TypeId} {v : Value} {xs : List α} {inner : List Value} (hown : W1.ownsRow base e d.sz v xs.length inner) (hr : Reps (d.K W) d.sz xs inner) (ok : Nat → Prop) (hok : ∀ k, v.ownBlock = some k → ok k) : Kd.V d e W1 b2 ok v xs := by
 obtain ⟨hlen, hown⟩ := hown
 rcases hown with ⟨rfl, h0⟩ | ⟨g, cap, cur, rfl, hg, hheap, hcap, hmax, hsz, htake⟩
 ·obtain rfl : xs = [] := List.eq_nil_of_length_eq_zero h0
  exact ⟨none, 0, rfl, Nat.le_refl _, Kd.F_nil d W1 ok⟩
 ·refine ⟨some ⟨g, 0, none⟩, cap, rfl, hcap, fun W' hW => ?_⟩
  have hlt : g < W1.heap.size := by
   rcases Nat.lt_or_ge g W1.heap.size with h | h
   ·exact h
   ·rw [Array.getElem?_eq_none h] at hheap; cases hheap
  have hh : W'.heap[g]? = some (.cells cur e (0, 0)) := (hW g (hok g rfl) hlt).trans hheap
  have ho : OwnRow (d.K W') e d.sz W' base (.slice (some ⟨g, 0, none⟩) xs.length cap) xs := ⟨inner, ⟨hlen, .inr ⟨g, cap, cur, rfl, hg, hh, hcap, hmax, hsz, htake⟩⟩, hr.imp_ (fun p c hp => hf _ _ _ _ hp)⟩
  obtain ⟨A, c, he, _, hR⟩ := ho.reads
  injection he with h1
  subst h1
  exact hR
theorem F_flat {d : Kd α} {W : World} {ok : Nat → Prop} {A : Option Addr} {n : Nat} {xs : List α} (h : Kd.F d W ok A n xs) : Kd.C d W A n xs := Kd.F_now h
/-- What is read of flat elements is so in every world that has the same blocks. -/
theorem F_of_C {d : Kd α} (hf : Flat d) {W : World} {A : Option Addr} {n : Nat} {xs : List α} (h : Kd.C d W A n xs) : Kd.F d W (fun _ => True) A n xs := by
 intro W' hW
 obtain ⟨h1, h2, h3⟩ := h
 refine ⟨h1, h2, fun hn => ?_⟩
 obtain ⟨ad, e, hc⟩ := h3 hn
 refine ⟨ad, e, fun j p hp => ?_⟩
 obtain ⟨c, hl, hK, hcell⟩ := hc j p hp
 refine ⟨c, hl, hf _ _ _ _ hK, fun i u hu => ?_⟩
 have hold := hcell i u hu
 have hlt : (ad.add (j * d.sz + i)).block < W.heap.size := by
  rcases Nat.lt_or_ge (ad.add (j * d.sz + i)).block W.heap.size with h | h
  ·exact h
  ·simp [World.cell?, Array.getElem?_eq_none h] at hold
 rw [World.cell?_of_block (hW _ trivial hlt)]
 exact hold
theorem V_of_C {d : Kd α} (hf : Flat d) {W : World} {A : Option Addr} {c : Nat} {xs : List α} {e base : Nat} (h : Kd.C d W A xs.length xs) (hc : xs.length ≤ c) : Kd.V d e W base (fun _ => True) (.slice A xs.length c) xs := ⟨A, c, rfl, hc, F_of_C hf h⟩
/-- append(xs[:n:n], ys..): a new row, or, with nothing to append, xs[:n:n] itself. -/
theorem run_app_cut (d : Kd α) (hf : Flat d) (W : World) (t ty e : TypeId) (i : TypeInfo) (z : Value) (bytes : Nat) (ht : P.underlying t = some (.slice e)) (hi : P.info? e = some i) (hz : i.zero = some z) (hsize : i.size = d.sz) (hby : i.bytes = bytes) (hzs : z.cells.size = d.sz) (hsz : 0 < d.sz) (hb0 : 0 < bytes)
 (A : Option Addr) (n : Nat) (xs : List α) (A2 : Option Addr) (m c : Nat) (ys : List α) (ok : Nat → Prop) (base : Nat) (HX : Kd.F d W ok A n xs) (HY : Kd.C d W A2 m ys) (hl : (n + m) * bytes ≤ 140737488355328) :
 ∃ v1 w1, (Builtin.append_ #[t, t] ty #[.slice A n n, .slice A2 m c]).run P W = .ok v1 w1 ∧ Below W.heap.size W w1 ∧ Kd.V d e w1 base (fun k => ok k ∨ W.heap.size ≤ k) v1 (xs ++ ys) := by
 have HX0 := F_flat HX
 have hn : xs.length = n := HX0.1
 have hm : ys.length = m := HY.1
 have hlen : n + m ≤ 140737488355328 := Nat.le_trans (Nat.le_mul_of_pos_right _ hb0) hl
 rcases Nat.eq_zero_or_pos m with h0 | hp
 ·subst h0
  obtain rfl : ys = [] := List.eq_nil_of_length_eq_zero hm
  refine ⟨.slice A n n, W, ?_, Below.refl _ _, ?_⟩
  ·rcases A with _ | ad
   ·have hn0 : n = 0 := by
     rcases Nat.eq_zero_or_pos n with h | h
     ·exact h
     ·obtain ⟨ad, h, _⟩ := HX0.2.2 h; cases h
    subst hn0
    rcases A2 with _ | a2
    ·simp [Builtin.append_, run_underlying ht, sizeOf, typeInfo, hi, Builtin.lenOf, Builtin.firstCells]
    ·simp [Builtin.append_, run_underlying ht, sizeOf, typeInfo, hi, Builtin.lenOf, Builtin.firstCells, loadCells, loadCellsFrom]
   ·rcases A2 with _ | a2
    ·simp [Builtin.append_, run_underlying ht, sizeOf, typeInfo, hi, Builtin.lenOf, Builtin.firstCells, storeCells]
    ·simp [Builtin.append_, run_underlying ht, sizeOf, typeInfo, hi, Builtin.lenOf, Builtin.firstCells, storeCells, loadCells, loadCellsFrom]
  ·rw [List.append_nil]
   subst hn
   exact ⟨A, xs.length, rfl, Nat.le_refl _, Kd.F_mono HX (fun k hk => .inl hk)⟩
 ·obtain ⟨a2, rfl, _⟩ := HY.2.2 hp
  obtain ⟨news, hnr, hnc⟩ := ReadsRow.inner_ HY
  have hone : ∀ u ∈ news, u.oneCell' = true := by
   intro u hu
   obtain ⟨q, hq, rfl⟩ := List.mem_iff_getElem.1 hu
   have hql : q / d.sz < ys.length := by rw [Nat.div_lt_iff_lt_mul hsz, ← hnr.1]; exact hq
   have hc := hnr.2 (q / d.sz) _ (List.getElem?_eq_getElem hql)
   refine d.K_one hc _ ?_
   rw [List.mem_iff_getElem?]
   refine ⟨q % d.sz, ?_⟩
   rw [List.getElem?_take, if_pos (Nat.mod_lt _ hsz), List.getElem?_drop, Nat.mul_comm, Nat.div_add_mod, List.getElem?_eq_getElem hq]
  have hnl : news.length = m * d.sz := by rw [hnr.1, hm]
  have fin : ∀ (olds : List Value) v1 w1, Reps (d.K W) d.sz xs olds → w1.ownsRow W.heap.size e d.sz v1 (n + m) (olds ++ news) → W.grownBy w1 none → Below W.heap.size W w1 ∧ Kd.V d e w1 base (fun k => ok k ∨ W.heap.size ≤ k) v1 (xs ++ ys) := by
   intro olds v1 w1 hxr hown hg
   refine ⟨⟨hg.os, hg.tape, hg.output, hg.size, fun k hk => hg.block k hk (by simp)⟩, V_own hf (xs := xs ++ ys) (by rw [List.length_append, hn, hm]; exact hown) (Kd.reps_append hxr hnr) _ (fun k hk => .inr ?_)⟩
   rcases hown.2 with ⟨rfl, h⟩ | ⟨g, cap, cur, rfl, hgb, _⟩
   ·omega
   ·have : g = k := by simpa [Value.ownBlock] using hk
    omega
  rcases A with _ | ad
  ·have hn0 : n = 0 := by
    rcases Nat.eq_zero_or_pos n with h | h
    ·exact h
    ·obtain ⟨ad, h, _⟩ := HX0.2.2 h; cases h
   subst hn0
   obtain rfl : xs = [] := List.eq_nil_of_length_eq_zero hn
   obtain ⟨v1, w1, hrun, h2, hg, _⟩ := run_append_own_at (P := P) W W.heap.size t ty e i z d.sz bytes ht hi hz hsize hby hzs hsz (.slice none 0 0) 0 [] (own_nil _ _ _ _) a2 m c news hnl hnc hone (by simp only [maxLen]; omega) hl (Nat.le_refl _)
   exact ⟨v1, w1, hrun, fin [] v1 w1 (Reps.none _ _) h2 hg⟩
  ·obtain ⟨olds, hxr, hxc⟩ := ReadsRow.inner_ HX0
   obtain ⟨v1, w1, hrun, h2, hg⟩ := run_append_arg_grows (P := P) W t ty e i z d.sz bytes ht hi hz hsize hby hzs hsz ad n n olds (by rw [hxr.1, hn]) hxc a2 m c news hnl hnc (by omega) (by simp only [maxLen]; omega) hl
   exact ⟨v1, w1, hrun, fin olds v1 w1 hxr h2 hg⟩
variable {ops : Array Oper} {rest : List Oper} {o : Oper} {a : Act} {Q : Exit → Act → World → Prop}
theorem V_append_cut (d : Kd α) (hf : Flat d) {W : World} (base : Nat) (hgd : o.guard = none) (s x : Operand) (t e : TypeId) (z : Value) (bytes : Nat)
 (ho : o.op = .call { callee := .builtin .append, args := #[s, x], argTypes := #[t, t] })
 (ht : P.underlying t = some (.slice e)) (hinfo : (P.info? e).map (fun i => (i.zero, i.size, i.bytes)) = some (some z, d.sz, bytes)) (hz : z.cells.size = d.sz) (hs0 : 0 < d.sz) (hb0 : 0 < bytes)
 (A : Option Addr) (n : Nat) (xs : List α) (A2 : Option Addr) (m c : Nat) (ys : List α) (ok : Nat → Prop) (hs : a.eval s = .slice A n n) (hx : a.eval x = .slice A2 m c)
 (HX : Kd.F d W ok A n xs) (HY : Kd.C d W A2 m ys) (hl : (n + m) * bytes ≤ 140737488355328)
 (h : ∀ v1 w1, Kd.V d e w1 base (fun k => ok k ∨ W.heap.size ≤ k) v1 (xs ++ ys) → Below W.heap.size W w1 → wpList P ops Q rest (a.put o.dst v1) w1) :
 wpList P ops Q (o :: rest) a W := by
 obtain ⟨i0, hi, hzz⟩ := Option.map_eq_some_iff.1 hinfo
 simp only [Prod.mk.injEq] at hzz
 obtain ⟨hz0, hz1, hz2⟩ := hzz
 obtain ⟨v1, w1, hr1, hb, hv⟩ := run_app_cut (P := P) d hf W t o.type e i0 z bytes ht hi hz0 hz1 hz2 hz hs0 hb0 A n xs A2 m c ys ok base HX HY hl
 refine wpList_plain hgd fun K hK => ?_
 unfold Oper.wp execOp
 simp only [ho, resolve, invoke, builtin, Sem.run_bind, Sem.run_pure, Result.andThen_ok, List.map_toArray, List.map_cons, List.map_nil, hs, hx, hr1]
 exact hK _ _ (h v1 w1 hv hb)
theorem step_append_cut (d : Kd α) (hf : Flat d) {W : World} {K : Act → World → Prop} {E : Prop} (base : Nat) (hgd : o.guard = none) (s x : Operand) (t e : TypeId) (z : Value) (bytes : Nat)
 (ho : o.op = .call { callee := .builtin .append, args := #[s, x], argTypes := #[t, t] })
 (ht : P.underlying t = some (.slice e)) (hinfo : (P.info? e).map (fun i => (i.zero, i.size, i.bytes)) = some (some z, d.sz, bytes)) (hz : z.cells.size = d.sz) (hs0 : 0 < d.sz) (hb0 : 0 < bytes)
 (A : Option Addr) (n : Nat) (xs : List α) (A2 : Option Addr) (m c : Nat) (ys : List α) (ok : Nat → Prop) (hs : a.eval s = .slice A n n) (hx : a.eval x = .slice A2 m c)
 (HX : Kd.F d W ok A n xs) (HY : Kd.C d W A2 m ys) (hl : (n + m) * bytes ≤ 140737488355328)
 (h : ∀ v1 w1, Kd.V d e w1 base (fun k => ok k ∨ W.heap.size ≤ k) v1 (xs ++ ys) → Below W.heap.size W w1 → K (a.put o.dst v1) w1) :
 if Region.wanted o (yielded ops a.tmps) = true then Oper.wp P o a W K Q else E := by
 obtain ⟨i0, hi, hzz⟩ := Option.map_eq_some_iff.1 hinfo
 simp only [Prod.mk.injEq] at hzz
 obtain ⟨hz0, hz1, hz2⟩ := hzz
 obtain ⟨v1, w1, hr1, hb, hv⟩ := run_app_cut (P := P) d hf W t o.type e i0 z bytes ht hi hz0 hz1 hz2 hz hs0 hb0 A n xs A2 m c ys ok base HX HY hl
 have hw : Region.wanted o (yielded ops a.tmps) = true := by simp [Region.wanted, hgd]
 rw [if_pos hw]
 unfold Oper.wp execOp
 simp only [ho, resolve, invoke, builtin, Sem.run_bind, Sem.run_pure, Result.andThen_ok, List.map_toArray, List.map_cons, List.map_nil, hs, hx, hr1]
 exact h v1 w1 hv hb
end
end Go.Proofs.YtjfhcijjjadhbaaDoor.K
end
section
namespace Go.Proofs.YtjfhcijjjadhbaaDoor.P
open Go.RowKit Go.Proofs.YtjfhcijjjadhbaaDoor.K Go.Proofs.YtjfhcijjjadhbaaDoorW.PrintWords Go.Proofs.YtjfhcijjjadhbaaDoorW.PrintLast Go.Proofs.YtjfhcijjjadhbaaDoorW.PrintMore
def api_Member_33.f (l0 : List S60) : Option (List S60) := if l0.length < 8796093022208 then some l0 else none
set_option maxHeartbeats 2000000 in
set_option maxRecDepth 100000 in
theorem api_Member_33.calls (A0 : Option Addr) (c0 : Nat) (l0 : List S60) (r : List S60) (w : World) (hG : TheG w) (hr0 : Kd.C k60 w A0 l0.length l0) (hc0 : l0.length ≤ c0) (h : api_Member_33.f l0 = some r) :
 Calls Tryd.prog 33 #[.slice A0 l0.length c0] w fun e w' => ∃ v : Value, e = .returned v ∧ Kd.R k60 60 w' w.heap.size (fun _ => True) v r ∧ Below w.heap.size w w' := by
 unfold api_Member_33.f at h
 split at h
 case isFalse => exact absurd h (by simp)
 case isTrue hl =>
 obtain rfl := Option.some.inj h
 clear h
 rcases A0 with _ | ad
 ·have h0 : l0 = [] := by
   rcases l0 with _ | ⟨x, l⟩
   ·rfl
   ·obtain ⟨ad, h, _⟩ := hr0.2.2 (by simp); cases h
  subst h0
  have hbin := fun w => Lib.run_eql_slice_nil (P := Tryd.prog) w 24 60 none 0 c0 0 0 Tryd.underlying24
  go_enter Tryd.func33, Tryd.ntmps33
  go_wp2
  go_ret
  exact ⟨_, rfl, Kd.R_nil _ _ _ _ _, Below.refl _ _⟩
 ·have HC := Lib.hid hr0
  clear hr0
  have hbin := fun w => Lib.run_eql_slice_nil (P := Tryd.prog) w 24 60 (some ad) l0.length c0 0 0 Tryd.underlying24
  go_enter Tryd.func33, Tryd.ntmps33
  go_wp2_with (first | ((with_reducible refine gate_dst (N := 5) rfl ?_); refine Kd.R_lit k60 _ 60 ?hg (N := 5) ?hd (xs := ([] : List (S60))) (inner := []) (ok := fun _ => True) (okp := fun _ => True) ?hr ?hp (fun _ hk => hk) trivial (Below.refl _ _) (Nat.le_refl _) (by simp) ?_; (case hd => rfl); (case hg => rfl); (case hr => first | (go_simp; done) | (go_simp; rfl)); (case hp => exact (Reps.none _ _)); intro v1 w1 ho1 hb1 _ _) | ((with_reducible refine gate_builtin (b := .append) (xs := #[.tmp 5, .tmp 6]) rfl ?_); at_builtin; refine Kd.R_append_rows k60 (w0 := w) w.heap.size rfl (.tmp 5) (.tmp 6) 24 60 (.agg #[(.int .i64 0), (.int .i64 0)]) 16 rfl Tryd.underlying24 info60 rfl (by decide) (by omega) v1 [] l0 _ _ _ (fun _ => True) (fun _ => False) rfl rfl ?aO ?aR (fun _ _ h => h) (fun _ h => h.elim) ?aF ?aB ?aS ?aL ?_; (case aR => exact Kd.C_below HC.out hb1); (case aF => exact fun _ _ => trivial); (case aB => exact hb1); (case aS => exact hb1.size); (case aL => simp; omega); (case aO => exact ho1); intro v2 w2 ho2 hb2 _ _) | fail)
  obtain ⟨A3, c3, rfl⟩ := Kd.R_slice ho2
  go_ret
  exact ⟨_, rfl, ho2, hb2⟩
theorem flat60 : Flat k60 := by
 intro w w' x c h
 obtain rfl := k60_open h
 exact k60_mk w' x
end Go.Proofs.YtjfhcijjjadhbaaDoor.P
end
section
namespace Go.Proofs.YtjfhcijjjadhbaaDoor.P
open Go.RowKit Go.Proofs.YtjfhcijjjadhbaaDoor.K Go.Proofs.YtjfhcijjjadhbaaDoorW.PrintWords Go.Proofs.YtjfhcijjjadhbaaDoorW.PrintLast Go.Proofs.YtjfhcijjjadhbaaDoorW.PrintMore
attribute [local go_sem ↓] Go.wp_at_zero Go.wp_at_succ
/-- Where a bound may be cut. -/
def cutOk (f t k : ByteArray) : Bool := boundOk f t && (!(k.toList == ([] : List UInt8)) && decide (k.size ≤ 32)) && Op.bytesLess f.toList k.toList && (t.toList == ([] : List UInt8) || Op.bytesLess k.toList t.toList)
def bound_Cut.f (a0_0 a0_1 a1 : ByteArray) : Option (ByteArray × ByteArray × ByteArray × ByteArray × Int) :=
 if cutOk a0_0 a0_1 a1 = true then some (a0_0, a1, a1, a0_1, 0) else some (⟨#[]⟩, ⟨#[]⟩, ⟨#[]⟩, ⟨#[]⟩, 20)
theorem put2s {w1 : World} {B : Nat} {t : TypeId} {x y : Value} (BL : w1.heap[B]? = some (.cells #[.string ⟨#[]⟩, .string ⟨#[]⟩] t (0, 0))) : ((w1.setCell ⟨B, 0, none⟩ x).setCell ⟨B, 1, none⟩ y).heap[B]? = some (.cells #[x, y] t (0, 0)) := by
 refine blk_put (cs := #[x, .string ⟨#[]⟩]) ?_ 1 _ rfl
 exact blk_put (cs := #[.string ⟨#[]⟩, .string ⟨#[]⟩]) BL 0 _ rfl
set_option maxHeartbeats 8000000 in
set_option maxRecDepth 100000 in
theorem bound_Cut.calls (a0_0 a0_1 a1 : ByteArray) (r1 r2 r3 r4 : ByteArray) (r5 : Int) (w : World) (hG : TheG w) (h : bound_Cut.f a0_0 a0_1 a1 = some (r1, r2, r3, r4, r5)) :
 Calls Tryd.prog 32 #[.agg #[.string a0_0, .string a0_1], .string a1] w fun e w' => e = .returned (.tuple #[.agg #[.string r1, .string r2], .agg #[.string r3, .string r4], .int .i64 r5]) ∧ Below w.heap.size w w' := by
 unfold bound_Cut.f cutOk at h
 have hu := Tryd.underlying23
 have HC : ∀ W, Below w.heap.size w W → Hid (Calls Tryd.prog 47 #[.agg #[.string a0_0, .string a0_1]] W fun e w' => e = .returned (.int .i64 (if boundOk a0_0 a0_1 = true then 0 else 20)) ∧ Below W.heap.size W w') := fun W hW => Lib.hid (bound_Check.calls a0_0 a0_1 _ W (hG.below hW) rfl)
 cases hok : boundOk a0_0 a0_1
 ·rw [hok, if_neg (by simp)] at HC
  simp only [hok, Bool.false_and, Bool.and_false, Bool.true_and, Bool.and_true, Bool.not_true, Bool.not_false, Bool.or_true, Bool.true_or, Bool.false_or, Bool.or_false, if_false, if_true, Bool.false_eq_true, Option.some.injEq, Prod.mk.injEq, decide_true, decide_false] at h
  obtain ⟨rfl, rfl, rfl, rfl, rfl⟩ := h
  go_enter Tryd.func32, Tryd.ntmps32
  go_wp2_with (first | (go_at_call 47; refine (HC _ (pbA (pbA (pbA (Below.refl _ _) _) _) _)).out.mono ?_; rintro e w1 ⟨rfl, hb⟩; have B0 := three_old hb () (); have B1 := three_mid2 hb () (); have B2 := three_new hb () (); have z0 := (bkC B0 0).trans rfl; have z1 := (bkC B0 1).trans rfl; have y0 := (bkC B1 0).trans rfl; have y1 := (bkC B1 1).trans rfl; have x0 := (bkC B2 0).trans rfl; have x1 := (bkC B2 1).trans rfl; have e0 := bkF B1 0; have e1 := bkF B1 1; have d0 := bkF B2 0; have d1 := bkF B2 1; have HB := pbT (pbA (pbA (pbA (Below.refl _ _) _) _) _) hb; have L0 := blk_lt B0; have L1 := blk_lt B1; have L2 := blk_lt B2) | go_in)
  go_region
  all_goals go_wp2
  refine bodyPost_ret (results_list (rs := [.cell 4 23, .cell 5 23, .tmp 6]) rfl (by simp) (.cell (w.heap.size + 1) 23 #[.string ⟨#[]⟩, .string ⟨#[]⟩] (0, 0) _ rfl ?b1 hu rfl (by kernel_rfl) (.cell (w.heap.size + 1 + 1) 23 #[.string ⟨#[]⟩, .string ⟨#[]⟩] (0, 0) _ rfl ?b2 hu rfl (by kernel_rfl) (.tmp .nil)))) rfl ?_
  case b1 => (with_reducible repeat (first | refine bkN ?_ _ | refine bkD ?_ | refine bkA ?_ _)); exact blk_far (blk_far (put2s (by (with_reducible repeat (first | refine bkN ?_ _ | refine bkD ?_ | refine bkA ?_ _)); exact B1)) (by simp) _) (by simp) _
  case b2 => (with_reducible repeat (first | refine bkN ?_ _ | refine bkD ?_ | refine bkA ?_ _)); exact put2s (blk_far (blk_far (by (with_reducible repeat (first | refine bkN ?_ _ | refine bkD ?_ | refine bkA ?_ _)); exact B2) (by simp) _) (by simp) _)
  exact ⟨rfl, by repeat (first | (with_reducible first | exact HB | apply pb1 | apply pbA) | refine pbS ?_ (by omega))⟩
 rw [hok, if_pos rfl] at HC
 cases hk : (a1.toList == ([] : List UInt8))
 case true =>
  simp only [hok, hk, Bool.false_and, Bool.and_false, Bool.true_and, Bool.and_true, Bool.not_true, Bool.not_false, Bool.or_true, Bool.true_or, Bool.false_or, Bool.or_false, if_false, if_true, Bool.false_eq_true, Option.some.injEq, Prod.mk.injEq, decide_true, decide_false] at h
  obtain ⟨rfl, rfl, rfl, rfl, rfl⟩ := h
  go_enter Tryd.func32, Tryd.ntmps32
  go_wp2_with (first | (go_at_call 47; refine (HC _ (pbA (pbA (pbA (Below.refl _ _) _) _) _)).out.mono ?_; rintro e w1 ⟨rfl, hb⟩; have B0 := three_old hb () (); have B1 := three_mid2 hb () (); have B2 := three_new hb () (); have z0 := (bkC B0 0).trans rfl; have z1 := (bkC B0 1).trans rfl; have y0 := (bkC B1 0).trans rfl; have y1 := (bkC B1 1).trans rfl; have x0 := (bkC B2 0).trans rfl; have x1 := (bkC B2 1).trans rfl; have e0 := bkF B1 0; have e1 := bkF B1 1; have d0 := bkF B2 0; have d1 := bkF B2 1; have HB := pbT (pbA (pbA (pbA (Below.refl _ _) _) _) _) hb; have L0 := blk_lt B0; have L1 := blk_lt B1; have L2 := blk_lt B2) | go_in)
  go_region
  all_goals go_wp2
  refine bodyPost_ret (results_list (rs := [.cell 4 23, .cell 5 23, .tmp 6]) rfl (by simp) (.cell (w.heap.size + 1) 23 #[.string ⟨#[]⟩, .string ⟨#[]⟩] (0, 0) _ rfl ?b1 hu rfl (by kernel_rfl) (.cell (w.heap.size + 1 + 1) 23 #[.string ⟨#[]⟩, .string ⟨#[]⟩] (0, 0) _ rfl ?b2 hu rfl (by kernel_rfl) (.tmp .nil)))) rfl ?_
  case b1 => (with_reducible repeat (first | refine bkN ?_ _ | refine bkD ?_ | refine bkA ?_ _)); exact blk_far (blk_far (put2s (by (with_reducible repeat (first | refine bkN ?_ _ | refine bkD ?_ | refine bkA ?_ _)); exact B1)) (by simp) _) (by simp) _
  case b2 => (with_reducible repeat (first | refine bkN ?_ _ | refine bkD ?_ | refine bkA ?_ _)); exact put2s (blk_far (blk_far (by (with_reducible repeat (first | refine bkN ?_ _ | refine bkD ?_ | refine bkA ?_ _)); exact B2) (by simp) _) (by simp) _)
  exact ⟨rfl, by repeat (first | (with_reducible first | exact HB | apply pb1 | apply pbA) | refine pbS ?_ (by omega))⟩
 have hk2 : (a1.toList != ([] : List UInt8)) = true := by rw [bne, hk]; rfl
 by_cases hs : a1.size ≤ 32
 case neg =>
  have hs2 : (32 : Int) < (a1.size : Int) := by omega
  have hs3 : decide (a1.size ≤ 32) = false := decide_eq_false hs
  simp only [hok, hk, hs3, Bool.false_and, Bool.and_false, Bool.true_and, Bool.and_true, Bool.not_true, Bool.not_false, Bool.or_true, Bool.true_or, Bool.false_or, Bool.or_false, if_false, if_true, Bool.false_eq_true, Option.some.injEq, Prod.mk.injEq, decide_true, decide_false] at h
  obtain ⟨rfl, rfl, rfl, rfl, rfl⟩ := h
  go_enter Tryd.func32, Tryd.ntmps32
  go_wp2_with (first | (go_at_call 47; refine (HC _ (pbA (pbA (pbA (Below.refl _ _) _) _) _)).out.mono ?_; rintro e w1 ⟨rfl, hb⟩; have B0 := three_old hb () (); have B1 := three_mid2 hb () (); have B2 := three_new hb () (); have z0 := (bkC B0 0).trans rfl; have z1 := (bkC B0 1).trans rfl; have y0 := (bkC B1 0).trans rfl; have y1 := (bkC B1 1).trans rfl; have x0 := (bkC B2 0).trans rfl; have x1 := (bkC B2 1).trans rfl; have e0 := bkF B1 0; have e1 := bkF B1 1; have d0 := bkF B2 0; have d1 := bkF B2 1; have HB := pbT (pbA (pbA (pbA (Below.refl _ _) _) _) _) hb; have L0 := blk_lt B0; have L1 := blk_lt B1; have L2 := blk_lt B2) | go_in)
  go_region
  all_goals go_wp2
  refine bodyPost_ret (results_list (rs := [.cell 4 23, .cell 5 23, .tmp 6]) rfl (by simp) (.cell (w.heap.size + 1) 23 #[.string ⟨#[]⟩, .string ⟨#[]⟩] (0, 0) _ rfl ?b1 hu rfl (by kernel_rfl) (.cell (w.heap.size + 1 + 1) 23 #[.string ⟨#[]⟩, .string ⟨#[]⟩] (0, 0) _ rfl ?b2 hu rfl (by kernel_rfl) (.tmp .nil)))) rfl ?_
  case b1 => (with_reducible repeat (first | refine bkN ?_ _ | refine bkD ?_ | refine bkA ?_ _)); exact blk_far (blk_far (put2s (by (with_reducible repeat (first | refine bkN ?_ _ | refine bkD ?_ | refine bkA ?_ _)); exact B1)) (by simp) _) (by simp) _
  case b2 => (with_reducible repeat (first | refine bkN ?_ _ | refine bkD ?_ | refine bkA ?_ _)); exact put2s (blk_far (blk_far (by (with_reducible repeat (first | refine bkN ?_ _ | refine bkD ?_ | refine bkA ?_ _)); exact B2) (by simp) _) (by simp) _)
  exact ⟨rfl, by repeat (first | (with_reducible first | exact HB | apply pb1 | apply pbA) | refine pbS ?_ (by omega))⟩
 have hs2 : ¬ (32 : Int) < (a1.size : Int) := by omega
 have hs3 : decide (a1.size ≤ 32) = true := decide_eq_true hs
 cases hl : Op.bytesLess a0_0.toList a1.toList
 case false =>
  simp only [hok, hk, hs3, hl, Bool.false_and, Bool.and_false, Bool.true_and, Bool.and_true, Bool.not_true, Bool.not_false, Bool.or_true, Bool.true_or, Bool.false_or, Bool.or_false, if_false, if_true, Bool.false_eq_true, Option.some.injEq, Prod.mk.injEq, decide_true, decide_false] at h
  obtain ⟨rfl, rfl, rfl, rfl, rfl⟩ := h
  go_enter Tryd.func32, Tryd.ntmps32
  go_wp2_with (first | (go_at_call 47; refine (HC _ (pbA (pbA (pbA (Below.refl _ _) _) _) _)).out.mono ?_; rintro e w1 ⟨rfl, hb⟩; have B0 := three_old hb () (); have B1 := three_mid2 hb () (); have B2 := three_new hb () (); have z0 := (bkC B0 0).trans rfl; have z1 := (bkC B0 1).trans rfl; have y0 := (bkC B1 0).trans rfl; have y1 := (bkC B1 1).trans rfl; have x0 := (bkC B2 0).trans rfl; have x1 := (bkC B2 1).trans rfl; have e0 := bkF B1 0; have e1 := bkF B1 1; have d0 := bkF B2 0; have d1 := bkF B2 1; have HB := pbT (pbA (pbA (pbA (Below.refl _ _) _) _) _) hb; have L0 := blk_lt B0; have L1 := blk_lt B1; have L2 := blk_lt B2) | go_in)
  go_region
  all_goals go_wp2
  refine bodyPost_ret (results_list (rs := [.cell 4 23, .cell 5 23, .tmp 6]) rfl (by simp) (.cell (w.heap.size + 1) 23 #[.string ⟨#[]⟩, .string ⟨#[]⟩] (0, 0) _ rfl ?b1 hu rfl (by kernel_rfl) (.cell (w.heap.size + 1 + 1) 23 #[.string ⟨#[]⟩, .string ⟨#[]⟩] (0, 0) _ rfl ?b2 hu rfl (by kernel_rfl) (.tmp .nil)))) rfl ?_
  case b1 => (with_reducible repeat (first | refine bkN ?_ _ | refine bkD ?_ | refine bkA ?_ _)); exact blk_far (blk_far (put2s (by (with_reducible repeat (first | refine bkN ?_ _ | refine bkD ?_ | refine bkA ?_ _)); exact B1)) (by simp) _) (by simp) _
  case b2 => (with_reducible repeat (first | refine bkN ?_ _ | refine bkD ?_ | refine bkA ?_ _)); exact put2s (blk_far (blk_far (by (with_reducible repeat (first | refine bkN ?_ _ | refine bkD ?_ | refine bkA ?_ _)); exact B2) (by simp) _) (by simp) _)
  exact ⟨rfl, by repeat (first | (with_reducible first | exact HB | apply pb1 | apply pbA) | refine pbS ?_ (by omega))⟩
 cases ht : (a0_1.toList == ([] : List UInt8))
 case true =>
  have ht2 : (a0_1.toList != ([] : List UInt8)) = false := by rw [bne, ht]; rfl
  simp only [hok, hk, hs3, hl, ht, Bool.false_and, Bool.and_false, Bool.true_and, Bool.and_true, Bool.not_true, Bool.not_false, Bool.or_true, Bool.true_or, Bool.false_or, Bool.or_false, if_false, if_true, Bool.false_eq_true, Option.some.injEq, Prod.mk.injEq, decide_true, decide_false] at h
  obtain ⟨rfl, rfl, rfl, rfl, rfl⟩ := h
  go_enter Tryd.func32, Tryd.ntmps32
  go_wp2_with (first | (go_at_call 47; refine (HC _ (pbA (pbA (pbA (Below.refl _ _) _) _) _)).out.mono ?_; rintro e w1 ⟨rfl, hb⟩; have B0 := three_old hb () (); have B1 := three_mid2 hb () (); have B2 := three_new hb () (); have z0 := (bkC B0 0).trans rfl; have z1 := (bkC B0 1).trans rfl; have y0 := (bkC B1 0).trans rfl; have y1 := (bkC B1 1).trans rfl; have x0 := (bkC B2 0).trans rfl; have x1 := (bkC B2 1).trans rfl; have e0 := bkF B1 0; have e1 := bkF B1 1; have d0 := bkF B2 0; have d1 := bkF B2 1; have HB := pbT (pbA (pbA (pbA (Below.refl _ _) _) _) _) hb; have L0 := blk_lt B0; have L1 := blk_lt B1; have L2 := blk_lt B2) | go_in)
  go_region
  all_goals go_wp2
  refine bodyPost_ret (results_list (rs := [.cell 4 23, .cell 5 23, .tmp 6]) rfl (by simp) (.cell (w.heap.size + 1) 23 #[.string a0_0, .string a1] (0, 0) _ rfl ?b1 hu rfl (by kernel_rfl) (.cell (w.heap.size + 1 + 1) 23 #[.string a1, .string a0_1] (0, 0) _ rfl ?b2 hu rfl (by kernel_rfl) (.tmp .nil)))) rfl ?_
  case b1 => (with_reducible repeat (first | refine bkN ?_ _ | refine bkD ?_ | refine bkA ?_ _)); exact blk_far (blk_far (put2s (by (with_reducible repeat (first | refine bkN ?_ _ | refine bkD ?_ | refine bkA ?_ _)); exact B1)) (by simp) _) (by simp) _
  case b2 => (with_reducible repeat (first | refine bkN ?_ _ | refine bkD ?_ | refine bkA ?_ _)); exact put2s (blk_far (blk_far (by (with_reducible repeat (first | refine bkN ?_ _ | refine bkD ?_ | refine bkA ?_ _)); exact B2) (by simp) _) (by simp) _)
  exact ⟨rfl, by repeat (first | (with_reducible first | exact HB | apply pb1 | apply pbA) | refine pbS ?_ (by omega))⟩
 have ht2 : (a0_1.toList != ([] : List UInt8)) = true := by rw [bne, ht]; rfl
 cases hg : Op.bytesLess a1.toList a0_1.toList
 case false =>
  simp only [hok, hk, hs3, hl, ht, hg, Bool.false_and, Bool.and_false, Bool.true_and, Bool.and_true, Bool.not_true, Bool.not_false, Bool.or_true, Bool.true_or, Bool.false_or, Bool.or_false, if_false, if_true, Bool.false_eq_true, Option.some.injEq, Prod.mk.injEq, decide_true, decide_false] at h
  obtain ⟨rfl, rfl, rfl, rfl, rfl⟩ := h
  go_enter Tryd.func32, Tryd.ntmps32
  go_wp2_with (first | (go_at_call 47; refine (HC _ (pbA (pbA (pbA (Below.refl _ _) _) _) _)).out.mono ?_; rintro e w1 ⟨rfl, hb⟩; have B0 := three_old hb () (); have B1 := three_mid2 hb () (); have B2 := three_new hb () (); have z0 := (bkC B0 0).trans rfl; have z1 := (bkC B0 1).trans rfl; have y0 := (bkC B1 0).trans rfl; have y1 := (bkC B1 1).trans rfl; have x0 := (bkC B2 0).trans rfl; have x1 := (bkC B2 1).trans rfl; have e0 := bkF B1 0; have e1 := bkF B1 1; have d0 := bkF B2 0; have d1 := bkF B2 1; have HB := pbT (pbA (pbA (pbA (Below.refl _ _) _) _) _) hb; have L0 := blk_lt B0; have L1 := blk_lt B1; have L2 := blk_lt B2) | go_in)
  go_region
  all_goals go_wp2
  refine bodyPost_ret (results_list (rs := [.cell 4 23, .cell 5 23, .tmp 6]) rfl (by simp) (.cell (w.heap.size + 1) 23 #[.string ⟨#[]⟩, .string ⟨#[]⟩] (0, 0) _ rfl ?b1 hu rfl (by kernel_rfl) (.cell (w.heap.size + 1 + 1) 23 #[.string ⟨#[]⟩, .string ⟨#[]⟩] (0, 0) _ rfl ?b2 hu rfl (by kernel_rfl) (.tmp .nil)))) rfl ?_
  case b1 => (with_reducible repeat (first | refine bkN ?_ _ | refine bkD ?_ | refine bkA ?_ _)); exact blk_far (blk_far (put2s (by (with_reducible repeat (first | refine bkN ?_ _ | refine bkD ?_ | refine bkA ?_ _)); exact B1)) (by simp) _) (by simp) _
  case b2 => (with_reducible repeat (first | refine bkN ?_ _ | refine bkD ?_ | refine bkA ?_ _)); exact put2s (blk_far (blk_far (by (with_reducible repeat (first | refine bkN ?_ _ | refine bkD ?_ | refine bkA ?_ _)); exact B2) (by simp) _) (by simp) _)
  exact ⟨rfl, by repeat (first | (with_reducible first | exact HB | apply pb1 | apply pbA) | refine pbS ?_ (by omega))⟩
 case true =>
  simp only [hok, hk, hs3, hl, ht, hg, Bool.false_and, Bool.and_false, Bool.true_and, Bool.and_true, Bool.not_true, Bool.not_false, Bool.or_true, Bool.true_or, Bool.false_or, Bool.or_false, if_false, if_true, Bool.false_eq_true, Option.some.injEq, Prod.mk.injEq, decide_true, decide_false] at h
  obtain ⟨rfl, rfl, rfl, rfl, rfl⟩ := h
  go_enter Tryd.func32, Tryd.ntmps32
  go_wp2_with (first | (go_at_call 47; refine (HC _ (pbA (pbA (pbA (Below.refl _ _) _) _) _)).out.mono ?_; rintro e w1 ⟨rfl, hb⟩; have B0 := three_old hb () (); have B1 := three_mid2 hb () (); have B2 := three_new hb () (); have z0 := (bkC B0 0).trans rfl; have z1 := (bkC B0 1).trans rfl; have y0 := (bkC B1 0).trans rfl; have y1 := (bkC B1 1).trans rfl; have x0 := (bkC B2 0).trans rfl; have x1 := (bkC B2 1).trans rfl; have e0 := bkF B1 0; have e1 := bkF B1 1; have d0 := bkF B2 0; have d1 := bkF B2 1; have HB := pbT (pbA (pbA (pbA (Below.refl _ _) _) _) _) hb; have L0 := blk_lt B0; have L1 := blk_lt B1; have L2 := blk_lt B2) | go_in)
  go_region
  all_goals go_wp2
  refine bodyPost_ret (results_list (rs := [.cell 4 23, .cell 5 23, .tmp 6]) rfl (by simp) (.cell (w.heap.size + 1) 23 #[.string a0_0, .string a1] (0, 0) _ rfl ?b1 hu rfl (by kernel_rfl) (.cell (w.heap.size + 1 + 1) 23 #[.string a1, .string a0_1] (0, 0) _ rfl ?b2 hu rfl (by kernel_rfl) (.tmp .nil)))) rfl ?_
  case b1 => (with_reducible repeat (first | refine bkN ?_ _ | refine bkD ?_ | refine bkA ?_ _)); exact blk_far (blk_far (put2s (by (with_reducible repeat (first | refine bkN ?_ _ | refine bkD ?_ | refine bkA ?_ _)); exact B1)) (by simp) _) (by simp) _
  case b2 => (with_reducible repeat (first | refine bkN ?_ _ | refine bkD ?_ | refine bkA ?_ _)); exact put2s (blk_far (blk_far (by (with_reducible repeat (first | refine bkN ?_ _ | refine bkD ?_ | refine bkA ?_ _)); exact B2) (by simp) _) (by simp) _)
  exact ⟨rfl, by repeat (first | (with_reducible first | exact HB | apply pb1 | apply pbA) | refine pbS ?_ (by omega))⟩
end Go.Proofs.YtjfhcijjjadhbaaDoor.P
end
section
namespace Go.Proofs.YtjfhcijjjadhbaaDoor.P
open Go.RowKit Go.Proofs.YtjfhcijjjadhbaaDoor.K Go.Proofs.YtjfhcijjjadhbaaDoorW.PrintWords Go.Proofs.YtjfhcijjjadhbaaDoorW.PrintLast Go.Proofs.YtjfhcijjjadhbaaDoorW.PrintMore
attribute [local go_sem ↓] Go.wp_at_zero Go.wp_at_succ
theorem six {w : World} {g : Nat} {t : TypeId} {v0 v1 v2 v3 v4 v5 : Value} (B : w.heap[g]? = some (.cells #[v0, v1, v2, v3, v4, v5] t (0, 0))) : w.cell? ⟨g, 0, none⟩ = some v0 ∧ w.cell? ⟨g, 1, none⟩ = some v1 ∧ w.cell? ⟨g, 2, none⟩ = some v2 ∧ w.cell? ⟨g, 3, none⟩ = some v3 ∧ w.cell? ⟨g, 4, none⟩ = some v4 ∧ w.cell? ⟨g, 5, none⟩ = some v5 ∧ w.frozen? ⟨g, 0, none⟩ = false ∧ w.frozen? ⟨g, 1, none⟩ = false ∧ w.frozen? ⟨g, 2, none⟩ = false ∧ w.frozen? ⟨g, 3, none⟩ = false ∧ w.frozen? ⟨g, 4, none⟩ = false ∧ w.frozen? ⟨g, 5, none⟩ = false ∧ g < w.heap.size :=
 ⟨bkC B 0, bkC B 1, bkC B 2, bkC B 3, bkC B 4, bkC B 5, bkF B 0, bkF B 1, bkF B 2, bkF B 3, bkF B 4, bkF B 5, blk_lt B⟩
def Z6 : Array Value := #[.int .i64 0, .string ⟨#[]⟩, .string ⟨#[]⟩, .int .i64 0, .slice none 0 0, .int .i64 0]
theorem put6 {w1 : World} {B : Nat} {t : TypeId} {v0 v1 v2 v3 v4 v5 : Value} (BL : w1.heap[B]? = some (.cells #[.int .i64 0, .string ⟨#[]⟩, .string ⟨#[]⟩, .int .i64 0, .slice none 0 0, .int .i64 0] t (0, 0))) : ((((((w1.setCell ⟨B, 0, none⟩ v0).setCell ⟨B, 1, none⟩ v1).setCell ⟨B, 2, none⟩ v2).setCell ⟨B, 3, none⟩ v3).setCell ⟨B, 4, none⟩ v4).setCell ⟨B, 5, none⟩ v5).heap[B]? = some (.cells #[v0, v1, v2, v3, v4, v5] t (0, 0)) := by
 refine blk_put (cs := #[v0, v1, v2, v3, v4, .int .i64 0]) ?_ 5 _ rfl
 refine blk_put (cs := #[v0, v1, v2, v3, .slice none 0 0, .int .i64 0]) ?_ 4 _ rfl
 refine blk_put (cs := #[v0, v1, v2, .int .i64 0, .slice none 0 0, .int .i64 0]) ?_ 3 _ rfl
 refine blk_put (cs := #[v0, v1, .string ⟨#[]⟩, .int .i64 0, .slice none 0 0, .int .i64 0]) ?_ 2 _ rfl
 refine blk_put (cs := #[v0, .string ⟨#[]⟩, .string ⟨#[]⟩, .int .i64 0, .slice none 0 0, .int .i64 0]) ?_ 1 _ rfl
 exact blk_put (cs := #[.int .i64 0, .string ⟨#[]⟩, .string ⟨#[]⟩, .int .i64 0, .slice none 0 0, .int .i64 0]) BL 0 _ rfl
theorem far6 {w1 : World} {B g : Nat} {t : TypeId} {cs : Array Value} {v0 v1 v2 v3 v4 v5 : Value} (BL : w1.heap[B]? = some (.cells cs t (0, 0))) (h : B ≠ g) : ((((((w1.setCell ⟨g, 0, none⟩ v0).setCell ⟨g, 1, none⟩ v1).setCell ⟨g, 2, none⟩ v2).setCell ⟨g, 3, none⟩ v3).setCell ⟨g, 4, none⟩ v4).setCell ⟨g, 5, none⟩ v5).heap[B]? = some (.cells cs t (0, 0)) :=
 blk_far (blk_far (blk_far (blk_far (blk_far (blk_far BL h _) h _) h _) h _) h _) h _
theorem below6 {w w1 : World} {g : Nat} {v0 v1 v2 v3 v4 v5 : Value} (h : Below w.heap.size w w1) (hg : w.heap.size ≤ g) : Below w.heap.size w ((((((w1.setCell ⟨g, 0, none⟩ v0).setCell ⟨g, 1, none⟩ v1).setCell ⟨g, 2, none⟩ v2).setCell ⟨g, 3, none⟩ v3).setCell ⟨g, 4, none⟩ v4).setCell ⟨g, 5, none⟩ v5) :=
 pbS (pbS (pbS (pbS (pbS (pbS h hg) hg) hg) hg) hg) hg
/-- What both results in memory give at the return. -/
theorem split_ret {tmps : Array Value} {w w1 : World} {u0 u1 u2 u3 u4 u5 v0 v1 v2 v3 v4 v5 : Value} (b1 b2 : Nat) (h6 : tmps.getD 6 undef = .pointer (some ⟨b1, 0, none⟩)) (h7 : tmps.getD 7 undef = .pointer (some ⟨b2, 0, none⟩)) (hne : b2 ≠ b1)
 (B1 : w1.heap[b1]? = some (.cells #[.int .i64 0, .string ⟨#[]⟩, .string ⟨#[]⟩, .int .i64 0, .slice none 0 0, .int .i64 0] 26 (0, 0))) (B2 : w1.heap[b2]? = some (.cells #[.int .i64 0, .string ⟨#[]⟩, .string ⟨#[]⟩, .int .i64 0, .slice none 0 0, .int .i64 0] 26 (0, 0)))
 (hw : ((((((((((((w1.setCell ⟨b1, 0, none⟩ u0).setCell ⟨b1, 1, none⟩ u1).setCell ⟨b1, 2, none⟩ u2).setCell ⟨b1, 3, none⟩ u3).setCell ⟨b1, 4, none⟩ u4).setCell ⟨b1, 5, none⟩ u5).setCell ⟨b2, 0, none⟩ v0).setCell ⟨b2, 1, none⟩ v1).setCell ⟨b2, 2, none⟩ v2).setCell ⟨b2, 3, none⟩ v3).setCell ⟨b2, 4, none⟩ v4).setCell ⟨b2, 5, none⟩ v5).drew = w) :
 (results Tryd.f11 tmps).run Tryd.prog w = .ok (.tuple #[.agg #[u0, u1, u2, u3, u4, u5], .agg #[v0, v1, v2, v3, v4, v5], tmps.getD 8 undef]) w := by
 subst hw
 exact results_list (rs := [.cell 6 26, .cell 7 26, .tmp 8]) rfl (by simp) (.cell b1 26 #[u0, u1, u2, u3, u4, u5] (0, 0) _ h6 (bkD (far6 (put6 B1) hne.symm)) Tryd.underlying26 rfl (by kernel_rfl) (.cell b2 26 #[v0, v1, v2, v3, v4, v5] (0, 0) _ h7 (bkD (put6 (far6 B2 hne))) Tryd.underlying26 rfl (by kernel_rfl) (.tmp .nil)))
theorem R_far6 {α : Type} {d : Kd α} {e : Nat} {w1 : World} {base : Nat} {ok : Nat → Prop} {v : Value} {xs : List α} {g : Nat} {v0 v1 v2 v3 v4 v5 : Value} (h : d.R e w1 base ok v xs) (hg : ∀ k, ok k → k ≠ g) : d.R e ((((((w1.setCell ⟨g, 0, none⟩ v0).setCell ⟨g, 1, none⟩ v1).setCell ⟨g, 2, none⟩ v2).setCell ⟨g, 3, none⟩ v3).setCell ⟨g, 4, none⟩ v4).setCell ⟨g, 5, none⟩ v5) base ok v xs :=
 Kd.R_far (Kd.R_far (Kd.R_far (Kd.R_far (Kd.R_far (Kd.R_far h hg _) hg _) hg _) hg _) hg _) hg _
theorem split_res {tmps : Array Value} {w : World} {u0 u1 u2 u3 u4 u5 v0 v1 v2 v3 v4 v5 : Value} (b1 b2 : Nat) (h6 : tmps.getD 6 undef = .pointer (some ⟨b1, 0, none⟩)) (h7 : tmps.getD 7 undef = .pointer (some ⟨b2, 0, none⟩))
 (B1 : w.heap[b1]? = some (.cells #[u0, u1, u2, u3, u4, u5] 26 (0, 0))) (B2 : w.heap[b2]? = some (.cells #[v0, v1, v2, v3, v4, v5] 26 (0, 0))) :
 (results Tryd.f11 tmps).run Tryd.prog w = .ok (.tuple #[.agg #[u0, u1, u2, u3, u4, u5], .agg #[v0, v1, v2, v3, v4, v5], tmps.getD 8 undef]) w :=
 results_list (rs := [.cell 6 26, .cell 7 26, .tmp 8]) rfl (by simp) (.cell b1 26 #[u0, u1, u2, u3, u4, u5] (0, 0) _ h6 B1 Tryd.underlying26 rfl (by kernel_rfl) (.cell b2 26 #[v0, v1, v2, v3, v4, v5] (0, 0) _ h7 B2 Tryd.underlying26 rfl (by kernel_rfl) (.tmp .nil)))
def desc_Split.f (a0_0 : Int) (a0_1 a0_2 : ByteArray) (a0_3 : Int) (l0_4 : List S60) (a0_5 : Int) (a1 : ByteArray) (a2 : Int) : Option (Int × ByteArray × ByteArray × Int × List S60 × Int × Int × ByteArray × ByteArray × Int × List S60 × Int × Int) :=
 (desc_Check.f a0_0 a0_1 a0_2 a0_3 l0_4 a0_5).bind fun c => if c = 0 then
  if cutOk a0_1 a0_2 a1 = true then
   if a2 ≤ a0_0 then some (0, ⟨#[]⟩, ⟨#[]⟩, 0, [], 0, 0, ⟨#[]⟩, ⟨#[]⟩, 0, [], 0, 2)
   else (api_Member_33.f l0_4).bind fun _ => (desc_Check.f a0_0 a0_1 a1 (wrap64 (a0_3 + 1)) l0_4 a0_5).bind fun c1 => if c1 = 0 then
    (desc_Check.f a2 a1 a0_2 (wrap64 (a0_3 + 1)) l0_4 a0_5).bind fun c2 => if c2 = 0 then some (a0_0, a0_1, a1, wrap64 (a0_3 + 1), l0_4, a0_5, a2, a1, a0_2, wrap64 (a0_3 + 1), l0_4, a0_5, 0)
    else some (0, ⟨#[]⟩, ⟨#[]⟩, 0, [], 0, 0, ⟨#[]⟩, ⟨#[]⟩, 0, [], 0, 60) else some (0, ⟨#[]⟩, ⟨#[]⟩, 0, [], 0, 0, ⟨#[]⟩, ⟨#[]⟩, 0, [], 0, 60)
  else some (0, ⟨#[]⟩, ⟨#[]⟩, 0, [], 0, 0, ⟨#[]⟩, ⟨#[]⟩, 0, [], 0, 20)
 else some (0, ⟨#[]⟩, ⟨#[]⟩, 0, [], 0, 0, ⟨#[]⟩, ⟨#[]⟩, 0, [], 0, c)
set_option maxHeartbeats 16000000 in
set_option maxRecDepth 100000 in
theorem desc_Split.calls (a0_0 : Int) (a0_1 : ByteArray) (a0_2 : ByteArray) (a0_3 : Int) (P0_4_ : Nat → Prop) (A0_4 : Option Addr) (c0_4 : Nat) (l0_4 : List (S60)) (a0_5 : Int) (a1 : ByteArray) (a2 : Int) (r1 : Int) (r2 : ByteArray) (r3 : ByteArray) (r4 : Int) (r5 : List (S60)) (r6 : Int) (r7 : Int) (r8 : ByteArray) (r9 : ByteArray) (r10 : Int) (r11 : List (S60)) (r12 : Int) (r13 : Int) (w : World) (hG : TheG w) (hs0_4 : Kd.V k60 60 w w.heap.size (fun k_ => P0_4_ k_) (.slice A0_4 l0_4.length c0_4) l0_4) (h : desc_Split.f a0_0 a0_1 a0_2 a0_3 l0_4 a0_5 a1 a2 = some (r1, r2, r3, r4, r5, r6, r7, r8, r9, r10, r11, r12, r13)) :
 Calls Tryd.prog 11 #[.agg #[.int .i64 a0_0, .string a0_1, .string a0_2, .int .i64 a0_3, .slice A0_4 l0_4.length c0_4, .int .i64 a0_5], .string a1, .int .i64 a2] w fun e w' => ∃ v4_ v10_ : Value, e = .returned (.tuple #[.agg #[.int .i64 r1, .string r2, .string r3, .int .i64 r4, v4_, .int .i64 r6], .agg #[.int .i64 r7, .string r8, .string r9, .int .i64 r10, v10_, .int .i64 r12], .int .i64 r13]) ∧ Kd.V k60 60 w' w.heap.size (fun k_ => (P0_4_ k_ ∨ w.heap.size ≤ k_) ∧ some k_ ≠ (v10_ : Value).ownBlock) v4_ r5 ∧ Kd.R k60 60 w' w.heap.size (fun k_ => (w.heap.size ≤ k_)) v10_ r11 ∧ Below w.heap.size w w' := by
 have hu26 := Tryd.underlying26
 have hu23 := Tryd.underlying23
 obtain ⟨hn, hcl, hF⟩ := Kd.V_at hs0_4
 clear hn
 have HF := Lib.hid (Kd.F_bound hF)
 have HC := Lib.hid (Kd.F_now hF)
 clear hF hs0_4
 unfold desc_Split.f at h
 have KK : ∀ (W : World) (p0 : Int) (p1 p2 : ByteArray) (p3 p5 c : Int), desc_Check.f p0 p1 p2 p3 l0_4 p5 = some c → Below w.heap.size w W → Hid (Calls Tryd.prog 22 #[.agg #[.int .i64 p0, .string p1, .string p2, .int .i64 p3, .slice A0_4 l0_4.length c0_4, .int .i64 p5]] W fun e w' => e = .returned (.int .i64 c) ∧ Below W.heap.size W w') := fun W p0 p1 p2 p3 p5 c hc hW => Lib.hid (desc_Check.calls p0 p1 p2 p3 A0_4 c0_4 l0_4 p5 c W (hG.below hW) (Kd.C_below HC.out hW) hcl hc)
 obtain ⟨c, hc, h⟩ := Option.bind_eq_some_iff.mp h
 have K0 := fun W hW => KK W _ _ _ _ _ _ hc hW
 clear hc
 by_cases c0 : c = 0
 ·subst c0
  rw [if_pos rfl] at h
  have HT : ∀ W, Below w.heap.size w W → Hid (Calls Tryd.prog 32 #[.agg #[.string a0_1, .string a0_2], .string a1] W fun e w' => e = .returned (.tuple (if cutOk a0_1 a0_2 a1 = true then #[.agg #[.string a0_1, .string a1], .agg #[.string a1, .string a0_2], .int .i64 0] else #[.agg #[.string ⟨#[]⟩, .string ⟨#[]⟩], .agg #[.string ⟨#[]⟩, .string ⟨#[]⟩], .int .i64 20])) ∧ Below W.heap.size W w') := by
   intro W hW
   refine Lib.hid ?_
   cases hk : cutOk a0_1 a0_2 a1
   ·exact bound_Cut.calls a0_1 a0_2 a1 _ _ _ _ _ W (hG.below hW) (by unfold bound_Cut.f; rw [hk]; rfl)
   ·exact bound_Cut.calls a0_1 a0_2 a1 _ _ _ _ _ W (hG.below hW) (by unfold bound_Cut.f; rw [hk]; rfl)
  cases hk : cutOk a0_1 a0_2 a1
  ·rw [hk, if_neg (by simp)] at h
   simp only [hk, if_neg (show ¬ (false = true) by simp)] at HT
   simp only [Option.some.injEq, Prod.mk.injEq] at h
   obtain ⟨rfl, rfl, rfl, rfl, rfl, rfl, rfl, rfl, rfl, rfl, rfl, rfl, rfl⟩ := h
   clear KK
   go_enter Tryd.func11, Tryd.ntmps11
   go_wp2_with (first | (go_at_call 22; refine (K0 _ (pbA (pbA (pbA (Below.refl _ _) _) _) _)).out.mono ?_; rintro e w1 ⟨rfl, hb⟩; have B0 := three_old hb () (); have B1 := three_mid2 hb () (); have B2 := three_new hb () (); obtain ⟨x0, x1, x2, x3, x4, x5, d0, d1, d2, d3, d4, d5, M0⟩ := six B0; obtain ⟨z0, z1, z2, z3, z4, z5, f0, f1, f2, f3, f4, f5, L0⟩ := six B1; obtain ⟨y0, y1, y2, y3, y4, y5, e0, e1, e2, e3, e4, e5, L1⟩ := six B2; have HB := pbT (pbA (pbA (pbA (Below.refl _ _) _) _) _) hb; clear hb) | (go_at_call 32; refine (HT _ HB).out.mono ?_; rintro e w2 ⟨rfl, hb⟩; clear x0 x1 x2 x3 x4 x5 d0 d1 d2 d3 d4 d5 M0 z0 z1 z2 z3 z4 z5 f0 f1 f2 f3 f4 f5 L0 y0 y1 y2 y3 y4 y5 e0 e1 e2 e3 e4 e5 L1; have B3 := bkB B0 hb; have B4 := bkB B1 hb; have B5 := bkB B2 hb; clear B0 B1 B2; obtain ⟨x0, x1, x2, x3, x4, x5, d0, d1, d2, d3, d4, d5, M0⟩ := six B3; obtain ⟨z0, z1, z2, z3, z4, z5, f0, f1, f2, f3, f4, f5, L0⟩ := six B4; obtain ⟨y0, y1, y2, y3, y4, y5, e0, e1, e2, e3, e4, e5, L1⟩ := six B5; have HB2 := pbT HB hb; clear hb HB) | go_in)
   go_region
   go_wp2
   refine bodyPost_ret (split_res (w.heap.size + 1) (w.heap.size + 1 + 1) rfl rfl (bkD (bkA (bkA (far6 (put6 B4) (by omega)) _) _)) (bkD (bkA (bkA (put6 (far6 B5 (by omega))) _) _))) rfl ?_
   exact ⟨_, _, rfl, Kd.V_nil _ _ _ _ _, Kd.R_nil _ _ _ _ _, pb1 (pbA (pbA (below6 (below6 HB2 (by omega)) (by omega)) _) _)⟩
  ·rw [hk, if_pos rfl] at h
   simp only [hk, if_true] at HT
   by_cases hid : a2 ≤ a0_0
   ·rw [if_pos hid] at h
    simp only [Option.some.injEq, Prod.mk.injEq] at h
    obtain ⟨rfl, rfl, rfl, rfl, rfl, rfl, rfl, rfl, rfl, rfl, rfl, rfl, rfl⟩ := h
    clear KK
    go_enter Tryd.func11, Tryd.ntmps11
    go_wp2_with (first | (go_at_call 22; refine (K0 _ (pbA (pbA (pbA (Below.refl _ _) _) _) _)).out.mono ?_; rintro e w1 ⟨rfl, hb⟩; have B0 := three_old hb () (); have B1 := three_mid2 hb () (); have B2 := three_new hb () (); obtain ⟨x0, x1, x2, x3, x4, x5, d0, d1, d2, d3, d4, d5, M0⟩ := six B0; obtain ⟨z0, z1, z2, z3, z4, z5, f0, f1, f2, f3, f4, f5, L0⟩ := six B1; obtain ⟨y0, y1, y2, y3, y4, y5, e0, e1, e2, e3, e4, e5, L1⟩ := six B2; have HB := pbT (pbA (pbA (pbA (Below.refl _ _) _) _) _) hb; clear hb) | (go_at_call 32; refine (HT _ HB).out.mono ?_; rintro e w2 ⟨rfl, hb⟩; clear x0 x1 x2 x3 x4 x5 d0 d1 d2 d3 d4 d5 M0 z0 z1 z2 z3 z4 z5 f0 f1 f2 f3 f4 f5 L0 y0 y1 y2 y3 y4 y5 e0 e1 e2 e3 e4 e5 L1; have B3 := bkB B0 hb; have B4 := bkB B1 hb; have B5 := bkB B2 hb; clear B0 B1 B2; obtain ⟨x0, x1, x2, x3, x4, x5, d0, d1, d2, d3, d4, d5, M0⟩ := six B3; obtain ⟨z0, z1, z2, z3, z4, z5, f0, f1, f2, f3, f4, f5, L0⟩ := six B4; obtain ⟨y0, y1, y2, y3, y4, y5, e0, e1, e2, e3, e4, e5, L1⟩ := six B5; have HB2 := pbT HB hb; clear hb HB) | go_in)
    go_region
    go_wp2
    refine bodyPost_ret (split_res (w.heap.size + 1) (w.heap.size + 1 + 1) rfl rfl (bkD (bkA (bkA (far6 (put6 B4) (by omega)) _) _)) (bkD (bkA (bkA (put6 (far6 B5 (by omega))) _) _))) rfl ?_
    exact ⟨_, _, rfl, Kd.V_nil _ _ _ _ _, Kd.R_nil _ _ _ _ _, pb1 (pbA (pbA (below6 (below6 HB2 (by omega)) (by omega)) _) _)⟩
   ·rw [if_neg hid] at h
    obtain ⟨m, hm, h⟩ := Option.bind_eq_some_iff.mp h
    have hml : l0_4.length < 8796093022208 := Classical.byContradiction fun hn => by unfold api_Member_33.f at hm; rw [if_neg hn] at hm; cases hm
    clear hm
    obtain ⟨c1, hc1, h⟩ := Option.bind_eq_some_iff.mp h
    have K1 := fun W hW => KK W _ _ _ _ _ _ hc1 hW
    clear hc1
    go_enter Tryd.func11, Tryd.ntmps11
    go_wp2_with (first | (go_at_call 22; refine (K0 _ (pbA (pbA (pbA (Below.refl _ _) _) _) _)).out.mono ?_; rintro e w1 ⟨rfl, hb⟩; have B0 := three_old hb () (); have B1 := three_mid2 hb () (); have B2 := three_new hb () (); obtain ⟨x0, x1, x2, x3, x4, x5, d0, d1, d2, d3, d4, d5, M0⟩ := six B0; obtain ⟨z0, z1, z2, z3, z4, z5, f0, f1, f2, f3, f4, f5, L0⟩ := six B1; obtain ⟨y0, y1, y2, y3, y4, y5, e0, e1, e2, e3, e4, e5, L1⟩ := six B2; have HB := pbT (pbA (pbA (pbA (Below.refl _ _) _) _) _) hb; clear hb) | (go_at_call 32; refine (HT _ HB).out.mono ?_; rintro e w2 ⟨rfl, hb⟩; clear x0 x1 x2 x3 x4 x5 d0 d1 d2 d3 d4 d5 M0 z0 z1 z2 z3 z4 z5 f0 f1 f2 f3 f4 f5 L0 y0 y1 y2 y3 y4 y5 e0 e1 e2 e3 e4 e5 L1; have B3 := bkB B0 hb; have B4 := bkB B1 hb; have B5 := bkB B2 hb; clear B0 B1 B2; obtain ⟨x0, x1, x2, x3, x4, x5, d0, d1, d2, d3, d4, d5, M0⟩ := six B3; obtain ⟨z0, z1, z2, z3, z4, z5, f0, f1, f2, f3, f4, f5, L0⟩ := six B4; obtain ⟨y0, y1, y2, y3, y4, y5, e0, e1, e2, e3, e4, e5, L1⟩ := six B5; have HB2 := pbT HB hb; clear hb HB) | go_in)
    clear K0 HT x0 x1 x2 x3 x4 x5 d0 d1 d2 d3 d4 d5 z0 z1 z2 z3 z4 z5 f0 f1 f2 f3 f4 f5 y0 y1 y2 y3 y4 y5 e0 e1 e2 e3 e4 e5
    obtain ⟨W, hW⟩ : ∃ W, W = ((w2.setCell ⟨w.heap.size, 3, none⟩ (.int .i64 (wrap64 (a0_3 + 1)))).alloc (.cells #[.string a0_1, .string a1] 23)).alloc (.cells #[.string a1, .string a0_2] 23) := ⟨_, rfl⟩
    have BW0 : W.heap[w.heap.size]? = some (.cells #[.int .i64 a0_0, .string a0_1, .string a0_2, .int .i64 (wrap64 (a0_3 + 1)), .slice A0_4 l0_4.length c0_4, .int .i64 a0_5] 26 (0, 0)) := by rw [hW]; exact bkA (bkA (blk_put B3 3 _ rfl) _) _
    have BW1 : W.heap[w.heap.size + 1]? = some (.cells #[.int .i64 0, .string ⟨#[]⟩, .string ⟨#[]⟩, .int .i64 0, .slice none 0 0, .int .i64 0] 26 (0, 0)) := by rw [hW]; exact bkA (bkA (blk_far B4 (by simp) _) _) _
    have BW2 : W.heap[w.heap.size + 2]? = some (.cells #[.int .i64 0, .string ⟨#[]⟩, .string ⟨#[]⟩, .int .i64 0, .slice none 0 0, .int .i64 0] 26 (0, 0)) := by rw [hW]; exact bkA (bkA (blk_far B5 (by simp) _) _) _
    have hsz : (w2.setCell ⟨w.heap.size, 3, none⟩ (.int .i64 (wrap64 (a0_3 + 1)))).heap.size = w2.heap.size := by simp
    have B9 : W.heap[w2.heap.size]? = some (.cells #[.string a0_1, .string a1] 23 (0, 0)) := by rw [hW, ← hsz]; exact bkA (heap_alloc_new _ _) _
    have B10 : W.heap[w2.heap.size + 1]? = some (.cells #[.string a1, .string a0_2] 23 (0, 0)) := by rw [hW, ← hsz, ← World.size_alloc (w2.setCell ⟨w.heap.size, 3, none⟩ (.int .i64 (wrap64 (a0_3 + 1)))) (.cells #[.string a0_1, .string a1] 23)]; exact heap_alloc_new _ _
    have HBW : Below w.heap.size w W := by rw [hW]; exact pbA (pbA (pbS HB2 (Nat.le_refl _)) _) _
    rw [← hW]
    clear hW HB2 B3 B4 B5 hsz
    refine start_ (n := 6) (S := fun w' => w'.cell? ⟨w.heap.size, 0, none⟩ = some (.int .i64 a0_0) ∧ w'.cell? ⟨w.heap.size, 1, none⟩ = some (.string a0_1) ∧ w'.cell? ⟨w.heap.size, 2, none⟩ = some (.string a0_2) ∧ w'.cell? ⟨w.heap.size, 3, none⟩ = some (.int .i64 (wrap64 (a0_3 + 1))) ∧ w'.cell? ⟨w.heap.size, 4, none⟩ = some (.slice A0_4 l0_4.length c0_4) ∧ w'.cell? ⟨w.heap.size, 5, none⟩ = some (.int .i64 a0_5)) (ds := []) #[false, false, false, false, false, false] (by kernel_rfl) rfl rfl ⟨(bkC BW0 0).trans rfl, (bkC BW0 1).trans rfl, (bkC BW0 2).trans rfl, (bkC BW0 3).trans rfl, (bkC BW0 4).trans rfl, (bkC BW0 5).trans rfl⟩ (fun hHeld => ?_)
    replace BW0 := bkD BW0
    replace BW1 := bkD BW1
    replace BW2 := bkD BW2
    replace B9 := bkD B9
    replace B10 := bkD B10
    replace HBW := pb1 HBW
    generalize W.drew = W1 at BW0 BW1 BW2 B9 B10 HBW hHeld ⊢
    clear W
    refine take_ (i := 0) (N := some 45) (v := ?_) (a' := ?_) #[true, false, false, false, false, false] rfl rfl (by kernel_rfl) (fun _ _ _ h => h) (Or.inl ⟨by rfl, ?_⟩) hHeld ?_ ?_
    rotate_left
    ·rintro w' ⟨s0, s1, s2, s3, s4, s5⟩
     go_simp
     with_reducible rfl
    rotate_left
    ·simp only [Act.put, List.setIfInBounds_toArray, List.set_cons_zero, List.set_cons_succ, i64_w, i32_w]
     rfl
    refine take_ (i := 1) (N := some 46) (v := ?_) (a' := ?_) #[true, true, false, false, false, false] rfl rfl (by kernel_rfl) (fun _ _ _ h => h) (Or.inl ⟨by rfl, ?_⟩) hHeld ?_ ?_
    rotate_left
    ·rintro w' ⟨s0, s1, s2, s3, s4, s5⟩
     go_simp
     with_reducible rfl
    rotate_left
    ·simp only [Act.put, List.setIfInBounds_toArray, List.set_cons_zero, List.set_cons_succ, i64_w, i32_w]
     rfl
    refine join_ (σ := Nat × Nat) 2 #[true, true, true, true, false, false] (fun s_ => [(11, .pointer (some ⟨s_.1, 0, none⟩)), (12, .pointer (some ⟨s_.2, 0, none⟩))]) (fun s_ w' => (w'.cell? ⟨w.heap.size, 0, none⟩ = some (.int .i64 a0_0) ∧ w'.cell? ⟨w.heap.size, 1, none⟩ = some (.string a0_1) ∧ w'.cell? ⟨w.heap.size, 2, none⟩ = some (.string a0_2) ∧ w'.cell? ⟨w.heap.size, 3, none⟩ = some (.int .i64 (wrap64 (a0_3 + 1))) ∧ w'.cell? ⟨w.heap.size, 4, none⟩ = some (.slice A0_4 l0_4.length c0_4) ∧ w'.cell? ⟨w.heap.size, 5, none⟩ = some (.int .i64 a0_5)) ∧ Below W1.heap.size W1 w' ∧ w'.heap[s_.1]? = some (.cells #[.int .i64 0, .string ⟨#[]⟩, .string ⟨#[]⟩, .int .i64 0, .slice none 0 0, .int .i64 0] 26 (0, 0)) ∧ w'.heap[s_.2]? = some (.cells #[.int .i64 0, .string ⟨#[]⟩, .string ⟨#[]⟩, .int .i64 0, .slice none 0 0, .int .i64 0] 26 (0, 0)) ∧ W1.heap.size ≤ s_.1 ∧ W1.heap.size ≤ s_.2 ∧ s_.1 ≠ s_.2) ?_ ?_
    rotate_left
    ·intro hCont
     refine two_ (i := 2) (j := 3) (Ni := some 11) (Nj := some 12) #[true, true, true, false, false, false] #[true, true, false, true, false, false] rfl rfl rfl rfl (by kernel_rfl) (by decide) (by decide) (fun K hK => ?_) (fun K hK => ?_)
     ·refine box_step ?hg (N := 11) ?hd (cs := #[.int .i64 0, .string ⟨#[]⟩, .string ⟨#[]⟩, .int .i64 0, .slice none 0 0, .int .i64 0]) (t := 26) ?hr ?_; (case hd => rfl); (case hg => rfl); (case hr => first | (go_simp; done) | (go_simp; rfl))
      intro g1 hg w3 hbox hb
      have BX := bkB (g := w.heap.size) (o := .cells #[.int .i64 a0_0, .string a0_1, .string a0_2, .int .i64 (wrap64 (a0_3 + 1)), .slice A0_4 l0_4.length c0_4, .int .i64 a0_5] 26 (0, 0)) (by (with_reducible repeat (first | refine bkN ?_ _ | refine bkD ?_ | refine bkA ?_ _)); exact BW0) hb
      have bw3 := hb
      refine hK.out _ _ ⟨(bkC BX 0).trans rfl, (bkC BX 1).trans rfl, (bkC BX 2).trans rfl, (bkC BX 3).trans rfl, (bkC BX 4).trans rfl, (bkC BX 5).trans rfl⟩ (fun hHeld => ?_)
      clear hK K
      refine norm_ (a' := ?_) ?_ ?_
      rotate_left
      ·show Act.put _ (some 11) _ = _
       simp only [Act.put, List.setIfInBounds_toArray, List.set_cons_zero, List.set_cons_succ, i64_w, i32_w]
       rfl
      refine one_ (i := 3) (N := some 12) #[true, true, true, true, false, false] rfl rfl (by kernel_rfl) (by decide) (fun K hK => ?_)
      refine box_step ?hg (N := 12) ?hd (cs := #[.int .i64 0, .string ⟨#[]⟩, .string ⟨#[]⟩, .int .i64 0, .slice none 0 0, .int .i64 0]) (t := 26) ?hr ?_; (case hd => rfl); (case hg => rfl); (case hr => first | (go_simp; done) | (go_simp; rfl))
      intro g2 hg2 w4 hbox2 hb2
      have BY := bkB (g := w.heap.size) (o := .cells #[.int .i64 a0_0, .string a0_1, .string a0_2, .int .i64 (wrap64 (a0_3 + 1)), .slice A0_4 l0_4.length c0_4, .int .i64 a0_5] 26 (0, 0)) (by (with_reducible repeat (first | refine bkN ?_ _ | refine bkD ?_ | refine bkA ?_ _)); exact BX) hb2
      have BZ := bkB (o := .cells #[.int .i64 0, .string ⟨#[]⟩, .string ⟨#[]⟩, .int .i64 0, .slice none 0 0, .int .i64 0] 26 (0, 0)) (g := g1) (by (with_reducible repeat (first | refine bkN ?_ _ | refine bkD ?_ | refine bkA ?_ _)); exact hbox) hb2
      refine hK.out _ _ ⟨(bkC BY 0).trans rfl, (bkC BY 1).trans rfl, (bkC BY 2).trans rfl, (bkC BY 3).trans rfl, (bkC BY 4).trans rfl, (bkC BY 5).trans rfl⟩ (fun hHeld => ?_)
      clear hK K
      refine norm_ (a' := ?_) ?_ ?_
      rotate_left
      ·show Act.put _ (some 12) _ = _
       simp only [Act.put, List.setIfInBounds_toArray, List.set_cons_zero, List.set_cons_succ, i64_w, i32_w]
       rfl
      have bA : Below W1.heap.size W1 w3 := pbT (by repeat (first | (with_reducible first | exact Below.refl _ _ | apply pbA | apply pbN | apply pb1) | exact Below.refl _ _)) bw3
      have bB : Below W1.heap.size W1 w4 := pbT (by repeat (first | (with_reducible first | exact bA | apply pbA | apply pbN | apply pb1) | exact bA)) hb2
      have l1 : W1.heap.size ≤ g1 := by rw [hg]; exact pbZ (by repeat (first | (with_reducible first | exact Below.refl _ _ | apply pbA | apply pbN | apply pb1) | exact Below.refl _ _))
      have l2 : W1.heap.size ≤ g2 := by rw [hg2]; exact pbZ (by repeat (first | (with_reducible first | exact bA | apply pbA | apply pbN | apply pb1) | exact bA))
      have hne : g1 ≠ g2 := by rw [hg2]; exact Nat.ne_of_lt (blk_lt (o := .cells #[.int .i64 0, .string ⟨#[]⟩, .string ⟨#[]⟩, .int .i64 0, .slice none 0 0, .int .i64 0] 26 (0, 0)) (by (with_reducible repeat (first | refine bkN ?_ _ | refine bkD ?_ | refine bkA ?_ _)); exact hbox))
      exact norm_ (by simp only [putAll, Act.put, List.setIfInBounds_toArray, List.set_cons_zero, List.set_cons_succ]) (hCont (g1, g2) _ ⟨hHeld, bB, BZ, hbox2, l1, l2, hne⟩)
     ·refine box_step ?hg (N := 12) ?hd (cs := #[.int .i64 0, .string ⟨#[]⟩, .string ⟨#[]⟩, .int .i64 0, .slice none 0 0, .int .i64 0]) (t := 26) ?hr ?_; (case hd => rfl); (case hg => rfl); (case hr => first | (go_simp; done) | (go_simp; rfl))
      intro g2 hg w3 hbox hb
      have BX := bkB (g := w.heap.size) (o := .cells #[.int .i64 a0_0, .string a0_1, .string a0_2, .int .i64 (wrap64 (a0_3 + 1)), .slice A0_4 l0_4.length c0_4, .int .i64 a0_5] 26 (0, 0)) (by (with_reducible repeat (first | refine bkN ?_ _ | refine bkD ?_ | refine bkA ?_ _)); exact BW0) hb
      have bw3 := hb
      refine hK.out _ _ ⟨(bkC BX 0).trans rfl, (bkC BX 1).trans rfl, (bkC BX 2).trans rfl, (bkC BX 3).trans rfl, (bkC BX 4).trans rfl, (bkC BX 5).trans rfl⟩ (fun hHeld => ?_)
      clear hK K
      refine norm_ (a' := ?_) ?_ ?_
      rotate_left
      ·show Act.put _ (some 12) _ = _
       simp only [Act.put, List.setIfInBounds_toArray, List.set_cons_zero, List.set_cons_succ, i64_w, i32_w]
       rfl
      refine one_ (i := 2) (N := some 11) #[true, true, true, true, false, false] rfl rfl (by kernel_rfl) (by decide) (fun K hK => ?_)
      refine box_step ?hg (N := 11) ?hd (cs := #[.int .i64 0, .string ⟨#[]⟩, .string ⟨#[]⟩, .int .i64 0, .slice none 0 0, .int .i64 0]) (t := 26) ?hr ?_; (case hd => rfl); (case hg => rfl); (case hr => first | (go_simp; done) | (go_simp; rfl))
      intro g1 hg2 w4 hbox2 hb2
      have BY := bkB (g := w.heap.size) (o := .cells #[.int .i64 a0_0, .string a0_1, .string a0_2, .int .i64 (wrap64 (a0_3 + 1)), .slice A0_4 l0_4.length c0_4, .int .i64 a0_5] 26 (0, 0)) (by (with_reducible repeat (first | refine bkN ?_ _ | refine bkD ?_ | refine bkA ?_ _)); exact BX) hb2
      have BZ := bkB (o := .cells #[.int .i64 0, .string ⟨#[]⟩, .string ⟨#[]⟩, .int .i64 0, .slice none 0 0, .int .i64 0] 26 (0, 0)) (g := g2) (by (with_reducible repeat (first | refine bkN ?_ _ | refine bkD ?_ | refine bkA ?_ _)); exact hbox) hb2
      refine hK.out _ _ ⟨(bkC BY 0).trans rfl, (bkC BY 1).trans rfl, (bkC BY 2).trans rfl, (bkC BY 3).trans rfl, (bkC BY 4).trans rfl, (bkC BY 5).trans rfl⟩ (fun hHeld => ?_)
      clear hK K
      refine norm_ (a' := ?_) ?_ ?_
      rotate_left
      ·show Act.put _ (some 11) _ = _
       simp only [Act.put, List.setIfInBounds_toArray, List.set_cons_zero, List.set_cons_succ, i64_w, i32_w]
       rfl
      have bA : Below W1.heap.size W1 w3 := pbT (by repeat (first | (with_reducible first | exact Below.refl _ _ | apply pbA | apply pbN | apply pb1) | exact Below.refl _ _)) bw3
      have bB : Below W1.heap.size W1 w4 := pbT (by repeat (first | (with_reducible first | exact bA | apply pbA | apply pbN | apply pb1) | exact bA)) hb2
      have l1 : W1.heap.size ≤ g2 := by rw [hg]; exact pbZ (by repeat (first | (with_reducible first | exact Below.refl _ _ | apply pbA | apply pbN | apply pb1) | exact Below.refl _ _))
      have l2 : W1.heap.size ≤ g1 := by rw [hg2]; exact pbZ (by repeat (first | (with_reducible first | exact bA | apply pbA | apply pbN | apply pb1) | exact bA))
      have hne : g2 ≠ g1 := by rw [hg2]; exact Nat.ne_of_lt (blk_lt (o := .cells #[.int .i64 0, .string ⟨#[]⟩, .string ⟨#[]⟩, .int .i64 0, .slice none 0 0, .int .i64 0] 26 (0, 0)) (by (with_reducible repeat (first | refine bkN ?_ _ | refine bkD ?_ | refine bkA ?_ _)); exact hbox))
      exact norm_ (by simp only [putAll, Act.put, List.setIfInBounds_toArray, List.set_cons_zero, List.set_cons_succ]) (hCont (g1, g2) _ ⟨hHeld, bB, hbox2, BZ, l2, l1, hne.symm⟩)
    have m0 := blk_lt BW0
    have m1 := blk_lt BW1
    have m2 := blk_lt BW2
    have m9 := blk_lt B9
    have m10 := blk_lt B10
    rintro ⟨g1, g2⟩ w4 ⟨hS, hb4, G1, G2, l1, l2, hne⟩
    have hHeld : w4.cell? ⟨w.heap.size, 0, none⟩ = some (.int .i64 a0_0) ∧ w4.cell? ⟨w.heap.size, 1, none⟩ = some (.string a0_1) ∧ w4.cell? ⟨w.heap.size, 2, none⟩ = some (.string a0_2) ∧ w4.cell? ⟨w.heap.size, 3, none⟩ = some (.int .i64 (wrap64 (a0_3 + 1))) ∧ w4.cell? ⟨w.heap.size, 4, none⟩ = some (.slice A0_4 l0_4.length c0_4) ∧ w4.cell? ⟨w.heap.size, 5, none⟩ = some (.int .i64 a0_5) := hS
    clear hS
    simp only at G1 G2 l1 l2 hne
    have HB4 : Below w.heap.size w w4 := pbT HBW hb4
    replace BW0 := bkB BW0 hb4
    replace BW1 := bkB BW1 hb4
    replace BW2 := bkB BW2 hb4
    replace B9 := bkB B9 hb4
    replace B10 := bkB B10 hb4
    have lw : w.heap.size ≤ W1.heap.size := pbZ HBW
    clear hb4 HBW
    refine norm_ (a' := ?_) ?_ ?_
    rotate_left
    ·simp only [putAll, Act.put, List.setIfInBounds_toArray, List.set_cons_zero, List.set_cons_succ]
     rfl
    refine one_ (i := 4) (N := none) #[true, true, true, true, true, false] rfl rfl (by kernel_rfl) (by decide) (fun K hK => ?_)
    obtain ⟨z0, z1, z2, z3, z4, z5, f0, f1, f2, f3, f4, f5, L0⟩ := six G1
    refine skip_ (w1 := ?_) (by rfl) rfl ?_ ?_
    rotate_left
    ·go_simp
     rfl
    clear z0 z1 z2 z3 z4 z5 f0 f1 f2 f3 f4 f5 L0
    have BX := far6 (g := g1) (v0 := .int .i64 a0_0) (v1 := .string a0_1) (v2 := .string a0_2) (v3 := .int .i64 (wrap64 (a0_3 + 1))) (v4 := .slice A0_4 l0_4.length c0_4) (v5 := .int .i64 a0_5) BW0 (by omega)
    have C1 := far6 (g := g1) (v0 := .int .i64 a0_0) (v1 := .string a0_1) (v2 := .string a0_2) (v3 := .int .i64 (wrap64 (a0_3 + 1))) (v4 := .slice A0_4 l0_4.length c0_4) (v5 := .int .i64 a0_5) BW1 (by omega)
    have C2 := far6 (g := g1) (v0 := .int .i64 a0_0) (v1 := .string a0_1) (v2 := .string a0_2) (v3 := .int .i64 (wrap64 (a0_3 + 1))) (v4 := .slice A0_4 l0_4.length c0_4) (v5 := .int .i64 a0_5) BW2 (by omega)
    have C9 := far6 (g := g1) (v0 := .int .i64 a0_0) (v1 := .string a0_1) (v2 := .string a0_2) (v3 := .int .i64 (wrap64 (a0_3 + 1))) (v4 := .slice A0_4 l0_4.length c0_4) (v5 := .int .i64 a0_5) B9 (by omega)
    have C10 := far6 (g := g1) (v0 := .int .i64 a0_0) (v1 := .string a0_1) (v2 := .string a0_2) (v3 := .int .i64 (wrap64 (a0_3 + 1))) (v4 := .slice A0_4 l0_4.length c0_4) (v5 := .int .i64 a0_5) B10 (by omega)
    have CG2 := far6 (g := g1) (v0 := .int .i64 a0_0) (v1 := .string a0_1) (v2 := .string a0_2) (v3 := .int .i64 (wrap64 (a0_3 + 1))) (v4 := .slice A0_4 l0_4.length c0_4) (v5 := .int .i64 a0_5) G2 (by omega)
    have CG1 := put6 (v0 := .int .i64 a0_0) (v1 := .string a0_1) (v2 := .string a0_2) (v3 := .int .i64 (wrap64 (a0_3 + 1))) (v4 := .slice A0_4 l0_4.length c0_4) (v5 := .int .i64 a0_5) G1
    have CB := below6 (v0 := .int .i64 a0_0) (v1 := .string a0_1) (v2 := .string a0_2) (v3 := .int .i64 (wrap64 (a0_3 + 1))) (v4 := .slice A0_4 l0_4.length c0_4) (v5 := .int .i64 a0_5) HB4 (Nat.le_trans lw l1)
    refine hK.out _ _ ⟨(bkC BX 0).trans rfl, (bkC BX 1).trans rfl, (bkC BX 2).trans rfl, (bkC BX 3).trans rfl, (bkC BX 4).trans rfl, (bkC BX 5).trans rfl⟩ (fun hHeld => ?_)
    clear hK K BW0 BW1 BW2 B9 B10 G1 G2 HB4 hHeld
    generalize ((((((w4.setCell ⟨g1, 0, none⟩ (.int .i64 a0_0)).setCell ⟨g1, 1, none⟩ (.string a0_1)).setCell ⟨g1, 2, none⟩ (.string a0_2)).setCell ⟨g1, 3, none⟩ (.int .i64 (wrap64 (a0_3 + 1)))).setCell ⟨g1, 4, none⟩ (.slice A0_4 l0_4.length c0_4)).setCell ⟨g1, 5, none⟩ (.int .i64 a0_5)) = w5 at BX C1 C2 C9 C10 CG1 CG2 CB ⊢
    have hHeld : w5.cell? ⟨w.heap.size, 0, none⟩ = some (.int .i64 a0_0) ∧ w5.cell? ⟨w.heap.size, 1, none⟩ = some (.string a0_1) ∧ w5.cell? ⟨w.heap.size, 2, none⟩ = some (.string a0_2) ∧ w5.cell? ⟨w.heap.size, 3, none⟩ = some (.int .i64 (wrap64 (a0_3 + 1))) ∧ w5.cell? ⟨w.heap.size, 4, none⟩ = some (.slice A0_4 l0_4.length c0_4) ∧ w5.cell? ⟨w.heap.size, 5, none⟩ = some (.int .i64 a0_5) := ⟨(bkC BX 0).trans rfl, (bkC BX 1).trans rfl, (bkC BX 2).trans rfl, (bkC BX 3).trans rfl, (bkC BX 4).trans rfl, (bkC BX 5).trans rfl⟩
    refine one_ (i := 5) (N := none) #[true, true, true, true, true, true] rfl rfl (by kernel_rfl) (by decide) (fun K hK => ?_)
    obtain ⟨z0, z1, z2, z3, z4, z5, f0, f1, f2, f3, f4, f5, L0⟩ := six CG2
    refine skip_ (w1 := ?_) (by rfl) rfl ?_ ?_
    rotate_left
    ·go_simp
     rfl
    clear z0 z1 z2 z3 z4 z5 f0 f1 f2 f3 f4 f5 L0
    have BY := far6 (g := g2) (v0 := .int .i64 a0_0) (v1 := .string a0_1) (v2 := .string a0_2) (v3 := .int .i64 (wrap64 (a0_3 + 1))) (v4 := .slice A0_4 l0_4.length c0_4) (v5 := .int .i64 a0_5) BX (by omega)
    have D1 := far6 (g := g2) (v0 := .int .i64 a0_0) (v1 := .string a0_1) (v2 := .string a0_2) (v3 := .int .i64 (wrap64 (a0_3 + 1))) (v4 := .slice A0_4 l0_4.length c0_4) (v5 := .int .i64 a0_5) C1 (by omega)
    have D2 := far6 (g := g2) (v0 := .int .i64 a0_0) (v1 := .string a0_1) (v2 := .string a0_2) (v3 := .int .i64 (wrap64 (a0_3 + 1))) (v4 := .slice A0_4 l0_4.length c0_4) (v5 := .int .i64 a0_5) C2 (by omega)
    have D9 := far6 (g := g2) (v0 := .int .i64 a0_0) (v1 := .string a0_1) (v2 := .string a0_2) (v3 := .int .i64 (wrap64 (a0_3 + 1))) (v4 := .slice A0_4 l0_4.length c0_4) (v5 := .int .i64 a0_5) C9 (by omega)
    have D10 := far6 (g := g2) (v0 := .int .i64 a0_0) (v1 := .string a0_1) (v2 := .string a0_2) (v3 := .int .i64 (wrap64 (a0_3 + 1))) (v4 := .slice A0_4 l0_4.length c0_4) (v5 := .int .i64 a0_5) C10 (by omega)
    have DG1 := far6 (g := g2) (v0 := .int .i64 a0_0) (v1 := .string a0_1) (v2 := .string a0_2) (v3 := .int .i64 (wrap64 (a0_3 + 1))) (v4 := .slice A0_4 l0_4.length c0_4) (v5 := .int .i64 a0_5) CG1 hne
    have DG2 := put6 (v0 := .int .i64 a0_0) (v1 := .string a0_1) (v2 := .string a0_2) (v3 := .int .i64 (wrap64 (a0_3 + 1))) (v4 := .slice A0_4 l0_4.length c0_4) (v5 := .int .i64 a0_5) CG2
    have DB := below6 (v0 := .int .i64 a0_0) (v1 := .string a0_1) (v2 := .string a0_2) (v3 := .int .i64 (wrap64 (a0_3 + 1))) (v4 := .slice A0_4 l0_4.length c0_4) (v5 := .int .i64 a0_5) CB (Nat.le_trans lw l2)
    refine hK.out _ _ ⟨(bkC BY 0).trans rfl, (bkC BY 1).trans rfl, (bkC BY 2).trans rfl, (bkC BY 3).trans rfl, (bkC BY 4).trans rfl, (bkC BY 5).trans rfl⟩ (fun hHeld => ?_)
    clear hK K BX C1 C2 C9 C10 CG1 CG2 CB hHeld
    generalize ((((((w5.setCell ⟨g2, 0, none⟩ (.int .i64 a0_0)).setCell ⟨g2, 1, none⟩ (.string a0_1)).setCell ⟨g2, 2, none⟩ (.string a0_2)).setCell ⟨g2, 3, none⟩ (.int .i64 (wrap64 (a0_3 + 1)))).setCell ⟨g2, 4, none⟩ (.slice A0_4 l0_4.length c0_4)).setCell ⟨g2, 5, none⟩ (.int .i64 a0_5)) = w6 at BY D1 D2 D9 D10 DG1 DG2 DB ⊢
    refine done_ (by kernel_rfl) ?_
    obtain ⟨z0, z1, z2, z3, z4, z5, f0, f1, f2, f3, f4, f5, L0⟩ := six DG1
    have q0 : w6.cell? ⟨w2.heap.size, 0, none⟩ = some (.string a0_1) := (bkC D9 0).trans rfl
    have q1 : w6.cell? ⟨w2.heap.size, 1, none⟩ = some (.string a1) := (bkC D9 1).trans rfl
    try go_wp2
    clear z0 z1 z2 z3 z4 z5 f0 f1 f2 f3 f4 f5 q0 q1
    replace BY := blk_far (blk_far BY (p := ⟨g1, 1, none⟩) (by simp only; omega) (.string a0_1)) (p := ⟨g1, 2, none⟩) (by simp only; omega) (.string a1)
    replace D1 := blk_far (blk_far D1 (p := ⟨g1, 1, none⟩) (by simp only; omega) (.string a0_1)) (p := ⟨g1, 2, none⟩) (by simp only; omega) (.string a1)
    replace D2 := blk_far (blk_far D2 (p := ⟨g1, 1, none⟩) (by simp only; omega) (.string a0_1)) (p := ⟨g1, 2, none⟩) (by simp only; omega) (.string a1)
    replace D10 := blk_far (blk_far D10 (p := ⟨g1, 1, none⟩) (by simp only; omega) (.string a0_1)) (p := ⟨g1, 2, none⟩) (by simp only; omega) (.string a1)
    replace DG2 := blk_far (blk_far DG2 (p := ⟨g1, 1, none⟩) (by simp only; omega) (.string a0_1)) (p := ⟨g1, 2, none⟩) (by simp only; omega) (.string a1)
    have EG1 := blk_put (blk_put DG1 1 (.string a0_1) rfl) 2 (.string a1) rfl
    replace DB := pbS (j := 2) (v := .string a1) (pbS (j := 1) (v := .string a0_1) DB (Nat.le_trans lw l1)) (Nat.le_trans lw l1)
    simp only [List.setIfInBounds_toArray, List.set_cons_zero, List.set_cons_succ] at EG1
    clear DG1 D9
    generalize ((w6.setCell ⟨g1, 1, none⟩ (.string a0_1)).setCell ⟨g1, 2, none⟩ (.string a1)) = w7 at BY D1 D2 D10 DG2 EG1 DB ⊢
    obtain ⟨z0, z1, z2, z3, z4, z5, f0, f1, f2, f3, f4, f5, L0⟩ := six DG2
    have q0 : w7.cell? ⟨w2.heap.size + 1, 0, none⟩ = some (.string a1) := (bkC D10 0).trans rfl
    have q1 : w7.cell? ⟨w2.heap.size + 1, 1, none⟩ = some (.string a0_2) := (bkC D10 1).trans rfl
    go_region
    replace BY := bkD (blk_far (blk_far (blk_far BY (p := ⟨g2, 0, none⟩) (by simp only; omega) (.int .i64 a2)) (p := ⟨g2, 1, none⟩) (by simp only; omega) (.string a1)) (p := ⟨g2, 2, none⟩) (by simp only; omega) (.string a0_2))
    replace D1 := bkD (blk_far (blk_far (blk_far D1 (p := ⟨g2, 0, none⟩) (by simp only; omega) (.int .i64 a2)) (p := ⟨g2, 1, none⟩) (by simp only; omega) (.string a1)) (p := ⟨g2, 2, none⟩) (by simp only; omega) (.string a0_2))
    replace D2 := bkD (blk_far (blk_far (blk_far D2 (p := ⟨g2, 0, none⟩) (by simp only; omega) (.int .i64 a2)) (p := ⟨g2, 1, none⟩) (by simp only; omega) (.string a1)) (p := ⟨g2, 2, none⟩) (by simp only; omega) (.string a0_2))
    replace EG1 := bkD (blk_far (blk_far (blk_far EG1 (p := ⟨g2, 0, none⟩) (by simp only; omega) (.int .i64 a2)) (p := ⟨g2, 1, none⟩) (by simp only; omega) (.string a1)) (p := ⟨g2, 2, none⟩) (by simp only; omega) (.string a0_2))
    have EG2 := bkD (blk_put (blk_put (blk_put DG2 0 (.int .i64 a2) rfl) 1 (.string a1) rfl) 2 (.string a0_2) rfl)
    replace DB := pb1 (pbS (j := 2) (v := .string a0_2) (pbS (j := 1) (v := .string a1) (pbS (j := 0) (v := .int .i64 a2) DB (Nat.le_trans lw l2)) (Nat.le_trans lw l2)) (Nat.le_trans lw l2))
    simp only [List.setIfInBounds_toArray, List.set_cons_zero, List.set_cons_succ] at EG2
    clear DG2 D10 z0 z1 z2 z3 z4 z5 f0 f1 f2 f3 f4 f5 q0 q1 L0
    generalize ((((w7.setCell ⟨g2, 0, none⟩ (.int .i64 a2)).setCell ⟨g2, 1, none⟩ (.string a1)).setCell ⟨g2, 2, none⟩ (.string a0_2)).drew) = w8 at BY D1 D2 EG1 EG2 DB ⊢
    have HD := DB
    obtain ⟨z0, z1, z2, z3, z4, z5, f0, f1, f2, f3, f4, f5, L0⟩ := six EG2
    obtain ⟨x0, x1, x2, x3, x4, x5, d0, d1, d2, d3, d4, d5, M0⟩ := six BY
    have M1 := blk_lt D1
    have M2 := blk_lt D2
    by_cases c10 : c1 = 0
    ·subst c10
     rw [if_pos rfl] at h
     obtain ⟨c2, hc2, h⟩ := Option.bind_eq_some_iff.mp h
     by_cases c20 : c2 = 0
     ·subst c20
      rw [if_pos rfl] at h
      simp only [Option.some.injEq, Prod.mk.injEq] at h
      obtain ⟨rfl, rfl, rfl, rfl, rfl, rfl, rfl, rfl, rfl, rfl, rfl, rfl, rfl⟩ := h
      go_wp2_with (first | (go_at_call 33; refine (api_Member_33.calls A0_4 c0_4 l0_4 l0_4 _ (hG.below HD) (Kd.C_below HC.out HD) hcl (by unfold api_Member_33.f; rw [if_pos hml])).mono ?_; rintro e w9 ⟨vc, rfl, hR, hb⟩; obtain ⟨A3, c3, rfl⟩ := Kd.R_slice hR; have J1 := bkB D1 hb; have J2 := bkB D2 hb; have JG1 := bkB EG1 hb; have JG2 := bkB EG2 hb; have HE := pbT HD hb; clear x0 x1 x2 x3 x4 x5 d0 d1 d2 d3 d4 d5 M0 z0 z1 z2 z3 z4 z5 f0 f1 f2 f3 f4 f5; obtain ⟨z0, z1, z2, z3, z4, z5, f0, f1, f2, f3, f4, f5, _⟩ := six JG2; obtain ⟨p0, p1, p2, p3, p4, p5, _⟩ := six JG1; have J3 := blk_put JG2 4 (.slice A3 l0_4.length c3) rfl; simp only [List.setIfInBounds_toArray, List.set_cons_zero, List.set_cons_succ] at J3; have JF := blk_far JG1 (p := ⟨g2, 4, none⟩) (by simp only; omega) (.slice A3 l0_4.length c3); replace J1 := blk_far J1 (p := ⟨g2, 4, none⟩) (by simp only; omega) (.slice A3 l0_4.length c3); replace J2 := blk_far J2 (p := ⟨g2, 4, none⟩) (by simp only; omega) (.slice A3 l0_4.length c3); replace HE := pbS (j := 4) (v := .slice A3 l0_4.length c3) HE (Nat.le_trans lw l2); replace hR := Kd.R_far (Kd.R_mono (Kd.R_bound hR) (fun k hk => (⟨hk.2.1, hk.2.2.1⟩ : w8.heap.size ≤ k ∧ k < w9.heap.size))) (p := ⟨g2, 4, none⟩) (fun k hk => by simp only; omega) (.slice A3 l0_4.length c3); have lz := pbZ hb) | (go_at_call 22; (with_reducible refine (K1 _ HE).out.mono ?_); rintro e w10 ⟨rfl, hbc⟩; clear z0 z1 z2 z3 z4 z5 f0 f1 f2 f3 f4 f5 p0 p1 p2 p3 p4 p5; replace J1 := bkB J1 hbc; replace J2 := bkB J2 hbc; replace J3 := bkB J3 hbc; replace JF := bkB JF hbc; replace HE := pbT HE hbc; replace hR := Kd.R_below hR hbc; obtain ⟨z0, z1, z2, z3, z4, z5, f0, f1, f2, f3, f4, f5, _⟩ := six J3; obtain ⟨p0, p1, p2, p3, p4, p5, _⟩ := six JF; obtain ⟨x0, x1, x2, x3, x4, x5, d0, d1, d2, d3, d4, d5, N1⟩ := six J1; obtain ⟨y0, y1, y2, y3, y4, y5, e0, e1, e2, e3, e4, e5, N2⟩ := six J2) | (go_at_call 22; (with_reducible refine (desc_Check.calls a2 a1 a0_2 (wrap64 (a0_3 + 1)) A3 c3 l0_4 a0_5 _ _ (hG.below HE) (Kd.R_reads' hR).2.2 (Kd.R_reads' hR).2.1 hc2).mono ?_); rintro e w11 ⟨rfl, hbd⟩; clear z0 z1 z2 z3 z4 z5 f0 f1 f2 f3 f4 f5 p0 p1 p2 p3 p4 p5 x0 x1 x2 x3 x4 x5 d0 d1 d2 d3 d4 d5 y0 y1 y2 y3 y4 y5 e0 e1 e2 e3 e4 e5; replace J1 := bkB J1 hbd; replace J2 := bkB J2 hbd; replace J3 := bkB J3 hbd; replace JF := bkB JF hbd; replace HE := pbT HE hbd; replace hR := Kd.R_below hR hbd; obtain ⟨z0, z1, z2, z3, z4, z5, f0, f1, f2, f3, f4, f5, _⟩ := six J3; obtain ⟨p0, p1, p2, p3, p4, p5, _⟩ := six JF; obtain ⟨x0, x1, x2, x3, x4, x5, d0, d1, d2, d3, d4, d5, N1⟩ := six J1; obtain ⟨y0, y1, y2, y3, y4, y5, e0, e1, e2, e3, e4, e5, N2⟩ := six J2) | fail)
      go_region
      go_wp2
      refine bodyPost_ret (split_res (w.heap.size + 1) (w.heap.size + 1 + 1) rfl rfl (bkD (far6 (put6 J1) (by omega))) (bkD (put6 (far6 J2 (by omega))))) rfl ?_
      refine ⟨_, _, rfl, ?_, ?_, pb1 (below6 (below6 HE (by omega)) (by omega))⟩
      ·refine Kd.V_mk hcl (Kd.F_mono (Kd.F_below HF.out (pb1 (below6 (below6 HE (by omega)) (by omega)))) (fun k hk => ⟨.inl hk.1, ?_⟩))
       intro e
       have := (hR.1 k e.symm).1
       omega
      ·exact Kd.R_mono (Kd.R_lower (Kd.R_drew (R_far6 (R_far6 hR (fun k hk => by omega)) (fun k hk => by omega))) (Nat.le_trans (pbZ HD) (Nat.le_refl _))) (fun k hk => by omega)
     ·rw [if_neg c20] at h
      have q2 : (c2 != 0) = true := by simpa using c20
      simp only [Option.some.injEq, Prod.mk.injEq] at h
      obtain ⟨rfl, rfl, rfl, rfl, rfl, rfl, rfl, rfl, rfl, rfl, rfl, rfl, rfl⟩ := h
      go_wp2_with (first | (go_at_call 33; refine (api_Member_33.calls A0_4 c0_4 l0_4 l0_4 _ (hG.below HD) (Kd.C_below HC.out HD) hcl (by unfold api_Member_33.f; rw [if_pos hml])).mono ?_; rintro e w9 ⟨vc, rfl, hR, hb⟩; obtain ⟨A3, c3, rfl⟩ := Kd.R_slice hR; have J1 := bkB D1 hb; have J2 := bkB D2 hb; have JG1 := bkB EG1 hb; have JG2 := bkB EG2 hb; have HE := pbT HD hb; clear x0 x1 x2 x3 x4 x5 d0 d1 d2 d3 d4 d5 M0 z0 z1 z2 z3 z4 z5 f0 f1 f2 f3 f4 f5; obtain ⟨z0, z1, z2, z3, z4, z5, f0, f1, f2, f3, f4, f5, _⟩ := six JG2; obtain ⟨p0, p1, p2, p3, p4, p5, _⟩ := six JG1; have J3 := blk_put JG2 4 (.slice A3 l0_4.length c3) rfl; simp only [List.setIfInBounds_toArray, List.set_cons_zero, List.set_cons_succ] at J3; have JF := blk_far JG1 (p := ⟨g2, 4, none⟩) (by simp only; omega) (.slice A3 l0_4.length c3); replace J1 := blk_far J1 (p := ⟨g2, 4, none⟩) (by simp only; omega) (.slice A3 l0_4.length c3); replace J2 := blk_far J2 (p := ⟨g2, 4, none⟩) (by simp only; omega) (.slice A3 l0_4.length c3); replace HE := pbS (j := 4) (v := .slice A3 l0_4.length c3) HE (Nat.le_trans lw l2); replace hR := Kd.R_far (Kd.R_mono (Kd.R_bound hR) (fun k hk => (⟨hk.2.1, hk.2.2.1⟩ : w8.heap.size ≤ k ∧ k < w9.heap.size))) (p := ⟨g2, 4, none⟩) (fun k hk => by simp only; omega) (.slice A3 l0_4.length c3); have lz := pbZ hb) | (go_at_call 22; (with_reducible refine (K1 _ HE).out.mono ?_); rintro e w10 ⟨rfl, hbc⟩; clear z0 z1 z2 z3 z4 z5 f0 f1 f2 f3 f4 f5 p0 p1 p2 p3 p4 p5; replace J1 := bkB J1 hbc; replace J2 := bkB J2 hbc; replace J3 := bkB J3 hbc; replace JF := bkB JF hbc; replace HE := pbT HE hbc; replace hR := Kd.R_below hR hbc; obtain ⟨z0, z1, z2, z3, z4, z5, f0, f1, f2, f3, f4, f5, _⟩ := six J3; obtain ⟨p0, p1, p2, p3, p4, p5, _⟩ := six JF; obtain ⟨x0, x1, x2, x3, x4, x5, d0, d1, d2, d3, d4, d5, N1⟩ := six J1; obtain ⟨y0, y1, y2, y3, y4, y5, e0, e1, e2, e3, e4, e5, N2⟩ := six J2) | (go_at_call 22; (with_reducible refine (desc_Check.calls a2 a1 a0_2 (wrap64 (a0_3 + 1)) A3 c3 l0_4 a0_5 _ _ (hG.below HE) (Kd.R_reads' hR).2.2 (Kd.R_reads' hR).2.1 hc2).mono ?_); rintro e w11 ⟨rfl, hbd⟩; clear z0 z1 z2 z3 z4 z5 f0 f1 f2 f3 f4 f5 p0 p1 p2 p3 p4 p5 x0 x1 x2 x3 x4 x5 d0 d1 d2 d3 d4 d5 y0 y1 y2 y3 y4 y5 e0 e1 e2 e3 e4 e5; replace J1 := bkB J1 hbd; replace J2 := bkB J2 hbd; replace J3 := bkB J3 hbd; replace JF := bkB JF hbd; replace HE := pbT HE hbd; replace hR := Kd.R_below hR hbd; obtain ⟨z0, z1, z2, z3, z4, z5, f0, f1, f2, f3, f4, f5, _⟩ := six J3; obtain ⟨p0, p1, p2, p3, p4, p5, _⟩ := six JF; obtain ⟨x0, x1, x2, x3, x4, x5, d0, d1, d2, d3, d4, d5, N1⟩ := six J1; obtain ⟨y0, y1, y2, y3, y4, y5, e0, e1, e2, e3, e4, e5, N2⟩ := six J2) | fail)
      go_region
      go_wp2
      refine bodyPost_ret (split_res (w.heap.size + 1) (w.heap.size + 1 + 1) rfl rfl (bkD (far6 (put6 J1) (by omega))) (bkD (put6 (far6 J2 (by omega))))) rfl ?_
      exact ⟨_, _, rfl, Kd.V_nil _ _ _ _ _, Kd.R_nil _ _ _ _ _, pb1 (below6 (below6 HE (by omega)) (by omega))⟩
    ·rw [if_neg c10] at h
     have q1 : (c1 != 0) = true := by simpa using c10
     simp only [Option.some.injEq, Prod.mk.injEq] at h
     obtain ⟨rfl, rfl, rfl, rfl, rfl, rfl, rfl, rfl, rfl, rfl, rfl, rfl, rfl⟩ := h
     go_wp2_with (first | (go_at_call 33; refine (api_Member_33.calls A0_4 c0_4 l0_4 l0_4 _ (hG.below HD) (Kd.C_below HC.out HD) hcl (by unfold api_Member_33.f; rw [if_pos hml])).mono ?_; rintro e w9 ⟨vc, rfl, hR, hb⟩; obtain ⟨A3, c3, rfl⟩ := Kd.R_slice hR; have J1 := bkB D1 hb; have J2 := bkB D2 hb; have JG1 := bkB EG1 hb; have JG2 := bkB EG2 hb; have HE := pbT HD hb; clear x0 x1 x2 x3 x4 x5 d0 d1 d2 d3 d4 d5 M0 z0 z1 z2 z3 z4 z5 f0 f1 f2 f3 f4 f5; obtain ⟨z0, z1, z2, z3, z4, z5, f0, f1, f2, f3, f4, f5, _⟩ := six JG2; obtain ⟨p0, p1, p2, p3, p4, p5, _⟩ := six JG1; have J3 := blk_put JG2 4 (.slice A3 l0_4.length c3) rfl; simp only [List.setIfInBounds_toArray, List.set_cons_zero, List.set_cons_succ] at J3; have JF := blk_far JG1 (p := ⟨g2, 4, none⟩) (by simp only; omega) (.slice A3 l0_4.length c3); replace J1 := blk_far J1 (p := ⟨g2, 4, none⟩) (by simp only; omega) (.slice A3 l0_4.length c3); replace J2 := blk_far J2 (p := ⟨g2, 4, none⟩) (by simp only; omega) (.slice A3 l0_4.length c3); replace HE := pbS (j := 4) (v := .slice A3 l0_4.length c3) HE (Nat.le_trans lw l2); replace hR := Kd.R_far (Kd.R_mono (Kd.R_bound hR) (fun k hk => (⟨hk.2.1, hk.2.2.1⟩ : w8.heap.size ≤ k ∧ k < w9.heap.size))) (p := ⟨g2, 4, none⟩) (fun k hk => by simp only; omega) (.slice A3 l0_4.length c3); have lz := pbZ hb) | (go_at_call 22; (with_reducible refine (K1 _ HE).out.mono ?_); rintro e w10 ⟨rfl, hbc⟩; clear z0 z1 z2 z3 z4 z5 f0 f1 f2 f3 f4 f5 p0 p1 p2 p3 p4 p5; replace J1 := bkB J1 hbc; replace J2 := bkB J2 hbc; replace J3 := bkB J3 hbc; replace JF := bkB JF hbc; replace HE := pbT HE hbc; replace hR := Kd.R_below hR hbc; obtain ⟨z0, z1, z2, z3, z4, z5, f0, f1, f2, f3, f4, f5, _⟩ := six J3; obtain ⟨p0, p1, p2, p3, p4, p5, _⟩ := six JF; obtain ⟨x0, x1, x2, x3, x4, x5, d0, d1, d2, d3, d4, d5, N1⟩ := six J1; obtain ⟨y0, y1, y2, y3, y4, y5, e0, e1, e2, e3, e4, e5, N2⟩ := six J2) | fail)
     go_region
     go_wp2
     refine bodyPost_ret (split_res (w.heap.size + 1) (w.heap.size + 1 + 1) rfl rfl (bkD (far6 (put6 J1) (by omega))) (bkD (put6 (far6 J2 (by omega))))) rfl ?_
     exact ⟨_, _, rfl, Kd.V_nil _ _ _ _ _, Kd.R_nil _ _ _ _ _, pb1 (below6 (below6 HE (by omega)) (by omega))⟩
 ·rw [if_neg c0] at h
  simp only [Option.some.injEq, Prod.mk.injEq] at h
  obtain ⟨rfl, rfl, rfl, rfl, rfl, rfl, rfl, rfl, rfl, rfl, rfl, rfl, rfl⟩ := h
  have q : (c != 0) = true := by simpa using c0
  clear KK
  go_enter Tryd.func11, Tryd.ntmps11
  go_wp2_with (first | (go_at_call 22; refine (K0 _ (pbA (pbA (pbA (Below.refl _ _) _) _) _)).out.mono ?_; rintro e w1 ⟨rfl, hb⟩; have B0 := three_old hb () (); have B1 := three_mid2 hb () (); have B2 := three_new hb () (); obtain ⟨z0, z1, z2, z3, z4, z5, f0, f1, f2, f3, f4, f5, L0⟩ := six B1; obtain ⟨y0, y1, y2, y3, y4, y5, e0, e1, e2, e3, e4, e5, L1⟩ := six B2; have HB := pbT (pbA (pbA (pbA (Below.refl _ _) _) _) _) hb) | go_in)
  go_region
  go_wp2
  refine bodyPost_ret (split_ret (w.heap.size + 1) (w.heap.size + 1 + 1) rfl rfl (by omega) B1 B2 rfl) rfl ?_
  exact ⟨_, _, rfl, Kd.V_nil _ _ _ _ _, Kd.R_nil _ _ _ _ _, pb1 (below6 (below6 HB (by omega)) (by omega))⟩
end Go.Proofs.YtjfhcijjjadhbaaDoor.P
end
section
namespace Go.Proofs.YtjfhcijjjadhbaaDoor.P
open Go.RowKit Go.Proofs.YtjfhcijjjadhbaaDoor.K Go.Proofs.YtjfhcijjjadhbaaDoorW.PrintWords Go.Proofs.YtjfhcijjjadhbaaDoorW.PrintLast Go.Proofs.YtjfhcijjjadhbaaDoorW.PrintMore
attribute [local go_sem] max2_int min2_int max_two min_two max_three min_three max_four min_four   -- for this text's walks alone
def r02_Key.f (a0 : ByteArray) : Option (Bool) := if (a0.size : Int) ≥ 1 then (some (decide ((a0.size : Int) ≤ 32))) else (some false)
set_option maxHeartbeats 8000000 in
set_option maxRecDepth 100000 in
theorem r02_Key.calls (a0 : ByteArray) (r : Bool) (w : World) (hG : TheG w) (h : r02_Key.f a0 = some r) :
 Calls Tryd.prog 61 #[.string a0] w fun e w' => e = .returned (.bool r) ∧ Drawn0 w w' := by
 have H : (if (a0.size : Int) ≥ 1 then (some (decide ((a0.size : Int) ≤ 32))) else (some false)) = some r := h
 clear h
 by_cases c2 : (a0.size : Int) ≥ 1
 ·rw [if_pos c2] at H
  have c2b0 : decide (1 ≤ (a0.size : Int)) = true := decide_eq_true c2
  have c2b1 : decide (1 ≤ a0.size) = true := decide_eq_true (by omega)
  clear c2
  obtain rfl := Option.some.inj H
  go_enter Tryd.func61, Tryd.ntmps61
  go_wp2
  go_ret
  exact ⟨by first | rfl | (simp; done) | (simp [*]; done), by repeat (first | exact Drawn0.refl _ | apply Drawn0.step)⟩
 ·rw [if_neg c2] at H
  have c2b0 : decide (1 ≤ (a0.size : Int)) = false := decide_eq_false c2
  have c2b1 : decide (1 ≤ a0.size) = false := decide_eq_false (by omega)
  clear c2
  obtain rfl := Option.some.inj H
  go_enter Tryd.func61, Tryd.ntmps61
  go_wp2
  go_ret
  exact ⟨by first | rfl | (simp; done) | (simp [*]; done), by repeat (first | exact Drawn0.refl _ | apply Drawn0.step)⟩
def r02_Has.f (a0_0 : ByteArray) (a0_1 : ByteArray) (a1 : ByteArray) : Option (Bool) := if ((Op.bytesLess a1.toList a0_0.toList) = true) then (some false) else (if a0_1.toList = ([] : List UInt8) then (some true) else (some (Op.bytesLess a1.toList a0_1.toList)))
set_option maxHeartbeats 8000000 in
set_option maxRecDepth 100000 in
theorem r02_Has.calls (a0_0 : ByteArray) (a0_1 : ByteArray) (a1 : ByteArray) (r : Bool) (w : World) (hG : TheG w) (h : r02_Has.f a0_0 a0_1 a1 = some r) :
 Calls Tryd.prog 62 #[.agg #[.string a0_0, .string a0_1], .string a1] w fun e w' => e = .returned (.bool r) ∧ Below w.heap.size w w' := by
 have hu23 := Tryd.underlying23
 have HB := Az.mk (Below.refl w.heap.size w)
 have H : (if ((Op.bytesLess a1.toList a0_0.toList) = true) then (some false) else (if a0_1.toList = ([] : List UInt8) then (some true) else (some (Op.bytesLess a1.toList a0_1.toList)))) = some r := h
 clear h
 by_cases c3 : ((Op.bytesLess a1.toList a0_0.toList) = true)
 ·rw [if_pos c3] at H
  have c3b0 : (Op.bytesLess a1.toList a0_0.toList) = true := c3
  clear c3
  obtain rfl := Option.some.inj H
  go_enter Tryd.func62, Tryd.ntmps62
  go_wp2_with (first | ((with_reducible refine gate_dst (N := 2) rfl ?_); refine box_event ?hg (N := 2) ?hd (cs := #[.string a0_0, .string a0_1]) (t := 23) ?hr ?_; (case hd => rfl); (case hg => rfl); (case hr => first | (go_simp; done) | (go_simp; rfl)); intro gb353 hg w4 hbox hb; have BK353 := Az.mk (hbox); have GW353 := Az.mk (geO hg (pbE HB.out)); have GE353 := Az.mk (geO hg (pbE HB.out)); replace HB := Az.mk (pbT (by exact pbE HB.out) hb); clear hb hbox hg; have hcz5 := cells2 BK353.out))
  go_ret
  exact ⟨by first | rfl | (simp [errW_none, errW_some] <;> rfl) | (simp [*, errW_none, errW_some] <;> rfl), by exact pbE HB.out⟩
 ·rw [if_neg c3] at H
  have c3b0 : (Op.bytesLess a1.toList a0_0.toList) = false := by simpa using c3
  clear c3
  by_cases c6 : a0_1.toList = ([] : List UInt8)
  ·rw [if_pos c6] at H
   have c6b0 : (a0_1.toList == ([] : List UInt8)) = true := beq_iff_eq.mpr c6
   have c6b1 : (a0_1.toList != ([] : List UInt8)) = false := bne_eq_false_iff_eq.mpr c6
   clear c6
   obtain rfl := Option.some.inj H
   go_enter Tryd.func62, Tryd.ntmps62
   go_wp2_with (first | ((with_reducible refine gate_dst (N := 2) rfl ?_); refine box_event ?hg (N := 2) ?hd (cs := #[.string a0_0, .string a0_1]) (t := 23) ?hr ?_; (case hd => rfl); (case hg => rfl); (case hr => first | (go_simp; done) | (go_simp; rfl)); intro gb353 hg w7 hbox hb; have BK353 := Az.mk (hbox); have GW353 := Az.mk (geO hg (pbE HB.out)); have GE353 := Az.mk (geO hg (pbE HB.out)); replace HB := Az.mk (pbT (by exact pbE HB.out) hb); clear hb hbox hg; have hcz8 := cells2 BK353.out))
   go_ret
   exact ⟨by first | rfl | (simp [errW_none, errW_some] <;> rfl) | (simp [*, errW_none, errW_some] <;> rfl), by exact pbE HB.out⟩
  ·rw [if_neg c6] at H
   have c6b0 : (a0_1.toList == ([] : List UInt8)) = false := beq_eq_false_iff_ne.mpr c6
   have c6b1 : (a0_1.toList != ([] : List UInt8)) = true := bne_iff_ne.mpr c6
   obtain rfl := Option.some.inj H
   go_enter Tryd.func62, Tryd.ntmps62
   go_wp2_with (first | ((with_reducible refine gate_dst (N := 2) rfl ?_); refine box_event ?hg (N := 2) ?hd (cs := #[.string a0_0, .string a0_1]) (t := 23) ?hr ?_; (case hd => rfl); (case hg => rfl); (case hr => first | (go_simp; done) | (go_simp; rfl)); intro gb353 hg w9 hbox hb; have BK353 := Az.mk (hbox); have GW353 := Az.mk (geO hg (pbE HB.out)); have GE353 := Az.mk (geO hg (pbE HB.out)); replace HB := Az.mk (pbT (by exact pbE HB.out) hb); clear hb hbox hg; have hcz10 := cells2 BK353.out))
   go_ret
   exact ⟨by first | rfl | (simp [errW_none, errW_some] <;> rfl) | (simp [*, errW_none, errW_some] <;> rfl), by exact pbE HB.out⟩
def r02_Cut.f (a0_0 : ByteArray) (a0_1 : ByteArray) (a1 : ByteArray) : Option (ByteArray × ByteArray × ByteArray × ByteArray × Int) := (r02_Is.f a0_0 a0_1).bind fun t357 => (if t357 = true then ((r02_Key.f a1).bind fun t358 => (if t358 = true then ((r02_Has.f a0_0 a0_1 a1).bind fun t359 => (if t359 = true then (if a1.toList = a0_0.toList then (some ((⟨#[]⟩ : ByteArray), (⟨#[]⟩ : ByteArray), (⟨#[]⟩ : ByteArray), (⟨#[]⟩ : ByteArray), 20)) else (some (a0_0, a1, a1, a0_1, 0))) else (some ((⟨#[]⟩ : ByteArray), (⟨#[]⟩ : ByteArray), (⟨#[]⟩ : ByteArray), (⟨#[]⟩ : ByteArray), 20)))) else (some ((⟨#[]⟩ : ByteArray), (⟨#[]⟩ : ByteArray), (⟨#[]⟩ : ByteArray), (⟨#[]⟩ : ByteArray), 20)))) else (some ((⟨#[]⟩ : ByteArray), (⟨#[]⟩ : ByteArray), (⟨#[]⟩ : ByteArray), (⟨#[]⟩ : ByteArray), 20)))
def r02_Cut.T3 : Bool × List (List Nat × List Nat) := (true, [([], []), ([0], [0]), ([], []), ([1, 2], [1, 2]), ([], []), ([], []), ([5], [5]), ([4, 6], [4, 6]), ([3, 0, 1, 2, 3], [3]), ([7, 8, 0, 1, 2, 3, 4, 5, 6, 7, 8], [7]), ([9, 0, 1, 2, 3, 4, 5, 6, 7, 8, 9], [])])
def r02_Cut.B3 : List Nat := [0, 1, 0, 7, 0, 0, 32, 112, 15, 511, 1023]
theorem r02_Cut.tab3 : rtab .any (opsOf Tryd.f35 3) = r02_Cut.T3 := by kernel_rfl
theorem r02_Cut.bits3 : waitsOk r02_Cut.T3.2 r02_Cut.B3 = true := by kernel_rfl
set_option maxHeartbeats 8000000 in
set_option maxRecDepth 100000 in
theorem r02_Cut.calls (a0_0 : ByteArray) (a0_1 : ByteArray) (a1 : ByteArray) (r1 : ByteArray) (r2 : ByteArray) (r3 : ByteArray) (r4 : ByteArray) (r5 : Int) (w : World) (hG : TheG w) (h : r02_Cut.f a0_0 a0_1 a1 = some (r1, r2, r3, r4, r5)) :
 Calls Tryd.prog 35 #[.agg #[.string a0_0, .string a0_1], .string a1] w fun e w' => e = .returned (.tuple #[.agg #[.string r1, .string r2], .agg #[.string r3, .string r4], .int .i64 r5]) ∧ Below w.heap.size w w' := by
 have hu23 := Tryd.underlying23
 have HB := Az.mk (Below.refl w.heap.size w)
 have H : ((r02_Is.f a0_0 a0_1).bind fun t357 => (if t357 = true then ((r02_Key.f a1).bind fun t358 => (if t358 = true then ((r02_Has.f a0_0 a0_1 a1).bind fun t359 => (if t359 = true then (if a1.toList = a0_0.toList then (some ((⟨#[]⟩ : ByteArray), (⟨#[]⟩ : ByteArray), (⟨#[]⟩ : ByteArray), (⟨#[]⟩ : ByteArray), 20)) else (some (a0_0, a1, a1, a0_1, 0))) else (some ((⟨#[]⟩ : ByteArray), (⟨#[]⟩ : ByteArray), (⟨#[]⟩ : ByteArray), (⟨#[]⟩ : ByteArray), 20)))) else (some ((⟨#[]⟩ : ByteArray), (⟨#[]⟩ : ByteArray), (⟨#[]⟩ : ByteArray), (⟨#[]⟩ : ByteArray), 20)))) else (some ((⟨#[]⟩ : ByteArray), (⟨#[]⟩ : ByteArray), (⟨#[]⟩ : ByteArray), (⟨#[]⟩ : ByteArray), 20)))) = some (r1, r2, r3, r4, r5) := h
 clear h
 replace H := Option.bind_eq_some_iff.mp H
 obtain ⟨t357, A30, H⟩ := H
 try dsimp only at H
 have A3 := Az.mk A30
 clear A30
 by_cases c4 : t357 = true
 ·subst c4
  rw [if_pos rfl] at H
  replace H := Option.bind_eq_some_iff.mp H
  obtain ⟨t358, A50, H⟩ := H
  try dsimp only at H
  have A5 := Az.mk A50
  clear A50
  by_cases c6 : t358 = true
  ·subst c6
   rw [if_pos rfl] at H
   replace H := Option.bind_eq_some_iff.mp H
   obtain ⟨t359, A70, H⟩ := H
   try dsimp only at H
   have A7 := Az.mk A70
   clear A70
   by_cases c8 : t359 = true
   ·subst c8
    rw [if_pos rfl] at H
    by_cases c9 : a1.toList = a0_0.toList
    ·rw [if_pos c9] at H
     have c9b0 : (a1.toList == a0_0.toList) = true := beq_iff_eq.mpr c9
     have c9b1 : (a1.toList != a0_0.toList) = false := bne_eq_false_iff_eq.mpr c9
     clear c9
     simp only [Option.some.injEq, Prod.mk.injEq] at H
     obtain ⟨rfl, rfl, rfl, rfl, rfl⟩ := H
     go_enter Tryd.func35, Tryd.ntmps35
     go_wp2_with (first | ((with_reducible refine gate_dst (N := 2) rfl ?_); refine box_event ?hg (N := 2) ?hd (cs := #[.string a0_0, .string a0_1]) (t := 23) ?hr ?_; (case hd => rfl); (case hg => rfl); (case hr => first | (go_simp; done) | (go_simp; rfl)); intro gb354 hg w10 hbox hb; have BK354 := Az.mk (hbox); have GW354 := Az.mk (geO hg (pbE HB.out)); have GE354 := Az.mk (geO hg (pbE HB.out)); replace HB := Az.mk (pbT (by exact pbE HB.out) hb); clear hb hbox hg) | ((with_reducible refine gate_dst (N := 4) rfl ?_); refine box_event ?hg (N := 4) ?hd (cs := #[.string (⟨#[]⟩ : ByteArray), .string (⟨#[]⟩ : ByteArray)]) (t := 23) ?hr ?_; (case hd => rfl); (case hg => rfl); (case hr => first | (go_simp; done) | (go_simp; rfl)); intro gb355 hg w11 hbox hb; have BK355 := Az.mk (hbox); have GW355 := Az.mk (geO hg (pbE HB.out)); have GE355 := Az.mk (geO hg (pbE HB.out)); replace HB := Az.mk (pbT (by exact pbE HB.out) hb); have NB354_355 := Az.mk (neO hg (bk BK354.out)); have NB355_354 := Az.mk (neP hg (bk BK354.out)); replace BK354 := Az.mk (bkB (bk BK354.out) hb); clear hb hbox hg) | ((with_reducible refine gate_dst (N := 5) rfl ?_); refine box_event ?hg (N := 5) ?hd (cs := #[.string (⟨#[]⟩ : ByteArray), .string (⟨#[]⟩ : ByteArray)]) (t := 23) ?hr ?_; (case hd => rfl); (case hg => rfl); (case hr => first | (go_simp; done) | (go_simp; rfl)); intro gb356 hg w12 hbox hb; have BK356 := Az.mk (hbox); have GW356 := Az.mk (geO hg (pbE HB.out)); have GE356 := Az.mk (geO hg (pbE HB.out)); replace HB := Az.mk (pbT (by exact pbE HB.out) hb); have NB354_356 := Az.mk (neO hg (bk BK354.out)); have NB356_354 := Az.mk (neP hg (bk BK354.out)); replace BK354 := Az.mk (bkB (bk BK354.out) hb); have NB355_356 := Az.mk (neO hg (bk BK355.out)); have NB356_355 := Az.mk (neP hg (bk BK355.out)); replace BK355 := Az.mk (bkB (bk BK355.out) hb); clear hb hbox hg; have hnb13 := NB354_355.out; have hnc13 := NB355_354.out; have hnb14 := NB354_356.out; have hnc14 := NB356_354.out; have hcz15 := cells2 BK354.out) | ((with_reducible refine gtc (f := 60) rfl ?_); refine goesL_ (some 8) rfl rfl Tryd.func60 (by kernel_rfl) rfl #[.agg #[.string a0_0, .string a0_1]] rfl (by (try simp only [List.map_toArray, List.map_cons, List.map_nil]); first | done | rfl | (simp only [List.length_drop, List.length_take]; rfl)) ?_; (with_reducible refine (r02_Is.calls a0_0 a0_1 true _ ?side1 A3.out).mono ?_); (case side1 => exact hG.below (by exact pbE HB.out)); rintro e w16 ⟨rfl, hb⟩; refine ⟨_, rfl, ?_⟩; replace BK354 := Az.mk (bkB (bk BK354.out) hb); replace BK355 := Az.mk (bkB (bk BK355.out) hb); replace BK356 := Az.mk (bkB (bk BK356.out) hb); replace HB := Az.mk (pbT (by exact pbE HB.out) hb); (try clear hb); (try clear hb2); (try clear hk); (try clear hi)) | (go_at_call 61; (with_reducible refine (r02_Key.calls a1 true _ ?side1 A5.out).mono ?_); (case side1 => exact hG.below (by exact pbE HB.out)); rintro e w' ⟨rfl, ⟨nd, rfl⟩⟩; (try (rw [drewN_self w16]; generalize hq_ : World.drewN w16 _ = w16; have n0_ : Az (w16.heap[gb354]? = some (.cells #[.string a0_0, .string a0_1] 23 (0, 0))) := ⟨by rw [← hq_]; exact (bk BK354.out)⟩; have n1_ : Az (w16.heap[gb355]? = some (.cells #[.string (⟨#[]⟩ : ByteArray), .string (⟨#[]⟩ : ByteArray)] 23 (0, 0))) := ⟨by rw [← hq_]; exact (bk BK355.out)⟩; have n2_ : Az (w16.heap[gb356]? = some (.cells #[.string (⟨#[]⟩ : ByteArray), .string (⟨#[]⟩ : ByteArray)] 23 (0, 0))) := ⟨by rw [← hq_]; exact (bk BK356.out)⟩; have n3_ : Az (Below w.heap.size w w16) := ⟨by rw [← hq_]; exact (by exact pbE HB.out)⟩; clear BK354 BK355 BK356 HB hq_; have BK354 := n0_; have BK355 := n1_; have BK356 := n2_; have HB := n3_; clear n0_ n1_ n2_ n3_)); have hcz17 := cells2 BK354.out) | (go_at_call 62; (with_reducible refine (r02_Has.calls a0_0 a0_1 a1 true _ ?side1 A7.out).mono ?_); (case side1 => exact hG.below (by exact pbE HB.out)); rintro e w18 ⟨rfl, hb⟩; replace BK354 := Az.mk (bkB (bk BK354.out) hb); replace BK355 := Az.mk (bkB (bk BK355.out) hb); replace BK356 := Az.mk (bkB (bk BK356.out) hb); replace HB := Az.mk (pbT (by exact pbE HB.out) hb); (try clear hb); (try clear hb2); (try clear hk); (try clear hi); have hcz19 := cells2 BK354.out; have hnb20 := NB355_356.out; have hnc20 := NB356_355.out; have hcz21 := cells2 BK355.out; have hcz22 := cells2 BK356.out))
     refine bodyPost_ret (results_list (rs := [.cell 4 23, .cell 5 23, .tmp 6]) rfl (by simp) (.cell gb355 23 #[.string (⟨#[]⟩ : ByteArray), .string (⟨#[]⟩ : ByteArray)] (0, 0) _ rfl (by refine bk ?_; refine blk_far ?_ NB355_356.out _; refine bk ?_; refine blk_far ?_ NB355_356.out _; refine bk ?_; refine blk_put (cs := #[.string (⟨#[]⟩ : ByteArray), .string (⟨#[]⟩ : ByteArray)]) ?_ 1 _ rfl; refine bk ?_; refine blk_put (cs := #[.string (⟨#[]⟩ : ByteArray), .string (⟨#[]⟩ : ByteArray)]) ?_ 0 _ rfl; refine bk ?_; exact BK355.out) Tryd.underlying23 rfl (by kernel_rfl) (.cell gb356 23 #[.string (⟨#[]⟩ : ByteArray), .string (⟨#[]⟩ : ByteArray)] (0, 0) _ rfl (by refine bk ?_; refine blk_put (cs := #[.string (⟨#[]⟩ : ByteArray), .string (⟨#[]⟩ : ByteArray)]) ?_ 1 _ rfl; refine bk ?_; refine blk_put (cs := #[.string (⟨#[]⟩ : ByteArray), .string (⟨#[]⟩ : ByteArray)]) ?_ 0 _ rfl; exact bf BK356.out) Tryd.underlying23 rfl (by kernel_rfl) (.tmp .nil)))) rfl ?_
     exact ⟨by first | rfl | (simp [errW_none, errW_some] <;> rfl) | (simp [*, errW_none, errW_some] <;> rfl), by exact pbE HB.out⟩
    ·rw [if_neg c9] at H
     have c9b0 : (a1.toList == a0_0.toList) = false := beq_eq_false_iff_ne.mpr c9
     have c9b1 : (a1.toList != a0_0.toList) = true := bne_iff_ne.mpr c9
     simp only [Option.some.injEq, Prod.mk.injEq] at H
     obtain ⟨rfl, rfl, rfl, rfl, rfl⟩ := H
     go_enter Tryd.func35, Tryd.ntmps35
     try go_wp2_with (first | ((with_reducible refine gate_dst (N := 2) rfl ?_); refine box_event ?hg (N := 2) ?hd (cs := #[.string a0_0, .string a0_1]) (t := 23) ?hr ?_; (case hd => rfl); (case hg => rfl); (case hr => first | (go_simp; done) | (go_simp; rfl)); intro gb354 hg w23 hbox hb; have BK354 := Az.mk (hbox); have GW354 := Az.mk (geO hg (pbE HB.out)); have GE354 := Az.mk (geO hg (pbE HB.out)); replace HB := Az.mk (pbT (by exact pbE HB.out) hb); clear hb hbox hg) | ((with_reducible refine gate_dst (N := 4) rfl ?_); refine box_event ?hg (N := 4) ?hd (cs := #[.string (⟨#[]⟩ : ByteArray), .string (⟨#[]⟩ : ByteArray)]) (t := 23) ?hr ?_; (case hd => rfl); (case hg => rfl); (case hr => first | (go_simp; done) | (go_simp; rfl)); intro gb355 hg w24 hbox hb; have BK355 := Az.mk (hbox); have GW355 := Az.mk (geO hg (pbE HB.out)); have GE355 := Az.mk (geO hg (pbE HB.out)); replace HB := Az.mk (pbT (by exact pbE HB.out) hb); have NB354_355 := Az.mk (neO hg (bk BK354.out)); have NB355_354 := Az.mk (neP hg (bk BK354.out)); replace BK354 := Az.mk (bkB (bk BK354.out) hb); clear hb hbox hg) | ((with_reducible refine gate_dst (N := 5) rfl ?_); refine box_event ?hg (N := 5) ?hd (cs := #[.string (⟨#[]⟩ : ByteArray), .string (⟨#[]⟩ : ByteArray)]) (t := 23) ?hr ?_; (case hd => rfl); (case hg => rfl); (case hr => first | (go_simp; done) | (go_simp; rfl)); intro gb356 hg w25 hbox hb; have BK356 := Az.mk (hbox); have GW356 := Az.mk (geO hg (pbE HB.out)); have GE356 := Az.mk (geO hg (pbE HB.out)); replace HB := Az.mk (pbT (by exact pbE HB.out) hb); have NB354_356 := Az.mk (neO hg (bk BK354.out)); have NB356_354 := Az.mk (neP hg (bk BK354.out)); replace BK354 := Az.mk (bkB (bk BK354.out) hb); have NB355_356 := Az.mk (neO hg (bk BK355.out)); have NB356_355 := Az.mk (neP hg (bk BK355.out)); replace BK355 := Az.mk (bkB (bk BK355.out) hb); clear hb hbox hg; have hnb26 := NB354_355.out; have hnc26 := NB355_354.out; have hnb27 := NB354_356.out; have hnc27 := NB356_354.out; have hcz28 := cells2 BK354.out) | ((with_reducible refine gtc (f := 60) rfl ?_); refine goesL_ (some 8) rfl rfl Tryd.func60 (by kernel_rfl) rfl #[.agg #[.string a0_0, .string a0_1]] rfl (by (try simp only [List.map_toArray, List.map_cons, List.map_nil]); first | done | rfl | (simp only [List.length_drop, List.length_take]; rfl)) ?_; (with_reducible refine (r02_Is.calls a0_0 a0_1 true _ ?side1 A3.out).mono ?_); (case side1 => exact hG.below (by exact pbE HB.out)); rintro e w29 ⟨rfl, hb⟩; refine ⟨_, rfl, ?_⟩; replace BK354 := Az.mk (bkB (bk BK354.out) hb); replace BK355 := Az.mk (bkB (bk BK355.out) hb); replace BK356 := Az.mk (bkB (bk BK356.out) hb); replace HB := Az.mk (pbT (by exact pbE HB.out) hb); (try clear hb); (try clear hb2); (try clear hk); (try clear hi)) | (go_at_call 61; (with_reducible refine (r02_Key.calls a1 true _ ?side1 A5.out).mono ?_); (case side1 => exact hG.below (by exact pbE HB.out)); rintro e w' ⟨rfl, ⟨nd, rfl⟩⟩; (try (rw [drewN_self w29]; generalize hq_ : World.drewN w29 _ = w29; have n0_ : Az (w29.heap[gb354]? = some (.cells #[.string a0_0, .string a0_1] 23 (0, 0))) := ⟨by rw [← hq_]; exact (bk BK354.out)⟩; have n1_ : Az (w29.heap[gb355]? = some (.cells #[.string (⟨#[]⟩ : ByteArray), .string (⟨#[]⟩ : ByteArray)] 23 (0, 0))) := ⟨by rw [← hq_]; exact (bk BK355.out)⟩; have n2_ : Az (w29.heap[gb356]? = some (.cells #[.string (⟨#[]⟩ : ByteArray), .string (⟨#[]⟩ : ByteArray)] 23 (0, 0))) := ⟨by rw [← hq_]; exact (bk BK356.out)⟩; have n3_ : Az (Below w.heap.size w w29) := ⟨by rw [← hq_]; exact (by exact pbE HB.out)⟩; clear BK354 BK355 BK356 HB hq_; have BK354 := n0_; have BK355 := n1_; have BK356 := n2_; have HB := n3_; clear n0_ n1_ n2_ n3_)); have hcz30 := cells2 BK354.out) | (go_at_call 62; (with_reducible refine (r02_Has.calls a0_0 a0_1 a1 true _ ?side1 A7.out).mono ?_); (case side1 => exact hG.below (by exact pbE HB.out)); rintro e w31 ⟨rfl, hb⟩; replace BK354 := Az.mk (bkB (bk BK354.out) hb); replace BK355 := Az.mk (bkB (bk BK355.out) hb); replace BK356 := Az.mk (bkB (bk BK356.out) hb); replace HB := Az.mk (pbT (by exact pbE HB.out) hb); (try clear hb); (try clear hb2); (try clear hk); (try clear hi); have hcz32 := cells2 BK354.out))
     replace BK354 := Az.mk (bkD BK354.out)
     replace BK355 := Az.mk (bkD BK355.out)
     replace BK356 := Az.mk (bkD BK356.out)
     replace HB := Az.mk (pb1 HB.out)
     refine start_ (n := 11) (S := fun w' => w'.cell? ⟨gb354, 0, none⟩ = some (.string a0_0) ∧ w'.cell? ⟨gb354, 1, none⟩ = some (.string a0_1)) (ds := []) #[false, false, false, false, false, false, false, false, false, false, false] (by kernel_rfl) rfl rfl ⟨(bkC BK354.out 0).trans rfl, (bkC BK354.out 1).trans rfl⟩ (fun hHeld => ?_); refine with_tabW r02_Cut.tab3 r02_Cut.bits3 (fun HT_ HW_ => ?_)
     generalize w31.drew = w33 at BK354 BK355 BK356 HB hHeld ⊢
     refine pure_ (i := 0) (N := some 29) (v := ?_) (a' := ?_) #[true, false, false, false, false, false, false, false, false, false, false] rfl rfl (any_of HT_.out (by kernel_rfl)) (fun _ _ _ h => h) (Or.inl ⟨by rfl, ?_⟩) ?_ ?_
     rotate_left
     ·intro w'
      go_simp
      with_reducible rfl
     rotate_left
     ·simp only [Act.put, List.setIfInBounds_toArray, List.set_cons_zero, List.set_cons_succ, i64_w, i32_w]
      rfl
     refine pure_ (i := 2) (N := some 31) (v := ?_) (a' := ?_) #[true, false, true, false, false, false, false, false, false, false, false] rfl rfl (any_of HT_.out (by kernel_rfl)) (fun _ _ _ h => h) (Or.inl ⟨by rfl, ?_⟩) ?_ ?_
     rotate_left
     ·intro w'
      go_simp
      with_reducible rfl
     rotate_left
     ·simp only [Act.put, List.setIfInBounds_toArray, List.set_cons_zero, List.set_cons_succ, i64_w, i32_w]
      rfl
     refine pure_ (i := 4) (N := some 33) (v := ?_) (a' := ?_) #[true, false, true, false, true, false, false, false, false, false, false] rfl rfl (any_of HT_.out (by kernel_rfl)) (fun _ _ _ h => h) (Or.inl ⟨by rfl, ?_⟩) ?_ ?_
     rotate_left
     ·intro w'
      go_simp
      with_reducible rfl
     rotate_left
     ·simp only [Act.put, List.setIfInBounds_toArray, List.set_cons_zero, List.set_cons_succ, i64_w, i32_w]
      rfl
     refine pure_ (i := 5) (N := some 34) (v := ?_) (a' := ?_) #[true, false, true, false, true, true, false, false, false, false, false] rfl rfl (any_of HT_.out (by kernel_rfl)) (fun _ _ _ h => h) (Or.inl ⟨by rfl, ?_⟩) ?_ ?_
     rotate_left
     ·intro w'
      go_simp
      with_reducible rfl
     rotate_left
     ·simp only [Act.put, List.setIfInBounds_toArray, List.set_cons_zero, List.set_cons_succ, i64_w, i32_w]
      rfl
     refine take_ (i := 1) (N := some 30) (v := ?_) (a' := ?_) #[true, true, true, false, true, true, false, false, false, false, false] rfl rfl (take_ofW HT_.out HW_.out (by kernel_rfl)) (fun _ _ _ h => h) (Or.inl ⟨by rfl, ?_⟩) hHeld ?_ ?_
     rotate_left
     ·rintro w' ⟨s0, s1⟩
      go_simp
      with_reducible rfl
     rotate_left
     ·simp only [Act.put, List.setIfInBounds_toArray, List.set_cons_zero, List.set_cons_succ, i64_w, i32_w]
      rfl
     refine pure_ (i := 3) (N := some 32) (v := ?_) (a' := ?_) #[true, true, true, true, true, true, false, false, false, false, false] rfl rfl (any_of HT_.out (by kernel_rfl)) (fun _ _ _ h => h) (Or.inl ⟨by rfl, ?_⟩) ?_ ?_
     rotate_left
     ·intro w'
      go_simp
      with_reducible rfl
     rotate_left
     ·simp only [Act.put, List.setIfInBounds_toArray, List.set_cons_zero, List.set_cons_succ, i64_w, i32_w]
      rfl
     refine take_ (i := 6) (N := some 35) (v := ?_) (a' := ?_) #[true, true, true, true, true, true, true, false, false, false, false] rfl rfl (take_ofW HT_.out HW_.out (by kernel_rfl)) (fun _ _ _ h => h) (Or.inl ⟨by rfl, ?_⟩) hHeld ?_ ?_
     rotate_left
     ·rintro w' ⟨s0, s1⟩
      go_simp
      with_reducible rfl
     rotate_left
     ·simp only [Act.put, List.setIfInBounds_toArray, List.set_cons_zero, List.set_cons_succ, i64_w, i32_w]
      rfl
     refine pure_ (i := 7) (N := some 36) (v := ?_) (a' := ?_) #[true, true, true, true, true, true, true, true, false, false, false] rfl rfl (any_of HT_.out (by kernel_rfl)) (fun _ _ _ h => h) (Or.inl ⟨by rfl, ?_⟩) ?_ ?_
     rotate_left
     ·intro w'
      go_simp
      with_reducible rfl
     rotate_left
     ·simp only [Act.put, List.setIfInBounds_toArray, List.set_cons_zero, List.set_cons_succ, i64_w, i32_w]
      rfl
     refine one_ (i := 8) (N := none) #[true, true, true, true, true, true, true, true, true, false, false] rfl rfl (one_of HT_.out (by kernel_rfl)) (by decide) (fun K hK => ?_)
     have hs34 : w33.cell? ⟨gb355, 0, none⟩ = some (.string (⟨#[]⟩ : ByteArray)) := (bkC BK355.out 0).trans rfl
     have hfs34 := bkF BK355.out 0
     have hns34_0 := NB354_355.out
     have hns34_2 := NB356_355.out
     have hms34_0 := NB355_354.out
     have hms34_2 := NB355_356.out
     have hs35 : w33.cell? ⟨gb355, 1, none⟩ = some (.string (⟨#[]⟩ : ByteArray)) := (bkC BK355.out 1).trans rfl
     have hfs35 := bkF BK355.out 1
     have hns35_0 := NB354_355.out
     have hns35_2 := NB356_355.out
     have hms35_0 := NB355_354.out
     have hms35_2 := NB355_356.out
     refine skip_ (w1 := ?_) (by rfl) rfl ?_ ?_
     rotate_left
     ·go_simp
      rfl
     refine hK.out _ _ ⟨((cell_far (p := ⟨gb355, _, none⟩) NB354_355.out _).trans (((cell_far (p := ⟨gb355, _, none⟩) NB354_355.out _).trans (hHeld.1)))), ((cell_far (p := ⟨gb355, _, none⟩) NB354_355.out _).trans (((cell_far (p := ⟨gb355, _, none⟩) NB354_355.out _).trans (hHeld.2))))⟩ (fun hHeld => ?_)
     clear hK K
     refine one_ (i := 9) (N := none) #[true, true, true, true, true, true, true, true, true, true, false] rfl rfl (one_of HT_.out (by kernel_rfl)) (by decide) (fun K hK => ?_)
     have hs36 : w33.cell? ⟨gb356, 0, none⟩ = some (.string (⟨#[]⟩ : ByteArray)) := (bkC BK356.out 0).trans rfl
     have hfs36 := bkF BK356.out 0
     have hns36_0 := NB354_356.out
     have hns36_1 := NB355_356.out
     have hms36_0 := NB356_354.out
     have hms36_1 := NB356_355.out
     have hs37 : w33.cell? ⟨gb356, 1, none⟩ = some (.string (⟨#[]⟩ : ByteArray)) := (bkC BK356.out 1).trans rfl
     have hfs37 := bkF BK356.out 1
     have hns37_0 := NB354_356.out
     have hns37_1 := NB355_356.out
     have hms37_0 := NB356_354.out
     have hms37_1 := NB356_355.out
     refine skip_ (w1 := ?_) (by rfl) rfl ?_ ?_
     rotate_left
     ·go_simp
      rfl
     refine hK.out _ _ ⟨((cell_far (p := ⟨gb356, _, none⟩) NB354_356.out _).trans (((cell_far (p := ⟨gb356, _, none⟩) NB354_356.out _).trans (hHeld.1)))), ((cell_far (p := ⟨gb356, _, none⟩) NB354_356.out _).trans (((cell_far (p := ⟨gb356, _, none⟩) NB354_356.out _).trans (hHeld.2))))⟩ (fun hHeld => ?_)
     clear hK K
     refine pure_ (i := 10) (N := some 6) (v := ?_) (a' := ?_) #[true, true, true, true, true, true, true, true, true, true, true] rfl rfl (any_of HT_.out (by kernel_rfl)) (fun _ _ _ h => h) (Or.inl ⟨by rfl, ?_⟩) ?_ ?_
     rotate_left
     ·intro w'
      go_simp
      with_reducible rfl
     rotate_left
     ·simp only [Act.put, List.setIfInBounds_toArray, List.set_cons_zero, List.set_cons_succ, i64_w, i32_w]
      rfl
     refine done_ (done_of HT_.out (by kernel_rfl)) ?_
     try go_wp2
     refine bodyPost_ret (results_list (rs := [.cell 4 23, .cell 5 23, .tmp 6]) rfl (by simp) (.cell gb355 23 #[.string a0_0, .string a1] (0, 0) _ rfl (by refine bk ?_; refine blk_far ?_ NB355_356.out _; refine bk ?_; refine blk_far ?_ NB355_356.out _; refine bk ?_; refine blk_put (cs := #[.string a0_0, .string (⟨#[]⟩ : ByteArray)]) ?_ 1 _ rfl; refine bk ?_; refine blk_put (cs := #[.string (⟨#[]⟩ : ByteArray), .string (⟨#[]⟩ : ByteArray)]) ?_ 0 _ rfl; refine bk ?_; exact BK355.out) Tryd.underlying23 rfl (by kernel_rfl) (.cell gb356 23 #[.string a1, .string a0_1] (0, 0) _ rfl (by refine bk ?_; refine blk_put (cs := #[.string a1, .string (⟨#[]⟩ : ByteArray)]) ?_ 1 _ rfl; refine bk ?_; refine blk_put (cs := #[.string (⟨#[]⟩ : ByteArray), .string (⟨#[]⟩ : ByteArray)]) ?_ 0 _ rfl; exact bf BK356.out) Tryd.underlying23 rfl (by kernel_rfl) (.tmp .nil)))) rfl ?_
     exact ⟨by first | rfl | (simp [errW_none, errW_some] <;> rfl) | (simp [*, errW_none, errW_some] <;> rfl), by exact pbE HB.out⟩
   ·replace c8 := Bool.eq_false_iff.mpr c8
    subst c8
    rw [if_neg (show ¬ (false = true) by decide)] at H
    simp only [Option.some.injEq, Prod.mk.injEq] at H
    obtain ⟨rfl, rfl, rfl, rfl, rfl⟩ := H
    go_enter Tryd.func35, Tryd.ntmps35
    go_wp2_with (first | ((with_reducible refine gate_dst (N := 2) rfl ?_); refine box_event ?hg (N := 2) ?hd (cs := #[.string a0_0, .string a0_1]) (t := 23) ?hr ?_; (case hd => rfl); (case hg => rfl); (case hr => first | (go_simp; done) | (go_simp; rfl)); intro gb354 hg w38 hbox hb; have BK354 := Az.mk (hbox); have GW354 := Az.mk (geO hg (pbE HB.out)); have GE354 := Az.mk (geO hg (pbE HB.out)); replace HB := Az.mk (pbT (by exact pbE HB.out) hb); clear hb hbox hg) | ((with_reducible refine gate_dst (N := 4) rfl ?_); refine box_event ?hg (N := 4) ?hd (cs := #[.string (⟨#[]⟩ : ByteArray), .string (⟨#[]⟩ : ByteArray)]) (t := 23) ?hr ?_; (case hd => rfl); (case hg => rfl); (case hr => first | (go_simp; done) | (go_simp; rfl)); intro gb355 hg w39 hbox hb; have BK355 := Az.mk (hbox); have GW355 := Az.mk (geO hg (pbE HB.out)); have GE355 := Az.mk (geO hg (pbE HB.out)); replace HB := Az.mk (pbT (by exact pbE HB.out) hb); have NB354_355 := Az.mk (neO hg (bk BK354.out)); have NB355_354 := Az.mk (neP hg (bk BK354.out)); replace BK354 := Az.mk (bkB (bk BK354.out) hb); clear hb hbox hg) | ((with_reducible refine gate_dst (N := 5) rfl ?_); refine box_event ?hg (N := 5) ?hd (cs := #[.string (⟨#[]⟩ : ByteArray), .string (⟨#[]⟩ : ByteArray)]) (t := 23) ?hr ?_; (case hd => rfl); (case hg => rfl); (case hr => first | (go_simp; done) | (go_simp; rfl)); intro gb356 hg w40 hbox hb; have BK356 := Az.mk (hbox); have GW356 := Az.mk (geO hg (pbE HB.out)); have GE356 := Az.mk (geO hg (pbE HB.out)); replace HB := Az.mk (pbT (by exact pbE HB.out) hb); have NB354_356 := Az.mk (neO hg (bk BK354.out)); have NB356_354 := Az.mk (neP hg (bk BK354.out)); replace BK354 := Az.mk (bkB (bk BK354.out) hb); have NB355_356 := Az.mk (neO hg (bk BK355.out)); have NB356_355 := Az.mk (neP hg (bk BK355.out)); replace BK355 := Az.mk (bkB (bk BK355.out) hb); clear hb hbox hg; have hnb41 := NB354_355.out; have hnc41 := NB355_354.out; have hnb42 := NB354_356.out; have hnc42 := NB356_354.out; have hcz43 := cells2 BK354.out) | ((with_reducible refine gtc (f := 60) rfl ?_); refine goesL_ (some 8) rfl rfl Tryd.func60 (by kernel_rfl) rfl #[.agg #[.string a0_0, .string a0_1]] rfl (by (try simp only [List.map_toArray, List.map_cons, List.map_nil]); first | done | rfl | (simp only [List.length_drop, List.length_take]; rfl)) ?_; (with_reducible refine (r02_Is.calls a0_0 a0_1 true _ ?side1 A3.out).mono ?_); (case side1 => exact hG.below (by exact pbE HB.out)); rintro e w44 ⟨rfl, hb⟩; refine ⟨_, rfl, ?_⟩; replace BK354 := Az.mk (bkB (bk BK354.out) hb); replace BK355 := Az.mk (bkB (bk BK355.out) hb); replace BK356 := Az.mk (bkB (bk BK356.out) hb); replace HB := Az.mk (pbT (by exact pbE HB.out) hb); (try clear hb); (try clear hb2); (try clear hk); (try clear hi)) | (go_at_call 61; (with_reducible refine (r02_Key.calls a1 true _ ?side1 A5.out).mono ?_); (case side1 => exact hG.below (by exact pbE HB.out)); rintro e w' ⟨rfl, ⟨nd, rfl⟩⟩; (try (rw [drewN_self w44]; generalize hq_ : World.drewN w44 _ = w44; have n0_ : Az (w44.heap[gb354]? = some (.cells #[.string a0_0, .string a0_1] 23 (0, 0))) := ⟨by rw [← hq_]; exact (bk BK354.out)⟩; have n1_ : Az (w44.heap[gb355]? = some (.cells #[.string (⟨#[]⟩ : ByteArray), .string (⟨#[]⟩ : ByteArray)] 23 (0, 0))) := ⟨by rw [← hq_]; exact (bk BK355.out)⟩; have n2_ : Az (w44.heap[gb356]? = some (.cells #[.string (⟨#[]⟩ : ByteArray), .string (⟨#[]⟩ : ByteArray)] 23 (0, 0))) := ⟨by rw [← hq_]; exact (bk BK356.out)⟩; have n3_ : Az (Below w.heap.size w w44) := ⟨by rw [← hq_]; exact (by exact pbE HB.out)⟩; clear BK354 BK355 BK356 HB hq_; have BK354 := n0_; have BK355 := n1_; have BK356 := n2_; have HB := n3_; clear n0_ n1_ n2_ n3_)); have hcz45 := cells2 BK354.out) | (go_at_call 62; (with_reducible refine (r02_Has.calls a0_0 a0_1 a1 false _ ?side1 A7.out).mono ?_); (case side1 => exact hG.below (by exact pbE HB.out)); rintro e w46 ⟨rfl, hb⟩; replace BK354 := Az.mk (bkB (bk BK354.out) hb); replace BK355 := Az.mk (bkB (bk BK355.out) hb); replace BK356 := Az.mk (bkB (bk BK356.out) hb); replace HB := Az.mk (pbT (by exact pbE HB.out) hb); (try clear hb); (try clear hb2); (try clear hk); (try clear hi); have hnb47 := NB355_356.out; have hnc47 := NB356_355.out; have hcz48 := cells2 BK355.out; have hcz49 := cells2 BK356.out))
    refine bodyPost_ret (results_list (rs := [.cell 4 23, .cell 5 23, .tmp 6]) rfl (by simp) (.cell gb355 23 #[.string (⟨#[]⟩ : ByteArray), .string (⟨#[]⟩ : ByteArray)] (0, 0) _ rfl (by refine bk ?_; refine blk_far ?_ NB355_356.out _; refine bk ?_; refine blk_far ?_ NB355_356.out _; refine bk ?_; refine blk_put (cs := #[.string (⟨#[]⟩ : ByteArray), .string (⟨#[]⟩ : ByteArray)]) ?_ 1 _ rfl; refine bk ?_; refine blk_put (cs := #[.string (⟨#[]⟩ : ByteArray), .string (⟨#[]⟩ : ByteArray)]) ?_ 0 _ rfl; refine bk ?_; exact BK355.out) Tryd.underlying23 rfl (by kernel_rfl) (.cell gb356 23 #[.string (⟨#[]⟩ : ByteArray), .string (⟨#[]⟩ : ByteArray)] (0, 0) _ rfl (by refine bk ?_; refine blk_put (cs := #[.string (⟨#[]⟩ : ByteArray), .string (⟨#[]⟩ : ByteArray)]) ?_ 1 _ rfl; refine bk ?_; refine blk_put (cs := #[.string (⟨#[]⟩ : ByteArray), .string (⟨#[]⟩ : ByteArray)]) ?_ 0 _ rfl; exact bf BK356.out) Tryd.underlying23 rfl (by kernel_rfl) (.tmp .nil)))) rfl ?_
    exact ⟨by first | rfl | (simp [errW_none, errW_some] <;> rfl) | (simp [*, errW_none, errW_some] <;> rfl), by exact pbE HB.out⟩
  ·replace c6 := Bool.eq_false_iff.mpr c6
   subst c6
   rw [if_neg (show ¬ (false = true) by decide)] at H
   simp only [Option.some.injEq, Prod.mk.injEq] at H
   obtain ⟨rfl, rfl, rfl, rfl, rfl⟩ := H
   go_enter Tryd.func35, Tryd.ntmps35
   go_wp2_with (first | ((with_reducible refine gate_dst (N := 2) rfl ?_); refine box_event ?hg (N := 2) ?hd (cs := #[.string a0_0, .string a0_1]) (t := 23) ?hr ?_; (case hd => rfl); (case hg => rfl); (case hr => first | (go_simp; done) | (go_simp; rfl)); intro gb354 hg w50 hbox hb; have BK354 := Az.mk (hbox); have GW354 := Az.mk (geO hg (pbE HB.out)); have GE354 := Az.mk (geO hg (pbE HB.out)); replace HB := Az.mk (pbT (by exact pbE HB.out) hb); clear hb hbox hg) | ((with_reducible refine gate_dst (N := 4) rfl ?_); refine box_event ?hg (N := 4) ?hd (cs := #[.string (⟨#[]⟩ : ByteArray), .string (⟨#[]⟩ : ByteArray)]) (t := 23) ?hr ?_; (case hd => rfl); (case hg => rfl); (case hr => first | (go_simp; done) | (go_simp; rfl)); intro gb355 hg w51 hbox hb; have BK355 := Az.mk (hbox); have GW355 := Az.mk (geO hg (pbE HB.out)); have GE355 := Az.mk (geO hg (pbE HB.out)); replace HB := Az.mk (pbT (by exact pbE HB.out) hb); have NB354_355 := Az.mk (neO hg (bk BK354.out)); have NB355_354 := Az.mk (neP hg (bk BK354.out)); replace BK354 := Az.mk (bkB (bk BK354.out) hb); clear hb hbox hg) | ((with_reducible refine gate_dst (N := 5) rfl ?_); refine box_event ?hg (N := 5) ?hd (cs := #[.string (⟨#[]⟩ : ByteArray), .string (⟨#[]⟩ : ByteArray)]) (t := 23) ?hr ?_; (case hd => rfl); (case hg => rfl); (case hr => first | (go_simp; done) | (go_simp; rfl)); intro gb356 hg w52 hbox hb; have BK356 := Az.mk (hbox); have GW356 := Az.mk (geO hg (pbE HB.out)); have GE356 := Az.mk (geO hg (pbE HB.out)); replace HB := Az.mk (pbT (by exact pbE HB.out) hb); have NB354_356 := Az.mk (neO hg (bk BK354.out)); have NB356_354 := Az.mk (neP hg (bk BK354.out)); replace BK354 := Az.mk (bkB (bk BK354.out) hb); have NB355_356 := Az.mk (neO hg (bk BK355.out)); have NB356_355 := Az.mk (neP hg (bk BK355.out)); replace BK355 := Az.mk (bkB (bk BK355.out) hb); clear hb hbox hg; have hnb53 := NB354_355.out; have hnc53 := NB355_354.out; have hnb54 := NB354_356.out; have hnc54 := NB356_354.out; have hcz55 := cells2 BK354.out) | ((with_reducible refine gtc (f := 60) rfl ?_); refine goesL_ (some 8) rfl rfl Tryd.func60 (by kernel_rfl) rfl #[.agg #[.string a0_0, .string a0_1]] rfl (by (try simp only [List.map_toArray, List.map_cons, List.map_nil]); first | done | rfl | (simp only [List.length_drop, List.length_take]; rfl)) ?_; (with_reducible refine (r02_Is.calls a0_0 a0_1 true _ ?side1 A3.out).mono ?_); (case side1 => exact hG.below (by exact pbE HB.out)); rintro e w56 ⟨rfl, hb⟩; refine ⟨_, rfl, ?_⟩; replace BK354 := Az.mk (bkB (bk BK354.out) hb); replace BK355 := Az.mk (bkB (bk BK355.out) hb); replace BK356 := Az.mk (bkB (bk BK356.out) hb); replace HB := Az.mk (pbT (by exact pbE HB.out) hb); (try clear hb); (try clear hb2); (try clear hk); (try clear hi)) | (go_at_call 61; (with_reducible refine (r02_Key.calls a1 false _ ?side1 A5.out).mono ?_); (case side1 => exact hG.below (by exact pbE HB.out)); rintro e w' ⟨rfl, ⟨nd, rfl⟩⟩; (try (rw [drewN_self w56]; generalize hq_ : World.drewN w56 _ = w56; have n0_ : Az (w56.heap[gb354]? = some (.cells #[.string a0_0, .string a0_1] 23 (0, 0))) := ⟨by rw [← hq_]; exact (bk BK354.out)⟩; have n1_ : Az (w56.heap[gb355]? = some (.cells #[.string (⟨#[]⟩ : ByteArray), .string (⟨#[]⟩ : ByteArray)] 23 (0, 0))) := ⟨by rw [← hq_]; exact (bk BK355.out)⟩; have n2_ : Az (w56.heap[gb356]? = some (.cells #[.string (⟨#[]⟩ : ByteArray), .string (⟨#[]⟩ : ByteArray)] 23 (0, 0))) := ⟨by rw [← hq_]; exact (bk BK356.out)⟩; have n3_ : Az (Below w.heap.size w w56) := ⟨by rw [← hq_]; exact (by exact pbE HB.out)⟩; clear BK354 BK355 BK356 HB hq_; have BK354 := n0_; have BK355 := n1_; have BK356 := n2_; have HB := n3_; clear n0_ n1_ n2_ n3_)); have hnb57 := NB355_356.out; have hnc57 := NB356_355.out; have hcz58 := cells2 BK355.out; have hcz59 := cells2 BK356.out))
   refine bodyPost_ret (results_list (rs := [.cell 4 23, .cell 5 23, .tmp 6]) rfl (by simp) (.cell gb355 23 #[.string (⟨#[]⟩ : ByteArray), .string (⟨#[]⟩ : ByteArray)] (0, 0) _ rfl (by refine bk ?_; refine blk_far ?_ NB355_356.out _; refine bk ?_; refine blk_far ?_ NB355_356.out _; refine bk ?_; refine blk_put (cs := #[.string (⟨#[]⟩ : ByteArray), .string (⟨#[]⟩ : ByteArray)]) ?_ 1 _ rfl; refine bk ?_; refine blk_put (cs := #[.string (⟨#[]⟩ : ByteArray), .string (⟨#[]⟩ : ByteArray)]) ?_ 0 _ rfl; refine bk ?_; exact BK355.out) Tryd.underlying23 rfl (by kernel_rfl) (.cell gb356 23 #[.string (⟨#[]⟩ : ByteArray), .string (⟨#[]⟩ : ByteArray)] (0, 0) _ rfl (by refine bk ?_; refine blk_put (cs := #[.string (⟨#[]⟩ : ByteArray), .string (⟨#[]⟩ : ByteArray)]) ?_ 1 _ rfl; refine bk ?_; refine blk_put (cs := #[.string (⟨#[]⟩ : ByteArray), .string (⟨#[]⟩ : ByteArray)]) ?_ 0 _ rfl; exact bf BK356.out) Tryd.underlying23 rfl (by kernel_rfl) (.tmp .nil)))) rfl ?_
   exact ⟨by first | rfl | (simp [errW_none, errW_some] <;> rfl) | (simp [*, errW_none, errW_some] <;> rfl), by exact pbE HB.out⟩
 ·replace c4 := Bool.eq_false_iff.mpr c4
  subst c4
  rw [if_neg (show ¬ (false = true) by decide)] at H
  simp only [Option.some.injEq, Prod.mk.injEq] at H
  obtain ⟨rfl, rfl, rfl, rfl, rfl⟩ := H
  go_enter Tryd.func35, Tryd.ntmps35
  go_wp2_with (first | ((with_reducible refine gate_dst (N := 2) rfl ?_); refine box_event ?hg (N := 2) ?hd (cs := #[.string a0_0, .string a0_1]) (t := 23) ?hr ?_; (case hd => rfl); (case hg => rfl); (case hr => first | (go_simp; done) | (go_simp; rfl)); intro gb354 hg w60 hbox hb; have BK354 := Az.mk (hbox); have GW354 := Az.mk (geO hg (pbE HB.out)); have GE354 := Az.mk (geO hg (pbE HB.out)); replace HB := Az.mk (pbT (by exact pbE HB.out) hb); clear hb hbox hg) | ((with_reducible refine gate_dst (N := 4) rfl ?_); refine box_event ?hg (N := 4) ?hd (cs := #[.string (⟨#[]⟩ : ByteArray), .string (⟨#[]⟩ : ByteArray)]) (t := 23) ?hr ?_; (case hd => rfl); (case hg => rfl); (case hr => first | (go_simp; done) | (go_simp; rfl)); intro gb355 hg w61 hbox hb; have BK355 := Az.mk (hbox); have GW355 := Az.mk (geO hg (pbE HB.out)); have GE355 := Az.mk (geO hg (pbE HB.out)); replace HB := Az.mk (pbT (by exact pbE HB.out) hb); have NB354_355 := Az.mk (neO hg (bk BK354.out)); have NB355_354 := Az.mk (neP hg (bk BK354.out)); replace BK354 := Az.mk (bkB (bk BK354.out) hb); clear hb hbox hg) | ((with_reducible refine gate_dst (N := 5) rfl ?_); refine box_event ?hg (N := 5) ?hd (cs := #[.string (⟨#[]⟩ : ByteArray), .string (⟨#[]⟩ : ByteArray)]) (t := 23) ?hr ?_; (case hd => rfl); (case hg => rfl); (case hr => first | (go_simp; done) | (go_simp; rfl)); intro gb356 hg w62 hbox hb; have BK356 := Az.mk (hbox); have GW356 := Az.mk (geO hg (pbE HB.out)); have GE356 := Az.mk (geO hg (pbE HB.out)); replace HB := Az.mk (pbT (by exact pbE HB.out) hb); have NB354_356 := Az.mk (neO hg (bk BK354.out)); have NB356_354 := Az.mk (neP hg (bk BK354.out)); replace BK354 := Az.mk (bkB (bk BK354.out) hb); have NB355_356 := Az.mk (neO hg (bk BK355.out)); have NB356_355 := Az.mk (neP hg (bk BK355.out)); replace BK355 := Az.mk (bkB (bk BK355.out) hb); clear hb hbox hg; have hnb63 := NB354_355.out; have hnc63 := NB355_354.out; have hnb64 := NB354_356.out; have hnc64 := NB356_354.out; have hcz65 := cells2 BK354.out) | ((with_reducible refine gtc (f := 60) rfl ?_); refine goesL_ (some 8) rfl rfl Tryd.func60 (by kernel_rfl) rfl #[.agg #[.string a0_0, .string a0_1]] rfl (by (try simp only [List.map_toArray, List.map_cons, List.map_nil]); first | done | rfl | (simp only [List.length_drop, List.length_take]; rfl)) ?_; (with_reducible refine (r02_Is.calls a0_0 a0_1 false _ ?side1 A3.out).mono ?_); (case side1 => exact hG.below (by exact pbE HB.out)); rintro e w66 ⟨rfl, hb⟩; refine ⟨_, rfl, ?_⟩; replace BK354 := Az.mk (bkB (bk BK354.out) hb); replace BK355 := Az.mk (bkB (bk BK355.out) hb); replace BK356 := Az.mk (bkB (bk BK356.out) hb); replace HB := Az.mk (pbT (by exact pbE HB.out) hb); (try clear hb); (try clear hb2); (try clear hk); (try clear hi); have hnb67 := NB355_356.out; have hnc67 := NB356_355.out; have hcz68 := cells2 BK355.out; have hcz69 := cells2 BK356.out))
  refine bodyPost_ret (results_list (rs := [.cell 4 23, .cell 5 23, .tmp 6]) rfl (by simp) (.cell gb355 23 #[.string (⟨#[]⟩ : ByteArray), .string (⟨#[]⟩ : ByteArray)] (0, 0) _ rfl (by refine bk ?_; refine blk_far ?_ NB355_356.out _; refine bk ?_; refine blk_far ?_ NB355_356.out _; refine bk ?_; refine blk_put (cs := #[.string (⟨#[]⟩ : ByteArray), .string (⟨#[]⟩ : ByteArray)]) ?_ 1 _ rfl; refine bk ?_; refine blk_put (cs := #[.string (⟨#[]⟩ : ByteArray), .string (⟨#[]⟩ : ByteArray)]) ?_ 0 _ rfl; refine bk ?_; exact BK355.out) Tryd.underlying23 rfl (by kernel_rfl) (.cell gb356 23 #[.string (⟨#[]⟩ : ByteArray), .string (⟨#[]⟩ : ByteArray)] (0, 0) _ rfl (by refine bk ?_; refine blk_put (cs := #[.string (⟨#[]⟩ : ByteArray), .string (⟨#[]⟩ : ByteArray)]) ?_ 1 _ rfl; refine bk ?_; refine blk_put (cs := #[.string (⟨#[]⟩ : ByteArray), .string (⟨#[]⟩ : ByteArray)]) ?_ 0 _ rfl; exact bf BK356.out) Tryd.underlying23 rfl (by kernel_rfl) (.tmp .nil)))) rfl ?_
  exact ⟨by first | rfl | (simp [errW_none, errW_some] <;> rfl) | (simp [*, errW_none, errW_some] <;> rfl), by exact pbE HB.out⟩
end Go.Proofs.YtjfhcijjjadhbaaDoor.P
end
section
namespace Go.Proofs.YtjfhcijjjadhbaaDoor.P
open Go.RowKit Go.Proofs.YtjfhcijjjadhbaaDoor.K Go.Proofs.YtjfhcijjjadhbaaDoorW.PrintWords Go.Proofs.YtjfhcijjjadhbaaDoorW.PrintLast Go.Proofs.YtjfhcijjjadhbaaDoorW.PrintMore Go.Proofs.YtjfhcijjjadhbaaDoor.V
attribute [local go_sem ↓] Go.wp_at_zero Go.wp_at_succ
theorem rsplit_res {tmps : Array Value} {w : World} {u0 u1 u2 u3 u4 u5 v0 v1 v2 v3 v4 v5 : Value} (b1 b2 : Nat) (h6 : tmps.getD 6 undef = .pointer (some ⟨b1, 0, none⟩)) (h7 : tmps.getD 7 undef = .pointer (some ⟨b2, 0, none⟩))
 (B1 : w.heap[b1]? = some (.cells #[u0, u1, u2, u3, u4, u5] 26 (0, 0))) (B2 : w.heap[b2]? = some (.cells #[v0, v1, v2, v3, v4, v5] 26 (0, 0))) :
 (results Tryd.f13 tmps).run Tryd.prog w = .ok (.tuple #[.agg #[u0, u1, u2, u3, u4, u5], .agg #[v0, v1, v2, v3, v4, v5], tmps.getD 8 undef]) w :=
 results_list (rs := [.cell 6 26, .cell 7 26, .tmp 8]) rfl (by simp) (.cell b1 26 #[u0, u1, u2, u3, u4, u5] (0, 0) _ h6 B1 Tryd.underlying26 rfl (by kernel_rfl) (.cell b2 26 #[v0, v1, v2, v3, v4, v5] (0, 0) _ h7 B2 Tryd.underlying26 rfl (by kernel_rfl) (.tmp .nil)))
theorem rcut_eq (a0_0 a0_1 a1 : ByteArray) : r02_Cut.f a0_0 a0_1 a1 = some (if cutOk a0_0 a0_1 a1 = true then (a0_0, a1, a1, a0_1, 0) else (⟨#[]⟩, ⟨#[]⟩, ⟨#[]⟩, ⟨#[]⟩, 20)) := by
 have hkey : r02_Key.f a1 = some (!(a1.toList == ([] : List UInt8)) && decide (a1.size ≤ 32)) := by
  have hz : (a1.toList == ([] : List UInt8)) = decide (a1.size = 0) := by
   rw [Lib.toList_data, Bool.eq_iff_iff, beq_iff_eq, decide_eq_true_iff, Lib.size_eq]
   exact List.length_eq_zero_iff.symm
  unfold r02_Key.f
  rw [hz]
  by_cases c : (a1.size : Int) ≥ 1
  ·rw [if_pos c, decide_eq_false (show ¬ a1.size = 0 by omega), Bool.not_false, Bool.true_and]
   exact congrArg some (decide_eq_decide.2 (by omega))
  ·rw [if_neg c, decide_eq_true (show a1.size = 0 by omega)]; rfl
 have ht := less_total a0_0.toList a1.toList
 unfold r02_Cut.f cutOk r02_Has.f
 rw [rbound_eq, hkey]
 simp only [Option.bind_some]
 by_cases c1 : boundOk a0_0 a0_1 = true
 ·by_cases c2 : (!(a1.toList == ([] : List UInt8)) && decide (a1.size ≤ 32)) = true
  ·simp only [c1, c2, if_true, Bool.true_and]
   cases c3 : Op.bytesLess a1.toList a0_0.toList with
   | true =>
    rw [c3, Bool.not_true, Bool.or_eq_false_iff] at ht
    simp only [if_true, Option.bind_some, ht.1, Bool.false_and, Bool.false_eq_true, if_false]
   | false =>
    rw [c3, Bool.not_false] at ht
    simp only [Bool.false_eq_true, if_false]
    by_cases c4 : a1.toList = a0_0.toList
    ·have hl : Op.bytesLess a0_0.toList a1.toList = false := by rw [← c4]; rw [c4] at c3 ⊢; exact c3
     by_cases c5 : a0_1.toList = ([] : List UInt8)
     ·simp only [if_pos c5, Option.bind_some, if_true, if_pos c4, hl, Bool.false_and, Bool.false_eq_true, if_false]
     ·simp only [if_neg c5, Option.bind_some, if_pos c4, hl, Bool.false_and, Bool.false_eq_true, if_false, ite_self]
    ·have hl : Op.bytesLess a0_0.toList a1.toList = true := by
      rw [Bool.or_eq_true, beq_iff_eq] at ht
      rcases ht with h | h
      ·exact h
      ·exact absurd h.symm c4
     by_cases c5 : a0_1.toList = ([] : List UInt8)
     ·simp only [if_pos c5, Option.bind_some, if_true, if_neg c4, hl, Bool.true_and, beq_iff_eq.2 c5, Bool.true_or]
     ·simp only [if_neg c5, Option.bind_some, if_neg c4, hl, Bool.true_and, beq_eq_false_iff_ne.2 c5, Bool.false_or]
      split <;> simp_all
  ·have c2 := Bool.eq_false_iff.2 c2
   simp only [c1, c2, if_true, Bool.false_and, Bool.and_false, Bool.false_eq_true, if_false]
 ·have c1 := Bool.eq_false_iff.2 c1
  simp only [c1, Bool.false_and, Bool.false_eq_true, if_false]
def r06_Split.f (a0_0 : Int) (a0_1 a0_2 : ByteArray) (a0_3 : Int) (l0_4 : List S60) (a0_5 : Int) (a1 : ByteArray) (a2 : Int) : Option (Int × ByteArray × ByteArray × Int × List S60 × Int × Int × ByteArray × ByteArray × Int × List S60 × Int × Int) :=
 if l0_4.length ≤ 1000000 then desc_Split.f a0_0 a0_1 a0_2 a0_3 l0_4 a0_5 a1 a2 else none
set_option maxHeartbeats 16000000 in
set_option maxRecDepth 100000 in
theorem r06_Split.calls (a0_0 : Int) (a0_1 : ByteArray) (a0_2 : ByteArray) (a0_3 : Int) (P0_4_ : Nat → Prop) (A0_4 : Option Addr) (c0_4 : Nat) (l0_4 : List (S60)) (a0_5 : Int) (a1 : ByteArray) (a2 : Int) (r1 : Int) (r2 : ByteArray) (r3 : ByteArray) (r4 : Int) (r5 : List (S60)) (r6 : Int) (r7 : Int) (r8 : ByteArray) (r9 : ByteArray) (r10 : Int) (r11 : List (S60)) (r12 : Int) (r13 : Int) (w : World) (hG : TheG w) (hs0_4 : Kd.V k60 60 w w.heap.size (fun k_ => P0_4_ k_) (.slice A0_4 l0_4.length c0_4) l0_4) (h : r06_Split.f a0_0 a0_1 a0_2 a0_3 l0_4 a0_5 a1 a2 = some (r1, r2, r3, r4, r5, r6, r7, r8, r9, r10, r11, r12, r13)) :
 Calls Tryd.prog 13 #[.agg #[.int .i64 a0_0, .string a0_1, .string a0_2, .int .i64 a0_3, .slice A0_4 l0_4.length c0_4, .int .i64 a0_5], .string a1, .int .i64 a2] w fun e w' => ∃ v4_ v10_ : Value, e = .returned (.tuple #[.agg #[.int .i64 r1, .string r2, .string r3, .int .i64 r4, v4_, .int .i64 r6], .agg #[.int .i64 r7, .string r8, .string r9, .int .i64 r10, v10_, .int .i64 r12], .int .i64 r13]) ∧ Kd.V k60 60 w' w.heap.size (fun k_ => P0_4_ k_ ∨ w.heap.size ≤ k_) v4_ r5 ∧ Kd.V k60 60 w' w.heap.size (fun k_ => P0_4_ k_ ∨ w.heap.size ≤ k_) v10_ r11 ∧ Below w.heap.size w w' := by
 have hu26 := Tryd.underlying26
 have hu23 := Tryd.underlying23
 obtain ⟨hn, hcl, hF⟩ := Kd.V_at hs0_4
 clear hn
 have HF := Lib.hid (Kd.F_bound hF)
 have HC := Lib.hid (Kd.F_now hF)
 clear hF hs0_4
 have hm : l0_4.length ≤ 1000000 := Classical.byContradiction fun hn => by unfold r06_Split.f at h; rw [if_neg hn] at h; cases h
 unfold r06_Split.f at h
 rw [if_pos hm] at h
 unfold desc_Split.f at h
 simp only [check_eq, Option.bind_some] at h
 have KI : ∀ (W : World), Below w.heap.size w W → ∀ (p0 : Int) (p1 p2 : ByteArray) (p3 p5 : Int), Hid (Calls Tryd.prog 34 #[.agg #[.int .i64 p0, .string p1, .string p2, .int .i64 p3, .slice A0_4 l0_4.length c0_4, .int .i64 p5]] W fun e w' => e = .returned (.bool (okD p0 p1 p2 p3 l0_4 p5)) ∧ Below W.heap.size W w') := fun W hW p0 p1 p2 p3 p5 => by
  obtain ⟨K, hK⟩ := is_ev (id := p0) (fr := p1) (tu := p2) (gen := p3) (l := l0_4) (nx := p5) hm
  exact Lib.hid (r06_Is.calls K p0 p1 p2 p3 A0_4 c0_4 l0_4 p5 _ W (hG.below hW) (Kd.C_below HC.out hW) hcl (hK K (Nat.le_refl _)))
 have HT : ∀ W, Below w.heap.size w W → Hid (Calls Tryd.prog 35 #[.agg #[.string a0_1, .string a0_2], .string a1] W fun e w' => e = .returned (.tuple (if cutOk a0_1 a0_2 a1 = true then #[.agg #[.string a0_1, .string a1], .agg #[.string a1, .string a0_2], .int .i64 0] else #[.agg #[.string ⟨#[]⟩, .string ⟨#[]⟩], .agg #[.string ⟨#[]⟩, .string ⟨#[]⟩], .int .i64 20])) ∧ Below W.heap.size W w') := by
  intro W hW
  refine Lib.hid ?_
  have hk := rcut_eq a0_1 a0_2 a1
  cases hc : cutOk a0_1 a0_2 a1
  ·rw [hc, if_neg (by simp)] at hk; exact r02_Cut.calls a0_1 a0_2 a1 _ _ _ _ _ W (hG.below hW) hk
  ·rw [hc, if_pos rfl] at hk; exact r02_Cut.calls a0_1 a0_2 a1 _ _ _ _ _ W (hG.below hW) hk
 cases k0 : okD a0_0 a0_1 a0_2 a0_3 l0_4 a0_5
 ·rw [k0, if_neg (show ¬ (false = true) by simp), if_neg (show ¬ ((60 : Int) = 0) by decide)] at h
  simp only [Option.some.injEq, Prod.mk.injEq] at h
  obtain ⟨rfl, rfl, rfl, rfl, rfl, rfl, rfl, rfl, rfl, rfl, rfl, rfl, rfl⟩ := h
  go_enter Tryd.func13, Tryd.ntmps13
  go_wp2_with (first | (go_at_call 34; refine (KI _ (pbA (pbA (pbA (Below.refl _ _) _) _) _) _ _ _ _ _).out.mono ?_; rintro e w1 ⟨rfl, hb⟩; have B0 := three_old hb () (); have B1 := three_mid2 hb () (); have B2 := three_new hb () (); obtain ⟨x0, x1, x2, x3, x4, x5, d0, d1, d2, d3, d4, d5, M0⟩ := six B0; obtain ⟨z0, z1, z2, z3, z4, z5, f0, f1, f2, f3, f4, f5, L0⟩ := six B1; obtain ⟨y0, y1, y2, y3, y4, y5, e0, e1, e2, e3, e4, e5, L1⟩ := six B2; rw [k0]; have HB := pbT (pbA (pbA (pbA (Below.refl _ _) _) _) _) hb; clear hb) | go_in)
  skip
  refine bodyPost_ret (rsplit_res (w.heap.size + 1) (w.heap.size + 1 + 1) rfl rfl (far6 (put6 B1) (by omega)) (put6 (far6 B2 (by omega)))) rfl ?_
  exact ⟨_, _, rfl, Kd.V_nil _ _ _ _ _, Kd.V_nil _ _ _ _ _, below6 (below6 HB (by omega)) (by omega)⟩
 ·rw [k0, if_pos rfl, if_pos rfl] at h
  cases hk : cutOk a0_1 a0_2 a1
  ·rw [hk, if_neg (by simp)] at h
   simp only [hk, if_neg (show ¬ (false = true) by simp)] at HT
   simp only [Option.some.injEq, Prod.mk.injEq] at h
   obtain ⟨rfl, rfl, rfl, rfl, rfl, rfl, rfl, rfl, rfl, rfl, rfl, rfl, rfl⟩ := h
   go_enter Tryd.func13, Tryd.ntmps13
   go_wp2_with (first | (go_at_call 34; refine (KI _ (pbA (pbA (pbA (Below.refl _ _) _) _) _) _ _ _ _ _).out.mono ?_; rintro e w1 ⟨rfl, hb⟩; have B0 := three_old hb () (); have B1 := three_mid2 hb () (); have B2 := three_new hb () (); obtain ⟨x0, x1, x2, x3, x4, x5, d0, d1, d2, d3, d4, d5, M0⟩ := six B0; obtain ⟨z0, z1, z2, z3, z4, z5, f0, f1, f2, f3, f4, f5, L0⟩ := six B1; obtain ⟨y0, y1, y2, y3, y4, y5, e0, e1, e2, e3, e4, e5, L1⟩ := six B2; rw [k0]; have HB := pbT (pbA (pbA (pbA (Below.refl _ _) _) _) _) hb; clear hb) | (go_at_call 35; refine (HT _ HB).out.mono ?_; rintro e w2 ⟨rfl, hb⟩; clear x0 x1 x2 x3 x4 x5 d0 d1 d2 d3 d4 d5 M0 z0 z1 z2 z3 z4 z5 f0 f1 f2 f3 f4 f5 L0 y0 y1 y2 y3 y4 y5 e0 e1 e2 e3 e4 e5 L1; have B3 := bkB B0 hb; have B4 := bkB B1 hb; have B5 := bkB B2 hb; clear B0 B1 B2; obtain ⟨x0, x1, x2, x3, x4, x5, d0, d1, d2, d3, d4, d5, M0⟩ := six B3; obtain ⟨z0, z1, z2, z3, z4, z5, f0, f1, f2, f3, f4, f5, L0⟩ := six B4; obtain ⟨y0, y1, y2, y3, y4, y5, e0, e1, e2, e3, e4, e5, L1⟩ := six B5; have HB2 := pbT HB hb; clear hb HB) | go_in)
   skip
   refine bodyPost_ret (rsplit_res (w.heap.size + 1) (w.heap.size + 1 + 1) rfl rfl (bkA (bkA (far6 (put6 B4) (by omega)) _) _) (bkA (bkA (put6 (far6 B5 (by omega))) _) _)) rfl ?_
   exact ⟨_, _, rfl, Kd.V_nil _ _ _ _ _, Kd.V_nil _ _ _ _ _, pbA (pbA (below6 (below6 HB2 (by omega)) (by omega)) _) _⟩
  ·rw [hk, if_pos rfl] at h
   simp only [hk, if_true] at HT
   by_cases hid : a2 ≤ a0_0
   ·rw [if_pos hid] at h
    simp only [Option.some.injEq, Prod.mk.injEq] at h
    obtain ⟨rfl, rfl, rfl, rfl, rfl, rfl, rfl, rfl, rfl, rfl, rfl, rfl, rfl⟩ := h
    go_enter Tryd.func13, Tryd.ntmps13
    go_wp2_with (first | (go_at_call 34; refine (KI _ (pbA (pbA (pbA (Below.refl _ _) _) _) _) _ _ _ _ _).out.mono ?_; rintro e w1 ⟨rfl, hb⟩; have B0 := three_old hb () (); have B1 := three_mid2 hb () (); have B2 := three_new hb () (); obtain ⟨x0, x1, x2, x3, x4, x5, d0, d1, d2, d3, d4, d5, M0⟩ := six B0; obtain ⟨z0, z1, z2, z3, z4, z5, f0, f1, f2, f3, f4, f5, L0⟩ := six B1; obtain ⟨y0, y1, y2, y3, y4, y5, e0, e1, e2, e3, e4, e5, L1⟩ := six B2; rw [k0]; have HB := pbT (pbA (pbA (pbA (Below.refl _ _) _) _) _) hb; clear hb) | (go_at_call 35; refine (HT _ HB).out.mono ?_; rintro e w2 ⟨rfl, hb⟩; clear x0 x1 x2 x3 x4 x5 d0 d1 d2 d3 d4 d5 M0 z0 z1 z2 z3 z4 z5 f0 f1 f2 f3 f4 f5 L0 y0 y1 y2 y3 y4 y5 e0 e1 e2 e3 e4 e5 L1; have B3 := bkB B0 hb; have B4 := bkB B1 hb; have B5 := bkB B2 hb; clear B0 B1 B2; obtain ⟨x0, x1, x2, x3, x4, x5, d0, d1, d2, d3, d4, d5, M0⟩ := six B3; obtain ⟨z0, z1, z2, z3, z4, z5, f0, f1, f2, f3, f4, f5, L0⟩ := six B4; obtain ⟨y0, y1, y2, y3, y4, y5, e0, e1, e2, e3, e4, e5, L1⟩ := six B5; have HB2 := pbT HB hb; clear hb HB) | go_in)
    skip
    refine bodyPost_ret (rsplit_res (w.heap.size + 1) (w.heap.size + 1 + 1) rfl rfl (bkA (bkA (far6 (put6 B4) (by omega)) _) _) (bkA (bkA (put6 (far6 B5 (by omega))) _) _)) rfl ?_
    exact ⟨_, _, rfl, Kd.V_nil _ _ _ _ _, Kd.V_nil _ _ _ _ _, pbA (pbA (below6 (below6 HB2 (by omega)) (by omega)) _) _⟩
   ·rw [if_neg hid] at h
    have hml : l0_4.length < 8796093022208 := by omega
    have hcl_ : api_Member_33.f l0_4 = some l0_4 := by unfold api_Member_33.f; rw [if_pos hml]
    rw [hcl_, Option.bind_some] at h
    clear hcl_
    go_enter Tryd.func13, Tryd.ntmps13
    go_wp2_with (first | (go_at_call 34; refine (KI _ (pbA (pbA (pbA (Below.refl _ _) _) _) _) _ _ _ _ _).out.mono ?_; rintro e w1 ⟨rfl, hb⟩; have B0 := three_old hb () (); have B1 := three_mid2 hb () (); have B2 := three_new hb () (); obtain ⟨x0, x1, x2, x3, x4, x5, d0, d1, d2, d3, d4, d5, M0⟩ := six B0; obtain ⟨z0, z1, z2, z3, z4, z5, f0, f1, f2, f3, f4, f5, L0⟩ := six B1; obtain ⟨y0, y1, y2, y3, y4, y5, e0, e1, e2, e3, e4, e5, L1⟩ := six B2; rw [k0]; have HB := pbT (pbA (pbA (pbA (Below.refl _ _) _) _) _) hb; clear hb) | (go_at_call 35; refine (HT _ HB).out.mono ?_; rintro e w2 ⟨rfl, hb⟩; clear x0 x1 x2 x3 x4 x5 d0 d1 d2 d3 d4 d5 M0 z0 z1 z2 z3 z4 z5 f0 f1 f2 f3 f4 f5 L0 y0 y1 y2 y3 y4 y5 e0 e1 e2 e3 e4 e5 L1; have B3 := bkB B0 hb; have B4 := bkB B1 hb; have B5 := bkB B2 hb; clear B0 B1 B2; obtain ⟨x0, x1, x2, x3, x4, x5, d0, d1, d2, d3, d4, d5, M0⟩ := six B3; obtain ⟨z0, z1, z2, z3, z4, z5, f0, f1, f2, f3, f4, f5, L0⟩ := six B4; obtain ⟨y0, y1, y2, y3, y4, y5, e0, e1, e2, e3, e4, e5, L1⟩ := six B5; have HB2 := pbT HB hb; clear hb HB) | go_in)
    clear HT x0 x1 x2 x3 x4 x5 d0 d1 d2 d3 d4 d5 z0 z1 z2 z3 z4 z5 f0 f1 f2 f3 f4 f5 y0 y1 y2 y3 y4 y5 e0 e1 e2 e3 e4 e5
    obtain ⟨W, hW⟩ : ∃ W, W = (w2.alloc (.cells #[.string a0_1, .string a1] 23)).alloc (.cells #[.string a1, .string a0_2] 23) := ⟨_, rfl⟩
    have BW0 : W.heap[w.heap.size]? = some (.cells #[.int .i64 a0_0, .string a0_1, .string a0_2, .int .i64 a0_3, .slice A0_4 l0_4.length c0_4, .int .i64 a0_5] 26 (0, 0)) := by rw [hW]; exact bkA (bkA B3 _) _
    have BW1 : W.heap[w.heap.size + 1]? = some (.cells #[.int .i64 0, .string ⟨#[]⟩, .string ⟨#[]⟩, .int .i64 0, .slice none 0 0, .int .i64 0] 26 (0, 0)) := by rw [hW]; exact bkA (bkA B4 _) _
    have BW2 : W.heap[w.heap.size + 2]? = some (.cells #[.int .i64 0, .string ⟨#[]⟩, .string ⟨#[]⟩, .int .i64 0, .slice none 0 0, .int .i64 0] 26 (0, 0)) := by rw [hW]; exact bkA (bkA B5 _) _
    have B9 : W.heap[w2.heap.size]? = some (.cells #[.string a0_1, .string a1] 23 (0, 0)) := by rw [hW]; exact bkA (heap_alloc_new _ _) _
    have B10 : W.heap[w2.heap.size + 1]? = some (.cells #[.string a1, .string a0_2] 23 (0, 0)) := by rw [hW, ← World.size_alloc w2 (.cells #[.string a0_1, .string a1] 23)]; exact heap_alloc_new _ _
    have HBW : Below w.heap.size w W := by rw [hW]; exact pbA (pbA HB2 _) _
    rw [← hW]
    clear hW HB2 B3 B4 B5
    refine start_ (n := 6) (S := fun w' => w'.cell? ⟨w.heap.size, 0, none⟩ = some (.int .i64 a0_0) ∧ w'.cell? ⟨w.heap.size, 1, none⟩ = some (.string a0_1) ∧ w'.cell? ⟨w.heap.size, 2, none⟩ = some (.string a0_2) ∧ w'.cell? ⟨w.heap.size, 3, none⟩ = some (.int .i64 a0_3) ∧ w'.cell? ⟨w.heap.size, 4, none⟩ = some (.slice A0_4 l0_4.length c0_4) ∧ w'.cell? ⟨w.heap.size, 5, none⟩ = some (.int .i64 a0_5)) (ds := []) #[false, false, false, false, false, false] (by kernel_rfl) rfl rfl ⟨(bkC BW0 0).trans rfl, (bkC BW0 1).trans rfl, (bkC BW0 2).trans rfl, (bkC BW0 3).trans rfl, (bkC BW0 4).trans rfl, (bkC BW0 5).trans rfl⟩ (fun hHeld => ?_)
    replace BW0 := bkD BW0
    replace BW1 := bkD BW1
    replace BW2 := bkD BW2
    replace B9 := bkD B9
    replace B10 := bkD B10
    replace HBW := pb1 HBW
    generalize W.drew = W1 at BW0 BW1 BW2 B9 B10 HBW hHeld ⊢
    clear W
    refine take_ (i := 0) (N := some 38) (v := ?_) (a' := ?_) #[true, false, false, false, false, false] rfl rfl (by kernel_rfl) (fun _ _ _ h => h) (Or.inl ⟨by rfl, ?_⟩) hHeld ?_ ?_
    rotate_left
    ·rintro w' ⟨s0, s1, s2, s3, s4, s5⟩
     go_simp
     with_reducible rfl
    rotate_left
    ·simp only [Act.put, List.setIfInBounds_toArray, List.set_cons_zero, List.set_cons_succ, i64_w, i32_w]
     rfl
    refine take_ (i := 1) (N := some 39) (v := ?_) (a' := ?_) #[true, true, false, false, false, false] rfl rfl (by kernel_rfl) (fun _ _ _ h => h) (Or.inl ⟨by rfl, ?_⟩) hHeld ?_ ?_
    rotate_left
    ·rintro w' ⟨s0, s1, s2, s3, s4, s5⟩
     go_simp
     with_reducible rfl
    rotate_left
    ·simp only [Act.put, List.setIfInBounds_toArray, List.set_cons_zero, List.set_cons_succ, i64_w, i32_w]
     rfl
    refine join_ (σ := Nat × Nat) 2 #[true, true, true, true, false, false] (fun s_ => [(12, .pointer (some ⟨s_.1, 0, none⟩)), (13, .pointer (some ⟨s_.2, 0, none⟩))]) (fun s_ w' => (w'.cell? ⟨w.heap.size, 0, none⟩ = some (.int .i64 a0_0) ∧ w'.cell? ⟨w.heap.size, 1, none⟩ = some (.string a0_1) ∧ w'.cell? ⟨w.heap.size, 2, none⟩ = some (.string a0_2) ∧ w'.cell? ⟨w.heap.size, 3, none⟩ = some (.int .i64 a0_3) ∧ w'.cell? ⟨w.heap.size, 4, none⟩ = some (.slice A0_4 l0_4.length c0_4) ∧ w'.cell? ⟨w.heap.size, 5, none⟩ = some (.int .i64 a0_5)) ∧ Below W1.heap.size W1 w' ∧ w'.heap[s_.1]? = some (.cells #[.int .i64 0, .string ⟨#[]⟩, .string ⟨#[]⟩, .int .i64 0, .slice none 0 0, .int .i64 0] 26 (0, 0)) ∧ w'.heap[s_.2]? = some (.cells #[.int .i64 0, .string ⟨#[]⟩, .string ⟨#[]⟩, .int .i64 0, .slice none 0 0, .int .i64 0] 26 (0, 0)) ∧ W1.heap.size ≤ s_.1 ∧ W1.heap.size ≤ s_.2 ∧ s_.1 ≠ s_.2) ?_ ?_
    rotate_left
    ·intro hCont
     refine two_ (i := 2) (j := 3) (Ni := some 12) (Nj := some 13) #[true, true, true, false, false, false] #[true, true, false, true, false, false] rfl rfl rfl rfl (by kernel_rfl) (by decide) (by decide) (fun K hK => ?_) (fun K hK => ?_)
     ·refine box_step ?hg (N := 12) ?hd (cs := #[.int .i64 0, .string ⟨#[]⟩, .string ⟨#[]⟩, .int .i64 0, .slice none 0 0, .int .i64 0]) (t := 26) ?hr ?_; (case hd => rfl); (case hg => rfl); (case hr => first | (go_simp; done) | (go_simp; rfl))
      intro g1 hg w3 hbox hb
      have BX := bkB (g := w.heap.size) (o := .cells #[.int .i64 a0_0, .string a0_1, .string a0_2, .int .i64 a0_3, .slice A0_4 l0_4.length c0_4, .int .i64 a0_5] 26 (0, 0)) (by (with_reducible repeat (first | refine bkN ?_ _ | refine bkD ?_ | refine bkA ?_ _)); exact BW0) hb
      have bw3 := hb
      refine hK.out _ _ ⟨(bkC BX 0).trans rfl, (bkC BX 1).trans rfl, (bkC BX 2).trans rfl, (bkC BX 3).trans rfl, (bkC BX 4).trans rfl, (bkC BX 5).trans rfl⟩ (fun hHeld => ?_)
      clear hK K
      refine norm_ (a' := ?_) ?_ ?_
      rotate_left
      ·show Act.put _ (some 12) _ = _
       simp only [Act.put, List.setIfInBounds_toArray, List.set_cons_zero, List.set_cons_succ, i64_w, i32_w]
       rfl
      refine one_ (i := 3) (N := some 13) #[true, true, true, true, false, false] rfl rfl (by kernel_rfl) (by decide) (fun K hK => ?_)
      refine box_step ?hg (N := 13) ?hd (cs := #[.int .i64 0, .string ⟨#[]⟩, .string ⟨#[]⟩, .int .i64 0, .slice none 0 0, .int .i64 0]) (t := 26) ?hr ?_; (case hd => rfl); (case hg => rfl); (case hr => first | (go_simp; done) | (go_simp; rfl))
      intro g2 hg2 w4 hbox2 hb2
      have BY := bkB (g := w.heap.size) (o := .cells #[.int .i64 a0_0, .string a0_1, .string a0_2, .int .i64 a0_3, .slice A0_4 l0_4.length c0_4, .int .i64 a0_5] 26 (0, 0)) (by (with_reducible repeat (first | refine bkN ?_ _ | refine bkD ?_ | refine bkA ?_ _)); exact BX) hb2
      have BZ := bkB (o := .cells #[.int .i64 0, .string ⟨#[]⟩, .string ⟨#[]⟩, .int .i64 0, .slice none 0 0, .int .i64 0] 26 (0, 0)) (g := g1) (by (with_reducible repeat (first | refine bkN ?_ _ | refine bkD ?_ | refine bkA ?_ _)); exact hbox) hb2
      refine hK.out _ _ ⟨(bkC BY 0).trans rfl, (bkC BY 1).trans rfl, (bkC BY 2).trans rfl, (bkC BY 3).trans rfl, (bkC BY 4).trans rfl, (bkC BY 5).trans rfl⟩ (fun hHeld => ?_)
      clear hK K
      refine norm_ (a' := ?_) ?_ ?_
      rotate_left
      ·show Act.put _ (some 13) _ = _
       simp only [Act.put, List.setIfInBounds_toArray, List.set_cons_zero, List.set_cons_succ, i64_w, i32_w]
       rfl
      have bA : Below W1.heap.size W1 w3 := pbT (by repeat (first | (with_reducible first | exact Below.refl _ _ | apply pbA | apply pbN | apply pb1) | exact Below.refl _ _)) bw3
      have bB : Below W1.heap.size W1 w4 := pbT (by repeat (first | (with_reducible first | exact bA | apply pbA | apply pbN | apply pb1) | exact bA)) hb2
      have l1 : W1.heap.size ≤ g1 := by rw [hg]; exact pbZ (by repeat (first | (with_reducible first | exact Below.refl _ _ | apply pbA | apply pbN | apply pb1) | exact Below.refl _ _))
      have l2 : W1.heap.size ≤ g2 := by rw [hg2]; exact pbZ (by repeat (first | (with_reducible first | exact bA | apply pbA | apply pbN | apply pb1) | exact bA))
      have hne : g1 ≠ g2 := by rw [hg2]; exact Nat.ne_of_lt (blk_lt (o := .cells #[.int .i64 0, .string ⟨#[]⟩, .string ⟨#[]⟩, .int .i64 0, .slice none 0 0, .int .i64 0] 26 (0, 0)) (by (with_reducible repeat (first | refine bkN ?_ _ | refine bkD ?_ | refine bkA ?_ _)); exact hbox))
      exact norm_ (by simp only [putAll, Act.put, List.setIfInBounds_toArray, List.set_cons_zero, List.set_cons_succ]) (hCont (g1, g2) _ ⟨hHeld, bB, BZ, hbox2, l1, l2, hne⟩)
     ·refine box_step ?hg (N := 13) ?hd (cs := #[.int .i64 0, .string ⟨#[]⟩, .string ⟨#[]⟩, .int .i64 0, .slice none 0 0, .int .i64 0]) (t := 26) ?hr ?_; (case hd => rfl); (case hg => rfl); (case hr => first | (go_simp; done) | (go_simp; rfl))
      intro g2 hg w3 hbox hb
      have BX := bkB (g := w.heap.size) (o := .cells #[.int .i64 a0_0, .string a0_1, .string a0_2, .int .i64 a0_3, .slice A0_4 l0_4.length c0_4, .int .i64 a0_5] 26 (0, 0)) (by (with_reducible repeat (first | refine bkN ?_ _ | refine bkD ?_ | refine bkA ?_ _)); exact BW0) hb
      have bw3 := hb
      refine hK.out _ _ ⟨(bkC BX 0).trans rfl, (bkC BX 1).trans rfl, (bkC BX 2).trans rfl, (bkC BX 3).trans rfl, (bkC BX 4).trans rfl, (bkC BX 5).trans rfl⟩ (fun hHeld => ?_)
      clear hK K
      refine norm_ (a' := ?_) ?_ ?_
      rotate_left
      ·show Act.put _ (some 13) _ = _
       simp only [Act.put, List.setIfInBounds_toArray, List.set_cons_zero, List.set_cons_succ, i64_w, i32_w]
       rfl
      refine one_ (i := 2) (N := some 12) #[true, true, true, true, false, false] rfl rfl (by kernel_rfl) (by decide) (fun K hK => ?_)
      refine box_step ?hg (N := 12) ?hd (cs := #[.int .i64 0, .string ⟨#[]⟩, .string ⟨#[]⟩, .int .i64 0, .slice none 0 0, .int .i64 0]) (t := 26) ?hr ?_; (case hd => rfl); (case hg => rfl); (case hr => first | (go_simp; done) | (go_simp; rfl))
      intro g1 hg2 w4 hbox2 hb2
      have BY := bkB (g := w.heap.size) (o := .cells #[.int .i64 a0_0, .string a0_1, .string a0_2, .int .i64 a0_3, .slice A0_4 l0_4.length c0_4, .int .i64 a0_5] 26 (0, 0)) (by (with_reducible repeat (first | refine bkN ?_ _ | refine bkD ?_ | refine bkA ?_ _)); exact BX) hb2
      have BZ := bkB (o := .cells #[.int .i64 0, .string ⟨#[]⟩, .string ⟨#[]⟩, .int .i64 0, .slice none 0 0, .int .i64 0] 26 (0, 0)) (g := g2) (by (with_reducible repeat (first | refine bkN ?_ _ | refine bkD ?_ | refine bkA ?_ _)); exact hbox) hb2
      refine hK.out _ _ ⟨(bkC BY 0).trans rfl, (bkC BY 1).trans rfl, (bkC BY 2).trans rfl, (bkC BY 3).trans rfl, (bkC BY 4).trans rfl, (bkC BY 5).trans rfl⟩ (fun hHeld => ?_)
      clear hK K
      refine norm_ (a' := ?_) ?_ ?_
      rotate_left
      ·show Act.put _ (some 12) _ = _
       simp only [Act.put, List.setIfInBounds_toArray, List.set_cons_zero, List.set_cons_succ, i64_w, i32_w]
       rfl
      have bA : Below W1.heap.size W1 w3 := pbT (by repeat (first | (with_reducible first | exact Below.refl _ _ | apply pbA | apply pbN | apply pb1) | exact Below.refl _ _)) bw3
      have bB : Below W1.heap.size W1 w4 := pbT (by repeat (first | (with_reducible first | exact bA | apply pbA | apply pbN | apply pb1) | exact bA)) hb2
      have l1 : W1.heap.size ≤ g2 := by rw [hg]; exact pbZ (by repeat (first | (with_reducible first | exact Below.refl _ _ | apply pbA | apply pbN | apply pb1) | exact Below.refl _ _))
      have l2 : W1.heap.size ≤ g1 := by rw [hg2]; exact pbZ (by repeat (first | (with_reducible first | exact bA | apply pbA | apply pbN | apply pb1) | exact bA))
      have hne : g2 ≠ g1 := by rw [hg2]; exact Nat.ne_of_lt (blk_lt (o := .cells #[.int .i64 0, .string ⟨#[]⟩, .string ⟨#[]⟩, .int .i64 0, .slice none 0 0, .int .i64 0] 26 (0, 0)) (by (with_reducible repeat (first | refine bkN ?_ _ | refine bkD ?_ | refine bkA ?_ _)); exact hbox))
      exact norm_ (by simp only [putAll, Act.put, List.setIfInBounds_toArray, List.set_cons_zero, List.set_cons_succ]) (hCont (g1, g2) _ ⟨hHeld, bB, hbox2, BZ, l2, l1, hne.symm⟩)
    have m0 := blk_lt BW0
    have m1 := blk_lt BW1
    have m2 := blk_lt BW2
    have m9 := blk_lt B9
    have m10 := blk_lt B10
    rintro ⟨g1, g2⟩ w4 ⟨hS, hb4, G1, G2, l1, l2, hne⟩
    have hHeld : w4.cell? ⟨w.heap.size, 0, none⟩ = some (.int .i64 a0_0) ∧ w4.cell? ⟨w.heap.size, 1, none⟩ = some (.string a0_1) ∧ w4.cell? ⟨w.heap.size, 2, none⟩ = some (.string a0_2) ∧ w4.cell? ⟨w.heap.size, 3, none⟩ = some (.int .i64 a0_3) ∧ w4.cell? ⟨w.heap.size, 4, none⟩ = some (.slice A0_4 l0_4.length c0_4) ∧ w4.cell? ⟨w.heap.size, 5, none⟩ = some (.int .i64 a0_5) := hS
    clear hS
    simp only at G1 G2 l1 l2 hne
    have HB4 : Below w.heap.size w w4 := pbT HBW hb4
    replace BW0 := bkB BW0 hb4
    replace BW1 := bkB BW1 hb4
    replace BW2 := bkB BW2 hb4
    replace B9 := bkB B9 hb4
    replace B10 := bkB B10 hb4
    have lw : w.heap.size ≤ W1.heap.size := pbZ HBW
    clear hb4 HBW
    refine norm_ (a' := ?_) ?_ ?_
    rotate_left
    ·simp only [putAll, Act.put, List.setIfInBounds_toArray, List.set_cons_zero, List.set_cons_succ]
     rfl
    refine one_ (i := 4) (N := none) #[true, true, true, true, true, false] rfl rfl (by kernel_rfl) (by decide) (fun K hK => ?_)
    obtain ⟨z0, z1, z2, z3, z4, z5, f0, f1, f2, f3, f4, f5, L0⟩ := six G1
    refine skip_ (w1 := ?_) (by rfl) rfl ?_ ?_
    rotate_left
    ·go_simp
     rfl
    clear z0 z1 z2 z3 z4 z5 f0 f1 f2 f3 f4 f5 L0
    have BX := far6 (g := g1) (v0 := .int .i64 a0_0) (v1 := .string a0_1) (v2 := .string a0_2) (v3 := .int .i64 a0_3) (v4 := .slice A0_4 l0_4.length c0_4) (v5 := .int .i64 a0_5) BW0 (by omega)
    have C1 := far6 (g := g1) (v0 := .int .i64 a0_0) (v1 := .string a0_1) (v2 := .string a0_2) (v3 := .int .i64 a0_3) (v4 := .slice A0_4 l0_4.length c0_4) (v5 := .int .i64 a0_5) BW1 (by omega)
    have C2 := far6 (g := g1) (v0 := .int .i64 a0_0) (v1 := .string a0_1) (v2 := .string a0_2) (v3 := .int .i64 a0_3) (v4 := .slice A0_4 l0_4.length c0_4) (v5 := .int .i64 a0_5) BW2 (by omega)
    have C9 := far6 (g := g1) (v0 := .int .i64 a0_0) (v1 := .string a0_1) (v2 := .string a0_2) (v3 := .int .i64 a0_3) (v4 := .slice A0_4 l0_4.length c0_4) (v5 := .int .i64 a0_5) B9 (by omega)
    have C10 := far6 (g := g1) (v0 := .int .i64 a0_0) (v1 := .string a0_1) (v2 := .string a0_2) (v3 := .int .i64 a0_3) (v4 := .slice A0_4 l0_4.length c0_4) (v5 := .int .i64 a0_5) B10 (by omega)
    have CG2 := far6 (g := g1) (v0 := .int .i64 a0_0) (v1 := .string a0_1) (v2 := .string a0_2) (v3 := .int .i64 a0_3) (v4 := .slice A0_4 l0_4.length c0_4) (v5 := .int .i64 a0_5) G2 (by omega)
    have CG1 := put6 (v0 := .int .i64 a0_0) (v1 := .string a0_1) (v2 := .string a0_2) (v3 := .int .i64 a0_3) (v4 := .slice A0_4 l0_4.length c0_4) (v5 := .int .i64 a0_5) G1
    have CB := below6 (v0 := .int .i64 a0_0) (v1 := .string a0_1) (v2 := .string a0_2) (v3 := .int .i64 a0_3) (v4 := .slice A0_4 l0_4.length c0_4) (v5 := .int .i64 a0_5) HB4 (Nat.le_trans lw l1)
    refine hK.out _ _ ⟨(bkC BX 0).trans rfl, (bkC BX 1).trans rfl, (bkC BX 2).trans rfl, (bkC BX 3).trans rfl, (bkC BX 4).trans rfl, (bkC BX 5).trans rfl⟩ (fun hHeld => ?_)
    clear hK K BW0 BW1 BW2 B9 B10 G1 G2 HB4 hHeld
    generalize ((((((w4.setCell ⟨g1, 0, none⟩ (.int .i64 a0_0)).setCell ⟨g1, 1, none⟩ (.string a0_1)).setCell ⟨g1, 2, none⟩ (.string a0_2)).setCell ⟨g1, 3, none⟩ (.int .i64 a0_3)).setCell ⟨g1, 4, none⟩ (.slice A0_4 l0_4.length c0_4)).setCell ⟨g1, 5, none⟩ (.int .i64 a0_5)) = w5 at BX C1 C2 C9 C10 CG1 CG2 CB ⊢
    have hHeld : w5.cell? ⟨w.heap.size, 0, none⟩ = some (.int .i64 a0_0) ∧ w5.cell? ⟨w.heap.size, 1, none⟩ = some (.string a0_1) ∧ w5.cell? ⟨w.heap.size, 2, none⟩ = some (.string a0_2) ∧ w5.cell? ⟨w.heap.size, 3, none⟩ = some (.int .i64 a0_3) ∧ w5.cell? ⟨w.heap.size, 4, none⟩ = some (.slice A0_4 l0_4.length c0_4) ∧ w5.cell? ⟨w.heap.size, 5, none⟩ = some (.int .i64 a0_5) := ⟨(bkC BX 0).trans rfl, (bkC BX 1).trans rfl, (bkC BX 2).trans rfl, (bkC BX 3).trans rfl, (bkC BX 4).trans rfl, (bkC BX 5).trans rfl⟩
    refine one_ (i := 5) (N := none) #[true, true, true, true, true, true] rfl rfl (by kernel_rfl) (by decide) (fun K hK => ?_)
    obtain ⟨z0, z1, z2, z3, z4, z5, f0, f1, f2, f3, f4, f5, L0⟩ := six CG2
    refine skip_ (w1 := ?_) (by rfl) rfl ?_ ?_
    rotate_left
    ·go_simp
     rfl
    clear z0 z1 z2 z3 z4 z5 f0 f1 f2 f3 f4 f5 L0
    have BY := far6 (g := g2) (v0 := .int .i64 a0_0) (v1 := .string a0_1) (v2 := .string a0_2) (v3 := .int .i64 a0_3) (v4 := .slice A0_4 l0_4.length c0_4) (v5 := .int .i64 a0_5) BX (by omega)
    have D1 := far6 (g := g2) (v0 := .int .i64 a0_0) (v1 := .string a0_1) (v2 := .string a0_2) (v3 := .int .i64 a0_3) (v4 := .slice A0_4 l0_4.length c0_4) (v5 := .int .i64 a0_5) C1 (by omega)
    have D2 := far6 (g := g2) (v0 := .int .i64 a0_0) (v1 := .string a0_1) (v2 := .string a0_2) (v3 := .int .i64 a0_3) (v4 := .slice A0_4 l0_4.length c0_4) (v5 := .int .i64 a0_5) C2 (by omega)
    have D9 := far6 (g := g2) (v0 := .int .i64 a0_0) (v1 := .string a0_1) (v2 := .string a0_2) (v3 := .int .i64 a0_3) (v4 := .slice A0_4 l0_4.length c0_4) (v5 := .int .i64 a0_5) C9 (by omega)
    have D10 := far6 (g := g2) (v0 := .int .i64 a0_0) (v1 := .string a0_1) (v2 := .string a0_2) (v3 := .int .i64 a0_3) (v4 := .slice A0_4 l0_4.length c0_4) (v5 := .int .i64 a0_5) C10 (by omega)
    have DG1 := far6 (g := g2) (v0 := .int .i64 a0_0) (v1 := .string a0_1) (v2 := .string a0_2) (v3 := .int .i64 a0_3) (v4 := .slice A0_4 l0_4.length c0_4) (v5 := .int .i64 a0_5) CG1 hne
    have DG2 := put6 (v0 := .int .i64 a0_0) (v1 := .string a0_1) (v2 := .string a0_2) (v3 := .int .i64 a0_3) (v4 := .slice A0_4 l0_4.length c0_4) (v5 := .int .i64 a0_5) CG2
    have DB := below6 (v0 := .int .i64 a0_0) (v1 := .string a0_1) (v2 := .string a0_2) (v3 := .int .i64 a0_3) (v4 := .slice A0_4 l0_4.length c0_4) (v5 := .int .i64 a0_5) CB (Nat.le_trans lw l2)
    refine hK.out _ _ ⟨(bkC BY 0).trans rfl, (bkC BY 1).trans rfl, (bkC BY 2).trans rfl, (bkC BY 3).trans rfl, (bkC BY 4).trans rfl, (bkC BY 5).trans rfl⟩ (fun hHeld => ?_)
    clear hK K BX C1 C2 C9 C10 CG1 CG2 CB hHeld
    generalize ((((((w5.setCell ⟨g2, 0, none⟩ (.int .i64 a0_0)).setCell ⟨g2, 1, none⟩ (.string a0_1)).setCell ⟨g2, 2, none⟩ (.string a0_2)).setCell ⟨g2, 3, none⟩ (.int .i64 a0_3)).setCell ⟨g2, 4, none⟩ (.slice A0_4 l0_4.length c0_4)).setCell ⟨g2, 5, none⟩ (.int .i64 a0_5)) = w6 at BY D1 D2 D9 D10 DG1 DG2 DB ⊢
    refine done_ (by kernel_rfl) ?_
    obtain ⟨z0, z1, z2, z3, z4, z5, f0, f1, f2, f3, f4, f5, L0⟩ := six DG1
    obtain ⟨x0, x1, x2, x3, x4, x5, d0, d1, d2, d3, d4, d5, M0⟩ := six BY
    have q0 : w6.cell? ⟨w2.heap.size, 0, none⟩ = some (.string a0_1) := (bkC D9 0).trans rfl
    have q1 : w6.cell? ⟨w2.heap.size, 1, none⟩ = some (.string a1) := (bkC D9 1).trans rfl
    try go_wp2
    go_region
    clear z0 z1 z2 z3 z4 z5 f0 f1 f2 f3 f4 f5 x0 x1 x2 x3 x4 x5 d0 d1 d2 d3 d4 d5 q0 q1
    replace BY := bkD (blk_far (blk_far (blk_far (BY) (p := ⟨g1, 1, none⟩) (by simp only; omega) (.string a0_1)) (p := ⟨g1, 2, none⟩) (by simp only; omega) (.string a1)) (p := ⟨g1, 3, none⟩) (by simp only; omega) (.int .i64 (wrap64 (a0_3 + 1))))
    replace D1 := bkD (blk_far (blk_far (blk_far (D1) (p := ⟨g1, 1, none⟩) (by simp only; omega) (.string a0_1)) (p := ⟨g1, 2, none⟩) (by simp only; omega) (.string a1)) (p := ⟨g1, 3, none⟩) (by simp only; omega) (.int .i64 (wrap64 (a0_3 + 1))))
    replace D2 := bkD (blk_far (blk_far (blk_far (D2) (p := ⟨g1, 1, none⟩) (by simp only; omega) (.string a0_1)) (p := ⟨g1, 2, none⟩) (by simp only; omega) (.string a1)) (p := ⟨g1, 3, none⟩) (by simp only; omega) (.int .i64 (wrap64 (a0_3 + 1))))
    replace D10 := bkD (blk_far (blk_far (blk_far (D10) (p := ⟨g1, 1, none⟩) (by simp only; omega) (.string a0_1)) (p := ⟨g1, 2, none⟩) (by simp only; omega) (.string a1)) (p := ⟨g1, 3, none⟩) (by simp only; omega) (.int .i64 (wrap64 (a0_3 + 1))))
    replace DG2 := bkD (blk_far (blk_far (blk_far (DG2) (p := ⟨g1, 1, none⟩) (by simp only; omega) (.string a0_1)) (p := ⟨g1, 2, none⟩) (by simp only; omega) (.string a1)) (p := ⟨g1, 3, none⟩) (by simp only; omega) (.int .i64 (wrap64 (a0_3 + 1))))
    have EG1 := bkD (blk_put (blk_put (blk_put (DG1) 1 (.string a0_1) rfl) 2 (.string a1) rfl) 3 (.int .i64 (wrap64 (a0_3 + 1))) rfl)
    replace DB := pb1 (pbS (j := 3) (v := (.int .i64 (wrap64 (a0_3 + 1)))) (pbS (j := 2) (v := (.string a1)) (pbS (j := 1) (v := (.string a0_1)) (DB) (Nat.le_trans lw l1)) (Nat.le_trans lw l1)) (Nat.le_trans lw l1))
    simp only [List.setIfInBounds_toArray, List.set_cons_zero, List.set_cons_succ] at EG1
    clear DG1 D9
    generalize (((w6.setCell ⟨g1, 1, none⟩ (.string a0_1)).setCell ⟨g1, 2, none⟩ (.string a1)).setCell ⟨g1, 3, none⟩ (.int .i64 (wrap64 (a0_3 + 1)))).drew = w7 at BY D1 D2 D10 DG2 EG1 DB ⊢
    obtain ⟨z0, z1, z2, z3, z4, z5, f0, f1, f2, f3, f4, f5, L0⟩ := six DG2
    obtain ⟨x0, x1, x2, x3, x4, x5, d0, d1, d2, d3, d4, d5, M0⟩ := six BY
    have q0 : w7.cell? ⟨w2.heap.size + 1, 0, none⟩ = some (.string a1) := (bkC D10 0).trans rfl
    have q1 : w7.cell? ⟨w2.heap.size + 1, 1, none⟩ = some (.string a0_2) := (bkC D10 1).trans rfl
    simp only [Exit.then]
    apply_assumption
    try go_wp2
    go_region
    clear z0 z1 z2 z3 z4 z5 f0 f1 f2 f3 f4 f5 x0 x1 x2 x3 x4 x5 d0 d1 d2 d3 d4 d5 q0 q1
    replace BY := bkD (blk_far (blk_far (blk_far (blk_far (BY) (p := ⟨g2, 0, none⟩) (by simp only; omega) (.int .i64 a2)) (p := ⟨g2, 1, none⟩) (by simp only; omega) (.string a1)) (p := ⟨g2, 2, none⟩) (by simp only; omega) (.string a0_2)) (p := ⟨g2, 3, none⟩) (by simp only; omega) (.int .i64 (wrap64 (a0_3 + 1))))
    replace D1 := bkD (blk_far (blk_far (blk_far (blk_far (D1) (p := ⟨g2, 0, none⟩) (by simp only; omega) (.int .i64 a2)) (p := ⟨g2, 1, none⟩) (by simp only; omega) (.string a1)) (p := ⟨g2, 2, none⟩) (by simp only; omega) (.string a0_2)) (p := ⟨g2, 3, none⟩) (by simp only; omega) (.int .i64 (wrap64 (a0_3 + 1))))
    replace D2 := bkD (blk_far (blk_far (blk_far (blk_far (D2) (p := ⟨g2, 0, none⟩) (by simp only; omega) (.int .i64 a2)) (p := ⟨g2, 1, none⟩) (by simp only; omega) (.string a1)) (p := ⟨g2, 2, none⟩) (by simp only; omega) (.string a0_2)) (p := ⟨g2, 3, none⟩) (by simp only; omega) (.int .i64 (wrap64 (a0_3 + 1))))
    replace EG1 := bkD (blk_far (blk_far (blk_far (blk_far (EG1) (p := ⟨g2, 0, none⟩) (by simp only; omega) (.int .i64 a2)) (p := ⟨g2, 1, none⟩) (by simp only; omega) (.string a1)) (p := ⟨g2, 2, none⟩) (by simp only; omega) (.string a0_2)) (p := ⟨g2, 3, none⟩) (by simp only; omega) (.int .i64 (wrap64 (a0_3 + 1))))
    have EG2 := bkD (blk_put (blk_put (blk_put (blk_put (DG2) 0 (.int .i64 a2) rfl) 1 (.string a1) rfl) 2 (.string a0_2) rfl) 3 (.int .i64 (wrap64 (a0_3 + 1))) rfl)
    replace DB := pb1 (pbS (j := 3) (v := (.int .i64 (wrap64 (a0_3 + 1)))) (pbS (j := 2) (v := (.string a0_2)) (pbS (j := 1) (v := (.string a1)) (pbS (j := 0) (v := (.int .i64 a2)) (DB) (Nat.le_trans lw l2)) (Nat.le_trans lw l2)) (Nat.le_trans lw l2)) (Nat.le_trans lw l2))
    simp only [List.setIfInBounds_toArray, List.set_cons_zero, List.set_cons_succ] at EG2
    clear DG2 D10
    generalize ((((w7.setCell ⟨g2, 0, none⟩ (.int .i64 a2)).setCell ⟨g2, 1, none⟩ (.string a1)).setCell ⟨g2, 2, none⟩ (.string a0_2)).setCell ⟨g2, 3, none⟩ (.int .i64 (wrap64 (a0_3 + 1)))).drew = w8 at BY D1 D2 EG1 EG2 DB ⊢
    simp only [Exit.then]
    apply_assumption
    obtain ⟨z0, z1, z2, z3, z4, z5, f0, f1, f2, f3, f4, f5, _⟩ := six EG1; obtain ⟨p0, p1, p2, p3, p4, p5, b0, b1, b2, b3, b4, b5, _⟩ := six EG2; obtain ⟨x0, x1, x2, x3, x4, x5, d0, d1, d2, d3, d4, d5, N1⟩ := six D1; obtain ⟨y0, y1, y2, y3, y4, y5, e0, e1, e2, e3, e4, e5, N2⟩ := six D2
    cases k1 : okD a0_0 a0_1 a1 (wrap64 (a0_3 + 1)) l0_4 a0_5
    ·rw [k1, if_neg (show ¬ (false = true) by simp), if_neg (show ¬ ((60 : Int) = 0) by decide)] at h
     simp only [Option.some.injEq, Prod.mk.injEq] at h
     obtain ⟨rfl, rfl, rfl, rfl, rfl, rfl, rfl, rfl, rfl, rfl, rfl, rfl, rfl⟩ := h
     go_wp2_with (first | (go_at_call 34; (with_reducible refine (KI _ DB a0_0 a0_1 a1 (wrap64 (a0_3 + 1)) a0_5).out.mono ?_); rintro e w9 ⟨rfl, hbc⟩; rw [k1]; clear z0 z1 z2 z3 z4 z5 f0 f1 f2 f3 f4 f5 p0 p1 p2 p3 p4 p5 b0 b1 b2 b3 b4 b5 x0 x1 x2 x3 x4 x5 d0 d1 d2 d3 d4 d5 N1 y0 y1 y2 y3 y4 y5 e0 e1 e2 e3 e4 e5 N2; replace D1 := bkB D1 hbc; replace D2 := bkB D2 hbc; replace EG1 := bkB EG1 hbc; replace EG2 := bkB EG2 hbc; replace DB := pbT DB hbc; clear hbc; obtain ⟨z0, z1, z2, z3, z4, z5, f0, f1, f2, f3, f4, f5, _⟩ := six EG1; obtain ⟨p0, p1, p2, p3, p4, p5, b0, b1, b2, b3, b4, b5, _⟩ := six EG2; obtain ⟨x0, x1, x2, x3, x4, x5, d0, d1, d2, d3, d4, d5, N1⟩ := six D1; obtain ⟨y0, y1, y2, y3, y4, y5, e0, e1, e2, e3, e4, e5, N2⟩ := six D2) | fail)
     refine bodyPost_ret (rsplit_res (w.heap.size + 1) (w.heap.size + 1 + 1) rfl rfl (far6 (put6 D1) (by omega)) (put6 (far6 D2 (by omega)))) rfl ?_
     exact ⟨_, _, rfl, Kd.V_nil _ _ _ _ _, Kd.V_nil _ _ _ _ _, below6 (below6 DB (by omega)) (by omega)⟩
    ·rw [k1, if_pos rfl, if_pos rfl] at h
     cases k2 : okD a2 a1 a0_2 (wrap64 (a0_3 + 1)) l0_4 a0_5
     ·rw [k2, if_neg (show ¬ (false = true) by simp), if_neg (show ¬ ((60 : Int) = 0) by decide)] at h
      simp only [Option.some.injEq, Prod.mk.injEq] at h
      obtain ⟨rfl, rfl, rfl, rfl, rfl, rfl, rfl, rfl, rfl, rfl, rfl, rfl, rfl⟩ := h
      go_wp2_with (first | (go_at_call 34; (with_reducible refine (KI _ DB a0_0 a0_1 a1 (wrap64 (a0_3 + 1)) a0_5).out.mono ?_); rintro e w9 ⟨rfl, hbc⟩; rw [k1]; clear z0 z1 z2 z3 z4 z5 f0 f1 f2 f3 f4 f5 p0 p1 p2 p3 p4 p5 b0 b1 b2 b3 b4 b5 x0 x1 x2 x3 x4 x5 d0 d1 d2 d3 d4 d5 N1 y0 y1 y2 y3 y4 y5 e0 e1 e2 e3 e4 e5 N2; replace D1 := bkB D1 hbc; replace D2 := bkB D2 hbc; replace EG1 := bkB EG1 hbc; replace EG2 := bkB EG2 hbc; replace DB := pbT DB hbc; clear hbc; obtain ⟨z0, z1, z2, z3, z4, z5, f0, f1, f2, f3, f4, f5, _⟩ := six EG1; obtain ⟨p0, p1, p2, p3, p4, p5, b0, b1, b2, b3, b4, b5, _⟩ := six EG2; obtain ⟨x0, x1, x2, x3, x4, x5, d0, d1, d2, d3, d4, d5, N1⟩ := six D1; obtain ⟨y0, y1, y2, y3, y4, y5, e0, e1, e2, e3, e4, e5, N2⟩ := six D2) | (go_at_call 34; (with_reducible refine (KI _ DB a2 a1 a0_2 (wrap64 (a0_3 + 1)) a0_5).out.mono ?_); rintro e w9 ⟨rfl, hbc⟩; rw [k2]; clear z0 z1 z2 z3 z4 z5 f0 f1 f2 f3 f4 f5 p0 p1 p2 p3 p4 p5 b0 b1 b2 b3 b4 b5 x0 x1 x2 x3 x4 x5 d0 d1 d2 d3 d4 d5 N1 y0 y1 y2 y3 y4 y5 e0 e1 e2 e3 e4 e5 N2; replace D1 := bkB D1 hbc; replace D2 := bkB D2 hbc; replace EG1 := bkB EG1 hbc; replace EG2 := bkB EG2 hbc; replace DB := pbT DB hbc; clear hbc; obtain ⟨z0, z1, z2, z3, z4, z5, f0, f1, f2, f3, f4, f5, _⟩ := six EG1; obtain ⟨p0, p1, p2, p3, p4, p5, b0, b1, b2, b3, b4, b5, _⟩ := six EG2; obtain ⟨x0, x1, x2, x3, x4, x5, d0, d1, d2, d3, d4, d5, N1⟩ := six D1; obtain ⟨y0, y1, y2, y3, y4, y5, e0, e1, e2, e3, e4, e5, N2⟩ := six D2) | fail)
      refine bodyPost_ret (rsplit_res (w.heap.size + 1) (w.heap.size + 1 + 1) rfl rfl (far6 (put6 D1) (by omega)) (put6 (far6 D2 (by omega)))) rfl ?_
      exact ⟨_, _, rfl, Kd.V_nil _ _ _ _ _, Kd.V_nil _ _ _ _ _, below6 (below6 DB (by omega)) (by omega)⟩
     ·rw [k2, if_pos rfl, if_pos rfl] at h
      simp only [Option.some.injEq, Prod.mk.injEq] at h
      obtain ⟨rfl, rfl, rfl, rfl, rfl, rfl, rfl, rfl, rfl, rfl, rfl, rfl, rfl⟩ := h
      go_wp2_with (first | (go_at_call 34; (with_reducible refine (KI _ DB a0_0 a0_1 a1 (wrap64 (a0_3 + 1)) a0_5).out.mono ?_); rintro e w9 ⟨rfl, hbc⟩; rw [k1]; clear z0 z1 z2 z3 z4 z5 f0 f1 f2 f3 f4 f5 p0 p1 p2 p3 p4 p5 b0 b1 b2 b3 b4 b5 x0 x1 x2 x3 x4 x5 d0 d1 d2 d3 d4 d5 N1 y0 y1 y2 y3 y4 y5 e0 e1 e2 e3 e4 e5 N2; replace D1 := bkB D1 hbc; replace D2 := bkB D2 hbc; replace EG1 := bkB EG1 hbc; replace EG2 := bkB EG2 hbc; replace DB := pbT DB hbc; clear hbc; obtain ⟨z0, z1, z2, z3, z4, z5, f0, f1, f2, f3, f4, f5, _⟩ := six EG1; obtain ⟨p0, p1, p2, p3, p4, p5, b0, b1, b2, b3, b4, b5, _⟩ := six EG2; obtain ⟨x0, x1, x2, x3, x4, x5, d0, d1, d2, d3, d4, d5, N1⟩ := six D1; obtain ⟨y0, y1, y2, y3, y4, y5, e0, e1, e2, e3, e4, e5, N2⟩ := six D2) | (go_at_call 34; (with_reducible refine (KI _ DB a2 a1 a0_2 (wrap64 (a0_3 + 1)) a0_5).out.mono ?_); rintro e w9 ⟨rfl, hbc⟩; rw [k2]; clear z0 z1 z2 z3 z4 z5 f0 f1 f2 f3 f4 f5 p0 p1 p2 p3 p4 p5 b0 b1 b2 b3 b4 b5 x0 x1 x2 x3 x4 x5 d0 d1 d2 d3 d4 d5 N1 y0 y1 y2 y3 y4 y5 e0 e1 e2 e3 e4 e5 N2; replace D1 := bkB D1 hbc; replace D2 := bkB D2 hbc; replace EG1 := bkB EG1 hbc; replace EG2 := bkB EG2 hbc; replace DB := pbT DB hbc; clear hbc; obtain ⟨z0, z1, z2, z3, z4, z5, f0, f1, f2, f3, f4, f5, _⟩ := six EG1; obtain ⟨p0, p1, p2, p3, p4, p5, b0, b1, b2, b3, b4, b5, _⟩ := six EG2; obtain ⟨x0, x1, x2, x3, x4, x5, d0, d1, d2, d3, d4, d5, N1⟩ := six D1; obtain ⟨y0, y1, y2, y3, y4, y5, e0, e1, e2, e3, e4, e5, N2⟩ := six D2) | fail)
      go_region
      go_wp2
      refine bodyPost_ret (rsplit_res (w.heap.size + 1) (w.heap.size + 1 + 1) rfl rfl (bkD (far6 (put6 D1) (by omega))) (bkD (put6 (far6 D2 (by omega))))) rfl ?_
      refine ⟨_, _, rfl, ?_, ?_, pb1 (below6 (below6 DB (by omega)) (by omega))⟩
      ·exact Kd.V_mk hcl (Kd.F_mono (Kd.F_below HF.out (pb1 (below6 (below6 DB (by omega)) (by omega)))) (fun k hk => .inl hk.1))
      ·exact Kd.V_mk hcl (Kd.F_mono (Kd.F_below HF.out (pb1 (below6 (below6 DB (by omega)) (by omega)))) (fun k hk => .inl hk.1))
end Go.Proofs.YtjfhcijjjadhbaaDoor.P
end
section
namespace Go.Proofs.YtjfhcijjjadhbaaDoor.P
open Go.RowKit Go.Proofs.YtjfhcijjjadhbaaDoor.K Go.Proofs.YtjfhcijjjadhbaaDoorW.PrintWords Go.Proofs.YtjfhcijjjadhbaaDoorW.PrintLast Go.Proofs.YtjfhcijjjadhbaaDoorW.PrintMore
attribute [local go_sem] max2_int min2_int max_two min_two max_three min_three max_four min_four   -- for this text's walks alone
def bound_both.f (a0_0 : ByteArray) (a0_1 : ByteArray) (a1_0 : ByteArray) (a1_1 : ByteArray) : Option (Bool) := (bound_Check.f a0_0 a0_1).bind fun t110 => (if t110 = 0 then ((bound_Check.f a1_0 a1_1).bind fun t111 => (some (t111 == 0))) else (some false))
set_option maxHeartbeats 8000000 in
set_option maxRecDepth 100000 in
theorem bound_both.calls (a0_0 : ByteArray) (a0_1 : ByteArray) (a1_0 : ByteArray) (a1_1 : ByteArray) (r : Bool) (w : World) (hG : TheG w) (h : bound_both.f a0_0 a0_1 a1_0 a1_1 = some r) :
 Calls Tryd.prog 73 #[.agg #[.string a0_0, .string a0_1], .agg #[.string a1_0, .string a1_1]] w fun e w' => e = .returned (.bool r) ∧ Below w.heap.size w w' := by
 have hu23 := Tryd.underlying23
 have HB := Az.mk (Below.refl w.heap.size w)
 have H : ((bound_Check.f a0_0 a0_1).bind fun t110 => (if t110 = 0 then ((bound_Check.f a1_0 a1_1).bind fun t111 => (some (t111 == 0))) else (some false))) = some r := h
 clear h
 replace H := Option.bind_eq_some_iff.mp H
 obtain ⟨t110, A30, H⟩ := H
 try dsimp only at H
 have A3 := Az.mk A30
 clear A30
 by_cases c4 : t110 = 0
 ·rw [if_pos c4] at H
  have c4b0 : (t110 == 0) = true := beq_iff_eq.mpr c4
  have c4b1 : (t110 != 0) = false := bne_eq_false_iff_eq.mpr c4
  clear c4
  replace H := Option.bind_eq_some_iff.mp H
  obtain ⟨t111, A50, H⟩ := H
  replace H : (some (t111 == 0)) = some r := H
  have A5 := Az.mk A50
  clear A50
  obtain rfl := Option.some.inj H
  go_enter Tryd.func73, Tryd.ntmps73
  go_wp2_with (first | ((with_reducible refine gate_dst (N := 2) rfl ?_); refine box_event ?hg (N := 2) ?hd (cs := #[.string a0_0, .string a0_1]) (t := 23) ?hr ?_; (case hd => rfl); (case hg => rfl); (case hr => first | (go_simp; done) | (go_simp; rfl)); intro gb108 hg w6 hbox hb; have BK108 := Az.mk (hbox); have GW108 := Az.mk (geO hg (pbE HB.out)); have GE108 := Az.mk (geO hg (pbE HB.out)); replace HB := Az.mk (pbT (by exact pbE HB.out) hb); clear hb hbox hg) | ((with_reducible refine gate_dst (N := 3) rfl ?_); refine box_event ?hg (N := 3) ?hd (cs := #[.string a1_0, .string a1_1]) (t := 23) ?hr ?_; (case hd => rfl); (case hg => rfl); (case hr => first | (go_simp; done) | (go_simp; rfl)); intro gb109 hg w7 hbox hb; have BK109 := Az.mk (hbox); have GW109 := Az.mk (geO hg (pbE HB.out)); have GE109 := Az.mk (geO hg (pbE HB.out)); replace HB := Az.mk (pbT (by exact pbE HB.out) hb); have NB108_109 := Az.mk (neO hg (bk BK108.out)); have NB109_108 := Az.mk (neP hg (bk BK108.out)); replace BK108 := Az.mk (bkB (bk BK108.out) hb); clear hb hbox hg; have hnb8 := NB108_109.out; have hnc8 := NB109_108.out; have hcz9 := cells2 BK108.out) | ((with_reducible refine gtc (f := 47) rfl ?_); refine goesL_ (some 6) rfl rfl Tryd.func47 (by kernel_rfl) rfl #[.agg #[.string a0_0, .string a0_1]] rfl (by (try simp only [List.map_toArray, List.map_cons, List.map_nil]); first | done | rfl | (simp only [List.length_drop, List.length_take]; rfl)) ?_; (with_reducible refine (bound_Check.calls a0_0 a0_1 t110 _ ?side1 A3.out).mono ?_); (case side1 => exact hG.below (by exact pbE HB.out)); rintro e w10 ⟨rfl, hb⟩; refine ⟨_, rfl, ?_⟩; replace BK108 := Az.mk (bkB (bk BK108.out) hb); replace BK109 := Az.mk (bkB (bk BK109.out) hb); replace HB := Az.mk (pbT (by exact pbE HB.out) hb); (try clear hb); (try clear hb2); (try clear hk); (try clear hi); have hcz11 := cells2 BK109.out) | (go_at_call 47; (with_reducible refine (bound_Check.calls a1_0 a1_1 t111 _ ?side1 A5.out).mono ?_); (case side1 => exact hG.below (by exact pbE HB.out)); rintro e w12 ⟨rfl, hb⟩; replace BK108 := Az.mk (bkB (bk BK108.out) hb); replace BK109 := Az.mk (bkB (bk BK109.out) hb); replace HB := Az.mk (pbT (by exact pbE HB.out) hb); (try clear hb); (try clear hb2); (try clear hk); (try clear hi)))
  go_ret
  exact ⟨by first | rfl | (simp [errW_none, errW_some] <;> rfl) | (simp [*, errW_none, errW_some] <;> rfl), by exact pbE HB.out⟩
 ·rw [if_neg c4] at H
  have c4b0 : (t110 == 0) = false := beq_eq_false_iff_ne.mpr c4
  have c4b1 : (t110 != 0) = true := bne_iff_ne.mpr c4
  obtain rfl := Option.some.inj H
  go_enter Tryd.func73, Tryd.ntmps73
  go_wp2_with (first | ((with_reducible refine gate_dst (N := 2) rfl ?_); refine box_event ?hg (N := 2) ?hd (cs := #[.string a0_0, .string a0_1]) (t := 23) ?hr ?_; (case hd => rfl); (case hg => rfl); (case hr => first | (go_simp; done) | (go_simp; rfl)); intro gb108 hg w13 hbox hb; have BK108 := Az.mk (hbox); have GW108 := Az.mk (geO hg (pbE HB.out)); have GE108 := Az.mk (geO hg (pbE HB.out)); replace HB := Az.mk (pbT (by exact pbE HB.out) hb); clear hb hbox hg) | ((with_reducible refine gate_dst (N := 3) rfl ?_); refine box_event ?hg (N := 3) ?hd (cs := #[.string a1_0, .string a1_1]) (t := 23) ?hr ?_; (case hd => rfl); (case hg => rfl); (case hr => first | (go_simp; done) | (go_simp; rfl)); intro gb109 hg w14 hbox hb; have BK109 := Az.mk (hbox); have GW109 := Az.mk (geO hg (pbE HB.out)); have GE109 := Az.mk (geO hg (pbE HB.out)); replace HB := Az.mk (pbT (by exact pbE HB.out) hb); have NB108_109 := Az.mk (neO hg (bk BK108.out)); have NB109_108 := Az.mk (neP hg (bk BK108.out)); replace BK108 := Az.mk (bkB (bk BK108.out) hb); clear hb hbox hg; have hnb15 := NB108_109.out; have hnc15 := NB109_108.out; have hcz16 := cells2 BK108.out) | ((with_reducible refine gtc (f := 47) rfl ?_); refine goesL_ (some 6) rfl rfl Tryd.func47 (by kernel_rfl) rfl #[.agg #[.string a0_0, .string a0_1]] rfl (by (try simp only [List.map_toArray, List.map_cons, List.map_nil]); first | done | rfl | (simp only [List.length_drop, List.length_take]; rfl)) ?_; (with_reducible refine (bound_Check.calls a0_0 a0_1 t110 _ ?side1 A3.out).mono ?_); (case side1 => exact hG.below (by exact pbE HB.out)); rintro e w17 ⟨rfl, hb⟩; refine ⟨_, rfl, ?_⟩; replace BK108 := Az.mk (bkB (bk BK108.out) hb); replace BK109 := Az.mk (bkB (bk BK109.out) hb); replace HB := Az.mk (pbT (by exact pbE HB.out) hb); (try clear hb); (try clear hb2); (try clear hk); (try clear hi)))
  go_ret
  exact ⟨by first | rfl | (simp [errW_none, errW_some] <;> rfl) | (simp [*, errW_none, errW_some] <;> rfl), by exact pbE HB.out⟩
def bound_Next.f (a0_0 : ByteArray) (a0_1 : ByteArray) (a1_0 : ByteArray) (a1_1 : ByteArray) : Option (Bool) := (bound_both.f a0_0 a0_1 a1_0 a1_1).bind fun t114 => (if t114 = true then (if a0_1.toList = ([] : List UInt8) then (some false) else (some (a0_1.toList == a1_0.toList))) else (some false))
set_option maxHeartbeats 8000000 in
set_option maxRecDepth 100000 in
theorem bound_Next.calls (a0_0 : ByteArray) (a0_1 : ByteArray) (a1_0 : ByteArray) (a1_1 : ByteArray) (r : Bool) (w : World) (hG : TheG w) (h : bound_Next.f a0_0 a0_1 a1_0 a1_1 = some r) :
 Calls Tryd.prog 63 #[.agg #[.string a0_0, .string a0_1], .agg #[.string a1_0, .string a1_1]] w fun e w' => e = .returned (.bool r) ∧ Below w.heap.size w w' := by
 have hu23 := Tryd.underlying23
 have HB := Az.mk (Below.refl w.heap.size w)
 have H : ((bound_both.f a0_0 a0_1 a1_0 a1_1).bind fun t114 => (if t114 = true then (if a0_1.toList = ([] : List UInt8) then (some false) else (some (a0_1.toList == a1_0.toList))) else (some false))) = some r := h
 clear h
 replace H := Option.bind_eq_some_iff.mp H
 obtain ⟨t114, A30, H⟩ := H
 try dsimp only at H
 have A3 := Az.mk A30
 clear A30
 by_cases c4 : t114 = true
 ·subst c4
  rw [if_pos rfl] at H
  by_cases c5 : a0_1.toList = ([] : List UInt8)
  ·rw [if_pos c5] at H
   have c5b0 : (a0_1.toList == ([] : List UInt8)) = true := beq_iff_eq.mpr c5
   have c5b1 : (a0_1.toList != ([] : List UInt8)) = false := bne_eq_false_iff_eq.mpr c5
   clear c5
   obtain rfl := Option.some.inj H
   go_enter Tryd.func63, Tryd.ntmps63
   go_wp2_with (first | ((with_reducible refine gate_dst (N := 2) rfl ?_); refine box_event ?hg (N := 2) ?hd (cs := #[.string a0_0, .string a0_1]) (t := 23) ?hr ?_; (case hd => rfl); (case hg => rfl); (case hr => first | (go_simp; done) | (go_simp; rfl)); intro gb112 hg w6 hbox hb; have BK112 := Az.mk (hbox); have GW112 := Az.mk (geO hg (pbE HB.out)); have GE112 := Az.mk (geO hg (pbE HB.out)); replace HB := Az.mk (pbT (by exact pbE HB.out) hb); clear hb hbox hg) | ((with_reducible refine gate_dst (N := 3) rfl ?_); refine box_event ?hg (N := 3) ?hd (cs := #[.string a1_0, .string a1_1]) (t := 23) ?hr ?_; (case hd => rfl); (case hg => rfl); (case hr => first | (go_simp; done) | (go_simp; rfl)); intro gb113 hg w7 hbox hb; have BK113 := Az.mk (hbox); have GW113 := Az.mk (geO hg (pbE HB.out)); have GE113 := Az.mk (geO hg (pbE HB.out)); replace HB := Az.mk (pbT (by exact pbE HB.out) hb); have NB112_113 := Az.mk (neO hg (bk BK112.out)); have NB113_112 := Az.mk (neP hg (bk BK112.out)); replace BK112 := Az.mk (bkB (bk BK112.out) hb); clear hb hbox hg; have hnb8 := NB112_113.out; have hnc8 := NB113_112.out; have hcz9 := cells2 BK112.out; have hcz10 := cells2 BK113.out) | ((with_reducible refine gtc (f := 73) rfl ?_); refine goesL_ (some 7) rfl rfl Tryd.func73 (by kernel_rfl) rfl #[.agg #[.string a0_0, .string a0_1], .agg #[.string a1_0, .string a1_1]] rfl (by (try simp only [List.map_toArray, List.map_cons, List.map_nil]); first | done | rfl | (simp only [List.length_drop, List.length_take]; rfl)) ?_; (with_reducible refine (bound_both.calls a0_0 a0_1 a1_0 a1_1 true _ ?side1 A3.out).mono ?_); (case side1 => exact hG.below (by exact pbE HB.out)); rintro e w11 ⟨rfl, hb⟩; refine ⟨_, rfl, ?_⟩; replace BK112 := Az.mk (bkB (bk BK112.out) hb); replace BK113 := Az.mk (bkB (bk BK113.out) hb); replace HB := Az.mk (pbT (by exact pbE HB.out) hb); (try clear hb); (try clear hb2); (try clear hk); (try clear hi); have hcz12 := cells2 BK112.out))
   go_ret
   exact ⟨by first | rfl | (simp [errW_none, errW_some] <;> rfl) | (simp [*, errW_none, errW_some] <;> rfl), by exact pbE HB.out⟩
  ·rw [if_neg c5] at H
   have c5b0 : (a0_1.toList == ([] : List UInt8)) = false := beq_eq_false_iff_ne.mpr c5
   have c5b1 : (a0_1.toList != ([] : List UInt8)) = true := bne_iff_ne.mpr c5
   obtain rfl := Option.some.inj H
   go_enter Tryd.func63, Tryd.ntmps63
   go_wp2_with (first | ((with_reducible refine gate_dst (N := 2) rfl ?_); refine box_event ?hg (N := 2) ?hd (cs := #[.string a0_0, .string a0_1]) (t := 23) ?hr ?_; (case hd => rfl); (case hg => rfl); (case hr => first | (go_simp; done) | (go_simp; rfl)); intro gb112 hg w13 hbox hb; have BK112 := Az.mk (hbox); have GW112 := Az.mk (geO hg (pbE HB.out)); have GE112 := Az.mk (geO hg (pbE HB.out)); replace HB := Az.mk (pbT (by exact pbE HB.out) hb); clear hb hbox hg) | ((with_reducible refine gate_dst (N := 3) rfl ?_); refine box_event ?hg (N := 3) ?hd (cs := #[.string a1_0, .string a1_1]) (t := 23) ?hr ?_; (case hd => rfl); (case hg => rfl); (case hr => first | (go_simp; done) | (go_simp; rfl)); intro gb113 hg w14 hbox hb; have BK113 := Az.mk (hbox); have GW113 := Az.mk (geO hg (pbE HB.out)); have GE113 := Az.mk (geO hg (pbE HB.out)); replace HB := Az.mk (pbT (by exact pbE HB.out) hb); have NB112_113 := Az.mk (neO hg (bk BK112.out)); have NB113_112 := Az.mk (neP hg (bk BK112.out)); replace BK112 := Az.mk (bkB (bk BK112.out) hb); clear hb hbox hg; have hnb15 := NB112_113.out; have hnc15 := NB113_112.out; have hcz16 := cells2 BK112.out; have hcz17 := cells2 BK113.out) | ((with_reducible refine gtc (f := 73) rfl ?_); refine goesL_ (some 7) rfl rfl Tryd.func73 (by kernel_rfl) rfl #[.agg #[.string a0_0, .string a0_1], .agg #[.string a1_0, .string a1_1]] rfl (by (try simp only [List.map_toArray, List.map_cons, List.map_nil]); first | done | rfl | (simp only [List.length_drop, List.length_take]; rfl)) ?_; (with_reducible refine (bound_both.calls a0_0 a0_1 a1_0 a1_1 true _ ?side1 A3.out).mono ?_); (case side1 => exact hG.below (by exact pbE HB.out)); rintro e w18 ⟨rfl, hb⟩; refine ⟨_, rfl, ?_⟩; replace BK112 := Az.mk (bkB (bk BK112.out) hb); replace BK113 := Az.mk (bkB (bk BK113.out) hb); replace HB := Az.mk (pbT (by exact pbE HB.out) hb); (try clear hb); (try clear hb2); (try clear hk); (try clear hi); have hcz19 := cells2 BK112.out; have hcz20 := cells2 BK113.out))
   go_ret
   exact ⟨by first | rfl | (simp [errW_none, errW_some] <;> rfl) | (simp [*, errW_none, errW_some] <;> rfl), by exact pbE HB.out⟩
 ·replace c4 := Bool.eq_false_iff.mpr c4
  subst c4
  rw [if_neg (show ¬ (false = true) by decide)] at H
  obtain rfl := Option.some.inj H
  go_enter Tryd.func63, Tryd.ntmps63
  go_wp2_with (first | ((with_reducible refine gate_dst (N := 2) rfl ?_); refine box_event ?hg (N := 2) ?hd (cs := #[.string a0_0, .string a0_1]) (t := 23) ?hr ?_; (case hd => rfl); (case hg => rfl); (case hr => first | (go_simp; done) | (go_simp; rfl)); intro gb112 hg w21 hbox hb; have BK112 := Az.mk (hbox); have GW112 := Az.mk (geO hg (pbE HB.out)); have GE112 := Az.mk (geO hg (pbE HB.out)); replace HB := Az.mk (pbT (by exact pbE HB.out) hb); clear hb hbox hg) | ((with_reducible refine gate_dst (N := 3) rfl ?_); refine box_event ?hg (N := 3) ?hd (cs := #[.string a1_0, .string a1_1]) (t := 23) ?hr ?_; (case hd => rfl); (case hg => rfl); (case hr => first | (go_simp; done) | (go_simp; rfl)); intro gb113 hg w22 hbox hb; have BK113 := Az.mk (hbox); have GW113 := Az.mk (geO hg (pbE HB.out)); have GE113 := Az.mk (geO hg (pbE HB.out)); replace HB := Az.mk (pbT (by exact pbE HB.out) hb); have NB112_113 := Az.mk (neO hg (bk BK112.out)); have NB113_112 := Az.mk (neP hg (bk BK112.out)); replace BK112 := Az.mk (bkB (bk BK112.out) hb); clear hb hbox hg; have hnb23 := NB112_113.out; have hnc23 := NB113_112.out; have hcz24 := cells2 BK112.out; have hcz25 := cells2 BK113.out) | ((with_reducible refine gtc (f := 73) rfl ?_); refine goesL_ (some 7) rfl rfl Tryd.func73 (by kernel_rfl) rfl #[.agg #[.string a0_0, .string a0_1], .agg #[.string a1_0, .string a1_1]] rfl (by (try simp only [List.map_toArray, List.map_cons, List.map_nil]); first | done | rfl | (simp only [List.length_drop, List.length_take]; rfl)) ?_; (with_reducible refine (bound_both.calls a0_0 a0_1 a1_0 a1_1 false _ ?side1 A3.out).mono ?_); (case side1 => exact hG.below (by exact pbE HB.out)); rintro e w26 ⟨rfl, hb⟩; refine ⟨_, rfl, ?_⟩; replace BK112 := Az.mk (bkB (bk BK112.out) hb); replace BK113 := Az.mk (bkB (bk BK113.out) hb); replace HB := Az.mk (pbT (by exact pbE HB.out) hb); (try clear hb); (try clear hb2); (try clear hk); (try clear hi)))
  go_ret
  exact ⟨by first | rfl | (simp [errW_none, errW_some] <;> rfl) | (simp [*, errW_none, errW_some] <;> rfl), by exact pbE HB.out⟩
def bound_Join.f (a0_0 : ByteArray) (a0_1 : ByteArray) (a1_0 : ByteArray) (a1_1 : ByteArray) : Option (ByteArray × ByteArray × Int) := (bound_Next.f a0_0 a0_1 a1_0 a1_1).bind fun t118 => (if t118 = true then (some (a0_0, a1_1, 0)) else (some ((⟨#[]⟩ : ByteArray), (⟨#[]⟩ : ByteArray), 20)))
set_option maxHeartbeats 8000000 in
set_option maxRecDepth 100000 in
theorem bound_Join.calls (a0_0 : ByteArray) (a0_1 : ByteArray) (a1_0 : ByteArray) (a1_1 : ByteArray) (r1 : ByteArray) (r2 : ByteArray) (r3 : Int) (w : World) (hG : TheG w) (h : bound_Join.f a0_0 a0_1 a1_0 a1_1 = some (r1, r2, r3)) :
 Calls Tryd.prog 36 #[.agg #[.string a0_0, .string a0_1], .agg #[.string a1_0, .string a1_1]] w fun e w' => e = .returned (.tuple #[.agg #[.string r1, .string r2], .int .i64 r3]) ∧ Below w.heap.size w w' := by
 have hu23 := Tryd.underlying23
 have HB := Az.mk (Below.refl w.heap.size w)
 have H : ((bound_Next.f a0_0 a0_1 a1_0 a1_1).bind fun t118 => (if t118 = true then (some (a0_0, a1_1, 0)) else (some ((⟨#[]⟩ : ByteArray), (⟨#[]⟩ : ByteArray), 20)))) = some (r1, r2, r3) := h
 clear h
 replace H := Option.bind_eq_some_iff.mp H
 obtain ⟨t118, A30, H⟩ := H
 try dsimp only at H
 have A3 := Az.mk A30
 clear A30
 by_cases c4 : t118 = true
 ·subst c4
  rw [if_pos rfl] at H
  simp only [Option.some.injEq, Prod.mk.injEq] at H
  obtain ⟨rfl, rfl, rfl⟩ := H
  go_enter Tryd.func36, Tryd.ntmps36
  go_wp2_with (first | ((with_reducible refine gate_dst (N := 2) rfl ?_); refine box_event ?hg (N := 2) ?hd (cs := #[.string a0_0, .string a0_1]) (t := 23) ?hr ?_; (case hd => rfl); (case hg => rfl); (case hr => first | (go_simp; done) | (go_simp; rfl)); intro gb115 hg w5 hbox hb; have BK115 := Az.mk (hbox); have GW115 := Az.mk (geO hg (pbE HB.out)); have GE115 := Az.mk (geO hg (pbE HB.out)); replace HB := Az.mk (pbT (by exact pbE HB.out) hb); clear hb hbox hg) | ((with_reducible refine gate_dst (N := 3) rfl ?_); refine box_event ?hg (N := 3) ?hd (cs := #[.string a1_0, .string a1_1]) (t := 23) ?hr ?_; (case hd => rfl); (case hg => rfl); (case hr => first | (go_simp; done) | (go_simp; rfl)); intro gb116 hg w6 hbox hb; have BK116 := Az.mk (hbox); have GW116 := Az.mk (geO hg (pbE HB.out)); have GE116 := Az.mk (geO hg (pbE HB.out)); replace HB := Az.mk (pbT (by exact pbE HB.out) hb); have NB115_116 := Az.mk (neO hg (bk BK115.out)); have NB116_115 := Az.mk (neP hg (bk BK115.out)); replace BK115 := Az.mk (bkB (bk BK115.out) hb); clear hb hbox hg) | ((with_reducible refine gate_dst (N := 4) rfl ?_); refine box_event ?hg (N := 4) ?hd (cs := #[.string (⟨#[]⟩ : ByteArray), .string (⟨#[]⟩ : ByteArray)]) (t := 23) ?hr ?_; (case hd => rfl); (case hg => rfl); (case hr => first | (go_simp; done) | (go_simp; rfl)); intro gb117 hg w7 hbox hb; have BK117 := Az.mk (hbox); have GW117 := Az.mk (geO hg (pbE HB.out)); have GE117 := Az.mk (geO hg (pbE HB.out)); replace HB := Az.mk (pbT (by exact pbE HB.out) hb); have NB115_117 := Az.mk (neO hg (bk BK115.out)); have NB117_115 := Az.mk (neP hg (bk BK115.out)); replace BK115 := Az.mk (bkB (bk BK115.out) hb); have NB116_117 := Az.mk (neO hg (bk BK116.out)); have NB117_116 := Az.mk (neP hg (bk BK116.out)); replace BK116 := Az.mk (bkB (bk BK116.out) hb); clear hb hbox hg; have hnb8 := NB115_116.out; have hnc8 := NB116_115.out; have hnb9 := NB115_117.out; have hnc9 := NB117_115.out; have hcz10 := cells2 BK115.out; have hnb11 := NB116_117.out; have hnc11 := NB117_116.out; have hcz12 := cells2 BK116.out) | ((with_reducible refine gtc (f := 63) rfl ?_); refine goesL_ (some 8) rfl rfl Tryd.func63 (by kernel_rfl) rfl #[.agg #[.string a0_0, .string a0_1], .agg #[.string a1_0, .string a1_1]] rfl (by (try simp only [List.map_toArray, List.map_cons, List.map_nil]); first | done | rfl | (simp only [List.length_drop, List.length_take]; rfl)) ?_; (with_reducible refine (bound_Next.calls a0_0 a0_1 a1_0 a1_1 true _ ?side1 A3.out).mono ?_); (case side1 => exact hG.below (by exact pbE HB.out)); rintro e w13 ⟨rfl, hb⟩; refine ⟨_, rfl, ?_⟩; replace BK115 := Az.mk (bkB (bk BK115.out) hb); replace BK116 := Az.mk (bkB (bk BK116.out) hb); replace BK117 := Az.mk (bkB (bk BK117.out) hb); replace HB := Az.mk (pbT (by exact pbE HB.out) hb); (try clear hb); (try clear hb2); (try clear hk); (try clear hi); have hcz14 := cells2 BK115.out; have hcz15 := cells2 BK116.out; have hcz16 := cells2 BK117.out))
  refine bodyPost_ret (results_ct rfl _ _ gb117 23 #[.string a0_0, .string a1_1] (0, 0) _ rfl (by refine bk ?_; refine blk_put (cs := #[.string a0_0, .string (⟨#[]⟩ : ByteArray)]) ?_ 1 _ rfl; refine bk ?_; refine blk_put (cs := #[.string (⟨#[]⟩ : ByteArray), .string (⟨#[]⟩ : ByteArray)]) ?_ 0 _ rfl; refine bk ?_; exact BK117.out) Tryd.underlying23 rfl (by kernel_rfl)) rfl ?_
  exact ⟨by first | rfl | (simp [errW_none, errW_some] <;> rfl) | (simp [*, errW_none, errW_some] <;> rfl), by exact pbE HB.out⟩
 ·replace c4 := Bool.eq_false_iff.mpr c4
  subst c4
  rw [if_neg (show ¬ (false = true) by decide)] at H
  simp only [Option.some.injEq, Prod.mk.injEq] at H
  obtain ⟨rfl, rfl, rfl⟩ := H
  go_enter Tryd.func36, Tryd.ntmps36
  go_wp2_with (first | ((with_reducible refine gate_dst (N := 2) rfl ?_); refine box_event ?hg (N := 2) ?hd (cs := #[.string a0_0, .string a0_1]) (t := 23) ?hr ?_; (case hd => rfl); (case hg => rfl); (case hr => first | (go_simp; done) | (go_simp; rfl)); intro gb115 hg w17 hbox hb; have BK115 := Az.mk (hbox); have GW115 := Az.mk (geO hg (pbE HB.out)); have GE115 := Az.mk (geO hg (pbE HB.out)); replace HB := Az.mk (pbT (by exact pbE HB.out) hb); clear hb hbox hg) | ((with_reducible refine gate_dst (N := 3) rfl ?_); refine box_event ?hg (N := 3) ?hd (cs := #[.string a1_0, .string a1_1]) (t := 23) ?hr ?_; (case hd => rfl); (case hg => rfl); (case hr => first | (go_simp; done) | (go_simp; rfl)); intro gb116 hg w18 hbox hb; have BK116 := Az.mk (hbox); have GW116 := Az.mk (geO hg (pbE HB.out)); have GE116 := Az.mk (geO hg (pbE HB.out)); replace HB := Az.mk (pbT (by exact pbE HB.out) hb); have NB115_116 := Az.mk (neO hg (bk BK115.out)); have NB116_115 := Az.mk (neP hg (bk BK115.out)); replace BK115 := Az.mk (bkB (bk BK115.out) hb); clear hb hbox hg) | ((with_reducible refine gate_dst (N := 4) rfl ?_); refine box_event ?hg (N := 4) ?hd (cs := #[.string (⟨#[]⟩ : ByteArray), .string (⟨#[]⟩ : ByteArray)]) (t := 23) ?hr ?_; (case hd => rfl); (case hg => rfl); (case hr => first | (go_simp; done) | (go_simp; rfl)); intro gb117 hg w19 hbox hb; have BK117 := Az.mk (hbox); have GW117 := Az.mk (geO hg (pbE HB.out)); have GE117 := Az.mk (geO hg (pbE HB.out)); replace HB := Az.mk (pbT (by exact pbE HB.out) hb); have NB115_117 := Az.mk (neO hg (bk BK115.out)); have NB117_115 := Az.mk (neP hg (bk BK115.out)); replace BK115 := Az.mk (bkB (bk BK115.out) hb); have NB116_117 := Az.mk (neO hg (bk BK116.out)); have NB117_116 := Az.mk (neP hg (bk BK116.out)); replace BK116 := Az.mk (bkB (bk BK116.out) hb); clear hb hbox hg; have hnb20 := NB115_116.out; have hnc20 := NB116_115.out; have hnb21 := NB115_117.out; have hnc21 := NB117_115.out; have hcz22 := cells2 BK115.out; have hnb23 := NB116_117.out; have hnc23 := NB117_116.out; have hcz24 := cells2 BK116.out) | ((with_reducible refine gtc (f := 63) rfl ?_); refine goesL_ (some 8) rfl rfl Tryd.func63 (by kernel_rfl) rfl #[.agg #[.string a0_0, .string a0_1], .agg #[.string a1_0, .string a1_1]] rfl (by (try simp only [List.map_toArray, List.map_cons, List.map_nil]); first | done | rfl | (simp only [List.length_drop, List.length_take]; rfl)) ?_; (with_reducible refine (bound_Next.calls a0_0 a0_1 a1_0 a1_1 false _ ?side1 A3.out).mono ?_); (case side1 => exact hG.below (by exact pbE HB.out)); rintro e w25 ⟨rfl, hb⟩; refine ⟨_, rfl, ?_⟩; replace BK115 := Az.mk (bkB (bk BK115.out) hb); replace BK116 := Az.mk (bkB (bk BK116.out) hb); replace BK117 := Az.mk (bkB (bk BK117.out) hb); replace HB := Az.mk (pbT (by exact pbE HB.out) hb); (try clear hb); (try clear hb2); (try clear hk); (try clear hi); have hcz26 := cells2 BK117.out))
  refine bodyPost_ret (results_ct rfl _ _ gb117 23 #[.string (⟨#[]⟩ : ByteArray), .string (⟨#[]⟩ : ByteArray)] (0, 0) _ rfl (by refine bk ?_; refine blk_put (cs := #[.string (⟨#[]⟩ : ByteArray), .string (⟨#[]⟩ : ByteArray)]) ?_ 1 _ rfl; refine bk ?_; refine blk_put (cs := #[.string (⟨#[]⟩ : ByteArray), .string (⟨#[]⟩ : ByteArray)]) ?_ 0 _ rfl; refine bk ?_; exact BK117.out) Tryd.underlying23 rfl (by kernel_rfl)) rfl ?_
  exact ⟨by first | rfl | (simp [errW_none, errW_some] <;> rfl) | (simp [*, errW_none, errW_some] <;> rfl), by exact pbE HB.out⟩
end Go.Proofs.YtjfhcijjjadhbaaDoor.P
end
