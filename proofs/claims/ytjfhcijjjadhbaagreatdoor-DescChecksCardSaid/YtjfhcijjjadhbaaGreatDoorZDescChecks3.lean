import Derived.Test.YtjfhcijjjadhbaaGreatDoorZDescChecks0
import Derived.Test.YtjfhcijjjadhbaaGreatDoorZDescChecks1
import Derived.Test.YtjfhcijjjadhbaaGreatDoorZDescChecks2
import Derived.ArgAppend
import Derived.Lib.SliceRun
import Derived.Maps.AppendAt
import Derived.OpenShut
import Derived.OwnWalk
set_option linter.unusedVariables false
set_option linter.unusedSimpArgs false
set_option linter.unnecessarySimpa false
section
namespace Go.Proofs.YtjfhcijjjadhbaaGreatDoor.P
open Go.RowKit Go.Proofs.YtjfhcijjjadhbaaGreatDoor.K Go.Proofs.YtjfhcijjjadhbaaGreatDoorW.PrintWords Go.Proofs.YtjfhcijjjadhbaaGreatDoorW.PrintLast Go.Proofs.YtjfhcijjjadhbaaGreatDoorW.PrintMore
attribute [local go_sem] max2_int min2_int max_two min_two max_three min_three max_four min_four   -- for this text's walks alone
def r06_On.l0 : Nat → Int → Int → Int → ByteArray → ByteArray → Int → List (S30) → Int → Option (Int × Int × Bool)
 | 0, _, _, _, _, _, _, _, _ => none
 | k + 1, x1, x6, x336000, x336001, x336002, x336003, x336004, x336005 => if x6 < (x336004.length : Int) then (if 0 ≤ x6 then (if ((rd_T30 x336004 x6).f0) = x1 then (some ((rd_T30 x336004 x6).f0, (rd_T30 x336004 x6).f1, true)) else (r06_On.l0 k x1 (wrap64 (x6 + 1)) x336000 x336001 x336002 x336003 x336004 x336005)) else (none)) else (some (0, 0, false))
def r06_On.f (k : Nat) (a0_0 : Int) (a0_1 : ByteArray) (a0_2 : ByteArray) (a0_3 : Int) (l0_4 : List (S30)) (a0_5 : Int) (a1 : Int) : Option (Int × Int × Bool) := r06_On.l0 k a1 0 a0_0 a0_1 a0_2 a0_3 l0_4 a0_5
theorem r06_On.mono_l : ∀ k, (∀ y0 y1 y2 y3 y4 y5 y6 y7, LeO (r06_On.l0 k y0 y1 y2 y3 y4 y5 y6 y7) (r06_On.l0 (k + 1) y0 y1 y2 y3 y4 y5 y6 y7))
 | 0 => fun _ _ _ _ _ _ _ _ r h => by simp [r06_On.l0] at h
 | k + 1 => by
  have ih0 := r06_On.mono_l k
  ·intro y0 y1 y2 y3 y4 y5 y6 y7
   unfold r06_On.l0
   repeat' first
   | (with_reducible exact ih0 _ _ _ _ _ _ _ _)
   | (with_reducible exact LeO.refl _)
   | (with_reducible exact LeO.none _)
   | (with_reducible refine LeO.ite ?_ ?_)
   | (with_reducible refine LeO.bind ?_ (fun _ => ?_))
   | exact ih0 _ _ _ _ _ _ _ _
   | exact LeO.none _
   | refine LeO.ite ?_ ?_
   | refine LeO.bind ?_ (fun _ => ?_)
theorem r06_On.mono : ∀ a0 a1 a2 a3 a4 a5 a6 k, LeO (r06_On.f k a0 a1 a2 a3 a4 a5 a6) (r06_On.f (k + 1) a0 a1 a2 a3 a4 a5 a6) := by
 intro a0 a1 a2 a3 a4 a5 a6 k
 have ih0 := r06_On.mono_l k
 unfold r06_On.f
 repeat' first
  | (with_reducible exact ih0 _ _ _ _ _ _ _ _)
  | (with_reducible exact LeO.refl _)
  | (with_reducible exact LeO.none _)
  | (with_reducible refine LeO.ite ?_ ?_)
  | (with_reducible refine LeO.bind ?_ (fun _ => ?_))
  | exact ih0 _ _ _ _ _ _ _ _
  | exact LeO.none _
  | refine LeO.ite ?_ ?_
  | refine LeO.bind ?_ (fun _ => ?_)
set_option maxHeartbeats 8000000 in
set_option maxRecDepth 100000 in
theorem r06_On.calls (k : Nat) (a0_0 : Int) (a0_1 : ByteArray) (a0_2 : ByteArray) (a0_3 : Int) (A0_4 : Option Addr) (c0_4 : Nat) (l0_4 : List (S30)) (a0_5 : Int) (a1 : Int) (r1 : Int) (r2 : Int) (r3 : Bool) (w : World) (hG : TheG w) (hr0_4 : Kd.C k30 w A0_4 l0_4.length l0_4) (hc0_4 : l0_4.length ≤ c0_4) (h : r06_On.f k a0_0 a0_1 a0_2 a0_3 l0_4 a0_5 a1 = some (r1, r2, r3)) :
 Calls Tryz.prog 7 #[.agg #[.int .i64 a0_0, .string a0_1, .string a0_2, .int .i64 a0_3, .slice A0_4 l0_4.length c0_4, .int .i64 a0_5], .int .i64 a1] w fun e w' => e = .returned (.tuple #[.agg #[.int .i64 r1, .int .i64 r2], .bool r3]) ∧ Below w.heap.size w w' := by
 have hu26 := Tryz.underlying26
 have hu30 := Tryz.underlying30
 have HR0_4 := Az.mk hr0_4
 have HC0_4 := Az.mk hc0_4
 clear hr0_4 hc0_4
 have HB := Az.mk (Below.refl w.heap.size w)
 have H : (r06_On.l0 k a1 0 a0_0 a0_1 a0_2 a0_3 l0_4 a0_5) = some (r1, r2, r3) := h
 clear h
 have H' := Az.mk H
 clear H
 go_enter Tryz.func7, Tryz.ntmps7
 go_wp2_with (first | ((with_reducible refine gate_dst (N := 2) rfl ?_); refine box_event ?hg (N := 2) ?hd (cs := #[.int .i64 a0_0, .string a0_1, .string a0_2, .int .i64 a0_3, .slice A0_4 l0_4.length c0_4, .int .i64 a0_5]) (t := 26) ?hr ?_; (case hd => rfl); (case hg => rfl); (case hr => first | (go_simp; done) | (go_simp; rfl)); intro gb335 hg w3 hbox hb; have BK335 := Az.mk (hbox); have GW335 := Az.mk (geO hg (pbE HB.out)); have GE335 := Az.mk (geO hg (pbE HB.out)); replace HB := Az.mk (pbT (by exact pbE HB.out) hb); clear hb hbox hg) | ((with_reducible refine gate_dst (N := 4) rfl ?_); refine box_event ?hg (N := 4) ?hd (cs := #[.int .i64 0, .int .i64 0]) (t := 30) ?hr ?_; (case hd => rfl); (case hg => rfl); (case hr => first | (go_simp; done) | (go_simp; rfl)); intro gb336 hg w4 hbox hb; have BK336 := Az.mk (hbox); have GW336 := Az.mk (geO hg (pbE HB.out)); have GE336 := Az.mk (geO hg (pbE HB.out)); replace HB := Az.mk (pbT (by exact pbE HB.out) hb); have NB335_336 := Az.mk (neO hg (bk BK335.out)); have NB336_335 := Az.mk (neP hg (bk BK335.out)); replace BK335 := Az.mk (bkB (bk BK335.out) hb); clear hb hbox hg))
 go_loopg [6] k (fun kq v6 w' => ∃ (x6_1 : Int) (x337000_1 : Int) (x337001_1 : Int), v6 = .int .i64 x6_1 ∧ Az (r06_On.l0 kq a1 x6_1 a0_0 a0_1 a0_2 a0_3 l0_4 a0_5 = some (r1, r2, r3)) ∧ Az (kq ≤ k) ∧ Az (w'.heap[gb335]? = some (.cells #[.int .i64 a0_0, .string a0_1, .string a0_2, .int .i64 a0_3, (.slice A0_4 l0_4.length c0_4), .int .i64 a0_5] 26 (0, 0))) ∧ Az (w'.heap[gb336]? = some (.cells #[.int .i64 x337000_1, .int .i64 x337001_1] 30 (0, 0))) ∧ Az (Below w.heap.size w w'))
 case atStart => exact ⟨(0), (0), (0), (by first | rfl | (simp; done) | (simp [*]; done)), H', ⟨Nat.le_refl _⟩, ⟨by refine bk ?_; exact BK335.out⟩, ⟨by refine bk ?_; exact BK336.out⟩, ⟨by exact pbE HB.out⟩⟩
 case round =>
  clear H'
  try clear p2
  obtain ⟨x6_1, x337000_1, x337001_1, rfl, HA, HK1, BK335, BK336, HB⟩ := hrel
  cases gk with
  | zero => exact absurd HA.out (by simp [r06_On.l0])
  | succ k1 =>
   have H := HA.out
   clear HA
   simp only [r06_On.l0] at H
   by_cases c5 : x6_1 < (l0_4.length : Int)
   ·rw [if_pos c5] at H
    have c5b0 : decide (x6_1 < (l0_4.length : Int)) = true := decide_eq_true c5
    clear c5
    by_cases c6 : 0 ≤ x6_1
    ·rw [if_pos c6] at H
     have c6b0 : decide (0 ≤ x6_1) = true := decide_eq_true c6
     clear c6
     by_cases c7 : ((rd_T30 l0_4 x6_1).f0) = a1
     ·rw [if_pos c7] at H
      have c7b0 : (((rd_T30 l0_4 x6_1).f0) == a1) = true := beq_iff_eq.mpr c7
      have c7b1 : (((rd_T30 l0_4 x6_1).f0) != a1) = false := bne_eq_false_iff_eq.mpr c7
      clear c7
      simp only [Option.some.injEq, Prod.mk.injEq] at H
      obtain ⟨rfl, rfl, rfl⟩ := H
      have hnb8 := NB335_336.out
      have hnc8 := NB336_335.out
      have hcz9 := cells6 BK335.out
      have p337 : 0 ≤ (x6_1 : Int) := of_decide_eq_true (by first | (with_reducible assumption) | assumption)
      have q337 : x6_1 < (l0_4.length : Int) := of_decide_eq_true (by first | (with_reducible assumption) | assumption)
      obtain ⟨ad337, e337, hx337_0, hx337_1⟩ := at_T30 HR0_4.out x6_1 p337 q337
      cases e337
      replace hx337_0 := (HB.out.cell (World.block_lt_of_cell? w _ hx337_0)).trans hx337_0
      replace hx337_1 := (HB.out.cell (World.block_lt_of_cell? w _ hx337_1)).trans hx337_1
      replace p337 := eq_true p337
      replace q337 := eq_true q337
      have p338 : 0 ≤ (x6_1 : Int) := of_decide_eq_true (by first | (with_reducible assumption) | assumption)
      have q338 : x6_1 < (l0_4.length : Int) := of_decide_eq_true (by first | (with_reducible assumption) | assumption)
      obtain ⟨ad338, e338, hx338_0, hx338_1⟩ := at_T30 HR0_4.out x6_1 p338 q338
      obtain rfl : ad337 = ad338 := (by injection e338)
      replace hx338_0 := (HB.out.cell (World.block_lt_of_cell? w _ hx338_0)).trans hx338_0
      replace hx338_1 := (HB.out.cell (World.block_lt_of_cell? w _ hx338_1)).trans hx338_1
      replace p338 := eq_true p338
      replace q338 := eq_true q338
      have hcz10 := cells2 BK336.out
      go_wp2
      refine bodyPost_ret (results_ct rfl _ _ gb336 30 #[.int .i64 ((rd_T30 l0_4 x6_1).f0), .int .i64 ((rd_T30 l0_4 x6_1).f1)] (0, 0) _ rfl (by refine bk ?_; refine blk_put (cs := #[.int .i64 ((rd_T30 l0_4 x6_1).f0), .int .i64 x337001_1]) ?_ 1 _ rfl; refine bk ?_; refine blk_put (cs := #[.int .i64 x337000_1, .int .i64 x337001_1]) ?_ 0 _ rfl; refine bk ?_; exact BK336.out) Tryz.underlying30 rfl (by kernel_rfl)) rfl ?_
      exact ⟨by first | rfl | (simp [errW_none, errW_some] <;> rfl) | (simp [*, errW_none, errW_some] <;> rfl), by exact pbE HB.out⟩
     ·rw [if_neg c7] at H
      have c7b0 : (((rd_T30 l0_4 x6_1).f0) == a1) = false := beq_eq_false_iff_ne.mpr c7
      have c7b1 : (((rd_T30 l0_4 x6_1).f0) != a1) = true := bne_iff_ne.mpr c7
      have H' := Az.mk H
      clear H
      have hnb11 := NB335_336.out
      have hnc11 := NB336_335.out
      have hcz12 := cells6 BK335.out
      have p337 : 0 ≤ (x6_1 : Int) := of_decide_eq_true (by first | (with_reducible assumption) | assumption)
      have q337 : x6_1 < (l0_4.length : Int) := of_decide_eq_true (by first | (with_reducible assumption) | assumption)
      obtain ⟨ad337, e337, hx337_0, hx337_1⟩ := at_T30 HR0_4.out x6_1 p337 q337
      cases e337
      replace hx337_0 := (HB.out.cell (World.block_lt_of_cell? w _ hx337_0)).trans hx337_0
      replace hx337_1 := (HB.out.cell (World.block_lt_of_cell? w _ hx337_1)).trans hx337_1
      replace p337 := eq_true p337
      replace q337 := eq_true q337
      go_wp2
      go_roundg k1
      case measure => have := HK1.out; omega
      case rel => exact ⟨(wrap64 (x6_1 + 1)), (x337000_1), (x337001_1), (by first | rfl | (simp; done) | (simp [*]; done)), H', ⟨by have := HK1.out; omega⟩, ⟨by refine bk ?_; exact BK335.out⟩, ⟨by refine bk ?_; exact BK336.out⟩, ⟨by exact pbE HB.out⟩⟩
    ·rw [if_neg c6] at H
     exact absurd H (by simp)
   ·rw [if_neg c5] at H
    have c5b0 : decide (x6_1 < (l0_4.length : Int)) = false := decide_eq_false c5
    clear c5
    simp only [Option.some.injEq, Prod.mk.injEq] at H
    obtain ⟨rfl, rfl, rfl⟩ := H
    have hnb13 := NB335_336.out
    have hnc13 := NB336_335.out
    have hcz14 := cells6 BK335.out
    have hcz15 := cells2 BK336.out
    go_wp2
    refine bodyPost_ret (results_ct rfl _ _ gb336 30 #[.int .i64 0, .int .i64 0] (0, 0) _ rfl (by refine bk ?_; refine blk_put (cs := #[.int .i64 0, .int .i64 x337001_1]) ?_ 1 _ rfl; refine bk ?_; refine blk_put (cs := #[.int .i64 x337000_1, .int .i64 x337001_1]) ?_ 0 _ rfl; refine bk ?_; exact BK336.out) Tryz.underlying30 rfl (by kernel_rfl)) rfl ?_
    exact ⟨by first | rfl | (simp [errW_none, errW_some] <;> rfl) | (simp [*, errW_none, errW_some] <;> rfl), by exact pbE HB.out⟩
def r06_Has.l0 : Nat → Int → Int → Int → ByteArray → ByteArray → Int → List (S30) → Int → Option (Int × Int × Bool)
 | 0, _, _, _, _, _, _, _, _ => none
 | k + 1, x1, x6, x340000, x340001, x340002, x340003, x340004, x340005 => if x6 < (x340004.length : Int) then (if 0 ≤ x6 then (if ((rd_T30 x340004 x6).f1) = x1 then (some ((rd_T30 x340004 x6).f0, (rd_T30 x340004 x6).f1, true)) else (r06_Has.l0 k x1 (wrap64 (x6 + 1)) x340000 x340001 x340002 x340003 x340004 x340005)) else (none)) else (some (0, 0, false))
def r06_Has.f (k : Nat) (a0_0 : Int) (a0_1 : ByteArray) (a0_2 : ByteArray) (a0_3 : Int) (l0_4 : List (S30)) (a0_5 : Int) (a1 : Int) : Option (Int × Int × Bool) := r06_Has.l0 k a1 0 a0_0 a0_1 a0_2 a0_3 l0_4 a0_5
theorem r06_Has.mono_l : ∀ k, (∀ y0 y1 y2 y3 y4 y5 y6 y7, LeO (r06_Has.l0 k y0 y1 y2 y3 y4 y5 y6 y7) (r06_Has.l0 (k + 1) y0 y1 y2 y3 y4 y5 y6 y7))
 | 0 => fun _ _ _ _ _ _ _ _ r h => by simp [r06_Has.l0] at h
 | k + 1 => by
  have ih0 := r06_Has.mono_l k
  ·intro y0 y1 y2 y3 y4 y5 y6 y7
   unfold r06_Has.l0
   repeat' first
   | (with_reducible exact ih0 _ _ _ _ _ _ _ _)
   | (with_reducible exact LeO.refl _)
   | (with_reducible exact LeO.none _)
   | (with_reducible refine LeO.ite ?_ ?_)
   | (with_reducible refine LeO.bind ?_ (fun _ => ?_))
   | exact ih0 _ _ _ _ _ _ _ _
   | exact LeO.none _
   | refine LeO.ite ?_ ?_
   | refine LeO.bind ?_ (fun _ => ?_)
theorem r06_Has.mono : ∀ a0 a1 a2 a3 a4 a5 a6 k, LeO (r06_Has.f k a0 a1 a2 a3 a4 a5 a6) (r06_Has.f (k + 1) a0 a1 a2 a3 a4 a5 a6) := by
 intro a0 a1 a2 a3 a4 a5 a6 k
 have ih0 := r06_Has.mono_l k
 unfold r06_Has.f
 repeat' first
  | (with_reducible exact ih0 _ _ _ _ _ _ _ _)
  | (with_reducible exact LeO.refl _)
  | (with_reducible exact LeO.none _)
  | (with_reducible refine LeO.ite ?_ ?_)
  | (with_reducible refine LeO.bind ?_ (fun _ => ?_))
  | exact ih0 _ _ _ _ _ _ _ _
  | exact LeO.none _
  | refine LeO.ite ?_ ?_
  | refine LeO.bind ?_ (fun _ => ?_)
set_option maxHeartbeats 8000000 in
set_option maxRecDepth 100000 in
theorem r06_Has.calls (k : Nat) (a0_0 : Int) (a0_1 : ByteArray) (a0_2 : ByteArray) (a0_3 : Int) (A0_4 : Option Addr) (c0_4 : Nat) (l0_4 : List (S30)) (a0_5 : Int) (a1 : Int) (r1 : Int) (r2 : Int) (r3 : Bool) (w : World) (hG : TheG w) (hr0_4 : Kd.C k30 w A0_4 l0_4.length l0_4) (hc0_4 : l0_4.length ≤ c0_4) (h : r06_Has.f k a0_0 a0_1 a0_2 a0_3 l0_4 a0_5 a1 = some (r1, r2, r3)) :
 Calls Tryz.prog 9 #[.agg #[.int .i64 a0_0, .string a0_1, .string a0_2, .int .i64 a0_3, .slice A0_4 l0_4.length c0_4, .int .i64 a0_5], .int .i64 a1] w fun e w' => e = .returned (.tuple #[.agg #[.int .i64 r1, .int .i64 r2], .bool r3]) ∧ Below w.heap.size w w' := by
 have hu26 := Tryz.underlying26
 have hu30 := Tryz.underlying30
 have HR0_4 := Az.mk hr0_4
 have HC0_4 := Az.mk hc0_4
 clear hr0_4 hc0_4
 have HB := Az.mk (Below.refl w.heap.size w)
 have H : (r06_Has.l0 k a1 0 a0_0 a0_1 a0_2 a0_3 l0_4 a0_5) = some (r1, r2, r3) := h
 clear h
 have H' := Az.mk H
 clear H
 go_enter Tryz.func9, Tryz.ntmps9
 go_wp2_with (first | ((with_reducible refine gate_dst (N := 2) rfl ?_); refine box_event ?hg (N := 2) ?hd (cs := #[.int .i64 a0_0, .string a0_1, .string a0_2, .int .i64 a0_3, .slice A0_4 l0_4.length c0_4, .int .i64 a0_5]) (t := 26) ?hr ?_; (case hd => rfl); (case hg => rfl); (case hr => first | (go_simp; done) | (go_simp; rfl)); intro gb339 hg w3 hbox hb; have BK339 := Az.mk (hbox); have GW339 := Az.mk (geO hg (pbE HB.out)); have GE339 := Az.mk (geO hg (pbE HB.out)); replace HB := Az.mk (pbT (by exact pbE HB.out) hb); clear hb hbox hg) | ((with_reducible refine gate_dst (N := 4) rfl ?_); refine box_event ?hg (N := 4) ?hd (cs := #[.int .i64 0, .int .i64 0]) (t := 30) ?hr ?_; (case hd => rfl); (case hg => rfl); (case hr => first | (go_simp; done) | (go_simp; rfl)); intro gb340 hg w4 hbox hb; have BK340 := Az.mk (hbox); have GW340 := Az.mk (geO hg (pbE HB.out)); have GE340 := Az.mk (geO hg (pbE HB.out)); replace HB := Az.mk (pbT (by exact pbE HB.out) hb); have NB339_340 := Az.mk (neO hg (bk BK339.out)); have NB340_339 := Az.mk (neP hg (bk BK339.out)); replace BK339 := Az.mk (bkB (bk BK339.out) hb); clear hb hbox hg))
 go_loopg [6] k (fun kq v6 w' => ∃ (x6_1 : Int) (x341000_1 : Int) (x341001_1 : Int), v6 = .int .i64 x6_1 ∧ Az (r06_Has.l0 kq a1 x6_1 a0_0 a0_1 a0_2 a0_3 l0_4 a0_5 = some (r1, r2, r3)) ∧ Az (kq ≤ k) ∧ Az (w'.heap[gb339]? = some (.cells #[.int .i64 a0_0, .string a0_1, .string a0_2, .int .i64 a0_3, (.slice A0_4 l0_4.length c0_4), .int .i64 a0_5] 26 (0, 0))) ∧ Az (w'.heap[gb340]? = some (.cells #[.int .i64 x341000_1, .int .i64 x341001_1] 30 (0, 0))) ∧ Az (Below w.heap.size w w'))
 case atStart => exact ⟨(0), (0), (0), (by first | rfl | (simp; done) | (simp [*]; done)), H', ⟨Nat.le_refl _⟩, ⟨by refine bk ?_; exact BK339.out⟩, ⟨by refine bk ?_; exact BK340.out⟩, ⟨by exact pbE HB.out⟩⟩
 case round =>
  clear H'
  try clear p2
  obtain ⟨x6_1, x341000_1, x341001_1, rfl, HA, HK1, BK339, BK340, HB⟩ := hrel
  cases gk with
  | zero => exact absurd HA.out (by simp [r06_Has.l0])
  | succ k1 =>
   have H := HA.out
   clear HA
   simp only [r06_Has.l0] at H
   by_cases c5 : x6_1 < (l0_4.length : Int)
   ·rw [if_pos c5] at H
    have c5b0 : decide (x6_1 < (l0_4.length : Int)) = true := decide_eq_true c5
    clear c5
    by_cases c6 : 0 ≤ x6_1
    ·rw [if_pos c6] at H
     have c6b0 : decide (0 ≤ x6_1) = true := decide_eq_true c6
     clear c6
     by_cases c7 : ((rd_T30 l0_4 x6_1).f1) = a1
     ·rw [if_pos c7] at H
      have c7b0 : (((rd_T30 l0_4 x6_1).f1) == a1) = true := beq_iff_eq.mpr c7
      have c7b1 : (((rd_T30 l0_4 x6_1).f1) != a1) = false := bne_eq_false_iff_eq.mpr c7
      clear c7
      simp only [Option.some.injEq, Prod.mk.injEq] at H
      obtain ⟨rfl, rfl, rfl⟩ := H
      have hnb8 := NB339_340.out
      have hnc8 := NB340_339.out
      have hcz9 := cells6 BK339.out
      have p341 : 0 ≤ (x6_1 : Int) := of_decide_eq_true (by first | (with_reducible assumption) | assumption)
      have q341 : x6_1 < (l0_4.length : Int) := of_decide_eq_true (by first | (with_reducible assumption) | assumption)
      obtain ⟨ad341, e341, hx341_0, hx341_1⟩ := at_T30 HR0_4.out x6_1 p341 q341
      cases e341
      replace hx341_0 := (HB.out.cell (World.block_lt_of_cell? w _ hx341_0)).trans hx341_0
      replace hx341_1 := (HB.out.cell (World.block_lt_of_cell? w _ hx341_1)).trans hx341_1
      replace p341 := eq_true p341
      replace q341 := eq_true q341
      have p342 : 0 ≤ (x6_1 : Int) := of_decide_eq_true (by first | (with_reducible assumption) | assumption)
      have q342 : x6_1 < (l0_4.length : Int) := of_decide_eq_true (by first | (with_reducible assumption) | assumption)
      obtain ⟨ad342, e342, hx342_0, hx342_1⟩ := at_T30 HR0_4.out x6_1 p342 q342
      obtain rfl : ad341 = ad342 := (by injection e342)
      replace hx342_0 := (HB.out.cell (World.block_lt_of_cell? w _ hx342_0)).trans hx342_0
      replace hx342_1 := (HB.out.cell (World.block_lt_of_cell? w _ hx342_1)).trans hx342_1
      replace p342 := eq_true p342
      replace q342 := eq_true q342
      have hcz10 := cells2 BK340.out
      go_wp2
      refine bodyPost_ret (results_ct rfl _ _ gb340 30 #[.int .i64 ((rd_T30 l0_4 x6_1).f0), .int .i64 ((rd_T30 l0_4 x6_1).f1)] (0, 0) _ rfl (by refine bk ?_; refine blk_put (cs := #[.int .i64 ((rd_T30 l0_4 x6_1).f0), .int .i64 x341001_1]) ?_ 1 _ rfl; refine bk ?_; refine blk_put (cs := #[.int .i64 x341000_1, .int .i64 x341001_1]) ?_ 0 _ rfl; refine bk ?_; exact BK340.out) Tryz.underlying30 rfl (by kernel_rfl)) rfl ?_
      exact ⟨by first | rfl | (simp [errW_none, errW_some] <;> rfl) | (simp [*, errW_none, errW_some] <;> rfl), by exact pbE HB.out⟩
     ·rw [if_neg c7] at H
      have c7b0 : (((rd_T30 l0_4 x6_1).f1) == a1) = false := beq_eq_false_iff_ne.mpr c7
      have c7b1 : (((rd_T30 l0_4 x6_1).f1) != a1) = true := bne_iff_ne.mpr c7
      have H' := Az.mk H
      clear H
      have hnb11 := NB339_340.out
      have hnc11 := NB340_339.out
      have hcz12 := cells6 BK339.out
      have p341 : 0 ≤ (x6_1 : Int) := of_decide_eq_true (by first | (with_reducible assumption) | assumption)
      have q341 : x6_1 < (l0_4.length : Int) := of_decide_eq_true (by first | (with_reducible assumption) | assumption)
      obtain ⟨ad341, e341, hx341_0, hx341_1⟩ := at_T30 HR0_4.out x6_1 p341 q341
      cases e341
      replace hx341_0 := (HB.out.cell (World.block_lt_of_cell? w _ hx341_0)).trans hx341_0
      replace hx341_1 := (HB.out.cell (World.block_lt_of_cell? w _ hx341_1)).trans hx341_1
      replace p341 := eq_true p341
      replace q341 := eq_true q341
      go_wp2
      go_roundg k1
      case measure => have := HK1.out; omega
      case rel => exact ⟨(wrap64 (x6_1 + 1)), (x341000_1), (x341001_1), (by first | rfl | (simp; done) | (simp [*]; done)), H', ⟨by have := HK1.out; omega⟩, ⟨by refine bk ?_; exact BK339.out⟩, ⟨by refine bk ?_; exact BK340.out⟩, ⟨by exact pbE HB.out⟩⟩
    ·rw [if_neg c6] at H
     exact absurd H (by simp)
   ·rw [if_neg c5] at H
    have c5b0 : decide (x6_1 < (l0_4.length : Int)) = false := decide_eq_false c5
    clear c5
    simp only [Option.some.injEq, Prod.mk.injEq] at H
    obtain ⟨rfl, rfl, rfl⟩ := H
    have hnb13 := NB339_340.out
    have hnc13 := NB340_339.out
    have hcz14 := cells6 BK339.out
    have hcz15 := cells2 BK340.out
    go_wp2
    refine bodyPost_ret (results_ct rfl _ _ gb340 30 #[.int .i64 0, .int .i64 0] (0, 0) _ rfl (by refine bk ?_; refine blk_put (cs := #[.int .i64 0, .int .i64 x341001_1]) ?_ 1 _ rfl; refine bk ?_; refine blk_put (cs := #[.int .i64 x341000_1, .int .i64 x341001_1]) ?_ 0 _ rfl; refine bk ?_; exact BK340.out) Tryz.underlying30 rfl (by kernel_rfl)) rfl ?_
    exact ⟨by first | rfl | (simp [errW_none, errW_some] <;> rfl) | (simp [*, errW_none, errW_some] <;> rfl), by exact pbE HB.out⟩
end Go.Proofs.YtjfhcijjjadhbaaGreatDoor.P
end
section
namespace Go.Proofs.YtjfhcijjjadhbaaGreatDoor.P
open Go.RowKit Go.Proofs.YtjfhcijjjadhbaaGreatDoor.K Go.Proofs.YtjfhcijjjadhbaaGreatDoorW.PrintWords Go.Proofs.YtjfhcijjjadhbaaGreatDoorW.PrintLast Go.Proofs.YtjfhcijjjadhbaaGreatDoorW.PrintMore
attribute [local go_sem] max2_int min2_int max_two min_two max_three min_three max_four min_four   -- for this text's walks alone
attribute [local go_sem high] eqA23
def r06_Same.f (k : Nat) (a0_0 : Int) (a0_1 : ByteArray) (a0_2 : ByteArray) (a0_3 : Int) (l0_4 : List (S30)) (a0_5 : Int) (a1_0 : Int) (a1_1 : ByteArray) (a1_2 : ByteArray) (a1_3 : Int) (l1_4 : List (S30)) (a1_5 : Int) : Option (Bool) := if a0_0 = a1_0 then (if (a0_1.toList == a1_1.toList && (a0_2.toList == a1_2.toList)) = true then (if a0_3 = a1_3 then (if a0_5 = a1_5 then ((r06_Members.f k l0_4 l1_4).bind fun t188 => (some t188)) else (some false)) else (some false)) else (some false)) else (some false)
theorem r06_Same.mono : ∀ a0 a1 a2 a3 a4 a5 a6 a7 a8 a9 a10 a11 k, LeO (r06_Same.f k a0 a1 a2 a3 a4 a5 a6 a7 a8 a9 a10 a11) (r06_Same.f (k + 1) a0 a1 a2 a3 a4 a5 a6 a7 a8 a9 a10 a11) := by
 intro a0 a1 a2 a3 a4 a5 a6 a7 a8 a9 a10 a11 k
 unfold r06_Same.f
 repeat' first
  | (with_reducible exact r06_Members.mono _ _ _)
  | (with_reducible exact LeO.refl _)
  | (with_reducible exact LeO.none _)
  | (with_reducible refine LeO.ite ?_ ?_)
  | (with_reducible refine LeO.bind ?_ (fun _ => ?_))
  | exact r06_Members.mono _ _ _
  | exact LeO.none _
  | refine LeO.ite ?_ ?_
  | refine LeO.bind ?_ (fun _ => ?_)
set_option maxHeartbeats 8000000 in
set_option maxRecDepth 100000 in
theorem r06_Same.calls (k : Nat) (a0_0 : Int) (a0_1 : ByteArray) (a0_2 : ByteArray) (a0_3 : Int) (A0_4 : Option Addr) (c0_4 : Nat) (l0_4 : List (S30)) (a0_5 : Int) (a1_0 : Int) (a1_1 : ByteArray) (a1_2 : ByteArray) (a1_3 : Int) (A1_4 : Option Addr) (c1_4 : Nat) (l1_4 : List (S30)) (a1_5 : Int) (r : Bool) (w : World) (hG : TheG w) (hr0_4 : Kd.C k30 w A0_4 l0_4.length l0_4) (hc0_4 : l0_4.length ≤ c0_4) (hr1_4 : Kd.C k30 w A1_4 l1_4.length l1_4) (hc1_4 : l1_4.length ≤ c1_4) (h : r06_Same.f k a0_0 a0_1 a0_2 a0_3 l0_4 a0_5 a1_0 a1_1 a1_2 a1_3 l1_4 a1_5 = some r) :
 Calls Tryz.prog 15 #[.agg #[.int .i64 a0_0, .string a0_1, .string a0_2, .int .i64 a0_3, .slice A0_4 l0_4.length c0_4, .int .i64 a0_5], .agg #[.int .i64 a1_0, .string a1_1, .string a1_2, .int .i64 a1_3, .slice A1_4 l1_4.length c1_4, .int .i64 a1_5]] w fun e w' => e = .returned (.bool r) ∧ Below w.heap.size w w' := by
 have hu26 := Tryz.underlying26
 have hu23 := Tryz.underlying23
 have HR0_4 := Az.mk hr0_4
 have HC0_4 := Az.mk hc0_4
 clear hr0_4 hc0_4
 have HR1_4 := Az.mk hr1_4
 have HC1_4 := Az.mk hc1_4
 clear hr1_4 hc1_4
 have HB := Az.mk (Below.refl w.heap.size w)
 have H : (if a0_0 = a1_0 then (if (a0_1.toList == a1_1.toList && (a0_2.toList == a1_2.toList)) = true then (if a0_3 = a1_3 then (if a0_5 = a1_5 then ((r06_Members.f k l0_4 l1_4).bind fun t188 => (some t188)) else (some false)) else (some false)) else (some false)) else (some false)) = some r := h
 clear h
 by_cases c3 : a0_0 = a1_0
 ·rw [if_pos c3] at H
  have c3b0 : (a0_0 == a1_0) = true := beq_iff_eq.mpr c3
  have c3b1 : (a0_0 != a1_0) = false := bne_eq_false_iff_eq.mpr c3
  clear c3
  by_cases c4 : (a0_1.toList == a1_1.toList && (a0_2.toList == a1_2.toList)) = true
  ·rw [if_pos c4] at H
   have c4b0 : (a0_1.toList == a1_1.toList && (a0_2.toList == a1_2.toList)) = true := c4
   (try (have c4b1 : decide (a0_1.toList = a1_1.toList && (a0_2.toList == a1_2.toList)) = true := by simpa using c4))
   (try (have c4b2 : (a0_1.toList == a1_1.toList && (a0_2.toList == a1_2.toList)) = true := by simpa using c4))
   clear c4
   by_cases c5 : a0_3 = a1_3
   ·rw [if_pos c5] at H
    have c5b0 : (a0_3 == a1_3) = true := beq_iff_eq.mpr c5
    have c5b1 : (a0_3 != a1_3) = false := bne_eq_false_iff_eq.mpr c5
    clear c5
    by_cases c6 : a0_5 = a1_5
    ·rw [if_pos c6] at H
     have c6b0 : (a0_5 == a1_5) = true := beq_iff_eq.mpr c6
     have c6b1 : (a0_5 != a1_5) = false := bne_eq_false_iff_eq.mpr c6
     clear c6
     replace H := Option.bind_eq_some_iff.mp H
     obtain ⟨t188, A70, H⟩ := H
     replace H : (some t188) = some r := H
     have A7 := Az.mk A70
     clear A70
     obtain rfl := Option.some.inj H
     go_enter Tryz.func15, Tryz.ntmps15
     go_wp2_with (first | ((with_reducible refine gate_dst (N := 2) rfl ?_); refine box_event ?hg (N := 2) ?hd (cs := #[.int .i64 a0_0, .string a0_1, .string a0_2, .int .i64 a0_3, .slice A0_4 l0_4.length c0_4, .int .i64 a0_5]) (t := 26) ?hr ?_; (case hd => rfl); (case hg => rfl); (case hr => first | (go_simp; done) | (go_simp; rfl)); intro gb186 hg w8 hbox hb; have BK186 := Az.mk (hbox); have GW186 := Az.mk (geO hg (pbE HB.out)); have GE186 := Az.mk (geO hg (pbE HB.out)); replace HB := Az.mk (pbT (by exact pbE HB.out) hb); clear hb hbox hg) | ((with_reducible refine gate_dst (N := 3) rfl ?_); refine box_event ?hg (N := 3) ?hd (cs := #[.int .i64 a1_0, .string a1_1, .string a1_2, .int .i64 a1_3, .slice A1_4 l1_4.length c1_4, .int .i64 a1_5]) (t := 26) ?hr ?_; (case hd => rfl); (case hg => rfl); (case hr => first | (go_simp; done) | (go_simp; rfl)); intro gb187 hg w9 hbox hb; have BK187 := Az.mk (hbox); have GW187 := Az.mk (geO hg (pbE HB.out)); have GE187 := Az.mk (geO hg (pbE HB.out)); replace HB := Az.mk (pbT (by exact pbE HB.out) hb); have NB186_187 := Az.mk (neO hg (bk BK186.out)); have NB187_186 := Az.mk (neP hg (bk BK186.out)); replace BK186 := Az.mk (bkB (bk BK186.out) hb); clear hb hbox hg; have hnb10 := NB186_187.out; have hnc10 := NB187_186.out; have hcz11 := cells6 BK186.out; have hcz12 := cells6 BK187.out) | (go_at_call 39; (with_reducible refine (r06_Members.calls k _ _ l0_4 _ _ l1_4 t188 _ ?side1 ?side2 ?side3 ?side4 ?side5 A7.out).mono ?_); (case side1 => exact hG.below (by exact pbE HB.out)); (case side2 => repeat (first | exact (Kd.C_below HR0_4.out HB.out) | (with_reducible refine Kd.C_alloc ?_ _) | (with_reducible refine Kd.C_drewN ?_ _) | (with_reducible refine Kd.C_drew ?_))); (case side3 => exact HC0_4.out); (case side4 => repeat (first | exact (Kd.C_below HR1_4.out HB.out) | (with_reducible refine Kd.C_alloc ?_ _) | (with_reducible refine Kd.C_drewN ?_ _) | (with_reducible refine Kd.C_drew ?_))); (case side5 => exact HC1_4.out); rintro e w' ⟨rfl, ⟨nd, rfl⟩⟩))
     go_ret
     exact ⟨by first | rfl | (simp [errW_none, errW_some] <;> rfl) | (simp [*, errW_none, errW_some] <;> rfl), by exact pbE HB.out⟩
    ·rw [if_neg c6] at H
     have c6b0 : (a0_5 == a1_5) = false := beq_eq_false_iff_ne.mpr c6
     have c6b1 : (a0_5 != a1_5) = true := bne_iff_ne.mpr c6
     obtain rfl := Option.some.inj H
     go_enter Tryz.func15, Tryz.ntmps15
     go_wp2_with (first | ((with_reducible refine gate_dst (N := 2) rfl ?_); refine box_event ?hg (N := 2) ?hd (cs := #[.int .i64 a0_0, .string a0_1, .string a0_2, .int .i64 a0_3, .slice A0_4 l0_4.length c0_4, .int .i64 a0_5]) (t := 26) ?hr ?_; (case hd => rfl); (case hg => rfl); (case hr => first | (go_simp; done) | (go_simp; rfl)); intro gb186 hg w13 hbox hb; have BK186 := Az.mk (hbox); have GW186 := Az.mk (geO hg (pbE HB.out)); have GE186 := Az.mk (geO hg (pbE HB.out)); replace HB := Az.mk (pbT (by exact pbE HB.out) hb); clear hb hbox hg) | ((with_reducible refine gate_dst (N := 3) rfl ?_); refine box_event ?hg (N := 3) ?hd (cs := #[.int .i64 a1_0, .string a1_1, .string a1_2, .int .i64 a1_3, .slice A1_4 l1_4.length c1_4, .int .i64 a1_5]) (t := 26) ?hr ?_; (case hd => rfl); (case hg => rfl); (case hr => first | (go_simp; done) | (go_simp; rfl)); intro gb187 hg w14 hbox hb; have BK187 := Az.mk (hbox); have GW187 := Az.mk (geO hg (pbE HB.out)); have GE187 := Az.mk (geO hg (pbE HB.out)); replace HB := Az.mk (pbT (by exact pbE HB.out) hb); have NB186_187 := Az.mk (neO hg (bk BK186.out)); have NB187_186 := Az.mk (neP hg (bk BK186.out)); replace BK186 := Az.mk (bkB (bk BK186.out) hb); clear hb hbox hg; have hnb15 := NB186_187.out; have hnc15 := NB187_186.out; have hcz16 := cells6 BK186.out; have hcz17 := cells6 BK187.out))
     go_ret
     exact ⟨by first | rfl | (simp [errW_none, errW_some] <;> rfl) | (simp [*, errW_none, errW_some] <;> rfl), by exact pbE HB.out⟩
   ·rw [if_neg c5] at H
    have c5b0 : (a0_3 == a1_3) = false := beq_eq_false_iff_ne.mpr c5
    have c5b1 : (a0_3 != a1_3) = true := bne_iff_ne.mpr c5
    obtain rfl := Option.some.inj H
    go_enter Tryz.func15, Tryz.ntmps15
    go_wp2_with (first | ((with_reducible refine gate_dst (N := 2) rfl ?_); refine box_event ?hg (N := 2) ?hd (cs := #[.int .i64 a0_0, .string a0_1, .string a0_2, .int .i64 a0_3, .slice A0_4 l0_4.length c0_4, .int .i64 a0_5]) (t := 26) ?hr ?_; (case hd => rfl); (case hg => rfl); (case hr => first | (go_simp; done) | (go_simp; rfl)); intro gb186 hg w18 hbox hb; have BK186 := Az.mk (hbox); have GW186 := Az.mk (geO hg (pbE HB.out)); have GE186 := Az.mk (geO hg (pbE HB.out)); replace HB := Az.mk (pbT (by exact pbE HB.out) hb); clear hb hbox hg) | ((with_reducible refine gate_dst (N := 3) rfl ?_); refine box_event ?hg (N := 3) ?hd (cs := #[.int .i64 a1_0, .string a1_1, .string a1_2, .int .i64 a1_3, .slice A1_4 l1_4.length c1_4, .int .i64 a1_5]) (t := 26) ?hr ?_; (case hd => rfl); (case hg => rfl); (case hr => first | (go_simp; done) | (go_simp; rfl)); intro gb187 hg w19 hbox hb; have BK187 := Az.mk (hbox); have GW187 := Az.mk (geO hg (pbE HB.out)); have GE187 := Az.mk (geO hg (pbE HB.out)); replace HB := Az.mk (pbT (by exact pbE HB.out) hb); have NB186_187 := Az.mk (neO hg (bk BK186.out)); have NB187_186 := Az.mk (neP hg (bk BK186.out)); replace BK186 := Az.mk (bkB (bk BK186.out) hb); clear hb hbox hg; have hnb20 := NB186_187.out; have hnc20 := NB187_186.out; have hcz21 := cells6 BK186.out; have hcz22 := cells6 BK187.out))
    go_ret
    exact ⟨by first | rfl | (simp [errW_none, errW_some] <;> rfl) | (simp [*, errW_none, errW_some] <;> rfl), by exact pbE HB.out⟩
  ·rw [if_neg c4] at H
   have c4b0 : (a0_1.toList == a1_1.toList && (a0_2.toList == a1_2.toList)) = false := by simpa using c4
   (try (have c4b1 : decide (a0_1.toList = a1_1.toList && (a0_2.toList == a1_2.toList)) = false := by simpa using c4))
   (try (have c4b2 : (a0_1.toList == a1_1.toList && (a0_2.toList == a1_2.toList)) = false := by simpa using c4))
   (try (have c4b3 : ¬ (a0_1.toList = a1_1.toList && (a0_2.toList == a1_2.toList)) := by simpa using c4))
   clear c4
   obtain rfl := Option.some.inj H
   go_enter Tryz.func15, Tryz.ntmps15
   go_wp2_with (first | ((with_reducible refine gate_dst (N := 2) rfl ?_); refine box_event ?hg (N := 2) ?hd (cs := #[.int .i64 a0_0, .string a0_1, .string a0_2, .int .i64 a0_3, .slice A0_4 l0_4.length c0_4, .int .i64 a0_5]) (t := 26) ?hr ?_; (case hd => rfl); (case hg => rfl); (case hr => first | (go_simp; done) | (go_simp; rfl)); intro gb186 hg w23 hbox hb; have BK186 := Az.mk (hbox); have GW186 := Az.mk (geO hg (pbE HB.out)); have GE186 := Az.mk (geO hg (pbE HB.out)); replace HB := Az.mk (pbT (by exact pbE HB.out) hb); clear hb hbox hg) | ((with_reducible refine gate_dst (N := 3) rfl ?_); refine box_event ?hg (N := 3) ?hd (cs := #[.int .i64 a1_0, .string a1_1, .string a1_2, .int .i64 a1_3, .slice A1_4 l1_4.length c1_4, .int .i64 a1_5]) (t := 26) ?hr ?_; (case hd => rfl); (case hg => rfl); (case hr => first | (go_simp; done) | (go_simp; rfl)); intro gb187 hg w24 hbox hb; have BK187 := Az.mk (hbox); have GW187 := Az.mk (geO hg (pbE HB.out)); have GE187 := Az.mk (geO hg (pbE HB.out)); replace HB := Az.mk (pbT (by exact pbE HB.out) hb); have NB186_187 := Az.mk (neO hg (bk BK186.out)); have NB187_186 := Az.mk (neP hg (bk BK186.out)); replace BK186 := Az.mk (bkB (bk BK186.out) hb); clear hb hbox hg; have hnb25 := NB186_187.out; have hnc25 := NB187_186.out; have hcz26 := cells6 BK186.out; have hcz27 := cells6 BK187.out))
   go_ret
   exact ⟨by first | rfl | (simp [errW_none, errW_some] <;> rfl) | (simp [*, errW_none, errW_some] <;> rfl), by exact pbE HB.out⟩
 ·rw [if_neg c3] at H
  have c3b0 : (a0_0 == a1_0) = false := beq_eq_false_iff_ne.mpr c3
  have c3b1 : (a0_0 != a1_0) = true := bne_iff_ne.mpr c3
  obtain rfl := Option.some.inj H
  go_enter Tryz.func15, Tryz.ntmps15
  go_wp2_with (first | ((with_reducible refine gate_dst (N := 2) rfl ?_); refine box_event ?hg (N := 2) ?hd (cs := #[.int .i64 a0_0, .string a0_1, .string a0_2, .int .i64 a0_3, .slice A0_4 l0_4.length c0_4, .int .i64 a0_5]) (t := 26) ?hr ?_; (case hd => rfl); (case hg => rfl); (case hr => first | (go_simp; done) | (go_simp; rfl)); intro gb186 hg w28 hbox hb; have BK186 := Az.mk (hbox); have GW186 := Az.mk (geO hg (pbE HB.out)); have GE186 := Az.mk (geO hg (pbE HB.out)); replace HB := Az.mk (pbT (by exact pbE HB.out) hb); clear hb hbox hg) | ((with_reducible refine gate_dst (N := 3) rfl ?_); refine box_event ?hg (N := 3) ?hd (cs := #[.int .i64 a1_0, .string a1_1, .string a1_2, .int .i64 a1_3, .slice A1_4 l1_4.length c1_4, .int .i64 a1_5]) (t := 26) ?hr ?_; (case hd => rfl); (case hg => rfl); (case hr => first | (go_simp; done) | (go_simp; rfl)); intro gb187 hg w29 hbox hb; have BK187 := Az.mk (hbox); have GW187 := Az.mk (geO hg (pbE HB.out)); have GE187 := Az.mk (geO hg (pbE HB.out)); replace HB := Az.mk (pbT (by exact pbE HB.out) hb); have NB186_187 := Az.mk (neO hg (bk BK186.out)); have NB187_186 := Az.mk (neP hg (bk BK186.out)); replace BK186 := Az.mk (bkB (bk BK186.out) hb); clear hb hbox hg; have hnb30 := NB186_187.out; have hnc30 := NB187_186.out; have hcz31 := cells6 BK186.out; have hcz32 := cells6 BK187.out))
  go_ret
  exact ⟨by first | rfl | (simp [errW_none, errW_some] <;> rfl) | (simp [*, errW_none, errW_some] <;> rfl), by exact pbE HB.out⟩
end Go.Proofs.YtjfhcijjjadhbaaGreatDoor.P
end
section
namespace Go.Proofs.YtjfhcijjjadhbaaGreatDoor.V
open Go.RowKit Go.Proofs.YtjfhcijjjadhbaaGreatDoorW.PrintWords Go.Proofs.YtjfhcijjjadhbaaGreatDoorW.PrintLast Go.Proofs.YtjfhcijjjadhbaaGreatDoorW.PrintMore Go.Proofs.YtjfhcijjjadhbaaGreatDoor.P Go.Proofs.YtjfhcijjjadhbaaGreatDoor.K Go.Proofs.YtjfhcijjjadhbaaGreatDoor.A
theorem rmembers_ev (a b : List S30) (hm : a.length ≤ 9223372036854775000) : Ev (fun k => r06_Members.f k a b) (decide (a = b)) := by
 refine Ev.ite (fun h => ?_) (fun h => ?_)
 ·have hl : a.length = b.length := by omega
  have := Ev.upto (F := fun k (_ : Unit) i => r06_Members.l0 k a b i) (n := a.length) (G := fun _ i => decide (a.drop i = b.drop i)) (I := fun _ _ => True)
   (by
    intro _ i hi _ ih
    have hi2 : i < b.length := by omega
    have hd1 : a.drop i = a[i] :: a.drop (i + 1) := List.drop_eq_getElem_cons hi
    have hd2 : b.drop i = b[i] :: b.drop (i + 1) := List.drop_eq_getElem_cons hi2
    simp only [r06_Members.l0, if_pos (lt_cast hi), if_pos (nn i), if_pos (lt_cast hi2), rd_lt hi, rd_lt hi2, hd1, hd2, wrap_nat (n := i) (by omega)]
    refine Ev.ite (fun h => ?_) (fun h => ?_)
    ·rw [decide_eq_false (fun e => ?_)]
     ·exact Ev.now _
     ·injection e with e1 _
      rw [e1] at h
      simp at h
    ·have e1 : a[i] = b[i] := by
      simp only [Bool.or_eq_true, Bool.not_eq_true', beq_eq_false_iff_ne, not_or, ne_eq, Classical.not_not] at h
      exact M_ext h.1 h.2
     rw [show decide (a[i] :: a.drop (i + 1) = b[i] :: b.drop (i + 1)) = decide (a.drop (i + 1) = b.drop (i + 1)) from decide_eq_decide.2 ⟨fun h => by injection h, fun h => by rw [e1, h]⟩]
     exact ih () trivial)
   (by
    intro _ _
    have e : decide (a.drop a.length = b.drop a.length) = true := decide_eq_true (by rw [List.drop_length, hl, List.drop_length])
    rw [e]
    simp only [r06_Members.l0, if_neg (Int.lt_irrefl _)]
    exact Ev.now _) 0 (Nat.zero_le _) () trivial
  exact this
 ·rw [decide_eq_false (fun e => h (by rw [e]))]; exact Ev.now _
theorem rid_eq (n : Int) : r06_id.f n = some (okId n) := by
 unfold r06_id.f okId
 split
 ·congr 1; exact decide_eq_decide.2 (by omega)
 ·rw [decide_eq_false (by omega)]
theorem rbound_eq (f t : ByteArray) : r02_Is.f f t = some (boundOk f t) := by
 unfold r02_Is.f boundOk
 by_cases h1 : (f.size : Int) ≤ 33
 ·by_cases h2 : (t.size : Int) ≤ 33
  ·rw [if_pos h1, if_pos h2, if_pos (show f.size ≤ 33 ∧ t.size ≤ 33 by omega)]
   split
   ·rename_i h; rw [h]; rfl
   ·rename_i h; rw [beq_eq_false_iff_ne.2 h, Bool.false_or]
  ·rw [if_pos h1, if_neg h2, if_neg (by omega)]
 ·rw [if_neg h1, if_neg (by omega)]
def lastAt (l : List S30) (i : Nat) : Int := if i = 0 then 0 else (l.getD (i - 1) ⟨0, 0⟩).f1
def onAt (l : List S30) (i : Nat) : Nat → Bool := fun j => (l.take i).any fun m => m.f0.toNat == j
theorem onAt_succ {l : List S30} {i : Nat} (h : i < l.length) : onAt l (i + 1) = fun j => j == l[i].f0.toNat || onAt l i j := by
 funext j
 unfold onAt
 rw [List.take_succ_eq_append_getElem h, List.any_append, Bool.or_comm]
 simp [Bool.beq_comm]
theorem lastAt_succ {l : List S30} {i : Nat} (h : i < l.length) : lastAt l (i + 1) = l[i].f1 := by
 unfold lastAt
 rw [if_neg (by omega), Nat.add_sub_cancel, List.getD_eq_getElem?_getD, List.getElem?_eq_getElem h]; rfl
theorem onAt_any {l : List S30} {i : Nat} {n : Int} (hv : ∀ x ∈ l.take i, 1 ≤ x.f0) (hn : 1 ≤ n) : onAt l i n.toNat = (l.take i).any fun x => x.f0 == n := by
 unfold onAt
 rw [Bool.eq_iff_iff, List.any_eq_true, List.any_eq_true]
 constructor
 ·rintro ⟨x, hx, h⟩
  have := hv x hx
  have h := beq_iff_eq.1 h
  exact ⟨x, hx, beq_iff_eq.2 (by omega)⟩
 ·rintro ⟨x, hx, h⟩
  have h := beq_iff_eq.1 h
  exact ⟨x, hx, beq_iff_eq.2 (by rw [h])⟩
theorem is_inner {id : Int} {fr tu : ByteArray} {gen : Int} {l : List S30} {nx m0 m1 : Int} (hm : l.length ≤ 1000000) {i : Nat} (hi : i < l.length) {r : Bool} (hK : Ev (fun k => r06_Is.l0 k ((i + 1 : Nat) : Int) id fr tu gen l nx) r) :
 Ev (fun k => r06_Is.l1 k (i : Int) 0 id fr tu gen l nx m0 m1) (if ((l.take i).any fun x => x.f0 == m0) = true then false else r) := by
 have := Ev.upto (F := fun k (_ : Unit) j => r06_Is.l1 k (i : Int) j id fr tu gen l nx m0 m1) (n := i) (G := fun _ j => if (((l.take i).drop j).any fun x => x.f0 == m0) = true then false else r) (I := fun _ _ => True)
  (by
   intro _ j hj _ ih
   have hjl : j < l.length := by omega
   have hjt : j < (l.take i).length := by rw [List.length_take]; omega
   have hdrop : (l.take i).drop j = l[j] :: (l.take i).drop (j + 1) := by rw [List.drop_eq_getElem_cons hjt, List.getElem_take]
   simp only [r06_Is.l1, if_pos (lt_cast hj), if_pos (nn j), if_pos (lt_cast hjl), rd_lt hjl, wrap_nat (n := j) (by omega), hdrop, List.any_cons]
   refine Ev.ite (fun h => ?_) (fun h => ?_)
   ·rw [beq_iff_eq.2 h, Bool.true_or, if_pos rfl]; exact Ev.now _
   ·rw [beq_eq_false_iff_ne.2 h, Bool.false_or]; exact ih () trivial)
  (by
   intro _ _
   rw [List.drop_of_length_le (by rw [List.length_take]; omega)]
   simp only [r06_Is.l1, if_neg (Int.lt_irrefl _), wrap_nat (n := i) (by omega), List.any_nil]
   exact hK) 0 (Nat.zero_le _) () trivial
 rw [List.drop_zero] at this
 exact this
theorem is_loop {id : Int} {fr tu : ByteArray} {gen : Int} {l : List S30} {nx : Int} (hm : l.length ≤ 1000000) : Ev (fun k => r06_Is.l0 k 0 id fr tu gen l nx) (isMem nx 0 (fun _ => false) l) := by
 have hj2 : ∀ {i : Int} {m0 m1 : Int}, Ev (fun k => r06_Is.j2 k i true id fr tu gen l nx m0 m1) false := by
  intro i m0 m1
  refine Ev.shift ?_
  simp only [r06_Is.j2, if_true]
  exact Ev.now _
 have := Ev.upto (F := fun k (_ : Unit) i => r06_Is.l0 k i id fr tu gen l nx) (n := l.length) (G := fun _ i => isMem nx (lastAt l i) (onAt l i) (l.drop i)) (I := fun _ i => (∀ x ∈ l.take i, 1 ≤ x.f0) ∧ 0 ≤ lastAt l i)
  (by
   intro _ i hi hI ih
   obtain ⟨hv, hl0⟩ := hI
   have hdrop : l.drop i = l[i] :: l.drop (i + 1) := List.drop_eq_getElem_cons hi
   simp only [r06_Is.l0, if_pos (lt_cast hi), if_pos (nn i), rd_lt hi, hdrop, isMem]
   refine Ev.ite (fun c1 => ?_) (fun c1 => Ev.ite (fun c2 => ?_) (fun c2 => Ev.ite (fun c3 => ?_) (fun c3 => Ev.ite (fun c4 => ?_) (fun c4 => ?_))))
   ·rw [if_neg (by omega)]; exact hj2
   ·rw [if_neg (by omega)]; exact hj2
   ·rw [if_neg (by omega)]; exact hj2
   ·rw [if_neg (by omega)]; exact hj2
   ·have h1 : 1 ≤ l[i].f0 := by omega
    have fin : ∀ b : Bool, (b = true ↔ l[i].f1 ≤ lastAt l i) → Ev (fun k => r06_Is.j2 k (i : Int) b id fr tu gen l nx l[i].f0 l[i].f1) (if 1 ≤ l[i].f0 ∧ l[i].f0 ≤ 7 ∧ onAt l i l[i].f0.toNat = false ∧ lastAt l i < l[i].f1 ∧ l[i].f1 < nx then isMem nx l[i].f1 (fun j => j == l[i].f0.toNat || onAt l i j) (l.drop (i + 1)) else false) := by
     intro b hb
     cases b with
     | true =>
      have := hb.1 rfl
      rw [if_neg (by omega)]; exact hj2
     | false =>
      have hlt : lastAt l i < l[i].f1 := by
       by_cases c : l[i].f1 ≤ lastAt l i
       ·exact absurd (hb.2 c) (by simp)
       ·omega
      refine Ev.shift ?_
      simp only [r06_Is.j2, Bool.false_eq_true, if_false]
      have hk := ih () ⟨fun x hx => by
       rw [List.take_succ_eq_append_getElem hi] at hx
       rcases List.mem_append.1 hx with hx | hx
       ·exact hv x hx
       ·rw [List.mem_singleton.1 hx]; exact h1, by rw [lastAt_succ hi]; omega⟩
      have hin := is_inner (m0 := l[i].f0) (m1 := l[i].f1) hm hi hk
      rw [← onAt_any hv h1, lastAt_succ hi, onAt_succ hi] at hin
      cases ho : onAt l i l[i].f0.toNat with
      | true =>
       rw [ho, if_pos rfl] at hin
       rw [if_neg (by simp)]; exact hin
      | false =>
       rw [ho, if_neg (by simp)] at hin
       rw [if_pos ⟨h1, by omega, rfl, hlt, by omega⟩]; exact hin
    refine Ev.ite (fun c5 => ?_) (fun c5 => ?_)
    ·have hw : wrap64 ((i : Int) - 1) = ((i - 1 : Nat) : Int) := by rw [wrap_in (by omega) (by omega)]; omega
     have hi1 : i - 1 < l.length := by omega
     simp only [hw, if_pos (nn (i - 1)), if_pos (lt_cast hi1), rd_lt hi1]
     refine fin _ ?_
     have e : lastAt l i = l[i - 1].f1 := by
      unfold lastAt
      rw [if_neg (by omega), List.getD_eq_getElem?_getD, List.getElem?_eq_getElem hi1]; rfl
     rw [e, decide_eq_true_iff]
    ·obtain rfl : i = 0 := by omega
     refine fin false ?_
     have e : lastAt l 0 = 0 := rfl
     rw [e]
     constructor
     ·intro h; cases h
     ·intro h; omega)
  (by
   intro _ _
   rw [List.drop_length]
   simp only [r06_Is.l0, if_neg (Int.lt_irrefl _), isMem]
   exact Ev.now _) 0 (Nat.zero_le _) () ⟨fun x hx => by simp at hx, Int.le_refl _⟩
 rw [List.drop_zero] at this
 exact this
theorem is_ev {id : Int} {fr tu : ByteArray} {gen : Int} {l : List S30} {nx : Int} (hm : l.length ≤ 1000000) : Ev (fun k => r06_Is.f k id fr tu gen l nx) (okD id fr tu gen l nx) := by
 have hbad : Ev (fun k => r06_Is.j0 k true id fr tu gen l nx) false := by
  refine Ev.shift ?_
  simp only [r06_Is.j0, if_true]
  exact Ev.now _
 simp only [r06_Is.f, rid_eq, rbound_eq, Option.bind_some]
 unfold okD
 refine Ev.ite (fun h1 => ?_) (fun h1 => ?_)
 ·rw [h1, Bool.true_and]
  refine Ev.ite (fun h2 => ?_) (fun h2 => ?_)
  ·rw [h2, Bool.true_and]
   refine Ev.ite (fun h3 => ?_) (fun h3 => ?_)
   ·rw [h3, Bool.true_and]
    refine Ev.ite (fun h4 => ?_) (fun h4 => ?_)
    ·rw [h4, Bool.true_and]
     unfold okM
     refine Ev.ite (fun h5 => ?_) (fun h5 => ?_)
     ·rw [if_pos (by omega)]; exact hbad
     ·by_cases h6 : (l.length : Int) > 5
      ·rw [decide_eq_true h6, if_pos (by omega)]; exact hbad
      ·rw [decide_eq_false h6, if_neg (by omega)]
       refine Ev.shift ?_
       simp only [r06_Is.j0, Bool.false_eq_true, if_false]
       exact is_loop hm
    ·rw [Bool.eq_false_iff.2 h4, Bool.false_and]; exact hbad
   ·rw [Bool.eq_false_iff.2 h3, Bool.false_and]; exact hbad
  ·rw [Bool.eq_false_iff.2 h2, Bool.false_and]; exact hbad
 ·rw [Bool.eq_false_iff.2 h1, Bool.false_and]; exact hbad
theorem rright_ev {id : Int} {fr tu : ByteArray} {gen : Int} {l : List S30} {nx : Int} (hm : l.length ≤ 1000000) : Ev (fun k => r06_right.f k id fr tu gen l nx) (rightR id fr tu gen l nx) := by
 refine Ev.bind (is_ev hm) ?_
 unfold rightR
 exact Ev.ite (fun h => by rw [if_pos h]; exact Ev.now _) (fun h => by rw [if_neg h]; exact Ev.now _)
theorem ron_ev {id : Int} {fr tu : ByteArray} {gen : Int} {l : List S30} {nx a : Int} (hm : l.length ≤ 1000000) : Ev (fun k => r06_On.f k id fr tu gen l nx a) (hitM (fun m => m.f0 == a) l) := by
 have := Ev.upto (F := fun k (_ : Unit) i => r06_On.l0 k a i id fr tu gen l nx) (n := l.length) (G := fun _ i => hitM (fun m => m.f0 == a) (l.drop i)) (I := fun _ _ => True)
  (by
   intro _ i hi _ ih
   simp only [r06_On.l0, if_pos (lt_cast hi), if_pos (nn i), rd_lt hi, List.drop_eq_getElem_cons hi, hitM_cons, wrap_nat (n := i) (by omega)]
   refine Ev.ite (fun h => ?_) (fun h => ?_)
   ·rw [if_pos (beq_iff_eq.2 h)]; exact Ev.now _
   ·rw [if_neg (by rw [beq_iff_eq]; exact h)]; exact ih () trivial)
  (by
   intro _ _
   rw [List.drop_length]
   simp only [r06_On.l0, if_neg (Int.lt_irrefl _)]
   exact Ev.now _) 0 (Nat.zero_le _) () trivial
 rw [List.drop_zero] at this
 exact this
theorem rhas_ev {id : Int} {fr tu : ByteArray} {gen : Int} {l : List S30} {nx a : Int} (hm : l.length ≤ 1000000) : Ev (fun k => r06_Has.f k id fr tu gen l nx a) (hitM (fun m => m.f1 == a) l) := by
 have := Ev.upto (F := fun k (_ : Unit) i => r06_Has.l0 k a i id fr tu gen l nx) (n := l.length) (G := fun _ i => hitM (fun m => m.f1 == a) (l.drop i)) (I := fun _ _ => True)
  (by
   intro _ i hi _ ih
   simp only [r06_Has.l0, if_pos (lt_cast hi), if_pos (nn i), rd_lt hi, List.drop_eq_getElem_cons hi, hitM_cons, wrap_nat (n := i) (by omega)]
   refine Ev.ite (fun h => ?_) (fun h => ?_)
   ·rw [if_pos (beq_iff_eq.2 h)]; exact Ev.now _
   ·rw [if_neg (by rw [beq_iff_eq]; exact h)]; exact ih () trivial)
  (by
   intro _ _
   rw [List.drop_length]
   simp only [r06_Has.l0, if_neg (Int.lt_irrefl _)]
   exact Ev.now _) 0 (Nat.zero_le _) () trivial
 rw [List.drop_zero] at this
 exact this
theorem rsame_ev {id : Int} {fr tu : ByteArray} {gen : Int} {l : List S30} {nx id2 : Int} {fr2 to2 : ByteArray} {gen2 : Int} {l2 : List S30} {nx2 : Int} (hm : l.length ≤ 9223372036854775000) :
 Ev (fun k => r06_Same.f k id fr tu gen l nx id2 fr2 to2 gen2 l2 nx2) (decide (id = id2 ∧ fr = fr2 ∧ tu = to2 ∧ gen = gen2 ∧ nx = nx2 ∧ l = l2)) := by
 refine Ev.ite (fun h1 => Ev.ite (fun h2 => Ev.ite (fun h3 => Ev.ite (fun h4 => Ev.bind (rmembers_ev l l2 hm) ?_) (fun h4 => ?_)) (fun h3 => ?_)) (fun h2 => ?_)) (fun h1 => ?_)
 ·simp only [Bool.and_eq_true, beq_iff_eq, toList_inj] at h2
  rw [show decide (id = id2 ∧ fr = fr2 ∧ tu = to2 ∧ gen = gen2 ∧ nx = nx2 ∧ l = l2) = decide (l = l2) from decide_eq_decide.2 ⟨fun h => h.2.2.2.2.2, fun h => ⟨h1, h2.1, h2.2, h3, h4, h⟩⟩]
  exact Ev.now _
 ·rw [decide_eq_false (fun e => h4 e.2.2.2.2.1)]; exact Ev.now _
 ·rw [decide_eq_false (fun e => h3 e.2.2.2.1)]; exact Ev.now _
 ·rw [decide_eq_false (fun e => h2 (by rw [e.2.1, e.2.2.1]; simp))]; exact Ev.now _
 ·rw [decide_eq_false (fun e => h1 e.1)]; exact Ev.now _
/-- A descriptor is the same as itself. -/
theorem rself_ev (d : DR) (hm : d.2.2.2.2.1.length ≤ 9223372036854775000) : Ev (fun k => r06_Same.f k d.1 d.2.1 d.2.2.1 d.2.2.2.1 d.2.2.2.2.1 d.2.2.2.2.2.1 d.1 d.2.1 d.2.2.1 d.2.2.2.1 d.2.2.2.2.1 d.2.2.2.2.2.1) true := by
 have := rsame_ev (id := d.1) (fr := d.2.1) (tu := d.2.2.1) (gen := d.2.2.2.1) (l := d.2.2.2.2.1) (nx := d.2.2.2.2.2.1) (id2 := d.1) (fr2 := d.2.1) (to2 := d.2.2.1) (gen2 := d.2.2.2.1) (l2 := d.2.2.2.2.1) (nx2 := d.2.2.2.2.2.1) hm
 simp only [and_self, decide_true] at this
 exact this
end Go.Proofs.YtjfhcijjjadhbaaGreatDoor.V
end
section
namespace Go.Proofs.YtjfhcijjjadhbaaGreatDoor.P
open Go.RowKit Go.Proofs.YtjfhcijjjadhbaaGreatDoor.K Go.Proofs.YtjfhcijjjadhbaaGreatDoorW.PrintWords Go.Proofs.YtjfhcijjjadhbaaGreatDoorW.PrintLast Go.Proofs.YtjfhcijjjadhbaaGreatDoorW.PrintMore
attribute [local go_sem] max2_int min2_int max_two min_two max_three min_three max_four min_four   -- for this text's walks alone
mutual
def r01_Int.j0 : Nat → ByteArray → Bool → Option (Int × Int)
 | 0, _, _ => none
 | k + 1, x0, x4 => if x4 = true then (if 1 ≤ (x0.size : Int) then (r01_Int.j1 k x0 x4 (x0.extract 1 x0.size)) else (none)) else (r01_Int.j1 k x0 x4 x0)
def r01_Int.j1 : Nat → ByteArray → Bool → ByteArray → Option (Int × Int)
 | 0, _, _, _ => none
 | k + 1, x0, x4, x5 => r01_Int.l0 k x0 x4 x5 0 0
def r01_Int.l0 : Nat → ByteArray → Bool → ByteArray → Int → Int → Option (Int × Int)
 | 0, _, _, _, _, _ => none
 | k + 1, x0, x4, x5, x6, x7 => if x7 < (x5.size : Int) then (if 0 ≤ x7 then (if (bt x5 x7) < 48 then (some (0, 10)) else (if (bt x5 x7) > 57 then (some (0, 10)) else (if x6 > 1152921504606846976 then (some (0, 10)) else (r01_Int.l0 k x0 x4 x5 (IntKind.u64.wrap ((IntKind.u64.wrap (10 * x6)) + (((bt x5 x7) - 48) % 256))) (wrap64 (x7 + 1)))))) else (none)) else (if x4 = true then ((r01_Num.f (wrap64 (IntKind.u64.wrap ((Go.bits .xor .u64 (-1) x6) + 1)))).bind fun t349 => (if t349.toList = x0.toList then (some (wrap64 (IntKind.u64.wrap ((Go.bits .xor .u64 (-1) x6) + 1)), 0)) else (some (0, 10)))) else ((r01_Num.f (wrap64 (x6))).bind fun t350 => (if t350.toList = x0.toList then (some (wrap64 (x6), 0)) else (some (0, 10)))))
end
def r01_Int.f (k : Nat) (a0 : ByteArray) : Option (Int × Int) := if (a0.size : Int) > 20 then (some (0, 10)) else (if (a0.size : Int) > 0 then (if 0 < (a0.size : Int) then (r01_Int.j0 k a0 ((bt a0 0) == 45)) else (none)) else (r01_Int.j0 k a0 false))
theorem r01_Int.mono_l : ∀ k, (∀ y0 y1, LeO (r01_Int.j0 k y0 y1) (r01_Int.j0 (k + 1) y0 y1)) ∧ (∀ y0 y1 y2, LeO (r01_Int.j1 k y0 y1 y2) (r01_Int.j1 (k + 1) y0 y1 y2)) ∧ (∀ y0 y1 y2 y3 y4, LeO (r01_Int.l0 k y0 y1 y2 y3 y4) (r01_Int.l0 (k + 1) y0 y1 y2 y3 y4))
 | 0 => ⟨fun _ _ r h => by simp [r01_Int.j0] at h, fun _ _ _ r h => by simp [r01_Int.j1] at h, fun _ _ _ _ _ r h => by simp [r01_Int.l0] at h⟩
 | k + 1 => by
  obtain ⟨ih0, ih1, ih2⟩ := r01_Int.mono_l k
  refine ⟨?_, ?_, ?_⟩
  ·intro y0 y1
   unfold r01_Int.j0
   repeat' first
   | (with_reducible exact ih0 _ _)
   | (with_reducible exact ih1 _ _ _)
   | (with_reducible exact ih2 _ _ _ _ _)
   | (with_reducible exact LeO.refl _)
   | (with_reducible exact LeO.none _)
   | (with_reducible refine LeO.ite ?_ ?_)
   | (with_reducible refine LeO.bind ?_ (fun _ => ?_))
   | exact ih0 _ _
   | exact ih1 _ _ _
   | exact ih2 _ _ _ _ _
   | exact LeO.none _
   | refine LeO.ite ?_ ?_
   | refine LeO.bind ?_ (fun _ => ?_)
  ·intro y0 y1 y2
   unfold r01_Int.j1
   repeat' first
   | (with_reducible exact ih0 _ _)
   | (with_reducible exact ih1 _ _ _)
   | (with_reducible exact ih2 _ _ _ _ _)
   | (with_reducible exact LeO.refl _)
   | (with_reducible exact LeO.none _)
   | (with_reducible refine LeO.ite ?_ ?_)
   | (with_reducible refine LeO.bind ?_ (fun _ => ?_))
   | exact ih0 _ _
   | exact ih1 _ _ _
   | exact ih2 _ _ _ _ _
   | exact LeO.none _
   | refine LeO.ite ?_ ?_
   | refine LeO.bind ?_ (fun _ => ?_)
  ·intro y0 y1 y2 y3 y4
   unfold r01_Int.l0
   repeat' first
   | (with_reducible exact ih0 _ _)
   | (with_reducible exact ih1 _ _ _)
   | (with_reducible exact ih2 _ _ _ _ _)
   | (with_reducible exact LeO.refl _)
   | (with_reducible exact LeO.none _)
   | (with_reducible refine LeO.ite ?_ ?_)
   | (with_reducible refine LeO.bind ?_ (fun _ => ?_))
   | exact ih0 _ _
   | exact ih1 _ _ _
   | exact ih2 _ _ _ _ _
   | exact LeO.none _
   | refine LeO.ite ?_ ?_
   | refine LeO.bind ?_ (fun _ => ?_)
theorem r01_Int.mono : ∀ a0 k, LeO (r01_Int.f k a0) (r01_Int.f (k + 1) a0) := by
 intro a0 k
 obtain ⟨ih0, ih1, ih2⟩ := r01_Int.mono_l k
 unfold r01_Int.f
 repeat' first
  | (with_reducible exact ih0 _ _)
  | (with_reducible exact ih1 _ _ _)
  | (with_reducible exact ih2 _ _ _ _ _)
  | (with_reducible exact LeO.refl _)
  | (with_reducible exact LeO.none _)
  | (with_reducible refine LeO.ite ?_ ?_)
  | (with_reducible refine LeO.bind ?_ (fun _ => ?_))
  | exact ih0 _ _
  | exact ih1 _ _ _
  | exact ih2 _ _ _ _ _
  | exact LeO.none _
  | refine LeO.ite ?_ ?_
  | refine LeO.bind ?_ (fun _ => ?_)
set_option maxHeartbeats 8000000 in
set_option maxRecDepth 100000 in
theorem r01_Int.calls (k : Nat) (a0 : ByteArray) (r1 : Int) (r2 : Int) (w : World) (hG : TheG w) (h : r01_Int.f k a0 = some (r1, r2)) :
 Calls Tryz.prog 32 #[.string a0] w fun e w' => e = .returned (.tuple #[.int .i64 r1, .int .i64 r2]) ∧ Drawn0 w w' := by
 have H : (if (a0.size : Int) > 20 then (some (0, 10)) else (if (a0.size : Int) > 0 then (if 0 < (a0.size : Int) then (r01_Int.j0 k a0 ((bt a0 0) == 45)) else (none)) else (r01_Int.j0 k a0 false))) = some (r1, r2) := h
 clear h
 by_cases c2 : (a0.size : Int) > 20
 ·rw [if_pos c2] at H
  have c2b0 : decide (20 < (a0.size : Int)) = true := decide_eq_true c2
  have c2b1 : decide (20 < a0.size) = true := decide_eq_true (by omega)
  clear c2
  simp only [Option.some.injEq, Prod.mk.injEq] at H
  obtain ⟨rfl, rfl⟩ := H
  go_enter Tryz.func32, Tryz.ntmps32
  go_wp2
  go_ret2
  exact ⟨by first | rfl | (simp; done) | (simp [*]; done), by repeat (first | exact Drawn0.refl _ | apply Drawn0.step)⟩
 ·rw [if_neg c2] at H
  have c2b0 : decide (20 < (a0.size : Int)) = false := decide_eq_false c2
  have c2b1 : decide (20 < a0.size) = false := decide_eq_false (by omega)
  clear c2
  have HC3 := Az.mk H
  clear H
  go_enter Tryz.func32, Tryz.ntmps32
  go_upto_region 3 with (fail)
  go_cut [4] (fun v4 wc => ∃ (kq : Nat) (x4_2 : Bool), v4 = .bool x4_2 ∧ Az (r01_Int.j0 kq a0 x4_2 = some (r1, r2)) ∧ Az (kq ≤ k) ∧ Drawn0 w wc)
  case first =>
   have H := HC3.out
   clear HC3
   by_cases c4 : (a0.size : Int) > 0
   ·rw [if_pos c4] at H
    have c4b0 : decide (0 < (a0.size : Int)) = true := decide_eq_true c4
    have c4b1 : decide (0 < a0.size) = true := decide_eq_true (by omega)
    clear c4
    (first | rw [c4b0] | (simp only [i64_w, i32_w]; rw [c4b0]) | skip)
    by_cases c5 : 0 < (a0.size : Int)
    ·rw [if_pos c5] at H
     have c5b0 : decide (0 < (a0.size : Int)) = true := decide_eq_true c5
     have c5b1 : decide (0 < a0.size) = true := decide_eq_true (by omega)
     clear c5
     have H' := Az.mk H
     clear H
     have p6 : 0 ≤ (0 : Int) := (by omega)
     have q6 : 0 < a0.size := (by have : (0 : Int) < (a0.size : Int) := of_decide_eq_true (by first | (with_reducible assumption) | assumption); omega)
     have hx6 : ∀ h : 0 < a0.size, ((a0[0]'h).toNat : Int) = bt a0 0 := bt_at a0 0
     clear p6
     have qi6 : (0 < (a0.size : Int)) = True := eq_true (of_decide_eq_true (by first | (with_reducible assumption) | assumption))
     replace q6 := eq_true q6
     go_wp2
     go_meet
     case rel => exact ⟨_, (((bt a0 0) == 45)), (by first | rfl | (simp; done) | (simp [*]; done)), H', ⟨by first | omega | exact Nat.le_refl _⟩, by repeat (first | exact Drawn0.refl _ | apply Drawn0.step)⟩
    ·rw [if_neg c5] at H
     exact absurd H (by simp)
   ·rw [if_neg c4] at H
    have c4b0 : decide (0 < (a0.size : Int)) = false := decide_eq_false c4
    have c4b1 : decide (0 < a0.size) = false := decide_eq_false (by omega)
    clear c4
    (first | rw [c4b0] | (simp only [i64_w, i32_w]; rw [c4b0]) | skip)
    have H' := Az.mk H
    clear H
    go_wp2
    go_meet
    case rel => exact ⟨_, (false), (by first | rfl | (simp; done) | (simp [*]; done)), H', ⟨by first | omega | exact Nat.le_refl _⟩, by repeat (first | exact Drawn0.refl _ | apply Drawn0.step)⟩
  case rest =>
   clear HC3
   try clear c2
   try clear c2b0
   try clear c2b1
   try clear p2
   try clear c3
   try clear c4
   try clear c4b0
   try clear c4b1
   try clear c5
   try clear c5b0
   try clear c5b1
   try clear p6
   try clear q6
   try clear hx6
   try clear qi6
   try clear p6
   try clear q6
   obtain ⟨kq, x4_2, rfl, HA, HJ2, ⟨mc2, rfl⟩⟩ := hcut
   cases kq with
   | zero => exact absurd HA.out (by simp [r01_Int.j0])
   | succ kj2 =>
    have H := HA.out
    clear HA
    simp only [r01_Int.j0] at H
    have HC7 := Az.mk H
    clear H
    go_upto_if 21 with (fail)
    go_cut [5] (fun v5 wc => ∃ (kq : Nat) (x5_6 : ByteArray), v5 = .string x5_6 ∧ Az (r01_Int.j1 kq a0 x4_2 x5_6 = some (r1, r2)) ∧ Az (kq ≤ kj2) ∧ Drawn0 w wc)
    case first =>
     have H := HC7.out
     clear HC7
     by_cases c8 : x4_2 = true
     ·subst c8
      rw [if_pos rfl] at H
      by_cases c9 : 1 ≤ (a0.size : Int)
      ·rw [if_pos c9] at H
       have c9b0 := eq_true c9
       have c9b1 : decide (1 ≤ (a0.size : Int)) = true := decide_eq_true c9
       clear c9
       have H' := Az.mk H
       clear H
       go_wp2
       go_meet
       case rel => exact ⟨_, (a0.extract 1 a0.size), (by first | rfl | (simp; done) | (simp [*]; done)), H', ⟨by have := HJ2.out; first | omega | exact Nat.le_refl _⟩, by repeat (first | exact Drawn0.refl _ | apply Drawn0.step)⟩
      ·rw [if_neg c9] at H
       exact absurd H (by simp)
     ·replace c8 := Bool.eq_false_iff.mpr c8
      subst c8
      rw [if_neg (show ¬ (false = true) by decide)] at H
      have H' := Az.mk H
      clear H
      go_wp2
      go_meet
      case rel => exact ⟨_, (a0), (by first | rfl | (simp; done) | (simp [*]; done)), H', ⟨by have := HJ2.out; first | omega | exact Nat.le_refl _⟩, by repeat (first | exact Drawn0.refl _ | apply Drawn0.step)⟩
    case rest =>
     clear HC7
     try clear c2
     try clear c2b0
     try clear c2b1
     try clear p2
     try clear c3
     try clear c4
     try clear c4b0
     try clear c4b1
     try clear c5
     try clear c5b0
     try clear c5b1
     try clear p6
     try clear q6
     try clear hx6
     try clear qi6
     try clear c8
     try clear c9
     try clear c9b0
     try clear c9b1
     try clear p2
     try clear p6
     try clear q6
     obtain ⟨kq, x5_6, rfl, HA, HJ6, ⟨mc6, rfl⟩⟩ := hcut
     cases kq with
     | zero => exact absurd HA.out (by simp [r01_Int.j1])
     | succ kj6 =>
      have H := HA.out
      clear HA
      simp only [r01_Int.j1] at H
      have H' := Az.mk H
      clear H
      go_wp2
      go_loopg [6, 7] kj6 (fun kq v6 v7 w' => ∃ (x6_3 : Int) (x7_3 : Int), v6 = .int .u64 x6_3 ∧ v7 = .int .i64 x7_3 ∧ Az (r01_Int.l0 kq a0 x4_2 x5_6 x6_3 x7_3 = some (r1, r2)) ∧ Az (kq ≤ kj6) ∧ Drawn0 w w')
      case atStart => exact ⟨(0), (0), (by first | rfl | (simp; done) | (simp [*]; done)), (by first | rfl | (simp; done) | (simp [*]; done)), H', ⟨Nat.le_refl _⟩, by repeat (first | exact Drawn0.refl _ | apply Drawn0.step)⟩
      case round =>
       clear H'
       try clear c2
       try clear c2b0
       try clear c2b1
       try clear p2
       try clear c3
       try clear c4
       try clear c4b0
       try clear c4b1
       try clear c5
       try clear c5b0
       try clear c5b1
       try clear c6
       try clear p6
       try clear q6
       try clear hx6
       try clear qi6
       try clear c8
       try clear c9
       try clear c9b0
       try clear c9b1
       try clear p2
       try clear p6
       try clear q6
       obtain ⟨x6_3, x7_3, rfl, rfl, HA, HK3, ⟨m3, rfl⟩⟩ := hrel
       cases gk with
       | zero => exact absurd HA.out (by simp [r01_Int.l0])
       | succ k3 =>
        have H := HA.out
        clear HA
        simp only [r01_Int.l0] at H
        by_cases c10 : x7_3 < (x5_6.size : Int)
        ·rw [if_pos c10] at H
         have c10b0 : decide (x7_3 < (x5_6.size : Int)) = true := decide_eq_true c10
         clear c10
         by_cases c11 : 0 ≤ x7_3
         ·rw [if_pos c11] at H
          have c11b0 : decide (0 ≤ x7_3) = true := decide_eq_true c11
          clear c11
          by_cases c13 : (bt x5_6 x7_3) < 48
          ·rw [if_pos c13] at H
           have c13b0 : decide ((bt x5_6 x7_3) < 48) = true := decide_eq_true c13
           clear c13
           simp only [Option.some.injEq, Prod.mk.injEq] at H
           obtain ⟨rfl, rfl⟩ := H
           have p12 : 0 ≤ (x7_3 : Int) := of_decide_eq_true (by first | (with_reducible assumption) | assumption)
           have q12 : x7_3 < (x5_6.size : Int) := of_decide_eq_true (by first | (with_reducible assumption) | assumption)
           have hx12 := bt_at x5_6 x7_3
           replace p12 := eq_true p12
           replace q12 := eq_true q12
           go_wp2
           go_ret2
           exact ⟨by first | rfl | (simp; done) | (simp [*]; done), by repeat (first | exact Drawn0.refl _ | apply Drawn0.step)⟩
          ·rw [if_neg c13] at H
           have c13b0 : decide ((bt x5_6 x7_3) < 48) = false := decide_eq_false c13
           clear c13
           by_cases c15 : (bt x5_6 x7_3) > 57
           ·rw [if_pos c15] at H
            have c15b0 : decide (57 < (bt x5_6 x7_3)) = true := decide_eq_true c15
            clear c15
            simp only [Option.some.injEq, Prod.mk.injEq] at H
            obtain ⟨rfl, rfl⟩ := H
            have p12 : 0 ≤ (x7_3 : Int) := of_decide_eq_true (by first | (with_reducible assumption) | assumption)
            have q12 : x7_3 < (x5_6.size : Int) := of_decide_eq_true (by first | (with_reducible assumption) | assumption)
            have hx12 := bt_at x5_6 x7_3
            replace p12 := eq_true p12
            replace q12 := eq_true q12
            have p14 : 0 ≤ (x7_3 : Int) := of_decide_eq_true (by first | (with_reducible assumption) | assumption)
            have q14 : x7_3 < (x5_6.size : Int) := of_decide_eq_true (by first | (with_reducible assumption) | assumption)
            have hx14 := bt_at x5_6 x7_3
            replace p14 := eq_true p14
            replace q14 := eq_true q14
            go_wp2
            go_ret2
            exact ⟨by first | rfl | (simp; done) | (simp [*]; done), by repeat (first | exact Drawn0.refl _ | apply Drawn0.step)⟩
           ·rw [if_neg c15] at H
            have c15b0 : decide (57 < (bt x5_6 x7_3)) = false := decide_eq_false c15
            clear c15
            by_cases c16 : x6_3 > 1152921504606846976
            ·rw [if_pos c16] at H
             have c16b0 : decide (1152921504606846976 < x6_3) = true := decide_eq_true c16
             clear c16
             simp only [Option.some.injEq, Prod.mk.injEq] at H
             obtain ⟨rfl, rfl⟩ := H
             have p12 : 0 ≤ (x7_3 : Int) := of_decide_eq_true (by first | (with_reducible assumption) | assumption)
             have q12 : x7_3 < (x5_6.size : Int) := of_decide_eq_true (by first | (with_reducible assumption) | assumption)
             have hx12 := bt_at x5_6 x7_3
             replace p12 := eq_true p12
             replace q12 := eq_true q12
             have p14 : 0 ≤ (x7_3 : Int) := of_decide_eq_true (by first | (with_reducible assumption) | assumption)
             have q14 : x7_3 < (x5_6.size : Int) := of_decide_eq_true (by first | (with_reducible assumption) | assumption)
             have hx14 := bt_at x5_6 x7_3
             replace p14 := eq_true p14
             replace q14 := eq_true q14
             go_wp2
             go_ret2
             exact ⟨by first | rfl | (simp; done) | (simp [*]; done), by repeat (first | exact Drawn0.refl _ | apply Drawn0.step)⟩
            ·rw [if_neg c16] at H
             have c16b0 : decide (1152921504606846976 < x6_3) = false := decide_eq_false c16
             clear c16
             have H' := Az.mk H
             clear H
             have p12 : 0 ≤ (x7_3 : Int) := of_decide_eq_true (by first | (with_reducible assumption) | assumption)
             have q12 : x7_3 < (x5_6.size : Int) := of_decide_eq_true (by first | (with_reducible assumption) | assumption)
             have hx12 := bt_at x5_6 x7_3
             replace p12 := eq_true p12
             replace q12 := eq_true q12
             have p14 : 0 ≤ (x7_3 : Int) := of_decide_eq_true (by first | (with_reducible assumption) | assumption)
             have q14 : x7_3 < (x5_6.size : Int) := of_decide_eq_true (by first | (with_reducible assumption) | assumption)
             have hx14 := bt_at x5_6 x7_3
             replace p14 := eq_true p14
             replace q14 := eq_true q14
             have p17 : 0 ≤ (x7_3 : Int) := of_decide_eq_true (by first | (with_reducible assumption) | assumption)
             have q17 : x7_3 < (x5_6.size : Int) := of_decide_eq_true (by first | (with_reducible assumption) | assumption)
             have hx17 := bt_at x5_6 x7_3
             replace p17 := eq_true p17
             replace q17 := eq_true q17
             go_wp2
             go_roundg k3
             case measure => have := HJ2.out; have := HJ6.out; have := HK3.out; omega
             case rel => exact ⟨(IntKind.u64.wrap ((IntKind.u64.wrap (10 * x6_3)) + (((bt x5_6 x7_3) - 48) % 256))), (wrap64 (x7_3 + 1)), (by first | rfl | (simp; done) | (simp [*]; done)), (by first | rfl | (simp; done) | (simp [*]; done)), H', ⟨by have := HJ2.out; have := HJ6.out; have := HK3.out; omega⟩, by repeat (first | exact Drawn0.refl _ | apply Drawn0.step)⟩
         ·rw [if_neg c11] at H
          exact absurd H (by simp)
        ·rw [if_neg c10] at H
         have c10b0 : decide (x7_3 < (x5_6.size : Int)) = false := decide_eq_false c10
         clear c10
         by_cases c18 : x4_2 = true
         ·subst c18
          rw [if_pos rfl] at H
          replace H := Option.bind_eq_some_iff.mp H
          obtain ⟨t349, A190, H⟩ := H
          try dsimp only at H
          have A19 := Az.mk A190
          clear A190
          by_cases c20 : t349.toList = a0.toList
          ·rw [if_pos c20] at H
           have c20b0 : (t349.toList == a0.toList) = true := beq_iff_eq.mpr c20
           have c20b1 : (t349.toList != a0.toList) = false := bne_eq_false_iff_eq.mpr c20
           clear c20
           simp only [Option.some.injEq, Prod.mk.injEq] at H
           obtain ⟨rfl, rfl⟩ := H
           go_wp2_with (first | ((with_reducible refine gtc (f := 43) rfl ?_); refine goesL_ (some 60) rfl rfl Tryz.func43 (by kernel_rfl) rfl #[.int .i64 (wrap64 (IntKind.u64.wrap ((Go.bits .xor .u64 (-1) x6_3) + 1)))] rfl (by (try simp only [List.map_toArray, List.map_cons, List.map_nil]); first | done | rfl | (simp only [List.length_drop, List.length_take]; rfl)) ?_; (with_reducible refine (r01_Num.calls (wrap64 (IntKind.u64.wrap ((Go.bits .xor .u64 (-1) x6_3) + 1))) t349 _ ?side1 A19.out).mono ?_); (case side1 => exact hG.quiet (by repeat (first | exact Drawn0.refl _ | apply Drawn0.step))); rintro e w' ⟨rfl, ⟨nd, rfl⟩⟩; refine ⟨_, rfl, ?_⟩))
           go_ret2
           exact ⟨by first | rfl | (simp; done) | (simp [*]; done), by repeat (first | exact Drawn0.refl _ | apply Drawn0.step)⟩
          ·rw [if_neg c20] at H
           have c20b0 : (t349.toList == a0.toList) = false := beq_eq_false_iff_ne.mpr c20
           have c20b1 : (t349.toList != a0.toList) = true := bne_iff_ne.mpr c20
           simp only [Option.some.injEq, Prod.mk.injEq] at H
           obtain ⟨rfl, rfl⟩ := H
           go_wp2_with (first | ((with_reducible refine gtc (f := 43) rfl ?_); refine goesL_ (some 60) rfl rfl Tryz.func43 (by kernel_rfl) rfl #[.int .i64 (wrap64 (IntKind.u64.wrap ((Go.bits .xor .u64 (-1) x6_3) + 1)))] rfl (by (try simp only [List.map_toArray, List.map_cons, List.map_nil]); first | done | rfl | (simp only [List.length_drop, List.length_take]; rfl)) ?_; (with_reducible refine (r01_Num.calls (wrap64 (IntKind.u64.wrap ((Go.bits .xor .u64 (-1) x6_3) + 1))) t349 _ ?side1 A19.out).mono ?_); (case side1 => exact hG.quiet (by repeat (first | exact Drawn0.refl _ | apply Drawn0.step))); rintro e w' ⟨rfl, ⟨nd, rfl⟩⟩; refine ⟨_, rfl, ?_⟩))
           go_ret2
           exact ⟨by first | rfl | (simp; done) | (simp [*]; done), by repeat (first | exact Drawn0.refl _ | apply Drawn0.step)⟩
         ·replace c18 := Bool.eq_false_iff.mpr c18
          subst c18
          rw [if_neg (show ¬ (false = true) by decide)] at H
          replace H := Option.bind_eq_some_iff.mp H
          obtain ⟨t350, A210, H⟩ := H
          try dsimp only at H
          have A21 := Az.mk A210
          clear A210
          by_cases c22 : t350.toList = a0.toList
          ·rw [if_pos c22] at H
           have c22b0 : (t350.toList == a0.toList) = true := beq_iff_eq.mpr c22
           have c22b1 : (t350.toList != a0.toList) = false := bne_eq_false_iff_eq.mpr c22
           clear c22
           simp only [Option.some.injEq, Prod.mk.injEq] at H
           obtain ⟨rfl, rfl⟩ := H
           go_wp2_with (first | ((with_reducible refine gtc (f := 43) rfl ?_); refine goesL_ (some 60) rfl rfl Tryz.func43 (by kernel_rfl) rfl #[.int .i64 (wrap64 (x6_3))] rfl (by (try simp only [List.map_toArray, List.map_cons, List.map_nil]); first | done | rfl | (simp only [List.length_drop, List.length_take]; rfl)) ?_; (with_reducible refine (r01_Num.calls (wrap64 (x6_3)) t350 _ ?side1 A21.out).mono ?_); (case side1 => exact hG.quiet (by repeat (first | exact Drawn0.refl _ | apply Drawn0.step))); rintro e w' ⟨rfl, ⟨nd, rfl⟩⟩; refine ⟨_, rfl, ?_⟩))
           go_ret2
           exact ⟨by first | rfl | (simp; done) | (simp [*]; done), by repeat (first | exact Drawn0.refl _ | apply Drawn0.step)⟩
          ·rw [if_neg c22] at H
           have c22b0 : (t350.toList == a0.toList) = false := beq_eq_false_iff_ne.mpr c22
           have c22b1 : (t350.toList != a0.toList) = true := bne_iff_ne.mpr c22
           simp only [Option.some.injEq, Prod.mk.injEq] at H
           obtain ⟨rfl, rfl⟩ := H
           go_wp2_with (first | ((with_reducible refine gtc (f := 43) rfl ?_); refine goesL_ (some 60) rfl rfl Tryz.func43 (by kernel_rfl) rfl #[.int .i64 (wrap64 (x6_3))] rfl (by (try simp only [List.map_toArray, List.map_cons, List.map_nil]); first | done | rfl | (simp only [List.length_drop, List.length_take]; rfl)) ?_; (with_reducible refine (r01_Num.calls (wrap64 (x6_3)) t350 _ ?side1 A21.out).mono ?_); (case side1 => exact hG.quiet (by repeat (first | exact Drawn0.refl _ | apply Drawn0.step))); rintro e w' ⟨rfl, ⟨nd, rfl⟩⟩; refine ⟨_, rfl, ?_⟩))
           go_ret2
           exact ⟨by first | rfl | (simp; done) | (simp [*]; done), by repeat (first | exact Drawn0.refl _ | apply Drawn0.step)⟩
end Go.Proofs.YtjfhcijjjadhbaaGreatDoor.P
end
section
namespace Go.Proofs.YtjfhcijjjadhbaaGreatDoor.V
open Go.RowKit Go.Proofs.YtjfhcijjjadhbaaGreatDoorW.PrintWords Go.Proofs.YtjfhcijjjadhbaaGreatDoorW.PrintLast Go.Proofs.YtjfhcijjjadhbaaGreatDoorW.PrintMore Go.Proofs.YtjfhcijjjadhbaaGreatDoor.P Go.Proofs.YtjfhcijjjadhbaaGreatDoor.K Go.Proofs.YtjfhcijjjadhbaaGreatDoor.A
/-- The digits of a text, one by one, as the reference goes. -/
def scan (n : Nat) : List UInt8 → Option Nat
 | [] => some n
 | c :: r => if c.toNat < 48 then none else if 57 < c.toNat then none else if 1152921504606846976 < n then none else scan (10 * n + (c.toNat - 48)) r
theorem scan_digits : ∀ (l : List UInt8) (n : Nat), (∀ c ∈ l, isD c) → dval n l ≤ 9223372036854775808 → scan n l = some (dval n l)
 | [], n, _, _ => rfl
 | c :: r, n, hd, hv => by
  have hc := hd c (by simp)
  unfold isD at hc
  have hm := dval_mono r (10 * n + (c.toNat - 48))
  have hv' : dval (10 * n + (c.toNat - 48)) r ≤ 9223372036854775808 := hv
  simp only [scan]
  rw [if_neg (by omega), if_neg (by omega), if_neg (by omega)]
  exact scan_digits r _ (fun x hx => hd x (by simp [hx])) hv'
theorem bits_not_u64 (n : Nat) (h : n ≤ 18446744073709551615) : Go.bits .xor .u64 (-1) (n : Int) = 18446744073709551615 - (n : Int) := by
 have hx : BitVec.ofInt 64 (-1) = BitVec.allOnes 64 := by decide
 show IntKind.u64.wrap (((BitVec.ofInt 64 (-1) ^^^ BitVec.ofInt 64 (n : Int)).toNat : Nat) : Int) = _
 rw [hx, BitVec.allOnes_xor, BitVec.toNat_not, BitVec.toNat_ofInt, IntKind.wrap_u64]
 omega
/-- The number that the reference makes of the digits' number. -/
def signed (neg : Bool) (m : Nat) : Int := if neg = true then wrap64 (IntKind.u64.wrap ((Go.bits .xor .u64 (-1) (m : Int)) + 1)) else wrap64 (m : Int)
theorem signed_neg (m : Nat) (h : m ≤ 9223372036854775808) : signed true m = -(m : Int) := by
 unfold signed
 rw [if_pos rfl, bits_not_u64 m (by omega), IntKind.wrap_u64]
 unfold wrap64
 omega
theorem signed_pos (m : Nat) (h : m ≤ 9223372036854775807) : signed false m = (m : Int) := by
 unfold signed
 rw [if_neg (by simp)]
 unfold wrap64
 omega
theorem wrap64_isI (n : Int) : isI (wrap64 n) := by unfold isI wrap64; omega
theorem signed_isI (b : Bool) (m : Nat) : isI (signed b m) := by unfold signed; split <;> exact wrap64_isI _
def fin (s : ByteArray) (neg : Bool) (o : Option Nat) : Int × Int := match o with
 | some m => if B (Lib.itoa (signed neg m)) = s then (signed neg m, 0) else (0, 10)
 | none => (0, 10)
theorem rnum_eq {n : Int} (h : isI n) : r01_Num.f n = some (B (Lib.itoa n)) := by
 unfold r01_Num.f; rw [if_pos h.1, if_pos h.2]; rfl
theorem step_bound {n c : Nat} (h2 : ¬ 57 < c) (h3 : ¬ 1152921504606846976 < n) : 10 * n + (c - 48) ≤ 11529215046068469769 := by omega
theorem step_wrap {n c : Nat} (h1 : ¬ c < 48) (h2 : ¬ 57 < c) (h3 : ¬ 1152921504606846976 < n) : IntKind.u64.wrap ((IntKind.u64.wrap (10 * (n : Int))) + (((c : Int) - 48) % 256)) = ((10 * n + (c - 48) : Nat) : Int) := by
 rw [IntKind.wrap_u64, IntKind.wrap_u64]; omega
theorem big_int {n : Nat} (h : 1152921504606846976 < n) : (n : Int) > 1152921504606846976 := by omega
theorem not_big_int {n : Nat} (h : ¬ 1152921504606846976 < n) : ¬ (n : Int) > 1152921504606846976 := by omega
theorem wrap_succ (i : Nat) (h : i ≤ 100) : wrap64 ((i : Int) + 1) = ((i + 1 : Nat) : Int) := by unfold wrap64; omega
theorem cast_lt48 {c : Nat} (h : c < 48) : (c : Int) < 48 := by omega
theorem cast_nlt48 {c : Nat} (h : ¬ c < 48) : ¬ (c : Int) < 48 := by omega
theorem cast_gt57 {c : Nat} (h : 57 < c) : (c : Int) > 57 := by omega
theorem cast_ngt57 {c : Nat} (h : ¬ 57 < c) : ¬ (c : Int) > 57 := by omega
theorem rint_loop (s : ByteArray) (neg : Bool) (x : ByteArray) (hx : x.size ≤ 20) (d : Nat) : ∀ (i n : Nat), x.size - i = d → i ≤ x.size → n ≤ 11529215046068469769 →
 Ev (fun k => r01_Int.l0 k s neg x (n : Int) (i : Int)) (fin s neg (scan n (x.data.toList.drop i))) := by
 have hz := Lib.size_eq x
 induction d with
 | zero =>
  intro i n hd hi hn
  rw [List.drop_of_length_le (by omega)]
  simp only [scan, fin]
  refine Ev.step (f := fun _ => some (if B (Lib.itoa (signed neg n)) = s then (signed neg n, 0) else (0, 10))) (fun k => ?_) (Ev.now _)
  simp only [r01_Int.l0]
  rw [if_neg (by omega)]
  by_cases hb : neg = true
  ·rw [if_pos hb]
   have e : wrap64 (IntKind.u64.wrap ((Go.bits .xor .u64 (-1) (n : Int)) + 1)) = signed neg n := by unfold signed; rw [if_pos hb]
   rw [e, rnum_eq (signed_isI _ _)]
   simp only [Option.bind_some, toList_inj]
   split <;> rfl
  ·rw [if_neg hb]
   have e : wrap64 (n : Int) = signed neg n := by unfold signed; rw [if_neg hb]
   rw [e, rnum_eq (signed_isI _ _)]
   simp only [Option.bind_some, toList_inj]
   split <;> rfl
 | succ d ih =>
  intro i n hd hi hn
  have hlt : i < x.size := by omega
  have hi1 : x.size - (i + 1) = d := by omega
  have hi2 : i + 1 ≤ x.size := by omega
  have a1 : (i : Int) < (x.size : Int) := by omega
  have a2 : 0 ≤ (i : Int) := by omega
  have e2 : wrap64 ((i : Int) + 1) = ((i + 1 : Nat) : Int) := wrap_succ i (by omega)
  have hg := bt_lt hlt
  have hbt := bt_eq x i x[i] hg
  have hdrop : x.data.toList.drop i = x[i] :: x.data.toList.drop (i + 1) := by
   obtain ⟨h1, h2⟩ := List.getElem?_eq_some_iff.1 hg
   rw [List.drop_eq_getElem_cons h1, h2]
  have hc256 : x[i].toNat < 256 := x[i].toNat_lt
  rw [hdrop]
  simp only [scan]
  generalize x[i].toNat = c at hbt hc256
  by_cases h1 : c < 48
  ·rw [if_pos h1]
   have b1 := cast_lt48 h1
   refine Ev.step (f := fun _ => some (0, 10)) (fun k => ?_) (Ev.now _)
   simp only [r01_Int.l0]
   rw [if_pos a1, if_pos a2, hbt, if_pos b1]
  rw [if_neg h1]
  have b1 := cast_nlt48 h1
  by_cases h2 : 57 < c
  ·rw [if_pos h2]
   have b2 := cast_gt57 h2
   refine Ev.step (f := fun _ => some (0, 10)) (fun k => ?_) (Ev.now _)
   simp only [r01_Int.l0]
   rw [if_pos a1, if_pos a2, hbt, if_neg b1, if_pos b2]
  rw [if_neg h2]
  have b2 := cast_ngt57 h2
  by_cases h3 : 1152921504606846976 < n
  ·rw [if_pos h3]
   have b3 := big_int h3
   refine Ev.step (f := fun _ => some (0, 10)) (fun k => ?_) (Ev.now _)
   simp only [r01_Int.l0]
   rw [if_pos a1, if_pos a2, hbt, if_neg b1, if_neg b2, if_pos b3]
  rw [if_neg h3]
  have b3 := not_big_int h3
  have e1 := step_wrap h1 h2 h3
  refine Ev.step (f := fun k => r01_Int.l0 k s neg x ((10 * n + (c - 48) : Nat) : Int) ((i + 1 : Nat) : Int)) (fun k => ?_) (ih (i + 1) (10 * n + (c - 48)) hi1 hi2 (step_bound h2 h3))
  simp only [r01_Int.l0]
  rw [if_pos a1, if_pos a2, hbt, if_neg b1, if_neg b2, if_neg b3, e1, e2]
theorem fin_eq (s : ByteArray) (neg : Bool) (o : Option Nat) (h : ∀ v, pz s.data.toList = some v → ∃ m, o = some m ∧ signed neg m = v) : fin s neg o = intA (pz s.data.toList) := by
 cases hp : pz s.data.toList with
 | some v =>
  obtain ⟨m, rfl, hs⟩ := h v hp
  simp only [fin, intA]
  rw [hs, if_pos (by rw [← pz_some hp, B_of])]
 | none =>
  cases o with
  | none => rfl
  | some m =>
   simp only [fin, intA]
   rw [if_neg]
   intro e
   have := pz_itoa (signed_isI neg m)
   rw [← e, B_data, this] at hp
   cases hp
theorem rint_ev (s : ByteArray) : Ev (fun k => r01_Int.f k s) (intA (pz s.data.toList)) := by
 have hz := Lib.size_eq s
 refine Ev.ite (fun h => ?_) (fun h => ?_)
 ·have : pz s.data.toList = none := by
   cases hp : pz s.data.toList with
   | none => rfl
   | some v =>
    have h1 := itoa_le20 (pz_isI hp)
    rw [← pz_some hp] at h1
    omega
  rw [this]; exact Ev.now _
 ·by_cases h45 : s.data.toList.head? = some 45
  ·obtain ⟨r, hr⟩ : ∃ r, s.data.toList = 45 :: r := by
    cases hl : s.data.toList with
    | nil => rw [hl] at h45; cases h45
    | cons c r => rw [hl] at h45; injection h45 with h45; subst h45; exact ⟨r, rfl⟩
   have hpos : 0 < s.size := by rw [hz, hr]; simp
   have hb0 : bt s 0 = 45 := bt_eq s 0 45 (by rw [hr]; rfl)
   have hx : (s.extract 1 s.size).data.toList = r := by
    rw [Lib.extract_data, hr]; simp only [List.drop_succ_cons, List.drop_zero]; exact List.take_of_length_le (by rw [hz, hr]; simp)
   have hxs : (s.extract 1 s.size).size ≤ 20 := by rw [Lib.size_eq, hx]; rw [hz, hr] at h; simp at h; omega
   rw [← fin_eq s true (scan 0 r) (by
    intro v hv
    have he := pz_some hv
    have hI := pz_isI hv
    rw [hr] at he
    unfold Lib.itoa at he
    unfold isI at hI
    split at he
    ·injection he with _ he
     refine ⟨v.natAbs, ?_, ?_⟩
     ·rw [he, scan_digits _ 0 (decDigits_isD _) (by rw [decDigits_val]; omega), decDigits_val]
     ·rw [signed_neg _ (by omega)]; omega
    ·have h45' : (45 : UInt8) ∈ Lib.decDigits v.toNat := by rw [← he]; simp
     have := decDigits_isD _ _ h45'
     unfold isD at this
     have e : (45 : UInt8).toNat = 45 := rfl
     omega)]
   refine Ev.ite (fun _ => ?_) (fun h => absurd h (by omega))
   refine Ev.ite (fun _ => ?_) (fun h => absurd h (by omega))
   have hb : (bt s 0 == 45) = true := by rw [hb0]; rfl
   rw [hb]
   refine Ev.step (f := fun k => r01_Int.j1 k s true (s.extract 1 s.size)) (fun k => ?_) ?_
   ·simp only [r01_Int.j0, if_true]; rw [if_pos (by omega)]
   ·refine Ev.step (f := fun k => r01_Int.l0 k s true (s.extract 1 s.size) ((0 : Nat) : Int) ((0 : Nat) : Int)) (fun k => rfl) ?_
    have := rint_loop s true (s.extract 1 s.size) hxs _ 0 0 rfl (Nat.zero_le _) (by omega)
    rw [List.drop_zero, hx] at this
    exact this
  ·rw [← fin_eq s false (scan 0 s.data.toList) (by
    intro v hv
    have he := pz_some hv
    have hI := pz_isI hv
    unfold isI at hI
    unfold Lib.itoa at he
    split at he
    ·rw [he] at h45; exact absurd rfl h45
    ·refine ⟨v.toNat, ?_, ?_⟩
     ·rw [he, scan_digits _ 0 (decDigits_isD _) (by rw [decDigits_val]; omega), decDigits_val]
     ·rw [signed_pos _ (by omega)]; omega)]
   have goal : Ev (fun k => r01_Int.j0 k s false) (fin s false (scan 0 s.data.toList)) := by
    refine Ev.step (f := fun k => r01_Int.j1 k s false s) (fun k => ?_) ?_
    ·simp only [r01_Int.j0]; rfl
    ·refine Ev.step (f := fun k => r01_Int.l0 k s false s ((0 : Nat) : Int) ((0 : Nat) : Int)) (fun k => rfl) ?_
     have := rint_loop s false s (by omega) _ 0 0 rfl (Nat.zero_le _) (by omega)
     rw [List.drop_zero] at this
     exact this
   refine Ev.ite (fun hpos => ?_) (fun _ => goal)
   refine Ev.ite (fun _ => ?_) (fun h => absurd h (by omega))
   have hb : (bt s 0 == 45) = false := by
    rw [beq_eq_false_iff_ne]
    have hlt : 0 < s.size := by omega
    have := bt_is s 0 45 hlt
    intro e
    apply h45
    rw [List.head?_eq_getElem?]
    exact this.1 e
   rw [hb]
   exact goal
end Go.Proofs.YtjfhcijjjadhbaaGreatDoor.V
end
section
namespace Go.Proofs.YtjfhcijjjadhbaaGreatDoor.P
open Go.RowKit Go.Proofs.YtjfhcijjjadhbaaGreatDoor.K Go.Proofs.YtjfhcijjjadhbaaGreatDoorW.PrintWords Go.Proofs.YtjfhcijjjadhbaaGreatDoorW.PrintLast Go.Proofs.YtjfhcijjjadhbaaGreatDoorW.PrintMore
attribute [local go_sem] max2_int min2_int max_two min_two max_three min_three max_four min_four   -- for this text's walks alone
def r01_Untie.l0 : Nat → ByteArray → List ByteArray → Option (List ByteArray × Int)
 | 0, _, _ => none
 | k + 1, x0, x4 => if x0.toList = ([] : List UInt8) then (some (x4, 0)) else ((r01_First.f x0).bind fun bt343 => (if bt343.2.2 = 0 then (if (x4.length : Int) = 4096 then (some (([] : List ByteArray), 10)) else (if x4.length < 8796093022208 then (r01_Untie.l0 k bt343.2.1 (x4 ++ [bt343.1])) else (none))) else (some (([] : List ByteArray), 10))))
def r01_Untie.f (k : Nat) (a0 : ByteArray) : Option (List ByteArray × Int) := if (a0.size : Int) > 1048576 then (some (([] : List ByteArray), 10)) else (r01_Untie.l0 k a0 ([] : List ByteArray))
theorem r01_Untie.mono_l : ∀ k, (∀ y0 y1, LeO (r01_Untie.l0 k y0 y1) (r01_Untie.l0 (k + 1) y0 y1))
 | 0 => fun _ _ r h => by simp [r01_Untie.l0] at h
 | k + 1 => by
  have ih0 := r01_Untie.mono_l k
  ·intro y0 y1
   unfold r01_Untie.l0
   repeat' first
   | (with_reducible exact ih0 _ _)
   | (with_reducible exact LeO.refl _)
   | (with_reducible exact LeO.none _)
   | (with_reducible refine LeO.ite ?_ ?_)
   | (with_reducible refine LeO.bind ?_ (fun _ => ?_))
   | exact ih0 _ _
   | exact LeO.none _
   | refine LeO.ite ?_ ?_
   | refine LeO.bind ?_ (fun _ => ?_)
theorem r01_Untie.mono : ∀ a0 k, LeO (r01_Untie.f k a0) (r01_Untie.f (k + 1) a0) := by
 intro a0 k
 have ih0 := r01_Untie.mono_l k
 unfold r01_Untie.f
 repeat' first
  | (with_reducible exact ih0 _ _)
  | (with_reducible exact LeO.refl _)
  | (with_reducible exact LeO.none _)
  | (with_reducible refine LeO.ite ?_ ?_)
  | (with_reducible refine LeO.bind ?_ (fun _ => ?_))
  | exact ih0 _ _
  | exact LeO.none _
  | refine LeO.ite ?_ ?_
  | refine LeO.bind ?_ (fun _ => ?_)
set_option maxHeartbeats 8000000 in
set_option maxRecDepth 100000 in
theorem r01_Untie.calls (k : Nat) (a0 : ByteArray) (r1 : List ByteArray) (r2 : Int) (w : World) (hG : TheG w) (h : r01_Untie.f k a0 = some (r1, r2)) :
 Calls Tryz.prog 31 #[.string a0] w fun e w' => ∃ v0_ : Value, e = .returned (.tuple #[v0_, .int .i64 r2]) ∧ Kd.R Kd.string 9 w' w.heap.size (fun _ => True) v0_ r1 ∧ Below w.heap.size w w' := by
 have HB := Az.mk (Below.refl w.heap.size w)
 have H : (if (a0.size : Int) > 1048576 then (some (([] : List ByteArray), 10)) else (r01_Untie.l0 k a0 ([] : List ByteArray))) = some (r1, r2) := h
 clear h
 by_cases c2 : (a0.size : Int) > 1048576
 ·rw [if_pos c2] at H
  have c2b0 : decide (1048576 < (a0.size : Int)) = true := decide_eq_true c2
  have c2b1 : decide (1048576 < a0.size) = true := decide_eq_true (by omega)
  clear c2
  simp only [Option.some.injEq, Prod.mk.injEq] at H
  obtain ⟨rfl, rfl⟩ := H
  go_enter Tryz.func31, Tryz.ntmps31
  go_wp2
  go_ret2
  exact ⟨_, by first | rfl | (simp [errW_none, errW_some] <;> rfl) | (simp [*, errW_none, errW_some] <;> rfl), by first | exact Kd.R_nil _ _ _ _ _ | exact Kd.N_nil _ _ _ _ _ | exact Kd.V_nil _ _ _ _ _ | exact Kd.Q_nil _ _ _ _ _ | exact Kd.S_nil _ _ _ _ _, by exact pbE HB.out⟩
 ·rw [if_neg c2] at H
  have c2b0 : decide (1048576 < (a0.size : Int)) = false := decide_eq_false c2
  have c2b1 : decide (1048576 < a0.size) = false := decide_eq_false (by omega)
  clear c2
  have H' := Az.mk H
  clear H
  go_enter Tryz.func31, Tryz.ntmps31
  go_wp2
  go_loopg [0, 4] k (fun kq v0 v4 w' => ∃ (x0_1 : ByteArray) (x4_1 : List ByteArray), v0 = .string x0_1 ∧ Az (r01_Untie.l0 kq x0_1 x4_1 = some (r1, r2)) ∧ Az (kq ≤ k) ∧ Az (Kd.R Kd.string 9 w' w.heap.size (fun _ => True) v4 x4_1) ∧ Az (Below w.heap.size w w'))
  case atStart => exact ⟨(a0), (([] : List ByteArray)), (by first | rfl | (simp; done) | (simp [*]; done)), H', ⟨Nat.le_refl _⟩, ⟨by first | exact Kd.R_nil _ _ _ _ _ | exact Kd.N_nil _ _ _ _ _ | exact Kd.V_nil _ _ _ _ _ | exact Kd.Q_nil _ _ _ _ _ | exact Kd.S_nil _ _ _ _ _⟩, ⟨by exact pbE HB.out⟩⟩
  case round =>
   clear H'
   try clear c2
   try clear c2b0
   try clear c2b1
   try clear p2
   obtain ⟨x0_1, x4_1, rfl, HA, HK1, HO_4, HB⟩ := hrel
   cases gk with
   | zero => exact absurd HA.out (by simp [r01_Untie.l0])
   | succ k1 =>
    have H := HA.out
    clear HA
    simp only [r01_Untie.l0] at H
    by_cases c3 : x0_1.toList = ([] : List UInt8)
    ·rw [if_pos c3] at H
     have c3b0 : (x0_1.toList == ([] : List UInt8)) = true := beq_iff_eq.mpr c3
     have c3b1 : (x0_1.toList != ([] : List UInt8)) = false := bne_eq_false_iff_eq.mpr c3
     clear c3
     simp only [Option.some.injEq, Prod.mk.injEq] at H
     obtain ⟨rfl, rfl⟩ := H
     go_wp2
     go_ret2
     exact ⟨_, by first | rfl | (simp [errW_none, errW_some] <;> rfl) | (simp [*, errW_none, errW_some] <;> rfl), by (with_reducible repeat (first | apply Kd.R_alloc | apply Kd.R_drewN | apply Kd.R_drew)); exact HO_4.out, by exact pbE HB.out⟩
    ·rw [if_neg c3] at H
     have c3b0 : (x0_1.toList == ([] : List UInt8)) = false := beq_eq_false_iff_ne.mpr c3
     have c3b1 : (x0_1.toList != ([] : List UInt8)) = true := bne_iff_ne.mpr c3
     replace H := Option.bind_eq_some_iff.mp H
     obtain ⟨⟨t343, t344, t345⟩, A40, H⟩ := H
     try dsimp only at H
     have A4 := Az.mk A40
     clear A40
     by_cases c5 : t345 = 0
     ·rw [if_pos c5] at H
      have c5b0 : (t345 == 0) = true := beq_iff_eq.mpr c5
      have c5b1 : (t345 != 0) = false := bne_eq_false_iff_eq.mpr c5
      clear c5
      by_cases c6 : (x4_1.length : Int) = 4096
      ·rw [if_pos c6] at H
       have c6b0 : ((x4_1.length : Int) == 4096) = true := beq_iff_eq.mpr c6
       have c6b1 : ((x4_1.length : Int) != 4096) = false := bne_eq_false_iff_eq.mpr c6
       clear c6
       simp only [Option.some.injEq, Prod.mk.injEq] at H
       obtain ⟨rfl, rfl⟩ := H
       go_wp2_with (first | ((with_reducible refine gtc (f := 53) rfl ?_); refine goesL_ (some 15) rfl rfl Tryz.func53 (by kernel_rfl) rfl #[.string x0_1] rfl (by (try simp only [List.map_toArray, List.map_cons, List.map_nil]); first | done | rfl | (simp only [List.length_drop, List.length_take]; rfl)) ?_; (with_reducible refine (r01_First.calls x0_1 t343 t344 t345 _ ?side1 A4.out).mono ?_); (case side1 => exact hG.below (by exact pbE HB.out)); rintro e w' ⟨rfl, ⟨nd, rfl⟩⟩; refine ⟨_, rfl, ?_⟩; obtain ⟨Ao7, co7, eo7⟩ := Kd.R_slice HO_4.out; subst eo7))
       go_ret2
       exact ⟨_, by first | rfl | (simp [errW_none, errW_some] <;> rfl) | (simp [*, errW_none, errW_some] <;> rfl), by first | exact Kd.R_nil _ _ _ _ _ | exact Kd.N_nil _ _ _ _ _ | exact Kd.V_nil _ _ _ _ _ | exact Kd.Q_nil _ _ _ _ _ | exact Kd.S_nil _ _ _ _ _, by exact pbE HB.out⟩
      ·rw [if_neg c6] at H
       have c6b0 : ((x4_1.length : Int) == 4096) = false := beq_eq_false_iff_ne.mpr c6
       have c6b1 : ((x4_1.length : Int) != 4096) = true := bne_iff_ne.mpr c6
       by_cases c8 : x4_1.length < 8796093022208
       ·rw [if_pos c8] at H
        have LMc8 := Az.mk c8
        clear c8
        obtain ⟨y346, hy346⟩ : ∃ y_ : List ByteArray, y_ = (x4_1 ++ [t343]) := ⟨_, rfl⟩
        replace H : (r01_Untie.l0 k1 t344 y346) = some (r1, r2) := by first | (rw [hy346]; with_reducible exact H) | (have H2_ := (Option.bind_some _ _).symm.trans H; rw [hy346]; with_reducible exact H2_) | (have H2_ := (Option.bind_some _ _).symm.trans H; with_reducible exact H2_) | with_reducible exact H | (rw [hy346]; exact H) | exact H
        have Ny346 := Az.mk hy346
        clear hy346
        have H' := Az.mk H
        clear H
        go_wp2_with (first | ((with_reducible refine gtc (f := 53) rfl ?_); refine goesL_ (some 15) rfl rfl Tryz.func53 (by kernel_rfl) rfl #[.string x0_1] rfl (by (try simp only [List.map_toArray, List.map_cons, List.map_nil]); first | done | rfl | (simp only [List.length_drop, List.length_take]; rfl)) ?_; (with_reducible refine (r01_First.calls x0_1 t343 t344 t345 _ ?side1 A4.out).mono ?_); (case side1 => exact hG.below (by exact pbE HB.out)); rintro e w' ⟨rfl, ⟨nd, rfl⟩⟩; refine ⟨_, rfl, ?_⟩; obtain ⟨Ao9, co9, eo9⟩ := Kd.R_slice HO_4.out; subst eo9) | ((with_reducible refine gate_builtin (b := .append) (xs := #[.tmp 26, .tmp 28]) rfl ?_); (try (refine gate_guard (by rfl) ?_; dsimp only)); at_builtin; refine Kd.R_append Kd.string (w0 := w) w.heap.size rfl (.tmp 26) (.tmp 28) 52 9 (.string ⟨#[]⟩) 16 rfl Tryz.underlying52 info9 rfl (by decide) (by omega) (.slice Ao9 x4_1.length co9) x4_1 t343 [.string t343] (fun _ => True) (fun _ => False) rfl rfl ?aP (fun _ hk => hk.elim) ?aF ?aO ?aB ?aS ?aL ?_; (case aP => exact rfl); (case aB => exact (by exact pbE HB.out)); (case aF => exact (fun _ _ => trivial)); (case aO => exact (Kd.R_ext HO_4.out)); (case aS => exact (pbZ (by exact pbE HB.out))); (case aL => have := LMc8.out; omega); intro v347 w10 ho hb hg hat; rw [← Ny346.out] at ho; replace HB := Az.mk (hb); have HO348 := Az.mk (ho); clear HO_4; clear ho hb hg hat))
        go_roundg k1
        case measure => have := HK1.out; omega
        case rel => exact ⟨(t344), (y346), (by first | rfl | (simp; done) | (simp [*]; done)), H', ⟨by have := HK1.out; omega⟩, ⟨by (with_reducible repeat (first | apply Kd.R_alloc | apply Kd.R_drewN | apply Kd.R_drew)); exact HO348.out⟩, ⟨by exact pbE HB.out⟩⟩
       ·rw [if_neg c8] at H
        exact absurd H (by simp)
     ·rw [if_neg c5] at H
      have c5b0 : (t345 == 0) = false := beq_eq_false_iff_ne.mpr c5
      have c5b1 : (t345 != 0) = true := bne_iff_ne.mpr c5
      simp only [Option.some.injEq, Prod.mk.injEq] at H
      obtain ⟨rfl, rfl⟩ := H
      go_wp2_with (first | ((with_reducible refine gtc (f := 53) rfl ?_); refine goesL_ (some 15) rfl rfl Tryz.func53 (by kernel_rfl) rfl #[.string x0_1] rfl (by (try simp only [List.map_toArray, List.map_cons, List.map_nil]); first | done | rfl | (simp only [List.length_drop, List.length_take]; rfl)) ?_; (with_reducible refine (r01_First.calls x0_1 t343 t344 t345 _ ?side1 A4.out).mono ?_); (case side1 => exact hG.below (by exact pbE HB.out)); rintro e w' ⟨rfl, ⟨nd, rfl⟩⟩; refine ⟨_, rfl, ?_⟩))
      go_ret2
      exact ⟨_, by first | rfl | (simp [errW_none, errW_some] <;> rfl) | (simp [*, errW_none, errW_some] <;> rfl), by first | exact Kd.R_nil _ _ _ _ _ | exact Kd.N_nil _ _ _ _ _ | exact Kd.V_nil _ _ _ _ _ | exact Kd.Q_nil _ _ _ _ _ | exact Kd.S_nil _ _ _ _ _, by exact pbE HB.out⟩
end Go.Proofs.YtjfhcijjjadhbaaGreatDoor.P
end
section
namespace Go.Proofs.YtjfhcijjjadhbaaGreatDoor.V
open Go.RowKit Go.Proofs.YtjfhcijjjadhbaaGreatDoorW.PrintWords Go.Proofs.YtjfhcijjjadhbaaGreatDoorW.PrintLast Go.Proofs.YtjfhcijjjadhbaaGreatDoorW.PrintMore Go.Proofs.YtjfhcijjjadhbaaGreatDoor.P Go.Proofs.YtjfhcijjjadhbaaGreatDoor.K Go.Proofs.YtjfhcijjjadhbaaGreatDoor.A
theorem runtie_loop (n : Nat) : ∀ (s : ByteArray) (acc : List ByteArray), s.size < n → s.size ≤ 1048576 → acc.length ≤ 4096 →
 Ev (fun k => r01_Untie.l0 k s acc) (untieA acc (untieF n s.data.toList)) := by
 induction n with
 | zero => intro s acc h; omega
 | succ n ih =>
  intro s acc hs hm ha
  refine Ev.step (f := fun k => if s.toList = ([] : List UInt8) then (some (acc, 0)) else ((r01_First.f s).bind fun bt142 => (if bt142.2.2 = 0 then (if (acc.length : Int) = 4096 then (some (([] : List ByteArray), 10)) else (if acc.length < 8796093022208 then (r01_Untie.l0 k bt142.2.1 (acc ++ [bt142.1])) else (none))) else (some (([] : List ByteArray), 10))))) (fun k => rfl) ?_
  refine Ev.ite (fun h0 => ?_) (fun h0 => ?_)
  ·rw [B_nil_data] at h0
   have : untieA acc (untieF (n + 1) s.data.toList) = (acc, 0) := by
    simp only [untieF]; rw [if_pos h0]; simp [untieA, ha]
   rw [this]; exact Ev.now _
  ·rw [B_nil_data] at h0
   rw [show r01_First.f s = some (firstR s) by unfold r01_First.f; rw [if_pos (by omega)]; rfl]
   simp only [Option.bind_some]
   cases hf : firstL s.data.toList with
   | none =>
    rw [firstR_none hf]
    have : untieF (n + 1) s.data.toList = none := by simp only [untieF]; rw [if_neg h0, hf]
    rw [this]
    exact Ev.now _
   | some p =>
    obtain ⟨x, r⟩ := p
    rw [firstR_some hf]
    have hu : untieF (n + 1) s.data.toList = (untieF n r).map (x :: ·) := by simp only [untieF]; rw [if_neg h0, hf]
    rw [hu]
    obtain ⟨hl, _⟩ := firstL_some hf
    have hlen := congrArg List.length hl
    rw [List.length_append, ← Lib.size_eq, strand_length] at hlen
    refine Ev.ite (fun _ => Ev.ite (fun hfull => ?_) (fun hroom => Ev.ite (fun _ => ?_) (fun h => absurd h (by omega)))) (fun h => absurd rfl h)
    ·rw [untieA_full _ _ _ (by omega)]; exact Ev.now _
    ·rw [← untieA_step _ _ _ (by omega)]
     have := ih (B r) (acc ++ [B x]) (by rw [B_size]; omega) (by rw [B_size]; omega) (by simp; omega)
     rw [B_data] at this
     exact this
theorem runtie_ev (s : ByteArray) : Ev (fun k => r01_Untie.f k s) (untieR s) := by
 refine Ev.ite (fun h => ?_) (fun h => ?_)
 ·rw [untieR_long s (by omega)]; exact Ev.now _
 ·rw [untieR_eq s (by omega)]
  exact runtie_loop _ s [] (Nat.lt_succ_self _) (by omega) (by simp)
theorem rtie {l : List ByteArray} (h : (tieD (datas l)).length ≤ 140737488355328) : r01_Tie.f l = some (B (tieD (datas l))) := by
 unfold r01_Tie.f tieB; rw [if_pos (by unfold datas at h; omega)]; rfl
end Go.Proofs.YtjfhcijjjadhbaaGreatDoor.V
end
section
namespace Go.Proofs.YtjfhcijjjadhbaaGreatDoor.P
open Go.RowKit Go.Proofs.YtjfhcijjjadhbaaGreatDoor.K Go.Proofs.YtjfhcijjjadhbaaGreatDoorW.PrintWords Go.Proofs.YtjfhcijjjadhbaaGreatDoorW.PrintLast Go.Proofs.YtjfhcijjjadhbaaGreatDoorW.PrintMore
attribute [local go_sem] max2_int min2_int max_two min_two max_three min_three max_four min_four   -- for this text's walks alone
def r06_Put.l0 : Nat → List ByteArray → Int → Int → ByteArray → ByteArray → Int → List (S30) → Int → Option (ByteArray)
 | 0, _, _, _, _, _, _, _, _ => none
 | k + 1, x3, x4, x406000, x406001, x406002, x406003, x406004, x406005 => if x4 < (x406004.length : Int) then (if 0 ≤ x4 then ((r01_Num.f ((rd_T30 x406004 x4).f0)).bind fun t413 => ((r01_Num.f ((rd_T30 x406004 x4).f1)).bind fun t415 => ((some (([t413, t415] : List ByteArray) : List ByteArray)).bind fun y416 => (if x3.length + y416.length < 8796093022208 then (r06_Put.l0 k (x3 ++ y416) (wrap64 (x4 + 1)) x406000 x406001 x406002 x406003 x406004 x406005) else (none))))) else (none)) else ((r01_Tie.f x3).bind fun t422 => (some t422))
def r06_Put.f (k : Nat) (a0_0 : Int) (a0_1 : ByteArray) (a0_2 : ByteArray) (a0_3 : Int) (l0_4 : List (S30)) (a0_5 : Int) : Option (ByteArray) := (r01_Num.f a0_0).bind fun t406 => ((r01_Num.f a0_3).bind fun t407 => ((r01_Num.f a0_5).bind fun t408 => (r06_Put.l0 k (([t406, a0_1, a0_2, t407, t408] : List ByteArray)) 0 a0_0 a0_1 a0_2 a0_3 l0_4 a0_5)))
theorem r06_Put.mono_l : ∀ k, (∀ y0 y1 y2 y3 y4 y5 y6 y7, LeO (r06_Put.l0 k y0 y1 y2 y3 y4 y5 y6 y7) (r06_Put.l0 (k + 1) y0 y1 y2 y3 y4 y5 y6 y7))
 | 0 => fun _ _ _ _ _ _ _ _ r h => by simp [r06_Put.l0] at h
 | k + 1 => by
  have ih0 := r06_Put.mono_l k
  ·intro y0 y1 y2 y3 y4 y5 y6 y7
   unfold r06_Put.l0
   repeat' first
   | (with_reducible exact ih0 _ _ _ _ _ _ _ _)
   | (with_reducible exact LeO.refl _)
   | (with_reducible exact LeO.none _)
   | (with_reducible refine LeO.ite ?_ ?_)
   | (with_reducible refine LeO.bind ?_ (fun _ => ?_))
   | exact ih0 _ _ _ _ _ _ _ _
   | exact LeO.none _
   | refine LeO.ite ?_ ?_
   | refine LeO.bind ?_ (fun _ => ?_)
theorem r06_Put.mono : ∀ a0 a1 a2 a3 a4 a5 k, LeO (r06_Put.f k a0 a1 a2 a3 a4 a5) (r06_Put.f (k + 1) a0 a1 a2 a3 a4 a5) := by
 intro a0 a1 a2 a3 a4 a5 k
 have ih0 := r06_Put.mono_l k
 unfold r06_Put.f
 repeat' first
  | (with_reducible exact ih0 _ _ _ _ _ _ _ _)
  | (with_reducible exact LeO.refl _)
  | (with_reducible exact LeO.none _)
  | (with_reducible refine LeO.ite ?_ ?_)
  | (with_reducible refine LeO.bind ?_ (fun _ => ?_))
  | exact ih0 _ _ _ _ _ _ _ _
  | exact LeO.none _
  | refine LeO.ite ?_ ?_
  | refine LeO.bind ?_ (fun _ => ?_)
def r06_Put.T1 : Bool × List (List Nat × List Nat) := (true, [([], []), ([0], [0]), ([1], [1]), ([], []), ([3], [3]), ([4], [4]), ([], []), ([6], [6]), ([7], [7]), ([], []), ([9], [9]), ([10, 2], [10]), ([], []), ([12], [12]), ([13, 11], [13]), ([2, 5, 8, 11, 14], [2, 5, 8, 11, 14]), ([15, 14, 0, 1, 2, 3, 4, 5, 6, 7, 8, 9, 10, 11, 12, 13, 14, 15], [15])])
def r06_Put.B1 : List Nat := [0, 1, 3, 0, 8, 24, 0, 64, 192, 0, 512, 1543, 0, 4096, 15879, 32767, 65535]
theorem r06_Put.tab1 : rtab .any (opsOf Tryz.f18 1) = r06_Put.T1 := by kernel_rfl
theorem r06_Put.bits1 : waitsOk r06_Put.T1.2 r06_Put.B1 = true := by kernel_rfl
def r06_Put.T5 : Bool × List (List Nat × List Nat) := (true, [([], []), ([], []), ([1], [1]), ([], []), ([2, 3], [2, 3]), ([4], [4]), ([5], [5]), ([6], [6]), ([], []), ([8], [8]), ([], []), ([9, 10], [9, 10]), ([11], [11]), ([12], [12]), ([13, 7], [13]), ([7, 14], [7, 14]), ([0, 15, 14], [0, 15]), ([16, 16, 0, 1, 2, 3, 4, 5, 6, 7, 8, 9, 10, 11, 12, 13, 14, 15, 16], [0, 16])])
def r06_Put.B5 : List Nat := [0, 0, 2, 0, 14, 30, 62, 126, 0, 256, 0, 1792, 3840, 7936, 16382, 32766, 65535, 131071]
theorem r06_Put.tab5 : rtab .any (opsOf Tryz.f18 5) = r06_Put.T5 := by kernel_rfl
theorem r06_Put.bits5 : waitsOk r06_Put.T5.2 r06_Put.B5 = true := by kernel_rfl
set_option maxHeartbeats 8000000 in
set_option maxRecDepth 100000 in
theorem r06_Put.calls (k : Nat) (a0_0 : Int) (a0_1 : ByteArray) (a0_2 : ByteArray) (a0_3 : Int) (A0_4 : Option Addr) (c0_4 : Nat) (l0_4 : List (S30)) (a0_5 : Int) (r : ByteArray) (w : World) (hG : TheG w) (hr0_4 : Kd.C k30 w A0_4 l0_4.length l0_4) (hc0_4 : l0_4.length ≤ c0_4) (h : r06_Put.f k a0_0 a0_1 a0_2 a0_3 l0_4 a0_5 = some r) :
 Calls Tryz.prog 18 #[.agg #[.int .i64 a0_0, .string a0_1, .string a0_2, .int .i64 a0_3, .slice A0_4 l0_4.length c0_4, .int .i64 a0_5]] w fun e w' => e = .returned (.string r) ∧ Below w.heap.size w w' := by
 have hu26 := Tryz.underlying26
 have HR0_4 := Az.mk hr0_4
 have HC0_4 := Az.mk hc0_4
 clear hr0_4 hc0_4
 have HB := Az.mk (Below.refl w.heap.size w)
 have H : ((r01_Num.f a0_0).bind fun t406 => ((r01_Num.f a0_3).bind fun t407 => ((r01_Num.f a0_5).bind fun t408 => (r06_Put.l0 k (([t406, a0_1, a0_2, t407, t408] : List ByteArray)) 0 a0_0 a0_1 a0_2 a0_3 l0_4 a0_5)))) = some r := h
 clear h
 replace H := Option.bind_eq_some_iff.mp H
 obtain ⟨t406, A20, H⟩ := H
 try dsimp only at H
 have A2 := Az.mk A20
 clear A20
 replace H := Option.bind_eq_some_iff.mp H
 obtain ⟨t407, A30, H⟩ := H
 try dsimp only at H
 have A3 := Az.mk A30
 clear A30
 replace H := Option.bind_eq_some_iff.mp H
 obtain ⟨t408, A40, H⟩ := H
 try dsimp only at H
 have A4 := Az.mk A40
 clear A40
 obtain ⟨y409, hy409⟩ : ∃ y_ : List ByteArray, y_ = (([t406, a0_1, a0_2, t407, t408] : List ByteArray)) := ⟨_, rfl⟩
 replace H : (r06_Put.l0 k y409 0 a0_0 a0_1 a0_2 a0_3 l0_4 a0_5) = some r := by first | (rw [hy409]; with_reducible exact H) | (have H2_ := (Option.bind_some _ _).symm.trans H; rw [hy409]; with_reducible exact H2_) | (have H2_ := (Option.bind_some _ _).symm.trans H; with_reducible exact H2_) | with_reducible exact H | (rw [hy409]; exact H) | exact H
 have Ny409 := Az.mk hy409
 clear hy409
 have H' := Az.mk H
 clear H
 go_enter Tryz.func18, Tryz.ntmps18
 try go_wp2_with (first | ((with_reducible refine gate_dst (N := 1) rfl ?_); refine box_event ?hg (N := 1) ?hd (cs := #[.int .i64 a0_0, .string a0_1, .string a0_2, .int .i64 a0_3, .slice A0_4 l0_4.length c0_4, .int .i64 a0_5]) (t := 26) ?hr ?_; (case hd => rfl); (case hg => rfl); (case hr => first | (go_simp; done) | (go_simp; rfl)); intro gb405 hg w5 hbox hb; have BK405 := Az.mk (hbox); have GW405 := Az.mk (geO hg (pbE HB.out)); have GE405 := Az.mk (geO hg (pbE HB.out)); replace HB := Az.mk (pbT (by exact pbE HB.out) hb); clear hb hbox hg))
 replace BK405 := Az.mk (bkD BK405.out)
 replace HB := Az.mk (pb1 HB.out)
 refine start_ (n := 17) (S := fun w' => w'.cell? ⟨gb405, 0, none⟩ = some (.int .i64 a0_0) ∧ w'.cell? ⟨gb405, 1, none⟩ = some (.string a0_1) ∧ w'.cell? ⟨gb405, 2, none⟩ = some (.string a0_2) ∧ w'.cell? ⟨gb405, 3, none⟩ = some (.int .i64 a0_3) ∧ w'.cell? ⟨gb405, 4, none⟩ = some (.slice A0_4 l0_4.length c0_4) ∧ w'.cell? ⟨gb405, 5, none⟩ = some (.int .i64 a0_5)) (ds := []) #[false, false, false, false, false, false, false, false, false, false, false, false, false, false, false, false, false] (by kernel_rfl) rfl rfl ⟨(bkC BK405.out 0).trans rfl, (bkC BK405.out 1).trans rfl, (bkC BK405.out 2).trans rfl, (bkC BK405.out 3).trans rfl, (bkC BK405.out 4).trans rfl, (bkC BK405.out 5).trans rfl⟩ (fun hHeld => ?_); refine with_tabW r06_Put.tab1 r06_Put.bits1 (fun HT_ HW_ => ?_)
 generalize w5.drew = w6 at BK405 HB hHeld ⊢
 refine pure_ (i := 0) (N := some 5) (v := ?_) (a' := ?_) #[true, false, false, false, false, false, false, false, false, false, false, false, false, false, false, false, false] rfl rfl (any_of HT_.out (by kernel_rfl)) (fun _ _ _ h => h) (Or.inl ⟨by rfl, ?_⟩) ?_ ?_
 rotate_left
 ·intro w'
  go_simp
  with_reducible rfl
 rotate_left
 ·simp only [Act.put, List.setIfInBounds_toArray, List.set_cons_zero, List.set_cons_succ, i64_w, i32_w]
  rfl
 refine pure_ (i := 3) (N := some 8) (v := ?_) (a' := ?_) #[true, false, false, true, false, false, false, false, false, false, false, false, false, false, false, false, false] rfl rfl (any_of HT_.out (by kernel_rfl)) (fun _ _ _ h => h) (Or.inl ⟨by rfl, ?_⟩) ?_ ?_
 rotate_left
 ·intro w'
  go_simp
  with_reducible rfl
 rotate_left
 ·simp only [Act.put, List.setIfInBounds_toArray, List.set_cons_zero, List.set_cons_succ, i64_w, i32_w]
  rfl
 refine pure_ (i := 4) (N := some 9) (v := ?_) (a' := ?_) #[true, false, false, true, true, false, false, false, false, false, false, false, false, false, false, false, false] rfl rfl (any_of HT_.out (by kernel_rfl)) (fun _ _ _ h => h) (Or.inl ⟨by rfl, ?_⟩) ?_ ?_
 rotate_left
 ·intro w'
  go_simp
  with_reducible rfl
 rotate_left
 ·simp only [Act.put, List.setIfInBounds_toArray, List.set_cons_zero, List.set_cons_succ, i64_w, i32_w]
  rfl
 refine pure_ (i := 6) (N := some 11) (v := ?_) (a' := ?_) #[true, false, false, true, true, false, true, false, false, false, false, false, false, false, false, false, false] rfl rfl (any_of HT_.out (by kernel_rfl)) (fun _ _ _ h => h) (Or.inl ⟨by rfl, ?_⟩) ?_ ?_
 rotate_left
 ·intro w'
  go_simp
  with_reducible rfl
 rotate_left
 ·simp only [Act.put, List.setIfInBounds_toArray, List.set_cons_zero, List.set_cons_succ, i64_w, i32_w]
  rfl
 refine pure_ (i := 7) (N := some 12) (v := ?_) (a' := ?_) #[true, false, false, true, true, false, true, true, false, false, false, false, false, false, false, false, false] rfl rfl (any_of HT_.out (by kernel_rfl)) (fun _ _ _ h => h) (Or.inl ⟨by rfl, ?_⟩) ?_ ?_
 rotate_left
 ·intro w'
  go_simp
  with_reducible rfl
 rotate_left
 ·simp only [Act.put, List.setIfInBounds_toArray, List.set_cons_zero, List.set_cons_succ, i64_w, i32_w]
  rfl
 refine pure_ (i := 9) (N := some 14) (v := ?_) (a' := ?_) #[true, false, false, true, true, false, true, true, false, true, false, false, false, false, false, false, false] rfl rfl (any_of HT_.out (by kernel_rfl)) (fun _ _ _ h => h) (Or.inl ⟨by rfl, ?_⟩) ?_ ?_
 rotate_left
 ·intro w'
  go_simp
  with_reducible rfl
 rotate_left
 ·simp only [Act.put, List.setIfInBounds_toArray, List.set_cons_zero, List.set_cons_succ, i64_w, i32_w]
  rfl
 refine pure_ (i := 12) (N := some 17) (v := ?_) (a' := ?_) #[true, false, false, true, true, false, true, true, false, true, false, false, true, false, false, false, false] rfl rfl (any_of HT_.out (by kernel_rfl)) (fun _ _ _ h => h) (Or.inl ⟨by rfl, ?_⟩) ?_ ?_
 rotate_left
 ·intro w'
  go_simp
  with_reducible rfl
 rotate_left
 ·simp only [Act.put, List.setIfInBounds_toArray, List.set_cons_zero, List.set_cons_succ, i64_w, i32_w]
  rfl
 refine take_ (i := 1) (N := some 6) (v := ?_) (a' := ?_) #[true, true, false, true, true, false, true, true, false, true, false, false, true, false, false, false, false] rfl rfl (take_ofW HT_.out HW_.out (by kernel_rfl)) (fun _ _ _ h => h) (Or.inl ⟨by rfl, ?_⟩) hHeld ?_ ?_
 rotate_left
 ·rintro w' ⟨s0, s1, s2, s3, s4, s5⟩
  go_simp
  with_reducible rfl
 rotate_left
 ·simp only [Act.put, List.setIfInBounds_toArray, List.set_cons_zero, List.set_cons_succ, i64_w, i32_w]
  rfl
 refine take_ (i := 5) (N := some 10) (v := ?_) (a' := ?_) #[true, true, false, true, true, true, true, true, false, true, false, false, true, false, false, false, false] rfl rfl (take_ofW HT_.out HW_.out (by kernel_rfl)) (fun _ _ _ h => h) (Or.inl ⟨by rfl, ?_⟩) hHeld ?_ ?_
 rotate_left
 ·rintro w' ⟨s0, s1, s2, s3, s4, s5⟩
  go_simp
  with_reducible rfl
 rotate_left
 ·simp only [Act.put, List.setIfInBounds_toArray, List.set_cons_zero, List.set_cons_succ, i64_w, i32_w]
  rfl
 refine take_ (i := 8) (N := some 13) (v := ?_) (a' := ?_) #[true, true, false, true, true, true, true, true, true, true, false, false, true, false, false, false, false] rfl rfl (take_ofW HT_.out HW_.out (by kernel_rfl)) (fun _ _ _ h => h) (Or.inl ⟨by rfl, ?_⟩) hHeld ?_ ?_
 rotate_left
 ·rintro w' ⟨s0, s1, s2, s3, s4, s5⟩
  go_simp
  with_reducible rfl
 rotate_left
 ·simp only [Act.put, List.setIfInBounds_toArray, List.set_cons_zero, List.set_cons_succ, i64_w, i32_w]
  rfl
 refine take_ (i := 10) (N := some 15) (v := ?_) (a' := ?_) #[true, true, false, true, true, true, true, true, true, true, true, false, true, false, false, false, false] rfl rfl (take_ofW HT_.out HW_.out (by kernel_rfl)) (fun _ _ _ h => h) (Or.inl ⟨by rfl, ?_⟩) hHeld ?_ ?_
 rotate_left
 ·rintro w' ⟨s0, s1, s2, s3, s4, s5⟩
  go_simp
  with_reducible rfl
 rotate_left
 ·simp only [Act.put, List.setIfInBounds_toArray, List.set_cons_zero, List.set_cons_succ, i64_w, i32_w]
  rfl
 refine take_ (i := 13) (N := some 18) (v := ?_) (a' := ?_) #[true, true, false, true, true, true, true, true, true, true, true, false, true, true, false, false, false] rfl rfl (take_ofW HT_.out HW_.out (by kernel_rfl)) (fun _ _ _ h => h) (Or.inl ⟨by rfl, ?_⟩) hHeld ?_ ?_
 rotate_left
 ·rintro w' ⟨s0, s1, s2, s3, s4, s5⟩
  go_simp
  with_reducible rfl
 rotate_left
 ·simp only [Act.put, List.setIfInBounds_toArray, List.set_cons_zero, List.set_cons_succ, i64_w, i32_w]
  rfl
 refine one_ (i := 2) (N := some 7) #[true, true, true, true, true, true, true, true, true, true, true, false, true, true, false, false, false] rfl rfl (one_of HT_.out (by kernel_rfl)) (by decide) (fun K hK => ?_)
 refine goes_ Tryz.func43 (by kernel_rfl) rfl #[.int .i64 a0_0] (by rfl) rfl rfl (by (try simp only [List.map_toArray, List.map_cons, List.map_nil]); first | done | rfl | (simp only [List.length_drop, List.length_take]; rfl)) ?_
 with_reducible refine (r01_Num.calls a0_0 t406 _ ?side1 A2.out).mono ?_
 (case side1 => exact hG.below (by exact pbE HB.out))
 rintro e w' ⟨rfl, ⟨nd, rfl⟩⟩
 refine ⟨_, rfl, ?_⟩
 refine hK.out _ _ ⟨(bkC BK405.out 0).trans rfl, (bkC BK405.out 1).trans rfl, (bkC BK405.out 2).trans rfl, (bkC BK405.out 3).trans rfl, (bkC BK405.out 4).trans rfl, (bkC BK405.out 5).trans rfl⟩ (fun hHeld => ?_)
 clear hK K
 refine norm_ (a' := ?_) ?_ ?_
 rotate_left
 ·show Act.put _ (some 7) _ = _
  simp only [Act.put, List.setIfInBounds_toArray, List.set_cons_zero, List.set_cons_succ, i64_w, i32_w]
  rfl
 refine one_ (i := 11) (N := some 16) #[true, true, true, true, true, true, true, true, true, true, true, true, true, true, false, false, false] rfl rfl (one_of HT_.out (by kernel_rfl)) (by decide) (fun K hK => ?_)
 refine goes_ Tryz.func43 (by kernel_rfl) rfl #[.int .i64 a0_3] (by rfl) rfl rfl (by (try simp only [List.map_toArray, List.map_cons, List.map_nil]); first | done | rfl | (simp only [List.length_drop, List.length_take]; rfl)) ?_
 with_reducible refine (r01_Num.calls a0_3 t407 _ ?side1 A3.out).mono ?_
 (case side1 => exact hG.below (by exact pbE HB.out))
 rintro e w' ⟨rfl, ⟨nd, rfl⟩⟩
 refine ⟨_, rfl, ?_⟩
 refine hK.out _ _ ⟨(bkC BK405.out 0).trans rfl, (bkC BK405.out 1).trans rfl, (bkC BK405.out 2).trans rfl, (bkC BK405.out 3).trans rfl, (bkC BK405.out 4).trans rfl, (bkC BK405.out 5).trans rfl⟩ (fun hHeld => ?_)
 clear hK K
 refine norm_ (a' := ?_) ?_ ?_
 rotate_left
 ·show Act.put _ (some 16) _ = _
  simp only [Act.put, List.setIfInBounds_toArray, List.set_cons_zero, List.set_cons_succ, i64_w, i32_w]
  rfl
 refine one_ (i := 14) (N := some 19) #[true, true, true, true, true, true, true, true, true, true, true, true, true, true, true, false, false] rfl rfl (one_of HT_.out (by kernel_rfl)) (by decide) (fun K hK => ?_)
 refine goes_ Tryz.func43 (by kernel_rfl) rfl #[.int .i64 a0_5] (by rfl) rfl rfl (by (try simp only [List.map_toArray, List.map_cons, List.map_nil]); first | done | rfl | (simp only [List.length_drop, List.length_take]; rfl)) ?_
 with_reducible refine (r01_Num.calls a0_5 t408 _ ?side1 A4.out).mono ?_
 (case side1 => exact hG.below (by exact pbE HB.out))
 rintro e w' ⟨rfl, ⟨nd, rfl⟩⟩
 refine ⟨_, rfl, ?_⟩
 refine hK.out _ _ ⟨(bkC BK405.out 0).trans rfl, (bkC BK405.out 1).trans rfl, (bkC BK405.out 2).trans rfl, (bkC BK405.out 3).trans rfl, (bkC BK405.out 4).trans rfl, (bkC BK405.out 5).trans rfl⟩ (fun hHeld => ?_)
 clear hK K
 refine norm_ (a' := ?_) ?_ ?_
 rotate_left
 ·show Act.put _ (some 19) _ = _
  simp only [Act.put, List.setIfInBounds_toArray, List.set_cons_zero, List.set_cons_succ, i64_w, i32_w]
  rfl
 refine one_ (i := 15) (N := some 20) #[true, true, true, true, true, true, true, true, true, true, true, true, true, true, true, true, false] rfl rfl (one_of HT_.out (by kernel_rfl)) (by decide) (fun K hK => ?_)
 refine Kd.R_lit_step Kd.string _ 9 ?hg (N := 20) ?hd (xs := ([t406, a0_1, a0_2, t407, t408] : List ByteArray)) (inner := [.string t406, .string a0_1, .string a0_2, .string t407, .string t408]) (ok := fun _ => True) (okp := fun _ => True) ?hr ?hp (fun _ hk => hk) trivial (Below.refl _ _) (Nat.le_refl _) (by simp) ?_; (case hd => rfl); (case hg => rfl); (case hr => first | (go_simp; done) | (go_simp; rfl)); (case hp => exact (Reps.one (show Kd.M Kd.string _ _ _ t406 [.string t406] from rfl) (Reps.one (show Kd.M Kd.string _ _ _ a0_1 [.string a0_1] from rfl) (Reps.one (show Kd.M Kd.string _ _ _ a0_2 [.string a0_2] from rfl) (Reps.one (show Kd.M Kd.string _ _ _ t407 [.string t407] from rfl) (Reps.one (show Kd.M Kd.string _ _ _ t408 [.string t408] from rfl) (Reps.none _ _)))))))
 intro v410 w7 ho8 hb hg_ hnew_
 clear hg_ hnew_
 (first | rw [← Ny409.out] at ho8 | (simp only [Int.reduceToNat] at ho8; rw [← Ny409.out] at ho8))
 have HO411 := Az.mk (Kd.R_lower ho8 (pbZ (by exact pbE HB.out)))
 replace BK405 := Az.mk (bkB (bk BK405.out) hb)
 replace HB := Az.mk (pbT (by exact pbE HB.out) hb)
 clear hb ho8
 refine hK.out _ _ ⟨(bkC BK405.out 0).trans rfl, (bkC BK405.out 1).trans rfl, (bkC BK405.out 2).trans rfl, (bkC BK405.out 3).trans rfl, (bkC BK405.out 4).trans rfl, (bkC BK405.out 5).trans rfl⟩ (fun hHeld => ?_)
 clear hK K
 refine norm_ (a' := ?_) ?_ ?_
 rotate_left
 ·show Act.put _ (some 20) _ = _
  simp only [Act.put, List.setIfInBounds_toArray, List.set_cons_zero, List.set_cons_succ, i64_w, i32_w]
  rfl
 refine pure_ (i := 16) (N := some 3) (v := ?_) (a' := ?_) #[true, true, true, true, true, true, true, true, true, true, true, true, true, true, true, true, true] rfl rfl (any_of HT_.out (by kernel_rfl)) (fun _ _ _ h => h) (Or.inl ⟨by rfl, ?_⟩) ?_ ?_
 rotate_left
 ·intro w'
  go_simp
  with_reducible rfl
 rotate_left
 ·simp only [Act.put, List.setIfInBounds_toArray, List.set_cons_zero, List.set_cons_succ, i64_w, i32_w]
  rfl
 refine done_ (done_of HT_.out (by kernel_rfl)) ?_
 try go_wp2
 go_loopg [3, 4] k (fun kq v3 v4 w' => ∃ (x3_1 : List ByteArray) (x4_1 : Int), v4 = .int .i64 x4_1 ∧ Az (r06_Put.l0 kq x3_1 x4_1 a0_0 a0_1 a0_2 a0_3 l0_4 a0_5 = some r) ∧ Az (kq ≤ k) ∧ Az (Kd.R Kd.string 9 w' w.heap.size (fun _ => True) v3 x3_1) ∧ Az (w'.heap[gb405]? = some (.cells #[.int .i64 a0_0, .string a0_1, .string a0_2, .int .i64 a0_3, (.slice A0_4 l0_4.length c0_4), .int .i64 a0_5] 26 (0, 0))) ∧ Az (Below w.heap.size w w'))
 case atStart => exact ⟨(y409), (0), (by first | rfl | (simp; done) | (simp [*]; done)), H', ⟨Nat.le_refl _⟩, ⟨by (with_reducible repeat (first | apply Kd.R_alloc | apply Kd.R_drewN | apply Kd.R_drew)); exact HO411.out⟩, ⟨by refine bk ?_; exact BK405.out⟩, ⟨by exact pbE HB.out⟩⟩
 case round =>
  clear H'
  try clear c1
  try clear p2
  try clear c4
  obtain ⟨x3_1, x4_1, rfl, HA, HK1, HO_3, BK405, HB⟩ := hrel
  cases gk with
  | zero => exact absurd HA.out (by simp [r06_Put.l0])
  | succ k1 =>
   have H := HA.out
   clear HA
   simp only [r06_Put.l0] at H
   by_cases c9 : x4_1 < (l0_4.length : Int)
   ·rw [if_pos c9] at H
    have c9b0 : decide (x4_1 < (l0_4.length : Int)) = true := decide_eq_true c9
    clear c9
    by_cases c10 : 0 ≤ x4_1
    ·rw [if_pos c10] at H
     have c10b0 : decide (0 ≤ x4_1) = true := decide_eq_true c10
     clear c10
     replace H := Option.bind_eq_some_iff.mp H
     obtain ⟨t413, A110, H⟩ := H
     try dsimp only at H
     have A11 := Az.mk A110
     clear A110
     replace H := Option.bind_eq_some_iff.mp H
     obtain ⟨t415, A120, H⟩ := H
     try dsimp only at H
     have A12 := Az.mk A120
     clear A120
     obtain ⟨y416, hy416⟩ : ∃ y_ : List ByteArray, y_ = (([t413, t415] : List ByteArray)) := ⟨_, rfl⟩
     replace H : (if x3_1.length + y416.length < 8796093022208 then (r06_Put.l0 k1 (x3_1 ++ y416) (wrap64 (x4_1 + 1)) a0_0 a0_1 a0_2 a0_3 l0_4 a0_5) else (none)) = some r := by first | (rw [hy416]; with_reducible exact H) | (have H2_ := (Option.bind_some _ _).symm.trans H; rw [hy416]; with_reducible exact H2_) | (have H2_ := (Option.bind_some _ _).symm.trans H; with_reducible exact H2_) | with_reducible exact H | (rw [hy416]; exact H) | exact H
     have Ny416 := Az.mk hy416
     clear hy416
     by_cases c13 : x3_1.length + y416.length < 8796093022208
     ·rw [if_pos c13] at H
      have LMc13 := Az.mk c13
      clear c13
      obtain ⟨y419, hy419⟩ : ∃ y_ : List ByteArray, y_ = (x3_1 ++ y416) := ⟨_, rfl⟩
      replace H : (r06_Put.l0 k1 y419 (wrap64 (x4_1 + 1)) a0_0 a0_1 a0_2 a0_3 l0_4 a0_5) = some r := by first | (rw [hy419]; with_reducible exact H) | (have H2_ := (Option.bind_some _ _).symm.trans H; rw [hy419]; with_reducible exact H2_) | (have H2_ := (Option.bind_some _ _).symm.trans H; with_reducible exact H2_) | with_reducible exact H | (rw [hy419]; exact H) | exact H
      have Ny419 := Az.mk hy419
      clear hy419
      have H' := Az.mk H
      clear H
      have hcz14 := cells6 BK405.out
      try go_wp2
      replace HO_3 := Az.mk (Kd.R_drew HO_3.out)
      replace BK405 := Az.mk (bkD BK405.out)
      replace HB := Az.mk (pb1 HB.out)
      have p412 : 0 ≤ (x4_1 : Int) := of_decide_eq_true (by first | (with_reducible assumption) | assumption)
      have q412 : x4_1 < (l0_4.length : Int) := of_decide_eq_true (by first | (with_reducible assumption) | assumption)
      obtain ⟨ad412, e412, hx412_0, hx412_1⟩ := at_T30 HR0_4.out x4_1 p412 q412
      have hw412_1 := hx412_1
      have hw412_0 := hx412_0
      cases e412
      replace hx412_0 := (HB.out.cell (World.block_lt_of_cell? w _ hx412_0)).trans hx412_0
      replace hx412_1 := (HB.out.cell (World.block_lt_of_cell? w _ hx412_1)).trans hx412_1
      replace p412 := eq_true p412
      replace q412 := eq_true q412
      have p414 : 0 ≤ (x4_1 : Int) := of_decide_eq_true (by first | (with_reducible assumption) | assumption)
      have q414 : x4_1 < (l0_4.length : Int) := of_decide_eq_true (by first | (with_reducible assumption) | assumption)
      obtain ⟨ad414, e414, hx414_0, hx414_1⟩ := at_T30 HR0_4.out x4_1 p414 q414
      have hw414_1 := hx414_1
      have hw414_0 := hx414_0
      obtain rfl : ad412 = ad414 := (by injection e414)
      replace hx414_0 := (HB.out.cell (World.block_lt_of_cell? w _ hx414_0)).trans hx414_0
      replace hx414_1 := (HB.out.cell (World.block_lt_of_cell? w _ hx414_1)).trans hx414_1
      replace p414 := eq_true p414
      replace q414 := eq_true q414
      refine start_ (n := 18) (S := fun w' => w'.cell? ⟨gb405, 0, none⟩ = some (.int .i64 a0_0) ∧ w'.cell? ⟨gb405, 1, none⟩ = some (.string a0_1) ∧ w'.cell? ⟨gb405, 2, none⟩ = some (.string a0_2) ∧ w'.cell? ⟨gb405, 3, none⟩ = some (.int .i64 a0_3) ∧ w'.cell? ⟨gb405, 4, none⟩ = some (.slice (some ad412) l0_4.length c0_4) ∧ w'.cell? ⟨gb405, 5, none⟩ = some (.int .i64 a0_5) ∧ w'.cell? (ad412.add ((x4_1).toNat * 2)) = some (.int .i64 ((rd_T30 l0_4 x4_1).f0)) ∧ w'.cell? ⟨(ad412.add ((x4_1).toNat * 2)).block, (ad412.add ((x4_1).toNat * 2)).off + 1, none⟩ = some (.int .i64 ((rd_T30 l0_4 x4_1).f1)) ∧ w'.cell? (ad412.add ((x4_1).toNat * 2)) = some (.int .i64 ((rd_T30 l0_4 x4_1).f0)) ∧ w'.cell? ⟨(ad412.add ((x4_1).toNat * 2)).block, (ad412.add ((x4_1).toNat * 2)).off + 1, none⟩ = some (.int .i64 ((rd_T30 l0_4 x4_1).f1))) (ds := []) #[false, false, false, false, false, false, false, false, false, false, false, false, false, false, false, false, false, false] (by kernel_rfl) rfl rfl ⟨(bkC BK405.out 0).trans rfl, (bkC BK405.out 1).trans rfl, (bkC BK405.out 2).trans rfl, (bkC BK405.out 3).trans rfl, (bkC BK405.out 4).trans rfl, (bkC BK405.out 5).trans rfl, ((HB.out.cell (World.block_lt_of_cell? w _ hw412_0)).trans hw412_0), ((HB.out.cell (World.block_lt_of_cell? w _ hw412_1)).trans hw412_1), ((HB.out.cell (World.block_lt_of_cell? w _ hw414_0)).trans hw414_0), ((HB.out.cell (World.block_lt_of_cell? w _ hw414_1)).trans hw414_1)⟩ (fun hHeld => ?_); refine with_tabW r06_Put.tab5 r06_Put.bits5 (fun HT_ HW_ => ?_)
      generalize wr.drew = w15 at HO_3 BK405 HB hx412_0 hx412_1 hx414_0 hx414_1 hHeld ⊢
      refine pure_ (i := 0) (N := some 28) (v := ?_) (a' := ?_) #[true, false, false, false, false, false, false, false, false, false, false, false, false, false, false, false, false, false] rfl rfl (any_of HT_.out (by kernel_rfl)) (fun _ _ _ h => h) (Or.inl ⟨by rfl, ?_⟩) ?_ ?_
      rotate_left
      ·intro w'
       go_simp
       with_reducible rfl
      rotate_left
      ·simp only [Act.put, List.setIfInBounds_toArray, List.set_cons_zero, List.set_cons_succ, i64_w, i32_w]
       rfl
      refine pure_ (i := 1) (N := some 29) (v := ?_) (a' := ?_) #[true, true, false, false, false, false, false, false, false, false, false, false, false, false, false, false, false, false] rfl rfl (any_of HT_.out (by kernel_rfl)) (fun _ _ _ h => h) (Or.inl ⟨by rfl, ?_⟩) ?_ ?_
      rotate_left
      ·intro w'
       go_simp
       with_reducible rfl
      rotate_left
      ·simp only [Act.put, List.setIfInBounds_toArray, List.set_cons_zero, List.set_cons_succ, i64_w, i32_w]
       rfl
      refine pure_ (i := 3) (N := some 31) (v := ?_) (a' := ?_) #[true, true, false, true, false, false, false, false, false, false, false, false, false, false, false, false, false, false] rfl rfl (any_of HT_.out (by kernel_rfl)) (fun _ _ _ h => h) (Or.inl ⟨by rfl, ?_⟩) ?_ ?_
      rotate_left
      ·intro w'
       go_simp
       with_reducible rfl
      rotate_left
      ·simp only [Act.put, List.setIfInBounds_toArray, List.set_cons_zero, List.set_cons_succ, i64_w, i32_w]
       rfl
      refine pure_ (i := 8) (N := some 36) (v := ?_) (a' := ?_) #[true, true, false, true, false, false, false, false, true, false, false, false, false, false, false, false, false, false] rfl rfl (any_of HT_.out (by kernel_rfl)) (fun _ _ _ h => h) (Or.inl ⟨by rfl, ?_⟩) ?_ ?_
      rotate_left
      ·intro w'
       go_simp
       with_reducible rfl
      rotate_left
      ·simp only [Act.put, List.setIfInBounds_toArray, List.set_cons_zero, List.set_cons_succ, i64_w, i32_w]
       rfl
      refine pure_ (i := 10) (N := some 38) (v := ?_) (a' := ?_) #[true, true, false, true, false, false, false, false, true, false, true, false, false, false, false, false, false, false] rfl rfl (any_of HT_.out (by kernel_rfl)) (fun _ _ _ h => h) (Or.inl ⟨by rfl, ?_⟩) ?_ ?_
      rotate_left
      ·intro w'
       go_simp
       with_reducible rfl
      rotate_left
      ·simp only [Act.put, List.setIfInBounds_toArray, List.set_cons_zero, List.set_cons_succ, i64_w, i32_w]
       rfl
      refine take_ (i := 2) (N := some 30) (v := ?_) (a' := ?_) #[true, true, true, true, false, false, false, false, true, false, true, false, false, false, false, false, false, false] rfl rfl (take_ofW HT_.out HW_.out (by kernel_rfl)) (fun _ _ _ h => h) (Or.inl ⟨by rfl, ?_⟩) hHeld ?_ ?_
      rotate_left
      ·rintro w' ⟨s0, s1, s2, s3, s4, s5, s6, s7, s8, s9⟩
       go_simp
       with_reducible rfl
      rotate_left
      ·simp only [Act.put, List.setIfInBounds_toArray, List.set_cons_zero, List.set_cons_succ, i64_w, i32_w]
       rfl
      refine pure_ (i := 4) (N := some 32) (v := ?_) (a' := ?_) #[true, true, true, true, true, false, false, false, true, false, true, false, false, false, false, false, false, false] rfl rfl (any_of HT_.out (by kernel_rfl)) (fun _ _ _ h => h) (Or.inl ⟨by rfl, ?_⟩) ?_ ?_
      rotate_left
      ·intro w'
       go_simp
       with_reducible rfl
      rotate_left
      ·simp only [Act.put, List.setIfInBounds_toArray, List.set_cons_zero, List.set_cons_succ, i64_w, i32_w]
       rfl
      refine pure_ (i := 5) (N := some 33) (v := ?_) (a' := ?_) #[true, true, true, true, true, true, false, false, true, false, true, false, false, false, false, false, false, false] rfl rfl (any_of HT_.out (by kernel_rfl)) (fun _ _ _ h => h) (Or.inl ⟨by rfl, ?_⟩) ?_ ?_
      rotate_left
      ·intro w'
       go_simp
       with_reducible rfl
      rotate_left
      ·simp only [Act.put, List.setIfInBounds_toArray, List.set_cons_zero, List.set_cons_succ, i64_w, i32_w]
       rfl
      refine take_ (i := 6) (N := some 34) (v := ?_) (a' := ?_) #[true, true, true, true, true, true, true, false, true, false, true, false, false, false, false, false, false, false] rfl rfl (take_ofW HT_.out HW_.out (by kernel_rfl)) (fun _ _ _ h => h) (Or.inl ⟨by rfl, ?_⟩) hHeld ?_ ?_
      rotate_left
      ·rintro w' ⟨s0, s1, s2, s3, s4, s5, s6, s7, s8, s9⟩
       go_simp
       with_reducible rfl
      rotate_left
      ·simp only [Act.put, List.setIfInBounds_toArray, List.set_cons_zero, List.set_cons_succ, i64_w, i32_w]
       rfl
      refine take_ (i := 9) (N := some 37) (v := ?_) (a' := ?_) #[true, true, true, true, true, true, true, false, true, true, true, false, false, false, false, false, false, false] rfl rfl (take_ofW HT_.out HW_.out (by kernel_rfl)) (fun _ _ _ h => h) (Or.inl ⟨by rfl, ?_⟩) hHeld ?_ ?_
      rotate_left
      ·rintro w' ⟨s0, s1, s2, s3, s4, s5, s6, s7, s8, s9⟩
       go_simp
       with_reducible rfl
      rotate_left
      ·simp only [Act.put, List.setIfInBounds_toArray, List.set_cons_zero, List.set_cons_succ, i64_w, i32_w]
       rfl
      refine pure_ (i := 11) (N := some 39) (v := ?_) (a' := ?_) #[true, true, true, true, true, true, true, false, true, true, true, true, false, false, false, false, false, false] rfl rfl (any_of HT_.out (by kernel_rfl)) (fun _ _ _ h => h) (Or.inl ⟨by rfl, ?_⟩) ?_ ?_
      rotate_left
      ·intro w'
       go_simp
       with_reducible rfl
      rotate_left
      ·simp only [Act.put, List.setIfInBounds_toArray, List.set_cons_zero, List.set_cons_succ, i64_w, i32_w]
       rfl
      refine pure_ (i := 12) (N := some 40) (v := ?_) (a' := ?_) #[true, true, true, true, true, true, true, false, true, true, true, true, true, false, false, false, false, false] rfl rfl (any_of HT_.out (by kernel_rfl)) (fun _ _ _ h => h) (Or.inl ⟨by rfl, ?_⟩) ?_ ?_
      rotate_left
      ·intro w'
       go_simp
       with_reducible rfl
      rotate_left
      ·simp only [Act.put, List.setIfInBounds_toArray, List.set_cons_zero, List.set_cons_succ, i64_w, i32_w]
       rfl
      refine take_ (i := 13) (N := some 41) (v := ?_) (a' := ?_) #[true, true, true, true, true, true, true, false, true, true, true, true, true, true, false, false, false, false] rfl rfl (take_ofW HT_.out HW_.out (by kernel_rfl)) (fun _ _ _ h => h) (Or.inl ⟨by rfl, ?_⟩) hHeld ?_ ?_
      rotate_left
      ·rintro w' ⟨s0, s1, s2, s3, s4, s5, s6, s7, s8, s9⟩
       go_simp
       with_reducible rfl
      rotate_left
      ·simp only [Act.put, List.setIfInBounds_toArray, List.set_cons_zero, List.set_cons_succ, i64_w, i32_w]
       rfl
      refine one_ (i := 7) (N := some 35) #[true, true, true, true, true, true, true, true, true, true, true, true, true, true, false, false, false, false] rfl rfl (one_of HT_.out (by kernel_rfl)) (by decide) (fun K hK => ?_)
      refine goes_ Tryz.func43 (by kernel_rfl) rfl #[.int .i64 ((rd_T30 l0_4 x4_1).f0)] (by rfl) rfl rfl (by (try simp only [List.map_toArray, List.map_cons, List.map_nil]); first | done | rfl | (simp only [List.length_drop, List.length_take]; rfl)) ?_
      with_reducible refine (r01_Num.calls ((rd_T30 l0_4 x4_1).f0) t413 _ ?side1 A11.out).mono ?_
      (case side1 => exact hG.below (by exact pbE HB.out))
      rintro e w' ⟨rfl, ⟨nd, rfl⟩⟩
      refine ⟨_, rfl, ?_⟩
      refine hK.out _ _ ⟨(bkC BK405.out 0).trans rfl, (bkC BK405.out 1).trans rfl, (bkC BK405.out 2).trans rfl, (bkC BK405.out 3).trans rfl, (bkC BK405.out 4).trans rfl, (bkC BK405.out 5).trans rfl, ((HB.out.cell (World.block_lt_of_cell? w _ hw412_0)).trans hw412_0), ((HB.out.cell (World.block_lt_of_cell? w _ hw412_1)).trans hw412_1), ((HB.out.cell (World.block_lt_of_cell? w _ hw414_0)).trans hw414_0), ((HB.out.cell (World.block_lt_of_cell? w _ hw414_1)).trans hw414_1)⟩ (fun hHeld => ?_)
      clear hK K
      refine norm_ (a' := ?_) ?_ ?_
      rotate_left
      ·show Act.put _ (some 35) _ = _
       simp only [Act.put, List.setIfInBounds_toArray, List.set_cons_zero, List.set_cons_succ, i64_w, i32_w]
       rfl
      refine one_ (i := 14) (N := some 42) #[true, true, true, true, true, true, true, true, true, true, true, true, true, true, true, false, false, false] rfl rfl (one_of HT_.out (by kernel_rfl)) (by decide) (fun K hK => ?_)
      refine goes_ Tryz.func43 (by kernel_rfl) rfl #[.int .i64 ((rd_T30 l0_4 x4_1).f1)] (by rfl) rfl rfl (by (try simp only [List.map_toArray, List.map_cons, List.map_nil]); first | done | rfl | (simp only [List.length_drop, List.length_take]; rfl)) ?_
      with_reducible refine (r01_Num.calls ((rd_T30 l0_4 x4_1).f1) t415 _ ?side1 A12.out).mono ?_
      (case side1 => exact hG.below (by exact pbE HB.out))
      rintro e w' ⟨rfl, ⟨nd, rfl⟩⟩
      refine ⟨_, rfl, ?_⟩
      refine hK.out _ _ ⟨(bkC BK405.out 0).trans rfl, (bkC BK405.out 1).trans rfl, (bkC BK405.out 2).trans rfl, (bkC BK405.out 3).trans rfl, (bkC BK405.out 4).trans rfl, (bkC BK405.out 5).trans rfl, ((HB.out.cell (World.block_lt_of_cell? w _ hw412_0)).trans hw412_0), ((HB.out.cell (World.block_lt_of_cell? w _ hw412_1)).trans hw412_1), ((HB.out.cell (World.block_lt_of_cell? w _ hw414_0)).trans hw414_0), ((HB.out.cell (World.block_lt_of_cell? w _ hw414_1)).trans hw414_1)⟩ (fun hHeld => ?_)
      clear hK K
      refine norm_ (a' := ?_) ?_ ?_
      rotate_left
      ·show Act.put _ (some 42) _ = _
       simp only [Act.put, List.setIfInBounds_toArray, List.set_cons_zero, List.set_cons_succ, i64_w, i32_w]
       rfl
      refine one_ (i := 15) (N := some 43) #[true, true, true, true, true, true, true, true, true, true, true, true, true, true, true, true, false, false] rfl rfl (one_of HT_.out (by kernel_rfl)) (by decide) (fun K hK => ?_)
      refine Kd.R_lit_step Kd.string _ 9 ?hg (N := 43) ?hd (xs := ([t413, t415] : List ByteArray)) (inner := [.string t413, .string t415]) (ok := fun _ => True) (okp := fun _ => True) ?hr ?hp (fun _ hk => hk) trivial (Below.refl _ _) (Nat.le_refl _) (by simp) ?_; (case hd => rfl); (case hg => rfl); (case hr => first | (go_simp; done) | (go_simp; rfl)); (case hp => exact (Reps.one (show Kd.M Kd.string _ _ _ t413 [.string t413] from rfl) (Reps.one (show Kd.M Kd.string _ _ _ t415 [.string t415] from rfl) (Reps.none _ _))))
      intro v417 w16 ho17 hb hg_ hnew_
      clear hg_ hnew_
      (first | rw [← Ny416.out] at ho17 | (simp only [Int.reduceToNat] at ho17; rw [← Ny416.out] at ho17))
      have HO418 := Az.mk (Kd.R_lower (Kd.R_new' ho17 (Kd.R_lt (Kd.R_ext HO_3.out))) (pbZ (by exact pbE HB.out)))
      replace HO_3 := Az.mk (Kd.R_elder' (Kd.R_ext HO_3.out) (Kd.R_base ho17) hb)
      replace BK405 := Az.mk (bkB (bk BK405.out) hb)
      replace HB := Az.mk (pbT (by exact pbE HB.out) hb)
      clear hb ho17
      obtain ⟨Ao19, co19, eo19⟩ := Kd.R_slice HO418.out
      (first | subst eo19 | (injection eo19 with f1_ f2_ f3_; have f4_ := f1_.symm; have f5_ := f3_.symm; clear f1_ f2_ f3_; subst f4_; subst f5_))
      refine hK.out _ _ ⟨(bkC BK405.out 0).trans rfl, (bkC BK405.out 1).trans rfl, (bkC BK405.out 2).trans rfl, (bkC BK405.out 3).trans rfl, (bkC BK405.out 4).trans rfl, (bkC BK405.out 5).trans rfl, ((HB.out.cell (World.block_lt_of_cell? w _ hw412_0)).trans hw412_0), ((HB.out.cell (World.block_lt_of_cell? w _ hw412_1)).trans hw412_1), ((HB.out.cell (World.block_lt_of_cell? w _ hw414_0)).trans hw414_0), ((HB.out.cell (World.block_lt_of_cell? w _ hw414_1)).trans hw414_1)⟩ (fun hHeld => ?_)
      clear hK K
      refine norm_ (a' := ?_) ?_ ?_
      rotate_left
      ·show Act.put _ (some 43) _ = _
       simp only [Act.put, List.setIfInBounds_toArray, List.set_cons_zero, List.set_cons_succ, i64_w, i32_w]
       rfl
      refine one_ (i := 16) (N := some 44) #[true, true, true, true, true, true, true, true, true, true, true, true, true, true, true, true, true, false] rfl rfl (one_of HT_.out (by kernel_rfl)) (by decide) (fun K hK => ?_)
      refine Kd.R_append_rows_step Kd.string (w0 := w) w.heap.size (by rfl) (.tmp 28) (.tmp 43) 52 9 (.string ⟨#[]⟩) 16 rfl Tryz.underlying52 info9 rfl (by decide) (by omega) u3 x3_1 y416 _ _ _ (fun k_ => some k_ ≠ (.slice Ao19 y416.length co19 : Value).ownBlock) (fun _ => False) rfl rfl ?aO ?aR (fun _ _ h => h) (fun _ h => h.elim) ?aF ?aB ?aS ?aL ?_
      (case aR => exact Kd.C_ext (Kd.R_reads' HO418.out).2.2)
      (case aB => exact (by exact pbE HB.out))
      (case aF => exact (fun k_ hk => Kd.fresh' (Kd.R_lt (Kd.R_ext HO418.out)) k_ hk))
      (case aO => exact (by (with_reducible repeat (first | apply Kd.R_alloc | apply Kd.R_drewN | apply Kd.R_drew)); exact Kd.R_mono HO_3.out (fun _ hk => hk.2)))
      (case aS => exact (pbZ (by exact pbE HB.out)))
      (case aL => have := LMc13.out; omega)
      intro v420 w18 ho hb hg hat
      rw [← Ny419.out] at ho
      replace BK405 := Az.mk (blk_grown (bk BK405.out) hg (Kd.R_ne HO_3.out BK405.out (by decide)))
      replace HO418 := Az.mk (Kd.R_after (ok := (fun _ => True)) (Kd.R_ext HO418.out) hg hat)
      replace HB := Az.mk (hb)
      have HO421 := Az.mk (ho)
      clear HO_3
      clear ho hb hg hat
      refine hK.out _ _ ⟨(bkC BK405.out 0).trans rfl, (bkC BK405.out 1).trans rfl, (bkC BK405.out 2).trans rfl, (bkC BK405.out 3).trans rfl, (bkC BK405.out 4).trans rfl, (bkC BK405.out 5).trans rfl, ((HB.out.cell (World.block_lt_of_cell? w _ hw412_0)).trans hw412_0), ((HB.out.cell (World.block_lt_of_cell? w _ hw412_1)).trans hw412_1), ((HB.out.cell (World.block_lt_of_cell? w _ hw414_0)).trans hw414_0), ((HB.out.cell (World.block_lt_of_cell? w _ hw414_1)).trans hw414_1)⟩ (fun hHeld => ?_)
      clear hK K
      refine norm_ (a' := ?_) ?_ ?_
      rotate_left
      ·show Act.put _ (some 44) _ = _
       simp only [Act.put, List.setIfInBounds_toArray, List.set_cons_zero, List.set_cons_succ, i64_w, i32_w]
       rfl
      refine pure_ (i := 17) (N := some 3) (v := ?_) (a' := ?_) #[true, true, true, true, true, true, true, true, true, true, true, true, true, true, true, true, true, true] rfl rfl (any_of HT_.out (by kernel_rfl)) (fun _ _ _ h => h) (Or.inl ⟨by rfl, ?_⟩) ?_ ?_
      rotate_left
      ·intro w'
       go_simp
       with_reducible rfl
      rotate_left
      ·simp only [Act.put, List.setIfInBounds_toArray, List.set_cons_zero, List.set_cons_succ, i64_w, i32_w]
       rfl
      refine done_ (done_of HT_.out (by kernel_rfl)) ?_
      try go_wp2
      go_roundg k1
      case measure => have := HK1.out; omega
      case rel => exact ⟨(y419), (wrap64 (x4_1 + 1)), (by first | rfl | (simp; done) | (simp [*]; done)), H', ⟨by have := HK1.out; omega⟩, ⟨by (with_reducible repeat (first | apply Kd.R_alloc | apply Kd.R_drewN | apply Kd.R_drew)); exact Kd.R_mono HO421.out (fun _ hk => trivial)⟩, ⟨by refine bk ?_; exact BK405.out⟩, ⟨by exact pbE HB.out⟩⟩
     ·rw [if_neg c13] at H
      exact absurd H (by simp)
    ·rw [if_neg c10] at H
     exact absurd H (by simp)
   ·rw [if_neg c9] at H
    have c9b0 : decide (x4_1 < (l0_4.length : Int)) = false := decide_eq_false c9
    clear c9
    replace H := Option.bind_eq_some_iff.mp H
    obtain ⟨t422, A200, H⟩ := H
    replace H : (some t422) = some r := H
    have A20 := Az.mk A200
    clear A200
    obtain rfl := Option.some.inj H
    have hcz21 := cells6 BK405.out
    obtain ⟨Ao22, co22, eo22⟩ := Kd.R_slice HO_3.out
    subst eo22
    go_wp2_with (first | ((with_reducible refine gtc (f := 44) rfl ?_); refine goesL_ (some 46) rfl rfl Tryz.func44 (by kernel_rfl) rfl #[.slice Ao22 x3_1.length co22] rfl (by (try simp only [List.map_toArray, List.map_cons, List.map_nil]); first | done | rfl | (simp only [List.length_drop, List.length_take]; rfl)) ?_; (with_reducible refine (r01_Tie.calls _ _ x3_1 t422 _ ?side1 ?side2 ?side3 A20.out).mono ?_); (case side1 => exact hG.below (by exact pbE HB.out)); (case side2 => exact Kd.C_ext (Kd.R_reads' HO_3.out).2.2); (case side3 => exact (Kd.R_reads' HO_3.out).2.1); rintro e w' ⟨rfl, ⟨nd, rfl⟩⟩; refine ⟨_, rfl, ?_⟩))
    go_ret
    exact ⟨by first | rfl | (simp [errW_none, errW_some] <;> rfl) | (simp [*, errW_none, errW_some] <;> rfl), by exact pbE HB.out⟩
mutual
def r06_Parse.j0 : Nat → List ByteArray → Bool → Option (Int × ByteArray × ByteArray × Int × (List (S30)) × Int × Int)
 | 0, _, _ => none
 | k + 1, x4, x30 => if x30 = true then (some (0, (⟨#[]⟩ : ByteArray), (⟨#[]⟩ : ByteArray), 0, ([] : List (S30)), 0, 60)) else (r06_Parse.l0 k x4 ([] : List Int) 0)
def r06_Parse.l0 : Nat → List ByteArray → List Int → Int → Option (Int × ByteArray × ByteArray × Int × (List (S30)) × Int × Int)
 | 0, _, _, _ => none
 | k + 1, x4, x6, x7 => if x7 < (x4.length : Int) then (if x7 = 1 then (r06_Parse.j2 k x4 x6 x7 0 false) else (r06_Parse.j2 k x4 x6 x7 0 (x7 != 2))) else (if 0 < (x6.length : Int) then (if 1 < (x4.length : Int) then (if 2 < (x4.length : Int) then (if 3 < (x6.length : Int) then (if 4 < (x6.length : Int) then (r06_Parse.l1 k x6 5 (rd x6 0) (rdOf ByteArray.empty x4 1) (rdOf ByteArray.empty x4 2) (rd x6 3) ([] : List (S30)) (rd x6 4)) else (none)) else (none)) else (none)) else (none)) else (none))
def r06_Parse.j2 : Nat → List ByteArray → List Int → Int → Int → Bool → Option (Int × ByteArray × ByteArray × Int × (List (S30)) × Int × Int)
 | 0, _, _, _, _, _ => none
 | k + 1, x4, x6, x7, x8, x43 => if x43 = true then (if 0 ≤ x7 then (if x7 < (x4.length : Int) then ((r01_Int.f k (rdOf ByteArray.empty x4 x7)).bind fun bt370 => (if bt370.2 = 0 then (if x6.length < 17592186044416 then (r06_Parse.l0 k x4 (x6 ++ [bt370.1]) (wrap64 (x7 + 1))) else (none)) else (some (0, (⟨#[]⟩ : ByteArray), (⟨#[]⟩ : ByteArray), 0, ([] : List (S30)), 0, 60)))) else (none)) else (none)) else (if x6.length < 17592186044416 then (r06_Parse.l0 k x4 (x6 ++ [x8]) (wrap64 (x7 + 1))) else (none))
def r06_Parse.l1 : Nat → List Int → Int → Int → ByteArray → ByteArray → Int → List (S30) → Int → Option (Int × ByteArray × ByteArray × Int × (List (S30)) × Int × Int)
 | 0, _, _, _, _, _, _, _, _ => none
 | k + 1, x6, x12, x384000, x384001, x384002, x384003, x384004, x384005 => if x12 < (x6.length : Int) then (if 0 ≤ x12 then (if (rd x6 x12) < 1 then (some (0, (⟨#[]⟩ : ByteArray), (⟨#[]⟩ : ByteArray), 0, ([] : List (S30)), 0, 60)) else (if (rd x6 x12) > 7 then (some (0, (⟨#[]⟩ : ByteArray), (⟨#[]⟩ : ByteArray), 0, ([] : List (S30)), 0, 60)) else (if 0 ≤ (wrap64 (x12 + 1)) then (if (wrap64 (x12 + 1)) < (x6.length : Int) then (if x384004.length < 8796093022208 then (r06_Parse.l1 k x6 (wrap64 (x12 + 2)) x384000 x384001 x384002 x384003 (x384004 ++ [(⟨rd x6 x12, rd x6 (wrap64 (x12 + 1))⟩ : S30)]) x384005) else (none)) else (none)) else (none)))) else (none)) else ((r06_right.f k x384000 x384001 x384002 x384003 x384004 x384005).bind fun bt391 => (some (bt391.1, bt391.2.1, bt391.2.2.1, bt391.2.2.2.1, bt391.2.2.2.2.1, bt391.2.2.2.2.2.1, bt391.2.2.2.2.2.2)))
end
def r06_Parse.f (k : Nat) (a0 : ByteArray) : Option (Int × ByteArray × ByteArray × Int × (List (S30)) × Int × Int) := (r01_Untie.f k a0).bind fun bt365 => (if bt365.2 = 0 then (if (bt365.1.length : Int) < 7 then (r06_Parse.j0 k bt365.1 true) else (r06_Parse.j0 k bt365.1 (((bt365.1.length : Int) % 2) == 0))) else (r06_Parse.j0 k bt365.1 true))
theorem r06_Parse.mono_l : ∀ k, (∀ y0 y1, LeO (r06_Parse.j0 k y0 y1) (r06_Parse.j0 (k + 1) y0 y1)) ∧ (∀ y0 y1 y2, LeO (r06_Parse.l0 k y0 y1 y2) (r06_Parse.l0 (k + 1) y0 y1 y2)) ∧ (∀ y0 y1 y2 y3 y4, LeO (r06_Parse.j2 k y0 y1 y2 y3 y4) (r06_Parse.j2 (k + 1) y0 y1 y2 y3 y4)) ∧ (∀ y0 y1 y2 y3 y4 y5 y6 y7, LeO (r06_Parse.l1 k y0 y1 y2 y3 y4 y5 y6 y7) (r06_Parse.l1 (k + 1) y0 y1 y2 y3 y4 y5 y6 y7))
 | 0 => ⟨fun _ _ r h => by simp [r06_Parse.j0] at h, fun _ _ _ r h => by simp [r06_Parse.l0] at h, fun _ _ _ _ _ r h => by simp [r06_Parse.j2] at h, fun _ _ _ _ _ _ _ _ r h => by simp [r06_Parse.l1] at h⟩
 | k + 1 => by
  obtain ⟨ih0, ih1, ih2, ih3⟩ := r06_Parse.mono_l k
  refine ⟨?_, ?_, ?_, ?_⟩
  ·intro y0 y1
   unfold r06_Parse.j0
   repeat' first
   | (with_reducible exact ih0 _ _)
   | (with_reducible exact ih1 _ _ _)
   | (with_reducible exact ih2 _ _ _ _ _)
   | (with_reducible exact ih3 _ _ _ _ _ _ _ _)
   | (with_reducible exact r01_Int.mono _ _)
   | (with_reducible exact r01_Untie.mono _ _)
   | (with_reducible exact r06_right.mono _ _ _ _ _ _ _)
   | (with_reducible exact LeO.refl _)
   | (with_reducible exact LeO.none _)
   | (with_reducible refine LeO.ite ?_ ?_)
   | (with_reducible refine LeO.bind ?_ (fun _ => ?_))
   | exact ih0 _ _
   | exact ih1 _ _ _
   | exact ih2 _ _ _ _ _
   | exact ih3 _ _ _ _ _ _ _ _
   | exact r01_Int.mono _ _
   | exact r01_Untie.mono _ _
   | exact r06_right.mono _ _ _ _ _ _ _
   | exact LeO.none _
   | refine LeO.ite ?_ ?_
   | refine LeO.bind ?_ (fun _ => ?_)
  ·intro y0 y1 y2
   unfold r06_Parse.l0
   repeat' first
   | (with_reducible exact ih0 _ _)
   | (with_reducible exact ih1 _ _ _)
   | (with_reducible exact ih2 _ _ _ _ _)
   | (with_reducible exact ih3 _ _ _ _ _ _ _ _)
   | (with_reducible exact r01_Int.mono _ _)
   | (with_reducible exact r01_Untie.mono _ _)
   | (with_reducible exact r06_right.mono _ _ _ _ _ _ _)
   | (with_reducible exact LeO.refl _)
   | (with_reducible exact LeO.none _)
   | (with_reducible refine LeO.ite ?_ ?_)
   | (with_reducible refine LeO.bind ?_ (fun _ => ?_))
   | exact ih0 _ _
   | exact ih1 _ _ _
   | exact ih2 _ _ _ _ _
   | exact ih3 _ _ _ _ _ _ _ _
   | exact r01_Int.mono _ _
   | exact r01_Untie.mono _ _
   | exact r06_right.mono _ _ _ _ _ _ _
   | exact LeO.none _
   | refine LeO.ite ?_ ?_
   | refine LeO.bind ?_ (fun _ => ?_)
  ·intro y0 y1 y2 y3 y4
   unfold r06_Parse.j2
   repeat' first
   | (with_reducible exact ih0 _ _)
   | (with_reducible exact ih1 _ _ _)
   | (with_reducible exact ih2 _ _ _ _ _)
   | (with_reducible exact ih3 _ _ _ _ _ _ _ _)
   | (with_reducible exact r01_Int.mono _ _)
   | (with_reducible exact r01_Untie.mono _ _)
   | (with_reducible exact r06_right.mono _ _ _ _ _ _ _)
   | (with_reducible exact LeO.refl _)
   | (with_reducible exact LeO.none _)
   | (with_reducible refine LeO.ite ?_ ?_)
   | (with_reducible refine LeO.bind ?_ (fun _ => ?_))
   | exact ih0 _ _
   | exact ih1 _ _ _
   | exact ih2 _ _ _ _ _
   | exact ih3 _ _ _ _ _ _ _ _
   | exact r01_Int.mono _ _
   | exact r01_Untie.mono _ _
   | exact r06_right.mono _ _ _ _ _ _ _
   | exact LeO.none _
   | refine LeO.ite ?_ ?_
   | refine LeO.bind ?_ (fun _ => ?_)
  ·intro y0 y1 y2 y3 y4 y5 y6 y7
   unfold r06_Parse.l1
   repeat' first
   | (with_reducible exact ih0 _ _)
   | (with_reducible exact ih1 _ _ _)
   | (with_reducible exact ih2 _ _ _ _ _)
   | (with_reducible exact ih3 _ _ _ _ _ _ _ _)
   | (with_reducible exact r01_Int.mono _ _)
   | (with_reducible exact r01_Untie.mono _ _)
   | (with_reducible exact r06_right.mono _ _ _ _ _ _ _)
   | (with_reducible exact LeO.refl _)
   | (with_reducible exact LeO.none _)
   | (with_reducible refine LeO.ite ?_ ?_)
   | (with_reducible refine LeO.bind ?_ (fun _ => ?_))
   | exact ih0 _ _
   | exact ih1 _ _ _
   | exact ih2 _ _ _ _ _
   | exact ih3 _ _ _ _ _ _ _ _
   | exact r01_Int.mono _ _
   | exact r01_Untie.mono _ _
   | exact r06_right.mono _ _ _ _ _ _ _
   | exact LeO.none _
   | refine LeO.ite ?_ ?_
   | refine LeO.bind ?_ (fun _ => ?_)
theorem r06_Parse.mono : ∀ a0 k, LeO (r06_Parse.f k a0) (r06_Parse.f (k + 1) a0) := by
 intro a0 k
 obtain ⟨ih0, ih1, ih2, ih3⟩ := r06_Parse.mono_l k
 unfold r06_Parse.f
 repeat' first
  | (with_reducible exact ih0 _ _)
  | (with_reducible exact ih1 _ _ _)
  | (with_reducible exact ih2 _ _ _ _ _)
  | (with_reducible exact ih3 _ _ _ _ _ _ _ _)
  | (with_reducible exact r01_Int.mono _ _)
  | (with_reducible exact r01_Untie.mono _ _)
  | (with_reducible exact r06_right.mono _ _ _ _ _ _ _)
  | (with_reducible exact LeO.refl _)
  | (with_reducible exact LeO.none _)
  | (with_reducible refine LeO.ite ?_ ?_)
  | (with_reducible refine LeO.bind ?_ (fun _ => ?_))
  | exact ih0 _ _
  | exact ih1 _ _ _
  | exact ih2 _ _ _ _ _
  | exact ih3 _ _ _ _ _ _ _ _
  | exact r01_Int.mono _ _
  | exact r01_Untie.mono _ _
  | exact r06_right.mono _ _ _ _ _ _ _
  | exact LeO.none _
  | refine LeO.ite ?_ ?_
  | refine LeO.bind ?_ (fun _ => ?_)
def r06_Parse.T15 : Bool × List (List Nat × List Nat) := (true, [([], []), ([0], [0]), ([1], [1]), ([], []), ([3], [3]), ([4], [4]), ([], []), ([6], [6]), ([7], [7]), ([5, 8], [5, 8]), ([], []), ([10], [10]), ([11], [11]), ([], []), ([13], [13]), ([14], [14]), ([2, 9, 12, 15], [2, 9, 12, 15]), ([], []), ([17, 16, 0, 1, 2, 3, 4, 5, 6, 7, 8, 9, 10, 11, 12, 13, 14, 15, 16, 17], [16, 17])])
def r06_Parse.B15 : List Nat := [0, 1, 3, 0, 8, 24, 0, 64, 192, 504, 0, 1024, 3072, 0, 8192, 24576, 65535, 0, 262143]
theorem r06_Parse.tab15 : rtab .any (opsOf Tryz.f11 15) = r06_Parse.T15 := by kernel_rfl
theorem r06_Parse.bits15 : waitsOk r06_Parse.T15.2 r06_Parse.B15 = true := by kernel_rfl
def r06_Parse.T21 : Bool × List (List Nat × List Nat) := (true, [([], []), ([0], [0]), ([], []), ([], []), ([2, 3], [2, 3]), ([4], [4]), ([], []), ([], []), ([7], [7]), ([6, 8], [6, 8]), ([9], [9]), ([5, 10], [5, 10]), ([11], [11]), ([1, 12], [1, 12]), ([0, 1, 2, 3, 4, 5, 6, 7, 8, 9, 10, 11, 12, 13], []), ([14, 13, 13, 0, 1, 2, 3, 4, 5, 6, 7, 8, 9, 10, 11, 12, 13], [13, 14])])
def r06_Parse.B21 : List Nat := [0, 1, 0, 0, 12, 28, 0, 0, 128, 448, 960, 2044, 4092, 8191, 16383, 32767]
theorem r06_Parse.tab21 : rtab .any (opsOf Tryz.f11 21) = r06_Parse.T21 := by kernel_rfl
theorem r06_Parse.bits21 : waitsOk r06_Parse.T21.2 r06_Parse.B21 = true := by kernel_rfl
theorem cell_setN6 {W : World} {g : Nat} {a : Addr} {x : Value} (h : a.block ≠ g) (hc : W.cell? a = some x) (v0 v1 v2 v3 v4 v5 : Value) : ((((((W.setCell ⟨g, 0, none⟩ v0).setCell ⟨g, 1, none⟩ v1).setCell ⟨g, 2, none⟩ v2).setCell ⟨g, 3, none⟩ v3).setCell ⟨g, 4, none⟩ v4).setCell ⟨g, 5, none⟩ v5).cell? a = some x := ((cell_far (p := ⟨g, 5, none⟩) h _).trans ((cell_far (p := ⟨g, 4, none⟩) h _).trans ((cell_far (p := ⟨g, 3, none⟩) h _).trans ((cell_far (p := ⟨g, 2, none⟩) h _).trans ((cell_far (p := ⟨g, 1, none⟩) h _).trans ((cell_far (p := ⟨g, 0, none⟩) h _).trans hc))))))
set_option maxHeartbeats 8000000 in
set_option maxRecDepth 100000 in
theorem r06_Parse.calls (k : Nat) (a0 : ByteArray) (r1 : Int) (r2 : ByteArray) (r3 : ByteArray) (r4 : Int) (r5 : List (S30)) (r6 : Int) (r7 : Int) (w : World) (hG : TheG w) (h : r06_Parse.f k a0 = some (r1, r2, r3, r4, r5, r6, r7)) :
 Calls Tryz.prog 11 #[.string a0] w fun e w' => ∃ v4_ : Value, e = .returned (.tuple #[.agg #[.int .i64 r1, .string r2, .string r3, .int .i64 r4, v4_, .int .i64 r6], .int .i64 r7]) ∧ Kd.V k30 30 w' w.heap.size (fun k_ => (w.heap.size ≤ k_)) v4_ r5 ∧ Below w.heap.size w w' := by
 have hu26 := Tryz.underlying26
 have hu23 := Tryz.underlying23
 have hu30 := Tryz.underlying30
 have HB := Az.mk (Below.refl w.heap.size w)
 have H : ((r01_Untie.f k a0).bind fun bt365 => (if bt365.2 = 0 then (if (bt365.1.length : Int) < 7 then (r06_Parse.j0 k bt365.1 true) else (r06_Parse.j0 k bt365.1 (((bt365.1.length : Int) % 2) == 0))) else (r06_Parse.j0 k bt365.1 true))) = some (r1, r2, r3, r4, r5, r6, r7) := h
 clear h
 replace H := Option.bind_eq_some_iff.mp H
 obtain ⟨⟨t365, t366⟩, A20, H⟩ := H
 try dsimp only at H
 have A2 := Az.mk A20
 clear A20
 have HC3 := Az.mk H
 clear H
 go_enter Tryz.func11, Tryz.ntmps11
 go_upto_region 2 with (first | ((with_reducible refine gate_dst (N := 2) rfl ?_); (try (refine gate_guard (by rfl) ?_; dsimp only)); refine box_event ?hg (N := 2) ?hd (cs := #[.int .i64 0, .string (⟨#[]⟩ : ByteArray), .string (⟨#[]⟩ : ByteArray), .int .i64 0, .slice none 0 0, .int .i64 0]) (t := 26) ?hr ?_; (case hd => rfl); (case hg => rfl); (case hr => first | (go_simp; done) | (go_simp; rfl)); intro gb364 hg w4 hbox hb; have BK364 := Az.mk (hbox); have GW364 := Az.mk (geO hg (pbE HB.out)); have GE364 := Az.mk (geO hg (pbE HB.out)); replace HB := Az.mk (pbT (by exact pbE HB.out) hb); clear hb hbox hg) | ((with_reducible refine gtc (f := 31) rfl ?_); refine goesL_ (some 15) rfl rfl Tryz.func31 (by kernel_rfl) rfl #[.string a0] rfl (by (try simp only [List.map_toArray, List.map_cons, List.map_nil]); first | done | rfl | (simp only [List.length_drop, List.length_take]; rfl)) ?_; (with_reducible refine (r01_Untie.calls k a0 t365 t366 _ ?side1 A2.out).mono ?_); (case side1 => exact hG.below (by exact pbE HB.out)); rintro e w5 ⟨v367, rfl, ho0, hb⟩; refine ⟨_, rfl, ?_⟩; have HO368 := Az.mk (Kd.R_lower (Kd.R_newM (M := fun k_ => (w.heap.size ≤ k_)) ho0 (pbZ (by exact pbE HB.out)) (fun k_ h_ => h_)) (pbZ (by exact pbE HB.out))); replace BK364 := Az.mk (bkB (bk BK364.out) hb); replace HB := Az.mk (pbT (by exact pbE HB.out) hb); (try clear hb); (try clear hb2); (try clear hk); (try clear hi); (try clear ho0)))
 (try simp only [Act.put, List.setIfInBounds_toArray, List.set_cons_zero, List.set_cons_succ])
 go_cut [30] (fun v30 wc => ∃ (kq : Nat) (x30_2 : Bool), v30 = .bool x30_2 ∧ Az (r06_Parse.j0 kq t365 x30_2 = some (r1, r2, r3, r4, r5, r6, r7)) ∧ Az (kq ≤ k) ∧ Az (Kd.R Kd.string 9 wc w.heap.size (fun k_ => (w.heap.size ≤ k_)) v367 t365) ∧ Az (wc.heap[gb364]? = some (.cells #[.int .i64 0, .string (⟨#[]⟩ : ByteArray), .string (⟨#[]⟩ : ByteArray), .int .i64 0, (.slice none 0 0), .int .i64 0] 26 (0, 0))) ∧ Az (Below w.heap.size w wc))
 case first =>
  have H := HC3.out
  clear HC3
  by_cases c6 : t366 = 0
  ·rw [if_pos c6] at H
   have c6b0 : (t366 == 0) = true := beq_iff_eq.mpr c6
   have c6b1 : (t366 != 0) = false := bne_eq_false_iff_eq.mpr c6
   clear c6
   (first | rw [c6b0] | (simp only [i64_w, i32_w]; rw [c6b0]) | skip)
   by_cases c7 : (t365.length : Int) < 7
   ·rw [if_pos c7] at H
    have c7b0 : decide ((t365.length : Int) < 7) = true := decide_eq_true c7
    have c7b1 : decide (t365.length < 7) = true := decide_eq_true (by omega)
    clear c7
    have H' := Az.mk H
    clear H
    obtain ⟨Ao8, co8, eo8⟩ := Kd.R_slice HO368.out
    subst eo8
    go_wp2
    go_meet
    case rel => exact ⟨_, (true), (by first | rfl | (simp; done) | (simp [*]; done)), H', ⟨by first | omega | exact Nat.le_refl _⟩, ⟨by (with_reducible repeat (first | apply Kd.R_alloc | apply Kd.R_drewN | apply Kd.R_drew)); exact Kd.R_mono HO368.out (fun _ hk => hk.1)⟩, ⟨by refine bk ?_; exact BK364.out⟩, ⟨by exact pbE HB.out⟩⟩
   ·rw [if_neg c7] at H
    have c7b0 : decide ((t365.length : Int) < 7) = false := decide_eq_false c7
    have c7b1 : decide (t365.length < 7) = false := decide_eq_false (by omega)
    clear c7
    have H' := Az.mk H
    clear H
    obtain ⟨Ao9, co9, eo9⟩ := Kd.R_slice HO368.out
    subst eo9
    go_wp2
    go_meet
    case rel => exact ⟨_, ((((t365.length : Int) % 2) == 0)), (by first | rfl | (simp; done) | (simp [*]; done)), H', ⟨by first | omega | exact Nat.le_refl _⟩, ⟨by (with_reducible repeat (first | apply Kd.R_alloc | apply Kd.R_drewN | apply Kd.R_drew)); exact Kd.R_mono HO368.out (fun _ hk => hk.1)⟩, ⟨by refine bk ?_; exact BK364.out⟩, ⟨by exact pbE HB.out⟩⟩
  ·rw [if_neg c6] at H
   have c6b0 : (t366 == 0) = false := beq_eq_false_iff_ne.mpr c6
   have c6b1 : (t366 != 0) = true := bne_iff_ne.mpr c6
   (first | rw [c6b0] | (simp only [i64_w, i32_w]; rw [c6b0]) | skip)
   have H' := Az.mk H
   clear H
   go_wp2
   go_meet
   case rel => exact ⟨_, (true), (by first | rfl | (simp; done) | (simp [*]; done)), H', ⟨by first | omega | exact Nat.le_refl _⟩, ⟨by (with_reducible repeat (first | apply Kd.R_alloc | apply Kd.R_drewN | apply Kd.R_drew)); exact Kd.R_mono HO368.out (fun _ hk => hk.1)⟩, ⟨by refine bk ?_; exact BK364.out⟩, ⟨by exact pbE HB.out⟩⟩
 case rest =>
  clear HC3
  try clear c1
  try clear p2
  try clear c3
  try clear c6
  try clear c6b0
  try clear c6b1
  try clear c7
  try clear c7b0
  try clear c7b1
  obtain ⟨kq, x30_2, rfl, HA, HJ2, HO_4, BK364, HB⟩ := hcut
  cases kq with
  | zero => exact absurd HA.out (by simp [r06_Parse.j0])
  | succ kj2 =>
   have H := HA.out
   clear HA
   simp only [r06_Parse.j0] at H
   by_cases c10 : x30_2 = true
   ·subst c10
    rw [if_pos rfl] at H
    simp only [Option.some.injEq, Prod.mk.injEq] at H
    obtain ⟨rfl, rfl, rfl, rfl, rfl, rfl, rfl⟩ := H
    have hcz11 := cells6 BK364.out
    go_wp2
    refine bodyPost_ret (results_ct rfl _ _ gb364 26 #[.int .i64 0, .string (⟨#[]⟩ : ByteArray), .string (⟨#[]⟩ : ByteArray), .int .i64 0, .slice none 0 0, .int .i64 0] (0, 0) _ rfl (by refine bk ?_; refine blk_put (cs := #[.int .i64 0, .string (⟨#[]⟩ : ByteArray), .string (⟨#[]⟩ : ByteArray), .int .i64 0, .slice none 0 0, .int .i64 0]) ?_ 5 _ rfl; refine bk ?_; refine blk_put (cs := #[.int .i64 0, .string (⟨#[]⟩ : ByteArray), .string (⟨#[]⟩ : ByteArray), .int .i64 0, .slice none 0 0, .int .i64 0]) ?_ 4 _ rfl; refine bk ?_; refine blk_put (cs := #[.int .i64 0, .string (⟨#[]⟩ : ByteArray), .string (⟨#[]⟩ : ByteArray), .int .i64 0, .slice none 0 0, .int .i64 0]) ?_ 3 _ rfl; refine bk ?_; refine blk_put (cs := #[.int .i64 0, .string (⟨#[]⟩ : ByteArray), .string (⟨#[]⟩ : ByteArray), .int .i64 0, .slice none 0 0, .int .i64 0]) ?_ 2 _ rfl; refine bk ?_; refine blk_put (cs := #[.int .i64 0, .string (⟨#[]⟩ : ByteArray), .string (⟨#[]⟩ : ByteArray), .int .i64 0, .slice none 0 0, .int .i64 0]) ?_ 1 _ rfl; refine bk ?_; refine blk_put (cs := #[.int .i64 0, .string (⟨#[]⟩ : ByteArray), .string (⟨#[]⟩ : ByteArray), .int .i64 0, .slice none 0 0, .int .i64 0]) ?_ 0 _ rfl; refine bk ?_; exact BK364.out) Tryz.underlying26 rfl (by kernel_rfl)) rfl ?_
    exact ⟨_, by first | rfl | (simp [errW_none, errW_some] <;> rfl) | (simp [*, errW_none, errW_some] <;> rfl), Kd.V_nil _ _ _ _ _, by exact pbE HB.out⟩
   ·replace c10 := Bool.eq_false_iff.mpr c10
    subst c10
    rw [if_neg (show ¬ (false = true) by decide)] at H
    have H' := Az.mk H
    clear H
    go_wp2
    go_loopg [6, 7] kj2 (fun kq v6 v7 w' => ∃ (x6_2 : List Int) (x7_2 : Int) (x365000_2 : Int) (x365001_2 : ByteArray) (x365002_2 : ByteArray) (x365003_2 : Int) (x365005_2 : Int), v7 = .int .i64 x7_2 ∧ Az (r06_Parse.l0 kq t365 x6_2 x7_2 = some (r1, r2, r3, r4, r5, r6, r7)) ∧ Az (kq ≤ kj2) ∧ Az (Kd.R Kd.string 9 w' w.heap.size (fun k_ => (w.heap.size ≤ k_)) v367 t365) ∧ Az (Kd.R (Kd.int .i64) 2 w' w.heap.size (fun k_ => (w.heap.size ≤ k_)) v6 x6_2) ∧ Az (w'.heap[gb364]? = some (.cells #[.int .i64 x365000_2, .string x365001_2, .string x365002_2, .int .i64 x365003_2, (.slice none 0 0), .int .i64 x365005_2] 26 (0, 0))) ∧ Az (Below w.heap.size w w'))
    case atStart => exact ⟨(([] : List Int)), (0), (0), ((⟨#[]⟩ : ByteArray)), ((⟨#[]⟩ : ByteArray)), (0), (0), (by first | rfl | (simp; done) | (simp [*]; done)), H', ⟨Nat.le_refl _⟩, ⟨by (with_reducible repeat (first | apply Kd.R_alloc | apply Kd.R_drewN | apply Kd.R_drew)); exact HO_4.out⟩, ⟨by first | exact Kd.R_nil _ _ _ _ _ | exact Kd.N_nil _ _ _ _ _ | exact Kd.V_nil _ _ _ _ _ | exact Kd.Q_nil _ _ _ _ _ | exact Kd.S_nil _ _ _ _ _⟩, ⟨by refine bk ?_; exact BK364.out⟩, ⟨by exact pbE HB.out⟩⟩
    case round =>
     clear H'
     try clear c1
     try clear p2
     try clear c3
     try clear c6
     try clear c6b0
     try clear c6b1
     try clear c7
     try clear c7b0
     try clear c7b1
     try clear c10
     try clear c11
     try clear hcz11
     try clear p2
     obtain ⟨x6_2, x7_2, x365000_2, x365001_2, x365002_2, x365003_2, x365005_2, rfl, HA, HK2, HO_4, HO_6, BK364, HB⟩ := hrel
     cases gk with
     | zero => exact absurd HA.out (by simp [r06_Parse.l0])
     | succ k2 =>
      have H := HA.out
      clear HA
      simp only [r06_Parse.l0] at H
      by_cases c12 : x7_2 < (t365.length : Int)
      ·rw [if_pos c12] at H
       have c12b0 : decide (x7_2 < (t365.length : Int)) = true := decide_eq_true c12
       clear c12
       have HC13 := Az.mk H
       clear H
       obtain ⟨Ao14, co14, eo14⟩ := Kd.R_slice HO_4.out
       subst eo14
       go_upto_region 9 with (fail)
       go_cut [43] (fun v43 wc => ∃ (kq : Nat) (x43_12 : Bool), v43 = .bool x43_12 ∧ Az (r06_Parse.j2 kq t365 x6_2 x7_2 0 x43_12 = some (r1, r2, r3, r4, r5, r6, r7)) ∧ Az (kq ≤ k2) ∧ Az (Kd.R Kd.string 9 wc w.heap.size (fun k_ => (w.heap.size ≤ k_)) (.slice Ao14 t365.length co14) t365) ∧ Az (Kd.R (Kd.int .i64) 2 wc w.heap.size (fun k_ => (w.heap.size ≤ k_)) u6 x6_2) ∧ Az (wc.heap[gb364]? = some (.cells #[.int .i64 x365000_2, .string x365001_2, .string x365002_2, .int .i64 x365003_2, (.slice none 0 0), .int .i64 x365005_2] 26 (0, 0))) ∧ Az (Below w.heap.size w wc))
       case first =>
        have H := HC13.out
        clear HC13
        by_cases c15 : x7_2 = 1
        ·rw [if_pos c15] at H
         have c15b0 : (x7_2 == 1) = true := beq_iff_eq.mpr c15
         have c15b1 : (x7_2 != 1) = false := bne_eq_false_iff_eq.mpr c15
         clear c15
         (first | rw [c15b0] | (simp only [i64_w, i32_w]; rw [c15b0]) | skip)
         have H' := Az.mk H
         clear H
         go_wp2
         go_meet
         case rel => exact ⟨_, (false), (by first | rfl | (simp; done) | (simp [*]; done)), H', ⟨by have := HJ2.out; have := HK2.out; first | omega | exact Nat.le_refl _⟩, ⟨by (with_reducible repeat (first | apply Kd.R_alloc | apply Kd.R_drewN | apply Kd.R_drew)); exact HO_4.out⟩, ⟨by (with_reducible repeat (first | apply Kd.R_alloc | apply Kd.R_drewN | apply Kd.R_drew)); exact HO_6.out⟩, ⟨by refine bk ?_; exact BK364.out⟩, ⟨by exact pbE HB.out⟩⟩
        ·rw [if_neg c15] at H
         have c15b0 : (x7_2 == 1) = false := beq_eq_false_iff_ne.mpr c15
         have c15b1 : (x7_2 != 1) = true := bne_iff_ne.mpr c15
         (first | rw [c15b0] | (simp only [i64_w, i32_w]; rw [c15b0]) | skip)
         have H' := Az.mk H
         clear H
         go_wp2
         go_meet
         case rel => exact ⟨_, ((x7_2 != 2)), (by first | rfl | (simp; done) | (simp [*]; done)), H', ⟨by have := HJ2.out; have := HK2.out; first | omega | exact Nat.le_refl _⟩, ⟨by (with_reducible repeat (first | apply Kd.R_alloc | apply Kd.R_drewN | apply Kd.R_drew)); exact HO_4.out⟩, ⟨by (with_reducible repeat (first | apply Kd.R_alloc | apply Kd.R_drewN | apply Kd.R_drew)); exact HO_6.out⟩, ⟨by refine bk ?_; exact BK364.out⟩, ⟨by exact pbE HB.out⟩⟩
       case rest =>
        clear HC13
        try clear c1
        try clear p2
        try clear c3
        try clear c6
        try clear c6b0
        try clear c6b1
        try clear c7
        try clear c7b0
        try clear c7b1
        try clear c10
        try clear c11
        try clear c12
        try clear c12b0
        try clear c15
        try clear c15b0
        try clear c15b1
        try clear hcz11
        try clear p2
        obtain ⟨kq, x43_12, rfl, HA, HJ12, HO_4, HO_6, BK364, HB⟩ := hcut
        cases kq with
        | zero => exact absurd HA.out (by simp [r06_Parse.j2])
        | succ kj12 =>
         have H := HA.out
         clear HA
         simp only [r06_Parse.j2] at H
         by_cases c16 : x43_12 = true
         ·subst c16
          rw [if_pos rfl] at H
          by_cases c17 : 0 ≤ x7_2
          ·rw [if_pos c17] at H
           have c17b0 : decide (0 ≤ x7_2) = true := decide_eq_true c17
           clear c17
           by_cases c18 : x7_2 < (t365.length : Int)
           ·rw [if_pos c18] at H
            have c18b0 : decide (x7_2 < (t365.length : Int)) = true := decide_eq_true c18
            clear c18
            replace H := Option.bind_eq_some_iff.mp H
            obtain ⟨⟨t370, t371⟩, A190, H⟩ := H
            try dsimp only at H
            have A19 := Az.mk A190
            clear A190
            by_cases c20 : t371 = 0
            ·rw [if_pos c20] at H
             have c20b0 : (t371 == 0) = true := beq_iff_eq.mpr c20
             have c20b1 : (t371 != 0) = false := bne_eq_false_iff_eq.mpr c20
             clear c20
             by_cases c21 : x6_2.length < 17592186044416
             ·rw [if_pos c21] at H
              have LMc21 := Az.mk c21
              clear c21
              obtain ⟨y372, hy372⟩ : ∃ y_ : List Int, y_ = (x6_2 ++ [t370]) := ⟨_, rfl⟩
              replace H : (r06_Parse.l0 kj12 t365 y372 (wrap64 (x7_2 + 1))) = some (r1, r2, r3, r4, r5, r6, r7) := by first | (rw [hy372]; with_reducible exact H) | (have H2_ := (Option.bind_some _ _).symm.trans H; rw [hy372]; with_reducible exact H2_) | (have H2_ := (Option.bind_some _ _).symm.trans H; with_reducible exact H2_) | with_reducible exact H | (rw [hy372]; exact H) | exact H
              have Ny372 := Az.mk hy372
              clear hy372
              have H' := Az.mk H
              clear H
              have p369 : 0 ≤ (x7_2 : Int) := of_decide_eq_true (by first | (with_reducible assumption) | assumption)
              have q369 : x7_2 < (t365.length : Int) := of_decide_eq_true (by first | (with_reducible assumption) | assumption)
              have hpos369_ : 0 < t365.length := by omega
              obtain ⟨ad369, e369, hx369_0⟩ := Kd.at_string (Kd.R_reads' HO_4.out).2.2 x7_2 p369 q369
              cases e369
              replace p369 := eq_true p369
              replace q369 := eq_true q369
              go_wp2_with (first | ((with_reducible refine gtc (f := 32) rfl ?_); refine goesL_ (some 49) rfl rfl Tryz.func32 (by kernel_rfl) rfl #[.string (rdOf ByteArray.empty t365 x7_2)] rfl (by (try simp only [List.map_toArray, List.map_cons, List.map_nil]); first | done | rfl | (simp only [List.length_drop, List.length_take]; rfl)) ?_; (with_reducible refine (r01_Int.calls kj12 (rdOf ByteArray.empty t365 x7_2) t370 t371 _ ?side1 A19.out).mono ?_); (case side1 => exact hG.below (by exact pbE HB.out)); rintro e w' ⟨rfl, ⟨nd, rfl⟩⟩; refine ⟨_, rfl, ?_⟩) | ((with_reducible refine gate_builtin (b := .append) (xs := #[.tmp 56, .tmp 58]) rfl ?_); (try (refine gate_guard (by rfl) ?_; dsimp only)); at_builtin; refine Kd.R_append (Kd.int .i64) (w0 := w) w.heap.size rfl (.tmp 56) (.tmp 58) 55 2 (.int .i64 0) 8 rfl Tryz.underlying55 info2 rfl (by decide) (by omega) u6 x6_2 t370 [.int .i64 t370] (fun k_ => (w.heap.size ≤ k_)) (fun _ => False) rfl rfl ?aP (fun _ hk => hk.elim) ?aF ?aO ?aB ?aS ?aL ?_; (case aP => exact rfl); (case aB => exact (by exact pbE HB.out)); (case aF => exact (fun k_ hk => (Nat.le_trans (pbZ (by exact pbE HB.out)) hk))); (case aO => exact (Kd.R_ext HO_6.out)); (case aS => exact (pbZ (by exact pbE HB.out))); (case aL => have := LMc21.out; omega); intro v373 w22 ho hb hg hat; rw [← Ny372.out] at ho; replace HO_4 := Az.mk (Kd.R_over' (Kd.R_ext HO_4.out) (Kd.R_typed (Kd.R_ext HO_6.out)) (by decide) hg); replace BK364 := Az.mk (blk_grown (bk BK364.out) hg (Kd.R_ne HO_6.out BK364.out (by decide))); replace HB := Az.mk (hb); have HO374 := Az.mk (ho); clear HO_6; clear ho hb hg hat))
              go_roundg kj12
              case measure => have := HJ2.out; have := HK2.out; have := HJ12.out; omega
              case rel => exact ⟨(y372), (wrap64 (x7_2 + 1)), (x365000_2), (x365001_2), (x365002_2), (x365003_2), (x365005_2), (by first | rfl | (simp; done) | (simp [*]; done)), H', ⟨by have := HJ2.out; have := HK2.out; have := HJ12.out; omega⟩, ⟨by (with_reducible repeat (first | apply Kd.R_alloc | apply Kd.R_drewN | apply Kd.R_drew)); exact HO_4.out⟩, ⟨by (with_reducible repeat (first | apply Kd.R_alloc | apply Kd.R_drewN | apply Kd.R_drew)); exact HO374.out⟩, ⟨by refine bk ?_; exact BK364.out⟩, ⟨by exact pbE HB.out⟩⟩
             ·rw [if_neg c21] at H
              exact absurd H (by simp)
            ·rw [if_neg c20] at H
             have c20b0 : (t371 == 0) = false := beq_eq_false_iff_ne.mpr c20
             have c20b1 : (t371 != 0) = true := bne_iff_ne.mpr c20
             simp only [Option.some.injEq, Prod.mk.injEq] at H
             obtain ⟨rfl, rfl, rfl, rfl, rfl, rfl, rfl⟩ := H
             have p369 : 0 ≤ (x7_2 : Int) := of_decide_eq_true (by first | (with_reducible assumption) | assumption)
             have q369 : x7_2 < (t365.length : Int) := of_decide_eq_true (by first | (with_reducible assumption) | assumption)
             have hpos369_ : 0 < t365.length := by omega
             obtain ⟨ad369, e369, hx369_0⟩ := Kd.at_string (Kd.R_reads' HO_4.out).2.2 x7_2 p369 q369
             cases e369
             replace p369 := eq_true p369
             replace q369 := eq_true q369
             go_wp2_with (first | ((with_reducible refine gtc (f := 32) rfl ?_); refine goesL_ (some 49) rfl rfl Tryz.func32 (by kernel_rfl) rfl #[.string (rdOf ByteArray.empty t365 x7_2)] rfl (by (try simp only [List.map_toArray, List.map_cons, List.map_nil]); first | done | rfl | (simp only [List.length_drop, List.length_take]; rfl)) ?_; (with_reducible refine (r01_Int.calls kj12 (rdOf ByteArray.empty t365 x7_2) t370 t371 _ ?side1 A19.out).mono ?_); (case side1 => exact hG.below (by exact pbE HB.out)); rintro e w' ⟨rfl, ⟨nd, rfl⟩⟩; refine ⟨_, rfl, ?_⟩; (try (rw [drewN_self wc]; generalize hq_ : World.drewN wc _ = wc; have n0_ : Az (Kd.R Kd.string 9 wc w.heap.size (fun k_ => (w.heap.size ≤ k_)) (.slice (some ad369) t365.length co14) t365) := ⟨by rw [← hq_]; exact (Kd.R_ext HO_4.out)⟩; have n1_ : Az (Kd.R (Kd.int .i64) 2 wc w.heap.size (fun k_ => (w.heap.size ≤ k_)) u6 x6_2) := ⟨by rw [← hq_]; exact (Kd.R_ext HO_6.out)⟩; have n2_ : Az (wc.heap[gb364]? = some (.cells #[.int .i64 x365000_2, .string x365001_2, .string x365002_2, .int .i64 x365003_2, .slice none 0 0, .int .i64 x365005_2] 26 (0, 0))) := ⟨by rw [← hq_]; exact (bk BK364.out)⟩; have n3_ : Az (Below w.heap.size w wc) := ⟨by rw [← hq_]; exact (by exact pbE HB.out)⟩; clear HO_4 HO_6 BK364 HB hq_; have HO_4 := n0_; have HO_6 := n1_; have BK364 := n2_; have HB := n3_; clear n0_ n1_ n2_ n3_)); have hcz23 := cells6 BK364.out))
             refine bodyPost_ret (results_ct rfl _ _ gb364 26 #[.int .i64 0, .string (⟨#[]⟩ : ByteArray), .string (⟨#[]⟩ : ByteArray), .int .i64 0, .slice none 0 0, .int .i64 0] (0, 0) _ rfl (by refine bk ?_; refine blk_put (cs := #[.int .i64 0, .string (⟨#[]⟩ : ByteArray), .string (⟨#[]⟩ : ByteArray), .int .i64 0, .slice none 0 0, .int .i64 x365005_2]) ?_ 5 _ rfl; refine bk ?_; refine blk_put (cs := #[.int .i64 0, .string (⟨#[]⟩ : ByteArray), .string (⟨#[]⟩ : ByteArray), .int .i64 0, .slice none 0 0, .int .i64 x365005_2]) ?_ 4 _ rfl; refine bk ?_; refine blk_put (cs := #[.int .i64 0, .string (⟨#[]⟩ : ByteArray), .string (⟨#[]⟩ : ByteArray), .int .i64 x365003_2, .slice none 0 0, .int .i64 x365005_2]) ?_ 3 _ rfl; refine bk ?_; refine blk_put (cs := #[.int .i64 0, .string (⟨#[]⟩ : ByteArray), .string x365002_2, .int .i64 x365003_2, .slice none 0 0, .int .i64 x365005_2]) ?_ 2 _ rfl; refine bk ?_; refine blk_put (cs := #[.int .i64 0, .string x365001_2, .string x365002_2, .int .i64 x365003_2, .slice none 0 0, .int .i64 x365005_2]) ?_ 1 _ rfl; refine bk ?_; refine blk_put (cs := #[.int .i64 x365000_2, .string x365001_2, .string x365002_2, .int .i64 x365003_2, .slice none 0 0, .int .i64 x365005_2]) ?_ 0 _ rfl; refine bk ?_; exact BK364.out) Tryz.underlying26 rfl (by kernel_rfl)) rfl ?_
             exact ⟨_, by first | rfl | (simp [errW_none, errW_some] <;> rfl) | (simp [*, errW_none, errW_some] <;> rfl), Kd.V_nil _ _ _ _ _, by exact pbE HB.out⟩
           ·rw [if_neg c18] at H
            exact absurd H (by simp)
          ·rw [if_neg c17] at H
           exact absurd H (by simp)
         ·replace c16 := Bool.eq_false_iff.mpr c16
          subst c16
          rw [if_neg (show ¬ (false = true) by decide)] at H
          by_cases c24 : x6_2.length < 17592186044416
          ·rw [if_pos c24] at H
           have LMc24 := Az.mk c24
           clear c24
           obtain ⟨y375, hy375⟩ : ∃ y_ : List Int, y_ = (x6_2 ++ [0]) := ⟨_, rfl⟩
           replace H : (r06_Parse.l0 kj12 t365 y375 (wrap64 (x7_2 + 1))) = some (r1, r2, r3, r4, r5, r6, r7) := by first | (rw [hy375]; with_reducible exact H) | (have H2_ := (Option.bind_some _ _).symm.trans H; rw [hy375]; with_reducible exact H2_) | (have H2_ := (Option.bind_some _ _).symm.trans H; with_reducible exact H2_) | with_reducible exact H | (rw [hy375]; exact H) | exact H
           have Ny375 := Az.mk hy375
           clear hy375
           have H' := Az.mk H
           clear H
           go_wp2_with (first | ((with_reducible refine gate_builtin (b := .append) (xs := #[.tmp 56, .tmp 58]) rfl ?_); (try (refine gate_guard (by rfl) ?_; dsimp only)); at_builtin; refine Kd.R_append (Kd.int .i64) (w0 := w) w.heap.size rfl (.tmp 56) (.tmp 58) 55 2 (.int .i64 0) 8 rfl Tryz.underlying55 info2 rfl (by decide) (by omega) u6 x6_2 0 [.int .i64 0] (fun k_ => (w.heap.size ≤ k_)) (fun _ => False) rfl rfl ?aP (fun _ hk => hk.elim) ?aF ?aO ?aB ?aS ?aL ?_; (case aP => exact rfl); (case aB => exact (by exact pbE HB.out)); (case aF => exact (fun k_ hk => (Nat.le_trans (pbZ (by exact pbE HB.out)) hk))); (case aO => exact (Kd.R_ext HO_6.out)); (case aS => exact (pbZ (by exact pbE HB.out))); (case aL => have := LMc24.out; omega); intro v376 w25 ho hb hg hat; rw [← Ny375.out] at ho; replace HO_4 := Az.mk (Kd.R_over' (Kd.R_ext HO_4.out) (Kd.R_typed (Kd.R_ext HO_6.out)) (by decide) hg); replace BK364 := Az.mk (blk_grown (bk BK364.out) hg (Kd.R_ne HO_6.out BK364.out (by decide))); replace HB := Az.mk (hb); have HO377 := Az.mk (ho); clear HO_6; clear ho hb hg hat))
           go_roundg kj12
           case measure => have := HJ2.out; have := HK2.out; have := HJ12.out; omega
           case rel => exact ⟨(y375), (wrap64 (x7_2 + 1)), (x365000_2), (x365001_2), (x365002_2), (x365003_2), (x365005_2), (by first | rfl | (simp; done) | (simp [*]; done)), H', ⟨by have := HJ2.out; have := HK2.out; have := HJ12.out; omega⟩, ⟨by (with_reducible repeat (first | apply Kd.R_alloc | apply Kd.R_drewN | apply Kd.R_drew)); exact HO_4.out⟩, ⟨by (with_reducible repeat (first | apply Kd.R_alloc | apply Kd.R_drewN | apply Kd.R_drew)); exact HO377.out⟩, ⟨by refine bk ?_; exact BK364.out⟩, ⟨by exact pbE HB.out⟩⟩
          ·rw [if_neg c24] at H
           exact absurd H (by simp)
      ·rw [if_neg c12] at H
       have c12b0 : decide (x7_2 < (t365.length : Int)) = false := decide_eq_false c12
       clear c12
       by_cases c26 : 0 < (x6_2.length : Int)
       ·rw [if_pos c26] at H
        have c26b0 : decide (0 < (x6_2.length : Int)) = true := decide_eq_true c26
        have c26b1 : decide (0 < x6_2.length) = true := decide_eq_true (by omega)
        clear c26
        by_cases c27 : 1 < (t365.length : Int)
        ·rw [if_pos c27] at H
         have c27b0 : decide (1 < (t365.length : Int)) = true := decide_eq_true c27
         have c27b1 : decide (1 < t365.length) = true := decide_eq_true (by omega)
         clear c27
         by_cases c28 : 2 < (t365.length : Int)
         ·rw [if_pos c28] at H
          have c28b0 : decide (2 < (t365.length : Int)) = true := decide_eq_true c28
          have c28b1 : decide (2 < t365.length) = true := decide_eq_true (by omega)
          clear c28
          by_cases c29 : 3 < (x6_2.length : Int)
          ·rw [if_pos c29] at H
           have c29b0 : decide (3 < (x6_2.length : Int)) = true := decide_eq_true c29
           have c29b1 : decide (3 < x6_2.length) = true := decide_eq_true (by omega)
           clear c29
           by_cases c30 : 4 < (x6_2.length : Int)
           ·rw [if_pos c30] at H
            have c30b0 : decide (4 < (x6_2.length : Int)) = true := decide_eq_true c30
            have c30b1 : decide (4 < x6_2.length) = true := decide_eq_true (by omega)
            clear c30
            have H' := Az.mk H
            clear H
            obtain ⟨Ao31, co31, eo31⟩ := Kd.R_slice HO_4.out
            subst eo31
            try go_wp2
            replace HO_4 := Az.mk (Kd.R_drew HO_4.out)
            replace HO_6 := Az.mk (Kd.R_drew HO_6.out)
            replace BK364 := Az.mk (bkD BK364.out)
            replace HB := Az.mk (pb1 HB.out)
            obtain ⟨Ao33, co33, eo33⟩ := Kd.R_slice HO_6.out
            (first | subst eo33 | (injection eo33 with f1_ f2_ f3_; have f4_ := f1_.symm; have f5_ := f3_.symm; clear f1_ f2_ f3_; subst f4_; subst f5_))
            have p378 : 0 ≤ (0 : Int) := (by omega)
            have q378 : 0 < (x6_2.length : Int) := of_decide_eq_true (by first | (with_reducible assumption) | assumption)
            have hpos378_ : 0 < x6_2.length := by omega
            obtain ⟨ad378, e378, hx378_0⟩ := Kd.at_int (Kd.R_reads' HO_6.out).2.2 0 p378 q378
            cases e378
            have qi378 : (0 < x6_2.length) = True := eq_true (by omega)
            (try rw [show ((0 : Int)).toNat = 0 from rfl] at hx378_0)
            (try rw [Addr.add_zero'] at hx378_0)
            replace p378 := eq_true p378
            replace q378 := eq_true q378
            have p379 : 0 ≤ (1 : Int) := (by omega)
            have q379 : 1 < (t365.length : Int) := of_decide_eq_true (by first | (with_reducible assumption) | assumption)
            have hpos379_ : 0 < t365.length := by omega
            obtain ⟨ad379, e379, hx379_0⟩ := Kd.at_string (Kd.R_reads' HO_4.out).2.2 1 p379 q379
            cases e379
            (try simp only [show (1 : Int).toNat = 1 from rfl, Nat.reduceMul, Nat.reduceEqDiff, Go.Addr.add, ↓reduceIte] at hx379_0)
            have qi379 : (1 < t365.length) = True := eq_true (by omega)
            (try rw [show ((1 : Int)).toNat = 1 from rfl] at hx379_0)
            replace p379 := eq_true p379
            replace q379 := eq_true q379
            have p380 : 0 ≤ (2 : Int) := (by omega)
            have q380 : 2 < (t365.length : Int) := of_decide_eq_true (by first | (with_reducible assumption) | assumption)
            have hpos380_ : 0 < t365.length := by omega
            obtain ⟨ad380, e380, hx380_0⟩ := Kd.at_string (Kd.R_reads' HO_4.out).2.2 2 p380 q380
            obtain rfl : ad379 = ad380 := (by injection e380)
            (try simp only [show (2 : Int).toNat = 2 from rfl, Nat.reduceMul, Nat.reduceEqDiff, Go.Addr.add, ↓reduceIte] at hx380_0)
            have qi380 : (2 < t365.length) = True := eq_true (by omega)
            (try rw [show ((2 : Int)).toNat = 2 from rfl] at hx380_0)
            replace p380 := eq_true p380
            replace q380 := eq_true q380
            have p381 : 0 ≤ (3 : Int) := (by omega)
            have q381 : 3 < (x6_2.length : Int) := of_decide_eq_true (by first | (with_reducible assumption) | assumption)
            have hpos381_ : 0 < x6_2.length := by omega
            obtain ⟨ad381, e381, hx381_0⟩ := Kd.at_int (Kd.R_reads' HO_6.out).2.2 3 p381 q381
            obtain rfl : ad378 = ad381 := (by injection e381)
            (try simp only [show (3 : Int).toNat = 3 from rfl, Nat.reduceMul, Nat.reduceEqDiff, Go.Addr.add, ↓reduceIte] at hx381_0)
            have qi381 : (3 < x6_2.length) = True := eq_true (by omega)
            (try rw [show ((3 : Int)).toNat = 3 from rfl] at hx381_0)
            replace p381 := eq_true p381
            replace q381 := eq_true q381
            have p382 : 0 ≤ (4 : Int) := (by omega)
            have q382 : 4 < (x6_2.length : Int) := of_decide_eq_true (by first | (with_reducible assumption) | assumption)
            have hpos382_ : 0 < x6_2.length := by omega
            obtain ⟨ad382, e382, hx382_0⟩ := Kd.at_int (Kd.R_reads' HO_6.out).2.2 4 p382 q382
            obtain rfl : ad378 = ad382 := (by injection e382)
            (try simp only [show (4 : Int).toNat = 4 from rfl, Nat.reduceMul, Nat.reduceEqDiff, Go.Addr.add, ↓reduceIte] at hx382_0)
            have qi382 : (4 < x6_2.length) = True := eq_true (by omega)
            (try rw [show ((4 : Int)).toNat = 4 from rfl] at hx382_0)
            replace p382 := eq_true p382
            replace q382 := eq_true q382
            refine start_ (n := 19) (S := fun w' => w'.cell? ad378 = some (.int .i64 (rd x6_2 0)) ∧ w'.cell? ⟨ad379.block, ad379.off + 1, none⟩ = some (.string (rdOf ByteArray.empty t365 1)) ∧ w'.cell? ⟨ad379.block, ad379.off + 2, none⟩ = some (.string (rdOf ByteArray.empty t365 2)) ∧ w'.cell? ⟨ad378.block, ad378.off + 3, none⟩ = some (.int .i64 (rd x6_2 3)) ∧ w'.cell? ⟨ad378.block, ad378.off + 4, none⟩ = some (.int .i64 (rd x6_2 4))) (ds := []) #[false, false, false, false, false, false, false, false, false, false, false, false, false, false, false, false, false, false, false] (by kernel_rfl) rfl rfl ⟨hx378_0, hx379_0, hx380_0, hx381_0, hx382_0⟩ (fun hHeld => ?_); refine with_tabW r06_Parse.tab15 r06_Parse.bits15 (fun HT_ HW_ => ?_)
            generalize wr.drew = w32 at HO_4 HO_6 BK364 HB hx378_0 hx379_0 hx380_0 hx381_0 hx382_0 hHeld ⊢
            refine pure_ (i := 0) (N := some 60) (v := ?_) (a' := ?_) #[true, false, false, false, false, false, false, false, false, false, false, false, false, false, false, false, false, false, false] rfl rfl (any_of HT_.out (by kernel_rfl)) (fun _ _ _ h => h) (Or.inl ⟨by rfl, ?_⟩) ?_ ?_
            rotate_left
            ·intro w'
             go_simp
             with_reducible rfl
            rotate_left
            ·simp only [Act.put, List.setIfInBounds_toArray, List.set_cons_zero, List.set_cons_succ, i64_w, i32_w]
             rfl
            refine pure_ (i := 1) (N := some 61) (v := ?_) (a' := ?_) #[true, true, false, false, false, false, false, false, false, false, false, false, false, false, false, false, false, false, false] rfl rfl (any_of HT_.out (by kernel_rfl)) (fun _ _ _ h => h) (Or.inl ⟨by rfl, ?_⟩) ?_ ?_
            rotate_left
            ·intro w'
             go_simp
             with_reducible rfl
            rotate_left
            ·simp only [Act.put, List.setIfInBounds_toArray, List.set_cons_zero, List.set_cons_succ, i64_w, i32_w]
             rfl
            refine pure_ (i := 3) (N := some 63) (v := ?_) (a' := ?_) #[true, true, false, true, false, false, false, false, false, false, false, false, false, false, false, false, false, false, false] rfl rfl (any_of HT_.out (by kernel_rfl)) (fun _ _ _ h => h) (Or.inl ⟨by rfl, ?_⟩) ?_ ?_
            rotate_left
            ·intro w'
             go_simp
             with_reducible rfl
            rotate_left
            ·simp only [Act.put, List.setIfInBounds_toArray, List.set_cons_zero, List.set_cons_succ, i64_w, i32_w]
             rfl
            refine pure_ (i := 4) (N := some 64) (v := ?_) (a' := ?_) #[true, true, false, true, true, false, false, false, false, false, false, false, false, false, false, false, false, false, false] rfl rfl (any_of HT_.out (by kernel_rfl)) (fun _ _ _ h => h) (Or.inl ⟨by rfl, ?_⟩) ?_ ?_
            rotate_left
            ·intro w'
             go_simp
             with_reducible rfl
            rotate_left
            ·simp only [Act.put, List.setIfInBounds_toArray, List.set_cons_zero, List.set_cons_succ, i64_w, i32_w]
             rfl
            refine pure_ (i := 6) (N := some 66) (v := ?_) (a' := ?_) #[true, true, false, true, true, false, true, false, false, false, false, false, false, false, false, false, false, false, false] rfl rfl (any_of HT_.out (by kernel_rfl)) (fun _ _ _ h => h) (Or.inl ⟨by rfl, ?_⟩) ?_ ?_
            rotate_left
            ·intro w'
             go_simp
             with_reducible rfl
            rotate_left
            ·simp only [Act.put, List.setIfInBounds_toArray, List.set_cons_zero, List.set_cons_succ, i64_w, i32_w]
             rfl
            refine pure_ (i := 7) (N := some 67) (v := ?_) (a' := ?_) #[true, true, false, true, true, false, true, true, false, false, false, false, false, false, false, false, false, false, false] rfl rfl (any_of HT_.out (by kernel_rfl)) (fun _ _ _ h => h) (Or.inl ⟨by rfl, ?_⟩) ?_ ?_
            rotate_left
            ·intro w'
             go_simp
             with_reducible rfl
            rotate_left
            ·simp only [Act.put, List.setIfInBounds_toArray, List.set_cons_zero, List.set_cons_succ, i64_w, i32_w]
             rfl
            refine pure_ (i := 10) (N := some 70) (v := ?_) (a' := ?_) #[true, true, false, true, true, false, true, true, false, false, true, false, false, false, false, false, false, false, false] rfl rfl (any_of HT_.out (by kernel_rfl)) (fun _ _ _ h => h) (Or.inl ⟨by rfl, ?_⟩) ?_ ?_
            rotate_left
            ·intro w'
             go_simp
             with_reducible rfl
            rotate_left
            ·simp only [Act.put, List.setIfInBounds_toArray, List.set_cons_zero, List.set_cons_succ, i64_w, i32_w]
             rfl
            refine pure_ (i := 11) (N := some 71) (v := ?_) (a' := ?_) #[true, true, false, true, true, false, true, true, false, false, true, true, false, false, false, false, false, false, false] rfl rfl (any_of HT_.out (by kernel_rfl)) (fun _ _ _ h => h) (Or.inl ⟨by rfl, ?_⟩) ?_ ?_
            rotate_left
            ·intro w'
             go_simp
             with_reducible rfl
            rotate_left
            ·simp only [Act.put, List.setIfInBounds_toArray, List.set_cons_zero, List.set_cons_succ, i64_w, i32_w]
             rfl
            refine pure_ (i := 13) (N := some 73) (v := ?_) (a' := ?_) #[true, true, false, true, true, false, true, true, false, false, true, true, false, true, false, false, false, false, false] rfl rfl (any_of HT_.out (by kernel_rfl)) (fun _ _ _ h => h) (Or.inl ⟨by rfl, ?_⟩) ?_ ?_
            rotate_left
            ·intro w'
             go_simp
             with_reducible rfl
            rotate_left
            ·simp only [Act.put, List.setIfInBounds_toArray, List.set_cons_zero, List.set_cons_succ, i64_w, i32_w]
             rfl
            refine pure_ (i := 14) (N := some 74) (v := ?_) (a' := ?_) #[true, true, false, true, true, false, true, true, false, false, true, true, false, true, true, false, false, false, false] rfl rfl (any_of HT_.out (by kernel_rfl)) (fun _ _ _ h => h) (Or.inl ⟨by rfl, ?_⟩) ?_ ?_
            rotate_left
            ·intro w'
             go_simp
             with_reducible rfl
            rotate_left
            ·simp only [Act.put, List.setIfInBounds_toArray, List.set_cons_zero, List.set_cons_succ, i64_w, i32_w]
             rfl
            refine take_ (i := 2) (N := some 62) (v := ?_) (a' := ?_) #[true, true, true, true, true, false, true, true, false, false, true, true, false, true, true, false, false, false, false] rfl rfl (take_ofW HT_.out HW_.out (by kernel_rfl)) (fun _ _ _ h => h) (Or.inl ⟨by rfl, ?_⟩) hHeld ?_ ?_
            rotate_left
            ·rintro w' ⟨s0, s1, s2, s3, s4⟩
             go_simp
             with_reducible rfl
            rotate_left
            ·simp only [Act.put, List.setIfInBounds_toArray, List.set_cons_zero, List.set_cons_succ, i64_w, i32_w]
             rfl
            refine take_ (i := 5) (N := some 65) (v := ?_) (a' := ?_) #[true, true, true, true, true, true, true, true, false, false, true, true, false, true, true, false, false, false, false] rfl rfl (take_ofW HT_.out HW_.out (by kernel_rfl)) (fun _ _ _ h => h) (Or.inl ⟨by rfl, ?_⟩) hHeld ?_ ?_
            rotate_left
            ·rintro w' ⟨s0, s1, s2, s3, s4⟩
             go_simp
             with_reducible rfl
            rotate_left
            ·simp only [Act.put, List.setIfInBounds_toArray, List.set_cons_zero, List.set_cons_succ, i64_w, i32_w]
             rfl
            refine take_ (i := 8) (N := some 68) (v := ?_) (a' := ?_) #[true, true, true, true, true, true, true, true, true, false, true, true, false, true, true, false, false, false, false] rfl rfl (take_ofW HT_.out HW_.out (by kernel_rfl)) (fun _ _ _ h => h) (Or.inl ⟨by rfl, ?_⟩) hHeld ?_ ?_
            rotate_left
            ·rintro w' ⟨s0, s1, s2, s3, s4⟩
             go_simp
             with_reducible rfl
            rotate_left
            ·simp only [Act.put, List.setIfInBounds_toArray, List.set_cons_zero, List.set_cons_succ, i64_w, i32_w]
             rfl
            refine pure_ (i := 9) (N := some 69) (v := ?_) (a' := ?_) #[true, true, true, true, true, true, true, true, true, true, true, true, false, true, true, false, false, false, false] rfl rfl (any_of HT_.out (by kernel_rfl)) (fun _ _ _ h => h) (Or.inl ⟨by rfl, ?_⟩) ?_ ?_
            rotate_left
            ·intro w'
             go_simp
             with_reducible rfl
            rotate_left
            ·simp only [Act.put, List.setIfInBounds_toArray, List.set_cons_zero, List.set_cons_succ, i64_w, i32_w]
             rfl
            refine take_ (i := 12) (N := some 72) (v := ?_) (a' := ?_) #[true, true, true, true, true, true, true, true, true, true, true, true, true, true, true, false, false, false, false] rfl rfl (take_ofW HT_.out HW_.out (by kernel_rfl)) (fun _ _ _ h => h) (Or.inl ⟨by rfl, ?_⟩) hHeld ?_ ?_
            rotate_left
            ·rintro w' ⟨s0, s1, s2, s3, s4⟩
             go_simp
             with_reducible rfl
            rotate_left
            ·simp only [Act.put, List.setIfInBounds_toArray, List.set_cons_zero, List.set_cons_succ, i64_w, i32_w]
             rfl
            refine take_ (i := 15) (N := some 75) (v := ?_) (a' := ?_) #[true, true, true, true, true, true, true, true, true, true, true, true, true, true, true, true, false, false, false] rfl rfl (take_ofW HT_.out HW_.out (by kernel_rfl)) (fun _ _ _ h => h) (Or.inl ⟨by rfl, ?_⟩) hHeld ?_ ?_
            rotate_left
            ·rintro w' ⟨s0, s1, s2, s3, s4⟩
             go_simp
             with_reducible rfl
            rotate_left
            ·simp only [Act.put, List.setIfInBounds_toArray, List.set_cons_zero, List.set_cons_succ, i64_w, i32_w]
             rfl
            refine pure_ (i := 16) (N := some 76) (v := ?_) (a' := ?_) #[true, true, true, true, true, true, true, true, true, true, true, true, true, true, true, true, true, false, false] rfl rfl (any_of HT_.out (by kernel_rfl)) (fun _ _ _ h => h) (Or.inl ⟨by rfl, ?_⟩) ?_ ?_
            rotate_left
            ·intro w'
             go_simp
             with_reducible rfl
            rotate_left
            ·simp only [Act.put, List.setIfInBounds_toArray, List.set_cons_zero, List.set_cons_succ, i64_w, i32_w]
             rfl
            refine one_ (i := 17) (N := some 11) #[true, true, true, true, true, true, true, true, true, true, true, true, true, true, true, true, true, true, false] rfl rfl (one_of HT_.out (by kernel_rfl)) (by decide) (fun K hK => ?_)
            refine box_step ?hg (N := 11) ?hd (cs := #[.int .i64 0, .string (⟨#[]⟩ : ByteArray), .string (⟨#[]⟩ : ByteArray), .int .i64 0, .slice none 0 0, .int .i64 0]) (t := 26) ?hr ?_; (case hd => rfl); (case hg => rfl); (case hr => first | (go_simp; done) | (go_simp; rfl))
            intro gb383 hg w34 hbox hb
            have HS0_ := (hb.cell (World.block_lt_of_cell? _ _ (hHeld.1))).trans (hHeld.1)
            have HS1_ := (hb.cell (World.block_lt_of_cell? _ _ (hHeld.2.1))).trans (hHeld.2.1)
            have HS2_ := (hb.cell (World.block_lt_of_cell? _ _ (hHeld.2.2.1))).trans (hHeld.2.2.1)
            have HS3_ := (hb.cell (World.block_lt_of_cell? _ _ (hHeld.2.2.2.1))).trans (hHeld.2.2.2.1)
            have HS4_ := (hb.cell (World.block_lt_of_cell? _ _ (hHeld.2.2.2.2))).trans (hHeld.2.2.2.2)
            replace HO_4 := Az.mk (Kd.R_below (Kd.R_ext HO_4.out) hb)
            replace HO_6 := Az.mk (Kd.R_below (Kd.R_ext HO_6.out) hb)
            have BK383 := Az.mk (hbox)
            have GW383 := Az.mk (geO hg (pbE HB.out))
            have GE383 := Az.mk (geO hg (pbE HB.out))
            replace HB := Az.mk (pbT (by exact pbE HB.out) hb)
            have NB364_383 := Az.mk (neO hg (bk BK364.out))
            have NB383_364 := Az.mk (neP hg (bk BK364.out))
            replace BK364 := Az.mk (bkB (bk BK364.out) hb)
            clear hb hbox hg
            refine hK.out _ _ ⟨HS0_, HS1_, HS2_, HS3_, HS4_⟩ (fun hHeld => ?_)
            clear hK K
            refine norm_ (a' := ?_) ?_ ?_
            rotate_left
            ·show Act.put _ (some 11) _ = _
             simp only [Act.put, List.setIfInBounds_toArray, List.set_cons_zero, List.set_cons_succ, i64_w, i32_w]
             rfl
            refine one_ (i := 18) (N := none) #[true, true, true, true, true, true, true, true, true, true, true, true, true, true, true, true, true, true, true] rfl rfl (one_of HT_.out (by kernel_rfl)) (by decide) (fun K hK => ?_)
            have hs35 : w34.cell? ⟨gb383, 0, none⟩ = some (.int .i64 0) := (bkC BK383.out 0).trans rfl
            have hfs35 := bkF BK383.out 0
            have hns35_0 := NB364_383.out
            have hms35_0 := NB383_364.out
            have hs36 : w34.cell? ⟨gb383, 1, none⟩ = some (.string (⟨#[]⟩ : ByteArray)) := (bkC BK383.out 1).trans rfl
            have hfs36 := bkF BK383.out 1
            have hns36_0 := NB364_383.out
            have hms36_0 := NB383_364.out
            have hs37 : w34.cell? ⟨gb383, 2, none⟩ = some (.string (⟨#[]⟩ : ByteArray)) := (bkC BK383.out 2).trans rfl
            have hfs37 := bkF BK383.out 2
            have hns37_0 := NB364_383.out
            have hms37_0 := NB383_364.out
            have hs38 : w34.cell? ⟨gb383, 3, none⟩ = some (.int .i64 0) := (bkC BK383.out 3).trans rfl
            have hfs38 := bkF BK383.out 3
            have hns38_0 := NB364_383.out
            have hms38_0 := NB383_364.out
            have hs39 : w34.cell? ⟨gb383, 4, none⟩ = some (.slice none 0 0) := (bkC BK383.out 4).trans rfl
            have hfs39 := bkF BK383.out 4
            have hns39_0 := NB364_383.out
            have hms39_0 := NB383_364.out
            have hs40 : w34.cell? ⟨gb383, 5, none⟩ = some (.int .i64 0) := (bkC BK383.out 5).trans rfl
            have hfs40 := bkF BK383.out 5
            have hns40_0 := NB364_383.out
            have hms40_0 := NB383_364.out
            refine skip_ (w1 := ?_) (by rfl) rfl ?_ ?_
            rotate_left
            ·go_simp
             rfl
            have qq0_ := cell_setN6 (g := gb383) (by first | exact Kd.own_blk (Kd.R_ne HO_6.out BK383.out (by decide)) | (rw [add_block]; exact Kd.own_blk (Kd.R_ne HO_6.out BK383.out (by decide))) | (show (Addr.add _ _).block ≠ _; rw [add_block]; exact Kd.own_blk (Kd.R_ne HO_6.out BK383.out (by decide))) | (dsimp only; exact Kd.own_blk (Kd.R_ne HO_6.out BK383.out (by decide)))) (hHeld.1) (.int .i64 (rd x6_2 0)) (.string (rdOf ByteArray.empty t365 1)) (.string (rdOf ByteArray.empty t365 2)) (.int .i64 (rd x6_2 3)) (.slice none 0 0) (.int .i64 (rd x6_2 4))
            have qq1_ := cell_setN6 (g := gb383) (by first | exact Kd.own_blk (Kd.R_ne HO_4.out BK383.out (by decide)) | (rw [add_block]; exact Kd.own_blk (Kd.R_ne HO_4.out BK383.out (by decide))) | (show (Addr.add _ _).block ≠ _; rw [add_block]; exact Kd.own_blk (Kd.R_ne HO_4.out BK383.out (by decide))) | (dsimp only; exact Kd.own_blk (Kd.R_ne HO_4.out BK383.out (by decide)))) (hHeld.2.1) (.int .i64 (rd x6_2 0)) (.string (rdOf ByteArray.empty t365 1)) (.string (rdOf ByteArray.empty t365 2)) (.int .i64 (rd x6_2 3)) (.slice none 0 0) (.int .i64 (rd x6_2 4))
            have qq2_ := cell_setN6 (g := gb383) (by first | exact Kd.own_blk (Kd.R_ne HO_4.out BK383.out (by decide)) | (rw [add_block]; exact Kd.own_blk (Kd.R_ne HO_4.out BK383.out (by decide))) | (show (Addr.add _ _).block ≠ _; rw [add_block]; exact Kd.own_blk (Kd.R_ne HO_4.out BK383.out (by decide))) | (dsimp only; exact Kd.own_blk (Kd.R_ne HO_4.out BK383.out (by decide)))) (hHeld.2.2.1) (.int .i64 (rd x6_2 0)) (.string (rdOf ByteArray.empty t365 1)) (.string (rdOf ByteArray.empty t365 2)) (.int .i64 (rd x6_2 3)) (.slice none 0 0) (.int .i64 (rd x6_2 4))
            have qq3_ := cell_setN6 (g := gb383) (by first | exact Kd.own_blk (Kd.R_ne HO_6.out BK383.out (by decide)) | (rw [add_block]; exact Kd.own_blk (Kd.R_ne HO_6.out BK383.out (by decide))) | (show (Addr.add _ _).block ≠ _; rw [add_block]; exact Kd.own_blk (Kd.R_ne HO_6.out BK383.out (by decide))) | (dsimp only; exact Kd.own_blk (Kd.R_ne HO_6.out BK383.out (by decide)))) (hHeld.2.2.2.1) (.int .i64 (rd x6_2 0)) (.string (rdOf ByteArray.empty t365 1)) (.string (rdOf ByteArray.empty t365 2)) (.int .i64 (rd x6_2 3)) (.slice none 0 0) (.int .i64 (rd x6_2 4))
            have qq4_ := cell_setN6 (g := gb383) (by first | exact Kd.own_blk (Kd.R_ne HO_6.out BK383.out (by decide)) | (rw [add_block]; exact Kd.own_blk (Kd.R_ne HO_6.out BK383.out (by decide))) | (show (Addr.add _ _).block ≠ _; rw [add_block]; exact Kd.own_blk (Kd.R_ne HO_6.out BK383.out (by decide))) | (dsimp only; exact Kd.own_blk (Kd.R_ne HO_6.out BK383.out (by decide)))) (hHeld.2.2.2.2) (.int .i64 (rd x6_2 0)) (.string (rdOf ByteArray.empty t365 1)) (.string (rdOf ByteArray.empty t365 2)) (.int .i64 (rd x6_2 3)) (.slice none 0 0) (.int .i64 (rd x6_2 4))
            refine hK.out _ _ ⟨qq0_, qq1_, qq2_, qq3_, qq4_⟩ (fun hHeld => ?_)
            clear hK K
            refine done_ (done_of HT_.out (by kernel_rfl)) ?_
            try go_wp2
            go_loopg [12] k2 (fun kq v12 w' => ∃ (x12_3 : Int) (x365000_3 : Int) (x365001_3 : ByteArray) (x365002_3 : ByteArray) (x365003_3 : Int) (x365005_3 : Int) (x384004_3 : List (S30)) (u384004 : Value), v12 = .int .i64 x12_3 ∧ Az (r06_Parse.l1 kq x6_2 x12_3 (rd x6_2 0) (rdOf ByteArray.empty t365 1) (rdOf ByteArray.empty t365 2) (rd x6_2 3) x384004_3 (rd x6_2 4) = some (r1, r2, r3, r4, r5, r6, r7)) ∧ Az (kq ≤ k2) ∧ Az (Kd.R (Kd.int .i64) 2 w' w.heap.size (fun k_ => (w.heap.size ≤ k_)) (.slice (some ad378) x6_2.length co33) x6_2) ∧ Az (Kd.R k30 30 w' w.heap.size (fun k_ => (w.heap.size ≤ k_)) u384004 x384004_3) ∧ Az (w'.heap[gb364]? = some (.cells #[.int .i64 x365000_3, .string x365001_3, .string x365002_3, .int .i64 x365003_3, (.slice none 0 0), .int .i64 x365005_3] 26 (0, 0))) ∧ Az (w'.heap[gb383]? = some (.cells #[.int .i64 (rd x6_2 0), .string (rdOf ByteArray.empty t365 1), .string (rdOf ByteArray.empty t365 2), .int .i64 (rd x6_2 3), u384004, .int .i64 (rd x6_2 4)] 26 (0, 0))) ∧ Az (Below w.heap.size w w'))
            case atStart => exact ⟨(5), (x365000_2), (x365001_2), (x365002_2), (x365003_2), (x365005_2), (([] : List (S30))), (.slice none 0 0), (by first | rfl | (simp; done) | (simp [*]; done)), H', ⟨Nat.le_refl _⟩, ⟨by (with_reducible repeat (first | apply Kd.R_alloc | apply Kd.R_drewN | apply Kd.R_drew)); exact Kd.R_mono (Kd.R_far (p := ⟨gb383, 5, none⟩) (Kd.R_far (p := ⟨gb383, 4, none⟩) (Kd.R_far (p := ⟨gb383, 3, none⟩) (Kd.R_far (p := ⟨gb383, 2, none⟩) (Kd.R_far (p := ⟨gb383, 1, none⟩) (Kd.R_far (p := ⟨gb383, 0, none⟩) (Kd.R_types HO_6.out BK383.out (by decide)) (fun _ hk => hk.2) (.int .i64 (rd x6_2 0))) (fun _ hk => hk.2) (.string (rdOf ByteArray.empty t365 1))) (fun _ hk => hk.2) (.string (rdOf ByteArray.empty t365 2))) (fun _ hk => hk.2) (.int .i64 (rd x6_2 3))) (fun _ hk => hk.2) (.slice none 0 0)) (fun _ hk => hk.2) (.int .i64 (rd x6_2 4))) (fun _ hk => hk.1)⟩, ⟨by first | exact Kd.R_nil _ _ _ _ _ | exact Kd.N_nil _ _ _ _ _ | exact Kd.V_nil _ _ _ _ _ | exact Kd.Q_nil _ _ _ _ _ | exact Kd.S_nil _ _ _ _ _⟩, ⟨by exact bf BK364.out⟩, ⟨by refine bk ?_; refine blk_put (cs := #[.int .i64 (rd x6_2 0), .string (rdOf ByteArray.empty t365 1), .string (rdOf ByteArray.empty t365 2), .int .i64 (rd x6_2 3), .slice none 0 0, .int .i64 0]) ?_ 5 _ rfl; refine bk ?_; refine blk_put (cs := #[.int .i64 (rd x6_2 0), .string (rdOf ByteArray.empty t365 1), .string (rdOf ByteArray.empty t365 2), .int .i64 (rd x6_2 3), .slice none 0 0, .int .i64 0]) ?_ 4 _ rfl; refine bk ?_; refine blk_put (cs := #[.int .i64 (rd x6_2 0), .string (rdOf ByteArray.empty t365 1), .string (rdOf ByteArray.empty t365 2), .int .i64 0, .slice none 0 0, .int .i64 0]) ?_ 3 _ rfl; refine bk ?_; refine blk_put (cs := #[.int .i64 (rd x6_2 0), .string (rdOf ByteArray.empty t365 1), .string (⟨#[]⟩ : ByteArray), .int .i64 0, .slice none 0 0, .int .i64 0]) ?_ 2 _ rfl; refine bk ?_; refine blk_put (cs := #[.int .i64 (rd x6_2 0), .string (⟨#[]⟩ : ByteArray), .string (⟨#[]⟩ : ByteArray), .int .i64 0, .slice none 0 0, .int .i64 0]) ?_ 1 _ rfl; refine bk ?_; refine blk_put (cs := #[.int .i64 0, .string (⟨#[]⟩ : ByteArray), .string (⟨#[]⟩ : ByteArray), .int .i64 0, .slice none 0 0, .int .i64 0]) ?_ 0 _ rfl; refine bk ?_; exact BK383.out⟩, ⟨by exact pbE HB.out⟩⟩
            case round =>
             clear H'
             try clear c1
             try clear c2
             try clear p2
             try clear c3
             try clear p3
             try clear q3
             try clear hx3
             try clear qi3
             try clear c6
             try clear c6b0
             try clear c6b1
             try clear p6
             try clear c7
             try clear c7b0
             try clear c7b1
             try clear c10
             try clear c11
             try clear c12
             try clear c12b0
             try clear c15
             try clear c15b0
             try clear c15b1
             try clear c16
             try clear c17
             try clear c17b0
             try clear c18
             try clear c18b0
             try clear c20
             try clear c20b0
             try clear c20b1
             try clear c21
             try clear c24
             try clear c26
             try clear c26b0
             try clear c26b1
             try clear c27
             try clear c27b0
             try clear c27b1
             try clear c28
             try clear c28b0
             try clear c28b1
             try clear c29
             try clear c29b0
             try clear c29b1
             try clear c30
             try clear c30b0
             try clear c30b1
             try clear c31
             try clear c32
             try clear p36
             try clear q36
             try clear hx36
             try clear p37
             try clear q37
             try clear hx37
             try clear qi37
             try clear p38
             try clear q38
             try clear hx38
             try clear qi38
             try clear hcz11
             try clear hcz23
             try clear hx369_0
             try clear hx378_0
             try clear hx379_0
             try clear hx380_0
             try clear hx381_0
             try clear hx382_0
             try clear p2
             try clear p369
             try clear p378
             try clear p379
             try clear p380
             try clear p381
             try clear p382
             try clear q369
             try clear q378
             try clear q379
             try clear q380
             try clear q381
             try clear q382
             obtain ⟨x12_3, x365000_3, x365001_3, x365002_3, x365003_3, x365005_3, x384004_3, u384004, rfl, HA, HK3, HO_6, HO_384004, BK364, BK383, HB⟩ := hrel
             cases gk with
             | zero => exact absurd HA.out (by simp [r06_Parse.l1])
             | succ k3 =>
              have H := HA.out
              clear HA
              simp only [r06_Parse.l1] at H
              by_cases c41 : x12_3 < (x6_2.length : Int)
              ·rw [if_pos c41] at H
               have c41b0 : decide (x12_3 < (x6_2.length : Int)) = true := decide_eq_true c41
               clear c41
               by_cases c42 : 0 ≤ x12_3
               ·rw [if_pos c42] at H
                have c42b0 : decide (0 ≤ x12_3) = true := decide_eq_true c42
                clear c42
                by_cases c43 : (rd x6_2 x12_3) < 1
                ·rw [if_pos c43] at H
                 have c43b0 : decide ((rd x6_2 x12_3) < 1) = true := decide_eq_true c43
                 clear c43
                 simp only [Option.some.injEq, Prod.mk.injEq] at H
                 obtain ⟨rfl, rfl, rfl, rfl, rfl, rfl, rfl⟩ := H
                 have p384 : 0 ≤ (x12_3 : Int) := of_decide_eq_true (by first | (with_reducible assumption) | assumption)
                 have q384 : x12_3 < (x6_2.length : Int) := of_decide_eq_true (by first | (with_reducible assumption) | assumption)
                 have hpos384_ : 0 < x6_2.length := by omega
                 obtain ⟨ad384, e384, hx384_0⟩ := Kd.at_int (Kd.R_reads' HO_6.out).2.2 x12_3 p384 q384
                 obtain rfl : ad378 = ad384 := (by injection e384)
                 replace p384 := eq_true p384
                 replace q384 := eq_true q384
                 have hnb44 := NB364_383.out
                 have hnc44 := NB383_364.out
                 have hcz45 := cells6 BK364.out
                 go_wp2
                 refine bodyPost_ret (results_ct rfl _ _ gb364 26 #[.int .i64 0, .string (⟨#[]⟩ : ByteArray), .string (⟨#[]⟩ : ByteArray), .int .i64 0, .slice none 0 0, .int .i64 0] (0, 0) _ rfl (by refine bk ?_; refine blk_put (cs := #[.int .i64 0, .string (⟨#[]⟩ : ByteArray), .string (⟨#[]⟩ : ByteArray), .int .i64 0, .slice none 0 0, .int .i64 x365005_3]) ?_ 5 _ rfl; refine bk ?_; refine blk_put (cs := #[.int .i64 0, .string (⟨#[]⟩ : ByteArray), .string (⟨#[]⟩ : ByteArray), .int .i64 0, .slice none 0 0, .int .i64 x365005_3]) ?_ 4 _ rfl; refine bk ?_; refine blk_put (cs := #[.int .i64 0, .string (⟨#[]⟩ : ByteArray), .string (⟨#[]⟩ : ByteArray), .int .i64 x365003_3, .slice none 0 0, .int .i64 x365005_3]) ?_ 3 _ rfl; refine bk ?_; refine blk_put (cs := #[.int .i64 0, .string (⟨#[]⟩ : ByteArray), .string x365002_3, .int .i64 x365003_3, .slice none 0 0, .int .i64 x365005_3]) ?_ 2 _ rfl; refine bk ?_; refine blk_put (cs := #[.int .i64 0, .string x365001_3, .string x365002_3, .int .i64 x365003_3, .slice none 0 0, .int .i64 x365005_3]) ?_ 1 _ rfl; refine bk ?_; refine blk_put (cs := #[.int .i64 x365000_3, .string x365001_3, .string x365002_3, .int .i64 x365003_3, .slice none 0 0, .int .i64 x365005_3]) ?_ 0 _ rfl; refine bk ?_; exact BK364.out) Tryz.underlying26 rfl (by kernel_rfl)) rfl ?_
                 exact ⟨_, by first | rfl | (simp [errW_none, errW_some] <;> rfl) | (simp [*, errW_none, errW_some] <;> rfl), Kd.V_nil _ _ _ _ _, by exact pbE HB.out⟩
                ·rw [if_neg c43] at H
                 have c43b0 : decide ((rd x6_2 x12_3) < 1) = false := decide_eq_false c43
                 clear c43
                 by_cases c46 : (rd x6_2 x12_3) > 7
                 ·rw [if_pos c46] at H
                  have c46b0 : decide (7 < (rd x6_2 x12_3)) = true := decide_eq_true c46
                  clear c46
                  simp only [Option.some.injEq, Prod.mk.injEq] at H
                  obtain ⟨rfl, rfl, rfl, rfl, rfl, rfl, rfl⟩ := H
                  have p384 : 0 ≤ (x12_3 : Int) := of_decide_eq_true (by first | (with_reducible assumption) | assumption)
                  have q384 : x12_3 < (x6_2.length : Int) := of_decide_eq_true (by first | (with_reducible assumption) | assumption)
                  have hpos384_ : 0 < x6_2.length := by omega
                  obtain ⟨ad384, e384, hx384_0⟩ := Kd.at_int (Kd.R_reads' HO_6.out).2.2 x12_3 p384 q384
                  obtain rfl : ad378 = ad384 := (by injection e384)
                  replace p384 := eq_true p384
                  replace q384 := eq_true q384
                  have p385 : 0 ≤ (x12_3 : Int) := of_decide_eq_true (by first | (with_reducible assumption) | assumption)
                  have q385 : x12_3 < (x6_2.length : Int) := of_decide_eq_true (by first | (with_reducible assumption) | assumption)
                  have hpos385_ : 0 < x6_2.length := by omega
                  obtain ⟨ad385, e385, hx385_0⟩ := Kd.at_int (Kd.R_reads' HO_6.out).2.2 x12_3 p385 q385
                  obtain rfl : ad378 = ad385 := (by injection e385)
                  replace p385 := eq_true p385
                  replace q385 := eq_true q385
                  have hnb47 := NB364_383.out
                  have hnc47 := NB383_364.out
                  have hcz48 := cells6 BK364.out
                  go_wp2
                  refine bodyPost_ret (results_ct rfl _ _ gb364 26 #[.int .i64 0, .string (⟨#[]⟩ : ByteArray), .string (⟨#[]⟩ : ByteArray), .int .i64 0, .slice none 0 0, .int .i64 0] (0, 0) _ rfl (by refine bk ?_; refine blk_put (cs := #[.int .i64 0, .string (⟨#[]⟩ : ByteArray), .string (⟨#[]⟩ : ByteArray), .int .i64 0, .slice none 0 0, .int .i64 x365005_3]) ?_ 5 _ rfl; refine bk ?_; refine blk_put (cs := #[.int .i64 0, .string (⟨#[]⟩ : ByteArray), .string (⟨#[]⟩ : ByteArray), .int .i64 0, .slice none 0 0, .int .i64 x365005_3]) ?_ 4 _ rfl; refine bk ?_; refine blk_put (cs := #[.int .i64 0, .string (⟨#[]⟩ : ByteArray), .string (⟨#[]⟩ : ByteArray), .int .i64 x365003_3, .slice none 0 0, .int .i64 x365005_3]) ?_ 3 _ rfl; refine bk ?_; refine blk_put (cs := #[.int .i64 0, .string (⟨#[]⟩ : ByteArray), .string x365002_3, .int .i64 x365003_3, .slice none 0 0, .int .i64 x365005_3]) ?_ 2 _ rfl; refine bk ?_; refine blk_put (cs := #[.int .i64 0, .string x365001_3, .string x365002_3, .int .i64 x365003_3, .slice none 0 0, .int .i64 x365005_3]) ?_ 1 _ rfl; refine bk ?_; refine blk_put (cs := #[.int .i64 x365000_3, .string x365001_3, .string x365002_3, .int .i64 x365003_3, .slice none 0 0, .int .i64 x365005_3]) ?_ 0 _ rfl; refine bk ?_; exact BK364.out) Tryz.underlying26 rfl (by kernel_rfl)) rfl ?_
                  exact ⟨_, by first | rfl | (simp [errW_none, errW_some] <;> rfl) | (simp [*, errW_none, errW_some] <;> rfl), Kd.V_nil _ _ _ _ _, by exact pbE HB.out⟩
                 ·rw [if_neg c46] at H
                  have c46b0 : decide (7 < (rd x6_2 x12_3)) = false := decide_eq_false c46
                  clear c46
                  obtain ⟨ji49, hji49⟩ : ∃ j_ : Int, (wrap64 (x12_3 + 1)) = j_ := ⟨_, rfl⟩
                  replace H : (if 0 ≤ (ji49) then (if (ji49) < (x6_2.length : Int) then (if x384004_3.length < 8796093022208 then (r06_Parse.l1 k3 x6_2 (wrap64 (x12_3 + 2)) (rd x6_2 0) (rdOf ByteArray.empty t365 1) (rdOf ByteArray.empty t365 2) (rd x6_2 3) (x384004_3 ++ [(⟨rd x6_2 x12_3, rd x6_2 (ji49)⟩ : S30)]) (rd x6_2 4)) else (none)) else (none)) else (none)) = some (r1, r2, r3, r4, r5, r6, r7) := by first | (rw [hji49] at H; exact H) | (simp only [hji49] at H ⊢; exact H)
                  have hji49w : (IntKind.i64.wrap (x12_3 + 1)) = ji49 := (i64_w _).trans hji49
                  by_cases c50 : 0 ≤ (ji49)
                  ·rw [if_pos c50] at H
                   have c50b0 : decide (0 ≤ (ji49)) = true := decide_eq_true c50
                   clear c50
                   by_cases c51 : (ji49) < (x6_2.length : Int)
                   ·rw [if_pos c51] at H
                    have c51b0 : decide ((ji49) < (x6_2.length : Int)) = true := decide_eq_true c51
                    clear c51
                    by_cases c52 : x384004_3.length < 8796093022208
                    ·rw [if_pos c52] at H
                     have LMc52 := Az.mk c52
                     clear c52
                     obtain ⟨y388, hy388⟩ : ∃ y_ : List (S30), y_ = (x384004_3 ++ [(⟨rd x6_2 x12_3, rd x6_2 (ji49)⟩ : S30)]) := ⟨_, rfl⟩
                     replace H : (r06_Parse.l1 k3 x6_2 (wrap64 (x12_3 + 2)) (rd x6_2 0) (rdOf ByteArray.empty t365 1) (rdOf ByteArray.empty t365 2) (rd x6_2 3) y388 (rd x6_2 4)) = some (r1, r2, r3, r4, r5, r6, r7) := by first | (rw [hy388]; with_reducible exact H) | (have H2_ := (Option.bind_some _ _).symm.trans H; rw [hy388]; with_reducible exact H2_) | (have H2_ := (Option.bind_some _ _).symm.trans H; with_reducible exact H2_) | with_reducible exact H | (rw [hy388]; exact H) | exact H
                     have Ny388 := Az.mk hy388
                     clear hy388
                     have H' := Az.mk H
                     clear H
                     have p384 : 0 ≤ (x12_3 : Int) := of_decide_eq_true (by first | (with_reducible assumption) | assumption)
                     have q384 : x12_3 < (x6_2.length : Int) := of_decide_eq_true (by first | (with_reducible assumption) | assumption)
                     have hpos384_ : 0 < x6_2.length := by omega
                     obtain ⟨ad384, e384, hx384_0⟩ := Kd.at_int (Kd.R_reads' HO_6.out).2.2 x12_3 p384 q384
                     obtain rfl : ad378 = ad384 := (by injection e384)
                     replace p384 := eq_true p384
                     replace q384 := eq_true q384
                     have p385 : 0 ≤ (x12_3 : Int) := of_decide_eq_true (by first | (with_reducible assumption) | assumption)
                     have q385 : x12_3 < (x6_2.length : Int) := of_decide_eq_true (by first | (with_reducible assumption) | assumption)
                     have hpos385_ : 0 < x6_2.length := by omega
                     obtain ⟨ad385, e385, hx385_0⟩ := Kd.at_int (Kd.R_reads' HO_6.out).2.2 x12_3 p385 q385
                     obtain rfl : ad378 = ad385 := (by injection e385)
                     replace p385 := eq_true p385
                     replace q385 := eq_true q385
                     try go_wp2
                     replace HO_6 := Az.mk (Kd.R_drew HO_6.out)
                     replace HO_384004 := Az.mk (Kd.R_drew HO_384004.out)
                     replace BK364 := Az.mk (bkD BK364.out)
                     replace BK383 := Az.mk (bkD BK383.out)
                     replace HB := Az.mk (pb1 HB.out)
                     have p386 : 0 ≤ (x12_3 : Int) := of_decide_eq_true (by first | (with_reducible assumption) | assumption)
                     have q386 : x12_3 < (x6_2.length : Int) := of_decide_eq_true (by first | (with_reducible assumption) | assumption)
                     have hpos386_ : 0 < x6_2.length := by omega
                     obtain ⟨ad386, e386, hx386_0⟩ := Kd.at_int (Kd.R_reads' HO_6.out).2.2 x12_3 p386 q386
                     obtain rfl : ad378 = ad386 := (by injection e386)
                     replace p386 := eq_true p386
                     replace q386 := eq_true q386
                     have p387 : 0 ≤ ((ji49) : Int) := of_decide_eq_true (by first | (with_reducible assumption) | assumption)
                     have q387 : (ji49) < (x6_2.length : Int) := of_decide_eq_true (by first | (with_reducible assumption) | assumption)
                     have hpos387_ : 0 < x6_2.length := by omega
                     obtain ⟨ad387, e387, hx387_0⟩ := Kd.at_int (Kd.R_reads' HO_6.out).2.2 (ji49) p387 q387
                     obtain rfl : ad378 = ad387 := (by injection e387)
                     replace p387 := eq_true p387
                     replace q387 := eq_true q387
                     refine start_ (n := 16) (S := fun w' => w'.cell? ⟨gb383, 0, none⟩ = some (.int .i64 (rd x6_2 0)) ∧ w'.cell? ⟨gb383, 1, none⟩ = some (.string (rdOf ByteArray.empty t365 1)) ∧ w'.cell? ⟨gb383, 2, none⟩ = some (.string (rdOf ByteArray.empty t365 2)) ∧ w'.cell? ⟨gb383, 3, none⟩ = some (.int .i64 (rd x6_2 3)) ∧ w'.cell? ⟨gb383, 4, none⟩ = some (u384004) ∧ w'.cell? ⟨gb383, 5, none⟩ = some (.int .i64 (rd x6_2 4)) ∧ w'.cell? (ad378.add (x12_3).toNat) = some (.int .i64 (rd x6_2 x12_3)) ∧ w'.cell? (ad378.add ((ji49)).toNat) = some (.int .i64 (rd x6_2 (ji49)))) (ds := [13, 15]) #[false, false, false, false, false, false, false, false, false, false, false, false, false, false, false, false] (by kernel_rfl) rfl rfl ⟨(bkC BK383.out 0).trans rfl, (bkC BK383.out 1).trans rfl, (bkC BK383.out 2).trans rfl, (bkC BK383.out 3).trans rfl, (bkC BK383.out 4).trans rfl, (bkC BK383.out 5).trans rfl, hx386_0, hx387_0⟩ (fun hHeld => ?_); refine with_tabW r06_Parse.tab21 r06_Parse.bits21 (fun HT_ HW_ => ?_)
                     generalize wr.drew = w53 at HO_6 HO_384004 BK364 BK383 HB hx386_0 hx387_0 hHeld ⊢
                     refine pure_ (i := 0) (N := some 96) (v := ?_) (a' := ?_) #[true, false, false, false, false, false, false, false, false, false, false, false, false, false, false, false] rfl rfl (any_of HT_.out (by kernel_rfl)) (fun _ _ _ h => h) (Or.inl ⟨by rfl, ?_⟩) ?_ ?_
                     rotate_left
                     ·intro w'
                      go_simp
                      with_reducible rfl
                     rotate_left
                     ·simp only [Act.put, List.setIfInBounds_toArray, List.set_cons_zero, List.set_cons_succ, i64_w, i32_w]
                      rfl
                     refine pure_ (i := 2) (N := some 98) (v := ?_) (a' := ?_) #[true, false, true, false, false, false, false, false, false, false, false, false, false, false, false, false] rfl rfl (any_of HT_.out (by kernel_rfl)) (fun _ _ _ h => h) (Or.inl ⟨by rfl, ?_⟩) ?_ ?_
                     rotate_left
                     ·intro w'
                      go_simp
                      with_reducible rfl
                     rotate_left
                     ·simp only [Act.put, List.setIfInBounds_toArray, List.set_cons_zero, List.set_cons_succ, i64_w, i32_w]
                      rfl
                     refine pure_ (i := 3) (N := some 99) (v := ?_) (a' := ?_) #[true, false, true, true, false, false, false, false, false, false, false, false, false, false, false, false] rfl rfl (any_of HT_.out (by kernel_rfl)) (fun _ _ _ h => h) (Or.inl ⟨by rfl, ?_⟩) ?_ ?_
                     rotate_left
                     ·intro w'
                      go_simp
                      with_reducible rfl
                     rotate_left
                     ·simp only [Act.put, List.setIfInBounds_toArray, List.set_cons_zero, List.set_cons_succ, i64_w, i32_w]
                      rfl
                     refine pure_ (i := 4) (N := some 100) (v := ?_) (a' := ?_) #[true, false, true, true, true, false, false, false, false, false, false, false, false, false, false, false] rfl rfl (any_of HT_.out (by kernel_rfl)) (fun _ _ _ h => h) (Or.inl ⟨by rfl, ?_⟩) ?_ ?_
                     rotate_left
                     ·intro w'
                      go_simp
                      with_reducible rfl
                     rotate_left
                     ·simp only [Act.put, List.setIfInBounds_toArray, List.set_cons_zero, List.set_cons_succ, i64_w, i32_w]
                      rfl
                     refine pure_ (i := 6) (N := some 102) (v := ?_) (a' := ?_) #[true, false, true, true, true, false, true, false, false, false, false, false, false, false, false, false] rfl rfl (any_of HT_.out (by kernel_rfl)) (fun _ _ _ h => h) (Or.inl ⟨by rfl, ?_⟩) ?_ ?_
                     rotate_left
                     ·intro w'
                      go_simp
                      with_reducible rfl
                     rotate_left
                     ·simp only [Act.put, List.setIfInBounds_toArray, List.set_cons_zero, List.set_cons_succ, i64_w, i32_w]
                      rfl
                     refine pure_ (i := 7) (N := some 103) (v := ?_) (a' := ?_) #[true, false, true, true, true, false, true, true, false, false, false, false, false, false, false, false] rfl rfl (any_of HT_.out (by kernel_rfl)) (fun _ _ _ h => h) (Or.inl ⟨by rfl, ?_⟩) ?_ ?_
                     rotate_left
                     ·intro w'
                      go_simp
                      with_reducible rfl
                     rotate_left
                     ·simp only [Act.put, List.setIfInBounds_toArray, List.set_cons_zero, List.set_cons_succ, i64_w, i32_w]
                      rfl
                     refine pure_ (i := 8) (N := some 104) (v := ?_) (a' := ?_) #[true, false, true, true, true, false, true, true, true, false, false, false, false, false, false, false] rfl rfl (any_of HT_.out (by kernel_rfl)) (fun _ _ _ h => h) (Or.inl ⟨by rfl, ?_⟩) ?_ ?_
                     rotate_left
                     ·intro w'
                      go_simp
                      with_reducible rfl
                     rotate_left
                     ·simp only [Act.put, List.setIfInBounds_toArray, List.set_cons_zero, List.set_cons_succ, i64_w, i32_w]
                      rfl
                     refine pure_ (i := 9) (N := some 105) (v := ?_) (a' := ?_) #[true, false, true, true, true, false, true, true, true, true, false, false, false, false, false, false] rfl rfl (any_of HT_.out (by kernel_rfl)) (fun _ _ _ h => h) (Or.inl ⟨by rfl, ?_⟩) ?_ ?_
                     rotate_left
                     ·intro w'
                      go_simp
                      with_reducible rfl
                     rotate_left
                     ·simp only [Act.put, List.setIfInBounds_toArray, List.set_cons_zero, List.set_cons_succ, i64_w, i32_w]
                      rfl
                     refine take_ (i := 1) (N := some 97) (v := ?_) (a' := ?_) #[true, true, true, true, true, false, true, true, true, true, false, false, false, false, false, false] rfl rfl (take_ofW HT_.out HW_.out (by kernel_rfl)) (fun _ _ _ h => h) (Or.inl ⟨by rfl, ?_⟩) hHeld ?_ ?_
                     rotate_left
                     ·rintro w' ⟨s0, s1, s2, s3, s4, s5, s6, s7⟩
                      go_simp
                      with_reducible rfl
                     rotate_left
                     ·simp only [Act.put, List.setIfInBounds_toArray, List.set_cons_zero, List.set_cons_succ, i64_w, i32_w]
                      rfl
                     refine take_ (i := 5) (N := some 101) (v := ?_) (a' := ?_) #[true, true, true, true, true, true, true, true, true, true, false, false, false, false, false, false] rfl rfl (take_ofW HT_.out HW_.out (by kernel_rfl)) (fun _ _ _ h => h) (Or.inl ⟨by rfl, ?_⟩) hHeld ?_ ?_
                     rotate_left
                     ·rintro w' ⟨s0, s1, s2, s3, s4, s5, s6, s7⟩
                      go_simp
                      with_reducible rfl
                     rotate_left
                     ·simp only [Act.put, List.setIfInBounds_toArray, List.set_cons_zero, List.set_cons_succ, i64_w, i32_w]
                      rfl
                     refine take_ (i := 10) (N := some 106) (v := ?_) (a' := ?_) #[true, true, true, true, true, true, true, true, true, true, true, false, false, false, false, false] rfl rfl (take_ofW HT_.out HW_.out (by kernel_rfl)) (fun _ _ _ h => h) (Or.inl ⟨by rfl, ?_⟩) hHeld ?_ ?_
                     rotate_left
                     ·rintro w' ⟨s0, s1, s2, s3, s4, s5, s6, s7⟩
                      go_simp
                      with_reducible rfl
                     rotate_left
                     ·simp only [Act.put, List.setIfInBounds_toArray, List.set_cons_zero, List.set_cons_succ, i64_w, i32_w]
                      rfl
                     refine pure_ (i := 11) (N := some 107) (v := ?_) (a' := ?_) #[true, true, true, true, true, true, true, true, true, true, true, true, false, false, false, false] rfl rfl (any_of HT_.out (by kernel_rfl)) (fun _ _ _ h => h) (Or.inl ⟨by rfl, ?_⟩) ?_ ?_
                     rotate_left
                     ·intro w'
                      go_simp
                      with_reducible rfl
                     rotate_left
                     ·simp only [Act.put, List.setIfInBounds_toArray, List.set_cons_zero, List.set_cons_succ, i64_w, i32_w]
                      rfl
                     refine one_ (i := 12) (N := some 108) #[true, true, true, true, true, true, true, true, true, true, true, true, true, false, false, false] rfl rfl (one_of HT_.out (by kernel_rfl)) (by decide) (fun K hK => ?_)
                     refine value_ (w1 := ?_) (v := ?_) (by rfl) rfl ?_ ?_
                     rotate_left 2
                     ·go_simp
                      constructor
                      ·rfl
                      ·rfl
                     refine hK.out _ _ ⟨(bkC (bkA BK383.out _) 0).trans rfl, (bkC (bkA BK383.out _) 1).trans rfl, (bkC (bkA BK383.out _) 2).trans rfl, (bkC (bkA BK383.out _) 3).trans rfl, (bkC (bkA BK383.out _) 4).trans rfl, (bkC (bkA BK383.out _) 5).trans rfl, (World.cell?_alloc_lt _ _ _ (World.block_lt_of_cell? _ _ (hHeld.2.2.2.2.2.2.1))).trans (hHeld.2.2.2.2.2.2.1), (World.cell?_alloc_lt _ _ _ (World.block_lt_of_cell? _ _ (hHeld.2.2.2.2.2.2.2))).trans (hHeld.2.2.2.2.2.2.2)⟩ (fun hHeld => ?_)
                     clear hK K
                     refine norm_ (a' := ?_) ?_ ?_
                     rotate_left
                     ·show Act.put _ (some 108) _ = _
                      simp only [Act.put, List.setIfInBounds_toArray, List.set_cons_zero, List.set_cons_succ, i64_w, i32_w]
                      rfl
                     refine last_ (i := 13) (N := some 109) #[true, true, true, true, true, true, true, true, true, true, true, true, true, true, false, false] rfl rfl (one_of HT_.out (by kernel_rfl)) (by decide) (fun K hK => ?_)
                     refine Kd.R_append_step k30 (w0 := w) w.heap.size (by rfl) (.tmp 97) (.tmp 108) 24 30 (.agg #[(.int .i64 0), (.int .i64 0)]) 16 rfl Tryz.underlying24 info30 rfl (by decide) (by omega) u384004 x384004_3 (⟨rd x6_2 x12_3, rd x6_2 (ji49)⟩ : S30) [.int .i64 (rd x6_2 x12_3), .int .i64 (rd x6_2 (ji49))] (fun k_ => (w.heap.size ≤ k_)) (fun _ => False) rfl rfl ?aP (fun _ hk => hk.elim) ?aF ?aO ?aB ?aS ?aL ?_
                     (case aP => exact k30_mkM _ _ _ (⟨rd x6_2 x12_3, rd x6_2 (ji49)⟩ : S30))
                     (case aB => exact (by exact pbE HB.out))
                     (case aF => exact (fun k_ hk => (Nat.le_trans (pbZ (by exact pbE HB.out)) hk)))
                     (case aO => exact (Kd.R_ext HO_384004.out))
                     (case aS => exact (pbZ (by exact pbE HB.out)))
                     (case aL => have := LMc52.out; omega)
                     intro v389 w54 ho hb hg hat
                     rw [← Ny388.out] at ho
                     replace HO_6 := Az.mk (Kd.R_over' (Kd.R_ext HO_6.out) (Kd.R_typed (Kd.R_ext HO_384004.out)) (by decide) hg)
                     replace BK364 := Az.mk (blk_grown (bk BK364.out) hg (Kd.R_ne HO_384004.out BK364.out (by decide)))
                     replace BK383 := Az.mk (blk_grown (bk BK383.out) hg (Kd.R_ne HO_384004.out BK383.out (by decide)))
                     replace HB := Az.mk (hb)
                     have HO390 := Az.mk (ho)
                     clear HO_384004
                     clear ho hb hg hat
                     obtain ⟨Ao55, co55, eo55⟩ := Kd.R_slice HO390.out
                     (first | subst eo55 | (injection eo55 with f1_ f2_ f3_; have f4_ := f1_.symm; have f5_ := f3_.symm; clear f1_ f2_ f3_; subst f4_; subst f5_))
                     refine hK.out _ _ ?_
                     clear hK K
                     refine norm_ (a' := ?_) ?_ ?_
                     rotate_left
                     ·show Act.put _ (some 109) _ = _
                      simp only [Act.put, List.setIfInBounds_toArray, List.set_cons_zero, List.set_cons_succ, i64_w, i32_w]
                      rfl
                     refine pure_ (i := 14) (N := some 110) (v := ?_) (a' := ?_) #[true, true, true, true, true, true, true, true, true, true, true, true, true, true, true, false] rfl rfl (any_of HT_.out (by kernel_rfl)) (fun _ _ _ h => h) (Or.inl ⟨by rfl, ?_⟩) ?_ ?_
                     rotate_left
                     ·intro w'
                      go_simp
                      with_reducible rfl
                     rotate_left
                     ·simp only [Act.put, List.setIfInBounds_toArray, List.set_cons_zero, List.set_cons_succ, i64_w, i32_w]
                      rfl
                     refine last_ (i := 15) (N := none) #[true, true, true, true, true, true, true, true, true, true, true, true, true, true, true, true] rfl rfl (one_of HT_.out (by kernel_rfl)) (by decide) (fun K hK => ?_)
                     have hs56 : w54.cell? ⟨gb383, 4, none⟩ = some (u384004) := (bkC BK383.out 4).trans rfl
                     have hfs56 := bkF BK383.out 4
                     have hns56_0 := NB364_383.out
                     have hms56_0 := NB383_364.out
                     refine skip_ (w1 := ?_) (by rfl) rfl ?_ ?_
                     rotate_left
                     ·go_simp
                      rfl
                     refine hK.out _ _ ?_
                     clear hK K
                     refine done_ (done_of HT_.out (by kernel_rfl)) ?_
                     try go_wp2
                     go_roundg k3
                     case measure => have := HJ2.out; have := HK2.out; have := HK3.out; omega
                     case rel => exact ⟨(wrap64 (x12_3 + 2)), (x365000_3), (x365001_3), (x365002_3), (x365003_3), (x365005_3), (y388), (.slice Ao55 y388.length co55), (by first | rfl | (simp; done) | (simp [*]; done)), H', ⟨by have := HJ2.out; have := HK2.out; have := HK3.out; omega⟩, ⟨by (with_reducible repeat (first | apply Kd.R_alloc | apply Kd.R_drewN | apply Kd.R_drew)); exact Kd.R_mono (Kd.R_far (p := ⟨gb383, 4, none⟩) (Kd.R_types HO_6.out BK383.out (by decide)) (fun _ hk => hk.2) (.slice Ao55 y388.length co55)) (fun _ hk => hk.1)⟩, ⟨by (with_reducible repeat (first | apply Kd.R_alloc | apply Kd.R_drewN | apply Kd.R_drew)); exact Kd.R_mono (Kd.R_far (p := ⟨gb383, 4, none⟩) (Kd.R_types HO390.out BK383.out (by decide)) (fun _ hk => hk.2) (.slice Ao55 y388.length co55)) (fun _ hk => hk.1)⟩, ⟨by exact bf BK364.out⟩, ⟨by refine bk ?_; refine blk_put (cs := #[.int .i64 (rd x6_2 0), .string (rdOf ByteArray.empty t365 1), .string (rdOf ByteArray.empty t365 2), .int .i64 (rd x6_2 3), u384004, .int .i64 (rd x6_2 4)]) ?_ 4 _ rfl; refine bk ?_; exact BK383.out⟩, ⟨by exact pbE HB.out⟩⟩
                    ·rw [if_neg c52] at H
                     exact absurd H (by simp)
                   ·rw [if_neg c51] at H
                    exact absurd H (by simp)
                  ·rw [if_neg c50] at H
                   exact absurd H (by simp)
               ·rw [if_neg c42] at H
                exact absurd H (by simp)
              ·rw [if_neg c41] at H
               have c41b0 : decide (x12_3 < (x6_2.length : Int)) = false := decide_eq_false c41
               clear c41
               replace H := Option.bind_eq_some_iff.mp H
               obtain ⟨⟨t391, t392, t393, t394, t395, t398, t399⟩, A570, H⟩ := H
               try dsimp only at H
               have A57 := Az.mk A570
               clear A570
               simp only [Option.some.injEq, Prod.mk.injEq] at H
               obtain ⟨rfl, rfl, rfl, rfl, rfl, rfl, rfl⟩ := H
               have hnb58 := NB383_364.out
               have hnc58 := NB364_383.out
               have hcz59 := cells6 BK383.out
               obtain ⟨Ao60, co60, eo60⟩ := Kd.R_slice HO_384004.out
               subst eo60
               go_wp2_with (first | ((with_reducible refine gtc (f := 33) rfl ?_); refine goesL_ (some 112) rfl rfl Tryz.func33 (by kernel_rfl) rfl #[.agg #[.int .i64 (rd x6_2 0), .string (rdOf ByteArray.empty t365 1), .string (rdOf ByteArray.empty t365 2), .int .i64 (rd x6_2 3), .slice Ao60 x384004_3.length co60, .int .i64 (rd x6_2 4)]] rfl (by (try simp only [List.map_toArray, List.map_cons, List.map_nil]); first | done | rfl | (simp only [List.length_drop, List.length_take]; rfl)) ?_; (with_reducible refine (r06_right.calls k3 (rd x6_2 0) (rdOf ByteArray.empty t365 1) (rdOf ByteArray.empty t365 2) (rd x6_2 3) (fun k_ => some k_ = (.slice Ao60 x384004_3.length co60 : Value).ownBlock) _ _ x384004_3 (rd x6_2 4) t391 t392 t393 t394 t395 t398 t399 _ ?side1 ?side2 A57.out).mono ?_); (case side1 => exact hG.below (by exact pbE HB.out)); (case side2 => exact Kd.R_V (Kd.R_tight rfl (Kd.R_types (Kd.R_types (Kd.R_apart' (HO_384004.out) (Kd.R_typed HO_6.out) (by decide)) BK364.out (by decide)) BK383.out (by decide)))); rintro e w61 ⟨v396, rfl, ho0, hb⟩; refine ⟨_, rfl, ?_⟩; have HO397 := Az.mk (Kd.V_lower (Kd.V_mono (ok' := fun k_ => (w.heap.size ≤ k_) ∧ some k_ ≠ (.slice (some ad378) x6_2.length co33 : Value).ownBlock ∧ k_ ≠ gb364 ∧ k_ ≠ gb383) ho0 (fun k_ hk_ => ⟨Or.elim hk_ (fun hs_ => ((Kd.R_types (Kd.R_types (Kd.R_apart' (HO_384004.out) (Kd.R_typed HO_6.out) (by decide)) BK364.out (by decide)) BK383.out (by decide)).1 k_ hs_.symm).1.1.1) (fun hn_ => (Nat.le_trans (pbZ (by exact pbE HB.out)) hn_)), Or.elim hk_ (fun hs_ => ((Kd.R_types (Kd.R_types (Kd.R_apart' (HO_384004.out) (Kd.R_typed HO_6.out) (by decide)) BK364.out (by decide)) BK383.out (by decide)).1 k_ hs_.symm).1.1.2) (fun hn_ => (Kd.fresh' (Kd.R_lt (Kd.R_ext HO_6.out)) k_ hn_)), Or.elim hk_ (fun hs_ => ((Kd.R_types (Kd.R_types (Kd.R_apart' (HO_384004.out) (Kd.R_typed HO_6.out) (by decide)) BK364.out (by decide)) BK383.out (by decide)).1 k_ hs_.symm).1.2) (fun hn_ => (Kd.freshB (bk BK364.out) k_ hn_)), Or.elim hk_ (fun hs_ => ((Kd.R_types (Kd.R_types (Kd.R_apart' (HO_384004.out) (Kd.R_typed HO_6.out) (by decide)) BK364.out (by decide)) BK383.out (by decide)).1 k_ hs_.symm).2) (fun hn_ => (Kd.freshB (bk BK383.out) k_ hn_))⟩)) (pbZ (by exact pbE HB.out))); replace HO_6 := Az.mk (Kd.R_below (Kd.R_ext HO_6.out) hb); replace HO_384004 := Az.mk (Kd.R_below (Kd.R_ext HO_384004.out) hb); replace BK364 := Az.mk (bkB (bk BK364.out) hb); replace BK383 := Az.mk (bkB (bk BK383.out) hb); replace HB := Az.mk (pbT (by exact pbE HB.out) hb); (try clear hb); (try clear hb2); (try clear hk); (try clear hi); (try clear ho0); have hcz62 := cells6 BK364.out; obtain ⟨Ao63, co63, eo63⟩ := Kd.V_slice HO397.out; subst eo63))
               refine bodyPost_ret (results_ct rfl _ _ gb364 26 #[.int .i64 t391, .string t392, .string t393, .int .i64 t394, .slice Ao63 t395.length co63, .int .i64 t398] (0, 0) _ rfl (by refine bk ?_; refine blk_put (cs := #[.int .i64 t391, .string t392, .string t393, .int .i64 t394, .slice Ao63 t395.length co63, .int .i64 x365005_3]) ?_ 5 _ rfl; refine bk ?_; refine blk_put (cs := #[.int .i64 t391, .string t392, .string t393, .int .i64 t394, .slice none 0 0, .int .i64 x365005_3]) ?_ 4 _ rfl; refine bk ?_; refine blk_put (cs := #[.int .i64 t391, .string t392, .string t393, .int .i64 x365003_3, .slice none 0 0, .int .i64 x365005_3]) ?_ 3 _ rfl; refine bk ?_; refine blk_put (cs := #[.int .i64 t391, .string t392, .string x365002_3, .int .i64 x365003_3, .slice none 0 0, .int .i64 x365005_3]) ?_ 2 _ rfl; refine bk ?_; refine blk_put (cs := #[.int .i64 t391, .string x365001_3, .string x365002_3, .int .i64 x365003_3, .slice none 0 0, .int .i64 x365005_3]) ?_ 1 _ rfl; refine bk ?_; refine blk_put (cs := #[.int .i64 x365000_3, .string x365001_3, .string x365002_3, .int .i64 x365003_3, .slice none 0 0, .int .i64 x365005_3]) ?_ 0 _ rfl; refine bk ?_; exact BK364.out) Tryz.underlying26 rfl (by kernel_rfl)) rfl ?_
               exact ⟨_, by first | rfl | (simp [errW_none, errW_some] <;> rfl) | (simp [*, errW_none, errW_some] <;> rfl), by (with_reducible repeat (first | apply Kd.V_alloc | apply Kd.V_drewN | apply Kd.V_drew)); exact Kd.V_mono (Kd.V_off (g := gb364) (fun _ hk => hk.2) (Kd.V_mono HO397.out (fun k_ hk => (⟨hk, hk.2.2.1⟩ : _ ∧ k_ ≠ gb364)))) (fun _ hk => hk.1.1), by exact pbE HB.out⟩
           ·rw [if_neg c30] at H
            exact absurd H (by simp)
          ·rw [if_neg c29] at H
           exact absurd H (by simp)
         ·rw [if_neg c28] at H
          exact absurd H (by simp)
        ·rw [if_neg c27] at H
         exact absurd H (by simp)
       ·rw [if_neg c26] at H
        exact absurd H (by simp)
end Go.Proofs.YtjfhcijjjadhbaaGreatDoor.P
end
section
namespace Go.Proofs.YtjfhcijjjadhbaaGreatDoor.V
open Go.RowKit Go.Proofs.YtjfhcijjjadhbaaGreatDoorW.PrintWords Go.Proofs.YtjfhcijjjadhbaaGreatDoorW.PrintLast Go.Proofs.YtjfhcijjjadhbaaGreatDoorW.PrintMore Go.Proofs.YtjfhcijjjadhbaaGreatDoor.P Go.Proofs.YtjfhcijjjadhbaaGreatDoor.K Go.Proofs.YtjfhcijjjadhbaaGreatDoor.A
theorem rput_ev {id : Int} {fr tu : ByteArray} {gen : Int} {l : List S30} {nx : Int} (hm : l.length ≤ 1000000000) (hi : isI id) (hg : isI gen) (hn : isI nx) (he : isM l) (ht : (tieD (datas (putD id fr tu gen l nx))).length ≤ 140737488355328) :
 Ev (fun k => r06_Put.f k id fr tu gen l nx) (B (tieD (datas (putD id fr tu gen l nx)))) := by
 simp only [r06_Put.f, rnum_eq hi, rnum_eq hg, rnum_eq hn, Option.bind_some]
 have := Ev.upto (F := fun k (s : List ByteArray) i => r06_Put.l0 k s i id fr tu gen l nx) (n := l.length) (G := fun s i => B (tieD (datas (s ++ putM (l.drop i))))) (I := fun s i => s.length ≤ 5 + 2 * i ∧ (tieD (datas (s ++ putM (l.drop i)))).length ≤ 140737488355328)
  (by
   intro s i hi hI ih
   have hdrop : l.drop i = l[i] :: l.drop (i + 1) := List.drop_eq_getElem_cons hi
   have hl : s.length + 2 < 8796093022208 := by omega
   simp only [r06_Put.l0, if_pos (lt_cast hi), if_pos (nn i), wrap_nat (n := i) (by omega), rd_lt hi, rnum_eq (he _ (List.getElem_mem hi)).1, rnum_eq (he _ (List.getElem_mem hi)).2, Option.bind_some, List.length_cons, List.length_nil, Nat.zero_add, Nat.reduceAdd, if_pos hl]
   have e : s ++ putM (l.drop i) = (s ++ [B (Lib.itoa l[i].f0), B (Lib.itoa l[i].f1)]) ++ putM (l.drop (i + 1)) := by rw [hdrop, List.append_assoc]; rfl
   rw [e]
   refine ih _ ⟨by simp; omega, ?_⟩
   rw [← e]; exact hI.2)
  (by
   intro s hI
   have h2 := hI.2
   rw [List.drop_length] at h2 ⊢
   have e : s ++ putM [] = s := by simp [putM]
   rw [e] at h2 ⊢
   simp only [r06_Put.l0, if_neg (Int.lt_irrefl _), rtie h2, Option.bind_some]
   exact Ev.now _) 0 (Nat.zero_le _) [B (Lib.itoa id), fr, tu, B (Lib.itoa gen), B (Lib.itoa nx)] ⟨by simp, by rw [List.drop_zero]; exact ht⟩
 exact this
/-- The numbers, one by one: of the second and the third text there is none. -/
def numsR : Nat → List (List UInt8) → Option (List Int)
 | _, [] => some []
 | i, a :: r => if i = 1 ∨ i = 2 then (numsR (i + 1) r).map (0 :: ·) else match pz a with | some n => (numsR (i + 1) r).map (n :: ·) | none => none
theorem numsR_nums : ∀ (r : List (List UInt8)) (i : Nat), 3 ≤ i → numsR i r = nums r
 | [], _, _ => rfl
 | a :: r, i, h => by
  simp only [numsR, nums, if_neg (show ¬ (i = 1 ∨ i = 2) by omega), numsR_nums r (i + 1) (by omega)]
  cases pz a <;> rfl
theorem rintB (x : List UInt8) : Ev (fun k => r01_Int.f k (B x)) (intA (pz x)) := by
 have := rint_ev (B x)
 rw [B_data] at this
 exact this
def nodeOk (m : S30) : Bool := decide (1 ≤ m.f0 ∧ m.f0 ≤ 7)
theorem isMem_node {nx : Int} : ∀ {l : List S30} {last : Int} {on : Nat → Bool}, isMem nx last on l = true → l.all nodeOk = true
 | [], _, _, _ => rfl
 | m :: r, last, on, h => by
  simp only [isMem] at h
  split at h
  ·rename_i c
   rw [List.all_cons, isMem_node h, Bool.and_true]
   exact decide_eq_true ⟨c.1, c.2.1⟩
  ·cases h
theorem right_node {id : Int} {fr tu : ByteArray} {gen : Int} {l : List S30} {nx : Int} (h : l.all nodeOk = false) : rightR id fr tu gen l nx = badD := by
 unfold rightR
 rw [if_neg]
 intro hk
 unfold okD okM at hk
 simp only [Bool.and_eq_true] at hk
 have hk := hk.2.2.2.2
 split at hk
 ·cases hk
 ·rw [isMem_node hk] at h; cases h
theorem rparse_tail {id : Int} {fr tu : ByteArray} {gen nx : Int} : ∀ (q p : List Int) (acc : List S30), q.length % 2 = 0 → 5 ≤ p.length → acc.length ≤ p.length ∧ p.length + q.length ≤ 100000 → acc.all nodeOk = true →
 Ev (fun k => r06_Parse.l1 k (p ++ q) (p.length : Int) id fr tu gen acc nx) (rightR id fr tu gen (acc ++ pairsOf q) nx)
 | [], p, acc, _, hp, hl, ha => by
  refine Ev.shift ?_
  simp only [r06_Parse.l1, List.append_nil, if_neg (Int.lt_irrefl _), pairsOf]
  refine Ev.bind (rright_ev (by simp only [List.length_nil] at hl; omega)) ?_
  exact Ev.now _
 | [x], p, acc, h, _, _, _ => by simp at h
 | x :: y :: q, p, acc, h, hp, hl, ha => by
  simp only [List.length_cons] at hl h
  have e1 : (p ++ x :: y :: q).length = p.length + (q.length + 2) := by simp
  have g0 : rd (p ++ x :: y :: q) (p.length : Int) = x := by simp [rd]
  have g1 : rd (p ++ x :: y :: q) ((p.length + 1 : Nat) : Int) = y := by simp [rd]
  refine Ev.shift ?_
  have hb : x < 1 ∨ 7 < x → rightR id fr tu gen (acc ++ pairsOf (x :: y :: q)) nx = badD := by
   intro hx
   refine right_node ?_
   rw [List.all_append, ha, Bool.true_and, pairsOf, List.all_cons]
   have : nodeOk ⟨x, y⟩ = false := decide_eq_false (by simp only; omega)
   rw [this, Bool.false_and]
  simp only [r06_Parse.l1, e1, if_pos (show ((p.length : Int)) < ((p.length + (q.length + 2) : Nat) : Int) by omega), if_pos (nn p.length), g0, wrap_nat (n := p.length) (by omega), wrap_nat2 (n := p.length) (by omega), if_pos (nn (p.length + 1)), g1, if_pos (show ((p.length + 1 : Nat) : Int) < ((p.length + (q.length + 2) : Nat) : Int) by omega), if_pos (show acc.length < 8796093022208 by omega)]
  refine Ev.ite (fun c => ?_) (fun c1 => Ev.ite (fun c => ?_) (fun c2 => ?_))
  ·rw [hb (.inl c)]; exact Ev.now _
  ·rw [hb (.inr c)]; exact Ev.now _
  ·have := rparse_tail (id := id) (fr := fr) (tu := tu) (gen := gen) (nx := nx) q (p ++ [x, y]) (acc ++ [⟨x, y⟩]) (by omega) (by simp; omega) (by constructor <;> (simp only [List.length_append, List.length_cons, List.length_nil]; omega)) (by
    rw [List.all_append, ha, Bool.true_and, List.all_cons, List.all_nil, Bool.and_true]
    exact decide_eq_true (by simp only; omega))
   rw [List.append_assoc, List.append_assoc, show (p ++ [x, y]).length = p.length + 2 by simp] at this
   exact this
theorem rparse_ev (s : ByteArray) : Ev (fun k => r06_Parse.f k s) (parseR s) := by
 have hbad : ∀ l, Ev (fun k => r06_Parse.j0 k l true) badD := by
  intro l
  refine Ev.shift ?_
  simp only [r06_Parse.j0, if_true]
  exact Ev.now _
 refine Ev.bind (runtie_ev s) ?_
 unfold untieR parseR
 cases hu : untieL s.data.toList with
 | none => exact Ev.ite (fun h => absurd h (by decide)) (fun _ => hbad _)
 | some ss =>
  obtain ⟨h1, h2, h3⟩ := untieL_some hu
  simp only [List.length_map]
  refine Ev.ite (fun _ => ?_) (fun h => absurd trivial h)
  by_cases h7 : ss.length < 7 ∨ ss.length % 2 = 0
  ·have e : parseL ss = badD := by
    rcases ss with _ | ⟨a, _ | ⟨f, _ | ⟨t, r⟩⟩⟩
    ·rfl
    ·rfl
    ·rfl
    ·simp only [parseL]
     split
     ·rfl
     ·rename_i hr2
      cases hq : nums (a :: r) with
      | none => rfl
      | some ns =>
       obtain ⟨en, _⟩ := nums_some hq
       have hl := congrArg List.length en
       simp only [List.length_cons, List.length_map] at hl h7
       rcases ns with _ | ⟨id, _ | ⟨gen, _ | ⟨nx, q⟩⟩⟩
       ·rfl
       ·rfl
       ·rfl
       ·simp only [parseN]
        split
        ·rfl
        ·rename_i ho
         simp only [List.length_cons] at hl
         obtain rfl : q = [] := by
          rcases q with _ | ⟨x, _ | ⟨y, q⟩⟩
          ·rfl
          ·simp at ho
          ·simp only [List.length_cons] at hl ho
           rcases h7 with h | h
           ·omega
           ·omega
         unfold rightR
         rw [if_neg]
         intro hk
         have := (okD_len hk).1
         simp [pairsOf] at this
   simp only [e]
   refine Ev.ite (fun _ => hbad _) (fun c => ?_)
   rw [show (((ss.length : Int) % 2) == 0) = true by rw [beq_iff_eq]; omega]
   exact hbad _
  ·obtain ⟨a, f, t, r, rfl⟩ : ∃ a f t r, ss = a :: f :: t :: r := by
    rcases ss with _ | ⟨a, _ | ⟨f, _ | ⟨t, r⟩⟩⟩
    ·simp at h7
    ·simp at h7
    ·simp at h7
    ·exact ⟨_, _, _, _, rfl⟩
   simp only [List.length_cons] at h7 h2
   have e7 : ¬ (((a :: f :: t :: r).length : Int) < 7) := by simp only [List.length_cons]; omega
   have e2 : ((((a :: f :: t :: r).length : Int) % 2) == 0) = false := by rw [beq_eq_false_iff_ne]; simp only [List.length_cons]; omega
   simp only [if_neg e7, e2]
   refine Ev.shift ?_
   simp only [r06_Parse.j0, Bool.false_eq_true, if_false, parseL, if_neg (show ¬ r.length < 2 by omega)]
   have hloop : ∀ (r2 : List (List UInt8)) (d : List (List UInt8)) (n : List Int), d ++ r2 = a :: f :: t :: r → n.length = d.length →
    Ev (fun k => r06_Parse.l0 k ((a :: f :: t :: r).map B) n (d.length : Int)) (match numsR d.length r2 with
     | none => badD
     | some ns => match n ++ ns with
      | id :: _ :: _ :: gen :: nx :: q => rightR id (B f) (B t) gen (pairsOf q) nx
      | _ => badD) := by
    intro r2
    induction r2 with
    | nil =>
     intro d n hd hn
     rw [List.append_nil] at hd
     subst hd
     obtain ⟨id, z1, z2, gen, nx, q, rfl⟩ : ∃ id z1 z2 gen nx q, n = id :: z1 :: z2 :: gen :: nx :: q := by
      simp only [List.length_cons] at hn
      rcases n with _ | ⟨id, _ | ⟨z1, _ | ⟨z2, _ | ⟨gen, _ | ⟨nx, q⟩⟩⟩⟩⟩
      all_goals first | exact ⟨_, _, _, _, _, _, rfl⟩ | (simp only [List.length_cons, List.length_nil] at hn; omega)
     simp only [List.length_cons] at hn
     refine Ev.shift ?_
     have el : (((a :: f :: t :: r).map B).length : Int) = (((a :: f :: t :: r).length : Nat) : Int) := by rw [List.length_map]
     have d1 : (0 : Int) < ((id :: z1 :: z2 :: gen :: nx :: q).length : Int) := by simp only [List.length_cons]; omega
     have d2 : (1 : Int) < (((a :: f :: t :: r).map B).length : Int) := by rw [List.length_map]; simp only [List.length_cons]; omega
     have d3 : (2 : Int) < (((a :: f :: t :: r).map B).length : Int) := by rw [List.length_map]; simp only [List.length_cons]; omega
     have d4 : (3 : Int) < ((id :: z1 :: z2 :: gen :: nx :: q).length : Int) := by simp only [List.length_cons]; omega
     have d5 : (4 : Int) < ((id :: z1 :: z2 :: gen :: nx :: q).length : Int) := by simp only [List.length_cons]; omega
     have g0 : rd (id :: z1 :: z2 :: gen :: nx :: q) 0 = id := rfl
     have g1 : rd (id :: z1 :: z2 :: gen :: nx :: q) 3 = gen := rfl
     have g2 : rd (id :: z1 :: z2 :: gen :: nx :: q) 4 = nx := rfl
     have g3 : rdOf ByteArray.empty ((a :: f :: t :: r).map B) 1 = B f := rfl
     have g4 : rdOf ByteArray.empty ((a :: f :: t :: r).map B) 2 = B t := rfl
     simp only [r06_Parse.l0, if_pos d1, if_pos d2, if_pos d3, if_pos d4, if_pos d5, g0, g1, g2, g3, g4, numsR, List.append_nil, if_neg (show ¬ (((a :: f :: t :: r).length : Int) < (((a :: f :: t :: r).map B).length : Int)) by rw [el]; omega)]
     have := rparse_tail (id := id) (fr := B f) (tu := B t) (gen := gen) (nx := nx) q [id, z1, z2, gen, nx] [] (by omega) (by simp) (by constructor <;> (simp only [List.length_cons, List.length_nil]; omega)) rfl
     exact this
    | cons x r2 ih =>
     intro d n hd hn
     have hlen := congrArg List.length hd
     simp only [List.length_append, List.length_cons] at hlen
     have hx : rdOf ByteArray.empty ((a :: f :: t :: r).map B) (d.length : Int) = B x := rd_B (by rw [← hd]; simp)
     have hlt : (d.length : Int) < (((a :: f :: t :: r).map B).length : Int) := by rw [List.length_map]; simp only [List.length_cons]; omega
     have hnl : n.length < 17592186044416 := by omega
     have hd2 : (d ++ [x]) ++ r2 = a :: f :: t :: r := by rw [List.append_assoc]; exact hd
     have el2 : (d ++ [x]).length = d.length + 1 := by simp
     have hz : Ev (fun k => r06_Parse.j2 k ((a :: f :: t :: r).map B) n (d.length : Int) 0 false) (match (numsR (d.length + 1) r2).map (0 :: ·) with
      | none => badD
      | some ns => match n ++ ns with
       | id :: _ :: _ :: gen :: nx :: q => rightR id (B f) (B t) gen (pairsOf q) nx
       | _ => badD) := by
      have h := ih (d ++ [x]) (n ++ [0]) hd2 (by simp [hn])
      refine Ev.shift ?_
      simp only [r06_Parse.j2, Bool.false_eq_true, if_false, if_pos hnl, wrap_nat (n := d.length) (by omega)]
      rw [el2] at h
      cases hq : numsR (d.length + 1) r2 with
      | none => rw [hq] at h; exact h
      | some ns => rw [hq] at h; simp only [List.append_assoc, List.cons_append, List.nil_append] at h; exact h
     refine Ev.shift ?_
     simp only [r06_Parse.l0, if_pos hlt, numsR]
     refine Ev.ite (fun c => ?_) (fun c => ?_)
     ·rw [if_pos (show d.length = 1 ∨ d.length = 2 by omega)]; exact hz
     ·by_cases c2 : d.length = 2
      ·rw [show ((d.length : Int) != 2) = false by simp; omega, if_pos (show d.length = 1 ∨ d.length = 2 by omega)]; exact hz
      ·rw [show ((d.length : Int) != 2) = true by simp; omega, if_neg (show ¬ (d.length = 1 ∨ d.length = 2) by omega)]
       refine Ev.shift ?_
       simp only [r06_Parse.j2, if_true, if_pos (nn d.length), if_pos hlt, hx]
       refine Ev.bind (rintB x) ?_
       cases hp : pz x with
       | none => exact Ev.ite (fun h => absurd h (by decide)) (fun _ => Ev.now _)
       | some v =>
        refine Ev.ite (fun _ => ?_) (fun h => absurd rfl h)
        have h := ih (d ++ [x]) (n ++ [v]) hd2 (by simp [hn])
        simp only [if_pos hnl, wrap_nat (n := d.length) (by omega), intA]
        rw [el2] at h
        cases hq : numsR (d.length + 1) r2 with
        | none => rw [hq] at h; exact h
        | some ns => rw [hq] at h; simp only [List.append_assoc, List.cons_append, List.nil_append] at h; exact h
   have h := hloop (a :: f :: t :: r) [] [] rfl rfl
   have e : (match numsR 0 (a :: f :: t :: r) with
    | none => badD
    | some ns => match ([] : List Int) ++ ns with
     | id :: _ :: _ :: gen :: nx :: q => rightR id (B f) (B t) gen (pairsOf q) nx
     | _ => badD) = parseN f t (nums (a :: r)) := by
    have n0 : numsR 0 (a :: f :: t :: r) = match pz a with | some n => (((nums r).map (0 :: ·)).map (0 :: ·)).map (n :: ·) | none => none := by rw [← numsR_nums r 3 (Nat.le_refl _)]; rfl
    rw [n0]
    simp only [nums]
    cases hp : pz a with
    | none => rfl
    | some v =>
     cases hq : nums r with
     | none => rfl
     | some ns =>
      obtain ⟨en, _⟩ := nums_some hq
      have hl := congrArg List.length en
      simp only [List.length_map] at hl
      rcases ns with _ | ⟨gen, _ | ⟨nx, q⟩⟩
      ·simp only [List.length_nil] at hl; omega
      ·simp only [List.length_cons, List.length_nil] at hl; omega
      ·simp only [List.length_cons] at hl
       simp only [Option.map_some, List.nil_append, parseN]
       rw [if_neg (by omega)]
   rw [← e]
   exact h
end Go.Proofs.YtjfhcijjjadhbaaGreatDoor.V
end
section
namespace Go.Proofs.YtjfhcijjjadhbaaGreatDoor.P
open Go.RowKit Go.Proofs.YtjfhcijjjadhbaaGreatDoor.K Go.Proofs.YtjfhcijjjadhbaaGreatDoorW.PrintWords Go.Proofs.YtjfhcijjjadhbaaGreatDoorW.PrintLast Go.Proofs.YtjfhcijjjadhbaaGreatDoorW.PrintMore
attribute [local go_sem] max2_int min2_int max_two min_two max_three min_three max_four min_four   -- for this text's walks alone
def desc_First.l0 : Nat → List Int → Int → Int → Int → ByteArray → ByteArray → Int → List (S30) → Int → Option (Int × ByteArray × ByteArray × Int × (List (S30)) × Int × Int)
 | 0, _, _, _, _, _, _, _, _, _ => none
 | k + 1, x8, x9, x10, x191000, x191001, x191002, x191003, x191004, x191005 => if x10 < x9 then (if 0 ≤ x10 then (if x10 < (x8.length : Int) then (if x191004.length < 8796093022208 then (desc_First.l0 k x8 x9 (wrap64 (x10 + 1)) x191000 x191001 x191002 x191003 (x191004 ++ [(⟨rd x8 x10, x191005⟩ : S30)]) (wrap64 (x191005 + 1))) else (none)) else (none)) else (none)) else ((desc_right.f x191000 x191001 x191002 x191003 x191004 x191005).bind fun bt195 => (some (bt195.1, bt195.2.1, bt195.2.2.1, bt195.2.2.2.1, bt195.2.2.2.2.1, bt195.2.2.2.2.2.1, bt195.2.2.2.2.2.2)))
def desc_First.f (k : Nat) (l0 : List Int) : Option (Int × ByteArray × ByteArray × Int × (List (S30)) × Int × Int) := desc_First.l0 k l0 (l0.length : Int) 0 1 (⟨#[]⟩ : ByteArray) (⟨#[]⟩ : ByteArray) 1 ([] : List (S30)) 1
theorem desc_First.mono_l : ∀ k, (∀ y0 y1 y2 y3 y4 y5 y6 y7 y8, LeO (desc_First.l0 k y0 y1 y2 y3 y4 y5 y6 y7 y8) (desc_First.l0 (k + 1) y0 y1 y2 y3 y4 y5 y6 y7 y8))
 | 0 => fun _ _ _ _ _ _ _ _ _ r h => by simp [desc_First.l0] at h
 | k + 1 => by
  have ih0 := desc_First.mono_l k
  ·intro y0 y1 y2 y3 y4 y5 y6 y7 y8
   unfold desc_First.l0
   repeat' first
   | (with_reducible exact ih0 _ _ _ _ _ _ _ _ _)
   | (with_reducible exact LeO.refl _)
   | (with_reducible exact LeO.none _)
   | (with_reducible refine LeO.ite ?_ ?_)
   | (with_reducible refine LeO.bind ?_ (fun _ => ?_))
   | exact ih0 _ _ _ _ _ _ _ _ _
   | exact LeO.none _
   | refine LeO.ite ?_ ?_
   | refine LeO.bind ?_ (fun _ => ?_)
theorem desc_First.mono : ∀ a0 k, LeO (desc_First.f k a0) (desc_First.f (k + 1) a0) := by
 intro a0 k
 have ih0 := desc_First.mono_l k
 unfold desc_First.f
 repeat' first
  | (with_reducible exact ih0 _ _ _ _ _ _ _ _ _)
  | (with_reducible exact LeO.refl _)
  | (with_reducible exact LeO.none _)
  | (with_reducible refine LeO.ite ?_ ?_)
  | (with_reducible refine LeO.bind ?_ (fun _ => ?_))
  | exact ih0 _ _ _ _ _ _ _ _ _
  | exact LeO.none _
  | refine LeO.ite ?_ ?_
  | refine LeO.bind ?_ (fun _ => ?_)
set_option maxHeartbeats 8000000 in
set_option maxRecDepth 100000 in
theorem desc_First.calls (k : Nat) (A0 : Option Addr) (c0 : Nat) (l0 : List Int) (r1 : Int) (r2 : ByteArray) (r3 : ByteArray) (r4 : Int) (r5 : List (S30)) (r6 : Int) (r7 : Int) (w : World) (hG : TheG w) (hr0 : Kd.C (Kd.int .i64) w A0 l0.length l0) (hc0 : l0.length ≤ c0) (h : desc_First.f k l0 = some (r1, r2, r3, r4, r5, r6, r7)) :
 Calls Tryz.prog 19 #[.slice A0 l0.length c0] w fun e w' => ∃ v4_ : Value, e = .returned (.tuple #[.agg #[.int .i64 r1, .string r2, .string r3, .int .i64 r4, v4_, .int .i64 r6], .int .i64 r7]) ∧ Kd.V k30 30 w' w.heap.size (fun k_ => (w.heap.size ≤ k_)) v4_ r5 ∧ Below w.heap.size w w' := by
 have hu26 := Tryz.underlying26
 have hu30 := Tryz.underlying30
 have HR0 := Az.mk hr0
 have HC0 := Az.mk hc0
 clear hr0 hc0
 have HB := Az.mk (Below.refl w.heap.size w)
 have H : (desc_First.l0 k l0 (l0.length : Int) 0 1 (⟨#[]⟩ : ByteArray) (⟨#[]⟩ : ByteArray) 1 ([] : List (S30)) 1) = some (r1, r2, r3, r4, r5, r6, r7) := h
 clear h
 have H' := Az.mk H
 clear H
 go_enter Tryz.func19, Tryz.ntmps19
 go_wp2_with (first | ((with_reducible refine gate_dst (N := 2) rfl ?_); refine box_event ?hg (N := 2) ?hd (cs := #[.int .i64 0, .string (⟨#[]⟩ : ByteArray), .string (⟨#[]⟩ : ByteArray), .int .i64 0, .slice none 0 0, .int .i64 0]) (t := 26) ?hr ?_; (case hd => rfl); (case hg => rfl); (case hr => first | (go_simp; done) | (go_simp; rfl)); intro gb189 hg w2 hbox hb; have BK189 := Az.mk (hbox); have GW189 := Az.mk (geO hg (pbE HB.out)); have GE189 := Az.mk (geO hg (pbE HB.out)); replace HB := Az.mk (pbT (by exact pbE HB.out) hb); clear hb hbox hg) | ((with_reducible refine gate_dst (N := 4) rfl ?_); refine box_event ?hg (N := 4) ?hd (cs := #[.int .i64 0, .string (⟨#[]⟩ : ByteArray), .string (⟨#[]⟩ : ByteArray), .int .i64 0, .slice none 0 0, .int .i64 0]) (t := 26) ?hr ?_; (case hd => rfl); (case hg => rfl); (case hr => first | (go_simp; done) | (go_simp; rfl)); intro gb190 hg w3 hbox hb; have BK190 := Az.mk (hbox); have GW190 := Az.mk (geO hg (pbE HB.out)); have GE190 := Az.mk (geO hg (pbE HB.out)); replace HB := Az.mk (pbT (by exact pbE HB.out) hb); have NB189_190 := Az.mk (neO hg (bk BK189.out)); have NB190_189 := Az.mk (neP hg (bk BK189.out)); replace BK189 := Az.mk (bkB (bk BK189.out) hb); clear hb hbox hg; have hnb4 := NB190_189.out; have hnc4 := NB189_190.out; have hcz5 := cells6 BK190.out))
 go_loopg [10] k (fun kq v10 w' => ∃ (x10_1 : Int) (x191004_1 : List (S30)) (x191005_1 : Int) (u191004 : Value), v10 = .int .i64 x10_1 ∧ Az (desc_First.l0 kq l0 (l0.length : Int) x10_1 1 (⟨#[]⟩ : ByteArray) (⟨#[]⟩ : ByteArray) 1 x191004_1 x191005_1 = some (r1, r2, r3, r4, r5, r6, r7)) ∧ Az (kq ≤ k) ∧ Az (Kd.R k30 30 w' w.heap.size (fun k_ => (w.heap.size ≤ k_)) u191004 x191004_1) ∧ Az (w'.heap[gb189]? = some (.cells #[.int .i64 0, .string (⟨#[]⟩ : ByteArray), .string (⟨#[]⟩ : ByteArray), .int .i64 0, (.slice none 0 0), .int .i64 0] 26 (0, 0))) ∧ Az (w'.heap[gb190]? = some (.cells #[.int .i64 1, .string (⟨#[]⟩ : ByteArray), .string (⟨#[]⟩ : ByteArray), .int .i64 1, u191004, .int .i64 x191005_1] 26 (0, 0))) ∧ Az (Below w.heap.size w w'))
 case atStart => exact ⟨(0), (([] : List (S30))), (1), (.slice none 0 0), (by first | rfl | (simp; done) | (simp [*]; done)), H', ⟨Nat.le_refl _⟩, ⟨by first | exact Kd.R_nil _ _ _ _ _ | exact Kd.N_nil _ _ _ _ _ | exact Kd.V_nil _ _ _ _ _ | exact Kd.Q_nil _ _ _ _ _ | exact Kd.S_nil _ _ _ _ _⟩, ⟨by exact bf BK189.out⟩, ⟨by refine bk ?_; refine blk_put (cs := #[.int .i64 1, .string (⟨#[]⟩ : ByteArray), .string (⟨#[]⟩ : ByteArray), .int .i64 1, .slice none 0 0, .int .i64 0]) ?_ 5 _ rfl; refine bk ?_; refine blk_put (cs := #[.int .i64 1, .string (⟨#[]⟩ : ByteArray), .string (⟨#[]⟩ : ByteArray), .int .i64 1, .slice none 0 0, .int .i64 0]) ?_ 4 _ rfl; refine bk ?_; refine blk_put (cs := #[.int .i64 1, .string (⟨#[]⟩ : ByteArray), .string (⟨#[]⟩ : ByteArray), .int .i64 0, .slice none 0 0, .int .i64 0]) ?_ 3 _ rfl; refine bk ?_; refine blk_put (cs := #[.int .i64 1, .string (⟨#[]⟩ : ByteArray), .string (⟨#[]⟩ : ByteArray), .int .i64 0, .slice none 0 0, .int .i64 0]) ?_ 2 _ rfl; refine bk ?_; refine blk_put (cs := #[.int .i64 1, .string (⟨#[]⟩ : ByteArray), .string (⟨#[]⟩ : ByteArray), .int .i64 0, .slice none 0 0, .int .i64 0]) ?_ 1 _ rfl; refine bk ?_; refine blk_put (cs := #[.int .i64 0, .string (⟨#[]⟩ : ByteArray), .string (⟨#[]⟩ : ByteArray), .int .i64 0, .slice none 0 0, .int .i64 0]) ?_ 0 _ rfl; refine bk ?_; exact BK190.out⟩, ⟨by exact pbE HB.out⟩⟩
 case round =>
  clear H'
  try clear c1
  try clear p2
  try clear c4
  try clear hcz5
  obtain ⟨x10_1, x191004_1, x191005_1, u191004, rfl, HA, HK1, HO_191004, BK189, BK190, HB⟩ := hrel
  cases gk with
  | zero => exact absurd HA.out (by simp [desc_First.l0])
  | succ k1 =>
   have H := HA.out
   clear HA
   simp only [desc_First.l0] at H
   by_cases c6 : x10_1 < (l0.length : Int)
   ·rw [if_pos c6] at H
    have c6b0 : decide (x10_1 < (l0.length : Int)) = true := decide_eq_true c6
    clear c6
    by_cases c7 : 0 ≤ x10_1
    ·rw [if_pos c7] at H
     have c7b0 : decide (0 ≤ x10_1) = true := decide_eq_true c7
     clear c7
     by_cases c8 : x10_1 < (l0.length : Int)
     ·rw [if_pos c8] at H
      have c8b0 : decide (x10_1 < (l0.length : Int)) = true := decide_eq_true c8
      clear c8
      by_cases c9 : x191004_1.length < 8796093022208
      ·rw [if_pos c9] at H
       have LMc9 := Az.mk c9
       clear c9
       obtain ⟨y192, hy192⟩ : ∃ y_ : List (S30), y_ = (x191004_1 ++ [(⟨rd l0 x10_1, x191005_1⟩ : S30)]) := ⟨_, rfl⟩
       replace H : (desc_First.l0 k1 l0 (l0.length : Int) (wrap64 (x10_1 + 1)) 1 (⟨#[]⟩ : ByteArray) (⟨#[]⟩ : ByteArray) 1 y192 (wrap64 (x191005_1 + 1))) = some (r1, r2, r3, r4, r5, r6, r7) := by first | (rw [hy192]; with_reducible exact H) | (have H2_ := (Option.bind_some _ _).symm.trans H; rw [hy192]; with_reducible exact H2_) | (have H2_ := (Option.bind_some _ _).symm.trans H; with_reducible exact H2_) | with_reducible exact H | (rw [hy192]; exact H) | exact H
       have Ny192 := Az.mk hy192
       clear hy192
       have H' := Az.mk H
       clear H
       have p191 : 0 ≤ (x10_1 : Int) := of_decide_eq_true (by first | (with_reducible assumption) | assumption)
       have q191 : x10_1 < (l0.length : Int) := of_decide_eq_true (by first | (with_reducible assumption) | assumption)
       obtain ⟨ad191, e191, hx191_0⟩ := Kd.at_int HR0.out x10_1 p191 q191
       cases e191
       replace hx191_0 := (HB.out.cell (World.block_lt_of_cell? w _ hx191_0)).trans hx191_0
       replace p191 := eq_true p191
       replace q191 := eq_true q191
       have hnb10 := NB190_189.out
       have hnc10 := NB189_190.out
       have hcz11 := cells6 BK190.out
       go_wp2_with (first | ((with_reducible refine gate_builtin (b := .append) (xs := #[.tmp 15, .tmp 20]) rfl ?_); at_builtin; refine Kd.R_append k30 (w0 := w) w.heap.size rfl (.tmp 15) (.tmp 20) 24 30 (.agg #[(.int .i64 0), (.int .i64 0)]) 16 rfl Tryz.underlying24 info30 rfl (by decide) (by omega) u191004 x191004_1 (⟨rd l0 x10_1, x191005_1⟩ : S30) [.int .i64 (rd l0 x10_1), .int .i64 x191005_1] (fun k_ => (w.heap.size ≤ k_)) (fun _ => False) rfl rfl ?aP (fun _ hk => hk.elim) ?aF ?aO ?aB ?aS ?aL ?_; (case aP => exact k30_mkM _ _ _ (⟨rd l0 x10_1, x191005_1⟩ : S30)); (case aB => exact (by exact pbE HB.out)); (case aF => exact (fun k_ hk => (Nat.le_trans (pbZ (by exact pbE HB.out)) hk))); (case aO => exact (Kd.R_ext HO_191004.out)); (case aS => exact (pbZ (by exact pbE HB.out))); (case aL => have := LMc9.out; omega); intro v193 w12 ho hb hg hat; rw [← Ny192.out] at ho; replace BK189 := Az.mk (blk_grown (bk BK189.out) hg (Kd.R_ne HO_191004.out BK189.out (by decide))); replace BK190 := Az.mk (blk_grown (bk BK190.out) hg (Kd.R_ne HO_191004.out BK190.out (by decide))); replace HB := Az.mk (hb); have HO194 := Az.mk (ho); clear HO_191004; clear ho hb hg hat; obtain ⟨Ao13, co13, eo13⟩ := Kd.R_slice HO194.out; subst eo13; have hcz14 := cells6 BK190.out))
       go_roundg k1
       case measure => have := HK1.out; omega
       case rel => exact ⟨(wrap64 (x10_1 + 1)), (y192), (wrap64 (x191005_1 + 1)), (.slice Ao13 y192.length co13), (by first | rfl | (simp; done) | (simp [*]; done)), H', ⟨by have := HK1.out; omega⟩, ⟨by (with_reducible repeat (first | apply Kd.R_alloc | apply Kd.R_drewN | apply Kd.R_drew)); exact Kd.R_mono (Kd.R_far (p := ⟨gb190, 5, none⟩) (Kd.R_far (p := ⟨gb190, 4, none⟩) (Kd.R_types HO194.out BK190.out (by decide)) (fun _ hk => hk.2) (.slice Ao13 y192.length co13)) (fun _ hk => hk.2) (.int .i64 (wrap64 (x191005_1 + 1)))) (fun _ hk => hk.1)⟩, ⟨by exact bf BK189.out⟩, ⟨by refine bk ?_; refine blk_put (cs := #[.int .i64 1, .string (⟨#[]⟩ : ByteArray), .string (⟨#[]⟩ : ByteArray), .int .i64 1, .slice Ao13 y192.length co13, .int .i64 x191005_1]) ?_ 5 _ rfl; refine bk ?_; refine blk_put (cs := #[.int .i64 1, .string (⟨#[]⟩ : ByteArray), .string (⟨#[]⟩ : ByteArray), .int .i64 1, u191004, .int .i64 x191005_1]) ?_ 4 _ rfl; refine bk ?_; exact BK190.out⟩, ⟨by exact pbE HB.out⟩⟩
      ·rw [if_neg c9] at H
       exact absurd H (by simp)
     ·rw [if_neg c8] at H
      exact absurd H (by simp)
    ·rw [if_neg c7] at H
     exact absurd H (by simp)
   ·rw [if_neg c6] at H
    have c6b0 : decide (x10_1 < (l0.length : Int)) = false := decide_eq_false c6
    clear c6
    replace H := Option.bind_eq_some_iff.mp H
    obtain ⟨⟨t195, t196, t197, t198, t199, t202, t203⟩, A150, H⟩ := H
    try dsimp only at H
    have A15 := Az.mk A150
    clear A150
    simp only [Option.some.injEq, Prod.mk.injEq] at H
    obtain ⟨rfl, rfl, rfl, rfl, rfl, rfl, rfl⟩ := H
    have hnb16 := NB190_189.out
    have hnc16 := NB189_190.out
    have hcz17 := cells6 BK190.out
    obtain ⟨Ao18, co18, eo18⟩ := Kd.R_slice HO_191004.out
    subst eo18
    go_wp2_with (first | ((with_reducible refine gtc (f := 30) rfl ?_); refine goesL_ (some 29) rfl rfl Tryz.func30 (by kernel_rfl) rfl #[.agg #[.int .i64 1, .string (⟨#[]⟩ : ByteArray), .string (⟨#[]⟩ : ByteArray), .int .i64 1, .slice Ao18 x191004_1.length co18, .int .i64 x191005_1]] rfl (by (try simp only [List.map_toArray, List.map_cons, List.map_nil]); first | done | rfl | (simp only [List.length_drop, List.length_take]; rfl)) ?_; (with_reducible refine (desc_right.calls 1 (⟨#[]⟩ : ByteArray) (⟨#[]⟩ : ByteArray) 1 (fun k_ => some k_ = (.slice Ao18 x191004_1.length co18 : Value).ownBlock) _ _ x191004_1 x191005_1 t195 t196 t197 t198 t199 t202 t203 _ ?side1 ?side2 A15.out).mono ?_); (case side1 => exact hG.below (by exact pbE HB.out)); (case side2 => exact Kd.R_V (Kd.R_tight rfl (Kd.R_types (Kd.R_types (HO_191004.out) BK189.out (by decide)) BK190.out (by decide)))); rintro e w19 ⟨v200, rfl, ho0, hb⟩; refine ⟨_, rfl, ?_⟩; have HO201 := Az.mk (Kd.V_lower (Kd.V_mono (ok' := fun k_ => (w.heap.size ≤ k_) ∧ k_ ≠ gb189 ∧ k_ ≠ gb190) ho0 (fun k_ hk_ => ⟨Or.elim hk_ (fun hs_ => ((Kd.R_types (Kd.R_types (HO_191004.out) BK189.out (by decide)) BK190.out (by decide)).1 k_ hs_.symm).1.1) (fun hn_ => (Nat.le_trans (pbZ (by exact pbE HB.out)) hn_)), Or.elim hk_ (fun hs_ => ((Kd.R_types (Kd.R_types (HO_191004.out) BK189.out (by decide)) BK190.out (by decide)).1 k_ hs_.symm).1.2) (fun hn_ => (Kd.freshB (bk BK189.out) k_ hn_)), Or.elim hk_ (fun hs_ => ((Kd.R_types (Kd.R_types (HO_191004.out) BK189.out (by decide)) BK190.out (by decide)).1 k_ hs_.symm).2) (fun hn_ => (Kd.freshB (bk BK190.out) k_ hn_))⟩)) (pbZ (by exact pbE HB.out))); replace HO_191004 := Az.mk (Kd.R_below (Kd.R_ext HO_191004.out) hb); replace BK189 := Az.mk (bkB (bk BK189.out) hb); replace BK190 := Az.mk (bkB (bk BK190.out) hb); replace HB := Az.mk (pbT (by exact pbE HB.out) hb); (try clear hb); (try clear hb2); (try clear hk); (try clear hi); (try clear ho0); have hcz20 := cells6 BK189.out; obtain ⟨Ao21, co21, eo21⟩ := Kd.V_slice HO201.out; subst eo21))
    refine bodyPost_ret (results_ct rfl _ _ gb189 26 #[.int .i64 t195, .string t196, .string t197, .int .i64 t198, .slice Ao21 t199.length co21, .int .i64 t202] (0, 0) _ rfl (by refine bk ?_; refine blk_put (cs := #[.int .i64 t195, .string t196, .string t197, .int .i64 t198, .slice Ao21 t199.length co21, .int .i64 0]) ?_ 5 _ rfl; refine bk ?_; refine blk_put (cs := #[.int .i64 t195, .string t196, .string t197, .int .i64 t198, .slice none 0 0, .int .i64 0]) ?_ 4 _ rfl; refine bk ?_; refine blk_put (cs := #[.int .i64 t195, .string t196, .string t197, .int .i64 0, .slice none 0 0, .int .i64 0]) ?_ 3 _ rfl; refine bk ?_; refine blk_put (cs := #[.int .i64 t195, .string t196, .string (⟨#[]⟩ : ByteArray), .int .i64 0, .slice none 0 0, .int .i64 0]) ?_ 2 _ rfl; refine bk ?_; refine blk_put (cs := #[.int .i64 t195, .string (⟨#[]⟩ : ByteArray), .string (⟨#[]⟩ : ByteArray), .int .i64 0, .slice none 0 0, .int .i64 0]) ?_ 1 _ rfl; refine bk ?_; refine blk_put (cs := #[.int .i64 0, .string (⟨#[]⟩ : ByteArray), .string (⟨#[]⟩ : ByteArray), .int .i64 0, .slice none 0 0, .int .i64 0]) ?_ 0 _ rfl; refine bk ?_; exact BK189.out) Tryz.underlying26 rfl (by kernel_rfl)) rfl ?_
    exact ⟨_, by first | rfl | (simp [errW_none, errW_some] <;> rfl) | (simp [*, errW_none, errW_some] <;> rfl), by (with_reducible repeat (first | apply Kd.V_alloc | apply Kd.V_drewN | apply Kd.V_drew)); exact Kd.V_mono (Kd.V_off (g := gb189) (fun _ hk => hk.2) (Kd.V_mono HO201.out (fun k_ hk => (⟨hk, hk.2.1⟩ : _ ∧ k_ ≠ gb189)))) (fun _ hk => hk.1.1), by exact pbE HB.out⟩
end Go.Proofs.YtjfhcijjjadhbaaGreatDoor.P
end
section
namespace Go.Proofs.YtjfhcijjjadhbaaGreatDoor.K
open Go Go.RowKit Go.Proofs.YtjfhcijjjadhbaaGreatDoorW.PrintWords Go.Proofs.YtjfhcijjjadhbaaGreatDoorW.PrintLast Go.Proofs.YtjfhcijjjadhbaaGreatDoorW.PrintMore
section
variable {P : Program} {α : Type}
/-- A kind whose cells tell all: none of it lies elsewhere. -/
def Flat (d : Kd α) : Prop := ∀ (w w' : World) x c, d.K w x c → d.K w' x c
theorem V_own {d : Kd α} (hf : Flat d) {W W1 : World} {base b2 : Nat} {e : TypeId} {v : Value} {xs : List α} {inner : List Value} (hown : W1.ownsRow base e d.sz v xs.length inner) (hr : Reps (d.K W) d.sz xs inner) (ok : Nat → Prop) (hok : ∀ k, v.ownBlock = some k → ok k) : Kd.V d e W1 b2 ok v xs := by
 obtain ⟨hlen, hown⟩ := hown
 rcases hown with ⟨rfl, h0⟩ | ⟨g, cap, cur, rfl, hg, hheap, hcap, hmax, hsz, htake⟩
 ·obtain rfl : xs = [] := List.eq_nil_of_length_eq_zero h0
  exact ⟨none, 0, rfl, Nat.le_refl _, Kd.F_nil d W1 ok⟩
 ·refine ⟨some ⟨g, 0, none⟩, cap, rfl, hcap, fun W' hW => ?_⟩
  have hlt : g < W1.heap.size := by
   rcases Nat.lt_or_ge g W1.heap.size with h | h
   ·exact h
   ·rw [Array.getElem?_eq_none h] at hheap; cases hheap
  have hh : W'.heap[g]? = some (.cells cur e (0, 0)) := (hW g (hok g rfl) hlt).trans hheap
  have ho : OwnRow (d.K W') e d.sz W' base (.slice (some ⟨g, 0, none⟩) xs.length cap) xs := ⟨inner, ⟨hlen, .inr ⟨g, cap, cur, rfl, hg, hh, hcap, hmax, hsz, htake⟩⟩, hr.imp_ (fun p c hp => hf _ _ _ _ hp)⟩
  obtain ⟨A, c, he, _, hR⟩ := ho.reads
  injection he with h1
  subst h1
  exact hR
theorem F_flat {d : Kd α} {W : World} {ok : Nat → Prop} {A : Option Addr} {n : Nat} {xs : List α} (h : Kd.F d W ok A n xs) : Kd.C d W A n xs := Kd.F_now h
/-- What is read of flat elements is so in every world that has the same blocks. -/
theorem F_of_C {d : Kd α} (hf : Flat d) {W : World} {A : Option Addr} {n : Nat} {xs : List α} (h : Kd.C d W A n xs) : Kd.F d W (fun _ => True) A n xs := by
 intro W' hW
 obtain ⟨h1, h2, h3⟩ := h
 refine ⟨h1, h2, fun hn => ?_⟩
 obtain ⟨ad, e, hc⟩ := h3 hn
 refine ⟨ad, e, fun j p hp => ?_⟩
 obtain ⟨c, hl, hK, hcell⟩ := hc j p hp
 refine ⟨c, hl, hf _ _ _ _ hK, fun i u hu => ?_⟩
 have hold := hcell i u hu
 have hlt : (ad.add (j * d.sz + i)).block < W.heap.size := by
  rcases Nat.lt_or_ge (ad.add (j * d.sz + i)).block W.heap.size with h | h
  ·exact h
  ·simp [World.cell?, Array.getElem?_eq_none h] at hold
 rw [World.cell?_of_block (hW _ trivial hlt)]
 exact hold
theorem V_of_C {d : Kd α} (hf : Flat d) {W : World} {A : Option Addr} {c : Nat} {xs : List α} {e base : Nat} (h : Kd.C d W A xs.length xs) (hc : xs.length ≤ c) : Kd.V d e W base (fun _ => True) (.slice A xs.length c) xs := ⟨A, c, rfl, hc, F_of_C hf h⟩
/-- append(xs[:n:n], ys..): a new row, or, with nothing to append, xs[:n:n] itself. -/
theorem run_app_cut (d : Kd α) (hf : Flat d) (W : World) (t ty e : TypeId) (i : TypeInfo) (z : Value) (bytes : Nat) (ht : P.underlying t = some (.slice e)) (hi : P.info? e = some i) (hz : i.zero = some z) (hsize : i.size = d.sz) (hby : i.bytes = bytes) (hzs : z.cells.size = d.sz) (hsz : 0 < d.sz) (hb0 : 0 < bytes)
 (A : Option Addr) (n : Nat) (xs : List α) (A2 : Option Addr) (m c : Nat) (ys : List α) (ok : Nat → Prop) (base : Nat) (HX : Kd.F d W ok A n xs) (HY : Kd.C d W A2 m ys) (hl : (n + m) * bytes ≤ 140737488355328) :
 ∃ v1 w1, (Builtin.append_ #[t, t] ty #[.slice A n n, .slice A2 m c]).run P W = .ok v1 w1 ∧ Below W.heap.size W w1 ∧ Kd.V d e w1 base (fun k => ok k ∨ W.heap.size ≤ k) v1 (xs ++ ys) := by
 have HX0 := F_flat HX
 have hn : xs.length = n := HX0.1
 have hm : ys.length = m := HY.1
 have hlen : n + m ≤ 140737488355328 := Nat.le_trans (Nat.le_mul_of_pos_right _ hb0) hl
 rcases Nat.eq_zero_or_pos m with h0 | hp
 ·subst h0
  obtain rfl : ys = [] := List.eq_nil_of_length_eq_zero hm
  refine ⟨.slice A n n, W, ?_, Below.refl _ _, ?_⟩
  ·rcases A with _ | ad
   ·have hn0 : n = 0 := by
     rcases Nat.eq_zero_or_pos n with h | h
     ·exact h
     ·obtain ⟨ad, h, _⟩ := HX0.2.2 h; cases h
    subst hn0
    rcases A2 with _ | a2
    ·simp [Builtin.append_, run_underlying ht, sizeOf, typeInfo, hi, Builtin.lenOf, Builtin.firstCells]
    ·simp [Builtin.append_, run_underlying ht, sizeOf, typeInfo, hi, Builtin.lenOf, Builtin.firstCells, loadCells, loadCellsFrom]
   ·rcases A2 with _ | a2
    ·simp [Builtin.append_, run_underlying ht, sizeOf, typeInfo, hi, Builtin.lenOf, Builtin.firstCells, storeCells]
    ·simp [Builtin.append_, run_underlying ht, sizeOf, typeInfo, hi, Builtin.lenOf, Builtin.firstCells, storeCells, loadCells, loadCellsFrom]
  ·rw [List.append_nil]
   subst hn
   exact ⟨A, xs.length, rfl, Nat.le_refl _, Kd.F_mono HX (fun k hk => .inl hk)⟩
 ·obtain ⟨a2, rfl, _⟩ := HY.2.2 hp
  obtain ⟨news, hnr, hnc⟩ := ReadsRow.inner_ HY
  have hone : ∀ u ∈ news, u.oneCell' = true := by
   intro u hu
   obtain ⟨q, hq, rfl⟩ := List.mem_iff_getElem.1 hu
   have hql : q / d.sz < ys.length := by rw [Nat.div_lt_iff_lt_mul hsz, ← hnr.1]; exact hq
   have hc := hnr.2 (q / d.sz) _ (List.getElem?_eq_getElem hql)
   refine d.K_one hc _ ?_
   rw [List.mem_iff_getElem?]
   refine ⟨q % d.sz, ?_⟩
   rw [List.getElem?_take, if_pos (Nat.mod_lt _ hsz), List.getElem?_drop, Nat.mul_comm, Nat.div_add_mod, List.getElem?_eq_getElem hq]
  have hnl : news.length = m * d.sz := by rw [hnr.1, hm]
  have fin : ∀ (olds : List Value) v1 w1, Reps (d.K W) d.sz xs olds → w1.ownsRow W.heap.size e d.sz v1 (n + m) (olds ++ news) → W.grownBy w1 none → Below W.heap.size W w1 ∧ Kd.V d e w1 base (fun k => ok k ∨ W.heap.size ≤ k) v1 (xs ++ ys) := by
   intro olds v1 w1 hxr hown hg
   refine ⟨⟨hg.os, hg.tape, hg.output, hg.size, fun k hk => hg.block k hk (by simp)⟩, V_own hf (xs := xs ++ ys) (by rw [List.length_append, hn, hm]; exact hown) (Kd.reps_append hxr hnr) _ (fun k hk => .inr ?_)⟩
   rcases hown.2 with ⟨rfl, h⟩ | ⟨g, cap, cur, rfl, hgb, _⟩
   ·omega
   ·have : g = k := by simpa [Value.ownBlock] using hk
    omega
  rcases A with _ | ad
  ·have hn0 : n = 0 := by
    rcases Nat.eq_zero_or_pos n with h | h
    ·exact h
    ·obtain ⟨ad, h, _⟩ := HX0.2.2 h; cases h
   subst hn0
   obtain rfl : xs = [] := List.eq_nil_of_length_eq_zero hn
   obtain ⟨v1, w1, hrun, h2, hg, _⟩ := run_append_own_at (P := P) W W.heap.size t ty e i z d.sz bytes ht hi hz hsize hby hzs hsz (.slice none 0 0) 0 [] (own_nil _ _ _ _) a2 m c news hnl hnc hone (by simp only [maxLen]; omega) hl (Nat.le_refl _)
   exact ⟨v1, w1, hrun, fin [] v1 w1 (Reps.none _ _) h2 hg⟩
  ·obtain ⟨olds, hxr, hxc⟩ := ReadsRow.inner_ HX0
   obtain ⟨v1, w1, hrun, h2, hg⟩ := run_append_arg_grows (P := P) W t ty e i z d.sz bytes ht hi hz hsize hby hzs hsz ad n n olds (by rw [hxr.1, hn]) hxc a2 m c news hnl hnc (by omega) (by simp only [maxLen]; omega) hl
   exact ⟨v1, w1, hrun, fin olds v1 w1 hxr h2 hg⟩
variable {ops : Array Oper} {rest : List Oper} {o : Oper} {a : Act} {Q : Exit → Act → World → Prop}
theorem V_append_cut (d : Kd α) (hf : Flat d) {W : World} (base : Nat) (hgd : o.guard = none) (s x : Operand) (t e : TypeId) (z : Value) (bytes : Nat)
 (ho : o.op = .call { callee := .builtin .append, args := #[s, x], argTypes := #[t, t] })
 (ht : P.underlying t = some (.slice e)) (hinfo : (P.info? e).map (fun i => (i.zero, i.size, i.bytes)) = some (some z, d.sz, bytes)) (hz : z.cells.size = d.sz) (hs0 : 0 < d.sz) (hb0 : 0 < bytes)
 (A : Option Addr) (n : Nat) (xs : List α) (A2 : Option Addr) (m c : Nat) (ys : List α) (ok : Nat → Prop) (hs : a.eval s = .slice A n n) (hx : a.eval x = .slice A2 m c)
 (HX : Kd.F d W ok A n xs) (HY : Kd.C d W A2 m ys) (hl : (n + m) * bytes ≤ 140737488355328)
 (h : ∀ v1 w1, Kd.V d e w1 base (fun k => ok k ∨ W.heap.size ≤ k) v1 (xs ++ ys) → Below W.heap.size W w1 → wpList P ops Q rest (a.put o.dst v1) w1) :
 wpList P ops Q (o :: rest) a W := by
 obtain ⟨i0, hi, hzz⟩ := Option.map_eq_some_iff.1 hinfo
 simp only [Prod.mk.injEq] at hzz
 obtain ⟨hz0, hz1, hz2⟩ := hzz
 obtain ⟨v1, w1, hr1, hb, hv⟩ := run_app_cut (P := P) d hf W t o.type e i0 z bytes ht hi hz0 hz1 hz2 hz hs0 hb0 A n xs A2 m c ys ok base HX HY hl
 refine wpList_plain hgd fun K hK => ?_
 unfold Oper.wp execOp
 simp only [ho, resolve, invoke, builtin, Sem.run_bind, Sem.run_pure, Result.andThen_ok, List.map_toArray, List.map_cons, List.map_nil, hs, hx, hr1]
 exact hK _ _ (h v1 w1 hv hb)
theorem step_append_cut (d : Kd α) (hf : Flat d) {W : World} {K : Act → World → Prop} {E : Prop} (base : Nat) (hgd : o.guard = none) (s x : Operand) (t e : TypeId) (z : Value) (bytes : Nat)
 (ho : o.op = .call { callee := .builtin .append, args := #[s, x], argTypes := #[t, t] })
 (ht : P.underlying t = some (.slice e)) (hinfo : (P.info? e).map (fun i => (i.zero, i.size, i.bytes)) = some (some z, d.sz, bytes)) (hz : z.cells.size = d.sz) (hs0 : 0 < d.sz) (hb0 : 0 < bytes)
 (A : Option Addr) (n : Nat) (xs : List α) (A2 : Option Addr) (m c : Nat) (ys : List α) (ok : Nat → Prop) (hs : a.eval s = .slice A n n) (hx : a.eval x = .slice A2 m c)
 (HX : Kd.F d W ok A n xs) (HY : Kd.C d W A2 m ys) (hl : (n + m) * bytes ≤ 140737488355328)
 (h : ∀ v1 w1, Kd.V d e w1 base (fun k => ok k ∨ W.heap.size ≤ k) v1 (xs ++ ys) → Below W.heap.size W w1 → K (a.put o.dst v1) w1) :
 if Region.wanted o (yielded ops a.tmps) = true then Oper.wp P o a W K Q else E := by
 obtain ⟨i0, hi, hzz⟩ := Option.map_eq_some_iff.1 hinfo
 simp only [Prod.mk.injEq] at hzz
 obtain ⟨hz0, hz1, hz2⟩ := hzz
 obtain ⟨v1, w1, hr1, hb, hv⟩ := run_app_cut (P := P) d hf W t o.type e i0 z bytes ht hi hz0 hz1 hz2 hz hs0 hb0 A n xs A2 m c ys ok base HX HY hl
 have hw : Region.wanted o (yielded ops a.tmps) = true := by simp [Region.wanted, hgd]
 rw [if_pos hw]
 unfold Oper.wp execOp
 simp only [ho, resolve, invoke, builtin, Sem.run_bind, Sem.run_pure, Result.andThen_ok, List.map_toArray, List.map_cons, List.map_nil, hs, hx, hr1]
 exact h v1 w1 hv hb
end
end Go.Proofs.YtjfhcijjjadhbaaGreatDoor.K
end
section
namespace Go.Proofs.YtjfhcijjjadhbaaGreatDoor.P
open Go.RowKit Go.Proofs.YtjfhcijjjadhbaaGreatDoor.K Go.Proofs.YtjfhcijjjadhbaaGreatDoorW.PrintWords Go.Proofs.YtjfhcijjjadhbaaGreatDoorW.PrintLast Go.Proofs.YtjfhcijjjadhbaaGreatDoorW.PrintMore
def api_Member_46.f (l0 : List S30) : Option (List S30) := if l0.length < 8796093022208 then some l0 else none
set_option maxHeartbeats 2000000 in
set_option maxRecDepth 100000 in
theorem api_Member_46.calls (A0 : Option Addr) (c0 : Nat) (l0 : List S30) (r : List S30) (w : World) (hG : TheG w) (hr0 : Kd.C k30 w A0 l0.length l0) (hc0 : l0.length ≤ c0) (h : api_Member_46.f l0 = some r) :
 Calls Tryz.prog 46 #[.slice A0 l0.length c0] w fun e w' => ∃ v : Value, e = .returned v ∧ Kd.R k30 30 w' w.heap.size (fun _ => True) v r ∧ Below w.heap.size w w' := by
 unfold api_Member_46.f at h
 split at h
 case isFalse => exact absurd h (by simp)
 case isTrue hl =>
 obtain rfl := Option.some.inj h
 clear h
 rcases A0 with _ | ad
 ·have h0 : l0 = [] := by
   rcases l0 with _ | ⟨x, l⟩
   ·rfl
   ·obtain ⟨ad, h, _⟩ := hr0.2.2 (by simp); cases h
  subst h0
  have hbin := fun w => Lib.run_eql_slice_nil (P := Tryz.prog) w 24 30 none 0 c0 0 0 Tryz.underlying24
  go_enter Tryz.func46, Tryz.ntmps46
  go_wp2
  go_ret
  exact ⟨_, rfl, Kd.R_nil _ _ _ _ _, Below.refl _ _⟩
 ·have HC := Lib.hid hr0
  clear hr0
  have hbin := fun w => Lib.run_eql_slice_nil (P := Tryz.prog) w 24 30 (some ad) l0.length c0 0 0 Tryz.underlying24
  go_enter Tryz.func46, Tryz.ntmps46
  go_wp2_with (first | ((with_reducible refine gate_dst (N := 5) rfl ?_); refine Kd.R_lit k30 _ 30 ?hg (N := 5) ?hd (xs := ([] : List (S30))) (inner := []) (ok := fun _ => True) (okp := fun _ => True) ?hr ?hp (fun _ hk => hk) trivial (Below.refl _ _) (Nat.le_refl _) (by simp) ?_; (case hd => rfl); (case hg => rfl); (case hr => first | (go_simp; done) | (go_simp; rfl)); (case hp => exact (Reps.none _ _)); intro v1 w1 ho1 hb1 _ _) | ((with_reducible refine gate_builtin (b := .append) (xs := #[.tmp 5, .tmp 6]) rfl ?_); at_builtin; refine Kd.R_append_rows k30 (w0 := w) w.heap.size rfl (.tmp 5) (.tmp 6) 24 30 (.agg #[(.int .i64 0), (.int .i64 0)]) 16 rfl Tryz.underlying24 info30 rfl (by decide) (by omega) v1 [] l0 _ _ _ (fun _ => True) (fun _ => False) rfl rfl ?aO ?aR (fun _ _ h => h) (fun _ h => h.elim) ?aF ?aB ?aS ?aL ?_; (case aR => exact Kd.C_below HC.out hb1); (case aF => exact fun _ _ => trivial); (case aB => exact hb1); (case aS => exact hb1.size); (case aL => simp; omega); (case aO => exact ho1); intro v2 w2 ho2 hb2 _ _) | fail)
  obtain ⟨A3, c3, rfl⟩ := Kd.R_slice ho2
  go_ret
  exact ⟨_, rfl, ho2, hb2⟩
theorem flat30 : Flat k30 := by
 intro w w' x c h
 obtain rfl := k30_open h
 exact k30_mk w' x
end Go.Proofs.YtjfhcijjjadhbaaGreatDoor.P
end
