import Derived.Test.YtjfhcijjjadhbaaDoorZDescUnlike0
import Derived.Test.YtjfhcijjjadhbaaDoorZDescUnlike1
import Derived.Test.YtjfhcijjjadhbaaDoorZDescUnlike2
import Derived.ArgAppend
import Derived.Lib.Hide
import Derived.Lib.SliceRun
import Derived.Maps.AppendAt
import Derived.OwnWalk
import Derived.Shelf.Abstract
set_option linter.unusedVariables false
set_option linter.unusedSimpArgs false
set_option linter.unnecessarySimpa false
section
-- Written by a program of this session (wip/tools/pr.py), over the kit's printer; functions named in the texts imported below are given by hand.
namespace Go.Proofs.YtjfhcijjjadhbaaDoor.P
open Go.RowKit Go.Proofs.YtjfhcijjjadhbaaDoor.K Go.Proofs.YtjfhcijjjadhbaaDoorW.PrintWords Go.Proofs.YtjfhcijjjadhbaaDoorW.PrintLast Go.Proofs.YtjfhcijjjadhbaaDoorW.PrintMore
attribute [local go_sem] max2_int min2_int max_two min_two max_three min_three max_four min_four   -- for this text's walks alone
/-! ### bound_Join: function 36 -/
def bound_Join.f (a0_0 : ByteArray) (a0_1 : ByteArray) (a1_0 : ByteArray) (a1_1 : ByteArray) : Option (ByteArray × ByteArray × Int) := (bound_Next.f a0_0 a0_1 a1_0 a1_1).bind fun t118 => (if t118 = true then (some (a0_0, a1_1, 0)) else (some ((⟨#[]⟩ : ByteArray), (⟨#[]⟩ : ByteArray), 20)))
set_option maxHeartbeats 8000000 in
set_option maxRecDepth 100000 in
theorem bound_Join.calls (a0_0 : ByteArray) (a0_1 : ByteArray) (a1_0 : ByteArray) (a1_1 : ByteArray) (r1 : ByteArray) (r2 : ByteArray) (r3 : Int) (w : World) (hG : TheG w) (h : bound_Join.f a0_0 a0_1 a1_0 a1_1 = some (r1, r2, r3)) :
    Calls Tryd.prog 36 #[.agg #[.string a0_0, .string a0_1], .agg #[.string a1_0, .string a1_1]] w fun e w' => e = .returned (.tuple #[.agg #[.string r1, .string r2], .int .i64 r3]) ∧ Below w.heap.size w w' := by
  have hu23 := Tryd.underlying23
  have HB := Az.mk (Below.refl w.heap.size w)
  have H : ((bound_Next.f a0_0 a0_1 a1_0 a1_1).bind fun t118 => (if t118 = true then (some (a0_0, a1_1, 0)) else (some ((⟨#[]⟩ : ByteArray), (⟨#[]⟩ : ByteArray), 20)))) = some (r1, r2, r3) := h
  clear h
  replace H := Option.bind_eq_some_iff.mp H
  obtain ⟨t118, A30, H⟩ := H
  replace H : (if t118 = true then (some (a0_0, a1_1, 0)) else (some ((⟨#[]⟩ : ByteArray), (⟨#[]⟩ : ByteArray), 20))) = some (r1, r2, r3) := H
  have A3 := Az.mk A30
  clear A30
  by_cases c4 : t118 = true
  · subst c4
    have H1 : (some (a0_0, a1_1, 0)) = some (r1, r2, r3) := by rw [if_pos rfl] at H; exact H
    clear H
    have H := H1
    clear H1
    simp only [Option.some.injEq, Prod.mk.injEq] at H
    obtain ⟨rfl, rfl, rfl⟩ := H
    go_enter Tryd.func36, Tryd.ntmps36
    go_wp2_with (first | ((with_reducible refine gate_dst (N := 2) rfl ?_); refine box_event ?hg (N := 2) ?hd (cs := #[.string a0_0, .string a0_1]) (t := 23) ?hr ?_; (case hd => rfl); (case hg => rfl); (case hr => first | (go_simp; done) | (go_simp; rfl)); intro gb115 hg w5 hbox hb; have n0_ := Az.mk (pbT (by exact pbE HB.out) hb); have n1_ := Az.mk (hbox); have n2_ := Az.mk ((by rw [hg]; exact (pbZ (by exact pbE HB.out)) : w.heap.size ≤ gb115)); have n3_ := Az.mk ((by rw [hg]; exact (pbZ (by exact pbE HB.out)) : w.heap.size ≤ gb115)); clear HB; have HB := n0_; have BK115 := n1_; have GW115 := n2_; have GE115 := n3_; clear n0_ n1_ n2_ n3_; clear hb hbox hg) | ((with_reducible refine gate_dst (N := 3) rfl ?_); refine box_event ?hg (N := 3) ?hd (cs := #[.string a1_0, .string a1_1]) (t := 23) ?hr ?_; (case hd => rfl); (case hg => rfl); (case hr => first | (go_simp; done) | (go_simp; rfl)); intro gb116 hg w6 hbox hb; have n0_ := Az.mk (bkB (g := gb115) (o := .cells #[.string a0_0, .string a0_1] 23 (0, 0)) (bk BK115.out) hb); have n1_ := Az.mk (pbT (by exact pbE HB.out) hb); have n2_ := Az.mk (hbox); have n3_ := Az.mk ((by rw [hg]; exact (pbZ (by exact pbE HB.out)) : w.heap.size ≤ gb116)); have n4_ := Az.mk ((by rw [hg]; exact (pbZ (by exact pbE HB.out)) : w.heap.size ≤ gb116)); have n5_ := Az.mk ((by rw [hg]; exact Nat.ne_of_lt (blk_lt (g := gb115) (o := .cells #[.string a0_0, .string a0_1] 23 (0, 0)) (bk BK115.out)) : gb115 ≠ gb116)); have n6_ := Az.mk ((by rw [hg]; exact Nat.ne_of_gt (blk_lt (g := gb115) (o := .cells #[.string a0_0, .string a0_1] 23 (0, 0)) (bk BK115.out)) : gb116 ≠ gb115)); clear BK115; clear HB; have BK115 := n0_; have HB := n1_; have BK116 := n2_; have GW116 := n3_; have GE116 := n4_; have NB115_116 := n5_; have NB116_115 := n6_; clear n0_ n1_ n2_ n3_ n4_ n5_ n6_; clear hb hbox hg) | ((with_reducible refine gate_dst (N := 4) rfl ?_); refine box_event ?hg (N := 4) ?hd (cs := #[.string (⟨#[]⟩ : ByteArray), .string (⟨#[]⟩ : ByteArray)]) (t := 23) ?hr ?_; (case hd => rfl); (case hg => rfl); (case hr => first | (go_simp; done) | (go_simp; rfl)); intro gb117 hg w7 hbox hb; have n0_ := Az.mk (bkB (g := gb115) (o := .cells #[.string a0_0, .string a0_1] 23 (0, 0)) (bk BK115.out) hb); have n1_ := Az.mk (bkB (g := gb116) (o := .cells #[.string a1_0, .string a1_1] 23 (0, 0)) (bk BK116.out) hb); have n2_ := Az.mk (pbT (by exact pbE HB.out) hb); have n3_ := Az.mk (hbox); have n4_ := Az.mk ((by rw [hg]; exact (pbZ (by exact pbE HB.out)) : w.heap.size ≤ gb117)); have n5_ := Az.mk ((by rw [hg]; exact (pbZ (by exact pbE HB.out)) : w.heap.size ≤ gb117)); have n6_ := Az.mk ((by rw [hg]; exact Nat.ne_of_lt (blk_lt (g := gb115) (o := .cells #[.string a0_0, .string a0_1] 23 (0, 0)) (bk BK115.out)) : gb115 ≠ gb117)); have n7_ := Az.mk ((by rw [hg]; exact Nat.ne_of_gt (blk_lt (g := gb115) (o := .cells #[.string a0_0, .string a0_1] 23 (0, 0)) (bk BK115.out)) : gb117 ≠ gb115)); have n8_ := Az.mk ((by rw [hg]; exact Nat.ne_of_lt (blk_lt (g := gb116) (o := .cells #[.string a1_0, .string a1_1] 23 (0, 0)) (bk BK116.out)) : gb116 ≠ gb117)); have n9_ := Az.mk ((by rw [hg]; exact Nat.ne_of_gt (blk_lt (g := gb116) (o := .cells #[.string a1_0, .string a1_1] 23 (0, 0)) (bk BK116.out)) : gb117 ≠ gb116)); clear BK115; clear BK116; clear HB; have BK115 := n0_; have BK116 := n1_; have HB := n2_; have BK117 := n3_; have GW117 := n4_; have GE117 := n5_; have NB115_117 := n6_; have NB117_115 := n7_; have NB116_117 := n8_; have NB117_116 := n9_; clear n0_ n1_ n2_ n3_ n4_ n5_ n6_ n7_ n8_ n9_; clear hb hbox hg; have hnb8 := NB115_116.out; have hnc8 := NB116_115.out; have hnb9 := NB115_117.out; have hnc9 := NB117_115.out; have hcz10_0 : w7.cell? ⟨gb115, 0, none⟩ = some (.string a0_0) := (bkC BK115.out 0).trans rfl; have hcz10_1 : w7.cell? ⟨gb115, 1, none⟩ = some (.string a0_1) := (bkC BK115.out 1).trans rfl; have hfz10_0 := bkF BK115.out 0; have hfz10_1 := bkF BK115.out 1; have hnb11 := NB116_117.out; have hnc11 := NB117_116.out; have hcz12_0 : w7.cell? ⟨gb116, 0, none⟩ = some (.string a1_0) := (bkC BK116.out 0).trans rfl; have hcz12_1 : w7.cell? ⟨gb116, 1, none⟩ = some (.string a1_1) := (bkC BK116.out 1).trans rfl; have hfz12_0 := bkF BK116.out 0; have hfz12_1 := bkF BK116.out 1) | ((with_reducible refine gtc (f := 63) rfl ?_); refine goesL_ (some 8) rfl rfl Tryd.func63 (by kernel_rfl) rfl #[.agg #[.string a0_0, .string a0_1], .agg #[.string a1_0, .string a1_1]] rfl (by (try simp only [List.map_toArray, List.map_cons, List.map_nil]); first | done | rfl | (simp only [List.length_drop, List.length_take]; rfl)) ?_; (with_reducible refine (bound_Next.calls a0_0 a0_1 a1_0 a1_1 true _ ?side1 A3.out).mono ?_); (case side1 => exact hG.below (by exact pbE HB.out)); rintro e w13 ⟨rfl, hb⟩; refine ⟨_, rfl, ?_⟩; have n0_ := Az.mk (bkB (g := gb115) (o := .cells #[.string a0_0, .string a0_1] 23 (0, 0)) (bk BK115.out) hb); have n1_ := Az.mk (bkB (g := gb116) (o := .cells #[.string a1_0, .string a1_1] 23 (0, 0)) (bk BK116.out) hb); have n2_ := Az.mk (bkB (g := gb117) (o := .cells #[.string (⟨#[]⟩ : ByteArray), .string (⟨#[]⟩ : ByteArray)] 23 (0, 0)) (bk BK117.out) hb); have n3_ := Az.mk (pbT (by exact pbE HB.out) hb); clear BK115; clear BK116; clear BK117; clear HB; have BK115 := n0_; have BK116 := n1_; have BK117 := n2_; have HB := n3_; clear n0_ n1_ n2_ n3_; (try clear hb); (try clear hb2); (try clear hk); (try clear hi); have hcz14_0 : w13.cell? ⟨gb115, 0, none⟩ = some (.string a0_0) := (bkC BK115.out 0).trans rfl; have hcz14_1 : w13.cell? ⟨gb115, 1, none⟩ = some (.string a0_1) := (bkC BK115.out 1).trans rfl; have hfz14_0 := bkF BK115.out 0; have hfz14_1 := bkF BK115.out 1; have hcz15_0 : w13.cell? ⟨gb116, 0, none⟩ = some (.string a1_0) := (bkC BK116.out 0).trans rfl; have hcz15_1 : w13.cell? ⟨gb116, 1, none⟩ = some (.string a1_1) := (bkC BK116.out 1).trans rfl; have hfz15_0 := bkF BK116.out 0; have hfz15_1 := bkF BK116.out 1; have hcz16_0 : w13.cell? ⟨gb117, 0, none⟩ = some (.string (⟨#[]⟩ : ByteArray)) := (bkC BK117.out 0).trans rfl; have hcz16_1 : w13.cell? ⟨gb117, 1, none⟩ = some (.string (⟨#[]⟩ : ByteArray)) := (bkC BK117.out 1).trans rfl; have hfz16_0 := bkF BK117.out 0; have hfz16_1 := bkF BK117.out 1))
    refine bodyPost_ret (results_ct rfl _ _ gb117 23 #[.string a0_0, .string a1_1] (0, 0) _ rfl (by refine bk ?_; refine blk_put (cs := #[.string a0_0, .string (⟨#[]⟩ : ByteArray)]) ?_ 1 _ rfl; refine bk ?_; refine blk_put (cs := #[.string (⟨#[]⟩ : ByteArray), .string (⟨#[]⟩ : ByteArray)]) ?_ 0 _ rfl; refine bk ?_; exact BK117.out) Tryd.underlying23 rfl (by kernel_rfl)) rfl ?_
    exact ⟨by first | rfl | (simp [errW_none, errW_some] <;> rfl) | (simp [*, errW_none, errW_some] <;> rfl), by exact pbE HB.out⟩
  · replace c4 := Bool.eq_false_iff.mpr c4
    subst c4
    have H1 : (some ((⟨#[]⟩ : ByteArray), (⟨#[]⟩ : ByteArray), 20)) = some (r1, r2, r3) := by rw [if_neg (show ¬ (false = true) by decide)] at H; exact H
    clear H
    have H := H1
    clear H1
    simp only [Option.some.injEq, Prod.mk.injEq] at H
    obtain ⟨rfl, rfl, rfl⟩ := H
    go_enter Tryd.func36, Tryd.ntmps36
    go_wp2_with (first | ((with_reducible refine gate_dst (N := 2) rfl ?_); refine box_event ?hg (N := 2) ?hd (cs := #[.string a0_0, .string a0_1]) (t := 23) ?hr ?_; (case hd => rfl); (case hg => rfl); (case hr => first | (go_simp; done) | (go_simp; rfl)); intro gb115 hg w17 hbox hb; have n0_ := Az.mk (pbT (by exact pbE HB.out) hb); have n1_ := Az.mk (hbox); have n2_ := Az.mk ((by rw [hg]; exact (pbZ (by exact pbE HB.out)) : w.heap.size ≤ gb115)); have n3_ := Az.mk ((by rw [hg]; exact (pbZ (by exact pbE HB.out)) : w.heap.size ≤ gb115)); clear HB; have HB := n0_; have BK115 := n1_; have GW115 := n2_; have GE115 := n3_; clear n0_ n1_ n2_ n3_; clear hb hbox hg) | ((with_reducible refine gate_dst (N := 3) rfl ?_); refine box_event ?hg (N := 3) ?hd (cs := #[.string a1_0, .string a1_1]) (t := 23) ?hr ?_; (case hd => rfl); (case hg => rfl); (case hr => first | (go_simp; done) | (go_simp; rfl)); intro gb116 hg w18 hbox hb; have n0_ := Az.mk (bkB (g := gb115) (o := .cells #[.string a0_0, .string a0_1] 23 (0, 0)) (bk BK115.out) hb); have n1_ := Az.mk (pbT (by exact pbE HB.out) hb); have n2_ := Az.mk (hbox); have n3_ := Az.mk ((by rw [hg]; exact (pbZ (by exact pbE HB.out)) : w.heap.size ≤ gb116)); have n4_ := Az.mk ((by rw [hg]; exact (pbZ (by exact pbE HB.out)) : w.heap.size ≤ gb116)); have n5_ := Az.mk ((by rw [hg]; exact Nat.ne_of_lt (blk_lt (g := gb115) (o := .cells #[.string a0_0, .string a0_1] 23 (0, 0)) (bk BK115.out)) : gb115 ≠ gb116)); have n6_ := Az.mk ((by rw [hg]; exact Nat.ne_of_gt (blk_lt (g := gb115) (o := .cells #[.string a0_0, .string a0_1] 23 (0, 0)) (bk BK115.out)) : gb116 ≠ gb115)); clear BK115; clear HB; have BK115 := n0_; have HB := n1_; have BK116 := n2_; have GW116 := n3_; have GE116 := n4_; have NB115_116 := n5_; have NB116_115 := n6_; clear n0_ n1_ n2_ n3_ n4_ n5_ n6_; clear hb hbox hg) | ((with_reducible refine gate_dst (N := 4) rfl ?_); refine box_event ?hg (N := 4) ?hd (cs := #[.string (⟨#[]⟩ : ByteArray), .string (⟨#[]⟩ : ByteArray)]) (t := 23) ?hr ?_; (case hd => rfl); (case hg => rfl); (case hr => first | (go_simp; done) | (go_simp; rfl)); intro gb117 hg w19 hbox hb; have n0_ := Az.mk (bkB (g := gb115) (o := .cells #[.string a0_0, .string a0_1] 23 (0, 0)) (bk BK115.out) hb); have n1_ := Az.mk (bkB (g := gb116) (o := .cells #[.string a1_0, .string a1_1] 23 (0, 0)) (bk BK116.out) hb); have n2_ := Az.mk (pbT (by exact pbE HB.out) hb); have n3_ := Az.mk (hbox); have n4_ := Az.mk ((by rw [hg]; exact (pbZ (by exact pbE HB.out)) : w.heap.size ≤ gb117)); have n5_ := Az.mk ((by rw [hg]; exact (pbZ (by exact pbE HB.out)) : w.heap.size ≤ gb117)); have n6_ := Az.mk ((by rw [hg]; exact Nat.ne_of_lt (blk_lt (g := gb115) (o := .cells #[.string a0_0, .string a0_1] 23 (0, 0)) (bk BK115.out)) : gb115 ≠ gb117)); have n7_ := Az.mk ((by rw [hg]; exact Nat.ne_of_gt (blk_lt (g := gb115) (o := .cells #[.string a0_0, .string a0_1] 23 (0, 0)) (bk BK115.out)) : gb117 ≠ gb115)); have n8_ := Az.mk ((by rw [hg]; exact Nat.ne_of_lt (blk_lt (g := gb116) (o := .cells #[.string a1_0, .string a1_1] 23 (0, 0)) (bk BK116.out)) : gb116 ≠ gb117)); have n9_ := Az.mk ((by rw [hg]; exact Nat.ne_of_gt (blk_lt (g := gb116) (o := .cells #[.string a1_0, .string a1_1] 23 (0, 0)) (bk BK116.out)) : gb117 ≠ gb116)); clear BK115; clear BK116; clear HB; have BK115 := n0_; have BK116 := n1_; have HB := n2_; have BK117 := n3_; have GW117 := n4_; have GE117 := n5_; have NB115_117 := n6_; have NB117_115 := n7_; have NB116_117 := n8_; have NB117_116 := n9_; clear n0_ n1_ n2_ n3_ n4_ n5_ n6_ n7_ n8_ n9_; clear hb hbox hg; have hnb20 := NB115_116.out; have hnc20 := NB116_115.out; have hnb21 := NB115_117.out; have hnc21 := NB117_115.out; have hcz22_0 : w19.cell? ⟨gb115, 0, none⟩ = some (.string a0_0) := (bkC BK115.out 0).trans rfl; have hcz22_1 : w19.cell? ⟨gb115, 1, none⟩ = some (.string a0_1) := (bkC BK115.out 1).trans rfl; have hfz22_0 := bkF BK115.out 0; have hfz22_1 := bkF BK115.out 1; have hnb23 := NB116_117.out; have hnc23 := NB117_116.out; have hcz24_0 : w19.cell? ⟨gb116, 0, none⟩ = some (.string a1_0) := (bkC BK116.out 0).trans rfl; have hcz24_1 : w19.cell? ⟨gb116, 1, none⟩ = some (.string a1_1) := (bkC BK116.out 1).trans rfl; have hfz24_0 := bkF BK116.out 0; have hfz24_1 := bkF BK116.out 1) | ((with_reducible refine gtc (f := 63) rfl ?_); refine goesL_ (some 8) rfl rfl Tryd.func63 (by kernel_rfl) rfl #[.agg #[.string a0_0, .string a0_1], .agg #[.string a1_0, .string a1_1]] rfl (by (try simp only [List.map_toArray, List.map_cons, List.map_nil]); first | done | rfl | (simp only [List.length_drop, List.length_take]; rfl)) ?_; (with_reducible refine (bound_Next.calls a0_0 a0_1 a1_0 a1_1 false _ ?side1 A3.out).mono ?_); (case side1 => exact hG.below (by exact pbE HB.out)); rintro e w25 ⟨rfl, hb⟩; refine ⟨_, rfl, ?_⟩; have n0_ := Az.mk (bkB (g := gb115) (o := .cells #[.string a0_0, .string a0_1] 23 (0, 0)) (bk BK115.out) hb); have n1_ := Az.mk (bkB (g := gb116) (o := .cells #[.string a1_0, .string a1_1] 23 (0, 0)) (bk BK116.out) hb); have n2_ := Az.mk (bkB (g := gb117) (o := .cells #[.string (⟨#[]⟩ : ByteArray), .string (⟨#[]⟩ : ByteArray)] 23 (0, 0)) (bk BK117.out) hb); have n3_ := Az.mk (pbT (by exact pbE HB.out) hb); clear BK115; clear BK116; clear BK117; clear HB; have BK115 := n0_; have BK116 := n1_; have BK117 := n2_; have HB := n3_; clear n0_ n1_ n2_ n3_; (try clear hb); (try clear hb2); (try clear hk); (try clear hi); have hcz26_0 : w25.cell? ⟨gb117, 0, none⟩ = some (.string (⟨#[]⟩ : ByteArray)) := (bkC BK117.out 0).trans rfl; have hcz26_1 : w25.cell? ⟨gb117, 1, none⟩ = some (.string (⟨#[]⟩ : ByteArray)) := (bkC BK117.out 1).trans rfl; have hfz26_0 := bkF BK117.out 0; have hfz26_1 := bkF BK117.out 1))
    refine bodyPost_ret (results_ct rfl _ _ gb117 23 #[.string (⟨#[]⟩ : ByteArray), .string (⟨#[]⟩ : ByteArray)] (0, 0) _ rfl (by refine bk ?_; refine blk_put (cs := #[.string (⟨#[]⟩ : ByteArray), .string (⟨#[]⟩ : ByteArray)]) ?_ 1 _ rfl; refine bk ?_; refine blk_put (cs := #[.string (⟨#[]⟩ : ByteArray), .string (⟨#[]⟩ : ByteArray)]) ?_ 0 _ rfl; refine bk ?_; exact BK117.out) Tryd.underlying23 rfl (by kernel_rfl)) rfl ?_
    exact ⟨by first | rfl | (simp [errW_none, errW_some] <;> rfl) | (simp [*, errW_none, errW_some] <;> rfl), by exact pbE HB.out⟩
end Go.Proofs.YtjfhcijjjadhbaaDoor.P
end
section
-- Written by a program of this session (wip/tools/pr.py), over the kit's printer; functions named in the texts imported below are given by hand.
namespace Go.Proofs.YtjfhcijjjadhbaaDoor.P
open Go.RowKit Go.Proofs.YtjfhcijjjadhbaaDoor.K Go.Proofs.YtjfhcijjjadhbaaDoorW.PrintWords Go.Proofs.YtjfhcijjjadhbaaDoorW.PrintLast Go.Proofs.YtjfhcijjjadhbaaDoorW.PrintMore
attribute [local go_sem] max2_int min2_int max_two min_two max_three min_three max_four min_four   -- for this text's walks alone
/-! ### desc_Merge: function 14 -/
def desc_Merge.j0 : Nat → Bool → Int → ByteArray → ByteArray → Int → List (S60) → Int → Int → ByteArray → ByteArray → Int → List (S60) → Int → Option (Int × ByteArray × ByteArray × Int × (List (S60)) × Int × Int)
  | 0, _, _, _, _, _, _, _, _, _, _, _, _, _ => none
  | k + 1, x15, x123000, x123001, x123002, x123003, x123004, x123005, x124000, x124001, x124002, x124003, x124004, x124005 => if x15 = true then (some (0, (⟨#[]⟩ : ByteArray), (⟨#[]⟩ : ByteArray), 0, ([] : List (S60)), 0, 60)) else ((bound_Join.f x123001 x123002 x124001 x124002).bind fun bt127 => (if bt127.2.2 = 0 then (if x123000 = x124000 then (some (0, (⟨#[]⟩ : ByteArray), (⟨#[]⟩ : ByteArray), 0, ([] : List (S60)), 0, 2)) else ((desc_right.f x123000 bt127.1 bt127.2.1 (wrap64 ((mx x123003 x124003) + 1)) x123004 x123005).bind fun bt131 => (some (bt131.1, bt131.2.1, bt131.2.2.1, bt131.2.2.2.1, bt131.2.2.2.2.1, bt131.2.2.2.2.2.1, bt131.2.2.2.2.2.2)))) else (some (0, (⟨#[]⟩ : ByteArray), (⟨#[]⟩ : ByteArray), 0, ([] : List (S60)), 0, bt127.2.2))))
def desc_Merge.f (k : Nat) (a0_0 : Int) (a0_1 : ByteArray) (a0_2 : ByteArray) (a0_3 : Int) (l0_4 : List (S60)) (a0_5 : Int) (a1_0 : Int) (a1_1 : ByteArray) (a1_2 : ByteArray) (a1_3 : Int) (l1_4 : List (S60)) (a1_5 : Int) : Option (Int × ByteArray × ByteArray × Int × (List (S60)) × Int × Int) := (desc_Check.f a0_0 a0_1 a0_2 a0_3 l0_4 a0_5).bind fun t125 => (if t125 = 0 then ((desc_Check.f a1_0 a1_1 a1_2 a1_3 l1_4 a1_5).bind fun t126 => (desc_Merge.j0 k (t126 != 0) a0_0 a0_1 a0_2 a0_3 l0_4 a0_5 a1_0 a1_1 a1_2 a1_3 l1_4 a1_5)) else (desc_Merge.j0 k true a0_0 a0_1 a0_2 a0_3 l0_4 a0_5 a1_0 a1_1 a1_2 a1_3 l1_4 a1_5))
theorem desc_Merge.mono_l : ∀ k, (∀ y0 y1 y2 y3 y4 y5 y6 y7 y8 y9 y10 y11 y12, LeO (desc_Merge.j0 k y0 y1 y2 y3 y4 y5 y6 y7 y8 y9 y10 y11 y12) (desc_Merge.j0 (k + 1) y0 y1 y2 y3 y4 y5 y6 y7 y8 y9 y10 y11 y12))
  | 0 => fun _ _ _ _ _ _ _ _ _ _ _ _ _ r h => by simp [desc_Merge.j0] at h
  | k + 1 => by
    have ih0 := desc_Merge.mono_l k
    · intro y0 y1 y2 y3 y4 y5 y6 y7 y8 y9 y10 y11 y12
      unfold desc_Merge.j0
      repeat' first
      | (with_reducible exact ih0 _ _ _ _ _ _ _ _ _ _ _ _ _)
      | (with_reducible exact LeO.refl _)
      | (with_reducible exact LeO.none _)
      | (with_reducible refine LeO.ite ?_ ?_)
      | (with_reducible refine LeO.bind ?_ (fun _ => ?_))
      | exact ih0 _ _ _ _ _ _ _ _ _ _ _ _ _
      | exact LeO.none _
      | refine LeO.ite ?_ ?_
      | refine LeO.bind ?_ (fun _ => ?_)
theorem desc_Merge.mono : ∀ a0 a1 a2 a3 a4 a5 a6 a7 a8 a9 a10 a11 k, LeO (desc_Merge.f k a0 a1 a2 a3 a4 a5 a6 a7 a8 a9 a10 a11) (desc_Merge.f (k + 1) a0 a1 a2 a3 a4 a5 a6 a7 a8 a9 a10 a11) := by
  intro a0 a1 a2 a3 a4 a5 a6 a7 a8 a9 a10 a11 k
  have ih0 := desc_Merge.mono_l k
  unfold desc_Merge.f
  repeat' first
      | (with_reducible exact ih0 _ _ _ _ _ _ _ _ _ _ _ _ _)
      | (with_reducible exact LeO.refl _)
      | (with_reducible exact LeO.none _)
      | (with_reducible refine LeO.ite ?_ ?_)
      | (with_reducible refine LeO.bind ?_ (fun _ => ?_))
      | exact ih0 _ _ _ _ _ _ _ _ _ _ _ _ _
      | exact LeO.none _
      | refine LeO.ite ?_ ?_
      | refine LeO.bind ?_ (fun _ => ?_)
set_option maxHeartbeats 8000000 in
set_option maxRecDepth 100000 in
theorem desc_Merge.calls (k : Nat) (a0_0 : Int) (a0_1 : ByteArray) (a0_2 : ByteArray) (a0_3 : Int) (P0_4_ : Nat → Prop) (A0_4 : Option Addr) (c0_4 : Nat) (l0_4 : List (S60)) (a0_5 : Int) (a1_0 : Int) (a1_1 : ByteArray) (a1_2 : ByteArray) (a1_3 : Int) (A1_4 : Option Addr) (c1_4 : Nat) (l1_4 : List (S60)) (a1_5 : Int) (r1 : Int) (r2 : ByteArray) (r3 : ByteArray) (r4 : Int) (r5 : List (S60)) (r6 : Int) (r7 : Int) (w : World) (hG : TheG w) (hs0_4 : Kd.V k60 60 w w.heap.size (fun k_ => P0_4_ k_) (.slice A0_4 l0_4.length c0_4) l0_4) (hr1_4 : Kd.C k60 w A1_4 l1_4.length l1_4) (hc1_4 : l1_4.length ≤ c1_4) (h : desc_Merge.f k a0_0 a0_1 a0_2 a0_3 l0_4 a0_5 a1_0 a1_1 a1_2 a1_3 l1_4 a1_5 = some (r1, r2, r3, r4, r5, r6, r7)) :
    Calls Tryd.prog 14 #[.agg #[.int .i64 a0_0, .string a0_1, .string a0_2, .int .i64 a0_3, .slice A0_4 l0_4.length c0_4, .int .i64 a0_5], .agg #[.int .i64 a1_0, .string a1_1, .string a1_2, .int .i64 a1_3, .slice A1_4 l1_4.length c1_4, .int .i64 a1_5]] w fun e w' => ∃ v4_ : Value, e = .returned (.tuple #[.agg #[.int .i64 r1, .string r2, .string r3, .int .i64 r4, v4_, .int .i64 r6], .int .i64 r7]) ∧ Kd.V k60 60 w' w.heap.size (fun k_ => (P0_4_ k_ ∨ w.heap.size ≤ k_)) v4_ r5 ∧ Below w.heap.size w w' := by
  have hu26 := Tryd.underlying26
  have hu23 := Tryd.underlying23
  have HO0_4 := Az.mk (show Kd.V k60 60 w w.heap.size (fun k_ => (P0_4_ k_ ∨ w.heap.size ≤ k_)) (.slice A0_4 l0_4.length c0_4) l0_4 from Kd.V_mono hs0_4 (fun k_ hk => .inl hk))
  have HR1_4 := Az.mk hr1_4
  have HC1_4 := Az.mk hc1_4
  clear hr1_4 hc1_4
  have HB := Az.mk (Below.refl w.heap.size w)
  have H : ((desc_Check.f a0_0 a0_1 a0_2 a0_3 l0_4 a0_5).bind fun t125 => (if t125 = 0 then ((desc_Check.f a1_0 a1_1 a1_2 a1_3 l1_4 a1_5).bind fun t126 => (desc_Merge.j0 k (t126 != 0) a0_0 a0_1 a0_2 a0_3 l0_4 a0_5 a1_0 a1_1 a1_2 a1_3 l1_4 a1_5)) else (desc_Merge.j0 k true a0_0 a0_1 a0_2 a0_3 l0_4 a0_5 a1_0 a1_1 a1_2 a1_3 l1_4 a1_5))) = some (r1, r2, r3, r4, r5, r6, r7) := h
  clear h
  have HC3 := Az.mk H
  clear H
  go_enter Tryd.func14, Tryd.ntmps14
  go_upto_region 1 with (first | ((with_reducible refine gate_dst (N := 2) rfl ?_); refine box_event ?hg (N := 2) ?hd (cs := #[.int .i64 a0_0, .string a0_1, .string a0_2, .int .i64 a0_3, .slice A0_4 l0_4.length c0_4, .int .i64 a0_5]) (t := 26) ?hr ?_; (case hd => rfl); (case hg => rfl); (case hr => first | (go_simp; done) | (go_simp; rfl)); intro gb122 hg w4 hbox hb; have n0_ := Az.mk (Kd.V_below (Kd.V_elderB (Kd.V_ext HO0_4.out) gb122 (Nat.le_of_eq hg.symm)) hb); have n1_ := Az.mk (pbT (by exact pbE HB.out) hb); have n2_ := Az.mk (hbox); have n3_ := Az.mk ((by rw [hg]; exact (pbZ (by exact pbE HB.out)) : w.heap.size ≤ gb122)); have n4_ := Az.mk ((by rw [hg]; exact (pbZ (by exact pbE HB.out)) : w.heap.size ≤ gb122)); clear HO0_4; clear HB; have HO0_4 := n0_; have HB := n1_; have BK122 := n2_; have GW122 := n3_; have GE122 := n4_; clear n0_ n1_ n2_ n3_ n4_; clear hb hbox hg) | ((with_reducible refine gate_dst (N := 3) rfl ?_); refine box_event ?hg (N := 3) ?hd (cs := #[.int .i64 a1_0, .string a1_1, .string a1_2, .int .i64 a1_3, .slice A1_4 l1_4.length c1_4, .int .i64 a1_5]) (t := 26) ?hr ?_; (case hd => rfl); (case hg => rfl); (case hr => first | (go_simp; done) | (go_simp; rfl)); intro gb123 hg w5 hbox hb; have n0_ := Az.mk (Kd.V_below (Kd.V_elderB (Kd.V_ext HO0_4.out) gb123 (Nat.le_of_eq hg.symm)) hb); have n1_ := Az.mk (bkB (g := gb122) (o := .cells #[.int .i64 a0_0, .string a0_1, .string a0_2, .int .i64 a0_3, .slice A0_4 l0_4.length c0_4, .int .i64 a0_5] 26 (0, 0)) (bk BK122.out) hb); have n2_ := Az.mk (pbT (by exact pbE HB.out) hb); have n3_ := Az.mk (hbox); have n4_ := Az.mk ((by rw [hg]; exact (pbZ (by exact pbE HB.out)) : w.heap.size ≤ gb123)); have n5_ := Az.mk ((by rw [hg]; exact (pbZ (by exact pbE HB.out)) : w.heap.size ≤ gb123)); have n6_ := Az.mk ((by rw [hg]; exact Nat.ne_of_lt (blk_lt (g := gb122) (o := .cells #[.int .i64 a0_0, .string a0_1, .string a0_2, .int .i64 a0_3, .slice A0_4 l0_4.length c0_4, .int .i64 a0_5] 26 (0, 0)) (bk BK122.out)) : gb122 ≠ gb123)); have n7_ := Az.mk ((by rw [hg]; exact Nat.ne_of_gt (blk_lt (g := gb122) (o := .cells #[.int .i64 a0_0, .string a0_1, .string a0_2, .int .i64 a0_3, .slice A0_4 l0_4.length c0_4, .int .i64 a0_5] 26 (0, 0)) (bk BK122.out)) : gb123 ≠ gb122)); clear HO0_4; clear BK122; clear HB; have HO0_4 := n0_; have BK122 := n1_; have HB := n2_; have BK123 := n3_; have GW123 := n4_; have GE123 := n5_; have NB122_123 := n6_; have NB123_122 := n7_; clear n0_ n1_ n2_ n3_ n4_ n5_ n6_ n7_; clear hb hbox hg) | ((with_reducible refine gate_dst (N := 4) rfl ?_); refine box_event ?hg (N := 4) ?hd (cs := #[.int .i64 0, .string (⟨#[]⟩ : ByteArray), .string (⟨#[]⟩ : ByteArray), .int .i64 0, .slice none 0 0, .int .i64 0]) (t := 26) ?hr ?_; (case hd => rfl); (case hg => rfl); (case hr => first | (go_simp; done) | (go_simp; rfl)); intro gb124 hg w6 hbox hb; have n0_ := Az.mk (Kd.V_below (Kd.V_elderB (Kd.V_ext HO0_4.out) gb124 (Nat.le_of_eq hg.symm)) hb); have n1_ := Az.mk (bkB (g := gb122) (o := .cells #[.int .i64 a0_0, .string a0_1, .string a0_2, .int .i64 a0_3, .slice A0_4 l0_4.length c0_4, .int .i64 a0_5] 26 (0, 0)) (bk BK122.out) hb); have n2_ := Az.mk (bkB (g := gb123) (o := .cells #[.int .i64 a1_0, .string a1_1, .string a1_2, .int .i64 a1_3, .slice A1_4 l1_4.length c1_4, .int .i64 a1_5] 26 (0, 0)) (bk BK123.out) hb); have n3_ := Az.mk (pbT (by exact pbE HB.out) hb); have n4_ := Az.mk (hbox); have n5_ := Az.mk ((by rw [hg]; exact (pbZ (by exact pbE HB.out)) : w.heap.size ≤ gb124)); have n6_ := Az.mk ((by rw [hg]; exact (pbZ (by exact pbE HB.out)) : w.heap.size ≤ gb124)); have n7_ := Az.mk ((by rw [hg]; exact Nat.ne_of_lt (blk_lt (g := gb122) (o := .cells #[.int .i64 a0_0, .string a0_1, .string a0_2, .int .i64 a0_3, .slice A0_4 l0_4.length c0_4, .int .i64 a0_5] 26 (0, 0)) (bk BK122.out)) : gb122 ≠ gb124)); have n8_ := Az.mk ((by rw [hg]; exact Nat.ne_of_gt (blk_lt (g := gb122) (o := .cells #[.int .i64 a0_0, .string a0_1, .string a0_2, .int .i64 a0_3, .slice A0_4 l0_4.length c0_4, .int .i64 a0_5] 26 (0, 0)) (bk BK122.out)) : gb124 ≠ gb122)); have n9_ := Az.mk ((by rw [hg]; exact Nat.ne_of_lt (blk_lt (g := gb123) (o := .cells #[.int .i64 a1_0, .string a1_1, .string a1_2, .int .i64 a1_3, .slice A1_4 l1_4.length c1_4, .int .i64 a1_5] 26 (0, 0)) (bk BK123.out)) : gb123 ≠ gb124)); have n10_ := Az.mk ((by rw [hg]; exact Nat.ne_of_gt (blk_lt (g := gb123) (o := .cells #[.int .i64 a1_0, .string a1_1, .string a1_2, .int .i64 a1_3, .slice A1_4 l1_4.length c1_4, .int .i64 a1_5] 26 (0, 0)) (bk BK123.out)) : gb124 ≠ gb123)); clear HO0_4; clear BK122; clear BK123; clear HB; have HO0_4 := n0_; have BK122 := n1_; have BK123 := n2_; have HB := n3_; have BK124 := n4_; have GW124 := n5_; have GE124 := n6_; have NB122_124 := n7_; have NB124_122 := n8_; have NB123_124 := n9_; have NB124_123 := n10_; clear n0_ n1_ n2_ n3_ n4_ n5_ n6_ n7_ n8_ n9_ n10_; clear hb hbox hg))
  (try simp only [Act.put, List.setIfInBounds_toArray, List.set_cons_zero, List.set_cons_succ])
  go_cut [15] (fun v15 wc => ∃ (kq : Nat) (x15_2 : Bool), v15 = .bool x15_2 ∧ Az (desc_Merge.j0 kq x15_2 a0_0 a0_1 a0_2 a0_3 l0_4 a0_5 a1_0 a1_1 a1_2 a1_3 l1_4 a1_5 = some (r1, r2, r3, r4, r5, r6, r7)) ∧ Az (kq ≤ k) ∧ Az (Kd.V k60 60 wc w.heap.size (fun k_ => (P0_4_ k_ ∨ w.heap.size ≤ k_) ∧ k_ ≠ gb122 ∧ k_ ≠ gb123 ∧ k_ ≠ gb124) (.slice A0_4 l0_4.length c0_4) l0_4) ∧ Az (wc.heap[gb122]? = some (.cells #[.int .i64 a0_0, .string a0_1, .string a0_2, .int .i64 a0_3, (.slice A0_4 l0_4.length c0_4), .int .i64 a0_5] 26 (0, 0))) ∧ Az (wc.heap[gb123]? = some (.cells #[.int .i64 a1_0, .string a1_1, .string a1_2, .int .i64 a1_3, (.slice A1_4 l1_4.length c1_4), .int .i64 a1_5] 26 (0, 0))) ∧ Az (wc.heap[gb124]? = some (.cells #[.int .i64 0, .string (⟨#[]⟩ : ByteArray), .string (⟨#[]⟩ : ByteArray), .int .i64 0, (.slice none 0 0), .int .i64 0] 26 (0, 0))) ∧ Az (Below w.heap.size w wc))
  case first =>
    have H := HC3.out
    clear HC3
    replace H := Option.bind_eq_some_iff.mp H
    obtain ⟨t125, A70, H⟩ := H
    replace H : (if t125 = 0 then ((desc_Check.f a1_0 a1_1 a1_2 a1_3 l1_4 a1_5).bind fun t126 => (desc_Merge.j0 k (t126 != 0) a0_0 a0_1 a0_2 a0_3 l0_4 a0_5 a1_0 a1_1 a1_2 a1_3 l1_4 a1_5)) else (desc_Merge.j0 k true a0_0 a0_1 a0_2 a0_3 l0_4 a0_5 a1_0 a1_1 a1_2 a1_3 l1_4 a1_5)) = some (r1, r2, r3, r4, r5, r6, r7) := H
    have A7 := Az.mk A70
    clear A70
    by_cases c8 : t125 = 0
    · rw [if_pos c8] at H
      have c8b0 : (t125 == 0) = true := beq_iff_eq.mpr c8
      have c8b1 : (t125 != 0) = false := bne_eq_false_iff_eq.mpr c8
      clear c8
      (first | rw [c8b0] | (simp only [i64_w, i32_w]; rw [c8b0]) | skip)
      replace H := Option.bind_eq_some_iff.mp H
      obtain ⟨t126, A90, H⟩ := H
      replace H : (desc_Merge.j0 k (t126 != 0) a0_0 a0_1 a0_2 a0_3 l0_4 a0_5 a1_0 a1_1 a1_2 a1_3 l1_4 a1_5) = some (r1, r2, r3, r4, r5, r6, r7) := H
      have A9 := Az.mk A90
      clear A90
      have H' := Az.mk H
      clear H
      have hnb10 := NB122_123.out
      have hnc10 := NB123_122.out
      have hnb11 := NB122_124.out
      have hnc11 := NB124_122.out
      have hcz12_0 : w6.cell? ⟨gb122, 0, none⟩ = some (.int .i64 a0_0) := (bkC BK122.out 0).trans rfl
      have hcz12_1 : w6.cell? ⟨gb122, 1, none⟩ = some (.string a0_1) := (bkC BK122.out 1).trans rfl
      have hcz12_2 : w6.cell? ⟨gb122, 2, none⟩ = some (.string a0_2) := (bkC BK122.out 2).trans rfl
      have hcz12_3 : w6.cell? ⟨gb122, 3, none⟩ = some (.int .i64 a0_3) := (bkC BK122.out 3).trans rfl
      have hcz12_4 : w6.cell? ⟨gb122, 4, none⟩ = some (.slice A0_4 l0_4.length c0_4) := (bkC BK122.out 4).trans rfl
      have hcz12_5 : w6.cell? ⟨gb122, 5, none⟩ = some (.int .i64 a0_5) := (bkC BK122.out 5).trans rfl
      have hfz12_0 := bkF BK122.out 0
      have hfz12_1 := bkF BK122.out 1
      have hfz12_2 := bkF BK122.out 2
      have hfz12_3 := bkF BK122.out 3
      have hfz12_4 := bkF BK122.out 4
      have hfz12_5 := bkF BK122.out 5
      go_wp2_with (first | ((with_reducible refine gtc (f := 22) rfl ?_); refine goesL_ (some 9) rfl rfl Tryd.func22 (by kernel_rfl) rfl #[.agg #[.int .i64 a0_0, .string a0_1, .string a0_2, .int .i64 a0_3, .slice A0_4 l0_4.length c0_4, .int .i64 a0_5]] rfl (by (try simp only [List.map_toArray, List.map_cons, List.map_nil]); first | done | rfl | (simp only [List.length_drop, List.length_take]; rfl)) ?_; (with_reducible refine (desc_Check.calls a0_0 a0_1 a0_2 a0_3 _ _ l0_4 a0_5 t125 _ ?side1 ?side2 ?side3 A7.out).mono ?_); (case side1 => exact hG.below (by exact pbE HB.out)); (case side2 => repeat (first | exact (Kd.V_reads' HO0_4.out).2.2 | (with_reducible refine Kd.C_alloc ?_ _) | (with_reducible refine Kd.C_drewN ?_ _) | (with_reducible refine Kd.C_drew ?_))); (case side3 => exact (Kd.V_reads' HO0_4.out).2.1); rintro e w13 ⟨rfl, hb⟩; refine ⟨_, rfl, ?_⟩; have n0_ := Az.mk (Kd.V_below (Kd.V_ext HO0_4.out) hb); have n1_ := Az.mk (bkB (g := gb122) (o := .cells #[.int .i64 a0_0, .string a0_1, .string a0_2, .int .i64 a0_3, .slice A0_4 l0_4.length c0_4, .int .i64 a0_5] 26 (0, 0)) (bk BK122.out) hb); have n2_ := Az.mk (bkB (g := gb123) (o := .cells #[.int .i64 a1_0, .string a1_1, .string a1_2, .int .i64 a1_3, .slice A1_4 l1_4.length c1_4, .int .i64 a1_5] 26 (0, 0)) (bk BK123.out) hb); have n3_ := Az.mk (bkB (g := gb124) (o := .cells #[.int .i64 0, .string (⟨#[]⟩ : ByteArray), .string (⟨#[]⟩ : ByteArray), .int .i64 0, .slice none 0 0, .int .i64 0] 26 (0, 0)) (bk BK124.out) hb); have n4_ := Az.mk (pbT (by exact pbE HB.out) hb); clear HO0_4; clear BK122; clear BK123; clear BK124; clear HB; have HO0_4 := n0_; have BK122 := n1_; have BK123 := n2_; have BK124 := n3_; have HB := n4_; clear n0_ n1_ n2_ n3_ n4_; (try clear hb); (try clear hb2); (try clear hk); (try clear hi); have hnb14 := NB123_124.out; have hnc14 := NB124_123.out; have hcz15_0 : w13.cell? ⟨gb123, 0, none⟩ = some (.int .i64 a1_0) := (bkC BK123.out 0).trans rfl; have hcz15_1 : w13.cell? ⟨gb123, 1, none⟩ = some (.string a1_1) := (bkC BK123.out 1).trans rfl; have hcz15_2 : w13.cell? ⟨gb123, 2, none⟩ = some (.string a1_2) := (bkC BK123.out 2).trans rfl; have hcz15_3 : w13.cell? ⟨gb123, 3, none⟩ = some (.int .i64 a1_3) := (bkC BK123.out 3).trans rfl; have hcz15_4 : w13.cell? ⟨gb123, 4, none⟩ = some (.slice A1_4 l1_4.length c1_4) := (bkC BK123.out 4).trans rfl; have hcz15_5 : w13.cell? ⟨gb123, 5, none⟩ = some (.int .i64 a1_5) := (bkC BK123.out 5).trans rfl; have hfz15_0 := bkF BK123.out 0; have hfz15_1 := bkF BK123.out 1; have hfz15_2 := bkF BK123.out 2; have hfz15_3 := bkF BK123.out 3; have hfz15_4 := bkF BK123.out 4; have hfz15_5 := bkF BK123.out 5) | (go_at_call 22; (with_reducible refine (desc_Check.calls a1_0 a1_1 a1_2 a1_3 _ _ l1_4 a1_5 t126 _ ?side1 ?side2 ?side3 A9.out).mono ?_); (case side1 => exact hG.below (by exact pbE HB.out)); (case side2 => repeat (first | exact (Kd.C_below HR1_4.out HB.out) | (with_reducible refine Kd.C_alloc ?_ _) | (with_reducible refine Kd.C_drewN ?_ _) | (with_reducible refine Kd.C_drew ?_))); (case side3 => exact HC1_4.out); rintro e w16 ⟨rfl, hb⟩; have n0_ := Az.mk (Kd.V_below (Kd.V_ext HO0_4.out) hb); have n1_ := Az.mk (bkB (g := gb122) (o := .cells #[.int .i64 a0_0, .string a0_1, .string a0_2, .int .i64 a0_3, .slice A0_4 l0_4.length c0_4, .int .i64 a0_5] 26 (0, 0)) (bk BK122.out) hb); have n2_ := Az.mk (bkB (g := gb123) (o := .cells #[.int .i64 a1_0, .string a1_1, .string a1_2, .int .i64 a1_3, .slice A1_4 l1_4.length c1_4, .int .i64 a1_5] 26 (0, 0)) (bk BK123.out) hb); have n3_ := Az.mk (bkB (g := gb124) (o := .cells #[.int .i64 0, .string (⟨#[]⟩ : ByteArray), .string (⟨#[]⟩ : ByteArray), .int .i64 0, .slice none 0 0, .int .i64 0] 26 (0, 0)) (bk BK124.out) hb); have n4_ := Az.mk (pbT (by exact pbE HB.out) hb); clear HO0_4; clear BK122; clear BK123; clear BK124; clear HB; have HO0_4 := n0_; have BK122 := n1_; have BK123 := n2_; have BK124 := n3_; have HB := n4_; clear n0_ n1_ n2_ n3_ n4_; (try clear hb); (try clear hb2); (try clear hk); (try clear hi)))
      repeat (go_region; try go_wp2_with (fail))
      go_meet
      case rel => exact ⟨_, ((t126 != 0)), (by first | rfl | (simp; done) | (simp [*]; done)), H', ⟨by first | omega | exact Nat.le_refl _⟩, ⟨by (with_reducible repeat (first | apply Kd.V_alloc | apply Kd.V_drewN | apply Kd.V_drew)); exact Kd.V_mono HO0_4.out (fun _ hk => ⟨hk.1.1.1, ⟨hk.1.1.2, ⟨hk.1.2, hk.2⟩⟩⟩)⟩, ⟨by refine bk ?_; exact BK122.out⟩, ⟨by refine bk ?_; exact BK123.out⟩, ⟨by refine bk ?_; exact BK124.out⟩, ⟨by exact pbE HB.out⟩⟩
    · rw [if_neg c8] at H
      have c8b0 : (t125 == 0) = false := beq_eq_false_iff_ne.mpr c8
      have c8b1 : (t125 != 0) = true := bne_iff_ne.mpr c8
      (first | rw [c8b0] | (simp only [i64_w, i32_w]; rw [c8b0]) | skip)
      have H' := Az.mk H
      clear H
      have hnb17 := NB122_123.out
      have hnc17 := NB123_122.out
      have hnb18 := NB122_124.out
      have hnc18 := NB124_122.out
      have hcz19_0 : w6.cell? ⟨gb122, 0, none⟩ = some (.int .i64 a0_0) := (bkC BK122.out 0).trans rfl
      have hcz19_1 : w6.cell? ⟨gb122, 1, none⟩ = some (.string a0_1) := (bkC BK122.out 1).trans rfl
      have hcz19_2 : w6.cell? ⟨gb122, 2, none⟩ = some (.string a0_2) := (bkC BK122.out 2).trans rfl
      have hcz19_3 : w6.cell? ⟨gb122, 3, none⟩ = some (.int .i64 a0_3) := (bkC BK122.out 3).trans rfl
      have hcz19_4 : w6.cell? ⟨gb122, 4, none⟩ = some (.slice A0_4 l0_4.length c0_4) := (bkC BK122.out 4).trans rfl
      have hcz19_5 : w6.cell? ⟨gb122, 5, none⟩ = some (.int .i64 a0_5) := (bkC BK122.out 5).trans rfl
      have hfz19_0 := bkF BK122.out 0
      have hfz19_1 := bkF BK122.out 1
      have hfz19_2 := bkF BK122.out 2
      have hfz19_3 := bkF BK122.out 3
      have hfz19_4 := bkF BK122.out 4
      have hfz19_5 := bkF BK122.out 5
      go_wp2_with ((with_reducible refine gtc (f := 22) rfl ?_); refine goesL_ (some 9) rfl rfl Tryd.func22 (by kernel_rfl) rfl #[.agg #[.int .i64 a0_0, .string a0_1, .string a0_2, .int .i64 a0_3, .slice A0_4 l0_4.length c0_4, .int .i64 a0_5]] rfl (by (try simp only [List.map_toArray, List.map_cons, List.map_nil]); first | done | rfl | (simp only [List.length_drop, List.length_take]; rfl)) ?_; (with_reducible refine (desc_Check.calls a0_0 a0_1 a0_2 a0_3 _ _ l0_4 a0_5 t125 _ ?side1 ?side2 ?side3 A7.out).mono ?_); (case side1 => exact hG.below (by exact pbE HB.out)); (case side2 => repeat (first | exact (Kd.V_reads' HO0_4.out).2.2 | (with_reducible refine Kd.C_alloc ?_ _) | (with_reducible refine Kd.C_drewN ?_ _) | (with_reducible refine Kd.C_drew ?_))); (case side3 => exact (Kd.V_reads' HO0_4.out).2.1); rintro e w20 ⟨rfl, hb⟩; refine ⟨_, rfl, ?_⟩; have n0_ := Az.mk (Kd.V_below (Kd.V_ext HO0_4.out) hb); have n1_ := Az.mk (bkB (g := gb122) (o := .cells #[.int .i64 a0_0, .string a0_1, .string a0_2, .int .i64 a0_3, .slice A0_4 l0_4.length c0_4, .int .i64 a0_5] 26 (0, 0)) (bk BK122.out) hb); have n2_ := Az.mk (bkB (g := gb123) (o := .cells #[.int .i64 a1_0, .string a1_1, .string a1_2, .int .i64 a1_3, .slice A1_4 l1_4.length c1_4, .int .i64 a1_5] 26 (0, 0)) (bk BK123.out) hb); have n3_ := Az.mk (bkB (g := gb124) (o := .cells #[.int .i64 0, .string (⟨#[]⟩ : ByteArray), .string (⟨#[]⟩ : ByteArray), .int .i64 0, .slice none 0 0, .int .i64 0] 26 (0, 0)) (bk BK124.out) hb); have n4_ := Az.mk (pbT (by exact pbE HB.out) hb); clear HO0_4; clear BK122; clear BK123; clear BK124; clear HB; have HO0_4 := n0_; have BK122 := n1_; have BK123 := n2_; have BK124 := n3_; have HB := n4_; clear n0_ n1_ n2_ n3_ n4_; (try clear hb); (try clear hb2); (try clear hk); (try clear hi))
      repeat (go_region; try go_wp2_with (fail))
      go_meet
      case rel => exact ⟨_, (true), (by first | rfl | (simp; done) | (simp [*]; done)), H', ⟨by first | omega | exact Nat.le_refl _⟩, ⟨by (with_reducible repeat (first | apply Kd.V_alloc | apply Kd.V_drewN | apply Kd.V_drew)); exact Kd.V_mono HO0_4.out (fun _ hk => ⟨hk.1.1.1, ⟨hk.1.1.2, ⟨hk.1.2, hk.2⟩⟩⟩)⟩, ⟨by refine bk ?_; exact BK122.out⟩, ⟨by refine bk ?_; exact BK123.out⟩, ⟨by refine bk ?_; exact BK124.out⟩, ⟨by exact pbE HB.out⟩⟩
  case rest =>
    clear HC3
    try clear c1
    try clear c2
    try clear p2
    try clear c8
    try clear c8b0
    try clear c8b1
    try clear c10
    try clear c11
    try clear c14
    try clear c17
    try clear c18
    try clear hcz12_0
    try clear hcz12_1
    try clear hcz12_2
    try clear hcz12_3
    try clear hcz12_4
    try clear hcz12_5
    try clear hcz15_0
    try clear hcz15_1
    try clear hcz15_2
    try clear hcz15_3
    try clear hcz15_4
    try clear hcz15_5
    try clear hcz19_0
    try clear hcz19_1
    try clear hcz19_2
    try clear hcz19_3
    try clear hcz19_4
    try clear hcz19_5
    try clear hfz12_0
    try clear hfz12_1
    try clear hfz12_2
    try clear hfz12_3
    try clear hfz12_4
    try clear hfz12_5
    try clear hfz15_0
    try clear hfz15_1
    try clear hfz15_2
    try clear hfz15_3
    try clear hfz15_4
    try clear hfz15_5
    try clear hfz19_0
    try clear hfz19_1
    try clear hfz19_2
    try clear hfz19_3
    try clear hfz19_4
    try clear hfz19_5
    obtain ⟨kq, x15_2, rfl, HA, HJ2, HO_123004, BK122, BK123, BK124, HB⟩ := hcut
    cases kq with
    | zero => exact absurd HA.out (by simp [desc_Merge.j0])
    | succ kj2 =>
      have H := HA.out
      clear HA
      simp only [desc_Merge.j0] at H
      by_cases c21 : x15_2 = true
      · subst c21
        have H1 : (some (0, (⟨#[]⟩ : ByteArray), (⟨#[]⟩ : ByteArray), 0, ([] : List (S60)), 0, 60)) = some (r1, r2, r3, r4, r5, r6, r7) := by rw [if_pos rfl] at H; exact H
        clear H
        have H := H1
        clear H1
        simp only [Option.some.injEq, Prod.mk.injEq] at H
        obtain ⟨rfl, rfl, rfl, rfl, rfl, rfl, rfl⟩ := H
        have hnb22 := NB124_122.out
        have hnc22 := NB122_124.out
        have hnb23 := NB124_123.out
        have hnc23 := NB123_124.out
        have hcz24_0 : wc.cell? ⟨gb124, 0, none⟩ = some (.int .i64 0) := (bkC BK124.out 0).trans rfl
        have hcz24_1 : wc.cell? ⟨gb124, 1, none⟩ = some (.string (⟨#[]⟩ : ByteArray)) := (bkC BK124.out 1).trans rfl
        have hcz24_2 : wc.cell? ⟨gb124, 2, none⟩ = some (.string (⟨#[]⟩ : ByteArray)) := (bkC BK124.out 2).trans rfl
        have hcz24_3 : wc.cell? ⟨gb124, 3, none⟩ = some (.int .i64 0) := (bkC BK124.out 3).trans rfl
        have hcz24_4 : wc.cell? ⟨gb124, 4, none⟩ = some (.slice none 0 0) := (bkC BK124.out 4).trans rfl
        have hcz24_5 : wc.cell? ⟨gb124, 5, none⟩ = some (.int .i64 0) := (bkC BK124.out 5).trans rfl
        have hfz24_0 := bkF BK124.out 0
        have hfz24_1 := bkF BK124.out 1
        have hfz24_2 := bkF BK124.out 2
        have hfz24_3 := bkF BK124.out 3
        have hfz24_4 := bkF BK124.out 4
        have hfz24_5 := bkF BK124.out 5
        go_wp2
        repeat (go_region; try go_wp2)
        refine bodyPost_ret (results_ct rfl _ _ gb124 26 #[.int .i64 0, .string (⟨#[]⟩ : ByteArray), .string (⟨#[]⟩ : ByteArray), .int .i64 0, .slice none 0 0, .int .i64 0] (0, 0) _ rfl (by refine bk ?_; refine blk_put (cs := #[.int .i64 0, .string (⟨#[]⟩ : ByteArray), .string (⟨#[]⟩ : ByteArray), .int .i64 0, .slice none 0 0, .int .i64 0]) ?_ 5 _ rfl; refine bk ?_; refine blk_put (cs := #[.int .i64 0, .string (⟨#[]⟩ : ByteArray), .string (⟨#[]⟩ : ByteArray), .int .i64 0, .slice none 0 0, .int .i64 0]) ?_ 4 _ rfl; refine bk ?_; refine blk_put (cs := #[.int .i64 0, .string (⟨#[]⟩ : ByteArray), .string (⟨#[]⟩ : ByteArray), .int .i64 0, .slice none 0 0, .int .i64 0]) ?_ 3 _ rfl; refine bk ?_; refine blk_put (cs := #[.int .i64 0, .string (⟨#[]⟩ : ByteArray), .string (⟨#[]⟩ : ByteArray), .int .i64 0, .slice none 0 0, .int .i64 0]) ?_ 2 _ rfl; refine bk ?_; refine blk_put (cs := #[.int .i64 0, .string (⟨#[]⟩ : ByteArray), .string (⟨#[]⟩ : ByteArray), .int .i64 0, .slice none 0 0, .int .i64 0]) ?_ 1 _ rfl; refine bk ?_; refine blk_put (cs := #[.int .i64 0, .string (⟨#[]⟩ : ByteArray), .string (⟨#[]⟩ : ByteArray), .int .i64 0, .slice none 0 0, .int .i64 0]) ?_ 0 _ rfl; refine bk ?_; exact BK124.out) Tryd.underlying26 rfl (by kernel_rfl)) rfl ?_
        exact ⟨_, by first | rfl | (simp [errW_none, errW_some] <;> rfl) | (simp [*, errW_none, errW_some] <;> rfl), Kd.V_nil _ _ _ _ _, by exact pbE HB.out⟩
      · replace c21 := Bool.eq_false_iff.mpr c21
        subst c21
        have H1 : ((bound_Join.f a0_1 a0_2 a1_1 a1_2).bind fun bt127 => (if bt127.2.2 = 0 then (if a0_0 = a1_0 then (some (0, (⟨#[]⟩ : ByteArray), (⟨#[]⟩ : ByteArray), 0, ([] : List (S60)), 0, 2)) else ((desc_right.f a0_0 bt127.1 bt127.2.1 (wrap64 ((mx a0_3 a1_3) + 1)) l0_4 a0_5).bind fun bt131 => (some (bt131.1, bt131.2.1, bt131.2.2.1, bt131.2.2.2.1, bt131.2.2.2.2.1, bt131.2.2.2.2.2.1, bt131.2.2.2.2.2.2)))) else (some (0, (⟨#[]⟩ : ByteArray), (⟨#[]⟩ : ByteArray), 0, ([] : List (S60)), 0, bt127.2.2)))) = some (r1, r2, r3, r4, r5, r6, r7) := by rw [if_neg (show ¬ (false = true) by decide)] at H; exact H
        clear H
        have H := H1
        clear H1
        replace H := Option.bind_eq_some_iff.mp H
        obtain ⟨⟨t127, t128, t129⟩, A250, H⟩ := H
        replace H : (if t129 = 0 then (if a0_0 = a1_0 then (some (0, (⟨#[]⟩ : ByteArray), (⟨#[]⟩ : ByteArray), 0, ([] : List (S60)), 0, 2)) else ((desc_right.f a0_0 t127 t128 (wrap64 ((mx a0_3 a1_3) + 1)) l0_4 a0_5).bind fun bt131 => (some (bt131.1, bt131.2.1, bt131.2.2.1, bt131.2.2.2.1, bt131.2.2.2.2.1, bt131.2.2.2.2.2.1, bt131.2.2.2.2.2.2)))) else (some (0, (⟨#[]⟩ : ByteArray), (⟨#[]⟩ : ByteArray), 0, ([] : List (S60)), 0, t129))) = some (r1, r2, r3, r4, r5, r6, r7) := H
        have A25 := Az.mk A250
        clear A250
        by_cases c26 : t129 = 0
        · rw [if_pos c26] at H
          have c26b0 : (t129 == 0) = true := beq_iff_eq.mpr c26
          have c26b1 : (t129 != 0) = false := bne_eq_false_iff_eq.mpr c26
          clear c26
          by_cases c27 : a0_0 = a1_0
          · rw [if_pos c27] at H
            have c27b0 : (a0_0 == a1_0) = true := beq_iff_eq.mpr c27
            have c27b1 : (a0_0 != a1_0) = false := bne_eq_false_iff_eq.mpr c27
            clear c27
            simp only [Option.some.injEq, Prod.mk.injEq] at H
            obtain ⟨rfl, rfl, rfl, rfl, rfl, rfl, rfl⟩ := H
            have hnb28 := NB122_123.out
            have hnc28 := NB123_122.out
            have hnb29 := NB122_124.out
            have hnc29 := NB124_122.out
            have hcz30_0 : wc.cell? ⟨gb122, 0, none⟩ = some (.int .i64 a0_0) := (bkC BK122.out 0).trans rfl
            have hcz30_1 : wc.cell? ⟨gb122, 1, none⟩ = some (.string a0_1) := (bkC BK122.out 1).trans rfl
            have hcz30_2 : wc.cell? ⟨gb122, 2, none⟩ = some (.string a0_2) := (bkC BK122.out 2).trans rfl
            have hcz30_3 : wc.cell? ⟨gb122, 3, none⟩ = some (.int .i64 a0_3) := (bkC BK122.out 3).trans rfl
            have hcz30_4 : wc.cell? ⟨gb122, 4, none⟩ = some (.slice A0_4 l0_4.length c0_4) := (bkC BK122.out 4).trans rfl
            have hcz30_5 : wc.cell? ⟨gb122, 5, none⟩ = some (.int .i64 a0_5) := (bkC BK122.out 5).trans rfl
            have hfz30_0 := bkF BK122.out 0
            have hfz30_1 := bkF BK122.out 1
            have hfz30_2 := bkF BK122.out 2
            have hfz30_3 := bkF BK122.out 3
            have hfz30_4 := bkF BK122.out 4
            have hfz30_5 := bkF BK122.out 5
            have hnb31 := NB123_124.out
            have hnc31 := NB124_123.out
            have hcz32_0 : wc.cell? ⟨gb123, 0, none⟩ = some (.int .i64 a1_0) := (bkC BK123.out 0).trans rfl
            have hcz32_1 : wc.cell? ⟨gb123, 1, none⟩ = some (.string a1_1) := (bkC BK123.out 1).trans rfl
            have hcz32_2 : wc.cell? ⟨gb123, 2, none⟩ = some (.string a1_2) := (bkC BK123.out 2).trans rfl
            have hcz32_3 : wc.cell? ⟨gb123, 3, none⟩ = some (.int .i64 a1_3) := (bkC BK123.out 3).trans rfl
            have hcz32_4 : wc.cell? ⟨gb123, 4, none⟩ = some (.slice A1_4 l1_4.length c1_4) := (bkC BK123.out 4).trans rfl
            have hcz32_5 : wc.cell? ⟨gb123, 5, none⟩ = some (.int .i64 a1_5) := (bkC BK123.out 5).trans rfl
            have hfz32_0 := bkF BK123.out 0
            have hfz32_1 := bkF BK123.out 1
            have hfz32_2 := bkF BK123.out 2
            have hfz32_3 := bkF BK123.out 3
            have hfz32_4 := bkF BK123.out 4
            have hfz32_5 := bkF BK123.out 5
            go_wp2_with (first | ((with_reducible refine gtc (f := 36) rfl ?_); refine goesL_ (some 22) rfl rfl Tryd.func36 (by kernel_rfl) rfl #[.agg #[.string a0_1, .string a0_2], .agg #[.string a1_1, .string a1_2]] rfl (by (try simp only [List.map_toArray, List.map_cons, List.map_nil]); first | done | rfl | (simp only [List.length_drop, List.length_take]; rfl)) ?_; (with_reducible refine (bound_Join.calls a0_1 a0_2 a1_1 a1_2 t127 t128 t129 _ ?side1 A25.out).mono ?_); (case side1 => exact hG.below (by exact pbE HB.out)); rintro e w33 ⟨rfl, hb⟩; refine ⟨_, rfl, ?_⟩; have n0_ := Az.mk (Kd.V_below (Kd.V_ext HO_123004.out) hb); have n1_ := Az.mk (bkB (g := gb122) (o := .cells #[.int .i64 a0_0, .string a0_1, .string a0_2, .int .i64 a0_3, .slice A0_4 l0_4.length c0_4, .int .i64 a0_5] 26 (0, 0)) (bk BK122.out) hb); have n2_ := Az.mk (bkB (g := gb123) (o := .cells #[.int .i64 a1_0, .string a1_1, .string a1_2, .int .i64 a1_3, .slice A1_4 l1_4.length c1_4, .int .i64 a1_5] 26 (0, 0)) (bk BK123.out) hb); have n3_ := Az.mk (bkB (g := gb124) (o := .cells #[.int .i64 0, .string (⟨#[]⟩ : ByteArray), .string (⟨#[]⟩ : ByteArray), .int .i64 0, .slice none 0 0, .int .i64 0] 26 (0, 0)) (bk BK124.out) hb); have n4_ := Az.mk (pbT (by exact pbE HB.out) hb); clear HO_123004; clear BK122; clear BK123; clear BK124; clear HB; have HO_123004 := n0_; have BK122 := n1_; have BK123 := n2_; have BK124 := n3_; have HB := n4_; clear n0_ n1_ n2_ n3_ n4_; (try clear hb); (try clear hb2); (try clear hk); (try clear hi)) | ((with_reducible refine gate_dst (N := 6) rfl ?_); refine box_event ?hg (N := 6) ?hd (cs := #[.string (⟨#[]⟩ : ByteArray), .string (⟨#[]⟩ : ByteArray)]) (t := 23) ?hr ?_; (case hd => rfl); (case hg => rfl); (case hr => first | (go_simp; done) | (go_simp; rfl)); intro gb130 hg w34 hbox hb; have n0_ := Az.mk (Kd.V_below (Kd.V_elderB (Kd.V_ext HO_123004.out) gb130 (Nat.le_of_eq hg.symm)) hb); have n1_ := Az.mk (bkB (g := gb122) (o := .cells #[.int .i64 a0_0, .string a0_1, .string a0_2, .int .i64 a0_3, .slice A0_4 l0_4.length c0_4, .int .i64 a0_5] 26 (0, 0)) (bk BK122.out) hb); have n2_ := Az.mk (bkB (g := gb123) (o := .cells #[.int .i64 a1_0, .string a1_1, .string a1_2, .int .i64 a1_3, .slice A1_4 l1_4.length c1_4, .int .i64 a1_5] 26 (0, 0)) (bk BK123.out) hb); have n3_ := Az.mk (bkB (g := gb124) (o := .cells #[.int .i64 0, .string (⟨#[]⟩ : ByteArray), .string (⟨#[]⟩ : ByteArray), .int .i64 0, .slice none 0 0, .int .i64 0] 26 (0, 0)) (bk BK124.out) hb); have n4_ := Az.mk (pbT (by exact pbE HB.out) hb); have n5_ := Az.mk (hbox); have n6_ := Az.mk ((by rw [hg]; exact (pbZ (by exact pbE HB.out)) : w.heap.size ≤ gb130)); have n7_ := Az.mk ((by rw [hg]; exact (pbZ (by exact pbE HB.out)) : w.heap.size ≤ gb130)); have n8_ := Az.mk ((by rw [hg]; exact Nat.ne_of_lt (blk_lt (g := gb122) (o := .cells #[.int .i64 a0_0, .string a0_1, .string a0_2, .int .i64 a0_3, .slice A0_4 l0_4.length c0_4, .int .i64 a0_5] 26 (0, 0)) (bk BK122.out)) : gb122 ≠ gb130)); have n9_ := Az.mk ((by rw [hg]; exact Nat.ne_of_gt (blk_lt (g := gb122) (o := .cells #[.int .i64 a0_0, .string a0_1, .string a0_2, .int .i64 a0_3, .slice A0_4 l0_4.length c0_4, .int .i64 a0_5] 26 (0, 0)) (bk BK122.out)) : gb130 ≠ gb122)); have n10_ := Az.mk ((by rw [hg]; exact Nat.ne_of_lt (blk_lt (g := gb123) (o := .cells #[.int .i64 a1_0, .string a1_1, .string a1_2, .int .i64 a1_3, .slice A1_4 l1_4.length c1_4, .int .i64 a1_5] 26 (0, 0)) (bk BK123.out)) : gb123 ≠ gb130)); have n11_ := Az.mk ((by rw [hg]; exact Nat.ne_of_gt (blk_lt (g := gb123) (o := .cells #[.int .i64 a1_0, .string a1_1, .string a1_2, .int .i64 a1_3, .slice A1_4 l1_4.length c1_4, .int .i64 a1_5] 26 (0, 0)) (bk BK123.out)) : gb130 ≠ gb123)); have n12_ := Az.mk ((by rw [hg]; exact Nat.ne_of_lt (blk_lt (g := gb124) (o := .cells #[.int .i64 0, .string (⟨#[]⟩ : ByteArray), .string (⟨#[]⟩ : ByteArray), .int .i64 0, .slice none 0 0, .int .i64 0] 26 (0, 0)) (bk BK124.out)) : gb124 ≠ gb130)); have n13_ := Az.mk ((by rw [hg]; exact Nat.ne_of_gt (blk_lt (g := gb124) (o := .cells #[.int .i64 0, .string (⟨#[]⟩ : ByteArray), .string (⟨#[]⟩ : ByteArray), .int .i64 0, .slice none 0 0, .int .i64 0] 26 (0, 0)) (bk BK124.out)) : gb130 ≠ gb124)); clear HO_123004; clear BK122; clear BK123; clear BK124; clear HB; have HO_123004 := n0_; have BK122 := n1_; have BK123 := n2_; have BK124 := n3_; have HB := n4_; have BK130 := n5_; have GW130 := n6_; have GE130 := n7_; have NB122_130 := n8_; have NB130_122 := n9_; have NB123_130 := n10_; have NB130_123 := n11_; have NB124_130 := n12_; have NB130_124 := n13_; clear n0_ n1_ n2_ n3_ n4_ n5_ n6_ n7_ n8_ n9_ n10_ n11_ n12_ n13_; clear hb hbox hg; have hnb35 := NB130_122.out; have hnc35 := NB122_130.out; have hnb36 := NB130_123.out; have hnc36 := NB123_130.out; have hnb37 := NB130_124.out; have hnc37 := NB124_130.out; have hcz38_0 : w34.cell? ⟨gb130, 0, none⟩ = some (.string (⟨#[]⟩ : ByteArray)) := (bkC BK130.out 0).trans rfl; have hcz38_1 : w34.cell? ⟨gb130, 1, none⟩ = some (.string (⟨#[]⟩ : ByteArray)) := (bkC BK130.out 1).trans rfl; have hfz38_0 := bkF BK130.out 0; have hfz38_1 := bkF BK130.out 1; have hcz39_0 : w34.cell? ⟨gb122, 0, none⟩ = some (.int .i64 a0_0) := (bkC BK122.out 0).trans rfl; have hcz39_1 : w34.cell? ⟨gb122, 1, none⟩ = some (.string a0_1) := (bkC BK122.out 1).trans rfl; have hcz39_2 : w34.cell? ⟨gb122, 2, none⟩ = some (.string a0_2) := (bkC BK122.out 2).trans rfl; have hcz39_3 : w34.cell? ⟨gb122, 3, none⟩ = some (.int .i64 a0_3) := (bkC BK122.out 3).trans rfl; have hcz39_4 : w34.cell? ⟨gb122, 4, none⟩ = some (.slice A0_4 l0_4.length c0_4) := (bkC BK122.out 4).trans rfl; have hcz39_5 : w34.cell? ⟨gb122, 5, none⟩ = some (.int .i64 a0_5) := (bkC BK122.out 5).trans rfl; have hfz39_0 := bkF BK122.out 0; have hfz39_1 := bkF BK122.out 1; have hfz39_2 := bkF BK122.out 2; have hfz39_3 := bkF BK122.out 3; have hfz39_4 := bkF BK122.out 4; have hfz39_5 := bkF BK122.out 5; have hcz40_0 : w34.cell? ⟨gb123, 0, none⟩ = some (.int .i64 a1_0) := (bkC BK123.out 0).trans rfl; have hcz40_1 : w34.cell? ⟨gb123, 1, none⟩ = some (.string a1_1) := (bkC BK123.out 1).trans rfl; have hcz40_2 : w34.cell? ⟨gb123, 2, none⟩ = some (.string a1_2) := (bkC BK123.out 2).trans rfl; have hcz40_3 : w34.cell? ⟨gb123, 3, none⟩ = some (.int .i64 a1_3) := (bkC BK123.out 3).trans rfl; have hcz40_4 : w34.cell? ⟨gb123, 4, none⟩ = some (.slice A1_4 l1_4.length c1_4) := (bkC BK123.out 4).trans rfl; have hcz40_5 : w34.cell? ⟨gb123, 5, none⟩ = some (.int .i64 a1_5) := (bkC BK123.out 5).trans rfl; have hfz40_0 := bkF BK123.out 0; have hfz40_1 := bkF BK123.out 1; have hfz40_2 := bkF BK123.out 2; have hfz40_3 := bkF BK123.out 3; have hfz40_4 := bkF BK123.out 4; have hfz40_5 := bkF BK123.out 5; have hcz41_0 : w34.cell? ⟨gb124, 0, none⟩ = some (.int .i64 0) := (bkC BK124.out 0).trans rfl; have hcz41_1 : w34.cell? ⟨gb124, 1, none⟩ = some (.string (⟨#[]⟩ : ByteArray)) := (bkC BK124.out 1).trans rfl; have hcz41_2 : w34.cell? ⟨gb124, 2, none⟩ = some (.string (⟨#[]⟩ : ByteArray)) := (bkC BK124.out 2).trans rfl; have hcz41_3 : w34.cell? ⟨gb124, 3, none⟩ = some (.int .i64 0) := (bkC BK124.out 3).trans rfl; have hcz41_4 : w34.cell? ⟨gb124, 4, none⟩ = some (.slice none 0 0) := (bkC BK124.out 4).trans rfl; have hcz41_5 : w34.cell? ⟨gb124, 5, none⟩ = some (.int .i64 0) := (bkC BK124.out 5).trans rfl; have hfz41_0 := bkF BK124.out 0; have hfz41_1 := bkF BK124.out 1; have hfz41_2 := bkF BK124.out 2; have hfz41_3 := bkF BK124.out 3; have hfz41_4 := bkF BK124.out 4; have hfz41_5 := bkF BK124.out 5))
            repeat (go_region; try go_wp2_with (fail))
            refine bodyPost_ret (results_ct rfl _ _ gb124 26 #[.int .i64 0, .string (⟨#[]⟩ : ByteArray), .string (⟨#[]⟩ : ByteArray), .int .i64 0, .slice none 0 0, .int .i64 0] (0, 0) _ rfl (by refine bk ?_; refine blk_put (cs := #[.int .i64 0, .string (⟨#[]⟩ : ByteArray), .string (⟨#[]⟩ : ByteArray), .int .i64 0, .slice none 0 0, .int .i64 0]) ?_ 5 _ rfl; refine bk ?_; refine blk_put (cs := #[.int .i64 0, .string (⟨#[]⟩ : ByteArray), .string (⟨#[]⟩ : ByteArray), .int .i64 0, .slice none 0 0, .int .i64 0]) ?_ 4 _ rfl; refine bk ?_; refine blk_put (cs := #[.int .i64 0, .string (⟨#[]⟩ : ByteArray), .string (⟨#[]⟩ : ByteArray), .int .i64 0, .slice none 0 0, .int .i64 0]) ?_ 3 _ rfl; refine bk ?_; refine blk_put (cs := #[.int .i64 0, .string (⟨#[]⟩ : ByteArray), .string (⟨#[]⟩ : ByteArray), .int .i64 0, .slice none 0 0, .int .i64 0]) ?_ 2 _ rfl; refine bk ?_; refine blk_put (cs := #[.int .i64 0, .string (⟨#[]⟩ : ByteArray), .string (⟨#[]⟩ : ByteArray), .int .i64 0, .slice none 0 0, .int .i64 0]) ?_ 1 _ rfl; refine bk ?_; refine blk_put (cs := #[.int .i64 0, .string (⟨#[]⟩ : ByteArray), .string (⟨#[]⟩ : ByteArray), .int .i64 0, .slice none 0 0, .int .i64 0]) ?_ 0 _ rfl; refine bk ?_; refine blk_far ?_ NB124_130.out _; refine bk ?_; refine blk_far ?_ NB124_130.out _; refine bk ?_; exact BK124.out) Tryd.underlying26 rfl (by kernel_rfl)) rfl ?_
            exact ⟨_, by first | rfl | (simp [errW_none, errW_some] <;> rfl) | (simp [*, errW_none, errW_some] <;> rfl), Kd.V_nil _ _ _ _ _, by exact pbE HB.out⟩
          · rw [if_neg c27] at H
            have c27b0 : (a0_0 == a1_0) = false := beq_eq_false_iff_ne.mpr c27
            have c27b1 : (a0_0 != a1_0) = true := bne_iff_ne.mpr c27
            obtain ⟨ji42, hji42⟩ : ∃ j_ : Int, (mx a0_3 a1_3) = j_ := ⟨_, rfl⟩
            replace H : ((desc_right.f a0_0 t127 t128 (wrap64 ((ji42) + 1)) l0_4 a0_5).bind fun bt131 => (some (bt131.1, bt131.2.1, bt131.2.2.1, bt131.2.2.2.1, bt131.2.2.2.2.1, bt131.2.2.2.2.2.1, bt131.2.2.2.2.2.2))) = some (r1, r2, r3, r4, r5, r6, r7) := by first | (rw [hji42] at H; exact H) | (simp only [hji42] at H ⊢; exact H)
            (try rw [hji42] at A25)
            have hji42_ : (if a0_3 < a1_3 then a1_3 else a0_3) = ji42 := hji42
            replace H := Option.bind_eq_some_iff.mp H
            obtain ⟨⟨t131, t132, t133, t134, t135, t138, t139⟩, A430, H⟩ := H
            replace H : (some (t131, t132, t133, t134, t135, t138, t139)) = some (r1, r2, r3, r4, r5, r6, r7) := H
            have A43 := Az.mk A430
            clear A430
            simp only [Option.some.injEq, Prod.mk.injEq] at H
            obtain ⟨rfl, rfl, rfl, rfl, rfl, rfl, rfl⟩ := H
            have hnb44 := NB122_123.out
            have hnc44 := NB123_122.out
            have hnb45 := NB122_124.out
            have hnc45 := NB124_122.out
            have hcz46_0 : wc.cell? ⟨gb122, 0, none⟩ = some (.int .i64 a0_0) := (bkC BK122.out 0).trans rfl
            have hcz46_1 : wc.cell? ⟨gb122, 1, none⟩ = some (.string a0_1) := (bkC BK122.out 1).trans rfl
            have hcz46_2 : wc.cell? ⟨gb122, 2, none⟩ = some (.string a0_2) := (bkC BK122.out 2).trans rfl
            have hcz46_3 : wc.cell? ⟨gb122, 3, none⟩ = some (.int .i64 a0_3) := (bkC BK122.out 3).trans rfl
            have hcz46_4 : wc.cell? ⟨gb122, 4, none⟩ = some (.slice A0_4 l0_4.length c0_4) := (bkC BK122.out 4).trans rfl
            have hcz46_5 : wc.cell? ⟨gb122, 5, none⟩ = some (.int .i64 a0_5) := (bkC BK122.out 5).trans rfl
            have hfz46_0 := bkF BK122.out 0
            have hfz46_1 := bkF BK122.out 1
            have hfz46_2 := bkF BK122.out 2
            have hfz46_3 := bkF BK122.out 3
            have hfz46_4 := bkF BK122.out 4
            have hfz46_5 := bkF BK122.out 5
            have hnb47 := NB123_124.out
            have hnc47 := NB124_123.out
            have hcz48_0 : wc.cell? ⟨gb123, 0, none⟩ = some (.int .i64 a1_0) := (bkC BK123.out 0).trans rfl
            have hcz48_1 : wc.cell? ⟨gb123, 1, none⟩ = some (.string a1_1) := (bkC BK123.out 1).trans rfl
            have hcz48_2 : wc.cell? ⟨gb123, 2, none⟩ = some (.string a1_2) := (bkC BK123.out 2).trans rfl
            have hcz48_3 : wc.cell? ⟨gb123, 3, none⟩ = some (.int .i64 a1_3) := (bkC BK123.out 3).trans rfl
            have hcz48_4 : wc.cell? ⟨gb123, 4, none⟩ = some (.slice A1_4 l1_4.length c1_4) := (bkC BK123.out 4).trans rfl
            have hcz48_5 : wc.cell? ⟨gb123, 5, none⟩ = some (.int .i64 a1_5) := (bkC BK123.out 5).trans rfl
            have hfz48_0 := bkF BK123.out 0
            have hfz48_1 := bkF BK123.out 1
            have hfz48_2 := bkF BK123.out 2
            have hfz48_3 := bkF BK123.out 3
            have hfz48_4 := bkF BK123.out 4
            have hfz48_5 := bkF BK123.out 5
            go_wp2_with (first | ((with_reducible refine gtc (f := 36) rfl ?_); refine goesL_ (some 22) rfl rfl Tryd.func36 (by kernel_rfl) rfl #[.agg #[.string a0_1, .string a0_2], .agg #[.string a1_1, .string a1_2]] rfl (by (try simp only [List.map_toArray, List.map_cons, List.map_nil]); first | done | rfl | (simp only [List.length_drop, List.length_take]; rfl)) ?_; (with_reducible refine (bound_Join.calls a0_1 a0_2 a1_1 a1_2 t127 t128 t129 _ ?side1 A25.out).mono ?_); (case side1 => exact hG.below (by exact pbE HB.out)); rintro e w49 ⟨rfl, hb⟩; refine ⟨_, rfl, ?_⟩; have n0_ := Az.mk (Kd.V_below (Kd.V_ext HO_123004.out) hb); have n1_ := Az.mk (bkB (g := gb122) (o := .cells #[.int .i64 a0_0, .string a0_1, .string a0_2, .int .i64 a0_3, .slice A0_4 l0_4.length c0_4, .int .i64 a0_5] 26 (0, 0)) (bk BK122.out) hb); have n2_ := Az.mk (bkB (g := gb123) (o := .cells #[.int .i64 a1_0, .string a1_1, .string a1_2, .int .i64 a1_3, .slice A1_4 l1_4.length c1_4, .int .i64 a1_5] 26 (0, 0)) (bk BK123.out) hb); have n3_ := Az.mk (bkB (g := gb124) (o := .cells #[.int .i64 0, .string (⟨#[]⟩ : ByteArray), .string (⟨#[]⟩ : ByteArray), .int .i64 0, .slice none 0 0, .int .i64 0] 26 (0, 0)) (bk BK124.out) hb); have n4_ := Az.mk (pbT (by exact pbE HB.out) hb); clear HO_123004; clear BK122; clear BK123; clear BK124; clear HB; have HO_123004 := n0_; have BK122 := n1_; have BK123 := n2_; have BK124 := n3_; have HB := n4_; clear n0_ n1_ n2_ n3_ n4_; (try clear hb); (try clear hb2); (try clear hk); (try clear hi)) | ((with_reducible refine gate_dst (N := 6) rfl ?_); refine box_event ?hg (N := 6) ?hd (cs := #[.string (⟨#[]⟩ : ByteArray), .string (⟨#[]⟩ : ByteArray)]) (t := 23) ?hr ?_; (case hd => rfl); (case hg => rfl); (case hr => first | (go_simp; done) | (go_simp; rfl)); intro gb130 hg w50 hbox hb; have n0_ := Az.mk (Kd.V_below (Kd.V_elderB (Kd.V_ext HO_123004.out) gb130 (Nat.le_of_eq hg.symm)) hb); have n1_ := Az.mk (bkB (g := gb122) (o := .cells #[.int .i64 a0_0, .string a0_1, .string a0_2, .int .i64 a0_3, .slice A0_4 l0_4.length c0_4, .int .i64 a0_5] 26 (0, 0)) (bk BK122.out) hb); have n2_ := Az.mk (bkB (g := gb123) (o := .cells #[.int .i64 a1_0, .string a1_1, .string a1_2, .int .i64 a1_3, .slice A1_4 l1_4.length c1_4, .int .i64 a1_5] 26 (0, 0)) (bk BK123.out) hb); have n3_ := Az.mk (bkB (g := gb124) (o := .cells #[.int .i64 0, .string (⟨#[]⟩ : ByteArray), .string (⟨#[]⟩ : ByteArray), .int .i64 0, .slice none 0 0, .int .i64 0] 26 (0, 0)) (bk BK124.out) hb); have n4_ := Az.mk (pbT (by exact pbE HB.out) hb); have n5_ := Az.mk (hbox); have n6_ := Az.mk ((by rw [hg]; exact (pbZ (by exact pbE HB.out)) : w.heap.size ≤ gb130)); have n7_ := Az.mk ((by rw [hg]; exact (pbZ (by exact pbE HB.out)) : w.heap.size ≤ gb130)); have n8_ := Az.mk ((by rw [hg]; exact Nat.ne_of_lt (blk_lt (g := gb122) (o := .cells #[.int .i64 a0_0, .string a0_1, .string a0_2, .int .i64 a0_3, .slice A0_4 l0_4.length c0_4, .int .i64 a0_5] 26 (0, 0)) (bk BK122.out)) : gb122 ≠ gb130)); have n9_ := Az.mk ((by rw [hg]; exact Nat.ne_of_gt (blk_lt (g := gb122) (o := .cells #[.int .i64 a0_0, .string a0_1, .string a0_2, .int .i64 a0_3, .slice A0_4 l0_4.length c0_4, .int .i64 a0_5] 26 (0, 0)) (bk BK122.out)) : gb130 ≠ gb122)); have n10_ := Az.mk ((by rw [hg]; exact Nat.ne_of_lt (blk_lt (g := gb123) (o := .cells #[.int .i64 a1_0, .string a1_1, .string a1_2, .int .i64 a1_3, .slice A1_4 l1_4.length c1_4, .int .i64 a1_5] 26 (0, 0)) (bk BK123.out)) : gb123 ≠ gb130)); have n11_ := Az.mk ((by rw [hg]; exact Nat.ne_of_gt (blk_lt (g := gb123) (o := .cells #[.int .i64 a1_0, .string a1_1, .string a1_2, .int .i64 a1_3, .slice A1_4 l1_4.length c1_4, .int .i64 a1_5] 26 (0, 0)) (bk BK123.out)) : gb130 ≠ gb123)); have n12_ := Az.mk ((by rw [hg]; exact Nat.ne_of_lt (blk_lt (g := gb124) (o := .cells #[.int .i64 0, .string (⟨#[]⟩ : ByteArray), .string (⟨#[]⟩ : ByteArray), .int .i64 0, .slice none 0 0, .int .i64 0] 26 (0, 0)) (bk BK124.out)) : gb124 ≠ gb130)); have n13_ := Az.mk ((by rw [hg]; exact Nat.ne_of_gt (blk_lt (g := gb124) (o := .cells #[.int .i64 0, .string (⟨#[]⟩ : ByteArray), .string (⟨#[]⟩ : ByteArray), .int .i64 0, .slice none 0 0, .int .i64 0] 26 (0, 0)) (bk BK124.out)) : gb130 ≠ gb124)); clear HO_123004; clear BK122; clear BK123; clear BK124; clear HB; have HO_123004 := n0_; have BK122 := n1_; have BK123 := n2_; have BK124 := n3_; have HB := n4_; have BK130 := n5_; have GW130 := n6_; have GE130 := n7_; have NB122_130 := n8_; have NB130_122 := n9_; have NB123_130 := n10_; have NB130_123 := n11_; have NB124_130 := n12_; have NB130_124 := n13_; clear n0_ n1_ n2_ n3_ n4_ n5_ n6_ n7_ n8_ n9_ n10_ n11_ n12_ n13_; clear hb hbox hg; have hnb51 := NB130_122.out; have hnc51 := NB122_130.out; have hnb52 := NB130_123.out; have hnc52 := NB123_130.out; have hnb53 := NB130_124.out; have hnc53 := NB124_130.out; have hcz54_0 : w50.cell? ⟨gb130, 0, none⟩ = some (.string (⟨#[]⟩ : ByteArray)) := (bkC BK130.out 0).trans rfl; have hcz54_1 : w50.cell? ⟨gb130, 1, none⟩ = some (.string (⟨#[]⟩ : ByteArray)) := (bkC BK130.out 1).trans rfl; have hfz54_0 := bkF BK130.out 0; have hfz54_1 := bkF BK130.out 1) | ((with_reducible refine gate_store (t := 23) (p := 6) rfl ?_); refine store_event (t := 23) (p := 6) (v := ?vo_w55) (w1 := ((w50.setCell ⟨gb130, 0, none⟩ (.string t127)).setCell ⟨gb130, 1, none⟩ (.string t128))) ?hg ?ho ?hn ?hr ?_; (case ho => rfl); (case hg => rfl); (case hn => rfl); (case hr => first | (go_simp; done) | (go_simp; rfl)); intro w55 hw; have n0_ : Az (Kd.V k60 60 w55 w.heap.size (fun k_ => (P0_4_ k_ ∨ w.heap.size ≤ k_) ∧ k_ ≠ gb122 ∧ k_ ≠ gb123 ∧ k_ ≠ gb124 ∧ k_ ≠ gb130) (.slice A0_4 l0_4.length c0_4) l0_4) := ⟨(by rw [hw]; exact (by (with_reducible repeat (first | apply Kd.V_alloc | apply Kd.V_drewN | apply Kd.V_drew)); exact Kd.V_mono (Kd.V_far (p := ⟨gb130, 1, none⟩) (Kd.V_far (p := ⟨gb130, 0, none⟩) (Kd.V_mono HO_123004.out (fun k_ hk => (⟨hk, hk.2⟩ : _ ∧ k_ ≠ gb130))) (fun _ hk => hk.2) (.string t127)) (fun _ hk => hk.2) (.string t128)) (fun _ hk => ⟨hk.1.1.1, ⟨hk.1.1.2.1, ⟨hk.1.1.2.2.1, ⟨hk.1.1.2.2.2, hk.1.2⟩⟩⟩⟩)))⟩; have n1_ : Az (w55.heap[gb122]? = some (.cells #[.int .i64 a0_0, .string a0_1, .string a0_2, .int .i64 a0_3, .slice A0_4 l0_4.length c0_4, .int .i64 a0_5] 26 (0, 0))) := ⟨(by rw [hw]; exact (by refine bk ?_; refine blk_far ?_ NB122_130.out _; refine bk ?_; refine blk_far ?_ NB122_130.out _; refine bk ?_; exact BK122.out))⟩; have n2_ : Az (w55.heap[gb123]? = some (.cells #[.int .i64 a1_0, .string a1_1, .string a1_2, .int .i64 a1_3, .slice A1_4 l1_4.length c1_4, .int .i64 a1_5] 26 (0, 0))) := ⟨(by rw [hw]; exact (by refine bk ?_; refine blk_far ?_ NB123_130.out _; refine bk ?_; refine blk_far ?_ NB123_130.out _; refine bk ?_; exact BK123.out))⟩; have n3_ : Az (w55.heap[gb124]? = some (.cells #[.int .i64 0, .string (⟨#[]⟩ : ByteArray), .string (⟨#[]⟩ : ByteArray), .int .i64 0, .slice none 0 0, .int .i64 0] 26 (0, 0))) := ⟨(by rw [hw]; exact (by refine bk ?_; refine blk_far ?_ NB124_130.out _; refine bk ?_; refine blk_far ?_ NB124_130.out _; refine bk ?_; exact BK124.out))⟩; have n4_ : Az (w55.heap[gb130]? = some (.cells #[.string t127, .string t128] 23 (0, 0))) := ⟨(by rw [hw]; exact (by refine bk ?_; refine blk_put (cs := #[.string t127, .string (⟨#[]⟩ : ByteArray)]) ?_ 1 _ rfl; refine bk ?_; refine blk_put (cs := #[.string (⟨#[]⟩ : ByteArray), .string (⟨#[]⟩ : ByteArray)]) ?_ 0 _ rfl; refine bk ?_; exact BK130.out))⟩; have n5_ : Az (Below w.heap.size w w55) := ⟨(by rw [hw]; exact (by exact pbE HB.out))⟩; clear hw; clear HO_123004; clear BK122; clear BK123; clear BK124; clear BK130; clear HB; have HO_123004 := n0_; have BK122 := n1_; have BK123 := n2_; have BK124 := n3_; have BK130 := n4_; have HB := n5_; clear n0_ n1_ n2_ n3_ n4_ n5_; have hcz56_0 : w55.cell? ⟨gb122, 0, none⟩ = some (.int .i64 a0_0) := (bkC BK122.out 0).trans rfl; have hcz56_1 : w55.cell? ⟨gb122, 1, none⟩ = some (.string a0_1) := (bkC BK122.out 1).trans rfl; have hcz56_2 : w55.cell? ⟨gb122, 2, none⟩ = some (.string a0_2) := (bkC BK122.out 2).trans rfl; have hcz56_3 : w55.cell? ⟨gb122, 3, none⟩ = some (.int .i64 a0_3) := (bkC BK122.out 3).trans rfl; have hcz56_4 : w55.cell? ⟨gb122, 4, none⟩ = some (.slice A0_4 l0_4.length c0_4) := (bkC BK122.out 4).trans rfl; have hcz56_5 : w55.cell? ⟨gb122, 5, none⟩ = some (.int .i64 a0_5) := (bkC BK122.out 5).trans rfl; have hfz56_0 := bkF BK122.out 0; have hfz56_1 := bkF BK122.out 1; have hfz56_2 := bkF BK122.out 2; have hfz56_3 := bkF BK122.out 3; have hfz56_4 := bkF BK122.out 4; have hfz56_5 := bkF BK122.out 5; have hcz57_0 : w55.cell? ⟨gb123, 0, none⟩ = some (.int .i64 a1_0) := (bkC BK123.out 0).trans rfl; have hcz57_1 : w55.cell? ⟨gb123, 1, none⟩ = some (.string a1_1) := (bkC BK123.out 1).trans rfl; have hcz57_2 : w55.cell? ⟨gb123, 2, none⟩ = some (.string a1_2) := (bkC BK123.out 2).trans rfl; have hcz57_3 : w55.cell? ⟨gb123, 3, none⟩ = some (.int .i64 a1_3) := (bkC BK123.out 3).trans rfl; have hcz57_4 : w55.cell? ⟨gb123, 4, none⟩ = some (.slice A1_4 l1_4.length c1_4) := (bkC BK123.out 4).trans rfl; have hcz57_5 : w55.cell? ⟨gb123, 5, none⟩ = some (.int .i64 a1_5) := (bkC BK123.out 5).trans rfl; have hfz57_0 := bkF BK123.out 0; have hfz57_1 := bkF BK123.out 1; have hfz57_2 := bkF BK123.out 2; have hfz57_3 := bkF BK123.out 3; have hfz57_4 := bkF BK123.out 4; have hfz57_5 := bkF BK123.out 5; have hcz58_0 : w55.cell? ⟨gb130, 0, none⟩ = some (.string t127) := (bkC BK130.out 0).trans rfl; have hcz58_1 : w55.cell? ⟨gb130, 1, none⟩ = some (.string t128) := (bkC BK130.out 1).trans rfl; have hfz58_0 := bkF BK130.out 0; have hfz58_1 := bkF BK130.out 1))
            go_region
            have n0_ := Az.mk (Kd.V_drew (Kd.V_far (p := ⟨gb122, 3, none⟩) (Kd.V_far (p := ⟨gb122, 2, none⟩) (Kd.V_far (p := ⟨gb122, 1, none⟩) HO_123004.out (fun _ hk => hk.2.1) (.string t127)) (fun _ hk => hk.2.1) (.string t128)) (fun _ hk => hk.2.1) (.int .i64 (wrap64 ((ji42) + 1)))))
            have n1_ := Az.mk (pb1 (pbS (pbS (pbS HB.out GE122.out (j := 1) (v := .string t127)) GE122.out (j := 2) (v := .string t128)) GE122.out (j := 3) (v := .int .i64 (wrap64 ((ji42) + 1)))))
            have m122_ : Az (((((w55.setCell ⟨gb122, 1, none⟩ (.string t127)).setCell ⟨gb122, 2, none⟩ (.string t128)).setCell ⟨gb122, 3, none⟩ (.int .i64 (wrap64 ((ji42) + 1)))).drew).heap[gb122]? = some (.cells #[.int .i64 a0_0, .string t127, .string t128, .int .i64 (wrap64 ((ji42) + 1)), .slice A0_4 l0_4.length c0_4, .int .i64 a0_5] 26 (0, 0))) := Az.mk (bkD (blk_put (blk_put (blk_put BK122.out 1 (.string t127) rfl) 2 (.string t128) rfl) 3 (.int .i64 (wrap64 ((ji42) + 1))) rfl))
            have m123_ := Az.mk (bkD (blk_far (p := ⟨gb122, 3, none⟩) (blk_far (p := ⟨gb122, 2, none⟩) (blk_far (p := ⟨gb122, 1, none⟩) BK123.out NB123_122.out (.string t127)) NB123_122.out (.string t128)) NB123_122.out (.int .i64 (wrap64 ((ji42) + 1)))))
            have m124_ := Az.mk (bkD (blk_far (p := ⟨gb122, 3, none⟩) (blk_far (p := ⟨gb122, 2, none⟩) (blk_far (p := ⟨gb122, 1, none⟩) BK124.out NB124_122.out (.string t127)) NB124_122.out (.string t128)) NB124_122.out (.int .i64 (wrap64 ((ji42) + 1)))))
            have m130_ := Az.mk (bkD (blk_far (p := ⟨gb122, 3, none⟩) (blk_far (p := ⟨gb122, 2, none⟩) (blk_far (p := ⟨gb122, 1, none⟩) BK130.out NB130_122.out (.string t127)) NB130_122.out (.string t128)) NB130_122.out (.int .i64 (wrap64 ((ji42) + 1)))))
            clear HO_123004 HB BK122 BK123 BK124 BK130
            generalize (((w55.setCell ⟨gb122, 1, none⟩ (.string t127)).setCell ⟨gb122, 2, none⟩ (.string t128)).setCell ⟨gb122, 3, none⟩ (.int .i64 (wrap64 ((ji42) + 1)))).drew = wq_ at n0_ n1_ m122_ m123_ m124_ m130_ ⊢
            have HO_123004 := n0_
            have HB := n1_
            have BK122 := m122_
            have BK123 := m123_
            have BK124 := m124_
            have BK130 := m130_
            clear n0_ n1_ m122_ m123_ m124_ m130_
            have hczq_0 : wq_.cell? ⟨gb122, 0, none⟩ = some (.int .i64 a0_0) := (bkC BK122.out 0).trans rfl
            have hczq_1 : wq_.cell? ⟨gb122, 1, none⟩ = some (.string t127) := (bkC BK122.out 1).trans rfl
            have hczq_2 : wq_.cell? ⟨gb122, 2, none⟩ = some (.string t128) := (bkC BK122.out 2).trans rfl
            have hczq_3 : wq_.cell? ⟨gb122, 3, none⟩ = some (.int .i64 (wrap64 ((ji42) + 1))) := (bkC BK122.out 3).trans rfl
            have hczq_4 : wq_.cell? ⟨gb122, 4, none⟩ = some (.slice A0_4 l0_4.length c0_4) := (bkC BK122.out 4).trans rfl
            have hczq_5 : wq_.cell? ⟨gb122, 5, none⟩ = some (.int .i64 a0_5) := (bkC BK122.out 5).trans rfl
            go_wp2_with ((with_reducible refine gtc (f := 37) rfl ?_); refine goesL_ (some 47) rfl rfl Tryd.func37 (by kernel_rfl) rfl #[.agg #[.int .i64 a0_0, .string t127, .string t128, .int .i64 (wrap64 ((ji42) + 1)), .slice A0_4 l0_4.length c0_4, .int .i64 a0_5]] rfl (by (try simp only [List.map_toArray, List.map_cons, List.map_nil]); first | done | (simp only [hji42]; rfl) | rfl | (simp only [List.length_drop, List.length_take]; rfl)) ?_; (with_reducible refine (desc_right.calls a0_0 t127 t128 (wrap64 ((ji42) + 1)) (fun k_ => ((P0_4_ k_ ∨ w.heap.size ≤ k_) ∧ (k_ ≠ gb122 ∧ (k_ ≠ gb123 ∧ (k_ ≠ gb124 ∧ k_ ≠ gb130))))) _ _ l0_4 a0_5 t131 t132 t133 t134 t135 t138 t139 _ ?side1 ?side2 A43.out).mono ?_); (case side1 => exact hG.below (by exact pbE HB.out)); (case side2 => exact HO_123004.out); rintro e w63 ⟨v136, rfl, ho0, hb⟩; refine ⟨_, rfl, ?_⟩; have n0_ := Az.mk (Kd.V_below (Kd.V_ext HO_123004.out) hb); have n1_ := Az.mk (Kd.V_lower (Kd.V_mono (ok' := fun k_ => (P0_4_ k_ ∨ w.heap.size ≤ k_) ∧ k_ ≠ gb122 ∧ k_ ≠ gb123 ∧ k_ ≠ gb124 ∧ k_ ≠ gb130) ho0 (fun k_ hk_ => ⟨Or.elim hk_ (fun hs_ => hs_.1) (fun hn_ => (.inr (Nat.le_trans (pbZ (by exact pbE HB.out)) hn_))), Or.elim hk_ (fun hs_ => hs_.2.1) (fun hn_ => (Kd.freshB (g := gb122) (o := .cells #[.int .i64 a0_0, .string t127, .string t128, .int .i64 (wrap64 ((ji42) + 1)), .slice A0_4 l0_4.length c0_4, .int .i64 a0_5] 26 (0, 0)) (bk BK122.out) k_ hn_)), Or.elim hk_ (fun hs_ => hs_.2.2.1) (fun hn_ => (Kd.freshB (g := gb123) (o := .cells #[.int .i64 a1_0, .string a1_1, .string a1_2, .int .i64 a1_3, .slice A1_4 l1_4.length c1_4, .int .i64 a1_5] 26 (0, 0)) (bk BK123.out) k_ hn_)), Or.elim hk_ (fun hs_ => hs_.2.2.2.1) (fun hn_ => (Kd.freshB (g := gb124) (o := .cells #[.int .i64 0, .string (⟨#[]⟩ : ByteArray), .string (⟨#[]⟩ : ByteArray), .int .i64 0, .slice none 0 0, .int .i64 0] 26 (0, 0)) (bk BK124.out) k_ hn_)), Or.elim hk_ (fun hs_ => hs_.2.2.2.2) (fun hn_ => (Kd.freshB (g := gb130) (o := .cells #[.string t127, .string t128] 23 (0, 0)) (bk BK130.out) k_ hn_))⟩)) (pbZ (by exact pbE HB.out))); have n2_ := Az.mk (bkB (g := gb122) (o := .cells #[.int .i64 a0_0, .string t127, .string t128, .int .i64 (wrap64 ((ji42) + 1)), .slice A0_4 l0_4.length c0_4, .int .i64 a0_5] 26 (0, 0)) (bk BK122.out) hb); have n3_ := Az.mk (bkB (g := gb123) (o := .cells #[.int .i64 a1_0, .string a1_1, .string a1_2, .int .i64 a1_3, .slice A1_4 l1_4.length c1_4, .int .i64 a1_5] 26 (0, 0)) (bk BK123.out) hb); have n4_ := Az.mk (bkB (g := gb124) (o := .cells #[.int .i64 0, .string (⟨#[]⟩ : ByteArray), .string (⟨#[]⟩ : ByteArray), .int .i64 0, .slice none 0 0, .int .i64 0] 26 (0, 0)) (bk BK124.out) hb); have n5_ := Az.mk (bkB (g := gb130) (o := .cells #[.string t127, .string t128] 23 (0, 0)) (bk BK130.out) hb); have n6_ := Az.mk (pbT (by exact pbE HB.out) hb); clear HO_123004; clear BK122; clear BK123; clear BK124; clear BK130; clear HB; have HO_123004 := n0_; have HO137 := n1_; have BK122 := n2_; have BK123 := n3_; have BK124 := n4_; have BK130 := n5_; have HB := n6_; clear n0_ n1_ n2_ n3_ n4_ n5_ n6_; (try clear hb); (try clear hb2); (try clear hk); (try clear hi); (try clear ho0); have hcz64_0 : w63.cell? ⟨gb124, 0, none⟩ = some (.int .i64 0) := (bkC BK124.out 0).trans rfl; have hcz64_1 : w63.cell? ⟨gb124, 1, none⟩ = some (.string (⟨#[]⟩ : ByteArray)) := (bkC BK124.out 1).trans rfl; have hcz64_2 : w63.cell? ⟨gb124, 2, none⟩ = some (.string (⟨#[]⟩ : ByteArray)) := (bkC BK124.out 2).trans rfl; have hcz64_3 : w63.cell? ⟨gb124, 3, none⟩ = some (.int .i64 0) := (bkC BK124.out 3).trans rfl; have hcz64_4 : w63.cell? ⟨gb124, 4, none⟩ = some (.slice none 0 0) := (bkC BK124.out 4).trans rfl; have hcz64_5 : w63.cell? ⟨gb124, 5, none⟩ = some (.int .i64 0) := (bkC BK124.out 5).trans rfl; have hfz64_0 := bkF BK124.out 0; have hfz64_1 := bkF BK124.out 1; have hfz64_2 := bkF BK124.out 2; have hfz64_3 := bkF BK124.out 3; have hfz64_4 := bkF BK124.out 4; have hfz64_5 := bkF BK124.out 5; obtain ⟨Ao65, co65, eo65⟩ := Kd.V_slice HO137.out; subst eo65)
            refine bodyPost_ret (results_ct rfl _ _ gb124 26 #[.int .i64 t131, .string t132, .string t133, .int .i64 t134, .slice Ao65 t135.length co65, .int .i64 t138] (0, 0) _ rfl (by refine bk ?_; refine blk_put (cs := #[.int .i64 t131, .string t132, .string t133, .int .i64 t134, .slice Ao65 t135.length co65, .int .i64 0]) ?_ 5 _ rfl; refine bk ?_; refine blk_put (cs := #[.int .i64 t131, .string t132, .string t133, .int .i64 t134, .slice none 0 0, .int .i64 0]) ?_ 4 _ rfl; refine bk ?_; refine blk_put (cs := #[.int .i64 t131, .string t132, .string t133, .int .i64 0, .slice none 0 0, .int .i64 0]) ?_ 3 _ rfl; refine bk ?_; refine blk_put (cs := #[.int .i64 t131, .string t132, .string (⟨#[]⟩ : ByteArray), .int .i64 0, .slice none 0 0, .int .i64 0]) ?_ 2 _ rfl; refine bk ?_; refine blk_put (cs := #[.int .i64 t131, .string (⟨#[]⟩ : ByteArray), .string (⟨#[]⟩ : ByteArray), .int .i64 0, .slice none 0 0, .int .i64 0]) ?_ 1 _ rfl; refine bk ?_; refine blk_put (cs := #[.int .i64 0, .string (⟨#[]⟩ : ByteArray), .string (⟨#[]⟩ : ByteArray), .int .i64 0, .slice none 0 0, .int .i64 0]) ?_ 0 _ rfl; refine bk ?_; exact BK124.out) Tryd.underlying26 rfl (by kernel_rfl)) rfl ?_
            exact ⟨_, by first | rfl | (simp [errW_none, errW_some] <;> rfl) | (simp only [← hji42]; first | rfl | (simp [errW_none, errW_some] <;> rfl)) | (simp [*, errW_none, errW_some] <;> rfl), by (with_reducible repeat (first | apply Kd.V_alloc | apply Kd.V_drewN | apply Kd.V_drew)); exact Kd.V_mono (Kd.V_far (p := ⟨gb124, 5, none⟩) (Kd.V_far (p := ⟨gb124, 4, none⟩) (Kd.V_far (p := ⟨gb124, 3, none⟩) (Kd.V_far (p := ⟨gb124, 2, none⟩) (Kd.V_far (p := ⟨gb124, 1, none⟩) (Kd.V_far (p := ⟨gb124, 0, none⟩) (Kd.V_mono HO137.out (fun k_ hk => (⟨hk, hk.2.2.2.1⟩ : _ ∧ k_ ≠ gb124))) (fun _ hk => hk.2) (.int .i64 t131)) (fun _ hk => hk.2) (.string t132)) (fun _ hk => hk.2) (.string t133)) (fun _ hk => hk.2) (.int .i64 t134)) (fun _ hk => hk.2) (.slice Ao65 t135.length co65)) (fun _ hk => hk.2) (.int .i64 t138)) (fun _ hk => hk.1.1), by exact pbE HB.out⟩
        · rw [if_neg c26] at H
          have c26b0 : (t129 == 0) = false := beq_eq_false_iff_ne.mpr c26
          have c26b1 : (t129 != 0) = true := bne_iff_ne.mpr c26
          simp only [Option.some.injEq, Prod.mk.injEq] at H
          obtain ⟨rfl, rfl, rfl, rfl, rfl, rfl, rfl⟩ := H
          have hnb66 := NB122_123.out
          have hnc66 := NB123_122.out
          have hnb67 := NB122_124.out
          have hnc67 := NB124_122.out
          have hcz68_0 : wc.cell? ⟨gb122, 0, none⟩ = some (.int .i64 a0_0) := (bkC BK122.out 0).trans rfl
          have hcz68_1 : wc.cell? ⟨gb122, 1, none⟩ = some (.string a0_1) := (bkC BK122.out 1).trans rfl
          have hcz68_2 : wc.cell? ⟨gb122, 2, none⟩ = some (.string a0_2) := (bkC BK122.out 2).trans rfl
          have hcz68_3 : wc.cell? ⟨gb122, 3, none⟩ = some (.int .i64 a0_3) := (bkC BK122.out 3).trans rfl
          have hcz68_4 : wc.cell? ⟨gb122, 4, none⟩ = some (.slice A0_4 l0_4.length c0_4) := (bkC BK122.out 4).trans rfl
          have hcz68_5 : wc.cell? ⟨gb122, 5, none⟩ = some (.int .i64 a0_5) := (bkC BK122.out 5).trans rfl
          have hfz68_0 := bkF BK122.out 0
          have hfz68_1 := bkF BK122.out 1
          have hfz68_2 := bkF BK122.out 2
          have hfz68_3 := bkF BK122.out 3
          have hfz68_4 := bkF BK122.out 4
          have hfz68_5 := bkF BK122.out 5
          have hnb69 := NB123_124.out
          have hnc69 := NB124_123.out
          have hcz70_0 : wc.cell? ⟨gb123, 0, none⟩ = some (.int .i64 a1_0) := (bkC BK123.out 0).trans rfl
          have hcz70_1 : wc.cell? ⟨gb123, 1, none⟩ = some (.string a1_1) := (bkC BK123.out 1).trans rfl
          have hcz70_2 : wc.cell? ⟨gb123, 2, none⟩ = some (.string a1_2) := (bkC BK123.out 2).trans rfl
          have hcz70_3 : wc.cell? ⟨gb123, 3, none⟩ = some (.int .i64 a1_3) := (bkC BK123.out 3).trans rfl
          have hcz70_4 : wc.cell? ⟨gb123, 4, none⟩ = some (.slice A1_4 l1_4.length c1_4) := (bkC BK123.out 4).trans rfl
          have hcz70_5 : wc.cell? ⟨gb123, 5, none⟩ = some (.int .i64 a1_5) := (bkC BK123.out 5).trans rfl
          have hfz70_0 := bkF BK123.out 0
          have hfz70_1 := bkF BK123.out 1
          have hfz70_2 := bkF BK123.out 2
          have hfz70_3 := bkF BK123.out 3
          have hfz70_4 := bkF BK123.out 4
          have hfz70_5 := bkF BK123.out 5
          go_wp2_with (first | ((with_reducible refine gtc (f := 36) rfl ?_); refine goesL_ (some 22) rfl rfl Tryd.func36 (by kernel_rfl) rfl #[.agg #[.string a0_1, .string a0_2], .agg #[.string a1_1, .string a1_2]] rfl (by (try simp only [List.map_toArray, List.map_cons, List.map_nil]); first | done | rfl | (simp only [List.length_drop, List.length_take]; rfl)) ?_; (with_reducible refine (bound_Join.calls a0_1 a0_2 a1_1 a1_2 t127 t128 t129 _ ?side1 A25.out).mono ?_); (case side1 => exact hG.below (by exact pbE HB.out)); rintro e w71 ⟨rfl, hb⟩; refine ⟨_, rfl, ?_⟩; have n0_ := Az.mk (Kd.V_below (Kd.V_ext HO_123004.out) hb); have n1_ := Az.mk (bkB (g := gb122) (o := .cells #[.int .i64 a0_0, .string a0_1, .string a0_2, .int .i64 a0_3, .slice A0_4 l0_4.length c0_4, .int .i64 a0_5] 26 (0, 0)) (bk BK122.out) hb); have n2_ := Az.mk (bkB (g := gb123) (o := .cells #[.int .i64 a1_0, .string a1_1, .string a1_2, .int .i64 a1_3, .slice A1_4 l1_4.length c1_4, .int .i64 a1_5] 26 (0, 0)) (bk BK123.out) hb); have n3_ := Az.mk (bkB (g := gb124) (o := .cells #[.int .i64 0, .string (⟨#[]⟩ : ByteArray), .string (⟨#[]⟩ : ByteArray), .int .i64 0, .slice none 0 0, .int .i64 0] 26 (0, 0)) (bk BK124.out) hb); have n4_ := Az.mk (pbT (by exact pbE HB.out) hb); clear HO_123004; clear BK122; clear BK123; clear BK124; clear HB; have HO_123004 := n0_; have BK122 := n1_; have BK123 := n2_; have BK124 := n3_; have HB := n4_; clear n0_ n1_ n2_ n3_ n4_; (try clear hb); (try clear hb2); (try clear hk); (try clear hi)) | ((with_reducible refine gate_dst (N := 6) rfl ?_); refine box_event ?hg (N := 6) ?hd (cs := #[.string (⟨#[]⟩ : ByteArray), .string (⟨#[]⟩ : ByteArray)]) (t := 23) ?hr ?_; (case hd => rfl); (case hg => rfl); (case hr => first | (go_simp; done) | (go_simp; rfl)); intro gb130 hg w72 hbox hb; have n0_ := Az.mk (Kd.V_below (Kd.V_elderB (Kd.V_ext HO_123004.out) gb130 (Nat.le_of_eq hg.symm)) hb); have n1_ := Az.mk (bkB (g := gb122) (o := .cells #[.int .i64 a0_0, .string a0_1, .string a0_2, .int .i64 a0_3, .slice A0_4 l0_4.length c0_4, .int .i64 a0_5] 26 (0, 0)) (bk BK122.out) hb); have n2_ := Az.mk (bkB (g := gb123) (o := .cells #[.int .i64 a1_0, .string a1_1, .string a1_2, .int .i64 a1_3, .slice A1_4 l1_4.length c1_4, .int .i64 a1_5] 26 (0, 0)) (bk BK123.out) hb); have n3_ := Az.mk (bkB (g := gb124) (o := .cells #[.int .i64 0, .string (⟨#[]⟩ : ByteArray), .string (⟨#[]⟩ : ByteArray), .int .i64 0, .slice none 0 0, .int .i64 0] 26 (0, 0)) (bk BK124.out) hb); have n4_ := Az.mk (pbT (by exact pbE HB.out) hb); have n5_ := Az.mk (hbox); have n6_ := Az.mk ((by rw [hg]; exact (pbZ (by exact pbE HB.out)) : w.heap.size ≤ gb130)); have n7_ := Az.mk ((by rw [hg]; exact (pbZ (by exact pbE HB.out)) : w.heap.size ≤ gb130)); have n8_ := Az.mk ((by rw [hg]; exact Nat.ne_of_lt (blk_lt (g := gb122) (o := .cells #[.int .i64 a0_0, .string a0_1, .string a0_2, .int .i64 a0_3, .slice A0_4 l0_4.length c0_4, .int .i64 a0_5] 26 (0, 0)) (bk BK122.out)) : gb122 ≠ gb130)); have n9_ := Az.mk ((by rw [hg]; exact Nat.ne_of_gt (blk_lt (g := gb122) (o := .cells #[.int .i64 a0_0, .string a0_1, .string a0_2, .int .i64 a0_3, .slice A0_4 l0_4.length c0_4, .int .i64 a0_5] 26 (0, 0)) (bk BK122.out)) : gb130 ≠ gb122)); have n10_ := Az.mk ((by rw [hg]; exact Nat.ne_of_lt (blk_lt (g := gb123) (o := .cells #[.int .i64 a1_0, .string a1_1, .string a1_2, .int .i64 a1_3, .slice A1_4 l1_4.length c1_4, .int .i64 a1_5] 26 (0, 0)) (bk BK123.out)) : gb123 ≠ gb130)); have n11_ := Az.mk ((by rw [hg]; exact Nat.ne_of_gt (blk_lt (g := gb123) (o := .cells #[.int .i64 a1_0, .string a1_1, .string a1_2, .int .i64 a1_3, .slice A1_4 l1_4.length c1_4, .int .i64 a1_5] 26 (0, 0)) (bk BK123.out)) : gb130 ≠ gb123)); have n12_ := Az.mk ((by rw [hg]; exact Nat.ne_of_lt (blk_lt (g := gb124) (o := .cells #[.int .i64 0, .string (⟨#[]⟩ : ByteArray), .string (⟨#[]⟩ : ByteArray), .int .i64 0, .slice none 0 0, .int .i64 0] 26 (0, 0)) (bk BK124.out)) : gb124 ≠ gb130)); have n13_ := Az.mk ((by rw [hg]; exact Nat.ne_of_gt (blk_lt (g := gb124) (o := .cells #[.int .i64 0, .string (⟨#[]⟩ : ByteArray), .string (⟨#[]⟩ : ByteArray), .int .i64 0, .slice none 0 0, .int .i64 0] 26 (0, 0)) (bk BK124.out)) : gb130 ≠ gb124)); clear HO_123004; clear BK122; clear BK123; clear BK124; clear HB; have HO_123004 := n0_; have BK122 := n1_; have BK123 := n2_; have BK124 := n3_; have HB := n4_; have BK130 := n5_; have GW130 := n6_; have GE130 := n7_; have NB122_130 := n8_; have NB130_122 := n9_; have NB123_130 := n10_; have NB130_123 := n11_; have NB124_130 := n12_; have NB130_124 := n13_; clear n0_ n1_ n2_ n3_ n4_ n5_ n6_ n7_ n8_ n9_ n10_ n11_ n12_ n13_; clear hb hbox hg; have hnb73 := NB130_122.out; have hnc73 := NB122_130.out; have hnb74 := NB130_123.out; have hnc74 := NB123_130.out; have hnb75 := NB130_124.out; have hnc75 := NB124_130.out; have hcz76_0 : w72.cell? ⟨gb130, 0, none⟩ = some (.string (⟨#[]⟩ : ByteArray)) := (bkC BK130.out 0).trans rfl; have hcz76_1 : w72.cell? ⟨gb130, 1, none⟩ = some (.string (⟨#[]⟩ : ByteArray)) := (bkC BK130.out 1).trans rfl; have hfz76_0 := bkF BK130.out 0; have hfz76_1 := bkF BK130.out 1; have hcz77_0 : w72.cell? ⟨gb124, 0, none⟩ = some (.int .i64 0) := (bkC BK124.out 0).trans rfl; have hcz77_1 : w72.cell? ⟨gb124, 1, none⟩ = some (.string (⟨#[]⟩ : ByteArray)) := (bkC BK124.out 1).trans rfl; have hcz77_2 : w72.cell? ⟨gb124, 2, none⟩ = some (.string (⟨#[]⟩ : ByteArray)) := (bkC BK124.out 2).trans rfl; have hcz77_3 : w72.cell? ⟨gb124, 3, none⟩ = some (.int .i64 0) := (bkC BK124.out 3).trans rfl; have hcz77_4 : w72.cell? ⟨gb124, 4, none⟩ = some (.slice none 0 0) := (bkC BK124.out 4).trans rfl; have hcz77_5 : w72.cell? ⟨gb124, 5, none⟩ = some (.int .i64 0) := (bkC BK124.out 5).trans rfl; have hfz77_0 := bkF BK124.out 0; have hfz77_1 := bkF BK124.out 1; have hfz77_2 := bkF BK124.out 2; have hfz77_3 := bkF BK124.out 3; have hfz77_4 := bkF BK124.out 4; have hfz77_5 := bkF BK124.out 5))
          repeat (go_region; try go_wp2_with (fail))
          refine bodyPost_ret (results_ct rfl _ _ gb124 26 #[.int .i64 0, .string (⟨#[]⟩ : ByteArray), .string (⟨#[]⟩ : ByteArray), .int .i64 0, .slice none 0 0, .int .i64 0] (0, 0) _ rfl (by refine bk ?_; refine blk_put (cs := #[.int .i64 0, .string (⟨#[]⟩ : ByteArray), .string (⟨#[]⟩ : ByteArray), .int .i64 0, .slice none 0 0, .int .i64 0]) ?_ 5 _ rfl; refine bk ?_; refine blk_put (cs := #[.int .i64 0, .string (⟨#[]⟩ : ByteArray), .string (⟨#[]⟩ : ByteArray), .int .i64 0, .slice none 0 0, .int .i64 0]) ?_ 4 _ rfl; refine bk ?_; refine blk_put (cs := #[.int .i64 0, .string (⟨#[]⟩ : ByteArray), .string (⟨#[]⟩ : ByteArray), .int .i64 0, .slice none 0 0, .int .i64 0]) ?_ 3 _ rfl; refine bk ?_; refine blk_put (cs := #[.int .i64 0, .string (⟨#[]⟩ : ByteArray), .string (⟨#[]⟩ : ByteArray), .int .i64 0, .slice none 0 0, .int .i64 0]) ?_ 2 _ rfl; refine bk ?_; refine blk_put (cs := #[.int .i64 0, .string (⟨#[]⟩ : ByteArray), .string (⟨#[]⟩ : ByteArray), .int .i64 0, .slice none 0 0, .int .i64 0]) ?_ 1 _ rfl; refine bk ?_; refine blk_put (cs := #[.int .i64 0, .string (⟨#[]⟩ : ByteArray), .string (⟨#[]⟩ : ByteArray), .int .i64 0, .slice none 0 0, .int .i64 0]) ?_ 0 _ rfl; refine bk ?_; refine blk_far ?_ NB124_130.out _; refine bk ?_; refine blk_far ?_ NB124_130.out _; refine bk ?_; exact BK124.out) Tryd.underlying26 rfl (by kernel_rfl)) rfl ?_
          exact ⟨_, by first | rfl | (simp [errW_none, errW_some] <;> rfl) | (simp [*, errW_none, errW_some] <;> rfl), Kd.V_nil _ _ _ _ _, by exact pbE HB.out⟩
end Go.Proofs.YtjfhcijjjadhbaaDoor.P
end
section
-- Written by a program of this session (wip/tools/pr.py), over the kit's printer; functions named in the texts imported below are given by hand.
namespace Go.Proofs.YtjfhcijjjadhbaaDoor.P
open Go.RowKit Go.Proofs.YtjfhcijjjadhbaaDoor.K Go.Proofs.YtjfhcijjjadhbaaDoorW.PrintWords Go.Proofs.YtjfhcijjjadhbaaDoorW.PrintLast Go.Proofs.YtjfhcijjjadhbaaDoorW.PrintMore
attribute [local go_sem] max2_int min2_int max_two min_two max_three min_three max_four min_four   -- for this text's walks alone
attribute [local go_sem high] eqA60
/-! ### r06_Members: function 31 -/
def r06_Members.l0 : Nat → List (S60) → List (S60) → Int → Option (Bool)
  | 0, _, _, _ => none
  | k + 1, x0, x1, x5 => if x5 < (x0.length : Int) then (if 0 ≤ x5 then (if x5 < (x1.length : Int) then (if (!(((rd_T60 x0 x5).f0) == ((rd_T60 x1 x5).f0)) || (!(((rd_T60 x0 x5).f1) == ((rd_T60 x1 x5).f1)))) = true then (some false) else (r06_Members.l0 k x0 x1 (wrap64 (x5 + 1)))) else (none)) else (none)) else (some true)
def r06_Members.f (k : Nat) (l0 : List (S60)) (l1 : List (S60)) : Option (Bool) := if (l0.length : Int) = (l1.length : Int) then (r06_Members.l0 k l0 l1 0) else (some false)
theorem r06_Members.mono_l : ∀ k, (∀ y0 y1 y2, LeO (r06_Members.l0 k y0 y1 y2) (r06_Members.l0 (k + 1) y0 y1 y2))
  | 0 => fun _ _ _ r h => by simp [r06_Members.l0] at h
  | k + 1 => by
    have ih0 := r06_Members.mono_l k
    · intro y0 y1 y2
      unfold r06_Members.l0
      repeat' first
      | (with_reducible exact ih0 _ _ _)
      | (with_reducible exact LeO.refl _)
      | (with_reducible exact LeO.none _)
      | (with_reducible refine LeO.ite ?_ ?_)
      | (with_reducible refine LeO.bind ?_ (fun _ => ?_))
      | exact ih0 _ _ _
      | exact LeO.none _
      | refine LeO.ite ?_ ?_
      | refine LeO.bind ?_ (fun _ => ?_)
theorem r06_Members.mono : ∀ a0 a1 k, LeO (r06_Members.f k a0 a1) (r06_Members.f (k + 1) a0 a1) := by
  intro a0 a1 k
  have ih0 := r06_Members.mono_l k
  unfold r06_Members.f
  repeat' first
      | (with_reducible exact ih0 _ _ _)
      | (with_reducible exact LeO.refl _)
      | (with_reducible exact LeO.none _)
      | (with_reducible refine LeO.ite ?_ ?_)
      | (with_reducible refine LeO.bind ?_ (fun _ => ?_))
      | exact ih0 _ _ _
      | exact LeO.none _
      | refine LeO.ite ?_ ?_
      | refine LeO.bind ?_ (fun _ => ?_)
set_option maxHeartbeats 8000000 in
set_option maxRecDepth 100000 in
theorem r06_Members.calls (k : Nat) (A0 : Option Addr) (c0 : Nat) (l0 : List (S60)) (A1 : Option Addr) (c1 : Nat) (l1 : List (S60)) (r : Bool) (w : World) (hG : TheG w) (hr0 : Kd.C k60 w A0 l0.length l0) (hc0 : l0.length ≤ c0) (hr1 : Kd.C k60 w A1 l1.length l1) (hc1 : l1.length ≤ c1) (h : r06_Members.f k l0 l1 = some r) :
    Calls Tryd.prog 31 #[.slice A0 l0.length c0, .slice A1 l1.length c1] w fun e w' => e = .returned (.bool r) ∧ Drawn0 w w' := by
  have hu60 := Tryd.underlying60
  have HR0 := Az.mk hr0
  have HC0 := Az.mk hc0
  clear hr0 hc0
  have HR1 := Az.mk hr1
  have HC1 := Az.mk hc1
  clear hr1 hc1
  have H : (if (l0.length : Int) = (l1.length : Int) then (r06_Members.l0 k l0 l1 0) else (some false)) = some r := h
  clear h
  by_cases c3 : (l0.length : Int) = (l1.length : Int)
  · rw [if_pos c3] at H
    have c3b0 : ((l0.length : Int) == (l1.length : Int)) = true := beq_iff_eq.mpr c3
    have c3b1 : ((l0.length : Int) != (l1.length : Int)) = false := bne_eq_false_iff_eq.mpr c3
    have c3b2 : (l0.length == l1.length) = true := by first | simpa using c3 | (simp at c3 ⊢; omega)
    clear c3
    have H' := Az.mk H
    clear H
    go_enter Tryd.func31, Tryd.ntmps31
    go_wp2
    repeat (go_quiet (fail); try go_wp2)
    go_loopg [5] k (fun kq v5 w' => ∃ (x5_1 : Int), v5 = .int .i64 x5_1 ∧ Az (r06_Members.l0 kq l0 l1 x5_1 = some r) ∧ Az (kq ≤ k) ∧ Drawn0 w w')
    case atStart => exact ⟨(0), (by first | rfl | (simp; done) | (simp [*]; done)), H', ⟨Nat.le_refl _⟩, by repeat (first | exact Drawn0.refl _ | apply Drawn0.step)⟩
    case round =>
      clear H'
      try clear c1
      try clear p2
      try clear c3
      try clear c3b0
      try clear c3b1
      try clear c3b2
      obtain ⟨x5_1, rfl, HA, HK1, ⟨m1, rfl⟩⟩ := hrel
      cases gk with
      | zero => exact absurd HA.out (by simp [r06_Members.l0])
      | succ k1 =>
        have H := HA.out
        clear HA
        simp only [r06_Members.l0] at H
        by_cases c4 : x5_1 < (l0.length : Int)
        · rw [if_pos c4] at H
          have c4b0 : decide (x5_1 < (l0.length : Int)) = true := decide_eq_true c4
          clear c4
          by_cases c5 : 0 ≤ x5_1
          · rw [if_pos c5] at H
            have c5b0 : decide (0 ≤ x5_1) = true := decide_eq_true c5
            clear c5
            by_cases c6 : x5_1 < (l1.length : Int)
            · rw [if_pos c6] at H
              have c6b0 : decide (x5_1 < (l1.length : Int)) = true := decide_eq_true c6
              clear c6
              by_cases c7 : (!(((rd_T60 l0 x5_1).f0) == ((rd_T60 l1 x5_1).f0)) || (!(((rd_T60 l0 x5_1).f1) == ((rd_T60 l1 x5_1).f1)))) = true
              · rw [if_pos c7] at H
                have c7b0 : (!(((rd_T60 l0 x5_1).f0) == ((rd_T60 l1 x5_1).f0)) || (!(((rd_T60 l0 x5_1).f1) == ((rd_T60 l1 x5_1).f1)))) = true := c7
                clear c7
                obtain rfl := Option.some.inj H
                have p140 : 0 ≤ (x5_1 : Int) := of_decide_eq_true (by first | (with_reducible assumption) | assumption)
                have q140 : x5_1 < (l0.length : Int) := of_decide_eq_true (by first | (with_reducible assumption) | assumption)
                obtain ⟨ad140, e140, hx140_0, hx140_1⟩ := at_T60 HR0.out x5_1 p140 q140
                cases e140
                replace p140 := eq_true p140
                replace q140 := eq_true q140
                have p141 : 0 ≤ (x5_1 : Int) := of_decide_eq_true (by first | (with_reducible assumption) | assumption)
                have q141 : x5_1 < (l1.length : Int) := of_decide_eq_true (by first | (with_reducible assumption) | assumption)
                obtain ⟨ad141, e141, hx141_0, hx141_1⟩ := at_T60 HR1.out x5_1 p141 q141
                cases e141
                replace p141 := eq_true p141
                replace q141 := eq_true q141
                go_wp2
                repeat (go_quiet (fail); try go_wp2)
                go_ret
                exact ⟨by first | rfl | (simp; done) | (simp [*]; done), by repeat (first | exact Drawn0.refl _ | apply Drawn0.step)⟩
              · rw [if_neg c7] at H
                have c7b0 : (!(((rd_T60 l0 x5_1).f0) == ((rd_T60 l1 x5_1).f0)) || (!(((rd_T60 l0 x5_1).f1) == ((rd_T60 l1 x5_1).f1)))) = false := by simpa using c7
                clear c7
                have H' := Az.mk H
                clear H
                have p140 : 0 ≤ (x5_1 : Int) := of_decide_eq_true (by first | (with_reducible assumption) | assumption)
                have q140 : x5_1 < (l0.length : Int) := of_decide_eq_true (by first | (with_reducible assumption) | assumption)
                obtain ⟨ad140, e140, hx140_0, hx140_1⟩ := at_T60 HR0.out x5_1 p140 q140
                cases e140
                replace p140 := eq_true p140
                replace q140 := eq_true q140
                have p141 : 0 ≤ (x5_1 : Int) := of_decide_eq_true (by first | (with_reducible assumption) | assumption)
                have q141 : x5_1 < (l1.length : Int) := of_decide_eq_true (by first | (with_reducible assumption) | assumption)
                obtain ⟨ad141, e141, hx141_0, hx141_1⟩ := at_T60 HR1.out x5_1 p141 q141
                cases e141
                replace p141 := eq_true p141
                replace q141 := eq_true q141
                go_wp2
                repeat (go_quiet (fail); try go_wp2)
                go_roundg k1
                case measure => have := HK1.out; omega
                case rel => exact ⟨(wrap64 (x5_1 + 1)), (by first | rfl | (simp; done) | (simp [*]; done)), H', ⟨by have := HK1.out; omega⟩, by repeat (first | exact Drawn0.refl _ | apply Drawn0.step)⟩
            · rw [if_neg c6] at H
              exact absurd H (by simp)
          · rw [if_neg c5] at H
            exact absurd H (by simp)
        · rw [if_neg c4] at H
          have c4b0 : decide (x5_1 < (l0.length : Int)) = false := decide_eq_false c4
          clear c4
          obtain rfl := Option.some.inj H
          go_wp2
          repeat (go_quiet (fail); try go_wp2)
          go_ret
          exact ⟨by first | rfl | (simp; done) | (simp [*]; done), by repeat (first | exact Drawn0.refl _ | apply Drawn0.step)⟩
  · rw [if_neg c3] at H
    have c3b0 : ((l0.length : Int) == (l1.length : Int)) = false := beq_eq_false_iff_ne.mpr c3
    have c3b1 : ((l0.length : Int) != (l1.length : Int)) = true := bne_iff_ne.mpr c3
    have c3b2 : (l0.length == l1.length) = false := by first | simpa using c3 | (simp at c3 ⊢; omega)
    obtain rfl := Option.some.inj H
    go_enter Tryd.func31, Tryd.ntmps31
    go_wp2
    repeat (go_quiet (fail); try go_wp2)
    go_ret
    exact ⟨by first | rfl | (simp; done) | (simp [*]; done), by repeat (first | exact Drawn0.refl _ | apply Drawn0.step)⟩
end Go.Proofs.YtjfhcijjjadhbaaDoor.P
end
section
-- Written by a program of this session (wip/tools/pr.py), over the kit's printer; functions named in the texts imported below are given by hand.
namespace Go.Proofs.YtjfhcijjjadhbaaDoor.P
open Go.RowKit Go.Proofs.YtjfhcijjjadhbaaDoor.K Go.Proofs.YtjfhcijjjadhbaaDoorW.PrintWords Go.Proofs.YtjfhcijjjadhbaaDoorW.PrintLast Go.Proofs.YtjfhcijjjadhbaaDoorW.PrintMore
attribute [local go_sem] max2_int min2_int max_two min_two max_three min_three max_four min_four   -- for this text's walks alone
attribute [local go_sem high] eqA23
/-! ### r06_Same: function 16 -/
def r06_Same.f (k : Nat) (a0_0 : Int) (a0_1 : ByteArray) (a0_2 : ByteArray) (a0_3 : Int) (l0_4 : List (S60)) (a0_5 : Int) (a1_0 : Int) (a1_1 : ByteArray) (a1_2 : ByteArray) (a1_3 : Int) (l1_4 : List (S60)) (a1_5 : Int) : Option (Bool) := if a0_0 = a1_0 then (if (a0_1.toList == a1_1.toList && (a0_2.toList == a1_2.toList)) = true then (if a0_3 = a1_3 then (if a0_5 = a1_5 then ((r06_Members.f k l0_4 l1_4).bind fun t144 => (some t144)) else (some false)) else (some false)) else (some false)) else (some false)
theorem r06_Same.mono : ∀ a0 a1 a2 a3 a4 a5 a6 a7 a8 a9 a10 a11 k, LeO (r06_Same.f k a0 a1 a2 a3 a4 a5 a6 a7 a8 a9 a10 a11) (r06_Same.f (k + 1) a0 a1 a2 a3 a4 a5 a6 a7 a8 a9 a10 a11) := by
  intro a0 a1 a2 a3 a4 a5 a6 a7 a8 a9 a10 a11 k
  unfold r06_Same.f
  repeat' first
      | (with_reducible exact r06_Members.mono _ _ _)
      | (with_reducible exact LeO.refl _)
      | (with_reducible exact LeO.none _)
      | (with_reducible refine LeO.ite ?_ ?_)
      | (with_reducible refine LeO.bind ?_ (fun _ => ?_))
      | exact r06_Members.mono _ _ _
      | exact LeO.none _
      | refine LeO.ite ?_ ?_
      | refine LeO.bind ?_ (fun _ => ?_)
set_option maxHeartbeats 8000000 in
set_option maxRecDepth 100000 in
theorem r06_Same.calls (k : Nat) (a0_0 : Int) (a0_1 : ByteArray) (a0_2 : ByteArray) (a0_3 : Int) (A0_4 : Option Addr) (c0_4 : Nat) (l0_4 : List (S60)) (a0_5 : Int) (a1_0 : Int) (a1_1 : ByteArray) (a1_2 : ByteArray) (a1_3 : Int) (A1_4 : Option Addr) (c1_4 : Nat) (l1_4 : List (S60)) (a1_5 : Int) (r : Bool) (w : World) (hG : TheG w) (hr0_4 : Kd.C k60 w A0_4 l0_4.length l0_4) (hc0_4 : l0_4.length ≤ c0_4) (hr1_4 : Kd.C k60 w A1_4 l1_4.length l1_4) (hc1_4 : l1_4.length ≤ c1_4) (h : r06_Same.f k a0_0 a0_1 a0_2 a0_3 l0_4 a0_5 a1_0 a1_1 a1_2 a1_3 l1_4 a1_5 = some r) :
    Calls Tryd.prog 16 #[.agg #[.int .i64 a0_0, .string a0_1, .string a0_2, .int .i64 a0_3, .slice A0_4 l0_4.length c0_4, .int .i64 a0_5], .agg #[.int .i64 a1_0, .string a1_1, .string a1_2, .int .i64 a1_3, .slice A1_4 l1_4.length c1_4, .int .i64 a1_5]] w fun e w' => e = .returned (.bool r) ∧ Below w.heap.size w w' := by
  have hu26 := Tryd.underlying26
  have hu23 := Tryd.underlying23
  have HR0_4 := Az.mk hr0_4
  have HC0_4 := Az.mk hc0_4
  clear hr0_4 hc0_4
  have HR1_4 := Az.mk hr1_4
  have HC1_4 := Az.mk hc1_4
  clear hr1_4 hc1_4
  have HB := Az.mk (Below.refl w.heap.size w)
  have H : (if a0_0 = a1_0 then (if (a0_1.toList == a1_1.toList && (a0_2.toList == a1_2.toList)) = true then (if a0_3 = a1_3 then (if a0_5 = a1_5 then ((r06_Members.f k l0_4 l1_4).bind fun t144 => (some t144)) else (some false)) else (some false)) else (some false)) else (some false)) = some r := h
  clear h
  by_cases c3 : a0_0 = a1_0
  · rw [if_pos c3] at H
    have c3b0 : (a0_0 == a1_0) = true := beq_iff_eq.mpr c3
    have c3b1 : (a0_0 != a1_0) = false := bne_eq_false_iff_eq.mpr c3
    clear c3
    by_cases c4 : (a0_1.toList == a1_1.toList && (a0_2.toList == a1_2.toList)) = true
    · rw [if_pos c4] at H
      have c4b0 : (a0_1.toList == a1_1.toList && (a0_2.toList == a1_2.toList)) = true := c4
      (try (have c4b1 : decide (a0_1.toList = a1_1.toList && (a0_2.toList == a1_2.toList)) = true := by simpa using c4))
      (try (have c4b2 : (a0_1.toList == a1_1.toList && (a0_2.toList == a1_2.toList)) = true := by simpa using c4))
      clear c4
      by_cases c5 : a0_3 = a1_3
      · rw [if_pos c5] at H
        have c5b0 : (a0_3 == a1_3) = true := beq_iff_eq.mpr c5
        have c5b1 : (a0_3 != a1_3) = false := bne_eq_false_iff_eq.mpr c5
        clear c5
        by_cases c6 : a0_5 = a1_5
        · rw [if_pos c6] at H
          have c6b0 : (a0_5 == a1_5) = true := beq_iff_eq.mpr c6
          have c6b1 : (a0_5 != a1_5) = false := bne_eq_false_iff_eq.mpr c6
          clear c6
          replace H := Option.bind_eq_some_iff.mp H
          obtain ⟨t144, A70, H⟩ := H
          replace H : (some t144) = some r := H
          have A7 := Az.mk A70
          clear A70
          obtain rfl := Option.some.inj H
          go_enter Tryd.func16, Tryd.ntmps16
          go_wp2_with (first | ((with_reducible refine gate_dst (N := 2) rfl ?_); refine box_event ?hg (N := 2) ?hd (cs := #[.int .i64 a0_0, .string a0_1, .string a0_2, .int .i64 a0_3, .slice A0_4 l0_4.length c0_4, .int .i64 a0_5]) (t := 26) ?hr ?_; (case hd => rfl); (case hg => rfl); (case hr => first | (go_simp; done) | (go_simp; rfl)); intro gb142 hg w8 hbox hb; have n0_ := Az.mk (pbT (by exact pbE HB.out) hb); have n1_ := Az.mk (hbox); have n2_ := Az.mk ((by rw [hg]; exact (pbZ (by exact pbE HB.out)) : w.heap.size ≤ gb142)); have n3_ := Az.mk ((by rw [hg]; exact (pbZ (by exact pbE HB.out)) : w.heap.size ≤ gb142)); clear HB; have HB := n0_; have BK142 := n1_; have GW142 := n2_; have GE142 := n3_; clear n0_ n1_ n2_ n3_; clear hb hbox hg) | ((with_reducible refine gate_dst (N := 3) rfl ?_); refine box_event ?hg (N := 3) ?hd (cs := #[.int .i64 a1_0, .string a1_1, .string a1_2, .int .i64 a1_3, .slice A1_4 l1_4.length c1_4, .int .i64 a1_5]) (t := 26) ?hr ?_; (case hd => rfl); (case hg => rfl); (case hr => first | (go_simp; done) | (go_simp; rfl)); intro gb143 hg w9 hbox hb; have n0_ := Az.mk (bkB (g := gb142) (o := .cells #[.int .i64 a0_0, .string a0_1, .string a0_2, .int .i64 a0_3, .slice A0_4 l0_4.length c0_4, .int .i64 a0_5] 26 (0, 0)) (bk BK142.out) hb); have n1_ := Az.mk (pbT (by exact pbE HB.out) hb); have n2_ := Az.mk (hbox); have n3_ := Az.mk ((by rw [hg]; exact (pbZ (by exact pbE HB.out)) : w.heap.size ≤ gb143)); have n4_ := Az.mk ((by rw [hg]; exact (pbZ (by exact pbE HB.out)) : w.heap.size ≤ gb143)); have n5_ := Az.mk ((by rw [hg]; exact Nat.ne_of_lt (blk_lt (g := gb142) (o := .cells #[.int .i64 a0_0, .string a0_1, .string a0_2, .int .i64 a0_3, .slice A0_4 l0_4.length c0_4, .int .i64 a0_5] 26 (0, 0)) (bk BK142.out)) : gb142 ≠ gb143)); have n6_ := Az.mk ((by rw [hg]; exact Nat.ne_of_gt (blk_lt (g := gb142) (o := .cells #[.int .i64 a0_0, .string a0_1, .string a0_2, .int .i64 a0_3, .slice A0_4 l0_4.length c0_4, .int .i64 a0_5] 26 (0, 0)) (bk BK142.out)) : gb143 ≠ gb142)); clear BK142; clear HB; have BK142 := n0_; have HB := n1_; have BK143 := n2_; have GW143 := n3_; have GE143 := n4_; have NB142_143 := n5_; have NB143_142 := n6_; clear n0_ n1_ n2_ n3_ n4_ n5_ n6_; clear hb hbox hg; have hnb10 := NB142_143.out; have hnc10 := NB143_142.out; have hcz11_0 : w9.cell? ⟨gb142, 0, none⟩ = some (.int .i64 a0_0) := (bkC BK142.out 0).trans rfl; have hcz11_1 : w9.cell? ⟨gb142, 1, none⟩ = some (.string a0_1) := (bkC BK142.out 1).trans rfl; have hcz11_2 : w9.cell? ⟨gb142, 2, none⟩ = some (.string a0_2) := (bkC BK142.out 2).trans rfl; have hcz11_3 : w9.cell? ⟨gb142, 3, none⟩ = some (.int .i64 a0_3) := (bkC BK142.out 3).trans rfl; have hcz11_4 : w9.cell? ⟨gb142, 4, none⟩ = some (.slice A0_4 l0_4.length c0_4) := (bkC BK142.out 4).trans rfl; have hcz11_5 : w9.cell? ⟨gb142, 5, none⟩ = some (.int .i64 a0_5) := (bkC BK142.out 5).trans rfl; have hfz11_0 := bkF BK142.out 0; have hfz11_1 := bkF BK142.out 1; have hfz11_2 := bkF BK142.out 2; have hfz11_3 := bkF BK142.out 3; have hfz11_4 := bkF BK142.out 4; have hfz11_5 := bkF BK142.out 5; have hcz12_0 : w9.cell? ⟨gb143, 0, none⟩ = some (.int .i64 a1_0) := (bkC BK143.out 0).trans rfl; have hcz12_1 : w9.cell? ⟨gb143, 1, none⟩ = some (.string a1_1) := (bkC BK143.out 1).trans rfl; have hcz12_2 : w9.cell? ⟨gb143, 2, none⟩ = some (.string a1_2) := (bkC BK143.out 2).trans rfl; have hcz12_3 : w9.cell? ⟨gb143, 3, none⟩ = some (.int .i64 a1_3) := (bkC BK143.out 3).trans rfl; have hcz12_4 : w9.cell? ⟨gb143, 4, none⟩ = some (.slice A1_4 l1_4.length c1_4) := (bkC BK143.out 4).trans rfl; have hcz12_5 : w9.cell? ⟨gb143, 5, none⟩ = some (.int .i64 a1_5) := (bkC BK143.out 5).trans rfl; have hfz12_0 := bkF BK143.out 0; have hfz12_1 := bkF BK143.out 1; have hfz12_2 := bkF BK143.out 2; have hfz12_3 := bkF BK143.out 3; have hfz12_4 := bkF BK143.out 4; have hfz12_5 := bkF BK143.out 5) | (go_at_call 31; (with_reducible refine (r06_Members.calls k _ _ l0_4 _ _ l1_4 t144 _ ?side1 ?side2 ?side3 ?side4 ?side5 A7.out).mono ?_); (case side1 => exact hG.below (by exact pbE HB.out)); (case side2 => repeat (first | exact (Kd.C_below HR0_4.out HB.out) | (with_reducible refine Kd.C_alloc ?_ _) | (with_reducible refine Kd.C_drewN ?_ _) | (with_reducible refine Kd.C_drew ?_))); (case side3 => exact HC0_4.out); (case side4 => repeat (first | exact (Kd.C_below HR1_4.out HB.out) | (with_reducible refine Kd.C_alloc ?_ _) | (with_reducible refine Kd.C_drewN ?_ _) | (with_reducible refine Kd.C_drew ?_))); (case side5 => exact HC1_4.out); rintro e w' ⟨rfl, ⟨nd, rfl⟩⟩))
          go_ret
          exact ⟨by first | rfl | (simp [errW_none, errW_some] <;> rfl) | (simp [*, errW_none, errW_some] <;> rfl), by exact pbE HB.out⟩
        · rw [if_neg c6] at H
          have c6b0 : (a0_5 == a1_5) = false := beq_eq_false_iff_ne.mpr c6
          have c6b1 : (a0_5 != a1_5) = true := bne_iff_ne.mpr c6
          obtain rfl := Option.some.inj H
          go_enter Tryd.func16, Tryd.ntmps16
          go_wp2_with (first | ((with_reducible refine gate_dst (N := 2) rfl ?_); refine box_event ?hg (N := 2) ?hd (cs := #[.int .i64 a0_0, .string a0_1, .string a0_2, .int .i64 a0_3, .slice A0_4 l0_4.length c0_4, .int .i64 a0_5]) (t := 26) ?hr ?_; (case hd => rfl); (case hg => rfl); (case hr => first | (go_simp; done) | (go_simp; rfl)); intro gb142 hg w13 hbox hb; have n0_ := Az.mk (pbT (by exact pbE HB.out) hb); have n1_ := Az.mk (hbox); have n2_ := Az.mk ((by rw [hg]; exact (pbZ (by exact pbE HB.out)) : w.heap.size ≤ gb142)); have n3_ := Az.mk ((by rw [hg]; exact (pbZ (by exact pbE HB.out)) : w.heap.size ≤ gb142)); clear HB; have HB := n0_; have BK142 := n1_; have GW142 := n2_; have GE142 := n3_; clear n0_ n1_ n2_ n3_; clear hb hbox hg) | ((with_reducible refine gate_dst (N := 3) rfl ?_); refine box_event ?hg (N := 3) ?hd (cs := #[.int .i64 a1_0, .string a1_1, .string a1_2, .int .i64 a1_3, .slice A1_4 l1_4.length c1_4, .int .i64 a1_5]) (t := 26) ?hr ?_; (case hd => rfl); (case hg => rfl); (case hr => first | (go_simp; done) | (go_simp; rfl)); intro gb143 hg w14 hbox hb; have n0_ := Az.mk (bkB (g := gb142) (o := .cells #[.int .i64 a0_0, .string a0_1, .string a0_2, .int .i64 a0_3, .slice A0_4 l0_4.length c0_4, .int .i64 a0_5] 26 (0, 0)) (bk BK142.out) hb); have n1_ := Az.mk (pbT (by exact pbE HB.out) hb); have n2_ := Az.mk (hbox); have n3_ := Az.mk ((by rw [hg]; exact (pbZ (by exact pbE HB.out)) : w.heap.size ≤ gb143)); have n4_ := Az.mk ((by rw [hg]; exact (pbZ (by exact pbE HB.out)) : w.heap.size ≤ gb143)); have n5_ := Az.mk ((by rw [hg]; exact Nat.ne_of_lt (blk_lt (g := gb142) (o := .cells #[.int .i64 a0_0, .string a0_1, .string a0_2, .int .i64 a0_3, .slice A0_4 l0_4.length c0_4, .int .i64 a0_5] 26 (0, 0)) (bk BK142.out)) : gb142 ≠ gb143)); have n6_ := Az.mk ((by rw [hg]; exact Nat.ne_of_gt (blk_lt (g := gb142) (o := .cells #[.int .i64 a0_0, .string a0_1, .string a0_2, .int .i64 a0_3, .slice A0_4 l0_4.length c0_4, .int .i64 a0_5] 26 (0, 0)) (bk BK142.out)) : gb143 ≠ gb142)); clear BK142; clear HB; have BK142 := n0_; have HB := n1_; have BK143 := n2_; have GW143 := n3_; have GE143 := n4_; have NB142_143 := n5_; have NB143_142 := n6_; clear n0_ n1_ n2_ n3_ n4_ n5_ n6_; clear hb hbox hg; have hnb15 := NB142_143.out; have hnc15 := NB143_142.out; have hcz16_0 : w14.cell? ⟨gb142, 0, none⟩ = some (.int .i64 a0_0) := (bkC BK142.out 0).trans rfl; have hcz16_1 : w14.cell? ⟨gb142, 1, none⟩ = some (.string a0_1) := (bkC BK142.out 1).trans rfl; have hcz16_2 : w14.cell? ⟨gb142, 2, none⟩ = some (.string a0_2) := (bkC BK142.out 2).trans rfl; have hcz16_3 : w14.cell? ⟨gb142, 3, none⟩ = some (.int .i64 a0_3) := (bkC BK142.out 3).trans rfl; have hcz16_4 : w14.cell? ⟨gb142, 4, none⟩ = some (.slice A0_4 l0_4.length c0_4) := (bkC BK142.out 4).trans rfl; have hcz16_5 : w14.cell? ⟨gb142, 5, none⟩ = some (.int .i64 a0_5) := (bkC BK142.out 5).trans rfl; have hfz16_0 := bkF BK142.out 0; have hfz16_1 := bkF BK142.out 1; have hfz16_2 := bkF BK142.out 2; have hfz16_3 := bkF BK142.out 3; have hfz16_4 := bkF BK142.out 4; have hfz16_5 := bkF BK142.out 5; have hcz17_0 : w14.cell? ⟨gb143, 0, none⟩ = some (.int .i64 a1_0) := (bkC BK143.out 0).trans rfl; have hcz17_1 : w14.cell? ⟨gb143, 1, none⟩ = some (.string a1_1) := (bkC BK143.out 1).trans rfl; have hcz17_2 : w14.cell? ⟨gb143, 2, none⟩ = some (.string a1_2) := (bkC BK143.out 2).trans rfl; have hcz17_3 : w14.cell? ⟨gb143, 3, none⟩ = some (.int .i64 a1_3) := (bkC BK143.out 3).trans rfl; have hcz17_4 : w14.cell? ⟨gb143, 4, none⟩ = some (.slice A1_4 l1_4.length c1_4) := (bkC BK143.out 4).trans rfl; have hcz17_5 : w14.cell? ⟨gb143, 5, none⟩ = some (.int .i64 a1_5) := (bkC BK143.out 5).trans rfl; have hfz17_0 := bkF BK143.out 0; have hfz17_1 := bkF BK143.out 1; have hfz17_2 := bkF BK143.out 2; have hfz17_3 := bkF BK143.out 3; have hfz17_4 := bkF BK143.out 4; have hfz17_5 := bkF BK143.out 5))
          go_ret
          exact ⟨by first | rfl | (simp [errW_none, errW_some] <;> rfl) | (simp [*, errW_none, errW_some] <;> rfl), by exact pbE HB.out⟩
      · rw [if_neg c5] at H
        have c5b0 : (a0_3 == a1_3) = false := beq_eq_false_iff_ne.mpr c5
        have c5b1 : (a0_3 != a1_3) = true := bne_iff_ne.mpr c5
        obtain rfl := Option.some.inj H
        go_enter Tryd.func16, Tryd.ntmps16
        go_wp2_with (first | ((with_reducible refine gate_dst (N := 2) rfl ?_); refine box_event ?hg (N := 2) ?hd (cs := #[.int .i64 a0_0, .string a0_1, .string a0_2, .int .i64 a0_3, .slice A0_4 l0_4.length c0_4, .int .i64 a0_5]) (t := 26) ?hr ?_; (case hd => rfl); (case hg => rfl); (case hr => first | (go_simp; done) | (go_simp; rfl)); intro gb142 hg w18 hbox hb; have n0_ := Az.mk (pbT (by exact pbE HB.out) hb); have n1_ := Az.mk (hbox); have n2_ := Az.mk ((by rw [hg]; exact (pbZ (by exact pbE HB.out)) : w.heap.size ≤ gb142)); have n3_ := Az.mk ((by rw [hg]; exact (pbZ (by exact pbE HB.out)) : w.heap.size ≤ gb142)); clear HB; have HB := n0_; have BK142 := n1_; have GW142 := n2_; have GE142 := n3_; clear n0_ n1_ n2_ n3_; clear hb hbox hg) | ((with_reducible refine gate_dst (N := 3) rfl ?_); refine box_event ?hg (N := 3) ?hd (cs := #[.int .i64 a1_0, .string a1_1, .string a1_2, .int .i64 a1_3, .slice A1_4 l1_4.length c1_4, .int .i64 a1_5]) (t := 26) ?hr ?_; (case hd => rfl); (case hg => rfl); (case hr => first | (go_simp; done) | (go_simp; rfl)); intro gb143 hg w19 hbox hb; have n0_ := Az.mk (bkB (g := gb142) (o := .cells #[.int .i64 a0_0, .string a0_1, .string a0_2, .int .i64 a0_3, .slice A0_4 l0_4.length c0_4, .int .i64 a0_5] 26 (0, 0)) (bk BK142.out) hb); have n1_ := Az.mk (pbT (by exact pbE HB.out) hb); have n2_ := Az.mk (hbox); have n3_ := Az.mk ((by rw [hg]; exact (pbZ (by exact pbE HB.out)) : w.heap.size ≤ gb143)); have n4_ := Az.mk ((by rw [hg]; exact (pbZ (by exact pbE HB.out)) : w.heap.size ≤ gb143)); have n5_ := Az.mk ((by rw [hg]; exact Nat.ne_of_lt (blk_lt (g := gb142) (o := .cells #[.int .i64 a0_0, .string a0_1, .string a0_2, .int .i64 a0_3, .slice A0_4 l0_4.length c0_4, .int .i64 a0_5] 26 (0, 0)) (bk BK142.out)) : gb142 ≠ gb143)); have n6_ := Az.mk ((by rw [hg]; exact Nat.ne_of_gt (blk_lt (g := gb142) (o := .cells #[.int .i64 a0_0, .string a0_1, .string a0_2, .int .i64 a0_3, .slice A0_4 l0_4.length c0_4, .int .i64 a0_5] 26 (0, 0)) (bk BK142.out)) : gb143 ≠ gb142)); clear BK142; clear HB; have BK142 := n0_; have HB := n1_; have BK143 := n2_; have GW143 := n3_; have GE143 := n4_; have NB142_143 := n5_; have NB143_142 := n6_; clear n0_ n1_ n2_ n3_ n4_ n5_ n6_; clear hb hbox hg; have hnb20 := NB142_143.out; have hnc20 := NB143_142.out; have hcz21_0 : w19.cell? ⟨gb142, 0, none⟩ = some (.int .i64 a0_0) := (bkC BK142.out 0).trans rfl; have hcz21_1 : w19.cell? ⟨gb142, 1, none⟩ = some (.string a0_1) := (bkC BK142.out 1).trans rfl; have hcz21_2 : w19.cell? ⟨gb142, 2, none⟩ = some (.string a0_2) := (bkC BK142.out 2).trans rfl; have hcz21_3 : w19.cell? ⟨gb142, 3, none⟩ = some (.int .i64 a0_3) := (bkC BK142.out 3).trans rfl; have hcz21_4 : w19.cell? ⟨gb142, 4, none⟩ = some (.slice A0_4 l0_4.length c0_4) := (bkC BK142.out 4).trans rfl; have hcz21_5 : w19.cell? ⟨gb142, 5, none⟩ = some (.int .i64 a0_5) := (bkC BK142.out 5).trans rfl; have hfz21_0 := bkF BK142.out 0; have hfz21_1 := bkF BK142.out 1; have hfz21_2 := bkF BK142.out 2; have hfz21_3 := bkF BK142.out 3; have hfz21_4 := bkF BK142.out 4; have hfz21_5 := bkF BK142.out 5; have hcz22_0 : w19.cell? ⟨gb143, 0, none⟩ = some (.int .i64 a1_0) := (bkC BK143.out 0).trans rfl; have hcz22_1 : w19.cell? ⟨gb143, 1, none⟩ = some (.string a1_1) := (bkC BK143.out 1).trans rfl; have hcz22_2 : w19.cell? ⟨gb143, 2, none⟩ = some (.string a1_2) := (bkC BK143.out 2).trans rfl; have hcz22_3 : w19.cell? ⟨gb143, 3, none⟩ = some (.int .i64 a1_3) := (bkC BK143.out 3).trans rfl; have hcz22_4 : w19.cell? ⟨gb143, 4, none⟩ = some (.slice A1_4 l1_4.length c1_4) := (bkC BK143.out 4).trans rfl; have hcz22_5 : w19.cell? ⟨gb143, 5, none⟩ = some (.int .i64 a1_5) := (bkC BK143.out 5).trans rfl; have hfz22_0 := bkF BK143.out 0; have hfz22_1 := bkF BK143.out 1; have hfz22_2 := bkF BK143.out 2; have hfz22_3 := bkF BK143.out 3; have hfz22_4 := bkF BK143.out 4; have hfz22_5 := bkF BK143.out 5))
        go_ret
        exact ⟨by first | rfl | (simp [errW_none, errW_some] <;> rfl) | (simp [*, errW_none, errW_some] <;> rfl), by exact pbE HB.out⟩
    · rw [if_neg c4] at H
      have c4b0 : (a0_1.toList == a1_1.toList && (a0_2.toList == a1_2.toList)) = false := by simpa using c4
      (try (have c4b1 : decide (a0_1.toList = a1_1.toList && (a0_2.toList == a1_2.toList)) = false := by simpa using c4))
      (try (have c4b2 : (a0_1.toList == a1_1.toList && (a0_2.toList == a1_2.toList)) = false := by simpa using c4))
      (try (have c4b3 : ¬ (a0_1.toList = a1_1.toList && (a0_2.toList == a1_2.toList)) := by simpa using c4))
      clear c4
      obtain rfl := Option.some.inj H
      go_enter Tryd.func16, Tryd.ntmps16
      go_wp2_with (first | ((with_reducible refine gate_dst (N := 2) rfl ?_); refine box_event ?hg (N := 2) ?hd (cs := #[.int .i64 a0_0, .string a0_1, .string a0_2, .int .i64 a0_3, .slice A0_4 l0_4.length c0_4, .int .i64 a0_5]) (t := 26) ?hr ?_; (case hd => rfl); (case hg => rfl); (case hr => first | (go_simp; done) | (go_simp; rfl)); intro gb142 hg w23 hbox hb; have n0_ := Az.mk (pbT (by exact pbE HB.out) hb); have n1_ := Az.mk (hbox); have n2_ := Az.mk ((by rw [hg]; exact (pbZ (by exact pbE HB.out)) : w.heap.size ≤ gb142)); have n3_ := Az.mk ((by rw [hg]; exact (pbZ (by exact pbE HB.out)) : w.heap.size ≤ gb142)); clear HB; have HB := n0_; have BK142 := n1_; have GW142 := n2_; have GE142 := n3_; clear n0_ n1_ n2_ n3_; clear hb hbox hg) | ((with_reducible refine gate_dst (N := 3) rfl ?_); refine box_event ?hg (N := 3) ?hd (cs := #[.int .i64 a1_0, .string a1_1, .string a1_2, .int .i64 a1_3, .slice A1_4 l1_4.length c1_4, .int .i64 a1_5]) (t := 26) ?hr ?_; (case hd => rfl); (case hg => rfl); (case hr => first | (go_simp; done) | (go_simp; rfl)); intro gb143 hg w24 hbox hb; have n0_ := Az.mk (bkB (g := gb142) (o := .cells #[.int .i64 a0_0, .string a0_1, .string a0_2, .int .i64 a0_3, .slice A0_4 l0_4.length c0_4, .int .i64 a0_5] 26 (0, 0)) (bk BK142.out) hb); have n1_ := Az.mk (pbT (by exact pbE HB.out) hb); have n2_ := Az.mk (hbox); have n3_ := Az.mk ((by rw [hg]; exact (pbZ (by exact pbE HB.out)) : w.heap.size ≤ gb143)); have n4_ := Az.mk ((by rw [hg]; exact (pbZ (by exact pbE HB.out)) : w.heap.size ≤ gb143)); have n5_ := Az.mk ((by rw [hg]; exact Nat.ne_of_lt (blk_lt (g := gb142) (o := .cells #[.int .i64 a0_0, .string a0_1, .string a0_2, .int .i64 a0_3, .slice A0_4 l0_4.length c0_4, .int .i64 a0_5] 26 (0, 0)) (bk BK142.out)) : gb142 ≠ gb143)); have n6_ := Az.mk ((by rw [hg]; exact Nat.ne_of_gt (blk_lt (g := gb142) (o := .cells #[.int .i64 a0_0, .string a0_1, .string a0_2, .int .i64 a0_3, .slice A0_4 l0_4.length c0_4, .int .i64 a0_5] 26 (0, 0)) (bk BK142.out)) : gb143 ≠ gb142)); clear BK142; clear HB; have BK142 := n0_; have HB := n1_; have BK143 := n2_; have GW143 := n3_; have GE143 := n4_; have NB142_143 := n5_; have NB143_142 := n6_; clear n0_ n1_ n2_ n3_ n4_ n5_ n6_; clear hb hbox hg; have hnb25 := NB142_143.out; have hnc25 := NB143_142.out; have hcz26_0 : w24.cell? ⟨gb142, 0, none⟩ = some (.int .i64 a0_0) := (bkC BK142.out 0).trans rfl; have hcz26_1 : w24.cell? ⟨gb142, 1, none⟩ = some (.string a0_1) := (bkC BK142.out 1).trans rfl; have hcz26_2 : w24.cell? ⟨gb142, 2, none⟩ = some (.string a0_2) := (bkC BK142.out 2).trans rfl; have hcz26_3 : w24.cell? ⟨gb142, 3, none⟩ = some (.int .i64 a0_3) := (bkC BK142.out 3).trans rfl; have hcz26_4 : w24.cell? ⟨gb142, 4, none⟩ = some (.slice A0_4 l0_4.length c0_4) := (bkC BK142.out 4).trans rfl; have hcz26_5 : w24.cell? ⟨gb142, 5, none⟩ = some (.int .i64 a0_5) := (bkC BK142.out 5).trans rfl; have hfz26_0 := bkF BK142.out 0; have hfz26_1 := bkF BK142.out 1; have hfz26_2 := bkF BK142.out 2; have hfz26_3 := bkF BK142.out 3; have hfz26_4 := bkF BK142.out 4; have hfz26_5 := bkF BK142.out 5; have hcz27_0 : w24.cell? ⟨gb143, 0, none⟩ = some (.int .i64 a1_0) := (bkC BK143.out 0).trans rfl; have hcz27_1 : w24.cell? ⟨gb143, 1, none⟩ = some (.string a1_1) := (bkC BK143.out 1).trans rfl; have hcz27_2 : w24.cell? ⟨gb143, 2, none⟩ = some (.string a1_2) := (bkC BK143.out 2).trans rfl; have hcz27_3 : w24.cell? ⟨gb143, 3, none⟩ = some (.int .i64 a1_3) := (bkC BK143.out 3).trans rfl; have hcz27_4 : w24.cell? ⟨gb143, 4, none⟩ = some (.slice A1_4 l1_4.length c1_4) := (bkC BK143.out 4).trans rfl; have hcz27_5 : w24.cell? ⟨gb143, 5, none⟩ = some (.int .i64 a1_5) := (bkC BK143.out 5).trans rfl; have hfz27_0 := bkF BK143.out 0; have hfz27_1 := bkF BK143.out 1; have hfz27_2 := bkF BK143.out 2; have hfz27_3 := bkF BK143.out 3; have hfz27_4 := bkF BK143.out 4; have hfz27_5 := bkF BK143.out 5))
      go_ret
      exact ⟨by first | rfl | (simp [errW_none, errW_some] <;> rfl) | (simp [*, errW_none, errW_some] <;> rfl), by exact pbE HB.out⟩
  · rw [if_neg c3] at H
    have c3b0 : (a0_0 == a1_0) = false := beq_eq_false_iff_ne.mpr c3
    have c3b1 : (a0_0 != a1_0) = true := bne_iff_ne.mpr c3
    obtain rfl := Option.some.inj H
    go_enter Tryd.func16, Tryd.ntmps16
    go_wp2_with (first | ((with_reducible refine gate_dst (N := 2) rfl ?_); refine box_event ?hg (N := 2) ?hd (cs := #[.int .i64 a0_0, .string a0_1, .string a0_2, .int .i64 a0_3, .slice A0_4 l0_4.length c0_4, .int .i64 a0_5]) (t := 26) ?hr ?_; (case hd => rfl); (case hg => rfl); (case hr => first | (go_simp; done) | (go_simp; rfl)); intro gb142 hg w28 hbox hb; have n0_ := Az.mk (pbT (by exact pbE HB.out) hb); have n1_ := Az.mk (hbox); have n2_ := Az.mk ((by rw [hg]; exact (pbZ (by exact pbE HB.out)) : w.heap.size ≤ gb142)); have n3_ := Az.mk ((by rw [hg]; exact (pbZ (by exact pbE HB.out)) : w.heap.size ≤ gb142)); clear HB; have HB := n0_; have BK142 := n1_; have GW142 := n2_; have GE142 := n3_; clear n0_ n1_ n2_ n3_; clear hb hbox hg) | ((with_reducible refine gate_dst (N := 3) rfl ?_); refine box_event ?hg (N := 3) ?hd (cs := #[.int .i64 a1_0, .string a1_1, .string a1_2, .int .i64 a1_3, .slice A1_4 l1_4.length c1_4, .int .i64 a1_5]) (t := 26) ?hr ?_; (case hd => rfl); (case hg => rfl); (case hr => first | (go_simp; done) | (go_simp; rfl)); intro gb143 hg w29 hbox hb; have n0_ := Az.mk (bkB (g := gb142) (o := .cells #[.int .i64 a0_0, .string a0_1, .string a0_2, .int .i64 a0_3, .slice A0_4 l0_4.length c0_4, .int .i64 a0_5] 26 (0, 0)) (bk BK142.out) hb); have n1_ := Az.mk (pbT (by exact pbE HB.out) hb); have n2_ := Az.mk (hbox); have n3_ := Az.mk ((by rw [hg]; exact (pbZ (by exact pbE HB.out)) : w.heap.size ≤ gb143)); have n4_ := Az.mk ((by rw [hg]; exact (pbZ (by exact pbE HB.out)) : w.heap.size ≤ gb143)); have n5_ := Az.mk ((by rw [hg]; exact Nat.ne_of_lt (blk_lt (g := gb142) (o := .cells #[.int .i64 a0_0, .string a0_1, .string a0_2, .int .i64 a0_3, .slice A0_4 l0_4.length c0_4, .int .i64 a0_5] 26 (0, 0)) (bk BK142.out)) : gb142 ≠ gb143)); have n6_ := Az.mk ((by rw [hg]; exact Nat.ne_of_gt (blk_lt (g := gb142) (o := .cells #[.int .i64 a0_0, .string a0_1, .string a0_2, .int .i64 a0_3, .slice A0_4 l0_4.length c0_4, .int .i64 a0_5] 26 (0, 0)) (bk BK142.out)) : gb143 ≠ gb142)); clear BK142; clear HB; have BK142 := n0_; have HB := n1_; have BK143 := n2_; have GW143 := n3_; have GE143 := n4_; have NB142_143 := n5_; have NB143_142 := n6_; clear n0_ n1_ n2_ n3_ n4_ n5_ n6_; clear hb hbox hg; have hnb30 := NB142_143.out; have hnc30 := NB143_142.out; have hcz31_0 : w29.cell? ⟨gb142, 0, none⟩ = some (.int .i64 a0_0) := (bkC BK142.out 0).trans rfl; have hcz31_1 : w29.cell? ⟨gb142, 1, none⟩ = some (.string a0_1) := (bkC BK142.out 1).trans rfl; have hcz31_2 : w29.cell? ⟨gb142, 2, none⟩ = some (.string a0_2) := (bkC BK142.out 2).trans rfl; have hcz31_3 : w29.cell? ⟨gb142, 3, none⟩ = some (.int .i64 a0_3) := (bkC BK142.out 3).trans rfl; have hcz31_4 : w29.cell? ⟨gb142, 4, none⟩ = some (.slice A0_4 l0_4.length c0_4) := (bkC BK142.out 4).trans rfl; have hcz31_5 : w29.cell? ⟨gb142, 5, none⟩ = some (.int .i64 a0_5) := (bkC BK142.out 5).trans rfl; have hfz31_0 := bkF BK142.out 0; have hfz31_1 := bkF BK142.out 1; have hfz31_2 := bkF BK142.out 2; have hfz31_3 := bkF BK142.out 3; have hfz31_4 := bkF BK142.out 4; have hfz31_5 := bkF BK142.out 5; have hcz32_0 : w29.cell? ⟨gb143, 0, none⟩ = some (.int .i64 a1_0) := (bkC BK143.out 0).trans rfl; have hcz32_1 : w29.cell? ⟨gb143, 1, none⟩ = some (.string a1_1) := (bkC BK143.out 1).trans rfl; have hcz32_2 : w29.cell? ⟨gb143, 2, none⟩ = some (.string a1_2) := (bkC BK143.out 2).trans rfl; have hcz32_3 : w29.cell? ⟨gb143, 3, none⟩ = some (.int .i64 a1_3) := (bkC BK143.out 3).trans rfl; have hcz32_4 : w29.cell? ⟨gb143, 4, none⟩ = some (.slice A1_4 l1_4.length c1_4) := (bkC BK143.out 4).trans rfl; have hcz32_5 : w29.cell? ⟨gb143, 5, none⟩ = some (.int .i64 a1_5) := (bkC BK143.out 5).trans rfl; have hfz32_0 := bkF BK143.out 0; have hfz32_1 := bkF BK143.out 1; have hfz32_2 := bkF BK143.out 2; have hfz32_3 := bkF BK143.out 3; have hfz32_4 := bkF BK143.out 4; have hfz32_5 := bkF BK143.out 5))
    go_ret
    exact ⟨by first | rfl | (simp [errW_none, errW_some] <;> rfl) | (simp [*, errW_none, errW_some] <;> rfl), by exact pbE HB.out⟩
end Go.Proofs.YtjfhcijjjadhbaaDoor.P
end
section
-- Written by a program of this session (wip/tools/pr.py), over the kit's printer; functions named in the texts imported below are given by hand.
namespace Go.Proofs.YtjfhcijjjadhbaaDoor.P
open Go.RowKit Go.Proofs.YtjfhcijjjadhbaaDoor.K Go.Proofs.YtjfhcijjjadhbaaDoorW.PrintWords Go.Proofs.YtjfhcijjjadhbaaDoorW.PrintLast Go.Proofs.YtjfhcijjjadhbaaDoorW.PrintMore
attribute [local go_sem] max2_int min2_int max_two min_two max_three min_three max_four min_four   -- for this text's walks alone
/-! ### desc_Quorum: function 18 -/
def desc_Quorum.f (a0 : Int) : Option (Int) := some (wrap64 ((wrap64 (Int.tdiv a0 2)) + 1))
set_option maxHeartbeats 8000000 in
set_option maxRecDepth 100000 in
theorem desc_Quorum.calls (a0 : Int) (r : Int) (w : World) (hG : TheG w) (h : desc_Quorum.f a0 = some r) :
    Calls Tryd.prog 18 #[.int .i64 a0] w fun e w' => e = .returned (.int .i64 r) ∧ Drawn0 w w' := by
  have H : (some (wrap64 ((wrap64 (Int.tdiv a0 2)) + 1))) = some r := h
  clear h
  obtain rfl := Option.some.inj H
  go_enter Tryd.func18, Tryd.ntmps18
  go_wp2
  go_ret
  exact ⟨by first | rfl | (simp; done) | (simp [*]; done), by repeat (first | exact Drawn0.refl _ | apply Drawn0.step)⟩
end Go.Proofs.YtjfhcijjjadhbaaDoor.P
end
section
-- Written by a program of this session (wip/tools/pr.py), over the kit's printer; functions named in the texts imported below are given by hand.
namespace Go.Proofs.YtjfhcijjjadhbaaDoor.P
open Go.RowKit Go.Proofs.YtjfhcijjjadhbaaDoor.K Go.Proofs.YtjfhcijjjadhbaaDoorW.PrintWords Go.Proofs.YtjfhcijjjadhbaaDoorW.PrintLast Go.Proofs.YtjfhcijjjadhbaaDoorW.PrintMore
attribute [local go_sem] max2_int min2_int max_two min_two max_three min_three max_four min_four   -- for this text's walks alone
/-! ### desc_First: function 23 -/
def desc_First.l0 : Nat → List Int → Int → Int → Int → ByteArray → ByteArray → Int → List (S60) → Int → Option (Int × ByteArray × ByteArray × Int × (List (S60)) × Int × Int)
  | 0, _, _, _, _, _, _, _, _, _ => none
  | k + 1, x8, x9, x10, x220000, x220001, x220002, x220003, x220004, x220005 => if x10 < x9 then (if 0 ≤ x10 then (if x10 < (x8.length : Int) then (if x220004.length < 8796093022208 then (desc_First.l0 k x8 x9 (wrap64 (x10 + 1)) x220000 x220001 x220002 x220003 (x220004 ++ [(⟨rd x8 x10, x220005⟩ : S60)]) (wrap64 (x220005 + 1))) else (none)) else (none)) else (none)) else ((desc_right.f x220000 x220001 x220002 x220003 x220004 x220005).bind fun bt224 => (some (bt224.1, bt224.2.1, bt224.2.2.1, bt224.2.2.2.1, bt224.2.2.2.2.1, bt224.2.2.2.2.2.1, bt224.2.2.2.2.2.2)))
def desc_First.f (k : Nat) (l0 : List Int) : Option (Int × ByteArray × ByteArray × Int × (List (S60)) × Int × Int) := desc_First.l0 k l0 (l0.length : Int) 0 1 (⟨#[]⟩ : ByteArray) (⟨#[]⟩ : ByteArray) 1 ([] : List (S60)) 1
theorem desc_First.mono_l : ∀ k, (∀ y0 y1 y2 y3 y4 y5 y6 y7 y8, LeO (desc_First.l0 k y0 y1 y2 y3 y4 y5 y6 y7 y8) (desc_First.l0 (k + 1) y0 y1 y2 y3 y4 y5 y6 y7 y8))
  | 0 => fun _ _ _ _ _ _ _ _ _ r h => by simp [desc_First.l0] at h
  | k + 1 => by
    have ih0 := desc_First.mono_l k
    · intro y0 y1 y2 y3 y4 y5 y6 y7 y8
      unfold desc_First.l0
      repeat' first
      | (with_reducible exact ih0 _ _ _ _ _ _ _ _ _)
      | (with_reducible exact LeO.refl _)
      | (with_reducible exact LeO.none _)
      | (with_reducible refine LeO.ite ?_ ?_)
      | (with_reducible refine LeO.bind ?_ (fun _ => ?_))
      | exact ih0 _ _ _ _ _ _ _ _ _
      | exact LeO.none _
      | refine LeO.ite ?_ ?_
      | refine LeO.bind ?_ (fun _ => ?_)
theorem desc_First.mono : ∀ a0 k, LeO (desc_First.f k a0) (desc_First.f (k + 1) a0) := by
  intro a0 k
  have ih0 := desc_First.mono_l k
  unfold desc_First.f
  repeat' first
      | (with_reducible exact ih0 _ _ _ _ _ _ _ _ _)
      | (with_reducible exact LeO.refl _)
      | (with_reducible exact LeO.none _)
      | (with_reducible refine LeO.ite ?_ ?_)
      | (with_reducible refine LeO.bind ?_ (fun _ => ?_))
      | exact ih0 _ _ _ _ _ _ _ _ _
      | exact LeO.none _
      | refine LeO.ite ?_ ?_
      | refine LeO.bind ?_ (fun _ => ?_)
set_option maxHeartbeats 8000000 in
set_option maxRecDepth 100000 in
theorem desc_First.calls (k : Nat) (A0 : Option Addr) (c0 : Nat) (l0 : List Int) (r1 : Int) (r2 : ByteArray) (r3 : ByteArray) (r4 : Int) (r5 : List (S60)) (r6 : Int) (r7 : Int) (w : World) (hG : TheG w) (hr0 : Kd.C (Kd.int .i64) w A0 l0.length l0) (hc0 : l0.length ≤ c0) (h : desc_First.f k l0 = some (r1, r2, r3, r4, r5, r6, r7)) :
    Calls Tryd.prog 23 #[.slice A0 l0.length c0] w fun e w' => ∃ v4_ : Value, e = .returned (.tuple #[.agg #[.int .i64 r1, .string r2, .string r3, .int .i64 r4, v4_, .int .i64 r6], .int .i64 r7]) ∧ Kd.V k60 60 w' w.heap.size (fun k_ => (w.heap.size ≤ k_)) v4_ r5 ∧ Below w.heap.size w w' := by
  have hu26 := Tryd.underlying26
  have hu60 := Tryd.underlying60
  have HR0 := Az.mk hr0
  have HC0 := Az.mk hc0
  clear hr0 hc0
  have HB := Az.mk (Below.refl w.heap.size w)
  have H : (desc_First.l0 k l0 (l0.length : Int) 0 1 (⟨#[]⟩ : ByteArray) (⟨#[]⟩ : ByteArray) 1 ([] : List (S60)) 1) = some (r1, r2, r3, r4, r5, r6, r7) := h
  clear h
  have H' := Az.mk H
  clear H
  go_enter Tryd.func23, Tryd.ntmps23
  go_wp2_with (first | ((with_reducible refine gate_dst (N := 2) rfl ?_); refine box_event ?hg (N := 2) ?hd (cs := #[.int .i64 0, .string (⟨#[]⟩ : ByteArray), .string (⟨#[]⟩ : ByteArray), .int .i64 0, .slice none 0 0, .int .i64 0]) (t := 26) ?hr ?_; (case hd => rfl); (case hg => rfl); (case hr => first | (go_simp; done) | (go_simp; rfl)); intro gb218 hg w2 hbox hb; have n0_ := Az.mk (pbT (by exact pbE HB.out) hb); have n1_ := Az.mk (hbox); have n2_ := Az.mk ((by rw [hg]; exact (pbZ (by exact pbE HB.out)) : w.heap.size ≤ gb218)); have n3_ := Az.mk ((by rw [hg]; exact (pbZ (by exact pbE HB.out)) : w.heap.size ≤ gb218)); clear HB; have HB := n0_; have BK218 := n1_; have GW218 := n2_; have GE218 := n3_; clear n0_ n1_ n2_ n3_; clear hb hbox hg) | ((with_reducible refine gate_dst (N := 4) rfl ?_); refine box_event ?hg (N := 4) ?hd (cs := #[.int .i64 0, .string (⟨#[]⟩ : ByteArray), .string (⟨#[]⟩ : ByteArray), .int .i64 0, .slice none 0 0, .int .i64 0]) (t := 26) ?hr ?_; (case hd => rfl); (case hg => rfl); (case hr => first | (go_simp; done) | (go_simp; rfl)); intro gb219 hg w3 hbox hb; have n0_ := Az.mk (bkB (g := gb218) (o := .cells #[.int .i64 0, .string (⟨#[]⟩ : ByteArray), .string (⟨#[]⟩ : ByteArray), .int .i64 0, .slice none 0 0, .int .i64 0] 26 (0, 0)) (bk BK218.out) hb); have n1_ := Az.mk (pbT (by exact pbE HB.out) hb); have n2_ := Az.mk (hbox); have n3_ := Az.mk ((by rw [hg]; exact (pbZ (by exact pbE HB.out)) : w.heap.size ≤ gb219)); have n4_ := Az.mk ((by rw [hg]; exact (pbZ (by exact pbE HB.out)) : w.heap.size ≤ gb219)); have n5_ := Az.mk ((by rw [hg]; exact Nat.ne_of_lt (blk_lt (g := gb218) (o := .cells #[.int .i64 0, .string (⟨#[]⟩ : ByteArray), .string (⟨#[]⟩ : ByteArray), .int .i64 0, .slice none 0 0, .int .i64 0] 26 (0, 0)) (bk BK218.out)) : gb218 ≠ gb219)); have n6_ := Az.mk ((by rw [hg]; exact Nat.ne_of_gt (blk_lt (g := gb218) (o := .cells #[.int .i64 0, .string (⟨#[]⟩ : ByteArray), .string (⟨#[]⟩ : ByteArray), .int .i64 0, .slice none 0 0, .int .i64 0] 26 (0, 0)) (bk BK218.out)) : gb219 ≠ gb218)); clear BK218; clear HB; have BK218 := n0_; have HB := n1_; have BK219 := n2_; have GW219 := n3_; have GE219 := n4_; have NB218_219 := n5_; have NB219_218 := n6_; clear n0_ n1_ n2_ n3_ n4_ n5_ n6_; clear hb hbox hg; have hnb4 := NB219_218.out; have hnc4 := NB218_219.out; have hcz5_0 : w3.cell? ⟨gb219, 0, none⟩ = some (.int .i64 0) := (bkC BK219.out 0).trans rfl; have hcz5_1 : w3.cell? ⟨gb219, 1, none⟩ = some (.string (⟨#[]⟩ : ByteArray)) := (bkC BK219.out 1).trans rfl; have hcz5_2 : w3.cell? ⟨gb219, 2, none⟩ = some (.string (⟨#[]⟩ : ByteArray)) := (bkC BK219.out 2).trans rfl; have hcz5_3 : w3.cell? ⟨gb219, 3, none⟩ = some (.int .i64 0) := (bkC BK219.out 3).trans rfl; have hcz5_4 : w3.cell? ⟨gb219, 4, none⟩ = some (.slice none 0 0) := (bkC BK219.out 4).trans rfl; have hcz5_5 : w3.cell? ⟨gb219, 5, none⟩ = some (.int .i64 0) := (bkC BK219.out 5).trans rfl; have hfz5_0 := bkF BK219.out 0; have hfz5_1 := bkF BK219.out 1; have hfz5_2 := bkF BK219.out 2; have hfz5_3 := bkF BK219.out 3; have hfz5_4 := bkF BK219.out 4; have hfz5_5 := bkF BK219.out 5))
  go_loopg [10] k (fun kq v10 w' => ∃ (x10_1 : Int) (x220004_1 : List (S60)) (x220005_1 : Int) (u220004 : Value), v10 = .int .i64 x10_1 ∧ Az (desc_First.l0 kq l0 (l0.length : Int) x10_1 1 (⟨#[]⟩ : ByteArray) (⟨#[]⟩ : ByteArray) 1 x220004_1 x220005_1 = some (r1, r2, r3, r4, r5, r6, r7)) ∧ Az (kq ≤ k) ∧ Az (Kd.R k60 60 w' w.heap.size (fun k_ => (w.heap.size ≤ k_)) u220004 x220004_1) ∧ Az (w'.heap[gb218]? = some (.cells #[.int .i64 0, .string (⟨#[]⟩ : ByteArray), .string (⟨#[]⟩ : ByteArray), .int .i64 0, (.slice none 0 0), .int .i64 0] 26 (0, 0))) ∧ Az (w'.heap[gb219]? = some (.cells #[.int .i64 1, .string (⟨#[]⟩ : ByteArray), .string (⟨#[]⟩ : ByteArray), .int .i64 1, u220004, .int .i64 x220005_1] 26 (0, 0))) ∧ Az (Below w.heap.size w w'))
  case atStart => exact ⟨(0), (([] : List (S60))), (1), (.slice none 0 0), (by first | rfl | (simp; done) | (simp [*]; done)), H', ⟨Nat.le_refl _⟩, ⟨by first | exact Kd.R_nil _ _ _ _ _ | exact Kd.N_nil _ _ _ _ _ | exact Kd.V_nil _ _ _ _ _ | exact Kd.Q_nil _ _ _ _ _ | exact Kd.S_nil _ _ _ _ _⟩, ⟨by refine bk ?_; refine blk_far ?_ NB218_219.out _; refine bk ?_; refine blk_far ?_ NB218_219.out _; refine bk ?_; refine blk_far ?_ NB218_219.out _; refine bk ?_; refine blk_far ?_ NB218_219.out _; refine bk ?_; refine blk_far ?_ NB218_219.out _; refine bk ?_; refine blk_far ?_ NB218_219.out _; refine bk ?_; exact BK218.out⟩, ⟨by refine bk ?_; refine blk_put (cs := #[.int .i64 1, .string (⟨#[]⟩ : ByteArray), .string (⟨#[]⟩ : ByteArray), .int .i64 1, .slice none 0 0, .int .i64 0]) ?_ 5 _ rfl; refine bk ?_; refine blk_put (cs := #[.int .i64 1, .string (⟨#[]⟩ : ByteArray), .string (⟨#[]⟩ : ByteArray), .int .i64 1, .slice none 0 0, .int .i64 0]) ?_ 4 _ rfl; refine bk ?_; refine blk_put (cs := #[.int .i64 1, .string (⟨#[]⟩ : ByteArray), .string (⟨#[]⟩ : ByteArray), .int .i64 0, .slice none 0 0, .int .i64 0]) ?_ 3 _ rfl; refine bk ?_; refine blk_put (cs := #[.int .i64 1, .string (⟨#[]⟩ : ByteArray), .string (⟨#[]⟩ : ByteArray), .int .i64 0, .slice none 0 0, .int .i64 0]) ?_ 2 _ rfl; refine bk ?_; refine blk_put (cs := #[.int .i64 1, .string (⟨#[]⟩ : ByteArray), .string (⟨#[]⟩ : ByteArray), .int .i64 0, .slice none 0 0, .int .i64 0]) ?_ 1 _ rfl; refine bk ?_; refine blk_put (cs := #[.int .i64 0, .string (⟨#[]⟩ : ByteArray), .string (⟨#[]⟩ : ByteArray), .int .i64 0, .slice none 0 0, .int .i64 0]) ?_ 0 _ rfl; refine bk ?_; exact BK219.out⟩, ⟨by exact pbE HB.out⟩⟩
  case round =>
    clear H'
    try clear c2
    try clear p2
    try clear c4
    try clear hcz5_0
    try clear hcz5_1
    try clear hcz5_2
    try clear hcz5_3
    try clear hcz5_4
    try clear hcz5_5
    try clear hfz5_0
    try clear hfz5_1
    try clear hfz5_2
    try clear hfz5_3
    try clear hfz5_4
    try clear hfz5_5
    obtain ⟨x10_1, x220004_1, x220005_1, u220004, rfl, HA, HK1, HO_220004, BK218, BK219, HB⟩ := hrel
    cases gk with
    | zero => exact absurd HA.out (by simp [desc_First.l0])
    | succ k1 =>
      have H := HA.out
      clear HA
      simp only [desc_First.l0] at H
      by_cases c6 : x10_1 < (l0.length : Int)
      · rw [if_pos c6] at H
        have c6b0 : decide (x10_1 < (l0.length : Int)) = true := decide_eq_true c6
        clear c6
        by_cases c7 : 0 ≤ x10_1
        · rw [if_pos c7] at H
          have c7b0 : decide (0 ≤ x10_1) = true := decide_eq_true c7
          clear c7
          by_cases c8 : x10_1 < (l0.length : Int)
          · rw [if_pos c8] at H
            have c8b0 : decide (x10_1 < (l0.length : Int)) = true := decide_eq_true c8
            clear c8
            by_cases c9 : x220004_1.length < 8796093022208
            · rw [if_pos c9] at H
              have LMc9 := Az.mk c9
              clear c9
              obtain ⟨y221, hy221⟩ : ∃ y_ : List (S60), y_ = (x220004_1 ++ [(⟨rd l0 x10_1, x220005_1⟩ : S60)]) := ⟨_, rfl⟩
              replace H : (desc_First.l0 k1 l0 (l0.length : Int) (wrap64 (x10_1 + 1)) 1 (⟨#[]⟩ : ByteArray) (⟨#[]⟩ : ByteArray) 1 y221 (wrap64 (x220005_1 + 1))) = some (r1, r2, r3, r4, r5, r6, r7) := by first | (rw [hy221]; with_reducible exact H) | (have H2_ := (Option.bind_some _ _).symm.trans H; rw [hy221]; with_reducible exact H2_) | (have H2_ := (Option.bind_some _ _).symm.trans H; with_reducible exact H2_) | with_reducible exact H | (rw [hy221]; exact H) | exact H
              have Ny221 := Az.mk hy221
              clear hy221
              have H' := Az.mk H
              clear H
              have p220 : 0 ≤ (x10_1 : Int) := of_decide_eq_true (by first | (with_reducible assumption) | assumption)
              have q220 : x10_1 < (l0.length : Int) := of_decide_eq_true (by first | (with_reducible assumption) | assumption)
              obtain ⟨ad220, e220, hx220_0⟩ := Kd.at_int HR0.out x10_1 p220 q220
              cases e220
              replace hx220_0 := (HB.out.cell (World.block_lt_of_cell? w _ hx220_0)).trans hx220_0
              replace p220 := eq_true p220
              replace q220 := eq_true q220
              have hnb10 := NB219_218.out
              have hnc10 := NB218_219.out
              have hcz11_0 : wr.cell? ⟨gb219, 0, none⟩ = some (.int .i64 1) := (bkC BK219.out 0).trans rfl
              have hcz11_1 : wr.cell? ⟨gb219, 1, none⟩ = some (.string (⟨#[]⟩ : ByteArray)) := (bkC BK219.out 1).trans rfl
              have hcz11_2 : wr.cell? ⟨gb219, 2, none⟩ = some (.string (⟨#[]⟩ : ByteArray)) := (bkC BK219.out 2).trans rfl
              have hcz11_3 : wr.cell? ⟨gb219, 3, none⟩ = some (.int .i64 1) := (bkC BK219.out 3).trans rfl
              have hcz11_4 : wr.cell? ⟨gb219, 4, none⟩ = some (u220004) := (bkC BK219.out 4).trans rfl
              have hcz11_5 : wr.cell? ⟨gb219, 5, none⟩ = some (.int .i64 x220005_1) := (bkC BK219.out 5).trans rfl
              have hfz11_0 := bkF BK219.out 0
              have hfz11_1 := bkF BK219.out 1
              have hfz11_2 := bkF BK219.out 2
              have hfz11_3 := bkF BK219.out 3
              have hfz11_4 := bkF BK219.out 4
              have hfz11_5 := bkF BK219.out 5
              go_wp2_with (first | ((with_reducible refine gate_builtin (b := .append) (xs := #[.tmp 15, .tmp 20]) rfl ?_); at_builtin; refine Kd.R_append k60 (w0 := w) w.heap.size rfl (.tmp 15) (.tmp 20) 24 60 (.agg #[(.int .i64 0), (.int .i64 0)]) 16 rfl Tryd.underlying24 info60 rfl (by decide) (by omega) u220004 x220004_1 (⟨rd l0 x10_1, x220005_1⟩ : S60) [.int .i64 (rd l0 x10_1), .int .i64 x220005_1] (fun k_ => (w.heap.size ≤ k_)) (fun _ => False) rfl rfl ?aP (fun _ hk => hk.elim) ?aF ?aO ?aB ?aS ?aL ?_; (case aP => exact k60_mkM _ _ _ (⟨rd l0 x10_1, x220005_1⟩ : S60)); (case aB => exact (by exact pbE HB.out)); (case aF => exact (fun k_ hk => (Nat.le_trans (pbZ (by exact pbE HB.out)) hk))); (case aO => exact (Kd.R_ext HO_220004.out)); (case aS => exact (pbZ (by exact pbE HB.out))); (case aL => have := LMc9.out; omega); intro v222 w12 ho hb hg hat; rw [← Ny221.out] at ho; have n0_ := Az.mk (blk_grown (g := gb218) (o := .cells #[.int .i64 0, .string (⟨#[]⟩ : ByteArray), .string (⟨#[]⟩ : ByteArray), .int .i64 0, .slice none 0 0, .int .i64 0] 26 (0, 0)) (bk BK218.out) hg (Kd.R_ne HO_220004.out BK218.out (by decide))); have n1_ := Az.mk (blk_grown (g := gb219) (o := .cells #[.int .i64 1, .string (⟨#[]⟩ : ByteArray), .string (⟨#[]⟩ : ByteArray), .int .i64 1, u220004, .int .i64 x220005_1] 26 (0, 0)) (bk BK219.out) hg (Kd.R_ne HO_220004.out BK219.out (by decide))); have n2_ := Az.mk (hb); have n3_ := Az.mk (ho); clear BK218; clear BK219; clear HB; clear HO_220004; have BK218 := n0_; have BK219 := n1_; have HB := n2_; have HO223 := n3_; clear n0_ n1_ n2_ n3_; clear ho hb hg hat; obtain ⟨Ao13, co13, eo13⟩ := Kd.R_slice HO223.out; subst eo13; have hcz14_0 : w12.cell? ⟨gb219, 0, none⟩ = some (.int .i64 1) := (bkC BK219.out 0).trans rfl; have hcz14_1 : w12.cell? ⟨gb219, 1, none⟩ = some (.string (⟨#[]⟩ : ByteArray)) := (bkC BK219.out 1).trans rfl; have hcz14_2 : w12.cell? ⟨gb219, 2, none⟩ = some (.string (⟨#[]⟩ : ByteArray)) := (bkC BK219.out 2).trans rfl; have hcz14_3 : w12.cell? ⟨gb219, 3, none⟩ = some (.int .i64 1) := (bkC BK219.out 3).trans rfl; have hcz14_4 : w12.cell? ⟨gb219, 4, none⟩ = some (u220004) := (bkC BK219.out 4).trans rfl; have hcz14_5 : w12.cell? ⟨gb219, 5, none⟩ = some (.int .i64 x220005_1) := (bkC BK219.out 5).trans rfl; have hfz14_0 := bkF BK219.out 0; have hfz14_1 := bkF BK219.out 1; have hfz14_2 := bkF BK219.out 2; have hfz14_3 := bkF BK219.out 3; have hfz14_4 := bkF BK219.out 4; have hfz14_5 := bkF BK219.out 5))
              go_roundg k1
              case measure => have := HK1.out; omega
              case rel => exact ⟨(wrap64 (x10_1 + 1)), (y221), (wrap64 (x220005_1 + 1)), (.slice Ao13 y221.length co13), (by first | rfl | (simp; done) | (simp [*]; done)), H', ⟨by have := HK1.out; omega⟩, ⟨by (with_reducible repeat (first | apply Kd.R_alloc | apply Kd.R_drewN | apply Kd.R_drew)); exact Kd.R_mono (Kd.R_far (p := ⟨gb219, 5, none⟩) (Kd.R_far (p := ⟨gb219, 4, none⟩) (Kd.R_types HO223.out BK219.out (by decide)) (fun _ hk => hk.2) (.slice Ao13 y221.length co13)) (fun _ hk => hk.2) (.int .i64 (wrap64 (x220005_1 + 1)))) (fun _ hk => hk.1)⟩, ⟨by refine bk ?_; refine blk_far ?_ NB218_219.out _; refine bk ?_; refine blk_far ?_ NB218_219.out _; refine bk ?_; exact BK218.out⟩, ⟨by refine bk ?_; refine blk_put (cs := #[.int .i64 1, .string (⟨#[]⟩ : ByteArray), .string (⟨#[]⟩ : ByteArray), .int .i64 1, .slice Ao13 y221.length co13, .int .i64 x220005_1]) ?_ 5 _ rfl; refine bk ?_; refine blk_put (cs := #[.int .i64 1, .string (⟨#[]⟩ : ByteArray), .string (⟨#[]⟩ : ByteArray), .int .i64 1, u220004, .int .i64 x220005_1]) ?_ 4 _ rfl; refine bk ?_; exact BK219.out⟩, ⟨by exact pbE HB.out⟩⟩
            · rw [if_neg c9] at H
              exact absurd H (by simp)
          · rw [if_neg c8] at H
            exact absurd H (by simp)
        · rw [if_neg c7] at H
          exact absurd H (by simp)
      · rw [if_neg c6] at H
        have c6b0 : decide (x10_1 < (l0.length : Int)) = false := decide_eq_false c6
        clear c6
        replace H := Option.bind_eq_some_iff.mp H
        obtain ⟨⟨t224, t225, t226, t227, t228, t231, t232⟩, A150, H⟩ := H
        replace H : (some (t224, t225, t226, t227, t228, t231, t232)) = some (r1, r2, r3, r4, r5, r6, r7) := H
        have A15 := Az.mk A150
        clear A150
        simp only [Option.some.injEq, Prod.mk.injEq] at H
        obtain ⟨rfl, rfl, rfl, rfl, rfl, rfl, rfl⟩ := H
        have hnb16 := NB219_218.out
        have hnc16 := NB218_219.out
        have hcz17_0 : wr.cell? ⟨gb219, 0, none⟩ = some (.int .i64 1) := (bkC BK219.out 0).trans rfl
        have hcz17_1 : wr.cell? ⟨gb219, 1, none⟩ = some (.string (⟨#[]⟩ : ByteArray)) := (bkC BK219.out 1).trans rfl
        have hcz17_2 : wr.cell? ⟨gb219, 2, none⟩ = some (.string (⟨#[]⟩ : ByteArray)) := (bkC BK219.out 2).trans rfl
        have hcz17_3 : wr.cell? ⟨gb219, 3, none⟩ = some (.int .i64 1) := (bkC BK219.out 3).trans rfl
        have hcz17_4 : wr.cell? ⟨gb219, 4, none⟩ = some (u220004) := (bkC BK219.out 4).trans rfl
        have hcz17_5 : wr.cell? ⟨gb219, 5, none⟩ = some (.int .i64 x220005_1) := (bkC BK219.out 5).trans rfl
        have hfz17_0 := bkF BK219.out 0
        have hfz17_1 := bkF BK219.out 1
        have hfz17_2 := bkF BK219.out 2
        have hfz17_3 := bkF BK219.out 3
        have hfz17_4 := bkF BK219.out 4
        have hfz17_5 := bkF BK219.out 5
        obtain ⟨Ao18, co18, eo18⟩ := Kd.R_slice HO_220004.out
        subst eo18
        go_wp2_with (first | ((with_reducible refine gtc (f := 37) rfl ?_); refine goesL_ (some 29) rfl rfl Tryd.func37 (by kernel_rfl) rfl #[.agg #[.int .i64 1, .string (⟨#[]⟩ : ByteArray), .string (⟨#[]⟩ : ByteArray), .int .i64 1, .slice Ao18 x220004_1.length co18, .int .i64 x220005_1]] rfl (by (try simp only [List.map_toArray, List.map_cons, List.map_nil]); first | done | rfl | (simp only [List.length_drop, List.length_take]; rfl)) ?_; (with_reducible refine (desc_right.calls 1 (⟨#[]⟩ : ByteArray) (⟨#[]⟩ : ByteArray) 1 (fun k_ => some k_ = (.slice Ao18 x220004_1.length co18 : Value).ownBlock) _ _ x220004_1 x220005_1 t224 t225 t226 t227 t228 t231 t232 _ ?side1 ?side2 A15.out).mono ?_); (case side1 => exact hG.below (by exact pbE HB.out)); (case side2 => exact Kd.R_V (Kd.R_tight rfl (Kd.R_types (Kd.R_types (HO_220004.out) BK218.out (by decide)) BK219.out (by decide)))); rintro e w19 ⟨v229, rfl, ho0, hb⟩; refine ⟨_, rfl, ?_⟩; have n0_ := Az.mk (Kd.R_below (Kd.R_ext HO_220004.out) hb); have n1_ := Az.mk (Kd.V_lower (Kd.V_mono (ok' := fun k_ => (w.heap.size ≤ k_) ∧ k_ ≠ gb218 ∧ k_ ≠ gb219) ho0 (fun k_ hk_ => ⟨Or.elim hk_ (fun hs_ => ((Kd.R_types (Kd.R_types (HO_220004.out) BK218.out (by decide)) BK219.out (by decide)).1 k_ hs_.symm).1.1) (fun hn_ => (Nat.le_trans (pbZ (by exact pbE HB.out)) hn_)), Or.elim hk_ (fun hs_ => ((Kd.R_types (Kd.R_types (HO_220004.out) BK218.out (by decide)) BK219.out (by decide)).1 k_ hs_.symm).1.2) (fun hn_ => (Kd.freshB (g := gb218) (o := .cells #[.int .i64 0, .string (⟨#[]⟩ : ByteArray), .string (⟨#[]⟩ : ByteArray), .int .i64 0, .slice none 0 0, .int .i64 0] 26 (0, 0)) (bk BK218.out) k_ hn_)), Or.elim hk_ (fun hs_ => ((Kd.R_types (Kd.R_types (HO_220004.out) BK218.out (by decide)) BK219.out (by decide)).1 k_ hs_.symm).2) (fun hn_ => (Kd.freshB (g := gb219) (o := .cells #[.int .i64 1, .string (⟨#[]⟩ : ByteArray), .string (⟨#[]⟩ : ByteArray), .int .i64 1, .slice Ao18 x220004_1.length co18, .int .i64 x220005_1] 26 (0, 0)) (bk BK219.out) k_ hn_))⟩)) (pbZ (by exact pbE HB.out))); have n2_ := Az.mk (bkB (g := gb218) (o := .cells #[.int .i64 0, .string (⟨#[]⟩ : ByteArray), .string (⟨#[]⟩ : ByteArray), .int .i64 0, .slice none 0 0, .int .i64 0] 26 (0, 0)) (bk BK218.out) hb); have n3_ := Az.mk (bkB (g := gb219) (o := .cells #[.int .i64 1, .string (⟨#[]⟩ : ByteArray), .string (⟨#[]⟩ : ByteArray), .int .i64 1, .slice Ao18 x220004_1.length co18, .int .i64 x220005_1] 26 (0, 0)) (bk BK219.out) hb); have n4_ := Az.mk (pbT (by exact pbE HB.out) hb); clear HO_220004; clear BK218; clear BK219; clear HB; have HO_220004 := n0_; have HO230 := n1_; have BK218 := n2_; have BK219 := n3_; have HB := n4_; clear n0_ n1_ n2_ n3_ n4_; (try clear hb); (try clear hb2); (try clear hk); (try clear hi); (try clear ho0); have hcz20_0 : w19.cell? ⟨gb218, 0, none⟩ = some (.int .i64 0) := (bkC BK218.out 0).trans rfl; have hcz20_1 : w19.cell? ⟨gb218, 1, none⟩ = some (.string (⟨#[]⟩ : ByteArray)) := (bkC BK218.out 1).trans rfl; have hcz20_2 : w19.cell? ⟨gb218, 2, none⟩ = some (.string (⟨#[]⟩ : ByteArray)) := (bkC BK218.out 2).trans rfl; have hcz20_3 : w19.cell? ⟨gb218, 3, none⟩ = some (.int .i64 0) := (bkC BK218.out 3).trans rfl; have hcz20_4 : w19.cell? ⟨gb218, 4, none⟩ = some (.slice none 0 0) := (bkC BK218.out 4).trans rfl; have hcz20_5 : w19.cell? ⟨gb218, 5, none⟩ = some (.int .i64 0) := (bkC BK218.out 5).trans rfl; have hfz20_0 := bkF BK218.out 0; have hfz20_1 := bkF BK218.out 1; have hfz20_2 := bkF BK218.out 2; have hfz20_3 := bkF BK218.out 3; have hfz20_4 := bkF BK218.out 4; have hfz20_5 := bkF BK218.out 5; obtain ⟨Ao21, co21, eo21⟩ := Kd.V_slice HO230.out; subst eo21))
        refine bodyPost_ret (results_ct rfl _ _ gb218 26 #[.int .i64 t224, .string t225, .string t226, .int .i64 t227, .slice Ao21 t228.length co21, .int .i64 t231] (0, 0) _ rfl (by refine bk ?_; refine blk_put (cs := #[.int .i64 t224, .string t225, .string t226, .int .i64 t227, .slice Ao21 t228.length co21, .int .i64 0]) ?_ 5 _ rfl; refine bk ?_; refine blk_put (cs := #[.int .i64 t224, .string t225, .string t226, .int .i64 t227, .slice none 0 0, .int .i64 0]) ?_ 4 _ rfl; refine bk ?_; refine blk_put (cs := #[.int .i64 t224, .string t225, .string t226, .int .i64 0, .slice none 0 0, .int .i64 0]) ?_ 3 _ rfl; refine bk ?_; refine blk_put (cs := #[.int .i64 t224, .string t225, .string (⟨#[]⟩ : ByteArray), .int .i64 0, .slice none 0 0, .int .i64 0]) ?_ 2 _ rfl; refine bk ?_; refine blk_put (cs := #[.int .i64 t224, .string (⟨#[]⟩ : ByteArray), .string (⟨#[]⟩ : ByteArray), .int .i64 0, .slice none 0 0, .int .i64 0]) ?_ 1 _ rfl; refine bk ?_; refine blk_put (cs := #[.int .i64 0, .string (⟨#[]⟩ : ByteArray), .string (⟨#[]⟩ : ByteArray), .int .i64 0, .slice none 0 0, .int .i64 0]) ?_ 0 _ rfl; refine bk ?_; exact BK218.out) Tryd.underlying26 rfl (by kernel_rfl)) rfl ?_
        exact ⟨_, by first | rfl | (simp [errW_none, errW_some] <;> rfl) | (simp [*, errW_none, errW_some] <;> rfl), by (with_reducible repeat (first | apply Kd.V_alloc | apply Kd.V_drewN | apply Kd.V_drew)); exact Kd.V_mono (Kd.V_far (p := ⟨gb218, 5, none⟩) (Kd.V_far (p := ⟨gb218, 4, none⟩) (Kd.V_far (p := ⟨gb218, 3, none⟩) (Kd.V_far (p := ⟨gb218, 2, none⟩) (Kd.V_far (p := ⟨gb218, 1, none⟩) (Kd.V_far (p := ⟨gb218, 0, none⟩) (Kd.V_mono HO230.out (fun k_ hk => (⟨hk, hk.2.1⟩ : _ ∧ k_ ≠ gb218))) (fun _ hk => hk.2) (.int .i64 t224)) (fun _ hk => hk.2) (.string t225)) (fun _ hk => hk.2) (.string t226)) (fun _ hk => hk.2) (.int .i64 t227)) (fun _ hk => hk.2) (.slice Ao21 t228.length co21)) (fun _ hk => hk.2) (.int .i64 t231)) (fun _ hk => hk.1.1), by exact pbE HB.out⟩
end Go.Proofs.YtjfhcijjjadhbaaDoor.P
end
section
/- Rows of flat elements: what an append onto a full slice (xs[:n:n]) leaves. -/
namespace Go.Proofs.YtjfhcijjjadhbaaDoor.K
open Go Go.RowKit Go.Proofs.YtjfhcijjjadhbaaDoorW.PrintWords Go.Proofs.YtjfhcijjjadhbaaDoorW.PrintLast Go.Proofs.YtjfhcijjjadhbaaDoorW.PrintMore
section
variable {P : Program} {α : Type}
/-- A kind whose cells tell all: none of it lies elsewhere. -/
def Flat (d : Kd α) : Prop := ∀ (w w' : World) x c, d.K w x c → d.K w' x c
theorem V_own {d : Kd α} (hf : Flat d) {W W1 : World} {base b2 : Nat} {e : TypeId} {v : Value} {xs : List α} {inner : List Value} (hown : W1.ownsRow base e d.sz v xs.length inner) (hr : Reps (d.K W) d.sz xs inner) (ok : Nat → Prop) (hok : ∀ k, v.ownBlock = some k → ok k) : Kd.V d e W1 b2 ok v xs := by
  obtain ⟨hlen, hown⟩ := hown
  rcases hown with ⟨rfl, h0⟩ | ⟨g, cap, cur, rfl, hg, hheap, hcap, hmax, hsz, htake⟩
  · obtain rfl : xs = [] := List.eq_nil_of_length_eq_zero h0
    exact ⟨none, 0, rfl, Nat.le_refl _, Kd.F_nil d W1 ok⟩
  · refine ⟨some ⟨g, 0, none⟩, cap, rfl, hcap, fun W' hW => ?_⟩
    have hlt : g < W1.heap.size := by
      rcases Nat.lt_or_ge g W1.heap.size with h | h
      · exact h
      · rw [Array.getElem?_eq_none h] at hheap; cases hheap
    have hh : W'.heap[g]? = some (.cells cur e (0, 0)) := (hW g (hok g rfl) hlt).trans hheap
    have ho : OwnRow (d.K W') e d.sz W' base (.slice (some ⟨g, 0, none⟩) xs.length cap) xs := ⟨inner, ⟨hlen, .inr ⟨g, cap, cur, rfl, hg, hh, hcap, hmax, hsz, htake⟩⟩, hr.imp_ (fun p c hp => hf _ _ _ _ hp)⟩
    obtain ⟨A, c, he, _, hR⟩ := ho.reads
    injection he with h1
    subst h1
    exact hR
theorem F_flat {d : Kd α} {W : World} {ok : Nat → Prop} {A : Option Addr} {n : Nat} {xs : List α} (h : Kd.F d W ok A n xs) : Kd.C d W A n xs := Kd.F_now h
/-- What is read of flat elements is so in every world that has the same blocks. -/
theorem F_of_C {d : Kd α} (hf : Flat d) {W : World} {A : Option Addr} {n : Nat} {xs : List α} (h : Kd.C d W A n xs) : Kd.F d W (fun _ => True) A n xs := by
  intro W' hW
  obtain ⟨h1, h2, h3⟩ := h
  refine ⟨h1, h2, fun hn => ?_⟩
  obtain ⟨ad, e, hc⟩ := h3 hn
  refine ⟨ad, e, fun j p hp => ?_⟩
  obtain ⟨c, hl, hK, hcell⟩ := hc j p hp
  refine ⟨c, hl, hf _ _ _ _ hK, fun i u hu => ?_⟩
  have hold := hcell i u hu
  have hlt : (ad.add (j * d.sz + i)).block < W.heap.size := by
    rcases Nat.lt_or_ge (ad.add (j * d.sz + i)).block W.heap.size with h | h
    · exact h
    · simp [World.cell?, Array.getElem?_eq_none h] at hold
  rw [World.cell?_of_block (hW _ trivial hlt)]
  exact hold
theorem V_of_C {d : Kd α} (hf : Flat d) {W : World} {A : Option Addr} {c : Nat} {xs : List α} {e base : Nat} (h : Kd.C d W A xs.length xs) (hc : xs.length ≤ c) : Kd.V d e W base (fun _ => True) (.slice A xs.length c) xs := ⟨A, c, rfl, hc, F_of_C hf h⟩
/-- append(xs[:n:n], ys..): a new row, or, with nothing to append, xs[:n:n] itself. -/
theorem run_app_cut (d : Kd α) (hf : Flat d) (W : World) (t ty e : TypeId) (i : TypeInfo) (z : Value) (bytes : Nat) (ht : P.underlying t = some (.slice e)) (hi : P.info? e = some i) (hz : i.zero = some z) (hsize : i.size = d.sz) (hby : i.bytes = bytes) (hzs : z.cells.size = d.sz) (hsz : 0 < d.sz) (hb0 : 0 < bytes)
    (A : Option Addr) (n : Nat) (xs : List α) (A2 : Option Addr) (m c : Nat) (ys : List α) (ok : Nat → Prop) (base : Nat) (HX : Kd.F d W ok A n xs) (HY : Kd.C d W A2 m ys) (hl : (n + m) * bytes ≤ 140737488355328) :
    ∃ v1 w1, (Builtin.append_ #[t, t] ty #[.slice A n n, .slice A2 m c]).run P W = .ok v1 w1 ∧ Below W.heap.size W w1 ∧ Kd.V d e w1 base (fun k => ok k ∨ W.heap.size ≤ k) v1 (xs ++ ys) := by
  have HX0 := F_flat HX
  have hn : xs.length = n := HX0.1
  have hm : ys.length = m := HY.1
  have hlen : n + m ≤ 140737488355328 := Nat.le_trans (Nat.le_mul_of_pos_right _ hb0) hl
  rcases Nat.eq_zero_or_pos m with h0 | hp
  · subst h0
    obtain rfl : ys = [] := List.eq_nil_of_length_eq_zero hm
    refine ⟨.slice A n n, W, ?_, Below.refl _ _, ?_⟩
    · rcases A with _ | ad
      · have hn0 : n = 0 := by
          rcases Nat.eq_zero_or_pos n with h | h
          · exact h
          · obtain ⟨ad, h, _⟩ := HX0.2.2 h; cases h
        subst hn0
        rcases A2 with _ | a2
        · simp [Builtin.append_, run_underlying ht, sizeOf, typeInfo, hi, Builtin.lenOf, Builtin.firstCells]
        · simp [Builtin.append_, run_underlying ht, sizeOf, typeInfo, hi, Builtin.lenOf, Builtin.firstCells, loadCells, loadCellsFrom]
      · rcases A2 with _ | a2
        · simp [Builtin.append_, run_underlying ht, sizeOf, typeInfo, hi, Builtin.lenOf, Builtin.firstCells, storeCells]
        · simp [Builtin.append_, run_underlying ht, sizeOf, typeInfo, hi, Builtin.lenOf, Builtin.firstCells, storeCells, loadCells, loadCellsFrom]
    · rw [List.append_nil]
      subst hn
      exact ⟨A, xs.length, rfl, Nat.le_refl _, Kd.F_mono HX (fun k hk => .inl hk)⟩
  · obtain ⟨a2, rfl, _⟩ := HY.2.2 hp
    obtain ⟨news, hnr, hnc⟩ := ReadsRow.inner_ HY
    have hone : ∀ u ∈ news, u.oneCell' = true := by
      intro u hu
      obtain ⟨q, hq, rfl⟩ := List.mem_iff_getElem.1 hu
      have hql : q / d.sz < ys.length := by rw [Nat.div_lt_iff_lt_mul hsz, ← hnr.1]; exact hq
      have hc := hnr.2 (q / d.sz) _ (List.getElem?_eq_getElem hql)
      refine d.K_one hc _ ?_
      rw [List.mem_iff_getElem?]
      refine ⟨q % d.sz, ?_⟩
      rw [List.getElem?_take, if_pos (Nat.mod_lt _ hsz), List.getElem?_drop, Nat.mul_comm, Nat.div_add_mod, List.getElem?_eq_getElem hq]
    have hnl : news.length = m * d.sz := by rw [hnr.1, hm]
    have fin : ∀ (olds : List Value) v1 w1, Reps (d.K W) d.sz xs olds → w1.ownsRow W.heap.size e d.sz v1 (n + m) (olds ++ news) → W.grownBy w1 none → Below W.heap.size W w1 ∧ Kd.V d e w1 base (fun k => ok k ∨ W.heap.size ≤ k) v1 (xs ++ ys) := by
      intro olds v1 w1 hxr hown hg
      refine ⟨⟨hg.os, hg.tape, hg.output, hg.size, fun k hk => hg.block k hk (by simp)⟩, V_own hf (xs := xs ++ ys) (by rw [List.length_append, hn, hm]; exact hown) (Kd.reps_append hxr hnr) _ (fun k hk => .inr ?_)⟩
      rcases hown.2 with ⟨rfl, h⟩ | ⟨g, cap, cur, rfl, hgb, _⟩
      · omega
      · have : g = k := by simpa [Value.ownBlock] using hk
        omega
    rcases A with _ | ad
    · have hn0 : n = 0 := by
        rcases Nat.eq_zero_or_pos n with h | h
        · exact h
        · obtain ⟨ad, h, _⟩ := HX0.2.2 h; cases h
      subst hn0
      obtain rfl : xs = [] := List.eq_nil_of_length_eq_zero hn
      obtain ⟨v1, w1, hrun, h2, hg, _⟩ := run_append_own_at (P := P) W W.heap.size t ty e i z d.sz bytes ht hi hz hsize hby hzs hsz (.slice none 0 0) 0 [] (own_nil _ _ _ _) a2 m c news hnl hnc hone (by simp only [maxLen]; omega) hl (Nat.le_refl _)
      exact ⟨v1, w1, hrun, fin [] v1 w1 (Reps.none _ _) h2 hg⟩
    · obtain ⟨olds, hxr, hxc⟩ := ReadsRow.inner_ HX0
      obtain ⟨v1, w1, hrun, h2, hg⟩ := run_append_arg_grows (P := P) W t ty e i z d.sz bytes ht hi hz hsize hby hzs hsz ad n n olds (by rw [hxr.1, hn]) hxc a2 m c news hnl hnc (by omega) (by simp only [maxLen]; omega) hl
      exact ⟨v1, w1, hrun, fin olds v1 w1 hxr h2 hg⟩
variable {ops : Array Oper} {rest : List Oper} {o : Oper} {a : Act} {Q : Exit → Act → World → Prop}
theorem V_append_cut (d : Kd α) (hf : Flat d) {W : World} (base : Nat) (hgd : o.guard = none) (s x : Operand) (t e : TypeId) (z : Value) (bytes : Nat)
    (ho : o.op = .call { callee := .builtin .append, args := #[s, x], argTypes := #[t, t] })
    (ht : P.underlying t = some (.slice e)) (hinfo : (P.info? e).map (fun i => (i.zero, i.size, i.bytes)) = some (some z, d.sz, bytes)) (hz : z.cells.size = d.sz) (hs0 : 0 < d.sz) (hb0 : 0 < bytes)
    (A : Option Addr) (n : Nat) (xs : List α) (A2 : Option Addr) (m c : Nat) (ys : List α) (ok : Nat → Prop) (hs : a.eval s = .slice A n n) (hx : a.eval x = .slice A2 m c)
    (HX : Kd.F d W ok A n xs) (HY : Kd.C d W A2 m ys) (hl : (n + m) * bytes ≤ 140737488355328)
    (h : ∀ v1 w1, Kd.V d e w1 base (fun k => ok k ∨ W.heap.size ≤ k) v1 (xs ++ ys) → Below W.heap.size W w1 → wpList P ops Q rest (a.put o.dst v1) w1) :
    wpList P ops Q (o :: rest) a W := by
  obtain ⟨i0, hi, hzz⟩ := Option.map_eq_some_iff.1 hinfo
  simp only [Prod.mk.injEq] at hzz
  obtain ⟨hz0, hz1, hz2⟩ := hzz
  obtain ⟨v1, w1, hr1, hb, hv⟩ := run_app_cut (P := P) d hf W t o.type e i0 z bytes ht hi hz0 hz1 hz2 hz hs0 hb0 A n xs A2 m c ys ok base HX HY hl
  refine wpList_plain hgd fun K hK => ?_
  unfold Oper.wp execOp
  simp only [ho, resolve, invoke, builtin, Sem.run_bind, Sem.run_pure, Result.andThen_ok, List.map_toArray, List.map_cons, List.map_nil, hs, hx, hr1]
  exact hK _ _ (h v1 w1 hv hb)
theorem step_append_cut (d : Kd α) (hf : Flat d) {W : World} {K : Act → World → Prop} {E : Prop} (base : Nat) (hgd : o.guard = none) (s x : Operand) (t e : TypeId) (z : Value) (bytes : Nat)
    (ho : o.op = .call { callee := .builtin .append, args := #[s, x], argTypes := #[t, t] })
    (ht : P.underlying t = some (.slice e)) (hinfo : (P.info? e).map (fun i => (i.zero, i.size, i.bytes)) = some (some z, d.sz, bytes)) (hz : z.cells.size = d.sz) (hs0 : 0 < d.sz) (hb0 : 0 < bytes)
    (A : Option Addr) (n : Nat) (xs : List α) (A2 : Option Addr) (m c : Nat) (ys : List α) (ok : Nat → Prop) (hs : a.eval s = .slice A n n) (hx : a.eval x = .slice A2 m c)
    (HX : Kd.F d W ok A n xs) (HY : Kd.C d W A2 m ys) (hl : (n + m) * bytes ≤ 140737488355328)
    (h : ∀ v1 w1, Kd.V d e w1 base (fun k => ok k ∨ W.heap.size ≤ k) v1 (xs ++ ys) → Below W.heap.size W w1 → K (a.put o.dst v1) w1) :
    if Region.wanted o (yielded ops a.tmps) = true then Oper.wp P o a W K Q else E := by
  obtain ⟨i0, hi, hzz⟩ := Option.map_eq_some_iff.1 hinfo
  simp only [Prod.mk.injEq] at hzz
  obtain ⟨hz0, hz1, hz2⟩ := hzz
  obtain ⟨v1, w1, hr1, hb, hv⟩ := run_app_cut (P := P) d hf W t o.type e i0 z bytes ht hi hz0 hz1 hz2 hz hs0 hb0 A n xs A2 m c ys ok base HX HY hl
  have hw : Region.wanted o (yielded ops a.tmps) = true := by simp [Region.wanted, hgd]
  rw [if_pos hw]
  unfold Oper.wp execOp
  simp only [ho, resolve, invoke, builtin, Sem.run_bind, Sem.run_pure, Result.andThen_ok, List.map_toArray, List.map_cons, List.map_nil, hs, hx, hr1]
  exact h v1 w1 hv hb
end
end Go.Proofs.YtjfhcijjjadhbaaDoor.K
end
section
/- slices.Clone of members: by hand. -/
namespace Go.Proofs.YtjfhcijjjadhbaaDoor.P
open Go.RowKit Go.Proofs.YtjfhcijjjadhbaaDoor.K Go.Proofs.YtjfhcijjjadhbaaDoorW.PrintWords Go.Proofs.YtjfhcijjjadhbaaDoorW.PrintLast Go.Proofs.YtjfhcijjjadhbaaDoorW.PrintMore
def api_Member_33.f (l0 : List S60) : Option (List S60) := if l0.length < 8796093022208 then some l0 else none
set_option maxHeartbeats 2000000 in
set_option maxRecDepth 100000 in
theorem api_Member_33.calls (A0 : Option Addr) (c0 : Nat) (l0 : List S60) (r : List S60) (w : World) (hG : TheG w) (hr0 : Kd.C k60 w A0 l0.length l0) (hc0 : l0.length ≤ c0) (h : api_Member_33.f l0 = some r) :
    Calls Tryd.prog 33 #[.slice A0 l0.length c0] w fun e w' => ∃ v : Value, e = .returned v ∧ Kd.R k60 60 w' w.heap.size (fun _ => True) v r ∧ Below w.heap.size w w' := by
  unfold api_Member_33.f at h
  split at h
  case isFalse => exact absurd h (by simp)
  case isTrue hl =>
  obtain rfl := Option.some.inj h
  clear h
  rcases A0 with _ | ad
  · have h0 : l0 = [] := by
      rcases l0 with _ | ⟨x, l⟩
      · rfl
      · obtain ⟨ad, h, _⟩ := hr0.2.2 (by simp); cases h
    subst h0
    have hbin := fun w => Lib.run_eql_slice_nil (P := Tryd.prog) w 24 60 none 0 c0 0 0 Tryd.underlying24
    go_enter Tryd.func33, Tryd.ntmps33
    go_wp2
    go_ret
    exact ⟨_, rfl, Kd.R_nil _ _ _ _ _, Below.refl _ _⟩
  · have HC := Lib.hid hr0
    clear hr0
    have hbin := fun w => Lib.run_eql_slice_nil (P := Tryd.prog) w 24 60 (some ad) l0.length c0 0 0 Tryd.underlying24
    go_enter Tryd.func33, Tryd.ntmps33
    go_wp2_with (first | ((with_reducible refine gate_dst (N := 5) rfl ?_); refine Kd.R_lit k60 _ 60 ?hg (N := 5) ?hd (xs := ([] : List (S60))) (inner := []) (ok := fun _ => True) (okp := fun _ => True) ?hr ?hp (fun _ hk => hk) trivial (Below.refl _ _) (Nat.le_refl _) (by simp) ?_; (case hd => rfl); (case hg => rfl); (case hr => first | (go_simp; done) | (go_simp; rfl)); (case hp => exact (Reps.none _ _)); intro v1 w1 ho1 hb1 _ _) | ((with_reducible refine gate_builtin (b := .append) (xs := #[.tmp 5, .tmp 6]) rfl ?_); at_builtin; refine Kd.R_append_rows k60 (w0 := w) w.heap.size rfl (.tmp 5) (.tmp 6) 24 60 (.agg #[(.int .i64 0), (.int .i64 0)]) 16 rfl Tryd.underlying24 info60 rfl (by decide) (by omega) v1 [] l0 _ _ _ (fun _ => True) (fun _ => False) rfl rfl ?aO ?aR (fun _ _ h => h) (fun _ h => h.elim) ?aF ?aB ?aS ?aL ?_; (case aR => exact Kd.C_below HC.out hb1); (case aF => exact fun _ _ => trivial); (case aB => exact hb1); (case aS => exact hb1.size); (case aL => simp; omega); (case aO => exact ho1); intro v2 w2 ho2 hb2 _ _) | fail)
    obtain ⟨A3, c3, rfl⟩ := Kd.R_slice ho2
    go_ret
    exact ⟨_, rfl, ho2, hb2⟩
theorem flat60 : Flat k60 := by
  intro w w' x c h
  obtain rfl := k60_open h
  exact k60_mk w' x
end Go.Proofs.YtjfhcijjjadhbaaDoor.P
end
section
/- slices.IndexFunc over members, desc.find, On, Has: by hand. -/
namespace Go.Proofs.YtjfhcijjjadhbaaDoor.P
open Go.RowKit Go.Shelf Go.Proofs.YtjfhcijjjadhbaaDoor.K Go.Proofs.YtjfhcijjjadhbaaDoorW.PrintWords Go.Proofs.YtjfhcijjjadhbaaDoorW.PrintLast Go.Proofs.YtjfhcijjjadhbaaDoorW.PrintMore
def aggM (m : S60) : Value := .agg #[.int .i64 m.f0, .int .i64 m.f1]
theorem two_old {w w2 : World} {c1 c2 : Array Value} {t t2 : TypeId} (hb : Below ((w.alloc (.cells c1 t)).alloc (.cells c2 t2)).heap.size ((w.alloc (.cells c1 t)).alloc (.cells c2 t2)) w2) (_ _ : Unit) : w2.heap[w.heap.size]? = some (.cells c1 t (0, 0)) := by
  have h1 : (w.alloc (.cells c1 t)).heap.size = w.heap.size + 1 := by simp
  have h2 : ((w.alloc (.cells c1 t)).alloc (.cells c2 t2)).heap.size = w.heap.size + 2 := by simp
  rw [hb.block w.heap.size (by omega), heap_alloc_old _ _ (by omega)]
  exact heap_alloc_new w _
theorem two_new {w w2 : World} {c1 c2 : Array Value} {t t2 : TypeId} (hb : Below ((w.alloc (.cells c1 t)).alloc (.cells c2 t2)).heap.size ((w.alloc (.cells c1 t)).alloc (.cells c2 t2)) w2) (_ _ : Unit) : w2.heap[w.heap.size + 1]? = some (.cells c2 t2 (0, 0)) := by
  have h1 : (w.alloc (.cells c1 t)).heap.size = w.heap.size + 1 := by simp
  have h2 : ((w.alloc (.cells c1 t)).alloc (.cells c2 t2)).heap.size = w.heap.size + 2 := by simp
  rw [hb.block (w.heap.size + 1) (by omega), ← h1]
  exact heap_alloc_new _ _
theorem three_new {w w2 : World} {c1 c2 c3 : Array Value} {t t2 t3 : TypeId} (hb : Below (((w.alloc (.cells c1 t)).alloc (.cells c2 t2)).alloc (.cells c3 t3)).heap.size (((w.alloc (.cells c1 t)).alloc (.cells c2 t2)).alloc (.cells c3 t3)) w2) (_ _ : Unit) : w2.heap[w.heap.size + 2]? = some (.cells c3 t3 (0, 0)) := by
  have h1 : ((w.alloc (.cells c1 t)).alloc (.cells c2 t2)).heap.size = w.heap.size + 2 := by simp
  have h2 : (((w.alloc (.cells c1 t)).alloc (.cells c2 t2)).alloc (.cells c3 t3)).heap.size = w.heap.size + 3 := by simp
  rw [hb.block (w.heap.size + 2) (by omega), ← h1]
  exact heap_alloc_new _ _
theorem put2 {w1 : World} {B : Nat} {t : TypeId} {x y : Value} (BL : w1.heap[B]? = some (.cells #[.int .i64 0, .int .i64 0] t (0, 0))) : ((w1.setCell ⟨B, 0, none⟩ x).setCell ⟨B, 1, none⟩ y).heap[B]? = some (.cells #[x, y] t (0, 0)) := by
  refine blk_put (cs := #[x, .int .i64 0]) ?_ 1 _ rfl
  exact blk_put (cs := #[.int .i64 0, .int .i64 0]) BL 0 _ rfl
theorem three_old {w w2 : World} {c1 c2 c3 : Array Value} {t t2 t3 : TypeId} (hb : Below (((w.alloc (.cells c1 t)).alloc (.cells c2 t2)).alloc (.cells c3 t3)).heap.size (((w.alloc (.cells c1 t)).alloc (.cells c2 t2)).alloc (.cells c3 t3)) w2) (_ _ : Unit) : w2.heap[w.heap.size]? = some (.cells c1 t (0, 0)) := bkB (bkA (bkA (heap_alloc_new w _) _) _) hb
theorem three_mid2 {w w2 : World} {c1 c2 c3 : Array Value} {t t2 t3 : TypeId} (hb : Below (((w.alloc (.cells c1 t)).alloc (.cells c2 t2)).alloc (.cells c3 t3)).heap.size (((w.alloc (.cells c1 t)).alloc (.cells c2 t2)).alloc (.cells c3 t3)) w2) (_ _ : Unit) : w2.heap[w.heap.size + 1]? = some (.cells c2 t2 (0, 0)) := by
  have h1 : (w.alloc (.cells c1 t)).heap.size = w.heap.size + 1 := by simp
  refine bkB (bkA ?_ _) hb
  rw [← h1]
  exact heap_alloc_new _ _
theorem three_mid (w : World) (c1 c2 c3 : Array Value) (t t2 t3 : TypeId) : (((w.alloc (.cells c1 t)).alloc (.cells c2 t2)).alloc (.cells c3 t3)).heap[w.heap.size + 1]? = some (.cells c2 t2 (0, 0)) := by
  have h1 : (w.alloc (.cells c1 t)).heap.size = w.heap.size + 1 := by simp
  refine bkA ?_ _
  rw [← h1]
  exact heap_alloc_new _ _
/-- A predicate that may lay blocks of its own. -/
def PredM (g : Nat) (lb : Array Value) (p : S60 → Bool) (w : World) : Prop :=
  ∀ (W : World) (x : S60), Below w.heap.size w W → Calls Tryd.prog g (#[aggM x] ++ lb) W fun e w' => e = .returned (.bool (p x)) ∧ Below W.heap.size W w'
def idxZ (p : S60 → Bool) : List S60 → Nat → Int
  | [], _ => -1
  | m :: r, k => if p m = true then (k : Int) else idxZ p r (k + 1)
theorem idxZ_cases (p : S60 → Bool) : ∀ (l : List S60) (k : Nat), (idxZ p l k = -1 ∧ l.find? p = none) ∨ ∃ (i : Nat) (h : i < l.length), idxZ p l k = ((k + i : Nat) : Int) ∧ l.find? p = some l[i]
  | [], k => .inl ⟨rfl, rfl⟩
  | m :: r, k => by
    simp only [idxZ]
    by_cases hp : p m = true
    · rw [if_pos hp]
      exact .inr ⟨0, by simp, by simp, by simp [List.find?_cons, hp]⟩
    · have hp' : p m = false := by simpa using hp
      rw [if_neg hp]
      rcases idxZ_cases p r (k + 1) with ⟨h1, h2⟩ | ⟨i, h, h1, h2⟩
      · exact .inl ⟨h1, by simp [List.find?_cons, hp', h2]⟩
      · exact .inr ⟨i + 1, by simp; omega, by rw [h1]; omega, by simp [List.find?_cons, hp', h2]⟩
set_option maxHeartbeats 4000000 in
set_option maxRecDepth 100000 in
theorem indexM_calls (p : S60 → Bool) (g : Nat) (lb : Array Value) (eg : ∀ args w, (callFunc g args).run Tryd.prog w = .ok (.enter g args) w) (A0 : Option Addr) (c0 : Nat) (l0 : List (S60)) (w : World) (hr0 : Kd.C k60 w A0 l0.length l0) (hc0 : l0.length ≤ 1000000000) (hp : PredM g lb p w) :
    Calls Tryd.prog 72 #[.slice A0 l0.length c0, .func (.func g) #[] lb] w fun e w' => e = .returned (.int .i64 (idxZ p l0 0)) ∧ Below w.heap.size w w' := by
  have HC := Lib.hid hr0
  clear hr0
  go_enter Tryd.func72, Tryd.ntmps72
  go_wp2
  go_loopw [5, 8] (fun _ i wr => ∃ k : Nat, k ≤ l0.length ∧ i = .int .i64 k ∧ Hid (idxZ p l0 0 = idxZ p (l0.drop k) k) ∧ Hid (Below w.heap.size w wr)) (fun _ i _ => l0.length - (intOf i).toNat)
  case atStart => exact ⟨0, Nat.zero_le _, rfl, Lib.hid rfl, Lib.hid (Below.refl _ _)⟩
  case round =>
    obtain ⟨k, hk, rfl, HN, HB⟩ := hrel
    by_cases hlt : k < l0.length
    · have hk0 : (0 : Int) ≤ (k : Int) := by omega
      have hk1 : (k : Int) < (l0.length : Int) := by omega
      obtain ⟨ad, ea, hx0, hx1⟩ := at_T60 (Kd.C_below HC.out HB.out) (k : Int) hk0 hk1
      subst ea
      rw [Int.toNat_natCast] at hx0 hx1
      have hdrop : l0.drop k = l0[k] :: l0.drop (k + 1) := List.drop_eq_getElem_cons hlt
      have hrd : rd_T60 l0 (k : Int) = l0[k] := by simp [rd_T60, hlt]
      have hN := HN.out
      rw [hdrop, ← hrd] at hN
      simp only [idxZ] at hN
      clear hdrop hrd HN
      generalize rd_T60 l0 (k : Int) = m at hx0 hx1 hN
      have HP := Lib.hid (hp wr m HB.out)
      cases hq : p m with
      | true =>
        rw [if_pos hq] at hN
        rw [hq] at HP
        go_wp2_with (go_at_fn g; refine HP.out.mono ?_; rintro e w2 ⟨rfl, hb⟩)
        go_ret
        exact ⟨by first | rfl | (rw [hN]; rfl), pbT HB.out hb⟩
      | false =>
        rw [if_neg (by rw [hq]; simp)] at hN
        rw [hq] at HP
        have HN := Lib.hid hN
        clear hN
        go_wp2_with (go_at_fn g; refine HP.out.mono ?_; rintro e w2 ⟨rfl, hb⟩)
        go_roundw
        case rel => exact ⟨k + 1, by omega, by go_num, HN, Lib.hid (pbT HB.out hb)⟩
        case measure => simp [intOf]; omega
    · obtain rfl : k = l0.length := by omega
      have hN := HN.out
      rw [List.drop_length] at hN
      simp only [idxZ] at hN
      go_wp2
      go_ret
      exact ⟨by first | rfl | (rw [hN]; rfl), HB.out⟩
set_option maxHeartbeats 4000000 in
set_option maxRecDepth 100000 in
theorem findM_calls (p : S60 → Bool) (g : Nat) (lb : Array Value) (eg : ∀ args w, (callFunc g args).run Tryd.prog w = .ok (.enter g args) w) (a0_0 : Int) (a0_1 a0_2 : ByteArray) (a0_3 : Int) (A0_4 : Option Addr) (c0_4 : Nat) (l0_4 : List (S60)) (a0_5 : Int) (w : World) (hr0 : Kd.C k60 w A0_4 l0_4.length l0_4) (hl : l0_4.length ≤ c0_4) (hc0 : l0_4.length ≤ 1000000000) (hp : PredM g lb p w) :
    Calls Tryd.prog 54 #[.agg #[.int .i64 a0_0, .string a0_1, .string a0_2, .int .i64 a0_3, .slice A0_4 l0_4.length c0_4, .int .i64 a0_5], .func (.func g) #[] lb] w fun e w' => e = .returned (.tuple (match l0_4.find? p with | some m => #[aggM m, .bool true] | none => #[.agg #[.int .i64 0, .int .i64 0], .bool false])) ∧ Below w.heap.size w w' := by
  have HC := Lib.hid hr0
  clear hr0
  have hu := Tryd.underlying26
  have hu2 := Tryd.underlying60
  have HI : ∀ W, Below w.heap.size w W → Hid (Calls Tryd.prog 72 #[.slice A0_4 l0_4.length c0_4, .func (.func g) #[] lb] W fun e w' => e = .returned (.int .i64 (idxZ p l0_4 0)) ∧ Below W.heap.size W w') := fun W hW =>
    Lib.hid (indexM_calls p g lb eg A0_4 c0_4 l0_4 W (Kd.C_below HC.out hW) hc0 (fun W' x hb => hp W' x (hW.trans (hb.mono hW.size))))
  clear hp
  rcases idxZ_cases p l0_4 0 with ⟨h1, h2⟩ | ⟨i, hi, h1, h2⟩
  · rw [h2]
    rw [h1] at HI
    go_enter Tryd.func54, Tryd.ntmps54
    go_wp2_with (first | (go_at_call 72; refine (HI _ (pbA (pbA (Below.refl _ _) _) _)).out.mono ?_; rintro e w1 ⟨rfl, hb⟩; have BK := two_old hb () (); have BL := two_new hb () (); have f0 := bkF BL 0; have f1 := bkF BL 1; have y0 := (bkC BL 0).trans rfl; have y1 := (bkC BL 1).trans rfl) | fail)
    refine bodyPost_ret (results_ct rfl _ _ (w.heap.size + 1) 60 #[.int .i64 0, .int .i64 0] (0, 0) _ rfl (put2 BL) hu2 rfl (by kernel_rfl)) rfl ?_
    exact ⟨rfl, ((pbT (pbA (pbA (Below.refl _ _) _) _) hb).setCell (Nat.le_succ _) _).setCell (Nat.le_succ _) _⟩
  · rw [h2]
    rw [h1, Nat.zero_add] at HI
    have q0 : (0 : Int) ≤ (i : Int) := by omega
    have q1 : (i : Int) < (l0_4.length : Int) := by omega
    have hrd : rd_T60 l0_4 (i : Int) = l0_4[i] := by simp [rd_T60, hi]
    have HE : ∀ W, Below w.heap.size w W → ∃ ad, A0_4 = some ad ∧ W.cell? (ad.add (i * 2)) = some (.int .i64 l0_4[i].f0) ∧ W.cell? ⟨(ad.add (i * 2)).block, (ad.add (i * 2)).off + 1, none⟩ = some (.int .i64 l0_4[i].f1) := by
      intro W hW
      obtain ⟨ad, ea, e0, e1⟩ := at_T60 (Kd.C_below HC.out hW) (i : Int) q0 q1
      rw [Int.toNat_natCast, hrd] at e0 e1
      exact ⟨ad, ea, e0, e1⟩
    obtain ⟨ad, rfl, _⟩ := HE w (Below.refl _ _)
    clear h1 h2 hrd
    generalize l0_4[i] = m at HE
    go_enter Tryd.func54, Tryd.ntmps54
    go_wp2_with (first | (go_at_call 72; refine (HI _ (pbA (pbA (Below.refl _ _) _) _)).out.mono ?_; rintro e w1 ⟨rfl, hb⟩; have BK := two_old hb () (); have BL := two_new hb () (); have z3 := (bkC BK 4).trans rfl; have f0 := bkF BL 0; have f1 := bkF BL 1; have y0 := (bkC BL 0).trans rfl; have y1 := (bkC BL 1).trans rfl; have HB := Lib.hid (pbT (pbA (pbA (Below.refl _ _) _) _) hb); obtain ⟨ad', ea, e0, e1⟩ := HE _ HB.out; injection ea with ea; subst ea) | fail)
    refine bodyPost_ret (results_ct rfl _ _ (w.heap.size + 1) 60 #[.int .i64 m.f0, .int .i64 m.f1] (0, 0) _ rfl (put2 BL) hu2 rfl (by kernel_rfl)) rfl ?_
    exact ⟨rfl, (HB.out.setCell (Nat.le_succ _) _).setCell (Nat.le_succ _) _⟩
/-! ### On, Has -/
def desc_On.f (a0_0 : Int) (a0_1 a0_2 : ByteArray) (a0_3 : Int) (l0_4 : List S60) (a0_5 a1 : Int) : Option (Int × Int × Bool) := if l0_4.length ≤ 1000000000 then some (match l0_4.find? (fun m => m.f0 == a1) with | some m => (m.f0, m.f1, true) | none => (0, 0, false)) else none
def desc_Has.f (a0_0 : Int) (a0_1 a0_2 : ByteArray) (a0_3 : Int) (l0_4 : List S60) (a0_5 a1 : Int) : Option (Int × Int × Bool) := if l0_4.length ≤ 1000000000 then some (match l0_4.find? (fun m => m.f1 == a1) with | some m => (m.f0, m.f1, true) | none => (0, 0, false)) else none
theorem pred_On (B : Nat) (n : Int) (w : World) (hB : B < w.heap.size) (hc : w.cell? ⟨B, 0, none⟩ = some (.int .i64 n)) : PredM 56 #[.pointer (some ⟨B, 0, none⟩)] (fun m => m.f0 == n) w := by
  intro W x hb
  have hc : W.cell? ⟨B, 0, none⟩ = some (.int .i64 n) := (hb.cell (p := ⟨B, 0, none⟩) hB).trans hc
  have hBW : B < W.heap.size := Nat.lt_of_lt_of_le hB hb.size
  show Calls Tryd.prog 56 #[.agg #[.int .i64 x.f0, .int .i64 x.f1], .pointer (some ⟨B, 0, none⟩)] W _
  go_enter Tryd.func56, Tryd.ntmps56
  go_wp2
  all_goals go_ret
  all_goals exact ⟨by first | rfl | (simp; done), pbA (Below.refl _ _) _⟩
set_option maxHeartbeats 4000000 in
set_option maxRecDepth 100000 in
theorem desc_On.calls (a0_0 : Int) (a0_1 : ByteArray) (a0_2 : ByteArray) (a0_3 : Int) (A0_4 : Option Addr) (c0_4 : Nat) (l0_4 : List (S60)) (a0_5 : Int) (a1 : Int) (r1 : Int) (r2 : Int) (r3 : Bool) (w : World) (hG : TheG w) (hr0_4 : Kd.C k60 w A0_4 l0_4.length l0_4) (hc0_4 : l0_4.length ≤ c0_4) (h : desc_On.f a0_0 a0_1 a0_2 a0_3 l0_4 a0_5 a1 = some (r1, r2, r3)) :
    Calls Tryd.prog 30 #[.agg #[.int .i64 a0_0, .string a0_1, .string a0_2, .int .i64 a0_3, .slice A0_4 l0_4.length c0_4, .int .i64 a0_5], .int .i64 a1] w fun e w' => e = .returned (.tuple #[.agg #[.int .i64 r1, .int .i64 r2], .bool r3]) ∧ Below w.heap.size w w' := by
  unfold desc_On.f at h
  split at h
  case isFalse => exact absurd h (by simp)
  case isTrue hl =>
  have h := Option.some.inj h
  have hu := Tryd.underlying26
  have hu2 := Tryd.underlying60
  have hmf : ∀ (fn : Fn) (first cap : Array Value) (w : World), (Instr.makeFunc fn first cap).run Tryd.prog w = .ok (.func fn first cap) w := fun _ _ _ _ => rfl
  have eg : ∀ args w, (callFunc 56 args).run Tryd.prog w = .ok (.enter 56 args) w := enters_of Tryd.func56 (by kernel_rfl) rfl
  have HC := Lib.hid hr0_4
  clear hr0_4
  have HF : ∀ W B, Below w.heap.size w W → B < W.heap.size → W.cell? ⟨B, 0, none⟩ = some (.int .i64 a1) → Hid (Calls Tryd.prog 54 #[.agg #[.int .i64 a0_0, .string a0_1, .string a0_2, .int .i64 a0_3, .slice A0_4 l0_4.length c0_4, .int .i64 a0_5], .func (.func 56) #[] #[.pointer (some ⟨B, 0, none⟩)]] W fun e w' => e = .returned (.tuple #[.agg #[.int .i64 r1, .int .i64 r2], .bool r3]) ∧ Below W.heap.size W w') := by
    intro W B hW hB hcl
    refine Lib.hid ((findM_calls (fun m => m.f0 == a1) 56 #[.pointer (some ⟨B, 0, none⟩)] eg a0_0 a0_1 a0_2 a0_3 A0_4 c0_4 l0_4 a0_5 W (Kd.C_below HC.out hW) hc0_4 hl (pred_On B a1 W hB hcl)).mono ?_)
    rintro e w' ⟨he, hb⟩
    refine ⟨?_, hb⟩
    rw [he]
    cases hq : l0_4.find? (fun m => m.f0 == a1) with
    | none => rw [hq] at h; simp only [Prod.mk.injEq] at h; obtain ⟨rfl, rfl, rfl⟩ := h; rfl
    | some m => rw [hq] at h; simp only [Prod.mk.injEq] at h; obtain ⟨rfl, rfl, rfl⟩ := h; rfl
  clear h eg
  go_enter Tryd.func30, Tryd.ntmps30
  go_wp2_with (first | (go_at_call 54; refine (HF _ (w.heap.size + 1) (pbA (pbA (pbA (Below.refl _ _) _) _) _) (by simp) ((bkC (three_mid _ _ _ _ _ _ _) 0).trans rfl)).out.mono ?_; rintro e w1 ⟨rfl, hb⟩; have BL := three_new hb () (); have f0 := bkF BL 0; have f1 := bkF BL 1; have y0 := (bkC BL 0).trans rfl; have y1 := (bkC BL 1).trans rfl) | fail)
  refine bodyPost_ret (results_ct rfl _ _ (w.heap.size + 2) 60 #[.int .i64 r1, .int .i64 r2] (0, 0) _ rfl (put2 BL) hu2 rfl (by kernel_rfl)) rfl ?_
  exact ⟨rfl, ((pbT (pbA (pbA (pbA (Below.refl _ _) _) _) _) hb).setCell (Nat.le_add_right _ 2) _).setCell (Nat.le_add_right _ 2) _⟩
theorem pred_Has (B : Nat) (n : Int) (w : World) (hB : B < w.heap.size) (hc : w.cell? ⟨B, 0, none⟩ = some (.int .i64 n)) : PredM 55 #[.pointer (some ⟨B, 0, none⟩)] (fun m => m.f1 == n) w := by
  intro W x hb
  have hc : W.cell? ⟨B, 0, none⟩ = some (.int .i64 n) := (hb.cell (p := ⟨B, 0, none⟩) hB).trans hc
  have hBW : B < W.heap.size := Nat.lt_of_lt_of_le hB hb.size
  show Calls Tryd.prog 55 #[.agg #[.int .i64 x.f0, .int .i64 x.f1], .pointer (some ⟨B, 0, none⟩)] W _
  go_enter Tryd.func55, Tryd.ntmps55
  go_wp2
  all_goals go_ret
  all_goals exact ⟨by first | rfl | (simp; done), pbA (Below.refl _ _) _⟩
set_option maxHeartbeats 4000000 in
set_option maxRecDepth 100000 in
theorem desc_Has.calls (a0_0 : Int) (a0_1 : ByteArray) (a0_2 : ByteArray) (a0_3 : Int) (A0_4 : Option Addr) (c0_4 : Nat) (l0_4 : List (S60)) (a0_5 : Int) (a1 : Int) (r1 : Int) (r2 : Int) (r3 : Bool) (w : World) (hG : TheG w) (hr0_4 : Kd.C k60 w A0_4 l0_4.length l0_4) (hc0_4 : l0_4.length ≤ c0_4) (h : desc_Has.f a0_0 a0_1 a0_2 a0_3 l0_4 a0_5 a1 = some (r1, r2, r3)) :
    Calls Tryd.prog 29 #[.agg #[.int .i64 a0_0, .string a0_1, .string a0_2, .int .i64 a0_3, .slice A0_4 l0_4.length c0_4, .int .i64 a0_5], .int .i64 a1] w fun e w' => e = .returned (.tuple #[.agg #[.int .i64 r1, .int .i64 r2], .bool r3]) ∧ Below w.heap.size w w' := by
  unfold desc_Has.f at h
  split at h
  case isFalse => exact absurd h (by simp)
  case isTrue hl =>
  have h := Option.some.inj h
  have hu := Tryd.underlying26
  have hu2 := Tryd.underlying60
  have hmf : ∀ (fn : Fn) (first cap : Array Value) (w : World), (Instr.makeFunc fn first cap).run Tryd.prog w = .ok (.func fn first cap) w := fun _ _ _ _ => rfl
  have eg : ∀ args w, (callFunc 55 args).run Tryd.prog w = .ok (.enter 55 args) w := enters_of Tryd.func55 (by kernel_rfl) rfl
  have HC := Lib.hid hr0_4
  clear hr0_4
  have HF : ∀ W B, Below w.heap.size w W → B < W.heap.size → W.cell? ⟨B, 0, none⟩ = some (.int .i64 a1) → Hid (Calls Tryd.prog 54 #[.agg #[.int .i64 a0_0, .string a0_1, .string a0_2, .int .i64 a0_3, .slice A0_4 l0_4.length c0_4, .int .i64 a0_5], .func (.func 55) #[] #[.pointer (some ⟨B, 0, none⟩)]] W fun e w' => e = .returned (.tuple #[.agg #[.int .i64 r1, .int .i64 r2], .bool r3]) ∧ Below W.heap.size W w') := by
    intro W B hW hB hcl
    refine Lib.hid ((findM_calls (fun m => m.f1 == a1) 55 #[.pointer (some ⟨B, 0, none⟩)] eg a0_0 a0_1 a0_2 a0_3 A0_4 c0_4 l0_4 a0_5 W (Kd.C_below HC.out hW) hc0_4 hl (pred_Has B a1 W hB hcl)).mono ?_)
    rintro e w' ⟨he, hb⟩
    refine ⟨?_, hb⟩
    rw [he]
    cases hq : l0_4.find? (fun m => m.f1 == a1) with
    | none => rw [hq] at h; simp only [Prod.mk.injEq] at h; obtain ⟨rfl, rfl, rfl⟩ := h; rfl
    | some m => rw [hq] at h; simp only [Prod.mk.injEq] at h; obtain ⟨rfl, rfl, rfl⟩ := h; rfl
  clear h eg
  go_enter Tryd.func29, Tryd.ntmps29
  go_wp2_with (first | (go_at_call 54; refine (HF _ (w.heap.size + 1) (pbA (pbA (pbA (Below.refl _ _) _) _) _) (by simp) ((bkC (three_mid _ _ _ _ _ _ _) 0).trans rfl)).out.mono ?_; rintro e w1 ⟨rfl, hb⟩; have BL := three_new hb () (); have f0 := bkF BL 0; have f1 := bkF BL 1; have y0 := (bkC BL 0).trans rfl; have y1 := (bkC BL 1).trans rfl) | fail)
  refine bodyPost_ret (results_ct rfl _ _ (w.heap.size + 2) 60 #[.int .i64 r1, .int .i64 r2] (0, 0) _ rfl (put2 BL) hu2 rfl (by kernel_rfl)) rfl ?_
  exact ⟨rfl, ((pbT (pbA (pbA (pbA (Below.refl _ _) _) _) _) hb).setCell (Nat.le_add_right _ 2) _).setCell (Nat.le_add_right _ 2) _⟩
end Go.Proofs.YtjfhcijjjadhbaaDoor.P
end
