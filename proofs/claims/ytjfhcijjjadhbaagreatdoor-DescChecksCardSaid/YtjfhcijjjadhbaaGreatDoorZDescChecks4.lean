import Derived.Test.YtjfhcijjjadhbaaGreatDoorZDescChecks1
import Derived.Test.YtjfhcijjjadhbaaGreatDoorZDescChecks2
import Derived.Test.YtjfhcijjjadhbaaGreatDoorZDescChecks3
import Derived.Deep.DrawnRows
import Derived.Deep.RegionHeld3
import Derived.Lib.Hide
set_option linter.unusedVariables false
set_option linter.unusedSimpArgs false
set_option linter.unnecessarySimpa false
section
namespace Go.Proofs.YtjfhcijjjadhbaaGreatDoor.P
open Go.RowKit Go.Proofs.YtjfhcijjjadhbaaGreatDoor.K Go.Proofs.YtjfhcijjjadhbaaGreatDoorW.PrintWords Go.Proofs.YtjfhcijjjadhbaaGreatDoorW.PrintLast Go.Proofs.YtjfhcijjjadhbaaGreatDoorW.PrintMore
attribute [local go_sem] max2_int min2_int max_two min_two max_three min_three max_four min_four   -- for this text's walks alone
def desc_Add.f (a0_0 : Int) (a0_1 : ByteArray) (a0_2 : ByteArray) (a0_3 : Int) (l0_4 : List (S30)) (a0_5 : Int) (a1 : Int) : Option (Int × ByteArray × ByteArray × Int × (List (S30)) × Int × Int) := (desc_On.f a0_0 a0_1 a0_2 a0_3 l0_4 a0_5 a1).bind fun bt206 => ((desc_Check.f a0_0 a0_1 a0_2 a0_3 l0_4 a0_5).bind fun t210 => (if t210 = 0 then ((desc_isNode.f a1).bind fun t211 => (if t211 = true then (if bt206.2.2 = true then (some (0, (⟨#[]⟩ : ByteArray), (⟨#[]⟩ : ByteArray), 0, ([] : List (S30)), 0, 8)) else (if (l0_4.length : Int) ≥ 5 then (some (0, (⟨#[]⟩ : ByteArray), (⟨#[]⟩ : ByteArray), 0, ([] : List (S30)), 0, 6)) else ((api_Member_46.f l0_4).bind fun t212 => ((some (([(⟨a1, a0_5⟩ : S30)] : List (S30)) : List (S30))).bind fun y215 => (if t212.length + y215.length < 8796093022208 then ((desc_right.f a0_0 a0_1 a0_2 (wrap64 (a0_3 + 1)) (t212 ++ y215) (wrap64 (a0_5 + 1))).bind fun bt221 => (some (bt221.1, bt221.2.1, bt221.2.2.1, bt221.2.2.2.1, bt221.2.2.2.2.1, bt221.2.2.2.2.2.1, bt221.2.2.2.2.2.2))) else (none)))))) else (some (0, (⟨#[]⟩ : ByteArray), (⟨#[]⟩ : ByteArray), 0, ([] : List (S30)), 0, 2)))) else (some (0, (⟨#[]⟩ : ByteArray), (⟨#[]⟩ : ByteArray), 0, ([] : List (S30)), 0, 60))))
def desc_Add.T10 : Bool × List (List Nat × List Nat) := (true, [([], []), ([0], [0]), ([1], [1]), ([], []), ([], []), ([4], [4]), ([3, 5], [3, 5]), ([6], [6]), ([2, 7, 2], [2, 7]), ([0, 1, 2, 3, 4, 5, 6, 7, 8], []), ([9, 8, 8, 0, 1, 2, 3, 4, 5, 6, 7, 8], [8, 9])])
def desc_Add.B10 : List Nat := [0, 1, 3, 0, 0, 16, 56, 120, 255, 511, 1023]
theorem desc_Add.tab10 : rtab .any (opsOf Tryz.f21 10) = desc_Add.T10 := by kernel_rfl
theorem desc_Add.bits10 : waitsOk desc_Add.T10.2 desc_Add.B10 = true := by kernel_rfl
set_option maxHeartbeats 8000000 in
set_option maxRecDepth 100000 in
theorem desc_Add.calls (a0_0 : Int) (a0_1 : ByteArray) (a0_2 : ByteArray) (a0_3 : Int) (A0_4 : Option Addr) (c0_4 : Nat) (l0_4 : List (S30)) (a0_5 : Int) (a1 : Int) (r1 : Int) (r2 : ByteArray) (r3 : ByteArray) (r4 : Int) (r5 : List (S30)) (r6 : Int) (r7 : Int) (w : World) (hG : TheG w) (hr0_4 : Kd.C k30 w A0_4 l0_4.length l0_4) (hc0_4 : l0_4.length ≤ c0_4) (h : desc_Add.f a0_0 a0_1 a0_2 a0_3 l0_4 a0_5 a1 = some (r1, r2, r3, r4, r5, r6, r7)) :
 Calls Tryz.prog 21 #[.agg #[.int .i64 a0_0, .string a0_1, .string a0_2, .int .i64 a0_3, .slice A0_4 l0_4.length c0_4, .int .i64 a0_5], .int .i64 a1] w fun e w' => ∃ v4_ : Value, e = .returned (.tuple #[.agg #[.int .i64 r1, .string r2, .string r3, .int .i64 r4, v4_, .int .i64 r6], .int .i64 r7]) ∧ Kd.V k30 30 w' w.heap.size (fun k_ => (w.heap.size ≤ k_)) v4_ r5 ∧ Below w.heap.size w w' := by
 have hu26 := Tryz.underlying26
 have hu30 := Tryz.underlying30
 have HR0_4 := Az.mk hr0_4
 have HC0_4 := Az.mk hc0_4
 clear hr0_4 hc0_4
 have HB := Az.mk (Below.refl w.heap.size w)
 have H : ((desc_On.f a0_0 a0_1 a0_2 a0_3 l0_4 a0_5 a1).bind fun bt206 => ((desc_Check.f a0_0 a0_1 a0_2 a0_3 l0_4 a0_5).bind fun t210 => (if t210 = 0 then ((desc_isNode.f a1).bind fun t211 => (if t211 = true then (if bt206.2.2 = true then (some (0, (⟨#[]⟩ : ByteArray), (⟨#[]⟩ : ByteArray), 0, ([] : List (S30)), 0, 8)) else (if (l0_4.length : Int) ≥ 5 then (some (0, (⟨#[]⟩ : ByteArray), (⟨#[]⟩ : ByteArray), 0, ([] : List (S30)), 0, 6)) else ((api_Member_46.f l0_4).bind fun t212 => ((some (([(⟨a1, a0_5⟩ : S30)] : List (S30)) : List (S30))).bind fun y215 => (if t212.length + y215.length < 8796093022208 then ((desc_right.f a0_0 a0_1 a0_2 (wrap64 (a0_3 + 1)) (t212 ++ y215) (wrap64 (a0_5 + 1))).bind fun bt221 => (some (bt221.1, bt221.2.1, bt221.2.2.1, bt221.2.2.2.1, bt221.2.2.2.2.1, bt221.2.2.2.2.2.1, bt221.2.2.2.2.2.2))) else (none)))))) else (some (0, (⟨#[]⟩ : ByteArray), (⟨#[]⟩ : ByteArray), 0, ([] : List (S30)), 0, 2)))) else (some (0, (⟨#[]⟩ : ByteArray), (⟨#[]⟩ : ByteArray), 0, ([] : List (S30)), 0, 60))))) = some (r1, r2, r3, r4, r5, r6, r7) := h
 clear h
 replace H := Option.bind_eq_some_iff.mp H
 obtain ⟨⟨t206, t207, t208⟩, A30, H⟩ := H
 try dsimp only at H
 have A3 := Az.mk A30
 clear A30
 replace H := Option.bind_eq_some_iff.mp H
 obtain ⟨t210, A40, H⟩ := H
 try dsimp only at H
 have A4 := Az.mk A40
 clear A40
 by_cases c5 : t210 = 0
 ·rw [if_pos c5] at H
  have c5b0 : (t210 == 0) = true := beq_iff_eq.mpr c5
  have c5b1 : (t210 != 0) = false := bne_eq_false_iff_eq.mpr c5
  clear c5
  replace H := Option.bind_eq_some_iff.mp H
  obtain ⟨t211, A60, H⟩ := H
  try dsimp only at H
  have A6 := Az.mk A60
  clear A60
  by_cases c7 : t211 = true
  ·subst c7
   rw [if_pos rfl] at H
   by_cases c8 : t208 = true
   ·subst c8
    rw [if_pos rfl] at H
    simp only [Option.some.injEq, Prod.mk.injEq] at H
    obtain ⟨rfl, rfl, rfl, rfl, rfl, rfl, rfl⟩ := H
    go_enter Tryz.func21, Tryz.ntmps21
    go_wp2_with (first | ((with_reducible refine gate_dst (N := 2) rfl ?_); refine box_event ?hg (N := 2) ?hd (cs := #[.int .i64 a0_0, .string a0_1, .string a0_2, .int .i64 a0_3, .slice A0_4 l0_4.length c0_4, .int .i64 a0_5]) (t := 26) ?hr ?_; (case hd => rfl); (case hg => rfl); (case hr => first | (go_simp; done) | (go_simp; rfl)); intro gb204 hg w9 hbox hb; have BK204 := Az.mk (hbox); have GW204 := Az.mk (geO hg (pbE HB.out)); have GE204 := Az.mk (geO hg (pbE HB.out)); replace HB := Az.mk (pbT (by exact pbE HB.out) hb); clear hb hbox hg) | ((with_reducible refine gate_dst (N := 4) rfl ?_); refine box_event ?hg (N := 4) ?hd (cs := #[.int .i64 0, .string (⟨#[]⟩ : ByteArray), .string (⟨#[]⟩ : ByteArray), .int .i64 0, .slice none 0 0, .int .i64 0]) (t := 26) ?hr ?_; (case hd => rfl); (case hg => rfl); (case hr => first | (go_simp; done) | (go_simp; rfl)); intro gb205 hg w10 hbox hb; have BK205 := Az.mk (hbox); have GW205 := Az.mk (geO hg (pbE HB.out)); have GE205 := Az.mk (geO hg (pbE HB.out)); replace HB := Az.mk (pbT (by exact pbE HB.out) hb); have NB204_205 := Az.mk (neO hg (bk BK204.out)); have NB205_204 := Az.mk (neP hg (bk BK204.out)); replace BK204 := Az.mk (bkB (bk BK204.out) hb); clear hb hbox hg; have hnb11 := NB204_205.out; have hnc11 := NB205_204.out; have hcz12 := cells6 BK204.out) | ((with_reducible refine gtc (f := 6) rfl ?_); refine goesL_ (some 11) rfl rfl Tryz.func6 (by kernel_rfl) rfl #[.agg #[.int .i64 a0_0, .string a0_1, .string a0_2, .int .i64 a0_3, .slice A0_4 l0_4.length c0_4, .int .i64 a0_5], .int .i64 a1] rfl (by (try simp only [List.map_toArray, List.map_cons, List.map_nil]); first | done | rfl | (simp only [List.length_drop, List.length_take]; rfl)) ?_; (with_reducible refine (desc_On.calls a0_0 a0_1 a0_2 a0_3 _ _ l0_4 a0_5 a1 t206 t207 true _ ?side1 ?side2 ?side3 A3.out).mono ?_); (case side1 => exact hG.below (by exact pbE HB.out)); (case side2 => repeat (first | exact (Kd.C_below HR0_4.out HB.out) | (with_reducible refine Kd.C_alloc ?_ _) | (with_reducible refine Kd.C_drewN ?_ _) | (with_reducible refine Kd.C_drew ?_))); (case side3 => exact HC0_4.out); rintro e w13 ⟨rfl, hb⟩; refine ⟨_, rfl, ?_⟩; replace BK204 := Az.mk (bkB (bk BK204.out) hb); replace BK205 := Az.mk (bkB (bk BK205.out) hb); replace HB := Az.mk (pbT (by exact pbE HB.out) hb); (try clear hb); (try clear hb2); (try clear hk); (try clear hi)) | ((with_reducible refine gate_dst (N := 6) rfl ?_); refine box_event ?hg (N := 6) ?hd (cs := #[.int .i64 0, .int .i64 0]) (t := 30) ?hr ?_; (case hd => rfl); (case hg => rfl); (case hr => first | (go_simp; done) | (go_simp; rfl)); intro gb209 hg w14 hbox hb; have BK209 := Az.mk (hbox); have GW209 := Az.mk (geO hg (pbE HB.out)); have GE209 := Az.mk (geO hg (pbE HB.out)); replace HB := Az.mk (pbT (by exact pbE HB.out) hb); have NB204_209 := Az.mk (neO hg (bk BK204.out)); have NB209_204 := Az.mk (neP hg (bk BK204.out)); replace BK204 := Az.mk (bkB (bk BK204.out) hb); have NB205_209 := Az.mk (neO hg (bk BK205.out)); have NB209_205 := Az.mk (neP hg (bk BK205.out)); replace BK205 := Az.mk (bkB (bk BK205.out) hb); clear hb hbox hg; have hnb15 := NB209_204.out; have hnc15 := NB204_209.out; have hnb16 := NB209_205.out; have hnc16 := NB205_209.out; have hcz17 := cells2 BK209.out; have hcz18 := cells6 BK204.out) | ((with_reducible refine gtc (f := 13) rfl ?_); refine goesL_ (some 16) rfl rfl Tryz.func13 (by kernel_rfl) rfl #[.agg #[.int .i64 a0_0, .string a0_1, .string a0_2, .int .i64 a0_3, .slice A0_4 l0_4.length c0_4, .int .i64 a0_5]] rfl (by (try simp only [List.map_toArray, List.map_cons, List.map_nil]); first | done | rfl | (simp only [List.length_drop, List.length_take]; rfl)) ?_; (with_reducible refine (desc_Check.calls a0_0 a0_1 a0_2 a0_3 _ _ l0_4 a0_5 t210 _ ?side1 ?side2 ?side3 A4.out).mono ?_); (case side1 => exact hG.below (by exact pbE HB.out)); (case side2 => exact Kd.C_below HR0_4.out (by exact pbE HB.out)); (case side3 => exact HC0_4.out); rintro e w19 ⟨rfl, hb⟩; refine ⟨_, rfl, ?_⟩; replace BK204 := Az.mk (bkB (bf BK204.out) hb); replace BK205 := Az.mk (bkB (bf BK205.out) hb); replace BK209 := Az.mk (bkB (g := gb209) (o := .cells #[.int .i64 t206, .int .i64 t207] 30 (0, 0)) (by refine bk ?_; refine blk_put (cs := #[.int .i64 t206, .int .i64 0]) ?_ 1 _ rfl; refine bk ?_; refine blk_put (cs := #[.int .i64 0, .int .i64 0]) ?_ 0 _ rfl; refine bk ?_; exact BK209.out) hb); replace HB := Az.mk (pbT (by exact pbE HB.out) hb); (try clear hb); (try clear hb2); (try clear hk); (try clear hi)) | ((with_reducible refine gtc (f := 47) rfl ?_); refine goesL_ (some 21) rfl rfl Tryz.func47 (by kernel_rfl) rfl #[.int .i64 a1] rfl (by (try simp only [List.map_toArray, List.map_cons, List.map_nil]); first | done | rfl | (simp only [List.length_drop, List.length_take]; rfl)) ?_; (with_reducible refine (desc_isNode.calls a1 true _ ?side1 A6.out).mono ?_); (case side1 => exact hG.below (by exact pbE HB.out)); rintro e w' ⟨rfl, ⟨nd, rfl⟩⟩; refine ⟨_, rfl, ?_⟩; (try (rw [drewN_self w19]; generalize hq_ : World.drewN w19 _ = w19; have n0_ : Az (w19.heap[gb204]? = some (.cells #[.int .i64 a0_0, .string a0_1, .string a0_2, .int .i64 a0_3, .slice A0_4 l0_4.length c0_4, .int .i64 a0_5] 26 (0, 0))) := ⟨by rw [← hq_]; exact (bk BK204.out)⟩; have n1_ : Az (w19.heap[gb205]? = some (.cells #[.int .i64 0, .string (⟨#[]⟩ : ByteArray), .string (⟨#[]⟩ : ByteArray), .int .i64 0, .slice none 0 0, .int .i64 0] 26 (0, 0))) := ⟨by rw [← hq_]; exact (bk BK205.out)⟩; have n2_ : Az (w19.heap[gb209]? = some (.cells #[.int .i64 t206, .int .i64 t207] 30 (0, 0))) := ⟨by rw [← hq_]; exact (bk BK209.out)⟩; have n3_ : Az (Below w.heap.size w w19) := ⟨by rw [← hq_]; exact (by exact pbE HB.out)⟩; clear BK204 BK205 BK209 HB hq_; have BK204 := n0_; have BK205 := n1_; have BK209 := n2_; have HB := n3_; clear n0_ n1_ n2_ n3_)); have hcz20 := cells6 BK205.out))
    refine bodyPost_ret (results_ct rfl _ _ gb205 26 #[.int .i64 0, .string (⟨#[]⟩ : ByteArray), .string (⟨#[]⟩ : ByteArray), .int .i64 0, .slice none 0 0, .int .i64 0] (0, 0) _ rfl (by refine bk ?_; refine blk_put (cs := #[.int .i64 0, .string (⟨#[]⟩ : ByteArray), .string (⟨#[]⟩ : ByteArray), .int .i64 0, .slice none 0 0, .int .i64 0]) ?_ 5 _ rfl; refine bk ?_; refine blk_put (cs := #[.int .i64 0, .string (⟨#[]⟩ : ByteArray), .string (⟨#[]⟩ : ByteArray), .int .i64 0, .slice none 0 0, .int .i64 0]) ?_ 4 _ rfl; refine bk ?_; refine blk_put (cs := #[.int .i64 0, .string (⟨#[]⟩ : ByteArray), .string (⟨#[]⟩ : ByteArray), .int .i64 0, .slice none 0 0, .int .i64 0]) ?_ 3 _ rfl; refine bk ?_; refine blk_put (cs := #[.int .i64 0, .string (⟨#[]⟩ : ByteArray), .string (⟨#[]⟩ : ByteArray), .int .i64 0, .slice none 0 0, .int .i64 0]) ?_ 2 _ rfl; refine bk ?_; refine blk_put (cs := #[.int .i64 0, .string (⟨#[]⟩ : ByteArray), .string (⟨#[]⟩ : ByteArray), .int .i64 0, .slice none 0 0, .int .i64 0]) ?_ 1 _ rfl; refine bk ?_; refine blk_put (cs := #[.int .i64 0, .string (⟨#[]⟩ : ByteArray), .string (⟨#[]⟩ : ByteArray), .int .i64 0, .slice none 0 0, .int .i64 0]) ?_ 0 _ rfl; refine bk ?_; exact BK205.out) Tryz.underlying26 rfl (by kernel_rfl)) rfl ?_
    exact ⟨_, by first | rfl | (simp [errW_none, errW_some] <;> rfl) | (simp [*, errW_none, errW_some] <;> rfl), Kd.V_nil _ _ _ _ _, by exact pbE HB.out⟩
   ·replace c8 := Bool.eq_false_iff.mpr c8
    subst c8
    rw [if_neg (show ¬ (false = true) by decide)] at H
    by_cases c21 : (l0_4.length : Int) ≥ 5
    ·rw [if_pos c21] at H
     have c21b0 : decide (5 ≤ (l0_4.length : Int)) = true := decide_eq_true c21
     have c21b1 : decide (5 ≤ l0_4.length) = true := decide_eq_true (by omega)
     clear c21
     simp only [Option.some.injEq, Prod.mk.injEq] at H
     obtain ⟨rfl, rfl, rfl, rfl, rfl, rfl, rfl⟩ := H
     go_enter Tryz.func21, Tryz.ntmps21
     go_wp2_with (first | ((with_reducible refine gate_dst (N := 2) rfl ?_); refine box_event ?hg (N := 2) ?hd (cs := #[.int .i64 a0_0, .string a0_1, .string a0_2, .int .i64 a0_3, .slice A0_4 l0_4.length c0_4, .int .i64 a0_5]) (t := 26) ?hr ?_; (case hd => rfl); (case hg => rfl); (case hr => first | (go_simp; done) | (go_simp; rfl)); intro gb204 hg w22 hbox hb; have BK204 := Az.mk (hbox); have GW204 := Az.mk (geO hg (pbE HB.out)); have GE204 := Az.mk (geO hg (pbE HB.out)); replace HB := Az.mk (pbT (by exact pbE HB.out) hb); clear hb hbox hg) | ((with_reducible refine gate_dst (N := 4) rfl ?_); refine box_event ?hg (N := 4) ?hd (cs := #[.int .i64 0, .string (⟨#[]⟩ : ByteArray), .string (⟨#[]⟩ : ByteArray), .int .i64 0, .slice none 0 0, .int .i64 0]) (t := 26) ?hr ?_; (case hd => rfl); (case hg => rfl); (case hr => first | (go_simp; done) | (go_simp; rfl)); intro gb205 hg w23 hbox hb; have BK205 := Az.mk (hbox); have GW205 := Az.mk (geO hg (pbE HB.out)); have GE205 := Az.mk (geO hg (pbE HB.out)); replace HB := Az.mk (pbT (by exact pbE HB.out) hb); have NB204_205 := Az.mk (neO hg (bk BK204.out)); have NB205_204 := Az.mk (neP hg (bk BK204.out)); replace BK204 := Az.mk (bkB (bk BK204.out) hb); clear hb hbox hg; have hnb24 := NB204_205.out; have hnc24 := NB205_204.out; have hcz25 := cells6 BK204.out) | ((with_reducible refine gtc (f := 6) rfl ?_); refine goesL_ (some 11) rfl rfl Tryz.func6 (by kernel_rfl) rfl #[.agg #[.int .i64 a0_0, .string a0_1, .string a0_2, .int .i64 a0_3, .slice A0_4 l0_4.length c0_4, .int .i64 a0_5], .int .i64 a1] rfl (by (try simp only [List.map_toArray, List.map_cons, List.map_nil]); first | done | rfl | (simp only [List.length_drop, List.length_take]; rfl)) ?_; (with_reducible refine (desc_On.calls a0_0 a0_1 a0_2 a0_3 _ _ l0_4 a0_5 a1 t206 t207 false _ ?side1 ?side2 ?side3 A3.out).mono ?_); (case side1 => exact hG.below (by exact pbE HB.out)); (case side2 => repeat (first | exact (Kd.C_below HR0_4.out HB.out) | (with_reducible refine Kd.C_alloc ?_ _) | (with_reducible refine Kd.C_drewN ?_ _) | (with_reducible refine Kd.C_drew ?_))); (case side3 => exact HC0_4.out); rintro e w26 ⟨rfl, hb⟩; refine ⟨_, rfl, ?_⟩; replace BK204 := Az.mk (bkB (bk BK204.out) hb); replace BK205 := Az.mk (bkB (bk BK205.out) hb); replace HB := Az.mk (pbT (by exact pbE HB.out) hb); (try clear hb); (try clear hb2); (try clear hk); (try clear hi)) | ((with_reducible refine gate_dst (N := 6) rfl ?_); refine box_event ?hg (N := 6) ?hd (cs := #[.int .i64 0, .int .i64 0]) (t := 30) ?hr ?_; (case hd => rfl); (case hg => rfl); (case hr => first | (go_simp; done) | (go_simp; rfl)); intro gb209 hg w27 hbox hb; have BK209 := Az.mk (hbox); have GW209 := Az.mk (geO hg (pbE HB.out)); have GE209 := Az.mk (geO hg (pbE HB.out)); replace HB := Az.mk (pbT (by exact pbE HB.out) hb); have NB204_209 := Az.mk (neO hg (bk BK204.out)); have NB209_204 := Az.mk (neP hg (bk BK204.out)); replace BK204 := Az.mk (bkB (bk BK204.out) hb); have NB205_209 := Az.mk (neO hg (bk BK205.out)); have NB209_205 := Az.mk (neP hg (bk BK205.out)); replace BK205 := Az.mk (bkB (bk BK205.out) hb); clear hb hbox hg; have hnb28 := NB209_204.out; have hnc28 := NB204_209.out; have hnb29 := NB209_205.out; have hnc29 := NB205_209.out; have hcz30 := cells2 BK209.out; have hcz31 := cells6 BK204.out) | ((with_reducible refine gtc (f := 13) rfl ?_); refine goesL_ (some 16) rfl rfl Tryz.func13 (by kernel_rfl) rfl #[.agg #[.int .i64 a0_0, .string a0_1, .string a0_2, .int .i64 a0_3, .slice A0_4 l0_4.length c0_4, .int .i64 a0_5]] rfl (by (try simp only [List.map_toArray, List.map_cons, List.map_nil]); first | done | rfl | (simp only [List.length_drop, List.length_take]; rfl)) ?_; (with_reducible refine (desc_Check.calls a0_0 a0_1 a0_2 a0_3 _ _ l0_4 a0_5 t210 _ ?side1 ?side2 ?side3 A4.out).mono ?_); (case side1 => exact hG.below (by exact pbE HB.out)); (case side2 => exact Kd.C_below HR0_4.out (by exact pbE HB.out)); (case side3 => exact HC0_4.out); rintro e w32 ⟨rfl, hb⟩; refine ⟨_, rfl, ?_⟩; replace BK204 := Az.mk (bkB (bf BK204.out) hb); replace BK205 := Az.mk (bkB (bf BK205.out) hb); replace BK209 := Az.mk (bkB (g := gb209) (o := .cells #[.int .i64 t206, .int .i64 t207] 30 (0, 0)) (by refine bk ?_; refine blk_put (cs := #[.int .i64 t206, .int .i64 0]) ?_ 1 _ rfl; refine bk ?_; refine blk_put (cs := #[.int .i64 0, .int .i64 0]) ?_ 0 _ rfl; refine bk ?_; exact BK209.out) hb); replace HB := Az.mk (pbT (by exact pbE HB.out) hb); (try clear hb); (try clear hb2); (try clear hk); (try clear hi)) | ((with_reducible refine gtc (f := 47) rfl ?_); refine goesL_ (some 21) rfl rfl Tryz.func47 (by kernel_rfl) rfl #[.int .i64 a1] rfl (by (try simp only [List.map_toArray, List.map_cons, List.map_nil]); first | done | rfl | (simp only [List.length_drop, List.length_take]; rfl)) ?_; (with_reducible refine (desc_isNode.calls a1 true _ ?side1 A6.out).mono ?_); (case side1 => exact hG.below (by exact pbE HB.out)); rintro e w' ⟨rfl, ⟨nd, rfl⟩⟩; refine ⟨_, rfl, ?_⟩; (try (rw [drewN_self w32]; generalize hq_ : World.drewN w32 _ = w32; have n0_ : Az (w32.heap[gb204]? = some (.cells #[.int .i64 a0_0, .string a0_1, .string a0_2, .int .i64 a0_3, .slice A0_4 l0_4.length c0_4, .int .i64 a0_5] 26 (0, 0))) := ⟨by rw [← hq_]; exact (bk BK204.out)⟩; have n1_ : Az (w32.heap[gb205]? = some (.cells #[.int .i64 0, .string (⟨#[]⟩ : ByteArray), .string (⟨#[]⟩ : ByteArray), .int .i64 0, .slice none 0 0, .int .i64 0] 26 (0, 0))) := ⟨by rw [← hq_]; exact (bk BK205.out)⟩; have n2_ : Az (w32.heap[gb209]? = some (.cells #[.int .i64 t206, .int .i64 t207] 30 (0, 0))) := ⟨by rw [← hq_]; exact (bk BK209.out)⟩; have n3_ : Az (Below w.heap.size w w32) := ⟨by rw [← hq_]; exact (by exact pbE HB.out)⟩; clear BK204 BK205 BK209 HB hq_; have BK204 := n0_; have BK205 := n1_; have BK209 := n2_; have HB := n3_; clear n0_ n1_ n2_ n3_)); have hcz33 := cells6 BK204.out; have hcz34 := cells6 BK205.out))
     refine bodyPost_ret (results_ct rfl _ _ gb205 26 #[.int .i64 0, .string (⟨#[]⟩ : ByteArray), .string (⟨#[]⟩ : ByteArray), .int .i64 0, .slice none 0 0, .int .i64 0] (0, 0) _ rfl (by refine bk ?_; refine blk_put (cs := #[.int .i64 0, .string (⟨#[]⟩ : ByteArray), .string (⟨#[]⟩ : ByteArray), .int .i64 0, .slice none 0 0, .int .i64 0]) ?_ 5 _ rfl; refine bk ?_; refine blk_put (cs := #[.int .i64 0, .string (⟨#[]⟩ : ByteArray), .string (⟨#[]⟩ : ByteArray), .int .i64 0, .slice none 0 0, .int .i64 0]) ?_ 4 _ rfl; refine bk ?_; refine blk_put (cs := #[.int .i64 0, .string (⟨#[]⟩ : ByteArray), .string (⟨#[]⟩ : ByteArray), .int .i64 0, .slice none 0 0, .int .i64 0]) ?_ 3 _ rfl; refine bk ?_; refine blk_put (cs := #[.int .i64 0, .string (⟨#[]⟩ : ByteArray), .string (⟨#[]⟩ : ByteArray), .int .i64 0, .slice none 0 0, .int .i64 0]) ?_ 2 _ rfl; refine bk ?_; refine blk_put (cs := #[.int .i64 0, .string (⟨#[]⟩ : ByteArray), .string (⟨#[]⟩ : ByteArray), .int .i64 0, .slice none 0 0, .int .i64 0]) ?_ 1 _ rfl; refine bk ?_; refine blk_put (cs := #[.int .i64 0, .string (⟨#[]⟩ : ByteArray), .string (⟨#[]⟩ : ByteArray), .int .i64 0, .slice none 0 0, .int .i64 0]) ?_ 0 _ rfl; refine bk ?_; exact BK205.out) Tryz.underlying26 rfl (by kernel_rfl)) rfl ?_
     exact ⟨_, by first | rfl | (simp [errW_none, errW_some] <;> rfl) | (simp [*, errW_none, errW_some] <;> rfl), Kd.V_nil _ _ _ _ _, by exact pbE HB.out⟩
    ·rw [if_neg c21] at H
     have c21b0 : decide (5 ≤ (l0_4.length : Int)) = false := decide_eq_false c21
     have c21b1 : decide (5 ≤ l0_4.length) = false := decide_eq_false (by omega)
     clear c21
     replace H := Option.bind_eq_some_iff.mp H
     obtain ⟨t212, A350, H⟩ := H
     try dsimp only at H
     have A35 := Az.mk A350
     clear A350
     obtain ⟨y215, hy215⟩ : ∃ y_ : List (S30), y_ = (([(⟨a1, a0_5⟩ : S30)] : List (S30))) := ⟨_, rfl⟩
     replace H : (if t212.length + y215.length < 8796093022208 then ((desc_right.f a0_0 a0_1 a0_2 (wrap64 (a0_3 + 1)) (t212 ++ y215) (wrap64 (a0_5 + 1))).bind fun bt221 => (some (bt221.1, bt221.2.1, bt221.2.2.1, bt221.2.2.2.1, bt221.2.2.2.2.1, bt221.2.2.2.2.2.1, bt221.2.2.2.2.2.2))) else (none)) = some (r1, r2, r3, r4, r5, r6, r7) := by first | (rw [hy215]; with_reducible exact H) | (have H2_ := (Option.bind_some _ _).symm.trans H; rw [hy215]; with_reducible exact H2_) | (have H2_ := (Option.bind_some _ _).symm.trans H; with_reducible exact H2_) | with_reducible exact H | (rw [hy215]; exact H) | exact H
     have Ny215 := Az.mk hy215
     clear hy215
     by_cases c36 : t212.length + y215.length < 8796093022208
     ·rw [if_pos c36] at H
      have LMc36 := Az.mk c36
      clear c36
      obtain ⟨y218, hy218⟩ : ∃ y_ : List (S30), y_ = (t212 ++ y215) := ⟨_, rfl⟩
      replace H : ((desc_right.f a0_0 a0_1 a0_2 (wrap64 (a0_3 + 1)) y218 (wrap64 (a0_5 + 1))).bind fun bt221 => (some (bt221.1, bt221.2.1, bt221.2.2.1, bt221.2.2.2.1, bt221.2.2.2.2.1, bt221.2.2.2.2.2.1, bt221.2.2.2.2.2.2))) = some (r1, r2, r3, r4, r5, r6, r7) := by first | (rw [hy218]; with_reducible exact H) | (have H2_ := (Option.bind_some _ _).symm.trans H; rw [hy218]; with_reducible exact H2_) | (have H2_ := (Option.bind_some _ _).symm.trans H; with_reducible exact H2_) | with_reducible exact H | (rw [hy218]; exact H) | exact H
      have Ny218 := Az.mk hy218
      clear hy218
      replace H := Option.bind_eq_some_iff.mp H
      obtain ⟨⟨t221, t222, t223, t224, t225, t228, t229⟩, A370, H⟩ := H
      try dsimp only at H
      have A37 := Az.mk A370
      clear A370
      simp only [Option.some.injEq, Prod.mk.injEq] at H
      obtain ⟨rfl, rfl, rfl, rfl, rfl, rfl, rfl⟩ := H
      go_enter Tryz.func21, Tryz.ntmps21
      try go_wp2_with (first | ((with_reducible refine gate_dst (N := 2) rfl ?_); refine box_event ?hg (N := 2) ?hd (cs := #[.int .i64 a0_0, .string a0_1, .string a0_2, .int .i64 a0_3, .slice A0_4 l0_4.length c0_4, .int .i64 a0_5]) (t := 26) ?hr ?_; (case hd => rfl); (case hg => rfl); (case hr => first | (go_simp; done) | (go_simp; rfl)); intro gb204 hg w38 hbox hb; have BK204 := Az.mk (hbox); have GW204 := Az.mk (geO hg (pbE HB.out)); have GE204 := Az.mk (geO hg (pbE HB.out)); replace HB := Az.mk (pbT (by exact pbE HB.out) hb); clear hb hbox hg) | ((with_reducible refine gate_dst (N := 4) rfl ?_); refine box_event ?hg (N := 4) ?hd (cs := #[.int .i64 0, .string (⟨#[]⟩ : ByteArray), .string (⟨#[]⟩ : ByteArray), .int .i64 0, .slice none 0 0, .int .i64 0]) (t := 26) ?hr ?_; (case hd => rfl); (case hg => rfl); (case hr => first | (go_simp; done) | (go_simp; rfl)); intro gb205 hg w39 hbox hb; have BK205 := Az.mk (hbox); have GW205 := Az.mk (geO hg (pbE HB.out)); have GE205 := Az.mk (geO hg (pbE HB.out)); replace HB := Az.mk (pbT (by exact pbE HB.out) hb); have NB204_205 := Az.mk (neO hg (bk BK204.out)); have NB205_204 := Az.mk (neP hg (bk BK204.out)); replace BK204 := Az.mk (bkB (bk BK204.out) hb); clear hb hbox hg; have hnb40 := NB204_205.out; have hnc40 := NB205_204.out; have hcz41 := cells6 BK204.out) | ((with_reducible refine gtc (f := 6) rfl ?_); refine goesL_ (some 11) rfl rfl Tryz.func6 (by kernel_rfl) rfl #[.agg #[.int .i64 a0_0, .string a0_1, .string a0_2, .int .i64 a0_3, .slice A0_4 l0_4.length c0_4, .int .i64 a0_5], .int .i64 a1] rfl (by (try simp only [List.map_toArray, List.map_cons, List.map_nil]); first | done | rfl | (simp only [List.length_drop, List.length_take]; rfl)) ?_; (with_reducible refine (desc_On.calls a0_0 a0_1 a0_2 a0_3 _ _ l0_4 a0_5 a1 t206 t207 false _ ?side1 ?side2 ?side3 A3.out).mono ?_); (case side1 => exact hG.below (by exact pbE HB.out)); (case side2 => repeat (first | exact (Kd.C_below HR0_4.out HB.out) | (with_reducible refine Kd.C_alloc ?_ _) | (with_reducible refine Kd.C_drewN ?_ _) | (with_reducible refine Kd.C_drew ?_))); (case side3 => exact HC0_4.out); rintro e w42 ⟨rfl, hb⟩; refine ⟨_, rfl, ?_⟩; replace BK204 := Az.mk (bkB (bk BK204.out) hb); replace BK205 := Az.mk (bkB (bk BK205.out) hb); replace HB := Az.mk (pbT (by exact pbE HB.out) hb); (try clear hb); (try clear hb2); (try clear hk); (try clear hi)) | ((with_reducible refine gate_dst (N := 6) rfl ?_); refine box_event ?hg (N := 6) ?hd (cs := #[.int .i64 0, .int .i64 0]) (t := 30) ?hr ?_; (case hd => rfl); (case hg => rfl); (case hr => first | (go_simp; done) | (go_simp; rfl)); intro gb209 hg w43 hbox hb; have BK209 := Az.mk (hbox); have GW209 := Az.mk (geO hg (pbE HB.out)); have GE209 := Az.mk (geO hg (pbE HB.out)); replace HB := Az.mk (pbT (by exact pbE HB.out) hb); have NB204_209 := Az.mk (neO hg (bk BK204.out)); have NB209_204 := Az.mk (neP hg (bk BK204.out)); replace BK204 := Az.mk (bkB (bk BK204.out) hb); have NB205_209 := Az.mk (neO hg (bk BK205.out)); have NB209_205 := Az.mk (neP hg (bk BK205.out)); replace BK205 := Az.mk (bkB (bk BK205.out) hb); clear hb hbox hg; have hnb44 := NB209_204.out; have hnc44 := NB204_209.out; have hnb45 := NB209_205.out; have hnc45 := NB205_209.out; have hcz46 := cells2 BK209.out; have hcz47 := cells6 BK204.out) | ((with_reducible refine gtc (f := 13) rfl ?_); refine goesL_ (some 16) rfl rfl Tryz.func13 (by kernel_rfl) rfl #[.agg #[.int .i64 a0_0, .string a0_1, .string a0_2, .int .i64 a0_3, .slice A0_4 l0_4.length c0_4, .int .i64 a0_5]] rfl (by (try simp only [List.map_toArray, List.map_cons, List.map_nil]); first | done | rfl | (simp only [List.length_drop, List.length_take]; rfl)) ?_; (with_reducible refine (desc_Check.calls a0_0 a0_1 a0_2 a0_3 _ _ l0_4 a0_5 t210 _ ?side1 ?side2 ?side3 A4.out).mono ?_); (case side1 => exact hG.below (by exact pbE HB.out)); (case side2 => exact Kd.C_below HR0_4.out (by exact pbE HB.out)); (case side3 => exact HC0_4.out); rintro e w48 ⟨rfl, hb⟩; refine ⟨_, rfl, ?_⟩; replace BK204 := Az.mk (bkB (bf BK204.out) hb); replace BK205 := Az.mk (bkB (bf BK205.out) hb); replace BK209 := Az.mk (bkB (g := gb209) (o := .cells #[.int .i64 t206, .int .i64 t207] 30 (0, 0)) (by refine bk ?_; refine blk_put (cs := #[.int .i64 t206, .int .i64 0]) ?_ 1 _ rfl; refine bk ?_; refine blk_put (cs := #[.int .i64 0, .int .i64 0]) ?_ 0 _ rfl; refine bk ?_; exact BK209.out) hb); replace HB := Az.mk (pbT (by exact pbE HB.out) hb); (try clear hb); (try clear hb2); (try clear hk); (try clear hi)) | ((with_reducible refine gtc (f := 47) rfl ?_); refine goesL_ (some 21) rfl rfl Tryz.func47 (by kernel_rfl) rfl #[.int .i64 a1] rfl (by (try simp only [List.map_toArray, List.map_cons, List.map_nil]); first | done | rfl | (simp only [List.length_drop, List.length_take]; rfl)) ?_; (with_reducible refine (desc_isNode.calls a1 true _ ?side1 A6.out).mono ?_); (case side1 => exact hG.below (by exact pbE HB.out)); rintro e w' ⟨rfl, ⟨nd, rfl⟩⟩; refine ⟨_, rfl, ?_⟩; (try (rw [drewN_self w48]; generalize hq_ : World.drewN w48 _ = w48; have n0_ : Az (w48.heap[gb204]? = some (.cells #[.int .i64 a0_0, .string a0_1, .string a0_2, .int .i64 a0_3, .slice A0_4 l0_4.length c0_4, .int .i64 a0_5] 26 (0, 0))) := ⟨by rw [← hq_]; exact (bk BK204.out)⟩; have n1_ : Az (w48.heap[gb205]? = some (.cells #[.int .i64 0, .string (⟨#[]⟩ : ByteArray), .string (⟨#[]⟩ : ByteArray), .int .i64 0, .slice none 0 0, .int .i64 0] 26 (0, 0))) := ⟨by rw [← hq_]; exact (bk BK205.out)⟩; have n2_ : Az (w48.heap[gb209]? = some (.cells #[.int .i64 t206, .int .i64 t207] 30 (0, 0))) := ⟨by rw [← hq_]; exact (bk BK209.out)⟩; have n3_ : Az (Below w.heap.size w w48) := ⟨by rw [← hq_]; exact (by exact pbE HB.out)⟩; clear BK204 BK205 BK209 HB hq_; have BK204 := n0_; have BK205 := n1_; have BK209 := n2_; have HB := n3_; clear n0_ n1_ n2_ n3_)); have hcz49 := cells6 BK204.out))
      replace BK204 := Az.mk (bkD BK204.out)
      replace BK205 := Az.mk (bkD BK205.out)
      replace BK209 := Az.mk (bkD BK209.out)
      replace HB := Az.mk (pb1 HB.out)
      refine start_ (n := 11) (S := fun w' => w'.cell? ⟨gb204, 0, none⟩ = some (.int .i64 a0_0) ∧ w'.cell? ⟨gb204, 1, none⟩ = some (.string a0_1) ∧ w'.cell? ⟨gb204, 2, none⟩ = some (.string a0_2) ∧ w'.cell? ⟨gb204, 3, none⟩ = some (.int .i64 a0_3) ∧ w'.cell? ⟨gb204, 4, none⟩ = some (.slice A0_4 l0_4.length c0_4) ∧ w'.cell? ⟨gb204, 5, none⟩ = some (.int .i64 a0_5)) (ds := [10]) #[false, false, false, false, false, false, false, false, false, false, false] (by kernel_rfl) rfl rfl ⟨(bkC BK204.out 0).trans rfl, (bkC BK204.out 1).trans rfl, (bkC BK204.out 2).trans rfl, (bkC BK204.out 3).trans rfl, (bkC BK204.out 4).trans rfl, (bkC BK204.out 5).trans rfl⟩ (fun hHeld => ?_); refine with_tabW desc_Add.tab10 desc_Add.bits10 (fun HT_ HW_ => ?_)
      generalize w48.drew = w50 at BK204 BK205 BK209 HB hHeld ⊢
      refine pure_ (i := 0) (N := some 33) (v := ?_) (a' := ?_) #[true, false, false, false, false, false, false, false, false, false, false] rfl rfl (any_of HT_.out (by kernel_rfl)) (fun _ _ _ h => h) (Or.inl ⟨by rfl, ?_⟩) ?_ ?_
      rotate_left
      ·intro w'
       go_simp
       with_reducible rfl
      rotate_left
      ·simp only [Act.put, List.setIfInBounds_toArray, List.set_cons_zero, List.set_cons_succ, i64_w, i32_w]
       rfl
      refine pure_ (i := 3) (N := some 36) (v := ?_) (a' := ?_) #[true, false, false, true, false, false, false, false, false, false, false] rfl rfl (any_of HT_.out (by kernel_rfl)) (fun _ _ _ h => h) (Or.inl ⟨by rfl, ?_⟩) ?_ ?_
      rotate_left
      ·intro w'
       go_simp
       with_reducible rfl
      rotate_left
      ·simp only [Act.put, List.setIfInBounds_toArray, List.set_cons_zero, List.set_cons_succ, i64_w, i32_w]
       rfl
      refine pure_ (i := 4) (N := some 37) (v := ?_) (a' := ?_) #[true, false, false, true, true, false, false, false, false, false, false] rfl rfl (any_of HT_.out (by kernel_rfl)) (fun _ _ _ h => h) (Or.inl ⟨by rfl, ?_⟩) ?_ ?_
      rotate_left
      ·intro w'
       go_simp
       with_reducible rfl
      rotate_left
      ·simp only [Act.put, List.setIfInBounds_toArray, List.set_cons_zero, List.set_cons_succ, i64_w, i32_w]
       rfl
      refine take_ (i := 1) (N := some 34) (v := ?_) (a' := ?_) #[true, true, false, true, true, false, false, false, false, false, false] rfl rfl (take_ofW HT_.out HW_.out (by kernel_rfl)) (fun _ _ _ h => h) (Or.inl ⟨by rfl, ?_⟩) hHeld ?_ ?_
      rotate_left
      ·rintro w' ⟨s0, s1, s2, s3, s4, s5⟩
       go_simp
       with_reducible rfl
      rotate_left
      ·simp only [Act.put, List.setIfInBounds_toArray, List.set_cons_zero, List.set_cons_succ, i64_w, i32_w]
       rfl
      refine take_ (i := 5) (N := some 38) (v := ?_) (a' := ?_) #[true, true, false, true, true, true, false, false, false, false, false] rfl rfl (take_ofW HT_.out HW_.out (by kernel_rfl)) (fun _ _ _ h => h) (Or.inl ⟨by rfl, ?_⟩) hHeld ?_ ?_
      rotate_left
      ·rintro w' ⟨s0, s1, s2, s3, s4, s5⟩
       go_simp
       with_reducible rfl
      rotate_left
      ·simp only [Act.put, List.setIfInBounds_toArray, List.set_cons_zero, List.set_cons_succ, i64_w, i32_w]
       rfl
      refine pure_ (i := 6) (N := some 39) (v := ?_) (a' := ?_) #[true, true, false, true, true, true, true, false, false, false, false] rfl rfl (any_of HT_.out (by kernel_rfl)) (fun _ _ _ h => h) (Or.inl ⟨by rfl, ?_⟩) ?_ ?_
      rotate_left
      ·intro w'
       go_simp
       with_reducible rfl
      rotate_left
      ·simp only [Act.put, List.setIfInBounds_toArray, List.set_cons_zero, List.set_cons_succ, i64_w, i32_w]
       rfl
      refine join_ (σ := Value × Value) 3 #[true, true, true, true, true, true, true, true, false, false, false] (fun s_ => [(35, s_.1), (40, s_.2)]) (fun s_ w' => (w'.cell? ⟨gb204, 0, none⟩ = some (.int .i64 a0_0) ∧ w'.cell? ⟨gb204, 1, none⟩ = some (.string a0_1) ∧ w'.cell? ⟨gb204, 2, none⟩ = some (.string a0_2) ∧ w'.cell? ⟨gb204, 3, none⟩ = some (.int .i64 a0_3) ∧ w'.cell? ⟨gb204, 4, none⟩ = some (.slice A0_4 l0_4.length c0_4) ∧ w'.cell? ⟨gb204, 5, none⟩ = some (.int .i64 a0_5)) ∧ (Kd.R k30 30 w' w.heap.size (fun k_ => (w.heap.size ≤ k_) ∧ some k_ ≠ (s_.2 : Value).ownBlock ∧ k_ ≠ gb209) s_.1 t212) ∧ (Kd.R k30 30 w' w.heap.size (fun k_ => (w.heap.size ≤ k_) ∧ some k_ ≠ (s_.1 : Value).ownBlock ∧ k_ ≠ gb209) s_.2 y215) ∧ (w'.heap[gb204]? = some (.cells #[.int .i64 a0_0, .string a0_1, .string a0_2, .int .i64 a0_3, .slice A0_4 l0_4.length c0_4, .int .i64 a0_5] 26 (0, 0))) ∧ (w'.heap[gb205]? = some (.cells #[.int .i64 0, .string (⟨#[]⟩ : ByteArray), .string (⟨#[]⟩ : ByteArray), .int .i64 0, .slice none 0 0, .int .i64 0] 26 (0, 0))) ∧ (w'.heap[gb209]? = some (.cells #[.int .i64 t206, .int .i64 t207] 30 (0, 0))) ∧ (Below w.heap.size w w')) ?_ ?_
      rotate_left
      ·intro hCont
       refine two_ (i := 2) (j := 7) (Ni := some 35) (Nj := some 40) #[true, true, true, true, true, true, true, false, false, false, false] #[true, true, false, true, true, true, true, true, false, false, false] rfl rfl rfl rfl (two_of HT_.out (by kernel_rfl)) (by decide) (by decide) (fun K hK => ?_) (fun K hK => ?_)
       ·skip
        refine goes_ Tryz.func46 (by kernel_rfl) rfl #[.slice A0_4 l0_4.length c0_4] (by rfl) rfl rfl (by (try simp only [List.map_toArray, List.map_cons, List.map_nil]); first | done | rfl | (simp only [List.length_drop, List.length_take]; rfl)) ?_
        with_reducible refine (api_Member_46.calls _ _ l0_4 t212 _ ?side1 ?side2 ?side3 A35.out).mono ?_
        (case side1 => exact hG.below (by exact pbE HB.out))
        (case side2 => repeat (first | exact (Kd.C_below HR0_4.out HB.out) | (with_reducible refine Kd.C_alloc ?_ _) | (with_reducible refine Kd.C_drewN ?_ _) | (with_reducible refine Kd.C_drew ?_)))
        (case side3 => exact HC0_4.out)
        rintro e w51 ⟨v213, rfl, ho0, hb⟩
        refine ⟨_, rfl, ?_⟩
        have HO214 := Az.mk (Kd.R_lower (Kd.R_newB (Kd.R_newM (M := fun k_ => (w.heap.size ≤ k_)) (Kd.R_mono (ok' := fun k_ => True) ho0 (fun _ hk_ => trivial)) (pbZ (by exact pbE HB.out)) (fun k_ h_ => h_)) (bk BK209.out)) (pbZ (by exact pbE HB.out)))
        replace BK204 := Az.mk (bkB (bk BK204.out) hb)
        replace BK205 := Az.mk (bkB (bk BK205.out) hb)
        replace BK209 := Az.mk (bkB (bk BK209.out) hb)
        replace HB := Az.mk (pbT (by exact pbE HB.out) hb)
        (try clear hb)
        (try clear hb2)
        (try clear hk)
        (try clear hi)
        (try clear ho0)
        refine hK.out _ _ ⟨(bkC BK204.out 0).trans rfl, (bkC BK204.out 1).trans rfl, (bkC BK204.out 2).trans rfl, (bkC BK204.out 3).trans rfl, (bkC BK204.out 4).trans rfl, (bkC BK204.out 5).trans rfl⟩ (fun hHeld => ?_)
        clear hK K
        refine norm_ (a' := ?_) ?_ ?_
        rotate_left
        ·show Act.put _ (some 35) _ = _
         simp only [Act.put, List.setIfInBounds_toArray, List.set_cons_zero, List.set_cons_succ, i64_w, i32_w]
         rfl
        refine one_ (i := 7) (N := some 40) #[true, true, true, true, true, true, true, true, false, false, false] rfl rfl (one_of HT_.out (by kernel_rfl)) (by decide) (fun K hK => ?_)
        refine Kd.R_lit_step k30 _ 30 ?hg (N := 40) ?hd (xs := ([(⟨a1, a0_5⟩ : S30)] : List (S30))) (inner := [.int .i64 a1, .int .i64 a0_5]) (ok := fun _ => True) (okp := fun _ => True) ?hr ?hp (fun _ hk => hk) trivial (Below.refl _ _) (Nat.le_refl _) (by simp) ?_; (case hd => rfl); (case hg => rfl); (case hr => first | (go_simp; done) | (go_simp; rfl)); (case hp => exact (Reps.c2 (show Kd.M k30 _ _ _ (⟨a1, a0_5⟩ : S30) [.int .i64 a1, .int .i64 a0_5] from (k30_mkM _ _ _ (⟨a1, a0_5⟩ : S30) )) (Reps.none _ _)))
        intro v216 w52 ho53 hb hg_ hnew_
        clear hg_ hnew_
        (first | rw [← Ny215.out] at ho53 | (simp only [Int.reduceToNat] at ho53; rw [← Ny215.out] at ho53))
        have HO217 := Az.mk (Kd.R_lower (Kd.R_newB (Kd.R_new' (Kd.R_newM (M := fun k_ => (w.heap.size ≤ k_)) ho53 (pbZ (by exact pbE HB.out)) (fun k_ h_ => h_)) (Kd.R_lt (Kd.R_ext HO214.out))) (bk BK209.out)) (pbZ (by exact pbE HB.out)))
        replace HO214 := Az.mk (Kd.R_elder' (Kd.R_ext HO214.out) (Kd.R_base ho53) hb)
        replace BK204 := Az.mk (bkB (bk BK204.out) hb)
        replace BK205 := Az.mk (bkB (bk BK205.out) hb)
        replace BK209 := Az.mk (bkB (bk BK209.out) hb)
        replace HB := Az.mk (pbT (by exact pbE HB.out) hb)
        clear hb ho53
        refine hK.out _ _ ⟨(bkC BK204.out 0).trans rfl, (bkC BK204.out 1).trans rfl, (bkC BK204.out 2).trans rfl, (bkC BK204.out 3).trans rfl, (bkC BK204.out 4).trans rfl, (bkC BK204.out 5).trans rfl⟩ (fun hHeld => ?_)
        clear hK K
        refine norm_ (a' := ?_) ?_ ?_
        rotate_left
        ·show Act.put _ (some 40) _ = _
         simp only [Act.put, List.setIfInBounds_toArray, List.set_cons_zero, List.set_cons_succ, i64_w, i32_w]
         rfl
        exact norm_ (by simp only [putAll, Act.put, List.setIfInBounds_toArray, List.set_cons_zero, List.set_cons_succ]) (hCont (v213, v216) _ ⟨hHeld, (by (with_reducible repeat (first | apply Kd.R_alloc | apply Kd.R_drewN | apply Kd.R_drew)); exact Kd.R_mono HO214.out (fun _ hk => ⟨hk.1.1.1, ⟨hk.2, hk.1.2⟩⟩)), (by (with_reducible repeat (first | apply Kd.R_alloc | apply Kd.R_drewN | apply Kd.R_drew)); exact Kd.R_mono HO217.out (fun _ hk => ⟨hk.1.1.1, ⟨hk.1.2, hk.2⟩⟩)), (bk BK204.out), (bk BK205.out), (bk BK209.out), (by exact pbE HB.out)⟩)
       ·skip
        refine Kd.R_lit_step k30 _ 30 ?hg (N := 40) ?hd (xs := ([(⟨a1, a0_5⟩ : S30)] : List (S30))) (inner := [.int .i64 a1, .int .i64 a0_5]) (ok := fun _ => True) (okp := fun _ => True) ?hr ?hp (fun _ hk => hk) trivial (Below.refl _ _) (Nat.le_refl _) (by simp) ?_; (case hd => rfl); (case hg => rfl); (case hr => first | (go_simp; done) | (go_simp; rfl)); (case hp => exact (Reps.c2 (show Kd.M k30 _ _ _ (⟨a1, a0_5⟩ : S30) [.int .i64 a1, .int .i64 a0_5] from (k30_mkM _ _ _ (⟨a1, a0_5⟩ : S30) )) (Reps.none _ _)))
        intro v216 w51 ho52 hb hg_ hnew_
        clear hg_ hnew_
        (first | rw [← Ny215.out] at ho52 | (simp only [Int.reduceToNat] at ho52; rw [← Ny215.out] at ho52))
        have HO217 := Az.mk (Kd.R_lower (Kd.R_newB (Kd.R_newM (M := fun k_ => (w.heap.size ≤ k_)) ho52 (pbZ (by exact pbE HB.out)) (fun k_ h_ => h_)) (bk BK209.out)) (pbZ (by exact pbE HB.out)))
        replace BK204 := Az.mk (bkB (bk BK204.out) hb)
        replace BK205 := Az.mk (bkB (bk BK205.out) hb)
        replace BK209 := Az.mk (bkB (bk BK209.out) hb)
        replace HB := Az.mk (pbT (by exact pbE HB.out) hb)
        clear hb ho52
        refine hK.out _ _ ⟨(bkC BK204.out 0).trans rfl, (bkC BK204.out 1).trans rfl, (bkC BK204.out 2).trans rfl, (bkC BK204.out 3).trans rfl, (bkC BK204.out 4).trans rfl, (bkC BK204.out 5).trans rfl⟩ (fun hHeld => ?_)
        clear hK K
        refine norm_ (a' := ?_) ?_ ?_
        rotate_left
        ·show Act.put _ (some 40) _ = _
         simp only [Act.put, List.setIfInBounds_toArray, List.set_cons_zero, List.set_cons_succ, i64_w, i32_w]
         rfl
        refine one_ (i := 2) (N := some 35) #[true, true, true, true, true, true, true, true, false, false, false] rfl rfl (one_of HT_.out (by kernel_rfl)) (by decide) (fun K hK => ?_)
        refine goes_ Tryz.func46 (by kernel_rfl) rfl #[.slice A0_4 l0_4.length c0_4] (by rfl) rfl rfl (by (try simp only [List.map_toArray, List.map_cons, List.map_nil]); first | done | rfl | (simp only [List.length_drop, List.length_take]; rfl)) ?_
        with_reducible refine (api_Member_46.calls _ _ l0_4 t212 _ ?side1 ?side2 ?side3 A35.out).mono ?_
        (case side1 => exact hG.below (by exact pbE HB.out))
        (case side2 => repeat (first | exact (Kd.C_below HR0_4.out HB.out) | (with_reducible refine Kd.C_alloc ?_ _) | (with_reducible refine Kd.C_drewN ?_ _) | (with_reducible refine Kd.C_drew ?_)))
        (case side3 => exact HC0_4.out)
        rintro e w53 ⟨v213, rfl, ho0, hb⟩
        refine ⟨_, rfl, ?_⟩
        have HO214 := Az.mk (Kd.R_lower (Kd.R_newB (Kd.R_new' (Kd.R_newM (M := fun k_ => (w.heap.size ≤ k_)) (Kd.R_mono (ok' := fun k_ => True) ho0 (fun _ hk_ => trivial)) (pbZ (by exact pbE HB.out)) (fun k_ h_ => h_)) (Kd.R_lt (Kd.R_ext HO217.out))) (bk BK209.out)) (pbZ (by exact pbE HB.out)))
        replace HO217 := Az.mk (Kd.R_elder' (Kd.R_ext HO217.out) (Kd.R_base ho0) hb)
        replace BK204 := Az.mk (bkB (bk BK204.out) hb)
        replace BK205 := Az.mk (bkB (bk BK205.out) hb)
        replace BK209 := Az.mk (bkB (bk BK209.out) hb)
        replace HB := Az.mk (pbT (by exact pbE HB.out) hb)
        (try clear hb)
        (try clear hb2)
        (try clear hk)
        (try clear hi)
        (try clear ho0)
        refine hK.out _ _ ⟨(bkC BK204.out 0).trans rfl, (bkC BK204.out 1).trans rfl, (bkC BK204.out 2).trans rfl, (bkC BK204.out 3).trans rfl, (bkC BK204.out 4).trans rfl, (bkC BK204.out 5).trans rfl⟩ (fun hHeld => ?_)
        clear hK K
        refine norm_ (a' := ?_) ?_ ?_
        rotate_left
        ·show Act.put _ (some 35) _ = _
         simp only [Act.put, List.setIfInBounds_toArray, List.set_cons_zero, List.set_cons_succ, i64_w, i32_w]
         rfl
        exact norm_ (by simp only [putAll, Act.put, List.setIfInBounds_toArray, List.set_cons_zero, List.set_cons_succ]) (hCont (v213, v216) _ ⟨hHeld, (by (with_reducible repeat (first | apply Kd.R_alloc | apply Kd.R_drewN | apply Kd.R_drew)); exact Kd.R_mono HO214.out (fun _ hk => ⟨hk.1.1.1, ⟨hk.1.2, hk.2⟩⟩)), (by (with_reducible repeat (first | apply Kd.R_alloc | apply Kd.R_drewN | apply Kd.R_drew)); exact Kd.R_mono HO217.out (fun _ hk => ⟨hk.1.1.1, ⟨hk.2, hk.1.2⟩⟩)), (bk BK204.out), (bk BK205.out), (bk BK209.out), (by exact pbE HB.out)⟩)
      rintro ⟨v213, v216⟩ w54 ⟨hS_, h0_, h1_, h2_, h3_, h4_, h5_⟩
      have n0_ : Az (Kd.R k30 30 w54 w.heap.size (fun k_ => (w.heap.size ≤ k_) ∧ some k_ ≠ (v216 : Value).ownBlock ∧ k_ ≠ gb209) v213 t212) := ⟨h0_⟩
      have n1_ : Az (Kd.R k30 30 w54 w.heap.size (fun k_ => (w.heap.size ≤ k_) ∧ some k_ ≠ (v213 : Value).ownBlock ∧ k_ ≠ gb209) v216 y215) := ⟨h1_⟩
      have n2_ : Az (w54.heap[gb204]? = some (.cells #[.int .i64 a0_0, .string a0_1, .string a0_2, .int .i64 a0_3, .slice A0_4 l0_4.length c0_4, .int .i64 a0_5] 26 (0, 0))) := ⟨h2_⟩
      have n3_ : Az (w54.heap[gb205]? = some (.cells #[.int .i64 0, .string (⟨#[]⟩ : ByteArray), .string (⟨#[]⟩ : ByteArray), .int .i64 0, .slice none 0 0, .int .i64 0] 26 (0, 0))) := ⟨h3_⟩
      have n4_ : Az (w54.heap[gb209]? = some (.cells #[.int .i64 t206, .int .i64 t207] 30 (0, 0))) := ⟨h4_⟩
      have n5_ : Az (Below w.heap.size w w54) := ⟨h5_⟩
      clear BK204
      clear BK205
      clear BK209
      clear HB
      clear h0_ h1_ h2_ h3_ h4_ h5_
      have HO214 := n0_
      have HO217 := n1_
      have BK204 := n2_
      have BK205 := n3_
      have BK209 := n4_
      have HB := n5_
      clear n0_ n1_ n2_ n3_ n4_ n5_
      have hHeld : w54.cell? ⟨gb204, 0, none⟩ = some (.int .i64 a0_0) ∧ w54.cell? ⟨gb204, 1, none⟩ = some (.string a0_1) ∧ w54.cell? ⟨gb204, 2, none⟩ = some (.string a0_2) ∧ w54.cell? ⟨gb204, 3, none⟩ = some (.int .i64 a0_3) ∧ w54.cell? ⟨gb204, 4, none⟩ = some (.slice A0_4 l0_4.length c0_4) ∧ w54.cell? ⟨gb204, 5, none⟩ = some (.int .i64 a0_5) := hS_
      obtain ⟨Ao56, co56, eo56⟩ := Kd.R_slice HO217.out
      (first | subst eo56 | (injection eo56 with f1_ f2_ f3_; have f4_ := f1_.symm; have f5_ := f3_.symm; clear f1_ f2_ f3_; subst f4_; subst f5_))
      refine norm_ (a' := ?_) ?_ ?_
      rotate_left
      ·simp only [putAll, Act.put, List.setIfInBounds_toArray, List.set_cons_zero, List.set_cons_succ]
       rfl
      refine one_ (i := 8) (N := some 41) #[true, true, true, true, true, true, true, true, true, false, false] rfl rfl (one_of HT_.out (by kernel_rfl)) (by decide) (fun K hK => ?_)
      refine Kd.R_append_rows_step k30 (w0 := w) w.heap.size (by rfl) (.tmp 35) (.tmp 40) 24 30 (.agg #[(.int .i64 0), (.int .i64 0)]) 16 rfl Tryz.underlying24 info30 rfl (by decide) (by omega) v213 t212 y215 _ _ _ (fun k_ => (w.heap.size ≤ k_) ∧ some k_ ≠ (.slice Ao56 y215.length co56 : Value).ownBlock ∧ k_ ≠ gb209) (fun _ => False) rfl rfl ?aO ?aR (fun _ _ h => h) (fun _ h => h.elim) ?aF ?aB ?aS ?aL ?_
      (case aR => exact Kd.C_ext (Kd.R_reads' HO217.out).2.2)
      (case aB => exact (by exact pbE HB.out))
      (case aF => exact (fun k_ hk => ⟨(Nat.le_trans (pbZ (by exact pbE HB.out)) hk), Kd.fresh' (Kd.R_lt (Kd.R_ext HO217.out)) k_ hk, Kd.freshB (bk BK209.out) k_ hk⟩))
      (case aO => exact (Kd.R_ext HO214.out))
      (case aS => exact (pbZ (by exact pbE HB.out)))
      (case aL => have := LMc36.out; omega)
      intro v219 w55 ho hb hg hat
      rw [← Ny218.out] at ho
      replace BK204 := Az.mk (blk_grown (bk BK204.out) hg (Kd.R_ne HO214.out BK204.out (by decide)))
      replace BK205 := Az.mk (blk_grown (bk BK205.out) hg (Kd.R_ne HO214.out BK205.out (by decide)))
      replace BK209 := Az.mk (blk_grown (bk BK209.out) hg (Kd.R_away HO214.out (fun _ hk => hk.2.2)))
      replace HO217 := Az.mk (Kd.R_after (ok := (fun k_ => (w.heap.size ≤ k_) ∧ k_ ≠ gb209)) (by (with_reducible repeat (first | apply Kd.R_alloc | apply Kd.R_drewN | apply Kd.R_drew)); exact Kd.R_mono HO217.out (fun _ hk => ⟨⟨hk.1, hk.2.2⟩, hk.2.1⟩)) hg hat)
      replace HB := Az.mk (hb)
      have HO220 := Az.mk (ho)
      clear HO214
      clear ho hb hg hat
      obtain ⟨Ao57, co57, eo57⟩ := Kd.R_slice HO220.out
      (first | subst eo57 | (injection eo57 with f1_ f2_ f3_; have f4_ := f1_.symm; have f5_ := f3_.symm; clear f1_ f2_ f3_; subst f4_; subst f5_))
      refine hK.out _ _ ⟨(bkC BK204.out 0).trans rfl, (bkC BK204.out 1).trans rfl, (bkC BK204.out 2).trans rfl, (bkC BK204.out 3).trans rfl, (bkC BK204.out 4).trans rfl, (bkC BK204.out 5).trans rfl⟩ (fun hHeld => ?_)
      clear hK K
      refine norm_ (a' := ?_) ?_ ?_
      rotate_left
      ·show Act.put _ (some 41) _ = _
       simp only [Act.put, List.setIfInBounds_toArray, List.set_cons_zero, List.set_cons_succ, i64_w, i32_w]
       rfl
      refine pure_ (i := 9) (N := some 42) (v := ?_) (a' := ?_) #[true, true, true, true, true, true, true, true, true, true, false] rfl rfl (any_of HT_.out (by kernel_rfl)) (fun _ _ _ h => h) (Or.inl ⟨by rfl, ?_⟩) ?_ ?_
      rotate_left
      ·intro w'
       go_simp
       with_reducible rfl
      rotate_left
      ·simp only [Act.put, List.setIfInBounds_toArray, List.set_cons_zero, List.set_cons_succ, i64_w, i32_w]
       rfl
      refine last_ (i := 10) (N := none) #[true, true, true, true, true, true, true, true, true, true, true] rfl rfl (one_of HT_.out (by kernel_rfl)) (by decide) (fun K hK => ?_)
      have hs58 : w55.cell? ⟨gb204, 4, none⟩ = some (.slice A0_4 l0_4.length c0_4) := (bkC BK204.out 4).trans rfl
      have hfs58 := bkF BK204.out 4
      have hns58_1 := NB205_204.out
      have hns58_2 := NB209_204.out
      have hms58_1 := NB204_205.out
      have hms58_2 := NB204_209.out
      refine skip_ (w1 := ?_) (by rfl) rfl ?_ ?_
      rotate_left
      ·go_simp
       rfl
      refine hK.out _ _ ?_
      clear hK K
      refine done_ (done_of HT_.out (by kernel_rfl)) ?_
      have n0_ : Az (Kd.R k30 30 (w55.setCell ⟨gb204, 4, none⟩ (.slice Ao57 y218.length co57)) w.heap.size (fun k_ => (w.heap.size ≤ k_) ∧ some k_ ≠ (.slice Ao57 y218.length co57 : Value).ownBlock ∧ k_ ≠ gb209) (.slice Ao56 y215.length co56) y215) := ⟨by (with_reducible repeat (first | apply Kd.R_alloc | apply Kd.R_drewN | apply Kd.R_drew)); exact Kd.R_mono (Kd.R_far (p := ⟨gb204, 4, none⟩) (Kd.R_types HO217.out BK204.out (by decide)) (fun _ hk => hk.2) (.slice Ao57 y218.length co57)) (fun _ hk => ⟨hk.1.1.1, ⟨hk.1.2, hk.1.1.2⟩⟩)⟩
      have n1_ : Az (Kd.R k30 30 (w55.setCell ⟨gb204, 4, none⟩ (.slice Ao57 y218.length co57)) w.heap.size (fun k_ => (w.heap.size ≤ k_) ∧ some k_ ≠ (.slice Ao56 y215.length co56 : Value).ownBlock ∧ k_ ≠ gb209) (.slice Ao57 y218.length co57) y218) := ⟨by (with_reducible repeat (first | apply Kd.R_alloc | apply Kd.R_drewN | apply Kd.R_drew)); exact Kd.R_mono (Kd.R_far (p := ⟨gb204, 4, none⟩) (Kd.R_types HO220.out BK204.out (by decide)) (fun _ hk => hk.2) (.slice Ao57 y218.length co57)) (fun _ hk => ⟨hk.1.1, ⟨hk.1.2.1, hk.1.2.2⟩⟩)⟩
      have n2_ : Az ((w55.setCell ⟨gb204, 4, none⟩ (.slice Ao57 y218.length co57)).heap[gb204]? = some (.cells #[.int .i64 a0_0, .string a0_1, .string a0_2, .int .i64 a0_3, .slice Ao57 y218.length co57, .int .i64 a0_5] 26 (0, 0))) := ⟨by refine bk ?_; refine blk_put (cs := #[.int .i64 a0_0, .string a0_1, .string a0_2, .int .i64 a0_3, .slice A0_4 l0_4.length c0_4, .int .i64 a0_5]) ?_ 4 _ rfl; refine bk ?_; exact BK204.out⟩
      have n3_ : Az ((w55.setCell ⟨gb204, 4, none⟩ (.slice Ao57 y218.length co57)).heap[gb205]? = some (.cells #[.int .i64 0, .string (⟨#[]⟩ : ByteArray), .string (⟨#[]⟩ : ByteArray), .int .i64 0, .slice none 0 0, .int .i64 0] 26 (0, 0))) := ⟨by exact bf BK205.out⟩
      have n4_ : Az ((w55.setCell ⟨gb204, 4, none⟩ (.slice Ao57 y218.length co57)).heap[gb209]? = some (.cells #[.int .i64 t206, .int .i64 t207] 30 (0, 0))) := ⟨by exact bf BK209.out⟩
      have n5_ : Az (Below w.heap.size w (w55.setCell ⟨gb204, 4, none⟩ (.slice Ao57 y218.length co57))) := ⟨by exact pbE HB.out⟩
      (try clear HO217)
      (try clear HO220)
      (try clear BK204)
      (try clear BK205)
      (try clear BK209)
      (try clear HB)
      generalize (w55.setCell ⟨gb204, 4, none⟩ (.slice Ao57 y218.length co57)) = w59 at n0_ n1_ n2_ n3_ n4_ n5_ ⊢
      have HO217 := n0_
      have HO220 := n1_
      have BK204 := n2_
      have BK205 := n3_
      have BK209 := n4_
      have HB := n5_
      clear n0_ n1_ n2_ n3_ n4_ n5_
      have hcz60 := cells6 BK204.out
      try go_wp2_with (first | ((with_reducible refine gate_store (t := 2) (p := 46) rfl ?_); refine store_event (t := 2) (p := 46) (v := ?vo_w61) (w1 := (w59.setCell ⟨gb204, 5, none⟩ (.int .i64 (wrap64 (a0_5 + 1))))) ?hg ?ho ?hn ?hr ?_; (case ho => rfl); (case hg => rfl); (case hn => rfl); (case hr => first | (go_simp; done) | (go_simp; rfl)); intro w61 hw; have n0_ : Az (Kd.R k30 30 w61 w.heap.size (fun k_ => (w.heap.size ≤ k_) ∧ some k_ ≠ (.slice Ao57 y218.length co57 : Value).ownBlock ∧ k_ ≠ gb209) (.slice Ao56 y215.length co56) y215) := ⟨(by rw [hw]; exact (by (with_reducible repeat (first | apply Kd.R_alloc | apply Kd.R_drewN | apply Kd.R_drew)); exact Kd.R_mono (Kd.R_far (p := ⟨gb204, 5, none⟩) (Kd.R_types HO217.out BK204.out (by decide)) (fun _ hk => hk.2) (.int .i64 (wrap64 (a0_5 + 1)))) (fun _ hk => ⟨hk.1.1, ⟨hk.1.2.1, hk.1.2.2⟩⟩)))⟩; have n1_ : Az (Kd.R k30 30 w61 w.heap.size (fun k_ => (w.heap.size ≤ k_) ∧ some k_ ≠ (.slice Ao56 y215.length co56 : Value).ownBlock ∧ k_ ≠ gb209) (.slice Ao57 y218.length co57) y218) := ⟨(by rw [hw]; exact (by (with_reducible repeat (first | apply Kd.R_alloc | apply Kd.R_drewN | apply Kd.R_drew)); exact Kd.R_mono (Kd.R_far (p := ⟨gb204, 5, none⟩) (Kd.R_types HO220.out BK204.out (by decide)) (fun _ hk => hk.2) (.int .i64 (wrap64 (a0_5 + 1)))) (fun _ hk => ⟨hk.1.1, ⟨hk.1.2.1, hk.1.2.2⟩⟩)))⟩; have n2_ : Az (w61.heap[gb204]? = some (.cells #[.int .i64 a0_0, .string a0_1, .string a0_2, .int .i64 a0_3, .slice Ao57 y218.length co57, .int .i64 (wrap64 (a0_5 + 1))] 26 (0, 0))) := ⟨(by rw [hw]; exact (by refine bk ?_; refine blk_put (cs := #[.int .i64 a0_0, .string a0_1, .string a0_2, .int .i64 a0_3, .slice Ao57 y218.length co57, .int .i64 a0_5]) ?_ 5 _ rfl; refine bk ?_; exact BK204.out))⟩; have n3_ : Az (w61.heap[gb205]? = some (.cells #[.int .i64 0, .string (⟨#[]⟩ : ByteArray), .string (⟨#[]⟩ : ByteArray), .int .i64 0, .slice none 0 0, .int .i64 0] 26 (0, 0))) := ⟨(by rw [hw]; exact (bf BK205.out))⟩; have n4_ : Az (w61.heap[gb209]? = some (.cells #[.int .i64 t206, .int .i64 t207] 30 (0, 0))) := ⟨(by rw [hw]; exact (bf BK209.out))⟩; have n5_ : Az (Below w.heap.size w w61) := ⟨(by rw [hw]; exact (by exact pbE HB.out))⟩; clear hw; clear HO217; clear HO220; clear BK204; clear BK205; clear BK209; clear HB; have HO217 := n0_; have HO220 := n1_; have BK204 := n2_; have BK205 := n3_; have BK209 := n4_; have HB := n5_; clear n0_ n1_ n2_ n3_ n4_ n5_; have hcz62 := cells6 BK204.out) | ((with_reducible refine gate_store (t := 2) (p := 50) rfl ?_); refine store_event (t := 2) (p := 50) (v := ?vo_w63) (w1 := (w61.setCell ⟨gb204, 3, none⟩ (.int .i64 (wrap64 (a0_3 + 1))))) ?hg ?ho ?hn ?hr ?_; (case ho => rfl); (case hg => rfl); (case hn => rfl); (case hr => first | (go_simp; done) | (go_simp; rfl)); intro w63 hw; have n0_ : Az (Kd.R k30 30 w63 w.heap.size (fun k_ => (w.heap.size ≤ k_) ∧ some k_ ≠ (.slice Ao57 y218.length co57 : Value).ownBlock ∧ k_ ≠ gb209) (.slice Ao56 y215.length co56) y215) := ⟨(by rw [hw]; exact (by (with_reducible repeat (first | apply Kd.R_alloc | apply Kd.R_drewN | apply Kd.R_drew)); exact Kd.R_mono (Kd.R_far (p := ⟨gb204, 3, none⟩) (Kd.R_types HO217.out BK204.out (by decide)) (fun _ hk => hk.2) (.int .i64 (wrap64 (a0_3 + 1)))) (fun _ hk => ⟨hk.1.1, ⟨hk.1.2.1, hk.1.2.2⟩⟩)))⟩; have n1_ : Az (Kd.R k30 30 w63 w.heap.size (fun k_ => (w.heap.size ≤ k_) ∧ some k_ ≠ (.slice Ao56 y215.length co56 : Value).ownBlock ∧ k_ ≠ gb209) (.slice Ao57 y218.length co57) y218) := ⟨(by rw [hw]; exact (by (with_reducible repeat (first | apply Kd.R_alloc | apply Kd.R_drewN | apply Kd.R_drew)); exact Kd.R_mono (Kd.R_far (p := ⟨gb204, 3, none⟩) (Kd.R_types HO220.out BK204.out (by decide)) (fun _ hk => hk.2) (.int .i64 (wrap64 (a0_3 + 1)))) (fun _ hk => ⟨hk.1.1, ⟨hk.1.2.1, hk.1.2.2⟩⟩)))⟩; have n2_ : Az (w63.heap[gb204]? = some (.cells #[.int .i64 a0_0, .string a0_1, .string a0_2, .int .i64 (wrap64 (a0_3 + 1)), .slice Ao57 y218.length co57, .int .i64 (wrap64 (a0_5 + 1))] 26 (0, 0))) := ⟨(by rw [hw]; exact (by refine bk ?_; refine blk_put (cs := #[.int .i64 a0_0, .string a0_1, .string a0_2, .int .i64 a0_3, .slice Ao57 y218.length co57, .int .i64 (wrap64 (a0_5 + 1))]) ?_ 3 _ rfl; refine bk ?_; exact BK204.out))⟩; have n3_ : Az (w63.heap[gb205]? = some (.cells #[.int .i64 0, .string (⟨#[]⟩ : ByteArray), .string (⟨#[]⟩ : ByteArray), .int .i64 0, .slice none 0 0, .int .i64 0] 26 (0, 0))) := ⟨(by rw [hw]; exact (bf BK205.out))⟩; have n4_ : Az (w63.heap[gb209]? = some (.cells #[.int .i64 t206, .int .i64 t207] 30 (0, 0))) := ⟨(by rw [hw]; exact (bf BK209.out))⟩; have n5_ : Az (Below w.heap.size w w63) := ⟨(by rw [hw]; exact (by exact pbE HB.out))⟩; clear hw; clear HO217; clear HO220; clear BK204; clear BK205; clear BK209; clear HB; have HO217 := n0_; have HO220 := n1_; have BK204 := n2_; have BK205 := n3_; have BK209 := n4_; have HB := n5_; clear n0_ n1_ n2_ n3_ n4_ n5_; have hcz64 := cells6 BK204.out) | ((with_reducible refine gtc (f := 30) rfl ?_); refine goesL_ (some 52) rfl rfl Tryz.func30 (by kernel_rfl) rfl #[.agg #[.int .i64 a0_0, .string a0_1, .string a0_2, .int .i64 (wrap64 (a0_3 + 1)), .slice Ao57 y218.length co57, .int .i64 (wrap64 (a0_5 + 1))]] rfl (by (try simp only [List.map_toArray, List.map_cons, List.map_nil]); first | done | rfl | (simp only [List.length_drop, List.length_take]; rfl)) ?_; (with_reducible refine (desc_right.calls a0_0 a0_1 a0_2 (wrap64 (a0_3 + 1)) (fun k_ => some k_ = (.slice Ao57 y218.length co57 : Value).ownBlock) _ _ y218 (wrap64 (a0_5 + 1)) t221 t222 t223 t224 t225 t228 t229 _ ?side1 ?side2 A37.out).mono ?_); (case side1 => exact hG.below (by exact pbE HB.out)); (case side2 => exact Kd.R_V (Kd.R_tight rfl (Kd.R_types (Kd.R_types (HO220.out) BK204.out (by decide)) BK205.out (by decide)))); rintro e w65 ⟨v226, rfl, ho0, hb⟩; refine ⟨_, rfl, ?_⟩; have HO227 := Az.mk (Kd.V_lower (Kd.V_mono (ok' := fun k_ => (w.heap.size ≤ k_) ∧ some k_ ≠ (.slice Ao56 y215.length co56 : Value).ownBlock ∧ k_ ≠ gb204 ∧ k_ ≠ gb205 ∧ k_ ≠ gb209) ho0 (fun k_ hk_ => ⟨Or.elim hk_ (fun hs_ => ((Kd.R_types (Kd.R_types (HO220.out) BK204.out (by decide)) BK205.out (by decide)).1 k_ hs_.symm).1.1.1) (fun hn_ => (Nat.le_trans (pbZ (by exact pbE HB.out)) hn_)), Or.elim hk_ (fun hs_ => ((Kd.R_types (Kd.R_types (HO220.out) BK204.out (by decide)) BK205.out (by decide)).1 k_ hs_.symm).1.1.2.1) (fun hn_ => (Kd.fresh' (Kd.R_lt (Kd.R_ext HO217.out)) k_ hn_)), Or.elim hk_ (fun hs_ => ((Kd.R_types (Kd.R_types (HO220.out) BK204.out (by decide)) BK205.out (by decide)).1 k_ hs_.symm).1.2) (fun hn_ => (Kd.freshB (bk BK204.out) k_ hn_)), Or.elim hk_ (fun hs_ => ((Kd.R_types (Kd.R_types (HO220.out) BK204.out (by decide)) BK205.out (by decide)).1 k_ hs_.symm).2) (fun hn_ => (Kd.freshB (bk BK205.out) k_ hn_)), Or.elim hk_ (fun hs_ => ((Kd.R_types (Kd.R_types (HO220.out) BK204.out (by decide)) BK205.out (by decide)).1 k_ hs_.symm).1.1.2.2) (fun hn_ => (Kd.freshB (bk BK209.out) k_ hn_))⟩)) (pbZ (by exact pbE HB.out))); replace HO217 := Az.mk (Kd.R_below (Kd.R_ext HO217.out) hb); replace HO220 := Az.mk (Kd.R_below (Kd.R_ext HO220.out) hb); replace BK204 := Az.mk (bkB (bk BK204.out) hb); replace BK205 := Az.mk (bkB (bk BK205.out) hb); replace BK209 := Az.mk (bkB (bk BK209.out) hb); replace HB := Az.mk (pbT (by exact pbE HB.out) hb); (try clear hb); (try clear hb2); (try clear hk); (try clear hi); (try clear ho0); have hcz66 := cells6 BK205.out; obtain ⟨Ao67, co67, eo67⟩ := Kd.V_slice HO227.out; subst eo67))
      refine bodyPost_ret (results_ct rfl _ _ gb205 26 #[.int .i64 t221, .string t222, .string t223, .int .i64 t224, .slice Ao67 t225.length co67, .int .i64 t228] (0, 0) _ rfl (by refine bk ?_; refine blk_put (cs := #[.int .i64 t221, .string t222, .string t223, .int .i64 t224, .slice Ao67 t225.length co67, .int .i64 0]) ?_ 5 _ rfl; refine bk ?_; refine blk_put (cs := #[.int .i64 t221, .string t222, .string t223, .int .i64 t224, .slice none 0 0, .int .i64 0]) ?_ 4 _ rfl; refine bk ?_; refine blk_put (cs := #[.int .i64 t221, .string t222, .string t223, .int .i64 0, .slice none 0 0, .int .i64 0]) ?_ 3 _ rfl; refine bk ?_; refine blk_put (cs := #[.int .i64 t221, .string t222, .string (⟨#[]⟩ : ByteArray), .int .i64 0, .slice none 0 0, .int .i64 0]) ?_ 2 _ rfl; refine bk ?_; refine blk_put (cs := #[.int .i64 t221, .string (⟨#[]⟩ : ByteArray), .string (⟨#[]⟩ : ByteArray), .int .i64 0, .slice none 0 0, .int .i64 0]) ?_ 1 _ rfl; refine bk ?_; refine blk_put (cs := #[.int .i64 0, .string (⟨#[]⟩ : ByteArray), .string (⟨#[]⟩ : ByteArray), .int .i64 0, .slice none 0 0, .int .i64 0]) ?_ 0 _ rfl; refine bk ?_; exact BK205.out) Tryz.underlying26 rfl (by kernel_rfl)) rfl ?_
      exact ⟨_, by first | rfl | (simp [errW_none, errW_some] <;> rfl) | (simp [*, errW_none, errW_some] <;> rfl), by (with_reducible repeat (first | apply Kd.V_alloc | apply Kd.V_drewN | apply Kd.V_drew)); exact Kd.V_mono (Kd.V_off (g := gb205) (fun _ hk => hk.2) (Kd.V_mono HO227.out (fun k_ hk => (⟨hk, hk.2.2.2.1⟩ : _ ∧ k_ ≠ gb205)))) (fun _ hk => hk.1.1), by exact pbE HB.out⟩
     ·rw [if_neg c36] at H
      exact absurd H (by simp)
  ·replace c7 := Bool.eq_false_iff.mpr c7
   subst c7
   rw [if_neg (show ¬ (false = true) by decide)] at H
   simp only [Option.some.injEq, Prod.mk.injEq] at H
   obtain ⟨rfl, rfl, rfl, rfl, rfl, rfl, rfl⟩ := H
   go_enter Tryz.func21, Tryz.ntmps21
   go_wp2_with (first | ((with_reducible refine gate_dst (N := 2) rfl ?_); refine box_event ?hg (N := 2) ?hd (cs := #[.int .i64 a0_0, .string a0_1, .string a0_2, .int .i64 a0_3, .slice A0_4 l0_4.length c0_4, .int .i64 a0_5]) (t := 26) ?hr ?_; (case hd => rfl); (case hg => rfl); (case hr => first | (go_simp; done) | (go_simp; rfl)); intro gb204 hg w68 hbox hb; have BK204 := Az.mk (hbox); have GW204 := Az.mk (geO hg (pbE HB.out)); have GE204 := Az.mk (geO hg (pbE HB.out)); replace HB := Az.mk (pbT (by exact pbE HB.out) hb); clear hb hbox hg) | ((with_reducible refine gate_dst (N := 4) rfl ?_); refine box_event ?hg (N := 4) ?hd (cs := #[.int .i64 0, .string (⟨#[]⟩ : ByteArray), .string (⟨#[]⟩ : ByteArray), .int .i64 0, .slice none 0 0, .int .i64 0]) (t := 26) ?hr ?_; (case hd => rfl); (case hg => rfl); (case hr => first | (go_simp; done) | (go_simp; rfl)); intro gb205 hg w69 hbox hb; have BK205 := Az.mk (hbox); have GW205 := Az.mk (geO hg (pbE HB.out)); have GE205 := Az.mk (geO hg (pbE HB.out)); replace HB := Az.mk (pbT (by exact pbE HB.out) hb); have NB204_205 := Az.mk (neO hg (bk BK204.out)); have NB205_204 := Az.mk (neP hg (bk BK204.out)); replace BK204 := Az.mk (bkB (bk BK204.out) hb); clear hb hbox hg; have hnb70 := NB204_205.out; have hnc70 := NB205_204.out; have hcz71 := cells6 BK204.out) | ((with_reducible refine gtc (f := 6) rfl ?_); refine goesL_ (some 11) rfl rfl Tryz.func6 (by kernel_rfl) rfl #[.agg #[.int .i64 a0_0, .string a0_1, .string a0_2, .int .i64 a0_3, .slice A0_4 l0_4.length c0_4, .int .i64 a0_5], .int .i64 a1] rfl (by (try simp only [List.map_toArray, List.map_cons, List.map_nil]); first | done | rfl | (simp only [List.length_drop, List.length_take]; rfl)) ?_; (with_reducible refine (desc_On.calls a0_0 a0_1 a0_2 a0_3 _ _ l0_4 a0_5 a1 t206 t207 t208 _ ?side1 ?side2 ?side3 A3.out).mono ?_); (case side1 => exact hG.below (by exact pbE HB.out)); (case side2 => repeat (first | exact (Kd.C_below HR0_4.out HB.out) | (with_reducible refine Kd.C_alloc ?_ _) | (with_reducible refine Kd.C_drewN ?_ _) | (with_reducible refine Kd.C_drew ?_))); (case side3 => exact HC0_4.out); rintro e w72 ⟨rfl, hb⟩; refine ⟨_, rfl, ?_⟩; replace BK204 := Az.mk (bkB (bk BK204.out) hb); replace BK205 := Az.mk (bkB (bk BK205.out) hb); replace HB := Az.mk (pbT (by exact pbE HB.out) hb); (try clear hb); (try clear hb2); (try clear hk); (try clear hi)) | ((with_reducible refine gate_dst (N := 6) rfl ?_); refine box_event ?hg (N := 6) ?hd (cs := #[.int .i64 0, .int .i64 0]) (t := 30) ?hr ?_; (case hd => rfl); (case hg => rfl); (case hr => first | (go_simp; done) | (go_simp; rfl)); intro gb209 hg w73 hbox hb; have BK209 := Az.mk (hbox); have GW209 := Az.mk (geO hg (pbE HB.out)); have GE209 := Az.mk (geO hg (pbE HB.out)); replace HB := Az.mk (pbT (by exact pbE HB.out) hb); have NB204_209 := Az.mk (neO hg (bk BK204.out)); have NB209_204 := Az.mk (neP hg (bk BK204.out)); replace BK204 := Az.mk (bkB (bk BK204.out) hb); have NB205_209 := Az.mk (neO hg (bk BK205.out)); have NB209_205 := Az.mk (neP hg (bk BK205.out)); replace BK205 := Az.mk (bkB (bk BK205.out) hb); clear hb hbox hg; have hnb74 := NB209_204.out; have hnc74 := NB204_209.out; have hnb75 := NB209_205.out; have hnc75 := NB205_209.out; have hcz76 := cells2 BK209.out; have hcz77 := cells6 BK204.out) | ((with_reducible refine gtc (f := 13) rfl ?_); refine goesL_ (some 16) rfl rfl Tryz.func13 (by kernel_rfl) rfl #[.agg #[.int .i64 a0_0, .string a0_1, .string a0_2, .int .i64 a0_3, .slice A0_4 l0_4.length c0_4, .int .i64 a0_5]] rfl (by (try simp only [List.map_toArray, List.map_cons, List.map_nil]); first | done | rfl | (simp only [List.length_drop, List.length_take]; rfl)) ?_; (with_reducible refine (desc_Check.calls a0_0 a0_1 a0_2 a0_3 _ _ l0_4 a0_5 t210 _ ?side1 ?side2 ?side3 A4.out).mono ?_); (case side1 => exact hG.below (by exact pbE HB.out)); (case side2 => exact Kd.C_below HR0_4.out (by exact pbE HB.out)); (case side3 => exact HC0_4.out); rintro e w78 ⟨rfl, hb⟩; refine ⟨_, rfl, ?_⟩; replace BK204 := Az.mk (bkB (bf BK204.out) hb); replace BK205 := Az.mk (bkB (bf BK205.out) hb); replace BK209 := Az.mk (bkB (g := gb209) (o := .cells #[.int .i64 t206, .int .i64 t207] 30 (0, 0)) (by refine bk ?_; refine blk_put (cs := #[.int .i64 t206, .int .i64 0]) ?_ 1 _ rfl; refine bk ?_; refine blk_put (cs := #[.int .i64 0, .int .i64 0]) ?_ 0 _ rfl; refine bk ?_; exact BK209.out) hb); replace HB := Az.mk (pbT (by exact pbE HB.out) hb); (try clear hb); (try clear hb2); (try clear hk); (try clear hi)) | ((with_reducible refine gtc (f := 47) rfl ?_); refine goesL_ (some 21) rfl rfl Tryz.func47 (by kernel_rfl) rfl #[.int .i64 a1] rfl (by (try simp only [List.map_toArray, List.map_cons, List.map_nil]); first | done | rfl | (simp only [List.length_drop, List.length_take]; rfl)) ?_; (with_reducible refine (desc_isNode.calls a1 false _ ?side1 A6.out).mono ?_); (case side1 => exact hG.below (by exact pbE HB.out)); rintro e w' ⟨rfl, ⟨nd, rfl⟩⟩; refine ⟨_, rfl, ?_⟩; (try (rw [drewN_self w78]; generalize hq_ : World.drewN w78 _ = w78; have n0_ : Az (w78.heap[gb204]? = some (.cells #[.int .i64 a0_0, .string a0_1, .string a0_2, .int .i64 a0_3, .slice A0_4 l0_4.length c0_4, .int .i64 a0_5] 26 (0, 0))) := ⟨by rw [← hq_]; exact (bk BK204.out)⟩; have n1_ : Az (w78.heap[gb205]? = some (.cells #[.int .i64 0, .string (⟨#[]⟩ : ByteArray), .string (⟨#[]⟩ : ByteArray), .int .i64 0, .slice none 0 0, .int .i64 0] 26 (0, 0))) := ⟨by rw [← hq_]; exact (bk BK205.out)⟩; have n2_ : Az (w78.heap[gb209]? = some (.cells #[.int .i64 t206, .int .i64 t207] 30 (0, 0))) := ⟨by rw [← hq_]; exact (bk BK209.out)⟩; have n3_ : Az (Below w.heap.size w w78) := ⟨by rw [← hq_]; exact (by exact pbE HB.out)⟩; clear BK204 BK205 BK209 HB hq_; have BK204 := n0_; have BK205 := n1_; have BK209 := n2_; have HB := n3_; clear n0_ n1_ n2_ n3_)); have hcz79 := cells6 BK205.out))
   refine bodyPost_ret (results_ct rfl _ _ gb205 26 #[.int .i64 0, .string (⟨#[]⟩ : ByteArray), .string (⟨#[]⟩ : ByteArray), .int .i64 0, .slice none 0 0, .int .i64 0] (0, 0) _ rfl (by refine bk ?_; refine blk_put (cs := #[.int .i64 0, .string (⟨#[]⟩ : ByteArray), .string (⟨#[]⟩ : ByteArray), .int .i64 0, .slice none 0 0, .int .i64 0]) ?_ 5 _ rfl; refine bk ?_; refine blk_put (cs := #[.int .i64 0, .string (⟨#[]⟩ : ByteArray), .string (⟨#[]⟩ : ByteArray), .int .i64 0, .slice none 0 0, .int .i64 0]) ?_ 4 _ rfl; refine bk ?_; refine blk_put (cs := #[.int .i64 0, .string (⟨#[]⟩ : ByteArray), .string (⟨#[]⟩ : ByteArray), .int .i64 0, .slice none 0 0, .int .i64 0]) ?_ 3 _ rfl; refine bk ?_; refine blk_put (cs := #[.int .i64 0, .string (⟨#[]⟩ : ByteArray), .string (⟨#[]⟩ : ByteArray), .int .i64 0, .slice none 0 0, .int .i64 0]) ?_ 2 _ rfl; refine bk ?_; refine blk_put (cs := #[.int .i64 0, .string (⟨#[]⟩ : ByteArray), .string (⟨#[]⟩ : ByteArray), .int .i64 0, .slice none 0 0, .int .i64 0]) ?_ 1 _ rfl; refine bk ?_; refine blk_put (cs := #[.int .i64 0, .string (⟨#[]⟩ : ByteArray), .string (⟨#[]⟩ : ByteArray), .int .i64 0, .slice none 0 0, .int .i64 0]) ?_ 0 _ rfl; refine bk ?_; exact BK205.out) Tryz.underlying26 rfl (by kernel_rfl)) rfl ?_
   exact ⟨_, by first | rfl | (simp [errW_none, errW_some] <;> rfl) | (simp [*, errW_none, errW_some] <;> rfl), Kd.V_nil _ _ _ _ _, by exact pbE HB.out⟩
 ·rw [if_neg c5] at H
  have c5b0 : (t210 == 0) = false := beq_eq_false_iff_ne.mpr c5
  have c5b1 : (t210 != 0) = true := bne_iff_ne.mpr c5
  simp only [Option.some.injEq, Prod.mk.injEq] at H
  obtain ⟨rfl, rfl, rfl, rfl, rfl, rfl, rfl⟩ := H
  go_enter Tryz.func21, Tryz.ntmps21
  go_wp2_with (first | ((with_reducible refine gate_dst (N := 2) rfl ?_); refine box_event ?hg (N := 2) ?hd (cs := #[.int .i64 a0_0, .string a0_1, .string a0_2, .int .i64 a0_3, .slice A0_4 l0_4.length c0_4, .int .i64 a0_5]) (t := 26) ?hr ?_; (case hd => rfl); (case hg => rfl); (case hr => first | (go_simp; done) | (go_simp; rfl)); intro gb204 hg w80 hbox hb; have BK204 := Az.mk (hbox); have GW204 := Az.mk (geO hg (pbE HB.out)); have GE204 := Az.mk (geO hg (pbE HB.out)); replace HB := Az.mk (pbT (by exact pbE HB.out) hb); clear hb hbox hg) | ((with_reducible refine gate_dst (N := 4) rfl ?_); refine box_event ?hg (N := 4) ?hd (cs := #[.int .i64 0, .string (⟨#[]⟩ : ByteArray), .string (⟨#[]⟩ : ByteArray), .int .i64 0, .slice none 0 0, .int .i64 0]) (t := 26) ?hr ?_; (case hd => rfl); (case hg => rfl); (case hr => first | (go_simp; done) | (go_simp; rfl)); intro gb205 hg w81 hbox hb; have BK205 := Az.mk (hbox); have GW205 := Az.mk (geO hg (pbE HB.out)); have GE205 := Az.mk (geO hg (pbE HB.out)); replace HB := Az.mk (pbT (by exact pbE HB.out) hb); have NB204_205 := Az.mk (neO hg (bk BK204.out)); have NB205_204 := Az.mk (neP hg (bk BK204.out)); replace BK204 := Az.mk (bkB (bk BK204.out) hb); clear hb hbox hg; have hnb82 := NB204_205.out; have hnc82 := NB205_204.out; have hcz83 := cells6 BK204.out) | ((with_reducible refine gtc (f := 6) rfl ?_); refine goesL_ (some 11) rfl rfl Tryz.func6 (by kernel_rfl) rfl #[.agg #[.int .i64 a0_0, .string a0_1, .string a0_2, .int .i64 a0_3, .slice A0_4 l0_4.length c0_4, .int .i64 a0_5], .int .i64 a1] rfl (by (try simp only [List.map_toArray, List.map_cons, List.map_nil]); first | done | rfl | (simp only [List.length_drop, List.length_take]; rfl)) ?_; (with_reducible refine (desc_On.calls a0_0 a0_1 a0_2 a0_3 _ _ l0_4 a0_5 a1 t206 t207 t208 _ ?side1 ?side2 ?side3 A3.out).mono ?_); (case side1 => exact hG.below (by exact pbE HB.out)); (case side2 => repeat (first | exact (Kd.C_below HR0_4.out HB.out) | (with_reducible refine Kd.C_alloc ?_ _) | (with_reducible refine Kd.C_drewN ?_ _) | (with_reducible refine Kd.C_drew ?_))); (case side3 => exact HC0_4.out); rintro e w84 ⟨rfl, hb⟩; refine ⟨_, rfl, ?_⟩; replace BK204 := Az.mk (bkB (bk BK204.out) hb); replace BK205 := Az.mk (bkB (bk BK205.out) hb); replace HB := Az.mk (pbT (by exact pbE HB.out) hb); (try clear hb); (try clear hb2); (try clear hk); (try clear hi)) | ((with_reducible refine gate_dst (N := 6) rfl ?_); refine box_event ?hg (N := 6) ?hd (cs := #[.int .i64 0, .int .i64 0]) (t := 30) ?hr ?_; (case hd => rfl); (case hg => rfl); (case hr => first | (go_simp; done) | (go_simp; rfl)); intro gb209 hg w85 hbox hb; have BK209 := Az.mk (hbox); have GW209 := Az.mk (geO hg (pbE HB.out)); have GE209 := Az.mk (geO hg (pbE HB.out)); replace HB := Az.mk (pbT (by exact pbE HB.out) hb); have NB204_209 := Az.mk (neO hg (bk BK204.out)); have NB209_204 := Az.mk (neP hg (bk BK204.out)); replace BK204 := Az.mk (bkB (bk BK204.out) hb); have NB205_209 := Az.mk (neO hg (bk BK205.out)); have NB209_205 := Az.mk (neP hg (bk BK205.out)); replace BK205 := Az.mk (bkB (bk BK205.out) hb); clear hb hbox hg; have hnb86 := NB209_204.out; have hnc86 := NB204_209.out; have hnb87 := NB209_205.out; have hnc87 := NB205_209.out; have hcz88 := cells2 BK209.out; have hcz89 := cells6 BK204.out) | ((with_reducible refine gtc (f := 13) rfl ?_); refine goesL_ (some 16) rfl rfl Tryz.func13 (by kernel_rfl) rfl #[.agg #[.int .i64 a0_0, .string a0_1, .string a0_2, .int .i64 a0_3, .slice A0_4 l0_4.length c0_4, .int .i64 a0_5]] rfl (by (try simp only [List.map_toArray, List.map_cons, List.map_nil]); first | done | rfl | (simp only [List.length_drop, List.length_take]; rfl)) ?_; (with_reducible refine (desc_Check.calls a0_0 a0_1 a0_2 a0_3 _ _ l0_4 a0_5 t210 _ ?side1 ?side2 ?side3 A4.out).mono ?_); (case side1 => exact hG.below (by exact pbE HB.out)); (case side2 => exact Kd.C_below HR0_4.out (by exact pbE HB.out)); (case side3 => exact HC0_4.out); rintro e w90 ⟨rfl, hb⟩; refine ⟨_, rfl, ?_⟩; replace BK204 := Az.mk (bkB (bf BK204.out) hb); replace BK205 := Az.mk (bkB (bf BK205.out) hb); replace BK209 := Az.mk (bkB (g := gb209) (o := .cells #[.int .i64 t206, .int .i64 t207] 30 (0, 0)) (by refine bk ?_; refine blk_put (cs := #[.int .i64 t206, .int .i64 0]) ?_ 1 _ rfl; refine bk ?_; refine blk_put (cs := #[.int .i64 0, .int .i64 0]) ?_ 0 _ rfl; refine bk ?_; exact BK209.out) hb); replace HB := Az.mk (pbT (by exact pbE HB.out) hb); (try clear hb); (try clear hb2); (try clear hk); (try clear hi); have hcz91 := cells6 BK205.out))
  refine bodyPost_ret (results_ct rfl _ _ gb205 26 #[.int .i64 0, .string (⟨#[]⟩ : ByteArray), .string (⟨#[]⟩ : ByteArray), .int .i64 0, .slice none 0 0, .int .i64 0] (0, 0) _ rfl (by refine bk ?_; refine blk_put (cs := #[.int .i64 0, .string (⟨#[]⟩ : ByteArray), .string (⟨#[]⟩ : ByteArray), .int .i64 0, .slice none 0 0, .int .i64 0]) ?_ 5 _ rfl; refine bk ?_; refine blk_put (cs := #[.int .i64 0, .string (⟨#[]⟩ : ByteArray), .string (⟨#[]⟩ : ByteArray), .int .i64 0, .slice none 0 0, .int .i64 0]) ?_ 4 _ rfl; refine bk ?_; refine blk_put (cs := #[.int .i64 0, .string (⟨#[]⟩ : ByteArray), .string (⟨#[]⟩ : ByteArray), .int .i64 0, .slice none 0 0, .int .i64 0]) ?_ 3 _ rfl; refine bk ?_; refine blk_put (cs := #[.int .i64 0, .string (⟨#[]⟩ : ByteArray), .string (⟨#[]⟩ : ByteArray), .int .i64 0, .slice none 0 0, .int .i64 0]) ?_ 2 _ rfl; refine bk ?_; refine blk_put (cs := #[.int .i64 0, .string (⟨#[]⟩ : ByteArray), .string (⟨#[]⟩ : ByteArray), .int .i64 0, .slice none 0 0, .int .i64 0]) ?_ 1 _ rfl; refine bk ?_; refine blk_put (cs := #[.int .i64 0, .string (⟨#[]⟩ : ByteArray), .string (⟨#[]⟩ : ByteArray), .int .i64 0, .slice none 0 0, .int .i64 0]) ?_ 0 _ rfl; refine bk ?_; exact BK205.out) Tryz.underlying26 rfl (by kernel_rfl)) rfl ?_
  exact ⟨_, by first | rfl | (simp [errW_none, errW_some] <;> rfl) | (simp [*, errW_none, errW_some] <;> rfl), Kd.V_nil _ _ _ _ _, by exact pbE HB.out⟩
def bound_both.f (a0_0 : ByteArray) (a0_1 : ByteArray) (a1_0 : ByteArray) (a1_1 : ByteArray) : Option (Bool) := (bound_Check.f a0_0 a0_1).bind fun t232 => (if t232 = 0 then ((bound_Check.f a1_0 a1_1).bind fun t233 => (some (t233 == 0))) else (some false))
set_option maxHeartbeats 8000000 in
set_option maxRecDepth 100000 in
theorem bound_both.calls (a0_0 : ByteArray) (a0_1 : ByteArray) (a1_0 : ByteArray) (a1_1 : ByteArray) (r : Bool) (w : World) (hG : TheG w) (h : bound_both.f a0_0 a0_1 a1_0 a1_1 = some r) :
 Calls Tryz.prog 67 #[.agg #[.string a0_0, .string a0_1], .agg #[.string a1_0, .string a1_1]] w fun e w' => e = .returned (.bool r) ∧ Below w.heap.size w w' := by
 have hu23 := Tryz.underlying23
 have HB := Az.mk (Below.refl w.heap.size w)
 have H : ((bound_Check.f a0_0 a0_1).bind fun t232 => (if t232 = 0 then ((bound_Check.f a1_0 a1_1).bind fun t233 => (some (t233 == 0))) else (some false))) = some r := h
 clear h
 replace H := Option.bind_eq_some_iff.mp H
 obtain ⟨t232, A30, H⟩ := H
 try dsimp only at H
 have A3 := Az.mk A30
 clear A30
 by_cases c4 : t232 = 0
 ·rw [if_pos c4] at H
  have c4b0 : (t232 == 0) = true := beq_iff_eq.mpr c4
  have c4b1 : (t232 != 0) = false := bne_eq_false_iff_eq.mpr c4
  clear c4
  replace H := Option.bind_eq_some_iff.mp H
  obtain ⟨t233, A50, H⟩ := H
  replace H : (some (t233 == 0)) = some r := H
  have A5 := Az.mk A50
  clear A50
  obtain rfl := Option.some.inj H
  go_enter Tryz.func67, Tryz.ntmps67
  go_wp2_with (first | ((with_reducible refine gate_dst (N := 2) rfl ?_); refine box_event ?hg (N := 2) ?hd (cs := #[.string a0_0, .string a0_1]) (t := 23) ?hr ?_; (case hd => rfl); (case hg => rfl); (case hr => first | (go_simp; done) | (go_simp; rfl)); intro gb230 hg w6 hbox hb; have BK230 := Az.mk (hbox); have GW230 := Az.mk (geO hg (pbE HB.out)); have GE230 := Az.mk (geO hg (pbE HB.out)); replace HB := Az.mk (pbT (by exact pbE HB.out) hb); clear hb hbox hg) | ((with_reducible refine gate_dst (N := 3) rfl ?_); refine box_event ?hg (N := 3) ?hd (cs := #[.string a1_0, .string a1_1]) (t := 23) ?hr ?_; (case hd => rfl); (case hg => rfl); (case hr => first | (go_simp; done) | (go_simp; rfl)); intro gb231 hg w7 hbox hb; have BK231 := Az.mk (hbox); have GW231 := Az.mk (geO hg (pbE HB.out)); have GE231 := Az.mk (geO hg (pbE HB.out)); replace HB := Az.mk (pbT (by exact pbE HB.out) hb); have NB230_231 := Az.mk (neO hg (bk BK230.out)); have NB231_230 := Az.mk (neP hg (bk BK230.out)); replace BK230 := Az.mk (bkB (bk BK230.out) hb); clear hb hbox hg; have hnb8 := NB230_231.out; have hnc8 := NB231_230.out; have hcz9 := cells2 BK230.out) | ((with_reducible refine gtc (f := 35) rfl ?_); refine goesL_ (some 6) rfl rfl Tryz.func35 (by kernel_rfl) rfl #[.agg #[.string a0_0, .string a0_1]] rfl (by (try simp only [List.map_toArray, List.map_cons, List.map_nil]); first | done | rfl | (simp only [List.length_drop, List.length_take]; rfl)) ?_; (with_reducible refine (bound_Check.calls a0_0 a0_1 t232 _ ?side1 A3.out).mono ?_); (case side1 => exact hG.below (by exact pbE HB.out)); rintro e w10 ⟨rfl, hb⟩; refine ⟨_, rfl, ?_⟩; replace BK230 := Az.mk (bkB (bk BK230.out) hb); replace BK231 := Az.mk (bkB (bk BK231.out) hb); replace HB := Az.mk (pbT (by exact pbE HB.out) hb); (try clear hb); (try clear hb2); (try clear hk); (try clear hi); have hcz11 := cells2 BK231.out) | (go_at_call 35; (with_reducible refine (bound_Check.calls a1_0 a1_1 t233 _ ?side1 A5.out).mono ?_); (case side1 => exact hG.below (by exact pbE HB.out)); rintro e w12 ⟨rfl, hb⟩; replace BK230 := Az.mk (bkB (bk BK230.out) hb); replace BK231 := Az.mk (bkB (bk BK231.out) hb); replace HB := Az.mk (pbT (by exact pbE HB.out) hb); (try clear hb); (try clear hb2); (try clear hk); (try clear hi)))
  go_ret
  exact ⟨by first | rfl | (simp [errW_none, errW_some] <;> rfl) | (simp [*, errW_none, errW_some] <;> rfl), by exact pbE HB.out⟩
 ·rw [if_neg c4] at H
  have c4b0 : (t232 == 0) = false := beq_eq_false_iff_ne.mpr c4
  have c4b1 : (t232 != 0) = true := bne_iff_ne.mpr c4
  obtain rfl := Option.some.inj H
  go_enter Tryz.func67, Tryz.ntmps67
  go_wp2_with (first | ((with_reducible refine gate_dst (N := 2) rfl ?_); refine box_event ?hg (N := 2) ?hd (cs := #[.string a0_0, .string a0_1]) (t := 23) ?hr ?_; (case hd => rfl); (case hg => rfl); (case hr => first | (go_simp; done) | (go_simp; rfl)); intro gb230 hg w13 hbox hb; have BK230 := Az.mk (hbox); have GW230 := Az.mk (geO hg (pbE HB.out)); have GE230 := Az.mk (geO hg (pbE HB.out)); replace HB := Az.mk (pbT (by exact pbE HB.out) hb); clear hb hbox hg) | ((with_reducible refine gate_dst (N := 3) rfl ?_); refine box_event ?hg (N := 3) ?hd (cs := #[.string a1_0, .string a1_1]) (t := 23) ?hr ?_; (case hd => rfl); (case hg => rfl); (case hr => first | (go_simp; done) | (go_simp; rfl)); intro gb231 hg w14 hbox hb; have BK231 := Az.mk (hbox); have GW231 := Az.mk (geO hg (pbE HB.out)); have GE231 := Az.mk (geO hg (pbE HB.out)); replace HB := Az.mk (pbT (by exact pbE HB.out) hb); have NB230_231 := Az.mk (neO hg (bk BK230.out)); have NB231_230 := Az.mk (neP hg (bk BK230.out)); replace BK230 := Az.mk (bkB (bk BK230.out) hb); clear hb hbox hg; have hnb15 := NB230_231.out; have hnc15 := NB231_230.out; have hcz16 := cells2 BK230.out) | ((with_reducible refine gtc (f := 35) rfl ?_); refine goesL_ (some 6) rfl rfl Tryz.func35 (by kernel_rfl) rfl #[.agg #[.string a0_0, .string a0_1]] rfl (by (try simp only [List.map_toArray, List.map_cons, List.map_nil]); first | done | rfl | (simp only [List.length_drop, List.length_take]; rfl)) ?_; (with_reducible refine (bound_Check.calls a0_0 a0_1 t232 _ ?side1 A3.out).mono ?_); (case side1 => exact hG.below (by exact pbE HB.out)); rintro e w17 ⟨rfl, hb⟩; refine ⟨_, rfl, ?_⟩; replace BK230 := Az.mk (bkB (bk BK230.out) hb); replace BK231 := Az.mk (bkB (bk BK231.out) hb); replace HB := Az.mk (pbT (by exact pbE HB.out) hb); (try clear hb); (try clear hb2); (try clear hk); (try clear hi)))
  go_ret
  exact ⟨by first | rfl | (simp [errW_none, errW_some] <;> rfl) | (simp [*, errW_none, errW_some] <;> rfl), by exact pbE HB.out⟩
def bound_Next.f (a0_0 : ByteArray) (a0_1 : ByteArray) (a1_0 : ByteArray) (a1_1 : ByteArray) : Option (Bool) := (bound_both.f a0_0 a0_1 a1_0 a1_1).bind fun t236 => (if t236 = true then (if a0_1.toList = ([] : List UInt8) then (some false) else (some (a0_1.toList == a1_0.toList))) else (some false))
set_option maxHeartbeats 8000000 in
set_option maxRecDepth 100000 in
theorem bound_Next.calls (a0_0 : ByteArray) (a0_1 : ByteArray) (a1_0 : ByteArray) (a1_1 : ByteArray) (r : Bool) (w : World) (hG : TheG w) (h : bound_Next.f a0_0 a0_1 a1_0 a1_1 = some r) :
 Calls Tryz.prog 62 #[.agg #[.string a0_0, .string a0_1], .agg #[.string a1_0, .string a1_1]] w fun e w' => e = .returned (.bool r) ∧ Below w.heap.size w w' := by
 have hu23 := Tryz.underlying23
 have HB := Az.mk (Below.refl w.heap.size w)
 have H : ((bound_both.f a0_0 a0_1 a1_0 a1_1).bind fun t236 => (if t236 = true then (if a0_1.toList = ([] : List UInt8) then (some false) else (some (a0_1.toList == a1_0.toList))) else (some false))) = some r := h
 clear h
 replace H := Option.bind_eq_some_iff.mp H
 obtain ⟨t236, A30, H⟩ := H
 try dsimp only at H
 have A3 := Az.mk A30
 clear A30
 by_cases c4 : t236 = true
 ·subst c4
  rw [if_pos rfl] at H
  by_cases c5 : a0_1.toList = ([] : List UInt8)
  ·rw [if_pos c5] at H
   have c5b0 : (a0_1.toList == ([] : List UInt8)) = true := beq_iff_eq.mpr c5
   have c5b1 : (a0_1.toList != ([] : List UInt8)) = false := bne_eq_false_iff_eq.mpr c5
   clear c5
   obtain rfl := Option.some.inj H
   go_enter Tryz.func62, Tryz.ntmps62
   go_wp2_with (first | ((with_reducible refine gate_dst (N := 2) rfl ?_); refine box_event ?hg (N := 2) ?hd (cs := #[.string a0_0, .string a0_1]) (t := 23) ?hr ?_; (case hd => rfl); (case hg => rfl); (case hr => first | (go_simp; done) | (go_simp; rfl)); intro gb234 hg w6 hbox hb; have BK234 := Az.mk (hbox); have GW234 := Az.mk (geO hg (pbE HB.out)); have GE234 := Az.mk (geO hg (pbE HB.out)); replace HB := Az.mk (pbT (by exact pbE HB.out) hb); clear hb hbox hg) | ((with_reducible refine gate_dst (N := 3) rfl ?_); refine box_event ?hg (N := 3) ?hd (cs := #[.string a1_0, .string a1_1]) (t := 23) ?hr ?_; (case hd => rfl); (case hg => rfl); (case hr => first | (go_simp; done) | (go_simp; rfl)); intro gb235 hg w7 hbox hb; have BK235 := Az.mk (hbox); have GW235 := Az.mk (geO hg (pbE HB.out)); have GE235 := Az.mk (geO hg (pbE HB.out)); replace HB := Az.mk (pbT (by exact pbE HB.out) hb); have NB234_235 := Az.mk (neO hg (bk BK234.out)); have NB235_234 := Az.mk (neP hg (bk BK234.out)); replace BK234 := Az.mk (bkB (bk BK234.out) hb); clear hb hbox hg; have hnb8 := NB234_235.out; have hnc8 := NB235_234.out; have hcz9 := cells2 BK234.out; have hcz10 := cells2 BK235.out) | ((with_reducible refine gtc (f := 67) rfl ?_); refine goesL_ (some 7) rfl rfl Tryz.func67 (by kernel_rfl) rfl #[.agg #[.string a0_0, .string a0_1], .agg #[.string a1_0, .string a1_1]] rfl (by (try simp only [List.map_toArray, List.map_cons, List.map_nil]); first | done | rfl | (simp only [List.length_drop, List.length_take]; rfl)) ?_; (with_reducible refine (bound_both.calls a0_0 a0_1 a1_0 a1_1 true _ ?side1 A3.out).mono ?_); (case side1 => exact hG.below (by exact pbE HB.out)); rintro e w11 ⟨rfl, hb⟩; refine ⟨_, rfl, ?_⟩; replace BK234 := Az.mk (bkB (bk BK234.out) hb); replace BK235 := Az.mk (bkB (bk BK235.out) hb); replace HB := Az.mk (pbT (by exact pbE HB.out) hb); (try clear hb); (try clear hb2); (try clear hk); (try clear hi); have hcz12 := cells2 BK234.out))
   go_ret
   exact ⟨by first | rfl | (simp [errW_none, errW_some] <;> rfl) | (simp [*, errW_none, errW_some] <;> rfl), by exact pbE HB.out⟩
  ·rw [if_neg c5] at H
   have c5b0 : (a0_1.toList == ([] : List UInt8)) = false := beq_eq_false_iff_ne.mpr c5
   have c5b1 : (a0_1.toList != ([] : List UInt8)) = true := bne_iff_ne.mpr c5
   obtain rfl := Option.some.inj H
   go_enter Tryz.func62, Tryz.ntmps62
   go_wp2_with (first | ((with_reducible refine gate_dst (N := 2) rfl ?_); refine box_event ?hg (N := 2) ?hd (cs := #[.string a0_0, .string a0_1]) (t := 23) ?hr ?_; (case hd => rfl); (case hg => rfl); (case hr => first | (go_simp; done) | (go_simp; rfl)); intro gb234 hg w13 hbox hb; have BK234 := Az.mk (hbox); have GW234 := Az.mk (geO hg (pbE HB.out)); have GE234 := Az.mk (geO hg (pbE HB.out)); replace HB := Az.mk (pbT (by exact pbE HB.out) hb); clear hb hbox hg) | ((with_reducible refine gate_dst (N := 3) rfl ?_); refine box_event ?hg (N := 3) ?hd (cs := #[.string a1_0, .string a1_1]) (t := 23) ?hr ?_; (case hd => rfl); (case hg => rfl); (case hr => first | (go_simp; done) | (go_simp; rfl)); intro gb235 hg w14 hbox hb; have BK235 := Az.mk (hbox); have GW235 := Az.mk (geO hg (pbE HB.out)); have GE235 := Az.mk (geO hg (pbE HB.out)); replace HB := Az.mk (pbT (by exact pbE HB.out) hb); have NB234_235 := Az.mk (neO hg (bk BK234.out)); have NB235_234 := Az.mk (neP hg (bk BK234.out)); replace BK234 := Az.mk (bkB (bk BK234.out) hb); clear hb hbox hg; have hnb15 := NB234_235.out; have hnc15 := NB235_234.out; have hcz16 := cells2 BK234.out; have hcz17 := cells2 BK235.out) | ((with_reducible refine gtc (f := 67) rfl ?_); refine goesL_ (some 7) rfl rfl Tryz.func67 (by kernel_rfl) rfl #[.agg #[.string a0_0, .string a0_1], .agg #[.string a1_0, .string a1_1]] rfl (by (try simp only [List.map_toArray, List.map_cons, List.map_nil]); first | done | rfl | (simp only [List.length_drop, List.length_take]; rfl)) ?_; (with_reducible refine (bound_both.calls a0_0 a0_1 a1_0 a1_1 true _ ?side1 A3.out).mono ?_); (case side1 => exact hG.below (by exact pbE HB.out)); rintro e w18 ⟨rfl, hb⟩; refine ⟨_, rfl, ?_⟩; replace BK234 := Az.mk (bkB (bk BK234.out) hb); replace BK235 := Az.mk (bkB (bk BK235.out) hb); replace HB := Az.mk (pbT (by exact pbE HB.out) hb); (try clear hb); (try clear hb2); (try clear hk); (try clear hi); have hcz19 := cells2 BK234.out; have hcz20 := cells2 BK235.out))
   go_ret
   exact ⟨by first | rfl | (simp [errW_none, errW_some] <;> rfl) | (simp [*, errW_none, errW_some] <;> rfl), by exact pbE HB.out⟩
 ·replace c4 := Bool.eq_false_iff.mpr c4
  subst c4
  rw [if_neg (show ¬ (false = true) by decide)] at H
  obtain rfl := Option.some.inj H
  go_enter Tryz.func62, Tryz.ntmps62
  go_wp2_with (first | ((with_reducible refine gate_dst (N := 2) rfl ?_); refine box_event ?hg (N := 2) ?hd (cs := #[.string a0_0, .string a0_1]) (t := 23) ?hr ?_; (case hd => rfl); (case hg => rfl); (case hr => first | (go_simp; done) | (go_simp; rfl)); intro gb234 hg w21 hbox hb; have BK234 := Az.mk (hbox); have GW234 := Az.mk (geO hg (pbE HB.out)); have GE234 := Az.mk (geO hg (pbE HB.out)); replace HB := Az.mk (pbT (by exact pbE HB.out) hb); clear hb hbox hg) | ((with_reducible refine gate_dst (N := 3) rfl ?_); refine box_event ?hg (N := 3) ?hd (cs := #[.string a1_0, .string a1_1]) (t := 23) ?hr ?_; (case hd => rfl); (case hg => rfl); (case hr => first | (go_simp; done) | (go_simp; rfl)); intro gb235 hg w22 hbox hb; have BK235 := Az.mk (hbox); have GW235 := Az.mk (geO hg (pbE HB.out)); have GE235 := Az.mk (geO hg (pbE HB.out)); replace HB := Az.mk (pbT (by exact pbE HB.out) hb); have NB234_235 := Az.mk (neO hg (bk BK234.out)); have NB235_234 := Az.mk (neP hg (bk BK234.out)); replace BK234 := Az.mk (bkB (bk BK234.out) hb); clear hb hbox hg; have hnb23 := NB234_235.out; have hnc23 := NB235_234.out; have hcz24 := cells2 BK234.out; have hcz25 := cells2 BK235.out) | ((with_reducible refine gtc (f := 67) rfl ?_); refine goesL_ (some 7) rfl rfl Tryz.func67 (by kernel_rfl) rfl #[.agg #[.string a0_0, .string a0_1], .agg #[.string a1_0, .string a1_1]] rfl (by (try simp only [List.map_toArray, List.map_cons, List.map_nil]); first | done | rfl | (simp only [List.length_drop, List.length_take]; rfl)) ?_; (with_reducible refine (bound_both.calls a0_0 a0_1 a1_0 a1_1 false _ ?side1 A3.out).mono ?_); (case side1 => exact hG.below (by exact pbE HB.out)); rintro e w26 ⟨rfl, hb⟩; refine ⟨_, rfl, ?_⟩; replace BK234 := Az.mk (bkB (bk BK234.out) hb); replace BK235 := Az.mk (bkB (bk BK235.out) hb); replace HB := Az.mk (pbT (by exact pbE HB.out) hb); (try clear hb); (try clear hb2); (try clear hk); (try clear hi)))
  go_ret
  exact ⟨by first | rfl | (simp [errW_none, errW_some] <;> rfl) | (simp [*, errW_none, errW_some] <;> rfl), by exact pbE HB.out⟩
def bound_Join.f (a0_0 : ByteArray) (a0_1 : ByteArray) (a1_0 : ByteArray) (a1_1 : ByteArray) : Option (ByteArray × ByteArray × Int) := (bound_Next.f a0_0 a0_1 a1_0 a1_1).bind fun t240 => (if t240 = true then (some (a0_0, a1_1, 0)) else (some ((⟨#[]⟩ : ByteArray), (⟨#[]⟩ : ByteArray), 20)))
set_option maxHeartbeats 8000000 in
set_option maxRecDepth 100000 in
theorem bound_Join.calls (a0_0 : ByteArray) (a0_1 : ByteArray) (a1_0 : ByteArray) (a1_1 : ByteArray) (r1 : ByteArray) (r2 : ByteArray) (r3 : Int) (w : World) (hG : TheG w) (h : bound_Join.f a0_0 a0_1 a1_0 a1_1 = some (r1, r2, r3)) :
 Calls Tryz.prog 48 #[.agg #[.string a0_0, .string a0_1], .agg #[.string a1_0, .string a1_1]] w fun e w' => e = .returned (.tuple #[.agg #[.string r1, .string r2], .int .i64 r3]) ∧ Below w.heap.size w w' := by
 have hu23 := Tryz.underlying23
 have HB := Az.mk (Below.refl w.heap.size w)
 have H : ((bound_Next.f a0_0 a0_1 a1_0 a1_1).bind fun t240 => (if t240 = true then (some (a0_0, a1_1, 0)) else (some ((⟨#[]⟩ : ByteArray), (⟨#[]⟩ : ByteArray), 20)))) = some (r1, r2, r3) := h
 clear h
 replace H := Option.bind_eq_some_iff.mp H
 obtain ⟨t240, A30, H⟩ := H
 try dsimp only at H
 have A3 := Az.mk A30
 clear A30
 by_cases c4 : t240 = true
 ·subst c4
  rw [if_pos rfl] at H
  simp only [Option.some.injEq, Prod.mk.injEq] at H
  obtain ⟨rfl, rfl, rfl⟩ := H
  go_enter Tryz.func48, Tryz.ntmps48
  go_wp2_with (first | ((with_reducible refine gate_dst (N := 2) rfl ?_); refine box_event ?hg (N := 2) ?hd (cs := #[.string a0_0, .string a0_1]) (t := 23) ?hr ?_; (case hd => rfl); (case hg => rfl); (case hr => first | (go_simp; done) | (go_simp; rfl)); intro gb237 hg w5 hbox hb; have BK237 := Az.mk (hbox); have GW237 := Az.mk (geO hg (pbE HB.out)); have GE237 := Az.mk (geO hg (pbE HB.out)); replace HB := Az.mk (pbT (by exact pbE HB.out) hb); clear hb hbox hg) | ((with_reducible refine gate_dst (N := 3) rfl ?_); refine box_event ?hg (N := 3) ?hd (cs := #[.string a1_0, .string a1_1]) (t := 23) ?hr ?_; (case hd => rfl); (case hg => rfl); (case hr => first | (go_simp; done) | (go_simp; rfl)); intro gb238 hg w6 hbox hb; have BK238 := Az.mk (hbox); have GW238 := Az.mk (geO hg (pbE HB.out)); have GE238 := Az.mk (geO hg (pbE HB.out)); replace HB := Az.mk (pbT (by exact pbE HB.out) hb); have NB237_238 := Az.mk (neO hg (bk BK237.out)); have NB238_237 := Az.mk (neP hg (bk BK237.out)); replace BK237 := Az.mk (bkB (bk BK237.out) hb); clear hb hbox hg) | ((with_reducible refine gate_dst (N := 4) rfl ?_); refine box_event ?hg (N := 4) ?hd (cs := #[.string (⟨#[]⟩ : ByteArray), .string (⟨#[]⟩ : ByteArray)]) (t := 23) ?hr ?_; (case hd => rfl); (case hg => rfl); (case hr => first | (go_simp; done) | (go_simp; rfl)); intro gb239 hg w7 hbox hb; have BK239 := Az.mk (hbox); have GW239 := Az.mk (geO hg (pbE HB.out)); have GE239 := Az.mk (geO hg (pbE HB.out)); replace HB := Az.mk (pbT (by exact pbE HB.out) hb); have NB237_239 := Az.mk (neO hg (bk BK237.out)); have NB239_237 := Az.mk (neP hg (bk BK237.out)); replace BK237 := Az.mk (bkB (bk BK237.out) hb); have NB238_239 := Az.mk (neO hg (bk BK238.out)); have NB239_238 := Az.mk (neP hg (bk BK238.out)); replace BK238 := Az.mk (bkB (bk BK238.out) hb); clear hb hbox hg; have hnb8 := NB237_238.out; have hnc8 := NB238_237.out; have hnb9 := NB237_239.out; have hnc9 := NB239_237.out; have hcz10 := cells2 BK237.out; have hnb11 := NB238_239.out; have hnc11 := NB239_238.out; have hcz12 := cells2 BK238.out) | ((with_reducible refine gtc (f := 62) rfl ?_); refine goesL_ (some 8) rfl rfl Tryz.func62 (by kernel_rfl) rfl #[.agg #[.string a0_0, .string a0_1], .agg #[.string a1_0, .string a1_1]] rfl (by (try simp only [List.map_toArray, List.map_cons, List.map_nil]); first | done | rfl | (simp only [List.length_drop, List.length_take]; rfl)) ?_; (with_reducible refine (bound_Next.calls a0_0 a0_1 a1_0 a1_1 true _ ?side1 A3.out).mono ?_); (case side1 => exact hG.below (by exact pbE HB.out)); rintro e w13 ⟨rfl, hb⟩; refine ⟨_, rfl, ?_⟩; replace BK237 := Az.mk (bkB (bk BK237.out) hb); replace BK238 := Az.mk (bkB (bk BK238.out) hb); replace BK239 := Az.mk (bkB (bk BK239.out) hb); replace HB := Az.mk (pbT (by exact pbE HB.out) hb); (try clear hb); (try clear hb2); (try clear hk); (try clear hi); have hcz14 := cells2 BK237.out; have hcz15 := cells2 BK238.out; have hcz16 := cells2 BK239.out))
  refine bodyPost_ret (results_ct rfl _ _ gb239 23 #[.string a0_0, .string a1_1] (0, 0) _ rfl (by refine bk ?_; refine blk_put (cs := #[.string a0_0, .string (⟨#[]⟩ : ByteArray)]) ?_ 1 _ rfl; refine bk ?_; refine blk_put (cs := #[.string (⟨#[]⟩ : ByteArray), .string (⟨#[]⟩ : ByteArray)]) ?_ 0 _ rfl; refine bk ?_; exact BK239.out) Tryz.underlying23 rfl (by kernel_rfl)) rfl ?_
  exact ⟨by first | rfl | (simp [errW_none, errW_some] <;> rfl) | (simp [*, errW_none, errW_some] <;> rfl), by exact pbE HB.out⟩
 ·replace c4 := Bool.eq_false_iff.mpr c4
  subst c4
  rw [if_neg (show ¬ (false = true) by decide)] at H
  simp only [Option.some.injEq, Prod.mk.injEq] at H
  obtain ⟨rfl, rfl, rfl⟩ := H
  go_enter Tryz.func48, Tryz.ntmps48
  go_wp2_with (first | ((with_reducible refine gate_dst (N := 2) rfl ?_); refine box_event ?hg (N := 2) ?hd (cs := #[.string a0_0, .string a0_1]) (t := 23) ?hr ?_; (case hd => rfl); (case hg => rfl); (case hr => first | (go_simp; done) | (go_simp; rfl)); intro gb237 hg w17 hbox hb; have BK237 := Az.mk (hbox); have GW237 := Az.mk (geO hg (pbE HB.out)); have GE237 := Az.mk (geO hg (pbE HB.out)); replace HB := Az.mk (pbT (by exact pbE HB.out) hb); clear hb hbox hg) | ((with_reducible refine gate_dst (N := 3) rfl ?_); refine box_event ?hg (N := 3) ?hd (cs := #[.string a1_0, .string a1_1]) (t := 23) ?hr ?_; (case hd => rfl); (case hg => rfl); (case hr => first | (go_simp; done) | (go_simp; rfl)); intro gb238 hg w18 hbox hb; have BK238 := Az.mk (hbox); have GW238 := Az.mk (geO hg (pbE HB.out)); have GE238 := Az.mk (geO hg (pbE HB.out)); replace HB := Az.mk (pbT (by exact pbE HB.out) hb); have NB237_238 := Az.mk (neO hg (bk BK237.out)); have NB238_237 := Az.mk (neP hg (bk BK237.out)); replace BK237 := Az.mk (bkB (bk BK237.out) hb); clear hb hbox hg) | ((with_reducible refine gate_dst (N := 4) rfl ?_); refine box_event ?hg (N := 4) ?hd (cs := #[.string (⟨#[]⟩ : ByteArray), .string (⟨#[]⟩ : ByteArray)]) (t := 23) ?hr ?_; (case hd => rfl); (case hg => rfl); (case hr => first | (go_simp; done) | (go_simp; rfl)); intro gb239 hg w19 hbox hb; have BK239 := Az.mk (hbox); have GW239 := Az.mk (geO hg (pbE HB.out)); have GE239 := Az.mk (geO hg (pbE HB.out)); replace HB := Az.mk (pbT (by exact pbE HB.out) hb); have NB237_239 := Az.mk (neO hg (bk BK237.out)); have NB239_237 := Az.mk (neP hg (bk BK237.out)); replace BK237 := Az.mk (bkB (bk BK237.out) hb); have NB238_239 := Az.mk (neO hg (bk BK238.out)); have NB239_238 := Az.mk (neP hg (bk BK238.out)); replace BK238 := Az.mk (bkB (bk BK238.out) hb); clear hb hbox hg; have hnb20 := NB237_238.out; have hnc20 := NB238_237.out; have hnb21 := NB237_239.out; have hnc21 := NB239_237.out; have hcz22 := cells2 BK237.out; have hnb23 := NB238_239.out; have hnc23 := NB239_238.out; have hcz24 := cells2 BK238.out) | ((with_reducible refine gtc (f := 62) rfl ?_); refine goesL_ (some 8) rfl rfl Tryz.func62 (by kernel_rfl) rfl #[.agg #[.string a0_0, .string a0_1], .agg #[.string a1_0, .string a1_1]] rfl (by (try simp only [List.map_toArray, List.map_cons, List.map_nil]); first | done | rfl | (simp only [List.length_drop, List.length_take]; rfl)) ?_; (with_reducible refine (bound_Next.calls a0_0 a0_1 a1_0 a1_1 false _ ?side1 A3.out).mono ?_); (case side1 => exact hG.below (by exact pbE HB.out)); rintro e w25 ⟨rfl, hb⟩; refine ⟨_, rfl, ?_⟩; replace BK237 := Az.mk (bkB (bk BK237.out) hb); replace BK238 := Az.mk (bkB (bk BK238.out) hb); replace BK239 := Az.mk (bkB (bk BK239.out) hb); replace HB := Az.mk (pbT (by exact pbE HB.out) hb); (try clear hb); (try clear hb2); (try clear hk); (try clear hi); have hcz26 := cells2 BK239.out))
  refine bodyPost_ret (results_ct rfl _ _ gb239 23 #[.string (⟨#[]⟩ : ByteArray), .string (⟨#[]⟩ : ByteArray)] (0, 0) _ rfl (by refine bk ?_; refine blk_put (cs := #[.string (⟨#[]⟩ : ByteArray), .string (⟨#[]⟩ : ByteArray)]) ?_ 1 _ rfl; refine bk ?_; refine blk_put (cs := #[.string (⟨#[]⟩ : ByteArray), .string (⟨#[]⟩ : ByteArray)]) ?_ 0 _ rfl; refine bk ?_; exact BK239.out) Tryz.underlying23 rfl (by kernel_rfl)) rfl ?_
  exact ⟨by first | rfl | (simp [errW_none, errW_some] <;> rfl) | (simp [*, errW_none, errW_some] <;> rfl), by exact pbE HB.out⟩
def desc_Merge.j0 : Nat → Bool → Int → ByteArray → ByteArray → Int → List (S30) → Int → Int → ByteArray → ByteArray → Int → List (S30) → Int → Option (Int × ByteArray × ByteArray × Int × (List (S30)) × Int × Int)
 | 0, _, _, _, _, _, _, _, _, _, _, _, _, _ => none
 | k + 1, x15, x242000, x242001, x242002, x242003, x242004, x242005, x243000, x243001, x243002, x243003, x243004, x243005 => if x15 = true then (some (0, (⟨#[]⟩ : ByteArray), (⟨#[]⟩ : ByteArray), 0, ([] : List (S30)), 0, 60)) else ((bound_Join.f x242001 x242002 x243001 x243002).bind fun bt246 => (if bt246.2.2 = 0 then (if x242000 = x243000 then (some (0, (⟨#[]⟩ : ByteArray), (⟨#[]⟩ : ByteArray), 0, ([] : List (S30)), 0, 2)) else ((desc_right.f x242000 bt246.1 bt246.2.1 (wrap64 ((mx x242003 x243003) + 1)) x242004 x242005).bind fun bt250 => (some (bt250.1, bt250.2.1, bt250.2.2.1, bt250.2.2.2.1, bt250.2.2.2.2.1, bt250.2.2.2.2.2.1, bt250.2.2.2.2.2.2)))) else (some (0, (⟨#[]⟩ : ByteArray), (⟨#[]⟩ : ByteArray), 0, ([] : List (S30)), 0, bt246.2.2))))
def desc_Merge.f (k : Nat) (a0_0 : Int) (a0_1 : ByteArray) (a0_2 : ByteArray) (a0_3 : Int) (l0_4 : List (S30)) (a0_5 : Int) (a1_0 : Int) (a1_1 : ByteArray) (a1_2 : ByteArray) (a1_3 : Int) (l1_4 : List (S30)) (a1_5 : Int) : Option (Int × ByteArray × ByteArray × Int × (List (S30)) × Int × Int) := (desc_Check.f a0_0 a0_1 a0_2 a0_3 l0_4 a0_5).bind fun t244 => (if t244 = 0 then ((desc_Check.f a1_0 a1_1 a1_2 a1_3 l1_4 a1_5).bind fun t245 => (desc_Merge.j0 k (t245 != 0) a0_0 a0_1 a0_2 a0_3 l0_4 a0_5 a1_0 a1_1 a1_2 a1_3 l1_4 a1_5)) else (desc_Merge.j0 k true a0_0 a0_1 a0_2 a0_3 l0_4 a0_5 a1_0 a1_1 a1_2 a1_3 l1_4 a1_5))
theorem desc_Merge.mono_l : ∀ k, (∀ y0 y1 y2 y3 y4 y5 y6 y7 y8 y9 y10 y11 y12, LeO (desc_Merge.j0 k y0 y1 y2 y3 y4 y5 y6 y7 y8 y9 y10 y11 y12) (desc_Merge.j0 (k + 1) y0 y1 y2 y3 y4 y5 y6 y7 y8 y9 y10 y11 y12))
 | 0 => fun _ _ _ _ _ _ _ _ _ _ _ _ _ r h => by simp [desc_Merge.j0] at h
 | k + 1 => by
  have ih0 := desc_Merge.mono_l k
  ·intro y0 y1 y2 y3 y4 y5 y6 y7 y8 y9 y10 y11 y12
   unfold desc_Merge.j0
   repeat' first
   | (with_reducible exact ih0 _ _ _ _ _ _ _ _ _ _ _ _ _)
   | (with_reducible exact LeO.refl _)
   | (with_reducible exact LeO.none _)
   | (with_reducible refine LeO.ite ?_ ?_)
   | (with_reducible refine LeO.bind ?_ (fun _ => ?_))
   | exact ih0 _ _ _ _ _ _ _ _ _ _ _ _ _
   | exact LeO.none _
   | refine LeO.ite ?_ ?_
   | refine LeO.bind ?_ (fun _ => ?_)
theorem desc_Merge.mono : ∀ a0 a1 a2 a3 a4 a5 a6 a7 a8 a9 a10 a11 k, LeO (desc_Merge.f k a0 a1 a2 a3 a4 a5 a6 a7 a8 a9 a10 a11) (desc_Merge.f (k + 1) a0 a1 a2 a3 a4 a5 a6 a7 a8 a9 a10 a11) := by
 intro a0 a1 a2 a3 a4 a5 a6 a7 a8 a9 a10 a11 k
 have ih0 := desc_Merge.mono_l k
 unfold desc_Merge.f
 repeat' first
  | (with_reducible exact ih0 _ _ _ _ _ _ _ _ _ _ _ _ _)
  | (with_reducible exact LeO.refl _)
  | (with_reducible exact LeO.none _)
  | (with_reducible refine LeO.ite ?_ ?_)
  | (with_reducible refine LeO.bind ?_ (fun _ => ?_))
  | exact ih0 _ _ _ _ _ _ _ _ _ _ _ _ _
  | exact LeO.none _
  | refine LeO.ite ?_ ?_
  | refine LeO.bind ?_ (fun _ => ?_)
set_option maxHeartbeats 8000000 in
set_option maxRecDepth 100000 in
theorem desc_Merge.calls (k : Nat) (a0_0 : Int) (a0_1 : ByteArray) (a0_2 : ByteArray) (a0_3 : Int) (P0_4_ : Nat → Prop) (A0_4 : Option Addr) (c0_4 : Nat) (l0_4 : List (S30)) (a0_5 : Int) (a1_0 : Int) (a1_1 : ByteArray) (a1_2 : ByteArray) (a1_3 : Int) (A1_4 : Option Addr) (c1_4 : Nat) (l1_4 : List (S30)) (a1_5 : Int) (r1 : Int) (r2 : ByteArray) (r3 : ByteArray) (r4 : Int) (r5 : List (S30)) (r6 : Int) (r7 : Int) (w : World) (hG : TheG w) (hs0_4 : Kd.V k30 30 w w.heap.size (fun k_ => P0_4_ k_) (.slice A0_4 l0_4.length c0_4) l0_4) (hr1_4 : Kd.C k30 w A1_4 l1_4.length l1_4) (hc1_4 : l1_4.length ≤ c1_4) (h : desc_Merge.f k a0_0 a0_1 a0_2 a0_3 l0_4 a0_5 a1_0 a1_1 a1_2 a1_3 l1_4 a1_5 = some (r1, r2, r3, r4, r5, r6, r7)) :
 Calls Tryz.prog 22 #[.agg #[.int .i64 a0_0, .string a0_1, .string a0_2, .int .i64 a0_3, .slice A0_4 l0_4.length c0_4, .int .i64 a0_5], .agg #[.int .i64 a1_0, .string a1_1, .string a1_2, .int .i64 a1_3, .slice A1_4 l1_4.length c1_4, .int .i64 a1_5]] w fun e w' => ∃ v4_ : Value, e = .returned (.tuple #[.agg #[.int .i64 r1, .string r2, .string r3, .int .i64 r4, v4_, .int .i64 r6], .int .i64 r7]) ∧ Kd.V k30 30 w' w.heap.size (fun k_ => (P0_4_ k_ ∨ w.heap.size ≤ k_)) v4_ r5 ∧ Below w.heap.size w w' := by
 have hu26 := Tryz.underlying26
 have hu23 := Tryz.underlying23
 have HO0_4 := Az.mk (show Kd.V k30 30 w w.heap.size (fun k_ => (P0_4_ k_ ∨ w.heap.size ≤ k_)) (.slice A0_4 l0_4.length c0_4) l0_4 from Kd.V_mono hs0_4 (fun k_ hk => .inl hk))
 have HR1_4 := Az.mk hr1_4
 have HC1_4 := Az.mk hc1_4
 clear hr1_4 hc1_4
 have HB := Az.mk (Below.refl w.heap.size w)
 have H : ((desc_Check.f a0_0 a0_1 a0_2 a0_3 l0_4 a0_5).bind fun t244 => (if t244 = 0 then ((desc_Check.f a1_0 a1_1 a1_2 a1_3 l1_4 a1_5).bind fun t245 => (desc_Merge.j0 k (t245 != 0) a0_0 a0_1 a0_2 a0_3 l0_4 a0_5 a1_0 a1_1 a1_2 a1_3 l1_4 a1_5)) else (desc_Merge.j0 k true a0_0 a0_1 a0_2 a0_3 l0_4 a0_5 a1_0 a1_1 a1_2 a1_3 l1_4 a1_5))) = some (r1, r2, r3, r4, r5, r6, r7) := h
 clear h
 have HC3 := Az.mk H
 clear H
 go_enter Tryz.func22, Tryz.ntmps22
 go_upto_region 1 with (first | ((with_reducible refine gate_dst (N := 2) rfl ?_); refine box_event ?hg (N := 2) ?hd (cs := #[.int .i64 a0_0, .string a0_1, .string a0_2, .int .i64 a0_3, .slice A0_4 l0_4.length c0_4, .int .i64 a0_5]) (t := 26) ?hr ?_; (case hd => rfl); (case hg => rfl); (case hr => first | (go_simp; done) | (go_simp; rfl)); intro gb241 hg w4 hbox hb; replace HO0_4 := Az.mk (Kd.V_below (Kd.V_elderB (Kd.V_ext HO0_4.out) gb241 (Nat.le_of_eq hg.symm)) hb); have BK241 := Az.mk (hbox); have GW241 := Az.mk (geO hg (pbE HB.out)); have GE241 := Az.mk (geO hg (pbE HB.out)); replace HB := Az.mk (pbT (by exact pbE HB.out) hb); clear hb hbox hg) | ((with_reducible refine gate_dst (N := 3) rfl ?_); refine box_event ?hg (N := 3) ?hd (cs := #[.int .i64 a1_0, .string a1_1, .string a1_2, .int .i64 a1_3, .slice A1_4 l1_4.length c1_4, .int .i64 a1_5]) (t := 26) ?hr ?_; (case hd => rfl); (case hg => rfl); (case hr => first | (go_simp; done) | (go_simp; rfl)); intro gb242 hg w5 hbox hb; replace HO0_4 := Az.mk (Kd.V_below (Kd.V_elderB (Kd.V_ext HO0_4.out) gb242 (Nat.le_of_eq hg.symm)) hb); have BK242 := Az.mk (hbox); have GW242 := Az.mk (geO hg (pbE HB.out)); have GE242 := Az.mk (geO hg (pbE HB.out)); replace HB := Az.mk (pbT (by exact pbE HB.out) hb); have NB241_242 := Az.mk (neO hg (bk BK241.out)); have NB242_241 := Az.mk (neP hg (bk BK241.out)); replace BK241 := Az.mk (bkB (bk BK241.out) hb); clear hb hbox hg) | ((with_reducible refine gate_dst (N := 4) rfl ?_); refine box_event ?hg (N := 4) ?hd (cs := #[.int .i64 0, .string (⟨#[]⟩ : ByteArray), .string (⟨#[]⟩ : ByteArray), .int .i64 0, .slice none 0 0, .int .i64 0]) (t := 26) ?hr ?_; (case hd => rfl); (case hg => rfl); (case hr => first | (go_simp; done) | (go_simp; rfl)); intro gb243 hg w6 hbox hb; replace HO0_4 := Az.mk (Kd.V_below (Kd.V_elderB (Kd.V_ext HO0_4.out) gb243 (Nat.le_of_eq hg.symm)) hb); have BK243 := Az.mk (hbox); have GW243 := Az.mk (geO hg (pbE HB.out)); have GE243 := Az.mk (geO hg (pbE HB.out)); replace HB := Az.mk (pbT (by exact pbE HB.out) hb); have NB241_243 := Az.mk (neO hg (bk BK241.out)); have NB243_241 := Az.mk (neP hg (bk BK241.out)); replace BK241 := Az.mk (bkB (bk BK241.out) hb); have NB242_243 := Az.mk (neO hg (bk BK242.out)); have NB243_242 := Az.mk (neP hg (bk BK242.out)); replace BK242 := Az.mk (bkB (bk BK242.out) hb); clear hb hbox hg))
 (try simp only [Act.put, List.setIfInBounds_toArray, List.set_cons_zero, List.set_cons_succ])
 go_cut [15] (fun v15 wc => ∃ (kq : Nat) (x15_2 : Bool), v15 = .bool x15_2 ∧ Az (desc_Merge.j0 kq x15_2 a0_0 a0_1 a0_2 a0_3 l0_4 a0_5 a1_0 a1_1 a1_2 a1_3 l1_4 a1_5 = some (r1, r2, r3, r4, r5, r6, r7)) ∧ Az (kq ≤ k) ∧ Az (Kd.V k30 30 wc w.heap.size (fun k_ => (P0_4_ k_ ∨ w.heap.size ≤ k_) ∧ k_ ≠ gb241 ∧ k_ ≠ gb242 ∧ k_ ≠ gb243) (.slice A0_4 l0_4.length c0_4) l0_4) ∧ Az (wc.heap[gb241]? = some (.cells #[.int .i64 a0_0, .string a0_1, .string a0_2, .int .i64 a0_3, (.slice A0_4 l0_4.length c0_4), .int .i64 a0_5] 26 (0, 0))) ∧ Az (wc.heap[gb242]? = some (.cells #[.int .i64 a1_0, .string a1_1, .string a1_2, .int .i64 a1_3, (.slice A1_4 l1_4.length c1_4), .int .i64 a1_5] 26 (0, 0))) ∧ Az (wc.heap[gb243]? = some (.cells #[.int .i64 0, .string (⟨#[]⟩ : ByteArray), .string (⟨#[]⟩ : ByteArray), .int .i64 0, (.slice none 0 0), .int .i64 0] 26 (0, 0))) ∧ Az (Below w.heap.size w wc))
 case first =>
  have H := HC3.out
  clear HC3
  replace H := Option.bind_eq_some_iff.mp H
  obtain ⟨t244, A70, H⟩ := H
  try dsimp only at H
  have A7 := Az.mk A70
  clear A70
  by_cases c8 : t244 = 0
  ·rw [if_pos c8] at H
   have c8b0 : (t244 == 0) = true := beq_iff_eq.mpr c8
   have c8b1 : (t244 != 0) = false := bne_eq_false_iff_eq.mpr c8
   clear c8
   (first | rw [c8b0] | (simp only [i64_w, i32_w]; rw [c8b0]) | skip)
   replace H := Option.bind_eq_some_iff.mp H
   obtain ⟨t245, A90, H⟩ := H
   try dsimp only at H
   have A9 := Az.mk A90
   clear A90
   have H' := Az.mk H
   clear H
   have hnb10 := NB241_242.out
   have hnc10 := NB242_241.out
   have hnb11 := NB241_243.out
   have hnc11 := NB243_241.out
   have hcz12 := cells6 BK241.out
   go_wp2_with (first | ((with_reducible refine gtc (f := 13) rfl ?_); refine goesL_ (some 9) rfl rfl Tryz.func13 (by kernel_rfl) rfl #[.agg #[.int .i64 a0_0, .string a0_1, .string a0_2, .int .i64 a0_3, .slice A0_4 l0_4.length c0_4, .int .i64 a0_5]] rfl (by (try simp only [List.map_toArray, List.map_cons, List.map_nil]); first | done | rfl | (simp only [List.length_drop, List.length_take]; rfl)) ?_; (with_reducible refine (desc_Check.calls a0_0 a0_1 a0_2 a0_3 _ _ l0_4 a0_5 t244 _ ?side1 ?side2 ?side3 A7.out).mono ?_); (case side1 => exact hG.below (by exact pbE HB.out)); (case side2 => repeat (first | exact (Kd.V_reads' HO0_4.out).2.2 | (with_reducible refine Kd.C_alloc ?_ _) | (with_reducible refine Kd.C_drewN ?_ _) | (with_reducible refine Kd.C_drew ?_))); (case side3 => exact (Kd.V_reads' HO0_4.out).2.1); rintro e w13 ⟨rfl, hb⟩; refine ⟨_, rfl, ?_⟩; replace HO0_4 := Az.mk (Kd.V_below (Kd.V_ext HO0_4.out) hb); replace BK241 := Az.mk (bkB (bk BK241.out) hb); replace BK242 := Az.mk (bkB (bk BK242.out) hb); replace BK243 := Az.mk (bkB (bk BK243.out) hb); replace HB := Az.mk (pbT (by exact pbE HB.out) hb); (try clear hb); (try clear hb2); (try clear hk); (try clear hi); have hnb14 := NB242_243.out; have hnc14 := NB243_242.out; have hcz15 := cells6 BK242.out) | (go_at_call 13; (with_reducible refine (desc_Check.calls a1_0 a1_1 a1_2 a1_3 _ _ l1_4 a1_5 t245 _ ?side1 ?side2 ?side3 A9.out).mono ?_); (case side1 => exact hG.below (by exact pbE HB.out)); (case side2 => repeat (first | exact (Kd.C_below HR1_4.out HB.out) | (with_reducible refine Kd.C_alloc ?_ _) | (with_reducible refine Kd.C_drewN ?_ _) | (with_reducible refine Kd.C_drew ?_))); (case side3 => exact HC1_4.out); rintro e w16 ⟨rfl, hb⟩; replace HO0_4 := Az.mk (Kd.V_below (Kd.V_ext HO0_4.out) hb); replace BK241 := Az.mk (bkB (bk BK241.out) hb); replace BK242 := Az.mk (bkB (bk BK242.out) hb); replace BK243 := Az.mk (bkB (bk BK243.out) hb); replace HB := Az.mk (pbT (by exact pbE HB.out) hb); (try clear hb); (try clear hb2); (try clear hk); (try clear hi)))
   repeat (go_region; try go_wp2_with (fail))
   go_meet
   case rel => exact ⟨_, ((t245 != 0)), (by first | rfl | (simp; done) | (simp [*]; done)), H', ⟨by first | omega | exact Nat.le_refl _⟩, ⟨by (with_reducible repeat (first | apply Kd.V_alloc | apply Kd.V_drewN | apply Kd.V_drew)); exact Kd.V_mono HO0_4.out (fun _ hk => ⟨hk.1.1.1, ⟨hk.1.1.2, ⟨hk.1.2, hk.2⟩⟩⟩)⟩, ⟨by refine bk ?_; exact BK241.out⟩, ⟨by refine bk ?_; exact BK242.out⟩, ⟨by refine bk ?_; exact BK243.out⟩, ⟨by exact pbE HB.out⟩⟩
  ·rw [if_neg c8] at H
   have c8b0 : (t244 == 0) = false := beq_eq_false_iff_ne.mpr c8
   have c8b1 : (t244 != 0) = true := bne_iff_ne.mpr c8
   (first | rw [c8b0] | (simp only [i64_w, i32_w]; rw [c8b0]) | skip)
   have H' := Az.mk H
   clear H
   have hnb17 := NB241_242.out
   have hnc17 := NB242_241.out
   have hnb18 := NB241_243.out
   have hnc18 := NB243_241.out
   have hcz19 := cells6 BK241.out
   go_wp2_with ((with_reducible refine gtc (f := 13) rfl ?_); refine goesL_ (some 9) rfl rfl Tryz.func13 (by kernel_rfl) rfl #[.agg #[.int .i64 a0_0, .string a0_1, .string a0_2, .int .i64 a0_3, .slice A0_4 l0_4.length c0_4, .int .i64 a0_5]] rfl (by (try simp only [List.map_toArray, List.map_cons, List.map_nil]); first | done | rfl | (simp only [List.length_drop, List.length_take]; rfl)) ?_; (with_reducible refine (desc_Check.calls a0_0 a0_1 a0_2 a0_3 _ _ l0_4 a0_5 t244 _ ?side1 ?side2 ?side3 A7.out).mono ?_); (case side1 => exact hG.below (by exact pbE HB.out)); (case side2 => repeat (first | exact (Kd.V_reads' HO0_4.out).2.2 | (with_reducible refine Kd.C_alloc ?_ _) | (with_reducible refine Kd.C_drewN ?_ _) | (with_reducible refine Kd.C_drew ?_))); (case side3 => exact (Kd.V_reads' HO0_4.out).2.1); rintro e w20 ⟨rfl, hb⟩; refine ⟨_, rfl, ?_⟩; replace HO0_4 := Az.mk (Kd.V_below (Kd.V_ext HO0_4.out) hb); replace BK241 := Az.mk (bkB (bk BK241.out) hb); replace BK242 := Az.mk (bkB (bk BK242.out) hb); replace BK243 := Az.mk (bkB (bk BK243.out) hb); replace HB := Az.mk (pbT (by exact pbE HB.out) hb); (try clear hb); (try clear hb2); (try clear hk); (try clear hi))
   repeat (go_region; try go_wp2_with (fail))
   go_meet
   case rel => exact ⟨_, (true), (by first | rfl | (simp; done) | (simp [*]; done)), H', ⟨by first | omega | exact Nat.le_refl _⟩, ⟨by (with_reducible repeat (first | apply Kd.V_alloc | apply Kd.V_drewN | apply Kd.V_drew)); exact Kd.V_mono HO0_4.out (fun _ hk => ⟨hk.1.1.1, ⟨hk.1.1.2, ⟨hk.1.2, hk.2⟩⟩⟩)⟩, ⟨by refine bk ?_; exact BK241.out⟩, ⟨by refine bk ?_; exact BK242.out⟩, ⟨by refine bk ?_; exact BK243.out⟩, ⟨by exact pbE HB.out⟩⟩
 case rest =>
  clear HC3
  try clear c1
  try clear c2
  try clear p2
  try clear c8
  try clear c8b0
  try clear c8b1
  try clear c10
  try clear c11
  try clear c13
  try clear c14
  try clear c17
  try clear c18
  try clear hcz12
  try clear hcz15
  try clear hcz19
  obtain ⟨kq, x15_2, rfl, HA, HJ2, HO_242004, BK241, BK242, BK243, HB⟩ := hcut
  cases kq with
  | zero => exact absurd HA.out (by simp [desc_Merge.j0])
  | succ kj2 =>
   have H := HA.out
   clear HA
   simp only [desc_Merge.j0] at H
   by_cases c21 : x15_2 = true
   ·subst c21
    rw [if_pos rfl] at H
    simp only [Option.some.injEq, Prod.mk.injEq] at H
    obtain ⟨rfl, rfl, rfl, rfl, rfl, rfl, rfl⟩ := H
    have hnb22 := NB243_241.out
    have hnc22 := NB241_243.out
    have hnb23 := NB243_242.out
    have hnc23 := NB242_243.out
    have hcz24 := cells6 BK243.out
    go_wp2
    repeat (go_region; try go_wp2)
    refine bodyPost_ret (results_ct rfl _ _ gb243 26 #[.int .i64 0, .string (⟨#[]⟩ : ByteArray), .string (⟨#[]⟩ : ByteArray), .int .i64 0, .slice none 0 0, .int .i64 0] (0, 0) _ rfl (by refine bk ?_; refine blk_put (cs := #[.int .i64 0, .string (⟨#[]⟩ : ByteArray), .string (⟨#[]⟩ : ByteArray), .int .i64 0, .slice none 0 0, .int .i64 0]) ?_ 5 _ rfl; refine bk ?_; refine blk_put (cs := #[.int .i64 0, .string (⟨#[]⟩ : ByteArray), .string (⟨#[]⟩ : ByteArray), .int .i64 0, .slice none 0 0, .int .i64 0]) ?_ 4 _ rfl; refine bk ?_; refine blk_put (cs := #[.int .i64 0, .string (⟨#[]⟩ : ByteArray), .string (⟨#[]⟩ : ByteArray), .int .i64 0, .slice none 0 0, .int .i64 0]) ?_ 3 _ rfl; refine bk ?_; refine blk_put (cs := #[.int .i64 0, .string (⟨#[]⟩ : ByteArray), .string (⟨#[]⟩ : ByteArray), .int .i64 0, .slice none 0 0, .int .i64 0]) ?_ 2 _ rfl; refine bk ?_; refine blk_put (cs := #[.int .i64 0, .string (⟨#[]⟩ : ByteArray), .string (⟨#[]⟩ : ByteArray), .int .i64 0, .slice none 0 0, .int .i64 0]) ?_ 1 _ rfl; refine bk ?_; refine blk_put (cs := #[.int .i64 0, .string (⟨#[]⟩ : ByteArray), .string (⟨#[]⟩ : ByteArray), .int .i64 0, .slice none 0 0, .int .i64 0]) ?_ 0 _ rfl; refine bk ?_; exact BK243.out) Tryz.underlying26 rfl (by kernel_rfl)) rfl ?_
    exact ⟨_, by first | rfl | (simp [errW_none, errW_some] <;> rfl) | (simp [*, errW_none, errW_some] <;> rfl), Kd.V_nil _ _ _ _ _, by exact pbE HB.out⟩
   ·replace c21 := Bool.eq_false_iff.mpr c21
    subst c21
    rw [if_neg (show ¬ (false = true) by decide)] at H
    replace H := Option.bind_eq_some_iff.mp H
    obtain ⟨⟨t246, t247, t248⟩, A250, H⟩ := H
    try dsimp only at H
    have A25 := Az.mk A250
    clear A250
    by_cases c26 : t248 = 0
    ·rw [if_pos c26] at H
     have c26b0 : (t248 == 0) = true := beq_iff_eq.mpr c26
     have c26b1 : (t248 != 0) = false := bne_eq_false_iff_eq.mpr c26
     clear c26
     by_cases c27 : a0_0 = a1_0
     ·rw [if_pos c27] at H
      have c27b0 : (a0_0 == a1_0) = true := beq_iff_eq.mpr c27
      have c27b1 : (a0_0 != a1_0) = false := bne_eq_false_iff_eq.mpr c27
      clear c27
      simp only [Option.some.injEq, Prod.mk.injEq] at H
      obtain ⟨rfl, rfl, rfl, rfl, rfl, rfl, rfl⟩ := H
      have hnb28 := NB241_242.out
      have hnc28 := NB242_241.out
      have hnb29 := NB241_243.out
      have hnc29 := NB243_241.out
      have hcz30 := cells6 BK241.out
      have hnb31 := NB242_243.out
      have hnc31 := NB243_242.out
      have hcz32 := cells6 BK242.out
      go_wp2_with (first | ((with_reducible refine gtc (f := 48) rfl ?_); refine goesL_ (some 22) rfl rfl Tryz.func48 (by kernel_rfl) rfl #[.agg #[.string a0_1, .string a0_2], .agg #[.string a1_1, .string a1_2]] rfl (by (try simp only [List.map_toArray, List.map_cons, List.map_nil]); first | done | rfl | (simp only [List.length_drop, List.length_take]; rfl)) ?_; (with_reducible refine (bound_Join.calls a0_1 a0_2 a1_1 a1_2 t246 t247 t248 _ ?side1 A25.out).mono ?_); (case side1 => exact hG.below (by exact pbE HB.out)); rintro e w33 ⟨rfl, hb⟩; refine ⟨_, rfl, ?_⟩; replace HO_242004 := Az.mk (Kd.V_below (Kd.V_ext HO_242004.out) hb); replace BK241 := Az.mk (bkB (bk BK241.out) hb); replace BK242 := Az.mk (bkB (bk BK242.out) hb); replace BK243 := Az.mk (bkB (bk BK243.out) hb); replace HB := Az.mk (pbT (by exact pbE HB.out) hb); (try clear hb); (try clear hb2); (try clear hk); (try clear hi)) | ((with_reducible refine gate_dst (N := 6) rfl ?_); refine box_event ?hg (N := 6) ?hd (cs := #[.string (⟨#[]⟩ : ByteArray), .string (⟨#[]⟩ : ByteArray)]) (t := 23) ?hr ?_; (case hd => rfl); (case hg => rfl); (case hr => first | (go_simp; done) | (go_simp; rfl)); intro gb249 hg w34 hbox hb; replace HO_242004 := Az.mk (Kd.V_below (Kd.V_elderB (Kd.V_ext HO_242004.out) gb249 (Nat.le_of_eq hg.symm)) hb); have BK249 := Az.mk (hbox); have GW249 := Az.mk (geO hg (pbE HB.out)); have GE249 := Az.mk (geO hg (pbE HB.out)); replace HB := Az.mk (pbT (by exact pbE HB.out) hb); have NB241_249 := Az.mk (neO hg (bk BK241.out)); have NB249_241 := Az.mk (neP hg (bk BK241.out)); replace BK241 := Az.mk (bkB (bk BK241.out) hb); have NB242_249 := Az.mk (neO hg (bk BK242.out)); have NB249_242 := Az.mk (neP hg (bk BK242.out)); replace BK242 := Az.mk (bkB (bk BK242.out) hb); have NB243_249 := Az.mk (neO hg (bk BK243.out)); have NB249_243 := Az.mk (neP hg (bk BK243.out)); replace BK243 := Az.mk (bkB (bk BK243.out) hb); clear hb hbox hg; have hnb35 := NB249_241.out; have hnc35 := NB241_249.out; have hnb36 := NB249_242.out; have hnc36 := NB242_249.out; have hnb37 := NB249_243.out; have hnc37 := NB243_249.out; have hcz38 := cells2 BK249.out; have hcz39 := cells6 BK241.out; have hcz40 := cells6 BK242.out; have hcz41 := cells6 BK243.out))
      repeat (go_region; try go_wp2_with (fail))
      refine bodyPost_ret (results_ct rfl _ _ gb243 26 #[.int .i64 0, .string (⟨#[]⟩ : ByteArray), .string (⟨#[]⟩ : ByteArray), .int .i64 0, .slice none 0 0, .int .i64 0] (0, 0) _ rfl (by refine bk ?_; refine blk_put (cs := #[.int .i64 0, .string (⟨#[]⟩ : ByteArray), .string (⟨#[]⟩ : ByteArray), .int .i64 0, .slice none 0 0, .int .i64 0]) ?_ 5 _ rfl; refine bk ?_; refine blk_put (cs := #[.int .i64 0, .string (⟨#[]⟩ : ByteArray), .string (⟨#[]⟩ : ByteArray), .int .i64 0, .slice none 0 0, .int .i64 0]) ?_ 4 _ rfl; refine bk ?_; refine blk_put (cs := #[.int .i64 0, .string (⟨#[]⟩ : ByteArray), .string (⟨#[]⟩ : ByteArray), .int .i64 0, .slice none 0 0, .int .i64 0]) ?_ 3 _ rfl; refine bk ?_; refine blk_put (cs := #[.int .i64 0, .string (⟨#[]⟩ : ByteArray), .string (⟨#[]⟩ : ByteArray), .int .i64 0, .slice none 0 0, .int .i64 0]) ?_ 2 _ rfl; refine bk ?_; refine blk_put (cs := #[.int .i64 0, .string (⟨#[]⟩ : ByteArray), .string (⟨#[]⟩ : ByteArray), .int .i64 0, .slice none 0 0, .int .i64 0]) ?_ 1 _ rfl; refine bk ?_; refine blk_put (cs := #[.int .i64 0, .string (⟨#[]⟩ : ByteArray), .string (⟨#[]⟩ : ByteArray), .int .i64 0, .slice none 0 0, .int .i64 0]) ?_ 0 _ rfl; exact bf BK243.out) Tryz.underlying26 rfl (by kernel_rfl)) rfl ?_
      exact ⟨_, by first | rfl | (simp [errW_none, errW_some] <;> rfl) | (simp [*, errW_none, errW_some] <;> rfl), Kd.V_nil _ _ _ _ _, by exact pbE HB.out⟩
     ·rw [if_neg c27] at H
      have c27b0 : (a0_0 == a1_0) = false := beq_eq_false_iff_ne.mpr c27
      have c27b1 : (a0_0 != a1_0) = true := bne_iff_ne.mpr c27
      obtain ⟨ji42, hji42⟩ : ∃ j_ : Int, (mx a0_3 a1_3) = j_ := ⟨_, rfl⟩
      replace H : ((desc_right.f a0_0 t246 t247 (wrap64 ((ji42) + 1)) l0_4 a0_5).bind fun bt250 => (some (bt250.1, bt250.2.1, bt250.2.2.1, bt250.2.2.2.1, bt250.2.2.2.2.1, bt250.2.2.2.2.2.1, bt250.2.2.2.2.2.2))) = some (r1, r2, r3, r4, r5, r6, r7) := by first | (rw [hji42] at H; exact H) | (simp only [hji42] at H ⊢; exact H)
      (try rw [hji42] at A25)
      have hji42_ : (if a0_3 < a1_3 then a1_3 else a0_3) = ji42 := hji42
      replace H := Option.bind_eq_some_iff.mp H
      obtain ⟨⟨t250, t251, t252, t253, t254, t257, t258⟩, A430, H⟩ := H
      try dsimp only at H
      have A43 := Az.mk A430
      clear A430
      simp only [Option.some.injEq, Prod.mk.injEq] at H
      obtain ⟨rfl, rfl, rfl, rfl, rfl, rfl, rfl⟩ := H
      have hnb44 := NB241_242.out
      have hnc44 := NB242_241.out
      have hnb45 := NB241_243.out
      have hnc45 := NB243_241.out
      have hcz46 := cells6 BK241.out
      have hnb47 := NB242_243.out
      have hnc47 := NB243_242.out
      have hcz48 := cells6 BK242.out
      go_wp2_with (first | ((with_reducible refine gtc (f := 48) rfl ?_); refine goesL_ (some 22) rfl rfl Tryz.func48 (by kernel_rfl) rfl #[.agg #[.string a0_1, .string a0_2], .agg #[.string a1_1, .string a1_2]] rfl (by (try simp only [List.map_toArray, List.map_cons, List.map_nil]); first | done | rfl | (simp only [List.length_drop, List.length_take]; rfl)) ?_; (with_reducible refine (bound_Join.calls a0_1 a0_2 a1_1 a1_2 t246 t247 t248 _ ?side1 A25.out).mono ?_); (case side1 => exact hG.below (by exact pbE HB.out)); rintro e w49 ⟨rfl, hb⟩; refine ⟨_, rfl, ?_⟩; replace HO_242004 := Az.mk (Kd.V_below (Kd.V_ext HO_242004.out) hb); replace BK241 := Az.mk (bkB (bk BK241.out) hb); replace BK242 := Az.mk (bkB (bk BK242.out) hb); replace BK243 := Az.mk (bkB (bk BK243.out) hb); replace HB := Az.mk (pbT (by exact pbE HB.out) hb); (try clear hb); (try clear hb2); (try clear hk); (try clear hi)) | ((with_reducible refine gate_dst (N := 6) rfl ?_); refine box_event ?hg (N := 6) ?hd (cs := #[.string (⟨#[]⟩ : ByteArray), .string (⟨#[]⟩ : ByteArray)]) (t := 23) ?hr ?_; (case hd => rfl); (case hg => rfl); (case hr => first | (go_simp; done) | (go_simp; rfl)); intro gb249 hg w50 hbox hb; replace HO_242004 := Az.mk (Kd.V_below (Kd.V_elderB (Kd.V_ext HO_242004.out) gb249 (Nat.le_of_eq hg.symm)) hb); have BK249 := Az.mk (hbox); have GW249 := Az.mk (geO hg (pbE HB.out)); have GE249 := Az.mk (geO hg (pbE HB.out)); replace HB := Az.mk (pbT (by exact pbE HB.out) hb); have NB241_249 := Az.mk (neO hg (bk BK241.out)); have NB249_241 := Az.mk (neP hg (bk BK241.out)); replace BK241 := Az.mk (bkB (bk BK241.out) hb); have NB242_249 := Az.mk (neO hg (bk BK242.out)); have NB249_242 := Az.mk (neP hg (bk BK242.out)); replace BK242 := Az.mk (bkB (bk BK242.out) hb); have NB243_249 := Az.mk (neO hg (bk BK243.out)); have NB249_243 := Az.mk (neP hg (bk BK243.out)); replace BK243 := Az.mk (bkB (bk BK243.out) hb); clear hb hbox hg; have hnb51 := NB249_241.out; have hnc51 := NB241_249.out; have hnb52 := NB249_242.out; have hnc52 := NB242_249.out; have hnb53 := NB249_243.out; have hnc53 := NB243_249.out; have hcz54 := cells2 BK249.out) | ((with_reducible refine gate_store (t := 23) (p := 6) rfl ?_); refine store_event (t := 23) (p := 6) (v := ?vo_w55) (w1 := ((w50.setCell ⟨gb249, 0, none⟩ (.string t246)).setCell ⟨gb249, 1, none⟩ (.string t247))) ?hg ?ho ?hn ?hr ?_; (case ho => rfl); (case hg => rfl); (case hn => rfl); (case hr => first | (go_simp; done) | (go_simp; rfl)); intro w55 hw; have n0_ : Az (Kd.V k30 30 w55 w.heap.size (fun k_ => (P0_4_ k_ ∨ w.heap.size ≤ k_) ∧ k_ ≠ gb241 ∧ k_ ≠ gb242 ∧ k_ ≠ gb243 ∧ k_ ≠ gb249) (.slice A0_4 l0_4.length c0_4) l0_4) := ⟨(by rw [hw]; exact (by (with_reducible repeat (first | apply Kd.V_alloc | apply Kd.V_drewN | apply Kd.V_drew)); exact Kd.V_mono (Kd.V_off (g := gb249) (fun _ hk => hk.2) (Kd.V_mono HO_242004.out (fun k_ hk => (⟨hk, hk.2⟩ : _ ∧ k_ ≠ gb249)))) (fun _ hk => ⟨hk.1.1.1, ⟨hk.1.1.2.1, ⟨hk.1.1.2.2.1, ⟨hk.1.1.2.2.2, hk.1.2⟩⟩⟩⟩)))⟩; have n1_ : Az (w55.heap[gb241]? = some (.cells #[.int .i64 a0_0, .string a0_1, .string a0_2, .int .i64 a0_3, .slice A0_4 l0_4.length c0_4, .int .i64 a0_5] 26 (0, 0))) := ⟨(by rw [hw]; exact (bf BK241.out))⟩; have n2_ : Az (w55.heap[gb242]? = some (.cells #[.int .i64 a1_0, .string a1_1, .string a1_2, .int .i64 a1_3, .slice A1_4 l1_4.length c1_4, .int .i64 a1_5] 26 (0, 0))) := ⟨(by rw [hw]; exact (bf BK242.out))⟩; have n3_ : Az (w55.heap[gb243]? = some (.cells #[.int .i64 0, .string (⟨#[]⟩ : ByteArray), .string (⟨#[]⟩ : ByteArray), .int .i64 0, .slice none 0 0, .int .i64 0] 26 (0, 0))) := ⟨(by rw [hw]; exact (bf BK243.out))⟩; have n4_ : Az (w55.heap[gb249]? = some (.cells #[.string t246, .string t247] 23 (0, 0))) := ⟨(by rw [hw]; exact (by refine bk ?_; refine blk_put (cs := #[.string t246, .string (⟨#[]⟩ : ByteArray)]) ?_ 1 _ rfl; refine bk ?_; refine blk_put (cs := #[.string (⟨#[]⟩ : ByteArray), .string (⟨#[]⟩ : ByteArray)]) ?_ 0 _ rfl; refine bk ?_; exact BK249.out))⟩; have n5_ : Az (Below w.heap.size w w55) := ⟨(by rw [hw]; exact (by exact pbE HB.out))⟩; clear hw; clear HO_242004; clear BK241; clear BK242; clear BK243; clear BK249; clear HB; have HO_242004 := n0_; have BK241 := n1_; have BK242 := n2_; have BK243 := n3_; have BK249 := n4_; have HB := n5_; clear n0_ n1_ n2_ n3_ n4_ n5_; have hcz56 := cells6 BK241.out; have hcz57 := cells6 BK242.out; have hcz58 := cells2 BK249.out))
      go_region
      have n0_ := Az.mk (Kd.V_drew (Kd.V_far (p := ⟨gb241, 3, none⟩) (Kd.V_far (p := ⟨gb241, 2, none⟩) (Kd.V_far (p := ⟨gb241, 1, none⟩) HO_242004.out (fun _ hk => hk.2.1) (.string t246)) (fun _ hk => hk.2.1) (.string t247)) (fun _ hk => hk.2.1) (.int .i64 (wrap64 ((ji42) + 1)))))
      have n1_ := Az.mk (pb1 (pbS (pbS (pbS HB.out GE241.out (j := 1) (v := .string t246)) GE241.out (j := 2) (v := .string t247)) GE241.out (j := 3) (v := .int .i64 (wrap64 ((ji42) + 1)))))
      have m241_ : Az (((((w55.setCell ⟨gb241, 1, none⟩ (.string t246)).setCell ⟨gb241, 2, none⟩ (.string t247)).setCell ⟨gb241, 3, none⟩ (.int .i64 (wrap64 ((ji42) + 1)))).drew).heap[gb241]? = some (.cells #[.int .i64 a0_0, .string t246, .string t247, .int .i64 (wrap64 ((ji42) + 1)), .slice A0_4 l0_4.length c0_4, .int .i64 a0_5] 26 (0, 0))) := Az.mk (bkD (blk_put (blk_put (blk_put BK241.out 1 (.string t246) rfl) 2 (.string t247) rfl) 3 (.int .i64 (wrap64 ((ji42) + 1))) rfl))
      have m242_ := Az.mk (bkD (blk_far (p := ⟨gb241, 3, none⟩) (blk_far (p := ⟨gb241, 2, none⟩) (blk_far (p := ⟨gb241, 1, none⟩) BK242.out NB242_241.out (.string t246)) NB242_241.out (.string t247)) NB242_241.out (.int .i64 (wrap64 ((ji42) + 1)))))
      have m243_ := Az.mk (bkD (blk_far (p := ⟨gb241, 3, none⟩) (blk_far (p := ⟨gb241, 2, none⟩) (blk_far (p := ⟨gb241, 1, none⟩) BK243.out NB243_241.out (.string t246)) NB243_241.out (.string t247)) NB243_241.out (.int .i64 (wrap64 ((ji42) + 1)))))
      have m249_ := Az.mk (bkD (blk_far (p := ⟨gb241, 3, none⟩) (blk_far (p := ⟨gb241, 2, none⟩) (blk_far (p := ⟨gb241, 1, none⟩) BK249.out NB249_241.out (.string t246)) NB249_241.out (.string t247)) NB249_241.out (.int .i64 (wrap64 ((ji42) + 1)))))
      clear HO_242004 HB BK241 BK242 BK243 BK249
      generalize (((w55.setCell ⟨gb241, 1, none⟩ (.string t246)).setCell ⟨gb241, 2, none⟩ (.string t247)).setCell ⟨gb241, 3, none⟩ (.int .i64 (wrap64 ((ji42) + 1)))).drew = wq_ at n0_ n1_ m241_ m242_ m243_ m249_ ⊢
      have HO_242004 := n0_
      have HB := n1_
      have BK241 := m241_
      have BK242 := m242_
      have BK243 := m243_
      have BK249 := m249_
      clear n0_ n1_ m241_ m242_ m243_ m249_
      have hczq_0 : wq_.cell? ⟨gb241, 0, none⟩ = some (.int .i64 a0_0) := (bkC BK241.out 0).trans rfl
      have hczq_1 : wq_.cell? ⟨gb241, 1, none⟩ = some (.string t246) := (bkC BK241.out 1).trans rfl
      have hczq_2 : wq_.cell? ⟨gb241, 2, none⟩ = some (.string t247) := (bkC BK241.out 2).trans rfl
      have hczq_3 : wq_.cell? ⟨gb241, 3, none⟩ = some (.int .i64 (wrap64 ((ji42) + 1))) := (bkC BK241.out 3).trans rfl
      have hczq_4 : wq_.cell? ⟨gb241, 4, none⟩ = some (.slice A0_4 l0_4.length c0_4) := (bkC BK241.out 4).trans rfl
      have hczq_5 : wq_.cell? ⟨gb241, 5, none⟩ = some (.int .i64 a0_5) := (bkC BK241.out 5).trans rfl
      go_wp2_with ((with_reducible refine gtc (f := 30) rfl ?_); refine goesL_ (some 47) rfl rfl Tryz.func30 (by kernel_rfl) rfl #[.agg #[.int .i64 a0_0, .string t246, .string t247, .int .i64 (wrap64 ((ji42) + 1)), .slice A0_4 l0_4.length c0_4, .int .i64 a0_5]] rfl (by (try simp only [List.map_toArray, List.map_cons, List.map_nil]); first | done | (simp only [hji42]; rfl) | rfl | (simp only [List.length_drop, List.length_take]; rfl)) ?_; (with_reducible refine (desc_right.calls a0_0 t246 t247 (wrap64 ((ji42) + 1)) (fun k_ => ((P0_4_ k_ ∨ w.heap.size ≤ k_) ∧ (k_ ≠ gb241 ∧ (k_ ≠ gb242 ∧ (k_ ≠ gb243 ∧ k_ ≠ gb249))))) _ _ l0_4 a0_5 t250 t251 t252 t253 t254 t257 t258 _ ?side1 ?side2 A43.out).mono ?_); (case side1 => exact hG.below (by exact pbE HB.out)); (case side2 => exact HO_242004.out); rintro e w63 ⟨v255, rfl, ho0, hb⟩; refine ⟨_, rfl, ?_⟩; replace HO_242004 := Az.mk (Kd.V_below (Kd.V_ext HO_242004.out) hb); have HO256 := Az.mk (Kd.V_lower (Kd.V_mono (ok' := fun k_ => (P0_4_ k_ ∨ w.heap.size ≤ k_) ∧ k_ ≠ gb241 ∧ k_ ≠ gb242 ∧ k_ ≠ gb243 ∧ k_ ≠ gb249) ho0 (fun k_ hk_ => ⟨Or.elim hk_ (fun hs_ => hs_.1) (fun hn_ => (.inr (Nat.le_trans (pbZ (by exact pbE HB.out)) hn_))), Or.elim hk_ (fun hs_ => hs_.2.1) (fun hn_ => (Kd.freshB (bk BK241.out) k_ hn_)), Or.elim hk_ (fun hs_ => hs_.2.2.1) (fun hn_ => (Kd.freshB (bk BK242.out) k_ hn_)), Or.elim hk_ (fun hs_ => hs_.2.2.2.1) (fun hn_ => (Kd.freshB (bk BK243.out) k_ hn_)), Or.elim hk_ (fun hs_ => hs_.2.2.2.2) (fun hn_ => (Kd.freshB (bk BK249.out) k_ hn_))⟩)) (pbZ (by exact pbE HB.out))); replace BK241 := Az.mk (bkB (bk BK241.out) hb); replace BK242 := Az.mk (bkB (bk BK242.out) hb); replace BK243 := Az.mk (bkB (bk BK243.out) hb); replace BK249 := Az.mk (bkB (bk BK249.out) hb); replace HB := Az.mk (pbT (by exact pbE HB.out) hb); (try clear hb); (try clear hb2); (try clear hk); (try clear hi); (try clear ho0); have hcz64 := cells6 BK243.out; obtain ⟨Ao65, co65, eo65⟩ := Kd.V_slice HO256.out; subst eo65)
      refine bodyPost_ret (results_ct rfl _ _ gb243 26 #[.int .i64 t250, .string t251, .string t252, .int .i64 t253, .slice Ao65 t254.length co65, .int .i64 t257] (0, 0) _ rfl (by refine bk ?_; refine blk_put (cs := #[.int .i64 t250, .string t251, .string t252, .int .i64 t253, .slice Ao65 t254.length co65, .int .i64 0]) ?_ 5 _ rfl; refine bk ?_; refine blk_put (cs := #[.int .i64 t250, .string t251, .string t252, .int .i64 t253, .slice none 0 0, .int .i64 0]) ?_ 4 _ rfl; refine bk ?_; refine blk_put (cs := #[.int .i64 t250, .string t251, .string t252, .int .i64 0, .slice none 0 0, .int .i64 0]) ?_ 3 _ rfl; refine bk ?_; refine blk_put (cs := #[.int .i64 t250, .string t251, .string (⟨#[]⟩ : ByteArray), .int .i64 0, .slice none 0 0, .int .i64 0]) ?_ 2 _ rfl; refine bk ?_; refine blk_put (cs := #[.int .i64 t250, .string (⟨#[]⟩ : ByteArray), .string (⟨#[]⟩ : ByteArray), .int .i64 0, .slice none 0 0, .int .i64 0]) ?_ 1 _ rfl; refine bk ?_; refine blk_put (cs := #[.int .i64 0, .string (⟨#[]⟩ : ByteArray), .string (⟨#[]⟩ : ByteArray), .int .i64 0, .slice none 0 0, .int .i64 0]) ?_ 0 _ rfl; refine bk ?_; exact BK243.out) Tryz.underlying26 rfl (by kernel_rfl)) rfl ?_
      exact ⟨_, by first | rfl | (simp [errW_none, errW_some] <;> rfl) | (simp only [← hji42]; first | rfl | (simp [errW_none, errW_some] <;> rfl)) | (simp [*, errW_none, errW_some] <;> rfl), by (with_reducible repeat (first | apply Kd.V_alloc | apply Kd.V_drewN | apply Kd.V_drew)); exact Kd.V_mono (Kd.V_off (g := gb243) (fun _ hk => hk.2) (Kd.V_mono HO256.out (fun k_ hk => (⟨hk, hk.2.2.2.1⟩ : _ ∧ k_ ≠ gb243)))) (fun _ hk => hk.1.1), by exact pbE HB.out⟩
    ·rw [if_neg c26] at H
     have c26b0 : (t248 == 0) = false := beq_eq_false_iff_ne.mpr c26
     have c26b1 : (t248 != 0) = true := bne_iff_ne.mpr c26
     simp only [Option.some.injEq, Prod.mk.injEq] at H
     obtain ⟨rfl, rfl, rfl, rfl, rfl, rfl, rfl⟩ := H
     have hnb66 := NB241_242.out
     have hnc66 := NB242_241.out
     have hnb67 := NB241_243.out
     have hnc67 := NB243_241.out
     have hcz68 := cells6 BK241.out
     have hnb69 := NB242_243.out
     have hnc69 := NB243_242.out
     have hcz70 := cells6 BK242.out
     go_wp2_with (first | ((with_reducible refine gtc (f := 48) rfl ?_); refine goesL_ (some 22) rfl rfl Tryz.func48 (by kernel_rfl) rfl #[.agg #[.string a0_1, .string a0_2], .agg #[.string a1_1, .string a1_2]] rfl (by (try simp only [List.map_toArray, List.map_cons, List.map_nil]); first | done | rfl | (simp only [List.length_drop, List.length_take]; rfl)) ?_; (with_reducible refine (bound_Join.calls a0_1 a0_2 a1_1 a1_2 t246 t247 t248 _ ?side1 A25.out).mono ?_); (case side1 => exact hG.below (by exact pbE HB.out)); rintro e w71 ⟨rfl, hb⟩; refine ⟨_, rfl, ?_⟩; replace HO_242004 := Az.mk (Kd.V_below (Kd.V_ext HO_242004.out) hb); replace BK241 := Az.mk (bkB (bk BK241.out) hb); replace BK242 := Az.mk (bkB (bk BK242.out) hb); replace BK243 := Az.mk (bkB (bk BK243.out) hb); replace HB := Az.mk (pbT (by exact pbE HB.out) hb); (try clear hb); (try clear hb2); (try clear hk); (try clear hi)) | ((with_reducible refine gate_dst (N := 6) rfl ?_); refine box_event ?hg (N := 6) ?hd (cs := #[.string (⟨#[]⟩ : ByteArray), .string (⟨#[]⟩ : ByteArray)]) (t := 23) ?hr ?_; (case hd => rfl); (case hg => rfl); (case hr => first | (go_simp; done) | (go_simp; rfl)); intro gb249 hg w72 hbox hb; replace HO_242004 := Az.mk (Kd.V_below (Kd.V_elderB (Kd.V_ext HO_242004.out) gb249 (Nat.le_of_eq hg.symm)) hb); have BK249 := Az.mk (hbox); have GW249 := Az.mk (geO hg (pbE HB.out)); have GE249 := Az.mk (geO hg (pbE HB.out)); replace HB := Az.mk (pbT (by exact pbE HB.out) hb); have NB241_249 := Az.mk (neO hg (bk BK241.out)); have NB249_241 := Az.mk (neP hg (bk BK241.out)); replace BK241 := Az.mk (bkB (bk BK241.out) hb); have NB242_249 := Az.mk (neO hg (bk BK242.out)); have NB249_242 := Az.mk (neP hg (bk BK242.out)); replace BK242 := Az.mk (bkB (bk BK242.out) hb); have NB243_249 := Az.mk (neO hg (bk BK243.out)); have NB249_243 := Az.mk (neP hg (bk BK243.out)); replace BK243 := Az.mk (bkB (bk BK243.out) hb); clear hb hbox hg; have hnb73 := NB249_241.out; have hnc73 := NB241_249.out; have hnb74 := NB249_242.out; have hnc74 := NB242_249.out; have hnb75 := NB249_243.out; have hnc75 := NB243_249.out; have hcz76 := cells2 BK249.out; have hcz77 := cells6 BK243.out))
     repeat (go_region; try go_wp2_with (fail))
     refine bodyPost_ret (results_ct rfl _ _ gb243 26 #[.int .i64 0, .string (⟨#[]⟩ : ByteArray), .string (⟨#[]⟩ : ByteArray), .int .i64 0, .slice none 0 0, .int .i64 0] (0, 0) _ rfl (by refine bk ?_; refine blk_put (cs := #[.int .i64 0, .string (⟨#[]⟩ : ByteArray), .string (⟨#[]⟩ : ByteArray), .int .i64 0, .slice none 0 0, .int .i64 0]) ?_ 5 _ rfl; refine bk ?_; refine blk_put (cs := #[.int .i64 0, .string (⟨#[]⟩ : ByteArray), .string (⟨#[]⟩ : ByteArray), .int .i64 0, .slice none 0 0, .int .i64 0]) ?_ 4 _ rfl; refine bk ?_; refine blk_put (cs := #[.int .i64 0, .string (⟨#[]⟩ : ByteArray), .string (⟨#[]⟩ : ByteArray), .int .i64 0, .slice none 0 0, .int .i64 0]) ?_ 3 _ rfl; refine bk ?_; refine blk_put (cs := #[.int .i64 0, .string (⟨#[]⟩ : ByteArray), .string (⟨#[]⟩ : ByteArray), .int .i64 0, .slice none 0 0, .int .i64 0]) ?_ 2 _ rfl; refine bk ?_; refine blk_put (cs := #[.int .i64 0, .string (⟨#[]⟩ : ByteArray), .string (⟨#[]⟩ : ByteArray), .int .i64 0, .slice none 0 0, .int .i64 0]) ?_ 1 _ rfl; refine bk ?_; refine blk_put (cs := #[.int .i64 0, .string (⟨#[]⟩ : ByteArray), .string (⟨#[]⟩ : ByteArray), .int .i64 0, .slice none 0 0, .int .i64 0]) ?_ 0 _ rfl; exact bf BK243.out) Tryz.underlying26 rfl (by kernel_rfl)) rfl ?_
     exact ⟨_, by first | rfl | (simp [errW_none, errW_some] <;> rfl) | (simp [*, errW_none, errW_some] <;> rfl), Kd.V_nil _ _ _ _ _, by exact pbE HB.out⟩
def desc_Quorum.f (a0 : Int) : Option (Int) := some (wrap64 ((wrap64 (Int.tdiv a0 2)) + 1))
set_option maxHeartbeats 8000000 in
set_option maxRecDepth 100000 in
theorem desc_Quorum.calls (a0 : Int) (r : Int) (w : World) (hG : TheG w) (h : desc_Quorum.f a0 = some r) :
 Calls Tryz.prog 23 #[.int .i64 a0] w fun e w' => e = .returned (.int .i64 r) ∧ Drawn0 w w' := by
 have H : (some (wrap64 ((wrap64 (Int.tdiv a0 2)) + 1))) = some r := h
 clear h
 obtain rfl := Option.some.inj H
 go_enter Tryz.func23, Tryz.ntmps23
 go_wp2
 go_ret
 exact ⟨by first | rfl | (simp; done) | (simp [*]; done), by repeat (first | exact Drawn0.refl _ | apply Drawn0.step)⟩
end Go.Proofs.YtjfhcijjjadhbaaGreatDoor.P
end
section
namespace Go.Proofs.YtjfhcijjjadhbaaGreatDoor.P
open Go.RowKit Go.Proofs.YtjfhcijjjadhbaaGreatDoor.K Go.Proofs.YtjfhcijjjadhbaaGreatDoorW.PrintWords Go.Proofs.YtjfhcijjjadhbaaGreatDoorW.PrintLast Go.Proofs.YtjfhcijjjadhbaaGreatDoorW.PrintMore
attribute [local go_sem ↓] Go.wp_at_zero Go.wp_at_succ
/-- Where a bound may be cut. -/
def cutOk (f t k : ByteArray) : Bool := boundOk f t && (!(k.toList == ([] : List UInt8)) && decide (k.size ≤ 32)) && Op.bytesLess f.toList k.toList && (t.toList == ([] : List UInt8) || Op.bytesLess k.toList t.toList)
def bound_Cut.f (a0_0 a0_1 a1 : ByteArray) : Option (ByteArray × ByteArray × ByteArray × ByteArray × Int) :=
 if cutOk a0_0 a0_1 a1 = true then some (a0_0, a1, a1, a0_1, 0) else some (⟨#[]⟩, ⟨#[]⟩, ⟨#[]⟩, ⟨#[]⟩, 20)
theorem put2s {w1 : World} {B : Nat} {t : TypeId} {x y : Value} (BL : w1.heap[B]? = some (.cells #[.string ⟨#[]⟩, .string ⟨#[]⟩] t (0, 0))) : ((w1.setCell ⟨B, 0, none⟩ x).setCell ⟨B, 1, none⟩ y).heap[B]? = some (.cells #[x, y] t (0, 0)) := by
 refine blk_put (cs := #[x, .string ⟨#[]⟩]) ?_ 1 _ rfl
 exact blk_put (cs := #[.string ⟨#[]⟩, .string ⟨#[]⟩]) BL 0 _ rfl
set_option maxHeartbeats 8000000 in
set_option maxRecDepth 100000 in
theorem bound_Cut.calls (a0_0 a0_1 a1 : ByteArray) (r1 r2 r3 r4 : ByteArray) (r5 : Int) (w : World) (hG : TheG w) (h : bound_Cut.f a0_0 a0_1 a1 = some (r1, r2, r3, r4, r5)) :
 Calls Tryz.prog 45 #[.agg #[.string a0_0, .string a0_1], .string a1] w fun e w' => e = .returned (.tuple #[.agg #[.string r1, .string r2], .agg #[.string r3, .string r4], .int .i64 r5]) ∧ Below w.heap.size w w' := by
 unfold bound_Cut.f cutOk at h
 have hu := Tryz.underlying23
 have HC : ∀ W, Below w.heap.size w W → Hid (Calls Tryz.prog 35 #[.agg #[.string a0_0, .string a0_1]] W fun e w' => e = .returned (.int .i64 (if boundOk a0_0 a0_1 = true then 0 else 20)) ∧ Below W.heap.size W w') := fun W hW => Lib.hid (bound_Check.calls a0_0 a0_1 _ W (hG.below hW) rfl)
 cases hok : boundOk a0_0 a0_1
 ·rw [hok, if_neg (by simp)] at HC
  simp only [hok, Bool.false_and, Bool.and_false, Bool.true_and, Bool.and_true, Bool.not_true, Bool.not_false, Bool.or_true, Bool.true_or, Bool.false_or, Bool.or_false, if_false, if_true, Bool.false_eq_true, Option.some.injEq, Prod.mk.injEq, decide_true, decide_false] at h
  obtain ⟨rfl, rfl, rfl, rfl, rfl⟩ := h
  go_enter Tryz.func45, Tryz.ntmps45
  go_wp2_with (first | (go_at_call 35; refine (HC _ (pbA (pbA (pbA (Below.refl _ _) _) _) _)).out.mono ?_; rintro e w1 ⟨rfl, hb⟩; have B0 := three_old hb () (); have B1 := three_mid2 hb () (); have B2 := three_new hb () (); have z0 := (bkC B0 0).trans rfl; have z1 := (bkC B0 1).trans rfl; have y0 := (bkC B1 0).trans rfl; have y1 := (bkC B1 1).trans rfl; have x0 := (bkC B2 0).trans rfl; have x1 := (bkC B2 1).trans rfl; have e0 := bkF B1 0; have e1 := bkF B1 1; have d0 := bkF B2 0; have d1 := bkF B2 1; have HB := pbT (pbA (pbA (pbA (Below.refl _ _) _) _) _) hb; have L0 := blk_lt B0; have L1 := blk_lt B1; have L2 := blk_lt B2) | go_in)
  go_region
  all_goals go_wp2
  refine bodyPost_ret (results_list (rs := [.cell 4 23, .cell 5 23, .tmp 6]) rfl (by simp) (.cell (w.heap.size + 1) 23 #[.string ⟨#[]⟩, .string ⟨#[]⟩] (0, 0) _ rfl ?b1 hu rfl (by kernel_rfl) (.cell (w.heap.size + 1 + 1) 23 #[.string ⟨#[]⟩, .string ⟨#[]⟩] (0, 0) _ rfl ?b2 hu rfl (by kernel_rfl) (.tmp .nil)))) rfl ?_
  case b1 => (with_reducible repeat (first | refine bkN ?_ _ | refine bkD ?_ | refine bkA ?_ _)); exact blk_far (blk_far (put2s (by (with_reducible repeat (first | refine bkN ?_ _ | refine bkD ?_ | refine bkA ?_ _)); exact B1)) (by simp) _) (by simp) _
  case b2 => (with_reducible repeat (first | refine bkN ?_ _ | refine bkD ?_ | refine bkA ?_ _)); exact put2s (blk_far (blk_far (by (with_reducible repeat (first | refine bkN ?_ _ | refine bkD ?_ | refine bkA ?_ _)); exact B2) (by simp) _) (by simp) _)
  exact ⟨rfl, by repeat (first | (with_reducible first | exact HB | apply pb1 | apply pbA) | refine pbS ?_ (by omega))⟩
 rw [hok, if_pos rfl] at HC
 cases hk : (a1.toList == ([] : List UInt8))
 case true =>
  simp only [hok, hk, Bool.false_and, Bool.and_false, Bool.true_and, Bool.and_true, Bool.not_true, Bool.not_false, Bool.or_true, Bool.true_or, Bool.false_or, Bool.or_false, if_false, if_true, Bool.false_eq_true, Option.some.injEq, Prod.mk.injEq, decide_true, decide_false] at h
  obtain ⟨rfl, rfl, rfl, rfl, rfl⟩ := h
  go_enter Tryz.func45, Tryz.ntmps45
  go_wp2_with (first | (go_at_call 35; refine (HC _ (pbA (pbA (pbA (Below.refl _ _) _) _) _)).out.mono ?_; rintro e w1 ⟨rfl, hb⟩; have B0 := three_old hb () (); have B1 := three_mid2 hb () (); have B2 := three_new hb () (); have z0 := (bkC B0 0).trans rfl; have z1 := (bkC B0 1).trans rfl; have y0 := (bkC B1 0).trans rfl; have y1 := (bkC B1 1).trans rfl; have x0 := (bkC B2 0).trans rfl; have x1 := (bkC B2 1).trans rfl; have e0 := bkF B1 0; have e1 := bkF B1 1; have d0 := bkF B2 0; have d1 := bkF B2 1; have HB := pbT (pbA (pbA (pbA (Below.refl _ _) _) _) _) hb; have L0 := blk_lt B0; have L1 := blk_lt B1; have L2 := blk_lt B2) | go_in)
  go_region
  all_goals go_wp2
  refine bodyPost_ret (results_list (rs := [.cell 4 23, .cell 5 23, .tmp 6]) rfl (by simp) (.cell (w.heap.size + 1) 23 #[.string ⟨#[]⟩, .string ⟨#[]⟩] (0, 0) _ rfl ?b1 hu rfl (by kernel_rfl) (.cell (w.heap.size + 1 + 1) 23 #[.string ⟨#[]⟩, .string ⟨#[]⟩] (0, 0) _ rfl ?b2 hu rfl (by kernel_rfl) (.tmp .nil)))) rfl ?_
  case b1 => (with_reducible repeat (first | refine bkN ?_ _ | refine bkD ?_ | refine bkA ?_ _)); exact blk_far (blk_far (put2s (by (with_reducible repeat (first | refine bkN ?_ _ | refine bkD ?_ | refine bkA ?_ _)); exact B1)) (by simp) _) (by simp) _
  case b2 => (with_reducible repeat (first | refine bkN ?_ _ | refine bkD ?_ | refine bkA ?_ _)); exact put2s (blk_far (blk_far (by (with_reducible repeat (first | refine bkN ?_ _ | refine bkD ?_ | refine bkA ?_ _)); exact B2) (by simp) _) (by simp) _)
  exact ⟨rfl, by repeat (first | (with_reducible first | exact HB | apply pb1 | apply pbA) | refine pbS ?_ (by omega))⟩
 have hk2 : (a1.toList != ([] : List UInt8)) = true := by rw [bne, hk]; rfl
 by_cases hs : a1.size ≤ 32
 case neg =>
  have hs2 : (32 : Int) < (a1.size : Int) := by omega
  have hs3 : decide (a1.size ≤ 32) = false := decide_eq_false hs
  simp only [hok, hk, hs3, Bool.false_and, Bool.and_false, Bool.true_and, Bool.and_true, Bool.not_true, Bool.not_false, Bool.or_true, Bool.true_or, Bool.false_or, Bool.or_false, if_false, if_true, Bool.false_eq_true, Option.some.injEq, Prod.mk.injEq, decide_true, decide_false] at h
  obtain ⟨rfl, rfl, rfl, rfl, rfl⟩ := h
  go_enter Tryz.func45, Tryz.ntmps45
  go_wp2_with (first | (go_at_call 35; refine (HC _ (pbA (pbA (pbA (Below.refl _ _) _) _) _)).out.mono ?_; rintro e w1 ⟨rfl, hb⟩; have B0 := three_old hb () (); have B1 := three_mid2 hb () (); have B2 := three_new hb () (); have z0 := (bkC B0 0).trans rfl; have z1 := (bkC B0 1).trans rfl; have y0 := (bkC B1 0).trans rfl; have y1 := (bkC B1 1).trans rfl; have x0 := (bkC B2 0).trans rfl; have x1 := (bkC B2 1).trans rfl; have e0 := bkF B1 0; have e1 := bkF B1 1; have d0 := bkF B2 0; have d1 := bkF B2 1; have HB := pbT (pbA (pbA (pbA (Below.refl _ _) _) _) _) hb; have L0 := blk_lt B0; have L1 := blk_lt B1; have L2 := blk_lt B2) | go_in)
  go_region
  all_goals go_wp2
  refine bodyPost_ret (results_list (rs := [.cell 4 23, .cell 5 23, .tmp 6]) rfl (by simp) (.cell (w.heap.size + 1) 23 #[.string ⟨#[]⟩, .string ⟨#[]⟩] (0, 0) _ rfl ?b1 hu rfl (by kernel_rfl) (.cell (w.heap.size + 1 + 1) 23 #[.string ⟨#[]⟩, .string ⟨#[]⟩] (0, 0) _ rfl ?b2 hu rfl (by kernel_rfl) (.tmp .nil)))) rfl ?_
  case b1 => (with_reducible repeat (first | refine bkN ?_ _ | refine bkD ?_ | refine bkA ?_ _)); exact blk_far (blk_far (put2s (by (with_reducible repeat (first | refine bkN ?_ _ | refine bkD ?_ | refine bkA ?_ _)); exact B1)) (by simp) _) (by simp) _
  case b2 => (with_reducible repeat (first | refine bkN ?_ _ | refine bkD ?_ | refine bkA ?_ _)); exact put2s (blk_far (blk_far (by (with_reducible repeat (first | refine bkN ?_ _ | refine bkD ?_ | refine bkA ?_ _)); exact B2) (by simp) _) (by simp) _)
  exact ⟨rfl, by repeat (first | (with_reducible first | exact HB | apply pb1 | apply pbA) | refine pbS ?_ (by omega))⟩
 have hs2 : ¬ (32 : Int) < (a1.size : Int) := by omega
 have hs3 : decide (a1.size ≤ 32) = true := decide_eq_true hs
 cases hl : Op.bytesLess a0_0.toList a1.toList
 case false =>
  simp only [hok, hk, hs3, hl, Bool.false_and, Bool.and_false, Bool.true_and, Bool.and_true, Bool.not_true, Bool.not_false, Bool.or_true, Bool.true_or, Bool.false_or, Bool.or_false, if_false, if_true, Bool.false_eq_true, Option.some.injEq, Prod.mk.injEq, decide_true, decide_false] at h
  obtain ⟨rfl, rfl, rfl, rfl, rfl⟩ := h
  go_enter Tryz.func45, Tryz.ntmps45
  go_wp2_with (first | (go_at_call 35; refine (HC _ (pbA (pbA (pbA (Below.refl _ _) _) _) _)).out.mono ?_; rintro e w1 ⟨rfl, hb⟩; have B0 := three_old hb () (); have B1 := three_mid2 hb () (); have B2 := three_new hb () (); have z0 := (bkC B0 0).trans rfl; have z1 := (bkC B0 1).trans rfl; have y0 := (bkC B1 0).trans rfl; have y1 := (bkC B1 1).trans rfl; have x0 := (bkC B2 0).trans rfl; have x1 := (bkC B2 1).trans rfl; have e0 := bkF B1 0; have e1 := bkF B1 1; have d0 := bkF B2 0; have d1 := bkF B2 1; have HB := pbT (pbA (pbA (pbA (Below.refl _ _) _) _) _) hb; have L0 := blk_lt B0; have L1 := blk_lt B1; have L2 := blk_lt B2) | go_in)
  go_region
  all_goals go_wp2
  refine bodyPost_ret (results_list (rs := [.cell 4 23, .cell 5 23, .tmp 6]) rfl (by simp) (.cell (w.heap.size + 1) 23 #[.string ⟨#[]⟩, .string ⟨#[]⟩] (0, 0) _ rfl ?b1 hu rfl (by kernel_rfl) (.cell (w.heap.size + 1 + 1) 23 #[.string ⟨#[]⟩, .string ⟨#[]⟩] (0, 0) _ rfl ?b2 hu rfl (by kernel_rfl) (.tmp .nil)))) rfl ?_
  case b1 => (with_reducible repeat (first | refine bkN ?_ _ | refine bkD ?_ | refine bkA ?_ _)); exact blk_far (blk_far (put2s (by (with_reducible repeat (first | refine bkN ?_ _ | refine bkD ?_ | refine bkA ?_ _)); exact B1)) (by simp) _) (by simp) _
  case b2 => (with_reducible repeat (first | refine bkN ?_ _ | refine bkD ?_ | refine bkA ?_ _)); exact put2s (blk_far (blk_far (by (with_reducible repeat (first | refine bkN ?_ _ | refine bkD ?_ | refine bkA ?_ _)); exact B2) (by simp) _) (by simp) _)
  exact ⟨rfl, by repeat (first | (with_reducible first | exact HB | apply pb1 | apply pbA) | refine pbS ?_ (by omega))⟩
 cases ht : (a0_1.toList == ([] : List UInt8))
 case true =>
  have ht2 : (a0_1.toList != ([] : List UInt8)) = false := by rw [bne, ht]; rfl
  simp only [hok, hk, hs3, hl, ht, Bool.false_and, Bool.and_false, Bool.true_and, Bool.and_true, Bool.not_true, Bool.not_false, Bool.or_true, Bool.true_or, Bool.false_or, Bool.or_false, if_false, if_true, Bool.false_eq_true, Option.some.injEq, Prod.mk.injEq, decide_true, decide_false] at h
  obtain ⟨rfl, rfl, rfl, rfl, rfl⟩ := h
  go_enter Tryz.func45, Tryz.ntmps45
  go_wp2_with (first | (go_at_call 35; refine (HC _ (pbA (pbA (pbA (Below.refl _ _) _) _) _)).out.mono ?_; rintro e w1 ⟨rfl, hb⟩; have B0 := three_old hb () (); have B1 := three_mid2 hb () (); have B2 := three_new hb () (); have z0 := (bkC B0 0).trans rfl; have z1 := (bkC B0 1).trans rfl; have y0 := (bkC B1 0).trans rfl; have y1 := (bkC B1 1).trans rfl; have x0 := (bkC B2 0).trans rfl; have x1 := (bkC B2 1).trans rfl; have e0 := bkF B1 0; have e1 := bkF B1 1; have d0 := bkF B2 0; have d1 := bkF B2 1; have HB := pbT (pbA (pbA (pbA (Below.refl _ _) _) _) _) hb; have L0 := blk_lt B0; have L1 := blk_lt B1; have L2 := blk_lt B2) | go_in)
  go_region
  all_goals go_wp2
  refine bodyPost_ret (results_list (rs := [.cell 4 23, .cell 5 23, .tmp 6]) rfl (by simp) (.cell (w.heap.size + 1) 23 #[.string a0_0, .string a1] (0, 0) _ rfl ?b1 hu rfl (by kernel_rfl) (.cell (w.heap.size + 1 + 1) 23 #[.string a1, .string a0_1] (0, 0) _ rfl ?b2 hu rfl (by kernel_rfl) (.tmp .nil)))) rfl ?_
  case b1 => (with_reducible repeat (first | refine bkN ?_ _ | refine bkD ?_ | refine bkA ?_ _)); exact blk_far (blk_far (put2s (by (with_reducible repeat (first | refine bkN ?_ _ | refine bkD ?_ | refine bkA ?_ _)); exact B1)) (by simp) _) (by simp) _
  case b2 => (with_reducible repeat (first | refine bkN ?_ _ | refine bkD ?_ | refine bkA ?_ _)); exact put2s (blk_far (blk_far (by (with_reducible repeat (first | refine bkN ?_ _ | refine bkD ?_ | refine bkA ?_ _)); exact B2) (by simp) _) (by simp) _)
  exact ⟨rfl, by repeat (first | (with_reducible first | exact HB | apply pb1 | apply pbA) | refine pbS ?_ (by omega))⟩
 have ht2 : (a0_1.toList != ([] : List UInt8)) = true := by rw [bne, ht]; rfl
 cases hg : Op.bytesLess a1.toList a0_1.toList
 case false =>
  simp only [hok, hk, hs3, hl, ht, hg, Bool.false_and, Bool.and_false, Bool.true_and, Bool.and_true, Bool.not_true, Bool.not_false, Bool.or_true, Bool.true_or, Bool.false_or, Bool.or_false, if_false, if_true, Bool.false_eq_true, Option.some.injEq, Prod.mk.injEq, decide_true, decide_false] at h
  obtain ⟨rfl, rfl, rfl, rfl, rfl⟩ := h
  go_enter Tryz.func45, Tryz.ntmps45
  go_wp2_with (first | (go_at_call 35; refine (HC _ (pbA (pbA (pbA (Below.refl _ _) _) _) _)).out.mono ?_; rintro e w1 ⟨rfl, hb⟩; have B0 := three_old hb () (); have B1 := three_mid2 hb () (); have B2 := three_new hb () (); have z0 := (bkC B0 0).trans rfl; have z1 := (bkC B0 1).trans rfl; have y0 := (bkC B1 0).trans rfl; have y1 := (bkC B1 1).trans rfl; have x0 := (bkC B2 0).trans rfl; have x1 := (bkC B2 1).trans rfl; have e0 := bkF B1 0; have e1 := bkF B1 1; have d0 := bkF B2 0; have d1 := bkF B2 1; have HB := pbT (pbA (pbA (pbA (Below.refl _ _) _) _) _) hb; have L0 := blk_lt B0; have L1 := blk_lt B1; have L2 := blk_lt B2) | go_in)
  go_region
  all_goals go_wp2
  refine bodyPost_ret (results_list (rs := [.cell 4 23, .cell 5 23, .tmp 6]) rfl (by simp) (.cell (w.heap.size + 1) 23 #[.string ⟨#[]⟩, .string ⟨#[]⟩] (0, 0) _ rfl ?b1 hu rfl (by kernel_rfl) (.cell (w.heap.size + 1 + 1) 23 #[.string ⟨#[]⟩, .string ⟨#[]⟩] (0, 0) _ rfl ?b2 hu rfl (by kernel_rfl) (.tmp .nil)))) rfl ?_
  case b1 => (with_reducible repeat (first | refine bkN ?_ _ | refine bkD ?_ | refine bkA ?_ _)); exact blk_far (blk_far (put2s (by (with_reducible repeat (first | refine bkN ?_ _ | refine bkD ?_ | refine bkA ?_ _)); exact B1)) (by simp) _) (by simp) _
  case b2 => (with_reducible repeat (first | refine bkN ?_ _ | refine bkD ?_ | refine bkA ?_ _)); exact put2s (blk_far (blk_far (by (with_reducible repeat (first | refine bkN ?_ _ | refine bkD ?_ | refine bkA ?_ _)); exact B2) (by simp) _) (by simp) _)
  exact ⟨rfl, by repeat (first | (with_reducible first | exact HB | apply pb1 | apply pbA) | refine pbS ?_ (by omega))⟩
 case true =>
  simp only [hok, hk, hs3, hl, ht, hg, Bool.false_and, Bool.and_false, Bool.true_and, Bool.and_true, Bool.not_true, Bool.not_false, Bool.or_true, Bool.true_or, Bool.false_or, Bool.or_false, if_false, if_true, Bool.false_eq_true, Option.some.injEq, Prod.mk.injEq, decide_true, decide_false] at h
  obtain ⟨rfl, rfl, rfl, rfl, rfl⟩ := h
  go_enter Tryz.func45, Tryz.ntmps45
  go_wp2_with (first | (go_at_call 35; refine (HC _ (pbA (pbA (pbA (Below.refl _ _) _) _) _)).out.mono ?_; rintro e w1 ⟨rfl, hb⟩; have B0 := three_old hb () (); have B1 := three_mid2 hb () (); have B2 := three_new hb () (); have z0 := (bkC B0 0).trans rfl; have z1 := (bkC B0 1).trans rfl; have y0 := (bkC B1 0).trans rfl; have y1 := (bkC B1 1).trans rfl; have x0 := (bkC B2 0).trans rfl; have x1 := (bkC B2 1).trans rfl; have e0 := bkF B1 0; have e1 := bkF B1 1; have d0 := bkF B2 0; have d1 := bkF B2 1; have HB := pbT (pbA (pbA (pbA (Below.refl _ _) _) _) _) hb; have L0 := blk_lt B0; have L1 := blk_lt B1; have L2 := blk_lt B2) | go_in)
  go_region
  all_goals go_wp2
  refine bodyPost_ret (results_list (rs := [.cell 4 23, .cell 5 23, .tmp 6]) rfl (by simp) (.cell (w.heap.size + 1) 23 #[.string a0_0, .string a1] (0, 0) _ rfl ?b1 hu rfl (by kernel_rfl) (.cell (w.heap.size + 1 + 1) 23 #[.string a1, .string a0_1] (0, 0) _ rfl ?b2 hu rfl (by kernel_rfl) (.tmp .nil)))) rfl ?_
  case b1 => (with_reducible repeat (first | refine bkN ?_ _ | refine bkD ?_ | refine bkA ?_ _)); exact blk_far (blk_far (put2s (by (with_reducible repeat (first | refine bkN ?_ _ | refine bkD ?_ | refine bkA ?_ _)); exact B1)) (by simp) _) (by simp) _
  case b2 => (with_reducible repeat (first | refine bkN ?_ _ | refine bkD ?_ | refine bkA ?_ _)); exact put2s (blk_far (blk_far (by (with_reducible repeat (first | refine bkN ?_ _ | refine bkD ?_ | refine bkA ?_ _)); exact B2) (by simp) _) (by simp) _)
  exact ⟨rfl, by repeat (first | (with_reducible first | exact HB | apply pb1 | apply pbA) | refine pbS ?_ (by omega))⟩
end Go.Proofs.YtjfhcijjjadhbaaGreatDoor.P
end
section
namespace Go.Proofs.YtjfhcijjjadhbaaGreatDoor.P
open Go.RowKit Go.Proofs.YtjfhcijjjadhbaaGreatDoor.K Go.Proofs.YtjfhcijjjadhbaaGreatDoorW.PrintWords Go.Proofs.YtjfhcijjjadhbaaGreatDoorW.PrintLast Go.Proofs.YtjfhcijjjadhbaaGreatDoorW.PrintMore
attribute [local go_sem ↓] Go.wp_at_zero Go.wp_at_succ
theorem six {w : World} {g : Nat} {t : TypeId} {v0 v1 v2 v3 v4 v5 : Value} (B : w.heap[g]? = some (.cells #[v0, v1, v2, v3, v4, v5] t (0, 0))) : w.cell? ⟨g, 0, none⟩ = some v0 ∧ w.cell? ⟨g, 1, none⟩ = some v1 ∧ w.cell? ⟨g, 2, none⟩ = some v2 ∧ w.cell? ⟨g, 3, none⟩ = some v3 ∧ w.cell? ⟨g, 4, none⟩ = some v4 ∧ w.cell? ⟨g, 5, none⟩ = some v5 ∧ w.frozen? ⟨g, 0, none⟩ = false ∧ w.frozen? ⟨g, 1, none⟩ = false ∧ w.frozen? ⟨g, 2, none⟩ = false ∧ w.frozen? ⟨g, 3, none⟩ = false ∧ w.frozen? ⟨g, 4, none⟩ = false ∧ w.frozen? ⟨g, 5, none⟩ = false ∧ g < w.heap.size :=
 ⟨bkC B 0, bkC B 1, bkC B 2, bkC B 3, bkC B 4, bkC B 5, bkF B 0, bkF B 1, bkF B 2, bkF B 3, bkF B 4, bkF B 5, blk_lt B⟩
def Z6 : Array Value := #[.int .i64 0, .string ⟨#[]⟩, .string ⟨#[]⟩, .int .i64 0, .slice none 0 0, .int .i64 0]
theorem put6 {w1 : World} {B : Nat} {t : TypeId} {v0 v1 v2 v3 v4 v5 : Value} (BL : w1.heap[B]? = some (.cells #[.int .i64 0, .string ⟨#[]⟩, .string ⟨#[]⟩, .int .i64 0, .slice none 0 0, .int .i64 0] t (0, 0))) : ((((((w1.setCell ⟨B, 0, none⟩ v0).setCell ⟨B, 1, none⟩ v1).setCell ⟨B, 2, none⟩ v2).setCell ⟨B, 3, none⟩ v3).setCell ⟨B, 4, none⟩ v4).setCell ⟨B, 5, none⟩ v5).heap[B]? = some (.cells #[v0, v1, v2, v3, v4, v5] t (0, 0)) := by
 refine blk_put (cs := #[v0, v1, v2, v3, v4, .int .i64 0]) ?_ 5 _ rfl
 refine blk_put (cs := #[v0, v1, v2, v3, .slice none 0 0, .int .i64 0]) ?_ 4 _ rfl
 refine blk_put (cs := #[v0, v1, v2, .int .i64 0, .slice none 0 0, .int .i64 0]) ?_ 3 _ rfl
 refine blk_put (cs := #[v0, v1, .string ⟨#[]⟩, .int .i64 0, .slice none 0 0, .int .i64 0]) ?_ 2 _ rfl
 refine blk_put (cs := #[v0, .string ⟨#[]⟩, .string ⟨#[]⟩, .int .i64 0, .slice none 0 0, .int .i64 0]) ?_ 1 _ rfl
 exact blk_put (cs := #[.int .i64 0, .string ⟨#[]⟩, .string ⟨#[]⟩, .int .i64 0, .slice none 0 0, .int .i64 0]) BL 0 _ rfl
theorem far6 {w1 : World} {B g : Nat} {t : TypeId} {cs : Array Value} {v0 v1 v2 v3 v4 v5 : Value} (BL : w1.heap[B]? = some (.cells cs t (0, 0))) (h : B ≠ g) : ((((((w1.setCell ⟨g, 0, none⟩ v0).setCell ⟨g, 1, none⟩ v1).setCell ⟨g, 2, none⟩ v2).setCell ⟨g, 3, none⟩ v3).setCell ⟨g, 4, none⟩ v4).setCell ⟨g, 5, none⟩ v5).heap[B]? = some (.cells cs t (0, 0)) :=
 blk_far (blk_far (blk_far (blk_far (blk_far (blk_far BL h _) h _) h _) h _) h _) h _
theorem below6 {w w1 : World} {g : Nat} {v0 v1 v2 v3 v4 v5 : Value} (h : Below w.heap.size w w1) (hg : w.heap.size ≤ g) : Below w.heap.size w ((((((w1.setCell ⟨g, 0, none⟩ v0).setCell ⟨g, 1, none⟩ v1).setCell ⟨g, 2, none⟩ v2).setCell ⟨g, 3, none⟩ v3).setCell ⟨g, 4, none⟩ v4).setCell ⟨g, 5, none⟩ v5) :=
 pbS (pbS (pbS (pbS (pbS (pbS h hg) hg) hg) hg) hg) hg
/-- What both results in memory give at the return. -/
theorem split_ret {tmps : Array Value} {w w1 : World} {u0 u1 u2 u3 u4 u5 v0 v1 v2 v3 v4 v5 : Value} (b1 b2 : Nat) (h6 : tmps.getD 6 undef = .pointer (some ⟨b1, 0, none⟩)) (h7 : tmps.getD 7 undef = .pointer (some ⟨b2, 0, none⟩)) (hne : b2 ≠ b1)
 (B1 : w1.heap[b1]? = some (.cells #[.int .i64 0, .string ⟨#[]⟩, .string ⟨#[]⟩, .int .i64 0, .slice none 0 0, .int .i64 0] 26 (0, 0))) (B2 : w1.heap[b2]? = some (.cells #[.int .i64 0, .string ⟨#[]⟩, .string ⟨#[]⟩, .int .i64 0, .slice none 0 0, .int .i64 0] 26 (0, 0)))
 (hw : ((((((((((((w1.setCell ⟨b1, 0, none⟩ u0).setCell ⟨b1, 1, none⟩ u1).setCell ⟨b1, 2, none⟩ u2).setCell ⟨b1, 3, none⟩ u3).setCell ⟨b1, 4, none⟩ u4).setCell ⟨b1, 5, none⟩ u5).setCell ⟨b2, 0, none⟩ v0).setCell ⟨b2, 1, none⟩ v1).setCell ⟨b2, 2, none⟩ v2).setCell ⟨b2, 3, none⟩ v3).setCell ⟨b2, 4, none⟩ v4).setCell ⟨b2, 5, none⟩ v5).drew = w) :
 (results Tryz.f20 tmps).run Tryz.prog w = .ok (.tuple #[.agg #[u0, u1, u2, u3, u4, u5], .agg #[v0, v1, v2, v3, v4, v5], tmps.getD 8 undef]) w := by
 subst hw
 exact results_list (rs := [.cell 6 26, .cell 7 26, .tmp 8]) rfl (by simp) (.cell b1 26 #[u0, u1, u2, u3, u4, u5] (0, 0) _ h6 (bkD (far6 (put6 B1) hne.symm)) Tryz.underlying26 rfl (by kernel_rfl) (.cell b2 26 #[v0, v1, v2, v3, v4, v5] (0, 0) _ h7 (bkD (put6 (far6 B2 hne))) Tryz.underlying26 rfl (by kernel_rfl) (.tmp .nil)))
theorem R_far6 {α : Type} {d : Kd α} {e : Nat} {w1 : World} {base : Nat} {ok : Nat → Prop} {v : Value} {xs : List α} {g : Nat} {v0 v1 v2 v3 v4 v5 : Value} (h : d.R e w1 base ok v xs) (hg : ∀ k, ok k → k ≠ g) : d.R e ((((((w1.setCell ⟨g, 0, none⟩ v0).setCell ⟨g, 1, none⟩ v1).setCell ⟨g, 2, none⟩ v2).setCell ⟨g, 3, none⟩ v3).setCell ⟨g, 4, none⟩ v4).setCell ⟨g, 5, none⟩ v5) base ok v xs :=
 Kd.R_far (Kd.R_far (Kd.R_far (Kd.R_far (Kd.R_far (Kd.R_far h hg _) hg _) hg _) hg _) hg _) hg _
theorem split_res {tmps : Array Value} {w : World} {u0 u1 u2 u3 u4 u5 v0 v1 v2 v3 v4 v5 : Value} (b1 b2 : Nat) (h6 : tmps.getD 6 undef = .pointer (some ⟨b1, 0, none⟩)) (h7 : tmps.getD 7 undef = .pointer (some ⟨b2, 0, none⟩))
 (B1 : w.heap[b1]? = some (.cells #[u0, u1, u2, u3, u4, u5] 26 (0, 0))) (B2 : w.heap[b2]? = some (.cells #[v0, v1, v2, v3, v4, v5] 26 (0, 0))) :
 (results Tryz.f20 tmps).run Tryz.prog w = .ok (.tuple #[.agg #[u0, u1, u2, u3, u4, u5], .agg #[v0, v1, v2, v3, v4, v5], tmps.getD 8 undef]) w :=
 results_list (rs := [.cell 6 26, .cell 7 26, .tmp 8]) rfl (by simp) (.cell b1 26 #[u0, u1, u2, u3, u4, u5] (0, 0) _ h6 B1 Tryz.underlying26 rfl (by kernel_rfl) (.cell b2 26 #[v0, v1, v2, v3, v4, v5] (0, 0) _ h7 B2 Tryz.underlying26 rfl (by kernel_rfl) (.tmp .nil)))
def desc_Split.f (a0_0 : Int) (a0_1 a0_2 : ByteArray) (a0_3 : Int) (l0_4 : List S30) (a0_5 : Int) (a1 : ByteArray) (a2 : Int) : Option (Int × ByteArray × ByteArray × Int × List S30 × Int × Int × ByteArray × ByteArray × Int × List S30 × Int × Int) :=
 (desc_Check.f a0_0 a0_1 a0_2 a0_3 l0_4 a0_5).bind fun c => if c = 0 then
  if cutOk a0_1 a0_2 a1 = true then
   if a2 ≤ a0_0 then some (0, ⟨#[]⟩, ⟨#[]⟩, 0, [], 0, 0, ⟨#[]⟩, ⟨#[]⟩, 0, [], 0, 2)
   else (api_Member_46.f l0_4).bind fun _ => (desc_Check.f a0_0 a0_1 a1 (wrap64 (a0_3 + 1)) l0_4 a0_5).bind fun c1 => if c1 = 0 then
    (desc_Check.f a2 a1 a0_2 (wrap64 (a0_3 + 1)) l0_4 a0_5).bind fun c2 => if c2 = 0 then some (a0_0, a0_1, a1, wrap64 (a0_3 + 1), l0_4, a0_5, a2, a1, a0_2, wrap64 (a0_3 + 1), l0_4, a0_5, 0)
    else some (0, ⟨#[]⟩, ⟨#[]⟩, 0, [], 0, 0, ⟨#[]⟩, ⟨#[]⟩, 0, [], 0, 60) else some (0, ⟨#[]⟩, ⟨#[]⟩, 0, [], 0, 0, ⟨#[]⟩, ⟨#[]⟩, 0, [], 0, 60)
  else some (0, ⟨#[]⟩, ⟨#[]⟩, 0, [], 0, 0, ⟨#[]⟩, ⟨#[]⟩, 0, [], 0, 20)
 else some (0, ⟨#[]⟩, ⟨#[]⟩, 0, [], 0, 0, ⟨#[]⟩, ⟨#[]⟩, 0, [], 0, c)
set_option maxHeartbeats 16000000 in
set_option maxRecDepth 100000 in
theorem desc_Split.calls (a0_0 : Int) (a0_1 : ByteArray) (a0_2 : ByteArray) (a0_3 : Int) (P0_4_ : Nat → Prop) (A0_4 : Option Addr) (c0_4 : Nat) (l0_4 : List (S30)) (a0_5 : Int) (a1 : ByteArray) (a2 : Int) (r1 : Int) (r2 : ByteArray) (r3 : ByteArray) (r4 : Int) (r5 : List (S30)) (r6 : Int) (r7 : Int) (r8 : ByteArray) (r9 : ByteArray) (r10 : Int) (r11 : List (S30)) (r12 : Int) (r13 : Int) (w : World) (hG : TheG w) (hs0_4 : Kd.V k30 30 w w.heap.size (fun k_ => P0_4_ k_) (.slice A0_4 l0_4.length c0_4) l0_4) (h : desc_Split.f a0_0 a0_1 a0_2 a0_3 l0_4 a0_5 a1 a2 = some (r1, r2, r3, r4, r5, r6, r7, r8, r9, r10, r11, r12, r13)) :
 Calls Tryz.prog 20 #[.agg #[.int .i64 a0_0, .string a0_1, .string a0_2, .int .i64 a0_3, .slice A0_4 l0_4.length c0_4, .int .i64 a0_5], .string a1, .int .i64 a2] w fun e w' => ∃ v4_ v10_ : Value, e = .returned (.tuple #[.agg #[.int .i64 r1, .string r2, .string r3, .int .i64 r4, v4_, .int .i64 r6], .agg #[.int .i64 r7, .string r8, .string r9, .int .i64 r10, v10_, .int .i64 r12], .int .i64 r13]) ∧ Kd.V k30 30 w' w.heap.size (fun k_ => (P0_4_ k_ ∨ w.heap.size ≤ k_) ∧ some k_ ≠ (v10_ : Value).ownBlock) v4_ r5 ∧ Kd.R k30 30 w' w.heap.size (fun k_ => (w.heap.size ≤ k_)) v10_ r11 ∧ Below w.heap.size w w' := by
 have hu26 := Tryz.underlying26
 have hu23 := Tryz.underlying23
 obtain ⟨hn, hcl, hF⟩ := Kd.V_at hs0_4
 clear hn
 have HF := Lib.hid (Kd.F_bound hF)
 have HC := Lib.hid (Kd.F_now hF)
 clear hF hs0_4
 unfold desc_Split.f at h
 have KK : ∀ (W : World) (p0 : Int) (p1 p2 : ByteArray) (p3 p5 c : Int), desc_Check.f p0 p1 p2 p3 l0_4 p5 = some c → Below w.heap.size w W → Hid (Calls Tryz.prog 13 #[.agg #[.int .i64 p0, .string p1, .string p2, .int .i64 p3, .slice A0_4 l0_4.length c0_4, .int .i64 p5]] W fun e w' => e = .returned (.int .i64 c) ∧ Below W.heap.size W w') := fun W p0 p1 p2 p3 p5 c hc hW => Lib.hid (desc_Check.calls p0 p1 p2 p3 A0_4 c0_4 l0_4 p5 c W (hG.below hW) (Kd.C_below HC.out hW) hcl hc)
 obtain ⟨c, hc, h⟩ := Option.bind_eq_some_iff.mp h
 have K0 := fun W hW => KK W _ _ _ _ _ _ hc hW
 clear hc
 by_cases c0 : c = 0
 ·subst c0
  rw [if_pos rfl] at h
  have HT : ∀ W, Below w.heap.size w W → Hid (Calls Tryz.prog 45 #[.agg #[.string a0_1, .string a0_2], .string a1] W fun e w' => e = .returned (.tuple (if cutOk a0_1 a0_2 a1 = true then #[.agg #[.string a0_1, .string a1], .agg #[.string a1, .string a0_2], .int .i64 0] else #[.agg #[.string ⟨#[]⟩, .string ⟨#[]⟩], .agg #[.string ⟨#[]⟩, .string ⟨#[]⟩], .int .i64 20])) ∧ Below W.heap.size W w') := by
   intro W hW
   refine Lib.hid ?_
   cases hk : cutOk a0_1 a0_2 a1
   ·exact bound_Cut.calls a0_1 a0_2 a1 _ _ _ _ _ W (hG.below hW) (by unfold bound_Cut.f; rw [hk]; rfl)
   ·exact bound_Cut.calls a0_1 a0_2 a1 _ _ _ _ _ W (hG.below hW) (by unfold bound_Cut.f; rw [hk]; rfl)
  cases hk : cutOk a0_1 a0_2 a1
  ·rw [hk, if_neg (by simp)] at h
   simp only [hk, if_neg (show ¬ (false = true) by simp)] at HT
   simp only [Option.some.injEq, Prod.mk.injEq] at h
   obtain ⟨rfl, rfl, rfl, rfl, rfl, rfl, rfl, rfl, rfl, rfl, rfl, rfl, rfl⟩ := h
   clear KK
   go_enter Tryz.func20, Tryz.ntmps20
   go_wp2_with (first | (go_at_call 13; refine (K0 _ (pbA (pbA (pbA (Below.refl _ _) _) _) _)).out.mono ?_; rintro e w1 ⟨rfl, hb⟩; have B0 := three_old hb () (); have B1 := three_mid2 hb () (); have B2 := three_new hb () (); obtain ⟨x0, x1, x2, x3, x4, x5, d0, d1, d2, d3, d4, d5, M0⟩ := six B0; obtain ⟨z0, z1, z2, z3, z4, z5, f0, f1, f2, f3, f4, f5, L0⟩ := six B1; obtain ⟨y0, y1, y2, y3, y4, y5, e0, e1, e2, e3, e4, e5, L1⟩ := six B2; have HB := pbT (pbA (pbA (pbA (Below.refl _ _) _) _) _) hb; clear hb) | (go_at_call 45; refine (HT _ HB).out.mono ?_; rintro e w2 ⟨rfl, hb⟩; clear x0 x1 x2 x3 x4 x5 d0 d1 d2 d3 d4 d5 M0 z0 z1 z2 z3 z4 z5 f0 f1 f2 f3 f4 f5 L0 y0 y1 y2 y3 y4 y5 e0 e1 e2 e3 e4 e5 L1; have B3 := bkB B0 hb; have B4 := bkB B1 hb; have B5 := bkB B2 hb; clear B0 B1 B2; obtain ⟨x0, x1, x2, x3, x4, x5, d0, d1, d2, d3, d4, d5, M0⟩ := six B3; obtain ⟨z0, z1, z2, z3, z4, z5, f0, f1, f2, f3, f4, f5, L0⟩ := six B4; obtain ⟨y0, y1, y2, y3, y4, y5, e0, e1, e2, e3, e4, e5, L1⟩ := six B5; have HB2 := pbT HB hb; clear hb HB) | go_in)
   go_region
   go_wp2
   refine bodyPost_ret (split_res (w.heap.size + 1) (w.heap.size + 1 + 1) rfl rfl (bkD (bkA (bkA (far6 (put6 B4) (by omega)) _) _)) (bkD (bkA (bkA (put6 (far6 B5 (by omega))) _) _))) rfl ?_
   exact ⟨_, _, rfl, Kd.V_nil _ _ _ _ _, Kd.R_nil _ _ _ _ _, pb1 (pbA (pbA (below6 (below6 HB2 (by omega)) (by omega)) _) _)⟩
  ·rw [hk, if_pos rfl] at h
   simp only [hk, if_true] at HT
   by_cases hid : a2 ≤ a0_0
   ·rw [if_pos hid] at h
    simp only [Option.some.injEq, Prod.mk.injEq] at h
    obtain ⟨rfl, rfl, rfl, rfl, rfl, rfl, rfl, rfl, rfl, rfl, rfl, rfl, rfl⟩ := h
    clear KK
    go_enter Tryz.func20, Tryz.ntmps20
    go_wp2_with (first | (go_at_call 13; refine (K0 _ (pbA (pbA (pbA (Below.refl _ _) _) _) _)).out.mono ?_; rintro e w1 ⟨rfl, hb⟩; have B0 := three_old hb () (); have B1 := three_mid2 hb () (); have B2 := three_new hb () (); obtain ⟨x0, x1, x2, x3, x4, x5, d0, d1, d2, d3, d4, d5, M0⟩ := six B0; obtain ⟨z0, z1, z2, z3, z4, z5, f0, f1, f2, f3, f4, f5, L0⟩ := six B1; obtain ⟨y0, y1, y2, y3, y4, y5, e0, e1, e2, e3, e4, e5, L1⟩ := six B2; have HB := pbT (pbA (pbA (pbA (Below.refl _ _) _) _) _) hb; clear hb) | (go_at_call 45; refine (HT _ HB).out.mono ?_; rintro e w2 ⟨rfl, hb⟩; clear x0 x1 x2 x3 x4 x5 d0 d1 d2 d3 d4 d5 M0 z0 z1 z2 z3 z4 z5 f0 f1 f2 f3 f4 f5 L0 y0 y1 y2 y3 y4 y5 e0 e1 e2 e3 e4 e5 L1; have B3 := bkB B0 hb; have B4 := bkB B1 hb; have B5 := bkB B2 hb; clear B0 B1 B2; obtain ⟨x0, x1, x2, x3, x4, x5, d0, d1, d2, d3, d4, d5, M0⟩ := six B3; obtain ⟨z0, z1, z2, z3, z4, z5, f0, f1, f2, f3, f4, f5, L0⟩ := six B4; obtain ⟨y0, y1, y2, y3, y4, y5, e0, e1, e2, e3, e4, e5, L1⟩ := six B5; have HB2 := pbT HB hb; clear hb HB) | go_in)
    go_region
    go_wp2
    refine bodyPost_ret (split_res (w.heap.size + 1) (w.heap.size + 1 + 1) rfl rfl (bkD (bkA (bkA (far6 (put6 B4) (by omega)) _) _)) (bkD (bkA (bkA (put6 (far6 B5 (by omega))) _) _))) rfl ?_
    exact ⟨_, _, rfl, Kd.V_nil _ _ _ _ _, Kd.R_nil _ _ _ _ _, pb1 (pbA (pbA (below6 (below6 HB2 (by omega)) (by omega)) _) _)⟩
   ·rw [if_neg hid] at h
    obtain ⟨m, hm, h⟩ := Option.bind_eq_some_iff.mp h
    have hml : l0_4.length < 8796093022208 := Classical.byContradiction fun hn => by unfold api_Member_46.f at hm; rw [if_neg hn] at hm; cases hm
    clear hm
    obtain ⟨c1, hc1, h⟩ := Option.bind_eq_some_iff.mp h
    have K1 := fun W hW => KK W _ _ _ _ _ _ hc1 hW
    clear hc1
    go_enter Tryz.func20, Tryz.ntmps20
    go_wp2_with (first | (go_at_call 13; refine (K0 _ (pbA (pbA (pbA (Below.refl _ _) _) _) _)).out.mono ?_; rintro e w1 ⟨rfl, hb⟩; have B0 := three_old hb () (); have B1 := three_mid2 hb () (); have B2 := three_new hb () (); obtain ⟨x0, x1, x2, x3, x4, x5, d0, d1, d2, d3, d4, d5, M0⟩ := six B0; obtain ⟨z0, z1, z2, z3, z4, z5, f0, f1, f2, f3, f4, f5, L0⟩ := six B1; obtain ⟨y0, y1, y2, y3, y4, y5, e0, e1, e2, e3, e4, e5, L1⟩ := six B2; have HB := pbT (pbA (pbA (pbA (Below.refl _ _) _) _) _) hb; clear hb) | (go_at_call 45; refine (HT _ HB).out.mono ?_; rintro e w2 ⟨rfl, hb⟩; clear x0 x1 x2 x3 x4 x5 d0 d1 d2 d3 d4 d5 M0 z0 z1 z2 z3 z4 z5 f0 f1 f2 f3 f4 f5 L0 y0 y1 y2 y3 y4 y5 e0 e1 e2 e3 e4 e5 L1; have B3 := bkB B0 hb; have B4 := bkB B1 hb; have B5 := bkB B2 hb; clear B0 B1 B2; obtain ⟨x0, x1, x2, x3, x4, x5, d0, d1, d2, d3, d4, d5, M0⟩ := six B3; obtain ⟨z0, z1, z2, z3, z4, z5, f0, f1, f2, f3, f4, f5, L0⟩ := six B4; obtain ⟨y0, y1, y2, y3, y4, y5, e0, e1, e2, e3, e4, e5, L1⟩ := six B5; have HB2 := pbT HB hb; clear hb HB) | go_in)
    clear K0 HT x0 x1 x2 x3 x4 x5 d0 d1 d2 d3 d4 d5 z0 z1 z2 z3 z4 z5 f0 f1 f2 f3 f4 f5 y0 y1 y2 y3 y4 y5 e0 e1 e2 e3 e4 e5
    obtain ⟨W, hW⟩ : ∃ W, W = ((w2.setCell ⟨w.heap.size, 3, none⟩ (.int .i64 (wrap64 (a0_3 + 1)))).alloc (.cells #[.string a0_1, .string a1] 23)).alloc (.cells #[.string a1, .string a0_2] 23) := ⟨_, rfl⟩
    have BW0 : W.heap[w.heap.size]? = some (.cells #[.int .i64 a0_0, .string a0_1, .string a0_2, .int .i64 (wrap64 (a0_3 + 1)), .slice A0_4 l0_4.length c0_4, .int .i64 a0_5] 26 (0, 0)) := by rw [hW]; exact bkA (bkA (blk_put B3 3 _ rfl) _) _
    have BW1 : W.heap[w.heap.size + 1]? = some (.cells #[.int .i64 0, .string ⟨#[]⟩, .string ⟨#[]⟩, .int .i64 0, .slice none 0 0, .int .i64 0] 26 (0, 0)) := by rw [hW]; exact bkA (bkA (blk_far B4 (by simp) _) _) _
    have BW2 : W.heap[w.heap.size + 2]? = some (.cells #[.int .i64 0, .string ⟨#[]⟩, .string ⟨#[]⟩, .int .i64 0, .slice none 0 0, .int .i64 0] 26 (0, 0)) := by rw [hW]; exact bkA (bkA (blk_far B5 (by simp) _) _) _
    have hsz : (w2.setCell ⟨w.heap.size, 3, none⟩ (.int .i64 (wrap64 (a0_3 + 1)))).heap.size = w2.heap.size := by simp
    have B9 : W.heap[w2.heap.size]? = some (.cells #[.string a0_1, .string a1] 23 (0, 0)) := by rw [hW, ← hsz]; exact bkA (heap_alloc_new _ _) _
    have B10 : W.heap[w2.heap.size + 1]? = some (.cells #[.string a1, .string a0_2] 23 (0, 0)) := by rw [hW, ← hsz, ← World.size_alloc (w2.setCell ⟨w.heap.size, 3, none⟩ (.int .i64 (wrap64 (a0_3 + 1)))) (.cells #[.string a0_1, .string a1] 23)]; exact heap_alloc_new _ _
    have HBW : Below w.heap.size w W := by rw [hW]; exact pbA (pbA (pbS HB2 (Nat.le_refl _)) _) _
    rw [← hW]
    clear hW HB2 B3 B4 B5 hsz
    refine start_ (n := 6) (S := fun w' => w'.cell? ⟨w.heap.size, 0, none⟩ = some (.int .i64 a0_0) ∧ w'.cell? ⟨w.heap.size, 1, none⟩ = some (.string a0_1) ∧ w'.cell? ⟨w.heap.size, 2, none⟩ = some (.string a0_2) ∧ w'.cell? ⟨w.heap.size, 3, none⟩ = some (.int .i64 (wrap64 (a0_3 + 1))) ∧ w'.cell? ⟨w.heap.size, 4, none⟩ = some (.slice A0_4 l0_4.length c0_4) ∧ w'.cell? ⟨w.heap.size, 5, none⟩ = some (.int .i64 a0_5)) (ds := []) #[false, false, false, false, false, false] (by kernel_rfl) rfl rfl ⟨(bkC BW0 0).trans rfl, (bkC BW0 1).trans rfl, (bkC BW0 2).trans rfl, (bkC BW0 3).trans rfl, (bkC BW0 4).trans rfl, (bkC BW0 5).trans rfl⟩ (fun hHeld => ?_)
    replace BW0 := bkD BW0
    replace BW1 := bkD BW1
    replace BW2 := bkD BW2
    replace B9 := bkD B9
    replace B10 := bkD B10
    replace HBW := pb1 HBW
    generalize W.drew = W1 at BW0 BW1 BW2 B9 B10 HBW hHeld ⊢
    clear W
    refine take_ (i := 0) (N := some 45) (v := ?_) (a' := ?_) #[true, false, false, false, false, false] rfl rfl (by kernel_rfl) (fun _ _ _ h => h) (Or.inl ⟨by rfl, ?_⟩) hHeld ?_ ?_
    rotate_left
    ·rintro w' ⟨s0, s1, s2, s3, s4, s5⟩
     go_simp
     with_reducible rfl
    rotate_left
    ·simp only [Act.put, List.setIfInBounds_toArray, List.set_cons_zero, List.set_cons_succ, i64_w, i32_w]
     rfl
    refine take_ (i := 1) (N := some 46) (v := ?_) (a' := ?_) #[true, true, false, false, false, false] rfl rfl (by kernel_rfl) (fun _ _ _ h => h) (Or.inl ⟨by rfl, ?_⟩) hHeld ?_ ?_
    rotate_left
    ·rintro w' ⟨s0, s1, s2, s3, s4, s5⟩
     go_simp
     with_reducible rfl
    rotate_left
    ·simp only [Act.put, List.setIfInBounds_toArray, List.set_cons_zero, List.set_cons_succ, i64_w, i32_w]
     rfl
    refine join_ (σ := Nat × Nat) 2 #[true, true, true, true, false, false] (fun s_ => [(11, .pointer (some ⟨s_.1, 0, none⟩)), (12, .pointer (some ⟨s_.2, 0, none⟩))]) (fun s_ w' => (w'.cell? ⟨w.heap.size, 0, none⟩ = some (.int .i64 a0_0) ∧ w'.cell? ⟨w.heap.size, 1, none⟩ = some (.string a0_1) ∧ w'.cell? ⟨w.heap.size, 2, none⟩ = some (.string a0_2) ∧ w'.cell? ⟨w.heap.size, 3, none⟩ = some (.int .i64 (wrap64 (a0_3 + 1))) ∧ w'.cell? ⟨w.heap.size, 4, none⟩ = some (.slice A0_4 l0_4.length c0_4) ∧ w'.cell? ⟨w.heap.size, 5, none⟩ = some (.int .i64 a0_5)) ∧ Below W1.heap.size W1 w' ∧ w'.heap[s_.1]? = some (.cells #[.int .i64 0, .string ⟨#[]⟩, .string ⟨#[]⟩, .int .i64 0, .slice none 0 0, .int .i64 0] 26 (0, 0)) ∧ w'.heap[s_.2]? = some (.cells #[.int .i64 0, .string ⟨#[]⟩, .string ⟨#[]⟩, .int .i64 0, .slice none 0 0, .int .i64 0] 26 (0, 0)) ∧ W1.heap.size ≤ s_.1 ∧ W1.heap.size ≤ s_.2 ∧ s_.1 ≠ s_.2) ?_ ?_
    rotate_left
    ·intro hCont
     refine two_ (i := 2) (j := 3) (Ni := some 11) (Nj := some 12) #[true, true, true, false, false, false] #[true, true, false, true, false, false] rfl rfl rfl rfl (by kernel_rfl) (by decide) (by decide) (fun K hK => ?_) (fun K hK => ?_)
     ·refine box_step ?hg (N := 11) ?hd (cs := #[.int .i64 0, .string ⟨#[]⟩, .string ⟨#[]⟩, .int .i64 0, .slice none 0 0, .int .i64 0]) (t := 26) ?hr ?_; (case hd => rfl); (case hg => rfl); (case hr => first | (go_simp; done) | (go_simp; rfl))
      intro g1 hg w3 hbox hb
      have BX := bkB (g := w.heap.size) (o := .cells #[.int .i64 a0_0, .string a0_1, .string a0_2, .int .i64 (wrap64 (a0_3 + 1)), .slice A0_4 l0_4.length c0_4, .int .i64 a0_5] 26 (0, 0)) (by (with_reducible repeat (first | refine bkN ?_ _ | refine bkD ?_ | refine bkA ?_ _)); exact BW0) hb
      have bw3 := hb
      refine hK.out _ _ ⟨(bkC BX 0).trans rfl, (bkC BX 1).trans rfl, (bkC BX 2).trans rfl, (bkC BX 3).trans rfl, (bkC BX 4).trans rfl, (bkC BX 5).trans rfl⟩ (fun hHeld => ?_)
      clear hK K
      refine norm_ (a' := ?_) ?_ ?_
      rotate_left
      ·show Act.put _ (some 11) _ = _
       simp only [Act.put, List.setIfInBounds_toArray, List.set_cons_zero, List.set_cons_succ, i64_w, i32_w]
       rfl
      refine one_ (i := 3) (N := some 12) #[true, true, true, true, false, false] rfl rfl (by kernel_rfl) (by decide) (fun K hK => ?_)
      refine box_step ?hg (N := 12) ?hd (cs := #[.int .i64 0, .string ⟨#[]⟩, .string ⟨#[]⟩, .int .i64 0, .slice none 0 0, .int .i64 0]) (t := 26) ?hr ?_; (case hd => rfl); (case hg => rfl); (case hr => first | (go_simp; done) | (go_simp; rfl))
      intro g2 hg2 w4 hbox2 hb2
      have BY := bkB (g := w.heap.size) (o := .cells #[.int .i64 a0_0, .string a0_1, .string a0_2, .int .i64 (wrap64 (a0_3 + 1)), .slice A0_4 l0_4.length c0_4, .int .i64 a0_5] 26 (0, 0)) (by (with_reducible repeat (first | refine bkN ?_ _ | refine bkD ?_ | refine bkA ?_ _)); exact BX) hb2
      have BZ := bkB (o := .cells #[.int .i64 0, .string ⟨#[]⟩, .string ⟨#[]⟩, .int .i64 0, .slice none 0 0, .int .i64 0] 26 (0, 0)) (g := g1) (by (with_reducible repeat (first | refine bkN ?_ _ | refine bkD ?_ | refine bkA ?_ _)); exact hbox) hb2
      refine hK.out _ _ ⟨(bkC BY 0).trans rfl, (bkC BY 1).trans rfl, (bkC BY 2).trans rfl, (bkC BY 3).trans rfl, (bkC BY 4).trans rfl, (bkC BY 5).trans rfl⟩ (fun hHeld => ?_)
      clear hK K
      refine norm_ (a' := ?_) ?_ ?_
      rotate_left
      ·show Act.put _ (some 12) _ = _
       simp only [Act.put, List.setIfInBounds_toArray, List.set_cons_zero, List.set_cons_succ, i64_w, i32_w]
       rfl
      have bA : Below W1.heap.size W1 w3 := pbT (by repeat (first | (with_reducible first | exact Below.refl _ _ | apply pbA | apply pbN | apply pb1) | exact Below.refl _ _)) bw3
      have bB : Below W1.heap.size W1 w4 := pbT (by repeat (first | (with_reducible first | exact bA | apply pbA | apply pbN | apply pb1) | exact bA)) hb2
      have l1 : W1.heap.size ≤ g1 := by rw [hg]; exact pbZ (by repeat (first | (with_reducible first | exact Below.refl _ _ | apply pbA | apply pbN | apply pb1) | exact Below.refl _ _))
      have l2 : W1.heap.size ≤ g2 := by rw [hg2]; exact pbZ (by repeat (first | (with_reducible first | exact bA | apply pbA | apply pbN | apply pb1) | exact bA))
      have hne : g1 ≠ g2 := by rw [hg2]; exact Nat.ne_of_lt (blk_lt (o := .cells #[.int .i64 0, .string ⟨#[]⟩, .string ⟨#[]⟩, .int .i64 0, .slice none 0 0, .int .i64 0] 26 (0, 0)) (by (with_reducible repeat (first | refine bkN ?_ _ | refine bkD ?_ | refine bkA ?_ _)); exact hbox))
      exact norm_ (by simp only [putAll, Act.put, List.setIfInBounds_toArray, List.set_cons_zero, List.set_cons_succ]) (hCont (g1, g2) _ ⟨hHeld, bB, BZ, hbox2, l1, l2, hne⟩)
     ·refine box_step ?hg (N := 12) ?hd (cs := #[.int .i64 0, .string ⟨#[]⟩, .string ⟨#[]⟩, .int .i64 0, .slice none 0 0, .int .i64 0]) (t := 26) ?hr ?_; (case hd => rfl); (case hg => rfl); (case hr => first | (go_simp; done) | (go_simp; rfl))
      intro g2 hg w3 hbox hb
      have BX := bkB (g := w.heap.size) (o := .cells #[.int .i64 a0_0, .string a0_1, .string a0_2, .int .i64 (wrap64 (a0_3 + 1)), .slice A0_4 l0_4.length c0_4, .int .i64 a0_5] 26 (0, 0)) (by (with_reducible repeat (first | refine bkN ?_ _ | refine bkD ?_ | refine bkA ?_ _)); exact BW0) hb
      have bw3 := hb
      refine hK.out _ _ ⟨(bkC BX 0).trans rfl, (bkC BX 1).trans rfl, (bkC BX 2).trans rfl, (bkC BX 3).trans rfl, (bkC BX 4).trans rfl, (bkC BX 5).trans rfl⟩ (fun hHeld => ?_)
      clear hK K
      refine norm_ (a' := ?_) ?_ ?_
      rotate_left
      ·show Act.put _ (some 12) _ = _
       simp only [Act.put, List.setIfInBounds_toArray, List.set_cons_zero, List.set_cons_succ, i64_w, i32_w]
       rfl
      refine one_ (i := 2) (N := some 11) #[true, true, true, true, false, false] rfl rfl (by kernel_rfl) (by decide) (fun K hK => ?_)
      refine box_step ?hg (N := 11) ?hd (cs := #[.int .i64 0, .string ⟨#[]⟩, .string ⟨#[]⟩, .int .i64 0, .slice none 0 0, .int .i64 0]) (t := 26) ?hr ?_; (case hd => rfl); (case hg => rfl); (case hr => first | (go_simp; done) | (go_simp; rfl))
      intro g1 hg2 w4 hbox2 hb2
      have BY := bkB (g := w.heap.size) (o := .cells #[.int .i64 a0_0, .string a0_1, .string a0_2, .int .i64 (wrap64 (a0_3 + 1)), .slice A0_4 l0_4.length c0_4, .int .i64 a0_5] 26 (0, 0)) (by (with_reducible repeat (first | refine bkN ?_ _ | refine bkD ?_ | refine bkA ?_ _)); exact BX) hb2
      have BZ := bkB (o := .cells #[.int .i64 0, .string ⟨#[]⟩, .string ⟨#[]⟩, .int .i64 0, .slice none 0 0, .int .i64 0] 26 (0, 0)) (g := g2) (by (with_reducible repeat (first | refine bkN ?_ _ | refine bkD ?_ | refine bkA ?_ _)); exact hbox) hb2
      refine hK.out _ _ ⟨(bkC BY 0).trans rfl, (bkC BY 1).trans rfl, (bkC BY 2).trans rfl, (bkC BY 3).trans rfl, (bkC BY 4).trans rfl, (bkC BY 5).trans rfl⟩ (fun hHeld => ?_)
      clear hK K
      refine norm_ (a' := ?_) ?_ ?_
      rotate_left
      ·show Act.put _ (some 11) _ = _
       simp only [Act.put, List.setIfInBounds_toArray, List.set_cons_zero, List.set_cons_succ, i64_w, i32_w]
       rfl
      have bA : Below W1.heap.size W1 w3 := pbT (by repeat (first | (with_reducible first | exact Below.refl _ _ | apply pbA | apply pbN | apply pb1) | exact Below.refl _ _)) bw3
      have bB : Below W1.heap.size W1 w4 := pbT (by repeat (first | (with_reducible first | exact bA | apply pbA | apply pbN | apply pb1) | exact bA)) hb2
      have l1 : W1.heap.size ≤ g2 := by rw [hg]; exact pbZ (by repeat (first | (with_reducible first | exact Below.refl _ _ | apply pbA | apply pbN | apply pb1) | exact Below.refl _ _))
      have l2 : W1.heap.size ≤ g1 := by rw [hg2]; exact pbZ (by repeat (first | (with_reducible first | exact bA | apply pbA | apply pbN | apply pb1) | exact bA))
      have hne : g2 ≠ g1 := by rw [hg2]; exact Nat.ne_of_lt (blk_lt (o := .cells #[.int .i64 0, .string ⟨#[]⟩, .string ⟨#[]⟩, .int .i64 0, .slice none 0 0, .int .i64 0] 26 (0, 0)) (by (with_reducible repeat (first | refine bkN ?_ _ | refine bkD ?_ | refine bkA ?_ _)); exact hbox))
      exact norm_ (by simp only [putAll, Act.put, List.setIfInBounds_toArray, List.set_cons_zero, List.set_cons_succ]) (hCont (g1, g2) _ ⟨hHeld, bB, hbox2, BZ, l2, l1, hne.symm⟩)
    have m0 := blk_lt BW0
    have m1 := blk_lt BW1
    have m2 := blk_lt BW2
    have m9 := blk_lt B9
    have m10 := blk_lt B10
    rintro ⟨g1, g2⟩ w4 ⟨hS, hb4, G1, G2, l1, l2, hne⟩
    have hHeld : w4.cell? ⟨w.heap.size, 0, none⟩ = some (.int .i64 a0_0) ∧ w4.cell? ⟨w.heap.size, 1, none⟩ = some (.string a0_1) ∧ w4.cell? ⟨w.heap.size, 2, none⟩ = some (.string a0_2) ∧ w4.cell? ⟨w.heap.size, 3, none⟩ = some (.int .i64 (wrap64 (a0_3 + 1))) ∧ w4.cell? ⟨w.heap.size, 4, none⟩ = some (.slice A0_4 l0_4.length c0_4) ∧ w4.cell? ⟨w.heap.size, 5, none⟩ = some (.int .i64 a0_5) := hS
    clear hS
    simp only at G1 G2 l1 l2 hne
    have HB4 : Below w.heap.size w w4 := pbT HBW hb4
    replace BW0 := bkB BW0 hb4
    replace BW1 := bkB BW1 hb4
    replace BW2 := bkB BW2 hb4
    replace B9 := bkB B9 hb4
    replace B10 := bkB B10 hb4
    have lw : w.heap.size ≤ W1.heap.size := pbZ HBW
    clear hb4 HBW
    refine norm_ (a' := ?_) ?_ ?_
    rotate_left
    ·simp only [putAll, Act.put, List.setIfInBounds_toArray, List.set_cons_zero, List.set_cons_succ]
     rfl
    refine one_ (i := 4) (N := none) #[true, true, true, true, true, false] rfl rfl (by kernel_rfl) (by decide) (fun K hK => ?_)
    obtain ⟨z0, z1, z2, z3, z4, z5, f0, f1, f2, f3, f4, f5, L0⟩ := six G1
    refine skip_ (w1 := ?_) (by rfl) rfl ?_ ?_
    rotate_left
    ·go_simp
     rfl
    clear z0 z1 z2 z3 z4 z5 f0 f1 f2 f3 f4 f5 L0
    have BX := far6 (g := g1) (v0 := .int .i64 a0_0) (v1 := .string a0_1) (v2 := .string a0_2) (v3 := .int .i64 (wrap64 (a0_3 + 1))) (v4 := .slice A0_4 l0_4.length c0_4) (v5 := .int .i64 a0_5) BW0 (by omega)
    have C1 := far6 (g := g1) (v0 := .int .i64 a0_0) (v1 := .string a0_1) (v2 := .string a0_2) (v3 := .int .i64 (wrap64 (a0_3 + 1))) (v4 := .slice A0_4 l0_4.length c0_4) (v5 := .int .i64 a0_5) BW1 (by omega)
    have C2 := far6 (g := g1) (v0 := .int .i64 a0_0) (v1 := .string a0_1) (v2 := .string a0_2) (v3 := .int .i64 (wrap64 (a0_3 + 1))) (v4 := .slice A0_4 l0_4.length c0_4) (v5 := .int .i64 a0_5) BW2 (by omega)
    have C9 := far6 (g := g1) (v0 := .int .i64 a0_0) (v1 := .string a0_1) (v2 := .string a0_2) (v3 := .int .i64 (wrap64 (a0_3 + 1))) (v4 := .slice A0_4 l0_4.length c0_4) (v5 := .int .i64 a0_5) B9 (by omega)
    have C10 := far6 (g := g1) (v0 := .int .i64 a0_0) (v1 := .string a0_1) (v2 := .string a0_2) (v3 := .int .i64 (wrap64 (a0_3 + 1))) (v4 := .slice A0_4 l0_4.length c0_4) (v5 := .int .i64 a0_5) B10 (by omega)
    have CG2 := far6 (g := g1) (v0 := .int .i64 a0_0) (v1 := .string a0_1) (v2 := .string a0_2) (v3 := .int .i64 (wrap64 (a0_3 + 1))) (v4 := .slice A0_4 l0_4.length c0_4) (v5 := .int .i64 a0_5) G2 (by omega)
    have CG1 := put6 (v0 := .int .i64 a0_0) (v1 := .string a0_1) (v2 := .string a0_2) (v3 := .int .i64 (wrap64 (a0_3 + 1))) (v4 := .slice A0_4 l0_4.length c0_4) (v5 := .int .i64 a0_5) G1
    have CB := below6 (v0 := .int .i64 a0_0) (v1 := .string a0_1) (v2 := .string a0_2) (v3 := .int .i64 (wrap64 (a0_3 + 1))) (v4 := .slice A0_4 l0_4.length c0_4) (v5 := .int .i64 a0_5) HB4 (Nat.le_trans lw l1)
    refine hK.out _ _ ⟨(bkC BX 0).trans rfl, (bkC BX 1).trans rfl, (bkC BX 2).trans rfl, (bkC BX 3).trans rfl, (bkC BX 4).trans rfl, (bkC BX 5).trans rfl⟩ (fun hHeld => ?_)
    clear hK K BW0 BW1 BW2 B9 B10 G1 G2 HB4 hHeld
    generalize ((((((w4.setCell ⟨g1, 0, none⟩ (.int .i64 a0_0)).setCell ⟨g1, 1, none⟩ (.string a0_1)).setCell ⟨g1, 2, none⟩ (.string a0_2)).setCell ⟨g1, 3, none⟩ (.int .i64 (wrap64 (a0_3 + 1)))).setCell ⟨g1, 4, none⟩ (.slice A0_4 l0_4.length c0_4)).setCell ⟨g1, 5, none⟩ (.int .i64 a0_5)) = w5 at BX C1 C2 C9 C10 CG1 CG2 CB ⊢
    have hHeld : w5.cell? ⟨w.heap.size, 0, none⟩ = some (.int .i64 a0_0) ∧ w5.cell? ⟨w.heap.size, 1, none⟩ = some (.string a0_1) ∧ w5.cell? ⟨w.heap.size, 2, none⟩ = some (.string a0_2) ∧ w5.cell? ⟨w.heap.size, 3, none⟩ = some (.int .i64 (wrap64 (a0_3 + 1))) ∧ w5.cell? ⟨w.heap.size, 4, none⟩ = some (.slice A0_4 l0_4.length c0_4) ∧ w5.cell? ⟨w.heap.size, 5, none⟩ = some (.int .i64 a0_5) := ⟨(bkC BX 0).trans rfl, (bkC BX 1).trans rfl, (bkC BX 2).trans rfl, (bkC BX 3).trans rfl, (bkC BX 4).trans rfl, (bkC BX 5).trans rfl⟩
    refine one_ (i := 5) (N := none) #[true, true, true, true, true, true] rfl rfl (by kernel_rfl) (by decide) (fun K hK => ?_)
    obtain ⟨z0, z1, z2, z3, z4, z5, f0, f1, f2, f3, f4, f5, L0⟩ := six CG2
    refine skip_ (w1 := ?_) (by rfl) rfl ?_ ?_
    rotate_left
    ·go_simp
     rfl
    clear z0 z1 z2 z3 z4 z5 f0 f1 f2 f3 f4 f5 L0
    have BY := far6 (g := g2) (v0 := .int .i64 a0_0) (v1 := .string a0_1) (v2 := .string a0_2) (v3 := .int .i64 (wrap64 (a0_3 + 1))) (v4 := .slice A0_4 l0_4.length c0_4) (v5 := .int .i64 a0_5) BX (by omega)
    have D1 := far6 (g := g2) (v0 := .int .i64 a0_0) (v1 := .string a0_1) (v2 := .string a0_2) (v3 := .int .i64 (wrap64 (a0_3 + 1))) (v4 := .slice A0_4 l0_4.length c0_4) (v5 := .int .i64 a0_5) C1 (by omega)
    have D2 := far6 (g := g2) (v0 := .int .i64 a0_0) (v1 := .string a0_1) (v2 := .string a0_2) (v3 := .int .i64 (wrap64 (a0_3 + 1))) (v4 := .slice A0_4 l0_4.length c0_4) (v5 := .int .i64 a0_5) C2 (by omega)
    have D9 := far6 (g := g2) (v0 := .int .i64 a0_0) (v1 := .string a0_1) (v2 := .string a0_2) (v3 := .int .i64 (wrap64 (a0_3 + 1))) (v4 := .slice A0_4 l0_4.length c0_4) (v5 := .int .i64 a0_5) C9 (by omega)
    have D10 := far6 (g := g2) (v0 := .int .i64 a0_0) (v1 := .string a0_1) (v2 := .string a0_2) (v3 := .int .i64 (wrap64 (a0_3 + 1))) (v4 := .slice A0_4 l0_4.length c0_4) (v5 := .int .i64 a0_5) C10 (by omega)
    have DG1 := far6 (g := g2) (v0 := .int .i64 a0_0) (v1 := .string a0_1) (v2 := .string a0_2) (v3 := .int .i64 (wrap64 (a0_3 + 1))) (v4 := .slice A0_4 l0_4.length c0_4) (v5 := .int .i64 a0_5) CG1 hne
    have DG2 := put6 (v0 := .int .i64 a0_0) (v1 := .string a0_1) (v2 := .string a0_2) (v3 := .int .i64 (wrap64 (a0_3 + 1))) (v4 := .slice A0_4 l0_4.length c0_4) (v5 := .int .i64 a0_5) CG2
    have DB := below6 (v0 := .int .i64 a0_0) (v1 := .string a0_1) (v2 := .string a0_2) (v3 := .int .i64 (wrap64 (a0_3 + 1))) (v4 := .slice A0_4 l0_4.length c0_4) (v5 := .int .i64 a0_5) CB (Nat.le_trans lw l2)
    refine hK.out _ _ ⟨(bkC BY 0).trans rfl, (bkC BY 1).trans rfl, (bkC BY 2).trans rfl, (bkC BY 3).trans rfl, (bkC BY 4).trans rfl, (bkC BY 5).trans rfl⟩ (fun hHeld => ?_)
    clear hK K BX C1 C2 C9 C10 CG1 CG2 CB hHeld
    generalize ((((((w5.setCell ⟨g2, 0, none⟩ (.int .i64 a0_0)).setCell ⟨g2, 1, none⟩ (.string a0_1)).setCell ⟨g2, 2, none⟩ (.string a0_2)).setCell ⟨g2, 3, none⟩ (.int .i64 (wrap64 (a0_3 + 1)))).setCell ⟨g2, 4, none⟩ (.slice A0_4 l0_4.length c0_4)).setCell ⟨g2, 5, none⟩ (.int .i64 a0_5)) = w6 at BY D1 D2 D9 D10 DG1 DG2 DB ⊢
    refine done_ (by kernel_rfl) ?_
    obtain ⟨z0, z1, z2, z3, z4, z5, f0, f1, f2, f3, f4, f5, L0⟩ := six DG1
    have q0 : w6.cell? ⟨w2.heap.size, 0, none⟩ = some (.string a0_1) := (bkC D9 0).trans rfl
    have q1 : w6.cell? ⟨w2.heap.size, 1, none⟩ = some (.string a1) := (bkC D9 1).trans rfl
    try go_wp2
    clear z0 z1 z2 z3 z4 z5 f0 f1 f2 f3 f4 f5 q0 q1
    replace BY := blk_far (blk_far BY (p := ⟨g1, 1, none⟩) (by simp only; omega) (.string a0_1)) (p := ⟨g1, 2, none⟩) (by simp only; omega) (.string a1)
    replace D1 := blk_far (blk_far D1 (p := ⟨g1, 1, none⟩) (by simp only; omega) (.string a0_1)) (p := ⟨g1, 2, none⟩) (by simp only; omega) (.string a1)
    replace D2 := blk_far (blk_far D2 (p := ⟨g1, 1, none⟩) (by simp only; omega) (.string a0_1)) (p := ⟨g1, 2, none⟩) (by simp only; omega) (.string a1)
    replace D10 := blk_far (blk_far D10 (p := ⟨g1, 1, none⟩) (by simp only; omega) (.string a0_1)) (p := ⟨g1, 2, none⟩) (by simp only; omega) (.string a1)
    replace DG2 := blk_far (blk_far DG2 (p := ⟨g1, 1, none⟩) (by simp only; omega) (.string a0_1)) (p := ⟨g1, 2, none⟩) (by simp only; omega) (.string a1)
    have EG1 := blk_put (blk_put DG1 1 (.string a0_1) rfl) 2 (.string a1) rfl
    replace DB := pbS (j := 2) (v := .string a1) (pbS (j := 1) (v := .string a0_1) DB (Nat.le_trans lw l1)) (Nat.le_trans lw l1)
    simp only [List.setIfInBounds_toArray, List.set_cons_zero, List.set_cons_succ] at EG1
    clear DG1 D9
    generalize ((w6.setCell ⟨g1, 1, none⟩ (.string a0_1)).setCell ⟨g1, 2, none⟩ (.string a1)) = w7 at BY D1 D2 D10 DG2 EG1 DB ⊢
    obtain ⟨z0, z1, z2, z3, z4, z5, f0, f1, f2, f3, f4, f5, L0⟩ := six DG2
    have q0 : w7.cell? ⟨w2.heap.size + 1, 0, none⟩ = some (.string a1) := (bkC D10 0).trans rfl
    have q1 : w7.cell? ⟨w2.heap.size + 1, 1, none⟩ = some (.string a0_2) := (bkC D10 1).trans rfl
    go_region
    replace BY := bkD (blk_far (blk_far (blk_far BY (p := ⟨g2, 0, none⟩) (by simp only; omega) (.int .i64 a2)) (p := ⟨g2, 1, none⟩) (by simp only; omega) (.string a1)) (p := ⟨g2, 2, none⟩) (by simp only; omega) (.string a0_2))
    replace D1 := bkD (blk_far (blk_far (blk_far D1 (p := ⟨g2, 0, none⟩) (by simp only; omega) (.int .i64 a2)) (p := ⟨g2, 1, none⟩) (by simp only; omega) (.string a1)) (p := ⟨g2, 2, none⟩) (by simp only; omega) (.string a0_2))
    replace D2 := bkD (blk_far (blk_far (blk_far D2 (p := ⟨g2, 0, none⟩) (by simp only; omega) (.int .i64 a2)) (p := ⟨g2, 1, none⟩) (by simp only; omega) (.string a1)) (p := ⟨g2, 2, none⟩) (by simp only; omega) (.string a0_2))
    replace EG1 := bkD (blk_far (blk_far (blk_far EG1 (p := ⟨g2, 0, none⟩) (by simp only; omega) (.int .i64 a2)) (p := ⟨g2, 1, none⟩) (by simp only; omega) (.string a1)) (p := ⟨g2, 2, none⟩) (by simp only; omega) (.string a0_2))
    have EG2 := bkD (blk_put (blk_put (blk_put DG2 0 (.int .i64 a2) rfl) 1 (.string a1) rfl) 2 (.string a0_2) rfl)
    replace DB := pb1 (pbS (j := 2) (v := .string a0_2) (pbS (j := 1) (v := .string a1) (pbS (j := 0) (v := .int .i64 a2) DB (Nat.le_trans lw l2)) (Nat.le_trans lw l2)) (Nat.le_trans lw l2))
    simp only [List.setIfInBounds_toArray, List.set_cons_zero, List.set_cons_succ] at EG2
    clear DG2 D10 z0 z1 z2 z3 z4 z5 f0 f1 f2 f3 f4 f5 q0 q1 L0
    generalize ((((w7.setCell ⟨g2, 0, none⟩ (.int .i64 a2)).setCell ⟨g2, 1, none⟩ (.string a1)).setCell ⟨g2, 2, none⟩ (.string a0_2)).drew) = w8 at BY D1 D2 EG1 EG2 DB ⊢
    have HD := DB
    obtain ⟨z0, z1, z2, z3, z4, z5, f0, f1, f2, f3, f4, f5, L0⟩ := six EG2
    obtain ⟨x0, x1, x2, x3, x4, x5, d0, d1, d2, d3, d4, d5, M0⟩ := six BY
    have M1 := blk_lt D1
    have M2 := blk_lt D2
    by_cases c10 : c1 = 0
    ·subst c10
     rw [if_pos rfl] at h
     obtain ⟨c2, hc2, h⟩ := Option.bind_eq_some_iff.mp h
     by_cases c20 : c2 = 0
     ·subst c20
      rw [if_pos rfl] at h
      simp only [Option.some.injEq, Prod.mk.injEq] at h
      obtain ⟨rfl, rfl, rfl, rfl, rfl, rfl, rfl, rfl, rfl, rfl, rfl, rfl, rfl⟩ := h
      go_wp2_with (first | (go_at_call 46; refine (api_Member_46.calls A0_4 c0_4 l0_4 l0_4 _ (hG.below HD) (Kd.C_below HC.out HD) hcl (by unfold api_Member_46.f; rw [if_pos hml])).mono ?_; rintro e w9 ⟨vc, rfl, hR, hb⟩; obtain ⟨A3, c3, rfl⟩ := Kd.R_slice hR; have J1 := bkB D1 hb; have J2 := bkB D2 hb; have JG1 := bkB EG1 hb; have JG2 := bkB EG2 hb; have HE := pbT HD hb; clear x0 x1 x2 x3 x4 x5 d0 d1 d2 d3 d4 d5 M0 z0 z1 z2 z3 z4 z5 f0 f1 f2 f3 f4 f5; obtain ⟨z0, z1, z2, z3, z4, z5, f0, f1, f2, f3, f4, f5, _⟩ := six JG2; obtain ⟨p0, p1, p2, p3, p4, p5, _⟩ := six JG1; have J3 := blk_put JG2 4 (.slice A3 l0_4.length c3) rfl; simp only [List.setIfInBounds_toArray, List.set_cons_zero, List.set_cons_succ] at J3; have JF := blk_far JG1 (p := ⟨g2, 4, none⟩) (by simp only; omega) (.slice A3 l0_4.length c3); replace J1 := blk_far J1 (p := ⟨g2, 4, none⟩) (by simp only; omega) (.slice A3 l0_4.length c3); replace J2 := blk_far J2 (p := ⟨g2, 4, none⟩) (by simp only; omega) (.slice A3 l0_4.length c3); replace HE := pbS (j := 4) (v := .slice A3 l0_4.length c3) HE (Nat.le_trans lw l2); replace hR := Kd.R_far (Kd.R_mono (Kd.R_bound hR) (fun k hk => (⟨hk.2.1, hk.2.2.1⟩ : w8.heap.size ≤ k ∧ k < w9.heap.size))) (p := ⟨g2, 4, none⟩) (fun k hk => by simp only; omega) (.slice A3 l0_4.length c3); have lz := pbZ hb) | (go_at_call 13; (with_reducible refine (K1 _ HE).out.mono ?_); rintro e w10 ⟨rfl, hbc⟩; clear z0 z1 z2 z3 z4 z5 f0 f1 f2 f3 f4 f5 p0 p1 p2 p3 p4 p5; replace J1 := bkB J1 hbc; replace J2 := bkB J2 hbc; replace J3 := bkB J3 hbc; replace JF := bkB JF hbc; replace HE := pbT HE hbc; replace hR := Kd.R_below hR hbc; obtain ⟨z0, z1, z2, z3, z4, z5, f0, f1, f2, f3, f4, f5, _⟩ := six J3; obtain ⟨p0, p1, p2, p3, p4, p5, _⟩ := six JF; obtain ⟨x0, x1, x2, x3, x4, x5, d0, d1, d2, d3, d4, d5, N1⟩ := six J1; obtain ⟨y0, y1, y2, y3, y4, y5, e0, e1, e2, e3, e4, e5, N2⟩ := six J2) | (go_at_call 13; (with_reducible refine (desc_Check.calls a2 a1 a0_2 (wrap64 (a0_3 + 1)) A3 c3 l0_4 a0_5 _ _ (hG.below HE) (Kd.R_reads' hR).2.2 (Kd.R_reads' hR).2.1 hc2).mono ?_); rintro e w11 ⟨rfl, hbd⟩; clear z0 z1 z2 z3 z4 z5 f0 f1 f2 f3 f4 f5 p0 p1 p2 p3 p4 p5 x0 x1 x2 x3 x4 x5 d0 d1 d2 d3 d4 d5 y0 y1 y2 y3 y4 y5 e0 e1 e2 e3 e4 e5; replace J1 := bkB J1 hbd; replace J2 := bkB J2 hbd; replace J3 := bkB J3 hbd; replace JF := bkB JF hbd; replace HE := pbT HE hbd; replace hR := Kd.R_below hR hbd; obtain ⟨z0, z1, z2, z3, z4, z5, f0, f1, f2, f3, f4, f5, _⟩ := six J3; obtain ⟨p0, p1, p2, p3, p4, p5, _⟩ := six JF; obtain ⟨x0, x1, x2, x3, x4, x5, d0, d1, d2, d3, d4, d5, N1⟩ := six J1; obtain ⟨y0, y1, y2, y3, y4, y5, e0, e1, e2, e3, e4, e5, N2⟩ := six J2) | fail)
      go_region
      go_wp2
      refine bodyPost_ret (split_res (w.heap.size + 1) (w.heap.size + 1 + 1) rfl rfl (bkD (far6 (put6 J1) (by omega))) (bkD (put6 (far6 J2 (by omega))))) rfl ?_
      refine ⟨_, _, rfl, ?_, ?_, pb1 (below6 (below6 HE (by omega)) (by omega))⟩
      ·refine Kd.V_mk hcl (Kd.F_mono (Kd.F_below HF.out (pb1 (below6 (below6 HE (by omega)) (by omega)))) (fun k hk => ⟨.inl hk.1, ?_⟩))
       intro e
       have := (hR.1 k e.symm).1
       omega
      ·exact Kd.R_mono (Kd.R_lower (Kd.R_drew (R_far6 (R_far6 hR (fun k hk => by omega)) (fun k hk => by omega))) (Nat.le_trans (pbZ HD) (Nat.le_refl _))) (fun k hk => by omega)
     ·rw [if_neg c20] at h
      have q2 : (c2 != 0) = true := by simpa using c20
      simp only [Option.some.injEq, Prod.mk.injEq] at h
      obtain ⟨rfl, rfl, rfl, rfl, rfl, rfl, rfl, rfl, rfl, rfl, rfl, rfl, rfl⟩ := h
      go_wp2_with (first | (go_at_call 46; refine (api_Member_46.calls A0_4 c0_4 l0_4 l0_4 _ (hG.below HD) (Kd.C_below HC.out HD) hcl (by unfold api_Member_46.f; rw [if_pos hml])).mono ?_; rintro e w9 ⟨vc, rfl, hR, hb⟩; obtain ⟨A3, c3, rfl⟩ := Kd.R_slice hR; have J1 := bkB D1 hb; have J2 := bkB D2 hb; have JG1 := bkB EG1 hb; have JG2 := bkB EG2 hb; have HE := pbT HD hb; clear x0 x1 x2 x3 x4 x5 d0 d1 d2 d3 d4 d5 M0 z0 z1 z2 z3 z4 z5 f0 f1 f2 f3 f4 f5; obtain ⟨z0, z1, z2, z3, z4, z5, f0, f1, f2, f3, f4, f5, _⟩ := six JG2; obtain ⟨p0, p1, p2, p3, p4, p5, _⟩ := six JG1; have J3 := blk_put JG2 4 (.slice A3 l0_4.length c3) rfl; simp only [List.setIfInBounds_toArray, List.set_cons_zero, List.set_cons_succ] at J3; have JF := blk_far JG1 (p := ⟨g2, 4, none⟩) (by simp only; omega) (.slice A3 l0_4.length c3); replace J1 := blk_far J1 (p := ⟨g2, 4, none⟩) (by simp only; omega) (.slice A3 l0_4.length c3); replace J2 := blk_far J2 (p := ⟨g2, 4, none⟩) (by simp only; omega) (.slice A3 l0_4.length c3); replace HE := pbS (j := 4) (v := .slice A3 l0_4.length c3) HE (Nat.le_trans lw l2); replace hR := Kd.R_far (Kd.R_mono (Kd.R_bound hR) (fun k hk => (⟨hk.2.1, hk.2.2.1⟩ : w8.heap.size ≤ k ∧ k < w9.heap.size))) (p := ⟨g2, 4, none⟩) (fun k hk => by simp only; omega) (.slice A3 l0_4.length c3); have lz := pbZ hb) | (go_at_call 13; (with_reducible refine (K1 _ HE).out.mono ?_); rintro e w10 ⟨rfl, hbc⟩; clear z0 z1 z2 z3 z4 z5 f0 f1 f2 f3 f4 f5 p0 p1 p2 p3 p4 p5; replace J1 := bkB J1 hbc; replace J2 := bkB J2 hbc; replace J3 := bkB J3 hbc; replace JF := bkB JF hbc; replace HE := pbT HE hbc; replace hR := Kd.R_below hR hbc; obtain ⟨z0, z1, z2, z3, z4, z5, f0, f1, f2, f3, f4, f5, _⟩ := six J3; obtain ⟨p0, p1, p2, p3, p4, p5, _⟩ := six JF; obtain ⟨x0, x1, x2, x3, x4, x5, d0, d1, d2, d3, d4, d5, N1⟩ := six J1; obtain ⟨y0, y1, y2, y3, y4, y5, e0, e1, e2, e3, e4, e5, N2⟩ := six J2) | (go_at_call 13; (with_reducible refine (desc_Check.calls a2 a1 a0_2 (wrap64 (a0_3 + 1)) A3 c3 l0_4 a0_5 _ _ (hG.below HE) (Kd.R_reads' hR).2.2 (Kd.R_reads' hR).2.1 hc2).mono ?_); rintro e w11 ⟨rfl, hbd⟩; clear z0 z1 z2 z3 z4 z5 f0 f1 f2 f3 f4 f5 p0 p1 p2 p3 p4 p5 x0 x1 x2 x3 x4 x5 d0 d1 d2 d3 d4 d5 y0 y1 y2 y3 y4 y5 e0 e1 e2 e3 e4 e5; replace J1 := bkB J1 hbd; replace J2 := bkB J2 hbd; replace J3 := bkB J3 hbd; replace JF := bkB JF hbd; replace HE := pbT HE hbd; replace hR := Kd.R_below hR hbd; obtain ⟨z0, z1, z2, z3, z4, z5, f0, f1, f2, f3, f4, f5, _⟩ := six J3; obtain ⟨p0, p1, p2, p3, p4, p5, _⟩ := six JF; obtain ⟨x0, x1, x2, x3, x4, x5, d0, d1, d2, d3, d4, d5, N1⟩ := six J1; obtain ⟨y0, y1, y2, y3, y4, y5, e0, e1, e2, e3, e4, e5, N2⟩ := six J2) | fail)
      go_region
      go_wp2
      refine bodyPost_ret (split_res (w.heap.size + 1) (w.heap.size + 1 + 1) rfl rfl (bkD (far6 (put6 J1) (by omega))) (bkD (put6 (far6 J2 (by omega))))) rfl ?_
      exact ⟨_, _, rfl, Kd.V_nil _ _ _ _ _, Kd.R_nil _ _ _ _ _, pb1 (below6 (below6 HE (by omega)) (by omega))⟩
    ·rw [if_neg c10] at h
     have q1 : (c1 != 0) = true := by simpa using c10
     simp only [Option.some.injEq, Prod.mk.injEq] at h
     obtain ⟨rfl, rfl, rfl, rfl, rfl, rfl, rfl, rfl, rfl, rfl, rfl, rfl, rfl⟩ := h
     go_wp2_with (first | (go_at_call 46; refine (api_Member_46.calls A0_4 c0_4 l0_4 l0_4 _ (hG.below HD) (Kd.C_below HC.out HD) hcl (by unfold api_Member_46.f; rw [if_pos hml])).mono ?_; rintro e w9 ⟨vc, rfl, hR, hb⟩; obtain ⟨A3, c3, rfl⟩ := Kd.R_slice hR; have J1 := bkB D1 hb; have J2 := bkB D2 hb; have JG1 := bkB EG1 hb; have JG2 := bkB EG2 hb; have HE := pbT HD hb; clear x0 x1 x2 x3 x4 x5 d0 d1 d2 d3 d4 d5 M0 z0 z1 z2 z3 z4 z5 f0 f1 f2 f3 f4 f5; obtain ⟨z0, z1, z2, z3, z4, z5, f0, f1, f2, f3, f4, f5, _⟩ := six JG2; obtain ⟨p0, p1, p2, p3, p4, p5, _⟩ := six JG1; have J3 := blk_put JG2 4 (.slice A3 l0_4.length c3) rfl; simp only [List.setIfInBounds_toArray, List.set_cons_zero, List.set_cons_succ] at J3; have JF := blk_far JG1 (p := ⟨g2, 4, none⟩) (by simp only; omega) (.slice A3 l0_4.length c3); replace J1 := blk_far J1 (p := ⟨g2, 4, none⟩) (by simp only; omega) (.slice A3 l0_4.length c3); replace J2 := blk_far J2 (p := ⟨g2, 4, none⟩) (by simp only; omega) (.slice A3 l0_4.length c3); replace HE := pbS (j := 4) (v := .slice A3 l0_4.length c3) HE (Nat.le_trans lw l2); replace hR := Kd.R_far (Kd.R_mono (Kd.R_bound hR) (fun k hk => (⟨hk.2.1, hk.2.2.1⟩ : w8.heap.size ≤ k ∧ k < w9.heap.size))) (p := ⟨g2, 4, none⟩) (fun k hk => by simp only; omega) (.slice A3 l0_4.length c3); have lz := pbZ hb) | (go_at_call 13; (with_reducible refine (K1 _ HE).out.mono ?_); rintro e w10 ⟨rfl, hbc⟩; clear z0 z1 z2 z3 z4 z5 f0 f1 f2 f3 f4 f5 p0 p1 p2 p3 p4 p5; replace J1 := bkB J1 hbc; replace J2 := bkB J2 hbc; replace J3 := bkB J3 hbc; replace JF := bkB JF hbc; replace HE := pbT HE hbc; replace hR := Kd.R_below hR hbc; obtain ⟨z0, z1, z2, z3, z4, z5, f0, f1, f2, f3, f4, f5, _⟩ := six J3; obtain ⟨p0, p1, p2, p3, p4, p5, _⟩ := six JF; obtain ⟨x0, x1, x2, x3, x4, x5, d0, d1, d2, d3, d4, d5, N1⟩ := six J1; obtain ⟨y0, y1, y2, y3, y4, y5, e0, e1, e2, e3, e4, e5, N2⟩ := six J2) | fail)
     go_region
     go_wp2
     refine bodyPost_ret (split_res (w.heap.size + 1) (w.heap.size + 1 + 1) rfl rfl (bkD (far6 (put6 J1) (by omega))) (bkD (put6 (far6 J2 (by omega))))) rfl ?_
     exact ⟨_, _, rfl, Kd.V_nil _ _ _ _ _, Kd.R_nil _ _ _ _ _, pb1 (below6 (below6 HE (by omega)) (by omega))⟩
 ·rw [if_neg c0] at h
  simp only [Option.some.injEq, Prod.mk.injEq] at h
  obtain ⟨rfl, rfl, rfl, rfl, rfl, rfl, rfl, rfl, rfl, rfl, rfl, rfl, rfl⟩ := h
  have q : (c != 0) = true := by simpa using c0
  clear KK
  go_enter Tryz.func20, Tryz.ntmps20
  go_wp2_with (first | (go_at_call 13; refine (K0 _ (pbA (pbA (pbA (Below.refl _ _) _) _) _)).out.mono ?_; rintro e w1 ⟨rfl, hb⟩; have B0 := three_old hb () (); have B1 := three_mid2 hb () (); have B2 := three_new hb () (); obtain ⟨z0, z1, z2, z3, z4, z5, f0, f1, f2, f3, f4, f5, L0⟩ := six B1; obtain ⟨y0, y1, y2, y3, y4, y5, e0, e1, e2, e3, e4, e5, L1⟩ := six B2; have HB := pbT (pbA (pbA (pbA (Below.refl _ _) _) _) _) hb) | go_in)
  go_region
  go_wp2
  refine bodyPost_ret (split_ret (w.heap.size + 1) (w.heap.size + 1 + 1) rfl rfl (by omega) B1 B2 rfl) rfl ?_
  exact ⟨_, _, rfl, Kd.V_nil _ _ _ _ _, Kd.R_nil _ _ _ _ _, pb1 (below6 (below6 HB (by omega)) (by omega))⟩
end Go.Proofs.YtjfhcijjjadhbaaGreatDoor.P
end
