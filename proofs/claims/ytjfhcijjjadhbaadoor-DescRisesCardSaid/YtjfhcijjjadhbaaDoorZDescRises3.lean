import Derived.Test.YtjfhcijjjadhbaaDoorZDescRises1
import Derived.Test.YtjfhcijjjadhbaaDoorZDescRises2
import Derived.Deep.DrawnRows
import Derived.Deep.RegionHeld3
import Derived.Lib.Hide
set_option linter.unusedVariables false
set_option linter.unusedSimpArgs false
set_option linter.unnecessarySimpa false
section
namespace Go.Proofs.YtjfhcijjjadhbaaDoor.P
open Go.RowKit Go.Proofs.YtjfhcijjjadhbaaDoor.K Go.Proofs.YtjfhcijjjadhbaaDoorW.PrintWords Go.Proofs.YtjfhcijjjadhbaaDoorW.PrintLast Go.Proofs.YtjfhcijjjadhbaaDoorW.PrintMore
attribute [local go_sem] max2_int min2_int max_two min_two max_three min_three max_four min_four   -- for this text's walks alone
def desc_Add.f (a0_0 : Int) (a0_1 : ByteArray) (a0_2 : ByteArray) (a0_3 : Int) (l0_4 : List (S60)) (a0_5 : Int) (a1 : Int) : Option (Int × ByteArray × ByteArray × Int × (List (S60)) × Int × Int) := (desc_On.f a0_0 a0_1 a0_2 a0_3 l0_4 a0_5 a1).bind fun bt235 => ((desc_Check.f a0_0 a0_1 a0_2 a0_3 l0_4 a0_5).bind fun t239 => (if t239 = 0 then ((desc_isNode.f a1).bind fun t240 => (if t240 = true then (if bt235.2.2 = true then (some (0, (⟨#[]⟩ : ByteArray), (⟨#[]⟩ : ByteArray), 0, ([] : List (S60)), 0, 8)) else (if (l0_4.length : Int) ≥ 5 then (some (0, (⟨#[]⟩ : ByteArray), (⟨#[]⟩ : ByteArray), 0, ([] : List (S60)), 0, 6)) else ((api_Member_33.f l0_4).bind fun t241 => ((some (([(⟨a1, a0_5⟩ : S60)] : List (S60)) : List (S60))).bind fun y244 => (if t241.length + y244.length < 8796093022208 then ((desc_right.f a0_0 a0_1 a0_2 (wrap64 (a0_3 + 1)) (t241 ++ y244) (wrap64 (a0_5 + 1))).bind fun bt250 => (some (bt250.1, bt250.2.1, bt250.2.2.1, bt250.2.2.2.1, bt250.2.2.2.2.1, bt250.2.2.2.2.2.1, bt250.2.2.2.2.2.2))) else (none)))))) else (some (0, (⟨#[]⟩ : ByteArray), (⟨#[]⟩ : ByteArray), 0, ([] : List (S60)), 0, 2)))) else (some (0, (⟨#[]⟩ : ByteArray), (⟨#[]⟩ : ByteArray), 0, ([] : List (S60)), 0, 60))))
def desc_Add.T10 : Bool × List (List Nat × List Nat) := (true, [([], []), ([0], [0]), ([1], [1]), ([], []), ([], []), ([4], [4]), ([3, 5], [3, 5]), ([6], [6]), ([2, 7, 2], [2, 7]), ([0, 1, 2, 3, 4, 5, 6, 7, 8], []), ([9, 8, 8, 0, 1, 2, 3, 4, 5, 6, 7, 8], [8, 9])])
def desc_Add.B10 : List Nat := [0, 1, 3, 0, 0, 16, 56, 120, 255, 511, 1023]
theorem desc_Add.tab10 : rtab .any (opsOf Tryd.f25 10) = desc_Add.T10 := by kernel_rfl
theorem desc_Add.bits10 : waitsOk desc_Add.T10.2 desc_Add.B10 = true := by kernel_rfl
set_option maxHeartbeats 8000000 in
set_option maxRecDepth 100000 in
theorem desc_Add.calls (a0_0 : Int) (a0_1 : ByteArray) (a0_2 : ByteArray) (a0_3 : Int) (A0_4 : Option Addr) (c0_4 : Nat) (l0_4 : List (S60)) (a0_5 : Int) (a1 : Int) (r1 : Int) (r2 : ByteArray) (r3 : ByteArray) (r4 : Int) (r5 : List (S60)) (r6 : Int) (r7 : Int) (w : World) (hG : TheG w) (hr0_4 : Kd.C k60 w A0_4 l0_4.length l0_4) (hc0_4 : l0_4.length ≤ c0_4) (h : desc_Add.f a0_0 a0_1 a0_2 a0_3 l0_4 a0_5 a1 = some (r1, r2, r3, r4, r5, r6, r7)) :
 Calls Tryd.prog 25 #[.agg #[.int .i64 a0_0, .string a0_1, .string a0_2, .int .i64 a0_3, .slice A0_4 l0_4.length c0_4, .int .i64 a0_5], .int .i64 a1] w fun e w' => ∃ v4_ : Value, e = .returned (.tuple #[.agg #[.int .i64 r1, .string r2, .string r3, .int .i64 r4, v4_, .int .i64 r6], .int .i64 r7]) ∧ Kd.V k60 60 w' w.heap.size (fun k_ => (w.heap.size ≤ k_)) v4_ r5 ∧ Below w.heap.size w w' := by
 have hu26 := Tryd.underlying26
 have hu60 := Tryd.underlying60
 have HR0_4 := Az.mk hr0_4
 have HC0_4 := Az.mk hc0_4
 clear hr0_4 hc0_4
 have HB := Az.mk (Below.refl w.heap.size w)
 have H : ((desc_On.f a0_0 a0_1 a0_2 a0_3 l0_4 a0_5 a1).bind fun bt235 => ((desc_Check.f a0_0 a0_1 a0_2 a0_3 l0_4 a0_5).bind fun t239 => (if t239 = 0 then ((desc_isNode.f a1).bind fun t240 => (if t240 = true then (if bt235.2.2 = true then (some (0, (⟨#[]⟩ : ByteArray), (⟨#[]⟩ : ByteArray), 0, ([] : List (S60)), 0, 8)) else (if (l0_4.length : Int) ≥ 5 then (some (0, (⟨#[]⟩ : ByteArray), (⟨#[]⟩ : ByteArray), 0, ([] : List (S60)), 0, 6)) else ((api_Member_33.f l0_4).bind fun t241 => ((some (([(⟨a1, a0_5⟩ : S60)] : List (S60)) : List (S60))).bind fun y244 => (if t241.length + y244.length < 8796093022208 then ((desc_right.f a0_0 a0_1 a0_2 (wrap64 (a0_3 + 1)) (t241 ++ y244) (wrap64 (a0_5 + 1))).bind fun bt250 => (some (bt250.1, bt250.2.1, bt250.2.2.1, bt250.2.2.2.1, bt250.2.2.2.2.1, bt250.2.2.2.2.2.1, bt250.2.2.2.2.2.2))) else (none)))))) else (some (0, (⟨#[]⟩ : ByteArray), (⟨#[]⟩ : ByteArray), 0, ([] : List (S60)), 0, 2)))) else (some (0, (⟨#[]⟩ : ByteArray), (⟨#[]⟩ : ByteArray), 0, ([] : List (S60)), 0, 60))))) = some (r1, r2, r3, r4, r5, r6, r7) := h
 clear h
 replace H := Option.bind_eq_some_iff.mp H
 obtain ⟨⟨t235, t236, t237⟩, A30, H⟩ := H
 replace H : ((desc_Check.f a0_0 a0_1 a0_2 a0_3 l0_4 a0_5).bind fun t239 => (if t239 = 0 then ((desc_isNode.f a1).bind fun t240 => (if t240 = true then (if t237 = true then (some (0, (⟨#[]⟩ : ByteArray), (⟨#[]⟩ : ByteArray), 0, ([] : List (S60)), 0, 8)) else (if (l0_4.length : Int) ≥ 5 then (some (0, (⟨#[]⟩ : ByteArray), (⟨#[]⟩ : ByteArray), 0, ([] : List (S60)), 0, 6)) else ((api_Member_33.f l0_4).bind fun t241 => ((some (([(⟨a1, a0_5⟩ : S60)] : List (S60)) : List (S60))).bind fun y244 => (if t241.length + y244.length < 8796093022208 then ((desc_right.f a0_0 a0_1 a0_2 (wrap64 (a0_3 + 1)) (t241 ++ y244) (wrap64 (a0_5 + 1))).bind fun bt250 => (some (bt250.1, bt250.2.1, bt250.2.2.1, bt250.2.2.2.1, bt250.2.2.2.2.1, bt250.2.2.2.2.2.1, bt250.2.2.2.2.2.2))) else (none)))))) else (some (0, (⟨#[]⟩ : ByteArray), (⟨#[]⟩ : ByteArray), 0, ([] : List (S60)), 0, 2)))) else (some (0, (⟨#[]⟩ : ByteArray), (⟨#[]⟩ : ByteArray), 0, ([] : List (S60)), 0, 60)))) = some (r1, r2, r3, r4, r5, r6, r7) := H
 have A3 := Az.mk A30
 clear A30
 replace H := Option.bind_eq_some_iff.mp H
 obtain ⟨t239, A40, H⟩ := H
 replace H : (if t239 = 0 then ((desc_isNode.f a1).bind fun t240 => (if t240 = true then (if t237 = true then (some (0, (⟨#[]⟩ : ByteArray), (⟨#[]⟩ : ByteArray), 0, ([] : List (S60)), 0, 8)) else (if (l0_4.length : Int) ≥ 5 then (some (0, (⟨#[]⟩ : ByteArray), (⟨#[]⟩ : ByteArray), 0, ([] : List (S60)), 0, 6)) else ((api_Member_33.f l0_4).bind fun t241 => ((some (([(⟨a1, a0_5⟩ : S60)] : List (S60)) : List (S60))).bind fun y244 => (if t241.length + y244.length < 8796093022208 then ((desc_right.f a0_0 a0_1 a0_2 (wrap64 (a0_3 + 1)) (t241 ++ y244) (wrap64 (a0_5 + 1))).bind fun bt250 => (some (bt250.1, bt250.2.1, bt250.2.2.1, bt250.2.2.2.1, bt250.2.2.2.2.1, bt250.2.2.2.2.2.1, bt250.2.2.2.2.2.2))) else (none)))))) else (some (0, (⟨#[]⟩ : ByteArray), (⟨#[]⟩ : ByteArray), 0, ([] : List (S60)), 0, 2)))) else (some (0, (⟨#[]⟩ : ByteArray), (⟨#[]⟩ : ByteArray), 0, ([] : List (S60)), 0, 60))) = some (r1, r2, r3, r4, r5, r6, r7) := H
 have A4 := Az.mk A40
 clear A40
 by_cases c5 : t239 = 0
 ·rw [if_pos c5] at H
  have c5b0 : (t239 == 0) = true := beq_iff_eq.mpr c5
  have c5b1 : (t239 != 0) = false := bne_eq_false_iff_eq.mpr c5
  clear c5
  replace H := Option.bind_eq_some_iff.mp H
  obtain ⟨t240, A60, H⟩ := H
  replace H : (if t240 = true then (if t237 = true then (some (0, (⟨#[]⟩ : ByteArray), (⟨#[]⟩ : ByteArray), 0, ([] : List (S60)), 0, 8)) else (if (l0_4.length : Int) ≥ 5 then (some (0, (⟨#[]⟩ : ByteArray), (⟨#[]⟩ : ByteArray), 0, ([] : List (S60)), 0, 6)) else ((api_Member_33.f l0_4).bind fun t241 => ((some (([(⟨a1, a0_5⟩ : S60)] : List (S60)) : List (S60))).bind fun y244 => (if t241.length + y244.length < 8796093022208 then ((desc_right.f a0_0 a0_1 a0_2 (wrap64 (a0_3 + 1)) (t241 ++ y244) (wrap64 (a0_5 + 1))).bind fun bt250 => (some (bt250.1, bt250.2.1, bt250.2.2.1, bt250.2.2.2.1, bt250.2.2.2.2.1, bt250.2.2.2.2.2.1, bt250.2.2.2.2.2.2))) else (none)))))) else (some (0, (⟨#[]⟩ : ByteArray), (⟨#[]⟩ : ByteArray), 0, ([] : List (S60)), 0, 2))) = some (r1, r2, r3, r4, r5, r6, r7) := H
  have A6 := Az.mk A60
  clear A60
  by_cases c7 : t240 = true
  ·subst c7
   have H1 : (if t237 = true then (some (0, (⟨#[]⟩ : ByteArray), (⟨#[]⟩ : ByteArray), 0, ([] : List (S60)), 0, 8)) else (if (l0_4.length : Int) ≥ 5 then (some (0, (⟨#[]⟩ : ByteArray), (⟨#[]⟩ : ByteArray), 0, ([] : List (S60)), 0, 6)) else ((api_Member_33.f l0_4).bind fun t241 => ((some (([(⟨a1, a0_5⟩ : S60)] : List (S60)) : List (S60))).bind fun y244 => (if t241.length + y244.length < 8796093022208 then ((desc_right.f a0_0 a0_1 a0_2 (wrap64 (a0_3 + 1)) (t241 ++ y244) (wrap64 (a0_5 + 1))).bind fun bt250 => (some (bt250.1, bt250.2.1, bt250.2.2.1, bt250.2.2.2.1, bt250.2.2.2.2.1, bt250.2.2.2.2.2.1, bt250.2.2.2.2.2.2))) else (none)))))) = some (r1, r2, r3, r4, r5, r6, r7) := by rw [if_pos rfl] at H; exact H
   clear H
   have H := H1
   clear H1
   by_cases c8 : t237 = true
   ·subst c8
    have H1 : (some (0, (⟨#[]⟩ : ByteArray), (⟨#[]⟩ : ByteArray), 0, ([] : List (S60)), 0, 8)) = some (r1, r2, r3, r4, r5, r6, r7) := by rw [if_pos rfl] at H; exact H
    clear H
    have H := H1
    clear H1
    simp only [Option.some.injEq, Prod.mk.injEq] at H
    obtain ⟨rfl, rfl, rfl, rfl, rfl, rfl, rfl⟩ := H
    go_enter Tryd.func25, Tryd.ntmps25
    go_wp2_with (first | ((with_reducible refine gate_dst (N := 2) rfl ?_); refine box_event ?hg (N := 2) ?hd (cs := #[.int .i64 a0_0, .string a0_1, .string a0_2, .int .i64 a0_3, .slice A0_4 l0_4.length c0_4, .int .i64 a0_5]) (t := 26) ?hr ?_; (case hd => rfl); (case hg => rfl); (case hr => first | (go_simp; done) | (go_simp; rfl)); intro gb233 hg w9 hbox hb; have BK233 := Az.mk (hbox); have GW233 := Az.mk (geO hg (pbE HB.out)); have GE233 := Az.mk (geO hg (pbE HB.out)); replace HB := Az.mk (pbT (by exact pbE HB.out) hb); clear hb hbox hg) | ((with_reducible refine gate_dst (N := 4) rfl ?_); refine box_event ?hg (N := 4) ?hd (cs := #[.int .i64 0, .string (⟨#[]⟩ : ByteArray), .string (⟨#[]⟩ : ByteArray), .int .i64 0, .slice none 0 0, .int .i64 0]) (t := 26) ?hr ?_; (case hd => rfl); (case hg => rfl); (case hr => first | (go_simp; done) | (go_simp; rfl)); intro gb234 hg w10 hbox hb; have BK234 := Az.mk (hbox); have GW234 := Az.mk (geO hg (pbE HB.out)); have GE234 := Az.mk (geO hg (pbE HB.out)); replace HB := Az.mk (pbT (by exact pbE HB.out) hb); have NB233_234 := Az.mk (neO hg (bk BK233.out)); have NB234_233 := Az.mk (neP hg (bk BK233.out)); replace BK233 := Az.mk (bkB (bk BK233.out) hb); clear hb hbox hg; have hnb11 := NB233_234.out; have hnc11 := NB234_233.out; have hcz12 := cells6 BK233.out) | ((with_reducible refine gtc (f := 30) rfl ?_); refine goesL_ (some 11) rfl rfl Tryd.func30 (by kernel_rfl) rfl #[.agg #[.int .i64 a0_0, .string a0_1, .string a0_2, .int .i64 a0_3, .slice A0_4 l0_4.length c0_4, .int .i64 a0_5], .int .i64 a1] rfl (by (try simp only [List.map_toArray, List.map_cons, List.map_nil]); first | done | rfl | (simp only [List.length_drop, List.length_take]; rfl)) ?_; (with_reducible refine (desc_On.calls a0_0 a0_1 a0_2 a0_3 _ _ l0_4 a0_5 a1 t235 t236 true _ ?side1 ?side2 ?side3 A3.out).mono ?_); (case side1 => exact hG.below (by exact pbE HB.out)); (case side2 => repeat (first | exact (Kd.C_below HR0_4.out HB.out) | (with_reducible refine Kd.C_alloc ?_ _) | (with_reducible refine Kd.C_drewN ?_ _) | (with_reducible refine Kd.C_drew ?_))); (case side3 => exact HC0_4.out); rintro e w13 ⟨rfl, hb⟩; refine ⟨_, rfl, ?_⟩; replace BK233 := Az.mk (bkB (bk BK233.out) hb); replace BK234 := Az.mk (bkB (bk BK234.out) hb); replace HB := Az.mk (pbT (by exact pbE HB.out) hb); (try clear hb); (try clear hb2); (try clear hk); (try clear hi)) | ((with_reducible refine gate_dst (N := 6) rfl ?_); refine box_event ?hg (N := 6) ?hd (cs := #[.int .i64 0, .int .i64 0]) (t := 60) ?hr ?_; (case hd => rfl); (case hg => rfl); (case hr => first | (go_simp; done) | (go_simp; rfl)); intro gb238 hg w14 hbox hb; have BK238 := Az.mk (hbox); have GW238 := Az.mk (geO hg (pbE HB.out)); have GE238 := Az.mk (geO hg (pbE HB.out)); replace HB := Az.mk (pbT (by exact pbE HB.out) hb); have NB233_238 := Az.mk (neO hg (bk BK233.out)); have NB238_233 := Az.mk (neP hg (bk BK233.out)); replace BK233 := Az.mk (bkB (bk BK233.out) hb); have NB234_238 := Az.mk (neO hg (bk BK234.out)); have NB238_234 := Az.mk (neP hg (bk BK234.out)); replace BK234 := Az.mk (bkB (bk BK234.out) hb); clear hb hbox hg; have hnb15 := NB238_233.out; have hnc15 := NB233_238.out; have hnb16 := NB238_234.out; have hnc16 := NB234_238.out; have hcz17 := cells2 BK238.out; have hcz18 := cells6 BK233.out) | ((with_reducible refine gtc (f := 22) rfl ?_); refine goesL_ (some 16) rfl rfl Tryd.func22 (by kernel_rfl) rfl #[.agg #[.int .i64 a0_0, .string a0_1, .string a0_2, .int .i64 a0_3, .slice A0_4 l0_4.length c0_4, .int .i64 a0_5]] rfl (by (try simp only [List.map_toArray, List.map_cons, List.map_nil]); first | done | rfl | (simp only [List.length_drop, List.length_take]; rfl)) ?_; (with_reducible refine (desc_Check.calls a0_0 a0_1 a0_2 a0_3 _ _ l0_4 a0_5 t239 _ ?side1 ?side2 ?side3 A4.out).mono ?_); (case side1 => exact hG.below (by exact pbE HB.out)); (case side2 => exact Kd.C_below HR0_4.out (by exact pbE HB.out)); (case side3 => exact HC0_4.out); rintro e w19 ⟨rfl, hb⟩; refine ⟨_, rfl, ?_⟩; replace BK233 := Az.mk (bkB (bf BK233.out) hb); replace BK234 := Az.mk (bkB (bf BK234.out) hb); replace BK238 := Az.mk (bkB (g := gb238) (o := .cells #[.int .i64 t235, .int .i64 t236] 60 (0, 0)) (by refine bk ?_; refine blk_put (cs := #[.int .i64 t235, .int .i64 0]) ?_ 1 _ rfl; refine bk ?_; refine blk_put (cs := #[.int .i64 0, .int .i64 0]) ?_ 0 _ rfl; refine bk ?_; exact BK238.out) hb); replace HB := Az.mk (pbT (by exact pbE HB.out) hb); (try clear hb); (try clear hb2); (try clear hk); (try clear hi)) | ((with_reducible refine gtc (f := 49) rfl ?_); refine goesL_ (some 21) rfl rfl Tryd.func49 (by kernel_rfl) rfl #[.int .i64 a1] rfl (by (try simp only [List.map_toArray, List.map_cons, List.map_nil]); first | done | rfl | (simp only [List.length_drop, List.length_take]; rfl)) ?_; (with_reducible refine (desc_isNode.calls a1 true _ ?side1 A6.out).mono ?_); (case side1 => exact hG.below (by exact pbE HB.out)); rintro e w' ⟨rfl, ⟨nd, rfl⟩⟩; refine ⟨_, rfl, ?_⟩; (try (rw [drewN_self w19]; generalize hq_ : World.drewN w19 _ = w19; have n0_ : Az (w19.heap[gb233]? = some (.cells #[.int .i64 a0_0, .string a0_1, .string a0_2, .int .i64 a0_3, .slice A0_4 l0_4.length c0_4, .int .i64 a0_5] 26 (0, 0))) := ⟨by rw [← hq_]; exact (bk BK233.out)⟩; have n1_ : Az (w19.heap[gb234]? = some (.cells #[.int .i64 0, .string (⟨#[]⟩ : ByteArray), .string (⟨#[]⟩ : ByteArray), .int .i64 0, .slice none 0 0, .int .i64 0] 26 (0, 0))) := ⟨by rw [← hq_]; exact (bk BK234.out)⟩; have n2_ : Az (w19.heap[gb238]? = some (.cells #[.int .i64 t235, .int .i64 t236] 60 (0, 0))) := ⟨by rw [← hq_]; exact (bk BK238.out)⟩; have n3_ : Az (Below w.heap.size w w19) := ⟨by rw [← hq_]; exact (by exact pbE HB.out)⟩; clear BK233 BK234 BK238 HB hq_; have BK233 := n0_; have BK234 := n1_; have BK238 := n2_; have HB := n3_; clear n0_ n1_ n2_ n3_)); have hcz20 := cells6 BK234.out))
    refine bodyPost_ret (results_ct rfl _ _ gb234 26 #[.int .i64 0, .string (⟨#[]⟩ : ByteArray), .string (⟨#[]⟩ : ByteArray), .int .i64 0, .slice none 0 0, .int .i64 0] (0, 0) _ rfl (by refine bk ?_; refine blk_put (cs := #[.int .i64 0, .string (⟨#[]⟩ : ByteArray), .string (⟨#[]⟩ : ByteArray), .int .i64 0, .slice none 0 0, .int .i64 0]) ?_ 5 _ rfl; refine bk ?_; refine blk_put (cs := #[.int .i64 0, .string (⟨#[]⟩ : ByteArray), .string (⟨#[]⟩ : ByteArray), .int .i64 0, .slice none 0 0, .int .i64 0]) ?_ 4 _ rfl; refine bk ?_; refine blk_put (cs := #[.int .i64 0, .string (⟨#[]⟩ : ByteArray), .string (⟨#[]⟩ : ByteArray), .int .i64 0, .slice none 0 0, .int .i64 0]) ?_ 3 _ rfl; refine bk ?_; refine blk_put (cs := #[.int .i64 0, .string (⟨#[]⟩ : ByteArray), .string (⟨#[]⟩ : ByteArray), .int .i64 0, .slice none 0 0, .int .i64 0]) ?_ 2 _ rfl; refine bk ?_; refine blk_put (cs := #[.int .i64 0, .string (⟨#[]⟩ : ByteArray), .string (⟨#[]⟩ : ByteArray), .int .i64 0, .slice none 0 0, .int .i64 0]) ?_ 1 _ rfl; refine bk ?_; refine blk_put (cs := #[.int .i64 0, .string (⟨#[]⟩ : ByteArray), .string (⟨#[]⟩ : ByteArray), .int .i64 0, .slice none 0 0, .int .i64 0]) ?_ 0 _ rfl; refine bk ?_; exact BK234.out) Tryd.underlying26 rfl (by kernel_rfl)) rfl ?_
    exact ⟨_, by first | rfl | (simp [errW_none, errW_some] <;> rfl) | (simp [*, errW_none, errW_some] <;> rfl), Kd.V_nil _ _ _ _ _, by exact pbE HB.out⟩
   ·replace c8 := Bool.eq_false_iff.mpr c8
    subst c8
    have H1 : (if (l0_4.length : Int) ≥ 5 then (some (0, (⟨#[]⟩ : ByteArray), (⟨#[]⟩ : ByteArray), 0, ([] : List (S60)), 0, 6)) else ((api_Member_33.f l0_4).bind fun t241 => ((some (([(⟨a1, a0_5⟩ : S60)] : List (S60)) : List (S60))).bind fun y244 => (if t241.length + y244.length < 8796093022208 then ((desc_right.f a0_0 a0_1 a0_2 (wrap64 (a0_3 + 1)) (t241 ++ y244) (wrap64 (a0_5 + 1))).bind fun bt250 => (some (bt250.1, bt250.2.1, bt250.2.2.1, bt250.2.2.2.1, bt250.2.2.2.2.1, bt250.2.2.2.2.2.1, bt250.2.2.2.2.2.2))) else (none))))) = some (r1, r2, r3, r4, r5, r6, r7) := by rw [if_neg (show ¬ (false = true) by decide)] at H; exact H
    clear H
    have H := H1
    clear H1
    by_cases c21 : (l0_4.length : Int) ≥ 5
    ·rw [if_pos c21] at H
     have c21b0 : decide (5 ≤ (l0_4.length : Int)) = true := decide_eq_true c21
     have c21b1 : decide (5 ≤ l0_4.length) = true := decide_eq_true (by omega)
     clear c21
     simp only [Option.some.injEq, Prod.mk.injEq] at H
     obtain ⟨rfl, rfl, rfl, rfl, rfl, rfl, rfl⟩ := H
     go_enter Tryd.func25, Tryd.ntmps25
     go_wp2_with (first | ((with_reducible refine gate_dst (N := 2) rfl ?_); refine box_event ?hg (N := 2) ?hd (cs := #[.int .i64 a0_0, .string a0_1, .string a0_2, .int .i64 a0_3, .slice A0_4 l0_4.length c0_4, .int .i64 a0_5]) (t := 26) ?hr ?_; (case hd => rfl); (case hg => rfl); (case hr => first | (go_simp; done) | (go_simp; rfl)); intro gb233 hg w22 hbox hb; have BK233 := Az.mk (hbox); have GW233 := Az.mk (geO hg (pbE HB.out)); have GE233 := Az.mk (geO hg (pbE HB.out)); replace HB := Az.mk (pbT (by exact pbE HB.out) hb); clear hb hbox hg) | ((with_reducible refine gate_dst (N := 4) rfl ?_); refine box_event ?hg (N := 4) ?hd (cs := #[.int .i64 0, .string (⟨#[]⟩ : ByteArray), .string (⟨#[]⟩ : ByteArray), .int .i64 0, .slice none 0 0, .int .i64 0]) (t := 26) ?hr ?_; (case hd => rfl); (case hg => rfl); (case hr => first | (go_simp; done) | (go_simp; rfl)); intro gb234 hg w23 hbox hb; have BK234 := Az.mk (hbox); have GW234 := Az.mk (geO hg (pbE HB.out)); have GE234 := Az.mk (geO hg (pbE HB.out)); replace HB := Az.mk (pbT (by exact pbE HB.out) hb); have NB233_234 := Az.mk (neO hg (bk BK233.out)); have NB234_233 := Az.mk (neP hg (bk BK233.out)); replace BK233 := Az.mk (bkB (bk BK233.out) hb); clear hb hbox hg; have hnb24 := NB233_234.out; have hnc24 := NB234_233.out; have hcz25 := cells6 BK233.out) | ((with_reducible refine gtc (f := 30) rfl ?_); refine goesL_ (some 11) rfl rfl Tryd.func30 (by kernel_rfl) rfl #[.agg #[.int .i64 a0_0, .string a0_1, .string a0_2, .int .i64 a0_3, .slice A0_4 l0_4.length c0_4, .int .i64 a0_5], .int .i64 a1] rfl (by (try simp only [List.map_toArray, List.map_cons, List.map_nil]); first | done | rfl | (simp only [List.length_drop, List.length_take]; rfl)) ?_; (with_reducible refine (desc_On.calls a0_0 a0_1 a0_2 a0_3 _ _ l0_4 a0_5 a1 t235 t236 false _ ?side1 ?side2 ?side3 A3.out).mono ?_); (case side1 => exact hG.below (by exact pbE HB.out)); (case side2 => repeat (first | exact (Kd.C_below HR0_4.out HB.out) | (with_reducible refine Kd.C_alloc ?_ _) | (with_reducible refine Kd.C_drewN ?_ _) | (with_reducible refine Kd.C_drew ?_))); (case side3 => exact HC0_4.out); rintro e w26 ⟨rfl, hb⟩; refine ⟨_, rfl, ?_⟩; replace BK233 := Az.mk (bkB (bk BK233.out) hb); replace BK234 := Az.mk (bkB (bk BK234.out) hb); replace HB := Az.mk (pbT (by exact pbE HB.out) hb); (try clear hb); (try clear hb2); (try clear hk); (try clear hi)) | ((with_reducible refine gate_dst (N := 6) rfl ?_); refine box_event ?hg (N := 6) ?hd (cs := #[.int .i64 0, .int .i64 0]) (t := 60) ?hr ?_; (case hd => rfl); (case hg => rfl); (case hr => first | (go_simp; done) | (go_simp; rfl)); intro gb238 hg w27 hbox hb; have BK238 := Az.mk (hbox); have GW238 := Az.mk (geO hg (pbE HB.out)); have GE238 := Az.mk (geO hg (pbE HB.out)); replace HB := Az.mk (pbT (by exact pbE HB.out) hb); have NB233_238 := Az.mk (neO hg (bk BK233.out)); have NB238_233 := Az.mk (neP hg (bk BK233.out)); replace BK233 := Az.mk (bkB (bk BK233.out) hb); have NB234_238 := Az.mk (neO hg (bk BK234.out)); have NB238_234 := Az.mk (neP hg (bk BK234.out)); replace BK234 := Az.mk (bkB (bk BK234.out) hb); clear hb hbox hg; have hnb28 := NB238_233.out; have hnc28 := NB233_238.out; have hnb29 := NB238_234.out; have hnc29 := NB234_238.out; have hcz30 := cells2 BK238.out; have hcz31 := cells6 BK233.out) | ((with_reducible refine gtc (f := 22) rfl ?_); refine goesL_ (some 16) rfl rfl Tryd.func22 (by kernel_rfl) rfl #[.agg #[.int .i64 a0_0, .string a0_1, .string a0_2, .int .i64 a0_3, .slice A0_4 l0_4.length c0_4, .int .i64 a0_5]] rfl (by (try simp only [List.map_toArray, List.map_cons, List.map_nil]); first | done | rfl | (simp only [List.length_drop, List.length_take]; rfl)) ?_; (with_reducible refine (desc_Check.calls a0_0 a0_1 a0_2 a0_3 _ _ l0_4 a0_5 t239 _ ?side1 ?side2 ?side3 A4.out).mono ?_); (case side1 => exact hG.below (by exact pbE HB.out)); (case side2 => exact Kd.C_below HR0_4.out (by exact pbE HB.out)); (case side3 => exact HC0_4.out); rintro e w32 ⟨rfl, hb⟩; refine ⟨_, rfl, ?_⟩; replace BK233 := Az.mk (bkB (bf BK233.out) hb); replace BK234 := Az.mk (bkB (bf BK234.out) hb); replace BK238 := Az.mk (bkB (g := gb238) (o := .cells #[.int .i64 t235, .int .i64 t236] 60 (0, 0)) (by refine bk ?_; refine blk_put (cs := #[.int .i64 t235, .int .i64 0]) ?_ 1 _ rfl; refine bk ?_; refine blk_put (cs := #[.int .i64 0, .int .i64 0]) ?_ 0 _ rfl; refine bk ?_; exact BK238.out) hb); replace HB := Az.mk (pbT (by exact pbE HB.out) hb); (try clear hb); (try clear hb2); (try clear hk); (try clear hi)) | ((with_reducible refine gtc (f := 49) rfl ?_); refine goesL_ (some 21) rfl rfl Tryd.func49 (by kernel_rfl) rfl #[.int .i64 a1] rfl (by (try simp only [List.map_toArray, List.map_cons, List.map_nil]); first | done | rfl | (simp only [List.length_drop, List.length_take]; rfl)) ?_; (with_reducible refine (desc_isNode.calls a1 true _ ?side1 A6.out).mono ?_); (case side1 => exact hG.below (by exact pbE HB.out)); rintro e w' ⟨rfl, ⟨nd, rfl⟩⟩; refine ⟨_, rfl, ?_⟩; (try (rw [drewN_self w32]; generalize hq_ : World.drewN w32 _ = w32; have n0_ : Az (w32.heap[gb233]? = some (.cells #[.int .i64 a0_0, .string a0_1, .string a0_2, .int .i64 a0_3, .slice A0_4 l0_4.length c0_4, .int .i64 a0_5] 26 (0, 0))) := ⟨by rw [← hq_]; exact (bk BK233.out)⟩; have n1_ : Az (w32.heap[gb234]? = some (.cells #[.int .i64 0, .string (⟨#[]⟩ : ByteArray), .string (⟨#[]⟩ : ByteArray), .int .i64 0, .slice none 0 0, .int .i64 0] 26 (0, 0))) := ⟨by rw [← hq_]; exact (bk BK234.out)⟩; have n2_ : Az (w32.heap[gb238]? = some (.cells #[.int .i64 t235, .int .i64 t236] 60 (0, 0))) := ⟨by rw [← hq_]; exact (bk BK238.out)⟩; have n3_ : Az (Below w.heap.size w w32) := ⟨by rw [← hq_]; exact (by exact pbE HB.out)⟩; clear BK233 BK234 BK238 HB hq_; have BK233 := n0_; have BK234 := n1_; have BK238 := n2_; have HB := n3_; clear n0_ n1_ n2_ n3_)); have hcz33 := cells6 BK233.out; have hcz34 := cells6 BK234.out))
     refine bodyPost_ret (results_ct rfl _ _ gb234 26 #[.int .i64 0, .string (⟨#[]⟩ : ByteArray), .string (⟨#[]⟩ : ByteArray), .int .i64 0, .slice none 0 0, .int .i64 0] (0, 0) _ rfl (by refine bk ?_; refine blk_put (cs := #[.int .i64 0, .string (⟨#[]⟩ : ByteArray), .string (⟨#[]⟩ : ByteArray), .int .i64 0, .slice none 0 0, .int .i64 0]) ?_ 5 _ rfl; refine bk ?_; refine blk_put (cs := #[.int .i64 0, .string (⟨#[]⟩ : ByteArray), .string (⟨#[]⟩ : ByteArray), .int .i64 0, .slice none 0 0, .int .i64 0]) ?_ 4 _ rfl; refine bk ?_; refine blk_put (cs := #[.int .i64 0, .string (⟨#[]⟩ : ByteArray), .string (⟨#[]⟩ : ByteArray), .int .i64 0, .slice none 0 0, .int .i64 0]) ?_ 3 _ rfl; refine bk ?_; refine blk_put (cs := #[.int .i64 0, .string (⟨#[]⟩ : ByteArray), .string (⟨#[]⟩ : ByteArray), .int .i64 0, .slice none 0 0, .int .i64 0]) ?_ 2 _ rfl; refine bk ?_; refine blk_put (cs := #[.int .i64 0, .string (⟨#[]⟩ : ByteArray), .string (⟨#[]⟩ : ByteArray), .int .i64 0, .slice none 0 0, .int .i64 0]) ?_ 1 _ rfl; refine bk ?_; refine blk_put (cs := #[.int .i64 0, .string (⟨#[]⟩ : ByteArray), .string (⟨#[]⟩ : ByteArray), .int .i64 0, .slice none 0 0, .int .i64 0]) ?_ 0 _ rfl; refine bk ?_; exact BK234.out) Tryd.underlying26 rfl (by kernel_rfl)) rfl ?_
     exact ⟨_, by first | rfl | (simp [errW_none, errW_some] <;> rfl) | (simp [*, errW_none, errW_some] <;> rfl), Kd.V_nil _ _ _ _ _, by exact pbE HB.out⟩
    ·rw [if_neg c21] at H
     have c21b0 : decide (5 ≤ (l0_4.length : Int)) = false := decide_eq_false c21
     have c21b1 : decide (5 ≤ l0_4.length) = false := decide_eq_false (by omega)
     clear c21
     replace H := Option.bind_eq_some_iff.mp H
     obtain ⟨t241, A350, H⟩ := H
     replace H : ((some (([(⟨a1, a0_5⟩ : S60)] : List (S60)) : List (S60))).bind fun y244 => (if t241.length + y244.length < 8796093022208 then ((desc_right.f a0_0 a0_1 a0_2 (wrap64 (a0_3 + 1)) (t241 ++ y244) (wrap64 (a0_5 + 1))).bind fun bt250 => (some (bt250.1, bt250.2.1, bt250.2.2.1, bt250.2.2.2.1, bt250.2.2.2.2.1, bt250.2.2.2.2.2.1, bt250.2.2.2.2.2.2))) else (none))) = some (r1, r2, r3, r4, r5, r6, r7) := H
     have A35 := Az.mk A350
     clear A350
     obtain ⟨y244, hy244⟩ : ∃ y_ : List (S60), y_ = (([(⟨a1, a0_5⟩ : S60)] : List (S60))) := ⟨_, rfl⟩
     replace H : (if t241.length + y244.length < 8796093022208 then ((desc_right.f a0_0 a0_1 a0_2 (wrap64 (a0_3 + 1)) (t241 ++ y244) (wrap64 (a0_5 + 1))).bind fun bt250 => (some (bt250.1, bt250.2.1, bt250.2.2.1, bt250.2.2.2.1, bt250.2.2.2.2.1, bt250.2.2.2.2.2.1, bt250.2.2.2.2.2.2))) else (none)) = some (r1, r2, r3, r4, r5, r6, r7) := by first | (rw [hy244]; with_reducible exact H) | (have H2_ := (Option.bind_some _ _).symm.trans H; rw [hy244]; with_reducible exact H2_) | (have H2_ := (Option.bind_some _ _).symm.trans H; with_reducible exact H2_) | with_reducible exact H | (rw [hy244]; exact H) | exact H
     have Ny244 := Az.mk hy244
     clear hy244
     by_cases c36 : t241.length + y244.length < 8796093022208
     ·rw [if_pos c36] at H
      have LMc36 := Az.mk c36
      clear c36
      obtain ⟨y247, hy247⟩ : ∃ y_ : List (S60), y_ = (t241 ++ y244) := ⟨_, rfl⟩
      replace H : ((desc_right.f a0_0 a0_1 a0_2 (wrap64 (a0_3 + 1)) y247 (wrap64 (a0_5 + 1))).bind fun bt250 => (some (bt250.1, bt250.2.1, bt250.2.2.1, bt250.2.2.2.1, bt250.2.2.2.2.1, bt250.2.2.2.2.2.1, bt250.2.2.2.2.2.2))) = some (r1, r2, r3, r4, r5, r6, r7) := by first | (rw [hy247]; with_reducible exact H) | (have H2_ := (Option.bind_some _ _).symm.trans H; rw [hy247]; with_reducible exact H2_) | (have H2_ := (Option.bind_some _ _).symm.trans H; with_reducible exact H2_) | with_reducible exact H | (rw [hy247]; exact H) | exact H
      have Ny247 := Az.mk hy247
      clear hy247
      replace H := Option.bind_eq_some_iff.mp H
      obtain ⟨⟨t250, t251, t252, t253, t254, t257, t258⟩, A370, H⟩ := H
      replace H : (some (t250, t251, t252, t253, t254, t257, t258)) = some (r1, r2, r3, r4, r5, r6, r7) := H
      have A37 := Az.mk A370
      clear A370
      simp only [Option.some.injEq, Prod.mk.injEq] at H
      obtain ⟨rfl, rfl, rfl, rfl, rfl, rfl, rfl⟩ := H
      go_enter Tryd.func25, Tryd.ntmps25
      try go_wp2_with (first | ((with_reducible refine gate_dst (N := 2) rfl ?_); refine box_event ?hg (N := 2) ?hd (cs := #[.int .i64 a0_0, .string a0_1, .string a0_2, .int .i64 a0_3, .slice A0_4 l0_4.length c0_4, .int .i64 a0_5]) (t := 26) ?hr ?_; (case hd => rfl); (case hg => rfl); (case hr => first | (go_simp; done) | (go_simp; rfl)); intro gb233 hg w38 hbox hb; have BK233 := Az.mk (hbox); have GW233 := Az.mk (geO hg (pbE HB.out)); have GE233 := Az.mk (geO hg (pbE HB.out)); replace HB := Az.mk (pbT (by exact pbE HB.out) hb); clear hb hbox hg) | ((with_reducible refine gate_dst (N := 4) rfl ?_); refine box_event ?hg (N := 4) ?hd (cs := #[.int .i64 0, .string (⟨#[]⟩ : ByteArray), .string (⟨#[]⟩ : ByteArray), .int .i64 0, .slice none 0 0, .int .i64 0]) (t := 26) ?hr ?_; (case hd => rfl); (case hg => rfl); (case hr => first | (go_simp; done) | (go_simp; rfl)); intro gb234 hg w39 hbox hb; have BK234 := Az.mk (hbox); have GW234 := Az.mk (geO hg (pbE HB.out)); have GE234 := Az.mk (geO hg (pbE HB.out)); replace HB := Az.mk (pbT (by exact pbE HB.out) hb); have NB233_234 := Az.mk (neO hg (bk BK233.out)); have NB234_233 := Az.mk (neP hg (bk BK233.out)); replace BK233 := Az.mk (bkB (bk BK233.out) hb); clear hb hbox hg; have hnb40 := NB233_234.out; have hnc40 := NB234_233.out; have hcz41 := cells6 BK233.out) | ((with_reducible refine gtc (f := 30) rfl ?_); refine goesL_ (some 11) rfl rfl Tryd.func30 (by kernel_rfl) rfl #[.agg #[.int .i64 a0_0, .string a0_1, .string a0_2, .int .i64 a0_3, .slice A0_4 l0_4.length c0_4, .int .i64 a0_5], .int .i64 a1] rfl (by (try simp only [List.map_toArray, List.map_cons, List.map_nil]); first | done | rfl | (simp only [List.length_drop, List.length_take]; rfl)) ?_; (with_reducible refine (desc_On.calls a0_0 a0_1 a0_2 a0_3 _ _ l0_4 a0_5 a1 t235 t236 false _ ?side1 ?side2 ?side3 A3.out).mono ?_); (case side1 => exact hG.below (by exact pbE HB.out)); (case side2 => repeat (first | exact (Kd.C_below HR0_4.out HB.out) | (with_reducible refine Kd.C_alloc ?_ _) | (with_reducible refine Kd.C_drewN ?_ _) | (with_reducible refine Kd.C_drew ?_))); (case side3 => exact HC0_4.out); rintro e w42 ⟨rfl, hb⟩; refine ⟨_, rfl, ?_⟩; replace BK233 := Az.mk (bkB (bk BK233.out) hb); replace BK234 := Az.mk (bkB (bk BK234.out) hb); replace HB := Az.mk (pbT (by exact pbE HB.out) hb); (try clear hb); (try clear hb2); (try clear hk); (try clear hi)) | ((with_reducible refine gate_dst (N := 6) rfl ?_); refine box_event ?hg (N := 6) ?hd (cs := #[.int .i64 0, .int .i64 0]) (t := 60) ?hr ?_; (case hd => rfl); (case hg => rfl); (case hr => first | (go_simp; done) | (go_simp; rfl)); intro gb238 hg w43 hbox hb; have BK238 := Az.mk (hbox); have GW238 := Az.mk (geO hg (pbE HB.out)); have GE238 := Az.mk (geO hg (pbE HB.out)); replace HB := Az.mk (pbT (by exact pbE HB.out) hb); have NB233_238 := Az.mk (neO hg (bk BK233.out)); have NB238_233 := Az.mk (neP hg (bk BK233.out)); replace BK233 := Az.mk (bkB (bk BK233.out) hb); have NB234_238 := Az.mk (neO hg (bk BK234.out)); have NB238_234 := Az.mk (neP hg (bk BK234.out)); replace BK234 := Az.mk (bkB (bk BK234.out) hb); clear hb hbox hg; have hnb44 := NB238_233.out; have hnc44 := NB233_238.out; have hnb45 := NB238_234.out; have hnc45 := NB234_238.out; have hcz46 := cells2 BK238.out; have hcz47 := cells6 BK233.out) | ((with_reducible refine gtc (f := 22) rfl ?_); refine goesL_ (some 16) rfl rfl Tryd.func22 (by kernel_rfl) rfl #[.agg #[.int .i64 a0_0, .string a0_1, .string a0_2, .int .i64 a0_3, .slice A0_4 l0_4.length c0_4, .int .i64 a0_5]] rfl (by (try simp only [List.map_toArray, List.map_cons, List.map_nil]); first | done | rfl | (simp only [List.length_drop, List.length_take]; rfl)) ?_; (with_reducible refine (desc_Check.calls a0_0 a0_1 a0_2 a0_3 _ _ l0_4 a0_5 t239 _ ?side1 ?side2 ?side3 A4.out).mono ?_); (case side1 => exact hG.below (by exact pbE HB.out)); (case side2 => exact Kd.C_below HR0_4.out (by exact pbE HB.out)); (case side3 => exact HC0_4.out); rintro e w48 ⟨rfl, hb⟩; refine ⟨_, rfl, ?_⟩; replace BK233 := Az.mk (bkB (bf BK233.out) hb); replace BK234 := Az.mk (bkB (bf BK234.out) hb); replace BK238 := Az.mk (bkB (g := gb238) (o := .cells #[.int .i64 t235, .int .i64 t236] 60 (0, 0)) (by refine bk ?_; refine blk_put (cs := #[.int .i64 t235, .int .i64 0]) ?_ 1 _ rfl; refine bk ?_; refine blk_put (cs := #[.int .i64 0, .int .i64 0]) ?_ 0 _ rfl; refine bk ?_; exact BK238.out) hb); replace HB := Az.mk (pbT (by exact pbE HB.out) hb); (try clear hb); (try clear hb2); (try clear hk); (try clear hi)) | ((with_reducible refine gtc (f := 49) rfl ?_); refine goesL_ (some 21) rfl rfl Tryd.func49 (by kernel_rfl) rfl #[.int .i64 a1] rfl (by (try simp only [List.map_toArray, List.map_cons, List.map_nil]); first | done | rfl | (simp only [List.length_drop, List.length_take]; rfl)) ?_; (with_reducible refine (desc_isNode.calls a1 true _ ?side1 A6.out).mono ?_); (case side1 => exact hG.below (by exact pbE HB.out)); rintro e w' ⟨rfl, ⟨nd, rfl⟩⟩; refine ⟨_, rfl, ?_⟩; (try (rw [drewN_self w48]; generalize hq_ : World.drewN w48 _ = w48; have n0_ : Az (w48.heap[gb233]? = some (.cells #[.int .i64 a0_0, .string a0_1, .string a0_2, .int .i64 a0_3, .slice A0_4 l0_4.length c0_4, .int .i64 a0_5] 26 (0, 0))) := ⟨by rw [← hq_]; exact (bk BK233.out)⟩; have n1_ : Az (w48.heap[gb234]? = some (.cells #[.int .i64 0, .string (⟨#[]⟩ : ByteArray), .string (⟨#[]⟩ : ByteArray), .int .i64 0, .slice none 0 0, .int .i64 0] 26 (0, 0))) := ⟨by rw [← hq_]; exact (bk BK234.out)⟩; have n2_ : Az (w48.heap[gb238]? = some (.cells #[.int .i64 t235, .int .i64 t236] 60 (0, 0))) := ⟨by rw [← hq_]; exact (bk BK238.out)⟩; have n3_ : Az (Below w.heap.size w w48) := ⟨by rw [← hq_]; exact (by exact pbE HB.out)⟩; clear BK233 BK234 BK238 HB hq_; have BK233 := n0_; have BK234 := n1_; have BK238 := n2_; have HB := n3_; clear n0_ n1_ n2_ n3_)); have hcz49 := cells6 BK233.out))
      replace BK233 := Az.mk (bkD BK233.out)
      replace BK234 := Az.mk (bkD BK234.out)
      replace BK238 := Az.mk (bkD BK238.out)
      replace HB := Az.mk (pb1 HB.out)
      refine start_ (n := 11) (S := fun w' => w'.cell? ⟨gb233, 0, none⟩ = some (.int .i64 a0_0) ∧ w'.cell? ⟨gb233, 1, none⟩ = some (.string a0_1) ∧ w'.cell? ⟨gb233, 2, none⟩ = some (.string a0_2) ∧ w'.cell? ⟨gb233, 3, none⟩ = some (.int .i64 a0_3) ∧ w'.cell? ⟨gb233, 4, none⟩ = some (.slice A0_4 l0_4.length c0_4) ∧ w'.cell? ⟨gb233, 5, none⟩ = some (.int .i64 a0_5)) (ds := [10]) #[false, false, false, false, false, false, false, false, false, false, false] (by kernel_rfl) rfl rfl ⟨(bkC BK233.out 0).trans rfl, (bkC BK233.out 1).trans rfl, (bkC BK233.out 2).trans rfl, (bkC BK233.out 3).trans rfl, (bkC BK233.out 4).trans rfl, (bkC BK233.out 5).trans rfl⟩ (fun hHeld => ?_); refine with_tabW desc_Add.tab10 desc_Add.bits10 (fun HT_ HW_ => ?_)
      generalize w48.drew = w50 at BK233 BK234 BK238 HB hHeld ⊢
      refine pure_ (i := 0) (N := some 33) (v := ?_) (a' := ?_) #[true, false, false, false, false, false, false, false, false, false, false] rfl rfl (any_of HT_.out (by kernel_rfl)) (fun _ _ _ h => h) (Or.inl ⟨by rfl, ?_⟩) ?_ ?_
      rotate_left
      ·intro w'
       go_simp
       with_reducible rfl
      rotate_left
      ·simp only [Act.put, List.setIfInBounds_toArray, List.set_cons_zero, List.set_cons_succ, i64_w, i32_w]
       rfl
      refine pure_ (i := 3) (N := some 36) (v := ?_) (a' := ?_) #[true, false, false, true, false, false, false, false, false, false, false] rfl rfl (any_of HT_.out (by kernel_rfl)) (fun _ _ _ h => h) (Or.inl ⟨by rfl, ?_⟩) ?_ ?_
      rotate_left
      ·intro w'
       go_simp
       with_reducible rfl
      rotate_left
      ·simp only [Act.put, List.setIfInBounds_toArray, List.set_cons_zero, List.set_cons_succ, i64_w, i32_w]
       rfl
      refine pure_ (i := 4) (N := some 37) (v := ?_) (a' := ?_) #[true, false, false, true, true, false, false, false, false, false, false] rfl rfl (any_of HT_.out (by kernel_rfl)) (fun _ _ _ h => h) (Or.inl ⟨by rfl, ?_⟩) ?_ ?_
      rotate_left
      ·intro w'
       go_simp
       with_reducible rfl
      rotate_left
      ·simp only [Act.put, List.setIfInBounds_toArray, List.set_cons_zero, List.set_cons_succ, i64_w, i32_w]
       rfl
      refine take_ (i := 1) (N := some 34) (v := ?_) (a' := ?_) #[true, true, false, true, true, false, false, false, false, false, false] rfl rfl (take_ofW HT_.out HW_.out (by kernel_rfl)) (fun _ _ _ h => h) (Or.inl ⟨by rfl, ?_⟩) hHeld ?_ ?_
      rotate_left
      ·rintro w' ⟨s0, s1, s2, s3, s4, s5⟩
       go_simp
       with_reducible rfl
      rotate_left
      ·simp only [Act.put, List.setIfInBounds_toArray, List.set_cons_zero, List.set_cons_succ, i64_w, i32_w]
       rfl
      refine take_ (i := 5) (N := some 38) (v := ?_) (a' := ?_) #[true, true, false, true, true, true, false, false, false, false, false] rfl rfl (take_ofW HT_.out HW_.out (by kernel_rfl)) (fun _ _ _ h => h) (Or.inl ⟨by rfl, ?_⟩) hHeld ?_ ?_
      rotate_left
      ·rintro w' ⟨s0, s1, s2, s3, s4, s5⟩
       go_simp
       with_reducible rfl
      rotate_left
      ·simp only [Act.put, List.setIfInBounds_toArray, List.set_cons_zero, List.set_cons_succ, i64_w, i32_w]
       rfl
      refine pure_ (i := 6) (N := some 39) (v := ?_) (a' := ?_) #[true, true, false, true, true, true, true, false, false, false, false] rfl rfl (any_of HT_.out (by kernel_rfl)) (fun _ _ _ h => h) (Or.inl ⟨by rfl, ?_⟩) ?_ ?_
      rotate_left
      ·intro w'
       go_simp
       with_reducible rfl
      rotate_left
      ·simp only [Act.put, List.setIfInBounds_toArray, List.set_cons_zero, List.set_cons_succ, i64_w, i32_w]
       rfl
      refine join_ (σ := Value × Value) 3 #[true, true, true, true, true, true, true, true, false, false, false] (fun s_ => [(35, s_.1), (40, s_.2)]) (fun s_ w' => (w'.cell? ⟨gb233, 0, none⟩ = some (.int .i64 a0_0) ∧ w'.cell? ⟨gb233, 1, none⟩ = some (.string a0_1) ∧ w'.cell? ⟨gb233, 2, none⟩ = some (.string a0_2) ∧ w'.cell? ⟨gb233, 3, none⟩ = some (.int .i64 a0_3) ∧ w'.cell? ⟨gb233, 4, none⟩ = some (.slice A0_4 l0_4.length c0_4) ∧ w'.cell? ⟨gb233, 5, none⟩ = some (.int .i64 a0_5)) ∧ (Kd.R k60 60 w' w.heap.size (fun k_ => (w.heap.size ≤ k_) ∧ some k_ ≠ (s_.2 : Value).ownBlock ∧ k_ ≠ gb238) s_.1 t241) ∧ (Kd.R k60 60 w' w.heap.size (fun k_ => (w.heap.size ≤ k_) ∧ some k_ ≠ (s_.1 : Value).ownBlock ∧ k_ ≠ gb238) s_.2 y244) ∧ (w'.heap[gb233]? = some (.cells #[.int .i64 a0_0, .string a0_1, .string a0_2, .int .i64 a0_3, .slice A0_4 l0_4.length c0_4, .int .i64 a0_5] 26 (0, 0))) ∧ (w'.heap[gb234]? = some (.cells #[.int .i64 0, .string (⟨#[]⟩ : ByteArray), .string (⟨#[]⟩ : ByteArray), .int .i64 0, .slice none 0 0, .int .i64 0] 26 (0, 0))) ∧ (w'.heap[gb238]? = some (.cells #[.int .i64 t235, .int .i64 t236] 60 (0, 0))) ∧ (Below w.heap.size w w')) ?_ ?_
      rotate_left
      ·intro hCont
       refine two_ (i := 2) (j := 7) (Ni := some 35) (Nj := some 40) #[true, true, true, true, true, true, true, false, false, false, false] #[true, true, false, true, true, true, true, true, false, false, false] rfl rfl rfl rfl (two_of HT_.out (by kernel_rfl)) (by decide) (by decide) (fun K hK => ?_) (fun K hK => ?_)
       ·skip
        refine goes_ Tryd.func33 (by kernel_rfl) rfl #[.slice A0_4 l0_4.length c0_4] (by rfl) rfl rfl (by (try simp only [List.map_toArray, List.map_cons, List.map_nil]); first | done | rfl | (simp only [List.length_drop, List.length_take]; rfl)) ?_
        with_reducible refine (api_Member_33.calls _ _ l0_4 t241 _ ?side1 ?side2 ?side3 A35.out).mono ?_
        (case side1 => exact hG.below (by exact pbE HB.out))
        (case side2 => repeat (first | exact (Kd.C_below HR0_4.out HB.out) | (with_reducible refine Kd.C_alloc ?_ _) | (with_reducible refine Kd.C_drewN ?_ _) | (with_reducible refine Kd.C_drew ?_)))
        (case side3 => exact HC0_4.out)
        rintro e w51 ⟨v242, rfl, ho0, hb⟩
        refine ⟨_, rfl, ?_⟩
        have HO243 := Az.mk (Kd.R_lower (Kd.R_newB (Kd.R_newM (M := fun k_ => (w.heap.size ≤ k_)) (Kd.R_mono (ok' := fun k_ => True) ho0 (fun _ hk_ => trivial)) (pbZ (by exact pbE HB.out)) (fun k_ h_ => h_)) (bk BK238.out)) (pbZ (by exact pbE HB.out)))
        replace BK233 := Az.mk (bkB (bk BK233.out) hb)
        replace BK234 := Az.mk (bkB (bk BK234.out) hb)
        replace BK238 := Az.mk (bkB (bk BK238.out) hb)
        replace HB := Az.mk (pbT (by exact pbE HB.out) hb)
        (try clear hb)
        (try clear hb2)
        (try clear hk)
        (try clear hi)
        (try clear ho0)
        refine hK.out _ _ ⟨(bkC BK233.out 0).trans rfl, (bkC BK233.out 1).trans rfl, (bkC BK233.out 2).trans rfl, (bkC BK233.out 3).trans rfl, (bkC BK233.out 4).trans rfl, (bkC BK233.out 5).trans rfl⟩ (fun hHeld => ?_)
        clear hK K
        refine norm_ (a' := ?_) ?_ ?_
        rotate_left
        ·show Act.put _ (some 35) _ = _
         simp only [Act.put, List.setIfInBounds_toArray, List.set_cons_zero, List.set_cons_succ, i64_w, i32_w]
         rfl
        refine one_ (i := 7) (N := some 40) #[true, true, true, true, true, true, true, true, false, false, false] rfl rfl (one_of HT_.out (by kernel_rfl)) (by decide) (fun K hK => ?_)
        refine Kd.R_lit_step k60 _ 60 ?hg (N := 40) ?hd (xs := ([(⟨a1, a0_5⟩ : S60)] : List (S60))) (inner := [.int .i64 a1, .int .i64 a0_5]) (ok := fun _ => True) (okp := fun _ => True) ?hr ?hp (fun _ hk => hk) trivial (Below.refl _ _) (Nat.le_refl _) (by simp) ?_; (case hd => rfl); (case hg => rfl); (case hr => first | (go_simp; done) | (go_simp; rfl)); (case hp => exact (Reps.c2 (show Kd.M k60 _ _ _ (⟨a1, a0_5⟩ : S60) [.int .i64 a1, .int .i64 a0_5] from (k60_mkM _ _ _ (⟨a1, a0_5⟩ : S60) )) (Reps.none _ _)))
        intro v245 w52 ho53 hb hg_ hnew_
        clear hg_ hnew_
        (first | rw [← Ny244.out] at ho53 | (simp only [Int.reduceToNat] at ho53; rw [← Ny244.out] at ho53))
        have HO246 := Az.mk (Kd.R_lower (Kd.R_newB (Kd.R_new' (Kd.R_newM (M := fun k_ => (w.heap.size ≤ k_)) ho53 (pbZ (by exact pbE HB.out)) (fun k_ h_ => h_)) (Kd.R_lt (Kd.R_ext HO243.out))) (bk BK238.out)) (pbZ (by exact pbE HB.out)))
        replace HO243 := Az.mk (Kd.R_elder' (Kd.R_ext HO243.out) (Kd.R_base ho53) hb)
        replace BK233 := Az.mk (bkB (bk BK233.out) hb)
        replace BK234 := Az.mk (bkB (bk BK234.out) hb)
        replace BK238 := Az.mk (bkB (bk BK238.out) hb)
        replace HB := Az.mk (pbT (by exact pbE HB.out) hb)
        clear hb ho53
        refine hK.out _ _ ⟨(bkC BK233.out 0).trans rfl, (bkC BK233.out 1).trans rfl, (bkC BK233.out 2).trans rfl, (bkC BK233.out 3).trans rfl, (bkC BK233.out 4).trans rfl, (bkC BK233.out 5).trans rfl⟩ (fun hHeld => ?_)
        clear hK K
        refine norm_ (a' := ?_) ?_ ?_
        rotate_left
        ·show Act.put _ (some 40) _ = _
         simp only [Act.put, List.setIfInBounds_toArray, List.set_cons_zero, List.set_cons_succ, i64_w, i32_w]
         rfl
        exact norm_ (by simp only [putAll, Act.put, List.setIfInBounds_toArray, List.set_cons_zero, List.set_cons_succ]) (hCont (v242, v245) _ ⟨hHeld, (by (with_reducible repeat (first | apply Kd.R_alloc | apply Kd.R_drewN | apply Kd.R_drew)); exact Kd.R_mono HO243.out (fun _ hk => ⟨hk.1.1.1, ⟨hk.2, hk.1.2⟩⟩)), (by (with_reducible repeat (first | apply Kd.R_alloc | apply Kd.R_drewN | apply Kd.R_drew)); exact Kd.R_mono HO246.out (fun _ hk => ⟨hk.1.1.1, ⟨hk.1.2, hk.2⟩⟩)), (bk BK233.out), (bk BK234.out), (bk BK238.out), (by exact pbE HB.out)⟩)
       ·skip
        refine Kd.R_lit_step k60 _ 60 ?hg (N := 40) ?hd (xs := ([(⟨a1, a0_5⟩ : S60)] : List (S60))) (inner := [.int .i64 a1, .int .i64 a0_5]) (ok := fun _ => True) (okp := fun _ => True) ?hr ?hp (fun _ hk => hk) trivial (Below.refl _ _) (Nat.le_refl _) (by simp) ?_; (case hd => rfl); (case hg => rfl); (case hr => first | (go_simp; done) | (go_simp; rfl)); (case hp => exact (Reps.c2 (show Kd.M k60 _ _ _ (⟨a1, a0_5⟩ : S60) [.int .i64 a1, .int .i64 a0_5] from (k60_mkM _ _ _ (⟨a1, a0_5⟩ : S60) )) (Reps.none _ _)))
        intro v245 w51 ho52 hb hg_ hnew_
        clear hg_ hnew_
        (first | rw [← Ny244.out] at ho52 | (simp only [Int.reduceToNat] at ho52; rw [← Ny244.out] at ho52))
        have HO246 := Az.mk (Kd.R_lower (Kd.R_newB (Kd.R_newM (M := fun k_ => (w.heap.size ≤ k_)) ho52 (pbZ (by exact pbE HB.out)) (fun k_ h_ => h_)) (bk BK238.out)) (pbZ (by exact pbE HB.out)))
        replace BK233 := Az.mk (bkB (bk BK233.out) hb)
        replace BK234 := Az.mk (bkB (bk BK234.out) hb)
        replace BK238 := Az.mk (bkB (bk BK238.out) hb)
        replace HB := Az.mk (pbT (by exact pbE HB.out) hb)
        clear hb ho52
        refine hK.out _ _ ⟨(bkC BK233.out 0).trans rfl, (bkC BK233.out 1).trans rfl, (bkC BK233.out 2).trans rfl, (bkC BK233.out 3).trans rfl, (bkC BK233.out 4).trans rfl, (bkC BK233.out 5).trans rfl⟩ (fun hHeld => ?_)
        clear hK K
        refine norm_ (a' := ?_) ?_ ?_
        rotate_left
        ·show Act.put _ (some 40) _ = _
         simp only [Act.put, List.setIfInBounds_toArray, List.set_cons_zero, List.set_cons_succ, i64_w, i32_w]
         rfl
        refine one_ (i := 2) (N := some 35) #[true, true, true, true, true, true, true, true, false, false, false] rfl rfl (one_of HT_.out (by kernel_rfl)) (by decide) (fun K hK => ?_)
        refine goes_ Tryd.func33 (by kernel_rfl) rfl #[.slice A0_4 l0_4.length c0_4] (by rfl) rfl rfl (by (try simp only [List.map_toArray, List.map_cons, List.map_nil]); first | done | rfl | (simp only [List.length_drop, List.length_take]; rfl)) ?_
        with_reducible refine (api_Member_33.calls _ _ l0_4 t241 _ ?side1 ?side2 ?side3 A35.out).mono ?_
        (case side1 => exact hG.below (by exact pbE HB.out))
        (case side2 => repeat (first | exact (Kd.C_below HR0_4.out HB.out) | (with_reducible refine Kd.C_alloc ?_ _) | (with_reducible refine Kd.C_drewN ?_ _) | (with_reducible refine Kd.C_drew ?_)))
        (case side3 => exact HC0_4.out)
        rintro e w53 ⟨v242, rfl, ho0, hb⟩
        refine ⟨_, rfl, ?_⟩
        have HO243 := Az.mk (Kd.R_lower (Kd.R_newB (Kd.R_new' (Kd.R_newM (M := fun k_ => (w.heap.size ≤ k_)) (Kd.R_mono (ok' := fun k_ => True) ho0 (fun _ hk_ => trivial)) (pbZ (by exact pbE HB.out)) (fun k_ h_ => h_)) (Kd.R_lt (Kd.R_ext HO246.out))) (bk BK238.out)) (pbZ (by exact pbE HB.out)))
        replace HO246 := Az.mk (Kd.R_elder' (Kd.R_ext HO246.out) (Kd.R_base ho0) hb)
        replace BK233 := Az.mk (bkB (bk BK233.out) hb)
        replace BK234 := Az.mk (bkB (bk BK234.out) hb)
        replace BK238 := Az.mk (bkB (bk BK238.out) hb)
        replace HB := Az.mk (pbT (by exact pbE HB.out) hb)
        (try clear hb)
        (try clear hb2)
        (try clear hk)
        (try clear hi)
        (try clear ho0)
        refine hK.out _ _ ⟨(bkC BK233.out 0).trans rfl, (bkC BK233.out 1).trans rfl, (bkC BK233.out 2).trans rfl, (bkC BK233.out 3).trans rfl, (bkC BK233.out 4).trans rfl, (bkC BK233.out 5).trans rfl⟩ (fun hHeld => ?_)
        clear hK K
        refine norm_ (a' := ?_) ?_ ?_
        rotate_left
        ·show Act.put _ (some 35) _ = _
         simp only [Act.put, List.setIfInBounds_toArray, List.set_cons_zero, List.set_cons_succ, i64_w, i32_w]
         rfl
        exact norm_ (by simp only [putAll, Act.put, List.setIfInBounds_toArray, List.set_cons_zero, List.set_cons_succ]) (hCont (v242, v245) _ ⟨hHeld, (by (with_reducible repeat (first | apply Kd.R_alloc | apply Kd.R_drewN | apply Kd.R_drew)); exact Kd.R_mono HO243.out (fun _ hk => ⟨hk.1.1.1, ⟨hk.1.2, hk.2⟩⟩)), (by (with_reducible repeat (first | apply Kd.R_alloc | apply Kd.R_drewN | apply Kd.R_drew)); exact Kd.R_mono HO246.out (fun _ hk => ⟨hk.1.1.1, ⟨hk.2, hk.1.2⟩⟩)), (bk BK233.out), (bk BK234.out), (bk BK238.out), (by exact pbE HB.out)⟩)
      rintro ⟨v242, v245⟩ w54 ⟨hS_, h0_, h1_, h2_, h3_, h4_, h5_⟩
      have n0_ : Az (Kd.R k60 60 w54 w.heap.size (fun k_ => (w.heap.size ≤ k_) ∧ some k_ ≠ (v245 : Value).ownBlock ∧ k_ ≠ gb238) v242 t241) := ⟨h0_⟩
      have n1_ : Az (Kd.R k60 60 w54 w.heap.size (fun k_ => (w.heap.size ≤ k_) ∧ some k_ ≠ (v242 : Value).ownBlock ∧ k_ ≠ gb238) v245 y244) := ⟨h1_⟩
      have n2_ : Az (w54.heap[gb233]? = some (.cells #[.int .i64 a0_0, .string a0_1, .string a0_2, .int .i64 a0_3, .slice A0_4 l0_4.length c0_4, .int .i64 a0_5] 26 (0, 0))) := ⟨h2_⟩
      have n3_ : Az (w54.heap[gb234]? = some (.cells #[.int .i64 0, .string (⟨#[]⟩ : ByteArray), .string (⟨#[]⟩ : ByteArray), .int .i64 0, .slice none 0 0, .int .i64 0] 26 (0, 0))) := ⟨h3_⟩
      have n4_ : Az (w54.heap[gb238]? = some (.cells #[.int .i64 t235, .int .i64 t236] 60 (0, 0))) := ⟨h4_⟩
      have n5_ : Az (Below w.heap.size w w54) := ⟨h5_⟩
      clear BK233
      clear BK234
      clear BK238
      clear HB
      clear h0_ h1_ h2_ h3_ h4_ h5_
      have HO243 := n0_
      have HO246 := n1_
      have BK233 := n2_
      have BK234 := n3_
      have BK238 := n4_
      have HB := n5_
      clear n0_ n1_ n2_ n3_ n4_ n5_
      have hHeld : w54.cell? ⟨gb233, 0, none⟩ = some (.int .i64 a0_0) ∧ w54.cell? ⟨gb233, 1, none⟩ = some (.string a0_1) ∧ w54.cell? ⟨gb233, 2, none⟩ = some (.string a0_2) ∧ w54.cell? ⟨gb233, 3, none⟩ = some (.int .i64 a0_3) ∧ w54.cell? ⟨gb233, 4, none⟩ = some (.slice A0_4 l0_4.length c0_4) ∧ w54.cell? ⟨gb233, 5, none⟩ = some (.int .i64 a0_5) := hS_
      obtain ⟨Ao56, co56, eo56⟩ := Kd.R_slice HO246.out
      (first | subst eo56 | (injection eo56 with f1_ f2_ f3_; have f4_ := f1_.symm; have f5_ := f3_.symm; clear f1_ f2_ f3_; subst f4_; subst f5_))
      refine norm_ (a' := ?_) ?_ ?_
      rotate_left
      ·simp only [putAll, Act.put, List.setIfInBounds_toArray, List.set_cons_zero, List.set_cons_succ]
       rfl
      refine one_ (i := 8) (N := some 41) #[true, true, true, true, true, true, true, true, true, false, false] rfl rfl (one_of HT_.out (by kernel_rfl)) (by decide) (fun K hK => ?_)
      refine Kd.R_append_rows_step k60 (w0 := w) w.heap.size (by rfl) (.tmp 35) (.tmp 40) 24 60 (.agg #[(.int .i64 0), (.int .i64 0)]) 16 rfl Tryd.underlying24 info60 rfl (by decide) (by omega) v242 t241 y244 _ _ _ (fun k_ => (w.heap.size ≤ k_) ∧ some k_ ≠ (.slice Ao56 y244.length co56 : Value).ownBlock ∧ k_ ≠ gb238) (fun _ => False) rfl rfl ?aO ?aR (fun _ _ h => h) (fun _ h => h.elim) ?aF ?aB ?aS ?aL ?_
      (case aR => exact Kd.C_ext (Kd.R_reads' HO246.out).2.2)
      (case aB => exact (by exact pbE HB.out))
      (case aF => exact (fun k_ hk => ⟨(Nat.le_trans (pbZ (by exact pbE HB.out)) hk), Kd.fresh' (Kd.R_lt (Kd.R_ext HO246.out)) k_ hk, Kd.freshB (bk BK238.out) k_ hk⟩))
      (case aO => exact (Kd.R_ext HO243.out))
      (case aS => exact (pbZ (by exact pbE HB.out)))
      (case aL => have := LMc36.out; omega)
      intro v248 w55 ho hb hg hat
      rw [← Ny247.out] at ho
      replace BK233 := Az.mk (blk_grown (bk BK233.out) hg (Kd.R_ne HO243.out BK233.out (by decide)))
      replace BK234 := Az.mk (blk_grown (bk BK234.out) hg (Kd.R_ne HO243.out BK234.out (by decide)))
      replace BK238 := Az.mk (blk_grown (bk BK238.out) hg (Kd.R_away HO243.out (fun _ hk => hk.2.2)))
      replace HO246 := Az.mk (Kd.R_after (ok := (fun k_ => (w.heap.size ≤ k_) ∧ k_ ≠ gb238)) (by (with_reducible repeat (first | apply Kd.R_alloc | apply Kd.R_drewN | apply Kd.R_drew)); exact Kd.R_mono HO246.out (fun _ hk => ⟨⟨hk.1, hk.2.2⟩, hk.2.1⟩)) hg hat)
      replace HB := Az.mk (hb)
      have HO249 := Az.mk (ho)
      clear HO243
      clear ho hb hg hat
      obtain ⟨Ao57, co57, eo57⟩ := Kd.R_slice HO249.out
      (first | subst eo57 | (injection eo57 with f1_ f2_ f3_; have f4_ := f1_.symm; have f5_ := f3_.symm; clear f1_ f2_ f3_; subst f4_; subst f5_))
      refine hK.out _ _ ⟨(bkC BK233.out 0).trans rfl, (bkC BK233.out 1).trans rfl, (bkC BK233.out 2).trans rfl, (bkC BK233.out 3).trans rfl, (bkC BK233.out 4).trans rfl, (bkC BK233.out 5).trans rfl⟩ (fun hHeld => ?_)
      clear hK K
      refine norm_ (a' := ?_) ?_ ?_
      rotate_left
      ·show Act.put _ (some 41) _ = _
       simp only [Act.put, List.setIfInBounds_toArray, List.set_cons_zero, List.set_cons_succ, i64_w, i32_w]
       rfl
      refine pure_ (i := 9) (N := some 42) (v := ?_) (a' := ?_) #[true, true, true, true, true, true, true, true, true, true, false] rfl rfl (any_of HT_.out (by kernel_rfl)) (fun _ _ _ h => h) (Or.inl ⟨by rfl, ?_⟩) ?_ ?_
      rotate_left
      ·intro w'
       go_simp
       with_reducible rfl
      rotate_left
      ·simp only [Act.put, List.setIfInBounds_toArray, List.set_cons_zero, List.set_cons_succ, i64_w, i32_w]
       rfl
      refine last_ (i := 10) (N := none) #[true, true, true, true, true, true, true, true, true, true, true] rfl rfl (one_of HT_.out (by kernel_rfl)) (by decide) (fun K hK => ?_)
      have hs58 : w55.cell? ⟨gb233, 4, none⟩ = some (.slice A0_4 l0_4.length c0_4) := (bkC BK233.out 4).trans rfl
      have hfs58 := bkF BK233.out 4
      have hns58_1 := NB234_233.out
      have hns58_2 := NB238_233.out
      have hms58_1 := NB233_234.out
      have hms58_2 := NB233_238.out
      refine skip_ (w1 := ?_) (by rfl) rfl ?_ ?_
      rotate_left
      ·go_simp
       rfl
      refine hK.out _ _ ?_
      clear hK K
      refine done_ (done_of HT_.out (by kernel_rfl)) ?_
      have n0_ : Az (Kd.R k60 60 (w55.setCell ⟨gb233, 4, none⟩ (.slice Ao57 y247.length co57)) w.heap.size (fun k_ => (w.heap.size ≤ k_) ∧ some k_ ≠ (.slice Ao57 y247.length co57 : Value).ownBlock ∧ k_ ≠ gb238) (.slice Ao56 y244.length co56) y244) := ⟨by (with_reducible repeat (first | apply Kd.R_alloc | apply Kd.R_drewN | apply Kd.R_drew)); exact Kd.R_mono (Kd.R_far (p := ⟨gb233, 4, none⟩) (Kd.R_types HO246.out BK233.out (by decide)) (fun _ hk => hk.2) (.slice Ao57 y247.length co57)) (fun _ hk => ⟨hk.1.1.1, ⟨hk.1.2, hk.1.1.2⟩⟩)⟩
      have n1_ : Az (Kd.R k60 60 (w55.setCell ⟨gb233, 4, none⟩ (.slice Ao57 y247.length co57)) w.heap.size (fun k_ => (w.heap.size ≤ k_) ∧ some k_ ≠ (.slice Ao56 y244.length co56 : Value).ownBlock ∧ k_ ≠ gb238) (.slice Ao57 y247.length co57) y247) := ⟨by (with_reducible repeat (first | apply Kd.R_alloc | apply Kd.R_drewN | apply Kd.R_drew)); exact Kd.R_mono (Kd.R_far (p := ⟨gb233, 4, none⟩) (Kd.R_types HO249.out BK233.out (by decide)) (fun _ hk => hk.2) (.slice Ao57 y247.length co57)) (fun _ hk => ⟨hk.1.1, ⟨hk.1.2.1, hk.1.2.2⟩⟩)⟩
      have n2_ : Az ((w55.setCell ⟨gb233, 4, none⟩ (.slice Ao57 y247.length co57)).heap[gb233]? = some (.cells #[.int .i64 a0_0, .string a0_1, .string a0_2, .int .i64 a0_3, .slice Ao57 y247.length co57, .int .i64 a0_5] 26 (0, 0))) := ⟨by refine bk ?_; refine blk_put (cs := #[.int .i64 a0_0, .string a0_1, .string a0_2, .int .i64 a0_3, .slice A0_4 l0_4.length c0_4, .int .i64 a0_5]) ?_ 4 _ rfl; refine bk ?_; exact BK233.out⟩
      have n3_ : Az ((w55.setCell ⟨gb233, 4, none⟩ (.slice Ao57 y247.length co57)).heap[gb234]? = some (.cells #[.int .i64 0, .string (⟨#[]⟩ : ByteArray), .string (⟨#[]⟩ : ByteArray), .int .i64 0, .slice none 0 0, .int .i64 0] 26 (0, 0))) := ⟨by exact bf BK234.out⟩
      have n4_ : Az ((w55.setCell ⟨gb233, 4, none⟩ (.slice Ao57 y247.length co57)).heap[gb238]? = some (.cells #[.int .i64 t235, .int .i64 t236] 60 (0, 0))) := ⟨by exact bf BK238.out⟩
      have n5_ : Az (Below w.heap.size w (w55.setCell ⟨gb233, 4, none⟩ (.slice Ao57 y247.length co57))) := ⟨by exact pbE HB.out⟩
      (try clear HO246)
      (try clear HO249)
      (try clear BK233)
      (try clear BK234)
      (try clear BK238)
      (try clear HB)
      generalize (w55.setCell ⟨gb233, 4, none⟩ (.slice Ao57 y247.length co57)) = w59 at n0_ n1_ n2_ n3_ n4_ n5_ ⊢
      have HO246 := n0_
      have HO249 := n1_
      have BK233 := n2_
      have BK234 := n3_
      have BK238 := n4_
      have HB := n5_
      clear n0_ n1_ n2_ n3_ n4_ n5_
      have hcz60 := cells6 BK233.out
      try go_wp2_with (first | ((with_reducible refine gate_store (t := 2) (p := 46) rfl ?_); refine store_event (t := 2) (p := 46) (v := ?vo_w61) (w1 := (w59.setCell ⟨gb233, 5, none⟩ (.int .i64 (wrap64 (a0_5 + 1))))) ?hg ?ho ?hn ?hr ?_; (case ho => rfl); (case hg => rfl); (case hn => rfl); (case hr => first | (go_simp; done) | (go_simp; rfl)); intro w61 hw; have n0_ : Az (Kd.R k60 60 w61 w.heap.size (fun k_ => (w.heap.size ≤ k_) ∧ some k_ ≠ (.slice Ao57 y247.length co57 : Value).ownBlock ∧ k_ ≠ gb238) (.slice Ao56 y244.length co56) y244) := ⟨(by rw [hw]; exact (by (with_reducible repeat (first | apply Kd.R_alloc | apply Kd.R_drewN | apply Kd.R_drew)); exact Kd.R_mono (Kd.R_far (p := ⟨gb233, 5, none⟩) (Kd.R_types HO246.out BK233.out (by decide)) (fun _ hk => hk.2) (.int .i64 (wrap64 (a0_5 + 1)))) (fun _ hk => ⟨hk.1.1, ⟨hk.1.2.1, hk.1.2.2⟩⟩)))⟩; have n1_ : Az (Kd.R k60 60 w61 w.heap.size (fun k_ => (w.heap.size ≤ k_) ∧ some k_ ≠ (.slice Ao56 y244.length co56 : Value).ownBlock ∧ k_ ≠ gb238) (.slice Ao57 y247.length co57) y247) := ⟨(by rw [hw]; exact (by (with_reducible repeat (first | apply Kd.R_alloc | apply Kd.R_drewN | apply Kd.R_drew)); exact Kd.R_mono (Kd.R_far (p := ⟨gb233, 5, none⟩) (Kd.R_types HO249.out BK233.out (by decide)) (fun _ hk => hk.2) (.int .i64 (wrap64 (a0_5 + 1)))) (fun _ hk => ⟨hk.1.1, ⟨hk.1.2.1, hk.1.2.2⟩⟩)))⟩; have n2_ : Az (w61.heap[gb233]? = some (.cells #[.int .i64 a0_0, .string a0_1, .string a0_2, .int .i64 a0_3, .slice Ao57 y247.length co57, .int .i64 (wrap64 (a0_5 + 1))] 26 (0, 0))) := ⟨(by rw [hw]; exact (by refine bk ?_; refine blk_put (cs := #[.int .i64 a0_0, .string a0_1, .string a0_2, .int .i64 a0_3, .slice Ao57 y247.length co57, .int .i64 a0_5]) ?_ 5 _ rfl; refine bk ?_; exact BK233.out))⟩; have n3_ : Az (w61.heap[gb234]? = some (.cells #[.int .i64 0, .string (⟨#[]⟩ : ByteArray), .string (⟨#[]⟩ : ByteArray), .int .i64 0, .slice none 0 0, .int .i64 0] 26 (0, 0))) := ⟨(by rw [hw]; exact (bf BK234.out))⟩; have n4_ : Az (w61.heap[gb238]? = some (.cells #[.int .i64 t235, .int .i64 t236] 60 (0, 0))) := ⟨(by rw [hw]; exact (bf BK238.out))⟩; have n5_ : Az (Below w.heap.size w w61) := ⟨(by rw [hw]; exact (by exact pbE HB.out))⟩; clear hw; clear HO246; clear HO249; clear BK233; clear BK234; clear BK238; clear HB; have HO246 := n0_; have HO249 := n1_; have BK233 := n2_; have BK234 := n3_; have BK238 := n4_; have HB := n5_; clear n0_ n1_ n2_ n3_ n4_ n5_; have hcz62 := cells6 BK233.out) | ((with_reducible refine gate_store (t := 2) (p := 50) rfl ?_); refine store_event (t := 2) (p := 50) (v := ?vo_w63) (w1 := (w61.setCell ⟨gb233, 3, none⟩ (.int .i64 (wrap64 (a0_3 + 1))))) ?hg ?ho ?hn ?hr ?_; (case ho => rfl); (case hg => rfl); (case hn => rfl); (case hr => first | (go_simp; done) | (go_simp; rfl)); intro w63 hw; have n0_ : Az (Kd.R k60 60 w63 w.heap.size (fun k_ => (w.heap.size ≤ k_) ∧ some k_ ≠ (.slice Ao57 y247.length co57 : Value).ownBlock ∧ k_ ≠ gb238) (.slice Ao56 y244.length co56) y244) := ⟨(by rw [hw]; exact (by (with_reducible repeat (first | apply Kd.R_alloc | apply Kd.R_drewN | apply Kd.R_drew)); exact Kd.R_mono (Kd.R_far (p := ⟨gb233, 3, none⟩) (Kd.R_types HO246.out BK233.out (by decide)) (fun _ hk => hk.2) (.int .i64 (wrap64 (a0_3 + 1)))) (fun _ hk => ⟨hk.1.1, ⟨hk.1.2.1, hk.1.2.2⟩⟩)))⟩; have n1_ : Az (Kd.R k60 60 w63 w.heap.size (fun k_ => (w.heap.size ≤ k_) ∧ some k_ ≠ (.slice Ao56 y244.length co56 : Value).ownBlock ∧ k_ ≠ gb238) (.slice Ao57 y247.length co57) y247) := ⟨(by rw [hw]; exact (by (with_reducible repeat (first | apply Kd.R_alloc | apply Kd.R_drewN | apply Kd.R_drew)); exact Kd.R_mono (Kd.R_far (p := ⟨gb233, 3, none⟩) (Kd.R_types HO249.out BK233.out (by decide)) (fun _ hk => hk.2) (.int .i64 (wrap64 (a0_3 + 1)))) (fun _ hk => ⟨hk.1.1, ⟨hk.1.2.1, hk.1.2.2⟩⟩)))⟩; have n2_ : Az (w63.heap[gb233]? = some (.cells #[.int .i64 a0_0, .string a0_1, .string a0_2, .int .i64 (wrap64 (a0_3 + 1)), .slice Ao57 y247.length co57, .int .i64 (wrap64 (a0_5 + 1))] 26 (0, 0))) := ⟨(by rw [hw]; exact (by refine bk ?_; refine blk_put (cs := #[.int .i64 a0_0, .string a0_1, .string a0_2, .int .i64 a0_3, .slice Ao57 y247.length co57, .int .i64 (wrap64 (a0_5 + 1))]) ?_ 3 _ rfl; refine bk ?_; exact BK233.out))⟩; have n3_ : Az (w63.heap[gb234]? = some (.cells #[.int .i64 0, .string (⟨#[]⟩ : ByteArray), .string (⟨#[]⟩ : ByteArray), .int .i64 0, .slice none 0 0, .int .i64 0] 26 (0, 0))) := ⟨(by rw [hw]; exact (bf BK234.out))⟩; have n4_ : Az (w63.heap[gb238]? = some (.cells #[.int .i64 t235, .int .i64 t236] 60 (0, 0))) := ⟨(by rw [hw]; exact (bf BK238.out))⟩; have n5_ : Az (Below w.heap.size w w63) := ⟨(by rw [hw]; exact (by exact pbE HB.out))⟩; clear hw; clear HO246; clear HO249; clear BK233; clear BK234; clear BK238; clear HB; have HO246 := n0_; have HO249 := n1_; have BK233 := n2_; have BK234 := n3_; have BK238 := n4_; have HB := n5_; clear n0_ n1_ n2_ n3_ n4_ n5_; have hcz64 := cells6 BK233.out) | ((with_reducible refine gtc (f := 37) rfl ?_); refine goesL_ (some 52) rfl rfl Tryd.func37 (by kernel_rfl) rfl #[.agg #[.int .i64 a0_0, .string a0_1, .string a0_2, .int .i64 (wrap64 (a0_3 + 1)), .slice Ao57 y247.length co57, .int .i64 (wrap64 (a0_5 + 1))]] rfl (by (try simp only [List.map_toArray, List.map_cons, List.map_nil]); first | done | rfl | (simp only [List.length_drop, List.length_take]; rfl)) ?_; (with_reducible refine (desc_right.calls a0_0 a0_1 a0_2 (wrap64 (a0_3 + 1)) (fun k_ => some k_ = (.slice Ao57 y247.length co57 : Value).ownBlock) _ _ y247 (wrap64 (a0_5 + 1)) t250 t251 t252 t253 t254 t257 t258 _ ?side1 ?side2 A37.out).mono ?_); (case side1 => exact hG.below (by exact pbE HB.out)); (case side2 => exact Kd.R_V (Kd.R_tight rfl (Kd.R_types (Kd.R_types (HO249.out) BK233.out (by decide)) BK234.out (by decide)))); rintro e w65 ⟨v255, rfl, ho0, hb⟩; refine ⟨_, rfl, ?_⟩; have HO256 := Az.mk (Kd.V_lower (Kd.V_mono (ok' := fun k_ => (w.heap.size ≤ k_) ∧ some k_ ≠ (.slice Ao56 y244.length co56 : Value).ownBlock ∧ k_ ≠ gb233 ∧ k_ ≠ gb234 ∧ k_ ≠ gb238) ho0 (fun k_ hk_ => ⟨Or.elim hk_ (fun hs_ => ((Kd.R_types (Kd.R_types (HO249.out) BK233.out (by decide)) BK234.out (by decide)).1 k_ hs_.symm).1.1.1) (fun hn_ => (Nat.le_trans (pbZ (by exact pbE HB.out)) hn_)), Or.elim hk_ (fun hs_ => ((Kd.R_types (Kd.R_types (HO249.out) BK233.out (by decide)) BK234.out (by decide)).1 k_ hs_.symm).1.1.2.1) (fun hn_ => (Kd.fresh' (Kd.R_lt (Kd.R_ext HO246.out)) k_ hn_)), Or.elim hk_ (fun hs_ => ((Kd.R_types (Kd.R_types (HO249.out) BK233.out (by decide)) BK234.out (by decide)).1 k_ hs_.symm).1.2) (fun hn_ => (Kd.freshB (bk BK233.out) k_ hn_)), Or.elim hk_ (fun hs_ => ((Kd.R_types (Kd.R_types (HO249.out) BK233.out (by decide)) BK234.out (by decide)).1 k_ hs_.symm).2) (fun hn_ => (Kd.freshB (bk BK234.out) k_ hn_)), Or.elim hk_ (fun hs_ => ((Kd.R_types (Kd.R_types (HO249.out) BK233.out (by decide)) BK234.out (by decide)).1 k_ hs_.symm).1.1.2.2) (fun hn_ => (Kd.freshB (bk BK238.out) k_ hn_))⟩)) (pbZ (by exact pbE HB.out))); replace HO246 := Az.mk (Kd.R_below (Kd.R_ext HO246.out) hb); replace HO249 := Az.mk (Kd.R_below (Kd.R_ext HO249.out) hb); replace BK233 := Az.mk (bkB (bk BK233.out) hb); replace BK234 := Az.mk (bkB (bk BK234.out) hb); replace BK238 := Az.mk (bkB (bk BK238.out) hb); replace HB := Az.mk (pbT (by exact pbE HB.out) hb); (try clear hb); (try clear hb2); (try clear hk); (try clear hi); (try clear ho0); have hcz66 := cells6 BK234.out; obtain ⟨Ao67, co67, eo67⟩ := Kd.V_slice HO256.out; subst eo67))
      refine bodyPost_ret (results_ct rfl _ _ gb234 26 #[.int .i64 t250, .string t251, .string t252, .int .i64 t253, .slice Ao67 t254.length co67, .int .i64 t257] (0, 0) _ rfl (by refine bk ?_; refine blk_put (cs := #[.int .i64 t250, .string t251, .string t252, .int .i64 t253, .slice Ao67 t254.length co67, .int .i64 0]) ?_ 5 _ rfl; refine bk ?_; refine blk_put (cs := #[.int .i64 t250, .string t251, .string t252, .int .i64 t253, .slice none 0 0, .int .i64 0]) ?_ 4 _ rfl; refine bk ?_; refine blk_put (cs := #[.int .i64 t250, .string t251, .string t252, .int .i64 0, .slice none 0 0, .int .i64 0]) ?_ 3 _ rfl; refine bk ?_; refine blk_put (cs := #[.int .i64 t250, .string t251, .string (⟨#[]⟩ : ByteArray), .int .i64 0, .slice none 0 0, .int .i64 0]) ?_ 2 _ rfl; refine bk ?_; refine blk_put (cs := #[.int .i64 t250, .string (⟨#[]⟩ : ByteArray), .string (⟨#[]⟩ : ByteArray), .int .i64 0, .slice none 0 0, .int .i64 0]) ?_ 1 _ rfl; refine bk ?_; refine blk_put (cs := #[.int .i64 0, .string (⟨#[]⟩ : ByteArray), .string (⟨#[]⟩ : ByteArray), .int .i64 0, .slice none 0 0, .int .i64 0]) ?_ 0 _ rfl; refine bk ?_; exact BK234.out) Tryd.underlying26 rfl (by kernel_rfl)) rfl ?_
      exact ⟨_, by first | rfl | (simp [errW_none, errW_some] <;> rfl) | (simp [*, errW_none, errW_some] <;> rfl), by (with_reducible repeat (first | apply Kd.V_alloc | apply Kd.V_drewN | apply Kd.V_drew)); exact Kd.V_mono (Kd.V_off (g := gb234) (fun _ hk => hk.2) (Kd.V_mono HO256.out (fun k_ hk => (⟨hk, hk.2.2.2.1⟩ : _ ∧ k_ ≠ gb234)))) (fun _ hk => hk.1.1), by exact pbE HB.out⟩
     ·rw [if_neg c36] at H
      exact absurd H (by simp)
  ·replace c7 := Bool.eq_false_iff.mpr c7
   subst c7
   have H1 : (some (0, (⟨#[]⟩ : ByteArray), (⟨#[]⟩ : ByteArray), 0, ([] : List (S60)), 0, 2)) = some (r1, r2, r3, r4, r5, r6, r7) := by rw [if_neg (show ¬ (false = true) by decide)] at H; exact H
   clear H
   have H := H1
   clear H1
   simp only [Option.some.injEq, Prod.mk.injEq] at H
   obtain ⟨rfl, rfl, rfl, rfl, rfl, rfl, rfl⟩ := H
   go_enter Tryd.func25, Tryd.ntmps25
   go_wp2_with (first | ((with_reducible refine gate_dst (N := 2) rfl ?_); refine box_event ?hg (N := 2) ?hd (cs := #[.int .i64 a0_0, .string a0_1, .string a0_2, .int .i64 a0_3, .slice A0_4 l0_4.length c0_4, .int .i64 a0_5]) (t := 26) ?hr ?_; (case hd => rfl); (case hg => rfl); (case hr => first | (go_simp; done) | (go_simp; rfl)); intro gb233 hg w68 hbox hb; have BK233 := Az.mk (hbox); have GW233 := Az.mk (geO hg (pbE HB.out)); have GE233 := Az.mk (geO hg (pbE HB.out)); replace HB := Az.mk (pbT (by exact pbE HB.out) hb); clear hb hbox hg) | ((with_reducible refine gate_dst (N := 4) rfl ?_); refine box_event ?hg (N := 4) ?hd (cs := #[.int .i64 0, .string (⟨#[]⟩ : ByteArray), .string (⟨#[]⟩ : ByteArray), .int .i64 0, .slice none 0 0, .int .i64 0]) (t := 26) ?hr ?_; (case hd => rfl); (case hg => rfl); (case hr => first | (go_simp; done) | (go_simp; rfl)); intro gb234 hg w69 hbox hb; have BK234 := Az.mk (hbox); have GW234 := Az.mk (geO hg (pbE HB.out)); have GE234 := Az.mk (geO hg (pbE HB.out)); replace HB := Az.mk (pbT (by exact pbE HB.out) hb); have NB233_234 := Az.mk (neO hg (bk BK233.out)); have NB234_233 := Az.mk (neP hg (bk BK233.out)); replace BK233 := Az.mk (bkB (bk BK233.out) hb); clear hb hbox hg; have hnb70 := NB233_234.out; have hnc70 := NB234_233.out; have hcz71 := cells6 BK233.out) | ((with_reducible refine gtc (f := 30) rfl ?_); refine goesL_ (some 11) rfl rfl Tryd.func30 (by kernel_rfl) rfl #[.agg #[.int .i64 a0_0, .string a0_1, .string a0_2, .int .i64 a0_3, .slice A0_4 l0_4.length c0_4, .int .i64 a0_5], .int .i64 a1] rfl (by (try simp only [List.map_toArray, List.map_cons, List.map_nil]); first | done | rfl | (simp only [List.length_drop, List.length_take]; rfl)) ?_; (with_reducible refine (desc_On.calls a0_0 a0_1 a0_2 a0_3 _ _ l0_4 a0_5 a1 t235 t236 t237 _ ?side1 ?side2 ?side3 A3.out).mono ?_); (case side1 => exact hG.below (by exact pbE HB.out)); (case side2 => repeat (first | exact (Kd.C_below HR0_4.out HB.out) | (with_reducible refine Kd.C_alloc ?_ _) | (with_reducible refine Kd.C_drewN ?_ _) | (with_reducible refine Kd.C_drew ?_))); (case side3 => exact HC0_4.out); rintro e w72 ⟨rfl, hb⟩; refine ⟨_, rfl, ?_⟩; replace BK233 := Az.mk (bkB (bk BK233.out) hb); replace BK234 := Az.mk (bkB (bk BK234.out) hb); replace HB := Az.mk (pbT (by exact pbE HB.out) hb); (try clear hb); (try clear hb2); (try clear hk); (try clear hi)) | ((with_reducible refine gate_dst (N := 6) rfl ?_); refine box_event ?hg (N := 6) ?hd (cs := #[.int .i64 0, .int .i64 0]) (t := 60) ?hr ?_; (case hd => rfl); (case hg => rfl); (case hr => first | (go_simp; done) | (go_simp; rfl)); intro gb238 hg w73 hbox hb; have BK238 := Az.mk (hbox); have GW238 := Az.mk (geO hg (pbE HB.out)); have GE238 := Az.mk (geO hg (pbE HB.out)); replace HB := Az.mk (pbT (by exact pbE HB.out) hb); have NB233_238 := Az.mk (neO hg (bk BK233.out)); have NB238_233 := Az.mk (neP hg (bk BK233.out)); replace BK233 := Az.mk (bkB (bk BK233.out) hb); have NB234_238 := Az.mk (neO hg (bk BK234.out)); have NB238_234 := Az.mk (neP hg (bk BK234.out)); replace BK234 := Az.mk (bkB (bk BK234.out) hb); clear hb hbox hg; have hnb74 := NB238_233.out; have hnc74 := NB233_238.out; have hnb75 := NB238_234.out; have hnc75 := NB234_238.out; have hcz76 := cells2 BK238.out; have hcz77 := cells6 BK233.out) | ((with_reducible refine gtc (f := 22) rfl ?_); refine goesL_ (some 16) rfl rfl Tryd.func22 (by kernel_rfl) rfl #[.agg #[.int .i64 a0_0, .string a0_1, .string a0_2, .int .i64 a0_3, .slice A0_4 l0_4.length c0_4, .int .i64 a0_5]] rfl (by (try simp only [List.map_toArray, List.map_cons, List.map_nil]); first | done | rfl | (simp only [List.length_drop, List.length_take]; rfl)) ?_; (with_reducible refine (desc_Check.calls a0_0 a0_1 a0_2 a0_3 _ _ l0_4 a0_5 t239 _ ?side1 ?side2 ?side3 A4.out).mono ?_); (case side1 => exact hG.below (by exact pbE HB.out)); (case side2 => exact Kd.C_below HR0_4.out (by exact pbE HB.out)); (case side3 => exact HC0_4.out); rintro e w78 ⟨rfl, hb⟩; refine ⟨_, rfl, ?_⟩; replace BK233 := Az.mk (bkB (bf BK233.out) hb); replace BK234 := Az.mk (bkB (bf BK234.out) hb); replace BK238 := Az.mk (bkB (g := gb238) (o := .cells #[.int .i64 t235, .int .i64 t236] 60 (0, 0)) (by refine bk ?_; refine blk_put (cs := #[.int .i64 t235, .int .i64 0]) ?_ 1 _ rfl; refine bk ?_; refine blk_put (cs := #[.int .i64 0, .int .i64 0]) ?_ 0 _ rfl; refine bk ?_; exact BK238.out) hb); replace HB := Az.mk (pbT (by exact pbE HB.out) hb); (try clear hb); (try clear hb2); (try clear hk); (try clear hi)) | ((with_reducible refine gtc (f := 49) rfl ?_); refine goesL_ (some 21) rfl rfl Tryd.func49 (by kernel_rfl) rfl #[.int .i64 a1] rfl (by (try simp only [List.map_toArray, List.map_cons, List.map_nil]); first | done | rfl | (simp only [List.length_drop, List.length_take]; rfl)) ?_; (with_reducible refine (desc_isNode.calls a1 false _ ?side1 A6.out).mono ?_); (case side1 => exact hG.below (by exact pbE HB.out)); rintro e w' ⟨rfl, ⟨nd, rfl⟩⟩; refine ⟨_, rfl, ?_⟩; (try (rw [drewN_self w78]; generalize hq_ : World.drewN w78 _ = w78; have n0_ : Az (w78.heap[gb233]? = some (.cells #[.int .i64 a0_0, .string a0_1, .string a0_2, .int .i64 a0_3, .slice A0_4 l0_4.length c0_4, .int .i64 a0_5] 26 (0, 0))) := ⟨by rw [← hq_]; exact (bk BK233.out)⟩; have n1_ : Az (w78.heap[gb234]? = some (.cells #[.int .i64 0, .string (⟨#[]⟩ : ByteArray), .string (⟨#[]⟩ : ByteArray), .int .i64 0, .slice none 0 0, .int .i64 0] 26 (0, 0))) := ⟨by rw [← hq_]; exact (bk BK234.out)⟩; have n2_ : Az (w78.heap[gb238]? = some (.cells #[.int .i64 t235, .int .i64 t236] 60 (0, 0))) := ⟨by rw [← hq_]; exact (bk BK238.out)⟩; have n3_ : Az (Below w.heap.size w w78) := ⟨by rw [← hq_]; exact (by exact pbE HB.out)⟩; clear BK233 BK234 BK238 HB hq_; have BK233 := n0_; have BK234 := n1_; have BK238 := n2_; have HB := n3_; clear n0_ n1_ n2_ n3_)); have hcz79 := cells6 BK234.out))
   refine bodyPost_ret (results_ct rfl _ _ gb234 26 #[.int .i64 0, .string (⟨#[]⟩ : ByteArray), .string (⟨#[]⟩ : ByteArray), .int .i64 0, .slice none 0 0, .int .i64 0] (0, 0) _ rfl (by refine bk ?_; refine blk_put (cs := #[.int .i64 0, .string (⟨#[]⟩ : ByteArray), .string (⟨#[]⟩ : ByteArray), .int .i64 0, .slice none 0 0, .int .i64 0]) ?_ 5 _ rfl; refine bk ?_; refine blk_put (cs := #[.int .i64 0, .string (⟨#[]⟩ : ByteArray), .string (⟨#[]⟩ : ByteArray), .int .i64 0, .slice none 0 0, .int .i64 0]) ?_ 4 _ rfl; refine bk ?_; refine blk_put (cs := #[.int .i64 0, .string (⟨#[]⟩ : ByteArray), .string (⟨#[]⟩ : ByteArray), .int .i64 0, .slice none 0 0, .int .i64 0]) ?_ 3 _ rfl; refine bk ?_; refine blk_put (cs := #[.int .i64 0, .string (⟨#[]⟩ : ByteArray), .string (⟨#[]⟩ : ByteArray), .int .i64 0, .slice none 0 0, .int .i64 0]) ?_ 2 _ rfl; refine bk ?_; refine blk_put (cs := #[.int .i64 0, .string (⟨#[]⟩ : ByteArray), .string (⟨#[]⟩ : ByteArray), .int .i64 0, .slice none 0 0, .int .i64 0]) ?_ 1 _ rfl; refine bk ?_; refine blk_put (cs := #[.int .i64 0, .string (⟨#[]⟩ : ByteArray), .string (⟨#[]⟩ : ByteArray), .int .i64 0, .slice none 0 0, .int .i64 0]) ?_ 0 _ rfl; refine bk ?_; exact BK234.out) Tryd.underlying26 rfl (by kernel_rfl)) rfl ?_
   exact ⟨_, by first | rfl | (simp [errW_none, errW_some] <;> rfl) | (simp [*, errW_none, errW_some] <;> rfl), Kd.V_nil _ _ _ _ _, by exact pbE HB.out⟩
 ·rw [if_neg c5] at H
  have c5b0 : (t239 == 0) = false := beq_eq_false_iff_ne.mpr c5
  have c5b1 : (t239 != 0) = true := bne_iff_ne.mpr c5
  simp only [Option.some.injEq, Prod.mk.injEq] at H
  obtain ⟨rfl, rfl, rfl, rfl, rfl, rfl, rfl⟩ := H
  go_enter Tryd.func25, Tryd.ntmps25
  go_wp2_with (first | ((with_reducible refine gate_dst (N := 2) rfl ?_); refine box_event ?hg (N := 2) ?hd (cs := #[.int .i64 a0_0, .string a0_1, .string a0_2, .int .i64 a0_3, .slice A0_4 l0_4.length c0_4, .int .i64 a0_5]) (t := 26) ?hr ?_; (case hd => rfl); (case hg => rfl); (case hr => first | (go_simp; done) | (go_simp; rfl)); intro gb233 hg w80 hbox hb; have BK233 := Az.mk (hbox); have GW233 := Az.mk (geO hg (pbE HB.out)); have GE233 := Az.mk (geO hg (pbE HB.out)); replace HB := Az.mk (pbT (by exact pbE HB.out) hb); clear hb hbox hg) | ((with_reducible refine gate_dst (N := 4) rfl ?_); refine box_event ?hg (N := 4) ?hd (cs := #[.int .i64 0, .string (⟨#[]⟩ : ByteArray), .string (⟨#[]⟩ : ByteArray), .int .i64 0, .slice none 0 0, .int .i64 0]) (t := 26) ?hr ?_; (case hd => rfl); (case hg => rfl); (case hr => first | (go_simp; done) | (go_simp; rfl)); intro gb234 hg w81 hbox hb; have BK234 := Az.mk (hbox); have GW234 := Az.mk (geO hg (pbE HB.out)); have GE234 := Az.mk (geO hg (pbE HB.out)); replace HB := Az.mk (pbT (by exact pbE HB.out) hb); have NB233_234 := Az.mk (neO hg (bk BK233.out)); have NB234_233 := Az.mk (neP hg (bk BK233.out)); replace BK233 := Az.mk (bkB (bk BK233.out) hb); clear hb hbox hg; have hnb82 := NB233_234.out; have hnc82 := NB234_233.out; have hcz83 := cells6 BK233.out) | ((with_reducible refine gtc (f := 30) rfl ?_); refine goesL_ (some 11) rfl rfl Tryd.func30 (by kernel_rfl) rfl #[.agg #[.int .i64 a0_0, .string a0_1, .string a0_2, .int .i64 a0_3, .slice A0_4 l0_4.length c0_4, .int .i64 a0_5], .int .i64 a1] rfl (by (try simp only [List.map_toArray, List.map_cons, List.map_nil]); first | done | rfl | (simp only [List.length_drop, List.length_take]; rfl)) ?_; (with_reducible refine (desc_On.calls a0_0 a0_1 a0_2 a0_3 _ _ l0_4 a0_5 a1 t235 t236 t237 _ ?side1 ?side2 ?side3 A3.out).mono ?_); (case side1 => exact hG.below (by exact pbE HB.out)); (case side2 => repeat (first | exact (Kd.C_below HR0_4.out HB.out) | (with_reducible refine Kd.C_alloc ?_ _) | (with_reducible refine Kd.C_drewN ?_ _) | (with_reducible refine Kd.C_drew ?_))); (case side3 => exact HC0_4.out); rintro e w84 ⟨rfl, hb⟩; refine ⟨_, rfl, ?_⟩; replace BK233 := Az.mk (bkB (bk BK233.out) hb); replace BK234 := Az.mk (bkB (bk BK234.out) hb); replace HB := Az.mk (pbT (by exact pbE HB.out) hb); (try clear hb); (try clear hb2); (try clear hk); (try clear hi)) | ((with_reducible refine gate_dst (N := 6) rfl ?_); refine box_event ?hg (N := 6) ?hd (cs := #[.int .i64 0, .int .i64 0]) (t := 60) ?hr ?_; (case hd => rfl); (case hg => rfl); (case hr => first | (go_simp; done) | (go_simp; rfl)); intro gb238 hg w85 hbox hb; have BK238 := Az.mk (hbox); have GW238 := Az.mk (geO hg (pbE HB.out)); have GE238 := Az.mk (geO hg (pbE HB.out)); replace HB := Az.mk (pbT (by exact pbE HB.out) hb); have NB233_238 := Az.mk (neO hg (bk BK233.out)); have NB238_233 := Az.mk (neP hg (bk BK233.out)); replace BK233 := Az.mk (bkB (bk BK233.out) hb); have NB234_238 := Az.mk (neO hg (bk BK234.out)); have NB238_234 := Az.mk (neP hg (bk BK234.out)); replace BK234 := Az.mk (bkB (bk BK234.out) hb); clear hb hbox hg; have hnb86 := NB238_233.out; have hnc86 := NB233_238.out; have hnb87 := NB238_234.out; have hnc87 := NB234_238.out; have hcz88 := cells2 BK238.out; have hcz89 := cells6 BK233.out) | ((with_reducible refine gtc (f := 22) rfl ?_); refine goesL_ (some 16) rfl rfl Tryd.func22 (by kernel_rfl) rfl #[.agg #[.int .i64 a0_0, .string a0_1, .string a0_2, .int .i64 a0_3, .slice A0_4 l0_4.length c0_4, .int .i64 a0_5]] rfl (by (try simp only [List.map_toArray, List.map_cons, List.map_nil]); first | done | rfl | (simp only [List.length_drop, List.length_take]; rfl)) ?_; (with_reducible refine (desc_Check.calls a0_0 a0_1 a0_2 a0_3 _ _ l0_4 a0_5 t239 _ ?side1 ?side2 ?side3 A4.out).mono ?_); (case side1 => exact hG.below (by exact pbE HB.out)); (case side2 => exact Kd.C_below HR0_4.out (by exact pbE HB.out)); (case side3 => exact HC0_4.out); rintro e w90 ⟨rfl, hb⟩; refine ⟨_, rfl, ?_⟩; replace BK233 := Az.mk (bkB (bf BK233.out) hb); replace BK234 := Az.mk (bkB (bf BK234.out) hb); replace BK238 := Az.mk (bkB (g := gb238) (o := .cells #[.int .i64 t235, .int .i64 t236] 60 (0, 0)) (by refine bk ?_; refine blk_put (cs := #[.int .i64 t235, .int .i64 0]) ?_ 1 _ rfl; refine bk ?_; refine blk_put (cs := #[.int .i64 0, .int .i64 0]) ?_ 0 _ rfl; refine bk ?_; exact BK238.out) hb); replace HB := Az.mk (pbT (by exact pbE HB.out) hb); (try clear hb); (try clear hb2); (try clear hk); (try clear hi); have hcz91 := cells6 BK234.out))
  refine bodyPost_ret (results_ct rfl _ _ gb234 26 #[.int .i64 0, .string (⟨#[]⟩ : ByteArray), .string (⟨#[]⟩ : ByteArray), .int .i64 0, .slice none 0 0, .int .i64 0] (0, 0) _ rfl (by refine bk ?_; refine blk_put (cs := #[.int .i64 0, .string (⟨#[]⟩ : ByteArray), .string (⟨#[]⟩ : ByteArray), .int .i64 0, .slice none 0 0, .int .i64 0]) ?_ 5 _ rfl; refine bk ?_; refine blk_put (cs := #[.int .i64 0, .string (⟨#[]⟩ : ByteArray), .string (⟨#[]⟩ : ByteArray), .int .i64 0, .slice none 0 0, .int .i64 0]) ?_ 4 _ rfl; refine bk ?_; refine blk_put (cs := #[.int .i64 0, .string (⟨#[]⟩ : ByteArray), .string (⟨#[]⟩ : ByteArray), .int .i64 0, .slice none 0 0, .int .i64 0]) ?_ 3 _ rfl; refine bk ?_; refine blk_put (cs := #[.int .i64 0, .string (⟨#[]⟩ : ByteArray), .string (⟨#[]⟩ : ByteArray), .int .i64 0, .slice none 0 0, .int .i64 0]) ?_ 2 _ rfl; refine bk ?_; refine blk_put (cs := #[.int .i64 0, .string (⟨#[]⟩ : ByteArray), .string (⟨#[]⟩ : ByteArray), .int .i64 0, .slice none 0 0, .int .i64 0]) ?_ 1 _ rfl; refine bk ?_; refine blk_put (cs := #[.int .i64 0, .string (⟨#[]⟩ : ByteArray), .string (⟨#[]⟩ : ByteArray), .int .i64 0, .slice none 0 0, .int .i64 0]) ?_ 0 _ rfl; refine bk ?_; exact BK234.out) Tryd.underlying26 rfl (by kernel_rfl)) rfl ?_
  exact ⟨_, by first | rfl | (simp [errW_none, errW_some] <;> rfl) | (simp [*, errW_none, errW_some] <;> rfl), Kd.V_nil _ _ _ _ _, by exact pbE HB.out⟩
def desc_Remove.f (a0_0 : Int) (a0_1 : ByteArray) (a0_2 : ByteArray) (a0_3 : Int) (l0_4 : List (S60)) (a0_5 : Int) (a1 : Int) : Option (Int × ByteArray × ByteArray × Int × (List (S60)) × Int × Int) := (desc_Has.f a0_0 a0_1 a0_2 a0_3 l0_4 a0_5 a1).bind fun bt571 => ((desc_Check.f a0_0 a0_1 a0_2 a0_3 l0_4 a0_5).bind fun t575 => (if t575 = 0 then (if bt571.2.2 = true then (if (l0_4.length : Int) = 1 then (some (0, (⟨#[]⟩ : ByteArray), (⟨#[]⟩ : ByteArray), 0, ([] : List (S60)), 0, 2)) else ((api_Member_51.f l0_4 a1).bind fun t576 => ((desc_right.f a0_0 a0_1 a0_2 (wrap64 (a0_3 + 1)) t576 a0_5).bind fun bt579 => (some (bt579.1, bt579.2.1, bt579.2.2.1, bt579.2.2.2.1, bt579.2.2.2.2.1, bt579.2.2.2.2.2.1, bt579.2.2.2.2.2.2))))) else (some (0, (⟨#[]⟩ : ByteArray), (⟨#[]⟩ : ByteArray), 0, ([] : List (S60)), 0, 7))) else (some (0, (⟨#[]⟩ : ByteArray), (⟨#[]⟩ : ByteArray), 0, ([] : List (S60)), 0, 60))))
set_option maxHeartbeats 8000000 in
set_option maxRecDepth 100000 in
theorem desc_Remove.calls (a0_0 : Int) (a0_1 : ByteArray) (a0_2 : ByteArray) (a0_3 : Int) (A0_4 : Option Addr) (c0_4 : Nat) (l0_4 : List (S60)) (a0_5 : Int) (a1 : Int) (r1 : Int) (r2 : ByteArray) (r3 : ByteArray) (r4 : Int) (r5 : List (S60)) (r6 : Int) (r7 : Int) (w : World) (hG : TheG w) (hr0_4 : Kd.C k60 w A0_4 l0_4.length l0_4) (hc0_4 : l0_4.length ≤ c0_4) (h : desc_Remove.f a0_0 a0_1 a0_2 a0_3 l0_4 a0_5 a1 = some (r1, r2, r3, r4, r5, r6, r7)) :
 Calls Tryd.prog 27 #[.agg #[.int .i64 a0_0, .string a0_1, .string a0_2, .int .i64 a0_3, .slice A0_4 l0_4.length c0_4, .int .i64 a0_5], .int .i64 a1] w fun e w' => ∃ v4_ : Value, e = .returned (.tuple #[.agg #[.int .i64 r1, .string r2, .string r3, .int .i64 r4, v4_, .int .i64 r6], .int .i64 r7]) ∧ Kd.V k60 60 w' w.heap.size (fun k_ => (w.heap.size ≤ k_)) v4_ r5 ∧ Below w.heap.size w w' := by
 have hu26 := Tryd.underlying26
 have hu60 := Tryd.underlying60
 have HR0_4 := Az.mk hr0_4
 have HC0_4 := Az.mk hc0_4
 clear hr0_4 hc0_4
 have HB := Az.mk (Below.refl w.heap.size w)
 have H : ((desc_Has.f a0_0 a0_1 a0_2 a0_3 l0_4 a0_5 a1).bind fun bt571 => ((desc_Check.f a0_0 a0_1 a0_2 a0_3 l0_4 a0_5).bind fun t575 => (if t575 = 0 then (if bt571.2.2 = true then (if (l0_4.length : Int) = 1 then (some (0, (⟨#[]⟩ : ByteArray), (⟨#[]⟩ : ByteArray), 0, ([] : List (S60)), 0, 2)) else ((api_Member_51.f l0_4 a1).bind fun t576 => ((desc_right.f a0_0 a0_1 a0_2 (wrap64 (a0_3 + 1)) t576 a0_5).bind fun bt579 => (some (bt579.1, bt579.2.1, bt579.2.2.1, bt579.2.2.2.1, bt579.2.2.2.2.1, bt579.2.2.2.2.2.1, bt579.2.2.2.2.2.2))))) else (some (0, (⟨#[]⟩ : ByteArray), (⟨#[]⟩ : ByteArray), 0, ([] : List (S60)), 0, 7))) else (some (0, (⟨#[]⟩ : ByteArray), (⟨#[]⟩ : ByteArray), 0, ([] : List (S60)), 0, 60))))) = some (r1, r2, r3, r4, r5, r6, r7) := h
 clear h
 replace H := Option.bind_eq_some_iff.mp H
 obtain ⟨⟨t571, t572, t573⟩, A30, H⟩ := H
 replace H : ((desc_Check.f a0_0 a0_1 a0_2 a0_3 l0_4 a0_5).bind fun t575 => (if t575 = 0 then (if t573 = true then (if (l0_4.length : Int) = 1 then (some (0, (⟨#[]⟩ : ByteArray), (⟨#[]⟩ : ByteArray), 0, ([] : List (S60)), 0, 2)) else ((api_Member_51.f l0_4 a1).bind fun t576 => ((desc_right.f a0_0 a0_1 a0_2 (wrap64 (a0_3 + 1)) t576 a0_5).bind fun bt579 => (some (bt579.1, bt579.2.1, bt579.2.2.1, bt579.2.2.2.1, bt579.2.2.2.2.1, bt579.2.2.2.2.2.1, bt579.2.2.2.2.2.2))))) else (some (0, (⟨#[]⟩ : ByteArray), (⟨#[]⟩ : ByteArray), 0, ([] : List (S60)), 0, 7))) else (some (0, (⟨#[]⟩ : ByteArray), (⟨#[]⟩ : ByteArray), 0, ([] : List (S60)), 0, 60)))) = some (r1, r2, r3, r4, r5, r6, r7) := H
 have A3 := Az.mk A30
 clear A30
 replace H := Option.bind_eq_some_iff.mp H
 obtain ⟨t575, A40, H⟩ := H
 replace H : (if t575 = 0 then (if t573 = true then (if (l0_4.length : Int) = 1 then (some (0, (⟨#[]⟩ : ByteArray), (⟨#[]⟩ : ByteArray), 0, ([] : List (S60)), 0, 2)) else ((api_Member_51.f l0_4 a1).bind fun t576 => ((desc_right.f a0_0 a0_1 a0_2 (wrap64 (a0_3 + 1)) t576 a0_5).bind fun bt579 => (some (bt579.1, bt579.2.1, bt579.2.2.1, bt579.2.2.2.1, bt579.2.2.2.2.1, bt579.2.2.2.2.2.1, bt579.2.2.2.2.2.2))))) else (some (0, (⟨#[]⟩ : ByteArray), (⟨#[]⟩ : ByteArray), 0, ([] : List (S60)), 0, 7))) else (some (0, (⟨#[]⟩ : ByteArray), (⟨#[]⟩ : ByteArray), 0, ([] : List (S60)), 0, 60))) = some (r1, r2, r3, r4, r5, r6, r7) := H
 have A4 := Az.mk A40
 clear A40
 by_cases c5 : t575 = 0
 ·rw [if_pos c5] at H
  have c5b0 : (t575 == 0) = true := beq_iff_eq.mpr c5
  have c5b1 : (t575 != 0) = false := bne_eq_false_iff_eq.mpr c5
  clear c5
  by_cases c6 : t573 = true
  ·subst c6
   have H1 : (if (l0_4.length : Int) = 1 then (some (0, (⟨#[]⟩ : ByteArray), (⟨#[]⟩ : ByteArray), 0, ([] : List (S60)), 0, 2)) else ((api_Member_51.f l0_4 a1).bind fun t576 => ((desc_right.f a0_0 a0_1 a0_2 (wrap64 (a0_3 + 1)) t576 a0_5).bind fun bt579 => (some (bt579.1, bt579.2.1, bt579.2.2.1, bt579.2.2.2.1, bt579.2.2.2.2.1, bt579.2.2.2.2.2.1, bt579.2.2.2.2.2.2))))) = some (r1, r2, r3, r4, r5, r6, r7) := by rw [if_pos rfl] at H; exact H
   clear H
   have H := H1
   clear H1
   by_cases c7 : (l0_4.length : Int) = 1
   ·rw [if_pos c7] at H
    have c7b0 : ((l0_4.length : Int) == 1) = true := beq_iff_eq.mpr c7
    have c7b1 : ((l0_4.length : Int) != 1) = false := bne_eq_false_iff_eq.mpr c7
    clear c7
    simp only [Option.some.injEq, Prod.mk.injEq] at H
    obtain ⟨rfl, rfl, rfl, rfl, rfl, rfl, rfl⟩ := H
    have hmf : ∀ (fn : Fn) (first cap : Array Value) (w : World), (Instr.makeFunc fn first cap).run Tryd.prog w = .ok (.func fn first cap) w := fun _ _ _ _ => rfl
    go_enter Tryd.func27, Tryd.ntmps27
    go_wp2_with (first | ((with_reducible refine gate_dst (N := 2) rfl ?_); refine box_event ?hg (N := 2) ?hd (cs := #[.int .i64 a0_0, .string a0_1, .string a0_2, .int .i64 a0_3, .slice A0_4 l0_4.length c0_4, .int .i64 a0_5]) (t := 26) ?hr ?_; (case hd => rfl); (case hg => rfl); (case hr => first | (go_simp; done) | (go_simp; rfl)); intro gb568 hg w8 hbox hb; have BK568 := Az.mk (hbox); have GW568 := Az.mk (geO hg (pbE HB.out)); have GE568 := Az.mk (geO hg (pbE HB.out)); replace HB := Az.mk (pbT (by exact pbE HB.out) hb); clear hb hbox hg) | ((with_reducible refine gate_dst (N := 3) rfl ?_); refine box_event ?hg (N := 3) ?hd (cs := #[.int .i64 a1]) (t := 2) ?hr ?_; (case hd => rfl); (case hg => rfl); (case hr => first | (go_simp; done) | (go_simp; rfl)); intro gb569 hg w9 hbox hb; have BK569 := Az.mk (hbox); have GW569 := Az.mk (geO hg (pbE HB.out)); have GE569 := Az.mk (geO hg (pbE HB.out)); replace HB := Az.mk (pbT (by exact pbE HB.out) hb); have NB568_569 := Az.mk (neO hg (bk BK568.out)); have NB569_568 := Az.mk (neP hg (bk BK568.out)); replace BK568 := Az.mk (bkB (bk BK568.out) hb); clear hb hbox hg) | ((with_reducible refine gate_dst (N := 4) rfl ?_); refine box_event ?hg (N := 4) ?hd (cs := #[.int .i64 0, .string (⟨#[]⟩ : ByteArray), .string (⟨#[]⟩ : ByteArray), .int .i64 0, .slice none 0 0, .int .i64 0]) (t := 26) ?hr ?_; (case hd => rfl); (case hg => rfl); (case hr => first | (go_simp; done) | (go_simp; rfl)); intro gb570 hg w10 hbox hb; have BK570 := Az.mk (hbox); have GW570 := Az.mk (geO hg (pbE HB.out)); have GE570 := Az.mk (geO hg (pbE HB.out)); replace HB := Az.mk (pbT (by exact pbE HB.out) hb); have NB568_570 := Az.mk (neO hg (bk BK568.out)); have NB570_568 := Az.mk (neP hg (bk BK568.out)); replace BK568 := Az.mk (bkB (bk BK568.out) hb); have NB569_570 := Az.mk (neO hg (bk BK569.out)); have NB570_569 := Az.mk (neP hg (bk BK569.out)); replace BK569 := Az.mk (bkB (bk BK569.out) hb); clear hb hbox hg; have hnb11 := NB568_569.out; have hnc11 := NB569_568.out; have hnb12 := NB568_570.out; have hnc12 := NB570_568.out; have hcz13 := cells6 BK568.out; have hnb14 := NB569_570.out; have hnc14 := NB570_569.out; have hcz15 := cells1 BK569.out) | ((with_reducible refine gtc (f := 29) rfl ?_); refine goesL_ (some 11) rfl rfl Tryd.func29 (by kernel_rfl) rfl #[.agg #[.int .i64 a0_0, .string a0_1, .string a0_2, .int .i64 a0_3, .slice A0_4 l0_4.length c0_4, .int .i64 a0_5], .int .i64 a1] rfl (by (try simp only [List.map_toArray, List.map_cons, List.map_nil]); first | done | rfl | (simp only [List.length_drop, List.length_take]; rfl)) ?_; (with_reducible refine (desc_Has.calls a0_0 a0_1 a0_2 a0_3 _ _ l0_4 a0_5 a1 t571 t572 true _ ?side1 ?side2 ?side3 A3.out).mono ?_); (case side1 => exact hG.below (by exact pbE HB.out)); (case side2 => repeat (first | exact (Kd.C_below HR0_4.out HB.out) | (with_reducible refine Kd.C_alloc ?_ _) | (with_reducible refine Kd.C_drewN ?_ _) | (with_reducible refine Kd.C_drew ?_))); (case side3 => exact HC0_4.out); rintro e w16 ⟨rfl, hb⟩; refine ⟨_, rfl, ?_⟩; replace BK568 := Az.mk (bkB (bk BK568.out) hb); replace BK569 := Az.mk (bkB (bk BK569.out) hb); replace BK570 := Az.mk (bkB (bk BK570.out) hb); replace HB := Az.mk (pbT (by exact pbE HB.out) hb); (try clear hb); (try clear hb2); (try clear hk); (try clear hi)) | ((with_reducible refine gate_dst (N := 6) rfl ?_); refine box_event ?hg (N := 6) ?hd (cs := #[.int .i64 0, .int .i64 0]) (t := 60) ?hr ?_; (case hd => rfl); (case hg => rfl); (case hr => first | (go_simp; done) | (go_simp; rfl)); intro gb574 hg w17 hbox hb; have BK574 := Az.mk (hbox); have GW574 := Az.mk (geO hg (pbE HB.out)); have GE574 := Az.mk (geO hg (pbE HB.out)); replace HB := Az.mk (pbT (by exact pbE HB.out) hb); have NB568_574 := Az.mk (neO hg (bk BK568.out)); have NB574_568 := Az.mk (neP hg (bk BK568.out)); replace BK568 := Az.mk (bkB (bk BK568.out) hb); have NB569_574 := Az.mk (neO hg (bk BK569.out)); have NB574_569 := Az.mk (neP hg (bk BK569.out)); replace BK569 := Az.mk (bkB (bk BK569.out) hb); have NB570_574 := Az.mk (neO hg (bk BK570.out)); have NB574_570 := Az.mk (neP hg (bk BK570.out)); replace BK570 := Az.mk (bkB (bk BK570.out) hb); clear hb hbox hg; have hnb18 := NB574_568.out; have hnc18 := NB568_574.out; have hnb19 := NB574_569.out; have hnc19 := NB569_574.out; have hnb20 := NB574_570.out; have hnc20 := NB570_574.out; have hcz21 := cells2 BK574.out; have hcz22 := cells6 BK568.out) | ((with_reducible refine gtc (f := 22) rfl ?_); refine goesL_ (some 16) rfl rfl Tryd.func22 (by kernel_rfl) rfl #[.agg #[.int .i64 a0_0, .string a0_1, .string a0_2, .int .i64 a0_3, .slice A0_4 l0_4.length c0_4, .int .i64 a0_5]] rfl (by (try simp only [List.map_toArray, List.map_cons, List.map_nil]); first | done | rfl | (simp only [List.length_drop, List.length_take]; rfl)) ?_; (with_reducible refine (desc_Check.calls a0_0 a0_1 a0_2 a0_3 _ _ l0_4 a0_5 t575 _ ?side1 ?side2 ?side3 A4.out).mono ?_); (case side1 => exact hG.below (by exact pbE HB.out)); (case side2 => exact Kd.C_below HR0_4.out (by exact pbE HB.out)); (case side3 => exact HC0_4.out); rintro e w23 ⟨rfl, hb⟩; refine ⟨_, rfl, ?_⟩; replace BK568 := Az.mk (bkB (bf BK568.out) hb); replace BK569 := Az.mk (bkB (bf BK569.out) hb); replace BK570 := Az.mk (bkB (bf BK570.out) hb); replace BK574 := Az.mk (bkB (g := gb574) (o := .cells #[.int .i64 t571, .int .i64 t572] 60 (0, 0)) (by refine bk ?_; refine blk_put (cs := #[.int .i64 t571, .int .i64 0]) ?_ 1 _ rfl; refine bk ?_; refine blk_put (cs := #[.int .i64 0, .int .i64 0]) ?_ 0 _ rfl; refine bk ?_; exact BK574.out) hb); replace HB := Az.mk (pbT (by exact pbE HB.out) hb); (try clear hb); (try clear hb2); (try clear hk); (try clear hi); have hcz24 := cells6 BK568.out; have hcz25 := cells6 BK570.out))
    refine bodyPost_ret (results_ct rfl _ _ gb570 26 #[.int .i64 0, .string (⟨#[]⟩ : ByteArray), .string (⟨#[]⟩ : ByteArray), .int .i64 0, .slice none 0 0, .int .i64 0] (0, 0) _ rfl (by refine bk ?_; refine blk_put (cs := #[.int .i64 0, .string (⟨#[]⟩ : ByteArray), .string (⟨#[]⟩ : ByteArray), .int .i64 0, .slice none 0 0, .int .i64 0]) ?_ 5 _ rfl; refine bk ?_; refine blk_put (cs := #[.int .i64 0, .string (⟨#[]⟩ : ByteArray), .string (⟨#[]⟩ : ByteArray), .int .i64 0, .slice none 0 0, .int .i64 0]) ?_ 4 _ rfl; refine bk ?_; refine blk_put (cs := #[.int .i64 0, .string (⟨#[]⟩ : ByteArray), .string (⟨#[]⟩ : ByteArray), .int .i64 0, .slice none 0 0, .int .i64 0]) ?_ 3 _ rfl; refine bk ?_; refine blk_put (cs := #[.int .i64 0, .string (⟨#[]⟩ : ByteArray), .string (⟨#[]⟩ : ByteArray), .int .i64 0, .slice none 0 0, .int .i64 0]) ?_ 2 _ rfl; refine bk ?_; refine blk_put (cs := #[.int .i64 0, .string (⟨#[]⟩ : ByteArray), .string (⟨#[]⟩ : ByteArray), .int .i64 0, .slice none 0 0, .int .i64 0]) ?_ 1 _ rfl; refine bk ?_; refine blk_put (cs := #[.int .i64 0, .string (⟨#[]⟩ : ByteArray), .string (⟨#[]⟩ : ByteArray), .int .i64 0, .slice none 0 0, .int .i64 0]) ?_ 0 _ rfl; refine bk ?_; exact BK570.out) Tryd.underlying26 rfl (by kernel_rfl)) rfl ?_
    exact ⟨_, by first | rfl | (simp [errW_none, errW_some] <;> rfl) | (simp [*, errW_none, errW_some] <;> rfl), Kd.V_nil _ _ _ _ _, by exact pbE HB.out⟩
   ·rw [if_neg c7] at H
    have c7b0 : ((l0_4.length : Int) == 1) = false := beq_eq_false_iff_ne.mpr c7
    have c7b1 : ((l0_4.length : Int) != 1) = true := bne_iff_ne.mpr c7
    replace H := Option.bind_eq_some_iff.mp H
    obtain ⟨t576, A260, H⟩ := H
    replace H : ((desc_right.f a0_0 a0_1 a0_2 (wrap64 (a0_3 + 1)) t576 a0_5).bind fun bt579 => (some (bt579.1, bt579.2.1, bt579.2.2.1, bt579.2.2.2.1, bt579.2.2.2.2.1, bt579.2.2.2.2.2.1, bt579.2.2.2.2.2.2))) = some (r1, r2, r3, r4, r5, r6, r7) := H
    have A26 := Az.mk A260
    clear A260
    replace H := Option.bind_eq_some_iff.mp H
    obtain ⟨⟨t579, t580, t581, t582, t583, t586, t587⟩, A270, H⟩ := H
    replace H : (some (t579, t580, t581, t582, t583, t586, t587)) = some (r1, r2, r3, r4, r5, r6, r7) := H
    have A27 := Az.mk A270
    clear A270
    simp only [Option.some.injEq, Prod.mk.injEq] at H
    obtain ⟨rfl, rfl, rfl, rfl, rfl, rfl, rfl⟩ := H
    have hmf : ∀ (fn : Fn) (first cap : Array Value) (w : World), (Instr.makeFunc fn first cap).run Tryd.prog w = .ok (.func fn first cap) w := fun _ _ _ _ => rfl
    go_enter Tryd.func27, Tryd.ntmps27
    go_wp2_with (first | ((with_reducible refine gate_dst (N := 2) rfl ?_); refine box_event ?hg (N := 2) ?hd (cs := #[.int .i64 a0_0, .string a0_1, .string a0_2, .int .i64 a0_3, .slice A0_4 l0_4.length c0_4, .int .i64 a0_5]) (t := 26) ?hr ?_; (case hd => rfl); (case hg => rfl); (case hr => first | (go_simp; done) | (go_simp; rfl)); intro gb568 hg w28 hbox hb; have BK568 := Az.mk (hbox); have GW568 := Az.mk (geO hg (pbE HB.out)); have GE568 := Az.mk (geO hg (pbE HB.out)); replace HB := Az.mk (pbT (by exact pbE HB.out) hb); clear hb hbox hg) | ((with_reducible refine gate_dst (N := 3) rfl ?_); refine box_event ?hg (N := 3) ?hd (cs := #[.int .i64 a1]) (t := 2) ?hr ?_; (case hd => rfl); (case hg => rfl); (case hr => first | (go_simp; done) | (go_simp; rfl)); intro gb569 hg w29 hbox hb; have BK569 := Az.mk (hbox); have GW569 := Az.mk (geO hg (pbE HB.out)); have GE569 := Az.mk (geO hg (pbE HB.out)); replace HB := Az.mk (pbT (by exact pbE HB.out) hb); have NB568_569 := Az.mk (neO hg (bk BK568.out)); have NB569_568 := Az.mk (neP hg (bk BK568.out)); replace BK568 := Az.mk (bkB (bk BK568.out) hb); clear hb hbox hg) | ((with_reducible refine gate_dst (N := 4) rfl ?_); refine box_event ?hg (N := 4) ?hd (cs := #[.int .i64 0, .string (⟨#[]⟩ : ByteArray), .string (⟨#[]⟩ : ByteArray), .int .i64 0, .slice none 0 0, .int .i64 0]) (t := 26) ?hr ?_; (case hd => rfl); (case hg => rfl); (case hr => first | (go_simp; done) | (go_simp; rfl)); intro gb570 hg w30 hbox hb; have BK570 := Az.mk (hbox); have GW570 := Az.mk (geO hg (pbE HB.out)); have GE570 := Az.mk (geO hg (pbE HB.out)); replace HB := Az.mk (pbT (by exact pbE HB.out) hb); have NB568_570 := Az.mk (neO hg (bk BK568.out)); have NB570_568 := Az.mk (neP hg (bk BK568.out)); replace BK568 := Az.mk (bkB (bk BK568.out) hb); have NB569_570 := Az.mk (neO hg (bk BK569.out)); have NB570_569 := Az.mk (neP hg (bk BK569.out)); replace BK569 := Az.mk (bkB (bk BK569.out) hb); clear hb hbox hg; have hnb31 := NB568_569.out; have hnc31 := NB569_568.out; have hnb32 := NB568_570.out; have hnc32 := NB570_568.out; have hcz33 := cells6 BK568.out; have hnb34 := NB569_570.out; have hnc34 := NB570_569.out; have hcz35 := cells1 BK569.out) | ((with_reducible refine gtc (f := 29) rfl ?_); refine goesL_ (some 11) rfl rfl Tryd.func29 (by kernel_rfl) rfl #[.agg #[.int .i64 a0_0, .string a0_1, .string a0_2, .int .i64 a0_3, .slice A0_4 l0_4.length c0_4, .int .i64 a0_5], .int .i64 a1] rfl (by (try simp only [List.map_toArray, List.map_cons, List.map_nil]); first | done | rfl | (simp only [List.length_drop, List.length_take]; rfl)) ?_; (with_reducible refine (desc_Has.calls a0_0 a0_1 a0_2 a0_3 _ _ l0_4 a0_5 a1 t571 t572 true _ ?side1 ?side2 ?side3 A3.out).mono ?_); (case side1 => exact hG.below (by exact pbE HB.out)); (case side2 => repeat (first | exact (Kd.C_below HR0_4.out HB.out) | (with_reducible refine Kd.C_alloc ?_ _) | (with_reducible refine Kd.C_drewN ?_ _) | (with_reducible refine Kd.C_drew ?_))); (case side3 => exact HC0_4.out); rintro e w36 ⟨rfl, hb⟩; refine ⟨_, rfl, ?_⟩; replace BK568 := Az.mk (bkB (bk BK568.out) hb); replace BK569 := Az.mk (bkB (bk BK569.out) hb); replace BK570 := Az.mk (bkB (bk BK570.out) hb); replace HB := Az.mk (pbT (by exact pbE HB.out) hb); (try clear hb); (try clear hb2); (try clear hk); (try clear hi)) | ((with_reducible refine gate_dst (N := 6) rfl ?_); refine box_event ?hg (N := 6) ?hd (cs := #[.int .i64 0, .int .i64 0]) (t := 60) ?hr ?_; (case hd => rfl); (case hg => rfl); (case hr => first | (go_simp; done) | (go_simp; rfl)); intro gb574 hg w37 hbox hb; have BK574 := Az.mk (hbox); have GW574 := Az.mk (geO hg (pbE HB.out)); have GE574 := Az.mk (geO hg (pbE HB.out)); replace HB := Az.mk (pbT (by exact pbE HB.out) hb); have NB568_574 := Az.mk (neO hg (bk BK568.out)); have NB574_568 := Az.mk (neP hg (bk BK568.out)); replace BK568 := Az.mk (bkB (bk BK568.out) hb); have NB569_574 := Az.mk (neO hg (bk BK569.out)); have NB574_569 := Az.mk (neP hg (bk BK569.out)); replace BK569 := Az.mk (bkB (bk BK569.out) hb); have NB570_574 := Az.mk (neO hg (bk BK570.out)); have NB574_570 := Az.mk (neP hg (bk BK570.out)); replace BK570 := Az.mk (bkB (bk BK570.out) hb); clear hb hbox hg; have hnb38 := NB574_568.out; have hnc38 := NB568_574.out; have hnb39 := NB574_569.out; have hnc39 := NB569_574.out; have hnb40 := NB574_570.out; have hnc40 := NB570_574.out; have hcz41 := cells2 BK574.out; have hcz42 := cells6 BK568.out) | ((with_reducible refine gtc (f := 22) rfl ?_); refine goesL_ (some 16) rfl rfl Tryd.func22 (by kernel_rfl) rfl #[.agg #[.int .i64 a0_0, .string a0_1, .string a0_2, .int .i64 a0_3, .slice A0_4 l0_4.length c0_4, .int .i64 a0_5]] rfl (by (try simp only [List.map_toArray, List.map_cons, List.map_nil]); first | done | rfl | (simp only [List.length_drop, List.length_take]; rfl)) ?_; (with_reducible refine (desc_Check.calls a0_0 a0_1 a0_2 a0_3 _ _ l0_4 a0_5 t575 _ ?side1 ?side2 ?side3 A4.out).mono ?_); (case side1 => exact hG.below (by exact pbE HB.out)); (case side2 => exact Kd.C_below HR0_4.out (by exact pbE HB.out)); (case side3 => exact HC0_4.out); rintro e w43 ⟨rfl, hb⟩; refine ⟨_, rfl, ?_⟩; replace BK568 := Az.mk (bkB (bf BK568.out) hb); replace BK569 := Az.mk (bkB (bf BK569.out) hb); replace BK570 := Az.mk (bkB (bf BK570.out) hb); replace BK574 := Az.mk (bkB (g := gb574) (o := .cells #[.int .i64 t571, .int .i64 t572] 60 (0, 0)) (by refine bk ?_; refine blk_put (cs := #[.int .i64 t571, .int .i64 0]) ?_ 1 _ rfl; refine bk ?_; refine blk_put (cs := #[.int .i64 0, .int .i64 0]) ?_ 0 _ rfl; refine bk ?_; exact BK574.out) hb); replace HB := Az.mk (pbT (by exact pbE HB.out) hb); (try clear hb); (try clear hb2); (try clear hk); (try clear hi); have hcz44 := cells6 BK568.out; have hcz45 := cells1 BK569.out) | ((with_reducible refine gtc (f := 33) rfl ?_); refine goesL_ (some 31) rfl rfl Tryd.func33 (by kernel_rfl) rfl #[.slice A0_4 l0_4.length c0_4] rfl (by (try simp only [List.map_toArray, List.map_cons, List.map_nil]); first | done | rfl | (simp only [List.length_drop, List.length_take]; rfl)) ?_; (with_reducible refine (api_Member_33.calls _ _ l0_4 l0_4 _ ?side1 ?side2 ?side3 (clone_of A26.out)).mono ?_); (case side1 => exact hG.below (by exact pbE HB.out)); (case side2 => repeat (first | exact (Kd.C_below HR0_4.out HB.out) | (with_reducible refine Kd.C_alloc ?_ _) | (with_reducible refine Kd.C_drewN ?_ _) | (with_reducible refine Kd.C_drew ?_))); (case side3 => exact HC0_4.out); rintro e wC_ ⟨vC_, rfl, hRC, hbC⟩; refine ⟨_, rfl, ?_⟩; have HRC_ := Az.mk hRC; have HBC_ := Az.mk hbC; clear hRC hbC) | ((with_reducible refine gtc (f := 51) rfl ?_); refine goesL_ (some 33) rfl rfl Tryd.func51 (by kernel_rfl) rfl #[vC_, .func (.func 52) #[] #[.pointer (some ⟨gb569, 0, none⟩)]] rfl (by (try simp only [List.map_toArray, List.map_cons, List.map_nil]); first | done | rfl | (simp only [List.length_drop, List.length_take]; rfl)) ?_; (with_reducible refine (delete_after gb569 a1 l0_4 t576 _ _ _ HRC_.out HBC_.out ?side1 A26.out).mono ?_); (case side1 => exact bk BK569.out); rintro e w46 ⟨v577, rfl, ho0, hb⟩; refine ⟨_, rfl, ?_⟩; clear HRC_ HBC_; have HO578 := Az.mk (Kd.R_lower (Kd.R_newB (Kd.R_newM (M := fun k_ => (w.heap.size ≤ k_)) (Kd.R_mono (ok' := fun k_ => True) ho0 (fun _ hk_ => trivial)) (pbZ (by exact pbE HB.out)) (fun k_ h_ => h_)) (bk BK574.out)) (pbZ (by exact pbE HB.out))); replace BK568 := Az.mk (bkB (bk BK568.out) hb); replace BK569 := Az.mk (bkB (bk BK569.out) hb); replace BK570 := Az.mk (bkB (bk BK570.out) hb); replace BK574 := Az.mk (bkB (bk BK574.out) hb); replace HB := Az.mk (pbT (by exact pbE HB.out) hb); (try clear hb); (try clear hb2); (try clear hk); (try clear hi); (try clear ho0); obtain ⟨Ao47, co47, eo47⟩ := Kd.R_slice HO578.out; subst eo47; have hcz48 := cells6 BK568.out) | ((with_reducible refine gate_store (t := 24) (p := 34) rfl ?_); refine store_event (t := 24) (p := 34) (v := ?vo_w49) (w1 := (w46.setCell ⟨gb568, 4, none⟩ (.slice Ao47 t576.length co47))) ?hg ?ho ?hn ?hr ?_; (case ho => rfl); (case hg => rfl); (case hn => rfl); (case hr => first | (go_simp; done) | (go_simp; rfl)); intro w49 hw; have n0_ : Az (Kd.R k60 60 w49 w.heap.size (fun k_ => (w.heap.size ≤ k_) ∧ k_ ≠ gb574) (.slice Ao47 t576.length co47) t576) := ⟨(by rw [hw]; exact (by (with_reducible repeat (first | apply Kd.R_alloc | apply Kd.R_drewN | apply Kd.R_drew)); exact Kd.R_mono (Kd.R_far (p := ⟨gb568, 4, none⟩) (Kd.R_types HO578.out BK568.out (by decide)) (fun _ hk => hk.2) (.slice Ao47 t576.length co47)) (fun _ hk => ⟨hk.1.1.1, hk.1.2⟩)))⟩; have n1_ : Az (w49.heap[gb568]? = some (.cells #[.int .i64 a0_0, .string a0_1, .string a0_2, .int .i64 a0_3, .slice Ao47 t576.length co47, .int .i64 a0_5] 26 (0, 0))) := ⟨(by rw [hw]; exact (by refine bk ?_; refine blk_put (cs := #[.int .i64 a0_0, .string a0_1, .string a0_2, .int .i64 a0_3, .slice A0_4 l0_4.length c0_4, .int .i64 a0_5]) ?_ 4 _ rfl; refine bk ?_; exact BK568.out))⟩; have n2_ : Az (w49.heap[gb569]? = some (.cells #[.int .i64 a1] 2 (0, 0))) := ⟨(by rw [hw]; exact (bf BK569.out))⟩; have n3_ : Az (w49.heap[gb570]? = some (.cells #[.int .i64 0, .string (⟨#[]⟩ : ByteArray), .string (⟨#[]⟩ : ByteArray), .int .i64 0, .slice none 0 0, .int .i64 0] 26 (0, 0))) := ⟨(by rw [hw]; exact (bf BK570.out))⟩; have n4_ : Az (w49.heap[gb574]? = some (.cells #[.int .i64 t571, .int .i64 t572] 60 (0, 0))) := ⟨(by rw [hw]; exact (bf BK574.out))⟩; have n5_ : Az (Below w.heap.size w w49) := ⟨(by rw [hw]; exact (by exact pbE HB.out))⟩; clear hw; clear HO578; clear BK568; clear BK569; clear BK570; clear BK574; clear HB; have HO578 := n0_; have BK568 := n1_; have BK569 := n2_; have BK570 := n3_; have BK574 := n4_; have HB := n5_; clear n0_ n1_ n2_ n3_ n4_ n5_; have hcz50 := cells6 BK568.out) | ((with_reducible refine gate_store (t := 2) (p := 38) rfl ?_); refine store_event (t := 2) (p := 38) (v := ?vo_w51) (w1 := (w49.setCell ⟨gb568, 3, none⟩ (.int .i64 (wrap64 (a0_3 + 1))))) ?hg ?ho ?hn ?hr ?_; (case ho => rfl); (case hg => rfl); (case hn => rfl); (case hr => first | (go_simp; done) | (go_simp; rfl)); intro w51 hw; have n0_ : Az (Kd.R k60 60 w51 w.heap.size (fun k_ => (w.heap.size ≤ k_) ∧ k_ ≠ gb574) (.slice Ao47 t576.length co47) t576) := ⟨(by rw [hw]; exact (by (with_reducible repeat (first | apply Kd.R_alloc | apply Kd.R_drewN | apply Kd.R_drew)); exact Kd.R_mono (Kd.R_far (p := ⟨gb568, 3, none⟩) (Kd.R_types HO578.out BK568.out (by decide)) (fun _ hk => hk.2) (.int .i64 (wrap64 (a0_3 + 1)))) (fun _ hk => ⟨hk.1.1, hk.1.2⟩)))⟩; have n1_ : Az (w51.heap[gb568]? = some (.cells #[.int .i64 a0_0, .string a0_1, .string a0_2, .int .i64 (wrap64 (a0_3 + 1)), .slice Ao47 t576.length co47, .int .i64 a0_5] 26 (0, 0))) := ⟨(by rw [hw]; exact (by refine bk ?_; refine blk_put (cs := #[.int .i64 a0_0, .string a0_1, .string a0_2, .int .i64 a0_3, .slice Ao47 t576.length co47, .int .i64 a0_5]) ?_ 3 _ rfl; refine bk ?_; exact BK568.out))⟩; have n2_ : Az (w51.heap[gb569]? = some (.cells #[.int .i64 a1] 2 (0, 0))) := ⟨(by rw [hw]; exact (bf BK569.out))⟩; have n3_ : Az (w51.heap[gb570]? = some (.cells #[.int .i64 0, .string (⟨#[]⟩ : ByteArray), .string (⟨#[]⟩ : ByteArray), .int .i64 0, .slice none 0 0, .int .i64 0] 26 (0, 0))) := ⟨(by rw [hw]; exact (bf BK570.out))⟩; have n4_ : Az (w51.heap[gb574]? = some (.cells #[.int .i64 t571, .int .i64 t572] 60 (0, 0))) := ⟨(by rw [hw]; exact (bf BK574.out))⟩; have n5_ : Az (Below w.heap.size w w51) := ⟨(by rw [hw]; exact (by exact pbE HB.out))⟩; clear hw; clear HO578; clear BK568; clear BK569; clear BK570; clear BK574; clear HB; have HO578 := n0_; have BK568 := n1_; have BK569 := n2_; have BK570 := n3_; have BK574 := n4_; have HB := n5_; clear n0_ n1_ n2_ n3_ n4_ n5_; have hcz52 := cells6 BK568.out) | ((with_reducible refine gtc (f := 37) rfl ?_); refine goesL_ (some 40) rfl rfl Tryd.func37 (by kernel_rfl) rfl #[.agg #[.int .i64 a0_0, .string a0_1, .string a0_2, .int .i64 (wrap64 (a0_3 + 1)), .slice Ao47 t576.length co47, .int .i64 a0_5]] rfl (by (try simp only [List.map_toArray, List.map_cons, List.map_nil]); first | done | rfl | (simp only [List.length_drop, List.length_take]; rfl)) ?_; (with_reducible refine (desc_right.calls a0_0 a0_1 a0_2 (wrap64 (a0_3 + 1)) (fun k_ => some k_ = (.slice Ao47 t576.length co47 : Value).ownBlock) _ _ t576 a0_5 t579 t580 t581 t582 t583 t586 t587 _ ?side1 ?side2 A27.out).mono ?_); (case side1 => exact hG.below (by exact pbE HB.out)); (case side2 => exact Kd.R_V (Kd.R_tight rfl (Kd.R_types (Kd.R_types (Kd.R_types (HO578.out) BK568.out (by decide)) BK569.out (by decide)) BK570.out (by decide)))); rintro e w53 ⟨v584, rfl, ho0, hb⟩; refine ⟨_, rfl, ?_⟩; have HO585 := Az.mk (Kd.V_lower (Kd.V_mono (ok' := fun k_ => (w.heap.size ≤ k_) ∧ k_ ≠ gb568 ∧ k_ ≠ gb569 ∧ k_ ≠ gb570 ∧ k_ ≠ gb574) ho0 (fun k_ hk_ => ⟨Or.elim hk_ (fun hs_ => ((Kd.R_types (Kd.R_types (Kd.R_types (HO578.out) BK568.out (by decide)) BK569.out (by decide)) BK570.out (by decide)).1 k_ hs_.symm).1.1.1.1) (fun hn_ => (Nat.le_trans (pbZ (by exact pbE HB.out)) hn_)), Or.elim hk_ (fun hs_ => ((Kd.R_types (Kd.R_types (Kd.R_types (HO578.out) BK568.out (by decide)) BK569.out (by decide)) BK570.out (by decide)).1 k_ hs_.symm).1.1.2) (fun hn_ => (Kd.freshB (bk BK568.out) k_ hn_)), Or.elim hk_ (fun hs_ => ((Kd.R_types (Kd.R_types (Kd.R_types (HO578.out) BK568.out (by decide)) BK569.out (by decide)) BK570.out (by decide)).1 k_ hs_.symm).1.2) (fun hn_ => (Kd.freshB (bk BK569.out) k_ hn_)), Or.elim hk_ (fun hs_ => ((Kd.R_types (Kd.R_types (Kd.R_types (HO578.out) BK568.out (by decide)) BK569.out (by decide)) BK570.out (by decide)).1 k_ hs_.symm).2) (fun hn_ => (Kd.freshB (bk BK570.out) k_ hn_)), Or.elim hk_ (fun hs_ => ((Kd.R_types (Kd.R_types (Kd.R_types (HO578.out) BK568.out (by decide)) BK569.out (by decide)) BK570.out (by decide)).1 k_ hs_.symm).1.1.1.2) (fun hn_ => (Kd.freshB (bk BK574.out) k_ hn_))⟩)) (pbZ (by exact pbE HB.out))); replace HO578 := Az.mk (Kd.R_below (Kd.R_ext HO578.out) hb); replace BK568 := Az.mk (bkB (bk BK568.out) hb); replace BK569 := Az.mk (bkB (bk BK569.out) hb); replace BK570 := Az.mk (bkB (bk BK570.out) hb); replace BK574 := Az.mk (bkB (bk BK574.out) hb); replace HB := Az.mk (pbT (by exact pbE HB.out) hb); (try clear hb); (try clear hb2); (try clear hk); (try clear hi); (try clear ho0); have hcz54 := cells6 BK570.out; obtain ⟨Ao55, co55, eo55⟩ := Kd.V_slice HO585.out; subst eo55))
    refine bodyPost_ret (results_ct rfl _ _ gb570 26 #[.int .i64 t579, .string t580, .string t581, .int .i64 t582, .slice Ao55 t583.length co55, .int .i64 t586] (0, 0) _ rfl (by refine bk ?_; refine blk_put (cs := #[.int .i64 t579, .string t580, .string t581, .int .i64 t582, .slice Ao55 t583.length co55, .int .i64 0]) ?_ 5 _ rfl; refine bk ?_; refine blk_put (cs := #[.int .i64 t579, .string t580, .string t581, .int .i64 t582, .slice none 0 0, .int .i64 0]) ?_ 4 _ rfl; refine bk ?_; refine blk_put (cs := #[.int .i64 t579, .string t580, .string t581, .int .i64 0, .slice none 0 0, .int .i64 0]) ?_ 3 _ rfl; refine bk ?_; refine blk_put (cs := #[.int .i64 t579, .string t580, .string (⟨#[]⟩ : ByteArray), .int .i64 0, .slice none 0 0, .int .i64 0]) ?_ 2 _ rfl; refine bk ?_; refine blk_put (cs := #[.int .i64 t579, .string (⟨#[]⟩ : ByteArray), .string (⟨#[]⟩ : ByteArray), .int .i64 0, .slice none 0 0, .int .i64 0]) ?_ 1 _ rfl; refine bk ?_; refine blk_put (cs := #[.int .i64 0, .string (⟨#[]⟩ : ByteArray), .string (⟨#[]⟩ : ByteArray), .int .i64 0, .slice none 0 0, .int .i64 0]) ?_ 0 _ rfl; refine bk ?_; exact BK570.out) Tryd.underlying26 rfl (by kernel_rfl)) rfl ?_
    exact ⟨_, by first | rfl | (simp [errW_none, errW_some] <;> rfl) | (simp [*, errW_none, errW_some] <;> rfl), by (with_reducible repeat (first | apply Kd.V_alloc | apply Kd.V_drewN | apply Kd.V_drew)); exact Kd.V_mono (Kd.V_off (g := gb570) (fun _ hk => hk.2) (Kd.V_mono HO585.out (fun k_ hk => (⟨hk, hk.2.2.2.1⟩ : _ ∧ k_ ≠ gb570)))) (fun _ hk => hk.1.1), by exact pbE HB.out⟩
  ·replace c6 := Bool.eq_false_iff.mpr c6
   subst c6
   have H1 : (some (0, (⟨#[]⟩ : ByteArray), (⟨#[]⟩ : ByteArray), 0, ([] : List (S60)), 0, 7)) = some (r1, r2, r3, r4, r5, r6, r7) := by rw [if_neg (show ¬ (false = true) by decide)] at H; exact H
   clear H
   have H := H1
   clear H1
   simp only [Option.some.injEq, Prod.mk.injEq] at H
   obtain ⟨rfl, rfl, rfl, rfl, rfl, rfl, rfl⟩ := H
   have hmf : ∀ (fn : Fn) (first cap : Array Value) (w : World), (Instr.makeFunc fn first cap).run Tryd.prog w = .ok (.func fn first cap) w := fun _ _ _ _ => rfl
   go_enter Tryd.func27, Tryd.ntmps27
   go_wp2_with (first | ((with_reducible refine gate_dst (N := 2) rfl ?_); refine box_event ?hg (N := 2) ?hd (cs := #[.int .i64 a0_0, .string a0_1, .string a0_2, .int .i64 a0_3, .slice A0_4 l0_4.length c0_4, .int .i64 a0_5]) (t := 26) ?hr ?_; (case hd => rfl); (case hg => rfl); (case hr => first | (go_simp; done) | (go_simp; rfl)); intro gb568 hg w56 hbox hb; have BK568 := Az.mk (hbox); have GW568 := Az.mk (geO hg (pbE HB.out)); have GE568 := Az.mk (geO hg (pbE HB.out)); replace HB := Az.mk (pbT (by exact pbE HB.out) hb); clear hb hbox hg) | ((with_reducible refine gate_dst (N := 3) rfl ?_); refine box_event ?hg (N := 3) ?hd (cs := #[.int .i64 a1]) (t := 2) ?hr ?_; (case hd => rfl); (case hg => rfl); (case hr => first | (go_simp; done) | (go_simp; rfl)); intro gb569 hg w57 hbox hb; have BK569 := Az.mk (hbox); have GW569 := Az.mk (geO hg (pbE HB.out)); have GE569 := Az.mk (geO hg (pbE HB.out)); replace HB := Az.mk (pbT (by exact pbE HB.out) hb); have NB568_569 := Az.mk (neO hg (bk BK568.out)); have NB569_568 := Az.mk (neP hg (bk BK568.out)); replace BK568 := Az.mk (bkB (bk BK568.out) hb); clear hb hbox hg) | ((with_reducible refine gate_dst (N := 4) rfl ?_); refine box_event ?hg (N := 4) ?hd (cs := #[.int .i64 0, .string (⟨#[]⟩ : ByteArray), .string (⟨#[]⟩ : ByteArray), .int .i64 0, .slice none 0 0, .int .i64 0]) (t := 26) ?hr ?_; (case hd => rfl); (case hg => rfl); (case hr => first | (go_simp; done) | (go_simp; rfl)); intro gb570 hg w58 hbox hb; have BK570 := Az.mk (hbox); have GW570 := Az.mk (geO hg (pbE HB.out)); have GE570 := Az.mk (geO hg (pbE HB.out)); replace HB := Az.mk (pbT (by exact pbE HB.out) hb); have NB568_570 := Az.mk (neO hg (bk BK568.out)); have NB570_568 := Az.mk (neP hg (bk BK568.out)); replace BK568 := Az.mk (bkB (bk BK568.out) hb); have NB569_570 := Az.mk (neO hg (bk BK569.out)); have NB570_569 := Az.mk (neP hg (bk BK569.out)); replace BK569 := Az.mk (bkB (bk BK569.out) hb); clear hb hbox hg; have hnb59 := NB568_569.out; have hnc59 := NB569_568.out; have hnb60 := NB568_570.out; have hnc60 := NB570_568.out; have hcz61 := cells6 BK568.out; have hnb62 := NB569_570.out; have hnc62 := NB570_569.out; have hcz63 := cells1 BK569.out) | ((with_reducible refine gtc (f := 29) rfl ?_); refine goesL_ (some 11) rfl rfl Tryd.func29 (by kernel_rfl) rfl #[.agg #[.int .i64 a0_0, .string a0_1, .string a0_2, .int .i64 a0_3, .slice A0_4 l0_4.length c0_4, .int .i64 a0_5], .int .i64 a1] rfl (by (try simp only [List.map_toArray, List.map_cons, List.map_nil]); first | done | rfl | (simp only [List.length_drop, List.length_take]; rfl)) ?_; (with_reducible refine (desc_Has.calls a0_0 a0_1 a0_2 a0_3 _ _ l0_4 a0_5 a1 t571 t572 false _ ?side1 ?side2 ?side3 A3.out).mono ?_); (case side1 => exact hG.below (by exact pbE HB.out)); (case side2 => repeat (first | exact (Kd.C_below HR0_4.out HB.out) | (with_reducible refine Kd.C_alloc ?_ _) | (with_reducible refine Kd.C_drewN ?_ _) | (with_reducible refine Kd.C_drew ?_))); (case side3 => exact HC0_4.out); rintro e w64 ⟨rfl, hb⟩; refine ⟨_, rfl, ?_⟩; replace BK568 := Az.mk (bkB (bk BK568.out) hb); replace BK569 := Az.mk (bkB (bk BK569.out) hb); replace BK570 := Az.mk (bkB (bk BK570.out) hb); replace HB := Az.mk (pbT (by exact pbE HB.out) hb); (try clear hb); (try clear hb2); (try clear hk); (try clear hi)) | ((with_reducible refine gate_dst (N := 6) rfl ?_); refine box_event ?hg (N := 6) ?hd (cs := #[.int .i64 0, .int .i64 0]) (t := 60) ?hr ?_; (case hd => rfl); (case hg => rfl); (case hr => first | (go_simp; done) | (go_simp; rfl)); intro gb574 hg w65 hbox hb; have BK574 := Az.mk (hbox); have GW574 := Az.mk (geO hg (pbE HB.out)); have GE574 := Az.mk (geO hg (pbE HB.out)); replace HB := Az.mk (pbT (by exact pbE HB.out) hb); have NB568_574 := Az.mk (neO hg (bk BK568.out)); have NB574_568 := Az.mk (neP hg (bk BK568.out)); replace BK568 := Az.mk (bkB (bk BK568.out) hb); have NB569_574 := Az.mk (neO hg (bk BK569.out)); have NB574_569 := Az.mk (neP hg (bk BK569.out)); replace BK569 := Az.mk (bkB (bk BK569.out) hb); have NB570_574 := Az.mk (neO hg (bk BK570.out)); have NB574_570 := Az.mk (neP hg (bk BK570.out)); replace BK570 := Az.mk (bkB (bk BK570.out) hb); clear hb hbox hg; have hnb66 := NB574_568.out; have hnc66 := NB568_574.out; have hnb67 := NB574_569.out; have hnc67 := NB569_574.out; have hnb68 := NB574_570.out; have hnc68 := NB570_574.out; have hcz69 := cells2 BK574.out; have hcz70 := cells6 BK568.out) | ((with_reducible refine gtc (f := 22) rfl ?_); refine goesL_ (some 16) rfl rfl Tryd.func22 (by kernel_rfl) rfl #[.agg #[.int .i64 a0_0, .string a0_1, .string a0_2, .int .i64 a0_3, .slice A0_4 l0_4.length c0_4, .int .i64 a0_5]] rfl (by (try simp only [List.map_toArray, List.map_cons, List.map_nil]); first | done | rfl | (simp only [List.length_drop, List.length_take]; rfl)) ?_; (with_reducible refine (desc_Check.calls a0_0 a0_1 a0_2 a0_3 _ _ l0_4 a0_5 t575 _ ?side1 ?side2 ?side3 A4.out).mono ?_); (case side1 => exact hG.below (by exact pbE HB.out)); (case side2 => exact Kd.C_below HR0_4.out (by exact pbE HB.out)); (case side3 => exact HC0_4.out); rintro e w71 ⟨rfl, hb⟩; refine ⟨_, rfl, ?_⟩; replace BK568 := Az.mk (bkB (bf BK568.out) hb); replace BK569 := Az.mk (bkB (bf BK569.out) hb); replace BK570 := Az.mk (bkB (bf BK570.out) hb); replace BK574 := Az.mk (bkB (g := gb574) (o := .cells #[.int .i64 t571, .int .i64 t572] 60 (0, 0)) (by refine bk ?_; refine blk_put (cs := #[.int .i64 t571, .int .i64 0]) ?_ 1 _ rfl; refine bk ?_; refine blk_put (cs := #[.int .i64 0, .int .i64 0]) ?_ 0 _ rfl; refine bk ?_; exact BK574.out) hb); replace HB := Az.mk (pbT (by exact pbE HB.out) hb); (try clear hb); (try clear hb2); (try clear hk); (try clear hi); have hcz72 := cells6 BK570.out))
   refine bodyPost_ret (results_ct rfl _ _ gb570 26 #[.int .i64 0, .string (⟨#[]⟩ : ByteArray), .string (⟨#[]⟩ : ByteArray), .int .i64 0, .slice none 0 0, .int .i64 0] (0, 0) _ rfl (by refine bk ?_; refine blk_put (cs := #[.int .i64 0, .string (⟨#[]⟩ : ByteArray), .string (⟨#[]⟩ : ByteArray), .int .i64 0, .slice none 0 0, .int .i64 0]) ?_ 5 _ rfl; refine bk ?_; refine blk_put (cs := #[.int .i64 0, .string (⟨#[]⟩ : ByteArray), .string (⟨#[]⟩ : ByteArray), .int .i64 0, .slice none 0 0, .int .i64 0]) ?_ 4 _ rfl; refine bk ?_; refine blk_put (cs := #[.int .i64 0, .string (⟨#[]⟩ : ByteArray), .string (⟨#[]⟩ : ByteArray), .int .i64 0, .slice none 0 0, .int .i64 0]) ?_ 3 _ rfl; refine bk ?_; refine blk_put (cs := #[.int .i64 0, .string (⟨#[]⟩ : ByteArray), .string (⟨#[]⟩ : ByteArray), .int .i64 0, .slice none 0 0, .int .i64 0]) ?_ 2 _ rfl; refine bk ?_; refine blk_put (cs := #[.int .i64 0, .string (⟨#[]⟩ : ByteArray), .string (⟨#[]⟩ : ByteArray), .int .i64 0, .slice none 0 0, .int .i64 0]) ?_ 1 _ rfl; refine bk ?_; refine blk_put (cs := #[.int .i64 0, .string (⟨#[]⟩ : ByteArray), .string (⟨#[]⟩ : ByteArray), .int .i64 0, .slice none 0 0, .int .i64 0]) ?_ 0 _ rfl; refine bk ?_; exact BK570.out) Tryd.underlying26 rfl (by kernel_rfl)) rfl ?_
   exact ⟨_, by first | rfl | (simp [errW_none, errW_some] <;> rfl) | (simp [*, errW_none, errW_some] <;> rfl), Kd.V_nil _ _ _ _ _, by exact pbE HB.out⟩
 ·rw [if_neg c5] at H
  have c5b0 : (t575 == 0) = false := beq_eq_false_iff_ne.mpr c5
  have c5b1 : (t575 != 0) = true := bne_iff_ne.mpr c5
  simp only [Option.some.injEq, Prod.mk.injEq] at H
  obtain ⟨rfl, rfl, rfl, rfl, rfl, rfl, rfl⟩ := H
  have hmf : ∀ (fn : Fn) (first cap : Array Value) (w : World), (Instr.makeFunc fn first cap).run Tryd.prog w = .ok (.func fn first cap) w := fun _ _ _ _ => rfl
  go_enter Tryd.func27, Tryd.ntmps27
  go_wp2_with (first | ((with_reducible refine gate_dst (N := 2) rfl ?_); refine box_event ?hg (N := 2) ?hd (cs := #[.int .i64 a0_0, .string a0_1, .string a0_2, .int .i64 a0_3, .slice A0_4 l0_4.length c0_4, .int .i64 a0_5]) (t := 26) ?hr ?_; (case hd => rfl); (case hg => rfl); (case hr => first | (go_simp; done) | (go_simp; rfl)); intro gb568 hg w73 hbox hb; have BK568 := Az.mk (hbox); have GW568 := Az.mk (geO hg (pbE HB.out)); have GE568 := Az.mk (geO hg (pbE HB.out)); replace HB := Az.mk (pbT (by exact pbE HB.out) hb); clear hb hbox hg) | ((with_reducible refine gate_dst (N := 3) rfl ?_); refine box_event ?hg (N := 3) ?hd (cs := #[.int .i64 a1]) (t := 2) ?hr ?_; (case hd => rfl); (case hg => rfl); (case hr => first | (go_simp; done) | (go_simp; rfl)); intro gb569 hg w74 hbox hb; have BK569 := Az.mk (hbox); have GW569 := Az.mk (geO hg (pbE HB.out)); have GE569 := Az.mk (geO hg (pbE HB.out)); replace HB := Az.mk (pbT (by exact pbE HB.out) hb); have NB568_569 := Az.mk (neO hg (bk BK568.out)); have NB569_568 := Az.mk (neP hg (bk BK568.out)); replace BK568 := Az.mk (bkB (bk BK568.out) hb); clear hb hbox hg) | ((with_reducible refine gate_dst (N := 4) rfl ?_); refine box_event ?hg (N := 4) ?hd (cs := #[.int .i64 0, .string (⟨#[]⟩ : ByteArray), .string (⟨#[]⟩ : ByteArray), .int .i64 0, .slice none 0 0, .int .i64 0]) (t := 26) ?hr ?_; (case hd => rfl); (case hg => rfl); (case hr => first | (go_simp; done) | (go_simp; rfl)); intro gb570 hg w75 hbox hb; have BK570 := Az.mk (hbox); have GW570 := Az.mk (geO hg (pbE HB.out)); have GE570 := Az.mk (geO hg (pbE HB.out)); replace HB := Az.mk (pbT (by exact pbE HB.out) hb); have NB568_570 := Az.mk (neO hg (bk BK568.out)); have NB570_568 := Az.mk (neP hg (bk BK568.out)); replace BK568 := Az.mk (bkB (bk BK568.out) hb); have NB569_570 := Az.mk (neO hg (bk BK569.out)); have NB570_569 := Az.mk (neP hg (bk BK569.out)); replace BK569 := Az.mk (bkB (bk BK569.out) hb); clear hb hbox hg; have hnb76 := NB568_569.out; have hnc76 := NB569_568.out; have hnb77 := NB568_570.out; have hnc77 := NB570_568.out; have hcz78 := cells6 BK568.out; have hnb79 := NB569_570.out; have hnc79 := NB570_569.out; have hcz80 := cells1 BK569.out) | ((with_reducible refine gtc (f := 29) rfl ?_); refine goesL_ (some 11) rfl rfl Tryd.func29 (by kernel_rfl) rfl #[.agg #[.int .i64 a0_0, .string a0_1, .string a0_2, .int .i64 a0_3, .slice A0_4 l0_4.length c0_4, .int .i64 a0_5], .int .i64 a1] rfl (by (try simp only [List.map_toArray, List.map_cons, List.map_nil]); first | done | rfl | (simp only [List.length_drop, List.length_take]; rfl)) ?_; (with_reducible refine (desc_Has.calls a0_0 a0_1 a0_2 a0_3 _ _ l0_4 a0_5 a1 t571 t572 t573 _ ?side1 ?side2 ?side3 A3.out).mono ?_); (case side1 => exact hG.below (by exact pbE HB.out)); (case side2 => repeat (first | exact (Kd.C_below HR0_4.out HB.out) | (with_reducible refine Kd.C_alloc ?_ _) | (with_reducible refine Kd.C_drewN ?_ _) | (with_reducible refine Kd.C_drew ?_))); (case side3 => exact HC0_4.out); rintro e w81 ⟨rfl, hb⟩; refine ⟨_, rfl, ?_⟩; replace BK568 := Az.mk (bkB (bk BK568.out) hb); replace BK569 := Az.mk (bkB (bk BK569.out) hb); replace BK570 := Az.mk (bkB (bk BK570.out) hb); replace HB := Az.mk (pbT (by exact pbE HB.out) hb); (try clear hb); (try clear hb2); (try clear hk); (try clear hi)) | ((with_reducible refine gate_dst (N := 6) rfl ?_); refine box_event ?hg (N := 6) ?hd (cs := #[.int .i64 0, .int .i64 0]) (t := 60) ?hr ?_; (case hd => rfl); (case hg => rfl); (case hr => first | (go_simp; done) | (go_simp; rfl)); intro gb574 hg w82 hbox hb; have BK574 := Az.mk (hbox); have GW574 := Az.mk (geO hg (pbE HB.out)); have GE574 := Az.mk (geO hg (pbE HB.out)); replace HB := Az.mk (pbT (by exact pbE HB.out) hb); have NB568_574 := Az.mk (neO hg (bk BK568.out)); have NB574_568 := Az.mk (neP hg (bk BK568.out)); replace BK568 := Az.mk (bkB (bk BK568.out) hb); have NB569_574 := Az.mk (neO hg (bk BK569.out)); have NB574_569 := Az.mk (neP hg (bk BK569.out)); replace BK569 := Az.mk (bkB (bk BK569.out) hb); have NB570_574 := Az.mk (neO hg (bk BK570.out)); have NB574_570 := Az.mk (neP hg (bk BK570.out)); replace BK570 := Az.mk (bkB (bk BK570.out) hb); clear hb hbox hg; have hnb83 := NB574_568.out; have hnc83 := NB568_574.out; have hnb84 := NB574_569.out; have hnc84 := NB569_574.out; have hnb85 := NB574_570.out; have hnc85 := NB570_574.out; have hcz86 := cells2 BK574.out; have hcz87 := cells6 BK568.out) | ((with_reducible refine gtc (f := 22) rfl ?_); refine goesL_ (some 16) rfl rfl Tryd.func22 (by kernel_rfl) rfl #[.agg #[.int .i64 a0_0, .string a0_1, .string a0_2, .int .i64 a0_3, .slice A0_4 l0_4.length c0_4, .int .i64 a0_5]] rfl (by (try simp only [List.map_toArray, List.map_cons, List.map_nil]); first | done | rfl | (simp only [List.length_drop, List.length_take]; rfl)) ?_; (with_reducible refine (desc_Check.calls a0_0 a0_1 a0_2 a0_3 _ _ l0_4 a0_5 t575 _ ?side1 ?side2 ?side3 A4.out).mono ?_); (case side1 => exact hG.below (by exact pbE HB.out)); (case side2 => exact Kd.C_below HR0_4.out (by exact pbE HB.out)); (case side3 => exact HC0_4.out); rintro e w88 ⟨rfl, hb⟩; refine ⟨_, rfl, ?_⟩; replace BK568 := Az.mk (bkB (bf BK568.out) hb); replace BK569 := Az.mk (bkB (bf BK569.out) hb); replace BK570 := Az.mk (bkB (bf BK570.out) hb); replace BK574 := Az.mk (bkB (g := gb574) (o := .cells #[.int .i64 t571, .int .i64 t572] 60 (0, 0)) (by refine bk ?_; refine blk_put (cs := #[.int .i64 t571, .int .i64 0]) ?_ 1 _ rfl; refine bk ?_; refine blk_put (cs := #[.int .i64 0, .int .i64 0]) ?_ 0 _ rfl; refine bk ?_; exact BK574.out) hb); replace HB := Az.mk (pbT (by exact pbE HB.out) hb); (try clear hb); (try clear hb2); (try clear hk); (try clear hi); have hcz89 := cells6 BK570.out))
  refine bodyPost_ret (results_ct rfl _ _ gb570 26 #[.int .i64 0, .string (⟨#[]⟩ : ByteArray), .string (⟨#[]⟩ : ByteArray), .int .i64 0, .slice none 0 0, .int .i64 0] (0, 0) _ rfl (by refine bk ?_; refine blk_put (cs := #[.int .i64 0, .string (⟨#[]⟩ : ByteArray), .string (⟨#[]⟩ : ByteArray), .int .i64 0, .slice none 0 0, .int .i64 0]) ?_ 5 _ rfl; refine bk ?_; refine blk_put (cs := #[.int .i64 0, .string (⟨#[]⟩ : ByteArray), .string (⟨#[]⟩ : ByteArray), .int .i64 0, .slice none 0 0, .int .i64 0]) ?_ 4 _ rfl; refine bk ?_; refine blk_put (cs := #[.int .i64 0, .string (⟨#[]⟩ : ByteArray), .string (⟨#[]⟩ : ByteArray), .int .i64 0, .slice none 0 0, .int .i64 0]) ?_ 3 _ rfl; refine bk ?_; refine blk_put (cs := #[.int .i64 0, .string (⟨#[]⟩ : ByteArray), .string (⟨#[]⟩ : ByteArray), .int .i64 0, .slice none 0 0, .int .i64 0]) ?_ 2 _ rfl; refine bk ?_; refine blk_put (cs := #[.int .i64 0, .string (⟨#[]⟩ : ByteArray), .string (⟨#[]⟩ : ByteArray), .int .i64 0, .slice none 0 0, .int .i64 0]) ?_ 1 _ rfl; refine bk ?_; refine blk_put (cs := #[.int .i64 0, .string (⟨#[]⟩ : ByteArray), .string (⟨#[]⟩ : ByteArray), .int .i64 0, .slice none 0 0, .int .i64 0]) ?_ 0 _ rfl; refine bk ?_; exact BK570.out) Tryd.underlying26 rfl (by kernel_rfl)) rfl ?_
  exact ⟨_, by first | rfl | (simp [errW_none, errW_some] <;> rfl) | (simp [*, errW_none, errW_some] <;> rfl), Kd.V_nil _ _ _ _ _, by exact pbE HB.out⟩
end Go.Proofs.YtjfhcijjjadhbaaDoor.P
end
section
namespace Go.Proofs.YtjfhcijjjadhbaaDoor.P
open Go.RowKit Go.Proofs.YtjfhcijjjadhbaaDoor.K Go.Proofs.YtjfhcijjjadhbaaDoorW.PrintWords Go.Proofs.YtjfhcijjjadhbaaDoorW.PrintLast Go.Proofs.YtjfhcijjjadhbaaDoorW.PrintMore
attribute [local go_sem] max2_int min2_int max_two min_two max_three min_three max_four min_four   -- for this text's walks alone
attribute [local go_sem high] eqA60
def r06_Members.l0 : Nat → List (S60) → List (S60) → Int → Option (Bool)
 | 0, _, _, _ => none
 | k + 1, x0, x1, x5 => if x5 < (x0.length : Int) then (if 0 ≤ x5 then (if x5 < (x1.length : Int) then (if (!(((rd_T60 x0 x5).f0) == ((rd_T60 x1 x5).f0)) || (!(((rd_T60 x0 x5).f1) == ((rd_T60 x1 x5).f1)))) = true then (some false) else (r06_Members.l0 k x0 x1 (wrap64 (x5 + 1)))) else (none)) else (none)) else (some true)
def r06_Members.f (k : Nat) (l0 : List (S60)) (l1 : List (S60)) : Option (Bool) := if (l0.length : Int) = (l1.length : Int) then (r06_Members.l0 k l0 l1 0) else (some false)
theorem r06_Members.mono_l : ∀ k, (∀ y0 y1 y2, LeO (r06_Members.l0 k y0 y1 y2) (r06_Members.l0 (k + 1) y0 y1 y2))
 | 0 => fun _ _ _ r h => by simp [r06_Members.l0] at h
 | k + 1 => by
  have ih0 := r06_Members.mono_l k
  ·intro y0 y1 y2
   unfold r06_Members.l0
   repeat' first
   | (with_reducible exact ih0 _ _ _)
   | (with_reducible exact LeO.refl _)
   | (with_reducible exact LeO.none _)
   | (with_reducible refine LeO.ite ?_ ?_)
   | (with_reducible refine LeO.bind ?_ (fun _ => ?_))
   | exact ih0 _ _ _
   | exact LeO.none _
   | refine LeO.ite ?_ ?_
   | refine LeO.bind ?_ (fun _ => ?_)
theorem r06_Members.mono : ∀ a0 a1 k, LeO (r06_Members.f k a0 a1) (r06_Members.f (k + 1) a0 a1) := by
 intro a0 a1 k
 have ih0 := r06_Members.mono_l k
 unfold r06_Members.f
 repeat' first
  | (with_reducible exact ih0 _ _ _)
  | (with_reducible exact LeO.refl _)
  | (with_reducible exact LeO.none _)
  | (with_reducible refine LeO.ite ?_ ?_)
  | (with_reducible refine LeO.bind ?_ (fun _ => ?_))
  | exact ih0 _ _ _
  | exact LeO.none _
  | refine LeO.ite ?_ ?_
  | refine LeO.bind ?_ (fun _ => ?_)
set_option maxHeartbeats 8000000 in
set_option maxRecDepth 100000 in
theorem r06_Members.calls (k : Nat) (A0 : Option Addr) (c0 : Nat) (l0 : List (S60)) (A1 : Option Addr) (c1 : Nat) (l1 : List (S60)) (r : Bool) (w : World) (hG : TheG w) (hr0 : Kd.C k60 w A0 l0.length l0) (hc0 : l0.length ≤ c0) (hr1 : Kd.C k60 w A1 l1.length l1) (hc1 : l1.length ≤ c1) (h : r06_Members.f k l0 l1 = some r) :
 Calls Tryd.prog 31 #[.slice A0 l0.length c0, .slice A1 l1.length c1] w fun e w' => e = .returned (.bool r) ∧ Drawn0 w w' := by
 have hu60 := Tryd.underlying60
 have HR0 := Az.mk hr0
 have HC0 := Az.mk hc0
 clear hr0 hc0
 have HR1 := Az.mk hr1
 have HC1 := Az.mk hc1
 clear hr1 hc1
 have H : (if (l0.length : Int) = (l1.length : Int) then (r06_Members.l0 k l0 l1 0) else (some false)) = some r := h
 clear h
 by_cases c3 : (l0.length : Int) = (l1.length : Int)
 ·rw [if_pos c3] at H
  have c3b0 : ((l0.length : Int) == (l1.length : Int)) = true := beq_iff_eq.mpr c3
  have c3b1 : ((l0.length : Int) != (l1.length : Int)) = false := bne_eq_false_iff_eq.mpr c3
  have c3b2 : (l0.length == l1.length) = true := by first | simpa using c3 | (simp at c3 ⊢; omega)
  clear c3
  have H' := Az.mk H
  clear H
  go_enter Tryd.func31, Tryd.ntmps31
  go_wp2
  repeat (go_quiet (fail); try go_wp2)
  go_loopg [5] k (fun kq v5 w' => ∃ (x5_1 : Int), v5 = .int .i64 x5_1 ∧ Az (r06_Members.l0 kq l0 l1 x5_1 = some r) ∧ Az (kq ≤ k) ∧ Drawn0 w w')
  case atStart => exact ⟨(0), (by first | rfl | (simp; done) | (simp [*]; done)), H', ⟨Nat.le_refl _⟩, by repeat (first | exact Drawn0.refl _ | apply Drawn0.step)⟩
  case round =>
   clear H'
   try clear c1
   try clear p2
   try clear c3
   try clear c3b0
   try clear c3b1
   try clear c3b2
   obtain ⟨x5_1, rfl, HA, HK1, ⟨m1, rfl⟩⟩ := hrel
   cases gk with
   | zero => exact absurd HA.out (by simp [r06_Members.l0])
   | succ k1 =>
    have H := HA.out
    clear HA
    simp only [r06_Members.l0] at H
    by_cases c4 : x5_1 < (l0.length : Int)
    ·rw [if_pos c4] at H
     have c4b0 : decide (x5_1 < (l0.length : Int)) = true := decide_eq_true c4
     clear c4
     by_cases c5 : 0 ≤ x5_1
     ·rw [if_pos c5] at H
      have c5b0 : decide (0 ≤ x5_1) = true := decide_eq_true c5
      clear c5
      by_cases c6 : x5_1 < (l1.length : Int)
      ·rw [if_pos c6] at H
       have c6b0 : decide (x5_1 < (l1.length : Int)) = true := decide_eq_true c6
       clear c6
       by_cases c7 : (!(((rd_T60 l0 x5_1).f0) == ((rd_T60 l1 x5_1).f0)) || (!(((rd_T60 l0 x5_1).f1) == ((rd_T60 l1 x5_1).f1)))) = true
       ·rw [if_pos c7] at H
        have c7b0 : (!(((rd_T60 l0 x5_1).f0) == ((rd_T60 l1 x5_1).f0)) || (!(((rd_T60 l0 x5_1).f1) == ((rd_T60 l1 x5_1).f1)))) = true := c7
        clear c7
        obtain rfl := Option.some.inj H
        have p140 : 0 ≤ (x5_1 : Int) := of_decide_eq_true (by first | (with_reducible assumption) | assumption)
        have q140 : x5_1 < (l0.length : Int) := of_decide_eq_true (by first | (with_reducible assumption) | assumption)
        obtain ⟨ad140, e140, hx140_0, hx140_1⟩ := at_T60 HR0.out x5_1 p140 q140
        cases e140
        replace p140 := eq_true p140
        replace q140 := eq_true q140
        have p141 : 0 ≤ (x5_1 : Int) := of_decide_eq_true (by first | (with_reducible assumption) | assumption)
        have q141 : x5_1 < (l1.length : Int) := of_decide_eq_true (by first | (with_reducible assumption) | assumption)
        obtain ⟨ad141, e141, hx141_0, hx141_1⟩ := at_T60 HR1.out x5_1 p141 q141
        cases e141
        replace p141 := eq_true p141
        replace q141 := eq_true q141
        go_wp2
        repeat (go_quiet (fail); try go_wp2)
        go_ret
        exact ⟨by first | rfl | (simp; done) | (simp [*]; done), by repeat (first | exact Drawn0.refl _ | apply Drawn0.step)⟩
       ·rw [if_neg c7] at H
        have c7b0 : (!(((rd_T60 l0 x5_1).f0) == ((rd_T60 l1 x5_1).f0)) || (!(((rd_T60 l0 x5_1).f1) == ((rd_T60 l1 x5_1).f1)))) = false := by simpa using c7
        clear c7
        have H' := Az.mk H
        clear H
        have p140 : 0 ≤ (x5_1 : Int) := of_decide_eq_true (by first | (with_reducible assumption) | assumption)
        have q140 : x5_1 < (l0.length : Int) := of_decide_eq_true (by first | (with_reducible assumption) | assumption)
        obtain ⟨ad140, e140, hx140_0, hx140_1⟩ := at_T60 HR0.out x5_1 p140 q140
        cases e140
        replace p140 := eq_true p140
        replace q140 := eq_true q140
        have p141 : 0 ≤ (x5_1 : Int) := of_decide_eq_true (by first | (with_reducible assumption) | assumption)
        have q141 : x5_1 < (l1.length : Int) := of_decide_eq_true (by first | (with_reducible assumption) | assumption)
        obtain ⟨ad141, e141, hx141_0, hx141_1⟩ := at_T60 HR1.out x5_1 p141 q141
        cases e141
        replace p141 := eq_true p141
        replace q141 := eq_true q141
        go_wp2
        repeat (go_quiet (fail); try go_wp2)
        go_roundg k1
        case measure => have := HK1.out; omega
        case rel => exact ⟨(wrap64 (x5_1 + 1)), (by first | rfl | (simp; done) | (simp [*]; done)), H', ⟨by have := HK1.out; omega⟩, by repeat (first | exact Drawn0.refl _ | apply Drawn0.step)⟩
      ·rw [if_neg c6] at H
       exact absurd H (by simp)
     ·rw [if_neg c5] at H
      exact absurd H (by simp)
    ·rw [if_neg c4] at H
     have c4b0 : decide (x5_1 < (l0.length : Int)) = false := decide_eq_false c4
     clear c4
     obtain rfl := Option.some.inj H
     go_wp2
     repeat (go_quiet (fail); try go_wp2)
     go_ret
     exact ⟨by first | rfl | (simp; done) | (simp [*]; done), by repeat (first | exact Drawn0.refl _ | apply Drawn0.step)⟩
 ·rw [if_neg c3] at H
  have c3b0 : ((l0.length : Int) == (l1.length : Int)) = false := beq_eq_false_iff_ne.mpr c3
  have c3b1 : ((l0.length : Int) != (l1.length : Int)) = true := bne_iff_ne.mpr c3
  have c3b2 : (l0.length == l1.length) = false := by first | simpa using c3 | (simp at c3 ⊢; omega)
  obtain rfl := Option.some.inj H
  go_enter Tryd.func31, Tryd.ntmps31
  go_wp2
  repeat (go_quiet (fail); try go_wp2)
  go_ret
  exact ⟨by first | rfl | (simp; done) | (simp [*]; done), by repeat (first | exact Drawn0.refl _ | apply Drawn0.step)⟩
end Go.Proofs.YtjfhcijjjadhbaaDoor.P
end
section
namespace Go.Proofs.YtjfhcijjjadhbaaDoor.V
open Go.RowKit Go.Proofs.YtjfhcijjjadhbaaDoorW.PrintWords Go.Proofs.YtjfhcijjjadhbaaDoorW.PrintLast Go.Proofs.YtjfhcijjjadhbaaDoorW.PrintMore Go.Proofs.YtjfhcijjjadhbaaDoor.P Go.Proofs.YtjfhcijjjadhbaaDoor.K Go.Proofs.YtjfhcijjjadhbaaDoor.A
def hitM (p : S60 → Bool) (l : List S60) : Int × Int × Bool := match l.find? p with | some m => (m.f0, m.f1, true) | none => (0, 0, false)
theorem hitM_cons {p : S60 → Bool} {m : S60} {l : List S60} : hitM p (m :: l) = if p m = true then (m.f0, m.f1, true) else hitM p l := by
 unfold hitM
 rw [List.find?_cons]
 cases hp : p m <;> simp
theorem on_eq {id : Int} {fr tu : ByteArray} {gen : Int} {l : List S60} {nx a : Int} (hm : l.length ≤ 1000000) : desc_On.f id fr tu gen l nx a = some (hitM (fun m => m.f0 == a) l) := by
 unfold desc_On.f hitM; rw [if_pos (by omega)]; cases l.find? (fun m => m.f0 == a) <;> rfl
theorem has_eq {id : Int} {fr tu : ByteArray} {gen : Int} {l : List S60} {nx a : Int} (hm : l.length ≤ 1000000) : desc_Has.f id fr tu gen l nx a = some (hitM (fun m => m.f1 == a) l) := by
 unfold desc_Has.f hitM; rw [if_pos (by omega)]; cases l.find? (fun m => m.f1 == a) <;> rfl
def errD (e : Int) : DR := (0, (⟨#[]⟩ : ByteArray), (⟨#[]⟩ : ByteArray), 0, ([] : List S60), 0, e)
def addD (id : Int) (fr tu : ByteArray) (gen : Int) (l : List S60) (nx a : Int) : DR :=
 if okD id fr tu gen l nx = true then (if 1 ≤ a ∧ a ≤ 7 then (if (hitM (fun m => m.f0 == a) l).2.2 = true then errD 8 else if l.length = 5 then errD 6 else rightR id fr tu (wrap64 (gen + 1)) (l ++ [⟨a, nx⟩]) (wrap64 (nx + 1))) else errD 2) else errD 60
def remD (id : Int) (fr tu : ByteArray) (gen : Int) (l : List S60) (nx a : Int) : DR :=
 if okD id fr tu gen l nx = true then (if (hitM (fun m => m.f1 == a) l).2.2 = true then (if l.length = 1 then errD 2 else rightR id fr tu (wrap64 (gen + 1)) (delM (fun m => m.f1 == a) l) nx) else errD 7) else errD 60
theorem add_eq {id : Int} {fr tu : ByteArray} {gen : Int} {l : List S60} {nx a : Int} (hm : l.length ≤ 1000000) : desc_Add.f id fr tu gen l nx a = some (addD id fr tu gen l nx a) := by
 unfold desc_Add.f addD
 rw [on_eq hm, Option.bind_some, check_eq, Option.bind_some]
 by_cases hok : okD id fr tu gen l nx = true
 ·have h5 := okD_len hok
  rw [if_pos hok, if_pos hok, if_pos rfl]
  have hnode : desc_isNode.f a = some (decide (1 ≤ a ∧ a ≤ 7)) := by
   unfold desc_isNode.f
   split
   ·congr 1; exact decide_eq_decide.2 (by omega)
   ·rw [decide_eq_false (by omega)]
  rw [hnode, Option.bind_some]
  by_cases hn : 1 ≤ a ∧ a ≤ 7
  ·rw [if_pos (decide_eq_true hn), if_pos hn]
   split
   ·rfl
   ·by_cases h6 : l.length = 5
    ·rw [if_pos (by omega), if_pos h6]; rfl
    ·rw [if_neg (by omega), if_neg h6]
     unfold api_Member_33.f
     rw [if_pos (by omega), Option.bind_some, Option.bind_some, if_pos (by simp only [List.length_cons, List.length_nil]; omega), right_eq, Option.bind_some]
  ·rw [if_neg (by rw [decide_eq_true_iff]; exact hn), if_neg hn]; rfl
 ·rw [if_neg hok, if_neg hok, if_neg (by decide)]; rfl
theorem rem_eq {id : Int} {fr tu : ByteArray} {gen : Int} {l : List S60} {nx a : Int} (hm : l.length ≤ 1000000) : desc_Remove.f id fr tu gen l nx a = some (remD id fr tu gen l nx a) := by
 unfold desc_Remove.f remD
 rw [has_eq hm, Option.bind_some, check_eq, Option.bind_some]
 by_cases hok : okD id fr tu gen l nx = true
 ·rw [if_pos hok, if_pos hok, if_pos rfl]
  split
  ·by_cases h1 : l.length = 1
   ·rw [if_pos (by omega), if_pos h1]; rfl
   ·rw [if_neg (by omega), if_neg h1]
    unfold api_Member_51.f
    rw [if_pos (by omega), Option.bind_some, right_eq, Option.bind_some]
  ·rfl
 ·rw [if_neg hok, if_neg hok, if_neg (by decide)]; rfl
theorem rmembers_ev (a b : List S60) (hm : a.length ≤ 9223372036854775000) : Ev (fun k => r06_Members.f k a b) (decide (a = b)) := by
 refine Ev.ite (fun h => ?_) (fun h => ?_)
 ·have hl : a.length = b.length := by omega
  have := Ev.upto (F := fun k (_ : Unit) i => r06_Members.l0 k a b i) (n := a.length) (G := fun _ i => decide (a.drop i = b.drop i)) (I := fun _ _ => True)
   (by
    intro _ i hi _ ih
    have hi2 : i < b.length := by omega
    have hd1 : a.drop i = a[i] :: a.drop (i + 1) := List.drop_eq_getElem_cons hi
    have hd2 : b.drop i = b[i] :: b.drop (i + 1) := List.drop_eq_getElem_cons hi2
    simp only [r06_Members.l0, if_pos (lt_cast hi), if_pos (nn i), if_pos (lt_cast hi2), rd_lt hi, rd_lt hi2, hd1, hd2, wrap_nat (n := i) (by omega)]
    refine Ev.ite (fun h => ?_) (fun h => ?_)
    ·rw [decide_eq_false (fun e => ?_)]
     ·exact Ev.now _
     ·injection e with e1 _
      rw [e1] at h
      simp at h
    ·have e1 : a[i] = b[i] := by
      simp only [Bool.or_eq_true, Bool.not_eq_true', beq_eq_false_iff_ne, not_or, ne_eq, Classical.not_not] at h
      exact M_ext h.1 h.2
     rw [show decide (a[i] :: a.drop (i + 1) = b[i] :: b.drop (i + 1)) = decide (a.drop (i + 1) = b.drop (i + 1)) from decide_eq_decide.2 ⟨fun h => by injection h, fun h => by rw [e1, h]⟩]
     exact ih () trivial)
   (by
    intro _ _
    have e : decide (a.drop a.length = b.drop a.length) = true := decide_eq_true (by rw [List.drop_length, hl, List.drop_length])
    rw [e]
    simp only [r06_Members.l0, if_neg (Int.lt_irrefl _)]
    exact Ev.now _) 0 (Nat.zero_le _) () trivial
  exact this
 ·rw [decide_eq_false (fun e => h (by rw [e]))]; exact Ev.now _
end Go.Proofs.YtjfhcijjjadhbaaDoor.V
end
section
namespace Go.Proofs.YtjfhcijjjadhbaaDoor.P
open Go.RowKit Go.Proofs.YtjfhcijjjadhbaaDoor.K Go.Proofs.YtjfhcijjjadhbaaDoorW.PrintWords Go.Proofs.YtjfhcijjjadhbaaDoorW.PrintLast Go.Proofs.YtjfhcijjjadhbaaDoorW.PrintMore
attribute [local go_sem] max2_int min2_int max_two min_two max_three min_three max_four min_four   -- for this text's walks alone
def bound_both.f (a0_0 : ByteArray) (a0_1 : ByteArray) (a1_0 : ByteArray) (a1_1 : ByteArray) : Option (Bool) := (bound_Check.f a0_0 a0_1).bind fun t110 => (if t110 = 0 then ((bound_Check.f a1_0 a1_1).bind fun t111 => (some (t111 == 0))) else (some false))
set_option maxHeartbeats 8000000 in
set_option maxRecDepth 100000 in
theorem bound_both.calls (a0_0 : ByteArray) (a0_1 : ByteArray) (a1_0 : ByteArray) (a1_1 : ByteArray) (r : Bool) (w : World) (hG : TheG w) (h : bound_both.f a0_0 a0_1 a1_0 a1_1 = some r) :
 Calls Tryd.prog 73 #[.agg #[.string a0_0, .string a0_1], .agg #[.string a1_0, .string a1_1]] w fun e w' => e = .returned (.bool r) ∧ Below w.heap.size w w' := by
 have hu23 := Tryd.underlying23
 have HB := Az.mk (Below.refl w.heap.size w)
 have H : ((bound_Check.f a0_0 a0_1).bind fun t110 => (if t110 = 0 then ((bound_Check.f a1_0 a1_1).bind fun t111 => (some (t111 == 0))) else (some false))) = some r := h
 clear h
 replace H := Option.bind_eq_some_iff.mp H
 obtain ⟨t110, A30, H⟩ := H
 replace H : (if t110 = 0 then ((bound_Check.f a1_0 a1_1).bind fun t111 => (some (t111 == 0))) else (some false)) = some r := H
 have A3 := Az.mk A30
 clear A30
 by_cases c4 : t110 = 0
 ·rw [if_pos c4] at H
  have c4b0 : (t110 == 0) = true := beq_iff_eq.mpr c4
  have c4b1 : (t110 != 0) = false := bne_eq_false_iff_eq.mpr c4
  clear c4
  replace H := Option.bind_eq_some_iff.mp H
  obtain ⟨t111, A50, H⟩ := H
  replace H : (some (t111 == 0)) = some r := H
  have A5 := Az.mk A50
  clear A50
  obtain rfl := Option.some.inj H
  go_enter Tryd.func73, Tryd.ntmps73
  go_wp2_with (first | ((with_reducible refine gate_dst (N := 2) rfl ?_); refine box_event ?hg (N := 2) ?hd (cs := #[.string a0_0, .string a0_1]) (t := 23) ?hr ?_; (case hd => rfl); (case hg => rfl); (case hr => first | (go_simp; done) | (go_simp; rfl)); intro gb108 hg w6 hbox hb; have BK108 := Az.mk (hbox); have GW108 := Az.mk (geO hg (pbE HB.out)); have GE108 := Az.mk (geO hg (pbE HB.out)); replace HB := Az.mk (pbT (by exact pbE HB.out) hb); clear hb hbox hg) | ((with_reducible refine gate_dst (N := 3) rfl ?_); refine box_event ?hg (N := 3) ?hd (cs := #[.string a1_0, .string a1_1]) (t := 23) ?hr ?_; (case hd => rfl); (case hg => rfl); (case hr => first | (go_simp; done) | (go_simp; rfl)); intro gb109 hg w7 hbox hb; have BK109 := Az.mk (hbox); have GW109 := Az.mk (geO hg (pbE HB.out)); have GE109 := Az.mk (geO hg (pbE HB.out)); replace HB := Az.mk (pbT (by exact pbE HB.out) hb); have NB108_109 := Az.mk (neO hg (bk BK108.out)); have NB109_108 := Az.mk (neP hg (bk BK108.out)); replace BK108 := Az.mk (bkB (bk BK108.out) hb); clear hb hbox hg; have hnb8 := NB108_109.out; have hnc8 := NB109_108.out; have hcz9 := cells2 BK108.out) | ((with_reducible refine gtc (f := 47) rfl ?_); refine goesL_ (some 6) rfl rfl Tryd.func47 (by kernel_rfl) rfl #[.agg #[.string a0_0, .string a0_1]] rfl (by (try simp only [List.map_toArray, List.map_cons, List.map_nil]); first | done | rfl | (simp only [List.length_drop, List.length_take]; rfl)) ?_; (with_reducible refine (bound_Check.calls a0_0 a0_1 t110 _ ?side1 A3.out).mono ?_); (case side1 => exact hG.below (by exact pbE HB.out)); rintro e w10 ⟨rfl, hb⟩; refine ⟨_, rfl, ?_⟩; replace BK108 := Az.mk (bkB (bk BK108.out) hb); replace BK109 := Az.mk (bkB (bk BK109.out) hb); replace HB := Az.mk (pbT (by exact pbE HB.out) hb); (try clear hb); (try clear hb2); (try clear hk); (try clear hi); have hcz11 := cells2 BK109.out) | (go_at_call 47; (with_reducible refine (bound_Check.calls a1_0 a1_1 t111 _ ?side1 A5.out).mono ?_); (case side1 => exact hG.below (by exact pbE HB.out)); rintro e w12 ⟨rfl, hb⟩; replace BK108 := Az.mk (bkB (bk BK108.out) hb); replace BK109 := Az.mk (bkB (bk BK109.out) hb); replace HB := Az.mk (pbT (by exact pbE HB.out) hb); (try clear hb); (try clear hb2); (try clear hk); (try clear hi)))
  go_ret
  exact ⟨by first | rfl | (simp [errW_none, errW_some] <;> rfl) | (simp [*, errW_none, errW_some] <;> rfl), by exact pbE HB.out⟩
 ·rw [if_neg c4] at H
  have c4b0 : (t110 == 0) = false := beq_eq_false_iff_ne.mpr c4
  have c4b1 : (t110 != 0) = true := bne_iff_ne.mpr c4
  obtain rfl := Option.some.inj H
  go_enter Tryd.func73, Tryd.ntmps73
  go_wp2_with (first | ((with_reducible refine gate_dst (N := 2) rfl ?_); refine box_event ?hg (N := 2) ?hd (cs := #[.string a0_0, .string a0_1]) (t := 23) ?hr ?_; (case hd => rfl); (case hg => rfl); (case hr => first | (go_simp; done) | (go_simp; rfl)); intro gb108 hg w13 hbox hb; have BK108 := Az.mk (hbox); have GW108 := Az.mk (geO hg (pbE HB.out)); have GE108 := Az.mk (geO hg (pbE HB.out)); replace HB := Az.mk (pbT (by exact pbE HB.out) hb); clear hb hbox hg) | ((with_reducible refine gate_dst (N := 3) rfl ?_); refine box_event ?hg (N := 3) ?hd (cs := #[.string a1_0, .string a1_1]) (t := 23) ?hr ?_; (case hd => rfl); (case hg => rfl); (case hr => first | (go_simp; done) | (go_simp; rfl)); intro gb109 hg w14 hbox hb; have BK109 := Az.mk (hbox); have GW109 := Az.mk (geO hg (pbE HB.out)); have GE109 := Az.mk (geO hg (pbE HB.out)); replace HB := Az.mk (pbT (by exact pbE HB.out) hb); have NB108_109 := Az.mk (neO hg (bk BK108.out)); have NB109_108 := Az.mk (neP hg (bk BK108.out)); replace BK108 := Az.mk (bkB (bk BK108.out) hb); clear hb hbox hg; have hnb15 := NB108_109.out; have hnc15 := NB109_108.out; have hcz16 := cells2 BK108.out) | ((with_reducible refine gtc (f := 47) rfl ?_); refine goesL_ (some 6) rfl rfl Tryd.func47 (by kernel_rfl) rfl #[.agg #[.string a0_0, .string a0_1]] rfl (by (try simp only [List.map_toArray, List.map_cons, List.map_nil]); first | done | rfl | (simp only [List.length_drop, List.length_take]; rfl)) ?_; (with_reducible refine (bound_Check.calls a0_0 a0_1 t110 _ ?side1 A3.out).mono ?_); (case side1 => exact hG.below (by exact pbE HB.out)); rintro e w17 ⟨rfl, hb⟩; refine ⟨_, rfl, ?_⟩; replace BK108 := Az.mk (bkB (bk BK108.out) hb); replace BK109 := Az.mk (bkB (bk BK109.out) hb); replace HB := Az.mk (pbT (by exact pbE HB.out) hb); (try clear hb); (try clear hb2); (try clear hk); (try clear hi)))
  go_ret
  exact ⟨by first | rfl | (simp [errW_none, errW_some] <;> rfl) | (simp [*, errW_none, errW_some] <;> rfl), by exact pbE HB.out⟩
def bound_Next.f (a0_0 : ByteArray) (a0_1 : ByteArray) (a1_0 : ByteArray) (a1_1 : ByteArray) : Option (Bool) := (bound_both.f a0_0 a0_1 a1_0 a1_1).bind fun t114 => (if t114 = true then (if a0_1.toList = ([] : List UInt8) then (some false) else (some (a0_1.toList == a1_0.toList))) else (some false))
set_option maxHeartbeats 8000000 in
set_option maxRecDepth 100000 in
theorem bound_Next.calls (a0_0 : ByteArray) (a0_1 : ByteArray) (a1_0 : ByteArray) (a1_1 : ByteArray) (r : Bool) (w : World) (hG : TheG w) (h : bound_Next.f a0_0 a0_1 a1_0 a1_1 = some r) :
 Calls Tryd.prog 63 #[.agg #[.string a0_0, .string a0_1], .agg #[.string a1_0, .string a1_1]] w fun e w' => e = .returned (.bool r) ∧ Below w.heap.size w w' := by
 have hu23 := Tryd.underlying23
 have HB := Az.mk (Below.refl w.heap.size w)
 have H : ((bound_both.f a0_0 a0_1 a1_0 a1_1).bind fun t114 => (if t114 = true then (if a0_1.toList = ([] : List UInt8) then (some false) else (some (a0_1.toList == a1_0.toList))) else (some false))) = some r := h
 clear h
 replace H := Option.bind_eq_some_iff.mp H
 obtain ⟨t114, A30, H⟩ := H
 replace H : (if t114 = true then (if a0_1.toList = ([] : List UInt8) then (some false) else (some (a0_1.toList == a1_0.toList))) else (some false)) = some r := H
 have A3 := Az.mk A30
 clear A30
 by_cases c4 : t114 = true
 ·subst c4
  have H1 : (if a0_1.toList = ([] : List UInt8) then (some false) else (some (a0_1.toList == a1_0.toList))) = some r := by rw [if_pos rfl] at H; exact H
  clear H
  have H := H1
  clear H1
  by_cases c5 : a0_1.toList = ([] : List UInt8)
  ·rw [if_pos c5] at H
   have c5b0 : (a0_1.toList == ([] : List UInt8)) = true := beq_iff_eq.mpr c5
   have c5b1 : (a0_1.toList != ([] : List UInt8)) = false := bne_eq_false_iff_eq.mpr c5
   clear c5
   obtain rfl := Option.some.inj H
   go_enter Tryd.func63, Tryd.ntmps63
   go_wp2_with (first | ((with_reducible refine gate_dst (N := 2) rfl ?_); refine box_event ?hg (N := 2) ?hd (cs := #[.string a0_0, .string a0_1]) (t := 23) ?hr ?_; (case hd => rfl); (case hg => rfl); (case hr => first | (go_simp; done) | (go_simp; rfl)); intro gb112 hg w6 hbox hb; have BK112 := Az.mk (hbox); have GW112 := Az.mk (geO hg (pbE HB.out)); have GE112 := Az.mk (geO hg (pbE HB.out)); replace HB := Az.mk (pbT (by exact pbE HB.out) hb); clear hb hbox hg) | ((with_reducible refine gate_dst (N := 3) rfl ?_); refine box_event ?hg (N := 3) ?hd (cs := #[.string a1_0, .string a1_1]) (t := 23) ?hr ?_; (case hd => rfl); (case hg => rfl); (case hr => first | (go_simp; done) | (go_simp; rfl)); intro gb113 hg w7 hbox hb; have BK113 := Az.mk (hbox); have GW113 := Az.mk (geO hg (pbE HB.out)); have GE113 := Az.mk (geO hg (pbE HB.out)); replace HB := Az.mk (pbT (by exact pbE HB.out) hb); have NB112_113 := Az.mk (neO hg (bk BK112.out)); have NB113_112 := Az.mk (neP hg (bk BK112.out)); replace BK112 := Az.mk (bkB (bk BK112.out) hb); clear hb hbox hg; have hnb8 := NB112_113.out; have hnc8 := NB113_112.out; have hcz9 := cells2 BK112.out; have hcz10 := cells2 BK113.out) | ((with_reducible refine gtc (f := 73) rfl ?_); refine goesL_ (some 7) rfl rfl Tryd.func73 (by kernel_rfl) rfl #[.agg #[.string a0_0, .string a0_1], .agg #[.string a1_0, .string a1_1]] rfl (by (try simp only [List.map_toArray, List.map_cons, List.map_nil]); first | done | rfl | (simp only [List.length_drop, List.length_take]; rfl)) ?_; (with_reducible refine (bound_both.calls a0_0 a0_1 a1_0 a1_1 true _ ?side1 A3.out).mono ?_); (case side1 => exact hG.below (by exact pbE HB.out)); rintro e w11 ⟨rfl, hb⟩; refine ⟨_, rfl, ?_⟩; replace BK112 := Az.mk (bkB (bk BK112.out) hb); replace BK113 := Az.mk (bkB (bk BK113.out) hb); replace HB := Az.mk (pbT (by exact pbE HB.out) hb); (try clear hb); (try clear hb2); (try clear hk); (try clear hi); have hcz12 := cells2 BK112.out))
   go_ret
   exact ⟨by first | rfl | (simp [errW_none, errW_some] <;> rfl) | (simp [*, errW_none, errW_some] <;> rfl), by exact pbE HB.out⟩
  ·rw [if_neg c5] at H
   have c5b0 : (a0_1.toList == ([] : List UInt8)) = false := beq_eq_false_iff_ne.mpr c5
   have c5b1 : (a0_1.toList != ([] : List UInt8)) = true := bne_iff_ne.mpr c5
   obtain rfl := Option.some.inj H
   go_enter Tryd.func63, Tryd.ntmps63
   go_wp2_with (first | ((with_reducible refine gate_dst (N := 2) rfl ?_); refine box_event ?hg (N := 2) ?hd (cs := #[.string a0_0, .string a0_1]) (t := 23) ?hr ?_; (case hd => rfl); (case hg => rfl); (case hr => first | (go_simp; done) | (go_simp; rfl)); intro gb112 hg w13 hbox hb; have BK112 := Az.mk (hbox); have GW112 := Az.mk (geO hg (pbE HB.out)); have GE112 := Az.mk (geO hg (pbE HB.out)); replace HB := Az.mk (pbT (by exact pbE HB.out) hb); clear hb hbox hg) | ((with_reducible refine gate_dst (N := 3) rfl ?_); refine box_event ?hg (N := 3) ?hd (cs := #[.string a1_0, .string a1_1]) (t := 23) ?hr ?_; (case hd => rfl); (case hg => rfl); (case hr => first | (go_simp; done) | (go_simp; rfl)); intro gb113 hg w14 hbox hb; have BK113 := Az.mk (hbox); have GW113 := Az.mk (geO hg (pbE HB.out)); have GE113 := Az.mk (geO hg (pbE HB.out)); replace HB := Az.mk (pbT (by exact pbE HB.out) hb); have NB112_113 := Az.mk (neO hg (bk BK112.out)); have NB113_112 := Az.mk (neP hg (bk BK112.out)); replace BK112 := Az.mk (bkB (bk BK112.out) hb); clear hb hbox hg; have hnb15 := NB112_113.out; have hnc15 := NB113_112.out; have hcz16 := cells2 BK112.out; have hcz17 := cells2 BK113.out) | ((with_reducible refine gtc (f := 73) rfl ?_); refine goesL_ (some 7) rfl rfl Tryd.func73 (by kernel_rfl) rfl #[.agg #[.string a0_0, .string a0_1], .agg #[.string a1_0, .string a1_1]] rfl (by (try simp only [List.map_toArray, List.map_cons, List.map_nil]); first | done | rfl | (simp only [List.length_drop, List.length_take]; rfl)) ?_; (with_reducible refine (bound_both.calls a0_0 a0_1 a1_0 a1_1 true _ ?side1 A3.out).mono ?_); (case side1 => exact hG.below (by exact pbE HB.out)); rintro e w18 ⟨rfl, hb⟩; refine ⟨_, rfl, ?_⟩; replace BK112 := Az.mk (bkB (bk BK112.out) hb); replace BK113 := Az.mk (bkB (bk BK113.out) hb); replace HB := Az.mk (pbT (by exact pbE HB.out) hb); (try clear hb); (try clear hb2); (try clear hk); (try clear hi); have hcz19 := cells2 BK112.out; have hcz20 := cells2 BK113.out))
   go_ret
   exact ⟨by first | rfl | (simp [errW_none, errW_some] <;> rfl) | (simp [*, errW_none, errW_some] <;> rfl), by exact pbE HB.out⟩
 ·replace c4 := Bool.eq_false_iff.mpr c4
  subst c4
  have H1 : (some false) = some r := by rw [if_neg (show ¬ (false = true) by decide)] at H; exact H
  clear H
  have H := H1
  clear H1
  obtain rfl := Option.some.inj H
  go_enter Tryd.func63, Tryd.ntmps63
  go_wp2_with (first | ((with_reducible refine gate_dst (N := 2) rfl ?_); refine box_event ?hg (N := 2) ?hd (cs := #[.string a0_0, .string a0_1]) (t := 23) ?hr ?_; (case hd => rfl); (case hg => rfl); (case hr => first | (go_simp; done) | (go_simp; rfl)); intro gb112 hg w21 hbox hb; have BK112 := Az.mk (hbox); have GW112 := Az.mk (geO hg (pbE HB.out)); have GE112 := Az.mk (geO hg (pbE HB.out)); replace HB := Az.mk (pbT (by exact pbE HB.out) hb); clear hb hbox hg) | ((with_reducible refine gate_dst (N := 3) rfl ?_); refine box_event ?hg (N := 3) ?hd (cs := #[.string a1_0, .string a1_1]) (t := 23) ?hr ?_; (case hd => rfl); (case hg => rfl); (case hr => first | (go_simp; done) | (go_simp; rfl)); intro gb113 hg w22 hbox hb; have BK113 := Az.mk (hbox); have GW113 := Az.mk (geO hg (pbE HB.out)); have GE113 := Az.mk (geO hg (pbE HB.out)); replace HB := Az.mk (pbT (by exact pbE HB.out) hb); have NB112_113 := Az.mk (neO hg (bk BK112.out)); have NB113_112 := Az.mk (neP hg (bk BK112.out)); replace BK112 := Az.mk (bkB (bk BK112.out) hb); clear hb hbox hg; have hnb23 := NB112_113.out; have hnc23 := NB113_112.out; have hcz24 := cells2 BK112.out; have hcz25 := cells2 BK113.out) | ((with_reducible refine gtc (f := 73) rfl ?_); refine goesL_ (some 7) rfl rfl Tryd.func73 (by kernel_rfl) rfl #[.agg #[.string a0_0, .string a0_1], .agg #[.string a1_0, .string a1_1]] rfl (by (try simp only [List.map_toArray, List.map_cons, List.map_nil]); first | done | rfl | (simp only [List.length_drop, List.length_take]; rfl)) ?_; (with_reducible refine (bound_both.calls a0_0 a0_1 a1_0 a1_1 false _ ?side1 A3.out).mono ?_); (case side1 => exact hG.below (by exact pbE HB.out)); rintro e w26 ⟨rfl, hb⟩; refine ⟨_, rfl, ?_⟩; replace BK112 := Az.mk (bkB (bk BK112.out) hb); replace BK113 := Az.mk (bkB (bk BK113.out) hb); replace HB := Az.mk (pbT (by exact pbE HB.out) hb); (try clear hb); (try clear hb2); (try clear hk); (try clear hi)))
  go_ret
  exact ⟨by first | rfl | (simp [errW_none, errW_some] <;> rfl) | (simp [*, errW_none, errW_some] <;> rfl), by exact pbE HB.out⟩
def bound_Join.f (a0_0 : ByteArray) (a0_1 : ByteArray) (a1_0 : ByteArray) (a1_1 : ByteArray) : Option (ByteArray × ByteArray × Int) := (bound_Next.f a0_0 a0_1 a1_0 a1_1).bind fun t118 => (if t118 = true then (some (a0_0, a1_1, 0)) else (some ((⟨#[]⟩ : ByteArray), (⟨#[]⟩ : ByteArray), 20)))
set_option maxHeartbeats 8000000 in
set_option maxRecDepth 100000 in
theorem bound_Join.calls (a0_0 : ByteArray) (a0_1 : ByteArray) (a1_0 : ByteArray) (a1_1 : ByteArray) (r1 : ByteArray) (r2 : ByteArray) (r3 : Int) (w : World) (hG : TheG w) (h : bound_Join.f a0_0 a0_1 a1_0 a1_1 = some (r1, r2, r3)) :
 Calls Tryd.prog 36 #[.agg #[.string a0_0, .string a0_1], .agg #[.string a1_0, .string a1_1]] w fun e w' => e = .returned (.tuple #[.agg #[.string r1, .string r2], .int .i64 r3]) ∧ Below w.heap.size w w' := by
 have hu23 := Tryd.underlying23
 have HB := Az.mk (Below.refl w.heap.size w)
 have H : ((bound_Next.f a0_0 a0_1 a1_0 a1_1).bind fun t118 => (if t118 = true then (some (a0_0, a1_1, 0)) else (some ((⟨#[]⟩ : ByteArray), (⟨#[]⟩ : ByteArray), 20)))) = some (r1, r2, r3) := h
 clear h
 replace H := Option.bind_eq_some_iff.mp H
 obtain ⟨t118, A30, H⟩ := H
 replace H : (if t118 = true then (some (a0_0, a1_1, 0)) else (some ((⟨#[]⟩ : ByteArray), (⟨#[]⟩ : ByteArray), 20))) = some (r1, r2, r3) := H
 have A3 := Az.mk A30
 clear A30
 by_cases c4 : t118 = true
 ·subst c4
  have H1 : (some (a0_0, a1_1, 0)) = some (r1, r2, r3) := by rw [if_pos rfl] at H; exact H
  clear H
  have H := H1
  clear H1
  simp only [Option.some.injEq, Prod.mk.injEq] at H
  obtain ⟨rfl, rfl, rfl⟩ := H
  go_enter Tryd.func36, Tryd.ntmps36
  go_wp2_with (first | ((with_reducible refine gate_dst (N := 2) rfl ?_); refine box_event ?hg (N := 2) ?hd (cs := #[.string a0_0, .string a0_1]) (t := 23) ?hr ?_; (case hd => rfl); (case hg => rfl); (case hr => first | (go_simp; done) | (go_simp; rfl)); intro gb115 hg w5 hbox hb; have BK115 := Az.mk (hbox); have GW115 := Az.mk (geO hg (pbE HB.out)); have GE115 := Az.mk (geO hg (pbE HB.out)); replace HB := Az.mk (pbT (by exact pbE HB.out) hb); clear hb hbox hg) | ((with_reducible refine gate_dst (N := 3) rfl ?_); refine box_event ?hg (N := 3) ?hd (cs := #[.string a1_0, .string a1_1]) (t := 23) ?hr ?_; (case hd => rfl); (case hg => rfl); (case hr => first | (go_simp; done) | (go_simp; rfl)); intro gb116 hg w6 hbox hb; have BK116 := Az.mk (hbox); have GW116 := Az.mk (geO hg (pbE HB.out)); have GE116 := Az.mk (geO hg (pbE HB.out)); replace HB := Az.mk (pbT (by exact pbE HB.out) hb); have NB115_116 := Az.mk (neO hg (bk BK115.out)); have NB116_115 := Az.mk (neP hg (bk BK115.out)); replace BK115 := Az.mk (bkB (bk BK115.out) hb); clear hb hbox hg) | ((with_reducible refine gate_dst (N := 4) rfl ?_); refine box_event ?hg (N := 4) ?hd (cs := #[.string (⟨#[]⟩ : ByteArray), .string (⟨#[]⟩ : ByteArray)]) (t := 23) ?hr ?_; (case hd => rfl); (case hg => rfl); (case hr => first | (go_simp; done) | (go_simp; rfl)); intro gb117 hg w7 hbox hb; have BK117 := Az.mk (hbox); have GW117 := Az.mk (geO hg (pbE HB.out)); have GE117 := Az.mk (geO hg (pbE HB.out)); replace HB := Az.mk (pbT (by exact pbE HB.out) hb); have NB115_117 := Az.mk (neO hg (bk BK115.out)); have NB117_115 := Az.mk (neP hg (bk BK115.out)); replace BK115 := Az.mk (bkB (bk BK115.out) hb); have NB116_117 := Az.mk (neO hg (bk BK116.out)); have NB117_116 := Az.mk (neP hg (bk BK116.out)); replace BK116 := Az.mk (bkB (bk BK116.out) hb); clear hb hbox hg; have hnb8 := NB115_116.out; have hnc8 := NB116_115.out; have hnb9 := NB115_117.out; have hnc9 := NB117_115.out; have hcz10 := cells2 BK115.out; have hnb11 := NB116_117.out; have hnc11 := NB117_116.out; have hcz12 := cells2 BK116.out) | ((with_reducible refine gtc (f := 63) rfl ?_); refine goesL_ (some 8) rfl rfl Tryd.func63 (by kernel_rfl) rfl #[.agg #[.string a0_0, .string a0_1], .agg #[.string a1_0, .string a1_1]] rfl (by (try simp only [List.map_toArray, List.map_cons, List.map_nil]); first | done | rfl | (simp only [List.length_drop, List.length_take]; rfl)) ?_; (with_reducible refine (bound_Next.calls a0_0 a0_1 a1_0 a1_1 true _ ?side1 A3.out).mono ?_); (case side1 => exact hG.below (by exact pbE HB.out)); rintro e w13 ⟨rfl, hb⟩; refine ⟨_, rfl, ?_⟩; replace BK115 := Az.mk (bkB (bk BK115.out) hb); replace BK116 := Az.mk (bkB (bk BK116.out) hb); replace BK117 := Az.mk (bkB (bk BK117.out) hb); replace HB := Az.mk (pbT (by exact pbE HB.out) hb); (try clear hb); (try clear hb2); (try clear hk); (try clear hi); have hcz14 := cells2 BK115.out; have hcz15 := cells2 BK116.out; have hcz16 := cells2 BK117.out))
  refine bodyPost_ret (results_ct rfl _ _ gb117 23 #[.string a0_0, .string a1_1] (0, 0) _ rfl (by refine bk ?_; refine blk_put (cs := #[.string a0_0, .string (⟨#[]⟩ : ByteArray)]) ?_ 1 _ rfl; refine bk ?_; refine blk_put (cs := #[.string (⟨#[]⟩ : ByteArray), .string (⟨#[]⟩ : ByteArray)]) ?_ 0 _ rfl; refine bk ?_; exact BK117.out) Tryd.underlying23 rfl (by kernel_rfl)) rfl ?_
  exact ⟨by first | rfl | (simp [errW_none, errW_some] <;> rfl) | (simp [*, errW_none, errW_some] <;> rfl), by exact pbE HB.out⟩
 ·replace c4 := Bool.eq_false_iff.mpr c4
  subst c4
  have H1 : (some ((⟨#[]⟩ : ByteArray), (⟨#[]⟩ : ByteArray), 20)) = some (r1, r2, r3) := by rw [if_neg (show ¬ (false = true) by decide)] at H; exact H
  clear H
  have H := H1
  clear H1
  simp only [Option.some.injEq, Prod.mk.injEq] at H
  obtain ⟨rfl, rfl, rfl⟩ := H
  go_enter Tryd.func36, Tryd.ntmps36
  go_wp2_with (first | ((with_reducible refine gate_dst (N := 2) rfl ?_); refine box_event ?hg (N := 2) ?hd (cs := #[.string a0_0, .string a0_1]) (t := 23) ?hr ?_; (case hd => rfl); (case hg => rfl); (case hr => first | (go_simp; done) | (go_simp; rfl)); intro gb115 hg w17 hbox hb; have BK115 := Az.mk (hbox); have GW115 := Az.mk (geO hg (pbE HB.out)); have GE115 := Az.mk (geO hg (pbE HB.out)); replace HB := Az.mk (pbT (by exact pbE HB.out) hb); clear hb hbox hg) | ((with_reducible refine gate_dst (N := 3) rfl ?_); refine box_event ?hg (N := 3) ?hd (cs := #[.string a1_0, .string a1_1]) (t := 23) ?hr ?_; (case hd => rfl); (case hg => rfl); (case hr => first | (go_simp; done) | (go_simp; rfl)); intro gb116 hg w18 hbox hb; have BK116 := Az.mk (hbox); have GW116 := Az.mk (geO hg (pbE HB.out)); have GE116 := Az.mk (geO hg (pbE HB.out)); replace HB := Az.mk (pbT (by exact pbE HB.out) hb); have NB115_116 := Az.mk (neO hg (bk BK115.out)); have NB116_115 := Az.mk (neP hg (bk BK115.out)); replace BK115 := Az.mk (bkB (bk BK115.out) hb); clear hb hbox hg) | ((with_reducible refine gate_dst (N := 4) rfl ?_); refine box_event ?hg (N := 4) ?hd (cs := #[.string (⟨#[]⟩ : ByteArray), .string (⟨#[]⟩ : ByteArray)]) (t := 23) ?hr ?_; (case hd => rfl); (case hg => rfl); (case hr => first | (go_simp; done) | (go_simp; rfl)); intro gb117 hg w19 hbox hb; have BK117 := Az.mk (hbox); have GW117 := Az.mk (geO hg (pbE HB.out)); have GE117 := Az.mk (geO hg (pbE HB.out)); replace HB := Az.mk (pbT (by exact pbE HB.out) hb); have NB115_117 := Az.mk (neO hg (bk BK115.out)); have NB117_115 := Az.mk (neP hg (bk BK115.out)); replace BK115 := Az.mk (bkB (bk BK115.out) hb); have NB116_117 := Az.mk (neO hg (bk BK116.out)); have NB117_116 := Az.mk (neP hg (bk BK116.out)); replace BK116 := Az.mk (bkB (bk BK116.out) hb); clear hb hbox hg; have hnb20 := NB115_116.out; have hnc20 := NB116_115.out; have hnb21 := NB115_117.out; have hnc21 := NB117_115.out; have hcz22 := cells2 BK115.out; have hnb23 := NB116_117.out; have hnc23 := NB117_116.out; have hcz24 := cells2 BK116.out) | ((with_reducible refine gtc (f := 63) rfl ?_); refine goesL_ (some 8) rfl rfl Tryd.func63 (by kernel_rfl) rfl #[.agg #[.string a0_0, .string a0_1], .agg #[.string a1_0, .string a1_1]] rfl (by (try simp only [List.map_toArray, List.map_cons, List.map_nil]); first | done | rfl | (simp only [List.length_drop, List.length_take]; rfl)) ?_; (with_reducible refine (bound_Next.calls a0_0 a0_1 a1_0 a1_1 false _ ?side1 A3.out).mono ?_); (case side1 => exact hG.below (by exact pbE HB.out)); rintro e w25 ⟨rfl, hb⟩; refine ⟨_, rfl, ?_⟩; replace BK115 := Az.mk (bkB (bk BK115.out) hb); replace BK116 := Az.mk (bkB (bk BK116.out) hb); replace BK117 := Az.mk (bkB (bk BK117.out) hb); replace HB := Az.mk (pbT (by exact pbE HB.out) hb); (try clear hb); (try clear hb2); (try clear hk); (try clear hi); have hcz26 := cells2 BK117.out))
  refine bodyPost_ret (results_ct rfl _ _ gb117 23 #[.string (⟨#[]⟩ : ByteArray), .string (⟨#[]⟩ : ByteArray)] (0, 0) _ rfl (by refine bk ?_; refine blk_put (cs := #[.string (⟨#[]⟩ : ByteArray), .string (⟨#[]⟩ : ByteArray)]) ?_ 1 _ rfl; refine bk ?_; refine blk_put (cs := #[.string (⟨#[]⟩ : ByteArray), .string (⟨#[]⟩ : ByteArray)]) ?_ 0 _ rfl; refine bk ?_; exact BK117.out) Tryd.underlying23 rfl (by kernel_rfl)) rfl ?_
  exact ⟨by first | rfl | (simp [errW_none, errW_some] <;> rfl) | (simp [*, errW_none, errW_some] <;> rfl), by exact pbE HB.out⟩
def desc_Merge.j0 : Nat → Bool → Int → ByteArray → ByteArray → Int → List (S60) → Int → Int → ByteArray → ByteArray → Int → List (S60) → Int → Option (Int × ByteArray × ByteArray × Int × (List (S60)) × Int × Int)
 | 0, _, _, _, _, _, _, _, _, _, _, _, _, _ => none
 | k + 1, x15, x123000, x123001, x123002, x123003, x123004, x123005, x124000, x124001, x124002, x124003, x124004, x124005 => if x15 = true then (some (0, (⟨#[]⟩ : ByteArray), (⟨#[]⟩ : ByteArray), 0, ([] : List (S60)), 0, 60)) else ((bound_Join.f x123001 x123002 x124001 x124002).bind fun bt127 => (if bt127.2.2 = 0 then (if x123000 = x124000 then (some (0, (⟨#[]⟩ : ByteArray), (⟨#[]⟩ : ByteArray), 0, ([] : List (S60)), 0, 2)) else ((desc_right.f x123000 bt127.1 bt127.2.1 (wrap64 ((mx x123003 x124003) + 1)) x123004 x123005).bind fun bt131 => (some (bt131.1, bt131.2.1, bt131.2.2.1, bt131.2.2.2.1, bt131.2.2.2.2.1, bt131.2.2.2.2.2.1, bt131.2.2.2.2.2.2)))) else (some (0, (⟨#[]⟩ : ByteArray), (⟨#[]⟩ : ByteArray), 0, ([] : List (S60)), 0, bt127.2.2))))
def desc_Merge.f (k : Nat) (a0_0 : Int) (a0_1 : ByteArray) (a0_2 : ByteArray) (a0_3 : Int) (l0_4 : List (S60)) (a0_5 : Int) (a1_0 : Int) (a1_1 : ByteArray) (a1_2 : ByteArray) (a1_3 : Int) (l1_4 : List (S60)) (a1_5 : Int) : Option (Int × ByteArray × ByteArray × Int × (List (S60)) × Int × Int) := (desc_Check.f a0_0 a0_1 a0_2 a0_3 l0_4 a0_5).bind fun t125 => (if t125 = 0 then ((desc_Check.f a1_0 a1_1 a1_2 a1_3 l1_4 a1_5).bind fun t126 => (desc_Merge.j0 k (t126 != 0) a0_0 a0_1 a0_2 a0_3 l0_4 a0_5 a1_0 a1_1 a1_2 a1_3 l1_4 a1_5)) else (desc_Merge.j0 k true a0_0 a0_1 a0_2 a0_3 l0_4 a0_5 a1_0 a1_1 a1_2 a1_3 l1_4 a1_5))
theorem desc_Merge.mono_l : ∀ k, (∀ y0 y1 y2 y3 y4 y5 y6 y7 y8 y9 y10 y11 y12, LeO (desc_Merge.j0 k y0 y1 y2 y3 y4 y5 y6 y7 y8 y9 y10 y11 y12) (desc_Merge.j0 (k + 1) y0 y1 y2 y3 y4 y5 y6 y7 y8 y9 y10 y11 y12))
 | 0 => fun _ _ _ _ _ _ _ _ _ _ _ _ _ r h => by simp [desc_Merge.j0] at h
 | k + 1 => by
  have ih0 := desc_Merge.mono_l k
  ·intro y0 y1 y2 y3 y4 y5 y6 y7 y8 y9 y10 y11 y12
   unfold desc_Merge.j0
   repeat' first
   | (with_reducible exact ih0 _ _ _ _ _ _ _ _ _ _ _ _ _)
   | (with_reducible exact LeO.refl _)
   | (with_reducible exact LeO.none _)
   | (with_reducible refine LeO.ite ?_ ?_)
   | (with_reducible refine LeO.bind ?_ (fun _ => ?_))
   | exact ih0 _ _ _ _ _ _ _ _ _ _ _ _ _
   | exact LeO.none _
   | refine LeO.ite ?_ ?_
   | refine LeO.bind ?_ (fun _ => ?_)
theorem desc_Merge.mono : ∀ a0 a1 a2 a3 a4 a5 a6 a7 a8 a9 a10 a11 k, LeO (desc_Merge.f k a0 a1 a2 a3 a4 a5 a6 a7 a8 a9 a10 a11) (desc_Merge.f (k + 1) a0 a1 a2 a3 a4 a5 a6 a7 a8 a9 a10 a11) := by
 intro a0 a1 a2 a3 a4 a5 a6 a7 a8 a9 a10 a11 k
 have ih0 := desc_Merge.mono_l k
 unfold desc_Merge.f
 repeat' first
  | (with_reducible exact ih0 _ _ _ _ _ _ _ _ _ _ _ _ _)
  | (with_reducible exact LeO.refl _)
  | (with_reducible exact LeO.none _)
  | (with_reducible refine LeO.ite ?_ ?_)
  | (with_reducible refine LeO.bind ?_ (fun _ => ?_))
  | exact ih0 _ _ _ _ _ _ _ _ _ _ _ _ _
  | exact LeO.none _
  | refine LeO.ite ?_ ?_
  | refine LeO.bind ?_ (fun _ => ?_)
set_option maxHeartbeats 8000000 in
set_option maxRecDepth 100000 in
theorem desc_Merge.calls (k : Nat) (a0_0 : Int) (a0_1 : ByteArray) (a0_2 : ByteArray) (a0_3 : Int) (P0_4_ : Nat → Prop) (A0_4 : Option Addr) (c0_4 : Nat) (l0_4 : List (S60)) (a0_5 : Int) (a1_0 : Int) (a1_1 : ByteArray) (a1_2 : ByteArray) (a1_3 : Int) (A1_4 : Option Addr) (c1_4 : Nat) (l1_4 : List (S60)) (a1_5 : Int) (r1 : Int) (r2 : ByteArray) (r3 : ByteArray) (r4 : Int) (r5 : List (S60)) (r6 : Int) (r7 : Int) (w : World) (hG : TheG w) (hs0_4 : Kd.V k60 60 w w.heap.size (fun k_ => P0_4_ k_) (.slice A0_4 l0_4.length c0_4) l0_4) (hr1_4 : Kd.C k60 w A1_4 l1_4.length l1_4) (hc1_4 : l1_4.length ≤ c1_4) (h : desc_Merge.f k a0_0 a0_1 a0_2 a0_3 l0_4 a0_5 a1_0 a1_1 a1_2 a1_3 l1_4 a1_5 = some (r1, r2, r3, r4, r5, r6, r7)) :
 Calls Tryd.prog 14 #[.agg #[.int .i64 a0_0, .string a0_1, .string a0_2, .int .i64 a0_3, .slice A0_4 l0_4.length c0_4, .int .i64 a0_5], .agg #[.int .i64 a1_0, .string a1_1, .string a1_2, .int .i64 a1_3, .slice A1_4 l1_4.length c1_4, .int .i64 a1_5]] w fun e w' => ∃ v4_ : Value, e = .returned (.tuple #[.agg #[.int .i64 r1, .string r2, .string r3, .int .i64 r4, v4_, .int .i64 r6], .int .i64 r7]) ∧ Kd.V k60 60 w' w.heap.size (fun k_ => (P0_4_ k_ ∨ w.heap.size ≤ k_)) v4_ r5 ∧ Below w.heap.size w w' := by
 have hu26 := Tryd.underlying26
 have hu23 := Tryd.underlying23
 have HO0_4 := Az.mk (show Kd.V k60 60 w w.heap.size (fun k_ => (P0_4_ k_ ∨ w.heap.size ≤ k_)) (.slice A0_4 l0_4.length c0_4) l0_4 from Kd.V_mono hs0_4 (fun k_ hk => .inl hk))
 have HR1_4 := Az.mk hr1_4
 have HC1_4 := Az.mk hc1_4
 clear hr1_4 hc1_4
 have HB := Az.mk (Below.refl w.heap.size w)
 have H : ((desc_Check.f a0_0 a0_1 a0_2 a0_3 l0_4 a0_5).bind fun t125 => (if t125 = 0 then ((desc_Check.f a1_0 a1_1 a1_2 a1_3 l1_4 a1_5).bind fun t126 => (desc_Merge.j0 k (t126 != 0) a0_0 a0_1 a0_2 a0_3 l0_4 a0_5 a1_0 a1_1 a1_2 a1_3 l1_4 a1_5)) else (desc_Merge.j0 k true a0_0 a0_1 a0_2 a0_3 l0_4 a0_5 a1_0 a1_1 a1_2 a1_3 l1_4 a1_5))) = some (r1, r2, r3, r4, r5, r6, r7) := h
 clear h
 have HC3 := Az.mk H
 clear H
 go_enter Tryd.func14, Tryd.ntmps14
 go_upto_region 1 with (first | ((with_reducible refine gate_dst (N := 2) rfl ?_); refine box_event ?hg (N := 2) ?hd (cs := #[.int .i64 a0_0, .string a0_1, .string a0_2, .int .i64 a0_3, .slice A0_4 l0_4.length c0_4, .int .i64 a0_5]) (t := 26) ?hr ?_; (case hd => rfl); (case hg => rfl); (case hr => first | (go_simp; done) | (go_simp; rfl)); intro gb122 hg w4 hbox hb; replace HO0_4 := Az.mk (Kd.V_below (Kd.V_elderB (Kd.V_ext HO0_4.out) gb122 (Nat.le_of_eq hg.symm)) hb); have BK122 := Az.mk (hbox); have GW122 := Az.mk (geO hg (pbE HB.out)); have GE122 := Az.mk (geO hg (pbE HB.out)); replace HB := Az.mk (pbT (by exact pbE HB.out) hb); clear hb hbox hg) | ((with_reducible refine gate_dst (N := 3) rfl ?_); refine box_event ?hg (N := 3) ?hd (cs := #[.int .i64 a1_0, .string a1_1, .string a1_2, .int .i64 a1_3, .slice A1_4 l1_4.length c1_4, .int .i64 a1_5]) (t := 26) ?hr ?_; (case hd => rfl); (case hg => rfl); (case hr => first | (go_simp; done) | (go_simp; rfl)); intro gb123 hg w5 hbox hb; replace HO0_4 := Az.mk (Kd.V_below (Kd.V_elderB (Kd.V_ext HO0_4.out) gb123 (Nat.le_of_eq hg.symm)) hb); have BK123 := Az.mk (hbox); have GW123 := Az.mk (geO hg (pbE HB.out)); have GE123 := Az.mk (geO hg (pbE HB.out)); replace HB := Az.mk (pbT (by exact pbE HB.out) hb); have NB122_123 := Az.mk (neO hg (bk BK122.out)); have NB123_122 := Az.mk (neP hg (bk BK122.out)); replace BK122 := Az.mk (bkB (bk BK122.out) hb); clear hb hbox hg) | ((with_reducible refine gate_dst (N := 4) rfl ?_); refine box_event ?hg (N := 4) ?hd (cs := #[.int .i64 0, .string (⟨#[]⟩ : ByteArray), .string (⟨#[]⟩ : ByteArray), .int .i64 0, .slice none 0 0, .int .i64 0]) (t := 26) ?hr ?_; (case hd => rfl); (case hg => rfl); (case hr => first | (go_simp; done) | (go_simp; rfl)); intro gb124 hg w6 hbox hb; replace HO0_4 := Az.mk (Kd.V_below (Kd.V_elderB (Kd.V_ext HO0_4.out) gb124 (Nat.le_of_eq hg.symm)) hb); have BK124 := Az.mk (hbox); have GW124 := Az.mk (geO hg (pbE HB.out)); have GE124 := Az.mk (geO hg (pbE HB.out)); replace HB := Az.mk (pbT (by exact pbE HB.out) hb); have NB122_124 := Az.mk (neO hg (bk BK122.out)); have NB124_122 := Az.mk (neP hg (bk BK122.out)); replace BK122 := Az.mk (bkB (bk BK122.out) hb); have NB123_124 := Az.mk (neO hg (bk BK123.out)); have NB124_123 := Az.mk (neP hg (bk BK123.out)); replace BK123 := Az.mk (bkB (bk BK123.out) hb); clear hb hbox hg))
 (try simp only [Act.put, List.setIfInBounds_toArray, List.set_cons_zero, List.set_cons_succ])
 go_cut [15] (fun v15 wc => ∃ (kq : Nat) (x15_2 : Bool), v15 = .bool x15_2 ∧ Az (desc_Merge.j0 kq x15_2 a0_0 a0_1 a0_2 a0_3 l0_4 a0_5 a1_0 a1_1 a1_2 a1_3 l1_4 a1_5 = some (r1, r2, r3, r4, r5, r6, r7)) ∧ Az (kq ≤ k) ∧ Az (Kd.V k60 60 wc w.heap.size (fun k_ => (P0_4_ k_ ∨ w.heap.size ≤ k_) ∧ k_ ≠ gb122 ∧ k_ ≠ gb123 ∧ k_ ≠ gb124) (.slice A0_4 l0_4.length c0_4) l0_4) ∧ Az (wc.heap[gb122]? = some (.cells #[.int .i64 a0_0, .string a0_1, .string a0_2, .int .i64 a0_3, (.slice A0_4 l0_4.length c0_4), .int .i64 a0_5] 26 (0, 0))) ∧ Az (wc.heap[gb123]? = some (.cells #[.int .i64 a1_0, .string a1_1, .string a1_2, .int .i64 a1_3, (.slice A1_4 l1_4.length c1_4), .int .i64 a1_5] 26 (0, 0))) ∧ Az (wc.heap[gb124]? = some (.cells #[.int .i64 0, .string (⟨#[]⟩ : ByteArray), .string (⟨#[]⟩ : ByteArray), .int .i64 0, (.slice none 0 0), .int .i64 0] 26 (0, 0))) ∧ Az (Below w.heap.size w wc))
 case first =>
  have H := HC3.out
  clear HC3
  replace H := Option.bind_eq_some_iff.mp H
  obtain ⟨t125, A70, H⟩ := H
  replace H : (if t125 = 0 then ((desc_Check.f a1_0 a1_1 a1_2 a1_3 l1_4 a1_5).bind fun t126 => (desc_Merge.j0 k (t126 != 0) a0_0 a0_1 a0_2 a0_3 l0_4 a0_5 a1_0 a1_1 a1_2 a1_3 l1_4 a1_5)) else (desc_Merge.j0 k true a0_0 a0_1 a0_2 a0_3 l0_4 a0_5 a1_0 a1_1 a1_2 a1_3 l1_4 a1_5)) = some (r1, r2, r3, r4, r5, r6, r7) := H
  have A7 := Az.mk A70
  clear A70
  by_cases c8 : t125 = 0
  ·rw [if_pos c8] at H
   have c8b0 : (t125 == 0) = true := beq_iff_eq.mpr c8
   have c8b1 : (t125 != 0) = false := bne_eq_false_iff_eq.mpr c8
   clear c8
   (first | rw [c8b0] | (simp only [i64_w, i32_w]; rw [c8b0]) | skip)
   replace H := Option.bind_eq_some_iff.mp H
   obtain ⟨t126, A90, H⟩ := H
   replace H : (desc_Merge.j0 k (t126 != 0) a0_0 a0_1 a0_2 a0_3 l0_4 a0_5 a1_0 a1_1 a1_2 a1_3 l1_4 a1_5) = some (r1, r2, r3, r4, r5, r6, r7) := H
   have A9 := Az.mk A90
   clear A90
   have H' := Az.mk H
   clear H
   have hnb10 := NB122_123.out
   have hnc10 := NB123_122.out
   have hnb11 := NB122_124.out
   have hnc11 := NB124_122.out
   have hcz12 := cells6 BK122.out
   go_wp2_with (first | ((with_reducible refine gtc (f := 22) rfl ?_); refine goesL_ (some 9) rfl rfl Tryd.func22 (by kernel_rfl) rfl #[.agg #[.int .i64 a0_0, .string a0_1, .string a0_2, .int .i64 a0_3, .slice A0_4 l0_4.length c0_4, .int .i64 a0_5]] rfl (by (try simp only [List.map_toArray, List.map_cons, List.map_nil]); first | done | rfl | (simp only [List.length_drop, List.length_take]; rfl)) ?_; (with_reducible refine (desc_Check.calls a0_0 a0_1 a0_2 a0_3 _ _ l0_4 a0_5 t125 _ ?side1 ?side2 ?side3 A7.out).mono ?_); (case side1 => exact hG.below (by exact pbE HB.out)); (case side2 => repeat (first | exact (Kd.V_reads' HO0_4.out).2.2 | (with_reducible refine Kd.C_alloc ?_ _) | (with_reducible refine Kd.C_drewN ?_ _) | (with_reducible refine Kd.C_drew ?_))); (case side3 => exact (Kd.V_reads' HO0_4.out).2.1); rintro e w13 ⟨rfl, hb⟩; refine ⟨_, rfl, ?_⟩; replace HO0_4 := Az.mk (Kd.V_below (Kd.V_ext HO0_4.out) hb); replace BK122 := Az.mk (bkB (bk BK122.out) hb); replace BK123 := Az.mk (bkB (bk BK123.out) hb); replace BK124 := Az.mk (bkB (bk BK124.out) hb); replace HB := Az.mk (pbT (by exact pbE HB.out) hb); (try clear hb); (try clear hb2); (try clear hk); (try clear hi); have hnb14 := NB123_124.out; have hnc14 := NB124_123.out; have hcz15 := cells6 BK123.out) | (go_at_call 22; (with_reducible refine (desc_Check.calls a1_0 a1_1 a1_2 a1_3 _ _ l1_4 a1_5 t126 _ ?side1 ?side2 ?side3 A9.out).mono ?_); (case side1 => exact hG.below (by exact pbE HB.out)); (case side2 => repeat (first | exact (Kd.C_below HR1_4.out HB.out) | (with_reducible refine Kd.C_alloc ?_ _) | (with_reducible refine Kd.C_drewN ?_ _) | (with_reducible refine Kd.C_drew ?_))); (case side3 => exact HC1_4.out); rintro e w16 ⟨rfl, hb⟩; replace HO0_4 := Az.mk (Kd.V_below (Kd.V_ext HO0_4.out) hb); replace BK122 := Az.mk (bkB (bk BK122.out) hb); replace BK123 := Az.mk (bkB (bk BK123.out) hb); replace BK124 := Az.mk (bkB (bk BK124.out) hb); replace HB := Az.mk (pbT (by exact pbE HB.out) hb); (try clear hb); (try clear hb2); (try clear hk); (try clear hi)))
   repeat (go_region; try go_wp2_with (fail))
   go_meet
   case rel => exact ⟨_, ((t126 != 0)), (by first | rfl | (simp; done) | (simp [*]; done)), H', ⟨by first | omega | exact Nat.le_refl _⟩, ⟨by (with_reducible repeat (first | apply Kd.V_alloc | apply Kd.V_drewN | apply Kd.V_drew)); exact Kd.V_mono HO0_4.out (fun _ hk => ⟨hk.1.1.1, ⟨hk.1.1.2, ⟨hk.1.2, hk.2⟩⟩⟩)⟩, ⟨by refine bk ?_; exact BK122.out⟩, ⟨by refine bk ?_; exact BK123.out⟩, ⟨by refine bk ?_; exact BK124.out⟩, ⟨by exact pbE HB.out⟩⟩
  ·rw [if_neg c8] at H
   have c8b0 : (t125 == 0) = false := beq_eq_false_iff_ne.mpr c8
   have c8b1 : (t125 != 0) = true := bne_iff_ne.mpr c8
   (first | rw [c8b0] | (simp only [i64_w, i32_w]; rw [c8b0]) | skip)
   have H' := Az.mk H
   clear H
   have hnb17 := NB122_123.out
   have hnc17 := NB123_122.out
   have hnb18 := NB122_124.out
   have hnc18 := NB124_122.out
   have hcz19 := cells6 BK122.out
   go_wp2_with ((with_reducible refine gtc (f := 22) rfl ?_); refine goesL_ (some 9) rfl rfl Tryd.func22 (by kernel_rfl) rfl #[.agg #[.int .i64 a0_0, .string a0_1, .string a0_2, .int .i64 a0_3, .slice A0_4 l0_4.length c0_4, .int .i64 a0_5]] rfl (by (try simp only [List.map_toArray, List.map_cons, List.map_nil]); first | done | rfl | (simp only [List.length_drop, List.length_take]; rfl)) ?_; (with_reducible refine (desc_Check.calls a0_0 a0_1 a0_2 a0_3 _ _ l0_4 a0_5 t125 _ ?side1 ?side2 ?side3 A7.out).mono ?_); (case side1 => exact hG.below (by exact pbE HB.out)); (case side2 => repeat (first | exact (Kd.V_reads' HO0_4.out).2.2 | (with_reducible refine Kd.C_alloc ?_ _) | (with_reducible refine Kd.C_drewN ?_ _) | (with_reducible refine Kd.C_drew ?_))); (case side3 => exact (Kd.V_reads' HO0_4.out).2.1); rintro e w20 ⟨rfl, hb⟩; refine ⟨_, rfl, ?_⟩; replace HO0_4 := Az.mk (Kd.V_below (Kd.V_ext HO0_4.out) hb); replace BK122 := Az.mk (bkB (bk BK122.out) hb); replace BK123 := Az.mk (bkB (bk BK123.out) hb); replace BK124 := Az.mk (bkB (bk BK124.out) hb); replace HB := Az.mk (pbT (by exact pbE HB.out) hb); (try clear hb); (try clear hb2); (try clear hk); (try clear hi))
   repeat (go_region; try go_wp2_with (fail))
   go_meet
   case rel => exact ⟨_, (true), (by first | rfl | (simp; done) | (simp [*]; done)), H', ⟨by first | omega | exact Nat.le_refl _⟩, ⟨by (with_reducible repeat (first | apply Kd.V_alloc | apply Kd.V_drewN | apply Kd.V_drew)); exact Kd.V_mono HO0_4.out (fun _ hk => ⟨hk.1.1.1, ⟨hk.1.1.2, ⟨hk.1.2, hk.2⟩⟩⟩)⟩, ⟨by refine bk ?_; exact BK122.out⟩, ⟨by refine bk ?_; exact BK123.out⟩, ⟨by refine bk ?_; exact BK124.out⟩, ⟨by exact pbE HB.out⟩⟩
 case rest =>
  clear HC3
  try clear c1
  try clear c2
  try clear p2
  try clear c8
  try clear c8b0
  try clear c8b1
  try clear c10
  try clear c11
  try clear c14
  try clear c17
  try clear c18
  try clear hcz12
  try clear hcz15
  try clear hcz19
  obtain ⟨kq, x15_2, rfl, HA, HJ2, HO_123004, BK122, BK123, BK124, HB⟩ := hcut
  cases kq with
  | zero => exact absurd HA.out (by simp [desc_Merge.j0])
  | succ kj2 =>
   have H := HA.out
   clear HA
   simp only [desc_Merge.j0] at H
   by_cases c21 : x15_2 = true
   ·subst c21
    have H1 : (some (0, (⟨#[]⟩ : ByteArray), (⟨#[]⟩ : ByteArray), 0, ([] : List (S60)), 0, 60)) = some (r1, r2, r3, r4, r5, r6, r7) := by rw [if_pos rfl] at H; exact H
    clear H
    have H := H1
    clear H1
    simp only [Option.some.injEq, Prod.mk.injEq] at H
    obtain ⟨rfl, rfl, rfl, rfl, rfl, rfl, rfl⟩ := H
    have hnb22 := NB124_122.out
    have hnc22 := NB122_124.out
    have hnb23 := NB124_123.out
    have hnc23 := NB123_124.out
    have hcz24 := cells6 BK124.out
    go_wp2
    repeat (go_region; try go_wp2)
    refine bodyPost_ret (results_ct rfl _ _ gb124 26 #[.int .i64 0, .string (⟨#[]⟩ : ByteArray), .string (⟨#[]⟩ : ByteArray), .int .i64 0, .slice none 0 0, .int .i64 0] (0, 0) _ rfl (by refine bk ?_; refine blk_put (cs := #[.int .i64 0, .string (⟨#[]⟩ : ByteArray), .string (⟨#[]⟩ : ByteArray), .int .i64 0, .slice none 0 0, .int .i64 0]) ?_ 5 _ rfl; refine bk ?_; refine blk_put (cs := #[.int .i64 0, .string (⟨#[]⟩ : ByteArray), .string (⟨#[]⟩ : ByteArray), .int .i64 0, .slice none 0 0, .int .i64 0]) ?_ 4 _ rfl; refine bk ?_; refine blk_put (cs := #[.int .i64 0, .string (⟨#[]⟩ : ByteArray), .string (⟨#[]⟩ : ByteArray), .int .i64 0, .slice none 0 0, .int .i64 0]) ?_ 3 _ rfl; refine bk ?_; refine blk_put (cs := #[.int .i64 0, .string (⟨#[]⟩ : ByteArray), .string (⟨#[]⟩ : ByteArray), .int .i64 0, .slice none 0 0, .int .i64 0]) ?_ 2 _ rfl; refine bk ?_; refine blk_put (cs := #[.int .i64 0, .string (⟨#[]⟩ : ByteArray), .string (⟨#[]⟩ : ByteArray), .int .i64 0, .slice none 0 0, .int .i64 0]) ?_ 1 _ rfl; refine bk ?_; refine blk_put (cs := #[.int .i64 0, .string (⟨#[]⟩ : ByteArray), .string (⟨#[]⟩ : ByteArray), .int .i64 0, .slice none 0 0, .int .i64 0]) ?_ 0 _ rfl; refine bk ?_; exact BK124.out) Tryd.underlying26 rfl (by kernel_rfl)) rfl ?_
    exact ⟨_, by first | rfl | (simp [errW_none, errW_some] <;> rfl) | (simp [*, errW_none, errW_some] <;> rfl), Kd.V_nil _ _ _ _ _, by exact pbE HB.out⟩
   ·replace c21 := Bool.eq_false_iff.mpr c21
    subst c21
    have H1 : ((bound_Join.f a0_1 a0_2 a1_1 a1_2).bind fun bt127 => (if bt127.2.2 = 0 then (if a0_0 = a1_0 then (some (0, (⟨#[]⟩ : ByteArray), (⟨#[]⟩ : ByteArray), 0, ([] : List (S60)), 0, 2)) else ((desc_right.f a0_0 bt127.1 bt127.2.1 (wrap64 ((mx a0_3 a1_3) + 1)) l0_4 a0_5).bind fun bt131 => (some (bt131.1, bt131.2.1, bt131.2.2.1, bt131.2.2.2.1, bt131.2.2.2.2.1, bt131.2.2.2.2.2.1, bt131.2.2.2.2.2.2)))) else (some (0, (⟨#[]⟩ : ByteArray), (⟨#[]⟩ : ByteArray), 0, ([] : List (S60)), 0, bt127.2.2)))) = some (r1, r2, r3, r4, r5, r6, r7) := by rw [if_neg (show ¬ (false = true) by decide)] at H; exact H
    clear H
    have H := H1
    clear H1
    replace H := Option.bind_eq_some_iff.mp H
    obtain ⟨⟨t127, t128, t129⟩, A250, H⟩ := H
    replace H : (if t129 = 0 then (if a0_0 = a1_0 then (some (0, (⟨#[]⟩ : ByteArray), (⟨#[]⟩ : ByteArray), 0, ([] : List (S60)), 0, 2)) else ((desc_right.f a0_0 t127 t128 (wrap64 ((mx a0_3 a1_3) + 1)) l0_4 a0_5).bind fun bt131 => (some (bt131.1, bt131.2.1, bt131.2.2.1, bt131.2.2.2.1, bt131.2.2.2.2.1, bt131.2.2.2.2.2.1, bt131.2.2.2.2.2.2)))) else (some (0, (⟨#[]⟩ : ByteArray), (⟨#[]⟩ : ByteArray), 0, ([] : List (S60)), 0, t129))) = some (r1, r2, r3, r4, r5, r6, r7) := H
    have A25 := Az.mk A250
    clear A250
    by_cases c26 : t129 = 0
    ·rw [if_pos c26] at H
     have c26b0 : (t129 == 0) = true := beq_iff_eq.mpr c26
     have c26b1 : (t129 != 0) = false := bne_eq_false_iff_eq.mpr c26
     clear c26
     by_cases c27 : a0_0 = a1_0
     ·rw [if_pos c27] at H
      have c27b0 : (a0_0 == a1_0) = true := beq_iff_eq.mpr c27
      have c27b1 : (a0_0 != a1_0) = false := bne_eq_false_iff_eq.mpr c27
      clear c27
      simp only [Option.some.injEq, Prod.mk.injEq] at H
      obtain ⟨rfl, rfl, rfl, rfl, rfl, rfl, rfl⟩ := H
      have hnb28 := NB122_123.out
      have hnc28 := NB123_122.out
      have hnb29 := NB122_124.out
      have hnc29 := NB124_122.out
      have hcz30 := cells6 BK122.out
      have hnb31 := NB123_124.out
      have hnc31 := NB124_123.out
      have hcz32 := cells6 BK123.out
      go_wp2_with (first | ((with_reducible refine gtc (f := 36) rfl ?_); refine goesL_ (some 22) rfl rfl Tryd.func36 (by kernel_rfl) rfl #[.agg #[.string a0_1, .string a0_2], .agg #[.string a1_1, .string a1_2]] rfl (by (try simp only [List.map_toArray, List.map_cons, List.map_nil]); first | done | rfl | (simp only [List.length_drop, List.length_take]; rfl)) ?_; (with_reducible refine (bound_Join.calls a0_1 a0_2 a1_1 a1_2 t127 t128 t129 _ ?side1 A25.out).mono ?_); (case side1 => exact hG.below (by exact pbE HB.out)); rintro e w33 ⟨rfl, hb⟩; refine ⟨_, rfl, ?_⟩; replace HO_123004 := Az.mk (Kd.V_below (Kd.V_ext HO_123004.out) hb); replace BK122 := Az.mk (bkB (bk BK122.out) hb); replace BK123 := Az.mk (bkB (bk BK123.out) hb); replace BK124 := Az.mk (bkB (bk BK124.out) hb); replace HB := Az.mk (pbT (by exact pbE HB.out) hb); (try clear hb); (try clear hb2); (try clear hk); (try clear hi)) | ((with_reducible refine gate_dst (N := 6) rfl ?_); refine box_event ?hg (N := 6) ?hd (cs := #[.string (⟨#[]⟩ : ByteArray), .string (⟨#[]⟩ : ByteArray)]) (t := 23) ?hr ?_; (case hd => rfl); (case hg => rfl); (case hr => first | (go_simp; done) | (go_simp; rfl)); intro gb130 hg w34 hbox hb; replace HO_123004 := Az.mk (Kd.V_below (Kd.V_elderB (Kd.V_ext HO_123004.out) gb130 (Nat.le_of_eq hg.symm)) hb); have BK130 := Az.mk (hbox); have GW130 := Az.mk (geO hg (pbE HB.out)); have GE130 := Az.mk (geO hg (pbE HB.out)); replace HB := Az.mk (pbT (by exact pbE HB.out) hb); have NB122_130 := Az.mk (neO hg (bk BK122.out)); have NB130_122 := Az.mk (neP hg (bk BK122.out)); replace BK122 := Az.mk (bkB (bk BK122.out) hb); have NB123_130 := Az.mk (neO hg (bk BK123.out)); have NB130_123 := Az.mk (neP hg (bk BK123.out)); replace BK123 := Az.mk (bkB (bk BK123.out) hb); have NB124_130 := Az.mk (neO hg (bk BK124.out)); have NB130_124 := Az.mk (neP hg (bk BK124.out)); replace BK124 := Az.mk (bkB (bk BK124.out) hb); clear hb hbox hg; have hnb35 := NB130_122.out; have hnc35 := NB122_130.out; have hnb36 := NB130_123.out; have hnc36 := NB123_130.out; have hnb37 := NB130_124.out; have hnc37 := NB124_130.out; have hcz38 := cells2 BK130.out; have hcz39 := cells6 BK122.out; have hcz40 := cells6 BK123.out; have hcz41 := cells6 BK124.out))
      repeat (go_region; try go_wp2_with (fail))
      refine bodyPost_ret (results_ct rfl _ _ gb124 26 #[.int .i64 0, .string (⟨#[]⟩ : ByteArray), .string (⟨#[]⟩ : ByteArray), .int .i64 0, .slice none 0 0, .int .i64 0] (0, 0) _ rfl (by refine bk ?_; refine blk_put (cs := #[.int .i64 0, .string (⟨#[]⟩ : ByteArray), .string (⟨#[]⟩ : ByteArray), .int .i64 0, .slice none 0 0, .int .i64 0]) ?_ 5 _ rfl; refine bk ?_; refine blk_put (cs := #[.int .i64 0, .string (⟨#[]⟩ : ByteArray), .string (⟨#[]⟩ : ByteArray), .int .i64 0, .slice none 0 0, .int .i64 0]) ?_ 4 _ rfl; refine bk ?_; refine blk_put (cs := #[.int .i64 0, .string (⟨#[]⟩ : ByteArray), .string (⟨#[]⟩ : ByteArray), .int .i64 0, .slice none 0 0, .int .i64 0]) ?_ 3 _ rfl; refine bk ?_; refine blk_put (cs := #[.int .i64 0, .string (⟨#[]⟩ : ByteArray), .string (⟨#[]⟩ : ByteArray), .int .i64 0, .slice none 0 0, .int .i64 0]) ?_ 2 _ rfl; refine bk ?_; refine blk_put (cs := #[.int .i64 0, .string (⟨#[]⟩ : ByteArray), .string (⟨#[]⟩ : ByteArray), .int .i64 0, .slice none 0 0, .int .i64 0]) ?_ 1 _ rfl; refine bk ?_; refine blk_put (cs := #[.int .i64 0, .string (⟨#[]⟩ : ByteArray), .string (⟨#[]⟩ : ByteArray), .int .i64 0, .slice none 0 0, .int .i64 0]) ?_ 0 _ rfl; exact bf BK124.out) Tryd.underlying26 rfl (by kernel_rfl)) rfl ?_
      exact ⟨_, by first | rfl | (simp [errW_none, errW_some] <;> rfl) | (simp [*, errW_none, errW_some] <;> rfl), Kd.V_nil _ _ _ _ _, by exact pbE HB.out⟩
     ·rw [if_neg c27] at H
      have c27b0 : (a0_0 == a1_0) = false := beq_eq_false_iff_ne.mpr c27
      have c27b1 : (a0_0 != a1_0) = true := bne_iff_ne.mpr c27
      obtain ⟨ji42, hji42⟩ : ∃ j_ : Int, (mx a0_3 a1_3) = j_ := ⟨_, rfl⟩
      replace H : ((desc_right.f a0_0 t127 t128 (wrap64 ((ji42) + 1)) l0_4 a0_5).bind fun bt131 => (some (bt131.1, bt131.2.1, bt131.2.2.1, bt131.2.2.2.1, bt131.2.2.2.2.1, bt131.2.2.2.2.2.1, bt131.2.2.2.2.2.2))) = some (r1, r2, r3, r4, r5, r6, r7) := by first | (rw [hji42] at H; exact H) | (simp only [hji42] at H ⊢; exact H)
      (try rw [hji42] at A25)
      have hji42_ : (if a0_3 < a1_3 then a1_3 else a0_3) = ji42 := hji42
      replace H := Option.bind_eq_some_iff.mp H
      obtain ⟨⟨t131, t132, t133, t134, t135, t138, t139⟩, A430, H⟩ := H
      replace H : (some (t131, t132, t133, t134, t135, t138, t139)) = some (r1, r2, r3, r4, r5, r6, r7) := H
      have A43 := Az.mk A430
      clear A430
      simp only [Option.some.injEq, Prod.mk.injEq] at H
      obtain ⟨rfl, rfl, rfl, rfl, rfl, rfl, rfl⟩ := H
      have hnb44 := NB122_123.out
      have hnc44 := NB123_122.out
      have hnb45 := NB122_124.out
      have hnc45 := NB124_122.out
      have hcz46 := cells6 BK122.out
      have hnb47 := NB123_124.out
      have hnc47 := NB124_123.out
      have hcz48 := cells6 BK123.out
      go_wp2_with (first | ((with_reducible refine gtc (f := 36) rfl ?_); refine goesL_ (some 22) rfl rfl Tryd.func36 (by kernel_rfl) rfl #[.agg #[.string a0_1, .string a0_2], .agg #[.string a1_1, .string a1_2]] rfl (by (try simp only [List.map_toArray, List.map_cons, List.map_nil]); first | done | rfl | (simp only [List.length_drop, List.length_take]; rfl)) ?_; (with_reducible refine (bound_Join.calls a0_1 a0_2 a1_1 a1_2 t127 t128 t129 _ ?side1 A25.out).mono ?_); (case side1 => exact hG.below (by exact pbE HB.out)); rintro e w49 ⟨rfl, hb⟩; refine ⟨_, rfl, ?_⟩; replace HO_123004 := Az.mk (Kd.V_below (Kd.V_ext HO_123004.out) hb); replace BK122 := Az.mk (bkB (bk BK122.out) hb); replace BK123 := Az.mk (bkB (bk BK123.out) hb); replace BK124 := Az.mk (bkB (bk BK124.out) hb); replace HB := Az.mk (pbT (by exact pbE HB.out) hb); (try clear hb); (try clear hb2); (try clear hk); (try clear hi)) | ((with_reducible refine gate_dst (N := 6) rfl ?_); refine box_event ?hg (N := 6) ?hd (cs := #[.string (⟨#[]⟩ : ByteArray), .string (⟨#[]⟩ : ByteArray)]) (t := 23) ?hr ?_; (case hd => rfl); (case hg => rfl); (case hr => first | (go_simp; done) | (go_simp; rfl)); intro gb130 hg w50 hbox hb; replace HO_123004 := Az.mk (Kd.V_below (Kd.V_elderB (Kd.V_ext HO_123004.out) gb130 (Nat.le_of_eq hg.symm)) hb); have BK130 := Az.mk (hbox); have GW130 := Az.mk (geO hg (pbE HB.out)); have GE130 := Az.mk (geO hg (pbE HB.out)); replace HB := Az.mk (pbT (by exact pbE HB.out) hb); have NB122_130 := Az.mk (neO hg (bk BK122.out)); have NB130_122 := Az.mk (neP hg (bk BK122.out)); replace BK122 := Az.mk (bkB (bk BK122.out) hb); have NB123_130 := Az.mk (neO hg (bk BK123.out)); have NB130_123 := Az.mk (neP hg (bk BK123.out)); replace BK123 := Az.mk (bkB (bk BK123.out) hb); have NB124_130 := Az.mk (neO hg (bk BK124.out)); have NB130_124 := Az.mk (neP hg (bk BK124.out)); replace BK124 := Az.mk (bkB (bk BK124.out) hb); clear hb hbox hg; have hnb51 := NB130_122.out; have hnc51 := NB122_130.out; have hnb52 := NB130_123.out; have hnc52 := NB123_130.out; have hnb53 := NB130_124.out; have hnc53 := NB124_130.out; have hcz54 := cells2 BK130.out) | ((with_reducible refine gate_store (t := 23) (p := 6) rfl ?_); refine store_event (t := 23) (p := 6) (v := ?vo_w55) (w1 := ((w50.setCell ⟨gb130, 0, none⟩ (.string t127)).setCell ⟨gb130, 1, none⟩ (.string t128))) ?hg ?ho ?hn ?hr ?_; (case ho => rfl); (case hg => rfl); (case hn => rfl); (case hr => first | (go_simp; done) | (go_simp; rfl)); intro w55 hw; have n0_ : Az (Kd.V k60 60 w55 w.heap.size (fun k_ => (P0_4_ k_ ∨ w.heap.size ≤ k_) ∧ k_ ≠ gb122 ∧ k_ ≠ gb123 ∧ k_ ≠ gb124 ∧ k_ ≠ gb130) (.slice A0_4 l0_4.length c0_4) l0_4) := ⟨(by rw [hw]; exact (by (with_reducible repeat (first | apply Kd.V_alloc | apply Kd.V_drewN | apply Kd.V_drew)); exact Kd.V_mono (Kd.V_off (g := gb130) (fun _ hk => hk.2) (Kd.V_mono HO_123004.out (fun k_ hk => (⟨hk, hk.2⟩ : _ ∧ k_ ≠ gb130)))) (fun _ hk => ⟨hk.1.1.1, ⟨hk.1.1.2.1, ⟨hk.1.1.2.2.1, ⟨hk.1.1.2.2.2, hk.1.2⟩⟩⟩⟩)))⟩; have n1_ : Az (w55.heap[gb122]? = some (.cells #[.int .i64 a0_0, .string a0_1, .string a0_2, .int .i64 a0_3, .slice A0_4 l0_4.length c0_4, .int .i64 a0_5] 26 (0, 0))) := ⟨(by rw [hw]; exact (bf BK122.out))⟩; have n2_ : Az (w55.heap[gb123]? = some (.cells #[.int .i64 a1_0, .string a1_1, .string a1_2, .int .i64 a1_3, .slice A1_4 l1_4.length c1_4, .int .i64 a1_5] 26 (0, 0))) := ⟨(by rw [hw]; exact (bf BK123.out))⟩; have n3_ : Az (w55.heap[gb124]? = some (.cells #[.int .i64 0, .string (⟨#[]⟩ : ByteArray), .string (⟨#[]⟩ : ByteArray), .int .i64 0, .slice none 0 0, .int .i64 0] 26 (0, 0))) := ⟨(by rw [hw]; exact (bf BK124.out))⟩; have n4_ : Az (w55.heap[gb130]? = some (.cells #[.string t127, .string t128] 23 (0, 0))) := ⟨(by rw [hw]; exact (by refine bk ?_; refine blk_put (cs := #[.string t127, .string (⟨#[]⟩ : ByteArray)]) ?_ 1 _ rfl; refine bk ?_; refine blk_put (cs := #[.string (⟨#[]⟩ : ByteArray), .string (⟨#[]⟩ : ByteArray)]) ?_ 0 _ rfl; refine bk ?_; exact BK130.out))⟩; have n5_ : Az (Below w.heap.size w w55) := ⟨(by rw [hw]; exact (by exact pbE HB.out))⟩; clear hw; clear HO_123004; clear BK122; clear BK123; clear BK124; clear BK130; clear HB; have HO_123004 := n0_; have BK122 := n1_; have BK123 := n2_; have BK124 := n3_; have BK130 := n4_; have HB := n5_; clear n0_ n1_ n2_ n3_ n4_ n5_; have hcz56 := cells6 BK122.out; have hcz57 := cells6 BK123.out; have hcz58 := cells2 BK130.out))
      go_region
      have n0_ := Az.mk (Kd.V_drew (Kd.V_far (p := ⟨gb122, 3, none⟩) (Kd.V_far (p := ⟨gb122, 2, none⟩) (Kd.V_far (p := ⟨gb122, 1, none⟩) HO_123004.out (fun _ hk => hk.2.1) (.string t127)) (fun _ hk => hk.2.1) (.string t128)) (fun _ hk => hk.2.1) (.int .i64 (wrap64 ((ji42) + 1)))))
      have n1_ := Az.mk (pb1 (pbS (pbS (pbS HB.out GE122.out (j := 1) (v := .string t127)) GE122.out (j := 2) (v := .string t128)) GE122.out (j := 3) (v := .int .i64 (wrap64 ((ji42) + 1)))))
      have m122_ : Az (((((w55.setCell ⟨gb122, 1, none⟩ (.string t127)).setCell ⟨gb122, 2, none⟩ (.string t128)).setCell ⟨gb122, 3, none⟩ (.int .i64 (wrap64 ((ji42) + 1)))).drew).heap[gb122]? = some (.cells #[.int .i64 a0_0, .string t127, .string t128, .int .i64 (wrap64 ((ji42) + 1)), .slice A0_4 l0_4.length c0_4, .int .i64 a0_5] 26 (0, 0))) := Az.mk (bkD (blk_put (blk_put (blk_put BK122.out 1 (.string t127) rfl) 2 (.string t128) rfl) 3 (.int .i64 (wrap64 ((ji42) + 1))) rfl))
      have m123_ := Az.mk (bkD (blk_far (p := ⟨gb122, 3, none⟩) (blk_far (p := ⟨gb122, 2, none⟩) (blk_far (p := ⟨gb122, 1, none⟩) BK123.out NB123_122.out (.string t127)) NB123_122.out (.string t128)) NB123_122.out (.int .i64 (wrap64 ((ji42) + 1)))))
      have m124_ := Az.mk (bkD (blk_far (p := ⟨gb122, 3, none⟩) (blk_far (p := ⟨gb122, 2, none⟩) (blk_far (p := ⟨gb122, 1, none⟩) BK124.out NB124_122.out (.string t127)) NB124_122.out (.string t128)) NB124_122.out (.int .i64 (wrap64 ((ji42) + 1)))))
      have m130_ := Az.mk (bkD (blk_far (p := ⟨gb122, 3, none⟩) (blk_far (p := ⟨gb122, 2, none⟩) (blk_far (p := ⟨gb122, 1, none⟩) BK130.out NB130_122.out (.string t127)) NB130_122.out (.string t128)) NB130_122.out (.int .i64 (wrap64 ((ji42) + 1)))))
      clear HO_123004 HB BK122 BK123 BK124 BK130
      generalize (((w55.setCell ⟨gb122, 1, none⟩ (.string t127)).setCell ⟨gb122, 2, none⟩ (.string t128)).setCell ⟨gb122, 3, none⟩ (.int .i64 (wrap64 ((ji42) + 1)))).drew = wq_ at n0_ n1_ m122_ m123_ m124_ m130_ ⊢
      have HO_123004 := n0_
      have HB := n1_
      have BK122 := m122_
      have BK123 := m123_
      have BK124 := m124_
      have BK130 := m130_
      clear n0_ n1_ m122_ m123_ m124_ m130_
      have hczq_0 : wq_.cell? ⟨gb122, 0, none⟩ = some (.int .i64 a0_0) := (bkC BK122.out 0).trans rfl
      have hczq_1 : wq_.cell? ⟨gb122, 1, none⟩ = some (.string t127) := (bkC BK122.out 1).trans rfl
      have hczq_2 : wq_.cell? ⟨gb122, 2, none⟩ = some (.string t128) := (bkC BK122.out 2).trans rfl
      have hczq_3 : wq_.cell? ⟨gb122, 3, none⟩ = some (.int .i64 (wrap64 ((ji42) + 1))) := (bkC BK122.out 3).trans rfl
      have hczq_4 : wq_.cell? ⟨gb122, 4, none⟩ = some (.slice A0_4 l0_4.length c0_4) := (bkC BK122.out 4).trans rfl
      have hczq_5 : wq_.cell? ⟨gb122, 5, none⟩ = some (.int .i64 a0_5) := (bkC BK122.out 5).trans rfl
      go_wp2_with ((with_reducible refine gtc (f := 37) rfl ?_); refine goesL_ (some 47) rfl rfl Tryd.func37 (by kernel_rfl) rfl #[.agg #[.int .i64 a0_0, .string t127, .string t128, .int .i64 (wrap64 ((ji42) + 1)), .slice A0_4 l0_4.length c0_4, .int .i64 a0_5]] rfl (by (try simp only [List.map_toArray, List.map_cons, List.map_nil]); first | done | (simp only [hji42]; rfl) | rfl | (simp only [List.length_drop, List.length_take]; rfl)) ?_; (with_reducible refine (desc_right.calls a0_0 t127 t128 (wrap64 ((ji42) + 1)) (fun k_ => ((P0_4_ k_ ∨ w.heap.size ≤ k_) ∧ (k_ ≠ gb122 ∧ (k_ ≠ gb123 ∧ (k_ ≠ gb124 ∧ k_ ≠ gb130))))) _ _ l0_4 a0_5 t131 t132 t133 t134 t135 t138 t139 _ ?side1 ?side2 A43.out).mono ?_); (case side1 => exact hG.below (by exact pbE HB.out)); (case side2 => exact HO_123004.out); rintro e w63 ⟨v136, rfl, ho0, hb⟩; refine ⟨_, rfl, ?_⟩; replace HO_123004 := Az.mk (Kd.V_below (Kd.V_ext HO_123004.out) hb); have HO137 := Az.mk (Kd.V_lower (Kd.V_mono (ok' := fun k_ => (P0_4_ k_ ∨ w.heap.size ≤ k_) ∧ k_ ≠ gb122 ∧ k_ ≠ gb123 ∧ k_ ≠ gb124 ∧ k_ ≠ gb130) ho0 (fun k_ hk_ => ⟨Or.elim hk_ (fun hs_ => hs_.1) (fun hn_ => (.inr (Nat.le_trans (pbZ (by exact pbE HB.out)) hn_))), Or.elim hk_ (fun hs_ => hs_.2.1) (fun hn_ => (Kd.freshB (bk BK122.out) k_ hn_)), Or.elim hk_ (fun hs_ => hs_.2.2.1) (fun hn_ => (Kd.freshB (bk BK123.out) k_ hn_)), Or.elim hk_ (fun hs_ => hs_.2.2.2.1) (fun hn_ => (Kd.freshB (bk BK124.out) k_ hn_)), Or.elim hk_ (fun hs_ => hs_.2.2.2.2) (fun hn_ => (Kd.freshB (bk BK130.out) k_ hn_))⟩)) (pbZ (by exact pbE HB.out))); replace BK122 := Az.mk (bkB (bk BK122.out) hb); replace BK123 := Az.mk (bkB (bk BK123.out) hb); replace BK124 := Az.mk (bkB (bk BK124.out) hb); replace BK130 := Az.mk (bkB (bk BK130.out) hb); replace HB := Az.mk (pbT (by exact pbE HB.out) hb); (try clear hb); (try clear hb2); (try clear hk); (try clear hi); (try clear ho0); have hcz64 := cells6 BK124.out; obtain ⟨Ao65, co65, eo65⟩ := Kd.V_slice HO137.out; subst eo65)
      refine bodyPost_ret (results_ct rfl _ _ gb124 26 #[.int .i64 t131, .string t132, .string t133, .int .i64 t134, .slice Ao65 t135.length co65, .int .i64 t138] (0, 0) _ rfl (by refine bk ?_; refine blk_put (cs := #[.int .i64 t131, .string t132, .string t133, .int .i64 t134, .slice Ao65 t135.length co65, .int .i64 0]) ?_ 5 _ rfl; refine bk ?_; refine blk_put (cs := #[.int .i64 t131, .string t132, .string t133, .int .i64 t134, .slice none 0 0, .int .i64 0]) ?_ 4 _ rfl; refine bk ?_; refine blk_put (cs := #[.int .i64 t131, .string t132, .string t133, .int .i64 0, .slice none 0 0, .int .i64 0]) ?_ 3 _ rfl; refine bk ?_; refine blk_put (cs := #[.int .i64 t131, .string t132, .string (⟨#[]⟩ : ByteArray), .int .i64 0, .slice none 0 0, .int .i64 0]) ?_ 2 _ rfl; refine bk ?_; refine blk_put (cs := #[.int .i64 t131, .string (⟨#[]⟩ : ByteArray), .string (⟨#[]⟩ : ByteArray), .int .i64 0, .slice none 0 0, .int .i64 0]) ?_ 1 _ rfl; refine bk ?_; refine blk_put (cs := #[.int .i64 0, .string (⟨#[]⟩ : ByteArray), .string (⟨#[]⟩ : ByteArray), .int .i64 0, .slice none 0 0, .int .i64 0]) ?_ 0 _ rfl; refine bk ?_; exact BK124.out) Tryd.underlying26 rfl (by kernel_rfl)) rfl ?_
      exact ⟨_, by first | rfl | (simp [errW_none, errW_some] <;> rfl) | (simp only [← hji42]; first | rfl | (simp [errW_none, errW_some] <;> rfl)) | (simp [*, errW_none, errW_some] <;> rfl), by (with_reducible repeat (first | apply Kd.V_alloc | apply Kd.V_drewN | apply Kd.V_drew)); exact Kd.V_mono (Kd.V_off (g := gb124) (fun _ hk => hk.2) (Kd.V_mono HO137.out (fun k_ hk => (⟨hk, hk.2.2.2.1⟩ : _ ∧ k_ ≠ gb124)))) (fun _ hk => hk.1.1), by exact pbE HB.out⟩
    ·rw [if_neg c26] at H
     have c26b0 : (t129 == 0) = false := beq_eq_false_iff_ne.mpr c26
     have c26b1 : (t129 != 0) = true := bne_iff_ne.mpr c26
     simp only [Option.some.injEq, Prod.mk.injEq] at H
     obtain ⟨rfl, rfl, rfl, rfl, rfl, rfl, rfl⟩ := H
     have hnb66 := NB122_123.out
     have hnc66 := NB123_122.out
     have hnb67 := NB122_124.out
     have hnc67 := NB124_122.out
     have hcz68 := cells6 BK122.out
     have hnb69 := NB123_124.out
     have hnc69 := NB124_123.out
     have hcz70 := cells6 BK123.out
     go_wp2_with (first | ((with_reducible refine gtc (f := 36) rfl ?_); refine goesL_ (some 22) rfl rfl Tryd.func36 (by kernel_rfl) rfl #[.agg #[.string a0_1, .string a0_2], .agg #[.string a1_1, .string a1_2]] rfl (by (try simp only [List.map_toArray, List.map_cons, List.map_nil]); first | done | rfl | (simp only [List.length_drop, List.length_take]; rfl)) ?_; (with_reducible refine (bound_Join.calls a0_1 a0_2 a1_1 a1_2 t127 t128 t129 _ ?side1 A25.out).mono ?_); (case side1 => exact hG.below (by exact pbE HB.out)); rintro e w71 ⟨rfl, hb⟩; refine ⟨_, rfl, ?_⟩; replace HO_123004 := Az.mk (Kd.V_below (Kd.V_ext HO_123004.out) hb); replace BK122 := Az.mk (bkB (bk BK122.out) hb); replace BK123 := Az.mk (bkB (bk BK123.out) hb); replace BK124 := Az.mk (bkB (bk BK124.out) hb); replace HB := Az.mk (pbT (by exact pbE HB.out) hb); (try clear hb); (try clear hb2); (try clear hk); (try clear hi)) | ((with_reducible refine gate_dst (N := 6) rfl ?_); refine box_event ?hg (N := 6) ?hd (cs := #[.string (⟨#[]⟩ : ByteArray), .string (⟨#[]⟩ : ByteArray)]) (t := 23) ?hr ?_; (case hd => rfl); (case hg => rfl); (case hr => first | (go_simp; done) | (go_simp; rfl)); intro gb130 hg w72 hbox hb; replace HO_123004 := Az.mk (Kd.V_below (Kd.V_elderB (Kd.V_ext HO_123004.out) gb130 (Nat.le_of_eq hg.symm)) hb); have BK130 := Az.mk (hbox); have GW130 := Az.mk (geO hg (pbE HB.out)); have GE130 := Az.mk (geO hg (pbE HB.out)); replace HB := Az.mk (pbT (by exact pbE HB.out) hb); have NB122_130 := Az.mk (neO hg (bk BK122.out)); have NB130_122 := Az.mk (neP hg (bk BK122.out)); replace BK122 := Az.mk (bkB (bk BK122.out) hb); have NB123_130 := Az.mk (neO hg (bk BK123.out)); have NB130_123 := Az.mk (neP hg (bk BK123.out)); replace BK123 := Az.mk (bkB (bk BK123.out) hb); have NB124_130 := Az.mk (neO hg (bk BK124.out)); have NB130_124 := Az.mk (neP hg (bk BK124.out)); replace BK124 := Az.mk (bkB (bk BK124.out) hb); clear hb hbox hg; have hnb73 := NB130_122.out; have hnc73 := NB122_130.out; have hnb74 := NB130_123.out; have hnc74 := NB123_130.out; have hnb75 := NB130_124.out; have hnc75 := NB124_130.out; have hcz76 := cells2 BK130.out; have hcz77 := cells6 BK124.out))
     repeat (go_region; try go_wp2_with (fail))
     refine bodyPost_ret (results_ct rfl _ _ gb124 26 #[.int .i64 0, .string (⟨#[]⟩ : ByteArray), .string (⟨#[]⟩ : ByteArray), .int .i64 0, .slice none 0 0, .int .i64 0] (0, 0) _ rfl (by refine bk ?_; refine blk_put (cs := #[.int .i64 0, .string (⟨#[]⟩ : ByteArray), .string (⟨#[]⟩ : ByteArray), .int .i64 0, .slice none 0 0, .int .i64 0]) ?_ 5 _ rfl; refine bk ?_; refine blk_put (cs := #[.int .i64 0, .string (⟨#[]⟩ : ByteArray), .string (⟨#[]⟩ : ByteArray), .int .i64 0, .slice none 0 0, .int .i64 0]) ?_ 4 _ rfl; refine bk ?_; refine blk_put (cs := #[.int .i64 0, .string (⟨#[]⟩ : ByteArray), .string (⟨#[]⟩ : ByteArray), .int .i64 0, .slice none 0 0, .int .i64 0]) ?_ 3 _ rfl; refine bk ?_; refine blk_put (cs := #[.int .i64 0, .string (⟨#[]⟩ : ByteArray), .string (⟨#[]⟩ : ByteArray), .int .i64 0, .slice none 0 0, .int .i64 0]) ?_ 2 _ rfl; refine bk ?_; refine blk_put (cs := #[.int .i64 0, .string (⟨#[]⟩ : ByteArray), .string (⟨#[]⟩ : ByteArray), .int .i64 0, .slice none 0 0, .int .i64 0]) ?_ 1 _ rfl; refine bk ?_; refine blk_put (cs := #[.int .i64 0, .string (⟨#[]⟩ : ByteArray), .string (⟨#[]⟩ : ByteArray), .int .i64 0, .slice none 0 0, .int .i64 0]) ?_ 0 _ rfl; exact bf BK124.out) Tryd.underlying26 rfl (by kernel_rfl)) rfl ?_
     exact ⟨_, by first | rfl | (simp [errW_none, errW_some] <;> rfl) | (simp [*, errW_none, errW_some] <;> rfl), Kd.V_nil _ _ _ _ _, by exact pbE HB.out⟩
end Go.Proofs.YtjfhcijjjadhbaaDoor.P
end
section
namespace Go.Proofs.YtjfhcijjjadhbaaDoor.P
open Go.RowKit Go.Proofs.YtjfhcijjjadhbaaDoor.K Go.Proofs.YtjfhcijjjadhbaaDoorW.PrintWords Go.Proofs.YtjfhcijjjadhbaaDoorW.PrintLast Go.Proofs.YtjfhcijjjadhbaaDoorW.PrintMore
attribute [local go_sem] max2_int min2_int max_two min_two max_three min_three max_four min_four   -- for this text's walks alone
attribute [local go_sem high] eqA23
def r06_Same.f (k : Nat) (a0_0 : Int) (a0_1 : ByteArray) (a0_2 : ByteArray) (a0_3 : Int) (l0_4 : List (S60)) (a0_5 : Int) (a1_0 : Int) (a1_1 : ByteArray) (a1_2 : ByteArray) (a1_3 : Int) (l1_4 : List (S60)) (a1_5 : Int) : Option (Bool) := if a0_0 = a1_0 then (if (a0_1.toList == a1_1.toList && (a0_2.toList == a1_2.toList)) = true then (if a0_3 = a1_3 then (if a0_5 = a1_5 then ((r06_Members.f k l0_4 l1_4).bind fun t144 => (some t144)) else (some false)) else (some false)) else (some false)) else (some false)
theorem r06_Same.mono : ∀ a0 a1 a2 a3 a4 a5 a6 a7 a8 a9 a10 a11 k, LeO (r06_Same.f k a0 a1 a2 a3 a4 a5 a6 a7 a8 a9 a10 a11) (r06_Same.f (k + 1) a0 a1 a2 a3 a4 a5 a6 a7 a8 a9 a10 a11) := by
 intro a0 a1 a2 a3 a4 a5 a6 a7 a8 a9 a10 a11 k
 unfold r06_Same.f
 repeat' first
  | (with_reducible exact r06_Members.mono _ _ _)
  | (with_reducible exact LeO.refl _)
  | (with_reducible exact LeO.none _)
  | (with_reducible refine LeO.ite ?_ ?_)
  | (with_reducible refine LeO.bind ?_ (fun _ => ?_))
  | exact r06_Members.mono _ _ _
  | exact LeO.none _
  | refine LeO.ite ?_ ?_
  | refine LeO.bind ?_ (fun _ => ?_)
set_option maxHeartbeats 8000000 in
set_option maxRecDepth 100000 in
theorem r06_Same.calls (k : Nat) (a0_0 : Int) (a0_1 : ByteArray) (a0_2 : ByteArray) (a0_3 : Int) (A0_4 : Option Addr) (c0_4 : Nat) (l0_4 : List (S60)) (a0_5 : Int) (a1_0 : Int) (a1_1 : ByteArray) (a1_2 : ByteArray) (a1_3 : Int) (A1_4 : Option Addr) (c1_4 : Nat) (l1_4 : List (S60)) (a1_5 : Int) (r : Bool) (w : World) (hG : TheG w) (hr0_4 : Kd.C k60 w A0_4 l0_4.length l0_4) (hc0_4 : l0_4.length ≤ c0_4) (hr1_4 : Kd.C k60 w A1_4 l1_4.length l1_4) (hc1_4 : l1_4.length ≤ c1_4) (h : r06_Same.f k a0_0 a0_1 a0_2 a0_3 l0_4 a0_5 a1_0 a1_1 a1_2 a1_3 l1_4 a1_5 = some r) :
 Calls Tryd.prog 16 #[.agg #[.int .i64 a0_0, .string a0_1, .string a0_2, .int .i64 a0_3, .slice A0_4 l0_4.length c0_4, .int .i64 a0_5], .agg #[.int .i64 a1_0, .string a1_1, .string a1_2, .int .i64 a1_3, .slice A1_4 l1_4.length c1_4, .int .i64 a1_5]] w fun e w' => e = .returned (.bool r) ∧ Below w.heap.size w w' := by
 have hu26 := Tryd.underlying26
 have hu23 := Tryd.underlying23
 have HR0_4 := Az.mk hr0_4
 have HC0_4 := Az.mk hc0_4
 clear hr0_4 hc0_4
 have HR1_4 := Az.mk hr1_4
 have HC1_4 := Az.mk hc1_4
 clear hr1_4 hc1_4
 have HB := Az.mk (Below.refl w.heap.size w)
 have H : (if a0_0 = a1_0 then (if (a0_1.toList == a1_1.toList && (a0_2.toList == a1_2.toList)) = true then (if a0_3 = a1_3 then (if a0_5 = a1_5 then ((r06_Members.f k l0_4 l1_4).bind fun t144 => (some t144)) else (some false)) else (some false)) else (some false)) else (some false)) = some r := h
 clear h
 by_cases c3 : a0_0 = a1_0
 ·rw [if_pos c3] at H
  have c3b0 : (a0_0 == a1_0) = true := beq_iff_eq.mpr c3
  have c3b1 : (a0_0 != a1_0) = false := bne_eq_false_iff_eq.mpr c3
  clear c3
  by_cases c4 : (a0_1.toList == a1_1.toList && (a0_2.toList == a1_2.toList)) = true
  ·rw [if_pos c4] at H
   have c4b0 : (a0_1.toList == a1_1.toList && (a0_2.toList == a1_2.toList)) = true := c4
   (try (have c4b1 : decide (a0_1.toList = a1_1.toList && (a0_2.toList == a1_2.toList)) = true := by simpa using c4))
   (try (have c4b2 : (a0_1.toList == a1_1.toList && (a0_2.toList == a1_2.toList)) = true := by simpa using c4))
   clear c4
   by_cases c5 : a0_3 = a1_3
   ·rw [if_pos c5] at H
    have c5b0 : (a0_3 == a1_3) = true := beq_iff_eq.mpr c5
    have c5b1 : (a0_3 != a1_3) = false := bne_eq_false_iff_eq.mpr c5
    clear c5
    by_cases c6 : a0_5 = a1_5
    ·rw [if_pos c6] at H
     have c6b0 : (a0_5 == a1_5) = true := beq_iff_eq.mpr c6
     have c6b1 : (a0_5 != a1_5) = false := bne_eq_false_iff_eq.mpr c6
     clear c6
     replace H := Option.bind_eq_some_iff.mp H
     obtain ⟨t144, A70, H⟩ := H
     replace H : (some t144) = some r := H
     have A7 := Az.mk A70
     clear A70
     obtain rfl := Option.some.inj H
     go_enter Tryd.func16, Tryd.ntmps16
     go_wp2_with (first | ((with_reducible refine gate_dst (N := 2) rfl ?_); refine box_event ?hg (N := 2) ?hd (cs := #[.int .i64 a0_0, .string a0_1, .string a0_2, .int .i64 a0_3, .slice A0_4 l0_4.length c0_4, .int .i64 a0_5]) (t := 26) ?hr ?_; (case hd => rfl); (case hg => rfl); (case hr => first | (go_simp; done) | (go_simp; rfl)); intro gb142 hg w8 hbox hb; have BK142 := Az.mk (hbox); have GW142 := Az.mk (geO hg (pbE HB.out)); have GE142 := Az.mk (geO hg (pbE HB.out)); replace HB := Az.mk (pbT (by exact pbE HB.out) hb); clear hb hbox hg) | ((with_reducible refine gate_dst (N := 3) rfl ?_); refine box_event ?hg (N := 3) ?hd (cs := #[.int .i64 a1_0, .string a1_1, .string a1_2, .int .i64 a1_3, .slice A1_4 l1_4.length c1_4, .int .i64 a1_5]) (t := 26) ?hr ?_; (case hd => rfl); (case hg => rfl); (case hr => first | (go_simp; done) | (go_simp; rfl)); intro gb143 hg w9 hbox hb; have BK143 := Az.mk (hbox); have GW143 := Az.mk (geO hg (pbE HB.out)); have GE143 := Az.mk (geO hg (pbE HB.out)); replace HB := Az.mk (pbT (by exact pbE HB.out) hb); have NB142_143 := Az.mk (neO hg (bk BK142.out)); have NB143_142 := Az.mk (neP hg (bk BK142.out)); replace BK142 := Az.mk (bkB (bk BK142.out) hb); clear hb hbox hg; have hnb10 := NB142_143.out; have hnc10 := NB143_142.out; have hcz11 := cells6 BK142.out; have hcz12 := cells6 BK143.out) | (go_at_call 31; (with_reducible refine (r06_Members.calls k _ _ l0_4 _ _ l1_4 t144 _ ?side1 ?side2 ?side3 ?side4 ?side5 A7.out).mono ?_); (case side1 => exact hG.below (by exact pbE HB.out)); (case side2 => repeat (first | exact (Kd.C_below HR0_4.out HB.out) | (with_reducible refine Kd.C_alloc ?_ _) | (with_reducible refine Kd.C_drewN ?_ _) | (with_reducible refine Kd.C_drew ?_))); (case side3 => exact HC0_4.out); (case side4 => repeat (first | exact (Kd.C_below HR1_4.out HB.out) | (with_reducible refine Kd.C_alloc ?_ _) | (with_reducible refine Kd.C_drewN ?_ _) | (with_reducible refine Kd.C_drew ?_))); (case side5 => exact HC1_4.out); rintro e w' ⟨rfl, ⟨nd, rfl⟩⟩))
     go_ret
     exact ⟨by first | rfl | (simp [errW_none, errW_some] <;> rfl) | (simp [*, errW_none, errW_some] <;> rfl), by exact pbE HB.out⟩
    ·rw [if_neg c6] at H
     have c6b0 : (a0_5 == a1_5) = false := beq_eq_false_iff_ne.mpr c6
     have c6b1 : (a0_5 != a1_5) = true := bne_iff_ne.mpr c6
     obtain rfl := Option.some.inj H
     go_enter Tryd.func16, Tryd.ntmps16
     go_wp2_with (first | ((with_reducible refine gate_dst (N := 2) rfl ?_); refine box_event ?hg (N := 2) ?hd (cs := #[.int .i64 a0_0, .string a0_1, .string a0_2, .int .i64 a0_3, .slice A0_4 l0_4.length c0_4, .int .i64 a0_5]) (t := 26) ?hr ?_; (case hd => rfl); (case hg => rfl); (case hr => first | (go_simp; done) | (go_simp; rfl)); intro gb142 hg w13 hbox hb; have BK142 := Az.mk (hbox); have GW142 := Az.mk (geO hg (pbE HB.out)); have GE142 := Az.mk (geO hg (pbE HB.out)); replace HB := Az.mk (pbT (by exact pbE HB.out) hb); clear hb hbox hg) | ((with_reducible refine gate_dst (N := 3) rfl ?_); refine box_event ?hg (N := 3) ?hd (cs := #[.int .i64 a1_0, .string a1_1, .string a1_2, .int .i64 a1_3, .slice A1_4 l1_4.length c1_4, .int .i64 a1_5]) (t := 26) ?hr ?_; (case hd => rfl); (case hg => rfl); (case hr => first | (go_simp; done) | (go_simp; rfl)); intro gb143 hg w14 hbox hb; have BK143 := Az.mk (hbox); have GW143 := Az.mk (geO hg (pbE HB.out)); have GE143 := Az.mk (geO hg (pbE HB.out)); replace HB := Az.mk (pbT (by exact pbE HB.out) hb); have NB142_143 := Az.mk (neO hg (bk BK142.out)); have NB143_142 := Az.mk (neP hg (bk BK142.out)); replace BK142 := Az.mk (bkB (bk BK142.out) hb); clear hb hbox hg; have hnb15 := NB142_143.out; have hnc15 := NB143_142.out; have hcz16 := cells6 BK142.out; have hcz17 := cells6 BK143.out))
     go_ret
     exact ⟨by first | rfl | (simp [errW_none, errW_some] <;> rfl) | (simp [*, errW_none, errW_some] <;> rfl), by exact pbE HB.out⟩
   ·rw [if_neg c5] at H
    have c5b0 : (a0_3 == a1_3) = false := beq_eq_false_iff_ne.mpr c5
    have c5b1 : (a0_3 != a1_3) = true := bne_iff_ne.mpr c5
    obtain rfl := Option.some.inj H
    go_enter Tryd.func16, Tryd.ntmps16
    go_wp2_with (first | ((with_reducible refine gate_dst (N := 2) rfl ?_); refine box_event ?hg (N := 2) ?hd (cs := #[.int .i64 a0_0, .string a0_1, .string a0_2, .int .i64 a0_3, .slice A0_4 l0_4.length c0_4, .int .i64 a0_5]) (t := 26) ?hr ?_; (case hd => rfl); (case hg => rfl); (case hr => first | (go_simp; done) | (go_simp; rfl)); intro gb142 hg w18 hbox hb; have BK142 := Az.mk (hbox); have GW142 := Az.mk (geO hg (pbE HB.out)); have GE142 := Az.mk (geO hg (pbE HB.out)); replace HB := Az.mk (pbT (by exact pbE HB.out) hb); clear hb hbox hg) | ((with_reducible refine gate_dst (N := 3) rfl ?_); refine box_event ?hg (N := 3) ?hd (cs := #[.int .i64 a1_0, .string a1_1, .string a1_2, .int .i64 a1_3, .slice A1_4 l1_4.length c1_4, .int .i64 a1_5]) (t := 26) ?hr ?_; (case hd => rfl); (case hg => rfl); (case hr => first | (go_simp; done) | (go_simp; rfl)); intro gb143 hg w19 hbox hb; have BK143 := Az.mk (hbox); have GW143 := Az.mk (geO hg (pbE HB.out)); have GE143 := Az.mk (geO hg (pbE HB.out)); replace HB := Az.mk (pbT (by exact pbE HB.out) hb); have NB142_143 := Az.mk (neO hg (bk BK142.out)); have NB143_142 := Az.mk (neP hg (bk BK142.out)); replace BK142 := Az.mk (bkB (bk BK142.out) hb); clear hb hbox hg; have hnb20 := NB142_143.out; have hnc20 := NB143_142.out; have hcz21 := cells6 BK142.out; have hcz22 := cells6 BK143.out))
    go_ret
    exact ⟨by first | rfl | (simp [errW_none, errW_some] <;> rfl) | (simp [*, errW_none, errW_some] <;> rfl), by exact pbE HB.out⟩
  ·rw [if_neg c4] at H
   have c4b0 : (a0_1.toList == a1_1.toList && (a0_2.toList == a1_2.toList)) = false := by simpa using c4
   (try (have c4b1 : decide (a0_1.toList = a1_1.toList && (a0_2.toList == a1_2.toList)) = false := by simpa using c4))
   (try (have c4b2 : (a0_1.toList == a1_1.toList && (a0_2.toList == a1_2.toList)) = false := by simpa using c4))
   (try (have c4b3 : ¬ (a0_1.toList = a1_1.toList && (a0_2.toList == a1_2.toList)) := by simpa using c4))
   clear c4
   obtain rfl := Option.some.inj H
   go_enter Tryd.func16, Tryd.ntmps16
   go_wp2_with (first | ((with_reducible refine gate_dst (N := 2) rfl ?_); refine box_event ?hg (N := 2) ?hd (cs := #[.int .i64 a0_0, .string a0_1, .string a0_2, .int .i64 a0_3, .slice A0_4 l0_4.length c0_4, .int .i64 a0_5]) (t := 26) ?hr ?_; (case hd => rfl); (case hg => rfl); (case hr => first | (go_simp; done) | (go_simp; rfl)); intro gb142 hg w23 hbox hb; have BK142 := Az.mk (hbox); have GW142 := Az.mk (geO hg (pbE HB.out)); have GE142 := Az.mk (geO hg (pbE HB.out)); replace HB := Az.mk (pbT (by exact pbE HB.out) hb); clear hb hbox hg) | ((with_reducible refine gate_dst (N := 3) rfl ?_); refine box_event ?hg (N := 3) ?hd (cs := #[.int .i64 a1_0, .string a1_1, .string a1_2, .int .i64 a1_3, .slice A1_4 l1_4.length c1_4, .int .i64 a1_5]) (t := 26) ?hr ?_; (case hd => rfl); (case hg => rfl); (case hr => first | (go_simp; done) | (go_simp; rfl)); intro gb143 hg w24 hbox hb; have BK143 := Az.mk (hbox); have GW143 := Az.mk (geO hg (pbE HB.out)); have GE143 := Az.mk (geO hg (pbE HB.out)); replace HB := Az.mk (pbT (by exact pbE HB.out) hb); have NB142_143 := Az.mk (neO hg (bk BK142.out)); have NB143_142 := Az.mk (neP hg (bk BK142.out)); replace BK142 := Az.mk (bkB (bk BK142.out) hb); clear hb hbox hg; have hnb25 := NB142_143.out; have hnc25 := NB143_142.out; have hcz26 := cells6 BK142.out; have hcz27 := cells6 BK143.out))
   go_ret
   exact ⟨by first | rfl | (simp [errW_none, errW_some] <;> rfl) | (simp [*, errW_none, errW_some] <;> rfl), by exact pbE HB.out⟩
 ·rw [if_neg c3] at H
  have c3b0 : (a0_0 == a1_0) = false := beq_eq_false_iff_ne.mpr c3
  have c3b1 : (a0_0 != a1_0) = true := bne_iff_ne.mpr c3
  obtain rfl := Option.some.inj H
  go_enter Tryd.func16, Tryd.ntmps16
  go_wp2_with (first | ((with_reducible refine gate_dst (N := 2) rfl ?_); refine box_event ?hg (N := 2) ?hd (cs := #[.int .i64 a0_0, .string a0_1, .string a0_2, .int .i64 a0_3, .slice A0_4 l0_4.length c0_4, .int .i64 a0_5]) (t := 26) ?hr ?_; (case hd => rfl); (case hg => rfl); (case hr => first | (go_simp; done) | (go_simp; rfl)); intro gb142 hg w28 hbox hb; have BK142 := Az.mk (hbox); have GW142 := Az.mk (geO hg (pbE HB.out)); have GE142 := Az.mk (geO hg (pbE HB.out)); replace HB := Az.mk (pbT (by exact pbE HB.out) hb); clear hb hbox hg) | ((with_reducible refine gate_dst (N := 3) rfl ?_); refine box_event ?hg (N := 3) ?hd (cs := #[.int .i64 a1_0, .string a1_1, .string a1_2, .int .i64 a1_3, .slice A1_4 l1_4.length c1_4, .int .i64 a1_5]) (t := 26) ?hr ?_; (case hd => rfl); (case hg => rfl); (case hr => first | (go_simp; done) | (go_simp; rfl)); intro gb143 hg w29 hbox hb; have BK143 := Az.mk (hbox); have GW143 := Az.mk (geO hg (pbE HB.out)); have GE143 := Az.mk (geO hg (pbE HB.out)); replace HB := Az.mk (pbT (by exact pbE HB.out) hb); have NB142_143 := Az.mk (neO hg (bk BK142.out)); have NB143_142 := Az.mk (neP hg (bk BK142.out)); replace BK142 := Az.mk (bkB (bk BK142.out) hb); clear hb hbox hg; have hnb30 := NB142_143.out; have hnc30 := NB143_142.out; have hcz31 := cells6 BK142.out; have hcz32 := cells6 BK143.out))
  go_ret
  exact ⟨by first | rfl | (simp [errW_none, errW_some] <;> rfl) | (simp [*, errW_none, errW_some] <;> rfl), by exact pbE HB.out⟩
end Go.Proofs.YtjfhcijjjadhbaaDoor.P
end
section
namespace Go.Proofs.YtjfhcijjjadhbaaDoor.P
open Go.RowKit Go.Proofs.YtjfhcijjjadhbaaDoor.K Go.Proofs.YtjfhcijjjadhbaaDoorW.PrintWords Go.Proofs.YtjfhcijjjadhbaaDoorW.PrintLast Go.Proofs.YtjfhcijjjadhbaaDoorW.PrintMore
attribute [local go_sem] max2_int min2_int max_two min_two max_three min_three max_four min_four   -- for this text's walks alone
def desc_Quorum.f (a0 : Int) : Option (Int) := some (wrap64 ((wrap64 (Int.tdiv a0 2)) + 1))
set_option maxHeartbeats 8000000 in
set_option maxRecDepth 100000 in
theorem desc_Quorum.calls (a0 : Int) (r : Int) (w : World) (hG : TheG w) (h : desc_Quorum.f a0 = some r) :
 Calls Tryd.prog 18 #[.int .i64 a0] w fun e w' => e = .returned (.int .i64 r) ∧ Drawn0 w w' := by
 have H : (some (wrap64 ((wrap64 (Int.tdiv a0 2)) + 1))) = some r := h
 clear h
 obtain rfl := Option.some.inj H
 go_enter Tryd.func18, Tryd.ntmps18
 go_wp2
 go_ret
 exact ⟨by first | rfl | (simp; done) | (simp [*]; done), by repeat (first | exact Drawn0.refl _ | apply Drawn0.step)⟩
def desc_First.l0 : Nat → List Int → Int → Int → Int → ByteArray → ByteArray → Int → List (S60) → Int → Option (Int × ByteArray × ByteArray × Int × (List (S60)) × Int × Int)
 | 0, _, _, _, _, _, _, _, _, _ => none
 | k + 1, x8, x9, x10, x220000, x220001, x220002, x220003, x220004, x220005 => if x10 < x9 then (if 0 ≤ x10 then (if x10 < (x8.length : Int) then (if x220004.length < 8796093022208 then (desc_First.l0 k x8 x9 (wrap64 (x10 + 1)) x220000 x220001 x220002 x220003 (x220004 ++ [(⟨rd x8 x10, x220005⟩ : S60)]) (wrap64 (x220005 + 1))) else (none)) else (none)) else (none)) else ((desc_right.f x220000 x220001 x220002 x220003 x220004 x220005).bind fun bt224 => (some (bt224.1, bt224.2.1, bt224.2.2.1, bt224.2.2.2.1, bt224.2.2.2.2.1, bt224.2.2.2.2.2.1, bt224.2.2.2.2.2.2)))
def desc_First.f (k : Nat) (l0 : List Int) : Option (Int × ByteArray × ByteArray × Int × (List (S60)) × Int × Int) := desc_First.l0 k l0 (l0.length : Int) 0 1 (⟨#[]⟩ : ByteArray) (⟨#[]⟩ : ByteArray) 1 ([] : List (S60)) 1
theorem desc_First.mono_l : ∀ k, (∀ y0 y1 y2 y3 y4 y5 y6 y7 y8, LeO (desc_First.l0 k y0 y1 y2 y3 y4 y5 y6 y7 y8) (desc_First.l0 (k + 1) y0 y1 y2 y3 y4 y5 y6 y7 y8))
 | 0 => fun _ _ _ _ _ _ _ _ _ r h => by simp [desc_First.l0] at h
 | k + 1 => by
  have ih0 := desc_First.mono_l k
  ·intro y0 y1 y2 y3 y4 y5 y6 y7 y8
   unfold desc_First.l0
   repeat' first
   | (with_reducible exact ih0 _ _ _ _ _ _ _ _ _)
   | (with_reducible exact LeO.refl _)
   | (with_reducible exact LeO.none _)
   | (with_reducible refine LeO.ite ?_ ?_)
   | (with_reducible refine LeO.bind ?_ (fun _ => ?_))
   | exact ih0 _ _ _ _ _ _ _ _ _
   | exact LeO.none _
   | refine LeO.ite ?_ ?_
   | refine LeO.bind ?_ (fun _ => ?_)
theorem desc_First.mono : ∀ a0 k, LeO (desc_First.f k a0) (desc_First.f (k + 1) a0) := by
 intro a0 k
 have ih0 := desc_First.mono_l k
 unfold desc_First.f
 repeat' first
  | (with_reducible exact ih0 _ _ _ _ _ _ _ _ _)
  | (with_reducible exact LeO.refl _)
  | (with_reducible exact LeO.none _)
  | (with_reducible refine LeO.ite ?_ ?_)
  | (with_reducible refine LeO.bind ?_ (fun _ => ?_))
  | exact ih0 _ _ _ _ _ _ _ _ _
  | exact LeO.none _
  | refine LeO.ite ?_ ?_
  | refine LeO.bind ?_ (fun _ => ?_)
set_option maxHeartbeats 8000000 in
set_option maxRecDepth 100000 in
theorem desc_First.calls (k : Nat) (A0 : Option Addr) (c0 : Nat) (l0 : List Int) (r1 : Int) (r2 : ByteArray) (r3 : ByteArray) (r4 : Int) (r5 : List (S60)) (r6 : Int) (r7 : Int) (w : World) (hG : TheG w) (hr0 : Kd.C (Kd.int .i64) w A0 l0.length l0) (hc0 : l0.length ≤ c0) (h : desc_First.f k l0 = some (r1, r2, r3, r4, r5, r6, r7)) :
 Calls Tryd.prog 23 #[.slice A0 l0.length c0] w fun e w' => ∃ v4_ : Value, e = .returned (.tuple #[.agg #[.int .i64 r1, .string r2, .string r3, .int .i64 r4, v4_, .int .i64 r6], .int .i64 r7]) ∧ Kd.V k60 60 w' w.heap.size (fun k_ => (w.heap.size ≤ k_)) v4_ r5 ∧ Below w.heap.size w w' := by
 have hu26 := Tryd.underlying26
 have hu60 := Tryd.underlying60
 have HR0 := Az.mk hr0
 have HC0 := Az.mk hc0
 clear hr0 hc0
 have HB := Az.mk (Below.refl w.heap.size w)
 have H : (desc_First.l0 k l0 (l0.length : Int) 0 1 (⟨#[]⟩ : ByteArray) (⟨#[]⟩ : ByteArray) 1 ([] : List (S60)) 1) = some (r1, r2, r3, r4, r5, r6, r7) := h
 clear h
 have H' := Az.mk H
 clear H
 go_enter Tryd.func23, Tryd.ntmps23
 go_wp2_with (first | ((with_reducible refine gate_dst (N := 2) rfl ?_); refine box_event ?hg (N := 2) ?hd (cs := #[.int .i64 0, .string (⟨#[]⟩ : ByteArray), .string (⟨#[]⟩ : ByteArray), .int .i64 0, .slice none 0 0, .int .i64 0]) (t := 26) ?hr ?_; (case hd => rfl); (case hg => rfl); (case hr => first | (go_simp; done) | (go_simp; rfl)); intro gb218 hg w2 hbox hb; have BK218 := Az.mk (hbox); have GW218 := Az.mk (geO hg (pbE HB.out)); have GE218 := Az.mk (geO hg (pbE HB.out)); replace HB := Az.mk (pbT (by exact pbE HB.out) hb); clear hb hbox hg) | ((with_reducible refine gate_dst (N := 4) rfl ?_); refine box_event ?hg (N := 4) ?hd (cs := #[.int .i64 0, .string (⟨#[]⟩ : ByteArray), .string (⟨#[]⟩ : ByteArray), .int .i64 0, .slice none 0 0, .int .i64 0]) (t := 26) ?hr ?_; (case hd => rfl); (case hg => rfl); (case hr => first | (go_simp; done) | (go_simp; rfl)); intro gb219 hg w3 hbox hb; have BK219 := Az.mk (hbox); have GW219 := Az.mk (geO hg (pbE HB.out)); have GE219 := Az.mk (geO hg (pbE HB.out)); replace HB := Az.mk (pbT (by exact pbE HB.out) hb); have NB218_219 := Az.mk (neO hg (bk BK218.out)); have NB219_218 := Az.mk (neP hg (bk BK218.out)); replace BK218 := Az.mk (bkB (bk BK218.out) hb); clear hb hbox hg; have hnb4 := NB219_218.out; have hnc4 := NB218_219.out; have hcz5 := cells6 BK219.out))
 go_loopg [10] k (fun kq v10 w' => ∃ (x10_1 : Int) (x220004_1 : List (S60)) (x220005_1 : Int) (u220004 : Value), v10 = .int .i64 x10_1 ∧ Az (desc_First.l0 kq l0 (l0.length : Int) x10_1 1 (⟨#[]⟩ : ByteArray) (⟨#[]⟩ : ByteArray) 1 x220004_1 x220005_1 = some (r1, r2, r3, r4, r5, r6, r7)) ∧ Az (kq ≤ k) ∧ Az (Kd.R k60 60 w' w.heap.size (fun k_ => (w.heap.size ≤ k_)) u220004 x220004_1) ∧ Az (w'.heap[gb218]? = some (.cells #[.int .i64 0, .string (⟨#[]⟩ : ByteArray), .string (⟨#[]⟩ : ByteArray), .int .i64 0, (.slice none 0 0), .int .i64 0] 26 (0, 0))) ∧ Az (w'.heap[gb219]? = some (.cells #[.int .i64 1, .string (⟨#[]⟩ : ByteArray), .string (⟨#[]⟩ : ByteArray), .int .i64 1, u220004, .int .i64 x220005_1] 26 (0, 0))) ∧ Az (Below w.heap.size w w'))
 case atStart => exact ⟨(0), (([] : List (S60))), (1), (.slice none 0 0), (by first | rfl | (simp; done) | (simp [*]; done)), H', ⟨Nat.le_refl _⟩, ⟨by first | exact Kd.R_nil _ _ _ _ _ | exact Kd.N_nil _ _ _ _ _ | exact Kd.V_nil _ _ _ _ _ | exact Kd.Q_nil _ _ _ _ _ | exact Kd.S_nil _ _ _ _ _⟩, ⟨by exact bf BK218.out⟩, ⟨by refine bk ?_; refine blk_put (cs := #[.int .i64 1, .string (⟨#[]⟩ : ByteArray), .string (⟨#[]⟩ : ByteArray), .int .i64 1, .slice none 0 0, .int .i64 0]) ?_ 5 _ rfl; refine bk ?_; refine blk_put (cs := #[.int .i64 1, .string (⟨#[]⟩ : ByteArray), .string (⟨#[]⟩ : ByteArray), .int .i64 1, .slice none 0 0, .int .i64 0]) ?_ 4 _ rfl; refine bk ?_; refine blk_put (cs := #[.int .i64 1, .string (⟨#[]⟩ : ByteArray), .string (⟨#[]⟩ : ByteArray), .int .i64 0, .slice none 0 0, .int .i64 0]) ?_ 3 _ rfl; refine bk ?_; refine blk_put (cs := #[.int .i64 1, .string (⟨#[]⟩ : ByteArray), .string (⟨#[]⟩ : ByteArray), .int .i64 0, .slice none 0 0, .int .i64 0]) ?_ 2 _ rfl; refine bk ?_; refine blk_put (cs := #[.int .i64 1, .string (⟨#[]⟩ : ByteArray), .string (⟨#[]⟩ : ByteArray), .int .i64 0, .slice none 0 0, .int .i64 0]) ?_ 1 _ rfl; refine bk ?_; refine blk_put (cs := #[.int .i64 0, .string (⟨#[]⟩ : ByteArray), .string (⟨#[]⟩ : ByteArray), .int .i64 0, .slice none 0 0, .int .i64 0]) ?_ 0 _ rfl; refine bk ?_; exact BK219.out⟩, ⟨by exact pbE HB.out⟩⟩
 case round =>
  clear H'
  try clear c2
  try clear p2
  try clear c4
  try clear hcz5
  obtain ⟨x10_1, x220004_1, x220005_1, u220004, rfl, HA, HK1, HO_220004, BK218, BK219, HB⟩ := hrel
  cases gk with
  | zero => exact absurd HA.out (by simp [desc_First.l0])
  | succ k1 =>
   have H := HA.out
   clear HA
   simp only [desc_First.l0] at H
   by_cases c6 : x10_1 < (l0.length : Int)
   ·rw [if_pos c6] at H
    have c6b0 : decide (x10_1 < (l0.length : Int)) = true := decide_eq_true c6
    clear c6
    by_cases c7 : 0 ≤ x10_1
    ·rw [if_pos c7] at H
     have c7b0 : decide (0 ≤ x10_1) = true := decide_eq_true c7
     clear c7
     by_cases c8 : x10_1 < (l0.length : Int)
     ·rw [if_pos c8] at H
      have c8b0 : decide (x10_1 < (l0.length : Int)) = true := decide_eq_true c8
      clear c8
      by_cases c9 : x220004_1.length < 8796093022208
      ·rw [if_pos c9] at H
       have LMc9 := Az.mk c9
       clear c9
       obtain ⟨y221, hy221⟩ : ∃ y_ : List (S60), y_ = (x220004_1 ++ [(⟨rd l0 x10_1, x220005_1⟩ : S60)]) := ⟨_, rfl⟩
       replace H : (desc_First.l0 k1 l0 (l0.length : Int) (wrap64 (x10_1 + 1)) 1 (⟨#[]⟩ : ByteArray) (⟨#[]⟩ : ByteArray) 1 y221 (wrap64 (x220005_1 + 1))) = some (r1, r2, r3, r4, r5, r6, r7) := by first | (rw [hy221]; with_reducible exact H) | (have H2_ := (Option.bind_some _ _).symm.trans H; rw [hy221]; with_reducible exact H2_) | (have H2_ := (Option.bind_some _ _).symm.trans H; with_reducible exact H2_) | with_reducible exact H | (rw [hy221]; exact H) | exact H
       have Ny221 := Az.mk hy221
       clear hy221
       have H' := Az.mk H
       clear H
       have p220 : 0 ≤ (x10_1 : Int) := of_decide_eq_true (by first | (with_reducible assumption) | assumption)
       have q220 : x10_1 < (l0.length : Int) := of_decide_eq_true (by first | (with_reducible assumption) | assumption)
       obtain ⟨ad220, e220, hx220_0⟩ := Kd.at_int HR0.out x10_1 p220 q220
       cases e220
       replace hx220_0 := (HB.out.cell (World.block_lt_of_cell? w _ hx220_0)).trans hx220_0
       replace p220 := eq_true p220
       replace q220 := eq_true q220
       have hnb10 := NB219_218.out
       have hnc10 := NB218_219.out
       have hcz11 := cells6 BK219.out
       go_wp2_with (first | ((with_reducible refine gate_builtin (b := .append) (xs := #[.tmp 15, .tmp 20]) rfl ?_); at_builtin; refine Kd.R_append k60 (w0 := w) w.heap.size rfl (.tmp 15) (.tmp 20) 24 60 (.agg #[(.int .i64 0), (.int .i64 0)]) 16 rfl Tryd.underlying24 info60 rfl (by decide) (by omega) u220004 x220004_1 (⟨rd l0 x10_1, x220005_1⟩ : S60) [.int .i64 (rd l0 x10_1), .int .i64 x220005_1] (fun k_ => (w.heap.size ≤ k_)) (fun _ => False) rfl rfl ?aP (fun _ hk => hk.elim) ?aF ?aO ?aB ?aS ?aL ?_; (case aP => exact k60_mkM _ _ _ (⟨rd l0 x10_1, x220005_1⟩ : S60)); (case aB => exact (by exact pbE HB.out)); (case aF => exact (fun k_ hk => (Nat.le_trans (pbZ (by exact pbE HB.out)) hk))); (case aO => exact (Kd.R_ext HO_220004.out)); (case aS => exact (pbZ (by exact pbE HB.out))); (case aL => have := LMc9.out; omega); intro v222 w12 ho hb hg hat; rw [← Ny221.out] at ho; replace BK218 := Az.mk (blk_grown (bk BK218.out) hg (Kd.R_ne HO_220004.out BK218.out (by decide))); replace BK219 := Az.mk (blk_grown (bk BK219.out) hg (Kd.R_ne HO_220004.out BK219.out (by decide))); replace HB := Az.mk (hb); have HO223 := Az.mk (ho); clear HO_220004; clear ho hb hg hat; obtain ⟨Ao13, co13, eo13⟩ := Kd.R_slice HO223.out; subst eo13; have hcz14 := cells6 BK219.out))
       go_roundg k1
       case measure => have := HK1.out; omega
       case rel => exact ⟨(wrap64 (x10_1 + 1)), (y221), (wrap64 (x220005_1 + 1)), (.slice Ao13 y221.length co13), (by first | rfl | (simp; done) | (simp [*]; done)), H', ⟨by have := HK1.out; omega⟩, ⟨by (with_reducible repeat (first | apply Kd.R_alloc | apply Kd.R_drewN | apply Kd.R_drew)); exact Kd.R_mono (Kd.R_far (p := ⟨gb219, 5, none⟩) (Kd.R_far (p := ⟨gb219, 4, none⟩) (Kd.R_types HO223.out BK219.out (by decide)) (fun _ hk => hk.2) (.slice Ao13 y221.length co13)) (fun _ hk => hk.2) (.int .i64 (wrap64 (x220005_1 + 1)))) (fun _ hk => hk.1)⟩, ⟨by exact bf BK218.out⟩, ⟨by refine bk ?_; refine blk_put (cs := #[.int .i64 1, .string (⟨#[]⟩ : ByteArray), .string (⟨#[]⟩ : ByteArray), .int .i64 1, .slice Ao13 y221.length co13, .int .i64 x220005_1]) ?_ 5 _ rfl; refine bk ?_; refine blk_put (cs := #[.int .i64 1, .string (⟨#[]⟩ : ByteArray), .string (⟨#[]⟩ : ByteArray), .int .i64 1, u220004, .int .i64 x220005_1]) ?_ 4 _ rfl; refine bk ?_; exact BK219.out⟩, ⟨by exact pbE HB.out⟩⟩
      ·rw [if_neg c9] at H
       exact absurd H (by simp)
     ·rw [if_neg c8] at H
      exact absurd H (by simp)
    ·rw [if_neg c7] at H
     exact absurd H (by simp)
   ·rw [if_neg c6] at H
    have c6b0 : decide (x10_1 < (l0.length : Int)) = false := decide_eq_false c6
    clear c6
    replace H := Option.bind_eq_some_iff.mp H
    obtain ⟨⟨t224, t225, t226, t227, t228, t231, t232⟩, A150, H⟩ := H
    replace H : (some (t224, t225, t226, t227, t228, t231, t232)) = some (r1, r2, r3, r4, r5, r6, r7) := H
    have A15 := Az.mk A150
    clear A150
    simp only [Option.some.injEq, Prod.mk.injEq] at H
    obtain ⟨rfl, rfl, rfl, rfl, rfl, rfl, rfl⟩ := H
    have hnb16 := NB219_218.out
    have hnc16 := NB218_219.out
    have hcz17 := cells6 BK219.out
    obtain ⟨Ao18, co18, eo18⟩ := Kd.R_slice HO_220004.out
    subst eo18
    go_wp2_with (first | ((with_reducible refine gtc (f := 37) rfl ?_); refine goesL_ (some 29) rfl rfl Tryd.func37 (by kernel_rfl) rfl #[.agg #[.int .i64 1, .string (⟨#[]⟩ : ByteArray), .string (⟨#[]⟩ : ByteArray), .int .i64 1, .slice Ao18 x220004_1.length co18, .int .i64 x220005_1]] rfl (by (try simp only [List.map_toArray, List.map_cons, List.map_nil]); first | done | rfl | (simp only [List.length_drop, List.length_take]; rfl)) ?_; (with_reducible refine (desc_right.calls 1 (⟨#[]⟩ : ByteArray) (⟨#[]⟩ : ByteArray) 1 (fun k_ => some k_ = (.slice Ao18 x220004_1.length co18 : Value).ownBlock) _ _ x220004_1 x220005_1 t224 t225 t226 t227 t228 t231 t232 _ ?side1 ?side2 A15.out).mono ?_); (case side1 => exact hG.below (by exact pbE HB.out)); (case side2 => exact Kd.R_V (Kd.R_tight rfl (Kd.R_types (Kd.R_types (HO_220004.out) BK218.out (by decide)) BK219.out (by decide)))); rintro e w19 ⟨v229, rfl, ho0, hb⟩; refine ⟨_, rfl, ?_⟩; have HO230 := Az.mk (Kd.V_lower (Kd.V_mono (ok' := fun k_ => (w.heap.size ≤ k_) ∧ k_ ≠ gb218 ∧ k_ ≠ gb219) ho0 (fun k_ hk_ => ⟨Or.elim hk_ (fun hs_ => ((Kd.R_types (Kd.R_types (HO_220004.out) BK218.out (by decide)) BK219.out (by decide)).1 k_ hs_.symm).1.1) (fun hn_ => (Nat.le_trans (pbZ (by exact pbE HB.out)) hn_)), Or.elim hk_ (fun hs_ => ((Kd.R_types (Kd.R_types (HO_220004.out) BK218.out (by decide)) BK219.out (by decide)).1 k_ hs_.symm).1.2) (fun hn_ => (Kd.freshB (bk BK218.out) k_ hn_)), Or.elim hk_ (fun hs_ => ((Kd.R_types (Kd.R_types (HO_220004.out) BK218.out (by decide)) BK219.out (by decide)).1 k_ hs_.symm).2) (fun hn_ => (Kd.freshB (bk BK219.out) k_ hn_))⟩)) (pbZ (by exact pbE HB.out))); replace HO_220004 := Az.mk (Kd.R_below (Kd.R_ext HO_220004.out) hb); replace BK218 := Az.mk (bkB (bk BK218.out) hb); replace BK219 := Az.mk (bkB (bk BK219.out) hb); replace HB := Az.mk (pbT (by exact pbE HB.out) hb); (try clear hb); (try clear hb2); (try clear hk); (try clear hi); (try clear ho0); have hcz20 := cells6 BK218.out; obtain ⟨Ao21, co21, eo21⟩ := Kd.V_slice HO230.out; subst eo21))
    refine bodyPost_ret (results_ct rfl _ _ gb218 26 #[.int .i64 t224, .string t225, .string t226, .int .i64 t227, .slice Ao21 t228.length co21, .int .i64 t231] (0, 0) _ rfl (by refine bk ?_; refine blk_put (cs := #[.int .i64 t224, .string t225, .string t226, .int .i64 t227, .slice Ao21 t228.length co21, .int .i64 0]) ?_ 5 _ rfl; refine bk ?_; refine blk_put (cs := #[.int .i64 t224, .string t225, .string t226, .int .i64 t227, .slice none 0 0, .int .i64 0]) ?_ 4 _ rfl; refine bk ?_; refine blk_put (cs := #[.int .i64 t224, .string t225, .string t226, .int .i64 0, .slice none 0 0, .int .i64 0]) ?_ 3 _ rfl; refine bk ?_; refine blk_put (cs := #[.int .i64 t224, .string t225, .string (⟨#[]⟩ : ByteArray), .int .i64 0, .slice none 0 0, .int .i64 0]) ?_ 2 _ rfl; refine bk ?_; refine blk_put (cs := #[.int .i64 t224, .string (⟨#[]⟩ : ByteArray), .string (⟨#[]⟩ : ByteArray), .int .i64 0, .slice none 0 0, .int .i64 0]) ?_ 1 _ rfl; refine bk ?_; refine blk_put (cs := #[.int .i64 0, .string (⟨#[]⟩ : ByteArray), .string (⟨#[]⟩ : ByteArray), .int .i64 0, .slice none 0 0, .int .i64 0]) ?_ 0 _ rfl; refine bk ?_; exact BK218.out) Tryd.underlying26 rfl (by kernel_rfl)) rfl ?_
    exact ⟨_, by first | rfl | (simp [errW_none, errW_some] <;> rfl) | (simp [*, errW_none, errW_some] <;> rfl), by (with_reducible repeat (first | apply Kd.V_alloc | apply Kd.V_drewN | apply Kd.V_drew)); exact Kd.V_mono (Kd.V_off (g := gb218) (fun _ hk => hk.2) (Kd.V_mono HO230.out (fun k_ hk => (⟨hk, hk.2.1⟩ : _ ∧ k_ ≠ gb218)))) (fun _ hk => hk.1.1), by exact pbE HB.out⟩
end Go.Proofs.YtjfhcijjjadhbaaDoor.P
end
section
namespace Go.Proofs.YtjfhcijjjadhbaaDoor.P
open Go.RowKit Go.Proofs.YtjfhcijjjadhbaaDoor.K Go.Proofs.YtjfhcijjjadhbaaDoorW.PrintWords Go.Proofs.YtjfhcijjjadhbaaDoorW.PrintLast Go.Proofs.YtjfhcijjjadhbaaDoorW.PrintMore
attribute [local go_sem ↓] Go.wp_at_zero Go.wp_at_succ
/-- Where a bound may be cut. -/
def cutOk (f t k : ByteArray) : Bool := boundOk f t && (!(k.toList == ([] : List UInt8)) && decide (k.size ≤ 32)) && Op.bytesLess f.toList k.toList && (t.toList == ([] : List UInt8) || Op.bytesLess k.toList t.toList)
def bound_Cut.f (a0_0 a0_1 a1 : ByteArray) : Option (ByteArray × ByteArray × ByteArray × ByteArray × Int) :=
 if cutOk a0_0 a0_1 a1 = true then some (a0_0, a1, a1, a0_1, 0) else some (⟨#[]⟩, ⟨#[]⟩, ⟨#[]⟩, ⟨#[]⟩, 20)
theorem put2s {w1 : World} {B : Nat} {t : TypeId} {x y : Value} (BL : w1.heap[B]? = some (.cells #[.string ⟨#[]⟩, .string ⟨#[]⟩] t (0, 0))) : ((w1.setCell ⟨B, 0, none⟩ x).setCell ⟨B, 1, none⟩ y).heap[B]? = some (.cells #[x, y] t (0, 0)) := by
 refine blk_put (cs := #[x, .string ⟨#[]⟩]) ?_ 1 _ rfl
 exact blk_put (cs := #[.string ⟨#[]⟩, .string ⟨#[]⟩]) BL 0 _ rfl
set_option maxHeartbeats 8000000 in
set_option maxRecDepth 100000 in
theorem bound_Cut.calls (a0_0 a0_1 a1 : ByteArray) (r1 r2 r3 r4 : ByteArray) (r5 : Int) (w : World) (hG : TheG w) (h : bound_Cut.f a0_0 a0_1 a1 = some (r1, r2, r3, r4, r5)) :
 Calls Tryd.prog 32 #[.agg #[.string a0_0, .string a0_1], .string a1] w fun e w' => e = .returned (.tuple #[.agg #[.string r1, .string r2], .agg #[.string r3, .string r4], .int .i64 r5]) ∧ Below w.heap.size w w' := by
 unfold bound_Cut.f cutOk at h
 have hu := Tryd.underlying23
 have HC : ∀ W, Below w.heap.size w W → Hid (Calls Tryd.prog 47 #[.agg #[.string a0_0, .string a0_1]] W fun e w' => e = .returned (.int .i64 (if boundOk a0_0 a0_1 = true then 0 else 20)) ∧ Below W.heap.size W w') := fun W hW => Lib.hid (bound_Check.calls a0_0 a0_1 _ W (hG.below hW) rfl)
 cases hok : boundOk a0_0 a0_1
 ·rw [hok, if_neg (by simp)] at HC
  simp only [hok, Bool.false_and, Bool.and_false, Bool.true_and, Bool.and_true, Bool.not_true, Bool.not_false, Bool.or_true, Bool.true_or, Bool.false_or, Bool.or_false, if_false, if_true, Bool.false_eq_true, Option.some.injEq, Prod.mk.injEq, decide_true, decide_false] at h
  obtain ⟨rfl, rfl, rfl, rfl, rfl⟩ := h
  go_enter Tryd.func32, Tryd.ntmps32
  go_wp2_with (first | (go_at_call 47; refine (HC _ (pbA (pbA (pbA (Below.refl _ _) _) _) _)).out.mono ?_; rintro e w1 ⟨rfl, hb⟩; have B0 := three_old hb () (); have B1 := three_mid2 hb () (); have B2 := three_new hb () (); have z0 := (bkC B0 0).trans rfl; have z1 := (bkC B0 1).trans rfl; have y0 := (bkC B1 0).trans rfl; have y1 := (bkC B1 1).trans rfl; have x0 := (bkC B2 0).trans rfl; have x1 := (bkC B2 1).trans rfl; have e0 := bkF B1 0; have e1 := bkF B1 1; have d0 := bkF B2 0; have d1 := bkF B2 1; have HB := pbT (pbA (pbA (pbA (Below.refl _ _) _) _) _) hb; have L0 := blk_lt B0; have L1 := blk_lt B1; have L2 := blk_lt B2) | go_in)
  go_region
  all_goals go_wp2
  refine bodyPost_ret (results_list (rs := [.cell 4 23, .cell 5 23, .tmp 6]) rfl (by simp) (.cell (w.heap.size + 1) 23 #[.string ⟨#[]⟩, .string ⟨#[]⟩] (0, 0) _ rfl ?b1 hu rfl (by kernel_rfl) (.cell (w.heap.size + 1 + 1) 23 #[.string ⟨#[]⟩, .string ⟨#[]⟩] (0, 0) _ rfl ?b2 hu rfl (by kernel_rfl) (.tmp .nil)))) rfl ?_
  case b1 => (with_reducible repeat (first | refine bkN ?_ _ | refine bkD ?_ | refine bkA ?_ _)); exact blk_far (blk_far (put2s (by (with_reducible repeat (first | refine bkN ?_ _ | refine bkD ?_ | refine bkA ?_ _)); exact B1)) (by simp) _) (by simp) _
  case b2 => (with_reducible repeat (first | refine bkN ?_ _ | refine bkD ?_ | refine bkA ?_ _)); exact put2s (blk_far (blk_far (by (with_reducible repeat (first | refine bkN ?_ _ | refine bkD ?_ | refine bkA ?_ _)); exact B2) (by simp) _) (by simp) _)
  exact ⟨rfl, by repeat (first | (with_reducible first | exact HB | apply pb1 | apply pbA) | refine pbS ?_ (by omega))⟩
 rw [hok, if_pos rfl] at HC
 cases hk : (a1.toList == ([] : List UInt8))
 case true =>
  simp only [hok, hk, Bool.false_and, Bool.and_false, Bool.true_and, Bool.and_true, Bool.not_true, Bool.not_false, Bool.or_true, Bool.true_or, Bool.false_or, Bool.or_false, if_false, if_true, Bool.false_eq_true, Option.some.injEq, Prod.mk.injEq, decide_true, decide_false] at h
  obtain ⟨rfl, rfl, rfl, rfl, rfl⟩ := h
  go_enter Tryd.func32, Tryd.ntmps32
  go_wp2_with (first | (go_at_call 47; refine (HC _ (pbA (pbA (pbA (Below.refl _ _) _) _) _)).out.mono ?_; rintro e w1 ⟨rfl, hb⟩; have B0 := three_old hb () (); have B1 := three_mid2 hb () (); have B2 := three_new hb () (); have z0 := (bkC B0 0).trans rfl; have z1 := (bkC B0 1).trans rfl; have y0 := (bkC B1 0).trans rfl; have y1 := (bkC B1 1).trans rfl; have x0 := (bkC B2 0).trans rfl; have x1 := (bkC B2 1).trans rfl; have e0 := bkF B1 0; have e1 := bkF B1 1; have d0 := bkF B2 0; have d1 := bkF B2 1; have HB := pbT (pbA (pbA (pbA (Below.refl _ _) _) _) _) hb; have L0 := blk_lt B0; have L1 := blk_lt B1; have L2 := blk_lt B2) | go_in)
  go_region
  all_goals go_wp2
  refine bodyPost_ret (results_list (rs := [.cell 4 23, .cell 5 23, .tmp 6]) rfl (by simp) (.cell (w.heap.size + 1) 23 #[.string ⟨#[]⟩, .string ⟨#[]⟩] (0, 0) _ rfl ?b1 hu rfl (by kernel_rfl) (.cell (w.heap.size + 1 + 1) 23 #[.string ⟨#[]⟩, .string ⟨#[]⟩] (0, 0) _ rfl ?b2 hu rfl (by kernel_rfl) (.tmp .nil)))) rfl ?_
  case b1 => (with_reducible repeat (first | refine bkN ?_ _ | refine bkD ?_ | refine bkA ?_ _)); exact blk_far (blk_far (put2s (by (with_reducible repeat (first | refine bkN ?_ _ | refine bkD ?_ | refine bkA ?_ _)); exact B1)) (by simp) _) (by simp) _
  case b2 => (with_reducible repeat (first | refine bkN ?_ _ | refine bkD ?_ | refine bkA ?_ _)); exact put2s (blk_far (blk_far (by (with_reducible repeat (first | refine bkN ?_ _ | refine bkD ?_ | refine bkA ?_ _)); exact B2) (by simp) _) (by simp) _)
  exact ⟨rfl, by repeat (first | (with_reducible first | exact HB | apply pb1 | apply pbA) | refine pbS ?_ (by omega))⟩
 have hk2 : (a1.toList != ([] : List UInt8)) = true := by rw [bne, hk]; rfl
 by_cases hs : a1.size ≤ 32
 case neg =>
  have hs2 : (32 : Int) < (a1.size : Int) := by omega
  have hs3 : decide (a1.size ≤ 32) = false := decide_eq_false hs
  simp only [hok, hk, hs3, Bool.false_and, Bool.and_false, Bool.true_and, Bool.and_true, Bool.not_true, Bool.not_false, Bool.or_true, Bool.true_or, Bool.false_or, Bool.or_false, if_false, if_true, Bool.false_eq_true, Option.some.injEq, Prod.mk.injEq, decide_true, decide_false] at h
  obtain ⟨rfl, rfl, rfl, rfl, rfl⟩ := h
  go_enter Tryd.func32, Tryd.ntmps32
  go_wp2_with (first | (go_at_call 47; refine (HC _ (pbA (pbA (pbA (Below.refl _ _) _) _) _)).out.mono ?_; rintro e w1 ⟨rfl, hb⟩; have B0 := three_old hb () (); have B1 := three_mid2 hb () (); have B2 := three_new hb () (); have z0 := (bkC B0 0).trans rfl; have z1 := (bkC B0 1).trans rfl; have y0 := (bkC B1 0).trans rfl; have y1 := (bkC B1 1).trans rfl; have x0 := (bkC B2 0).trans rfl; have x1 := (bkC B2 1).trans rfl; have e0 := bkF B1 0; have e1 := bkF B1 1; have d0 := bkF B2 0; have d1 := bkF B2 1; have HB := pbT (pbA (pbA (pbA (Below.refl _ _) _) _) _) hb; have L0 := blk_lt B0; have L1 := blk_lt B1; have L2 := blk_lt B2) | go_in)
  go_region
  all_goals go_wp2
  refine bodyPost_ret (results_list (rs := [.cell 4 23, .cell 5 23, .tmp 6]) rfl (by simp) (.cell (w.heap.size + 1) 23 #[.string ⟨#[]⟩, .string ⟨#[]⟩] (0, 0) _ rfl ?b1 hu rfl (by kernel_rfl) (.cell (w.heap.size + 1 + 1) 23 #[.string ⟨#[]⟩, .string ⟨#[]⟩] (0, 0) _ rfl ?b2 hu rfl (by kernel_rfl) (.tmp .nil)))) rfl ?_
  case b1 => (with_reducible repeat (first | refine bkN ?_ _ | refine bkD ?_ | refine bkA ?_ _)); exact blk_far (blk_far (put2s (by (with_reducible repeat (first | refine bkN ?_ _ | refine bkD ?_ | refine bkA ?_ _)); exact B1)) (by simp) _) (by simp) _
  case b2 => (with_reducible repeat (first | refine bkN ?_ _ | refine bkD ?_ | refine bkA ?_ _)); exact put2s (blk_far (blk_far (by (with_reducible repeat (first | refine bkN ?_ _ | refine bkD ?_ | refine bkA ?_ _)); exact B2) (by simp) _) (by simp) _)
  exact ⟨rfl, by repeat (first | (with_reducible first | exact HB | apply pb1 | apply pbA) | refine pbS ?_ (by omega))⟩
 have hs2 : ¬ (32 : Int) < (a1.size : Int) := by omega
 have hs3 : decide (a1.size ≤ 32) = true := decide_eq_true hs
 cases hl : Op.bytesLess a0_0.toList a1.toList
 case false =>
  simp only [hok, hk, hs3, hl, Bool.false_and, Bool.and_false, Bool.true_and, Bool.and_true, Bool.not_true, Bool.not_false, Bool.or_true, Bool.true_or, Bool.false_or, Bool.or_false, if_false, if_true, Bool.false_eq_true, Option.some.injEq, Prod.mk.injEq, decide_true, decide_false] at h
  obtain ⟨rfl, rfl, rfl, rfl, rfl⟩ := h
  go_enter Tryd.func32, Tryd.ntmps32
  go_wp2_with (first | (go_at_call 47; refine (HC _ (pbA (pbA (pbA (Below.refl _ _) _) _) _)).out.mono ?_; rintro e w1 ⟨rfl, hb⟩; have B0 := three_old hb () (); have B1 := three_mid2 hb () (); have B2 := three_new hb () (); have z0 := (bkC B0 0).trans rfl; have z1 := (bkC B0 1).trans rfl; have y0 := (bkC B1 0).trans rfl; have y1 := (bkC B1 1).trans rfl; have x0 := (bkC B2 0).trans rfl; have x1 := (bkC B2 1).trans rfl; have e0 := bkF B1 0; have e1 := bkF B1 1; have d0 := bkF B2 0; have d1 := bkF B2 1; have HB := pbT (pbA (pbA (pbA (Below.refl _ _) _) _) _) hb; have L0 := blk_lt B0; have L1 := blk_lt B1; have L2 := blk_lt B2) | go_in)
  go_region
  all_goals go_wp2
  refine bodyPost_ret (results_list (rs := [.cell 4 23, .cell 5 23, .tmp 6]) rfl (by simp) (.cell (w.heap.size + 1) 23 #[.string ⟨#[]⟩, .string ⟨#[]⟩] (0, 0) _ rfl ?b1 hu rfl (by kernel_rfl) (.cell (w.heap.size + 1 + 1) 23 #[.string ⟨#[]⟩, .string ⟨#[]⟩] (0, 0) _ rfl ?b2 hu rfl (by kernel_rfl) (.tmp .nil)))) rfl ?_
  case b1 => (with_reducible repeat (first | refine bkN ?_ _ | refine bkD ?_ | refine bkA ?_ _)); exact blk_far (blk_far (put2s (by (with_reducible repeat (first | refine bkN ?_ _ | refine bkD ?_ | refine bkA ?_ _)); exact B1)) (by simp) _) (by simp) _
  case b2 => (with_reducible repeat (first | refine bkN ?_ _ | refine bkD ?_ | refine bkA ?_ _)); exact put2s (blk_far (blk_far (by (with_reducible repeat (first | refine bkN ?_ _ | refine bkD ?_ | refine bkA ?_ _)); exact B2) (by simp) _) (by simp) _)
  exact ⟨rfl, by repeat (first | (with_reducible first | exact HB | apply pb1 | apply pbA) | refine pbS ?_ (by omega))⟩
 cases ht : (a0_1.toList == ([] : List UInt8))
 case true =>
  have ht2 : (a0_1.toList != ([] : List UInt8)) = false := by rw [bne, ht]; rfl
  simp only [hok, hk, hs3, hl, ht, Bool.false_and, Bool.and_false, Bool.true_and, Bool.and_true, Bool.not_true, Bool.not_false, Bool.or_true, Bool.true_or, Bool.false_or, Bool.or_false, if_false, if_true, Bool.false_eq_true, Option.some.injEq, Prod.mk.injEq, decide_true, decide_false] at h
  obtain ⟨rfl, rfl, rfl, rfl, rfl⟩ := h
  go_enter Tryd.func32, Tryd.ntmps32
  go_wp2_with (first | (go_at_call 47; refine (HC _ (pbA (pbA (pbA (Below.refl _ _) _) _) _)).out.mono ?_; rintro e w1 ⟨rfl, hb⟩; have B0 := three_old hb () (); have B1 := three_mid2 hb () (); have B2 := three_new hb () (); have z0 := (bkC B0 0).trans rfl; have z1 := (bkC B0 1).trans rfl; have y0 := (bkC B1 0).trans rfl; have y1 := (bkC B1 1).trans rfl; have x0 := (bkC B2 0).trans rfl; have x1 := (bkC B2 1).trans rfl; have e0 := bkF B1 0; have e1 := bkF B1 1; have d0 := bkF B2 0; have d1 := bkF B2 1; have HB := pbT (pbA (pbA (pbA (Below.refl _ _) _) _) _) hb; have L0 := blk_lt B0; have L1 := blk_lt B1; have L2 := blk_lt B2) | go_in)
  go_region
  all_goals go_wp2
  refine bodyPost_ret (results_list (rs := [.cell 4 23, .cell 5 23, .tmp 6]) rfl (by simp) (.cell (w.heap.size + 1) 23 #[.string a0_0, .string a1] (0, 0) _ rfl ?b1 hu rfl (by kernel_rfl) (.cell (w.heap.size + 1 + 1) 23 #[.string a1, .string a0_1] (0, 0) _ rfl ?b2 hu rfl (by kernel_rfl) (.tmp .nil)))) rfl ?_
  case b1 => (with_reducible repeat (first | refine bkN ?_ _ | refine bkD ?_ | refine bkA ?_ _)); exact blk_far (blk_far (put2s (by (with_reducible repeat (first | refine bkN ?_ _ | refine bkD ?_ | refine bkA ?_ _)); exact B1)) (by simp) _) (by simp) _
  case b2 => (with_reducible repeat (first | refine bkN ?_ _ | refine bkD ?_ | refine bkA ?_ _)); exact put2s (blk_far (blk_far (by (with_reducible repeat (first | refine bkN ?_ _ | refine bkD ?_ | refine bkA ?_ _)); exact B2) (by simp) _) (by simp) _)
  exact ⟨rfl, by repeat (first | (with_reducible first | exact HB | apply pb1 | apply pbA) | refine pbS ?_ (by omega))⟩
 have ht2 : (a0_1.toList != ([] : List UInt8)) = true := by rw [bne, ht]; rfl
 cases hg : Op.bytesLess a1.toList a0_1.toList
 case false =>
  simp only [hok, hk, hs3, hl, ht, hg, Bool.false_and, Bool.and_false, Bool.true_and, Bool.and_true, Bool.not_true, Bool.not_false, Bool.or_true, Bool.true_or, Bool.false_or, Bool.or_false, if_false, if_true, Bool.false_eq_true, Option.some.injEq, Prod.mk.injEq, decide_true, decide_false] at h
  obtain ⟨rfl, rfl, rfl, rfl, rfl⟩ := h
  go_enter Tryd.func32, Tryd.ntmps32
  go_wp2_with (first | (go_at_call 47; refine (HC _ (pbA (pbA (pbA (Below.refl _ _) _) _) _)).out.mono ?_; rintro e w1 ⟨rfl, hb⟩; have B0 := three_old hb () (); have B1 := three_mid2 hb () (); have B2 := three_new hb () (); have z0 := (bkC B0 0).trans rfl; have z1 := (bkC B0 1).trans rfl; have y0 := (bkC B1 0).trans rfl; have y1 := (bkC B1 1).trans rfl; have x0 := (bkC B2 0).trans rfl; have x1 := (bkC B2 1).trans rfl; have e0 := bkF B1 0; have e1 := bkF B1 1; have d0 := bkF B2 0; have d1 := bkF B2 1; have HB := pbT (pbA (pbA (pbA (Below.refl _ _) _) _) _) hb; have L0 := blk_lt B0; have L1 := blk_lt B1; have L2 := blk_lt B2) | go_in)
  go_region
  all_goals go_wp2
  refine bodyPost_ret (results_list (rs := [.cell 4 23, .cell 5 23, .tmp 6]) rfl (by simp) (.cell (w.heap.size + 1) 23 #[.string ⟨#[]⟩, .string ⟨#[]⟩] (0, 0) _ rfl ?b1 hu rfl (by kernel_rfl) (.cell (w.heap.size + 1 + 1) 23 #[.string ⟨#[]⟩, .string ⟨#[]⟩] (0, 0) _ rfl ?b2 hu rfl (by kernel_rfl) (.tmp .nil)))) rfl ?_
  case b1 => (with_reducible repeat (first | refine bkN ?_ _ | refine bkD ?_ | refine bkA ?_ _)); exact blk_far (blk_far (put2s (by (with_reducible repeat (first | refine bkN ?_ _ | refine bkD ?_ | refine bkA ?_ _)); exact B1)) (by simp) _) (by simp) _
  case b2 => (with_reducible repeat (first | refine bkN ?_ _ | refine bkD ?_ | refine bkA ?_ _)); exact put2s (blk_far (blk_far (by (with_reducible repeat (first | refine bkN ?_ _ | refine bkD ?_ | refine bkA ?_ _)); exact B2) (by simp) _) (by simp) _)
  exact ⟨rfl, by repeat (first | (with_reducible first | exact HB | apply pb1 | apply pbA) | refine pbS ?_ (by omega))⟩
 case true =>
  simp only [hok, hk, hs3, hl, ht, hg, Bool.false_and, Bool.and_false, Bool.true_and, Bool.and_true, Bool.not_true, Bool.not_false, Bool.or_true, Bool.true_or, Bool.false_or, Bool.or_false, if_false, if_true, Bool.false_eq_true, Option.some.injEq, Prod.mk.injEq, decide_true, decide_false] at h
  obtain ⟨rfl, rfl, rfl, rfl, rfl⟩ := h
  go_enter Tryd.func32, Tryd.ntmps32
  go_wp2_with (first | (go_at_call 47; refine (HC _ (pbA (pbA (pbA (Below.refl _ _) _) _) _)).out.mono ?_; rintro e w1 ⟨rfl, hb⟩; have B0 := three_old hb () (); have B1 := three_mid2 hb () (); have B2 := three_new hb () (); have z0 := (bkC B0 0).trans rfl; have z1 := (bkC B0 1).trans rfl; have y0 := (bkC B1 0).trans rfl; have y1 := (bkC B1 1).trans rfl; have x0 := (bkC B2 0).trans rfl; have x1 := (bkC B2 1).trans rfl; have e0 := bkF B1 0; have e1 := bkF B1 1; have d0 := bkF B2 0; have d1 := bkF B2 1; have HB := pbT (pbA (pbA (pbA (Below.refl _ _) _) _) _) hb; have L0 := blk_lt B0; have L1 := blk_lt B1; have L2 := blk_lt B2) | go_in)
  go_region
  all_goals go_wp2
  refine bodyPost_ret (results_list (rs := [.cell 4 23, .cell 5 23, .tmp 6]) rfl (by simp) (.cell (w.heap.size + 1) 23 #[.string a0_0, .string a1] (0, 0) _ rfl ?b1 hu rfl (by kernel_rfl) (.cell (w.heap.size + 1 + 1) 23 #[.string a1, .string a0_1] (0, 0) _ rfl ?b2 hu rfl (by kernel_rfl) (.tmp .nil)))) rfl ?_
  case b1 => (with_reducible repeat (first | refine bkN ?_ _ | refine bkD ?_ | refine bkA ?_ _)); exact blk_far (blk_far (put2s (by (with_reducible repeat (first | refine bkN ?_ _ | refine bkD ?_ | refine bkA ?_ _)); exact B1)) (by simp) _) (by simp) _
  case b2 => (with_reducible repeat (first | refine bkN ?_ _ | refine bkD ?_ | refine bkA ?_ _)); exact put2s (blk_far (blk_far (by (with_reducible repeat (first | refine bkN ?_ _ | refine bkD ?_ | refine bkA ?_ _)); exact B2) (by simp) _) (by simp) _)
  exact ⟨rfl, by repeat (first | (with_reducible first | exact HB | apply pb1 | apply pbA) | refine pbS ?_ (by omega))⟩
end Go.Proofs.YtjfhcijjjadhbaaDoor.P
end
