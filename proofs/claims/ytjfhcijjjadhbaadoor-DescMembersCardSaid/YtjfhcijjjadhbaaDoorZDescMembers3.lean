import Derived.Test.YtjfhcijjjadhbaaDoorZDescMembers1
import Derived.Test.YtjfhcijjjadhbaaDoorZDescMembers2
set_option linter.unusedVariables false
set_option linter.unusedSimpArgs false
set_option linter.unnecessarySimpa false
section
namespace Go.Proofs.YtjfhcijjjadhbaaDoor.P
open Go.RowKit Go.Proofs.YtjfhcijjjadhbaaDoor.K Go.Proofs.YtjfhcijjjadhbaaDoorW.PrintWords Go.Proofs.YtjfhcijjjadhbaaDoorW.PrintLast Go.Proofs.YtjfhcijjjadhbaaDoorW.PrintMore
attribute [local go_sem] max2_int min2_int max_two min_two max_three min_three max_four min_four   -- for this text's walks alone
def desc_Add.f (a0_0 : Int) (a0_1 : ByteArray) (a0_2 : ByteArray) (a0_3 : Int) (l0_4 : List (S60)) (a0_5 : Int) (a1 : Int) : Option (Int × ByteArray × ByteArray × Int × (List (S60)) × Int × Int) := (desc_On.f a0_0 a0_1 a0_2 a0_3 l0_4 a0_5 a1).bind fun bt235 => ((desc_Check.f a0_0 a0_1 a0_2 a0_3 l0_4 a0_5).bind fun t239 => (if t239 = 0 then ((desc_isNode.f a1).bind fun t240 => (if t240 = true then (if bt235.2.2 = true then (some (0, (⟨#[]⟩ : ByteArray), (⟨#[]⟩ : ByteArray), 0, ([] : List (S60)), 0, 8)) else (if (l0_4.length : Int) ≥ 5 then (some (0, (⟨#[]⟩ : ByteArray), (⟨#[]⟩ : ByteArray), 0, ([] : List (S60)), 0, 6)) else ((api_Member_33.f l0_4).bind fun t241 => ((some (([(⟨a1, a0_5⟩ : S60)] : List (S60)) : List (S60))).bind fun y244 => (if t241.length + y244.length < 8796093022208 then ((desc_right.f a0_0 a0_1 a0_2 (wrap64 (a0_3 + 1)) (t241 ++ y244) (wrap64 (a0_5 + 1))).bind fun bt250 => (some (bt250.1, bt250.2.1, bt250.2.2.1, bt250.2.2.2.1, bt250.2.2.2.2.1, bt250.2.2.2.2.2.1, bt250.2.2.2.2.2.2))) else (none)))))) else (some (0, (⟨#[]⟩ : ByteArray), (⟨#[]⟩ : ByteArray), 0, ([] : List (S60)), 0, 2)))) else (some (0, (⟨#[]⟩ : ByteArray), (⟨#[]⟩ : ByteArray), 0, ([] : List (S60)), 0, 60))))
def desc_Add.T10 : Bool × List (List Nat × List Nat) := (true, [([], []), ([0], [0]), ([1], [1]), ([], []), ([], []), ([4], [4]), ([3, 5], [3, 5]), ([6], [6]), ([2, 7, 2], [2, 7]), ([0, 1, 2, 3, 4, 5, 6, 7, 8], []), ([9, 8, 8, 0, 1, 2, 3, 4, 5, 6, 7, 8], [8, 9])])
def desc_Add.B10 : List Nat := [0, 1, 3, 0, 0, 16, 56, 120, 255, 511, 1023]
theorem desc_Add.tab10 : rtab .any (opsOf Tryd.f25 10) = desc_Add.T10 := by kernel_rfl
theorem desc_Add.bits10 : waitsOk desc_Add.T10.2 desc_Add.B10 = true := by kernel_rfl
set_option maxHeartbeats 8000000 in
set_option maxRecDepth 100000 in
theorem desc_Add.calls (a0_0 : Int) (a0_1 : ByteArray) (a0_2 : ByteArray) (a0_3 : Int) (A0_4 : Option Addr) (c0_4 : Nat) (l0_4 : List (S60)) (a0_5 : Int) (a1 : Int) (r1 : Int) (r2 : ByteArray) (r3 : ByteArray) (r4 : Int) (r5 : List (S60)) (r6 : Int) (r7 : Int) (w : World) (hG : TheG w) (hr0_4 : Kd.C k60 w A0_4 l0_4.length l0_4) (hc0_4 : l0_4.length ≤ c0_4) (h : desc_Add.f a0_0 a0_1 a0_2 a0_3 l0_4 a0_5 a1 = some (r1, r2, r3, r4, r5, r6, r7)) :
 Calls Tryd.prog 25 #[.agg #[.int .i64 a0_0, .string a0_1, .string a0_2, .int .i64 a0_3, .slice A0_4 l0_4.length c0_4, .int .i64 a0_5], .int .i64 a1] w fun e w' => ∃ v4_ : Value, e = .returned (.tuple #[.agg #[.int .i64 r1, .string r2, .string r3, .int .i64 r4, v4_, .int .i64 r6], .int .i64 r7]) ∧ Kd.V k60 60 w' w.heap.size (fun k_ => (w.heap.size ≤ k_)) v4_ r5 ∧ Below w.heap.size w w' := by
 have hu26 := Tryd.underlying26
 have hu60 := Tryd.underlying60
 have HR0_4 := Az.mk hr0_4
 have HC0_4 := Az.mk hc0_4
 clear hr0_4 hc0_4
 have HB := Az.mk (Below.refl w.heap.size w)
 have H : ((desc_On.f a0_0 a0_1 a0_2 a0_3 l0_4 a0_5 a1).bind fun bt235 => ((desc_Check.f a0_0 a0_1 a0_2 a0_3 l0_4 a0_5).bind fun t239 => (if t239 = 0 then ((desc_isNode.f a1).bind fun t240 => (if t240 = true then (if bt235.2.2 = true then (some (0, (⟨#[]⟩ : ByteArray), (⟨#[]⟩ : ByteArray), 0, ([] : List (S60)), 0, 8)) else (if (l0_4.length : Int) ≥ 5 then (some (0, (⟨#[]⟩ : ByteArray), (⟨#[]⟩ : ByteArray), 0, ([] : List (S60)), 0, 6)) else ((api_Member_33.f l0_4).bind fun t241 => ((some (([(⟨a1, a0_5⟩ : S60)] : List (S60)) : List (S60))).bind fun y244 => (if t241.length + y244.length < 8796093022208 then ((desc_right.f a0_0 a0_1 a0_2 (wrap64 (a0_3 + 1)) (t241 ++ y244) (wrap64 (a0_5 + 1))).bind fun bt250 => (some (bt250.1, bt250.2.1, bt250.2.2.1, bt250.2.2.2.1, bt250.2.2.2.2.1, bt250.2.2.2.2.2.1, bt250.2.2.2.2.2.2))) else (none)))))) else (some (0, (⟨#[]⟩ : ByteArray), (⟨#[]⟩ : ByteArray), 0, ([] : List (S60)), 0, 2)))) else (some (0, (⟨#[]⟩ : ByteArray), (⟨#[]⟩ : ByteArray), 0, ([] : List (S60)), 0, 60))))) = some (r1, r2, r3, r4, r5, r6, r7) := h
 clear h
 replace H := Option.bind_eq_some_iff.mp H
 obtain ⟨⟨t235, t236, t237⟩, A30, H⟩ := H
 replace H : ((desc_Check.f a0_0 a0_1 a0_2 a0_3 l0_4 a0_5).bind fun t239 => (if t239 = 0 then ((desc_isNode.f a1).bind fun t240 => (if t240 = true then (if t237 = true then (some (0, (⟨#[]⟩ : ByteArray), (⟨#[]⟩ : ByteArray), 0, ([] : List (S60)), 0, 8)) else (if (l0_4.length : Int) ≥ 5 then (some (0, (⟨#[]⟩ : ByteArray), (⟨#[]⟩ : ByteArray), 0, ([] : List (S60)), 0, 6)) else ((api_Member_33.f l0_4).bind fun t241 => ((some (([(⟨a1, a0_5⟩ : S60)] : List (S60)) : List (S60))).bind fun y244 => (if t241.length + y244.length < 8796093022208 then ((desc_right.f a0_0 a0_1 a0_2 (wrap64 (a0_3 + 1)) (t241 ++ y244) (wrap64 (a0_5 + 1))).bind fun bt250 => (some (bt250.1, bt250.2.1, bt250.2.2.1, bt250.2.2.2.1, bt250.2.2.2.2.1, bt250.2.2.2.2.2.1, bt250.2.2.2.2.2.2))) else (none)))))) else (some (0, (⟨#[]⟩ : ByteArray), (⟨#[]⟩ : ByteArray), 0, ([] : List (S60)), 0, 2)))) else (some (0, (⟨#[]⟩ : ByteArray), (⟨#[]⟩ : ByteArray), 0, ([] : List (S60)), 0, 60)))) = some (r1, r2, r3, r4, r5, r6, r7) := H
 have A3 := Az.mk A30
 clear A30
 replace H := Option.bind_eq_some_iff.mp H
 obtain ⟨t239, A40, H⟩ := H
 replace H : (if t239 = 0 then ((desc_isNode.f a1).bind fun t240 => (if t240 = true then (if t237 = true then (some (0, (⟨#[]⟩ : ByteArray), (⟨#[]⟩ : ByteArray), 0, ([] : List (S60)), 0, 8)) else (if (l0_4.length : Int) ≥ 5 then (some (0, (⟨#[]⟩ : ByteArray), (⟨#[]⟩ : ByteArray), 0, ([] : List (S60)), 0, 6)) else ((api_Member_33.f l0_4).bind fun t241 => ((some (([(⟨a1, a0_5⟩ : S60)] : List (S60)) : List (S60))).bind fun y244 => (if t241.length + y244.length < 8796093022208 then ((desc_right.f a0_0 a0_1 a0_2 (wrap64 (a0_3 + 1)) (t241 ++ y244) (wrap64 (a0_5 + 1))).bind fun bt250 => (some (bt250.1, bt250.2.1, bt250.2.2.1, bt250.2.2.2.1, bt250.2.2.2.2.1, bt250.2.2.2.2.2.1, bt250.2.2.2.2.2.2))) else (none)))))) else (some (0, (⟨#[]⟩ : ByteArray), (⟨#[]⟩ : ByteArray), 0, ([] : List (S60)), 0, 2)))) else (some (0, (⟨#[]⟩ : ByteArray), (⟨#[]⟩ : ByteArray), 0, ([] : List (S60)), 0, 60))) = some (r1, r2, r3, r4, r5, r6, r7) := H
 have A4 := Az.mk A40
 clear A40
 by_cases c5 : t239 = 0
 ·rw [if_pos c5] at H
  have c5b0 : (t239 == 0) = true := beq_iff_eq.mpr c5
  have c5b1 : (t239 != 0) = false := bne_eq_false_iff_eq.mpr c5
  clear c5
  replace H := Option.bind_eq_some_iff.mp H
  obtain ⟨t240, A60, H⟩ := H
  replace H : (if t240 = true then (if t237 = true then (some (0, (⟨#[]⟩ : ByteArray), (⟨#[]⟩ : ByteArray), 0, ([] : List (S60)), 0, 8)) else (if (l0_4.length : Int) ≥ 5 then (some (0, (⟨#[]⟩ : ByteArray), (⟨#[]⟩ : ByteArray), 0, ([] : List (S60)), 0, 6)) else ((api_Member_33.f l0_4).bind fun t241 => ((some (([(⟨a1, a0_5⟩ : S60)] : List (S60)) : List (S60))).bind fun y244 => (if t241.length + y244.length < 8796093022208 then ((desc_right.f a0_0 a0_1 a0_2 (wrap64 (a0_3 + 1)) (t241 ++ y244) (wrap64 (a0_5 + 1))).bind fun bt250 => (some (bt250.1, bt250.2.1, bt250.2.2.1, bt250.2.2.2.1, bt250.2.2.2.2.1, bt250.2.2.2.2.2.1, bt250.2.2.2.2.2.2))) else (none)))))) else (some (0, (⟨#[]⟩ : ByteArray), (⟨#[]⟩ : ByteArray), 0, ([] : List (S60)), 0, 2))) = some (r1, r2, r3, r4, r5, r6, r7) := H
  have A6 := Az.mk A60
  clear A60
  by_cases c7 : t240 = true
  ·subst c7
   have H1 : (if t237 = true then (some (0, (⟨#[]⟩ : ByteArray), (⟨#[]⟩ : ByteArray), 0, ([] : List (S60)), 0, 8)) else (if (l0_4.length : Int) ≥ 5 then (some (0, (⟨#[]⟩ : ByteArray), (⟨#[]⟩ : ByteArray), 0, ([] : List (S60)), 0, 6)) else ((api_Member_33.f l0_4).bind fun t241 => ((some (([(⟨a1, a0_5⟩ : S60)] : List (S60)) : List (S60))).bind fun y244 => (if t241.length + y244.length < 8796093022208 then ((desc_right.f a0_0 a0_1 a0_2 (wrap64 (a0_3 + 1)) (t241 ++ y244) (wrap64 (a0_5 + 1))).bind fun bt250 => (some (bt250.1, bt250.2.1, bt250.2.2.1, bt250.2.2.2.1, bt250.2.2.2.2.1, bt250.2.2.2.2.2.1, bt250.2.2.2.2.2.2))) else (none)))))) = some (r1, r2, r3, r4, r5, r6, r7) := by rw [if_pos rfl] at H; exact H
   clear H
   have H := H1
   clear H1
   by_cases c8 : t237 = true
   ·subst c8
    have H1 : (some (0, (⟨#[]⟩ : ByteArray), (⟨#[]⟩ : ByteArray), 0, ([] : List (S60)), 0, 8)) = some (r1, r2, r3, r4, r5, r6, r7) := by rw [if_pos rfl] at H; exact H
    clear H
    have H := H1
    clear H1
    simp only [Option.some.injEq, Prod.mk.injEq] at H
    obtain ⟨rfl, rfl, rfl, rfl, rfl, rfl, rfl⟩ := H
    go_enter Tryd.func25, Tryd.ntmps25
    go_wp2_with (first | ((with_reducible refine gate_dst (N := 2) rfl ?_); refine box_event ?hg (N := 2) ?hd (cs := #[.int .i64 a0_0, .string a0_1, .string a0_2, .int .i64 a0_3, .slice A0_4 l0_4.length c0_4, .int .i64 a0_5]) (t := 26) ?hr ?_; (case hd => rfl); (case hg => rfl); (case hr => first | (go_simp; done) | (go_simp; rfl)); intro gb233 hg w9 hbox hb; have BK233 := Az.mk (hbox); have GW233 := Az.mk (geO hg (pbE HB.out)); have GE233 := Az.mk (geO hg (pbE HB.out)); replace HB := Az.mk (pbT (by exact pbE HB.out) hb); clear hb hbox hg) | ((with_reducible refine gate_dst (N := 4) rfl ?_); refine box_event ?hg (N := 4) ?hd (cs := #[.int .i64 0, .string (⟨#[]⟩ : ByteArray), .string (⟨#[]⟩ : ByteArray), .int .i64 0, .slice none 0 0, .int .i64 0]) (t := 26) ?hr ?_; (case hd => rfl); (case hg => rfl); (case hr => first | (go_simp; done) | (go_simp; rfl)); intro gb234 hg w10 hbox hb; have BK234 := Az.mk (hbox); have GW234 := Az.mk (geO hg (pbE HB.out)); have GE234 := Az.mk (geO hg (pbE HB.out)); replace HB := Az.mk (pbT (by exact pbE HB.out) hb); have NB233_234 := Az.mk (neO hg (bk BK233.out)); have NB234_233 := Az.mk (neP hg (bk BK233.out)); replace BK233 := Az.mk (bkB (bk BK233.out) hb); clear hb hbox hg; have hnb11 := NB233_234.out; have hnc11 := NB234_233.out; have hcz12 := cells6 BK233.out) | ((with_reducible refine gtc (f := 30) rfl ?_); refine goesL_ (some 11) rfl rfl Tryd.func30 (by kernel_rfl) rfl #[.agg #[.int .i64 a0_0, .string a0_1, .string a0_2, .int .i64 a0_3, .slice A0_4 l0_4.length c0_4, .int .i64 a0_5], .int .i64 a1] rfl (by (try simp only [List.map_toArray, List.map_cons, List.map_nil]); first | done | rfl | (simp only [List.length_drop, List.length_take]; rfl)) ?_; (with_reducible refine (desc_On.calls a0_0 a0_1 a0_2 a0_3 _ _ l0_4 a0_5 a1 t235 t236 true _ ?side1 ?side2 ?side3 A3.out).mono ?_); (case side1 => exact hG.below (by exact pbE HB.out)); (case side2 => repeat (first | exact (Kd.C_below HR0_4.out HB.out) | (with_reducible refine Kd.C_alloc ?_ _) | (with_reducible refine Kd.C_drewN ?_ _) | (with_reducible refine Kd.C_drew ?_))); (case side3 => exact HC0_4.out); rintro e w13 ⟨rfl, hb⟩; refine ⟨_, rfl, ?_⟩; replace BK233 := Az.mk (bkB (bk BK233.out) hb); replace BK234 := Az.mk (bkB (bk BK234.out) hb); replace HB := Az.mk (pbT (by exact pbE HB.out) hb); (try clear hb); (try clear hb2); (try clear hk); (try clear hi)) | ((with_reducible refine gate_dst (N := 6) rfl ?_); refine box_event ?hg (N := 6) ?hd (cs := #[.int .i64 0, .int .i64 0]) (t := 60) ?hr ?_; (case hd => rfl); (case hg => rfl); (case hr => first | (go_simp; done) | (go_simp; rfl)); intro gb238 hg w14 hbox hb; have BK238 := Az.mk (hbox); have GW238 := Az.mk (geO hg (pbE HB.out)); have GE238 := Az.mk (geO hg (pbE HB.out)); replace HB := Az.mk (pbT (by exact pbE HB.out) hb); have NB233_238 := Az.mk (neO hg (bk BK233.out)); have NB238_233 := Az.mk (neP hg (bk BK233.out)); replace BK233 := Az.mk (bkB (bk BK233.out) hb); have NB234_238 := Az.mk (neO hg (bk BK234.out)); have NB238_234 := Az.mk (neP hg (bk BK234.out)); replace BK234 := Az.mk (bkB (bk BK234.out) hb); clear hb hbox hg; have hnb15 := NB238_233.out; have hnc15 := NB233_238.out; have hnb16 := NB238_234.out; have hnc16 := NB234_238.out; have hcz17 := cells2 BK238.out; have hcz18 := cells6 BK233.out) | ((with_reducible refine gtc (f := 22) rfl ?_); refine goesL_ (some 16) rfl rfl Tryd.func22 (by kernel_rfl) rfl #[.agg #[.int .i64 a0_0, .string a0_1, .string a0_2, .int .i64 a0_3, .slice A0_4 l0_4.length c0_4, .int .i64 a0_5]] rfl (by (try simp only [List.map_toArray, List.map_cons, List.map_nil]); first | done | rfl | (simp only [List.length_drop, List.length_take]; rfl)) ?_; (with_reducible refine (desc_Check.calls a0_0 a0_1 a0_2 a0_3 _ _ l0_4 a0_5 t239 _ ?side1 ?side2 ?side3 A4.out).mono ?_); (case side1 => exact hG.below (by exact pbE HB.out)); (case side2 => exact Kd.C_below HR0_4.out (by exact pbE HB.out)); (case side3 => exact HC0_4.out); rintro e w19 ⟨rfl, hb⟩; refine ⟨_, rfl, ?_⟩; replace BK233 := Az.mk (bkB (bf BK233.out) hb); replace BK234 := Az.mk (bkB (bf BK234.out) hb); replace BK238 := Az.mk (bkB (g := gb238) (o := .cells #[.int .i64 t235, .int .i64 t236] 60 (0, 0)) (by refine bk ?_; refine blk_put (cs := #[.int .i64 t235, .int .i64 0]) ?_ 1 _ rfl; refine bk ?_; refine blk_put (cs := #[.int .i64 0, .int .i64 0]) ?_ 0 _ rfl; refine bk ?_; exact BK238.out) hb); replace HB := Az.mk (pbT (by exact pbE HB.out) hb); (try clear hb); (try clear hb2); (try clear hk); (try clear hi)) | ((with_reducible refine gtc (f := 49) rfl ?_); refine goesL_ (some 21) rfl rfl Tryd.func49 (by kernel_rfl) rfl #[.int .i64 a1] rfl (by (try simp only [List.map_toArray, List.map_cons, List.map_nil]); first | done | rfl | (simp only [List.length_drop, List.length_take]; rfl)) ?_; (with_reducible refine (desc_isNode.calls a1 true _ ?side1 A6.out).mono ?_); (case side1 => exact hG.below (by exact pbE HB.out)); rintro e w' ⟨rfl, ⟨nd, rfl⟩⟩; refine ⟨_, rfl, ?_⟩; (try (rw [drewN_self w19]; generalize hq_ : World.drewN w19 _ = w19; have n0_ : Az (w19.heap[gb233]? = some (.cells #[.int .i64 a0_0, .string a0_1, .string a0_2, .int .i64 a0_3, .slice A0_4 l0_4.length c0_4, .int .i64 a0_5] 26 (0, 0))) := ⟨by rw [← hq_]; exact (bk BK233.out)⟩; have n1_ : Az (w19.heap[gb234]? = some (.cells #[.int .i64 0, .string (⟨#[]⟩ : ByteArray), .string (⟨#[]⟩ : ByteArray), .int .i64 0, .slice none 0 0, .int .i64 0] 26 (0, 0))) := ⟨by rw [← hq_]; exact (bk BK234.out)⟩; have n2_ : Az (w19.heap[gb238]? = some (.cells #[.int .i64 t235, .int .i64 t236] 60 (0, 0))) := ⟨by rw [← hq_]; exact (bk BK238.out)⟩; have n3_ : Az (Below w.heap.size w w19) := ⟨by rw [← hq_]; exact (by exact pbE HB.out)⟩; clear BK233 BK234 BK238 HB hq_; have BK233 := n0_; have BK234 := n1_; have BK238 := n2_; have HB := n3_; clear n0_ n1_ n2_ n3_)); have hcz20 := cells6 BK234.out))
    refine bodyPost_ret (results_ct rfl _ _ gb234 26 #[.int .i64 0, .string (⟨#[]⟩ : ByteArray), .string (⟨#[]⟩ : ByteArray), .int .i64 0, .slice none 0 0, .int .i64 0] (0, 0) _ rfl (by refine bk ?_; refine blk_put (cs := #[.int .i64 0, .string (⟨#[]⟩ : ByteArray), .string (⟨#[]⟩ : ByteArray), .int .i64 0, .slice none 0 0, .int .i64 0]) ?_ 5 _ rfl; refine bk ?_; refine blk_put (cs := #[.int .i64 0, .string (⟨#[]⟩ : ByteArray), .string (⟨#[]⟩ : ByteArray), .int .i64 0, .slice none 0 0, .int .i64 0]) ?_ 4 _ rfl; refine bk ?_; refine blk_put (cs := #[.int .i64 0, .string (⟨#[]⟩ : ByteArray), .string (⟨#[]⟩ : ByteArray), .int .i64 0, .slice none 0 0, .int .i64 0]) ?_ 3 _ rfl; refine bk ?_; refine blk_put (cs := #[.int .i64 0, .string (⟨#[]⟩ : ByteArray), .string (⟨#[]⟩ : ByteArray), .int .i64 0, .slice none 0 0, .int .i64 0]) ?_ 2 _ rfl; refine bk ?_; refine blk_put (cs := #[.int .i64 0, .string (⟨#[]⟩ : ByteArray), .string (⟨#[]⟩ : ByteArray), .int .i64 0, .slice none 0 0, .int .i64 0]) ?_ 1 _ rfl; refine bk ?_; refine blk_put (cs := #[.int .i64 0, .string (⟨#[]⟩ : ByteArray), .string (⟨#[]⟩ : ByteArray), .int .i64 0, .slice none 0 0, .int .i64 0]) ?_ 0 _ rfl; refine bk ?_; exact BK234.out) Tryd.underlying26 rfl (by kernel_rfl)) rfl ?_
    exact ⟨_, by first | rfl | (simp [errW_none, errW_some] <;> rfl) | (simp [*, errW_none, errW_some] <;> rfl), Kd.V_nil _ _ _ _ _, by exact pbE HB.out⟩
   ·replace c8 := Bool.eq_false_iff.mpr c8
    subst c8
    have H1 : (if (l0_4.length : Int) ≥ 5 then (some (0, (⟨#[]⟩ : ByteArray), (⟨#[]⟩ : ByteArray), 0, ([] : List (S60)), 0, 6)) else ((api_Member_33.f l0_4).bind fun t241 => ((some (([(⟨a1, a0_5⟩ : S60)] : List (S60)) : List (S60))).bind fun y244 => (if t241.length + y244.length < 8796093022208 then ((desc_right.f a0_0 a0_1 a0_2 (wrap64 (a0_3 + 1)) (t241 ++ y244) (wrap64 (a0_5 + 1))).bind fun bt250 => (some (bt250.1, bt250.2.1, bt250.2.2.1, bt250.2.2.2.1, bt250.2.2.2.2.1, bt250.2.2.2.2.2.1, bt250.2.2.2.2.2.2))) else (none))))) = some (r1, r2, r3, r4, r5, r6, r7) := by rw [if_neg (show ¬ (false = true) by decide)] at H; exact H
    clear H
    have H := H1
    clear H1
    by_cases c21 : (l0_4.length : Int) ≥ 5
    ·rw [if_pos c21] at H
     have c21b0 : decide (5 ≤ (l0_4.length : Int)) = true := decide_eq_true c21
     have c21b1 : decide (5 ≤ l0_4.length) = true := decide_eq_true (by omega)
     clear c21
     simp only [Option.some.injEq, Prod.mk.injEq] at H
     obtain ⟨rfl, rfl, rfl, rfl, rfl, rfl, rfl⟩ := H
     go_enter Tryd.func25, Tryd.ntmps25
     go_wp2_with (first | ((with_reducible refine gate_dst (N := 2) rfl ?_); refine box_event ?hg (N := 2) ?hd (cs := #[.int .i64 a0_0, .string a0_1, .string a0_2, .int .i64 a0_3, .slice A0_4 l0_4.length c0_4, .int .i64 a0_5]) (t := 26) ?hr ?_; (case hd => rfl); (case hg => rfl); (case hr => first | (go_simp; done) | (go_simp; rfl)); intro gb233 hg w22 hbox hb; have BK233 := Az.mk (hbox); have GW233 := Az.mk (geO hg (pbE HB.out)); have GE233 := Az.mk (geO hg (pbE HB.out)); replace HB := Az.mk (pbT (by exact pbE HB.out) hb); clear hb hbox hg) | ((with_reducible refine gate_dst (N := 4) rfl ?_); refine box_event ?hg (N := 4) ?hd (cs := #[.int .i64 0, .string (⟨#[]⟩ : ByteArray), .string (⟨#[]⟩ : ByteArray), .int .i64 0, .slice none 0 0, .int .i64 0]) (t := 26) ?hr ?_; (case hd => rfl); (case hg => rfl); (case hr => first | (go_simp; done) | (go_simp; rfl)); intro gb234 hg w23 hbox hb; have BK234 := Az.mk (hbox); have GW234 := Az.mk (geO hg (pbE HB.out)); have GE234 := Az.mk (geO hg (pbE HB.out)); replace HB := Az.mk (pbT (by exact pbE HB.out) hb); have NB233_234 := Az.mk (neO hg (bk BK233.out)); have NB234_233 := Az.mk (neP hg (bk BK233.out)); replace BK233 := Az.mk (bkB (bk BK233.out) hb); clear hb hbox hg; have hnb24 := NB233_234.out; have hnc24 := NB234_233.out; have hcz25 := cells6 BK233.out) | ((with_reducible refine gtc (f := 30) rfl ?_); refine goesL_ (some 11) rfl rfl Tryd.func30 (by kernel_rfl) rfl #[.agg #[.int .i64 a0_0, .string a0_1, .string a0_2, .int .i64 a0_3, .slice A0_4 l0_4.length c0_4, .int .i64 a0_5], .int .i64 a1] rfl (by (try simp only [List.map_toArray, List.map_cons, List.map_nil]); first | done | rfl | (simp only [List.length_drop, List.length_take]; rfl)) ?_; (with_reducible refine (desc_On.calls a0_0 a0_1 a0_2 a0_3 _ _ l0_4 a0_5 a1 t235 t236 false _ ?side1 ?side2 ?side3 A3.out).mono ?_); (case side1 => exact hG.below (by exact pbE HB.out)); (case side2 => repeat (first | exact (Kd.C_below HR0_4.out HB.out) | (with_reducible refine Kd.C_alloc ?_ _) | (with_reducible refine Kd.C_drewN ?_ _) | (with_reducible refine Kd.C_drew ?_))); (case side3 => exact HC0_4.out); rintro e w26 ⟨rfl, hb⟩; refine ⟨_, rfl, ?_⟩; replace BK233 := Az.mk (bkB (bk BK233.out) hb); replace BK234 := Az.mk (bkB (bk BK234.out) hb); replace HB := Az.mk (pbT (by exact pbE HB.out) hb); (try clear hb); (try clear hb2); (try clear hk); (try clear hi)) | ((with_reducible refine gate_dst (N := 6) rfl ?_); refine box_event ?hg (N := 6) ?hd (cs := #[.int .i64 0, .int .i64 0]) (t := 60) ?hr ?_; (case hd => rfl); (case hg => rfl); (case hr => first | (go_simp; done) | (go_simp; rfl)); intro gb238 hg w27 hbox hb; have BK238 := Az.mk (hbox); have GW238 := Az.mk (geO hg (pbE HB.out)); have GE238 := Az.mk (geO hg (pbE HB.out)); replace HB := Az.mk (pbT (by exact pbE HB.out) hb); have NB233_238 := Az.mk (neO hg (bk BK233.out)); have NB238_233 := Az.mk (neP hg (bk BK233.out)); replace BK233 := Az.mk (bkB (bk BK233.out) hb); have NB234_238 := Az.mk (neO hg (bk BK234.out)); have NB238_234 := Az.mk (neP hg (bk BK234.out)); replace BK234 := Az.mk (bkB (bk BK234.out) hb); clear hb hbox hg; have hnb28 := NB238_233.out; have hnc28 := NB233_238.out; have hnb29 := NB238_234.out; have hnc29 := NB234_238.out; have hcz30 := cells2 BK238.out; have hcz31 := cells6 BK233.out) | ((with_reducible refine gtc (f := 22) rfl ?_); refine goesL_ (some 16) rfl rfl Tryd.func22 (by kernel_rfl) rfl #[.agg #[.int .i64 a0_0, .string a0_1, .string a0_2, .int .i64 a0_3, .slice A0_4 l0_4.length c0_4, .int .i64 a0_5]] rfl (by (try simp only [List.map_toArray, List.map_cons, List.map_nil]); first | done | rfl | (simp only [List.length_drop, List.length_take]; rfl)) ?_; (with_reducible refine (desc_Check.calls a0_0 a0_1 a0_2 a0_3 _ _ l0_4 a0_5 t239 _ ?side1 ?side2 ?side3 A4.out).mono ?_); (case side1 => exact hG.below (by exact pbE HB.out)); (case side2 => exact Kd.C_below HR0_4.out (by exact pbE HB.out)); (case side3 => exact HC0_4.out); rintro e w32 ⟨rfl, hb⟩; refine ⟨_, rfl, ?_⟩; replace BK233 := Az.mk (bkB (bf BK233.out) hb); replace BK234 := Az.mk (bkB (bf BK234.out) hb); replace BK238 := Az.mk (bkB (g := gb238) (o := .cells #[.int .i64 t235, .int .i64 t236] 60 (0, 0)) (by refine bk ?_; refine blk_put (cs := #[.int .i64 t235, .int .i64 0]) ?_ 1 _ rfl; refine bk ?_; refine blk_put (cs := #[.int .i64 0, .int .i64 0]) ?_ 0 _ rfl; refine bk ?_; exact BK238.out) hb); replace HB := Az.mk (pbT (by exact pbE HB.out) hb); (try clear hb); (try clear hb2); (try clear hk); (try clear hi)) | ((with_reducible refine gtc (f := 49) rfl ?_); refine goesL_ (some 21) rfl rfl Tryd.func49 (by kernel_rfl) rfl #[.int .i64 a1] rfl (by (try simp only [List.map_toArray, List.map_cons, List.map_nil]); first | done | rfl | (simp only [List.length_drop, List.length_take]; rfl)) ?_; (with_reducible refine (desc_isNode.calls a1 true _ ?side1 A6.out).mono ?_); (case side1 => exact hG.below (by exact pbE HB.out)); rintro e w' ⟨rfl, ⟨nd, rfl⟩⟩; refine ⟨_, rfl, ?_⟩; (try (rw [drewN_self w32]; generalize hq_ : World.drewN w32 _ = w32; have n0_ : Az (w32.heap[gb233]? = some (.cells #[.int .i64 a0_0, .string a0_1, .string a0_2, .int .i64 a0_3, .slice A0_4 l0_4.length c0_4, .int .i64 a0_5] 26 (0, 0))) := ⟨by rw [← hq_]; exact (bk BK233.out)⟩; have n1_ : Az (w32.heap[gb234]? = some (.cells #[.int .i64 0, .string (⟨#[]⟩ : ByteArray), .string (⟨#[]⟩ : ByteArray), .int .i64 0, .slice none 0 0, .int .i64 0] 26 (0, 0))) := ⟨by rw [← hq_]; exact (bk BK234.out)⟩; have n2_ : Az (w32.heap[gb238]? = some (.cells #[.int .i64 t235, .int .i64 t236] 60 (0, 0))) := ⟨by rw [← hq_]; exact (bk BK238.out)⟩; have n3_ : Az (Below w.heap.size w w32) := ⟨by rw [← hq_]; exact (by exact pbE HB.out)⟩; clear BK233 BK234 BK238 HB hq_; have BK233 := n0_; have BK234 := n1_; have BK238 := n2_; have HB := n3_; clear n0_ n1_ n2_ n3_)); have hcz33 := cells6 BK233.out; have hcz34 := cells6 BK234.out))
     refine bodyPost_ret (results_ct rfl _ _ gb234 26 #[.int .i64 0, .string (⟨#[]⟩ : ByteArray), .string (⟨#[]⟩ : ByteArray), .int .i64 0, .slice none 0 0, .int .i64 0] (0, 0) _ rfl (by refine bk ?_; refine blk_put (cs := #[.int .i64 0, .string (⟨#[]⟩ : ByteArray), .string (⟨#[]⟩ : ByteArray), .int .i64 0, .slice none 0 0, .int .i64 0]) ?_ 5 _ rfl; refine bk ?_; refine blk_put (cs := #[.int .i64 0, .string (⟨#[]⟩ : ByteArray), .string (⟨#[]⟩ : ByteArray), .int .i64 0, .slice none 0 0, .int .i64 0]) ?_ 4 _ rfl; refine bk ?_; refine blk_put (cs := #[.int .i64 0, .string (⟨#[]⟩ : ByteArray), .string (⟨#[]⟩ : ByteArray), .int .i64 0, .slice none 0 0, .int .i64 0]) ?_ 3 _ rfl; refine bk ?_; refine blk_put (cs := #[.int .i64 0, .string (⟨#[]⟩ : ByteArray), .string (⟨#[]⟩ : ByteArray), .int .i64 0, .slice none 0 0, .int .i64 0]) ?_ 2 _ rfl; refine bk ?_; refine blk_put (cs := #[.int .i64 0, .string (⟨#[]⟩ : ByteArray), .string (⟨#[]⟩ : ByteArray), .int .i64 0, .slice none 0 0, .int .i64 0]) ?_ 1 _ rfl; refine bk ?_; refine blk_put (cs := #[.int .i64 0, .string (⟨#[]⟩ : ByteArray), .string (⟨#[]⟩ : ByteArray), .int .i64 0, .slice none 0 0, .int .i64 0]) ?_ 0 _ rfl; refine bk ?_; exact BK234.out) Tryd.underlying26 rfl (by kernel_rfl)) rfl ?_
     exact ⟨_, by first | rfl | (simp [errW_none, errW_some] <;> rfl) | (simp [*, errW_none, errW_some] <;> rfl), Kd.V_nil _ _ _ _ _, by exact pbE HB.out⟩
    ·rw [if_neg c21] at H
     have c21b0 : decide (5 ≤ (l0_4.length : Int)) = false := decide_eq_false c21
     have c21b1 : decide (5 ≤ l0_4.length) = false := decide_eq_false (by omega)
     clear c21
     replace H := Option.bind_eq_some_iff.mp H
     obtain ⟨t241, A350, H⟩ := H
     replace H : ((some (([(⟨a1, a0_5⟩ : S60)] : List (S60)) : List (S60))).bind fun y244 => (if t241.length + y244.length < 8796093022208 then ((desc_right.f a0_0 a0_1 a0_2 (wrap64 (a0_3 + 1)) (t241 ++ y244) (wrap64 (a0_5 + 1))).bind fun bt250 => (some (bt250.1, bt250.2.1, bt250.2.2.1, bt250.2.2.2.1, bt250.2.2.2.2.1, bt250.2.2.2.2.2.1, bt250.2.2.2.2.2.2))) else (none))) = some (r1, r2, r3, r4, r5, r6, r7) := H
     have A35 := Az.mk A350
     clear A350
     obtain ⟨y244, hy244⟩ : ∃ y_ : List (S60), y_ = (([(⟨a1, a0_5⟩ : S60)] : List (S60))) := ⟨_, rfl⟩
     replace H : (if t241.length + y244.length < 8796093022208 then ((desc_right.f a0_0 a0_1 a0_2 (wrap64 (a0_3 + 1)) (t241 ++ y244) (wrap64 (a0_5 + 1))).bind fun bt250 => (some (bt250.1, bt250.2.1, bt250.2.2.1, bt250.2.2.2.1, bt250.2.2.2.2.1, bt250.2.2.2.2.2.1, bt250.2.2.2.2.2.2))) else (none)) = some (r1, r2, r3, r4, r5, r6, r7) := by first | (rw [hy244]; with_reducible exact H) | (have H2_ := (Option.bind_some _ _).symm.trans H; rw [hy244]; with_reducible exact H2_) | (have H2_ := (Option.bind_some _ _).symm.trans H; with_reducible exact H2_) | with_reducible exact H | (rw [hy244]; exact H) | exact H
     have Ny244 := Az.mk hy244
     clear hy244
     by_cases c36 : t241.length + y244.length < 8796093022208
     ·rw [if_pos c36] at H
      have LMc36 := Az.mk c36
      clear c36
      obtain ⟨y247, hy247⟩ : ∃ y_ : List (S60), y_ = (t241 ++ y244) := ⟨_, rfl⟩
      replace H : ((desc_right.f a0_0 a0_1 a0_2 (wrap64 (a0_3 + 1)) y247 (wrap64 (a0_5 + 1))).bind fun bt250 => (some (bt250.1, bt250.2.1, bt250.2.2.1, bt250.2.2.2.1, bt250.2.2.2.2.1, bt250.2.2.2.2.2.1, bt250.2.2.2.2.2.2))) = some (r1, r2, r3, r4, r5, r6, r7) := by first | (rw [hy247]; with_reducible exact H) | (have H2_ := (Option.bind_some _ _).symm.trans H; rw [hy247]; with_reducible exact H2_) | (have H2_ := (Option.bind_some _ _).symm.trans H; with_reducible exact H2_) | with_reducible exact H | (rw [hy247]; exact H) | exact H
      have Ny247 := Az.mk hy247
      clear hy247
      replace H := Option.bind_eq_some_iff.mp H
      obtain ⟨⟨t250, t251, t252, t253, t254, t257, t258⟩, A370, H⟩ := H
      replace H : (some (t250, t251, t252, t253, t254, t257, t258)) = some (r1, r2, r3, r4, r5, r6, r7) := H
      have A37 := Az.mk A370
      clear A370
      simp only [Option.some.injEq, Prod.mk.injEq] at H
      obtain ⟨rfl, rfl, rfl, rfl, rfl, rfl, rfl⟩ := H
      go_enter Tryd.func25, Tryd.ntmps25
      try go_wp2_with (first | ((with_reducible refine gate_dst (N := 2) rfl ?_); refine box_event ?hg (N := 2) ?hd (cs := #[.int .i64 a0_0, .string a0_1, .string a0_2, .int .i64 a0_3, .slice A0_4 l0_4.length c0_4, .int .i64 a0_5]) (t := 26) ?hr ?_; (case hd => rfl); (case hg => rfl); (case hr => first | (go_simp; done) | (go_simp; rfl)); intro gb233 hg w38 hbox hb; have BK233 := Az.mk (hbox); have GW233 := Az.mk (geO hg (pbE HB.out)); have GE233 := Az.mk (geO hg (pbE HB.out)); replace HB := Az.mk (pbT (by exact pbE HB.out) hb); clear hb hbox hg) | ((with_reducible refine gate_dst (N := 4) rfl ?_); refine box_event ?hg (N := 4) ?hd (cs := #[.int .i64 0, .string (⟨#[]⟩ : ByteArray), .string (⟨#[]⟩ : ByteArray), .int .i64 0, .slice none 0 0, .int .i64 0]) (t := 26) ?hr ?_; (case hd => rfl); (case hg => rfl); (case hr => first | (go_simp; done) | (go_simp; rfl)); intro gb234 hg w39 hbox hb; have BK234 := Az.mk (hbox); have GW234 := Az.mk (geO hg (pbE HB.out)); have GE234 := Az.mk (geO hg (pbE HB.out)); replace HB := Az.mk (pbT (by exact pbE HB.out) hb); have NB233_234 := Az.mk (neO hg (bk BK233.out)); have NB234_233 := Az.mk (neP hg (bk BK233.out)); replace BK233 := Az.mk (bkB (bk BK233.out) hb); clear hb hbox hg; have hnb40 := NB233_234.out; have hnc40 := NB234_233.out; have hcz41 := cells6 BK233.out) | ((with_reducible refine gtc (f := 30) rfl ?_); refine goesL_ (some 11) rfl rfl Tryd.func30 (by kernel_rfl) rfl #[.agg #[.int .i64 a0_0, .string a0_1, .string a0_2, .int .i64 a0_3, .slice A0_4 l0_4.length c0_4, .int .i64 a0_5], .int .i64 a1] rfl (by (try simp only [List.map_toArray, List.map_cons, List.map_nil]); first | done | rfl | (simp only [List.length_drop, List.length_take]; rfl)) ?_; (with_reducible refine (desc_On.calls a0_0 a0_1 a0_2 a0_3 _ _ l0_4 a0_5 a1 t235 t236 false _ ?side1 ?side2 ?side3 A3.out).mono ?_); (case side1 => exact hG.below (by exact pbE HB.out)); (case side2 => repeat (first | exact (Kd.C_below HR0_4.out HB.out) | (with_reducible refine Kd.C_alloc ?_ _) | (with_reducible refine Kd.C_drewN ?_ _) | (with_reducible refine Kd.C_drew ?_))); (case side3 => exact HC0_4.out); rintro e w42 ⟨rfl, hb⟩; refine ⟨_, rfl, ?_⟩; replace BK233 := Az.mk (bkB (bk BK233.out) hb); replace BK234 := Az.mk (bkB (bk BK234.out) hb); replace HB := Az.mk (pbT (by exact pbE HB.out) hb); (try clear hb); (try clear hb2); (try clear hk); (try clear hi)) | ((with_reducible refine gate_dst (N := 6) rfl ?_); refine box_event ?hg (N := 6) ?hd (cs := #[.int .i64 0, .int .i64 0]) (t := 60) ?hr ?_; (case hd => rfl); (case hg => rfl); (case hr => first | (go_simp; done) | (go_simp; rfl)); intro gb238 hg w43 hbox hb; have BK238 := Az.mk (hbox); have GW238 := Az.mk (geO hg (pbE HB.out)); have GE238 := Az.mk (geO hg (pbE HB.out)); replace HB := Az.mk (pbT (by exact pbE HB.out) hb); have NB233_238 := Az.mk (neO hg (bk BK233.out)); have NB238_233 := Az.mk (neP hg (bk BK233.out)); replace BK233 := Az.mk (bkB (bk BK233.out) hb); have NB234_238 := Az.mk (neO hg (bk BK234.out)); have NB238_234 := Az.mk (neP hg (bk BK234.out)); replace BK234 := Az.mk (bkB (bk BK234.out) hb); clear hb hbox hg; have hnb44 := NB238_233.out; have hnc44 := NB233_238.out; have hnb45 := NB238_234.out; have hnc45 := NB234_238.out; have hcz46 := cells2 BK238.out; have hcz47 := cells6 BK233.out) | ((with_reducible refine gtc (f := 22) rfl ?_); refine goesL_ (some 16) rfl rfl Tryd.func22 (by kernel_rfl) rfl #[.agg #[.int .i64 a0_0, .string a0_1, .string a0_2, .int .i64 a0_3, .slice A0_4 l0_4.length c0_4, .int .i64 a0_5]] rfl (by (try simp only [List.map_toArray, List.map_cons, List.map_nil]); first | done | rfl | (simp only [List.length_drop, List.length_take]; rfl)) ?_; (with_reducible refine (desc_Check.calls a0_0 a0_1 a0_2 a0_3 _ _ l0_4 a0_5 t239 _ ?side1 ?side2 ?side3 A4.out).mono ?_); (case side1 => exact hG.below (by exact pbE HB.out)); (case side2 => exact Kd.C_below HR0_4.out (by exact pbE HB.out)); (case side3 => exact HC0_4.out); rintro e w48 ⟨rfl, hb⟩; refine ⟨_, rfl, ?_⟩; replace BK233 := Az.mk (bkB (bf BK233.out) hb); replace BK234 := Az.mk (bkB (bf BK234.out) hb); replace BK238 := Az.mk (bkB (g := gb238) (o := .cells #[.int .i64 t235, .int .i64 t236] 60 (0, 0)) (by refine bk ?_; refine blk_put (cs := #[.int .i64 t235, .int .i64 0]) ?_ 1 _ rfl; refine bk ?_; refine blk_put (cs := #[.int .i64 0, .int .i64 0]) ?_ 0 _ rfl; refine bk ?_; exact BK238.out) hb); replace HB := Az.mk (pbT (by exact pbE HB.out) hb); (try clear hb); (try clear hb2); (try clear hk); (try clear hi)) | ((with_reducible refine gtc (f := 49) rfl ?_); refine goesL_ (some 21) rfl rfl Tryd.func49 (by kernel_rfl) rfl #[.int .i64 a1] rfl (by (try simp only [List.map_toArray, List.map_cons, List.map_nil]); first | done | rfl | (simp only [List.length_drop, List.length_take]; rfl)) ?_; (with_reducible refine (desc_isNode.calls a1 true _ ?side1 A6.out).mono ?_); (case side1 => exact hG.below (by exact pbE HB.out)); rintro e w' ⟨rfl, ⟨nd, rfl⟩⟩; refine ⟨_, rfl, ?_⟩; (try (rw [drewN_self w48]; generalize hq_ : World.drewN w48 _ = w48; have n0_ : Az (w48.heap[gb233]? = some (.cells #[.int .i64 a0_0, .string a0_1, .string a0_2, .int .i64 a0_3, .slice A0_4 l0_4.length c0_4, .int .i64 a0_5] 26 (0, 0))) := ⟨by rw [← hq_]; exact (bk BK233.out)⟩; have n1_ : Az (w48.heap[gb234]? = some (.cells #[.int .i64 0, .string (⟨#[]⟩ : ByteArray), .string (⟨#[]⟩ : ByteArray), .int .i64 0, .slice none 0 0, .int .i64 0] 26 (0, 0))) := ⟨by rw [← hq_]; exact (bk BK234.out)⟩; have n2_ : Az (w48.heap[gb238]? = some (.cells #[.int .i64 t235, .int .i64 t236] 60 (0, 0))) := ⟨by rw [← hq_]; exact (bk BK238.out)⟩; have n3_ : Az (Below w.heap.size w w48) := ⟨by rw [← hq_]; exact (by exact pbE HB.out)⟩; clear BK233 BK234 BK238 HB hq_; have BK233 := n0_; have BK234 := n1_; have BK238 := n2_; have HB := n3_; clear n0_ n1_ n2_ n3_)); have hcz49 := cells6 BK233.out))
      replace BK233 := Az.mk (bkD BK233.out)
      replace BK234 := Az.mk (bkD BK234.out)
      replace BK238 := Az.mk (bkD BK238.out)
      replace HB := Az.mk (pb1 HB.out)
      refine start_ (n := 11) (S := fun w' => w'.cell? ⟨gb233, 0, none⟩ = some (.int .i64 a0_0) ∧ w'.cell? ⟨gb233, 1, none⟩ = some (.string a0_1) ∧ w'.cell? ⟨gb233, 2, none⟩ = some (.string a0_2) ∧ w'.cell? ⟨gb233, 3, none⟩ = some (.int .i64 a0_3) ∧ w'.cell? ⟨gb233, 4, none⟩ = some (.slice A0_4 l0_4.length c0_4) ∧ w'.cell? ⟨gb233, 5, none⟩ = some (.int .i64 a0_5)) (ds := [10]) #[false, false, false, false, false, false, false, false, false, false, false] (by kernel_rfl) rfl rfl ⟨(bkC BK233.out 0).trans rfl, (bkC BK233.out 1).trans rfl, (bkC BK233.out 2).trans rfl, (bkC BK233.out 3).trans rfl, (bkC BK233.out 4).trans rfl, (bkC BK233.out 5).trans rfl⟩ (fun hHeld => ?_); refine with_tabW desc_Add.tab10 desc_Add.bits10 (fun HT_ HW_ => ?_)
      generalize w48.drew = w50 at BK233 BK234 BK238 HB hHeld ⊢
      refine pure_ (i := 0) (N := some 33) (v := ?_) (a' := ?_) #[true, false, false, false, false, false, false, false, false, false, false] rfl rfl (any_of HT_.out (by kernel_rfl)) (fun _ _ _ h => h) (Or.inl ⟨by rfl, ?_⟩) ?_ ?_
      rotate_left
      ·intro w'
       go_simp
       with_reducible rfl
      rotate_left
      ·simp only [Act.put, List.setIfInBounds_toArray, List.set_cons_zero, List.set_cons_succ, i64_w, i32_w]
       rfl
      refine pure_ (i := 3) (N := some 36) (v := ?_) (a' := ?_) #[true, false, false, true, false, false, false, false, false, false, false] rfl rfl (any_of HT_.out (by kernel_rfl)) (fun _ _ _ h => h) (Or.inl ⟨by rfl, ?_⟩) ?_ ?_
      rotate_left
      ·intro w'
       go_simp
       with_reducible rfl
      rotate_left
      ·simp only [Act.put, List.setIfInBounds_toArray, List.set_cons_zero, List.set_cons_succ, i64_w, i32_w]
       rfl
      refine pure_ (i := 4) (N := some 37) (v := ?_) (a' := ?_) #[true, false, false, true, true, false, false, false, false, false, false] rfl rfl (any_of HT_.out (by kernel_rfl)) (fun _ _ _ h => h) (Or.inl ⟨by rfl, ?_⟩) ?_ ?_
      rotate_left
      ·intro w'
       go_simp
       with_reducible rfl
      rotate_left
      ·simp only [Act.put, List.setIfInBounds_toArray, List.set_cons_zero, List.set_cons_succ, i64_w, i32_w]
       rfl
      refine take_ (i := 1) (N := some 34) (v := ?_) (a' := ?_) #[true, true, false, true, true, false, false, false, false, false, false] rfl rfl (take_ofW HT_.out HW_.out (by kernel_rfl)) (fun _ _ _ h => h) (Or.inl ⟨by rfl, ?_⟩) hHeld ?_ ?_
      rotate_left
      ·rintro w' ⟨s0, s1, s2, s3, s4, s5⟩
       go_simp
       with_reducible rfl
      rotate_left
      ·simp only [Act.put, List.setIfInBounds_toArray, List.set_cons_zero, List.set_cons_succ, i64_w, i32_w]
       rfl
      refine take_ (i := 5) (N := some 38) (v := ?_) (a' := ?_) #[true, true, false, true, true, true, false, false, false, false, false] rfl rfl (take_ofW HT_.out HW_.out (by kernel_rfl)) (fun _ _ _ h => h) (Or.inl ⟨by rfl, ?_⟩) hHeld ?_ ?_
      rotate_left
      ·rintro w' ⟨s0, s1, s2, s3, s4, s5⟩
       go_simp
       with_reducible rfl
      rotate_left
      ·simp only [Act.put, List.setIfInBounds_toArray, List.set_cons_zero, List.set_cons_succ, i64_w, i32_w]
       rfl
      refine pure_ (i := 6) (N := some 39) (v := ?_) (a' := ?_) #[true, true, false, true, true, true, true, false, false, false, false] rfl rfl (any_of HT_.out (by kernel_rfl)) (fun _ _ _ h => h) (Or.inl ⟨by rfl, ?_⟩) ?_ ?_
      rotate_left
      ·intro w'
       go_simp
       with_reducible rfl
      rotate_left
      ·simp only [Act.put, List.setIfInBounds_toArray, List.set_cons_zero, List.set_cons_succ, i64_w, i32_w]
       rfl
      refine join_ (σ := Value × Value) 3 #[true, true, true, true, true, true, true, true, false, false, false] (fun s_ => [(35, s_.1), (40, s_.2)]) (fun s_ w' => (w'.cell? ⟨gb233, 0, none⟩ = some (.int .i64 a0_0) ∧ w'.cell? ⟨gb233, 1, none⟩ = some (.string a0_1) ∧ w'.cell? ⟨gb233, 2, none⟩ = some (.string a0_2) ∧ w'.cell? ⟨gb233, 3, none⟩ = some (.int .i64 a0_3) ∧ w'.cell? ⟨gb233, 4, none⟩ = some (.slice A0_4 l0_4.length c0_4) ∧ w'.cell? ⟨gb233, 5, none⟩ = some (.int .i64 a0_5)) ∧ (Kd.R k60 60 w' w.heap.size (fun k_ => (w.heap.size ≤ k_) ∧ some k_ ≠ (s_.2 : Value).ownBlock ∧ k_ ≠ gb238) s_.1 t241) ∧ (Kd.R k60 60 w' w.heap.size (fun k_ => (w.heap.size ≤ k_) ∧ some k_ ≠ (s_.1 : Value).ownBlock ∧ k_ ≠ gb238) s_.2 y244) ∧ (w'.heap[gb233]? = some (.cells #[.int .i64 a0_0, .string a0_1, .string a0_2, .int .i64 a0_3, .slice A0_4 l0_4.length c0_4, .int .i64 a0_5] 26 (0, 0))) ∧ (w'.heap[gb234]? = some (.cells #[.int .i64 0, .string (⟨#[]⟩ : ByteArray), .string (⟨#[]⟩ : ByteArray), .int .i64 0, .slice none 0 0, .int .i64 0] 26 (0, 0))) ∧ (w'.heap[gb238]? = some (.cells #[.int .i64 t235, .int .i64 t236] 60 (0, 0))) ∧ (Below w.heap.size w w')) ?_ ?_
      rotate_left
      ·intro hCont
       refine two_ (i := 2) (j := 7) (Ni := some 35) (Nj := some 40) #[true, true, true, true, true, true, true, false, false, false, false] #[true, true, false, true, true, true, true, true, false, false, false] rfl rfl rfl rfl (two_of HT_.out (by kernel_rfl)) (by decide) (by decide) (fun K hK => ?_) (fun K hK => ?_)
       ·skip
        refine goes_ Tryd.func33 (by kernel_rfl) rfl #[.slice A0_4 l0_4.length c0_4] (by rfl) rfl rfl (by (try simp only [List.map_toArray, List.map_cons, List.map_nil]); first | done | rfl | (simp only [List.length_drop, List.length_take]; rfl)) ?_
        with_reducible refine (api_Member_33.calls _ _ l0_4 t241 _ ?side1 ?side2 ?side3 A35.out).mono ?_
        (case side1 => exact hG.below (by exact pbE HB.out))
        (case side2 => repeat (first | exact (Kd.C_below HR0_4.out HB.out) | (with_reducible refine Kd.C_alloc ?_ _) | (with_reducible refine Kd.C_drewN ?_ _) | (with_reducible refine Kd.C_drew ?_)))
        (case side3 => exact HC0_4.out)
        rintro e w51 ⟨v242, rfl, ho0, hb⟩
        refine ⟨_, rfl, ?_⟩
        have HO243 := Az.mk (Kd.R_lower (Kd.R_newB (Kd.R_newM (M := fun k_ => (w.heap.size ≤ k_)) (Kd.R_mono (ok' := fun k_ => True) ho0 (fun _ hk_ => trivial)) (pbZ (by exact pbE HB.out)) (fun k_ h_ => h_)) (bk BK238.out)) (pbZ (by exact pbE HB.out)))
        replace BK233 := Az.mk (bkB (bk BK233.out) hb)
        replace BK234 := Az.mk (bkB (bk BK234.out) hb)
        replace BK238 := Az.mk (bkB (bk BK238.out) hb)
        replace HB := Az.mk (pbT (by exact pbE HB.out) hb)
        (try clear hb)
        (try clear hb2)
        (try clear hk)
        (try clear hi)
        (try clear ho0)
        refine hK.out _ _ ⟨(bkC BK233.out 0).trans rfl, (bkC BK233.out 1).trans rfl, (bkC BK233.out 2).trans rfl, (bkC BK233.out 3).trans rfl, (bkC BK233.out 4).trans rfl, (bkC BK233.out 5).trans rfl⟩ (fun hHeld => ?_)
        clear hK K
        refine norm_ (a' := ?_) ?_ ?_
        rotate_left
        ·show Act.put _ (some 35) _ = _
         simp only [Act.put, List.setIfInBounds_toArray, List.set_cons_zero, List.set_cons_succ, i64_w, i32_w]
         rfl
        refine one_ (i := 7) (N := some 40) #[true, true, true, true, true, true, true, true, false, false, false] rfl rfl (one_of HT_.out (by kernel_rfl)) (by decide) (fun K hK => ?_)
        refine Kd.R_lit_step k60 _ 60 ?hg (N := 40) ?hd (xs := ([(⟨a1, a0_5⟩ : S60)] : List (S60))) (inner := [.int .i64 a1, .int .i64 a0_5]) (ok := fun _ => True) (okp := fun _ => True) ?hr ?hp (fun _ hk => hk) trivial (Below.refl _ _) (Nat.le_refl _) (by simp) ?_; (case hd => rfl); (case hg => rfl); (case hr => first | (go_simp; done) | (go_simp; rfl)); (case hp => exact (Reps.c2 (show Kd.M k60 _ _ _ (⟨a1, a0_5⟩ : S60) [.int .i64 a1, .int .i64 a0_5] from (k60_mkM _ _ _ (⟨a1, a0_5⟩ : S60) )) (Reps.none _ _)))
        intro v245 w52 ho53 hb hg_ hnew_
        clear hg_ hnew_
        (first | rw [← Ny244.out] at ho53 | (simp only [Int.reduceToNat] at ho53; rw [← Ny244.out] at ho53))
        have HO246 := Az.mk (Kd.R_lower (Kd.R_newB (Kd.R_new' (Kd.R_newM (M := fun k_ => (w.heap.size ≤ k_)) ho53 (pbZ (by exact pbE HB.out)) (fun k_ h_ => h_)) (Kd.R_lt (Kd.R_ext HO243.out))) (bk BK238.out)) (pbZ (by exact pbE HB.out)))
        replace HO243 := Az.mk (Kd.R_elder' (Kd.R_ext HO243.out) (Kd.R_base ho53) hb)
        replace BK233 := Az.mk (bkB (bk BK233.out) hb)
        replace BK234 := Az.mk (bkB (bk BK234.out) hb)
        replace BK238 := Az.mk (bkB (bk BK238.out) hb)
        replace HB := Az.mk (pbT (by exact pbE HB.out) hb)
        clear hb ho53
        refine hK.out _ _ ⟨(bkC BK233.out 0).trans rfl, (bkC BK233.out 1).trans rfl, (bkC BK233.out 2).trans rfl, (bkC BK233.out 3).trans rfl, (bkC BK233.out 4).trans rfl, (bkC BK233.out 5).trans rfl⟩ (fun hHeld => ?_)
        clear hK K
        refine norm_ (a' := ?_) ?_ ?_
        rotate_left
        ·show Act.put _ (some 40) _ = _
         simp only [Act.put, List.setIfInBounds_toArray, List.set_cons_zero, List.set_cons_succ, i64_w, i32_w]
         rfl
        exact norm_ (by simp only [putAll, Act.put, List.setIfInBounds_toArray, List.set_cons_zero, List.set_cons_succ]) (hCont (v242, v245) _ ⟨hHeld, (by (with_reducible repeat (first | apply Kd.R_alloc | apply Kd.R_drewN | apply Kd.R_drew)); exact Kd.R_mono HO243.out (fun _ hk => ⟨hk.1.1.1, ⟨hk.2, hk.1.2⟩⟩)), (by (with_reducible repeat (first | apply Kd.R_alloc | apply Kd.R_drewN | apply Kd.R_drew)); exact Kd.R_mono HO246.out (fun _ hk => ⟨hk.1.1.1, ⟨hk.1.2, hk.2⟩⟩)), (bk BK233.out), (bk BK234.out), (bk BK238.out), (by exact pbE HB.out)⟩)
       ·skip
        refine Kd.R_lit_step k60 _ 60 ?hg (N := 40) ?hd (xs := ([(⟨a1, a0_5⟩ : S60)] : List (S60))) (inner := [.int .i64 a1, .int .i64 a0_5]) (ok := fun _ => True) (okp := fun _ => True) ?hr ?hp (fun _ hk => hk) trivial (Below.refl _ _) (Nat.le_refl _) (by simp) ?_; (case hd => rfl); (case hg => rfl); (case hr => first | (go_simp; done) | (go_simp; rfl)); (case hp => exact (Reps.c2 (show Kd.M k60 _ _ _ (⟨a1, a0_5⟩ : S60) [.int .i64 a1, .int .i64 a0_5] from (k60_mkM _ _ _ (⟨a1, a0_5⟩ : S60) )) (Reps.none _ _)))
        intro v245 w51 ho52 hb hg_ hnew_
        clear hg_ hnew_
        (first | rw [← Ny244.out] at ho52 | (simp only [Int.reduceToNat] at ho52; rw [← Ny244.out] at ho52))
        have HO246 := Az.mk (Kd.R_lower (Kd.R_newB (Kd.R_newM (M := fun k_ => (w.heap.size ≤ k_)) ho52 (pbZ (by exact pbE HB.out)) (fun k_ h_ => h_)) (bk BK238.out)) (pbZ (by exact pbE HB.out)))
        replace BK233 := Az.mk (bkB (bk BK233.out) hb)
        replace BK234 := Az.mk (bkB (bk BK234.out) hb)
        replace BK238 := Az.mk (bkB (bk BK238.out) hb)
        replace HB := Az.mk (pbT (by exact pbE HB.out) hb)
        clear hb ho52
        refine hK.out _ _ ⟨(bkC BK233.out 0).trans rfl, (bkC BK233.out 1).trans rfl, (bkC BK233.out 2).trans rfl, (bkC BK233.out 3).trans rfl, (bkC BK233.out 4).trans rfl, (bkC BK233.out 5).trans rfl⟩ (fun hHeld => ?_)
        clear hK K
        refine norm_ (a' := ?_) ?_ ?_
        rotate_left
        ·show Act.put _ (some 40) _ = _
         simp only [Act.put, List.setIfInBounds_toArray, List.set_cons_zero, List.set_cons_succ, i64_w, i32_w]
         rfl
        refine one_ (i := 2) (N := some 35) #[true, true, true, true, true, true, true, true, false, false, false] rfl rfl (one_of HT_.out (by kernel_rfl)) (by decide) (fun K hK => ?_)
        refine goes_ Tryd.func33 (by kernel_rfl) rfl #[.slice A0_4 l0_4.length c0_4] (by rfl) rfl rfl (by (try simp only [List.map_toArray, List.map_cons, List.map_nil]); first | done | rfl | (simp only [List.length_drop, List.length_take]; rfl)) ?_
        with_reducible refine (api_Member_33.calls _ _ l0_4 t241 _ ?side1 ?side2 ?side3 A35.out).mono ?_
        (case side1 => exact hG.below (by exact pbE HB.out))
        (case side2 => repeat (first | exact (Kd.C_below HR0_4.out HB.out) | (with_reducible refine Kd.C_alloc ?_ _) | (with_reducible refine Kd.C_drewN ?_ _) | (with_reducible refine Kd.C_drew ?_)))
        (case side3 => exact HC0_4.out)
        rintro e w53 ⟨v242, rfl, ho0, hb⟩
        refine ⟨_, rfl, ?_⟩
        have HO243 := Az.mk (Kd.R_lower (Kd.R_newB (Kd.R_new' (Kd.R_newM (M := fun k_ => (w.heap.size ≤ k_)) (Kd.R_mono (ok' := fun k_ => True) ho0 (fun _ hk_ => trivial)) (pbZ (by exact pbE HB.out)) (fun k_ h_ => h_)) (Kd.R_lt (Kd.R_ext HO246.out))) (bk BK238.out)) (pbZ (by exact pbE HB.out)))
        replace HO246 := Az.mk (Kd.R_elder' (Kd.R_ext HO246.out) (Kd.R_base ho0) hb)
        replace BK233 := Az.mk (bkB (bk BK233.out) hb)
        replace BK234 := Az.mk (bkB (bk BK234.out) hb)
        replace BK238 := Az.mk (bkB (bk BK238.out) hb)
        replace HB := Az.mk (pbT (by exact pbE HB.out) hb)
        (try clear hb)
        (try clear hb2)
        (try clear hk)
        (try clear hi)
        (try clear ho0)
        refine hK.out _ _ ⟨(bkC BK233.out 0).trans rfl, (bkC BK233.out 1).trans rfl, (bkC BK233.out 2).trans rfl, (bkC BK233.out 3).trans rfl, (bkC BK233.out 4).trans rfl, (bkC BK233.out 5).trans rfl⟩ (fun hHeld => ?_)
        clear hK K
        refine norm_ (a' := ?_) ?_ ?_
        rotate_left
        ·show Act.put _ (some 35) _ = _
         simp only [Act.put, List.setIfInBounds_toArray, List.set_cons_zero, List.set_cons_succ, i64_w, i32_w]
         rfl
        exact norm_ (by simp only [putAll, Act.put, List.setIfInBounds_toArray, List.set_cons_zero, List.set_cons_succ]) (hCont (v242, v245) _ ⟨hHeld, (by (with_reducible repeat (first | apply Kd.R_alloc | apply Kd.R_drewN | apply Kd.R_drew)); exact Kd.R_mono HO243.out (fun _ hk => ⟨hk.1.1.1, ⟨hk.1.2, hk.2⟩⟩)), (by (with_reducible repeat (first | apply Kd.R_alloc | apply Kd.R_drewN | apply Kd.R_drew)); exact Kd.R_mono HO246.out (fun _ hk => ⟨hk.1.1.1, ⟨hk.2, hk.1.2⟩⟩)), (bk BK233.out), (bk BK234.out), (bk BK238.out), (by exact pbE HB.out)⟩)
      rintro ⟨v242, v245⟩ w54 ⟨hS_, h0_, h1_, h2_, h3_, h4_, h5_⟩
      have n0_ : Az (Kd.R k60 60 w54 w.heap.size (fun k_ => (w.heap.size ≤ k_) ∧ some k_ ≠ (v245 : Value).ownBlock ∧ k_ ≠ gb238) v242 t241) := ⟨h0_⟩
      have n1_ : Az (Kd.R k60 60 w54 w.heap.size (fun k_ => (w.heap.size ≤ k_) ∧ some k_ ≠ (v242 : Value).ownBlock ∧ k_ ≠ gb238) v245 y244) := ⟨h1_⟩
      have n2_ : Az (w54.heap[gb233]? = some (.cells #[.int .i64 a0_0, .string a0_1, .string a0_2, .int .i64 a0_3, .slice A0_4 l0_4.length c0_4, .int .i64 a0_5] 26 (0, 0))) := ⟨h2_⟩
      have n3_ : Az (w54.heap[gb234]? = some (.cells #[.int .i64 0, .string (⟨#[]⟩ : ByteArray), .string (⟨#[]⟩ : ByteArray), .int .i64 0, .slice none 0 0, .int .i64 0] 26 (0, 0))) := ⟨h3_⟩
      have n4_ : Az (w54.heap[gb238]? = some (.cells #[.int .i64 t235, .int .i64 t236] 60 (0, 0))) := ⟨h4_⟩
      have n5_ : Az (Below w.heap.size w w54) := ⟨h5_⟩
      clear BK233
      clear BK234
      clear BK238
      clear HB
      clear h0_ h1_ h2_ h3_ h4_ h5_
      have HO243 := n0_
      have HO246 := n1_
      have BK233 := n2_
      have BK234 := n3_
      have BK238 := n4_
      have HB := n5_
      clear n0_ n1_ n2_ n3_ n4_ n5_
      have hHeld : w54.cell? ⟨gb233, 0, none⟩ = some (.int .i64 a0_0) ∧ w54.cell? ⟨gb233, 1, none⟩ = some (.string a0_1) ∧ w54.cell? ⟨gb233, 2, none⟩ = some (.string a0_2) ∧ w54.cell? ⟨gb233, 3, none⟩ = some (.int .i64 a0_3) ∧ w54.cell? ⟨gb233, 4, none⟩ = some (.slice A0_4 l0_4.length c0_4) ∧ w54.cell? ⟨gb233, 5, none⟩ = some (.int .i64 a0_5) := hS_
      obtain ⟨Ao56, co56, eo56⟩ := Kd.R_slice HO246.out
      (first | subst eo56 | (injection eo56 with f1_ f2_ f3_; have f4_ := f1_.symm; have f5_ := f3_.symm; clear f1_ f2_ f3_; subst f4_; subst f5_))
      refine norm_ (a' := ?_) ?_ ?_
      rotate_left
      ·simp only [putAll, Act.put, List.setIfInBounds_toArray, List.set_cons_zero, List.set_cons_succ]
       rfl
      refine one_ (i := 8) (N := some 41) #[true, true, true, true, true, true, true, true, true, false, false] rfl rfl (one_of HT_.out (by kernel_rfl)) (by decide) (fun K hK => ?_)
      refine Kd.R_append_rows_step k60 (w0 := w) w.heap.size (by rfl) (.tmp 35) (.tmp 40) 24 60 (.agg #[(.int .i64 0), (.int .i64 0)]) 16 rfl Tryd.underlying24 info60 rfl (by decide) (by omega) v242 t241 y244 _ _ _ (fun k_ => (w.heap.size ≤ k_) ∧ some k_ ≠ (.slice Ao56 y244.length co56 : Value).ownBlock ∧ k_ ≠ gb238) (fun _ => False) rfl rfl ?aO ?aR (fun _ _ h => h) (fun _ h => h.elim) ?aF ?aB ?aS ?aL ?_
      (case aR => exact Kd.C_ext (Kd.R_reads' HO246.out).2.2)
      (case aB => exact (by exact pbE HB.out))
      (case aF => exact (fun k_ hk => ⟨(Nat.le_trans (pbZ (by exact pbE HB.out)) hk), Kd.fresh' (Kd.R_lt (Kd.R_ext HO246.out)) k_ hk, Kd.freshB (bk BK238.out) k_ hk⟩))
      (case aO => exact (Kd.R_ext HO243.out))
      (case aS => exact (pbZ (by exact pbE HB.out)))
      (case aL => have := LMc36.out; omega)
      intro v248 w55 ho hb hg hat
      rw [← Ny247.out] at ho
      replace BK233 := Az.mk (blk_grown (bk BK233.out) hg (Kd.R_ne HO243.out BK233.out (by decide)))
      replace BK234 := Az.mk (blk_grown (bk BK234.out) hg (Kd.R_ne HO243.out BK234.out (by decide)))
      replace BK238 := Az.mk (blk_grown (bk BK238.out) hg (Kd.R_away HO243.out (fun _ hk => hk.2.2)))
      replace HO246 := Az.mk (Kd.R_after (ok := (fun k_ => (w.heap.size ≤ k_) ∧ k_ ≠ gb238)) (by (with_reducible repeat (first | apply Kd.R_alloc | apply Kd.R_drewN | apply Kd.R_drew)); exact Kd.R_mono HO246.out (fun _ hk => ⟨⟨hk.1, hk.2.2⟩, hk.2.1⟩)) hg hat)
      replace HB := Az.mk (hb)
      have HO249 := Az.mk (ho)
      clear HO243
      clear ho hb hg hat
      obtain ⟨Ao57, co57, eo57⟩ := Kd.R_slice HO249.out
      (first | subst eo57 | (injection eo57 with f1_ f2_ f3_; have f4_ := f1_.symm; have f5_ := f3_.symm; clear f1_ f2_ f3_; subst f4_; subst f5_))
      refine hK.out _ _ ⟨(bkC BK233.out 0).trans rfl, (bkC BK233.out 1).trans rfl, (bkC BK233.out 2).trans rfl, (bkC BK233.out 3).trans rfl, (bkC BK233.out 4).trans rfl, (bkC BK233.out 5).trans rfl⟩ (fun hHeld => ?_)
      clear hK K
      refine norm_ (a' := ?_) ?_ ?_
      rotate_left
      ·show Act.put _ (some 41) _ = _
       simp only [Act.put, List.setIfInBounds_toArray, List.set_cons_zero, List.set_cons_succ, i64_w, i32_w]
       rfl
      refine pure_ (i := 9) (N := some 42) (v := ?_) (a' := ?_) #[true, true, true, true, true, true, true, true, true, true, false] rfl rfl (any_of HT_.out (by kernel_rfl)) (fun _ _ _ h => h) (Or.inl ⟨by rfl, ?_⟩) ?_ ?_
      rotate_left
      ·intro w'
       go_simp
       with_reducible rfl
      rotate_left
      ·simp only [Act.put, List.setIfInBounds_toArray, List.set_cons_zero, List.set_cons_succ, i64_w, i32_w]
       rfl
      refine last_ (i := 10) (N := none) #[true, true, true, true, true, true, true, true, true, true, true] rfl rfl (one_of HT_.out (by kernel_rfl)) (by decide) (fun K hK => ?_)
      have hs58 : w55.cell? ⟨gb233, 4, none⟩ = some (.slice A0_4 l0_4.length c0_4) := (bkC BK233.out 4).trans rfl
      have hfs58 := bkF BK233.out 4
      have hns58_1 := NB234_233.out
      have hns58_2 := NB238_233.out
      have hms58_1 := NB233_234.out
      have hms58_2 := NB233_238.out
      refine skip_ (w1 := ?_) (by rfl) rfl ?_ ?_
      rotate_left
      ·go_simp
       rfl
      refine hK.out _ _ ?_
      clear hK K
      refine done_ (done_of HT_.out (by kernel_rfl)) ?_
      have n0_ : Az (Kd.R k60 60 (w55.setCell ⟨gb233, 4, none⟩ (.slice Ao57 y247.length co57)) w.heap.size (fun k_ => (w.heap.size ≤ k_) ∧ some k_ ≠ (.slice Ao57 y247.length co57 : Value).ownBlock ∧ k_ ≠ gb238) (.slice Ao56 y244.length co56) y244) := ⟨by (with_reducible repeat (first | apply Kd.R_alloc | apply Kd.R_drewN | apply Kd.R_drew)); exact Kd.R_mono (Kd.R_far (p := ⟨gb233, 4, none⟩) (Kd.R_types HO246.out BK233.out (by decide)) (fun _ hk => hk.2) (.slice Ao57 y247.length co57)) (fun _ hk => ⟨hk.1.1.1, ⟨hk.1.2, hk.1.1.2⟩⟩)⟩
      have n1_ : Az (Kd.R k60 60 (w55.setCell ⟨gb233, 4, none⟩ (.slice Ao57 y247.length co57)) w.heap.size (fun k_ => (w.heap.size ≤ k_) ∧ some k_ ≠ (.slice Ao56 y244.length co56 : Value).ownBlock ∧ k_ ≠ gb238) (.slice Ao57 y247.length co57) y247) := ⟨by (with_reducible repeat (first | apply Kd.R_alloc | apply Kd.R_drewN | apply Kd.R_drew)); exact Kd.R_mono (Kd.R_far (p := ⟨gb233, 4, none⟩) (Kd.R_types HO249.out BK233.out (by decide)) (fun _ hk => hk.2) (.slice Ao57 y247.length co57)) (fun _ hk => ⟨hk.1.1, ⟨hk.1.2.1, hk.1.2.2⟩⟩)⟩
      have n2_ : Az ((w55.setCell ⟨gb233, 4, none⟩ (.slice Ao57 y247.length co57)).heap[gb233]? = some (.cells #[.int .i64 a0_0, .string a0_1, .string a0_2, .int .i64 a0_3, .slice Ao57 y247.length co57, .int .i64 a0_5] 26 (0, 0))) := ⟨by refine bk ?_; refine blk_put (cs := #[.int .i64 a0_0, .string a0_1, .string a0_2, .int .i64 a0_3, .slice A0_4 l0_4.length c0_4, .int .i64 a0_5]) ?_ 4 _ rfl; refine bk ?_; exact BK233.out⟩
      have n3_ : Az ((w55.setCell ⟨gb233, 4, none⟩ (.slice Ao57 y247.length co57)).heap[gb234]? = some (.cells #[.int .i64 0, .string (⟨#[]⟩ : ByteArray), .string (⟨#[]⟩ : ByteArray), .int .i64 0, .slice none 0 0, .int .i64 0] 26 (0, 0))) := ⟨by exact bf BK234.out⟩
      have n4_ : Az ((w55.setCell ⟨gb233, 4, none⟩ (.slice Ao57 y247.length co57)).heap[gb238]? = some (.cells #[.int .i64 t235, .int .i64 t236] 60 (0, 0))) := ⟨by exact bf BK238.out⟩
      have n5_ : Az (Below w.heap.size w (w55.setCell ⟨gb233, 4, none⟩ (.slice Ao57 y247.length co57))) := ⟨by exact pbE HB.out⟩
      (try clear HO246)
      (try clear HO249)
      (try clear BK233)
      (try clear BK234)
      (try clear BK238)
      (try clear HB)
      generalize (w55.setCell ⟨gb233, 4, none⟩ (.slice Ao57 y247.length co57)) = w59 at n0_ n1_ n2_ n3_ n4_ n5_ ⊢
      have HO246 := n0_
      have HO249 := n1_
      have BK233 := n2_
      have BK234 := n3_
      have BK238 := n4_
      have HB := n5_
      clear n0_ n1_ n2_ n3_ n4_ n5_
      have hcz60 := cells6 BK233.out
      try go_wp2_with (first | ((with_reducible refine gate_store (t := 2) (p := 46) rfl ?_); refine store_event (t := 2) (p := 46) (v := ?vo_w61) (w1 := (w59.setCell ⟨gb233, 5, none⟩ (.int .i64 (wrap64 (a0_5 + 1))))) ?hg ?ho ?hn ?hr ?_; (case ho => rfl); (case hg => rfl); (case hn => rfl); (case hr => first | (go_simp; done) | (go_simp; rfl)); intro w61 hw; have n0_ : Az (Kd.R k60 60 w61 w.heap.size (fun k_ => (w.heap.size ≤ k_) ∧ some k_ ≠ (.slice Ao57 y247.length co57 : Value).ownBlock ∧ k_ ≠ gb238) (.slice Ao56 y244.length co56) y244) := ⟨(by rw [hw]; exact (by (with_reducible repeat (first | apply Kd.R_alloc | apply Kd.R_drewN | apply Kd.R_drew)); exact Kd.R_mono (Kd.R_far (p := ⟨gb233, 5, none⟩) (Kd.R_types HO246.out BK233.out (by decide)) (fun _ hk => hk.2) (.int .i64 (wrap64 (a0_5 + 1)))) (fun _ hk => ⟨hk.1.1, ⟨hk.1.2.1, hk.1.2.2⟩⟩)))⟩; have n1_ : Az (Kd.R k60 60 w61 w.heap.size (fun k_ => (w.heap.size ≤ k_) ∧ some k_ ≠ (.slice Ao56 y244.length co56 : Value).ownBlock ∧ k_ ≠ gb238) (.slice Ao57 y247.length co57) y247) := ⟨(by rw [hw]; exact (by (with_reducible repeat (first | apply Kd.R_alloc | apply Kd.R_drewN | apply Kd.R_drew)); exact Kd.R_mono (Kd.R_far (p := ⟨gb233, 5, none⟩) (Kd.R_types HO249.out BK233.out (by decide)) (fun _ hk => hk.2) (.int .i64 (wrap64 (a0_5 + 1)))) (fun _ hk => ⟨hk.1.1, ⟨hk.1.2.1, hk.1.2.2⟩⟩)))⟩; have n2_ : Az (w61.heap[gb233]? = some (.cells #[.int .i64 a0_0, .string a0_1, .string a0_2, .int .i64 a0_3, .slice Ao57 y247.length co57, .int .i64 (wrap64 (a0_5 + 1))] 26 (0, 0))) := ⟨(by rw [hw]; exact (by refine bk ?_; refine blk_put (cs := #[.int .i64 a0_0, .string a0_1, .string a0_2, .int .i64 a0_3, .slice Ao57 y247.length co57, .int .i64 a0_5]) ?_ 5 _ rfl; refine bk ?_; exact BK233.out))⟩; have n3_ : Az (w61.heap[gb234]? = some (.cells #[.int .i64 0, .string (⟨#[]⟩ : ByteArray), .string (⟨#[]⟩ : ByteArray), .int .i64 0, .slice none 0 0, .int .i64 0] 26 (0, 0))) := ⟨(by rw [hw]; exact (bf BK234.out))⟩; have n4_ : Az (w61.heap[gb238]? = some (.cells #[.int .i64 t235, .int .i64 t236] 60 (0, 0))) := ⟨(by rw [hw]; exact (bf BK238.out))⟩; have n5_ : Az (Below w.heap.size w w61) := ⟨(by rw [hw]; exact (by exact pbE HB.out))⟩; clear hw; clear HO246; clear HO249; clear BK233; clear BK234; clear BK238; clear HB; have HO246 := n0_; have HO249 := n1_; have BK233 := n2_; have BK234 := n3_; have BK238 := n4_; have HB := n5_; clear n0_ n1_ n2_ n3_ n4_ n5_; have hcz62 := cells6 BK233.out) | ((with_reducible refine gate_store (t := 2) (p := 50) rfl ?_); refine store_event (t := 2) (p := 50) (v := ?vo_w63) (w1 := (w61.setCell ⟨gb233, 3, none⟩ (.int .i64 (wrap64 (a0_3 + 1))))) ?hg ?ho ?hn ?hr ?_; (case ho => rfl); (case hg => rfl); (case hn => rfl); (case hr => first | (go_simp; done) | (go_simp; rfl)); intro w63 hw; have n0_ : Az (Kd.R k60 60 w63 w.heap.size (fun k_ => (w.heap.size ≤ k_) ∧ some k_ ≠ (.slice Ao57 y247.length co57 : Value).ownBlock ∧ k_ ≠ gb238) (.slice Ao56 y244.length co56) y244) := ⟨(by rw [hw]; exact (by (with_reducible repeat (first | apply Kd.R_alloc | apply Kd.R_drewN | apply Kd.R_drew)); exact Kd.R_mono (Kd.R_far (p := ⟨gb233, 3, none⟩) (Kd.R_types HO246.out BK233.out (by decide)) (fun _ hk => hk.2) (.int .i64 (wrap64 (a0_3 + 1)))) (fun _ hk => ⟨hk.1.1, ⟨hk.1.2.1, hk.1.2.2⟩⟩)))⟩; have n1_ : Az (Kd.R k60 60 w63 w.heap.size (fun k_ => (w.heap.size ≤ k_) ∧ some k_ ≠ (.slice Ao56 y244.length co56 : Value).ownBlock ∧ k_ ≠ gb238) (.slice Ao57 y247.length co57) y247) := ⟨(by rw [hw]; exact (by (with_reducible repeat (first | apply Kd.R_alloc | apply Kd.R_drewN | apply Kd.R_drew)); exact Kd.R_mono (Kd.R_far (p := ⟨gb233, 3, none⟩) (Kd.R_types HO249.out BK233.out (by decide)) (fun _ hk => hk.2) (.int .i64 (wrap64 (a0_3 + 1)))) (fun _ hk => ⟨hk.1.1, ⟨hk.1.2.1, hk.1.2.2⟩⟩)))⟩; have n2_ : Az (w63.heap[gb233]? = some (.cells #[.int .i64 a0_0, .string a0_1, .string a0_2, .int .i64 (wrap64 (a0_3 + 1)), .slice Ao57 y247.length co57, .int .i64 (wrap64 (a0_5 + 1))] 26 (0, 0))) := ⟨(by rw [hw]; exact (by refine bk ?_; refine blk_put (cs := #[.int .i64 a0_0, .string a0_1, .string a0_2, .int .i64 a0_3, .slice Ao57 y247.length co57, .int .i64 (wrap64 (a0_5 + 1))]) ?_ 3 _ rfl; refine bk ?_; exact BK233.out))⟩; have n3_ : Az (w63.heap[gb234]? = some (.cells #[.int .i64 0, .string (⟨#[]⟩ : ByteArray), .string (⟨#[]⟩ : ByteArray), .int .i64 0, .slice none 0 0, .int .i64 0] 26 (0, 0))) := ⟨(by rw [hw]; exact (bf BK234.out))⟩; have n4_ : Az (w63.heap[gb238]? = some (.cells #[.int .i64 t235, .int .i64 t236] 60 (0, 0))) := ⟨(by rw [hw]; exact (bf BK238.out))⟩; have n5_ : Az (Below w.heap.size w w63) := ⟨(by rw [hw]; exact (by exact pbE HB.out))⟩; clear hw; clear HO246; clear HO249; clear BK233; clear BK234; clear BK238; clear HB; have HO246 := n0_; have HO249 := n1_; have BK233 := n2_; have BK234 := n3_; have BK238 := n4_; have HB := n5_; clear n0_ n1_ n2_ n3_ n4_ n5_; have hcz64 := cells6 BK233.out) | ((with_reducible refine gtc (f := 37) rfl ?_); refine goesL_ (some 52) rfl rfl Tryd.func37 (by kernel_rfl) rfl #[.agg #[.int .i64 a0_0, .string a0_1, .string a0_2, .int .i64 (wrap64 (a0_3 + 1)), .slice Ao57 y247.length co57, .int .i64 (wrap64 (a0_5 + 1))]] rfl (by (try simp only [List.map_toArray, List.map_cons, List.map_nil]); first | done | rfl | (simp only [List.length_drop, List.length_take]; rfl)) ?_; (with_reducible refine (desc_right.calls a0_0 a0_1 a0_2 (wrap64 (a0_3 + 1)) (fun k_ => some k_ = (.slice Ao57 y247.length co57 : Value).ownBlock) _ _ y247 (wrap64 (a0_5 + 1)) t250 t251 t252 t253 t254 t257 t258 _ ?side1 ?side2 A37.out).mono ?_); (case side1 => exact hG.below (by exact pbE HB.out)); (case side2 => exact Kd.R_V (Kd.R_tight rfl (Kd.R_types (Kd.R_types (HO249.out) BK233.out (by decide)) BK234.out (by decide)))); rintro e w65 ⟨v255, rfl, ho0, hb⟩; refine ⟨_, rfl, ?_⟩; have HO256 := Az.mk (Kd.V_lower (Kd.V_mono (ok' := fun k_ => (w.heap.size ≤ k_) ∧ some k_ ≠ (.slice Ao56 y244.length co56 : Value).ownBlock ∧ k_ ≠ gb233 ∧ k_ ≠ gb234 ∧ k_ ≠ gb238) ho0 (fun k_ hk_ => ⟨Or.elim hk_ (fun hs_ => ((Kd.R_types (Kd.R_types (HO249.out) BK233.out (by decide)) BK234.out (by decide)).1 k_ hs_.symm).1.1.1) (fun hn_ => (Nat.le_trans (pbZ (by exact pbE HB.out)) hn_)), Or.elim hk_ (fun hs_ => ((Kd.R_types (Kd.R_types (HO249.out) BK233.out (by decide)) BK234.out (by decide)).1 k_ hs_.symm).1.1.2.1) (fun hn_ => (Kd.fresh' (Kd.R_lt (Kd.R_ext HO246.out)) k_ hn_)), Or.elim hk_ (fun hs_ => ((Kd.R_types (Kd.R_types (HO249.out) BK233.out (by decide)) BK234.out (by decide)).1 k_ hs_.symm).1.2) (fun hn_ => (Kd.freshB (bk BK233.out) k_ hn_)), Or.elim hk_ (fun hs_ => ((Kd.R_types (Kd.R_types (HO249.out) BK233.out (by decide)) BK234.out (by decide)).1 k_ hs_.symm).2) (fun hn_ => (Kd.freshB (bk BK234.out) k_ hn_)), Or.elim hk_ (fun hs_ => ((Kd.R_types (Kd.R_types (HO249.out) BK233.out (by decide)) BK234.out (by decide)).1 k_ hs_.symm).1.1.2.2) (fun hn_ => (Kd.freshB (bk BK238.out) k_ hn_))⟩)) (pbZ (by exact pbE HB.out))); replace HO246 := Az.mk (Kd.R_below (Kd.R_ext HO246.out) hb); replace HO249 := Az.mk (Kd.R_below (Kd.R_ext HO249.out) hb); replace BK233 := Az.mk (bkB (bk BK233.out) hb); replace BK234 := Az.mk (bkB (bk BK234.out) hb); replace BK238 := Az.mk (bkB (bk BK238.out) hb); replace HB := Az.mk (pbT (by exact pbE HB.out) hb); (try clear hb); (try clear hb2); (try clear hk); (try clear hi); (try clear ho0); have hcz66 := cells6 BK234.out; obtain ⟨Ao67, co67, eo67⟩ := Kd.V_slice HO256.out; subst eo67))
      refine bodyPost_ret (results_ct rfl _ _ gb234 26 #[.int .i64 t250, .string t251, .string t252, .int .i64 t253, .slice Ao67 t254.length co67, .int .i64 t257] (0, 0) _ rfl (by refine bk ?_; refine blk_put (cs := #[.int .i64 t250, .string t251, .string t252, .int .i64 t253, .slice Ao67 t254.length co67, .int .i64 0]) ?_ 5 _ rfl; refine bk ?_; refine blk_put (cs := #[.int .i64 t250, .string t251, .string t252, .int .i64 t253, .slice none 0 0, .int .i64 0]) ?_ 4 _ rfl; refine bk ?_; refine blk_put (cs := #[.int .i64 t250, .string t251, .string t252, .int .i64 0, .slice none 0 0, .int .i64 0]) ?_ 3 _ rfl; refine bk ?_; refine blk_put (cs := #[.int .i64 t250, .string t251, .string (⟨#[]⟩ : ByteArray), .int .i64 0, .slice none 0 0, .int .i64 0]) ?_ 2 _ rfl; refine bk ?_; refine blk_put (cs := #[.int .i64 t250, .string (⟨#[]⟩ : ByteArray), .string (⟨#[]⟩ : ByteArray), .int .i64 0, .slice none 0 0, .int .i64 0]) ?_ 1 _ rfl; refine bk ?_; refine blk_put (cs := #[.int .i64 0, .string (⟨#[]⟩ : ByteArray), .string (⟨#[]⟩ : ByteArray), .int .i64 0, .slice none 0 0, .int .i64 0]) ?_ 0 _ rfl; refine bk ?_; exact BK234.out) Tryd.underlying26 rfl (by kernel_rfl)) rfl ?_
      exact ⟨_, by first | rfl | (simp [errW_none, errW_some] <;> rfl) | (simp [*, errW_none, errW_some] <;> rfl), by (with_reducible repeat (first | apply Kd.V_alloc | apply Kd.V_drewN | apply Kd.V_drew)); exact Kd.V_mono (Kd.V_off (g := gb234) (fun _ hk => hk.2) (Kd.V_mono HO256.out (fun k_ hk => (⟨hk, hk.2.2.2.1⟩ : _ ∧ k_ ≠ gb234)))) (fun _ hk => hk.1.1), by exact pbE HB.out⟩
     ·rw [if_neg c36] at H
      exact absurd H (by simp)
  ·replace c7 := Bool.eq_false_iff.mpr c7
   subst c7
   have H1 : (some (0, (⟨#[]⟩ : ByteArray), (⟨#[]⟩ : ByteArray), 0, ([] : List (S60)), 0, 2)) = some (r1, r2, r3, r4, r5, r6, r7) := by rw [if_neg (show ¬ (false = true) by decide)] at H; exact H
   clear H
   have H := H1
   clear H1
   simp only [Option.some.injEq, Prod.mk.injEq] at H
   obtain ⟨rfl, rfl, rfl, rfl, rfl, rfl, rfl⟩ := H
   go_enter Tryd.func25, Tryd.ntmps25
   go_wp2_with (first | ((with_reducible refine gate_dst (N := 2) rfl ?_); refine box_event ?hg (N := 2) ?hd (cs := #[.int .i64 a0_0, .string a0_1, .string a0_2, .int .i64 a0_3, .slice A0_4 l0_4.length c0_4, .int .i64 a0_5]) (t := 26) ?hr ?_; (case hd => rfl); (case hg => rfl); (case hr => first | (go_simp; done) | (go_simp; rfl)); intro gb233 hg w68 hbox hb; have BK233 := Az.mk (hbox); have GW233 := Az.mk (geO hg (pbE HB.out)); have GE233 := Az.mk (geO hg (pbE HB.out)); replace HB := Az.mk (pbT (by exact pbE HB.out) hb); clear hb hbox hg) | ((with_reducible refine gate_dst (N := 4) rfl ?_); refine box_event ?hg (N := 4) ?hd (cs := #[.int .i64 0, .string (⟨#[]⟩ : ByteArray), .string (⟨#[]⟩ : ByteArray), .int .i64 0, .slice none 0 0, .int .i64 0]) (t := 26) ?hr ?_; (case hd => rfl); (case hg => rfl); (case hr => first | (go_simp; done) | (go_simp; rfl)); intro gb234 hg w69 hbox hb; have BK234 := Az.mk (hbox); have GW234 := Az.mk (geO hg (pbE HB.out)); have GE234 := Az.mk (geO hg (pbE HB.out)); replace HB := Az.mk (pbT (by exact pbE HB.out) hb); have NB233_234 := Az.mk (neO hg (bk BK233.out)); have NB234_233 := Az.mk (neP hg (bk BK233.out)); replace BK233 := Az.mk (bkB (bk BK233.out) hb); clear hb hbox hg; have hnb70 := NB233_234.out; have hnc70 := NB234_233.out; have hcz71 := cells6 BK233.out) | ((with_reducible refine gtc (f := 30) rfl ?_); refine goesL_ (some 11) rfl rfl Tryd.func30 (by kernel_rfl) rfl #[.agg #[.int .i64 a0_0, .string a0_1, .string a0_2, .int .i64 a0_3, .slice A0_4 l0_4.length c0_4, .int .i64 a0_5], .int .i64 a1] rfl (by (try simp only [List.map_toArray, List.map_cons, List.map_nil]); first | done | rfl | (simp only [List.length_drop, List.length_take]; rfl)) ?_; (with_reducible refine (desc_On.calls a0_0 a0_1 a0_2 a0_3 _ _ l0_4 a0_5 a1 t235 t236 t237 _ ?side1 ?side2 ?side3 A3.out).mono ?_); (case side1 => exact hG.below (by exact pbE HB.out)); (case side2 => repeat (first | exact (Kd.C_below HR0_4.out HB.out) | (with_reducible refine Kd.C_alloc ?_ _) | (with_reducible refine Kd.C_drewN ?_ _) | (with_reducible refine Kd.C_drew ?_))); (case side3 => exact HC0_4.out); rintro e w72 ⟨rfl, hb⟩; refine ⟨_, rfl, ?_⟩; replace BK233 := Az.mk (bkB (bk BK233.out) hb); replace BK234 := Az.mk (bkB (bk BK234.out) hb); replace HB := Az.mk (pbT (by exact pbE HB.out) hb); (try clear hb); (try clear hb2); (try clear hk); (try clear hi)) | ((with_reducible refine gate_dst (N := 6) rfl ?_); refine box_event ?hg (N := 6) ?hd (cs := #[.int .i64 0, .int .i64 0]) (t := 60) ?hr ?_; (case hd => rfl); (case hg => rfl); (case hr => first | (go_simp; done) | (go_simp; rfl)); intro gb238 hg w73 hbox hb; have BK238 := Az.mk (hbox); have GW238 := Az.mk (geO hg (pbE HB.out)); have GE238 := Az.mk (geO hg (pbE HB.out)); replace HB := Az.mk (pbT (by exact pbE HB.out) hb); have NB233_238 := Az.mk (neO hg (bk BK233.out)); have NB238_233 := Az.mk (neP hg (bk BK233.out)); replace BK233 := Az.mk (bkB (bk BK233.out) hb); have NB234_238 := Az.mk (neO hg (bk BK234.out)); have NB238_234 := Az.mk (neP hg (bk BK234.out)); replace BK234 := Az.mk (bkB (bk BK234.out) hb); clear hb hbox hg; have hnb74 := NB238_233.out; have hnc74 := NB233_238.out; have hnb75 := NB238_234.out; have hnc75 := NB234_238.out; have hcz76 := cells2 BK238.out; have hcz77 := cells6 BK233.out) | ((with_reducible refine gtc (f := 22) rfl ?_); refine goesL_ (some 16) rfl rfl Tryd.func22 (by kernel_rfl) rfl #[.agg #[.int .i64 a0_0, .string a0_1, .string a0_2, .int .i64 a0_3, .slice A0_4 l0_4.length c0_4, .int .i64 a0_5]] rfl (by (try simp only [List.map_toArray, List.map_cons, List.map_nil]); first | done | rfl | (simp only [List.length_drop, List.length_take]; rfl)) ?_; (with_reducible refine (desc_Check.calls a0_0 a0_1 a0_2 a0_3 _ _ l0_4 a0_5 t239 _ ?side1 ?side2 ?side3 A4.out).mono ?_); (case side1 => exact hG.below (by exact pbE HB.out)); (case side2 => exact Kd.C_below HR0_4.out (by exact pbE HB.out)); (case side3 => exact HC0_4.out); rintro e w78 ⟨rfl, hb⟩; refine ⟨_, rfl, ?_⟩; replace BK233 := Az.mk (bkB (bf BK233.out) hb); replace BK234 := Az.mk (bkB (bf BK234.out) hb); replace BK238 := Az.mk (bkB (g := gb238) (o := .cells #[.int .i64 t235, .int .i64 t236] 60 (0, 0)) (by refine bk ?_; refine blk_put (cs := #[.int .i64 t235, .int .i64 0]) ?_ 1 _ rfl; refine bk ?_; refine blk_put (cs := #[.int .i64 0, .int .i64 0]) ?_ 0 _ rfl; refine bk ?_; exact BK238.out) hb); replace HB := Az.mk (pbT (by exact pbE HB.out) hb); (try clear hb); (try clear hb2); (try clear hk); (try clear hi)) | ((with_reducible refine gtc (f := 49) rfl ?_); refine goesL_ (some 21) rfl rfl Tryd.func49 (by kernel_rfl) rfl #[.int .i64 a1] rfl (by (try simp only [List.map_toArray, List.map_cons, List.map_nil]); first | done | rfl | (simp only [List.length_drop, List.length_take]; rfl)) ?_; (with_reducible refine (desc_isNode.calls a1 false _ ?side1 A6.out).mono ?_); (case side1 => exact hG.below (by exact pbE HB.out)); rintro e w' ⟨rfl, ⟨nd, rfl⟩⟩; refine ⟨_, rfl, ?_⟩; (try (rw [drewN_self w78]; generalize hq_ : World.drewN w78 _ = w78; have n0_ : Az (w78.heap[gb233]? = some (.cells #[.int .i64 a0_0, .string a0_1, .string a0_2, .int .i64 a0_3, .slice A0_4 l0_4.length c0_4, .int .i64 a0_5] 26 (0, 0))) := ⟨by rw [← hq_]; exact (bk BK233.out)⟩; have n1_ : Az (w78.heap[gb234]? = some (.cells #[.int .i64 0, .string (⟨#[]⟩ : ByteArray), .string (⟨#[]⟩ : ByteArray), .int .i64 0, .slice none 0 0, .int .i64 0] 26 (0, 0))) := ⟨by rw [← hq_]; exact (bk BK234.out)⟩; have n2_ : Az (w78.heap[gb238]? = some (.cells #[.int .i64 t235, .int .i64 t236] 60 (0, 0))) := ⟨by rw [← hq_]; exact (bk BK238.out)⟩; have n3_ : Az (Below w.heap.size w w78) := ⟨by rw [← hq_]; exact (by exact pbE HB.out)⟩; clear BK233 BK234 BK238 HB hq_; have BK233 := n0_; have BK234 := n1_; have BK238 := n2_; have HB := n3_; clear n0_ n1_ n2_ n3_)); have hcz79 := cells6 BK234.out))
   refine bodyPost_ret (results_ct rfl _ _ gb234 26 #[.int .i64 0, .string (⟨#[]⟩ : ByteArray), .string (⟨#[]⟩ : ByteArray), .int .i64 0, .slice none 0 0, .int .i64 0] (0, 0) _ rfl (by refine bk ?_; refine blk_put (cs := #[.int .i64 0, .string (⟨#[]⟩ : ByteArray), .string (⟨#[]⟩ : ByteArray), .int .i64 0, .slice none 0 0, .int .i64 0]) ?_ 5 _ rfl; refine bk ?_; refine blk_put (cs := #[.int .i64 0, .string (⟨#[]⟩ : ByteArray), .string (⟨#[]⟩ : ByteArray), .int .i64 0, .slice none 0 0, .int .i64 0]) ?_ 4 _ rfl; refine bk ?_; refine blk_put (cs := #[.int .i64 0, .string (⟨#[]⟩ : ByteArray), .string (⟨#[]⟩ : ByteArray), .int .i64 0, .slice none 0 0, .int .i64 0]) ?_ 3 _ rfl; refine bk ?_; refine blk_put (cs := #[.int .i64 0, .string (⟨#[]⟩ : ByteArray), .string (⟨#[]⟩ : ByteArray), .int .i64 0, .slice none 0 0, .int .i64 0]) ?_ 2 _ rfl; refine bk ?_; refine blk_put (cs := #[.int .i64 0, .string (⟨#[]⟩ : ByteArray), .string (⟨#[]⟩ : ByteArray), .int .i64 0, .slice none 0 0, .int .i64 0]) ?_ 1 _ rfl; refine bk ?_; refine blk_put (cs := #[.int .i64 0, .string (⟨#[]⟩ : ByteArray), .string (⟨#[]⟩ : ByteArray), .int .i64 0, .slice none 0 0, .int .i64 0]) ?_ 0 _ rfl; refine bk ?_; exact BK234.out) Tryd.underlying26 rfl (by kernel_rfl)) rfl ?_
   exact ⟨_, by first | rfl | (simp [errW_none, errW_some] <;> rfl) | (simp [*, errW_none, errW_some] <;> rfl), Kd.V_nil _ _ _ _ _, by exact pbE HB.out⟩
 ·rw [if_neg c5] at H
  have c5b0 : (t239 == 0) = false := beq_eq_false_iff_ne.mpr c5
  have c5b1 : (t239 != 0) = true := bne_iff_ne.mpr c5
  simp only [Option.some.injEq, Prod.mk.injEq] at H
  obtain ⟨rfl, rfl, rfl, rfl, rfl, rfl, rfl⟩ := H
  go_enter Tryd.func25, Tryd.ntmps25
  go_wp2_with (first | ((with_reducible refine gate_dst (N := 2) rfl ?_); refine box_event ?hg (N := 2) ?hd (cs := #[.int .i64 a0_0, .string a0_1, .string a0_2, .int .i64 a0_3, .slice A0_4 l0_4.length c0_4, .int .i64 a0_5]) (t := 26) ?hr ?_; (case hd => rfl); (case hg => rfl); (case hr => first | (go_simp; done) | (go_simp; rfl)); intro gb233 hg w80 hbox hb; have BK233 := Az.mk (hbox); have GW233 := Az.mk (geO hg (pbE HB.out)); have GE233 := Az.mk (geO hg (pbE HB.out)); replace HB := Az.mk (pbT (by exact pbE HB.out) hb); clear hb hbox hg) | ((with_reducible refine gate_dst (N := 4) rfl ?_); refine box_event ?hg (N := 4) ?hd (cs := #[.int .i64 0, .string (⟨#[]⟩ : ByteArray), .string (⟨#[]⟩ : ByteArray), .int .i64 0, .slice none 0 0, .int .i64 0]) (t := 26) ?hr ?_; (case hd => rfl); (case hg => rfl); (case hr => first | (go_simp; done) | (go_simp; rfl)); intro gb234 hg w81 hbox hb; have BK234 := Az.mk (hbox); have GW234 := Az.mk (geO hg (pbE HB.out)); have GE234 := Az.mk (geO hg (pbE HB.out)); replace HB := Az.mk (pbT (by exact pbE HB.out) hb); have NB233_234 := Az.mk (neO hg (bk BK233.out)); have NB234_233 := Az.mk (neP hg (bk BK233.out)); replace BK233 := Az.mk (bkB (bk BK233.out) hb); clear hb hbox hg; have hnb82 := NB233_234.out; have hnc82 := NB234_233.out; have hcz83 := cells6 BK233.out) | ((with_reducible refine gtc (f := 30) rfl ?_); refine goesL_ (some 11) rfl rfl Tryd.func30 (by kernel_rfl) rfl #[.agg #[.int .i64 a0_0, .string a0_1, .string a0_2, .int .i64 a0_3, .slice A0_4 l0_4.length c0_4, .int .i64 a0_5], .int .i64 a1] rfl (by (try simp only [List.map_toArray, List.map_cons, List.map_nil]); first | done | rfl | (simp only [List.length_drop, List.length_take]; rfl)) ?_; (with_reducible refine (desc_On.calls a0_0 a0_1 a0_2 a0_3 _ _ l0_4 a0_5 a1 t235 t236 t237 _ ?side1 ?side2 ?side3 A3.out).mono ?_); (case side1 => exact hG.below (by exact pbE HB.out)); (case side2 => repeat (first | exact (Kd.C_below HR0_4.out HB.out) | (with_reducible refine Kd.C_alloc ?_ _) | (with_reducible refine Kd.C_drewN ?_ _) | (with_reducible refine Kd.C_drew ?_))); (case side3 => exact HC0_4.out); rintro e w84 ⟨rfl, hb⟩; refine ⟨_, rfl, ?_⟩; replace BK233 := Az.mk (bkB (bk BK233.out) hb); replace BK234 := Az.mk (bkB (bk BK234.out) hb); replace HB := Az.mk (pbT (by exact pbE HB.out) hb); (try clear hb); (try clear hb2); (try clear hk); (try clear hi)) | ((with_reducible refine gate_dst (N := 6) rfl ?_); refine box_event ?hg (N := 6) ?hd (cs := #[.int .i64 0, .int .i64 0]) (t := 60) ?hr ?_; (case hd => rfl); (case hg => rfl); (case hr => first | (go_simp; done) | (go_simp; rfl)); intro gb238 hg w85 hbox hb; have BK238 := Az.mk (hbox); have GW238 := Az.mk (geO hg (pbE HB.out)); have GE238 := Az.mk (geO hg (pbE HB.out)); replace HB := Az.mk (pbT (by exact pbE HB.out) hb); have NB233_238 := Az.mk (neO hg (bk BK233.out)); have NB238_233 := Az.mk (neP hg (bk BK233.out)); replace BK233 := Az.mk (bkB (bk BK233.out) hb); have NB234_238 := Az.mk (neO hg (bk BK234.out)); have NB238_234 := Az.mk (neP hg (bk BK234.out)); replace BK234 := Az.mk (bkB (bk BK234.out) hb); clear hb hbox hg; have hnb86 := NB238_233.out; have hnc86 := NB233_238.out; have hnb87 := NB238_234.out; have hnc87 := NB234_238.out; have hcz88 := cells2 BK238.out; have hcz89 := cells6 BK233.out) | ((with_reducible refine gtc (f := 22) rfl ?_); refine goesL_ (some 16) rfl rfl Tryd.func22 (by kernel_rfl) rfl #[.agg #[.int .i64 a0_0, .string a0_1, .string a0_2, .int .i64 a0_3, .slice A0_4 l0_4.length c0_4, .int .i64 a0_5]] rfl (by (try simp only [List.map_toArray, List.map_cons, List.map_nil]); first | done | rfl | (simp only [List.length_drop, List.length_take]; rfl)) ?_; (with_reducible refine (desc_Check.calls a0_0 a0_1 a0_2 a0_3 _ _ l0_4 a0_5 t239 _ ?side1 ?side2 ?side3 A4.out).mono ?_); (case side1 => exact hG.below (by exact pbE HB.out)); (case side2 => exact Kd.C_below HR0_4.out (by exact pbE HB.out)); (case side3 => exact HC0_4.out); rintro e w90 ⟨rfl, hb⟩; refine ⟨_, rfl, ?_⟩; replace BK233 := Az.mk (bkB (bf BK233.out) hb); replace BK234 := Az.mk (bkB (bf BK234.out) hb); replace BK238 := Az.mk (bkB (g := gb238) (o := .cells #[.int .i64 t235, .int .i64 t236] 60 (0, 0)) (by refine bk ?_; refine blk_put (cs := #[.int .i64 t235, .int .i64 0]) ?_ 1 _ rfl; refine bk ?_; refine blk_put (cs := #[.int .i64 0, .int .i64 0]) ?_ 0 _ rfl; refine bk ?_; exact BK238.out) hb); replace HB := Az.mk (pbT (by exact pbE HB.out) hb); (try clear hb); (try clear hb2); (try clear hk); (try clear hi); have hcz91 := cells6 BK234.out))
  refine bodyPost_ret (results_ct rfl _ _ gb234 26 #[.int .i64 0, .string (⟨#[]⟩ : ByteArray), .string (⟨#[]⟩ : ByteArray), .int .i64 0, .slice none 0 0, .int .i64 0] (0, 0) _ rfl (by refine bk ?_; refine blk_put (cs := #[.int .i64 0, .string (⟨#[]⟩ : ByteArray), .string (⟨#[]⟩ : ByteArray), .int .i64 0, .slice none 0 0, .int .i64 0]) ?_ 5 _ rfl; refine bk ?_; refine blk_put (cs := #[.int .i64 0, .string (⟨#[]⟩ : ByteArray), .string (⟨#[]⟩ : ByteArray), .int .i64 0, .slice none 0 0, .int .i64 0]) ?_ 4 _ rfl; refine bk ?_; refine blk_put (cs := #[.int .i64 0, .string (⟨#[]⟩ : ByteArray), .string (⟨#[]⟩ : ByteArray), .int .i64 0, .slice none 0 0, .int .i64 0]) ?_ 3 _ rfl; refine bk ?_; refine blk_put (cs := #[.int .i64 0, .string (⟨#[]⟩ : ByteArray), .string (⟨#[]⟩ : ByteArray), .int .i64 0, .slice none 0 0, .int .i64 0]) ?_ 2 _ rfl; refine bk ?_; refine blk_put (cs := #[.int .i64 0, .string (⟨#[]⟩ : ByteArray), .string (⟨#[]⟩ : ByteArray), .int .i64 0, .slice none 0 0, .int .i64 0]) ?_ 1 _ rfl; refine bk ?_; refine blk_put (cs := #[.int .i64 0, .string (⟨#[]⟩ : ByteArray), .string (⟨#[]⟩ : ByteArray), .int .i64 0, .slice none 0 0, .int .i64 0]) ?_ 0 _ rfl; refine bk ?_; exact BK234.out) Tryd.underlying26 rfl (by kernel_rfl)) rfl ?_
  exact ⟨_, by first | rfl | (simp [errW_none, errW_some] <;> rfl) | (simp [*, errW_none, errW_some] <;> rfl), Kd.V_nil _ _ _ _ _, by exact pbE HB.out⟩
def desc_Remove.f (a0_0 : Int) (a0_1 : ByteArray) (a0_2 : ByteArray) (a0_3 : Int) (l0_4 : List (S60)) (a0_5 : Int) (a1 : Int) : Option (Int × ByteArray × ByteArray × Int × (List (S60)) × Int × Int) := (desc_Has.f a0_0 a0_1 a0_2 a0_3 l0_4 a0_5 a1).bind fun bt571 => ((desc_Check.f a0_0 a0_1 a0_2 a0_3 l0_4 a0_5).bind fun t575 => (if t575 = 0 then (if bt571.2.2 = true then (if (l0_4.length : Int) = 1 then (some (0, (⟨#[]⟩ : ByteArray), (⟨#[]⟩ : ByteArray), 0, ([] : List (S60)), 0, 2)) else ((api_Member_51.f l0_4 a1).bind fun t576 => ((desc_right.f a0_0 a0_1 a0_2 (wrap64 (a0_3 + 1)) t576 a0_5).bind fun bt579 => (some (bt579.1, bt579.2.1, bt579.2.2.1, bt579.2.2.2.1, bt579.2.2.2.2.1, bt579.2.2.2.2.2.1, bt579.2.2.2.2.2.2))))) else (some (0, (⟨#[]⟩ : ByteArray), (⟨#[]⟩ : ByteArray), 0, ([] : List (S60)), 0, 7))) else (some (0, (⟨#[]⟩ : ByteArray), (⟨#[]⟩ : ByteArray), 0, ([] : List (S60)), 0, 60))))
set_option maxHeartbeats 8000000 in
set_option maxRecDepth 100000 in
theorem desc_Remove.calls (a0_0 : Int) (a0_1 : ByteArray) (a0_2 : ByteArray) (a0_3 : Int) (A0_4 : Option Addr) (c0_4 : Nat) (l0_4 : List (S60)) (a0_5 : Int) (a1 : Int) (r1 : Int) (r2 : ByteArray) (r3 : ByteArray) (r4 : Int) (r5 : List (S60)) (r6 : Int) (r7 : Int) (w : World) (hG : TheG w) (hr0_4 : Kd.C k60 w A0_4 l0_4.length l0_4) (hc0_4 : l0_4.length ≤ c0_4) (h : desc_Remove.f a0_0 a0_1 a0_2 a0_3 l0_4 a0_5 a1 = some (r1, r2, r3, r4, r5, r6, r7)) :
 Calls Tryd.prog 27 #[.agg #[.int .i64 a0_0, .string a0_1, .string a0_2, .int .i64 a0_3, .slice A0_4 l0_4.length c0_4, .int .i64 a0_5], .int .i64 a1] w fun e w' => ∃ v4_ : Value, e = .returned (.tuple #[.agg #[.int .i64 r1, .string r2, .string r3, .int .i64 r4, v4_, .int .i64 r6], .int .i64 r7]) ∧ Kd.V k60 60 w' w.heap.size (fun k_ => (w.heap.size ≤ k_)) v4_ r5 ∧ Below w.heap.size w w' := by
 have hu26 := Tryd.underlying26
 have hu60 := Tryd.underlying60
 have HR0_4 := Az.mk hr0_4
 have HC0_4 := Az.mk hc0_4
 clear hr0_4 hc0_4
 have HB := Az.mk (Below.refl w.heap.size w)
 have H : ((desc_Has.f a0_0 a0_1 a0_2 a0_3 l0_4 a0_5 a1).bind fun bt571 => ((desc_Check.f a0_0 a0_1 a0_2 a0_3 l0_4 a0_5).bind fun t575 => (if t575 = 0 then (if bt571.2.2 = true then (if (l0_4.length : Int) = 1 then (some (0, (⟨#[]⟩ : ByteArray), (⟨#[]⟩ : ByteArray), 0, ([] : List (S60)), 0, 2)) else ((api_Member_51.f l0_4 a1).bind fun t576 => ((desc_right.f a0_0 a0_1 a0_2 (wrap64 (a0_3 + 1)) t576 a0_5).bind fun bt579 => (some (bt579.1, bt579.2.1, bt579.2.2.1, bt579.2.2.2.1, bt579.2.2.2.2.1, bt579.2.2.2.2.2.1, bt579.2.2.2.2.2.2))))) else (some (0, (⟨#[]⟩ : ByteArray), (⟨#[]⟩ : ByteArray), 0, ([] : List (S60)), 0, 7))) else (some (0, (⟨#[]⟩ : ByteArray), (⟨#[]⟩ : ByteArray), 0, ([] : List (S60)), 0, 60))))) = some (r1, r2, r3, r4, r5, r6, r7) := h
 clear h
 replace H := Option.bind_eq_some_iff.mp H
 obtain ⟨⟨t571, t572, t573⟩, A30, H⟩ := H
 replace H : ((desc_Check.f a0_0 a0_1 a0_2 a0_3 l0_4 a0_5).bind fun t575 => (if t575 = 0 then (if t573 = true then (if (l0_4.length : Int) = 1 then (some (0, (⟨#[]⟩ : ByteArray), (⟨#[]⟩ : ByteArray), 0, ([] : List (S60)), 0, 2)) else ((api_Member_51.f l0_4 a1).bind fun t576 => ((desc_right.f a0_0 a0_1 a0_2 (wrap64 (a0_3 + 1)) t576 a0_5).bind fun bt579 => (some (bt579.1, bt579.2.1, bt579.2.2.1, bt579.2.2.2.1, bt579.2.2.2.2.1, bt579.2.2.2.2.2.1, bt579.2.2.2.2.2.2))))) else (some (0, (⟨#[]⟩ : ByteArray), (⟨#[]⟩ : ByteArray), 0, ([] : List (S60)), 0, 7))) else (some (0, (⟨#[]⟩ : ByteArray), (⟨#[]⟩ : ByteArray), 0, ([] : List (S60)), 0, 60)))) = some (r1, r2, r3, r4, r5, r6, r7) := H
 have A3 := Az.mk A30
 clear A30
 replace H := Option.bind_eq_some_iff.mp H
 obtain ⟨t575, A40, H⟩ := H
 replace H : (if t575 = 0 then (if t573 = true then (if (l0_4.length : Int) = 1 then (some (0, (⟨#[]⟩ : ByteArray), (⟨#[]⟩ : ByteArray), 0, ([] : List (S60)), 0, 2)) else ((api_Member_51.f l0_4 a1).bind fun t576 => ((desc_right.f a0_0 a0_1 a0_2 (wrap64 (a0_3 + 1)) t576 a0_5).bind fun bt579 => (some (bt579.1, bt579.2.1, bt579.2.2.1, bt579.2.2.2.1, bt579.2.2.2.2.1, bt579.2.2.2.2.2.1, bt579.2.2.2.2.2.2))))) else (some (0, (⟨#[]⟩ : ByteArray), (⟨#[]⟩ : ByteArray), 0, ([] : List (S60)), 0, 7))) else (some (0, (⟨#[]⟩ : ByteArray), (⟨#[]⟩ : ByteArray), 0, ([] : List (S60)), 0, 60))) = some (r1, r2, r3, r4, r5, r6, r7) := H
 have A4 := Az.mk A40
 clear A40
 by_cases c5 : t575 = 0
 ·rw [if_pos c5] at H
  have c5b0 : (t575 == 0) = true := beq_iff_eq.mpr c5
  have c5b1 : (t575 != 0) = false := bne_eq_false_iff_eq.mpr c5
  clear c5
  by_cases c6 : t573 = true
  ·subst c6
   have H1 : (if (l0_4.length : Int) = 1 then (some (0, (⟨#[]⟩ : ByteArray), (⟨#[]⟩ : ByteArray), 0, ([] : List (S60)), 0, 2)) else ((api_Member_51.f l0_4 a1).bind fun t576 => ((desc_right.f a0_0 a0_1 a0_2 (wrap64 (a0_3 + 1)) t576 a0_5).bind fun bt579 => (some (bt579.1, bt579.2.1, bt579.2.2.1, bt579.2.2.2.1, bt579.2.2.2.2.1, bt579.2.2.2.2.2.1, bt579.2.2.2.2.2.2))))) = some (r1, r2, r3, r4, r5, r6, r7) := by rw [if_pos rfl] at H; exact H
   clear H
   have H := H1
   clear H1
   by_cases c7 : (l0_4.length : Int) = 1
   ·rw [if_pos c7] at H
    have c7b0 : ((l0_4.length : Int) == 1) = true := beq_iff_eq.mpr c7
    have c7b1 : ((l0_4.length : Int) != 1) = false := bne_eq_false_iff_eq.mpr c7
    clear c7
    simp only [Option.some.injEq, Prod.mk.injEq] at H
    obtain ⟨rfl, rfl, rfl, rfl, rfl, rfl, rfl⟩ := H
    have hmf : ∀ (fn : Fn) (first cap : Array Value) (w : World), (Instr.makeFunc fn first cap).run Tryd.prog w = .ok (.func fn first cap) w := fun _ _ _ _ => rfl
    go_enter Tryd.func27, Tryd.ntmps27
    go_wp2_with (first | ((with_reducible refine gate_dst (N := 2) rfl ?_); refine box_event ?hg (N := 2) ?hd (cs := #[.int .i64 a0_0, .string a0_1, .string a0_2, .int .i64 a0_3, .slice A0_4 l0_4.length c0_4, .int .i64 a0_5]) (t := 26) ?hr ?_; (case hd => rfl); (case hg => rfl); (case hr => first | (go_simp; done) | (go_simp; rfl)); intro gb568 hg w8 hbox hb; have BK568 := Az.mk (hbox); have GW568 := Az.mk (geO hg (pbE HB.out)); have GE568 := Az.mk (geO hg (pbE HB.out)); replace HB := Az.mk (pbT (by exact pbE HB.out) hb); clear hb hbox hg) | ((with_reducible refine gate_dst (N := 3) rfl ?_); refine box_event ?hg (N := 3) ?hd (cs := #[.int .i64 a1]) (t := 2) ?hr ?_; (case hd => rfl); (case hg => rfl); (case hr => first | (go_simp; done) | (go_simp; rfl)); intro gb569 hg w9 hbox hb; have BK569 := Az.mk (hbox); have GW569 := Az.mk (geO hg (pbE HB.out)); have GE569 := Az.mk (geO hg (pbE HB.out)); replace HB := Az.mk (pbT (by exact pbE HB.out) hb); have NB568_569 := Az.mk (neO hg (bk BK568.out)); have NB569_568 := Az.mk (neP hg (bk BK568.out)); replace BK568 := Az.mk (bkB (bk BK568.out) hb); clear hb hbox hg) | ((with_reducible refine gate_dst (N := 4) rfl ?_); refine box_event ?hg (N := 4) ?hd (cs := #[.int .i64 0, .string (⟨#[]⟩ : ByteArray), .string (⟨#[]⟩ : ByteArray), .int .i64 0, .slice none 0 0, .int .i64 0]) (t := 26) ?hr ?_; (case hd => rfl); (case hg => rfl); (case hr => first | (go_simp; done) | (go_simp; rfl)); intro gb570 hg w10 hbox hb; have BK570 := Az.mk (hbox); have GW570 := Az.mk (geO hg (pbE HB.out)); have GE570 := Az.mk (geO hg (pbE HB.out)); replace HB := Az.mk (pbT (by exact pbE HB.out) hb); have NB568_570 := Az.mk (neO hg (bk BK568.out)); have NB570_568 := Az.mk (neP hg (bk BK568.out)); replace BK568 := Az.mk (bkB (bk BK568.out) hb); have NB569_570 := Az.mk (neO hg (bk BK569.out)); have NB570_569 := Az.mk (neP hg (bk BK569.out)); replace BK569 := Az.mk (bkB (bk BK569.out) hb); clear hb hbox hg; have hnb11 := NB568_569.out; have hnc11 := NB569_568.out; have hnb12 := NB568_570.out; have hnc12 := NB570_568.out; have hcz13 := cells6 BK568.out; have hnb14 := NB569_570.out; have hnc14 := NB570_569.out; have hcz15 := cells1 BK569.out) | ((with_reducible refine gtc (f := 29) rfl ?_); refine goesL_ (some 11) rfl rfl Tryd.func29 (by kernel_rfl) rfl #[.agg #[.int .i64 a0_0, .string a0_1, .string a0_2, .int .i64 a0_3, .slice A0_4 l0_4.length c0_4, .int .i64 a0_5], .int .i64 a1] rfl (by (try simp only [List.map_toArray, List.map_cons, List.map_nil]); first | done | rfl | (simp only [List.length_drop, List.length_take]; rfl)) ?_; (with_reducible refine (desc_Has.calls a0_0 a0_1 a0_2 a0_3 _ _ l0_4 a0_5 a1 t571 t572 true _ ?side1 ?side2 ?side3 A3.out).mono ?_); (case side1 => exact hG.below (by exact pbE HB.out)); (case side2 => repeat (first | exact (Kd.C_below HR0_4.out HB.out) | (with_reducible refine Kd.C_alloc ?_ _) | (with_reducible refine Kd.C_drewN ?_ _) | (with_reducible refine Kd.C_drew ?_))); (case side3 => exact HC0_4.out); rintro e w16 ⟨rfl, hb⟩; refine ⟨_, rfl, ?_⟩; replace BK568 := Az.mk (bkB (bk BK568.out) hb); replace BK569 := Az.mk (bkB (bk BK569.out) hb); replace BK570 := Az.mk (bkB (bk BK570.out) hb); replace HB := Az.mk (pbT (by exact pbE HB.out) hb); (try clear hb); (try clear hb2); (try clear hk); (try clear hi)) | ((with_reducible refine gate_dst (N := 6) rfl ?_); refine box_event ?hg (N := 6) ?hd (cs := #[.int .i64 0, .int .i64 0]) (t := 60) ?hr ?_; (case hd => rfl); (case hg => rfl); (case hr => first | (go_simp; done) | (go_simp; rfl)); intro gb574 hg w17 hbox hb; have BK574 := Az.mk (hbox); have GW574 := Az.mk (geO hg (pbE HB.out)); have GE574 := Az.mk (geO hg (pbE HB.out)); replace HB := Az.mk (pbT (by exact pbE HB.out) hb); have NB568_574 := Az.mk (neO hg (bk BK568.out)); have NB574_568 := Az.mk (neP hg (bk BK568.out)); replace BK568 := Az.mk (bkB (bk BK568.out) hb); have NB569_574 := Az.mk (neO hg (bk BK569.out)); have NB574_569 := Az.mk (neP hg (bk BK569.out)); replace BK569 := Az.mk (bkB (bk BK569.out) hb); have NB570_574 := Az.mk (neO hg (bk BK570.out)); have NB574_570 := Az.mk (neP hg (bk BK570.out)); replace BK570 := Az.mk (bkB (bk BK570.out) hb); clear hb hbox hg; have hnb18 := NB574_568.out; have hnc18 := NB568_574.out; have hnb19 := NB574_569.out; have hnc19 := NB569_574.out; have hnb20 := NB574_570.out; have hnc20 := NB570_574.out; have hcz21 := cells2 BK574.out; have hcz22 := cells6 BK568.out) | ((with_reducible refine gtc (f := 22) rfl ?_); refine goesL_ (some 16) rfl rfl Tryd.func22 (by kernel_rfl) rfl #[.agg #[.int .i64 a0_0, .string a0_1, .string a0_2, .int .i64 a0_3, .slice A0_4 l0_4.length c0_4, .int .i64 a0_5]] rfl (by (try simp only [List.map_toArray, List.map_cons, List.map_nil]); first | done | rfl | (simp only [List.length_drop, List.length_take]; rfl)) ?_; (with_reducible refine (desc_Check.calls a0_0 a0_1 a0_2 a0_3 _ _ l0_4 a0_5 t575 _ ?side1 ?side2 ?side3 A4.out).mono ?_); (case side1 => exact hG.below (by exact pbE HB.out)); (case side2 => exact Kd.C_below HR0_4.out (by exact pbE HB.out)); (case side3 => exact HC0_4.out); rintro e w23 ⟨rfl, hb⟩; refine ⟨_, rfl, ?_⟩; replace BK568 := Az.mk (bkB (bf BK568.out) hb); replace BK569 := Az.mk (bkB (bf BK569.out) hb); replace BK570 := Az.mk (bkB (bf BK570.out) hb); replace BK574 := Az.mk (bkB (g := gb574) (o := .cells #[.int .i64 t571, .int .i64 t572] 60 (0, 0)) (by refine bk ?_; refine blk_put (cs := #[.int .i64 t571, .int .i64 0]) ?_ 1 _ rfl; refine bk ?_; refine blk_put (cs := #[.int .i64 0, .int .i64 0]) ?_ 0 _ rfl; refine bk ?_; exact BK574.out) hb); replace HB := Az.mk (pbT (by exact pbE HB.out) hb); (try clear hb); (try clear hb2); (try clear hk); (try clear hi); have hcz24 := cells6 BK568.out; have hcz25 := cells6 BK570.out))
    refine bodyPost_ret (results_ct rfl _ _ gb570 26 #[.int .i64 0, .string (⟨#[]⟩ : ByteArray), .string (⟨#[]⟩ : ByteArray), .int .i64 0, .slice none 0 0, .int .i64 0] (0, 0) _ rfl (by refine bk ?_; refine blk_put (cs := #[.int .i64 0, .string (⟨#[]⟩ : ByteArray), .string (⟨#[]⟩ : ByteArray), .int .i64 0, .slice none 0 0, .int .i64 0]) ?_ 5 _ rfl; refine bk ?_; refine blk_put (cs := #[.int .i64 0, .string (⟨#[]⟩ : ByteArray), .string (⟨#[]⟩ : ByteArray), .int .i64 0, .slice none 0 0, .int .i64 0]) ?_ 4 _ rfl; refine bk ?_; refine blk_put (cs := #[.int .i64 0, .string (⟨#[]⟩ : ByteArray), .string (⟨#[]⟩ : ByteArray), .int .i64 0, .slice none 0 0, .int .i64 0]) ?_ 3 _ rfl; refine bk ?_; refine blk_put (cs := #[.int .i64 0, .string (⟨#[]⟩ : ByteArray), .string (⟨#[]⟩ : ByteArray), .int .i64 0, .slice none 0 0, .int .i64 0]) ?_ 2 _ rfl; refine bk ?_; refine blk_put (cs := #[.int .i64 0, .string (⟨#[]⟩ : ByteArray), .string (⟨#[]⟩ : ByteArray), .int .i64 0, .slice none 0 0, .int .i64 0]) ?_ 1 _ rfl; refine bk ?_; refine blk_put (cs := #[.int .i64 0, .string (⟨#[]⟩ : ByteArray), .string (⟨#[]⟩ : ByteArray), .int .i64 0, .slice none 0 0, .int .i64 0]) ?_ 0 _ rfl; refine bk ?_; exact BK570.out) Tryd.underlying26 rfl (by kernel_rfl)) rfl ?_
    exact ⟨_, by first | rfl | (simp [errW_none, errW_some] <;> rfl) | (simp [*, errW_none, errW_some] <;> rfl), Kd.V_nil _ _ _ _ _, by exact pbE HB.out⟩
   ·rw [if_neg c7] at H
    have c7b0 : ((l0_4.length : Int) == 1) = false := beq_eq_false_iff_ne.mpr c7
    have c7b1 : ((l0_4.length : Int) != 1) = true := bne_iff_ne.mpr c7
    replace H := Option.bind_eq_some_iff.mp H
    obtain ⟨t576, A260, H⟩ := H
    replace H : ((desc_right.f a0_0 a0_1 a0_2 (wrap64 (a0_3 + 1)) t576 a0_5).bind fun bt579 => (some (bt579.1, bt579.2.1, bt579.2.2.1, bt579.2.2.2.1, bt579.2.2.2.2.1, bt579.2.2.2.2.2.1, bt579.2.2.2.2.2.2))) = some (r1, r2, r3, r4, r5, r6, r7) := H
    have A26 := Az.mk A260
    clear A260
    replace H := Option.bind_eq_some_iff.mp H
    obtain ⟨⟨t579, t580, t581, t582, t583, t586, t587⟩, A270, H⟩ := H
    replace H : (some (t579, t580, t581, t582, t583, t586, t587)) = some (r1, r2, r3, r4, r5, r6, r7) := H
    have A27 := Az.mk A270
    clear A270
    simp only [Option.some.injEq, Prod.mk.injEq] at H
    obtain ⟨rfl, rfl, rfl, rfl, rfl, rfl, rfl⟩ := H
    have hmf : ∀ (fn : Fn) (first cap : Array Value) (w : World), (Instr.makeFunc fn first cap).run Tryd.prog w = .ok (.func fn first cap) w := fun _ _ _ _ => rfl
    go_enter Tryd.func27, Tryd.ntmps27
    go_wp2_with (first | ((with_reducible refine gate_dst (N := 2) rfl ?_); refine box_event ?hg (N := 2) ?hd (cs := #[.int .i64 a0_0, .string a0_1, .string a0_2, .int .i64 a0_3, .slice A0_4 l0_4.length c0_4, .int .i64 a0_5]) (t := 26) ?hr ?_; (case hd => rfl); (case hg => rfl); (case hr => first | (go_simp; done) | (go_simp; rfl)); intro gb568 hg w28 hbox hb; have BK568 := Az.mk (hbox); have GW568 := Az.mk (geO hg (pbE HB.out)); have GE568 := Az.mk (geO hg (pbE HB.out)); replace HB := Az.mk (pbT (by exact pbE HB.out) hb); clear hb hbox hg) | ((with_reducible refine gate_dst (N := 3) rfl ?_); refine box_event ?hg (N := 3) ?hd (cs := #[.int .i64 a1]) (t := 2) ?hr ?_; (case hd => rfl); (case hg => rfl); (case hr => first | (go_simp; done) | (go_simp; rfl)); intro gb569 hg w29 hbox hb; have BK569 := Az.mk (hbox); have GW569 := Az.mk (geO hg (pbE HB.out)); have GE569 := Az.mk (geO hg (pbE HB.out)); replace HB := Az.mk (pbT (by exact pbE HB.out) hb); have NB568_569 := Az.mk (neO hg (bk BK568.out)); have NB569_568 := Az.mk (neP hg (bk BK568.out)); replace BK568 := Az.mk (bkB (bk BK568.out) hb); clear hb hbox hg) | ((with_reducible refine gate_dst (N := 4) rfl ?_); refine box_event ?hg (N := 4) ?hd (cs := #[.int .i64 0, .string (⟨#[]⟩ : ByteArray), .string (⟨#[]⟩ : ByteArray), .int .i64 0, .slice none 0 0, .int .i64 0]) (t := 26) ?hr ?_; (case hd => rfl); (case hg => rfl); (case hr => first | (go_simp; done) | (go_simp; rfl)); intro gb570 hg w30 hbox hb; have BK570 := Az.mk (hbox); have GW570 := Az.mk (geO hg (pbE HB.out)); have GE570 := Az.mk (geO hg (pbE HB.out)); replace HB := Az.mk (pbT (by exact pbE HB.out) hb); have NB568_570 := Az.mk (neO hg (bk BK568.out)); have NB570_568 := Az.mk (neP hg (bk BK568.out)); replace BK568 := Az.mk (bkB (bk BK568.out) hb); have NB569_570 := Az.mk (neO hg (bk BK569.out)); have NB570_569 := Az.mk (neP hg (bk BK569.out)); replace BK569 := Az.mk (bkB (bk BK569.out) hb); clear hb hbox hg; have hnb31 := NB568_569.out; have hnc31 := NB569_568.out; have hnb32 := NB568_570.out; have hnc32 := NB570_568.out; have hcz33 := cells6 BK568.out; have hnb34 := NB569_570.out; have hnc34 := NB570_569.out; have hcz35 := cells1 BK569.out) | ((with_reducible refine gtc (f := 29) rfl ?_); refine goesL_ (some 11) rfl rfl Tryd.func29 (by kernel_rfl) rfl #[.agg #[.int .i64 a0_0, .string a0_1, .string a0_2, .int .i64 a0_3, .slice A0_4 l0_4.length c0_4, .int .i64 a0_5], .int .i64 a1] rfl (by (try simp only [List.map_toArray, List.map_cons, List.map_nil]); first | done | rfl | (simp only [List.length_drop, List.length_take]; rfl)) ?_; (with_reducible refine (desc_Has.calls a0_0 a0_1 a0_2 a0_3 _ _ l0_4 a0_5 a1 t571 t572 true _ ?side1 ?side2 ?side3 A3.out).mono ?_); (case side1 => exact hG.below (by exact pbE HB.out)); (case side2 => repeat (first | exact (Kd.C_below HR0_4.out HB.out) | (with_reducible refine Kd.C_alloc ?_ _) | (with_reducible refine Kd.C_drewN ?_ _) | (with_reducible refine Kd.C_drew ?_))); (case side3 => exact HC0_4.out); rintro e w36 ⟨rfl, hb⟩; refine ⟨_, rfl, ?_⟩; replace BK568 := Az.mk (bkB (bk BK568.out) hb); replace BK569 := Az.mk (bkB (bk BK569.out) hb); replace BK570 := Az.mk (bkB (bk BK570.out) hb); replace HB := Az.mk (pbT (by exact pbE HB.out) hb); (try clear hb); (try clear hb2); (try clear hk); (try clear hi)) | ((with_reducible refine gate_dst (N := 6) rfl ?_); refine box_event ?hg (N := 6) ?hd (cs := #[.int .i64 0, .int .i64 0]) (t := 60) ?hr ?_; (case hd => rfl); (case hg => rfl); (case hr => first | (go_simp; done) | (go_simp; rfl)); intro gb574 hg w37 hbox hb; have BK574 := Az.mk (hbox); have GW574 := Az.mk (geO hg (pbE HB.out)); have GE574 := Az.mk (geO hg (pbE HB.out)); replace HB := Az.mk (pbT (by exact pbE HB.out) hb); have NB568_574 := Az.mk (neO hg (bk BK568.out)); have NB574_568 := Az.mk (neP hg (bk BK568.out)); replace BK568 := Az.mk (bkB (bk BK568.out) hb); have NB569_574 := Az.mk (neO hg (bk BK569.out)); have NB574_569 := Az.mk (neP hg (bk BK569.out)); replace BK569 := Az.mk (bkB (bk BK569.out) hb); have NB570_574 := Az.mk (neO hg (bk BK570.out)); have NB574_570 := Az.mk (neP hg (bk BK570.out)); replace BK570 := Az.mk (bkB (bk BK570.out) hb); clear hb hbox hg; have hnb38 := NB574_568.out; have hnc38 := NB568_574.out; have hnb39 := NB574_569.out; have hnc39 := NB569_574.out; have hnb40 := NB574_570.out; have hnc40 := NB570_574.out; have hcz41 := cells2 BK574.out; have hcz42 := cells6 BK568.out) | ((with_reducible refine gtc (f := 22) rfl ?_); refine goesL_ (some 16) rfl rfl Tryd.func22 (by kernel_rfl) rfl #[.agg #[.int .i64 a0_0, .string a0_1, .string a0_2, .int .i64 a0_3, .slice A0_4 l0_4.length c0_4, .int .i64 a0_5]] rfl (by (try simp only [List.map_toArray, List.map_cons, List.map_nil]); first | done | rfl | (simp only [List.length_drop, List.length_take]; rfl)) ?_; (with_reducible refine (desc_Check.calls a0_0 a0_1 a0_2 a0_3 _ _ l0_4 a0_5 t575 _ ?side1 ?side2 ?side3 A4.out).mono ?_); (case side1 => exact hG.below (by exact pbE HB.out)); (case side2 => exact Kd.C_below HR0_4.out (by exact pbE HB.out)); (case side3 => exact HC0_4.out); rintro e w43 ⟨rfl, hb⟩; refine ⟨_, rfl, ?_⟩; replace BK568 := Az.mk (bkB (bf BK568.out) hb); replace BK569 := Az.mk (bkB (bf BK569.out) hb); replace BK570 := Az.mk (bkB (bf BK570.out) hb); replace BK574 := Az.mk (bkB (g := gb574) (o := .cells #[.int .i64 t571, .int .i64 t572] 60 (0, 0)) (by refine bk ?_; refine blk_put (cs := #[.int .i64 t571, .int .i64 0]) ?_ 1 _ rfl; refine bk ?_; refine blk_put (cs := #[.int .i64 0, .int .i64 0]) ?_ 0 _ rfl; refine bk ?_; exact BK574.out) hb); replace HB := Az.mk (pbT (by exact pbE HB.out) hb); (try clear hb); (try clear hb2); (try clear hk); (try clear hi); have hcz44 := cells6 BK568.out; have hcz45 := cells1 BK569.out) | ((with_reducible refine gtc (f := 33) rfl ?_); refine goesL_ (some 31) rfl rfl Tryd.func33 (by kernel_rfl) rfl #[.slice A0_4 l0_4.length c0_4] rfl (by (try simp only [List.map_toArray, List.map_cons, List.map_nil]); first | done | rfl | (simp only [List.length_drop, List.length_take]; rfl)) ?_; (with_reducible refine (api_Member_33.calls _ _ l0_4 l0_4 _ ?side1 ?side2 ?side3 (clone_of A26.out)).mono ?_); (case side1 => exact hG.below (by exact pbE HB.out)); (case side2 => repeat (first | exact (Kd.C_below HR0_4.out HB.out) | (with_reducible refine Kd.C_alloc ?_ _) | (with_reducible refine Kd.C_drewN ?_ _) | (with_reducible refine Kd.C_drew ?_))); (case side3 => exact HC0_4.out); rintro e wC_ ⟨vC_, rfl, hRC, hbC⟩; refine ⟨_, rfl, ?_⟩; have HRC_ := Az.mk hRC; have HBC_ := Az.mk hbC; clear hRC hbC) | ((with_reducible refine gtc (f := 51) rfl ?_); refine goesL_ (some 33) rfl rfl Tryd.func51 (by kernel_rfl) rfl #[vC_, .func (.func 52) #[] #[.pointer (some ⟨gb569, 0, none⟩)]] rfl (by (try simp only [List.map_toArray, List.map_cons, List.map_nil]); first | done | rfl | (simp only [List.length_drop, List.length_take]; rfl)) ?_; (with_reducible refine (delete_after gb569 a1 l0_4 t576 _ _ _ HRC_.out HBC_.out ?side1 A26.out).mono ?_); (case side1 => exact bk BK569.out); rintro e w46 ⟨v577, rfl, ho0, hb⟩; refine ⟨_, rfl, ?_⟩; clear HRC_ HBC_; have HO578 := Az.mk (Kd.R_lower (Kd.R_newB (Kd.R_newM (M := fun k_ => (w.heap.size ≤ k_)) (Kd.R_mono (ok' := fun k_ => True) ho0 (fun _ hk_ => trivial)) (pbZ (by exact pbE HB.out)) (fun k_ h_ => h_)) (bk BK574.out)) (pbZ (by exact pbE HB.out))); replace BK568 := Az.mk (bkB (bk BK568.out) hb); replace BK569 := Az.mk (bkB (bk BK569.out) hb); replace BK570 := Az.mk (bkB (bk BK570.out) hb); replace BK574 := Az.mk (bkB (bk BK574.out) hb); replace HB := Az.mk (pbT (by exact pbE HB.out) hb); (try clear hb); (try clear hb2); (try clear hk); (try clear hi); (try clear ho0); obtain ⟨Ao47, co47, eo47⟩ := Kd.R_slice HO578.out; subst eo47; have hcz48 := cells6 BK568.out) | ((with_reducible refine gate_store (t := 24) (p := 34) rfl ?_); refine store_event (t := 24) (p := 34) (v := ?vo_w49) (w1 := (w46.setCell ⟨gb568, 4, none⟩ (.slice Ao47 t576.length co47))) ?hg ?ho ?hn ?hr ?_; (case ho => rfl); (case hg => rfl); (case hn => rfl); (case hr => first | (go_simp; done) | (go_simp; rfl)); intro w49 hw; have n0_ : Az (Kd.R k60 60 w49 w.heap.size (fun k_ => (w.heap.size ≤ k_) ∧ k_ ≠ gb574) (.slice Ao47 t576.length co47) t576) := ⟨(by rw [hw]; exact (by (with_reducible repeat (first | apply Kd.R_alloc | apply Kd.R_drewN | apply Kd.R_drew)); exact Kd.R_mono (Kd.R_far (p := ⟨gb568, 4, none⟩) (Kd.R_types HO578.out BK568.out (by decide)) (fun _ hk => hk.2) (.slice Ao47 t576.length co47)) (fun _ hk => ⟨hk.1.1.1, hk.1.2⟩)))⟩; have n1_ : Az (w49.heap[gb568]? = some (.cells #[.int .i64 a0_0, .string a0_1, .string a0_2, .int .i64 a0_3, .slice Ao47 t576.length co47, .int .i64 a0_5] 26 (0, 0))) := ⟨(by rw [hw]; exact (by refine bk ?_; refine blk_put (cs := #[.int .i64 a0_0, .string a0_1, .string a0_2, .int .i64 a0_3, .slice A0_4 l0_4.length c0_4, .int .i64 a0_5]) ?_ 4 _ rfl; refine bk ?_; exact BK568.out))⟩; have n2_ : Az (w49.heap[gb569]? = some (.cells #[.int .i64 a1] 2 (0, 0))) := ⟨(by rw [hw]; exact (bf BK569.out))⟩; have n3_ : Az (w49.heap[gb570]? = some (.cells #[.int .i64 0, .string (⟨#[]⟩ : ByteArray), .string (⟨#[]⟩ : ByteArray), .int .i64 0, .slice none 0 0, .int .i64 0] 26 (0, 0))) := ⟨(by rw [hw]; exact (bf BK570.out))⟩; have n4_ : Az (w49.heap[gb574]? = some (.cells #[.int .i64 t571, .int .i64 t572] 60 (0, 0))) := ⟨(by rw [hw]; exact (bf BK574.out))⟩; have n5_ : Az (Below w.heap.size w w49) := ⟨(by rw [hw]; exact (by exact pbE HB.out))⟩; clear hw; clear HO578; clear BK568; clear BK569; clear BK570; clear BK574; clear HB; have HO578 := n0_; have BK568 := n1_; have BK569 := n2_; have BK570 := n3_; have BK574 := n4_; have HB := n5_; clear n0_ n1_ n2_ n3_ n4_ n5_; have hcz50 := cells6 BK568.out) | ((with_reducible refine gate_store (t := 2) (p := 38) rfl ?_); refine store_event (t := 2) (p := 38) (v := ?vo_w51) (w1 := (w49.setCell ⟨gb568, 3, none⟩ (.int .i64 (wrap64 (a0_3 + 1))))) ?hg ?ho ?hn ?hr ?_; (case ho => rfl); (case hg => rfl); (case hn => rfl); (case hr => first | (go_simp; done) | (go_simp; rfl)); intro w51 hw; have n0_ : Az (Kd.R k60 60 w51 w.heap.size (fun k_ => (w.heap.size ≤ k_) ∧ k_ ≠ gb574) (.slice Ao47 t576.length co47) t576) := ⟨(by rw [hw]; exact (by (with_reducible repeat (first | apply Kd.R_alloc | apply Kd.R_drewN | apply Kd.R_drew)); exact Kd.R_mono (Kd.R_far (p := ⟨gb568, 3, none⟩) (Kd.R_types HO578.out BK568.out (by decide)) (fun _ hk => hk.2) (.int .i64 (wrap64 (a0_3 + 1)))) (fun _ hk => ⟨hk.1.1, hk.1.2⟩)))⟩; have n1_ : Az (w51.heap[gb568]? = some (.cells #[.int .i64 a0_0, .string a0_1, .string a0_2, .int .i64 (wrap64 (a0_3 + 1)), .slice Ao47 t576.length co47, .int .i64 a0_5] 26 (0, 0))) := ⟨(by rw [hw]; exact (by refine bk ?_; refine blk_put (cs := #[.int .i64 a0_0, .string a0_1, .string a0_2, .int .i64 a0_3, .slice Ao47 t576.length co47, .int .i64 a0_5]) ?_ 3 _ rfl; refine bk ?_; exact BK568.out))⟩; have n2_ : Az (w51.heap[gb569]? = some (.cells #[.int .i64 a1] 2 (0, 0))) := ⟨(by rw [hw]; exact (bf BK569.out))⟩; have n3_ : Az (w51.heap[gb570]? = some (.cells #[.int .i64 0, .string (⟨#[]⟩ : ByteArray), .string (⟨#[]⟩ : ByteArray), .int .i64 0, .slice none 0 0, .int .i64 0] 26 (0, 0))) := ⟨(by rw [hw]; exact (bf BK570.out))⟩; have n4_ : Az (w51.heap[gb574]? = some (.cells #[.int .i64 t571, .int .i64 t572] 60 (0, 0))) := ⟨(by rw [hw]; exact (bf BK574.out))⟩; have n5_ : Az (Below w.heap.size w w51) := ⟨(by rw [hw]; exact (by exact pbE HB.out))⟩; clear hw; clear HO578; clear BK568; clear BK569; clear BK570; clear BK574; clear HB; have HO578 := n0_; have BK568 := n1_; have BK569 := n2_; have BK570 := n3_; have BK574 := n4_; have HB := n5_; clear n0_ n1_ n2_ n3_ n4_ n5_; have hcz52 := cells6 BK568.out) | ((with_reducible refine gtc (f := 37) rfl ?_); refine goesL_ (some 40) rfl rfl Tryd.func37 (by kernel_rfl) rfl #[.agg #[.int .i64 a0_0, .string a0_1, .string a0_2, .int .i64 (wrap64 (a0_3 + 1)), .slice Ao47 t576.length co47, .int .i64 a0_5]] rfl (by (try simp only [List.map_toArray, List.map_cons, List.map_nil]); first | done | rfl | (simp only [List.length_drop, List.length_take]; rfl)) ?_; (with_reducible refine (desc_right.calls a0_0 a0_1 a0_2 (wrap64 (a0_3 + 1)) (fun k_ => some k_ = (.slice Ao47 t576.length co47 : Value).ownBlock) _ _ t576 a0_5 t579 t580 t581 t582 t583 t586 t587 _ ?side1 ?side2 A27.out).mono ?_); (case side1 => exact hG.below (by exact pbE HB.out)); (case side2 => exact Kd.R_V (Kd.R_tight rfl (Kd.R_types (Kd.R_types (Kd.R_types (HO578.out) BK568.out (by decide)) BK569.out (by decide)) BK570.out (by decide)))); rintro e w53 ⟨v584, rfl, ho0, hb⟩; refine ⟨_, rfl, ?_⟩; have HO585 := Az.mk (Kd.V_lower (Kd.V_mono (ok' := fun k_ => (w.heap.size ≤ k_) ∧ k_ ≠ gb568 ∧ k_ ≠ gb569 ∧ k_ ≠ gb570 ∧ k_ ≠ gb574) ho0 (fun k_ hk_ => ⟨Or.elim hk_ (fun hs_ => ((Kd.R_types (Kd.R_types (Kd.R_types (HO578.out) BK568.out (by decide)) BK569.out (by decide)) BK570.out (by decide)).1 k_ hs_.symm).1.1.1.1) (fun hn_ => (Nat.le_trans (pbZ (by exact pbE HB.out)) hn_)), Or.elim hk_ (fun hs_ => ((Kd.R_types (Kd.R_types (Kd.R_types (HO578.out) BK568.out (by decide)) BK569.out (by decide)) BK570.out (by decide)).1 k_ hs_.symm).1.1.2) (fun hn_ => (Kd.freshB (bk BK568.out) k_ hn_)), Or.elim hk_ (fun hs_ => ((Kd.R_types (Kd.R_types (Kd.R_types (HO578.out) BK568.out (by decide)) BK569.out (by decide)) BK570.out (by decide)).1 k_ hs_.symm).1.2) (fun hn_ => (Kd.freshB (bk BK569.out) k_ hn_)), Or.elim hk_ (fun hs_ => ((Kd.R_types (Kd.R_types (Kd.R_types (HO578.out) BK568.out (by decide)) BK569.out (by decide)) BK570.out (by decide)).1 k_ hs_.symm).2) (fun hn_ => (Kd.freshB (bk BK570.out) k_ hn_)), Or.elim hk_ (fun hs_ => ((Kd.R_types (Kd.R_types (Kd.R_types (HO578.out) BK568.out (by decide)) BK569.out (by decide)) BK570.out (by decide)).1 k_ hs_.symm).1.1.1.2) (fun hn_ => (Kd.freshB (bk BK574.out) k_ hn_))⟩)) (pbZ (by exact pbE HB.out))); replace HO578 := Az.mk (Kd.R_below (Kd.R_ext HO578.out) hb); replace BK568 := Az.mk (bkB (bk BK568.out) hb); replace BK569 := Az.mk (bkB (bk BK569.out) hb); replace BK570 := Az.mk (bkB (bk BK570.out) hb); replace BK574 := Az.mk (bkB (bk BK574.out) hb); replace HB := Az.mk (pbT (by exact pbE HB.out) hb); (try clear hb); (try clear hb2); (try clear hk); (try clear hi); (try clear ho0); have hcz54 := cells6 BK570.out; obtain ⟨Ao55, co55, eo55⟩ := Kd.V_slice HO585.out; subst eo55))
    refine bodyPost_ret (results_ct rfl _ _ gb570 26 #[.int .i64 t579, .string t580, .string t581, .int .i64 t582, .slice Ao55 t583.length co55, .int .i64 t586] (0, 0) _ rfl (by refine bk ?_; refine blk_put (cs := #[.int .i64 t579, .string t580, .string t581, .int .i64 t582, .slice Ao55 t583.length co55, .int .i64 0]) ?_ 5 _ rfl; refine bk ?_; refine blk_put (cs := #[.int .i64 t579, .string t580, .string t581, .int .i64 t582, .slice none 0 0, .int .i64 0]) ?_ 4 _ rfl; refine bk ?_; refine blk_put (cs := #[.int .i64 t579, .string t580, .string t581, .int .i64 0, .slice none 0 0, .int .i64 0]) ?_ 3 _ rfl; refine bk ?_; refine blk_put (cs := #[.int .i64 t579, .string t580, .string (⟨#[]⟩ : ByteArray), .int .i64 0, .slice none 0 0, .int .i64 0]) ?_ 2 _ rfl; refine bk ?_; refine blk_put (cs := #[.int .i64 t579, .string (⟨#[]⟩ : ByteArray), .string (⟨#[]⟩ : ByteArray), .int .i64 0, .slice none 0 0, .int .i64 0]) ?_ 1 _ rfl; refine bk ?_; refine blk_put (cs := #[.int .i64 0, .string (⟨#[]⟩ : ByteArray), .string (⟨#[]⟩ : ByteArray), .int .i64 0, .slice none 0 0, .int .i64 0]) ?_ 0 _ rfl; refine bk ?_; exact BK570.out) Tryd.underlying26 rfl (by kernel_rfl)) rfl ?_
    exact ⟨_, by first | rfl | (simp [errW_none, errW_some] <;> rfl) | (simp [*, errW_none, errW_some] <;> rfl), by (with_reducible repeat (first | apply Kd.V_alloc | apply Kd.V_drewN | apply Kd.V_drew)); exact Kd.V_mono (Kd.V_off (g := gb570) (fun _ hk => hk.2) (Kd.V_mono HO585.out (fun k_ hk => (⟨hk, hk.2.2.2.1⟩ : _ ∧ k_ ≠ gb570)))) (fun _ hk => hk.1.1), by exact pbE HB.out⟩
  ·replace c6 := Bool.eq_false_iff.mpr c6
   subst c6
   have H1 : (some (0, (⟨#[]⟩ : ByteArray), (⟨#[]⟩ : ByteArray), 0, ([] : List (S60)), 0, 7)) = some (r1, r2, r3, r4, r5, r6, r7) := by rw [if_neg (show ¬ (false = true) by decide)] at H; exact H
   clear H
   have H := H1
   clear H1
   simp only [Option.some.injEq, Prod.mk.injEq] at H
   obtain ⟨rfl, rfl, rfl, rfl, rfl, rfl, rfl⟩ := H
   have hmf : ∀ (fn : Fn) (first cap : Array Value) (w : World), (Instr.makeFunc fn first cap).run Tryd.prog w = .ok (.func fn first cap) w := fun _ _ _ _ => rfl
   go_enter Tryd.func27, Tryd.ntmps27
   go_wp2_with (first | ((with_reducible refine gate_dst (N := 2) rfl ?_); refine box_event ?hg (N := 2) ?hd (cs := #[.int .i64 a0_0, .string a0_1, .string a0_2, .int .i64 a0_3, .slice A0_4 l0_4.length c0_4, .int .i64 a0_5]) (t := 26) ?hr ?_; (case hd => rfl); (case hg => rfl); (case hr => first | (go_simp; done) | (go_simp; rfl)); intro gb568 hg w56 hbox hb; have BK568 := Az.mk (hbox); have GW568 := Az.mk (geO hg (pbE HB.out)); have GE568 := Az.mk (geO hg (pbE HB.out)); replace HB := Az.mk (pbT (by exact pbE HB.out) hb); clear hb hbox hg) | ((with_reducible refine gate_dst (N := 3) rfl ?_); refine box_event ?hg (N := 3) ?hd (cs := #[.int .i64 a1]) (t := 2) ?hr ?_; (case hd => rfl); (case hg => rfl); (case hr => first | (go_simp; done) | (go_simp; rfl)); intro gb569 hg w57 hbox hb; have BK569 := Az.mk (hbox); have GW569 := Az.mk (geO hg (pbE HB.out)); have GE569 := Az.mk (geO hg (pbE HB.out)); replace HB := Az.mk (pbT (by exact pbE HB.out) hb); have NB568_569 := Az.mk (neO hg (bk BK568.out)); have NB569_568 := Az.mk (neP hg (bk BK568.out)); replace BK568 := Az.mk (bkB (bk BK568.out) hb); clear hb hbox hg) | ((with_reducible refine gate_dst (N := 4) rfl ?_); refine box_event ?hg (N := 4) ?hd (cs := #[.int .i64 0, .string (⟨#[]⟩ : ByteArray), .string (⟨#[]⟩ : ByteArray), .int .i64 0, .slice none 0 0, .int .i64 0]) (t := 26) ?hr ?_; (case hd => rfl); (case hg => rfl); (case hr => first | (go_simp; done) | (go_simp; rfl)); intro gb570 hg w58 hbox hb; have BK570 := Az.mk (hbox); have GW570 := Az.mk (geO hg (pbE HB.out)); have GE570 := Az.mk (geO hg (pbE HB.out)); replace HB := Az.mk (pbT (by exact pbE HB.out) hb); have NB568_570 := Az.mk (neO hg (bk BK568.out)); have NB570_568 := Az.mk (neP hg (bk BK568.out)); replace BK568 := Az.mk (bkB (bk BK568.out) hb); have NB569_570 := Az.mk (neO hg (bk BK569.out)); have NB570_569 := Az.mk (neP hg (bk BK569.out)); replace BK569 := Az.mk (bkB (bk BK569.out) hb); clear hb hbox hg; have hnb59 := NB568_569.out; have hnc59 := NB569_568.out; have hnb60 := NB568_570.out; have hnc60 := NB570_568.out; have hcz61 := cells6 BK568.out; have hnb62 := NB569_570.out; have hnc62 := NB570_569.out; have hcz63 := cells1 BK569.out) | ((with_reducible refine gtc (f := 29) rfl ?_); refine goesL_ (some 11) rfl rfl Tryd.func29 (by kernel_rfl) rfl #[.agg #[.int .i64 a0_0, .string a0_1, .string a0_2, .int .i64 a0_3, .slice A0_4 l0_4.length c0_4, .int .i64 a0_5], .int .i64 a1] rfl (by (try simp only [List.map_toArray, List.map_cons, List.map_nil]); first | done | rfl | (simp only [List.length_drop, List.length_take]; rfl)) ?_; (with_reducible refine (desc_Has.calls a0_0 a0_1 a0_2 a0_3 _ _ l0_4 a0_5 a1 t571 t572 false _ ?side1 ?side2 ?side3 A3.out).mono ?_); (case side1 => exact hG.below (by exact pbE HB.out)); (case side2 => repeat (first | exact (Kd.C_below HR0_4.out HB.out) | (with_reducible refine Kd.C_alloc ?_ _) | (with_reducible refine Kd.C_drewN ?_ _) | (with_reducible refine Kd.C_drew ?_))); (case side3 => exact HC0_4.out); rintro e w64 ⟨rfl, hb⟩; refine ⟨_, rfl, ?_⟩; replace BK568 := Az.mk (bkB (bk BK568.out) hb); replace BK569 := Az.mk (bkB (bk BK569.out) hb); replace BK570 := Az.mk (bkB (bk BK570.out) hb); replace HB := Az.mk (pbT (by exact pbE HB.out) hb); (try clear hb); (try clear hb2); (try clear hk); (try clear hi)) | ((with_reducible refine gate_dst (N := 6) rfl ?_); refine box_event ?hg (N := 6) ?hd (cs := #[.int .i64 0, .int .i64 0]) (t := 60) ?hr ?_; (case hd => rfl); (case hg => rfl); (case hr => first | (go_simp; done) | (go_simp; rfl)); intro gb574 hg w65 hbox hb; have BK574 := Az.mk (hbox); have GW574 := Az.mk (geO hg (pbE HB.out)); have GE574 := Az.mk (geO hg (pbE HB.out)); replace HB := Az.mk (pbT (by exact pbE HB.out) hb); have NB568_574 := Az.mk (neO hg (bk BK568.out)); have NB574_568 := Az.mk (neP hg (bk BK568.out)); replace BK568 := Az.mk (bkB (bk BK568.out) hb); have NB569_574 := Az.mk (neO hg (bk BK569.out)); have NB574_569 := Az.mk (neP hg (bk BK569.out)); replace BK569 := Az.mk (bkB (bk BK569.out) hb); have NB570_574 := Az.mk (neO hg (bk BK570.out)); have NB574_570 := Az.mk (neP hg (bk BK570.out)); replace BK570 := Az.mk (bkB (bk BK570.out) hb); clear hb hbox hg; have hnb66 := NB574_568.out; have hnc66 := NB568_574.out; have hnb67 := NB574_569.out; have hnc67 := NB569_574.out; have hnb68 := NB574_570.out; have hnc68 := NB570_574.out; have hcz69 := cells2 BK574.out; have hcz70 := cells6 BK568.out) | ((with_reducible refine gtc (f := 22) rfl ?_); refine goesL_ (some 16) rfl rfl Tryd.func22 (by kernel_rfl) rfl #[.agg #[.int .i64 a0_0, .string a0_1, .string a0_2, .int .i64 a0_3, .slice A0_4 l0_4.length c0_4, .int .i64 a0_5]] rfl (by (try simp only [List.map_toArray, List.map_cons, List.map_nil]); first | done | rfl | (simp only [List.length_drop, List.length_take]; rfl)) ?_; (with_reducible refine (desc_Check.calls a0_0 a0_1 a0_2 a0_3 _ _ l0_4 a0_5 t575 _ ?side1 ?side2 ?side3 A4.out).mono ?_); (case side1 => exact hG.below (by exact pbE HB.out)); (case side2 => exact Kd.C_below HR0_4.out (by exact pbE HB.out)); (case side3 => exact HC0_4.out); rintro e w71 ⟨rfl, hb⟩; refine ⟨_, rfl, ?_⟩; replace BK568 := Az.mk (bkB (bf BK568.out) hb); replace BK569 := Az.mk (bkB (bf BK569.out) hb); replace BK570 := Az.mk (bkB (bf BK570.out) hb); replace BK574 := Az.mk (bkB (g := gb574) (o := .cells #[.int .i64 t571, .int .i64 t572] 60 (0, 0)) (by refine bk ?_; refine blk_put (cs := #[.int .i64 t571, .int .i64 0]) ?_ 1 _ rfl; refine bk ?_; refine blk_put (cs := #[.int .i64 0, .int .i64 0]) ?_ 0 _ rfl; refine bk ?_; exact BK574.out) hb); replace HB := Az.mk (pbT (by exact pbE HB.out) hb); (try clear hb); (try clear hb2); (try clear hk); (try clear hi); have hcz72 := cells6 BK570.out))
   refine bodyPost_ret (results_ct rfl _ _ gb570 26 #[.int .i64 0, .string (⟨#[]⟩ : ByteArray), .string (⟨#[]⟩ : ByteArray), .int .i64 0, .slice none 0 0, .int .i64 0] (0, 0) _ rfl (by refine bk ?_; refine blk_put (cs := #[.int .i64 0, .string (⟨#[]⟩ : ByteArray), .string (⟨#[]⟩ : ByteArray), .int .i64 0, .slice none 0 0, .int .i64 0]) ?_ 5 _ rfl; refine bk ?_; refine blk_put (cs := #[.int .i64 0, .string (⟨#[]⟩ : ByteArray), .string (⟨#[]⟩ : ByteArray), .int .i64 0, .slice none 0 0, .int .i64 0]) ?_ 4 _ rfl; refine bk ?_; refine blk_put (cs := #[.int .i64 0, .string (⟨#[]⟩ : ByteArray), .string (⟨#[]⟩ : ByteArray), .int .i64 0, .slice none 0 0, .int .i64 0]) ?_ 3 _ rfl; refine bk ?_; refine blk_put (cs := #[.int .i64 0, .string (⟨#[]⟩ : ByteArray), .string (⟨#[]⟩ : ByteArray), .int .i64 0, .slice none 0 0, .int .i64 0]) ?_ 2 _ rfl; refine bk ?_; refine blk_put (cs := #[.int .i64 0, .string (⟨#[]⟩ : ByteArray), .string (⟨#[]⟩ : ByteArray), .int .i64 0, .slice none 0 0, .int .i64 0]) ?_ 1 _ rfl; refine bk ?_; refine blk_put (cs := #[.int .i64 0, .string (⟨#[]⟩ : ByteArray), .string (⟨#[]⟩ : ByteArray), .int .i64 0, .slice none 0 0, .int .i64 0]) ?_ 0 _ rfl; refine bk ?_; exact BK570.out) Tryd.underlying26 rfl (by kernel_rfl)) rfl ?_
   exact ⟨_, by first | rfl | (simp [errW_none, errW_some] <;> rfl) | (simp [*, errW_none, errW_some] <;> rfl), Kd.V_nil _ _ _ _ _, by exact pbE HB.out⟩
 ·rw [if_neg c5] at H
  have c5b0 : (t575 == 0) = false := beq_eq_false_iff_ne.mpr c5
  have c5b1 : (t575 != 0) = true := bne_iff_ne.mpr c5
  simp only [Option.some.injEq, Prod.mk.injEq] at H
  obtain ⟨rfl, rfl, rfl, rfl, rfl, rfl, rfl⟩ := H
  have hmf : ∀ (fn : Fn) (first cap : Array Value) (w : World), (Instr.makeFunc fn first cap).run Tryd.prog w = .ok (.func fn first cap) w := fun _ _ _ _ => rfl
  go_enter Tryd.func27, Tryd.ntmps27
  go_wp2_with (first | ((with_reducible refine gate_dst (N := 2) rfl ?_); refine box_event ?hg (N := 2) ?hd (cs := #[.int .i64 a0_0, .string a0_1, .string a0_2, .int .i64 a0_3, .slice A0_4 l0_4.length c0_4, .int .i64 a0_5]) (t := 26) ?hr ?_; (case hd => rfl); (case hg => rfl); (case hr => first | (go_simp; done) | (go_simp; rfl)); intro gb568 hg w73 hbox hb; have BK568 := Az.mk (hbox); have GW568 := Az.mk (geO hg (pbE HB.out)); have GE568 := Az.mk (geO hg (pbE HB.out)); replace HB := Az.mk (pbT (by exact pbE HB.out) hb); clear hb hbox hg) | ((with_reducible refine gate_dst (N := 3) rfl ?_); refine box_event ?hg (N := 3) ?hd (cs := #[.int .i64 a1]) (t := 2) ?hr ?_; (case hd => rfl); (case hg => rfl); (case hr => first | (go_simp; done) | (go_simp; rfl)); intro gb569 hg w74 hbox hb; have BK569 := Az.mk (hbox); have GW569 := Az.mk (geO hg (pbE HB.out)); have GE569 := Az.mk (geO hg (pbE HB.out)); replace HB := Az.mk (pbT (by exact pbE HB.out) hb); have NB568_569 := Az.mk (neO hg (bk BK568.out)); have NB569_568 := Az.mk (neP hg (bk BK568.out)); replace BK568 := Az.mk (bkB (bk BK568.out) hb); clear hb hbox hg) | ((with_reducible refine gate_dst (N := 4) rfl ?_); refine box_event ?hg (N := 4) ?hd (cs := #[.int .i64 0, .string (⟨#[]⟩ : ByteArray), .string (⟨#[]⟩ : ByteArray), .int .i64 0, .slice none 0 0, .int .i64 0]) (t := 26) ?hr ?_; (case hd => rfl); (case hg => rfl); (case hr => first | (go_simp; done) | (go_simp; rfl)); intro gb570 hg w75 hbox hb; have BK570 := Az.mk (hbox); have GW570 := Az.mk (geO hg (pbE HB.out)); have GE570 := Az.mk (geO hg (pbE HB.out)); replace HB := Az.mk (pbT (by exact pbE HB.out) hb); have NB568_570 := Az.mk (neO hg (bk BK568.out)); have NB570_568 := Az.mk (neP hg (bk BK568.out)); replace BK568 := Az.mk (bkB (bk BK568.out) hb); have NB569_570 := Az.mk (neO hg (bk BK569.out)); have NB570_569 := Az.mk (neP hg (bk BK569.out)); replace BK569 := Az.mk (bkB (bk BK569.out) hb); clear hb hbox hg; have hnb76 := NB568_569.out; have hnc76 := NB569_568.out; have hnb77 := NB568_570.out; have hnc77 := NB570_568.out; have hcz78 := cells6 BK568.out; have hnb79 := NB569_570.out; have hnc79 := NB570_569.out; have hcz80 := cells1 BK569.out) | ((with_reducible refine gtc (f := 29) rfl ?_); refine goesL_ (some 11) rfl rfl Tryd.func29 (by kernel_rfl) rfl #[.agg #[.int .i64 a0_0, .string a0_1, .string a0_2, .int .i64 a0_3, .slice A0_4 l0_4.length c0_4, .int .i64 a0_5], .int .i64 a1] rfl (by (try simp only [List.map_toArray, List.map_cons, List.map_nil]); first | done | rfl | (simp only [List.length_drop, List.length_take]; rfl)) ?_; (with_reducible refine (desc_Has.calls a0_0 a0_1 a0_2 a0_3 _ _ l0_4 a0_5 a1 t571 t572 t573 _ ?side1 ?side2 ?side3 A3.out).mono ?_); (case side1 => exact hG.below (by exact pbE HB.out)); (case side2 => repeat (first | exact (Kd.C_below HR0_4.out HB.out) | (with_reducible refine Kd.C_alloc ?_ _) | (with_reducible refine Kd.C_drewN ?_ _) | (with_reducible refine Kd.C_drew ?_))); (case side3 => exact HC0_4.out); rintro e w81 ⟨rfl, hb⟩; refine ⟨_, rfl, ?_⟩; replace BK568 := Az.mk (bkB (bk BK568.out) hb); replace BK569 := Az.mk (bkB (bk BK569.out) hb); replace BK570 := Az.mk (bkB (bk BK570.out) hb); replace HB := Az.mk (pbT (by exact pbE HB.out) hb); (try clear hb); (try clear hb2); (try clear hk); (try clear hi)) | ((with_reducible refine gate_dst (N := 6) rfl ?_); refine box_event ?hg (N := 6) ?hd (cs := #[.int .i64 0, .int .i64 0]) (t := 60) ?hr ?_; (case hd => rfl); (case hg => rfl); (case hr => first | (go_simp; done) | (go_simp; rfl)); intro gb574 hg w82 hbox hb; have BK574 := Az.mk (hbox); have GW574 := Az.mk (geO hg (pbE HB.out)); have GE574 := Az.mk (geO hg (pbE HB.out)); replace HB := Az.mk (pbT (by exact pbE HB.out) hb); have NB568_574 := Az.mk (neO hg (bk BK568.out)); have NB574_568 := Az.mk (neP hg (bk BK568.out)); replace BK568 := Az.mk (bkB (bk BK568.out) hb); have NB569_574 := Az.mk (neO hg (bk BK569.out)); have NB574_569 := Az.mk (neP hg (bk BK569.out)); replace BK569 := Az.mk (bkB (bk BK569.out) hb); have NB570_574 := Az.mk (neO hg (bk BK570.out)); have NB574_570 := Az.mk (neP hg (bk BK570.out)); replace BK570 := Az.mk (bkB (bk BK570.out) hb); clear hb hbox hg; have hnb83 := NB574_568.out; have hnc83 := NB568_574.out; have hnb84 := NB574_569.out; have hnc84 := NB569_574.out; have hnb85 := NB574_570.out; have hnc85 := NB570_574.out; have hcz86 := cells2 BK574.out; have hcz87 := cells6 BK568.out) | ((with_reducible refine gtc (f := 22) rfl ?_); refine goesL_ (some 16) rfl rfl Tryd.func22 (by kernel_rfl) rfl #[.agg #[.int .i64 a0_0, .string a0_1, .string a0_2, .int .i64 a0_3, .slice A0_4 l0_4.length c0_4, .int .i64 a0_5]] rfl (by (try simp only [List.map_toArray, List.map_cons, List.map_nil]); first | done | rfl | (simp only [List.length_drop, List.length_take]; rfl)) ?_; (with_reducible refine (desc_Check.calls a0_0 a0_1 a0_2 a0_3 _ _ l0_4 a0_5 t575 _ ?side1 ?side2 ?side3 A4.out).mono ?_); (case side1 => exact hG.below (by exact pbE HB.out)); (case side2 => exact Kd.C_below HR0_4.out (by exact pbE HB.out)); (case side3 => exact HC0_4.out); rintro e w88 ⟨rfl, hb⟩; refine ⟨_, rfl, ?_⟩; replace BK568 := Az.mk (bkB (bf BK568.out) hb); replace BK569 := Az.mk (bkB (bf BK569.out) hb); replace BK570 := Az.mk (bkB (bf BK570.out) hb); replace BK574 := Az.mk (bkB (g := gb574) (o := .cells #[.int .i64 t571, .int .i64 t572] 60 (0, 0)) (by refine bk ?_; refine blk_put (cs := #[.int .i64 t571, .int .i64 0]) ?_ 1 _ rfl; refine bk ?_; refine blk_put (cs := #[.int .i64 0, .int .i64 0]) ?_ 0 _ rfl; refine bk ?_; exact BK574.out) hb); replace HB := Az.mk (pbT (by exact pbE HB.out) hb); (try clear hb); (try clear hb2); (try clear hk); (try clear hi); have hcz89 := cells6 BK570.out))
  refine bodyPost_ret (results_ct rfl _ _ gb570 26 #[.int .i64 0, .string (⟨#[]⟩ : ByteArray), .string (⟨#[]⟩ : ByteArray), .int .i64 0, .slice none 0 0, .int .i64 0] (0, 0) _ rfl (by refine bk ?_; refine blk_put (cs := #[.int .i64 0, .string (⟨#[]⟩ : ByteArray), .string (⟨#[]⟩ : ByteArray), .int .i64 0, .slice none 0 0, .int .i64 0]) ?_ 5 _ rfl; refine bk ?_; refine blk_put (cs := #[.int .i64 0, .string (⟨#[]⟩ : ByteArray), .string (⟨#[]⟩ : ByteArray), .int .i64 0, .slice none 0 0, .int .i64 0]) ?_ 4 _ rfl; refine bk ?_; refine blk_put (cs := #[.int .i64 0, .string (⟨#[]⟩ : ByteArray), .string (⟨#[]⟩ : ByteArray), .int .i64 0, .slice none 0 0, .int .i64 0]) ?_ 3 _ rfl; refine bk ?_; refine blk_put (cs := #[.int .i64 0, .string (⟨#[]⟩ : ByteArray), .string (⟨#[]⟩ : ByteArray), .int .i64 0, .slice none 0 0, .int .i64 0]) ?_ 2 _ rfl; refine bk ?_; refine blk_put (cs := #[.int .i64 0, .string (⟨#[]⟩ : ByteArray), .string (⟨#[]⟩ : ByteArray), .int .i64 0, .slice none 0 0, .int .i64 0]) ?_ 1 _ rfl; refine bk ?_; refine blk_put (cs := #[.int .i64 0, .string (⟨#[]⟩ : ByteArray), .string (⟨#[]⟩ : ByteArray), .int .i64 0, .slice none 0 0, .int .i64 0]) ?_ 0 _ rfl; refine bk ?_; exact BK570.out) Tryd.underlying26 rfl (by kernel_rfl)) rfl ?_
  exact ⟨_, by first | rfl | (simp [errW_none, errW_some] <;> rfl) | (simp [*, errW_none, errW_some] <;> rfl), Kd.V_nil _ _ _ _ _, by exact pbE HB.out⟩
def r06_id.f (a0 : Int) : Option (Bool) := if a0 ≥ 1 then (some (decide (a0 ≤ 1099511627776))) else (some false)
set_option maxHeartbeats 8000000 in
set_option maxRecDepth 100000 in
theorem r06_id.calls (a0 : Int) (r : Bool) (w : World) (hG : TheG w) (h : r06_id.f a0 = some r) :
 Calls Tryd.prog 59 #[.int .i64 a0] w fun e w' => e = .returned (.bool r) ∧ Drawn0 w w' := by
 have H : (if a0 ≥ 1 then (some (decide (a0 ≤ 1099511627776))) else (some false)) = some r := h
 clear h
 by_cases c2 : a0 ≥ 1
 ·rw [if_pos c2] at H
  have c2b0 : decide (1 ≤ a0) = true := decide_eq_true c2
  clear c2
  obtain rfl := Option.some.inj H
  go_enter Tryd.func59, Tryd.ntmps59
  go_wp2
  go_ret
  exact ⟨by first | rfl | (simp; done) | (simp [*]; done), by repeat (first | exact Drawn0.refl _ | apply Drawn0.step)⟩
 ·rw [if_neg c2] at H
  have c2b0 : decide (1 ≤ a0) = false := decide_eq_false c2
  clear c2
  obtain rfl := Option.some.inj H
  go_enter Tryd.func59, Tryd.ntmps59
  go_wp2
  go_ret
  exact ⟨by first | rfl | (simp; done) | (simp [*]; done), by repeat (first | exact Drawn0.refl _ | apply Drawn0.step)⟩
def r02_Is.f (a0_0 : ByteArray) (a0_1 : ByteArray) : Option (Bool) := if (a0_0.size : Int) ≤ 33 then (if (a0_1.size : Int) ≤ 33 then (if a0_1.toList = ([] : List UInt8) then (some true) else (some (Op.bytesLess a0_0.toList a0_1.toList))) else (some false)) else (some false)
set_option maxHeartbeats 8000000 in
set_option maxRecDepth 100000 in
theorem r02_Is.calls (a0_0 : ByteArray) (a0_1 : ByteArray) (r : Bool) (w : World) (hG : TheG w) (h : r02_Is.f a0_0 a0_1 = some r) :
 Calls Tryd.prog 60 #[.agg #[.string a0_0, .string a0_1]] w fun e w' => e = .returned (.bool r) ∧ Below w.heap.size w w' := by
 have hu23 := Tryd.underlying23
 have HB := Az.mk (Below.refl w.heap.size w)
 have H : (if (a0_0.size : Int) ≤ 33 then (if (a0_1.size : Int) ≤ 33 then (if a0_1.toList = ([] : List UInt8) then (some true) else (some (Op.bytesLess a0_0.toList a0_1.toList))) else (some false)) else (some false)) = some r := h
 clear h
 by_cases c2 : (a0_0.size : Int) ≤ 33
 ·rw [if_pos c2] at H
  have c2b0 : decide ((a0_0.size : Int) ≤ 33) = true := decide_eq_true c2
  have c2b1 : decide (a0_0.size ≤ 33) = true := decide_eq_true (by omega)
  clear c2
  by_cases c3 : (a0_1.size : Int) ≤ 33
  ·rw [if_pos c3] at H
   have c3b0 : decide ((a0_1.size : Int) ≤ 33) = true := decide_eq_true c3
   have c3b1 : decide (a0_1.size ≤ 33) = true := decide_eq_true (by omega)
   clear c3
   by_cases c4 : a0_1.toList = ([] : List UInt8)
   ·rw [if_pos c4] at H
    have c4b0 : (a0_1.toList == ([] : List UInt8)) = true := beq_iff_eq.mpr c4
    have c4b1 : (a0_1.toList != ([] : List UInt8)) = false := bne_eq_false_iff_eq.mpr c4
    clear c4
    obtain rfl := Option.some.inj H
    go_enter Tryd.func60, Tryd.ntmps60
    go_wp2_with (first | ((with_reducible refine gate_dst (N := 1) rfl ?_); (try (refine gate_guard (by rfl) ?_; dsimp only)); refine box_event ?hg (N := 1) ?hd (cs := #[.string a0_0, .string a0_1]) (t := 23) ?hr ?_; (case hd => rfl); (case hg => rfl); (case hr => first | (go_simp; done) | (go_simp; rfl)); intro gb343 hg w5 hbox hb; have BK343 := Az.mk (hbox); have GW343 := Az.mk (geO hg (pbE HB.out)); have GE343 := Az.mk (geO hg (pbE HB.out)); replace HB := Az.mk (pbT (by exact pbE HB.out) hb); clear hb hbox hg; have hcz6 := cells2 BK343.out))
    go_ret
    exact ⟨by first | rfl | (simp [errW_none, errW_some] <;> rfl) | (simp [*, errW_none, errW_some] <;> rfl), by exact pbE HB.out⟩
   ·rw [if_neg c4] at H
    have c4b0 : (a0_1.toList == ([] : List UInt8)) = false := beq_eq_false_iff_ne.mpr c4
    have c4b1 : (a0_1.toList != ([] : List UInt8)) = true := bne_iff_ne.mpr c4
    obtain rfl := Option.some.inj H
    go_enter Tryd.func60, Tryd.ntmps60
    go_wp2_with (first | ((with_reducible refine gate_dst (N := 1) rfl ?_); (try (refine gate_guard (by rfl) ?_; dsimp only)); refine box_event ?hg (N := 1) ?hd (cs := #[.string a0_0, .string a0_1]) (t := 23) ?hr ?_; (case hd => rfl); (case hg => rfl); (case hr => first | (go_simp; done) | (go_simp; rfl)); intro gb343 hg w7 hbox hb; have BK343 := Az.mk (hbox); have GW343 := Az.mk (geO hg (pbE HB.out)); have GE343 := Az.mk (geO hg (pbE HB.out)); replace HB := Az.mk (pbT (by exact pbE HB.out) hb); clear hb hbox hg; have hcz8 := cells2 BK343.out))
    go_ret
    exact ⟨by first | rfl | (simp [errW_none, errW_some] <;> rfl) | (simp [*, errW_none, errW_some] <;> rfl), by exact pbE HB.out⟩
  ·rw [if_neg c3] at H
   have c3b0 : decide ((a0_1.size : Int) ≤ 33) = false := decide_eq_false c3
   have c3b1 : decide (a0_1.size ≤ 33) = false := decide_eq_false (by omega)
   clear c3
   obtain rfl := Option.some.inj H
   go_enter Tryd.func60, Tryd.ntmps60
   go_wp2_with (first | ((with_reducible refine gate_dst (N := 1) rfl ?_); (try (refine gate_guard (by rfl) ?_; dsimp only)); refine box_event ?hg (N := 1) ?hd (cs := #[.string a0_0, .string a0_1]) (t := 23) ?hr ?_; (case hd => rfl); (case hg => rfl); (case hr => first | (go_simp; done) | (go_simp; rfl)); intro gb343 hg w9 hbox hb; have BK343 := Az.mk (hbox); have GW343 := Az.mk (geO hg (pbE HB.out)); have GE343 := Az.mk (geO hg (pbE HB.out)); replace HB := Az.mk (pbT (by exact pbE HB.out) hb); clear hb hbox hg; have hcz10 := cells2 BK343.out))
   go_ret
   exact ⟨by first | rfl | (simp [errW_none, errW_some] <;> rfl) | (simp [*, errW_none, errW_some] <;> rfl), by exact pbE HB.out⟩
 ·rw [if_neg c2] at H
  have c2b0 : decide ((a0_0.size : Int) ≤ 33) = false := decide_eq_false c2
  have c2b1 : decide (a0_0.size ≤ 33) = false := decide_eq_false (by omega)
  clear c2
  obtain rfl := Option.some.inj H
  go_enter Tryd.func60, Tryd.ntmps60
  go_wp2_with (first | ((with_reducible refine gate_dst (N := 1) rfl ?_); (try (refine gate_guard (by rfl) ?_; dsimp only)); refine box_event ?hg (N := 1) ?hd (cs := #[.string a0_0, .string a0_1]) (t := 23) ?hr ?_; (case hd => rfl); (case hg => rfl); (case hr => first | (go_simp; done) | (go_simp; rfl)); intro gb343 hg w11 hbox hb; have BK343 := Az.mk (hbox); have GW343 := Az.mk (geO hg (pbE HB.out)); have GE343 := Az.mk (geO hg (pbE HB.out)); replace HB := Az.mk (pbT (by exact pbE HB.out) hb); clear hb hbox hg; have hcz12 := cells2 BK343.out))
  go_ret
  exact ⟨by first | rfl | (simp [errW_none, errW_some] <;> rfl) | (simp [*, errW_none, errW_some] <;> rfl), by exact pbE HB.out⟩
mutual
def r06_Is.j0 : Nat → Bool → Int → ByteArray → ByteArray → Int → List (S60) → Int → Option (Bool)
 | 0, _, _, _, _, _, _, _ => none
 | k + 1, x39, x345000, x345001, x345002, x345003, x345004, x345005 => if x39 = true then (some false) else (r06_Is.l0 k 0 x345000 x345001 x345002 x345003 x345004 x345005)
def r06_Is.l0 : Nat → Int → Int → ByteArray → ByteArray → Int → List (S60) → Int → Option (Bool)
 | 0, _, _, _, _, _, _, _ => none
 | k + 1, x3, x345000, x345001, x345002, x345003, x345004, x345005 => if x3 < (x345004.length : Int) then (if 0 ≤ x3 then (if ((rd_T60 x345004 x3).f0) < 1 then (r06_Is.j2 k x3 true x345000 x345001 x345002 x345003 x345004 x345005 ((rd_T60 x345004 x3).f0) ((rd_T60 x345004 x3).f1)) else (if ((rd_T60 x345004 x3).f0) > 7 then (r06_Is.j2 k x3 true x345000 x345001 x345002 x345003 x345004 x345005 ((rd_T60 x345004 x3).f0) ((rd_T60 x345004 x3).f1)) else (if ((rd_T60 x345004 x3).f1) < 1 then (r06_Is.j2 k x3 true x345000 x345001 x345002 x345003 x345004 x345005 ((rd_T60 x345004 x3).f0) ((rd_T60 x345004 x3).f1)) else (if ((rd_T60 x345004 x3).f1) ≥ x345005 then (r06_Is.j2 k x3 true x345000 x345001 x345002 x345003 x345004 x345005 ((rd_T60 x345004 x3).f0) ((rd_T60 x345004 x3).f1)) else (if x3 > 0 then (if 0 ≤ (wrap64 (x3 - 1)) then (if (wrap64 (x3 - 1)) < (x345004.length : Int) then (r06_Is.j2 k x3 (decide (((rd_T60 x345004 x3).f1) ≤ ((rd_T60 x345004 (wrap64 (x3 - 1))).f1))) x345000 x345001 x345002 x345003 x345004 x345005 ((rd_T60 x345004 x3).f0) ((rd_T60 x345004 x3).f1)) else (none)) else (none)) else (r06_Is.j2 k x3 false x345000 x345001 x345002 x345003 x345004 x345005 ((rd_T60 x345004 x3).f0) ((rd_T60 x345004 x3).f1))))))) else (none)) else (some true)
def r06_Is.j2 : Nat → Int → Bool → Int → ByteArray → ByteArray → Int → List (S60) → Int → Int → Int → Option (Bool)
 | 0, _, _, _, _, _, _, _, _, _, _ => none
 | k + 1, x3, x87, x345000, x345001, x345002, x345003, x345004, x345005, x351000, x351001 => if x87 = true then (some false) else (r06_Is.l1 k x3 0 x345000 x345001 x345002 x345003 x345004 x345005 x351000 x351001)
def r06_Is.l1 : Nat → Int → Int → Int → ByteArray → ByteArray → Int → List (S60) → Int → Int → Int → Option (Bool)
 | 0, _, _, _, _, _, _, _, _, _, _ => none
 | k + 1, x3, x5, x345000, x345001, x345002, x345003, x345004, x345005, x351000, x351001 => if x5 < x3 then (if 0 ≤ x5 then (if x5 < (x345004.length : Int) then (if ((rd_T60 x345004 x5).f0) = x351000 then (some false) else (r06_Is.l1 k x3 (wrap64 (x5 + 1)) x345000 x345001 x345002 x345003 x345004 x345005 x351000 x351001)) else (none)) else (none)) else (r06_Is.l0 k (wrap64 (x3 + 1)) x345000 x345001 x345002 x345003 x345004 x345005)
end
def r06_Is.f (k : Nat) (a0_0 : Int) (a0_1 : ByteArray) (a0_2 : ByteArray) (a0_3 : Int) (l0_4 : List (S60)) (a0_5 : Int) : Option (Bool) := (r06_id.f a0_0).bind fun t345 => (if t345 = true then ((r06_id.f a0_3).bind fun t346 => (if t346 = true then ((r06_id.f a0_5).bind fun t347 => (if t347 = true then ((r02_Is.f a0_1 a0_2).bind fun t348 => (if t348 = true then (if (l0_4.length : Int) < 1 then (r06_Is.j0 k true a0_0 a0_1 a0_2 a0_3 l0_4 a0_5) else (r06_Is.j0 k (decide ((l0_4.length : Int) > 5)) a0_0 a0_1 a0_2 a0_3 l0_4 a0_5)) else (r06_Is.j0 k true a0_0 a0_1 a0_2 a0_3 l0_4 a0_5))) else (r06_Is.j0 k true a0_0 a0_1 a0_2 a0_3 l0_4 a0_5))) else (r06_Is.j0 k true a0_0 a0_1 a0_2 a0_3 l0_4 a0_5))) else (r06_Is.j0 k true a0_0 a0_1 a0_2 a0_3 l0_4 a0_5))
theorem r06_Is.mono_l : ∀ k, (∀ y0 y1 y2 y3 y4 y5 y6, LeO (r06_Is.j0 k y0 y1 y2 y3 y4 y5 y6) (r06_Is.j0 (k + 1) y0 y1 y2 y3 y4 y5 y6)) ∧ (∀ y0 y1 y2 y3 y4 y5 y6, LeO (r06_Is.l0 k y0 y1 y2 y3 y4 y5 y6) (r06_Is.l0 (k + 1) y0 y1 y2 y3 y4 y5 y6)) ∧ (∀ y0 y1 y2 y3 y4 y5 y6 y7 y8 y9, LeO (r06_Is.j2 k y0 y1 y2 y3 y4 y5 y6 y7 y8 y9) (r06_Is.j2 (k + 1) y0 y1 y2 y3 y4 y5 y6 y7 y8 y9)) ∧ (∀ y0 y1 y2 y3 y4 y5 y6 y7 y8 y9, LeO (r06_Is.l1 k y0 y1 y2 y3 y4 y5 y6 y7 y8 y9) (r06_Is.l1 (k + 1) y0 y1 y2 y3 y4 y5 y6 y7 y8 y9))
 | 0 => ⟨fun _ _ _ _ _ _ _ r h => by simp [r06_Is.j0] at h, fun _ _ _ _ _ _ _ r h => by simp [r06_Is.l0] at h, fun _ _ _ _ _ _ _ _ _ _ r h => by simp [r06_Is.j2] at h, fun _ _ _ _ _ _ _ _ _ _ r h => by simp [r06_Is.l1] at h⟩
 | k + 1 => by
  obtain ⟨ih0, ih1, ih2, ih3⟩ := r06_Is.mono_l k
  refine ⟨?_, ?_, ?_, ?_⟩
  ·intro y0 y1 y2 y3 y4 y5 y6
   unfold r06_Is.j0
   repeat' first
   | (with_reducible exact ih0 _ _ _ _ _ _ _)
   | (with_reducible exact ih1 _ _ _ _ _ _ _)
   | (with_reducible exact ih2 _ _ _ _ _ _ _ _ _ _)
   | (with_reducible exact ih3 _ _ _ _ _ _ _ _ _ _)
   | (with_reducible exact LeO.refl _)
   | (with_reducible exact LeO.none _)
   | (with_reducible refine LeO.ite ?_ ?_)
   | (with_reducible refine LeO.bind ?_ (fun _ => ?_))
   | exact ih0 _ _ _ _ _ _ _
   | exact ih1 _ _ _ _ _ _ _
   | exact ih2 _ _ _ _ _ _ _ _ _ _
   | exact ih3 _ _ _ _ _ _ _ _ _ _
   | exact LeO.none _
   | refine LeO.ite ?_ ?_
   | refine LeO.bind ?_ (fun _ => ?_)
  ·intro y0 y1 y2 y3 y4 y5 y6
   unfold r06_Is.l0
   repeat' first
   | (with_reducible exact ih0 _ _ _ _ _ _ _)
   | (with_reducible exact ih1 _ _ _ _ _ _ _)
   | (with_reducible exact ih2 _ _ _ _ _ _ _ _ _ _)
   | (with_reducible exact ih3 _ _ _ _ _ _ _ _ _ _)
   | (with_reducible exact LeO.refl _)
   | (with_reducible exact LeO.none _)
   | (with_reducible refine LeO.ite ?_ ?_)
   | (with_reducible refine LeO.bind ?_ (fun _ => ?_))
   | exact ih0 _ _ _ _ _ _ _
   | exact ih1 _ _ _ _ _ _ _
   | exact ih2 _ _ _ _ _ _ _ _ _ _
   | exact ih3 _ _ _ _ _ _ _ _ _ _
   | exact LeO.none _
   | refine LeO.ite ?_ ?_
   | refine LeO.bind ?_ (fun _ => ?_)
  ·intro y0 y1 y2 y3 y4 y5 y6 y7 y8 y9
   unfold r06_Is.j2
   repeat' first
   | (with_reducible exact ih0 _ _ _ _ _ _ _)
   | (with_reducible exact ih1 _ _ _ _ _ _ _)
   | (with_reducible exact ih2 _ _ _ _ _ _ _ _ _ _)
   | (with_reducible exact ih3 _ _ _ _ _ _ _ _ _ _)
   | (with_reducible exact LeO.refl _)
   | (with_reducible exact LeO.none _)
   | (with_reducible refine LeO.ite ?_ ?_)
   | (with_reducible refine LeO.bind ?_ (fun _ => ?_))
   | exact ih0 _ _ _ _ _ _ _
   | exact ih1 _ _ _ _ _ _ _
   | exact ih2 _ _ _ _ _ _ _ _ _ _
   | exact ih3 _ _ _ _ _ _ _ _ _ _
   | exact LeO.none _
   | refine LeO.ite ?_ ?_
   | refine LeO.bind ?_ (fun _ => ?_)
  ·intro y0 y1 y2 y3 y4 y5 y6 y7 y8 y9
   unfold r06_Is.l1
   repeat' first
   | (with_reducible exact ih0 _ _ _ _ _ _ _)
   | (with_reducible exact ih1 _ _ _ _ _ _ _)
   | (with_reducible exact ih2 _ _ _ _ _ _ _ _ _ _)
   | (with_reducible exact ih3 _ _ _ _ _ _ _ _ _ _)
   | (with_reducible exact LeO.refl _)
   | (with_reducible exact LeO.none _)
   | (with_reducible refine LeO.ite ?_ ?_)
   | (with_reducible refine LeO.bind ?_ (fun _ => ?_))
   | exact ih0 _ _ _ _ _ _ _
   | exact ih1 _ _ _ _ _ _ _
   | exact ih2 _ _ _ _ _ _ _ _ _ _
   | exact ih3 _ _ _ _ _ _ _ _ _ _
   | exact LeO.none _
   | refine LeO.ite ?_ ?_
   | refine LeO.bind ?_ (fun _ => ?_)
theorem r06_Is.mono : ∀ a0 a1 a2 a3 a4 a5 k, LeO (r06_Is.f k a0 a1 a2 a3 a4 a5) (r06_Is.f (k + 1) a0 a1 a2 a3 a4 a5) := by
 intro a0 a1 a2 a3 a4 a5 k
 obtain ⟨ih0, ih1, ih2, ih3⟩ := r06_Is.mono_l k
 unfold r06_Is.f
 repeat' first
  | (with_reducible exact ih0 _ _ _ _ _ _ _)
  | (with_reducible exact ih1 _ _ _ _ _ _ _)
  | (with_reducible exact ih2 _ _ _ _ _ _ _ _ _ _)
  | (with_reducible exact ih3 _ _ _ _ _ _ _ _ _ _)
  | (with_reducible exact LeO.refl _)
  | (with_reducible exact LeO.none _)
  | (with_reducible refine LeO.ite ?_ ?_)
  | (with_reducible refine LeO.bind ?_ (fun _ => ?_))
  | exact ih0 _ _ _ _ _ _ _
  | exact ih1 _ _ _ _ _ _ _
  | exact ih2 _ _ _ _ _ _ _ _ _ _
  | exact ih3 _ _ _ _ _ _ _ _ _ _
  | exact LeO.none _
  | refine LeO.ite ?_ ?_
  | refine LeO.bind ?_ (fun _ => ?_)
set_option maxHeartbeats 8000000 in
set_option maxRecDepth 100000 in
theorem r06_Is.calls (k : Nat) (a0_0 : Int) (a0_1 : ByteArray) (a0_2 : ByteArray) (a0_3 : Int) (A0_4 : Option Addr) (c0_4 : Nat) (l0_4 : List (S60)) (a0_5 : Int) (r : Bool) (w : World) (hG : TheG w) (hr0_4 : Kd.C k60 w A0_4 l0_4.length l0_4) (hc0_4 : l0_4.length ≤ c0_4) (h : r06_Is.f k a0_0 a0_1 a0_2 a0_3 l0_4 a0_5 = some r) :
 Calls Tryd.prog 34 #[.agg #[.int .i64 a0_0, .string a0_1, .string a0_2, .int .i64 a0_3, .slice A0_4 l0_4.length c0_4, .int .i64 a0_5]] w fun e w' => e = .returned (.bool r) ∧ Below w.heap.size w w' := by
 have hu26 := Tryd.underlying26
 have hu23 := Tryd.underlying23
 have hu60 := Tryd.underlying60
 have HR0_4 := Az.mk hr0_4
 have HC0_4 := Az.mk hc0_4
 clear hr0_4 hc0_4
 have HB := Az.mk (Below.refl w.heap.size w)
 have H : ((r06_id.f a0_0).bind fun t345 => (if t345 = true then ((r06_id.f a0_3).bind fun t346 => (if t346 = true then ((r06_id.f a0_5).bind fun t347 => (if t347 = true then ((r02_Is.f a0_1 a0_2).bind fun t348 => (if t348 = true then (if (l0_4.length : Int) < 1 then (r06_Is.j0 k true a0_0 a0_1 a0_2 a0_3 l0_4 a0_5) else (r06_Is.j0 k (decide ((l0_4.length : Int) > 5)) a0_0 a0_1 a0_2 a0_3 l0_4 a0_5)) else (r06_Is.j0 k true a0_0 a0_1 a0_2 a0_3 l0_4 a0_5))) else (r06_Is.j0 k true a0_0 a0_1 a0_2 a0_3 l0_4 a0_5))) else (r06_Is.j0 k true a0_0 a0_1 a0_2 a0_3 l0_4 a0_5))) else (r06_Is.j0 k true a0_0 a0_1 a0_2 a0_3 l0_4 a0_5))) = some r := h
 clear h
 have HC2 := Az.mk H
 clear H
 go_enter Tryd.func34, Tryd.ntmps34
 go_upto_region 1 with ((with_reducible refine gate_dst (N := 1) rfl ?_); (try (refine gate_guard (by rfl) ?_; dsimp only)); refine box_event ?hg (N := 1) ?hd (cs := #[.int .i64 a0_0, .string a0_1, .string a0_2, .int .i64 a0_3, .slice A0_4 l0_4.length c0_4, .int .i64 a0_5]) (t := 26) ?hr ?_; (case hd => rfl); (case hg => rfl); (case hr => first | (go_simp; done) | (go_simp; rfl)); intro gb344 hg w3 hbox hb; have BK344 := Az.mk (hbox); have GW344 := Az.mk (geO hg (pbE HB.out)); have GE344 := Az.mk (geO hg (pbE HB.out)); replace HB := Az.mk (pbT (by exact pbE HB.out) hb); clear hb hbox hg)
 repeat (go_quiet (first | ((with_reducible refine gate_dst (N := 1) rfl ?_); (try (refine gate_guard (by rfl) ?_; dsimp only)); refine box_event ?hg (N := 1) ?hd (cs := #[.int .i64 a0_0, .string a0_1, .string a0_2, .int .i64 a0_3, .slice A0_4 l0_4.length c0_4, .int .i64 a0_5]) (t := 26) ?hr ?_; (case hd => rfl); (case hg => rfl); (case hr => first | (go_simp; done) | (go_simp; rfl)); intro gb344 hg w3 hbox hb; have BK344 := Az.mk (hbox); have GW344 := Az.mk (geO hg (pbE HB.out)); have GE344 := Az.mk (geO hg (pbE HB.out)); replace HB := Az.mk (pbT (by exact pbE HB.out) hb); clear hb hbox hg)); go_upto_region 1 with (fail))
 (try simp only [Act.put, List.setIfInBounds_toArray, List.set_cons_zero, List.set_cons_succ])
 go_cut [39] (fun v39 wc => ∃ (kq : Nat) (x39_1 : Bool), v39 = .bool x39_1 ∧ Az (r06_Is.j0 kq x39_1 a0_0 a0_1 a0_2 a0_3 l0_4 a0_5 = some r) ∧ Az (kq ≤ k) ∧ Az (wc.heap[gb344]? = some (.cells #[.int .i64 a0_0, .string a0_1, .string a0_2, .int .i64 a0_3, (.slice A0_4 l0_4.length c0_4), .int .i64 a0_5] 26 (0, 0))) ∧ Az (Below w.heap.size w wc))
 case first =>
  have H := HC2.out
  clear HC2
  replace H := Option.bind_eq_some_iff.mp H
  obtain ⟨t345, A40, H⟩ := H
  replace H : (if t345 = true then ((r06_id.f a0_3).bind fun t346 => (if t346 = true then ((r06_id.f a0_5).bind fun t347 => (if t347 = true then ((r02_Is.f a0_1 a0_2).bind fun t348 => (if t348 = true then (if (l0_4.length : Int) < 1 then (r06_Is.j0 k true a0_0 a0_1 a0_2 a0_3 l0_4 a0_5) else (r06_Is.j0 k (decide ((l0_4.length : Int) > 5)) a0_0 a0_1 a0_2 a0_3 l0_4 a0_5)) else (r06_Is.j0 k true a0_0 a0_1 a0_2 a0_3 l0_4 a0_5))) else (r06_Is.j0 k true a0_0 a0_1 a0_2 a0_3 l0_4 a0_5))) else (r06_Is.j0 k true a0_0 a0_1 a0_2 a0_3 l0_4 a0_5))) else (r06_Is.j0 k true a0_0 a0_1 a0_2 a0_3 l0_4 a0_5)) = some r := H
  have A4 := Az.mk A40
  clear A40
  by_cases c5 : t345 = true
  ·subst c5
   have H1 : ((r06_id.f a0_3).bind fun t346 => (if t346 = true then ((r06_id.f a0_5).bind fun t347 => (if t347 = true then ((r02_Is.f a0_1 a0_2).bind fun t348 => (if t348 = true then (if (l0_4.length : Int) < 1 then (r06_Is.j0 k true a0_0 a0_1 a0_2 a0_3 l0_4 a0_5) else (r06_Is.j0 k (decide ((l0_4.length : Int) > 5)) a0_0 a0_1 a0_2 a0_3 l0_4 a0_5)) else (r06_Is.j0 k true a0_0 a0_1 a0_2 a0_3 l0_4 a0_5))) else (r06_Is.j0 k true a0_0 a0_1 a0_2 a0_3 l0_4 a0_5))) else (r06_Is.j0 k true a0_0 a0_1 a0_2 a0_3 l0_4 a0_5))) = some r := by rw [if_pos rfl] at H; exact H
   clear H
   have H := H1
   clear H1
   replace H := Option.bind_eq_some_iff.mp H
   obtain ⟨t346, A60, H⟩ := H
   replace H : (if t346 = true then ((r06_id.f a0_5).bind fun t347 => (if t347 = true then ((r02_Is.f a0_1 a0_2).bind fun t348 => (if t348 = true then (if (l0_4.length : Int) < 1 then (r06_Is.j0 k true a0_0 a0_1 a0_2 a0_3 l0_4 a0_5) else (r06_Is.j0 k (decide ((l0_4.length : Int) > 5)) a0_0 a0_1 a0_2 a0_3 l0_4 a0_5)) else (r06_Is.j0 k true a0_0 a0_1 a0_2 a0_3 l0_4 a0_5))) else (r06_Is.j0 k true a0_0 a0_1 a0_2 a0_3 l0_4 a0_5))) else (r06_Is.j0 k true a0_0 a0_1 a0_2 a0_3 l0_4 a0_5)) = some r := H
   have A6 := Az.mk A60
   clear A60
   by_cases c7 : t346 = true
   ·subst c7
    have H1 : ((r06_id.f a0_5).bind fun t347 => (if t347 = true then ((r02_Is.f a0_1 a0_2).bind fun t348 => (if t348 = true then (if (l0_4.length : Int) < 1 then (r06_Is.j0 k true a0_0 a0_1 a0_2 a0_3 l0_4 a0_5) else (r06_Is.j0 k (decide ((l0_4.length : Int) > 5)) a0_0 a0_1 a0_2 a0_3 l0_4 a0_5)) else (r06_Is.j0 k true a0_0 a0_1 a0_2 a0_3 l0_4 a0_5))) else (r06_Is.j0 k true a0_0 a0_1 a0_2 a0_3 l0_4 a0_5))) = some r := by rw [if_pos rfl] at H; exact H
    clear H
    have H := H1
    clear H1
    replace H := Option.bind_eq_some_iff.mp H
    obtain ⟨t347, A80, H⟩ := H
    replace H : (if t347 = true then ((r02_Is.f a0_1 a0_2).bind fun t348 => (if t348 = true then (if (l0_4.length : Int) < 1 then (r06_Is.j0 k true a0_0 a0_1 a0_2 a0_3 l0_4 a0_5) else (r06_Is.j0 k (decide ((l0_4.length : Int) > 5)) a0_0 a0_1 a0_2 a0_3 l0_4 a0_5)) else (r06_Is.j0 k true a0_0 a0_1 a0_2 a0_3 l0_4 a0_5))) else (r06_Is.j0 k true a0_0 a0_1 a0_2 a0_3 l0_4 a0_5)) = some r := H
    have A8 := Az.mk A80
    clear A80
    by_cases c9 : t347 = true
    ·subst c9
     have H1 : ((r02_Is.f a0_1 a0_2).bind fun t348 => (if t348 = true then (if (l0_4.length : Int) < 1 then (r06_Is.j0 k true a0_0 a0_1 a0_2 a0_3 l0_4 a0_5) else (r06_Is.j0 k (decide ((l0_4.length : Int) > 5)) a0_0 a0_1 a0_2 a0_3 l0_4 a0_5)) else (r06_Is.j0 k true a0_0 a0_1 a0_2 a0_3 l0_4 a0_5))) = some r := by rw [if_pos rfl] at H; exact H
     clear H
     have H := H1
     clear H1
     replace H := Option.bind_eq_some_iff.mp H
     obtain ⟨t348, A100, H⟩ := H
     replace H : (if t348 = true then (if (l0_4.length : Int) < 1 then (r06_Is.j0 k true a0_0 a0_1 a0_2 a0_3 l0_4 a0_5) else (r06_Is.j0 k (decide ((l0_4.length : Int) > 5)) a0_0 a0_1 a0_2 a0_3 l0_4 a0_5)) else (r06_Is.j0 k true a0_0 a0_1 a0_2 a0_3 l0_4 a0_5)) = some r := H
     have A10 := Az.mk A100
     clear A100
     by_cases c11 : t348 = true
     ·subst c11
      have H1 : (if (l0_4.length : Int) < 1 then (r06_Is.j0 k true a0_0 a0_1 a0_2 a0_3 l0_4 a0_5) else (r06_Is.j0 k (decide ((l0_4.length : Int) > 5)) a0_0 a0_1 a0_2 a0_3 l0_4 a0_5)) = some r := by rw [if_pos rfl] at H; exact H
      clear H
      have H := H1
      clear H1
      by_cases c12 : (l0_4.length : Int) < 1
      ·rw [if_pos c12] at H
       have c12b0 : decide ((l0_4.length : Int) < 1) = true := decide_eq_true c12
       have c12b1 : decide (l0_4.length < 1) = true := decide_eq_true (by omega)
       clear c12
       (first | rw [c12b0] | (simp only [i64_w, i32_w]; rw [c12b0]) | skip)
       have H' := Az.mk H
       clear H
       have hcz13 := cells6 BK344.out
       go_wp2_with (first | (go_at_call 59; (with_reducible refine (r06_id.calls a0_0 true _ ?side1 A4.out).mono ?_); (case side1 => exact hG.below (by exact pbE HB.out)); rintro e w' ⟨rfl, ⟨nd, rfl⟩⟩; (try first | exact ⟨rfl, _, World.drewN_drewN _ _ _⟩ | exact ⟨rfl, _, Eq.trans (World.drewN_drewN _ _ _) (congrArg (World.drewN _) (Nat.add_assoc _ _ _))⟩)) | (go_at_call 59; (with_reducible refine (r06_id.calls a0_3 true _ ?side1 A6.out).mono ?_); (case side1 => exact hG.below (by exact pbE HB.out)); rintro e w' ⟨rfl, ⟨nd, rfl⟩⟩; (try first | exact ⟨rfl, _, World.drewN_drewN _ _ _⟩ | exact ⟨rfl, _, Eq.trans (World.drewN_drewN _ _ _) (congrArg (World.drewN _) (Nat.add_assoc _ _ _))⟩)) | (go_at_call 59; (with_reducible refine (r06_id.calls a0_5 true _ ?side1 A8.out).mono ?_); (case side1 => exact hG.below (by exact pbE HB.out)); rintro e w' ⟨rfl, ⟨nd, rfl⟩⟩; (try first | exact ⟨rfl, _, World.drewN_drewN _ _ _⟩ | exact ⟨rfl, _, Eq.trans (World.drewN_drewN _ _ _) (congrArg (World.drewN _) (Nat.add_assoc _ _ _))⟩)) | (go_at_call 60; (with_reducible refine (r02_Is.calls a0_1 a0_2 true _ ?side1 A10.out).mono ?_); (case side1 => exact hG.below (by exact pbE HB.out)); rintro e w14 ⟨rfl, hb⟩; replace BK344 := Az.mk (bkB (bk BK344.out) hb); replace HB := Az.mk (pbT (by exact pbE HB.out) hb); (try clear hb); (try clear hb2); (try clear hk); (try clear hi); have hcz15 := cells6 BK344.out))
       repeat (go_quiet (first | (go_at_call 59; (with_reducible refine (r06_id.calls a0_0 true _ ?side1 A4.out).mono ?_); (case side1 => exact hG.below (by exact pbE HB.out)); rintro e w' ⟨rfl, ⟨nd, rfl⟩⟩; (try first | exact ⟨rfl, _, World.drewN_drewN _ _ _⟩ | exact ⟨rfl, _, Eq.trans (World.drewN_drewN _ _ _) (congrArg (World.drewN _) (Nat.add_assoc _ _ _))⟩)) | (go_at_call 59; (with_reducible refine (r06_id.calls a0_3 true _ ?side1 A6.out).mono ?_); (case side1 => exact hG.below (by exact pbE HB.out)); rintro e w' ⟨rfl, ⟨nd, rfl⟩⟩; (try first | exact ⟨rfl, _, World.drewN_drewN _ _ _⟩ | exact ⟨rfl, _, Eq.trans (World.drewN_drewN _ _ _) (congrArg (World.drewN _) (Nat.add_assoc _ _ _))⟩)) | (go_at_call 59; (with_reducible refine (r06_id.calls a0_5 true _ ?side1 A8.out).mono ?_); (case side1 => exact hG.below (by exact pbE HB.out)); rintro e w' ⟨rfl, ⟨nd, rfl⟩⟩; (try first | exact ⟨rfl, _, World.drewN_drewN _ _ _⟩ | exact ⟨rfl, _, Eq.trans (World.drewN_drewN _ _ _) (congrArg (World.drewN _) (Nat.add_assoc _ _ _))⟩)) | (go_at_call 60; (with_reducible refine (r02_Is.calls a0_1 a0_2 true _ ?side1 A10.out).mono ?_); (case side1 => exact hG.below (by exact pbE HB.out)); rintro e w14 ⟨rfl, hb⟩; replace BK344 := Az.mk (bkB (bk BK344.out) hb); replace HB := Az.mk (pbT (by exact pbE HB.out) hb); (try clear hb); (try clear hb2); (try clear hk); (try clear hi); have hcz15 := cells6 BK344.out)); try go_wp2_with (fail))
       go_meet
       case rel => exact ⟨_, (true), (by first | rfl | (simp; done) | (simp [*]; done)), H', ⟨by first | omega | exact Nat.le_refl _⟩, ⟨by refine bk ?_; exact BK344.out⟩, ⟨by exact pbE HB.out⟩⟩
      ·rw [if_neg c12] at H
       have c12b0 : decide ((l0_4.length : Int) < 1) = false := decide_eq_false c12
       have c12b1 : decide (l0_4.length < 1) = false := decide_eq_false (by omega)
       clear c12
       (first | rw [c12b0] | (simp only [i64_w, i32_w]; rw [c12b0]) | skip)
       have H' := Az.mk H
       clear H
       have hcz16 := cells6 BK344.out
       go_wp2_with (first | (go_at_call 59; (with_reducible refine (r06_id.calls a0_0 true _ ?side1 A4.out).mono ?_); (case side1 => exact hG.below (by exact pbE HB.out)); rintro e w' ⟨rfl, ⟨nd, rfl⟩⟩; (try first | exact ⟨rfl, _, World.drewN_drewN _ _ _⟩ | exact ⟨rfl, _, Eq.trans (World.drewN_drewN _ _ _) (congrArg (World.drewN _) (Nat.add_assoc _ _ _))⟩)) | (go_at_call 59; (with_reducible refine (r06_id.calls a0_3 true _ ?side1 A6.out).mono ?_); (case side1 => exact hG.below (by exact pbE HB.out)); rintro e w' ⟨rfl, ⟨nd, rfl⟩⟩; (try first | exact ⟨rfl, _, World.drewN_drewN _ _ _⟩ | exact ⟨rfl, _, Eq.trans (World.drewN_drewN _ _ _) (congrArg (World.drewN _) (Nat.add_assoc _ _ _))⟩)) | (go_at_call 59; (with_reducible refine (r06_id.calls a0_5 true _ ?side1 A8.out).mono ?_); (case side1 => exact hG.below (by exact pbE HB.out)); rintro e w' ⟨rfl, ⟨nd, rfl⟩⟩; (try first | exact ⟨rfl, _, World.drewN_drewN _ _ _⟩ | exact ⟨rfl, _, Eq.trans (World.drewN_drewN _ _ _) (congrArg (World.drewN _) (Nat.add_assoc _ _ _))⟩)) | (go_at_call 60; (with_reducible refine (r02_Is.calls a0_1 a0_2 true _ ?side1 A10.out).mono ?_); (case side1 => exact hG.below (by exact pbE HB.out)); rintro e w17 ⟨rfl, hb⟩; replace BK344 := Az.mk (bkB (bk BK344.out) hb); replace HB := Az.mk (pbT (by exact pbE HB.out) hb); (try clear hb); (try clear hb2); (try clear hk); (try clear hi); have hcz18 := cells6 BK344.out))
       repeat (go_quiet (first | (go_at_call 59; (with_reducible refine (r06_id.calls a0_0 true _ ?side1 A4.out).mono ?_); (case side1 => exact hG.below (by exact pbE HB.out)); rintro e w' ⟨rfl, ⟨nd, rfl⟩⟩; (try first | exact ⟨rfl, _, World.drewN_drewN _ _ _⟩ | exact ⟨rfl, _, Eq.trans (World.drewN_drewN _ _ _) (congrArg (World.drewN _) (Nat.add_assoc _ _ _))⟩)) | (go_at_call 59; (with_reducible refine (r06_id.calls a0_3 true _ ?side1 A6.out).mono ?_); (case side1 => exact hG.below (by exact pbE HB.out)); rintro e w' ⟨rfl, ⟨nd, rfl⟩⟩; (try first | exact ⟨rfl, _, World.drewN_drewN _ _ _⟩ | exact ⟨rfl, _, Eq.trans (World.drewN_drewN _ _ _) (congrArg (World.drewN _) (Nat.add_assoc _ _ _))⟩)) | (go_at_call 59; (with_reducible refine (r06_id.calls a0_5 true _ ?side1 A8.out).mono ?_); (case side1 => exact hG.below (by exact pbE HB.out)); rintro e w' ⟨rfl, ⟨nd, rfl⟩⟩; (try first | exact ⟨rfl, _, World.drewN_drewN _ _ _⟩ | exact ⟨rfl, _, Eq.trans (World.drewN_drewN _ _ _) (congrArg (World.drewN _) (Nat.add_assoc _ _ _))⟩)) | (go_at_call 60; (with_reducible refine (r02_Is.calls a0_1 a0_2 true _ ?side1 A10.out).mono ?_); (case side1 => exact hG.below (by exact pbE HB.out)); rintro e w17 ⟨rfl, hb⟩; replace BK344 := Az.mk (bkB (bk BK344.out) hb); replace HB := Az.mk (pbT (by exact pbE HB.out) hb); (try clear hb); (try clear hb2); (try clear hk); (try clear hi); have hcz18 := cells6 BK344.out)); try go_wp2_with (fail))
       go_meet
       case rel => exact ⟨_, (decide ((l0_4.length : Int) > 5)), (by first | rfl | (simp; done) | (simp [*]; done)), H', ⟨by first | omega | exact Nat.le_refl _⟩, ⟨by refine bk ?_; exact BK344.out⟩, ⟨by exact pbE HB.out⟩⟩
     ·replace c11 := Bool.eq_false_iff.mpr c11
      subst c11
      have H1 : (r06_Is.j0 k true a0_0 a0_1 a0_2 a0_3 l0_4 a0_5) = some r := by rw [if_neg (show ¬ (false = true) by decide)] at H; exact H
      clear H
      have H := H1
      clear H1
      have H' := Az.mk H
      clear H
      have hcz19 := cells6 BK344.out
      go_wp2_with (first | (go_at_call 59; (with_reducible refine (r06_id.calls a0_0 true _ ?side1 A4.out).mono ?_); (case side1 => exact hG.below (by exact pbE HB.out)); rintro e w' ⟨rfl, ⟨nd, rfl⟩⟩; (try first | exact ⟨rfl, _, World.drewN_drewN _ _ _⟩ | exact ⟨rfl, _, Eq.trans (World.drewN_drewN _ _ _) (congrArg (World.drewN _) (Nat.add_assoc _ _ _))⟩)) | (go_at_call 59; (with_reducible refine (r06_id.calls a0_3 true _ ?side1 A6.out).mono ?_); (case side1 => exact hG.below (by exact pbE HB.out)); rintro e w' ⟨rfl, ⟨nd, rfl⟩⟩; (try first | exact ⟨rfl, _, World.drewN_drewN _ _ _⟩ | exact ⟨rfl, _, Eq.trans (World.drewN_drewN _ _ _) (congrArg (World.drewN _) (Nat.add_assoc _ _ _))⟩)) | (go_at_call 59; (with_reducible refine (r06_id.calls a0_5 true _ ?side1 A8.out).mono ?_); (case side1 => exact hG.below (by exact pbE HB.out)); rintro e w' ⟨rfl, ⟨nd, rfl⟩⟩; (try first | exact ⟨rfl, _, World.drewN_drewN _ _ _⟩ | exact ⟨rfl, _, Eq.trans (World.drewN_drewN _ _ _) (congrArg (World.drewN _) (Nat.add_assoc _ _ _))⟩)) | (go_at_call 60; (with_reducible refine (r02_Is.calls a0_1 a0_2 false _ ?side1 A10.out).mono ?_); (case side1 => exact hG.below (by exact pbE HB.out)); rintro e w20 ⟨rfl, hb⟩; replace BK344 := Az.mk (bkB (bk BK344.out) hb); replace HB := Az.mk (pbT (by exact pbE HB.out) hb); (try clear hb); (try clear hb2); (try clear hk); (try clear hi)))
      repeat (go_quiet (first | (go_at_call 59; (with_reducible refine (r06_id.calls a0_0 true _ ?side1 A4.out).mono ?_); (case side1 => exact hG.below (by exact pbE HB.out)); rintro e w' ⟨rfl, ⟨nd, rfl⟩⟩; (try first | exact ⟨rfl, _, World.drewN_drewN _ _ _⟩ | exact ⟨rfl, _, Eq.trans (World.drewN_drewN _ _ _) (congrArg (World.drewN _) (Nat.add_assoc _ _ _))⟩)) | (go_at_call 59; (with_reducible refine (r06_id.calls a0_3 true _ ?side1 A6.out).mono ?_); (case side1 => exact hG.below (by exact pbE HB.out)); rintro e w' ⟨rfl, ⟨nd, rfl⟩⟩; (try first | exact ⟨rfl, _, World.drewN_drewN _ _ _⟩ | exact ⟨rfl, _, Eq.trans (World.drewN_drewN _ _ _) (congrArg (World.drewN _) (Nat.add_assoc _ _ _))⟩)) | (go_at_call 59; (with_reducible refine (r06_id.calls a0_5 true _ ?side1 A8.out).mono ?_); (case side1 => exact hG.below (by exact pbE HB.out)); rintro e w' ⟨rfl, ⟨nd, rfl⟩⟩; (try first | exact ⟨rfl, _, World.drewN_drewN _ _ _⟩ | exact ⟨rfl, _, Eq.trans (World.drewN_drewN _ _ _) (congrArg (World.drewN _) (Nat.add_assoc _ _ _))⟩)) | (go_at_call 60; (with_reducible refine (r02_Is.calls a0_1 a0_2 false _ ?side1 A10.out).mono ?_); (case side1 => exact hG.below (by exact pbE HB.out)); rintro e w20 ⟨rfl, hb⟩; replace BK344 := Az.mk (bkB (bk BK344.out) hb); replace HB := Az.mk (pbT (by exact pbE HB.out) hb); (try clear hb); (try clear hb2); (try clear hk); (try clear hi))); try go_wp2_with (fail))
      go_meet
      case rel => exact ⟨_, (true), (by first | rfl | (simp; done) | (simp [*]; done)), H', ⟨by first | omega | exact Nat.le_refl _⟩, ⟨by refine bk ?_; exact BK344.out⟩, ⟨by exact pbE HB.out⟩⟩
    ·replace c9 := Bool.eq_false_iff.mpr c9
     subst c9
     have H1 : (r06_Is.j0 k true a0_0 a0_1 a0_2 a0_3 l0_4 a0_5) = some r := by rw [if_neg (show ¬ (false = true) by decide)] at H; exact H
     clear H
     have H := H1
     clear H1
     have H' := Az.mk H
     clear H
     have hcz21 := cells6 BK344.out
     go_wp2_with (first | (go_at_call 59; (with_reducible refine (r06_id.calls a0_0 true _ ?side1 A4.out).mono ?_); (case side1 => exact hG.below (by exact pbE HB.out)); rintro e w' ⟨rfl, ⟨nd, rfl⟩⟩; (try first | exact ⟨rfl, _, World.drewN_drewN _ _ _⟩ | exact ⟨rfl, _, Eq.trans (World.drewN_drewN _ _ _) (congrArg (World.drewN _) (Nat.add_assoc _ _ _))⟩)) | (go_at_call 59; (with_reducible refine (r06_id.calls a0_3 true _ ?side1 A6.out).mono ?_); (case side1 => exact hG.below (by exact pbE HB.out)); rintro e w' ⟨rfl, ⟨nd, rfl⟩⟩; (try first | exact ⟨rfl, _, World.drewN_drewN _ _ _⟩ | exact ⟨rfl, _, Eq.trans (World.drewN_drewN _ _ _) (congrArg (World.drewN _) (Nat.add_assoc _ _ _))⟩)) | (go_at_call 59; (with_reducible refine (r06_id.calls a0_5 false _ ?side1 A8.out).mono ?_); (case side1 => exact hG.below (by exact pbE HB.out)); rintro e w' ⟨rfl, ⟨nd, rfl⟩⟩; (try first | exact ⟨rfl, _, World.drewN_drewN _ _ _⟩ | exact ⟨rfl, _, Eq.trans (World.drewN_drewN _ _ _) (congrArg (World.drewN _) (Nat.add_assoc _ _ _))⟩)))
     repeat (go_quiet (first | (go_at_call 59; (with_reducible refine (r06_id.calls a0_0 true _ ?side1 A4.out).mono ?_); (case side1 => exact hG.below (by exact pbE HB.out)); rintro e w' ⟨rfl, ⟨nd, rfl⟩⟩; (try first | exact ⟨rfl, _, World.drewN_drewN _ _ _⟩ | exact ⟨rfl, _, Eq.trans (World.drewN_drewN _ _ _) (congrArg (World.drewN _) (Nat.add_assoc _ _ _))⟩)) | (go_at_call 59; (with_reducible refine (r06_id.calls a0_3 true _ ?side1 A6.out).mono ?_); (case side1 => exact hG.below (by exact pbE HB.out)); rintro e w' ⟨rfl, ⟨nd, rfl⟩⟩; (try first | exact ⟨rfl, _, World.drewN_drewN _ _ _⟩ | exact ⟨rfl, _, Eq.trans (World.drewN_drewN _ _ _) (congrArg (World.drewN _) (Nat.add_assoc _ _ _))⟩)) | (go_at_call 59; (with_reducible refine (r06_id.calls a0_5 false _ ?side1 A8.out).mono ?_); (case side1 => exact hG.below (by exact pbE HB.out)); rintro e w' ⟨rfl, ⟨nd, rfl⟩⟩; (try first | exact ⟨rfl, _, World.drewN_drewN _ _ _⟩ | exact ⟨rfl, _, Eq.trans (World.drewN_drewN _ _ _) (congrArg (World.drewN _) (Nat.add_assoc _ _ _))⟩))); try go_wp2_with (fail))
     go_meet
     case rel => exact ⟨_, (true), (by first | rfl | (simp; done) | (simp [*]; done)), H', ⟨by first | omega | exact Nat.le_refl _⟩, ⟨by refine bk ?_; exact BK344.out⟩, ⟨by exact pbE HB.out⟩⟩
   ·replace c7 := Bool.eq_false_iff.mpr c7
    subst c7
    have H1 : (r06_Is.j0 k true a0_0 a0_1 a0_2 a0_3 l0_4 a0_5) = some r := by rw [if_neg (show ¬ (false = true) by decide)] at H; exact H
    clear H
    have H := H1
    clear H1
    have H' := Az.mk H
    clear H
    have hcz22 := cells6 BK344.out
    go_wp2_with (first | (go_at_call 59; (with_reducible refine (r06_id.calls a0_0 true _ ?side1 A4.out).mono ?_); (case side1 => exact hG.below (by exact pbE HB.out)); rintro e w' ⟨rfl, ⟨nd, rfl⟩⟩; (try first | exact ⟨rfl, _, World.drewN_drewN _ _ _⟩ | exact ⟨rfl, _, Eq.trans (World.drewN_drewN _ _ _) (congrArg (World.drewN _) (Nat.add_assoc _ _ _))⟩)) | (go_at_call 59; (with_reducible refine (r06_id.calls a0_3 false _ ?side1 A6.out).mono ?_); (case side1 => exact hG.below (by exact pbE HB.out)); rintro e w' ⟨rfl, ⟨nd, rfl⟩⟩; (try first | exact ⟨rfl, _, World.drewN_drewN _ _ _⟩ | exact ⟨rfl, _, Eq.trans (World.drewN_drewN _ _ _) (congrArg (World.drewN _) (Nat.add_assoc _ _ _))⟩)))
    repeat (go_quiet (first | (go_at_call 59; (with_reducible refine (r06_id.calls a0_0 true _ ?side1 A4.out).mono ?_); (case side1 => exact hG.below (by exact pbE HB.out)); rintro e w' ⟨rfl, ⟨nd, rfl⟩⟩; (try first | exact ⟨rfl, _, World.drewN_drewN _ _ _⟩ | exact ⟨rfl, _, Eq.trans (World.drewN_drewN _ _ _) (congrArg (World.drewN _) (Nat.add_assoc _ _ _))⟩)) | (go_at_call 59; (with_reducible refine (r06_id.calls a0_3 false _ ?side1 A6.out).mono ?_); (case side1 => exact hG.below (by exact pbE HB.out)); rintro e w' ⟨rfl, ⟨nd, rfl⟩⟩; (try first | exact ⟨rfl, _, World.drewN_drewN _ _ _⟩ | exact ⟨rfl, _, Eq.trans (World.drewN_drewN _ _ _) (congrArg (World.drewN _) (Nat.add_assoc _ _ _))⟩))); try go_wp2_with (fail))
    go_meet
    case rel => exact ⟨_, (true), (by first | rfl | (simp; done) | (simp [*]; done)), H', ⟨by first | omega | exact Nat.le_refl _⟩, ⟨by refine bk ?_; exact BK344.out⟩, ⟨by exact pbE HB.out⟩⟩
  ·replace c5 := Bool.eq_false_iff.mpr c5
   subst c5
   have H1 : (r06_Is.j0 k true a0_0 a0_1 a0_2 a0_3 l0_4 a0_5) = some r := by rw [if_neg (show ¬ (false = true) by decide)] at H; exact H
   clear H
   have H := H1
   clear H1
   have H' := Az.mk H
   clear H
   have hcz23 := cells6 BK344.out
   go_wp2_with (go_at_call 59; (with_reducible refine (r06_id.calls a0_0 false _ ?side1 A4.out).mono ?_); (case side1 => exact hG.below (by exact pbE HB.out)); rintro e w' ⟨rfl, ⟨nd, rfl⟩⟩; (try first | exact ⟨rfl, _, World.drewN_drewN _ _ _⟩ | exact ⟨rfl, _, Eq.trans (World.drewN_drewN _ _ _) (congrArg (World.drewN _) (Nat.add_assoc _ _ _))⟩))
   repeat (go_quiet (first | (go_at_call 59; (with_reducible refine (r06_id.calls a0_0 false _ ?side1 A4.out).mono ?_); (case side1 => exact hG.below (by exact pbE HB.out)); rintro e w' ⟨rfl, ⟨nd, rfl⟩⟩; (try first | exact ⟨rfl, _, World.drewN_drewN _ _ _⟩ | exact ⟨rfl, _, Eq.trans (World.drewN_drewN _ _ _) (congrArg (World.drewN _) (Nat.add_assoc _ _ _))⟩))); try go_wp2_with (fail))
   go_meet
   case rel => exact ⟨_, (true), (by first | rfl | (simp; done) | (simp [*]; done)), H', ⟨by first | omega | exact Nat.le_refl _⟩, ⟨by refine bk ?_; exact BK344.out⟩, ⟨by exact pbE HB.out⟩⟩
 case rest =>
  clear HC2
  try clear c1
  try clear p2
  try clear c3
  try clear c5
  try clear c7
  try clear c9
  try clear c11
  try clear c12
  try clear c12b0
  try clear c12b1
  try clear hcz13
  try clear hcz15
  try clear hcz16
  try clear hcz18
  try clear hcz19
  try clear hcz21
  try clear hcz22
  try clear hcz23
  obtain ⟨kq, x39_1, rfl, HA, HJ1, BK344, HB⟩ := hcut
  cases kq with
  | zero => exact absurd HA.out (by simp [r06_Is.j0])
  | succ kj1 =>
   have H := HA.out
   clear HA
   simp only [r06_Is.j0] at H
   by_cases c24 : x39_1 = true
   ·subst c24
    have H1 : (some false) = some r := by rw [if_pos rfl] at H; exact H
    clear H
    have H := H1
    clear H1
    obtain rfl := Option.some.inj H
    go_wp2
    repeat (go_quiet (fail); try go_wp2)
    go_ret
    exact ⟨by first | rfl | (simp [errW_none, errW_some] <;> rfl) | (simp [*, errW_none, errW_some] <;> rfl), by exact pbE HB.out⟩
   ·replace c24 := Bool.eq_false_iff.mpr c24
    subst c24
    have H1 : (r06_Is.l0 kj1 0 a0_0 a0_1 a0_2 a0_3 l0_4 a0_5) = some r := by rw [if_neg (show ¬ (false = true) by decide)] at H; exact H
    clear H
    have H := H1
    clear H1
    have H' := Az.mk H
    clear H
    go_wp2
    repeat (go_quiet (fail); try go_wp2)
    go_loopg [3] kj1 (fun kq v3 w' => ∃ (x3_2 : Int), v3 = .int .i64 x3_2 ∧ Az (r06_Is.l0 kq x3_2 a0_0 a0_1 a0_2 a0_3 l0_4 a0_5 = some r) ∧ Az (kq ≤ kj1) ∧ Az (w'.heap[gb344]? = some (.cells #[.int .i64 a0_0, .string a0_1, .string a0_2, .int .i64 a0_3, (.slice A0_4 l0_4.length c0_4), .int .i64 a0_5] 26 (0, 0))) ∧ Az (Below w.heap.size w w'))
    case atStart => exact ⟨(0), (by first | rfl | (simp; done) | (simp [*]; done)), H', ⟨Nat.le_refl _⟩, ⟨by refine bk ?_; exact BK344.out⟩, ⟨by exact pbE HB.out⟩⟩
    case round =>
     clear H'
     try clear c1
     try clear c2
     try clear p2
     try clear c3
     try clear c5
     try clear c7
     try clear c9
     try clear c11
     try clear c12
     try clear c12b0
     try clear c12b1
     try clear c24
     try clear hcz13
     try clear hcz15
     try clear hcz16
     try clear hcz18
     try clear hcz19
     try clear hcz21
     try clear hcz22
     try clear hcz23
     try clear p2
     obtain ⟨x3_2, rfl, HA, HK2, BK344, HB⟩ := hrel
     cases gk with
     | zero => exact absurd HA.out (by simp [r06_Is.l0])
     | succ k2 =>
      have H := HA.out
      clear HA
      simp only [r06_Is.l0] at H
      by_cases c25 : x3_2 < (l0_4.length : Int)
      ·rw [if_pos c25] at H
       have c25b0 : decide (x3_2 < (l0_4.length : Int)) = true := decide_eq_true c25
       clear c25
       by_cases c26 : 0 ≤ x3_2
       ·rw [if_pos c26] at H
        have c26b0 : decide (0 ≤ x3_2) = true := decide_eq_true c26
        clear c26
        have HC27 := Az.mk H
        clear H
        have hcz28 := cells6 BK344.out
        have p349 : 0 ≤ (x3_2 : Int) := of_decide_eq_true (by first | (with_reducible assumption) | assumption)
        have q349 : x3_2 < (l0_4.length : Int) := of_decide_eq_true (by first | (with_reducible assumption) | assumption)
        obtain ⟨ad349, e349, hx349_0, hx349_1⟩ := at_T60 HR0_4.out x3_2 p349 q349
        cases e349
        replace hx349_0 := (HB.out.cell (World.block_lt_of_cell? w _ hx349_0)).trans hx349_0
        replace hx349_1 := (HB.out.cell (World.block_lt_of_cell? w _ hx349_1)).trans hx349_1
        replace p349 := eq_true p349
        replace q349 := eq_true q349
        go_upto_region 7 with ((with_reducible refine gate_dst (N := 4) rfl ?_); (try (refine gate_guard (by rfl) ?_; dsimp only)); refine box_event ?hg (N := 4) ?hd (cs := #[.int .i64 0, .int .i64 0]) (t := 60) ?hr ?_; (case hd => rfl); (case hg => rfl); (case hr => first | (go_simp; done) | (go_simp; rfl)); intro gb350 hg w29 hbox hb; have BK350 := Az.mk (hbox); have GW350 := Az.mk (geO hg (pbE HB.out)); have GE350 := Az.mk (geO hg (pbE HB.out)); replace HB := Az.mk (pbT (by exact pbE HB.out) hb); have NB344_350 := Az.mk (neO hg (bk BK344.out)); have NB350_344 := Az.mk (neP hg (bk BK344.out)); replace BK344 := Az.mk (bkB (bk BK344.out) hb); clear hb hbox hg; have hnb30 := NB350_344.out; have hnc30 := NB344_350.out; have hcz31 := cells2 BK350.out)
        repeat (go_quiet (first | ((with_reducible refine gate_dst (N := 4) rfl ?_); (try (refine gate_guard (by rfl) ?_; dsimp only)); refine box_event ?hg (N := 4) ?hd (cs := #[.int .i64 0, .int .i64 0]) (t := 60) ?hr ?_; (case hd => rfl); (case hg => rfl); (case hr => first | (go_simp; done) | (go_simp; rfl)); intro gb350 hg w29 hbox hb; have BK350 := Az.mk (hbox); have GW350 := Az.mk (geO hg (pbE HB.out)); have GE350 := Az.mk (geO hg (pbE HB.out)); replace HB := Az.mk (pbT (by exact pbE HB.out) hb); have NB344_350 := Az.mk (neO hg (bk BK344.out)); have NB350_344 := Az.mk (neP hg (bk BK344.out)); replace BK344 := Az.mk (bkB (bk BK344.out) hb); clear hb hbox hg; have hnb30 := NB350_344.out; have hnc30 := NB344_350.out; have hcz31 := cells2 BK350.out)); go_upto_region 7 with (fail))
        (try simp only [Act.put, List.setIfInBounds_toArray, List.set_cons_zero, List.set_cons_succ])
        go_cut [87] (fun v87 wc => ∃ (kq : Nat) (x87_26 : Bool), v87 = .bool x87_26 ∧ Az (r06_Is.j2 kq x3_2 x87_26 a0_0 a0_1 a0_2 a0_3 l0_4 a0_5 ((rd_T60 l0_4 x3_2).f0) ((rd_T60 l0_4 x3_2).f1) = some r) ∧ Az (kq ≤ k2) ∧ Az (wc.heap[gb344]? = some (.cells #[.int .i64 a0_0, .string a0_1, .string a0_2, .int .i64 a0_3, (.slice (some ad349) l0_4.length c0_4), .int .i64 a0_5] 26 (0, 0))) ∧ Az (wc.heap[gb350]? = some (.cells #[.int .i64 ((rd_T60 l0_4 x3_2).f0), .int .i64 ((rd_T60 l0_4 x3_2).f1)] 60 (0, 0))) ∧ Az (Below w.heap.size w wc))
        case first =>
         have H := HC27.out
         clear HC27
         by_cases c32 : ((rd_T60 l0_4 x3_2).f0) < 1
         ·rw [if_pos c32] at H
          have c32b0 : decide (((rd_T60 l0_4 x3_2).f0) < 1) = true := decide_eq_true c32
          clear c32
          (first | rw [c32b0] | (simp only [i64_w, i32_w]; rw [c32b0]) | skip)
          have H' := Az.mk H
          clear H
          have hnb33 := NB350_344.out
          have hnc33 := NB344_350.out
          have hcz34 := cells2 BK350.out
          go_wp2
          repeat (go_quiet (fail); try go_wp2)
          go_meet
          case rel => exact ⟨_, (true), (by first | rfl | (simp; done) | (simp [*]; done)), H', ⟨by have := HJ1.out; have := HK2.out; first | omega | exact Nat.le_refl _⟩, ⟨by exact bf BK344.out⟩, ⟨by refine bk ?_; refine blk_put (cs := #[.int .i64 ((rd_T60 l0_4 x3_2).f0), .int .i64 0]) ?_ 1 _ rfl; refine bk ?_; refine blk_put (cs := #[.int .i64 0, .int .i64 0]) ?_ 0 _ rfl; refine bk ?_; exact BK350.out⟩, ⟨by exact pbE HB.out⟩⟩
         ·rw [if_neg c32] at H
          have c32b0 : decide (((rd_T60 l0_4 x3_2).f0) < 1) = false := decide_eq_false c32
          clear c32
          (first | rw [c32b0] | (simp only [i64_w, i32_w]; rw [c32b0]) | skip)
          by_cases c35 : ((rd_T60 l0_4 x3_2).f0) > 7
          ·rw [if_pos c35] at H
           have c35b0 : decide (7 < ((rd_T60 l0_4 x3_2).f0)) = true := decide_eq_true c35
           clear c35
           have H' := Az.mk H
           clear H
           have hnb36 := NB350_344.out
           have hnc36 := NB344_350.out
           have hcz37 := cells2 BK350.out
           go_wp2
           repeat (go_quiet (fail); try go_wp2)
           go_meet
           case rel => exact ⟨_, (true), (by first | rfl | (simp; done) | (simp [*]; done)), H', ⟨by have := HJ1.out; have := HK2.out; first | omega | exact Nat.le_refl _⟩, ⟨by exact bf BK344.out⟩, ⟨by refine bk ?_; refine blk_put (cs := #[.int .i64 ((rd_T60 l0_4 x3_2).f0), .int .i64 0]) ?_ 1 _ rfl; refine bk ?_; refine blk_put (cs := #[.int .i64 0, .int .i64 0]) ?_ 0 _ rfl; refine bk ?_; exact BK350.out⟩, ⟨by exact pbE HB.out⟩⟩
          ·rw [if_neg c35] at H
           have c35b0 : decide (7 < ((rd_T60 l0_4 x3_2).f0)) = false := decide_eq_false c35
           clear c35
           by_cases c38 : ((rd_T60 l0_4 x3_2).f1) < 1
           ·rw [if_pos c38] at H
            have c38b0 : decide (((rd_T60 l0_4 x3_2).f1) < 1) = true := decide_eq_true c38
            clear c38
            have H' := Az.mk H
            clear H
            have hnb39 := NB350_344.out
            have hnc39 := NB344_350.out
            have hcz40 := cells2 BK350.out
            go_wp2
            repeat (go_quiet (fail); try go_wp2)
            go_meet
            case rel => exact ⟨_, (true), (by first | rfl | (simp; done) | (simp [*]; done)), H', ⟨by have := HJ1.out; have := HK2.out; first | omega | exact Nat.le_refl _⟩, ⟨by exact bf BK344.out⟩, ⟨by refine bk ?_; refine blk_put (cs := #[.int .i64 ((rd_T60 l0_4 x3_2).f0), .int .i64 0]) ?_ 1 _ rfl; refine bk ?_; refine blk_put (cs := #[.int .i64 0, .int .i64 0]) ?_ 0 _ rfl; refine bk ?_; exact BK350.out⟩, ⟨by exact pbE HB.out⟩⟩
           ·rw [if_neg c38] at H
            have c38b0 : decide (((rd_T60 l0_4 x3_2).f1) < 1) = false := decide_eq_false c38
            clear c38
            by_cases c41 : ((rd_T60 l0_4 x3_2).f1) ≥ a0_5
            ·rw [if_pos c41] at H
             have c41b0 : decide (a0_5 ≤ ((rd_T60 l0_4 x3_2).f1)) = true := decide_eq_true c41
             clear c41
             have H' := Az.mk H
             clear H
             have hnb42 := NB350_344.out
             have hnc42 := NB344_350.out
             have hcz43 := cells2 BK350.out
             have hcz44 := cells6 BK344.out
             go_wp2
             repeat (go_quiet (fail); try go_wp2)
             go_meet
             case rel => exact ⟨_, (true), (by first | rfl | (simp; done) | (simp [*]; done)), H', ⟨by have := HJ1.out; have := HK2.out; first | omega | exact Nat.le_refl _⟩, ⟨by exact bf BK344.out⟩, ⟨by refine bk ?_; refine blk_put (cs := #[.int .i64 ((rd_T60 l0_4 x3_2).f0), .int .i64 0]) ?_ 1 _ rfl; refine bk ?_; refine blk_put (cs := #[.int .i64 0, .int .i64 0]) ?_ 0 _ rfl; refine bk ?_; exact BK350.out⟩, ⟨by exact pbE HB.out⟩⟩
            ·rw [if_neg c41] at H
             have c41b0 : decide (a0_5 ≤ ((rd_T60 l0_4 x3_2).f1)) = false := decide_eq_false c41
             clear c41
             by_cases c45 : x3_2 > 0
             ·rw [if_pos c45] at H
              have c45b0 : decide (0 < x3_2) = true := decide_eq_true c45
              clear c45
              obtain ⟨ji46, hji46⟩ : ∃ j_ : Int, (wrap64 (x3_2 - 1)) = j_ := ⟨_, rfl⟩
              replace H : (if 0 ≤ (ji46) then (if (ji46) < (l0_4.length : Int) then (r06_Is.j2 k2 x3_2 (decide (((rd_T60 l0_4 x3_2).f1) ≤ ((rd_T60 l0_4 (ji46)).f1))) a0_0 a0_1 a0_2 a0_3 l0_4 a0_5 ((rd_T60 l0_4 x3_2).f0) ((rd_T60 l0_4 x3_2).f1)) else (none)) else (none)) = some r := by first | (rw [hji46] at H; exact H) | (simp only [hji46] at H ⊢; exact H)
              have hji46w : (IntKind.i64.wrap (x3_2 - 1)) = ji46 := (i64_w _).trans hji46
              by_cases c47 : 0 ≤ (ji46)
              ·rw [if_pos c47] at H
               have c47b0 : decide (0 ≤ (ji46)) = true := decide_eq_true c47
               clear c47
               by_cases c48 : (ji46) < (l0_4.length : Int)
               ·rw [if_pos c48] at H
                have c48b0 : decide ((ji46) < (l0_4.length : Int)) = true := decide_eq_true c48
                clear c48
                have H' := Az.mk H
                clear H
                have hnb49 := NB350_344.out
                have hnc49 := NB344_350.out
                have hcz50 := cells2 BK350.out
                have hcz51 := cells6 BK344.out
                have p351 : 0 ≤ ((ji46) : Int) := of_decide_eq_true (by first | (with_reducible assumption) | assumption)
                have q351 : (ji46) < (l0_4.length : Int) := of_decide_eq_true (by first | (with_reducible assumption) | assumption)
                obtain ⟨ad351, e351, hx351_0, hx351_1⟩ := at_T60 HR0_4.out (ji46) p351 q351
                obtain rfl : ad349 = ad351 := (by injection e351)
                have hn351_0 : ad349.block ≠ gb350 := Nat.ne_of_lt (Nat.lt_of_lt_of_le (by have := World.block_lt_of_cell? _ _ hx351_0; first | rwa [add_block] at this | exact this) GW350.out)
                have hn351_1 : ad349.block ≠ gb350 := Nat.ne_of_lt (Nat.lt_of_lt_of_le (by have := World.block_lt_of_cell? _ _ hx351_0; first | rwa [add_block] at this | exact this) GW350.out)
                replace hx351_0 := (HB.out.cell (World.block_lt_of_cell? w _ hx351_0)).trans hx351_0
                replace hx351_1 := (HB.out.cell (World.block_lt_of_cell? w _ hx351_1)).trans hx351_1
                replace hx351_0 := (cell_far (p := ⟨gb350, 0, none⟩) (by first | (rw [add_block]; exact hn351_0) | (show (Addr.add _ _).block ≠ _; rw [add_block]; exact hn351_0) | exact hn351_0) (.int .i64 ((rd_T60 l0_4 x3_2).f0))).trans hx351_0
                replace hx351_1 := (cell_far (p := ⟨gb350, 0, none⟩) (by first | (rw [add_block]; exact hn351_0) | (show (Addr.add _ _).block ≠ _; rw [add_block]; exact hn351_0) | exact hn351_0) (.int .i64 ((rd_T60 l0_4 x3_2).f0))).trans hx351_1
                replace hx351_0 := (cell_far (p := ⟨gb350, 1, none⟩) (by first | (rw [add_block]; exact hn351_1) | (show (Addr.add _ _).block ≠ _; rw [add_block]; exact hn351_1) | exact hn351_1) (.int .i64 ((rd_T60 l0_4 x3_2).f1))).trans hx351_0
                replace hx351_1 := (cell_far (p := ⟨gb350, 1, none⟩) (by first | (rw [add_block]; exact hn351_1) | (show (Addr.add _ _).block ≠ _; rw [add_block]; exact hn351_1) | exact hn351_1) (.int .i64 ((rd_T60 l0_4 x3_2).f1))).trans hx351_1
                (try have hy351_0 := fun (n_ : Nat) => (show ((((w29.drewN n_).setCell ⟨gb350, 0, none⟩ (.int .i64 ((rd_T60 l0_4 x3_2).f0))).setCell ⟨gb350, 1, none⟩ (.int .i64 ((rd_T60 l0_4 x3_2).f1)))).cell? _ = some _ from hx351_0))
                (try have hy351_1 := fun (n_ : Nat) => (show ((((w29.drewN n_).setCell ⟨gb350, 0, none⟩ (.int .i64 ((rd_T60 l0_4 x3_2).f0))).setCell ⟨gb350, 1, none⟩ (.int .i64 ((rd_T60 l0_4 x3_2).f1)))).cell? _ = some _ from hx351_1))
                clear hn351_0
                clear hn351_1
                replace p351 := eq_true p351
                replace q351 := eq_true q351
                go_wp2
                repeat (go_quiet (fail); try go_wp2)
                go_meet
                case rel => exact ⟨_, (decide (((rd_T60 l0_4 x3_2).f1) ≤ ((rd_T60 l0_4 (ji46)).f1))), (by first | rfl | (simp; done) | (simp only [← hji46] <;> (first | rfl | simp)) | (simp [*]; done)), H', ⟨by have := HJ1.out; have := HK2.out; first | omega | exact Nat.le_refl _⟩, ⟨by exact bf BK344.out⟩, ⟨by refine bk ?_; refine blk_put (cs := #[.int .i64 ((rd_T60 l0_4 x3_2).f0), .int .i64 0]) ?_ 1 _ rfl; refine bk ?_; refine blk_put (cs := #[.int .i64 0, .int .i64 0]) ?_ 0 _ rfl; refine bk ?_; exact BK350.out⟩, ⟨by exact pbE HB.out⟩⟩
               ·rw [if_neg c48] at H
                exact absurd H (by simp)
              ·rw [if_neg c47] at H
               exact absurd H (by simp)
             ·rw [if_neg c45] at H
              have c45b0 : decide (0 < x3_2) = false := decide_eq_false c45
              clear c45
              have H' := Az.mk H
              clear H
              have hnb52 := NB350_344.out
              have hnc52 := NB344_350.out
              have hcz53 := cells2 BK350.out
              have hcz54 := cells6 BK344.out
              go_wp2
              repeat (go_quiet (fail); try go_wp2)
              go_meet
              case rel => exact ⟨_, (false), (by first | rfl | (simp; done) | (simp [*]; done)), H', ⟨by have := HJ1.out; have := HK2.out; first | omega | exact Nat.le_refl _⟩, ⟨by exact bf BK344.out⟩, ⟨by refine bk ?_; refine blk_put (cs := #[.int .i64 ((rd_T60 l0_4 x3_2).f0), .int .i64 0]) ?_ 1 _ rfl; refine bk ?_; refine blk_put (cs := #[.int .i64 0, .int .i64 0]) ?_ 0 _ rfl; refine bk ?_; exact BK350.out⟩, ⟨by exact pbE HB.out⟩⟩
        case rest =>
         clear HC27
         try clear c1
         try clear c2
         try clear p2
         try clear c3
         try clear p3
         try clear q3
         try clear hx3
         try clear c4
         try clear c5
         try clear p6
         try clear c7
         try clear c9
         try clear c11
         try clear c12
         try clear c12b0
         try clear c12b1
         try clear c24
         try clear c25
         try clear c25b0
         try clear c26
         try clear c26b0
         try clear c30
         try clear c32
         try clear c32b0
         try clear c33
         try clear p34
         try clear q34
         try clear hx34
         try clear c35
         try clear c35b0
         try clear p35
         try clear q35
         try clear hx35
         try clear c36
         try clear c38
         try clear c38b0
         try clear c39
         try clear c41
         try clear c41b0
         try clear c42
         try clear c45
         try clear c45b0
         try clear c47
         try clear c47b0
         try clear c48
         try clear c48b0
         try clear c49
         try clear c52
         try clear hcz13
         try clear hcz15
         try clear hcz16
         try clear hcz18
         try clear hcz19
         try clear hcz21
         try clear hcz22
         try clear hcz23
         try clear hcz28
         try clear hcz31
         try clear hcz34
         try clear hcz37
         try clear hcz40
         try clear hcz43
         try clear hcz44
         try clear hcz50
         try clear hcz51
         try clear hcz53
         try clear hcz54
         try clear hx349_0
         try clear hx349_1
         try clear hx351_0
         try clear hx351_1
         try clear p2
         try clear p349
         try clear p351
         try clear q349
         try clear q351
         obtain ⟨kq, x87_26, rfl, HA, HJ26, BK344, BK350, HB⟩ := hcut
         cases kq with
         | zero => exact absurd HA.out (by simp [r06_Is.j2])
         | succ kj26 =>
          have H := HA.out
          clear HA
          simp only [r06_Is.j2] at H
          by_cases c55 : x87_26 = true
          ·subst c55
           have H1 : (some false) = some r := by rw [if_pos rfl] at H; exact H
           clear H
           have H := H1
           clear H1
           obtain rfl := Option.some.inj H
           go_wp2
           repeat (go_quiet (fail); try go_wp2)
           go_ret
           exact ⟨by first | rfl | (simp [errW_none, errW_some] <;> rfl) | (simp [*, errW_none, errW_some] <;> rfl), by exact pbE HB.out⟩
          ·replace c55 := Bool.eq_false_iff.mpr c55
           subst c55
           have H1 : (r06_Is.l1 kj26 x3_2 0 a0_0 a0_1 a0_2 a0_3 l0_4 a0_5 ((rd_T60 l0_4 x3_2).f0) ((rd_T60 l0_4 x3_2).f1)) = some r := by rw [if_neg (show ¬ (false = true) by decide)] at H; exact H
           clear H
           have H := H1
           clear H1
           have H' := Az.mk H
           clear H
           go_wp2
           repeat (go_quiet (fail); try go_wp2)
           go_loopg [5] kj26 (fun kq v5 w' => ∃ (x5_4 : Int), v5 = .int .i64 x5_4 ∧ Az (r06_Is.l1 kq x3_2 x5_4 a0_0 a0_1 a0_2 a0_3 l0_4 a0_5 ((rd_T60 l0_4 x3_2).f0) ((rd_T60 l0_4 x3_2).f1) = some r) ∧ Az (kq ≤ kj26) ∧ Az (w'.heap[gb344]? = some (.cells #[.int .i64 a0_0, .string a0_1, .string a0_2, .int .i64 a0_3, (.slice (some ad349) l0_4.length c0_4), .int .i64 a0_5] 26 (0, 0))) ∧ Az (w'.heap[gb350]? = some (.cells #[.int .i64 ((rd_T60 l0_4 x3_2).f0), .int .i64 ((rd_T60 l0_4 x3_2).f1)] 60 (0, 0))) ∧ Az (Below w.heap.size w w'))
           case atStart => exact ⟨(0), (by first | rfl | (simp; done) | (simp [*]; done)), H', ⟨Nat.le_refl _⟩, ⟨by refine bk ?_; exact BK344.out⟩, ⟨by refine bk ?_; exact BK350.out⟩, ⟨by exact pbE HB.out⟩⟩
           case round =>
            clear H'
            try clear c1
            try clear c2
            try clear p2
            try clear c3
            try clear p3
            try clear q3
            try clear hx3
            try clear c4
            try clear c5
            try clear p6
            try clear c7
            try clear c9
            try clear c11
            try clear c12
            try clear c12b0
            try clear c12b1
            try clear c24
            try clear c25
            try clear c25b0
            try clear c26
            try clear c26b0
            try clear c30
            try clear c32
            try clear c32b0
            try clear c33
            try clear p34
            try clear q34
            try clear hx34
            try clear c35
            try clear c35b0
            try clear p35
            try clear q35
            try clear hx35
            try clear c36
            try clear c38
            try clear c38b0
            try clear c39
            try clear c41
            try clear c41b0
            try clear c42
            try clear c45
            try clear c45b0
            try clear c47
            try clear c47b0
            try clear c48
            try clear c48b0
            try clear c49
            try clear c52
            try clear c55
            try clear hcz13
            try clear hcz15
            try clear hcz16
            try clear hcz18
            try clear hcz19
            try clear hcz21
            try clear hcz22
            try clear hcz23
            try clear hcz28
            try clear hcz31
            try clear hcz34
            try clear hcz37
            try clear hcz40
            try clear hcz43
            try clear hcz44
            try clear hcz50
            try clear hcz51
            try clear hcz53
            try clear hcz54
            try clear hx349_0
            try clear hx349_1
            try clear hx351_0
            try clear hx351_1
            try clear p2
            try clear p3
            try clear p34
            try clear p349
            try clear p35
            try clear p351
            try clear p6
            try clear q3
            try clear q34
            try clear q349
            try clear q35
            try clear q351
            obtain ⟨x5_4, rfl, HA, HK4, BK344, BK350, HB⟩ := hrel
            cases gk with
            | zero => exact absurd HA.out (by simp [r06_Is.l1])
            | succ k4 =>
             have H := HA.out
             clear HA
             simp only [r06_Is.l1] at H
             by_cases c56 : x5_4 < x3_2
             ·rw [if_pos c56] at H
              have c56b0 : decide (x5_4 < x3_2) = true := decide_eq_true c56
              clear c56
              by_cases c57 : 0 ≤ x5_4
              ·rw [if_pos c57] at H
               have c57b0 : decide (0 ≤ x5_4) = true := decide_eq_true c57
               clear c57
               by_cases c58 : x5_4 < (l0_4.length : Int)
               ·rw [if_pos c58] at H
                have c58b0 : decide (x5_4 < (l0_4.length : Int)) = true := decide_eq_true c58
                clear c58
                by_cases c59 : ((rd_T60 l0_4 x5_4).f0) = ((rd_T60 l0_4 x3_2).f0)
                ·rw [if_pos c59] at H
                 have c59b0 : (((rd_T60 l0_4 x5_4).f0) == ((rd_T60 l0_4 x3_2).f0)) = true := beq_iff_eq.mpr c59
                 have c59b1 : (((rd_T60 l0_4 x5_4).f0) != ((rd_T60 l0_4 x3_2).f0)) = false := bne_eq_false_iff_eq.mpr c59
                 clear c59
                 obtain rfl := Option.some.inj H
                 have hnb60 := NB344_350.out
                 have hnc60 := NB350_344.out
                 have hcz61 := cells6 BK344.out
                 have p352 : 0 ≤ (x5_4 : Int) := of_decide_eq_true (by first | (with_reducible assumption) | assumption)
                 have q352 : x5_4 < (l0_4.length : Int) := of_decide_eq_true (by first | (with_reducible assumption) | assumption)
                 obtain ⟨ad352, e352, hx352_0, hx352_1⟩ := at_T60 HR0_4.out x5_4 p352 q352
                 obtain rfl : ad349 = ad352 := (by injection e352)
                 replace hx352_0 := (HB.out.cell (World.block_lt_of_cell? w _ hx352_0)).trans hx352_0
                 replace hx352_1 := (HB.out.cell (World.block_lt_of_cell? w _ hx352_1)).trans hx352_1
                 replace p352 := eq_true p352
                 replace q352 := eq_true q352
                 have hcz62 := cells2 BK350.out
                 go_wp2
                 repeat (go_quiet (fail); try go_wp2)
                 go_ret
                 exact ⟨by first | rfl | (simp [errW_none, errW_some] <;> rfl) | (simp [*, errW_none, errW_some] <;> rfl), by exact pbE HB.out⟩
                ·rw [if_neg c59] at H
                 have c59b0 : (((rd_T60 l0_4 x5_4).f0) == ((rd_T60 l0_4 x3_2).f0)) = false := beq_eq_false_iff_ne.mpr c59
                 have c59b1 : (((rd_T60 l0_4 x5_4).f0) != ((rd_T60 l0_4 x3_2).f0)) = true := bne_iff_ne.mpr c59
                 have H' := Az.mk H
                 clear H
                 have hnb63 := NB344_350.out
                 have hnc63 := NB350_344.out
                 have hcz64 := cells6 BK344.out
                 have p352 : 0 ≤ (x5_4 : Int) := of_decide_eq_true (by first | (with_reducible assumption) | assumption)
                 have q352 : x5_4 < (l0_4.length : Int) := of_decide_eq_true (by first | (with_reducible assumption) | assumption)
                 obtain ⟨ad352, e352, hx352_0, hx352_1⟩ := at_T60 HR0_4.out x5_4 p352 q352
                 obtain rfl : ad349 = ad352 := (by injection e352)
                 replace hx352_0 := (HB.out.cell (World.block_lt_of_cell? w _ hx352_0)).trans hx352_0
                 replace hx352_1 := (HB.out.cell (World.block_lt_of_cell? w _ hx352_1)).trans hx352_1
                 replace p352 := eq_true p352
                 replace q352 := eq_true q352
                 have hcz65 := cells2 BK350.out
                 go_wp2
                 repeat (go_quiet (fail); try go_wp2)
                 go_roundg k4
                 case measure => have := HJ1.out; have := HK2.out; have := HJ26.out; have := HK4.out; omega
                 case rel => exact ⟨(wrap64 (x5_4 + 1)), (by first | rfl | (simp; done) | (simp [*]; done)), H', ⟨by have := HJ1.out; have := HK2.out; have := HJ26.out; have := HK4.out; omega⟩, ⟨by refine bk ?_; exact BK344.out⟩, ⟨by refine bk ?_; exact BK350.out⟩, ⟨by exact pbE HB.out⟩⟩
               ·rw [if_neg c58] at H
                exact absurd H (by simp)
              ·rw [if_neg c57] at H
               exact absurd H (by simp)
             ·rw [if_neg c56] at H
              have c56b0 : decide (x5_4 < x3_2) = false := decide_eq_false c56
              clear c56
              have H' := Az.mk H
              clear H
              go_wp2
              repeat (go_quiet (fail); try go_wp2)
              go_roundg k4
              case measure => have := HJ1.out; have := HK2.out; have := HJ26.out; have := HK4.out; omega
              case rel => exact ⟨(wrap64 (x3_2 + 1)), (by first | rfl | (simp; done) | (simp [*]; done)), H', ⟨by have := HJ1.out; have := HK2.out; have := HJ26.out; have := HK4.out; omega⟩, ⟨by refine bk ?_; exact BK344.out⟩, ⟨by exact pbE HB.out⟩⟩
       ·rw [if_neg c26] at H
        exact absurd H (by simp)
      ·rw [if_neg c25] at H
       have c25b0 : decide (x3_2 < (l0_4.length : Int)) = false := decide_eq_false c25
       clear c25
       obtain rfl := Option.some.inj H
       have hcz66 := cells6 BK344.out
       go_wp2
       repeat (go_quiet (fail); try go_wp2)
       go_ret
       exact ⟨by first | rfl | (simp [errW_none, errW_some] <;> rfl) | (simp [*, errW_none, errW_some] <;> rfl), by exact pbE HB.out⟩
def r06_On.l0 : Nat → Int → Int → Int → ByteArray → ByteArray → Int → List (S60) → Int → Option (Int × Int × Bool)
 | 0, _, _, _, _, _, _, _, _ => none
 | k + 1, x1, x6, x537000, x537001, x537002, x537003, x537004, x537005 => if x6 < (x537004.length : Int) then (if 0 ≤ x6 then (if ((rd_T60 x537004 x6).f0) = x1 then (some ((rd_T60 x537004 x6).f0, (rd_T60 x537004 x6).f1, true)) else (r06_On.l0 k x1 (wrap64 (x6 + 1)) x537000 x537001 x537002 x537003 x537004 x537005)) else (none)) else (some (0, 0, false))
def r06_On.f (k : Nat) (a0_0 : Int) (a0_1 : ByteArray) (a0_2 : ByteArray) (a0_3 : Int) (l0_4 : List (S60)) (a0_5 : Int) (a1 : Int) : Option (Int × Int × Bool) := r06_On.l0 k a1 0 a0_0 a0_1 a0_2 a0_3 l0_4 a0_5
theorem r06_On.mono_l : ∀ k, (∀ y0 y1 y2 y3 y4 y5 y6 y7, LeO (r06_On.l0 k y0 y1 y2 y3 y4 y5 y6 y7) (r06_On.l0 (k + 1) y0 y1 y2 y3 y4 y5 y6 y7))
 | 0 => fun _ _ _ _ _ _ _ _ r h => by simp [r06_On.l0] at h
 | k + 1 => by
  have ih0 := r06_On.mono_l k
  ·intro y0 y1 y2 y3 y4 y5 y6 y7
   unfold r06_On.l0
   repeat' first
   | (with_reducible exact ih0 _ _ _ _ _ _ _ _)
   | (with_reducible exact LeO.refl _)
   | (with_reducible exact LeO.none _)
   | (with_reducible refine LeO.ite ?_ ?_)
   | (with_reducible refine LeO.bind ?_ (fun _ => ?_))
   | exact ih0 _ _ _ _ _ _ _ _
   | exact LeO.none _
   | refine LeO.ite ?_ ?_
   | refine LeO.bind ?_ (fun _ => ?_)
theorem r06_On.mono : ∀ a0 a1 a2 a3 a4 a5 a6 k, LeO (r06_On.f k a0 a1 a2 a3 a4 a5 a6) (r06_On.f (k + 1) a0 a1 a2 a3 a4 a5 a6) := by
 intro a0 a1 a2 a3 a4 a5 a6 k
 have ih0 := r06_On.mono_l k
 unfold r06_On.f
 repeat' first
  | (with_reducible exact ih0 _ _ _ _ _ _ _ _)
  | (with_reducible exact LeO.refl _)
  | (with_reducible exact LeO.none _)
  | (with_reducible refine LeO.ite ?_ ?_)
  | (with_reducible refine LeO.bind ?_ (fun _ => ?_))
  | exact ih0 _ _ _ _ _ _ _ _
  | exact LeO.none _
  | refine LeO.ite ?_ ?_
  | refine LeO.bind ?_ (fun _ => ?_)
set_option maxHeartbeats 8000000 in
set_option maxRecDepth 100000 in
theorem r06_On.calls (k : Nat) (a0_0 : Int) (a0_1 : ByteArray) (a0_2 : ByteArray) (a0_3 : Int) (A0_4 : Option Addr) (c0_4 : Nat) (l0_4 : List (S60)) (a0_5 : Int) (a1 : Int) (r1 : Int) (r2 : Int) (r3 : Bool) (w : World) (hG : TheG w) (hr0_4 : Kd.C k60 w A0_4 l0_4.length l0_4) (hc0_4 : l0_4.length ≤ c0_4) (h : r06_On.f k a0_0 a0_1 a0_2 a0_3 l0_4 a0_5 a1 = some (r1, r2, r3)) :
 Calls Tryd.prog 50 #[.agg #[.int .i64 a0_0, .string a0_1, .string a0_2, .int .i64 a0_3, .slice A0_4 l0_4.length c0_4, .int .i64 a0_5], .int .i64 a1] w fun e w' => e = .returned (.tuple #[.agg #[.int .i64 r1, .int .i64 r2], .bool r3]) ∧ Below w.heap.size w w' := by
 have hu26 := Tryd.underlying26
 have hu60 := Tryd.underlying60
 have HR0_4 := Az.mk hr0_4
 have HC0_4 := Az.mk hc0_4
 clear hr0_4 hc0_4
 have HB := Az.mk (Below.refl w.heap.size w)
 have H : (r06_On.l0 k a1 0 a0_0 a0_1 a0_2 a0_3 l0_4 a0_5) = some (r1, r2, r3) := h
 clear h
 have H' := Az.mk H
 clear H
 go_enter Tryd.func50, Tryd.ntmps50
 go_wp2_with (first | ((with_reducible refine gate_dst (N := 2) rfl ?_); refine box_event ?hg (N := 2) ?hd (cs := #[.int .i64 a0_0, .string a0_1, .string a0_2, .int .i64 a0_3, .slice A0_4 l0_4.length c0_4, .int .i64 a0_5]) (t := 26) ?hr ?_; (case hd => rfl); (case hg => rfl); (case hr => first | (go_simp; done) | (go_simp; rfl)); intro gb536 hg w3 hbox hb; have BK536 := Az.mk (hbox); have GW536 := Az.mk (geO hg (pbE HB.out)); have GE536 := Az.mk (geO hg (pbE HB.out)); replace HB := Az.mk (pbT (by exact pbE HB.out) hb); clear hb hbox hg) | ((with_reducible refine gate_dst (N := 4) rfl ?_); refine box_event ?hg (N := 4) ?hd (cs := #[.int .i64 0, .int .i64 0]) (t := 60) ?hr ?_; (case hd => rfl); (case hg => rfl); (case hr => first | (go_simp; done) | (go_simp; rfl)); intro gb537 hg w4 hbox hb; have BK537 := Az.mk (hbox); have GW537 := Az.mk (geO hg (pbE HB.out)); have GE537 := Az.mk (geO hg (pbE HB.out)); replace HB := Az.mk (pbT (by exact pbE HB.out) hb); have NB536_537 := Az.mk (neO hg (bk BK536.out)); have NB537_536 := Az.mk (neP hg (bk BK536.out)); replace BK536 := Az.mk (bkB (bk BK536.out) hb); clear hb hbox hg))
 go_loopg [6] k (fun kq v6 w' => ∃ (x6_1 : Int) (x538000_1 : Int) (x538001_1 : Int), v6 = .int .i64 x6_1 ∧ Az (r06_On.l0 kq a1 x6_1 a0_0 a0_1 a0_2 a0_3 l0_4 a0_5 = some (r1, r2, r3)) ∧ Az (kq ≤ k) ∧ Az (w'.heap[gb536]? = some (.cells #[.int .i64 a0_0, .string a0_1, .string a0_2, .int .i64 a0_3, (.slice A0_4 l0_4.length c0_4), .int .i64 a0_5] 26 (0, 0))) ∧ Az (w'.heap[gb537]? = some (.cells #[.int .i64 x538000_1, .int .i64 x538001_1] 60 (0, 0))) ∧ Az (Below w.heap.size w w'))
 case atStart => exact ⟨(0), (0), (0), (by first | rfl | (simp; done) | (simp [*]; done)), H', ⟨Nat.le_refl _⟩, ⟨by refine bk ?_; exact BK536.out⟩, ⟨by refine bk ?_; exact BK537.out⟩, ⟨by exact pbE HB.out⟩⟩
 case round =>
  clear H'
  try clear p2
  obtain ⟨x6_1, x538000_1, x538001_1, rfl, HA, HK1, BK536, BK537, HB⟩ := hrel
  cases gk with
  | zero => exact absurd HA.out (by simp [r06_On.l0])
  | succ k1 =>
   have H := HA.out
   clear HA
   simp only [r06_On.l0] at H
   by_cases c5 : x6_1 < (l0_4.length : Int)
   ·rw [if_pos c5] at H
    have c5b0 : decide (x6_1 < (l0_4.length : Int)) = true := decide_eq_true c5
    clear c5
    by_cases c6 : 0 ≤ x6_1
    ·rw [if_pos c6] at H
     have c6b0 : decide (0 ≤ x6_1) = true := decide_eq_true c6
     clear c6
     by_cases c7 : ((rd_T60 l0_4 x6_1).f0) = a1
     ·rw [if_pos c7] at H
      have c7b0 : (((rd_T60 l0_4 x6_1).f0) == a1) = true := beq_iff_eq.mpr c7
      have c7b1 : (((rd_T60 l0_4 x6_1).f0) != a1) = false := bne_eq_false_iff_eq.mpr c7
      clear c7
      simp only [Option.some.injEq, Prod.mk.injEq] at H
      obtain ⟨rfl, rfl, rfl⟩ := H
      have hnb8 := NB536_537.out
      have hnc8 := NB537_536.out
      have hcz9 := cells6 BK536.out
      have p538 : 0 ≤ (x6_1 : Int) := of_decide_eq_true (by first | (with_reducible assumption) | assumption)
      have q538 : x6_1 < (l0_4.length : Int) := of_decide_eq_true (by first | (with_reducible assumption) | assumption)
      obtain ⟨ad538, e538, hx538_0, hx538_1⟩ := at_T60 HR0_4.out x6_1 p538 q538
      cases e538
      replace hx538_0 := (HB.out.cell (World.block_lt_of_cell? w _ hx538_0)).trans hx538_0
      replace hx538_1 := (HB.out.cell (World.block_lt_of_cell? w _ hx538_1)).trans hx538_1
      replace p538 := eq_true p538
      replace q538 := eq_true q538
      have p539 : 0 ≤ (x6_1 : Int) := of_decide_eq_true (by first | (with_reducible assumption) | assumption)
      have q539 : x6_1 < (l0_4.length : Int) := of_decide_eq_true (by first | (with_reducible assumption) | assumption)
      obtain ⟨ad539, e539, hx539_0, hx539_1⟩ := at_T60 HR0_4.out x6_1 p539 q539
      obtain rfl : ad538 = ad539 := (by injection e539)
      replace hx539_0 := (HB.out.cell (World.block_lt_of_cell? w _ hx539_0)).trans hx539_0
      replace hx539_1 := (HB.out.cell (World.block_lt_of_cell? w _ hx539_1)).trans hx539_1
      replace p539 := eq_true p539
      replace q539 := eq_true q539
      have hcz10 := cells2 BK537.out
      go_wp2
      refine bodyPost_ret (results_ct rfl _ _ gb537 60 #[.int .i64 ((rd_T60 l0_4 x6_1).f0), .int .i64 ((rd_T60 l0_4 x6_1).f1)] (0, 0) _ rfl (by refine bk ?_; refine blk_put (cs := #[.int .i64 ((rd_T60 l0_4 x6_1).f0), .int .i64 x538001_1]) ?_ 1 _ rfl; refine bk ?_; refine blk_put (cs := #[.int .i64 x538000_1, .int .i64 x538001_1]) ?_ 0 _ rfl; refine bk ?_; exact BK537.out) Tryd.underlying60 rfl (by kernel_rfl)) rfl ?_
      exact ⟨by first | rfl | (simp [errW_none, errW_some] <;> rfl) | (simp [*, errW_none, errW_some] <;> rfl), by exact pbE HB.out⟩
     ·rw [if_neg c7] at H
      have c7b0 : (((rd_T60 l0_4 x6_1).f0) == a1) = false := beq_eq_false_iff_ne.mpr c7
      have c7b1 : (((rd_T60 l0_4 x6_1).f0) != a1) = true := bne_iff_ne.mpr c7
      have H' := Az.mk H
      clear H
      have hnb11 := NB536_537.out
      have hnc11 := NB537_536.out
      have hcz12 := cells6 BK536.out
      have p538 : 0 ≤ (x6_1 : Int) := of_decide_eq_true (by first | (with_reducible assumption) | assumption)
      have q538 : x6_1 < (l0_4.length : Int) := of_decide_eq_true (by first | (with_reducible assumption) | assumption)
      obtain ⟨ad538, e538, hx538_0, hx538_1⟩ := at_T60 HR0_4.out x6_1 p538 q538
      cases e538
      replace hx538_0 := (HB.out.cell (World.block_lt_of_cell? w _ hx538_0)).trans hx538_0
      replace hx538_1 := (HB.out.cell (World.block_lt_of_cell? w _ hx538_1)).trans hx538_1
      replace p538 := eq_true p538
      replace q538 := eq_true q538
      go_wp2
      go_roundg k1
      case measure => have := HK1.out; omega
      case rel => exact ⟨(wrap64 (x6_1 + 1)), (x538000_1), (x538001_1), (by first | rfl | (simp; done) | (simp [*]; done)), H', ⟨by have := HK1.out; omega⟩, ⟨by refine bk ?_; exact BK536.out⟩, ⟨by refine bk ?_; exact BK537.out⟩, ⟨by exact pbE HB.out⟩⟩
    ·rw [if_neg c6] at H
     exact absurd H (by simp)
   ·rw [if_neg c5] at H
    have c5b0 : decide (x6_1 < (l0_4.length : Int)) = false := decide_eq_false c5
    clear c5
    simp only [Option.some.injEq, Prod.mk.injEq] at H
    obtain ⟨rfl, rfl, rfl⟩ := H
    have hnb13 := NB536_537.out
    have hnc13 := NB537_536.out
    have hcz14 := cells6 BK536.out
    have hcz15 := cells2 BK537.out
    go_wp2
    refine bodyPost_ret (results_ct rfl _ _ gb537 60 #[.int .i64 0, .int .i64 0] (0, 0) _ rfl (by refine bk ?_; refine blk_put (cs := #[.int .i64 0, .int .i64 x538001_1]) ?_ 1 _ rfl; refine bk ?_; refine blk_put (cs := #[.int .i64 x538000_1, .int .i64 x538001_1]) ?_ 0 _ rfl; refine bk ?_; exact BK537.out) Tryd.underlying60 rfl (by kernel_rfl)) rfl ?_
    exact ⟨by first | rfl | (simp [errW_none, errW_some] <;> rfl) | (simp [*, errW_none, errW_some] <;> rfl), by exact pbE HB.out⟩
def r06_Has.l0 : Nat → Int → Int → Int → ByteArray → ByteArray → Int → List (S60) → Int → Option (Int × Int × Bool)
 | 0, _, _, _, _, _, _, _, _ => none
 | k + 1, x1, x6, x589000, x589001, x589002, x589003, x589004, x589005 => if x6 < (x589004.length : Int) then (if 0 ≤ x6 then (if ((rd_T60 x589004 x6).f1) = x1 then (some ((rd_T60 x589004 x6).f0, (rd_T60 x589004 x6).f1, true)) else (r06_Has.l0 k x1 (wrap64 (x6 + 1)) x589000 x589001 x589002 x589003 x589004 x589005)) else (none)) else (some (0, 0, false))
def r06_Has.f (k : Nat) (a0_0 : Int) (a0_1 : ByteArray) (a0_2 : ByteArray) (a0_3 : Int) (l0_4 : List (S60)) (a0_5 : Int) (a1 : Int) : Option (Int × Int × Bool) := r06_Has.l0 k a1 0 a0_0 a0_1 a0_2 a0_3 l0_4 a0_5
theorem r06_Has.mono_l : ∀ k, (∀ y0 y1 y2 y3 y4 y5 y6 y7, LeO (r06_Has.l0 k y0 y1 y2 y3 y4 y5 y6 y7) (r06_Has.l0 (k + 1) y0 y1 y2 y3 y4 y5 y6 y7))
 | 0 => fun _ _ _ _ _ _ _ _ r h => by simp [r06_Has.l0] at h
 | k + 1 => by
  have ih0 := r06_Has.mono_l k
  ·intro y0 y1 y2 y3 y4 y5 y6 y7
   unfold r06_Has.l0
   repeat' first
   | (with_reducible exact ih0 _ _ _ _ _ _ _ _)
   | (with_reducible exact LeO.refl _)
   | (with_reducible exact LeO.none _)
   | (with_reducible refine LeO.ite ?_ ?_)
   | (with_reducible refine LeO.bind ?_ (fun _ => ?_))
   | exact ih0 _ _ _ _ _ _ _ _
   | exact LeO.none _
   | refine LeO.ite ?_ ?_
   | refine LeO.bind ?_ (fun _ => ?_)
theorem r06_Has.mono : ∀ a0 a1 a2 a3 a4 a5 a6 k, LeO (r06_Has.f k a0 a1 a2 a3 a4 a5 a6) (r06_Has.f (k + 1) a0 a1 a2 a3 a4 a5 a6) := by
 intro a0 a1 a2 a3 a4 a5 a6 k
 have ih0 := r06_Has.mono_l k
 unfold r06_Has.f
 repeat' first
  | (with_reducible exact ih0 _ _ _ _ _ _ _ _)
  | (with_reducible exact LeO.refl _)
  | (with_reducible exact LeO.none _)
  | (with_reducible refine LeO.ite ?_ ?_)
  | (with_reducible refine LeO.bind ?_ (fun _ => ?_))
  | exact ih0 _ _ _ _ _ _ _ _
  | exact LeO.none _
  | refine LeO.ite ?_ ?_
  | refine LeO.bind ?_ (fun _ => ?_)
set_option maxHeartbeats 8000000 in
set_option maxRecDepth 100000 in
theorem r06_Has.calls (k : Nat) (a0_0 : Int) (a0_1 : ByteArray) (a0_2 : ByteArray) (a0_3 : Int) (A0_4 : Option Addr) (c0_4 : Nat) (l0_4 : List (S60)) (a0_5 : Int) (a1 : Int) (r1 : Int) (r2 : Int) (r3 : Bool) (w : World) (hG : TheG w) (hr0_4 : Kd.C k60 w A0_4 l0_4.length l0_4) (hc0_4 : l0_4.length ≤ c0_4) (h : r06_Has.f k a0_0 a0_1 a0_2 a0_3 l0_4 a0_5 a1 = some (r1, r2, r3)) :
 Calls Tryd.prog 53 #[.agg #[.int .i64 a0_0, .string a0_1, .string a0_2, .int .i64 a0_3, .slice A0_4 l0_4.length c0_4, .int .i64 a0_5], .int .i64 a1] w fun e w' => e = .returned (.tuple #[.agg #[.int .i64 r1, .int .i64 r2], .bool r3]) ∧ Below w.heap.size w w' := by
 have hu26 := Tryd.underlying26
 have hu60 := Tryd.underlying60
 have HR0_4 := Az.mk hr0_4
 have HC0_4 := Az.mk hc0_4
 clear hr0_4 hc0_4
 have HB := Az.mk (Below.refl w.heap.size w)
 have H : (r06_Has.l0 k a1 0 a0_0 a0_1 a0_2 a0_3 l0_4 a0_5) = some (r1, r2, r3) := h
 clear h
 have H' := Az.mk H
 clear H
 go_enter Tryd.func53, Tryd.ntmps53
 go_wp2_with (first | ((with_reducible refine gate_dst (N := 2) rfl ?_); refine box_event ?hg (N := 2) ?hd (cs := #[.int .i64 a0_0, .string a0_1, .string a0_2, .int .i64 a0_3, .slice A0_4 l0_4.length c0_4, .int .i64 a0_5]) (t := 26) ?hr ?_; (case hd => rfl); (case hg => rfl); (case hr => first | (go_simp; done) | (go_simp; rfl)); intro gb588 hg w3 hbox hb; have BK588 := Az.mk (hbox); have GW588 := Az.mk (geO hg (pbE HB.out)); have GE588 := Az.mk (geO hg (pbE HB.out)); replace HB := Az.mk (pbT (by exact pbE HB.out) hb); clear hb hbox hg) | ((with_reducible refine gate_dst (N := 4) rfl ?_); refine box_event ?hg (N := 4) ?hd (cs := #[.int .i64 0, .int .i64 0]) (t := 60) ?hr ?_; (case hd => rfl); (case hg => rfl); (case hr => first | (go_simp; done) | (go_simp; rfl)); intro gb589 hg w4 hbox hb; have BK589 := Az.mk (hbox); have GW589 := Az.mk (geO hg (pbE HB.out)); have GE589 := Az.mk (geO hg (pbE HB.out)); replace HB := Az.mk (pbT (by exact pbE HB.out) hb); have NB588_589 := Az.mk (neO hg (bk BK588.out)); have NB589_588 := Az.mk (neP hg (bk BK588.out)); replace BK588 := Az.mk (bkB (bk BK588.out) hb); clear hb hbox hg))
 go_loopg [6] k (fun kq v6 w' => ∃ (x6_1 : Int) (x590000_1 : Int) (x590001_1 : Int), v6 = .int .i64 x6_1 ∧ Az (r06_Has.l0 kq a1 x6_1 a0_0 a0_1 a0_2 a0_3 l0_4 a0_5 = some (r1, r2, r3)) ∧ Az (kq ≤ k) ∧ Az (w'.heap[gb588]? = some (.cells #[.int .i64 a0_0, .string a0_1, .string a0_2, .int .i64 a0_3, (.slice A0_4 l0_4.length c0_4), .int .i64 a0_5] 26 (0, 0))) ∧ Az (w'.heap[gb589]? = some (.cells #[.int .i64 x590000_1, .int .i64 x590001_1] 60 (0, 0))) ∧ Az (Below w.heap.size w w'))
 case atStart => exact ⟨(0), (0), (0), (by first | rfl | (simp; done) | (simp [*]; done)), H', ⟨Nat.le_refl _⟩, ⟨by refine bk ?_; exact BK588.out⟩, ⟨by refine bk ?_; exact BK589.out⟩, ⟨by exact pbE HB.out⟩⟩
 case round =>
  clear H'
  try clear p2
  obtain ⟨x6_1, x590000_1, x590001_1, rfl, HA, HK1, BK588, BK589, HB⟩ := hrel
  cases gk with
  | zero => exact absurd HA.out (by simp [r06_Has.l0])
  | succ k1 =>
   have H := HA.out
   clear HA
   simp only [r06_Has.l0] at H
   by_cases c5 : x6_1 < (l0_4.length : Int)
   ·rw [if_pos c5] at H
    have c5b0 : decide (x6_1 < (l0_4.length : Int)) = true := decide_eq_true c5
    clear c5
    by_cases c6 : 0 ≤ x6_1
    ·rw [if_pos c6] at H
     have c6b0 : decide (0 ≤ x6_1) = true := decide_eq_true c6
     clear c6
     by_cases c7 : ((rd_T60 l0_4 x6_1).f1) = a1
     ·rw [if_pos c7] at H
      have c7b0 : (((rd_T60 l0_4 x6_1).f1) == a1) = true := beq_iff_eq.mpr c7
      have c7b1 : (((rd_T60 l0_4 x6_1).f1) != a1) = false := bne_eq_false_iff_eq.mpr c7
      clear c7
      simp only [Option.some.injEq, Prod.mk.injEq] at H
      obtain ⟨rfl, rfl, rfl⟩ := H
      have hnb8 := NB588_589.out
      have hnc8 := NB589_588.out
      have hcz9 := cells6 BK588.out
      have p590 : 0 ≤ (x6_1 : Int) := of_decide_eq_true (by first | (with_reducible assumption) | assumption)
      have q590 : x6_1 < (l0_4.length : Int) := of_decide_eq_true (by first | (with_reducible assumption) | assumption)
      obtain ⟨ad590, e590, hx590_0, hx590_1⟩ := at_T60 HR0_4.out x6_1 p590 q590
      cases e590
      replace hx590_0 := (HB.out.cell (World.block_lt_of_cell? w _ hx590_0)).trans hx590_0
      replace hx590_1 := (HB.out.cell (World.block_lt_of_cell? w _ hx590_1)).trans hx590_1
      replace p590 := eq_true p590
      replace q590 := eq_true q590
      have p591 : 0 ≤ (x6_1 : Int) := of_decide_eq_true (by first | (with_reducible assumption) | assumption)
      have q591 : x6_1 < (l0_4.length : Int) := of_decide_eq_true (by first | (with_reducible assumption) | assumption)
      obtain ⟨ad591, e591, hx591_0, hx591_1⟩ := at_T60 HR0_4.out x6_1 p591 q591
      obtain rfl : ad590 = ad591 := (by injection e591)
      replace hx591_0 := (HB.out.cell (World.block_lt_of_cell? w _ hx591_0)).trans hx591_0
      replace hx591_1 := (HB.out.cell (World.block_lt_of_cell? w _ hx591_1)).trans hx591_1
      replace p591 := eq_true p591
      replace q591 := eq_true q591
      have hcz10 := cells2 BK589.out
      go_wp2
      refine bodyPost_ret (results_ct rfl _ _ gb589 60 #[.int .i64 ((rd_T60 l0_4 x6_1).f0), .int .i64 ((rd_T60 l0_4 x6_1).f1)] (0, 0) _ rfl (by refine bk ?_; refine blk_put (cs := #[.int .i64 ((rd_T60 l0_4 x6_1).f0), .int .i64 x590001_1]) ?_ 1 _ rfl; refine bk ?_; refine blk_put (cs := #[.int .i64 x590000_1, .int .i64 x590001_1]) ?_ 0 _ rfl; refine bk ?_; exact BK589.out) Tryd.underlying60 rfl (by kernel_rfl)) rfl ?_
      exact ⟨by first | rfl | (simp [errW_none, errW_some] <;> rfl) | (simp [*, errW_none, errW_some] <;> rfl), by exact pbE HB.out⟩
     ·rw [if_neg c7] at H
      have c7b0 : (((rd_T60 l0_4 x6_1).f1) == a1) = false := beq_eq_false_iff_ne.mpr c7
      have c7b1 : (((rd_T60 l0_4 x6_1).f1) != a1) = true := bne_iff_ne.mpr c7
      have H' := Az.mk H
      clear H
      have hnb11 := NB588_589.out
      have hnc11 := NB589_588.out
      have hcz12 := cells6 BK588.out
      have p590 : 0 ≤ (x6_1 : Int) := of_decide_eq_true (by first | (with_reducible assumption) | assumption)
      have q590 : x6_1 < (l0_4.length : Int) := of_decide_eq_true (by first | (with_reducible assumption) | assumption)
      obtain ⟨ad590, e590, hx590_0, hx590_1⟩ := at_T60 HR0_4.out x6_1 p590 q590
      cases e590
      replace hx590_0 := (HB.out.cell (World.block_lt_of_cell? w _ hx590_0)).trans hx590_0
      replace hx590_1 := (HB.out.cell (World.block_lt_of_cell? w _ hx590_1)).trans hx590_1
      replace p590 := eq_true p590
      replace q590 := eq_true q590
      go_wp2
      go_roundg k1
      case measure => have := HK1.out; omega
      case rel => exact ⟨(wrap64 (x6_1 + 1)), (x590000_1), (x590001_1), (by first | rfl | (simp; done) | (simp [*]; done)), H', ⟨by have := HK1.out; omega⟩, ⟨by refine bk ?_; exact BK588.out⟩, ⟨by refine bk ?_; exact BK589.out⟩, ⟨by exact pbE HB.out⟩⟩
    ·rw [if_neg c6] at H
     exact absurd H (by simp)
   ·rw [if_neg c5] at H
    have c5b0 : decide (x6_1 < (l0_4.length : Int)) = false := decide_eq_false c5
    clear c5
    simp only [Option.some.injEq, Prod.mk.injEq] at H
    obtain ⟨rfl, rfl, rfl⟩ := H
    have hnb13 := NB588_589.out
    have hnc13 := NB589_588.out
    have hcz14 := cells6 BK588.out
    have hcz15 := cells2 BK589.out
    go_wp2
    refine bodyPost_ret (results_ct rfl _ _ gb589 60 #[.int .i64 0, .int .i64 0] (0, 0) _ rfl (by refine bk ?_; refine blk_put (cs := #[.int .i64 0, .int .i64 x590001_1]) ?_ 1 _ rfl; refine bk ?_; refine blk_put (cs := #[.int .i64 x590000_1, .int .i64 x590001_1]) ?_ 0 _ rfl; refine bk ?_; exact BK589.out) Tryd.underlying60 rfl (by kernel_rfl)) rfl ?_
    exact ⟨by first | rfl | (simp [errW_none, errW_some] <;> rfl) | (simp [*, errW_none, errW_some] <;> rfl), by exact pbE HB.out⟩
def r06_right.f (k : Nat) (a0_0 : Int) (a0_1 : ByteArray) (a0_2 : ByteArray) (a0_3 : Int) (l0_4 : List (S60)) (a0_5 : Int) : Option (Int × ByteArray × ByteArray × Int × (List (S60)) × Int × Int) := (r06_Is.f k a0_0 a0_1 a0_2 a0_3 l0_4 a0_5).bind fun t363 => (if t363 = true then (some (a0_0, a0_1, a0_2, a0_3, l0_4, a0_5, 0)) else (some (0, (⟨#[]⟩ : ByteArray), (⟨#[]⟩ : ByteArray), 0, ([] : List (S60)), 0, 60)))
theorem r06_right.mono : ∀ a0 a1 a2 a3 a4 a5 k, LeO (r06_right.f k a0 a1 a2 a3 a4 a5) (r06_right.f (k + 1) a0 a1 a2 a3 a4 a5) := by
 intro a0 a1 a2 a3 a4 a5 k
 unfold r06_right.f
 repeat' first
  | (with_reducible exact r06_Is.mono _ _ _ _ _ _ _)
  | (with_reducible exact LeO.refl _)
  | (with_reducible exact LeO.none _)
  | (with_reducible refine LeO.ite ?_ ?_)
  | (with_reducible refine LeO.bind ?_ (fun _ => ?_))
  | exact r06_Is.mono _ _ _ _ _ _ _
  | exact LeO.none _
  | refine LeO.ite ?_ ?_
  | refine LeO.bind ?_ (fun _ => ?_)
set_option maxHeartbeats 8000000 in
set_option maxRecDepth 100000 in
theorem r06_right.calls (k : Nat) (a0_0 : Int) (a0_1 : ByteArray) (a0_2 : ByteArray) (a0_3 : Int) (P0_4_ : Nat → Prop) (A0_4 : Option Addr) (c0_4 : Nat) (l0_4 : List (S60)) (a0_5 : Int) (r1 : Int) (r2 : ByteArray) (r3 : ByteArray) (r4 : Int) (r5 : List (S60)) (r6 : Int) (r7 : Int) (w : World) (hG : TheG w) (hs0_4 : Kd.V k60 60 w w.heap.size (fun k_ => P0_4_ k_) (.slice A0_4 l0_4.length c0_4) l0_4) (h : r06_right.f k a0_0 a0_1 a0_2 a0_3 l0_4 a0_5 = some (r1, r2, r3, r4, r5, r6, r7)) :
 Calls Tryd.prog 39 #[.agg #[.int .i64 a0_0, .string a0_1, .string a0_2, .int .i64 a0_3, .slice A0_4 l0_4.length c0_4, .int .i64 a0_5]] w fun e w' => ∃ v4_ : Value, e = .returned (.tuple #[.agg #[.int .i64 r1, .string r2, .string r3, .int .i64 r4, v4_, .int .i64 r6], .int .i64 r7]) ∧ Kd.V k60 60 w' w.heap.size (fun k_ => (P0_4_ k_ ∨ w.heap.size ≤ k_)) v4_ r5 ∧ Below w.heap.size w w' := by
 have hu26 := Tryd.underlying26
 have HO0_4 := Az.mk (show Kd.V k60 60 w w.heap.size (fun k_ => (P0_4_ k_ ∨ w.heap.size ≤ k_)) (.slice A0_4 l0_4.length c0_4) l0_4 from Kd.V_mono hs0_4 (fun k_ hk => .inl hk))
 have HB := Az.mk (Below.refl w.heap.size w)
 have H : ((r06_Is.f k a0_0 a0_1 a0_2 a0_3 l0_4 a0_5).bind fun t363 => (if t363 = true then (some (a0_0, a0_1, a0_2, a0_3, l0_4, a0_5, 0)) else (some (0, (⟨#[]⟩ : ByteArray), (⟨#[]⟩ : ByteArray), 0, ([] : List (S60)), 0, 60)))) = some (r1, r2, r3, r4, r5, r6, r7) := h
 clear h
 replace H := Option.bind_eq_some_iff.mp H
 obtain ⟨t363, A20, H⟩ := H
 replace H : (if t363 = true then (some (a0_0, a0_1, a0_2, a0_3, l0_4, a0_5, 0)) else (some (0, (⟨#[]⟩ : ByteArray), (⟨#[]⟩ : ByteArray), 0, ([] : List (S60)), 0, 60))) = some (r1, r2, r3, r4, r5, r6, r7) := H
 have A2 := Az.mk A20
 clear A20
 by_cases c3 : t363 = true
 ·subst c3
  have H1 : (some (a0_0, a0_1, a0_2, a0_3, l0_4, a0_5, 0)) = some (r1, r2, r3, r4, r5, r6, r7) := by rw [if_pos rfl] at H; exact H
  clear H
  have H := H1
  clear H1
  simp only [Option.some.injEq, Prod.mk.injEq] at H
  obtain ⟨rfl, rfl, rfl, rfl, rfl, rfl, rfl⟩ := H
  go_enter Tryd.func39, Tryd.ntmps39
  go_wp2_with (first | ((with_reducible refine gate_dst (N := 1) rfl ?_); refine box_event ?hg (N := 1) ?hd (cs := #[.int .i64 a0_0, .string a0_1, .string a0_2, .int .i64 a0_3, .slice A0_4 l0_4.length c0_4, .int .i64 a0_5]) (t := 26) ?hr ?_; (case hd => rfl); (case hg => rfl); (case hr => first | (go_simp; done) | (go_simp; rfl)); intro gb361 hg w4 hbox hb; replace HO0_4 := Az.mk (Kd.V_below (Kd.V_elderB (Kd.V_ext HO0_4.out) gb361 (Nat.le_of_eq hg.symm)) hb); have BK361 := Az.mk (hbox); have GW361 := Az.mk (geO hg (pbE HB.out)); have GE361 := Az.mk (geO hg (pbE HB.out)); replace HB := Az.mk (pbT (by exact pbE HB.out) hb); clear hb hbox hg) | ((with_reducible refine gate_dst (N := 2) rfl ?_); refine box_event ?hg (N := 2) ?hd (cs := #[.int .i64 0, .string (⟨#[]⟩ : ByteArray), .string (⟨#[]⟩ : ByteArray), .int .i64 0, .slice none 0 0, .int .i64 0]) (t := 26) ?hr ?_; (case hd => rfl); (case hg => rfl); (case hr => first | (go_simp; done) | (go_simp; rfl)); intro gb362 hg w5 hbox hb; replace HO0_4 := Az.mk (Kd.V_below (Kd.V_elderB (Kd.V_ext HO0_4.out) gb362 (Nat.le_of_eq hg.symm)) hb); have BK362 := Az.mk (hbox); have GW362 := Az.mk (geO hg (pbE HB.out)); have GE362 := Az.mk (geO hg (pbE HB.out)); replace HB := Az.mk (pbT (by exact pbE HB.out) hb); have NB361_362 := Az.mk (neO hg (bk BK361.out)); have NB362_361 := Az.mk (neP hg (bk BK361.out)); replace BK361 := Az.mk (bkB (bk BK361.out) hb); clear hb hbox hg; have hnb6 := NB361_362.out; have hnc6 := NB362_361.out; have hcz7 := cells6 BK361.out) | ((with_reducible refine gtc (f := 34) rfl ?_); refine goesL_ (some 5) rfl rfl Tryd.func34 (by kernel_rfl) rfl #[.agg #[.int .i64 a0_0, .string a0_1, .string a0_2, .int .i64 a0_3, .slice A0_4 l0_4.length c0_4, .int .i64 a0_5]] rfl (by (try simp only [List.map_toArray, List.map_cons, List.map_nil]); first | done | rfl | (simp only [List.length_drop, List.length_take]; rfl)) ?_; (with_reducible refine (r06_Is.calls k a0_0 a0_1 a0_2 a0_3 _ _ l0_4 a0_5 true _ ?side1 ?side2 ?side3 A2.out).mono ?_); (case side1 => exact hG.below (by exact pbE HB.out)); (case side2 => repeat (first | exact (Kd.V_reads' HO0_4.out).2.2 | (with_reducible refine Kd.C_alloc ?_ _) | (with_reducible refine Kd.C_drewN ?_ _) | (with_reducible refine Kd.C_drew ?_))); (case side3 => exact (Kd.V_reads' HO0_4.out).2.1); rintro e w8 ⟨rfl, hb⟩; refine ⟨_, rfl, ?_⟩; replace HO0_4 := Az.mk (Kd.V_below (Kd.V_ext HO0_4.out) hb); replace BK361 := Az.mk (bkB (bk BK361.out) hb); replace BK362 := Az.mk (bkB (bk BK362.out) hb); replace HB := Az.mk (pbT (by exact pbE HB.out) hb); (try clear hb); (try clear hb2); (try clear hk); (try clear hi); have hcz9 := cells6 BK361.out; have hcz10 := cells6 BK362.out))
  refine bodyPost_ret (results_ct rfl _ _ gb362 26 #[.int .i64 a0_0, .string a0_1, .string a0_2, .int .i64 a0_3, .slice A0_4 l0_4.length c0_4, .int .i64 a0_5] (0, 0) _ rfl (by refine bk ?_; refine blk_put (cs := #[.int .i64 a0_0, .string a0_1, .string a0_2, .int .i64 a0_3, .slice A0_4 l0_4.length c0_4, .int .i64 0]) ?_ 5 _ rfl; refine bk ?_; refine blk_put (cs := #[.int .i64 a0_0, .string a0_1, .string a0_2, .int .i64 a0_3, .slice none 0 0, .int .i64 0]) ?_ 4 _ rfl; refine bk ?_; refine blk_put (cs := #[.int .i64 a0_0, .string a0_1, .string a0_2, .int .i64 0, .slice none 0 0, .int .i64 0]) ?_ 3 _ rfl; refine bk ?_; refine blk_put (cs := #[.int .i64 a0_0, .string a0_1, .string (⟨#[]⟩ : ByteArray), .int .i64 0, .slice none 0 0, .int .i64 0]) ?_ 2 _ rfl; refine bk ?_; refine blk_put (cs := #[.int .i64 a0_0, .string (⟨#[]⟩ : ByteArray), .string (⟨#[]⟩ : ByteArray), .int .i64 0, .slice none 0 0, .int .i64 0]) ?_ 1 _ rfl; refine bk ?_; refine blk_put (cs := #[.int .i64 0, .string (⟨#[]⟩ : ByteArray), .string (⟨#[]⟩ : ByteArray), .int .i64 0, .slice none 0 0, .int .i64 0]) ?_ 0 _ rfl; refine bk ?_; exact BK362.out) Tryd.underlying26 rfl (by kernel_rfl)) rfl ?_
  exact ⟨_, by first | rfl | (simp [errW_none, errW_some] <;> rfl) | (simp [*, errW_none, errW_some] <;> rfl), by (with_reducible repeat (first | apply Kd.V_alloc | apply Kd.V_drewN | apply Kd.V_drew)); exact Kd.V_mono (Kd.V_off (g := gb362) (fun _ hk => hk.2) (Kd.V_mono HO0_4.out (fun k_ hk => (⟨hk, hk.2⟩ : _ ∧ k_ ≠ gb362)))) (fun _ hk => hk.1.1.1), by exact pbE HB.out⟩
 ·replace c3 := Bool.eq_false_iff.mpr c3
  subst c3
  have H1 : (some (0, (⟨#[]⟩ : ByteArray), (⟨#[]⟩ : ByteArray), 0, ([] : List (S60)), 0, 60)) = some (r1, r2, r3, r4, r5, r6, r7) := by rw [if_neg (show ¬ (false = true) by decide)] at H; exact H
  clear H
  have H := H1
  clear H1
  simp only [Option.some.injEq, Prod.mk.injEq] at H
  obtain ⟨rfl, rfl, rfl, rfl, rfl, rfl, rfl⟩ := H
  go_enter Tryd.func39, Tryd.ntmps39
  go_wp2_with (first | ((with_reducible refine gate_dst (N := 1) rfl ?_); refine box_event ?hg (N := 1) ?hd (cs := #[.int .i64 a0_0, .string a0_1, .string a0_2, .int .i64 a0_3, .slice A0_4 l0_4.length c0_4, .int .i64 a0_5]) (t := 26) ?hr ?_; (case hd => rfl); (case hg => rfl); (case hr => first | (go_simp; done) | (go_simp; rfl)); intro gb361 hg w11 hbox hb; replace HO0_4 := Az.mk (Kd.V_below (Kd.V_elderB (Kd.V_ext HO0_4.out) gb361 (Nat.le_of_eq hg.symm)) hb); have BK361 := Az.mk (hbox); have GW361 := Az.mk (geO hg (pbE HB.out)); have GE361 := Az.mk (geO hg (pbE HB.out)); replace HB := Az.mk (pbT (by exact pbE HB.out) hb); clear hb hbox hg) | ((with_reducible refine gate_dst (N := 2) rfl ?_); refine box_event ?hg (N := 2) ?hd (cs := #[.int .i64 0, .string (⟨#[]⟩ : ByteArray), .string (⟨#[]⟩ : ByteArray), .int .i64 0, .slice none 0 0, .int .i64 0]) (t := 26) ?hr ?_; (case hd => rfl); (case hg => rfl); (case hr => first | (go_simp; done) | (go_simp; rfl)); intro gb362 hg w12 hbox hb; replace HO0_4 := Az.mk (Kd.V_below (Kd.V_elderB (Kd.V_ext HO0_4.out) gb362 (Nat.le_of_eq hg.symm)) hb); have BK362 := Az.mk (hbox); have GW362 := Az.mk (geO hg (pbE HB.out)); have GE362 := Az.mk (geO hg (pbE HB.out)); replace HB := Az.mk (pbT (by exact pbE HB.out) hb); have NB361_362 := Az.mk (neO hg (bk BK361.out)); have NB362_361 := Az.mk (neP hg (bk BK361.out)); replace BK361 := Az.mk (bkB (bk BK361.out) hb); clear hb hbox hg; have hnb13 := NB361_362.out; have hnc13 := NB362_361.out; have hcz14 := cells6 BK361.out) | ((with_reducible refine gtc (f := 34) rfl ?_); refine goesL_ (some 5) rfl rfl Tryd.func34 (by kernel_rfl) rfl #[.agg #[.int .i64 a0_0, .string a0_1, .string a0_2, .int .i64 a0_3, .slice A0_4 l0_4.length c0_4, .int .i64 a0_5]] rfl (by (try simp only [List.map_toArray, List.map_cons, List.map_nil]); first | done | rfl | (simp only [List.length_drop, List.length_take]; rfl)) ?_; (with_reducible refine (r06_Is.calls k a0_0 a0_1 a0_2 a0_3 _ _ l0_4 a0_5 false _ ?side1 ?side2 ?side3 A2.out).mono ?_); (case side1 => exact hG.below (by exact pbE HB.out)); (case side2 => repeat (first | exact (Kd.V_reads' HO0_4.out).2.2 | (with_reducible refine Kd.C_alloc ?_ _) | (with_reducible refine Kd.C_drewN ?_ _) | (with_reducible refine Kd.C_drew ?_))); (case side3 => exact (Kd.V_reads' HO0_4.out).2.1); rintro e w15 ⟨rfl, hb⟩; refine ⟨_, rfl, ?_⟩; replace HO0_4 := Az.mk (Kd.V_below (Kd.V_ext HO0_4.out) hb); replace BK361 := Az.mk (bkB (bk BK361.out) hb); replace BK362 := Az.mk (bkB (bk BK362.out) hb); replace HB := Az.mk (pbT (by exact pbE HB.out) hb); (try clear hb); (try clear hb2); (try clear hk); (try clear hi); have hcz16 := cells6 BK362.out))
  refine bodyPost_ret (results_ct rfl _ _ gb362 26 #[.int .i64 0, .string (⟨#[]⟩ : ByteArray), .string (⟨#[]⟩ : ByteArray), .int .i64 0, .slice none 0 0, .int .i64 0] (0, 0) _ rfl (by refine bk ?_; refine blk_put (cs := #[.int .i64 0, .string (⟨#[]⟩ : ByteArray), .string (⟨#[]⟩ : ByteArray), .int .i64 0, .slice none 0 0, .int .i64 0]) ?_ 5 _ rfl; refine bk ?_; refine blk_put (cs := #[.int .i64 0, .string (⟨#[]⟩ : ByteArray), .string (⟨#[]⟩ : ByteArray), .int .i64 0, .slice none 0 0, .int .i64 0]) ?_ 4 _ rfl; refine bk ?_; refine blk_put (cs := #[.int .i64 0, .string (⟨#[]⟩ : ByteArray), .string (⟨#[]⟩ : ByteArray), .int .i64 0, .slice none 0 0, .int .i64 0]) ?_ 3 _ rfl; refine bk ?_; refine blk_put (cs := #[.int .i64 0, .string (⟨#[]⟩ : ByteArray), .string (⟨#[]⟩ : ByteArray), .int .i64 0, .slice none 0 0, .int .i64 0]) ?_ 2 _ rfl; refine bk ?_; refine blk_put (cs := #[.int .i64 0, .string (⟨#[]⟩ : ByteArray), .string (⟨#[]⟩ : ByteArray), .int .i64 0, .slice none 0 0, .int .i64 0]) ?_ 1 _ rfl; refine bk ?_; refine blk_put (cs := #[.int .i64 0, .string (⟨#[]⟩ : ByteArray), .string (⟨#[]⟩ : ByteArray), .int .i64 0, .slice none 0 0, .int .i64 0]) ?_ 0 _ rfl; refine bk ?_; exact BK362.out) Tryd.underlying26 rfl (by kernel_rfl)) rfl ?_
  exact ⟨_, by first | rfl | (simp [errW_none, errW_some] <;> rfl) | (simp [*, errW_none, errW_some] <;> rfl), Kd.V_nil _ _ _ _ _, by exact pbE HB.out⟩
def r06_First.l0 : Nat → List Int → Int → Int → ByteArray → ByteArray → Int → List (S60) → Int → Option (Int × ByteArray × ByteArray × Int × (List (S60)) × Int × Int)
 | 0, _, _, _, _, _, _, _, _ => none
 | k + 1, x0, x5, x523000, x523001, x523002, x523003, x523004, x523005 => if x5 < (x0.length : Int) then (if 0 ≤ x5 then (if x523004.length < 8796093022208 then (r06_First.l0 k x0 (wrap64 (x5 + 1)) x523000 x523001 x523002 x523003 (x523004 ++ [(⟨rd x0 x5, wrap64 (x5 + 1)⟩ : S60)]) x523005) else (none)) else (none)) else ((r06_right.f k x523000 x523001 x523002 x523003 x523004 x523005).bind fun bt527 => (some (bt527.1, bt527.2.1, bt527.2.2.1, bt527.2.2.2.1, bt527.2.2.2.2.1, bt527.2.2.2.2.2.1, bt527.2.2.2.2.2.2)))
def r06_First.f (k : Nat) (l0 : List Int) : Option (Int × ByteArray × ByteArray × Int × (List (S60)) × Int × Int) := r06_First.l0 k l0 0 1 (⟨#[]⟩ : ByteArray) (⟨#[]⟩ : ByteArray) 1 ([] : List (S60)) (wrap64 ((l0.length : Int) + 1))
theorem r06_First.mono_l : ∀ k, (∀ y0 y1 y2 y3 y4 y5 y6 y7, LeO (r06_First.l0 k y0 y1 y2 y3 y4 y5 y6 y7) (r06_First.l0 (k + 1) y0 y1 y2 y3 y4 y5 y6 y7))
 | 0 => fun _ _ _ _ _ _ _ _ r h => by simp [r06_First.l0] at h
 | k + 1 => by
  have ih0 := r06_First.mono_l k
  ·intro y0 y1 y2 y3 y4 y5 y6 y7
   unfold r06_First.l0
   repeat' first
   | (with_reducible exact ih0 _ _ _ _ _ _ _ _)
   | (with_reducible exact r06_right.mono _ _ _ _ _ _ _)
   | (with_reducible exact LeO.refl _)
   | (with_reducible exact LeO.none _)
   | (with_reducible refine LeO.ite ?_ ?_)
   | (with_reducible refine LeO.bind ?_ (fun _ => ?_))
   | exact ih0 _ _ _ _ _ _ _ _
   | exact r06_right.mono _ _ _ _ _ _ _
   | exact LeO.none _
   | refine LeO.ite ?_ ?_
   | refine LeO.bind ?_ (fun _ => ?_)
theorem r06_First.mono : ∀ a0 k, LeO (r06_First.f k a0) (r06_First.f (k + 1) a0) := by
 intro a0 k
 have ih0 := r06_First.mono_l k
 unfold r06_First.f
 repeat' first
  | (with_reducible exact ih0 _ _ _ _ _ _ _ _)
  | (with_reducible exact r06_right.mono _ _ _ _ _ _ _)
  | (with_reducible exact LeO.refl _)
  | (with_reducible exact LeO.none _)
  | (with_reducible refine LeO.ite ?_ ?_)
  | (with_reducible refine LeO.bind ?_ (fun _ => ?_))
  | exact ih0 _ _ _ _ _ _ _ _
  | exact r06_right.mono _ _ _ _ _ _ _
  | exact LeO.none _
  | refine LeO.ite ?_ ?_
  | refine LeO.bind ?_ (fun _ => ?_)
def r06_First.T5 : Bool × List (List Nat × List Nat) := (true, [([], []), ([0], [0]), ([], []), ([], []), ([2, 3], [2, 3]), ([4], [4]), ([], []), ([6], [6]), ([5, 7], [5, 7]), ([8], [8]), ([1, 9], [1, 9]), ([0, 1, 2, 3, 4, 5, 6, 7, 8, 9, 10], []), ([11, 10, 10, 0, 1, 2, 3, 4, 5, 6, 7, 8, 9, 10], [10, 11])])
def r06_First.B5 : List Nat := [0, 1, 0, 0, 12, 28, 0, 64, 252, 508, 1023, 2047, 4095]
theorem r06_First.tab5 : rtab .any (opsOf Tryd.f24 5) = r06_First.T5 := by kernel_rfl
theorem r06_First.bits5 : waitsOk r06_First.T5.2 r06_First.B5 = true := by kernel_rfl
set_option maxHeartbeats 8000000 in
set_option maxRecDepth 100000 in
theorem r06_First.calls (k : Nat) (A0 : Option Addr) (c0 : Nat) (l0 : List Int) (r1 : Int) (r2 : ByteArray) (r3 : ByteArray) (r4 : Int) (r5 : List (S60)) (r6 : Int) (r7 : Int) (w : World) (hG : TheG w) (hr0 : Kd.C (Kd.int .i64) w A0 l0.length l0) (hc0 : l0.length ≤ c0) (h : r06_First.f k l0 = some (r1, r2, r3, r4, r5, r6, r7)) :
 Calls Tryd.prog 24 #[.slice A0 l0.length c0] w fun e w' => ∃ v4_ : Value, e = .returned (.tuple #[.agg #[.int .i64 r1, .string r2, .string r3, .int .i64 r4, v4_, .int .i64 r6], .int .i64 r7]) ∧ Kd.V k60 60 w' w.heap.size (fun k_ => (w.heap.size ≤ k_)) v4_ r5 ∧ Below w.heap.size w w' := by
 have hu26 := Tryd.underlying26
 have hu60 := Tryd.underlying60
 have HR0 := Az.mk hr0
 have HC0 := Az.mk hc0
 clear hr0 hc0
 have HB := Az.mk (Below.refl w.heap.size w)
 have H : (r06_First.l0 k l0 0 1 (⟨#[]⟩ : ByteArray) (⟨#[]⟩ : ByteArray) 1 ([] : List (S60)) (wrap64 ((l0.length : Int) + 1))) = some (r1, r2, r3, r4, r5, r6, r7) := h
 clear h
 have H' := Az.mk H
 clear H
 go_enter Tryd.func24, Tryd.ntmps24
 go_wp2_with (first | ((with_reducible refine gate_dst (N := 2) rfl ?_); refine box_event ?hg (N := 2) ?hd (cs := #[.int .i64 0, .string (⟨#[]⟩ : ByteArray), .string (⟨#[]⟩ : ByteArray), .int .i64 0, .slice none 0 0, .int .i64 0]) (t := 26) ?hr ?_; (case hd => rfl); (case hg => rfl); (case hr => first | (go_simp; done) | (go_simp; rfl)); intro gb521 hg w2 hbox hb; have BK521 := Az.mk (hbox); have GW521 := Az.mk (geO hg (pbE HB.out)); have GE521 := Az.mk (geO hg (pbE HB.out)); replace HB := Az.mk (pbT (by exact pbE HB.out) hb); clear hb hbox hg) | ((with_reducible refine gate_dst (N := 4) rfl ?_); refine box_event ?hg (N := 4) ?hd (cs := #[.int .i64 0, .string (⟨#[]⟩ : ByteArray), .string (⟨#[]⟩ : ByteArray), .int .i64 0, .slice none 0 0, .int .i64 0]) (t := 26) ?hr ?_; (case hd => rfl); (case hg => rfl); (case hr => first | (go_simp; done) | (go_simp; rfl)); intro gb522 hg w3 hbox hb; have BK522 := Az.mk (hbox); have GW522 := Az.mk (geO hg (pbE HB.out)); have GE522 := Az.mk (geO hg (pbE HB.out)); replace HB := Az.mk (pbT (by exact pbE HB.out) hb); have NB521_522 := Az.mk (neO hg (bk BK521.out)); have NB522_521 := Az.mk (neP hg (bk BK521.out)); replace BK521 := Az.mk (bkB (bk BK521.out) hb); clear hb hbox hg; have hnb4 := NB522_521.out; have hnc4 := NB521_522.out; have hcz5 := cells6 BK522.out))
 go_loopg [5] k (fun kq v5 w' => ∃ (x5_1 : Int) (x523004_1 : List (S60)) (u523004 : Value), v5 = .int .i64 x5_1 ∧ Az (r06_First.l0 kq l0 x5_1 1 (⟨#[]⟩ : ByteArray) (⟨#[]⟩ : ByteArray) 1 x523004_1 (wrap64 ((l0.length : Int) + 1)) = some (r1, r2, r3, r4, r5, r6, r7)) ∧ Az (kq ≤ k) ∧ Az (Kd.R k60 60 w' w.heap.size (fun k_ => (w.heap.size ≤ k_)) u523004 x523004_1) ∧ Az (w'.heap[gb521]? = some (.cells #[.int .i64 0, .string (⟨#[]⟩ : ByteArray), .string (⟨#[]⟩ : ByteArray), .int .i64 0, (.slice none 0 0), .int .i64 0] 26 (0, 0))) ∧ Az (w'.heap[gb522]? = some (.cells #[.int .i64 1, .string (⟨#[]⟩ : ByteArray), .string (⟨#[]⟩ : ByteArray), .int .i64 1, u523004, .int .i64 (wrap64 ((l0.length : Int) + 1))] 26 (0, 0))) ∧ Az (Below w.heap.size w w'))
 case atStart => exact ⟨(0), (([] : List (S60))), (.slice none 0 0), (by first | rfl | (simp; done) | (simp [*]; done)), H', ⟨Nat.le_refl _⟩, ⟨by first | exact Kd.R_nil _ _ _ _ _ | exact Kd.N_nil _ _ _ _ _ | exact Kd.V_nil _ _ _ _ _ | exact Kd.Q_nil _ _ _ _ _ | exact Kd.S_nil _ _ _ _ _⟩, ⟨by exact bf BK521.out⟩, ⟨by refine bk ?_; refine blk_put (cs := #[.int .i64 1, .string (⟨#[]⟩ : ByteArray), .string (⟨#[]⟩ : ByteArray), .int .i64 1, .slice none 0 0, .int .i64 0]) ?_ 5 _ rfl; refine bk ?_; refine blk_put (cs := #[.int .i64 1, .string (⟨#[]⟩ : ByteArray), .string (⟨#[]⟩ : ByteArray), .int .i64 1, .slice none 0 0, .int .i64 0]) ?_ 4 _ rfl; refine bk ?_; refine blk_put (cs := #[.int .i64 1, .string (⟨#[]⟩ : ByteArray), .string (⟨#[]⟩ : ByteArray), .int .i64 0, .slice none 0 0, .int .i64 0]) ?_ 3 _ rfl; refine bk ?_; refine blk_put (cs := #[.int .i64 1, .string (⟨#[]⟩ : ByteArray), .string (⟨#[]⟩ : ByteArray), .int .i64 0, .slice none 0 0, .int .i64 0]) ?_ 2 _ rfl; refine bk ?_; refine blk_put (cs := #[.int .i64 1, .string (⟨#[]⟩ : ByteArray), .string (⟨#[]⟩ : ByteArray), .int .i64 0, .slice none 0 0, .int .i64 0]) ?_ 1 _ rfl; refine bk ?_; refine blk_put (cs := #[.int .i64 0, .string (⟨#[]⟩ : ByteArray), .string (⟨#[]⟩ : ByteArray), .int .i64 0, .slice none 0 0, .int .i64 0]) ?_ 0 _ rfl; refine bk ?_; exact BK522.out⟩, ⟨by exact pbE HB.out⟩⟩
 case round =>
  clear H'
  try clear c2
  try clear p2
  try clear c4
  try clear hcz5
  obtain ⟨x5_1, x523004_1, u523004, rfl, HA, HK1, HO_523004, BK521, BK522, HB⟩ := hrel
  cases gk with
  | zero => exact absurd HA.out (by simp [r06_First.l0])
  | succ k1 =>
   have H := HA.out
   clear HA
   simp only [r06_First.l0] at H
   by_cases c6 : x5_1 < (l0.length : Int)
   ·rw [if_pos c6] at H
    have c6b0 : decide (x5_1 < (l0.length : Int)) = true := decide_eq_true c6
    clear c6
    by_cases c7 : 0 ≤ x5_1
    ·rw [if_pos c7] at H
     have c7b0 : decide (0 ≤ x5_1) = true := decide_eq_true c7
     clear c7
     by_cases c8 : x523004_1.length < 8796093022208
     ·rw [if_pos c8] at H
      have LMc8 := Az.mk c8
      clear c8
      obtain ⟨y524, hy524⟩ : ∃ y_ : List (S60), y_ = (x523004_1 ++ [(⟨rd l0 x5_1, wrap64 (x5_1 + 1)⟩ : S60)]) := ⟨_, rfl⟩
      replace H : (r06_First.l0 k1 l0 (wrap64 (x5_1 + 1)) 1 (⟨#[]⟩ : ByteArray) (⟨#[]⟩ : ByteArray) 1 y524 (wrap64 ((l0.length : Int) + 1))) = some (r1, r2, r3, r4, r5, r6, r7) := by first | (rw [hy524]; with_reducible exact H) | (have H2_ := (Option.bind_some _ _).symm.trans H; rw [hy524]; with_reducible exact H2_) | (have H2_ := (Option.bind_some _ _).symm.trans H; with_reducible exact H2_) | with_reducible exact H | (rw [hy524]; exact H) | exact H
      have Ny524 := Az.mk hy524
      clear hy524
      have H' := Az.mk H
      clear H
      try go_wp2
      replace HO_523004 := Az.mk (Kd.R_drew HO_523004.out)
      replace BK521 := Az.mk (bkD BK521.out)
      replace BK522 := Az.mk (bkD BK522.out)
      replace HB := Az.mk (pb1 HB.out)
      have p523 : 0 ≤ (x5_1 : Int) := of_decide_eq_true (by first | (with_reducible assumption) | assumption)
      have q523 : x5_1 < (l0.length : Int) := of_decide_eq_true (by first | (with_reducible assumption) | assumption)
      obtain ⟨ad523, e523, hx523_0⟩ := Kd.at_int HR0.out x5_1 p523 q523
      have hw523_0 := hx523_0
      cases e523
      replace hx523_0 := (HB.out.cell (World.block_lt_of_cell? w _ hx523_0)).trans hx523_0
      replace p523 := eq_true p523
      replace q523 := eq_true q523
      refine start_ (n := 13) (S := fun w' => w'.cell? ⟨gb522, 0, none⟩ = some (.int .i64 1) ∧ w'.cell? ⟨gb522, 1, none⟩ = some (.string (⟨#[]⟩ : ByteArray)) ∧ w'.cell? ⟨gb522, 2, none⟩ = some (.string (⟨#[]⟩ : ByteArray)) ∧ w'.cell? ⟨gb522, 3, none⟩ = some (.int .i64 1) ∧ w'.cell? ⟨gb522, 4, none⟩ = some (u523004) ∧ w'.cell? ⟨gb522, 5, none⟩ = some (.int .i64 (wrap64 ((l0.length : Int) + 1))) ∧ w'.cell? (ad523.add (x5_1).toNat) = some (.int .i64 (rd l0 x5_1))) (ds := [12]) #[false, false, false, false, false, false, false, false, false, false, false, false, false] (by kernel_rfl) rfl rfl ⟨(bkC BK522.out 0).trans rfl, (bkC BK522.out 1).trans rfl, (bkC BK522.out 2).trans rfl, (bkC BK522.out 3).trans rfl, (bkC BK522.out 4).trans rfl, (bkC BK522.out 5).trans rfl, ((HB.out.cell (World.block_lt_of_cell? w _ hw523_0)).trans hw523_0)⟩ (fun hHeld => ?_); refine with_tabW r06_First.tab5 r06_First.bits5 (fun HT_ HW_ => ?_)
      generalize wr.drew = w9 at HO_523004 BK521 BK522 HB hx523_0 hHeld ⊢
      refine pure_ (i := 0) (N := some 16) (v := ?_) (a' := ?_) #[true, false, false, false, false, false, false, false, false, false, false, false, false] rfl rfl (any_of HT_.out (by kernel_rfl)) (fun _ _ _ h => h) (Or.inl ⟨by rfl, ?_⟩) ?_ ?_
      rotate_left
      ·intro w'
       go_simp
       with_reducible rfl
      rotate_left
      ·simp only [Act.put, List.setIfInBounds_toArray, List.set_cons_zero, List.set_cons_succ, i64_w, i32_w]
       rfl
      refine pure_ (i := 2) (N := some 18) (v := ?_) (a' := ?_) #[true, false, true, false, false, false, false, false, false, false, false, false, false] rfl rfl (any_of HT_.out (by kernel_rfl)) (fun _ _ _ h => h) (Or.inl ⟨by rfl, ?_⟩) ?_ ?_
      rotate_left
      ·intro w'
       go_simp
       with_reducible rfl
      rotate_left
      ·simp only [Act.put, List.setIfInBounds_toArray, List.set_cons_zero, List.set_cons_succ, i64_w, i32_w]
       rfl
      refine pure_ (i := 3) (N := some 19) (v := ?_) (a' := ?_) #[true, false, true, true, false, false, false, false, false, false, false, false, false] rfl rfl (any_of HT_.out (by kernel_rfl)) (fun _ _ _ h => h) (Or.inl ⟨by rfl, ?_⟩) ?_ ?_
      rotate_left
      ·intro w'
       go_simp
       with_reducible rfl
      rotate_left
      ·simp only [Act.put, List.setIfInBounds_toArray, List.set_cons_zero, List.set_cons_succ, i64_w, i32_w]
       rfl
      refine pure_ (i := 4) (N := some 20) (v := ?_) (a' := ?_) #[true, false, true, true, true, false, false, false, false, false, false, false, false] rfl rfl (any_of HT_.out (by kernel_rfl)) (fun _ _ _ h => h) (Or.inl ⟨by rfl, ?_⟩) ?_ ?_
      rotate_left
      ·intro w'
       go_simp
       with_reducible rfl
      rotate_left
      ·simp only [Act.put, List.setIfInBounds_toArray, List.set_cons_zero, List.set_cons_succ, i64_w, i32_w]
       rfl
      refine pure_ (i := 6) (N := some 22) (v := ?_) (a' := ?_) #[true, false, true, true, true, false, true, false, false, false, false, false, false] rfl rfl (any_of HT_.out (by kernel_rfl)) (fun _ _ _ h => h) (Or.inl ⟨by rfl, ?_⟩) ?_ ?_
      rotate_left
      ·intro w'
       go_simp
       with_reducible rfl
      rotate_left
      ·simp only [Act.put, List.setIfInBounds_toArray, List.set_cons_zero, List.set_cons_succ, i64_w, i32_w]
       rfl
      refine pure_ (i := 7) (N := some 23) (v := ?_) (a' := ?_) #[true, false, true, true, true, false, true, true, false, false, false, false, false] rfl rfl (any_of HT_.out (by kernel_rfl)) (fun _ _ _ h => h) (Or.inl ⟨by rfl, ?_⟩) ?_ ?_
      rotate_left
      ·intro w'
       go_simp
       with_reducible rfl
      rotate_left
      ·simp only [Act.put, List.setIfInBounds_toArray, List.set_cons_zero, List.set_cons_succ, i64_w, i32_w]
       rfl
      refine take_ (i := 1) (N := some 17) (v := ?_) (a' := ?_) #[true, true, true, true, true, false, true, true, false, false, false, false, false] rfl rfl (take_ofW HT_.out HW_.out (by kernel_rfl)) (fun _ _ _ h => h) (Or.inl ⟨by rfl, ?_⟩) hHeld ?_ ?_
      rotate_left
      ·rintro w' ⟨s0, s1, s2, s3, s4, s5, s6⟩
       go_simp
       with_reducible rfl
      rotate_left
      ·simp only [Act.put, List.setIfInBounds_toArray, List.set_cons_zero, List.set_cons_succ, i64_w, i32_w]
       rfl
      refine take_ (i := 5) (N := some 21) (v := ?_) (a' := ?_) #[true, true, true, true, true, true, true, true, false, false, false, false, false] rfl rfl (take_ofW HT_.out HW_.out (by kernel_rfl)) (fun _ _ _ h => h) (Or.inl ⟨by rfl, ?_⟩) hHeld ?_ ?_
      rotate_left
      ·rintro w' ⟨s0, s1, s2, s3, s4, s5, s6⟩
       go_simp
       with_reducible rfl
      rotate_left
      ·simp only [Act.put, List.setIfInBounds_toArray, List.set_cons_zero, List.set_cons_succ, i64_w, i32_w]
       rfl
      refine pure_ (i := 8) (N := some 24) (v := ?_) (a' := ?_) #[true, true, true, true, true, true, true, true, true, false, false, false, false] rfl rfl (any_of HT_.out (by kernel_rfl)) (fun _ _ _ h => h) (Or.inl ⟨by rfl, ?_⟩) ?_ ?_
      rotate_left
      ·intro w'
       go_simp
       with_reducible rfl
      rotate_left
      ·simp only [Act.put, List.setIfInBounds_toArray, List.set_cons_zero, List.set_cons_succ, i64_w, i32_w]
       rfl
      refine one_ (i := 9) (N := some 25) #[true, true, true, true, true, true, true, true, true, true, false, false, false] rfl rfl (one_of HT_.out (by kernel_rfl)) (by decide) (fun K hK => ?_)
      refine value_ (w1 := ?_) (v := ?_) (by rfl) rfl ?_ ?_
      rotate_left 2
      ·go_simp
       constructor
       ·rfl
       ·rfl
      refine hK.out _ _ ⟨(bkC (bkA BK522.out _) 0).trans rfl, (bkC (bkA BK522.out _) 1).trans rfl, (bkC (bkA BK522.out _) 2).trans rfl, (bkC (bkA BK522.out _) 3).trans rfl, (bkC (bkA BK522.out _) 4).trans rfl, (bkC (bkA BK522.out _) 5).trans rfl, (World.cell?_alloc_lt _ _ _ (World.block_lt_of_cell? _ _ (((HB.out.cell (World.block_lt_of_cell? w _ hw523_0)).trans hw523_0)))).trans (((HB.out.cell (World.block_lt_of_cell? w _ hw523_0)).trans hw523_0))⟩ (fun hHeld => ?_)
      clear hK K
      refine norm_ (a' := ?_) ?_ ?_
      rotate_left
      ·show Act.put _ (some 25) _ = _
       simp only [Act.put, List.setIfInBounds_toArray, List.set_cons_zero, List.set_cons_succ, i64_w, i32_w]
       rfl
      refine one_ (i := 10) (N := some 26) #[true, true, true, true, true, true, true, true, true, true, true, false, false] rfl rfl (one_of HT_.out (by kernel_rfl)) (by decide) (fun K hK => ?_)
      refine Kd.R_append_step k60 (w0 := w) w.heap.size (by rfl) (.tmp 17) (.tmp 25) 24 60 (.agg #[(.int .i64 0), (.int .i64 0)]) 16 rfl Tryd.underlying24 info60 rfl (by decide) (by omega) u523004 x523004_1 (⟨rd l0 x5_1, wrap64 (x5_1 + 1)⟩ : S60) [.int .i64 (rd l0 x5_1), .int .i64 (wrap64 (x5_1 + 1))] (fun k_ => (w.heap.size ≤ k_)) (fun _ => False) rfl rfl ?aP (fun _ hk => hk.elim) ?aF ?aO ?aB ?aS ?aL ?_
      (case aP => exact k60_mkM _ _ _ (⟨rd l0 x5_1, wrap64 (x5_1 + 1)⟩ : S60))
      (case aB => exact (by exact pbE HB.out))
      (case aF => exact (fun k_ hk => (Nat.le_trans (pbZ (by exact pbE HB.out)) hk)))
      (case aO => exact (Kd.R_ext HO_523004.out))
      (case aS => exact (pbZ (by exact pbE HB.out)))
      (case aL => have := LMc8.out; omega)
      intro v525 w10 ho hb hg hat
      rw [← Ny524.out] at ho
      replace BK521 := Az.mk (blk_grown (bk BK521.out) hg (Kd.R_ne HO_523004.out BK521.out (by decide)))
      replace BK522 := Az.mk (blk_grown (bk BK522.out) hg (Kd.R_ne HO_523004.out BK522.out (by decide)))
      replace HB := Az.mk (hb)
      have HO526 := Az.mk (ho)
      clear HO_523004
      clear ho hb hg hat
      obtain ⟨Ao11, co11, eo11⟩ := Kd.R_slice HO526.out
      (first | subst eo11 | (injection eo11 with f1_ f2_ f3_; have f4_ := f1_.symm; have f5_ := f3_.symm; clear f1_ f2_ f3_; subst f4_; subst f5_))
      refine hK.out _ _ ⟨(bkC BK522.out 0).trans rfl, (bkC BK522.out 1).trans rfl, (bkC BK522.out 2).trans rfl, (bkC BK522.out 3).trans rfl, (bkC BK522.out 4).trans rfl, (bkC BK522.out 5).trans rfl, ((HB.out.cell (World.block_lt_of_cell? w _ hw523_0)).trans hw523_0)⟩ (fun hHeld => ?_)
      clear hK K
      refine norm_ (a' := ?_) ?_ ?_
      rotate_left
      ·show Act.put _ (some 26) _ = _
       simp only [Act.put, List.setIfInBounds_toArray, List.set_cons_zero, List.set_cons_succ, i64_w, i32_w]
       rfl
      refine pure_ (i := 11) (N := some 27) (v := ?_) (a' := ?_) #[true, true, true, true, true, true, true, true, true, true, true, true, false] rfl rfl (any_of HT_.out (by kernel_rfl)) (fun _ _ _ h => h) (Or.inl ⟨by rfl, ?_⟩) ?_ ?_
      rotate_left
      ·intro w'
       go_simp
       with_reducible rfl
      rotate_left
      ·simp only [Act.put, List.setIfInBounds_toArray, List.set_cons_zero, List.set_cons_succ, i64_w, i32_w]
       rfl
      refine last_ (i := 12) (N := none) #[true, true, true, true, true, true, true, true, true, true, true, true, true] rfl rfl (one_of HT_.out (by kernel_rfl)) (by decide) (fun K hK => ?_)
      have hs12 : w10.cell? ⟨gb522, 4, none⟩ = some (u523004) := (bkC BK522.out 4).trans rfl
      have hfs12 := bkF BK522.out 4
      have hns12_0 := NB521_522.out
      have hms12_0 := NB522_521.out
      refine skip_ (w1 := ?_) (by rfl) rfl ?_ ?_
      rotate_left
      ·go_simp
       rfl
      refine hK.out _ _ ?_
      clear hK K
      refine done_ (done_of HT_.out (by kernel_rfl)) ?_
      try go_wp2
      go_roundg k1
      case measure => have := HK1.out; omega
      case rel => exact ⟨(wrap64 (x5_1 + 1)), (y524), (.slice Ao11 y524.length co11), (by first | rfl | (simp; done) | (simp [*]; done)), H', ⟨by have := HK1.out; omega⟩, ⟨by (with_reducible repeat (first | apply Kd.R_alloc | apply Kd.R_drewN | apply Kd.R_drew)); exact Kd.R_mono (Kd.R_far (p := ⟨gb522, 4, none⟩) (Kd.R_types HO526.out BK522.out (by decide)) (fun _ hk => hk.2) (.slice Ao11 y524.length co11)) (fun _ hk => hk.1)⟩, ⟨by exact bf BK521.out⟩, ⟨by refine bk ?_; refine blk_put (cs := #[.int .i64 1, .string (⟨#[]⟩ : ByteArray), .string (⟨#[]⟩ : ByteArray), .int .i64 1, u523004, .int .i64 (wrap64 ((l0.length : Int) + 1))]) ?_ 4 _ rfl; refine bk ?_; exact BK522.out⟩, ⟨by exact pbE HB.out⟩⟩
     ·rw [if_neg c8] at H
      exact absurd H (by simp)
    ·rw [if_neg c7] at H
     exact absurd H (by simp)
   ·rw [if_neg c6] at H
    have c6b0 : decide (x5_1 < (l0.length : Int)) = false := decide_eq_false c6
    clear c6
    replace H := Option.bind_eq_some_iff.mp H
    obtain ⟨⟨t527, t528, t529, t530, t531, t534, t535⟩, A130, H⟩ := H
    replace H : (some (t527, t528, t529, t530, t531, t534, t535)) = some (r1, r2, r3, r4, r5, r6, r7) := H
    have A13 := Az.mk A130
    clear A130
    simp only [Option.some.injEq, Prod.mk.injEq] at H
    obtain ⟨rfl, rfl, rfl, rfl, rfl, rfl, rfl⟩ := H
    have hnb14 := NB522_521.out
    have hnc14 := NB521_522.out
    have hcz15 := cells6 BK522.out
    obtain ⟨Ao16, co16, eo16⟩ := Kd.R_slice HO_523004.out
    subst eo16
    go_wp2_with (first | ((with_reducible refine gtc (f := 39) rfl ?_); refine goesL_ (some 29) rfl rfl Tryd.func39 (by kernel_rfl) rfl #[.agg #[.int .i64 1, .string (⟨#[]⟩ : ByteArray), .string (⟨#[]⟩ : ByteArray), .int .i64 1, .slice Ao16 x523004_1.length co16, .int .i64 (wrap64 ((l0.length : Int) + 1))]] rfl (by (try simp only [List.map_toArray, List.map_cons, List.map_nil]); first | done | rfl | (simp only [List.length_drop, List.length_take]; rfl)) ?_; (with_reducible refine (r06_right.calls k1 1 (⟨#[]⟩ : ByteArray) (⟨#[]⟩ : ByteArray) 1 (fun k_ => some k_ = (.slice Ao16 x523004_1.length co16 : Value).ownBlock) _ _ x523004_1 (wrap64 ((l0.length : Int) + 1)) t527 t528 t529 t530 t531 t534 t535 _ ?side1 ?side2 A13.out).mono ?_); (case side1 => exact hG.below (by exact pbE HB.out)); (case side2 => exact Kd.R_V (Kd.R_tight rfl (Kd.R_types (Kd.R_types (HO_523004.out) BK521.out (by decide)) BK522.out (by decide)))); rintro e w17 ⟨v532, rfl, ho0, hb⟩; refine ⟨_, rfl, ?_⟩; have HO533 := Az.mk (Kd.V_lower (Kd.V_mono (ok' := fun k_ => (w.heap.size ≤ k_) ∧ k_ ≠ gb521 ∧ k_ ≠ gb522) ho0 (fun k_ hk_ => ⟨Or.elim hk_ (fun hs_ => ((Kd.R_types (Kd.R_types (HO_523004.out) BK521.out (by decide)) BK522.out (by decide)).1 k_ hs_.symm).1.1) (fun hn_ => (Nat.le_trans (pbZ (by exact pbE HB.out)) hn_)), Or.elim hk_ (fun hs_ => ((Kd.R_types (Kd.R_types (HO_523004.out) BK521.out (by decide)) BK522.out (by decide)).1 k_ hs_.symm).1.2) (fun hn_ => (Kd.freshB (bk BK521.out) k_ hn_)), Or.elim hk_ (fun hs_ => ((Kd.R_types (Kd.R_types (HO_523004.out) BK521.out (by decide)) BK522.out (by decide)).1 k_ hs_.symm).2) (fun hn_ => (Kd.freshB (bk BK522.out) k_ hn_))⟩)) (pbZ (by exact pbE HB.out))); replace HO_523004 := Az.mk (Kd.R_below (Kd.R_ext HO_523004.out) hb); replace BK521 := Az.mk (bkB (bk BK521.out) hb); replace BK522 := Az.mk (bkB (bk BK522.out) hb); replace HB := Az.mk (pbT (by exact pbE HB.out) hb); (try clear hb); (try clear hb2); (try clear hk); (try clear hi); (try clear ho0); have hcz18 := cells6 BK521.out; obtain ⟨Ao19, co19, eo19⟩ := Kd.V_slice HO533.out; subst eo19))
    refine bodyPost_ret (results_ct rfl _ _ gb521 26 #[.int .i64 t527, .string t528, .string t529, .int .i64 t530, .slice Ao19 t531.length co19, .int .i64 t534] (0, 0) _ rfl (by refine bk ?_; refine blk_put (cs := #[.int .i64 t527, .string t528, .string t529, .int .i64 t530, .slice Ao19 t531.length co19, .int .i64 0]) ?_ 5 _ rfl; refine bk ?_; refine blk_put (cs := #[.int .i64 t527, .string t528, .string t529, .int .i64 t530, .slice none 0 0, .int .i64 0]) ?_ 4 _ rfl; refine bk ?_; refine blk_put (cs := #[.int .i64 t527, .string t528, .string t529, .int .i64 0, .slice none 0 0, .int .i64 0]) ?_ 3 _ rfl; refine bk ?_; refine blk_put (cs := #[.int .i64 t527, .string t528, .string (⟨#[]⟩ : ByteArray), .int .i64 0, .slice none 0 0, .int .i64 0]) ?_ 2 _ rfl; refine bk ?_; refine blk_put (cs := #[.int .i64 t527, .string (⟨#[]⟩ : ByteArray), .string (⟨#[]⟩ : ByteArray), .int .i64 0, .slice none 0 0, .int .i64 0]) ?_ 1 _ rfl; refine bk ?_; refine blk_put (cs := #[.int .i64 0, .string (⟨#[]⟩ : ByteArray), .string (⟨#[]⟩ : ByteArray), .int .i64 0, .slice none 0 0, .int .i64 0]) ?_ 0 _ rfl; refine bk ?_; exact BK521.out) Tryd.underlying26 rfl (by kernel_rfl)) rfl ?_
    exact ⟨_, by first | rfl | (simp [errW_none, errW_some] <;> rfl) | (simp [*, errW_none, errW_some] <;> rfl), by (with_reducible repeat (first | apply Kd.V_alloc | apply Kd.V_drewN | apply Kd.V_drew)); exact Kd.V_mono (Kd.V_off (g := gb521) (fun _ hk => hk.2) (Kd.V_mono HO533.out (fun k_ hk => (⟨hk, hk.2.1⟩ : _ ∧ k_ ≠ gb521)))) (fun _ hk => hk.1.1), by exact pbE HB.out⟩
end Go.Proofs.YtjfhcijjjadhbaaDoor.P
end
