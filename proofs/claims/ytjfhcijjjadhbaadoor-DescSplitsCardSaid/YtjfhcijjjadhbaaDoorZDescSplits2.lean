import Derived.Test.YtjfhcijjjadhbaaDoorZDescSplits1
import Derived.Lib.Hide
import Derived.Shelf.Abstract
set_option linter.unusedVariables false
set_option linter.unusedSimpArgs false
set_option linter.unnecessarySimpa false
section
namespace Go.Proofs.YtjfhcijjjadhbaaDoor.P
open Go.RowKit Go.Proofs.YtjfhcijjjadhbaaDoor.K Go.Proofs.YtjfhcijjjadhbaaDoorW.PrintWords Go.Proofs.YtjfhcijjjadhbaaDoorW.PrintLast Go.Proofs.YtjfhcijjjadhbaaDoorW.PrintMore
attribute [local go_sem] max2_int min2_int max_two min_two max_three min_three max_four min_four   -- for this text's walks alone
mutual
def desc_Parse.j0 : Nat → ByteArray → List ByteArray → Bool → Option (Int × ByteArray × ByteArray × Int × (List (S60)) × Int × Int)
 | 0, _, _, _ => none
 | k + 1, x0, x4, x19 => if x19 = true then (some (0, (⟨#[]⟩ : ByteArray), (⟨#[]⟩ : ByteArray), 0, ([] : List (S60)), 0, 60)) else (if 0 < (x4.length : Int) then ((some (([rdOf ByteArray.empty x4 0] : List ByteArray) : List ByteArray)).bind fun y186 => (if 3 ≤ (x4.length : Int) then ((some (x4.drop 3 : List ByteArray)).bind fun y189 => (if y186.length + y189.length < 8796093022208 then ((desc_numbers.f k (y186 ++ y189)).bind fun bt196 => (if bt196.2 = true then (desc_Parse.j1 k x0 x4 bt196.1 (((bt196.1.length : Int) % 2) == 0)) else (desc_Parse.j1 k x0 x4 bt196.1 true))) else (none))) else (none))) else (none))
def desc_Parse.j1 : Nat → ByteArray → List ByteArray → List Int → Bool → Option (Int × ByteArray × ByteArray × Int × (List (S60)) × Int × Int)
 | 0, _, _, _, _ => none
 | k + 1, x0, x4, x5, x39 => if x39 = true then (some (0, (⟨#[]⟩ : ByteArray), (⟨#[]⟩ : ByteArray), 0, ([] : List (S60)), 0, 60)) else (if 0 < (x5.length : Int) then (if 1 < (x4.length : Int) then (if 2 < (x4.length : Int) then (if 1 < (x5.length : Int) then (if 2 < (x5.length : Int) then ((slices_Chunk_int64_int64.f x5 2).bind fun t205 => ((desc_Put.f k (rd x5 0) (rdOf ByteArray.empty x4 1) (rdOf ByteArray.empty x4 2) (rd x5 1) t205 (rd x5 2)).bind fun t208 => (if t208.toList = x0.toList then ((desc_right.f (rd x5 0) (rdOf ByteArray.empty x4 1) (rdOf ByteArray.empty x4 2) (rd x5 1) t205 (rd x5 2)).bind fun bt209 => (some (bt209.1, bt209.2.1, bt209.2.2.1, bt209.2.2.2.1, bt209.2.2.2.2.1, bt209.2.2.2.2.2.1, bt209.2.2.2.2.2.2))) else (some (0, (⟨#[]⟩ : ByteArray), (⟨#[]⟩ : ByteArray), 0, ([] : List (S60)), 0, 60))))) else (none)) else (none)) else (none)) else (none)) else (none))
end
def desc_Parse.f (k : Nat) (a0 : ByteArray) : Option (Int × ByteArray × ByteArray × Int × (List (S60)) × Int × Int) := (knot_Untie.f k a0).bind fun bt181 => (if bt181.2 = 0 then (desc_Parse.j0 k a0 bt181.1 (decide ((bt181.1.length : Int) < 5))) else (desc_Parse.j0 k a0 bt181.1 true))
theorem desc_Parse.mono_l : ∀ k, (∀ y0 y1 y2, LeO (desc_Parse.j0 k y0 y1 y2) (desc_Parse.j0 (k + 1) y0 y1 y2)) ∧ (∀ y0 y1 y2 y3, LeO (desc_Parse.j1 k y0 y1 y2 y3) (desc_Parse.j1 (k + 1) y0 y1 y2 y3))
 | 0 => ⟨fun _ _ _ r h => by simp [desc_Parse.j0] at h, fun _ _ _ _ r h => by simp [desc_Parse.j1] at h⟩
 | k + 1 => by
  obtain ⟨ih0, ih1⟩ := desc_Parse.mono_l k
  refine ⟨?_, ?_⟩
  ·intro y0 y1 y2
   unfold desc_Parse.j0
   repeat' first
   | (with_reducible exact ih0 _ _ _)
   | (with_reducible exact ih1 _ _ _ _)
   | (with_reducible exact desc_Put.mono _ _ _ _ _ _ _)
   | (with_reducible exact desc_numbers.mono _ _)
   | (with_reducible exact knot_Untie.mono _ _)
   | (with_reducible exact LeO.refl _)
   | (with_reducible exact LeO.none _)
   | (with_reducible refine LeO.ite ?_ ?_)
   | (with_reducible refine LeO.bind ?_ (fun _ => ?_))
   | exact ih0 _ _ _
   | exact ih1 _ _ _ _
   | exact desc_Put.mono _ _ _ _ _ _ _
   | exact desc_numbers.mono _ _
   | exact knot_Untie.mono _ _
   | exact LeO.none _
   | refine LeO.ite ?_ ?_
   | refine LeO.bind ?_ (fun _ => ?_)
  ·intro y0 y1 y2 y3
   unfold desc_Parse.j1
   repeat' first
   | (with_reducible exact ih0 _ _ _)
   | (with_reducible exact ih1 _ _ _ _)
   | (with_reducible exact desc_Put.mono _ _ _ _ _ _ _)
   | (with_reducible exact desc_numbers.mono _ _)
   | (with_reducible exact knot_Untie.mono _ _)
   | (with_reducible exact LeO.refl _)
   | (with_reducible exact LeO.none _)
   | (with_reducible refine LeO.ite ?_ ?_)
   | (with_reducible refine LeO.bind ?_ (fun _ => ?_))
   | exact ih0 _ _ _
   | exact ih1 _ _ _ _
   | exact desc_Put.mono _ _ _ _ _ _ _
   | exact desc_numbers.mono _ _
   | exact knot_Untie.mono _ _
   | exact LeO.none _
   | refine LeO.ite ?_ ?_
   | refine LeO.bind ?_ (fun _ => ?_)
theorem desc_Parse.mono : ∀ a0 k, LeO (desc_Parse.f k a0) (desc_Parse.f (k + 1) a0) := by
 intro a0 k
 obtain ⟨ih0, ih1⟩ := desc_Parse.mono_l k
 unfold desc_Parse.f
 repeat' first
  | (with_reducible exact ih0 _ _ _)
  | (with_reducible exact ih1 _ _ _ _)
  | (with_reducible exact desc_Put.mono _ _ _ _ _ _ _)
  | (with_reducible exact desc_numbers.mono _ _)
  | (with_reducible exact knot_Untie.mono _ _)
  | (with_reducible exact LeO.refl _)
  | (with_reducible exact LeO.none _)
  | (with_reducible refine LeO.ite ?_ ?_)
  | (with_reducible refine LeO.bind ?_ (fun _ => ?_))
  | exact ih0 _ _ _
  | exact ih1 _ _ _ _
  | exact desc_Put.mono _ _ _ _ _ _ _
  | exact desc_numbers.mono _ _
  | exact knot_Untie.mono _ _
  | exact LeO.none _
  | refine LeO.ite ?_ ?_
  | refine LeO.bind ?_ (fun _ => ?_)
def desc_Parse.T4 : Bool × List (List Nat × List Nat) := (true, [([], []), ([0], [0]), ([1], [1]), ([2], [2]), ([], []), ([4], [4]), ([3, 5], [3, 5]), ([6, 6], [6]), ([7], [7]), ([8], [8]), ([8], [8]), ([9, 7, 0, 1, 2, 3, 4, 5, 6, 7, 8, 9], [9]), ([10, 11, 0, 1, 2, 3, 4, 5, 6, 7, 8, 9, 10, 11], [10])])
def desc_Parse.B4 : List Nat := [0, 1, 3, 7, 0, 16, 63, 127, 255, 511, 511, 1023, 4095]
theorem desc_Parse.tab4 : rtab .any (opsOf Tryd.f21 4) = desc_Parse.T4 := by kernel_rfl
theorem desc_Parse.bits4 : waitsOk desc_Parse.T4.2 desc_Parse.B4 = true := by kernel_rfl
def desc_Parse.T7 : Bool × List (List Nat × List Nat) := (true, [([], []), ([0], [0]), ([1], [1]), ([], []), ([3], [3]), ([4], [4]), ([], []), ([6], [6]), ([7], [7]), ([5, 8], [5, 8]), ([], []), ([10], [10]), ([11], [11]), ([], []), ([13], [13]), ([14], [14]), ([2, 9, 12, 15], [2, 9, 12, 15]), ([16, 0, 1, 2, 3, 4, 5, 6, 7, 8, 9, 10, 11, 12, 13, 14, 15, 16], [16])])
def desc_Parse.B7 : List Nat := [0, 1, 3, 0, 8, 24, 0, 64, 192, 504, 0, 1024, 3072, 0, 8192, 24576, 65535, 131071]
theorem desc_Parse.tab7 : rtab .any (opsOf Tryd.f21 7) = desc_Parse.T7 := by kernel_rfl
theorem desc_Parse.bits7 : waitsOk desc_Parse.T7.2 desc_Parse.B7 = true := by kernel_rfl
set_option maxHeartbeats 8000000 in
set_option maxRecDepth 100000 in
theorem desc_Parse.calls (k : Nat) (a0 : ByteArray) (r1 : Int) (r2 : ByteArray) (r3 : ByteArray) (r4 : Int) (r5 : List (S60)) (r6 : Int) (r7 : Int) (w : World) (hG : TheG w) (h : desc_Parse.f k a0 = some (r1, r2, r3, r4, r5, r6, r7)) :
 Calls Tryd.prog 21 #[.string a0] w fun e w' => ∃ v4_ : Value, e = .returned (.tuple #[.agg #[.int .i64 r1, .string r2, .string r3, .int .i64 r4, v4_, .int .i64 r6], .int .i64 r7]) ∧ Kd.V k60 60 w' w.heap.size (fun k_ => (w.heap.size ≤ k_)) v4_ r5 ∧ Below w.heap.size w w' := by
 have hu26 := Tryd.underlying26
 have hu23 := Tryd.underlying23
 have HB := Az.mk (Below.refl w.heap.size w)
 have H : ((knot_Untie.f k a0).bind fun bt181 => (if bt181.2 = 0 then (desc_Parse.j0 k a0 bt181.1 (decide ((bt181.1.length : Int) < 5))) else (desc_Parse.j0 k a0 bt181.1 true))) = some (r1, r2, r3, r4, r5, r6, r7) := h
 clear h
 replace H := Option.bind_eq_some_iff.mp H
 obtain ⟨⟨t181, t182⟩, A20, H⟩ := H
 try dsimp only at H
 have A2 := Az.mk A20
 clear A20
 have HC3 := Az.mk H
 clear H
 let hbp_ := bodyPost Tryd.prog Tryd.f21
 refine enterM Tryd.func21 rfl ?_
 simp only [Tryd.ntmps21, List.size_toArray, List.length_cons, List.length_nil, Nat.reduceAdd, Nat.reduceSub, Array.replicate_succ, Array.replicate_zero, List.push_toArray, List.append_toArray, List.nil_append, List.cons_append]
 go_upto_region 2 with (first | ((with_reducible refine gate_dst (N := 2) rfl ?_); (try (refine gate_guard (by rfl) ?_; dsimp only)); refine box_event ?hg (N := 2) ?hd (cs := #[.int .i64 0, .string (⟨#[]⟩ : ByteArray), .string (⟨#[]⟩ : ByteArray), .int .i64 0, .slice none 0 0, .int .i64 0]) (t := 26) ?hr ?_; (case hd => rfl); (case hg => rfl); (case hr => first | (go_simp; done) | (go_simp; rfl)); intro gb180 hg w4 hbox hb; have BK180 := Az.mk (hbox); have GW180 := Az.mk (geO hg (pbE HB.out)); have GE180 := Az.mk (geO hg (pbE HB.out)); replace HB := Az.mk (pbT (by exact pbE HB.out) hb); clear hb hbox hg) | ((with_reducible refine gtc (f := 43) rfl ?_); refine goesL_ (some 10) rfl rfl Tryd.func43 (by kernel_rfl) rfl #[.string a0] rfl (by (try simp only [List.map_toArray, List.map_cons, List.map_nil]); first | done | rfl | (simp only [List.length_drop, List.length_take]; rfl)) ?_; (with_reducible refine (knot_Untie.calls k a0 t181 t182 _ ?side1 A2.out).mono ?_); (case side1 => exact hG.below (by exact pbE HB.out)); rintro e w5 ⟨v183, rfl, ho0, hb⟩; refine ⟨_, rfl, ?_⟩; have HO184 := Az.mk (Kd.R_lower (Kd.R_newM (M := fun k_ => (w.heap.size ≤ k_)) ho0 (pbZ (by exact pbE HB.out)) (fun k_ h_ => h_)) (pbZ (by exact pbE HB.out))); replace BK180 := Az.mk (bkB (bk BK180.out) hb); replace HB := Az.mk (pbT (by exact pbE HB.out) hb); (try clear hb); (try clear hb2); (try clear hk); (try clear hi); (try clear ho0)))
 (try simp only [Act.put, List.setIfInBounds_toArray, List.set_cons_zero, List.set_cons_succ])
 go_cut [19] (fun v19 wc => ∃ (kq : Nat) (x19_2 : Bool), v19 = .bool x19_2 ∧ Az (desc_Parse.j0 kq a0 t181 x19_2 = some (r1, r2, r3, r4, r5, r6, r7)) ∧ Az (kq ≤ k) ∧ Az (Kd.R Kd.string 9 wc w.heap.size (fun k_ => (w.heap.size ≤ k_)) v183 t181) ∧ Az (wc.heap[gb180]? = some (.cells #[.int .i64 0, .string (⟨#[]⟩ : ByteArray), .string (⟨#[]⟩ : ByteArray), .int .i64 0, (.slice none 0 0), .int .i64 0] 26 (0, 0))) ∧ Az (Below w.heap.size w wc))
 case first =>
  have H := HC3.out
  clear HC3
  by_cases c6 : t182 = 0
  ·rw [if_pos c6] at H
   have c6b0 : (t182 == 0) = true := beq_iff_eq.mpr c6
   have c6b1 : (t182 != 0) = false := bne_eq_false_iff_eq.mpr c6
   clear c6
   (first | rw [c6b0] | (simp only [i64_w, i32_w]; rw [c6b0]) | skip)
   have H' := Az.mk H
   clear H
   obtain ⟨Ao7, co7, eo7⟩ := Kd.R_slice HO184.out
   subst eo7
   go_wp2
   go_meet
   case rel => exact ⟨_, (decide ((t181.length : Int) < 5)), (by first | rfl | (simp; done) | (simp [*]; done)), H', ⟨by first | omega | exact Nat.le_refl _⟩, ⟨by (with_reducible repeat (first | apply Kd.R_alloc | apply Kd.R_drewN | apply Kd.R_drew)); exact Kd.R_mono HO184.out (fun _ hk => hk.1)⟩, ⟨by refine bk ?_; exact BK180.out⟩, ⟨by exact pbE HB.out⟩⟩
  ·rw [if_neg c6] at H
   have c6b0 : (t182 == 0) = false := beq_eq_false_iff_ne.mpr c6
   have c6b1 : (t182 != 0) = true := bne_iff_ne.mpr c6
   (first | rw [c6b0] | (simp only [i64_w, i32_w]; rw [c6b0]) | skip)
   have H' := Az.mk H
   clear H
   go_wp2
   go_meet
   case rel => exact ⟨_, (true), (by first | rfl | (simp; done) | (simp [*]; done)), H', ⟨by first | omega | exact Nat.le_refl _⟩, ⟨by (with_reducible repeat (first | apply Kd.R_alloc | apply Kd.R_drewN | apply Kd.R_drew)); exact Kd.R_mono HO184.out (fun _ hk => hk.1)⟩, ⟨by refine bk ?_; exact BK180.out⟩, ⟨by exact pbE HB.out⟩⟩
 case rest =>
  clear HC3
  try clear c2
  try clear p2
  try clear c4
  try clear c6
  try clear c6b0
  try clear c6b1
  obtain ⟨kq, x19_2, rfl, HA, HJ2, HO_4, BK180, HB⟩ := hcut
  cases kq with
  | zero => exact absurd HA.out (by simp [desc_Parse.j0])
  | succ kj2 =>
   have H := HA.out
   clear HA
   simp only [desc_Parse.j0] at H
   by_cases c8 : x19_2 = true
   ·subst c8
    rw [if_pos rfl] at H
    simp only [Option.some.injEq, Prod.mk.injEq] at H
    obtain ⟨rfl, rfl, rfl, rfl, rfl, rfl, rfl⟩ := H
    have hcz9 := cells6 BK180.out
    go_wp2
    refine bodyPost_retM (results_ct rfl _ _ gb180 26 #[.int .i64 0, .string (⟨#[]⟩ : ByteArray), .string (⟨#[]⟩ : ByteArray), .int .i64 0, .slice none 0 0, .int .i64 0] (0, 0) _ rfl (by refine bk ?_; refine blk_put (cs := #[.int .i64 0, .string (⟨#[]⟩ : ByteArray), .string (⟨#[]⟩ : ByteArray), .int .i64 0, .slice none 0 0, .int .i64 0]) ?_ 5 _ rfl; refine bk ?_; refine blk_put (cs := #[.int .i64 0, .string (⟨#[]⟩ : ByteArray), .string (⟨#[]⟩ : ByteArray), .int .i64 0, .slice none 0 0, .int .i64 0]) ?_ 4 _ rfl; refine bk ?_; refine blk_put (cs := #[.int .i64 0, .string (⟨#[]⟩ : ByteArray), .string (⟨#[]⟩ : ByteArray), .int .i64 0, .slice none 0 0, .int .i64 0]) ?_ 3 _ rfl; refine bk ?_; refine blk_put (cs := #[.int .i64 0, .string (⟨#[]⟩ : ByteArray), .string (⟨#[]⟩ : ByteArray), .int .i64 0, .slice none 0 0, .int .i64 0]) ?_ 2 _ rfl; refine bk ?_; refine blk_put (cs := #[.int .i64 0, .string (⟨#[]⟩ : ByteArray), .string (⟨#[]⟩ : ByteArray), .int .i64 0, .slice none 0 0, .int .i64 0]) ?_ 1 _ rfl; refine bk ?_; refine blk_put (cs := #[.int .i64 0, .string (⟨#[]⟩ : ByteArray), .string (⟨#[]⟩ : ByteArray), .int .i64 0, .slice none 0 0, .int .i64 0]) ?_ 0 _ rfl; refine bk ?_; exact BK180.out) Tryd.underlying26 rfl (by kernel_rfl)) rfl ?_
    exact ⟨_, by first | rfl | (simp [errW_none, errW_some] <;> rfl) | (simp [*, errW_none, errW_some] <;> rfl), Kd.V_nil _ _ _ _ _, by exact pbE HB.out⟩
   ·replace c8 := Bool.eq_false_iff.mpr c8
    subst c8
    rw [if_neg (show ¬ (false = true) by decide)] at H
    by_cases c10 : 0 < (t181.length : Int)
    ·rw [if_pos c10] at H
     have c10b0 : decide (0 < (t181.length : Int)) = true := decide_eq_true c10
     have c10b1 : decide (0 < t181.length) = true := decide_eq_true (by omega)
     clear c10
     obtain ⟨y186, hy186⟩ : ∃ y_ : List ByteArray, y_ = (([rdOf ByteArray.empty t181 0] : List ByteArray)) := ⟨_, rfl⟩
     replace H : (if 3 ≤ (t181.length : Int) then ((some (t181.drop 3 : List ByteArray)).bind fun y189 => (if y186.length + y189.length < 8796093022208 then ((desc_numbers.f kj2 (y186 ++ y189)).bind fun bt196 => (if bt196.2 = true then (desc_Parse.j1 kj2 a0 t181 bt196.1 (((bt196.1.length : Int) % 2) == 0)) else (desc_Parse.j1 kj2 a0 t181 bt196.1 true))) else (none))) else (none)) = some (r1, r2, r3, r4, r5, r6, r7) := by first | (rw [hy186]; with_reducible exact H) | (have H2_ := (Option.bind_some _ _).symm.trans H; rw [hy186]; with_reducible exact H2_) | (have H2_ := (Option.bind_some _ _).symm.trans H; with_reducible exact H2_) | with_reducible exact H | (rw [hy186]; exact H) | exact H
     have Ny186 := Az.mk hy186
     clear hy186
     by_cases c11 : 3 ≤ (t181.length : Int)
     ·rw [if_pos c11] at H
      have c11b0 := eq_true c11
      have c11b1 : decide (3 ≤ (t181.length : Int)) = true := decide_eq_true c11
      clear c11
      obtain ⟨y189, hy189⟩ : ∃ y_ : List ByteArray, y_ = (t181.drop 3) := ⟨_, rfl⟩
      replace H : (if y186.length + y189.length < 8796093022208 then ((desc_numbers.f kj2 (y186 ++ y189)).bind fun bt196 => (if bt196.2 = true then (desc_Parse.j1 kj2 a0 t181 bt196.1 (((bt196.1.length : Int) % 2) == 0)) else (desc_Parse.j1 kj2 a0 t181 bt196.1 true))) else (none)) = some (r1, r2, r3, r4, r5, r6, r7) := by first | (rw [hy189]; with_reducible exact H) | (have H2_ := (Option.bind_some _ _).symm.trans H; rw [hy189]; with_reducible exact H2_) | (have H2_ := (Option.bind_some _ _).symm.trans H; with_reducible exact H2_) | with_reducible exact H | (rw [hy189]; exact H) | exact H
      have Ny189 := Az.mk hy189
      clear hy189
      by_cases c12 : y186.length + y189.length < 8796093022208
      ·rw [if_pos c12] at H
       have LMc12 := Az.mk c12
       clear c12
       obtain ⟨y193, hy193⟩ : ∃ y_ : List ByteArray, y_ = (y186 ++ y189) := ⟨_, rfl⟩
       replace H : ((desc_numbers.f kj2 y193).bind fun bt196 => (if bt196.2 = true then (desc_Parse.j1 kj2 a0 t181 bt196.1 (((bt196.1.length : Int) % 2) == 0)) else (desc_Parse.j1 kj2 a0 t181 bt196.1 true))) = some (r1, r2, r3, r4, r5, r6, r7) := by first | (rw [hy193]; with_reducible exact H) | (have H2_ := (Option.bind_some _ _).symm.trans H; rw [hy193]; with_reducible exact H2_) | (have H2_ := (Option.bind_some _ _).symm.trans H; with_reducible exact H2_) | with_reducible exact H | (rw [hy193]; exact H) | exact H
       have Ny193 := Az.mk hy193
       clear hy193
       replace H := Option.bind_eq_some_iff.mp H
       obtain ⟨⟨t196, t197⟩, A130, H⟩ := H
       try dsimp only at H
       have A13 := Az.mk A130
       clear A130
       have HC14 := Az.mk H
       clear H
       try go_wp2
       replace HO_4 := Az.mk (Kd.R_drew HO_4.out)
       replace BK180 := Az.mk (bkD BK180.out)
       replace HB := Az.mk (pb1 HB.out)
       obtain ⟨Ao16, co16, eo16⟩ := Kd.R_slice HO_4.out
       (first | subst eo16 | (injection eo16 with f1_ f2_ f3_; have f4_ := f1_.symm; have f5_ := f3_.symm; clear f1_ f2_ f3_; subst f4_; subst f5_))
       have p185 : 0 ≤ (0 : Int) := (by omega)
       have q185 : 0 < (t181.length : Int) := of_decide_eq_true (by first | (with_reducible assumption) | assumption)
       obtain ⟨ad185, e185, hx185_0⟩ := Kd.at_string (Kd.R_reads' HO_4.out).2.2 0 p185 q185
       cases e185
       have qi185 : (0 < t181.length) = True := eq_true (by omega)
       (try rw [show ((0 : Int)).toNat = 0 from rfl] at hx185_0)
       (try rw [Addr.add_zero'] at hx185_0)
       replace p185 := eq_true p185
       replace q185 := eq_true q185
       have q17 : (3 : Int) ≤ ((t181.length : Int) : Int) := of_decide_eq_true (by first | (with_reducible assumption) | assumption)
       obtain ⟨i017, hi017, _, hsz17, _⟩ := info_parts info9
       have hroom17 : t181.length ≤ co16 := (Kd.R_reads' HO_4.out).2.1
       have hC17 : Kd.C Kd.string _ (some ad185) t181.length t181 := (Kd.R_reads' HO_4.out).2.2
       have hcut17 := cut_from (P := Tryd.prog) 79 9 .i64 Tryd.underlying79 hi017 1 hsz17 (some ad185) t181.length co16 3 (by omega) q17
       have hr17 := Kd.C_drop (m := (3 : Int).toNat) (c := co16) hC17 (by omega) hroom17
       obtain ⟨A17, hA17⟩ : ∃ A1, A1 = (if co16 = (3 : Int).toNat then (some ad185) else ((some ad185) : Option Addr).map (·.add ((3 : Int).toNat * 1))) := ⟨_, rfl⟩
       obtain ⟨c17, hc17⟩ : ∃ c1, c1 = co16 - (3 : Int).toNat := ⟨_, rfl⟩
       have hy17 : y189.length = t181.length - (3 : Int).toNat := (by rw [Ny189.out, List.length_drop] <;> omega)
       rw [show (t181).drop (3 : Int).toNat = y189 from Ny189.out.symm] at hr17
       replace hr17 : Kd.C Kd.string _ A17 y189.length y189 := (by rw [hA17]; exact hr17)
       rw [← hy17, ← hA17, ← hc17] at hcut17
       have HR192 := Az.mk hr17
       have HC192 := Az.mk (show y189.length ≤ c17 from by rw [hy17, hc17]; exact Nat.sub_le_sub_right hroom17 _)
       clear hr17 hC17 hroom17 hi017 hsz17 hc17
       have KY17 := Az.mk hy17
       have KA17 := Az.mk hA17
       clear hy17 hA17
       have KL17 := Az.mk (show 3 ≤ t181.length from by omega)
       replace q17 := eq_true q17
       refine start_ (n := 13) (S := fun w' => w'.cell? ad185 = some (.string (rdOf ByteArray.empty t181 0))) (ds := [6]) #[false, false, false, false, false, false, false, false, false, false, false, false, false] (by kernel_rfl) rfl rfl (hx185_0) (fun hHeld => ?_); refine with_tabW desc_Parse.tab4 desc_Parse.bits4 (fun HT_ HW_ => ?_)
       generalize wc.drew = w15 at HO_4 BK180 HB HR192 hx185_0 hHeld ⊢
       refine pure_ (i := 0) (N := some 22) (v := ?_) (a' := ?_) #[true, false, false, false, false, false, false, false, false, false, false, false, false] rfl rfl (any_of HT_.out (by kernel_rfl)) (fun _ _ _ h => h) (Or.inl ⟨by rfl, ?_⟩) ?_ ?_
       rotate_left
       ·intro w'
        go_simp
        with_reducible rfl
       rotate_left
       ·simp only [Act.put, List.setIfInBounds_toArray, List.set_cons_zero, List.set_cons_succ, i64_w, i32_w]
        rfl
       refine pure_ (i := 1) (N := some 23) (v := ?_) (a' := ?_) #[true, true, false, false, false, false, false, false, false, false, false, false, false] rfl rfl (any_of HT_.out (by kernel_rfl)) (fun _ _ _ h => h) (Or.inl ⟨by rfl, ?_⟩) ?_ ?_
       rotate_left
       ·intro w'
        go_simp
        with_reducible rfl
       rotate_left
       ·simp only [Act.put, List.setIfInBounds_toArray, List.set_cons_zero, List.set_cons_succ, i64_w, i32_w]
        rfl
       refine pure_ (i := 4) (N := some 26) (v := ?_) (a' := ?_) #[true, true, false, false, true, false, false, false, false, false, false, false, false] rfl rfl (any_of HT_.out (by kernel_rfl)) (fun _ _ _ h => h) (Or.inl ⟨by rfl, ?_⟩) ?_ ?_
       rotate_left
       ·intro w'
        go_simp
        with_reducible rfl
       rotate_left
       ·simp only [Act.put, List.setIfInBounds_toArray, List.set_cons_zero, List.set_cons_succ, i64_w, i32_w]
        rfl
       refine pure_ (i := 5) (N := some 27) (v := ?_) (a' := ?_) #[true, true, false, false, true, true, false, false, false, false, false, false, false] rfl rfl (any_of HT_.out (by kernel_rfl)) (fun _ _ _ h => h) (Or.inl ⟨by rfl, ?_⟩) ?_ ?_
       rotate_left
       ·intro w'
        go_simp
        with_reducible rfl
       rotate_left
       ·simp only [Act.put, List.setIfInBounds_toArray, List.set_cons_zero, List.set_cons_succ, i64_w, i32_w]
        rfl
       refine take_ (i := 2) (N := some 24) (v := ?_) (a' := ?_) #[true, true, true, false, true, true, false, false, false, false, false, false, false] rfl rfl (take_ofW HT_.out HW_.out (by kernel_rfl)) (fun _ _ _ h => h) (Or.inl ⟨by rfl, ?_⟩) hHeld ?_ ?_
       rotate_left
       ·intro w' s0
        go_simp
        with_reducible rfl
       rotate_left
       ·simp only [Act.put, List.setIfInBounds_toArray, List.set_cons_zero, List.set_cons_succ, i64_w, i32_w]
        rfl
       refine one_ (i := 3) (N := some 25) #[true, true, true, true, true, true, false, false, false, false, false, false, false] rfl rfl (one_of HT_.out (by kernel_rfl)) (by decide) (fun K hK => ?_)
       refine Kd.R_lit_step Kd.string _ 9 ?hg (N := 25) ?hd (xs := ([rdOf ByteArray.empty t181 0] : List ByteArray)) (inner := [.string (rdOf ByteArray.empty t181 0)]) (ok := fun _ => True) (okp := fun _ => True) ?hr ?hp (fun _ hk => hk) trivial (Below.refl _ _) (Nat.le_refl _) (by simp) ?_; (case hd => rfl); (case hg => rfl); (case hr => first | (go_simp; done) | (go_simp; rfl)); (case hp => exact (Reps.one (show Kd.M Kd.string _ _ _ (rdOf ByteArray.empty t181 0) [.string (rdOf ByteArray.empty t181 0)] from rfl) (Reps.none _ _)))
       intro v187 w18 ho19 hb hg_ hnew_
       have HS0_ := (hb.cell (World.block_lt_of_cell? _ _ (hHeld))).trans (hHeld)
       clear hg_ hnew_
       (first | rw [← Ny186.out] at ho19 | (simp only [Int.reduceToNat] at ho19; rw [← Ny186.out] at ho19))
       have HO188 := Az.mk (Kd.R_lower (Kd.R_new' (Kd.R_newM (M := fun k_ => (w.heap.size ≤ k_)) ho19 (pbZ (by exact pbE HB.out)) (fun k_ h_ => h_)) (Kd.R_lt (Kd.R_ext HO_4.out))) (pbZ (by exact pbE HB.out)))
       replace HO_4 := Az.mk (Kd.R_elder' (Kd.R_ext HO_4.out) (Kd.R_base ho19) hb)
       replace BK180 := Az.mk (bkB (bk BK180.out) hb)
       replace HR192 := Az.mk (Kd.C_below (by repeat (first | (with_reducible exact HR192.out) | (with_reducible refine Kd.C_alloc ?_ _) | (with_reducible refine Kd.C_drewN ?_ _) | (with_reducible refine Kd.C_drew ?_) | exact HR192.out)) hb)
       replace HB := Az.mk (pbT (by exact pbE HB.out) hb)
       clear hb ho19
       refine hK.out _ _ (HS0_) (fun hHeld => ?_)
       clear hK K
       refine norm_ (a' := ?_) ?_ ?_
       rotate_left
       ·show Act.put _ (some 25) _ = _
        simp only [Act.put, List.setIfInBounds_toArray, List.set_cons_zero, List.set_cons_succ, i64_w, i32_w]
        rfl
       refine last_ (i := 6) (N := some 28) #[true, true, true, true, true, true, true, false, false, false, false, false, false] rfl rfl (one_of HT_.out (by kernel_rfl)) (by decide) (fun K hK => ?_)
       refine Kd.R_append_rows_step Kd.string (w0 := w) w.heap.size (by rfl) (.tmp 25) (.tmp 27) 79 9 (.string ⟨#[]⟩) 16 rfl Tryd.underlying79 info9 rfl (by decide) (by omega) v187 y186 y189 _ _ _ (fun k_ => (w.heap.size ≤ k_) ∧ some k_ ≠ (.slice (some ad185) t181.length co16 : Value).ownBlock) (fun _ => False) rfl rfl ?aO ?aR (fun _ _ h => h) (fun _ h => h.elim) ?aF ?aB ?aS ?aL ?_
       (case aR => repeat (first | exact (by repeat (first | (with_reducible exact HR192.out) | (with_reducible refine Kd.C_alloc ?_ _) | (with_reducible refine Kd.C_drewN ?_ _) | (with_reducible refine Kd.C_drew ?_) | exact HR192.out)) | (with_reducible refine Kd.C_alloc ?_ _) | (with_reducible refine Kd.C_drewN ?_ _) | (with_reducible refine Kd.C_drew ?_)))
       (case aB => exact (by exact pbE HB.out))
       (case aF => exact (fun k_ hk => ⟨(Nat.le_trans (pbZ (by exact pbE HB.out)) hk), Kd.fresh' (Kd.R_lt (Kd.R_ext HO_4.out)) k_ hk⟩))
       (case aO => exact (by (with_reducible repeat (first | apply Kd.R_alloc | apply Kd.R_drewN | apply Kd.R_drew)); exact Kd.R_mono HO188.out (fun _ hk => ⟨hk.1.1, hk.2⟩)))
       (case aS => exact (pbZ (by exact pbE HB.out)))
       (case aL => have := LMc12.out; omega)
       intro v194 w20 ho hb hg hat
       rw [← Ny193.out] at ho
       replace BK180 := Az.mk (blk_grown (bk BK180.out) hg (Kd.R_ne HO188.out BK180.out (by decide)))
       replace HB := Az.mk (hb)
       replace HR192 := Az.mk ((show Kd.C Kd.string w20 A17 y189.length y189 from by rw [Ny189.out, KA17.out]; exact Kd.C_drop (m := 3) (c := co16) ((Kd.R_reads' (Kd.R_after (ok := (fun k_ => (w.heap.size ≤ k_))) (Kd.R_ext HO_4.out) hg hat)).2.2) KL17.out ((Kd.R_reads' (Kd.R_after (ok := (fun k_ => (w.heap.size ≤ k_))) (Kd.R_ext HO_4.out) hg hat)).2.1)))
       replace HO_4 := Az.mk (Kd.R_after (ok := (fun k_ => (w.heap.size ≤ k_))) (Kd.R_ext HO_4.out) hg hat)
       have HO195 := Az.mk (ho)
       clear HO188
       clear ho hb hg hat
       obtain ⟨Ao21, co21, eo21⟩ := Kd.R_slice HO195.out
       (first | subst eo21 | (injection eo21 with f1_ f2_ f3_; have f4_ := f1_.symm; have f5_ := f3_.symm; clear f1_ f2_ f3_; subst f4_; subst f5_))
       refine hK.out _ _ ?_
       clear hK K
       refine norm_ (a' := ?_) ?_ ?_
       rotate_left
       ·show Act.put _ (some 28) _ = _
        simp only [Act.put, List.setIfInBounds_toArray, List.set_cons_zero, List.set_cons_succ, i64_w, i32_w]
        rfl
       have hHeld : w20.cell? ad185 = some (.string (rdOf ByteArray.empty t181 0)) := by
        obtain ⟨adq, eq_, hxq⟩ := Kd.at_string (Kd.R_reads' HO_4.out).2.2 0 (by omega) (of_eq_true q185)
        cases eq_
        simpa [Addr.add] using hxq
       refine one_ (i := 7) (N := some 29) #[true, true, true, true, true, true, true, true, false, false, false, false, false] rfl rfl (one_of HT_.out (by kernel_rfl)) (by decide) (fun K hK => ?_)
       refine goes_ Tryd.func44 (by kernel_rfl) rfl #[.slice Ao21 y193.length co21] (by rfl) rfl rfl (by (try simp only [List.map_toArray, List.map_cons, List.map_nil]); first | done | rfl | (simp only [List.length_drop, List.length_take]; rfl)) ?_
       with_reducible refine (desc_numbers.calls kj2 _ _ y193 t196 t197 _ ?side1 ?side2 ?side3 A13.out).mono ?_
       (case side1 => exact hG.below (by exact pbE HB.out))
       (case side2 => exact Kd.C_ext (Kd.R_reads' HO195.out).2.2)
       (case side3 => exact (Kd.R_reads' HO195.out).2.1)
       rintro e w22 ⟨v198, rfl, ho0, hb⟩
       have HS0_ := (hb.cell (World.block_lt_of_cell? _ _ (hHeld))).trans (hHeld)
       refine ⟨_, rfl, ?_⟩
       replace HO_4 := Az.mk (Kd.R_below (Kd.R_ext HO_4.out) hb)
       replace HO195 := Az.mk (Kd.R_below (Kd.R_ext HO195.out) hb)
       have HO199 := Az.mk (Kd.R_lower (Kd.R_newM (M := fun k_ => (w.heap.size ≤ k_)) ho0 (pbZ (by exact pbE HB.out)) (fun k_ h_ => h_)) (pbZ (by exact pbE HB.out)))
       replace BK180 := Az.mk (bkB (bk BK180.out) hb)
       replace HR192 := Az.mk (Kd.C_below (by repeat (first | (with_reducible exact HR192.out) | (with_reducible refine Kd.C_alloc ?_ _) | (with_reducible refine Kd.C_drewN ?_ _) | (with_reducible refine Kd.C_drew ?_) | exact HR192.out)) hb)
       replace HB := Az.mk (pbT (by exact pbE HB.out) hb)
       (try clear hb)
       (try clear hb2)
       (try clear hk)
       (try clear hi)
       (try clear ho0)
       refine hK.out _ _ (HS0_) (fun hHeld => ?_)
       clear hK K
       refine norm_ (a' := ?_) ?_ ?_
       rotate_left
       ·show Act.put _ (some 29) _ = _
        simp only [Act.put, List.setIfInBounds_toArray, List.set_cons_zero, List.set_cons_succ, i64_w, i32_w]
        rfl
       refine pure_ (i := 8) (N := some 21) (v := ?_) (a' := ?_) #[true, true, true, true, true, true, true, true, true, false, false, false, false] rfl rfl (any_of HT_.out (by kernel_rfl)) (fun _ _ _ h => h) (Or.inl ⟨by rfl, ?_⟩) ?_ ?_
       rotate_left
       ·intro w'
        go_simp
        with_reducible rfl
       rotate_left
       ·simp only [Act.put, List.setIfInBounds_toArray, List.set_cons_zero, List.set_cons_succ, i64_w, i32_w]
        rfl
       refine pure_ (i := 9) (N := some 30) (v := ?_) (a' := ?_) #[true, true, true, true, true, true, true, true, true, true, false, false, false] rfl rfl (any_of HT_.out (by kernel_rfl)) (fun _ _ _ h => h) (Or.inl ⟨by rfl, ?_⟩) ?_ ?_
       rotate_left
       ·intro w'
        go_simp
        with_reducible rfl
       rotate_left
       ·simp only [Act.put, List.setIfInBounds_toArray, List.set_cons_zero, List.set_cons_succ, i64_w, i32_w]
        rfl
       refine pure_ (i := 10) (N := some 31) (v := ?_) (a' := ?_) #[true, true, true, true, true, true, true, true, true, true, true, false, false] rfl rfl (any_of HT_.out (by kernel_rfl)) (fun _ _ _ h => h) (Or.inl ⟨by rfl, ?_⟩) ?_ ?_
       rotate_left
       ·intro w'
        go_simp
        with_reducible rfl
       rotate_left
       ·simp only [Act.put, List.setIfInBounds_toArray, List.set_cons_zero, List.set_cons_succ, i64_w, i32_w]
        rfl
       refine pure_ (i := 11) (N := some 5) (v := ?_) (a' := ?_) #[true, true, true, true, true, true, true, true, true, true, true, true, false] rfl rfl (any_of HT_.out (by kernel_rfl)) (fun _ _ _ h => h) (Or.inl ⟨by rfl, ?_⟩) ?_ ?_
       rotate_left
       ·intro w'
        go_simp
        with_reducible rfl
       rotate_left
       ·simp only [Act.put, List.setIfInBounds_toArray, List.set_cons_zero, List.set_cons_succ, i64_w, i32_w]
        rfl
       refine pure_ (i := 12) (N := some 6) (v := ?_) (a' := ?_) #[true, true, true, true, true, true, true, true, true, true, true, true, true] rfl rfl (any_of HT_.out (by kernel_rfl)) (fun _ _ _ h => h) (Or.inl ⟨by rfl, ?_⟩) ?_ ?_
       rotate_left
       ·intro w'
        go_simp
        with_reducible rfl
       rotate_left
       ·simp only [Act.put, List.setIfInBounds_toArray, List.set_cons_zero, List.set_cons_succ, i64_w, i32_w]
        rfl
       refine done_ (done_of HT_.out (by kernel_rfl)) ?_
       go_upto_region 5 with (fail)
       go_cut [39] (fun v39 wc => ∃ (kq : Nat) (x39_13 : Bool), v39 = .bool x39_13 ∧ Az (desc_Parse.j1 kq a0 t181 t196 x39_13 = some (r1, r2, r3, r4, r5, r6, r7)) ∧ Az (kq ≤ kj2) ∧ Az (Kd.R Kd.string 9 wc w.heap.size (fun k_ => (w.heap.size ≤ k_)) (.slice (some ad185) t181.length co16) t181) ∧ Az (Kd.R (Kd.int .i64) 2 wc w.heap.size (fun k_ => (w.heap.size ≤ k_)) v198 t196) ∧ Az (wc.heap[gb180]? = some (.cells #[.int .i64 0, .string (⟨#[]⟩ : ByteArray), .string (⟨#[]⟩ : ByteArray), .int .i64 0, (.slice none 0 0), .int .i64 0] 26 (0, 0))) ∧ Az (Kd.C Kd.string wc A17 y189.length y189) ∧ Az (Below w.heap.size w wc))
       case first =>
        have H := HC14.out
        clear HC14
        by_cases c23 : t197 = true
        ·subst c23
         rw [if_pos rfl] at H
         have H' := Az.mk H
         clear H
         obtain ⟨Ao24, co24, eo24⟩ := Kd.R_slice HO199.out
         subst eo24
         go_wp2
         go_meet
         case rel => exact ⟨_, ((((t196.length : Int) % 2) == 0)), (by first | rfl | (simp; done) | (simp [*]; done)), H', ⟨by have := HJ2.out; first | omega | exact Nat.le_refl _⟩, ⟨by (with_reducible repeat (first | apply Kd.R_alloc | apply Kd.R_drewN | apply Kd.R_drew)); exact Kd.R_mono HO_4.out (fun _ hk => hk.1)⟩, ⟨by (with_reducible repeat (first | apply Kd.R_alloc | apply Kd.R_drewN | apply Kd.R_drew)); exact Kd.R_mono HO199.out (fun _ hk => hk.1)⟩, ⟨by refine bk ?_; exact BK180.out⟩, ⟨by repeat (first | (with_reducible exact HR192.out) | (with_reducible refine Kd.C_alloc ?_ _) | (with_reducible refine Kd.C_drewN ?_ _) | (with_reducible refine Kd.C_drew ?_) | exact HR192.out)⟩, ⟨by exact pbE HB.out⟩⟩
        ·replace c23 := Bool.eq_false_iff.mpr c23
         subst c23
         rw [if_neg (show ¬ (false = true) by decide)] at H
         have H' := Az.mk H
         clear H
         go_wp2
         go_meet
         case rel => exact ⟨_, (true), (by first | rfl | (simp; done) | (simp [*]; done)), H', ⟨by have := HJ2.out; first | omega | exact Nat.le_refl _⟩, ⟨by (with_reducible repeat (first | apply Kd.R_alloc | apply Kd.R_drewN | apply Kd.R_drew)); exact Kd.R_mono HO_4.out (fun _ hk => hk.1)⟩, ⟨by (with_reducible repeat (first | apply Kd.R_alloc | apply Kd.R_drewN | apply Kd.R_drew)); exact Kd.R_mono HO199.out (fun _ hk => hk.1)⟩, ⟨by refine bk ?_; exact BK180.out⟩, ⟨by repeat (first | (with_reducible exact HR192.out) | (with_reducible refine Kd.C_alloc ?_ _) | (with_reducible refine Kd.C_drewN ?_ _) | (with_reducible refine Kd.C_drew ?_) | exact HR192.out)⟩, ⟨by exact pbE HB.out⟩⟩
       case rest =>
        clear HC14
        try clear c1
        try clear p1
        try clear q1
        try clear hx1
        try clear qi1
        try clear c2
        try clear p2
        try clear c4
        try clear c6
        try clear c6b0
        try clear c6b1
        try clear c8
        try clear c10
        try clear c10b0
        try clear c10b1
        try clear c11
        try clear c11b0
        try clear c11b1
        try clear c12
        try clear c17
        try clear q17
        try clear p18
        try clear q18
        try clear hx18
        try clear qi18
        try clear c21
        try clear c23
        try clear hcz9
        try clear hx185_0
        try clear p185
        try clear p2
        try clear q17
        try clear q185
        obtain ⟨kq, x39_13, rfl, HA, HJ13, HO_4, HO_5, BK180, HR192, HB⟩ := hcut
        cases kq with
        | zero => exact absurd HA.out (by simp [desc_Parse.j1])
        | succ kj13 =>
         have H := HA.out
         clear HA
         simp only [desc_Parse.j1] at H
         by_cases c25 : x39_13 = true
         ·subst c25
          rw [if_pos rfl] at H
          simp only [Option.some.injEq, Prod.mk.injEq] at H
          obtain ⟨rfl, rfl, rfl, rfl, rfl, rfl, rfl⟩ := H
          have hcz26 := cells6 BK180.out
          go_wp2
          refine bodyPost_retM (results_ct rfl _ _ gb180 26 #[.int .i64 0, .string (⟨#[]⟩ : ByteArray), .string (⟨#[]⟩ : ByteArray), .int .i64 0, .slice none 0 0, .int .i64 0] (0, 0) _ rfl (by refine bk ?_; refine blk_put (cs := #[.int .i64 0, .string (⟨#[]⟩ : ByteArray), .string (⟨#[]⟩ : ByteArray), .int .i64 0, .slice none 0 0, .int .i64 0]) ?_ 5 _ rfl; refine bk ?_; refine blk_put (cs := #[.int .i64 0, .string (⟨#[]⟩ : ByteArray), .string (⟨#[]⟩ : ByteArray), .int .i64 0, .slice none 0 0, .int .i64 0]) ?_ 4 _ rfl; refine bk ?_; refine blk_put (cs := #[.int .i64 0, .string (⟨#[]⟩ : ByteArray), .string (⟨#[]⟩ : ByteArray), .int .i64 0, .slice none 0 0, .int .i64 0]) ?_ 3 _ rfl; refine bk ?_; refine blk_put (cs := #[.int .i64 0, .string (⟨#[]⟩ : ByteArray), .string (⟨#[]⟩ : ByteArray), .int .i64 0, .slice none 0 0, .int .i64 0]) ?_ 2 _ rfl; refine bk ?_; refine blk_put (cs := #[.int .i64 0, .string (⟨#[]⟩ : ByteArray), .string (⟨#[]⟩ : ByteArray), .int .i64 0, .slice none 0 0, .int .i64 0]) ?_ 1 _ rfl; refine bk ?_; refine blk_put (cs := #[.int .i64 0, .string (⟨#[]⟩ : ByteArray), .string (⟨#[]⟩ : ByteArray), .int .i64 0, .slice none 0 0, .int .i64 0]) ?_ 0 _ rfl; refine bk ?_; exact BK180.out) Tryd.underlying26 rfl (by kernel_rfl)) rfl ?_
          exact ⟨_, by first | rfl | (simp [errW_none, errW_some] <;> rfl) | (simp [*, errW_none, errW_some] <;> rfl), Kd.V_nil _ _ _ _ _, by exact pbE HB.out⟩
         ·replace c25 := Bool.eq_false_iff.mpr c25
          subst c25
          rw [if_neg (show ¬ (false = true) by decide)] at H
          by_cases c27 : 0 < (t196.length : Int)
          ·rw [if_pos c27] at H
           have c27b0 : decide (0 < (t196.length : Int)) = true := decide_eq_true c27
           have c27b1 : decide (0 < t196.length) = true := decide_eq_true (by omega)
           clear c27
           by_cases c28 : 1 < (t181.length : Int)
           ·rw [if_pos c28] at H
            have c28b0 : decide (1 < (t181.length : Int)) = true := decide_eq_true c28
            have c28b1 : decide (1 < t181.length) = true := decide_eq_true (by omega)
            clear c28
            by_cases c29 : 2 < (t181.length : Int)
            ·rw [if_pos c29] at H
             have c29b0 : decide (2 < (t181.length : Int)) = true := decide_eq_true c29
             have c29b1 : decide (2 < t181.length) = true := decide_eq_true (by omega)
             clear c29
             by_cases c30 : 1 < (t196.length : Int)
             ·rw [if_pos c30] at H
              have c30b0 : decide (1 < (t196.length : Int)) = true := decide_eq_true c30
              have c30b1 : decide (1 < t196.length) = true := decide_eq_true (by omega)
              clear c30
              by_cases c31 : 2 < (t196.length : Int)
              ·rw [if_pos c31] at H
               have c31b0 : decide (2 < (t196.length : Int)) = true := decide_eq_true c31
               have c31b1 : decide (2 < t196.length) = true := decide_eq_true (by omega)
               clear c31
               replace H := Option.bind_eq_some_iff.mp H
               obtain ⟨t205, A320, H⟩ := H
               try dsimp only at H
               have A32 := Az.mk A320
               clear A320
               replace H := Option.bind_eq_some_iff.mp H
               obtain ⟨t208, A330, H⟩ := H
               try dsimp only at H
               have A33 := Az.mk A330
               clear A330
               by_cases c34 : t208.toList = a0.toList
               ·rw [if_pos c34] at H
                have c34b0 : (t208.toList == a0.toList) = true := beq_iff_eq.mpr c34
                have c34b1 : (t208.toList != a0.toList) = false := bne_eq_false_iff_eq.mpr c34
                clear c34
                replace H := Option.bind_eq_some_iff.mp H
                obtain ⟨⟨t209, t210, t211, t212, t213, t216, t217⟩, A350, H⟩ := H
                try dsimp only at H
                have A35 := Az.mk A350
                clear A350
                simp only [Option.some.injEq, Prod.mk.injEq] at H
                obtain ⟨rfl, rfl, rfl, rfl, rfl, rfl, rfl⟩ := H
                try go_wp2
                replace HO_4 := Az.mk (Kd.R_drew HO_4.out)
                replace HO_5 := Az.mk (Kd.R_drew HO_5.out)
                replace BK180 := Az.mk (bkD BK180.out)
                replace HR192 := Az.mk (Kd.C_drew HR192.out)
                replace HB := Az.mk (pb1 HB.out)
                obtain ⟨Ao37, co37, eo37⟩ := Kd.R_slice HO_5.out
                (first | subst eo37 | (injection eo37 with f1_ f2_ f3_; have f4_ := f1_.symm; have f5_ := f3_.symm; clear f1_ f2_ f3_; subst f4_; subst f5_))
                have p200 : 0 ≤ (0 : Int) := (by omega)
                have q200 : 0 < (t196.length : Int) := of_decide_eq_true (by first | (with_reducible assumption) | assumption)
                obtain ⟨ad200, e200, hx200_0⟩ := Kd.at_int (Kd.R_reads' HO_5.out).2.2 0 p200 q200
                cases e200
                have qi200 : (0 < t196.length) = True := eq_true (by omega)
                (try rw [show ((0 : Int)).toNat = 0 from rfl] at hx200_0)
                (try rw [Addr.add_zero'] at hx200_0)
                replace p200 := eq_true p200
                replace q200 := eq_true q200
                have p201 : 0 ≤ (1 : Int) := (by omega)
                have q201 : 1 < (t181.length : Int) := of_decide_eq_true (by first | (with_reducible assumption) | assumption)
                obtain ⟨ad201, e201, hx201_0⟩ := Kd.at_string (Kd.R_reads' HO_4.out).2.2 1 p201 q201
                obtain rfl : ad185 = ad201 := (by injection e201)
                (try simp only [show (1 : Int).toNat = 1 from rfl, Nat.reduceMul, Nat.reduceEqDiff, Go.Addr.add, ↓reduceIte] at hx201_0)
                have qi201 : (1 < t181.length) = True := eq_true (by omega)
                (try rw [show ((1 : Int)).toNat = 1 from rfl] at hx201_0)
                replace p201 := eq_true p201
                replace q201 := eq_true q201
                have p202 : 0 ≤ (2 : Int) := (by omega)
                have q202 : 2 < (t181.length : Int) := of_decide_eq_true (by first | (with_reducible assumption) | assumption)
                obtain ⟨ad202, e202, hx202_0⟩ := Kd.at_string (Kd.R_reads' HO_4.out).2.2 2 p202 q202
                obtain rfl : ad185 = ad202 := (by injection e202)
                (try simp only [show (2 : Int).toNat = 2 from rfl, Nat.reduceMul, Nat.reduceEqDiff, Go.Addr.add, ↓reduceIte] at hx202_0)
                have qi202 : (2 < t181.length) = True := eq_true (by omega)
                (try rw [show ((2 : Int)).toNat = 2 from rfl] at hx202_0)
                replace p202 := eq_true p202
                replace q202 := eq_true q202
                have p203 : 0 ≤ (1 : Int) := (by omega)
                have q203 : 1 < (t196.length : Int) := of_decide_eq_true (by first | (with_reducible assumption) | assumption)
                obtain ⟨ad203, e203, hx203_0⟩ := Kd.at_int (Kd.R_reads' HO_5.out).2.2 1 p203 q203
                obtain rfl : ad200 = ad203 := (by injection e203)
                (try simp only [show (1 : Int).toNat = 1 from rfl, Nat.reduceMul, Nat.reduceEqDiff, Go.Addr.add, ↓reduceIte] at hx203_0)
                have qi203 : (1 < t196.length) = True := eq_true (by omega)
                (try rw [show ((1 : Int)).toNat = 1 from rfl] at hx203_0)
                replace p203 := eq_true p203
                replace q203 := eq_true q203
                have p204 : 0 ≤ (2 : Int) := (by omega)
                have q204 : 2 < (t196.length : Int) := of_decide_eq_true (by first | (with_reducible assumption) | assumption)
                obtain ⟨ad204, e204, hx204_0⟩ := Kd.at_int (Kd.R_reads' HO_5.out).2.2 2 p204 q204
                obtain rfl : ad200 = ad204 := (by injection e204)
                (try simp only [show (2 : Int).toNat = 2 from rfl, Nat.reduceMul, Nat.reduceEqDiff, Go.Addr.add, ↓reduceIte] at hx204_0)
                have qi204 : (2 < t196.length) = True := eq_true (by omega)
                (try rw [show ((2 : Int)).toNat = 2 from rfl] at hx204_0)
                replace p204 := eq_true p204
                replace q204 := eq_true q204
                refine start_ (n := 18) (S := fun w' => w'.cell? ad200 = some (.int .i64 (rd t196 0)) ∧ w'.cell? ⟨ad185.block, ad185.off + 1, none⟩ = some (.string (rdOf ByteArray.empty t181 1)) ∧ w'.cell? ⟨ad185.block, ad185.off + 2, none⟩ = some (.string (rdOf ByteArray.empty t181 2)) ∧ w'.cell? ⟨ad200.block, ad200.off + 1, none⟩ = some (.int .i64 (rd t196 1)) ∧ w'.cell? ⟨ad200.block, ad200.off + 2, none⟩ = some (.int .i64 (rd t196 2))) (ds := []) #[false, false, false, false, false, false, false, false, false, false, false, false, false, false, false, false, false, false] (by kernel_rfl) rfl rfl ⟨hx200_0, hx201_0, hx202_0, hx203_0, hx204_0⟩ (fun hHeld => ?_); refine with_tabW desc_Parse.tab7 desc_Parse.bits7 (fun HT_ HW_ => ?_)
                generalize wc.drew = w36 at HO_4 HO_5 BK180 HR192 HB hx200_0 hx201_0 hx202_0 hx203_0 hx204_0 hHeld ⊢
                refine pure_ (i := 0) (N := some 41) (v := ?_) (a' := ?_) #[true, false, false, false, false, false, false, false, false, false, false, false, false, false, false, false, false, false] rfl rfl (any_of HT_.out (by kernel_rfl)) (fun _ _ _ h => h) (Or.inl ⟨by rfl, ?_⟩) ?_ ?_
                rotate_left
                ·intro w'
                 go_simp
                 with_reducible rfl
                rotate_left
                ·simp only [Act.put, List.setIfInBounds_toArray, List.set_cons_zero, List.set_cons_succ, i64_w, i32_w]
                 rfl
                refine pure_ (i := 1) (N := some 42) (v := ?_) (a' := ?_) #[true, true, false, false, false, false, false, false, false, false, false, false, false, false, false, false, false, false] rfl rfl (any_of HT_.out (by kernel_rfl)) (fun _ _ _ h => h) (Or.inl ⟨by rfl, ?_⟩) ?_ ?_
                rotate_left
                ·intro w'
                 go_simp
                 with_reducible rfl
                rotate_left
                ·simp only [Act.put, List.setIfInBounds_toArray, List.set_cons_zero, List.set_cons_succ, i64_w, i32_w]
                 rfl
                refine pure_ (i := 3) (N := some 44) (v := ?_) (a' := ?_) #[true, true, false, true, false, false, false, false, false, false, false, false, false, false, false, false, false, false] rfl rfl (any_of HT_.out (by kernel_rfl)) (fun _ _ _ h => h) (Or.inl ⟨by rfl, ?_⟩) ?_ ?_
                rotate_left
                ·intro w'
                 go_simp
                 with_reducible rfl
                rotate_left
                ·simp only [Act.put, List.setIfInBounds_toArray, List.set_cons_zero, List.set_cons_succ, i64_w, i32_w]
                 rfl
                refine pure_ (i := 4) (N := some 45) (v := ?_) (a' := ?_) #[true, true, false, true, true, false, false, false, false, false, false, false, false, false, false, false, false, false] rfl rfl (any_of HT_.out (by kernel_rfl)) (fun _ _ _ h => h) (Or.inl ⟨by rfl, ?_⟩) ?_ ?_
                rotate_left
                ·intro w'
                 go_simp
                 with_reducible rfl
                rotate_left
                ·simp only [Act.put, List.setIfInBounds_toArray, List.set_cons_zero, List.set_cons_succ, i64_w, i32_w]
                 rfl
                refine pure_ (i := 6) (N := some 47) (v := ?_) (a' := ?_) #[true, true, false, true, true, false, true, false, false, false, false, false, false, false, false, false, false, false] rfl rfl (any_of HT_.out (by kernel_rfl)) (fun _ _ _ h => h) (Or.inl ⟨by rfl, ?_⟩) ?_ ?_
                rotate_left
                ·intro w'
                 go_simp
                 with_reducible rfl
                rotate_left
                ·simp only [Act.put, List.setIfInBounds_toArray, List.set_cons_zero, List.set_cons_succ, i64_w, i32_w]
                 rfl
                refine pure_ (i := 7) (N := some 48) (v := ?_) (a' := ?_) #[true, true, false, true, true, false, true, true, false, false, false, false, false, false, false, false, false, false] rfl rfl (any_of HT_.out (by kernel_rfl)) (fun _ _ _ h => h) (Or.inl ⟨by rfl, ?_⟩) ?_ ?_
                rotate_left
                ·intro w'
                 go_simp
                 with_reducible rfl
                rotate_left
                ·simp only [Act.put, List.setIfInBounds_toArray, List.set_cons_zero, List.set_cons_succ, i64_w, i32_w]
                 rfl
                refine pure_ (i := 10) (N := some 51) (v := ?_) (a' := ?_) #[true, true, false, true, true, false, true, true, false, false, true, false, false, false, false, false, false, false] rfl rfl (any_of HT_.out (by kernel_rfl)) (fun _ _ _ h => h) (Or.inl ⟨by rfl, ?_⟩) ?_ ?_
                rotate_left
                ·intro w'
                 go_simp
                 with_reducible rfl
                rotate_left
                ·simp only [Act.put, List.setIfInBounds_toArray, List.set_cons_zero, List.set_cons_succ, i64_w, i32_w]
                 rfl
                refine pure_ (i := 11) (N := some 52) (v := ?_) (a' := ?_) #[true, true, false, true, true, false, true, true, false, false, true, true, false, false, false, false, false, false] rfl rfl (any_of HT_.out (by kernel_rfl)) (fun _ _ _ h => h) (Or.inl ⟨by rfl, ?_⟩) ?_ ?_
                rotate_left
                ·intro w'
                 go_simp
                 with_reducible rfl
                rotate_left
                ·simp only [Act.put, List.setIfInBounds_toArray, List.set_cons_zero, List.set_cons_succ, i64_w, i32_w]
                 rfl
                refine pure_ (i := 13) (N := some 54) (v := ?_) (a' := ?_) #[true, true, false, true, true, false, true, true, false, false, true, true, false, true, false, false, false, false] rfl rfl (any_of HT_.out (by kernel_rfl)) (fun _ _ _ h => h) (Or.inl ⟨by rfl, ?_⟩) ?_ ?_
                rotate_left
                ·intro w'
                 go_simp
                 with_reducible rfl
                rotate_left
                ·simp only [Act.put, List.setIfInBounds_toArray, List.set_cons_zero, List.set_cons_succ, i64_w, i32_w]
                 rfl
                refine pure_ (i := 14) (N := some 55) (v := ?_) (a' := ?_) #[true, true, false, true, true, false, true, true, false, false, true, true, false, true, true, false, false, false] rfl rfl (any_of HT_.out (by kernel_rfl)) (fun _ _ _ h => h) (Or.inl ⟨by rfl, ?_⟩) ?_ ?_
                rotate_left
                ·intro w'
                 go_simp
                 with_reducible rfl
                rotate_left
                ·simp only [Act.put, List.setIfInBounds_toArray, List.set_cons_zero, List.set_cons_succ, i64_w, i32_w]
                 rfl
                refine take_ (i := 2) (N := some 43) (v := ?_) (a' := ?_) #[true, true, true, true, true, false, true, true, false, false, true, true, false, true, true, false, false, false] rfl rfl (take_ofW HT_.out HW_.out (by kernel_rfl)) (fun _ _ _ h => h) (Or.inl ⟨by rfl, ?_⟩) hHeld ?_ ?_
                rotate_left
                ·rintro w' ⟨s0, s1, s2, s3, s4⟩
                 go_simp
                 with_reducible rfl
                rotate_left
                ·simp only [Act.put, List.setIfInBounds_toArray, List.set_cons_zero, List.set_cons_succ, i64_w, i32_w]
                 rfl
                refine take_ (i := 5) (N := some 46) (v := ?_) (a' := ?_) #[true, true, true, true, true, true, true, true, false, false, true, true, false, true, true, false, false, false] rfl rfl (take_ofW HT_.out HW_.out (by kernel_rfl)) (fun _ _ _ h => h) (Or.inl ⟨by rfl, ?_⟩) hHeld ?_ ?_
                rotate_left
                ·rintro w' ⟨s0, s1, s2, s3, s4⟩
                 go_simp
                 with_reducible rfl
                rotate_left
                ·simp only [Act.put, List.setIfInBounds_toArray, List.set_cons_zero, List.set_cons_succ, i64_w, i32_w]
                 rfl
                refine take_ (i := 8) (N := some 49) (v := ?_) (a' := ?_) #[true, true, true, true, true, true, true, true, true, false, true, true, false, true, true, false, false, false] rfl rfl (take_ofW HT_.out HW_.out (by kernel_rfl)) (fun _ _ _ h => h) (Or.inl ⟨by rfl, ?_⟩) hHeld ?_ ?_
                rotate_left
                ·rintro w' ⟨s0, s1, s2, s3, s4⟩
                 go_simp
                 with_reducible rfl
                rotate_left
                ·simp only [Act.put, List.setIfInBounds_toArray, List.set_cons_zero, List.set_cons_succ, i64_w, i32_w]
                 rfl
                refine pure_ (i := 9) (N := some 50) (v := ?_) (a' := ?_) #[true, true, true, true, true, true, true, true, true, true, true, true, false, true, true, false, false, false] rfl rfl (any_of HT_.out (by kernel_rfl)) (fun _ _ _ h => h) (Or.inl ⟨by rfl, ?_⟩) ?_ ?_
                rotate_left
                ·intro w'
                 go_simp
                 with_reducible rfl
                rotate_left
                ·simp only [Act.put, List.setIfInBounds_toArray, List.set_cons_zero, List.set_cons_succ, i64_w, i32_w]
                 rfl
                refine take_ (i := 12) (N := some 53) (v := ?_) (a' := ?_) #[true, true, true, true, true, true, true, true, true, true, true, true, true, true, true, false, false, false] rfl rfl (take_ofW HT_.out HW_.out (by kernel_rfl)) (fun _ _ _ h => h) (Or.inl ⟨by rfl, ?_⟩) hHeld ?_ ?_
                rotate_left
                ·rintro w' ⟨s0, s1, s2, s3, s4⟩
                 go_simp
                 with_reducible rfl
                rotate_left
                ·simp only [Act.put, List.setIfInBounds_toArray, List.set_cons_zero, List.set_cons_succ, i64_w, i32_w]
                 rfl
                refine take_ (i := 15) (N := some 56) (v := ?_) (a' := ?_) #[true, true, true, true, true, true, true, true, true, true, true, true, true, true, true, true, false, false] rfl rfl (take_ofW HT_.out HW_.out (by kernel_rfl)) (fun _ _ _ h => h) (Or.inl ⟨by rfl, ?_⟩) hHeld ?_ ?_
                rotate_left
                ·rintro w' ⟨s0, s1, s2, s3, s4⟩
                 go_simp
                 with_reducible rfl
                rotate_left
                ·simp only [Act.put, List.setIfInBounds_toArray, List.set_cons_zero, List.set_cons_succ, i64_w, i32_w]
                 rfl
                refine pure_ (i := 16) (N := some 57) (v := ?_) (a' := ?_) #[true, true, true, true, true, true, true, true, true, true, true, true, true, true, true, true, true, false] rfl rfl (any_of HT_.out (by kernel_rfl)) (fun _ _ _ h => h) (Or.inl ⟨by rfl, ?_⟩) ?_ ?_
                rotate_left
                ·intro w'
                 go_simp
                 with_reducible rfl
                rotate_left
                ·simp only [Act.put, List.setIfInBounds_toArray, List.set_cons_zero, List.set_cons_succ, i64_w, i32_w]
                 rfl
                refine one_ (i := 17) (N := none) #[true, true, true, true, true, true, true, true, true, true, true, true, true, true, true, true, true, true] rfl rfl (one_of HT_.out (by kernel_rfl)) (by decide) (fun K hK => ?_)
                have hs38 : w36.cell? ⟨gb180, 0, none⟩ = some (.int .i64 0) := (bkC BK180.out 0).trans rfl
                have hfs38 := bkF BK180.out 0
                have hs39 : w36.cell? ⟨gb180, 1, none⟩ = some (.string (⟨#[]⟩ : ByteArray)) := (bkC BK180.out 1).trans rfl
                have hfs39 := bkF BK180.out 1
                have hs40 : w36.cell? ⟨gb180, 2, none⟩ = some (.string (⟨#[]⟩ : ByteArray)) := (bkC BK180.out 2).trans rfl
                have hfs40 := bkF BK180.out 2
                have hs41 : w36.cell? ⟨gb180, 3, none⟩ = some (.int .i64 0) := (bkC BK180.out 3).trans rfl
                have hfs41 := bkF BK180.out 3
                have hs42 : w36.cell? ⟨gb180, 4, none⟩ = some (.slice none 0 0) := (bkC BK180.out 4).trans rfl
                have hfs42 := bkF BK180.out 4
                have hs43 : w36.cell? ⟨gb180, 5, none⟩ = some (.int .i64 0) := (bkC BK180.out 5).trans rfl
                have hfs43 := bkF BK180.out 5
                refine skip_ (w1 := ?_) (by rfl) rfl ?_ ?_
                rotate_left
                ·go_simp
                 rfl
                have neHO_4_ := Kd.own_blk (Kd.R_ne HO_4.out BK180.out (by decide))
                have neHO_5_ := Kd.own_blk (Kd.R_ne HO_5.out BK180.out (by decide))
                have qq0_ := cell_set6 (g := gb180) (a := ad200) neHO_5_ hHeld.1 (.int .i64 (rd t196 0)) (.string (rdOf ByteArray.empty t181 1)) (.string (rdOf ByteArray.empty t181 2)) (.int .i64 (rd t196 1)) (.slice none 0 0) (.int .i64 (rd t196 2))
                have qq1_ := cell_set6 (g := gb180) (a := ⟨ad185.block, ad185.off + 1, none⟩) neHO_4_ hHeld.2.1 (.int .i64 (rd t196 0)) (.string (rdOf ByteArray.empty t181 1)) (.string (rdOf ByteArray.empty t181 2)) (.int .i64 (rd t196 1)) (.slice none 0 0) (.int .i64 (rd t196 2))
                have qq2_ := cell_set6 (g := gb180) (a := ⟨ad185.block, ad185.off + 2, none⟩) neHO_4_ hHeld.2.2.1 (.int .i64 (rd t196 0)) (.string (rdOf ByteArray.empty t181 1)) (.string (rdOf ByteArray.empty t181 2)) (.int .i64 (rd t196 1)) (.slice none 0 0) (.int .i64 (rd t196 2))
                have qq3_ := cell_set6 (g := gb180) (a := ⟨ad200.block, ad200.off + 1, none⟩) neHO_5_ hHeld.2.2.2.1 (.int .i64 (rd t196 0)) (.string (rdOf ByteArray.empty t181 1)) (.string (rdOf ByteArray.empty t181 2)) (.int .i64 (rd t196 1)) (.slice none 0 0) (.int .i64 (rd t196 2))
                have qq4_ := cell_set6 (g := gb180) (a := ⟨ad200.block, ad200.off + 2, none⟩) neHO_5_ hHeld.2.2.2.2 (.int .i64 (rd t196 0)) (.string (rdOf ByteArray.empty t181 1)) (.string (rdOf ByteArray.empty t181 2)) (.int .i64 (rd t196 1)) (.slice none 0 0) (.int .i64 (rd t196 2))
                refine hK.out _ _ ⟨qq0_, qq1_, qq2_, qq3_, qq4_⟩ ?_
                intro hHeld
                clear hK K
                refine done_ (done_of HT_.out (by kernel_rfl)) ?_
                skip
                have n0_ : Az (Kd.R Kd.string 9 ((((((w36.setCell ⟨gb180, 0, none⟩ (.int .i64 (rd t196 0))).setCell ⟨gb180, 1, none⟩ (.string (rdOf ByteArray.empty t181 1))).setCell ⟨gb180, 2, none⟩ (.string (rdOf ByteArray.empty t181 2))).setCell ⟨gb180, 3, none⟩ (.int .i64 (rd t196 1))).setCell ⟨gb180, 4, none⟩ (.slice none 0 0)).setCell ⟨gb180, 5, none⟩ (.int .i64 (rd t196 2))) w.heap.size (fun k_ => (w.heap.size ≤ k_)) (.slice (some ad185) t181.length co16) t181) := ⟨by (with_reducible repeat (first | apply Kd.R_alloc | apply Kd.R_drewN | apply Kd.R_drew)); exact Kd.R_mono (Kd.R_far (p := ⟨gb180, 5, none⟩) (Kd.R_far (p := ⟨gb180, 4, none⟩) (Kd.R_far (p := ⟨gb180, 3, none⟩) (Kd.R_far (p := ⟨gb180, 2, none⟩) (Kd.R_far (p := ⟨gb180, 1, none⟩) (Kd.R_far (p := ⟨gb180, 0, none⟩) (Kd.R_types HO_4.out BK180.out (by decide)) (fun _ hk => hk.2) (.int .i64 (rd t196 0))) (fun _ hk => hk.2) (.string (rdOf ByteArray.empty t181 1))) (fun _ hk => hk.2) (.string (rdOf ByteArray.empty t181 2))) (fun _ hk => hk.2) (.int .i64 (rd t196 1))) (fun _ hk => hk.2) (.slice none 0 0)) (fun _ hk => hk.2) (.int .i64 (rd t196 2))) (fun _ hk => hk.1)⟩
                have n1_ : Az (Kd.R (Kd.int .i64) 2 ((((((w36.setCell ⟨gb180, 0, none⟩ (.int .i64 (rd t196 0))).setCell ⟨gb180, 1, none⟩ (.string (rdOf ByteArray.empty t181 1))).setCell ⟨gb180, 2, none⟩ (.string (rdOf ByteArray.empty t181 2))).setCell ⟨gb180, 3, none⟩ (.int .i64 (rd t196 1))).setCell ⟨gb180, 4, none⟩ (.slice none 0 0)).setCell ⟨gb180, 5, none⟩ (.int .i64 (rd t196 2))) w.heap.size (fun k_ => (w.heap.size ≤ k_)) (.slice (some ad200) t196.length co37) t196) := ⟨by (with_reducible repeat (first | apply Kd.R_alloc | apply Kd.R_drewN | apply Kd.R_drew)); exact Kd.R_mono (Kd.R_far (p := ⟨gb180, 5, none⟩) (Kd.R_far (p := ⟨gb180, 4, none⟩) (Kd.R_far (p := ⟨gb180, 3, none⟩) (Kd.R_far (p := ⟨gb180, 2, none⟩) (Kd.R_far (p := ⟨gb180, 1, none⟩) (Kd.R_far (p := ⟨gb180, 0, none⟩) (Kd.R_types HO_5.out BK180.out (by decide)) (fun _ hk => hk.2) (.int .i64 (rd t196 0))) (fun _ hk => hk.2) (.string (rdOf ByteArray.empty t181 1))) (fun _ hk => hk.2) (.string (rdOf ByteArray.empty t181 2))) (fun _ hk => hk.2) (.int .i64 (rd t196 1))) (fun _ hk => hk.2) (.slice none 0 0)) (fun _ hk => hk.2) (.int .i64 (rd t196 2))) (fun _ hk => hk.1)⟩
                have n2_ : Az (((((((w36.setCell ⟨gb180, 0, none⟩ (.int .i64 (rd t196 0))).setCell ⟨gb180, 1, none⟩ (.string (rdOf ByteArray.empty t181 1))).setCell ⟨gb180, 2, none⟩ (.string (rdOf ByteArray.empty t181 2))).setCell ⟨gb180, 3, none⟩ (.int .i64 (rd t196 1))).setCell ⟨gb180, 4, none⟩ (.slice none 0 0)).setCell ⟨gb180, 5, none⟩ (.int .i64 (rd t196 2))).heap[gb180]? = some (.cells #[.int .i64 (rd t196 0), .string (rdOf ByteArray.empty t181 1), .string (rdOf ByteArray.empty t181 2), .int .i64 (rd t196 1), .slice none 0 0, .int .i64 (rd t196 2)] 26 (0, 0))) := ⟨by refine bk ?_; refine blk_put (cs := #[.int .i64 (rd t196 0), .string (rdOf ByteArray.empty t181 1), .string (rdOf ByteArray.empty t181 2), .int .i64 (rd t196 1), .slice none 0 0, .int .i64 0]) ?_ 5 _ rfl; refine bk ?_; refine blk_put (cs := #[.int .i64 (rd t196 0), .string (rdOf ByteArray.empty t181 1), .string (rdOf ByteArray.empty t181 2), .int .i64 (rd t196 1), .slice none 0 0, .int .i64 0]) ?_ 4 _ rfl; refine bk ?_; refine blk_put (cs := #[.int .i64 (rd t196 0), .string (rdOf ByteArray.empty t181 1), .string (rdOf ByteArray.empty t181 2), .int .i64 0, .slice none 0 0, .int .i64 0]) ?_ 3 _ rfl; refine bk ?_; refine blk_put (cs := #[.int .i64 (rd t196 0), .string (rdOf ByteArray.empty t181 1), .string (⟨#[]⟩ : ByteArray), .int .i64 0, .slice none 0 0, .int .i64 0]) ?_ 2 _ rfl; refine bk ?_; refine blk_put (cs := #[.int .i64 (rd t196 0), .string (⟨#[]⟩ : ByteArray), .string (⟨#[]⟩ : ByteArray), .int .i64 0, .slice none 0 0, .int .i64 0]) ?_ 1 _ rfl; refine bk ?_; refine blk_put (cs := #[.int .i64 0, .string (⟨#[]⟩ : ByteArray), .string (⟨#[]⟩ : ByteArray), .int .i64 0, .slice none 0 0, .int .i64 0]) ?_ 0 _ rfl; refine bk ?_; exact BK180.out⟩
                have n3_ : Az (Below w.heap.size w ((((((w36.setCell ⟨gb180, 0, none⟩ (.int .i64 (rd t196 0))).setCell ⟨gb180, 1, none⟩ (.string (rdOf ByteArray.empty t181 1))).setCell ⟨gb180, 2, none⟩ (.string (rdOf ByteArray.empty t181 2))).setCell ⟨gb180, 3, none⟩ (.int .i64 (rd t196 1))).setCell ⟨gb180, 4, none⟩ (.slice none 0 0)).setCell ⟨gb180, 5, none⟩ (.int .i64 (rd t196 2)))) := ⟨by exact pbE HB.out⟩
                (try clear HO_4)
                (try clear HO_5)
                (try clear BK180)
                (try clear HB)
                generalize ((((((w36.setCell ⟨gb180, 0, none⟩ (.int .i64 (rd t196 0))).setCell ⟨gb180, 1, none⟩ (.string (rdOf ByteArray.empty t181 1))).setCell ⟨gb180, 2, none⟩ (.string (rdOf ByteArray.empty t181 2))).setCell ⟨gb180, 3, none⟩ (.int .i64 (rd t196 1))).setCell ⟨gb180, 4, none⟩ (.slice none 0 0)).setCell ⟨gb180, 5, none⟩ (.int .i64 (rd t196 2))) = w44 at n0_ n1_ n2_ n3_ ⊢
                have HO_4 := n0_
                have HO_5 := n1_
                have BK180 := n2_
                have HB := n3_
                clear n0_ n1_ n2_ n3_
                obtain ⟨N_, hlN, hN9, hT⟩ := chunk_open A32.out
                have hmf : ∀ (fn : Fn) (first cap : Array Value) (w : World), (Instr.makeFunc fn first cap).run Tryd.prog w = .ok (.func fn first cap) w := fun _ _ _ _ => rfl
                have hcl_ := (Kd.R_reads' HO_5.out).2.1
                have hF3 := Kd.F_cut (m := 3) (Kd.R_F (Kd.R_types HO_5.out BK180.out (by decide))) (by omega) hcl_
                rw [show (t196.drop 3).length = 2 * N_ by rw [List.length_drop]; omega] at hF3
                have hi3 : (3 : Int) ≤ (t196.length : Int) := by omega
                have hc3 : (3 : Int) ≤ (co37 : Int) := by omega
                have hlN2 : t196.length - 3 = 2 * N_ := by omega
                obtain ⟨i0_, hi0_, _, hsz_, _⟩ := info_parts info2
                have hcut_ := cut_from (P := Tryd.prog) 83 2 .i64 Tryd.underlying83 hi0_ 1 hsz_ (some ad200) t196.length co37 3 (by omega) hi3
                rw [show ((3 : Int).toNat) = 3 from rfl, hlN2] at hcut_
                replace hF3 : Kd.F (Kd.int .i64) w44 (fun k => k < w44.heap.size ∧ k ≠ gb180) (if co37 = 3 then some ad200 else some { block := ad200.block, off := ad200.off + 3 }) (2 * N_) (t196.drop 3) := Kd.F_mono (Kd.F_bound hF3) (fun k h => ⟨h.2, h.1.2⟩)
                have hcc_ : 2 * N_ ≤ co37 - 3 := by omega
                have hNb_ : N_ ≤ 1000000000 := by omega
                clear hi0_ hsz_ hlN2 hc3 hi3 hcl_
                with_reducible unfold Exit.then
                simp only []
                apply_assumption
                repeat (first | (go_big_may; go_in) | go_values | go_skip | go_guarded | go_step | go_upon | go_back)
                refine parse_range (hcode := ?side) (BK := BK180.out) (hF := hF3) (hN := hNb_) (hc := hcc_) (hK := ?_)
                case side => kernel_rfl
                intro X_ W_ w46 v206 hW_ hb ho0' hX_ HX_
                subst hW_
                have ho0 := Kd.R_lower ho0' (Nat.le_add_right w44.heap.size 2)
                rw [← hT] at ho0
                clear ho0' hT hF3 hcc_ hNb_ hN9 hlN
                have GX_ : w.heap.size ≤ X_ := Nat.le_trans (pbZ HB.out) hX_
                have GXg_ : X_ ≠ gb180 := (by
                 rintro rfl
                 have h_ := (bkB BK180.out hb).symm.trans HX_
                 cases h_)
                clear hX_
                replace HO_4 := Az.mk (Kd.R_below (Kd.R_ext HO_4.out) hb)
                replace HO_5 := Az.mk (Kd.R_below (Kd.R_ext HO_5.out) hb)
                have HO207 := Az.mk (Kd.R_lower (Kd.R_newM (M := fun k_ => (w.heap.size ≤ k_)) (Kd.R_mono (ok' := fun k_ => True) ho0 (fun _ hk_ => trivial)) (pbZ (by exact pbE HB.out)) (fun k_ h_ => h_)) (pbZ (by exact pbE HB.out)))
                replace BK180 := Az.mk (bkB (bk BK180.out) hb)
                replace HB := Az.mk (pbT (by exact pbE HB.out) hb)
                (try clear hb)
                (try clear hb2)
                (try clear hk)
                (try clear hi)
                (try clear ho0)
                obtain ⟨Ao47, co47, eo47⟩ := Kd.R_slice HO207.out
                (first | subst eo47 | (injection eo47 with f1_ f2_ f3_; have f4_ := f1_.symm; have f5_ := f3_.symm; clear f1_ f2_ f3_; subst f4_; subst f5_))
                simp only [Exit.inBlock, Exit.then]
                apply_assumption
                have hcz49 := cells6 BK180.out
                repeat (first | (go_big_may; (first | ((with_reducible refine gtc (f := 19) rfl ?_); refine goesL_ (some 75) rfl rfl Tryd.func19 (by kernel_rfl) rfl #[.agg #[.int .i64 (rd t196 0), .string (rdOf ByteArray.empty t181 1), .string (rdOf ByteArray.empty t181 2), .int .i64 (rd t196 1), .slice Ao47 t205.length co47, .int .i64 (rd t196 2)]] rfl (by (try simp only [List.map_toArray, List.map_cons, List.map_nil]); first | done | rfl | (simp only [List.length_drop, List.length_take]; rfl)) ?_; (with_reducible refine (desc_Put.calls kj13 (rd t196 0) (rdOf ByteArray.empty t181 1) (rdOf ByteArray.empty t181 2) (rd t196 1) _ _ t205 (rd t196 2) t208 _ ?side1 ?side2 ?side3 A33.out).mono ?_); (case side1 => exact hG.below (by exact pbE HB.out)); (case side2 => refine (Kd.R_reads' (e := 60) (base := w.heap.size) (ok := fun k_ => ((w.heap.size ≤ k_) ∧ True)) (n := t205.length) (c := co47) ?_).2.2; exact (by (with_reducible repeat (first | apply Kd.R_alloc | apply Kd.R_drewN | apply Kd.R_drew)); exact (Kd.R_mono (Kd.R_far (p := ⟨gb180, 4, none⟩) (Kd.R_types HO207.out BK180.out (by decide)) (fun _ hk => hk.2) (.slice Ao47 t205.length co47)) (fun _ h_ => h_.1)))); (case side3 => exact (Kd.R_reads' HO207.out).2.1); rintro e w50 ⟨rfl, hb⟩; have HX_ := bkB (g := X_) (o := .deferred (some [])) (by repeat (first | (with_reducible exact HX_) | with_reducible refine (Below.heap_setCell _ ⟨gb180, _, none⟩ _ X_ GXg_).trans ?_)) hb; refine ⟨_, rfl, ?_⟩; replace HO_4 := Az.mk (Kd.R_below (by (with_reducible repeat (first | apply Kd.R_alloc | apply Kd.R_drewN | apply Kd.R_drew)); exact (Kd.R_mono (Kd.R_far (p := ⟨gb180, 4, none⟩) (Kd.R_types HO_4.out BK180.out (by decide)) (fun _ hk => hk.2) (.slice Ao47 t205.length co47)) (fun _ h_ => h_.1))) hb); replace HO_5 := Az.mk (Kd.R_below (by (with_reducible repeat (first | apply Kd.R_alloc | apply Kd.R_drewN | apply Kd.R_drew)); exact (Kd.R_mono (Kd.R_far (p := ⟨gb180, 4, none⟩) (Kd.R_types HO_5.out BK180.out (by decide)) (fun _ hk => hk.2) (.slice Ao47 t205.length co47)) (fun _ h_ => h_.1))) hb); replace HO207 := Az.mk (Kd.R_below (by (with_reducible repeat (first | apply Kd.R_alloc | apply Kd.R_drewN | apply Kd.R_drew)); exact (Kd.R_mono (Kd.R_far (p := ⟨gb180, 4, none⟩) (Kd.R_types HO207.out BK180.out (by decide)) (fun _ hk => hk.2) (.slice Ao47 t205.length co47)) (fun _ h_ => h_.1))) hb); replace BK180 := Az.mk (bkB (g := gb180) (o := .cells #[.int .i64 (rd t196 0), .string (rdOf ByteArray.empty t181 1), .string (rdOf ByteArray.empty t181 2), .int .i64 (rd t196 1), .slice Ao47 t205.length co47, .int .i64 (rd t196 2)] 26 (0, 0)) (by refine bk ?_; refine blk_put (cs := #[.int .i64 (rd t196 0), .string (rdOf ByteArray.empty t181 1), .string (rdOf ByteArray.empty t181 2), .int .i64 (rd t196 1), .slice none 0 0, .int .i64 (rd t196 2)]) ?_ 4 _ rfl; refine bk ?_; exact BK180.out) hb); replace HB := Az.mk (pbT (by exact pbE HB.out) hb); (try clear hb); (try clear hb2); (try clear hk); (try clear hi); have hcz51 := cells6 BK180.out) | ((with_reducible refine gtc (f := 37) rfl ?_); refine goesL_ (some 80) rfl rfl Tryd.func37 (by kernel_rfl) rfl #[.agg #[.int .i64 (rd t196 0), .string (rdOf ByteArray.empty t181 1), .string (rdOf ByteArray.empty t181 2), .int .i64 (rd t196 1), .slice Ao47 t205.length co47, .int .i64 (rd t196 2)]] rfl (by (try simp only [List.map_toArray, List.map_cons, List.map_nil]); first | done | rfl | (simp only [List.length_drop, List.length_take]; rfl)) ?_; (with_reducible refine (desc_right.calls (rd t196 0) (rdOf ByteArray.empty t181 1) (rdOf ByteArray.empty t181 2) (rd t196 1) (fun k_ => some k_ = (.slice Ao47 t205.length co47 : Value).ownBlock) _ _ t205 (rd t196 2) t209 t210 t211 t212 t213 t216 t217 _ ?side1 ?side2 A35.out).mono ?_); (case side1 => exact hG.below (by exact pbE HB.out)); (case side2 => exact Kd.R_V (Kd.R_tight rfl (Kd.R_types (Kd.R_apart' (Kd.R_apart' (HO207.out) (Kd.R_typed HO_4.out) (by decide)) (Kd.R_typed HO_5.out) (by decide)) BK180.out (by decide)))); rintro e w52 ⟨v214, rfl, ho0, hb⟩; have HX_ := bkB (g := X_) (o := .deferred (some [])) (by repeat (first | (with_reducible exact HX_) | with_reducible refine (Below.heap_setCell _ ⟨gb180, _, none⟩ _ X_ GXg_).trans ?_)) hb; refine ⟨_, rfl, ?_⟩; have HO215 := Az.mk (Kd.V_lower (Kd.V_mono (ok' := fun k_ => (w.heap.size ≤ k_) ∧ some k_ ≠ (.slice (some ad185) t181.length co16 : Value).ownBlock ∧ some k_ ≠ (.slice (some ad200) t196.length co37 : Value).ownBlock ∧ k_ ≠ gb180) ho0 (fun k_ hk_ => ⟨Or.elim hk_ (fun hs_ => ((Kd.R_types (Kd.R_apart' (Kd.R_apart' (HO207.out) (Kd.R_typed HO_4.out) (by decide)) (Kd.R_typed HO_5.out) (by decide)) BK180.out (by decide)).1 k_ hs_.symm).1.1.1.1) (fun hn_ => (Nat.le_trans (pbZ (by exact pbE HB.out)) hn_)), Or.elim hk_ (fun hs_ => ((Kd.R_types (Kd.R_apart' (Kd.R_apart' (HO207.out) (Kd.R_typed HO_4.out) (by decide)) (Kd.R_typed HO_5.out) (by decide)) BK180.out (by decide)).1 k_ hs_.symm).1.1.2) (fun hn_ => (Kd.fresh' (Kd.R_lt (Kd.R_ext HO_4.out)) k_ hn_)), Or.elim hk_ (fun hs_ => ((Kd.R_types (Kd.R_apart' (Kd.R_apart' (HO207.out) (Kd.R_typed HO_4.out) (by decide)) (Kd.R_typed HO_5.out) (by decide)) BK180.out (by decide)).1 k_ hs_.symm).1.2) (fun hn_ => (Kd.fresh' (Kd.R_lt (Kd.R_ext HO_5.out)) k_ hn_)), Or.elim hk_ (fun hs_ => ((Kd.R_types (Kd.R_apart' (Kd.R_apart' (HO207.out) (Kd.R_typed HO_4.out) (by decide)) (Kd.R_typed HO_5.out) (by decide)) BK180.out (by decide)).1 k_ hs_.symm).2) (fun hn_ => (Kd.freshB (bk BK180.out) k_ hn_))⟩)) (pbZ (by exact pbE HB.out))); replace HO_4 := Az.mk (Kd.R_below (Kd.R_ext HO_4.out) hb); replace HO_5 := Az.mk (Kd.R_below (Kd.R_ext HO_5.out) hb); replace HO207 := Az.mk (Kd.R_below (Kd.R_ext HO207.out) hb); replace BK180 := Az.mk (bkB (bk BK180.out) hb); replace HB := Az.mk (pbT (by exact pbE HB.out) hb); (try clear hb); (try clear hb2); (try clear hk); (try clear hi); (try clear ho0); have hcz53 := cells6 BK180.out; obtain ⟨Ao54, co54, eo54⟩ := Kd.V_slice HO215.out; subst eo54))) | go_values | go_skip | go_guarded | go_step | go_upon | go_back)
                apply bodyPost_retD (X := X_)
                case hd => rfl
                case hX => exact (by repeat (first | (with_reducible exact HX_) | with_reducible refine (Below.heap_setCell _ ⟨gb180, _, none⟩ _ X_ GXg_).trans ?_))
                case hr => refine results_ct rfl _ _ gb180 26 #[.int .i64 t209, .string t210, .string t211, .int .i64 t212, .slice Ao54 t213.length co54, .int .i64 t216] (0, 0) _ rfl ?_ Tryd.underlying26 rfl (by kernel_rfl); refine (World.putObj_heap_other GXg_.symm).trans ?_; exact (by refine bk ?_; refine blk_put (cs := #[.int .i64 t209, .string t210, .string t211, .int .i64 t212, .slice Ao54 t213.length co54, .int .i64 (rd t196 2)]) ?_ 5 _ rfl; refine bk ?_; refine blk_put (cs := #[.int .i64 t209, .string t210, .string t211, .int .i64 t212, .slice Ao47 t205.length co47, .int .i64 (rd t196 2)]) ?_ 4 _ rfl; refine bk ?_; refine blk_put (cs := #[.int .i64 t209, .string t210, .string t211, .int .i64 (rd t196 1), .slice Ao47 t205.length co47, .int .i64 (rd t196 2)]) ?_ 3 _ rfl; refine bk ?_; refine blk_put (cs := #[.int .i64 t209, .string t210, .string (rdOf ByteArray.empty t181 2), .int .i64 (rd t196 1), .slice Ao47 t205.length co47, .int .i64 (rd t196 2)]) ?_ 2 _ rfl; refine bk ?_; refine blk_put (cs := #[.int .i64 t209, .string (rdOf ByteArray.empty t181 1), .string (rdOf ByteArray.empty t181 2), .int .i64 (rd t196 1), .slice Ao47 t205.length co47, .int .i64 (rd t196 2)]) ?_ 1 _ rfl; refine bk ?_; refine blk_put (cs := #[.int .i64 (rd t196 0), .string (rdOf ByteArray.empty t181 1), .string (rdOf ByteArray.empty t181 2), .int .i64 (rd t196 1), .slice Ao47 t205.length co47, .int .i64 (rd t196 2)]) ?_ 0 _ rfl; refine bk ?_; exact BK180.out)
                exact ⟨_, by first | rfl | (simp [errW_none, errW_some] <;> rfl) | (simp [*, errW_none, errW_some] <;> rfl), V60_put (by (with_reducible repeat (first | apply Kd.V_alloc | apply Kd.V_drewN | apply Kd.V_drew)); exact Kd.V_mono (Kd.V_off (g := gb180) (fun _ hk => hk.2) (Kd.V_mono HO215.out (fun k_ hk => (⟨hk, hk.2.2.2⟩ : _ ∧ k_ ≠ gb180)))) (fun _ hk => hk.1.1)) (by repeat (first | (with_reducible exact HX_) | with_reducible refine (Below.heap_setCell _ ⟨gb180, _, none⟩ _ X_ GXg_).trans ?_)) _, below_put (by exact pbE HB.out) GX_⟩
               ·rw [if_neg c34] at H
                have c34b0 : (t208.toList == a0.toList) = false := beq_eq_false_iff_ne.mpr c34
                have c34b1 : (t208.toList != a0.toList) = true := bne_iff_ne.mpr c34
                simp only [Option.some.injEq, Prod.mk.injEq] at H
                obtain ⟨rfl, rfl, rfl, rfl, rfl, rfl, rfl⟩ := H
                try go_wp2
                replace HO_4 := Az.mk (Kd.R_drew HO_4.out)
                replace HO_5 := Az.mk (Kd.R_drew HO_5.out)
                replace BK180 := Az.mk (bkD BK180.out)
                replace HR192 := Az.mk (Kd.C_drew HR192.out)
                replace HB := Az.mk (pb1 HB.out)
                obtain ⟨Ao56, co56, eo56⟩ := Kd.R_slice HO_5.out
                (first | subst eo56 | (injection eo56 with f1_ f2_ f3_; have f4_ := f1_.symm; have f5_ := f3_.symm; clear f1_ f2_ f3_; subst f4_; subst f5_))
                have p200 : 0 ≤ (0 : Int) := (by omega)
                have q200 : 0 < (t196.length : Int) := of_decide_eq_true (by first | (with_reducible assumption) | assumption)
                obtain ⟨ad200, e200, hx200_0⟩ := Kd.at_int (Kd.R_reads' HO_5.out).2.2 0 p200 q200
                cases e200
                have qi200 : (0 < t196.length) = True := eq_true (by omega)
                (try rw [show ((0 : Int)).toNat = 0 from rfl] at hx200_0)
                (try rw [Addr.add_zero'] at hx200_0)
                replace p200 := eq_true p200
                replace q200 := eq_true q200
                have p201 : 0 ≤ (1 : Int) := (by omega)
                have q201 : 1 < (t181.length : Int) := of_decide_eq_true (by first | (with_reducible assumption) | assumption)
                obtain ⟨ad201, e201, hx201_0⟩ := Kd.at_string (Kd.R_reads' HO_4.out).2.2 1 p201 q201
                obtain rfl : ad185 = ad201 := (by injection e201)
                (try simp only [show (1 : Int).toNat = 1 from rfl, Nat.reduceMul, Nat.reduceEqDiff, Go.Addr.add, ↓reduceIte] at hx201_0)
                have qi201 : (1 < t181.length) = True := eq_true (by omega)
                (try rw [show ((1 : Int)).toNat = 1 from rfl] at hx201_0)
                replace p201 := eq_true p201
                replace q201 := eq_true q201
                have p202 : 0 ≤ (2 : Int) := (by omega)
                have q202 : 2 < (t181.length : Int) := of_decide_eq_true (by first | (with_reducible assumption) | assumption)
                obtain ⟨ad202, e202, hx202_0⟩ := Kd.at_string (Kd.R_reads' HO_4.out).2.2 2 p202 q202
                obtain rfl : ad185 = ad202 := (by injection e202)
                (try simp only [show (2 : Int).toNat = 2 from rfl, Nat.reduceMul, Nat.reduceEqDiff, Go.Addr.add, ↓reduceIte] at hx202_0)
                have qi202 : (2 < t181.length) = True := eq_true (by omega)
                (try rw [show ((2 : Int)).toNat = 2 from rfl] at hx202_0)
                replace p202 := eq_true p202
                replace q202 := eq_true q202
                have p203 : 0 ≤ (1 : Int) := (by omega)
                have q203 : 1 < (t196.length : Int) := of_decide_eq_true (by first | (with_reducible assumption) | assumption)
                obtain ⟨ad203, e203, hx203_0⟩ := Kd.at_int (Kd.R_reads' HO_5.out).2.2 1 p203 q203
                obtain rfl : ad200 = ad203 := (by injection e203)
                (try simp only [show (1 : Int).toNat = 1 from rfl, Nat.reduceMul, Nat.reduceEqDiff, Go.Addr.add, ↓reduceIte] at hx203_0)
                have qi203 : (1 < t196.length) = True := eq_true (by omega)
                (try rw [show ((1 : Int)).toNat = 1 from rfl] at hx203_0)
                replace p203 := eq_true p203
                replace q203 := eq_true q203
                have p204 : 0 ≤ (2 : Int) := (by omega)
                have q204 : 2 < (t196.length : Int) := of_decide_eq_true (by first | (with_reducible assumption) | assumption)
                obtain ⟨ad204, e204, hx204_0⟩ := Kd.at_int (Kd.R_reads' HO_5.out).2.2 2 p204 q204
                obtain rfl : ad200 = ad204 := (by injection e204)
                (try simp only [show (2 : Int).toNat = 2 from rfl, Nat.reduceMul, Nat.reduceEqDiff, Go.Addr.add, ↓reduceIte] at hx204_0)
                have qi204 : (2 < t196.length) = True := eq_true (by omega)
                (try rw [show ((2 : Int)).toNat = 2 from rfl] at hx204_0)
                replace p204 := eq_true p204
                replace q204 := eq_true q204
                refine start_ (n := 18) (S := fun w' => w'.cell? ad200 = some (.int .i64 (rd t196 0)) ∧ w'.cell? ⟨ad185.block, ad185.off + 1, none⟩ = some (.string (rdOf ByteArray.empty t181 1)) ∧ w'.cell? ⟨ad185.block, ad185.off + 2, none⟩ = some (.string (rdOf ByteArray.empty t181 2)) ∧ w'.cell? ⟨ad200.block, ad200.off + 1, none⟩ = some (.int .i64 (rd t196 1)) ∧ w'.cell? ⟨ad200.block, ad200.off + 2, none⟩ = some (.int .i64 (rd t196 2))) (ds := []) #[false, false, false, false, false, false, false, false, false, false, false, false, false, false, false, false, false, false] (by kernel_rfl) rfl rfl ⟨hx200_0, hx201_0, hx202_0, hx203_0, hx204_0⟩ (fun hHeld => ?_); refine with_tabW desc_Parse.tab7 desc_Parse.bits7 (fun HT_ HW_ => ?_)
                generalize wc.drew = w55 at HO_4 HO_5 BK180 HR192 HB hx200_0 hx201_0 hx202_0 hx203_0 hx204_0 hHeld ⊢
                refine pure_ (i := 0) (N := some 41) (v := ?_) (a' := ?_) #[true, false, false, false, false, false, false, false, false, false, false, false, false, false, false, false, false, false] rfl rfl (any_of HT_.out (by kernel_rfl)) (fun _ _ _ h => h) (Or.inl ⟨by rfl, ?_⟩) ?_ ?_
                rotate_left
                ·intro w'
                 go_simp
                 with_reducible rfl
                rotate_left
                ·simp only [Act.put, List.setIfInBounds_toArray, List.set_cons_zero, List.set_cons_succ, i64_w, i32_w]
                 rfl
                refine pure_ (i := 1) (N := some 42) (v := ?_) (a' := ?_) #[true, true, false, false, false, false, false, false, false, false, false, false, false, false, false, false, false, false] rfl rfl (any_of HT_.out (by kernel_rfl)) (fun _ _ _ h => h) (Or.inl ⟨by rfl, ?_⟩) ?_ ?_
                rotate_left
                ·intro w'
                 go_simp
                 with_reducible rfl
                rotate_left
                ·simp only [Act.put, List.setIfInBounds_toArray, List.set_cons_zero, List.set_cons_succ, i64_w, i32_w]
                 rfl
                refine pure_ (i := 3) (N := some 44) (v := ?_) (a' := ?_) #[true, true, false, true, false, false, false, false, false, false, false, false, false, false, false, false, false, false] rfl rfl (any_of HT_.out (by kernel_rfl)) (fun _ _ _ h => h) (Or.inl ⟨by rfl, ?_⟩) ?_ ?_
                rotate_left
                ·intro w'
                 go_simp
                 with_reducible rfl
                rotate_left
                ·simp only [Act.put, List.setIfInBounds_toArray, List.set_cons_zero, List.set_cons_succ, i64_w, i32_w]
                 rfl
                refine pure_ (i := 4) (N := some 45) (v := ?_) (a' := ?_) #[true, true, false, true, true, false, false, false, false, false, false, false, false, false, false, false, false, false] rfl rfl (any_of HT_.out (by kernel_rfl)) (fun _ _ _ h => h) (Or.inl ⟨by rfl, ?_⟩) ?_ ?_
                rotate_left
                ·intro w'
                 go_simp
                 with_reducible rfl
                rotate_left
                ·simp only [Act.put, List.setIfInBounds_toArray, List.set_cons_zero, List.set_cons_succ, i64_w, i32_w]
                 rfl
                refine pure_ (i := 6) (N := some 47) (v := ?_) (a' := ?_) #[true, true, false, true, true, false, true, false, false, false, false, false, false, false, false, false, false, false] rfl rfl (any_of HT_.out (by kernel_rfl)) (fun _ _ _ h => h) (Or.inl ⟨by rfl, ?_⟩) ?_ ?_
                rotate_left
                ·intro w'
                 go_simp
                 with_reducible rfl
                rotate_left
                ·simp only [Act.put, List.setIfInBounds_toArray, List.set_cons_zero, List.set_cons_succ, i64_w, i32_w]
                 rfl
                refine pure_ (i := 7) (N := some 48) (v := ?_) (a' := ?_) #[true, true, false, true, true, false, true, true, false, false, false, false, false, false, false, false, false, false] rfl rfl (any_of HT_.out (by kernel_rfl)) (fun _ _ _ h => h) (Or.inl ⟨by rfl, ?_⟩) ?_ ?_
                rotate_left
                ·intro w'
                 go_simp
                 with_reducible rfl
                rotate_left
                ·simp only [Act.put, List.setIfInBounds_toArray, List.set_cons_zero, List.set_cons_succ, i64_w, i32_w]
                 rfl
                refine pure_ (i := 10) (N := some 51) (v := ?_) (a' := ?_) #[true, true, false, true, true, false, true, true, false, false, true, false, false, false, false, false, false, false] rfl rfl (any_of HT_.out (by kernel_rfl)) (fun _ _ _ h => h) (Or.inl ⟨by rfl, ?_⟩) ?_ ?_
                rotate_left
                ·intro w'
                 go_simp
                 with_reducible rfl
                rotate_left
                ·simp only [Act.put, List.setIfInBounds_toArray, List.set_cons_zero, List.set_cons_succ, i64_w, i32_w]
                 rfl
                refine pure_ (i := 11) (N := some 52) (v := ?_) (a' := ?_) #[true, true, false, true, true, false, true, true, false, false, true, true, false, false, false, false, false, false] rfl rfl (any_of HT_.out (by kernel_rfl)) (fun _ _ _ h => h) (Or.inl ⟨by rfl, ?_⟩) ?_ ?_
                rotate_left
                ·intro w'
                 go_simp
                 with_reducible rfl
                rotate_left
                ·simp only [Act.put, List.setIfInBounds_toArray, List.set_cons_zero, List.set_cons_succ, i64_w, i32_w]
                 rfl
                refine pure_ (i := 13) (N := some 54) (v := ?_) (a' := ?_) #[true, true, false, true, true, false, true, true, false, false, true, true, false, true, false, false, false, false] rfl rfl (any_of HT_.out (by kernel_rfl)) (fun _ _ _ h => h) (Or.inl ⟨by rfl, ?_⟩) ?_ ?_
                rotate_left
                ·intro w'
                 go_simp
                 with_reducible rfl
                rotate_left
                ·simp only [Act.put, List.setIfInBounds_toArray, List.set_cons_zero, List.set_cons_succ, i64_w, i32_w]
                 rfl
                refine pure_ (i := 14) (N := some 55) (v := ?_) (a' := ?_) #[true, true, false, true, true, false, true, true, false, false, true, true, false, true, true, false, false, false] rfl rfl (any_of HT_.out (by kernel_rfl)) (fun _ _ _ h => h) (Or.inl ⟨by rfl, ?_⟩) ?_ ?_
                rotate_left
                ·intro w'
                 go_simp
                 with_reducible rfl
                rotate_left
                ·simp only [Act.put, List.setIfInBounds_toArray, List.set_cons_zero, List.set_cons_succ, i64_w, i32_w]
                 rfl
                refine take_ (i := 2) (N := some 43) (v := ?_) (a' := ?_) #[true, true, true, true, true, false, true, true, false, false, true, true, false, true, true, false, false, false] rfl rfl (take_ofW HT_.out HW_.out (by kernel_rfl)) (fun _ _ _ h => h) (Or.inl ⟨by rfl, ?_⟩) hHeld ?_ ?_
                rotate_left
                ·rintro w' ⟨s0, s1, s2, s3, s4⟩
                 go_simp
                 with_reducible rfl
                rotate_left
                ·simp only [Act.put, List.setIfInBounds_toArray, List.set_cons_zero, List.set_cons_succ, i64_w, i32_w]
                 rfl
                refine take_ (i := 5) (N := some 46) (v := ?_) (a' := ?_) #[true, true, true, true, true, true, true, true, false, false, true, true, false, true, true, false, false, false] rfl rfl (take_ofW HT_.out HW_.out (by kernel_rfl)) (fun _ _ _ h => h) (Or.inl ⟨by rfl, ?_⟩) hHeld ?_ ?_
                rotate_left
                ·rintro w' ⟨s0, s1, s2, s3, s4⟩
                 go_simp
                 with_reducible rfl
                rotate_left
                ·simp only [Act.put, List.setIfInBounds_toArray, List.set_cons_zero, List.set_cons_succ, i64_w, i32_w]
                 rfl
                refine take_ (i := 8) (N := some 49) (v := ?_) (a' := ?_) #[true, true, true, true, true, true, true, true, true, false, true, true, false, true, true, false, false, false] rfl rfl (take_ofW HT_.out HW_.out (by kernel_rfl)) (fun _ _ _ h => h) (Or.inl ⟨by rfl, ?_⟩) hHeld ?_ ?_
                rotate_left
                ·rintro w' ⟨s0, s1, s2, s3, s4⟩
                 go_simp
                 with_reducible rfl
                rotate_left
                ·simp only [Act.put, List.setIfInBounds_toArray, List.set_cons_zero, List.set_cons_succ, i64_w, i32_w]
                 rfl
                refine pure_ (i := 9) (N := some 50) (v := ?_) (a' := ?_) #[true, true, true, true, true, true, true, true, true, true, true, true, false, true, true, false, false, false] rfl rfl (any_of HT_.out (by kernel_rfl)) (fun _ _ _ h => h) (Or.inl ⟨by rfl, ?_⟩) ?_ ?_
                rotate_left
                ·intro w'
                 go_simp
                 with_reducible rfl
                rotate_left
                ·simp only [Act.put, List.setIfInBounds_toArray, List.set_cons_zero, List.set_cons_succ, i64_w, i32_w]
                 rfl
                refine take_ (i := 12) (N := some 53) (v := ?_) (a' := ?_) #[true, true, true, true, true, true, true, true, true, true, true, true, true, true, true, false, false, false] rfl rfl (take_ofW HT_.out HW_.out (by kernel_rfl)) (fun _ _ _ h => h) (Or.inl ⟨by rfl, ?_⟩) hHeld ?_ ?_
                rotate_left
                ·rintro w' ⟨s0, s1, s2, s3, s4⟩
                 go_simp
                 with_reducible rfl
                rotate_left
                ·simp only [Act.put, List.setIfInBounds_toArray, List.set_cons_zero, List.set_cons_succ, i64_w, i32_w]
                 rfl
                refine take_ (i := 15) (N := some 56) (v := ?_) (a' := ?_) #[true, true, true, true, true, true, true, true, true, true, true, true, true, true, true, true, false, false] rfl rfl (take_ofW HT_.out HW_.out (by kernel_rfl)) (fun _ _ _ h => h) (Or.inl ⟨by rfl, ?_⟩) hHeld ?_ ?_
                rotate_left
                ·rintro w' ⟨s0, s1, s2, s3, s4⟩
                 go_simp
                 with_reducible rfl
                rotate_left
                ·simp only [Act.put, List.setIfInBounds_toArray, List.set_cons_zero, List.set_cons_succ, i64_w, i32_w]
                 rfl
                refine pure_ (i := 16) (N := some 57) (v := ?_) (a' := ?_) #[true, true, true, true, true, true, true, true, true, true, true, true, true, true, true, true, true, false] rfl rfl (any_of HT_.out (by kernel_rfl)) (fun _ _ _ h => h) (Or.inl ⟨by rfl, ?_⟩) ?_ ?_
                rotate_left
                ·intro w'
                 go_simp
                 with_reducible rfl
                rotate_left
                ·simp only [Act.put, List.setIfInBounds_toArray, List.set_cons_zero, List.set_cons_succ, i64_w, i32_w]
                 rfl
                refine one_ (i := 17) (N := none) #[true, true, true, true, true, true, true, true, true, true, true, true, true, true, true, true, true, true] rfl rfl (one_of HT_.out (by kernel_rfl)) (by decide) (fun K hK => ?_)
                have hs57 : w55.cell? ⟨gb180, 0, none⟩ = some (.int .i64 0) := (bkC BK180.out 0).trans rfl
                have hfs57 := bkF BK180.out 0
                have hs58 : w55.cell? ⟨gb180, 1, none⟩ = some (.string (⟨#[]⟩ : ByteArray)) := (bkC BK180.out 1).trans rfl
                have hfs58 := bkF BK180.out 1
                have hs59 : w55.cell? ⟨gb180, 2, none⟩ = some (.string (⟨#[]⟩ : ByteArray)) := (bkC BK180.out 2).trans rfl
                have hfs59 := bkF BK180.out 2
                have hs60 : w55.cell? ⟨gb180, 3, none⟩ = some (.int .i64 0) := (bkC BK180.out 3).trans rfl
                have hfs60 := bkF BK180.out 3
                have hs61 : w55.cell? ⟨gb180, 4, none⟩ = some (.slice none 0 0) := (bkC BK180.out 4).trans rfl
                have hfs61 := bkF BK180.out 4
                have hs62 : w55.cell? ⟨gb180, 5, none⟩ = some (.int .i64 0) := (bkC BK180.out 5).trans rfl
                have hfs62 := bkF BK180.out 5
                refine skip_ (w1 := ?_) (by rfl) rfl ?_ ?_
                rotate_left
                ·go_simp
                 rfl
                have neHO_4_ := Kd.own_blk (Kd.R_ne HO_4.out BK180.out (by decide))
                have neHO_5_ := Kd.own_blk (Kd.R_ne HO_5.out BK180.out (by decide))
                have qq0_ := cell_set6 (g := gb180) (a := ad200) neHO_5_ hHeld.1 (.int .i64 (rd t196 0)) (.string (rdOf ByteArray.empty t181 1)) (.string (rdOf ByteArray.empty t181 2)) (.int .i64 (rd t196 1)) (.slice none 0 0) (.int .i64 (rd t196 2))
                have qq1_ := cell_set6 (g := gb180) (a := ⟨ad185.block, ad185.off + 1, none⟩) neHO_4_ hHeld.2.1 (.int .i64 (rd t196 0)) (.string (rdOf ByteArray.empty t181 1)) (.string (rdOf ByteArray.empty t181 2)) (.int .i64 (rd t196 1)) (.slice none 0 0) (.int .i64 (rd t196 2))
                have qq2_ := cell_set6 (g := gb180) (a := ⟨ad185.block, ad185.off + 2, none⟩) neHO_4_ hHeld.2.2.1 (.int .i64 (rd t196 0)) (.string (rdOf ByteArray.empty t181 1)) (.string (rdOf ByteArray.empty t181 2)) (.int .i64 (rd t196 1)) (.slice none 0 0) (.int .i64 (rd t196 2))
                have qq3_ := cell_set6 (g := gb180) (a := ⟨ad200.block, ad200.off + 1, none⟩) neHO_5_ hHeld.2.2.2.1 (.int .i64 (rd t196 0)) (.string (rdOf ByteArray.empty t181 1)) (.string (rdOf ByteArray.empty t181 2)) (.int .i64 (rd t196 1)) (.slice none 0 0) (.int .i64 (rd t196 2))
                have qq4_ := cell_set6 (g := gb180) (a := ⟨ad200.block, ad200.off + 2, none⟩) neHO_5_ hHeld.2.2.2.2 (.int .i64 (rd t196 0)) (.string (rdOf ByteArray.empty t181 1)) (.string (rdOf ByteArray.empty t181 2)) (.int .i64 (rd t196 1)) (.slice none 0 0) (.int .i64 (rd t196 2))
                refine hK.out _ _ ⟨qq0_, qq1_, qq2_, qq3_, qq4_⟩ ?_
                intro hHeld
                clear hK K
                refine done_ (done_of HT_.out (by kernel_rfl)) ?_
                skip
                have n0_ : Az (Kd.R Kd.string 9 ((((((w55.setCell ⟨gb180, 0, none⟩ (.int .i64 (rd t196 0))).setCell ⟨gb180, 1, none⟩ (.string (rdOf ByteArray.empty t181 1))).setCell ⟨gb180, 2, none⟩ (.string (rdOf ByteArray.empty t181 2))).setCell ⟨gb180, 3, none⟩ (.int .i64 (rd t196 1))).setCell ⟨gb180, 4, none⟩ (.slice none 0 0)).setCell ⟨gb180, 5, none⟩ (.int .i64 (rd t196 2))) w.heap.size (fun k_ => (w.heap.size ≤ k_)) (.slice (some ad185) t181.length co16) t181) := ⟨by (with_reducible repeat (first | apply Kd.R_alloc | apply Kd.R_drewN | apply Kd.R_drew)); exact Kd.R_mono (Kd.R_far (p := ⟨gb180, 5, none⟩) (Kd.R_far (p := ⟨gb180, 4, none⟩) (Kd.R_far (p := ⟨gb180, 3, none⟩) (Kd.R_far (p := ⟨gb180, 2, none⟩) (Kd.R_far (p := ⟨gb180, 1, none⟩) (Kd.R_far (p := ⟨gb180, 0, none⟩) (Kd.R_types HO_4.out BK180.out (by decide)) (fun _ hk => hk.2) (.int .i64 (rd t196 0))) (fun _ hk => hk.2) (.string (rdOf ByteArray.empty t181 1))) (fun _ hk => hk.2) (.string (rdOf ByteArray.empty t181 2))) (fun _ hk => hk.2) (.int .i64 (rd t196 1))) (fun _ hk => hk.2) (.slice none 0 0)) (fun _ hk => hk.2) (.int .i64 (rd t196 2))) (fun _ hk => hk.1)⟩
                have n1_ : Az (Kd.R (Kd.int .i64) 2 ((((((w55.setCell ⟨gb180, 0, none⟩ (.int .i64 (rd t196 0))).setCell ⟨gb180, 1, none⟩ (.string (rdOf ByteArray.empty t181 1))).setCell ⟨gb180, 2, none⟩ (.string (rdOf ByteArray.empty t181 2))).setCell ⟨gb180, 3, none⟩ (.int .i64 (rd t196 1))).setCell ⟨gb180, 4, none⟩ (.slice none 0 0)).setCell ⟨gb180, 5, none⟩ (.int .i64 (rd t196 2))) w.heap.size (fun k_ => (w.heap.size ≤ k_)) (.slice (some ad200) t196.length co56) t196) := ⟨by (with_reducible repeat (first | apply Kd.R_alloc | apply Kd.R_drewN | apply Kd.R_drew)); exact Kd.R_mono (Kd.R_far (p := ⟨gb180, 5, none⟩) (Kd.R_far (p := ⟨gb180, 4, none⟩) (Kd.R_far (p := ⟨gb180, 3, none⟩) (Kd.R_far (p := ⟨gb180, 2, none⟩) (Kd.R_far (p := ⟨gb180, 1, none⟩) (Kd.R_far (p := ⟨gb180, 0, none⟩) (Kd.R_types HO_5.out BK180.out (by decide)) (fun _ hk => hk.2) (.int .i64 (rd t196 0))) (fun _ hk => hk.2) (.string (rdOf ByteArray.empty t181 1))) (fun _ hk => hk.2) (.string (rdOf ByteArray.empty t181 2))) (fun _ hk => hk.2) (.int .i64 (rd t196 1))) (fun _ hk => hk.2) (.slice none 0 0)) (fun _ hk => hk.2) (.int .i64 (rd t196 2))) (fun _ hk => hk.1)⟩
                have n2_ : Az (((((((w55.setCell ⟨gb180, 0, none⟩ (.int .i64 (rd t196 0))).setCell ⟨gb180, 1, none⟩ (.string (rdOf ByteArray.empty t181 1))).setCell ⟨gb180, 2, none⟩ (.string (rdOf ByteArray.empty t181 2))).setCell ⟨gb180, 3, none⟩ (.int .i64 (rd t196 1))).setCell ⟨gb180, 4, none⟩ (.slice none 0 0)).setCell ⟨gb180, 5, none⟩ (.int .i64 (rd t196 2))).heap[gb180]? = some (.cells #[.int .i64 (rd t196 0), .string (rdOf ByteArray.empty t181 1), .string (rdOf ByteArray.empty t181 2), .int .i64 (rd t196 1), .slice none 0 0, .int .i64 (rd t196 2)] 26 (0, 0))) := ⟨by refine bk ?_; refine blk_put (cs := #[.int .i64 (rd t196 0), .string (rdOf ByteArray.empty t181 1), .string (rdOf ByteArray.empty t181 2), .int .i64 (rd t196 1), .slice none 0 0, .int .i64 0]) ?_ 5 _ rfl; refine bk ?_; refine blk_put (cs := #[.int .i64 (rd t196 0), .string (rdOf ByteArray.empty t181 1), .string (rdOf ByteArray.empty t181 2), .int .i64 (rd t196 1), .slice none 0 0, .int .i64 0]) ?_ 4 _ rfl; refine bk ?_; refine blk_put (cs := #[.int .i64 (rd t196 0), .string (rdOf ByteArray.empty t181 1), .string (rdOf ByteArray.empty t181 2), .int .i64 0, .slice none 0 0, .int .i64 0]) ?_ 3 _ rfl; refine bk ?_; refine blk_put (cs := #[.int .i64 (rd t196 0), .string (rdOf ByteArray.empty t181 1), .string (⟨#[]⟩ : ByteArray), .int .i64 0, .slice none 0 0, .int .i64 0]) ?_ 2 _ rfl; refine bk ?_; refine blk_put (cs := #[.int .i64 (rd t196 0), .string (⟨#[]⟩ : ByteArray), .string (⟨#[]⟩ : ByteArray), .int .i64 0, .slice none 0 0, .int .i64 0]) ?_ 1 _ rfl; refine bk ?_; refine blk_put (cs := #[.int .i64 0, .string (⟨#[]⟩ : ByteArray), .string (⟨#[]⟩ : ByteArray), .int .i64 0, .slice none 0 0, .int .i64 0]) ?_ 0 _ rfl; refine bk ?_; exact BK180.out⟩
                have n3_ : Az (Below w.heap.size w ((((((w55.setCell ⟨gb180, 0, none⟩ (.int .i64 (rd t196 0))).setCell ⟨gb180, 1, none⟩ (.string (rdOf ByteArray.empty t181 1))).setCell ⟨gb180, 2, none⟩ (.string (rdOf ByteArray.empty t181 2))).setCell ⟨gb180, 3, none⟩ (.int .i64 (rd t196 1))).setCell ⟨gb180, 4, none⟩ (.slice none 0 0)).setCell ⟨gb180, 5, none⟩ (.int .i64 (rd t196 2)))) := ⟨by exact pbE HB.out⟩
                (try clear HO_4)
                (try clear HO_5)
                (try clear BK180)
                (try clear HB)
                generalize ((((((w55.setCell ⟨gb180, 0, none⟩ (.int .i64 (rd t196 0))).setCell ⟨gb180, 1, none⟩ (.string (rdOf ByteArray.empty t181 1))).setCell ⟨gb180, 2, none⟩ (.string (rdOf ByteArray.empty t181 2))).setCell ⟨gb180, 3, none⟩ (.int .i64 (rd t196 1))).setCell ⟨gb180, 4, none⟩ (.slice none 0 0)).setCell ⟨gb180, 5, none⟩ (.int .i64 (rd t196 2))) = w63 at n0_ n1_ n2_ n3_ ⊢
                have HO_4 := n0_
                have HO_5 := n1_
                have BK180 := n2_
                have HB := n3_
                clear n0_ n1_ n2_ n3_
                obtain ⟨N_, hlN, hN9, hT⟩ := chunk_open A32.out
                have hmf : ∀ (fn : Fn) (first cap : Array Value) (w : World), (Instr.makeFunc fn first cap).run Tryd.prog w = .ok (.func fn first cap) w := fun _ _ _ _ => rfl
                have hcl_ := (Kd.R_reads' HO_5.out).2.1
                have hF3 := Kd.F_cut (m := 3) (Kd.R_F (Kd.R_types HO_5.out BK180.out (by decide))) (by omega) hcl_
                rw [show (t196.drop 3).length = 2 * N_ by rw [List.length_drop]; omega] at hF3
                have hi3 : (3 : Int) ≤ (t196.length : Int) := by omega
                have hc3 : (3 : Int) ≤ (co56 : Int) := by omega
                have hlN2 : t196.length - 3 = 2 * N_ := by omega
                obtain ⟨i0_, hi0_, _, hsz_, _⟩ := info_parts info2
                have hcut_ := cut_from (P := Tryd.prog) 83 2 .i64 Tryd.underlying83 hi0_ 1 hsz_ (some ad200) t196.length co56 3 (by omega) hi3
                rw [show ((3 : Int).toNat) = 3 from rfl, hlN2] at hcut_
                replace hF3 : Kd.F (Kd.int .i64) w63 (fun k => k < w63.heap.size ∧ k ≠ gb180) (if co56 = 3 then some ad200 else some { block := ad200.block, off := ad200.off + 3 }) (2 * N_) (t196.drop 3) := Kd.F_mono (Kd.F_bound hF3) (fun k h => ⟨h.2, h.1.2⟩)
                have hcc_ : 2 * N_ ≤ co56 - 3 := by omega
                have hNb_ : N_ ≤ 1000000000 := by omega
                clear hi0_ hsz_ hlN2 hc3 hi3 hcl_
                with_reducible unfold Exit.then
                simp only []
                apply_assumption
                repeat (first | (go_big_may; go_in) | go_values | go_skip | go_guarded | go_step | go_upon | go_back)
                refine parse_range (hcode := ?side) (BK := BK180.out) (hF := hF3) (hN := hNb_) (hc := hcc_) (hK := ?_)
                case side => kernel_rfl
                intro X_ W_ w65 v206 hW_ hb ho0' hX_ HX_
                subst hW_
                have ho0 := Kd.R_lower ho0' (Nat.le_add_right w63.heap.size 2)
                rw [← hT] at ho0
                clear ho0' hT hF3 hcc_ hNb_ hN9 hlN
                have GX_ : w.heap.size ≤ X_ := Nat.le_trans (pbZ HB.out) hX_
                have GXg_ : X_ ≠ gb180 := (by
                 rintro rfl
                 have h_ := (bkB BK180.out hb).symm.trans HX_
                 cases h_)
                clear hX_
                replace HO_4 := Az.mk (Kd.R_below (Kd.R_ext HO_4.out) hb)
                replace HO_5 := Az.mk (Kd.R_below (Kd.R_ext HO_5.out) hb)
                have HO207 := Az.mk (Kd.R_lower (Kd.R_newM (M := fun k_ => (w.heap.size ≤ k_)) (Kd.R_mono (ok' := fun k_ => True) ho0 (fun _ hk_ => trivial)) (pbZ (by exact pbE HB.out)) (fun k_ h_ => h_)) (pbZ (by exact pbE HB.out)))
                replace BK180 := Az.mk (bkB (bk BK180.out) hb)
                replace HB := Az.mk (pbT (by exact pbE HB.out) hb)
                (try clear hb)
                (try clear hb2)
                (try clear hk)
                (try clear hi)
                (try clear ho0)
                obtain ⟨Ao66, co66, eo66⟩ := Kd.R_slice HO207.out
                (first | subst eo66 | (injection eo66 with f1_ f2_ f3_; have f4_ := f1_.symm; have f5_ := f3_.symm; clear f1_ f2_ f3_; subst f4_; subst f5_))
                simp only [Exit.inBlock, Exit.then]
                apply_assumption
                have hcz68 := cells6 BK180.out
                repeat (first | (go_big_may; (first | ((with_reducible refine gtc (f := 19) rfl ?_); refine goesL_ (some 75) rfl rfl Tryd.func19 (by kernel_rfl) rfl #[.agg #[.int .i64 (rd t196 0), .string (rdOf ByteArray.empty t181 1), .string (rdOf ByteArray.empty t181 2), .int .i64 (rd t196 1), .slice Ao66 t205.length co66, .int .i64 (rd t196 2)]] rfl (by (try simp only [List.map_toArray, List.map_cons, List.map_nil]); first | done | rfl | (simp only [List.length_drop, List.length_take]; rfl)) ?_; (with_reducible refine (desc_Put.calls kj13 (rd t196 0) (rdOf ByteArray.empty t181 1) (rdOf ByteArray.empty t181 2) (rd t196 1) _ _ t205 (rd t196 2) t208 _ ?side1 ?side2 ?side3 A33.out).mono ?_); (case side1 => exact hG.below (by exact pbE HB.out)); (case side2 => refine (Kd.R_reads' (e := 60) (base := w.heap.size) (ok := fun k_ => ((w.heap.size ≤ k_) ∧ True)) (n := t205.length) (c := co66) ?_).2.2; exact (by (with_reducible repeat (first | apply Kd.R_alloc | apply Kd.R_drewN | apply Kd.R_drew)); exact (Kd.R_mono (Kd.R_far (p := ⟨gb180, 4, none⟩) (Kd.R_types HO207.out BK180.out (by decide)) (fun _ hk => hk.2) (.slice Ao66 t205.length co66)) (fun _ h_ => h_.1)))); (case side3 => exact (Kd.R_reads' HO207.out).2.1); rintro e w69 ⟨rfl, hb⟩; have HX_ := bkB (g := X_) (o := .deferred (some [])) (by repeat (first | (with_reducible exact HX_) | with_reducible refine (Below.heap_setCell _ ⟨gb180, _, none⟩ _ X_ GXg_).trans ?_)) hb; refine ⟨_, rfl, ?_⟩; replace HO_4 := Az.mk (Kd.R_below (by (with_reducible repeat (first | apply Kd.R_alloc | apply Kd.R_drewN | apply Kd.R_drew)); exact (Kd.R_mono (Kd.R_far (p := ⟨gb180, 4, none⟩) (Kd.R_types HO_4.out BK180.out (by decide)) (fun _ hk => hk.2) (.slice Ao66 t205.length co66)) (fun _ h_ => h_.1))) hb); replace HO_5 := Az.mk (Kd.R_below (by (with_reducible repeat (first | apply Kd.R_alloc | apply Kd.R_drewN | apply Kd.R_drew)); exact (Kd.R_mono (Kd.R_far (p := ⟨gb180, 4, none⟩) (Kd.R_types HO_5.out BK180.out (by decide)) (fun _ hk => hk.2) (.slice Ao66 t205.length co66)) (fun _ h_ => h_.1))) hb); replace HO207 := Az.mk (Kd.R_below (by (with_reducible repeat (first | apply Kd.R_alloc | apply Kd.R_drewN | apply Kd.R_drew)); exact (Kd.R_mono (Kd.R_far (p := ⟨gb180, 4, none⟩) (Kd.R_types HO207.out BK180.out (by decide)) (fun _ hk => hk.2) (.slice Ao66 t205.length co66)) (fun _ h_ => h_.1))) hb); replace BK180 := Az.mk (bkB (g := gb180) (o := .cells #[.int .i64 (rd t196 0), .string (rdOf ByteArray.empty t181 1), .string (rdOf ByteArray.empty t181 2), .int .i64 (rd t196 1), .slice Ao66 t205.length co66, .int .i64 (rd t196 2)] 26 (0, 0)) (by refine bk ?_; refine blk_put (cs := #[.int .i64 (rd t196 0), .string (rdOf ByteArray.empty t181 1), .string (rdOf ByteArray.empty t181 2), .int .i64 (rd t196 1), .slice none 0 0, .int .i64 (rd t196 2)]) ?_ 4 _ rfl; refine bk ?_; exact BK180.out) hb); replace HB := Az.mk (pbT (by exact pbE HB.out) hb); (try clear hb); (try clear hb2); (try clear hk); (try clear hi); have hcz70 := cells6 BK180.out))) | go_values | go_skip | go_guarded | go_step | go_upon | go_back)
                apply bodyPost_retD (X := X_)
                case hd => rfl
                case hX => exact (by repeat (first | (with_reducible exact HX_) | with_reducible refine (Below.heap_setCell _ ⟨gb180, _, none⟩ _ X_ GXg_).trans ?_))
                case hr => refine results_ct rfl _ _ gb180 26 #[.int .i64 0, .string (⟨#[]⟩ : ByteArray), .string (⟨#[]⟩ : ByteArray), .int .i64 0, .slice none 0 0, .int .i64 0] (0, 0) _ rfl ?_ Tryd.underlying26 rfl (by kernel_rfl); refine (World.putObj_heap_other GXg_.symm).trans ?_; exact (by refine bk ?_; refine blk_put (cs := #[.int .i64 0, .string (⟨#[]⟩ : ByteArray), .string (⟨#[]⟩ : ByteArray), .int .i64 0, .slice none 0 0, .int .i64 (rd t196 2)]) ?_ 5 _ rfl; refine bk ?_; refine blk_put (cs := #[.int .i64 0, .string (⟨#[]⟩ : ByteArray), .string (⟨#[]⟩ : ByteArray), .int .i64 0, .slice Ao66 t205.length co66, .int .i64 (rd t196 2)]) ?_ 4 _ rfl; refine bk ?_; refine blk_put (cs := #[.int .i64 0, .string (⟨#[]⟩ : ByteArray), .string (⟨#[]⟩ : ByteArray), .int .i64 (rd t196 1), .slice Ao66 t205.length co66, .int .i64 (rd t196 2)]) ?_ 3 _ rfl; refine bk ?_; refine blk_put (cs := #[.int .i64 0, .string (⟨#[]⟩ : ByteArray), .string (rdOf ByteArray.empty t181 2), .int .i64 (rd t196 1), .slice Ao66 t205.length co66, .int .i64 (rd t196 2)]) ?_ 2 _ rfl; refine bk ?_; refine blk_put (cs := #[.int .i64 0, .string (rdOf ByteArray.empty t181 1), .string (rdOf ByteArray.empty t181 2), .int .i64 (rd t196 1), .slice Ao66 t205.length co66, .int .i64 (rd t196 2)]) ?_ 1 _ rfl; refine bk ?_; refine blk_put (cs := #[.int .i64 (rd t196 0), .string (rdOf ByteArray.empty t181 1), .string (rdOf ByteArray.empty t181 2), .int .i64 (rd t196 1), .slice Ao66 t205.length co66, .int .i64 (rd t196 2)]) ?_ 0 _ rfl; refine bk ?_; exact BK180.out)
                exact ⟨_, by first | rfl | (simp [errW_none, errW_some] <;> rfl) | (simp [*, errW_none, errW_some] <;> rfl), Kd.V_nil _ _ _ _ _, below_put (by exact pbE HB.out) GX_⟩
              ·rw [if_neg c31] at H
               exact absurd H (by simp)
             ·rw [if_neg c30] at H
              exact absurd H (by simp)
            ·rw [if_neg c29] at H
             exact absurd H (by simp)
           ·rw [if_neg c28] at H
            exact absurd H (by simp)
          ·rw [if_neg c27] at H
           exact absurd H (by simp)
      ·rw [if_neg c12] at H
       exact absurd H (by simp)
     ·rw [if_neg c11] at H
      exact absurd H (by simp)
    ·rw [if_neg c10] at H
     exact absurd H (by simp)
theorem eqA23 (d : Nat) (w : World) (x0 y0 : ByteArray) (x1 y1 : ByteArray) :
 (Op.equalIn (d + 2) 23 (.agg #[.string x0, .string x1]) (.agg #[.string y0, .string y1])).run Tryd.prog w = .ok (x0.toList == y0.toList && (x1.toList == y1.toList)) w := by
 refine eqA_of Tryd.underlying23 (by kernel_rfl) ?_
 refine eqf_cons (by rfl) (by go_simp; rfl) (by go_simp; rfl) (by go_simp) ?_
 exact eqf_last (by rfl) (by go_simp; rfl) (by go_simp; rfl) (by go_simp)
theorem eqA60 (d : Nat) (w : World) (x0 y0 : Int) (x1 y1 : Int) :
 (Op.equalIn (d + 2) 60 (.agg #[.int .i64 x0, .int .i64 x1]) (.agg #[.int .i64 y0, .int .i64 y1])).run Tryd.prog w = .ok (x0 == y0 && (x1 == y1)) w := by
 refine eqA_of Tryd.underlying60 (by kernel_rfl) ?_
 refine eqf_cons (by rfl) (by go_simp; rfl) (by go_simp; rfl) (by go_simp) ?_
 exact eqf_last (by rfl) (by go_simp; rfl) (by go_simp; rfl) (by go_simp)
end Go.Proofs.YtjfhcijjjadhbaaDoor.P
end
section
namespace Go.Proofs.YtjfhcijjjadhbaaDoor.P
open Go.RowKit Go.Proofs.YtjfhcijjjadhbaaDoor.K Go.Proofs.YtjfhcijjjadhbaaDoorW.PrintWords Go.Proofs.YtjfhcijjjadhbaaDoorW.PrintLast Go.Proofs.YtjfhcijjjadhbaaDoorW.PrintMore
attribute [local go_sem] max2_int min2_int max_two min_two max_three min_three max_four min_four   -- for this text's walks alone
attribute [local go_sem high] eqA60
def api_Member_42.l0 : Nat → List (S60) → List (S60) → Int → Int → Option (Bool)
 | 0, _, _, _, _ => none
 | k + 1, x0, x1, x12, x13 => if x13 < x12 then (if 0 ≤ x13 then (if x13 < (x0.length : Int) then (if x13 < (x1.length : Int) then (if (!(((rd_T60 x0 x13).f0) == ((rd_T60 x1 x13).f0)) || (!(((rd_T60 x0 x13).f1) == ((rd_T60 x1 x13).f1)))) = true then (some false) else (api_Member_42.l0 k x0 x1 x12 (wrap64 (x13 + 1)))) else (none)) else (none)) else (none)) else (some true)
def api_Member_42.f (k : Nat) (l0 : List (S60)) (l1 : List (S60)) : Option (Bool) := if (l0.length : Int) = (l1.length : Int) then (api_Member_42.l0 k l0 l1 (l0.length : Int) 0) else (some false)
theorem api_Member_42.mono_l : ∀ k, (∀ y0 y1 y2 y3, LeO (api_Member_42.l0 k y0 y1 y2 y3) (api_Member_42.l0 (k + 1) y0 y1 y2 y3))
 | 0 => fun _ _ _ _ r h => by simp [api_Member_42.l0] at h
 | k + 1 => by
  have ih0 := api_Member_42.mono_l k
  ·intro y0 y1 y2 y3
   unfold api_Member_42.l0
   repeat' first
   | (with_reducible exact ih0 _ _ _ _)
   | (with_reducible exact LeO.refl _)
   | (with_reducible exact LeO.none _)
   | (with_reducible refine LeO.ite ?_ ?_)
   | (with_reducible refine LeO.bind ?_ (fun _ => ?_))
   | exact ih0 _ _ _ _
   | exact LeO.none _
   | refine LeO.ite ?_ ?_
   | refine LeO.bind ?_ (fun _ => ?_)
theorem api_Member_42.mono : ∀ a0 a1 k, LeO (api_Member_42.f k a0 a1) (api_Member_42.f (k + 1) a0 a1) := by
 intro a0 a1 k
 have ih0 := api_Member_42.mono_l k
 unfold api_Member_42.f
 repeat' first
  | (with_reducible exact ih0 _ _ _ _)
  | (with_reducible exact LeO.refl _)
  | (with_reducible exact LeO.none _)
  | (with_reducible refine LeO.ite ?_ ?_)
  | (with_reducible refine LeO.bind ?_ (fun _ => ?_))
  | exact ih0 _ _ _ _
  | exact LeO.none _
  | refine LeO.ite ?_ ?_
  | refine LeO.bind ?_ (fun _ => ?_)
set_option maxHeartbeats 8000000 in
set_option maxRecDepth 100000 in
theorem api_Member_42.calls (k : Nat) (A0 : Option Addr) (c0 : Nat) (l0 : List (S60)) (A1 : Option Addr) (c1 : Nat) (l1 : List (S60)) (r : Bool) (w : World) (hG : TheG w) (hr0 : Kd.C k60 w A0 l0.length l0) (hc0 : l0.length ≤ c0) (hr1 : Kd.C k60 w A1 l1.length l1) (hc1 : l1.length ≤ c1) (h : api_Member_42.f k l0 l1 = some r) :
 Calls Tryd.prog 42 #[.slice A0 l0.length c0, .slice A1 l1.length c1] w fun e w' => e = .returned (.bool r) ∧ Drawn0 w w' := by
 have hu60 := Tryd.underlying60
 have HR0 := Az.mk hr0
 have HC0 := Az.mk hc0
 clear hr0 hc0
 have HR1 := Az.mk hr1
 have HC1 := Az.mk hc1
 clear hr1 hc1
 have H : (if (l0.length : Int) = (l1.length : Int) then (api_Member_42.l0 k l0 l1 (l0.length : Int) 0) else (some false)) = some r := h
 clear h
 by_cases c3 : (l0.length : Int) = (l1.length : Int)
 ·rw [if_pos c3] at H
  have c3b0 : ((l0.length : Int) == (l1.length : Int)) = true := beq_iff_eq.mpr c3
  have c3b1 : ((l0.length : Int) != (l1.length : Int)) = false := bne_eq_false_iff_eq.mpr c3
  have c3b2 : (l0.length == l1.length) = true := by first | simpa using c3 | (simp at c3 ⊢; omega)
  clear c3
  have H' := Az.mk H
  clear H
  go_enter Tryd.func42, Tryd.ntmps42
  go_wp2
  repeat (go_quiet (fail); try go_wp2)
  go_loopg [13] k (fun kq v13 w' => ∃ (x13_1 : Int), v13 = .int .i64 x13_1 ∧ Az (api_Member_42.l0 kq l0 l1 (l0.length : Int) x13_1 = some r) ∧ Az (kq ≤ k) ∧ Drawn0 w w')
  case atStart => exact ⟨(0), (by first | rfl | (simp; done) | (simp [*]; done)), H', ⟨Nat.le_refl _⟩, by repeat (first | exact Drawn0.refl _ | apply Drawn0.step)⟩
  case round =>
   clear H'
   try clear c1
   try clear p2
   try clear c3
   try clear c3b0
   try clear c3b1
   try clear c3b2
   obtain ⟨x13_1, rfl, HA, HK1, ⟨m1, rfl⟩⟩ := hrel
   cases gk with
   | zero => exact absurd HA.out (by simp [api_Member_42.l0])
   | succ k1 =>
    have H := HA.out
    clear HA
    simp only [api_Member_42.l0] at H
    by_cases c4 : x13_1 < (l0.length : Int)
    ·rw [if_pos c4] at H
     have c4b0 : decide (x13_1 < (l0.length : Int)) = true := decide_eq_true c4
     clear c4
     by_cases c5 : 0 ≤ x13_1
     ·rw [if_pos c5] at H
      have c5b0 : decide (0 ≤ x13_1) = true := decide_eq_true c5
      clear c5
      by_cases c6 : x13_1 < (l0.length : Int)
      ·rw [if_pos c6] at H
       have c6b0 : decide (x13_1 < (l0.length : Int)) = true := decide_eq_true c6
       clear c6
       by_cases c7 : x13_1 < (l1.length : Int)
       ·rw [if_pos c7] at H
        have c7b0 : decide (x13_1 < (l1.length : Int)) = true := decide_eq_true c7
        clear c7
        by_cases c8 : (!(((rd_T60 l0 x13_1).f0) == ((rd_T60 l1 x13_1).f0)) || (!(((rd_T60 l0 x13_1).f1) == ((rd_T60 l1 x13_1).f1)))) = true
        ·rw [if_pos c8] at H
         have c8b0 : (!(((rd_T60 l0 x13_1).f0) == ((rd_T60 l1 x13_1).f0)) || (!(((rd_T60 l0 x13_1).f1) == ((rd_T60 l1 x13_1).f1)))) = true := c8
         clear c8
         obtain rfl := Option.some.inj H
         have p486 : 0 ≤ (x13_1 : Int) := of_decide_eq_true (by first | (with_reducible assumption) | assumption)
         have q486 : x13_1 < (l0.length : Int) := of_decide_eq_true (by first | (with_reducible assumption) | assumption)
         obtain ⟨ad486, e486, hx486_0, hx486_1⟩ := at_T60 HR0.out x13_1 p486 q486
         cases e486
         replace p486 := eq_true p486
         replace q486 := eq_true q486
         have p487 : 0 ≤ (x13_1 : Int) := of_decide_eq_true (by first | (with_reducible assumption) | assumption)
         have q487 : x13_1 < (l1.length : Int) := of_decide_eq_true (by first | (with_reducible assumption) | assumption)
         obtain ⟨ad487, e487, hx487_0, hx487_1⟩ := at_T60 HR1.out x13_1 p487 q487
         cases e487
         replace p487 := eq_true p487
         replace q487 := eq_true q487
         go_wp2
         repeat (go_quiet (fail); try go_wp2)
         go_ret
         exact ⟨by first | rfl | (simp; done) | (simp [*]; done), by repeat (first | exact Drawn0.refl _ | apply Drawn0.step)⟩
        ·rw [if_neg c8] at H
         have c8b0 : (!(((rd_T60 l0 x13_1).f0) == ((rd_T60 l1 x13_1).f0)) || (!(((rd_T60 l0 x13_1).f1) == ((rd_T60 l1 x13_1).f1)))) = false := by simpa using c8
         clear c8
         have H' := Az.mk H
         clear H
         have p486 : 0 ≤ (x13_1 : Int) := of_decide_eq_true (by first | (with_reducible assumption) | assumption)
         have q486 : x13_1 < (l0.length : Int) := of_decide_eq_true (by first | (with_reducible assumption) | assumption)
         obtain ⟨ad486, e486, hx486_0, hx486_1⟩ := at_T60 HR0.out x13_1 p486 q486
         cases e486
         replace p486 := eq_true p486
         replace q486 := eq_true q486
         have p487 : 0 ≤ (x13_1 : Int) := of_decide_eq_true (by first | (with_reducible assumption) | assumption)
         have q487 : x13_1 < (l1.length : Int) := of_decide_eq_true (by first | (with_reducible assumption) | assumption)
         obtain ⟨ad487, e487, hx487_0, hx487_1⟩ := at_T60 HR1.out x13_1 p487 q487
         cases e487
         replace p487 := eq_true p487
         replace q487 := eq_true q487
         go_wp2
         repeat (go_quiet (fail); try go_wp2)
         go_roundg k1
         case measure => have := HK1.out; omega
         case rel => exact ⟨(wrap64 (x13_1 + 1)), (by first | rfl | (simp; done) | (simp [*]; done)), H', ⟨by have := HK1.out; omega⟩, by repeat (first | exact Drawn0.refl _ | apply Drawn0.step)⟩
       ·rw [if_neg c7] at H
        exact absurd H (by simp)
      ·rw [if_neg c6] at H
       exact absurd H (by simp)
     ·rw [if_neg c5] at H
      exact absurd H (by simp)
    ·rw [if_neg c4] at H
     have c4b0 : decide (x13_1 < (l0.length : Int)) = false := decide_eq_false c4
     clear c4
     obtain rfl := Option.some.inj H
     go_wp2
     repeat (go_quiet (fail); try go_wp2)
     go_ret
     exact ⟨by first | rfl | (simp; done) | (simp [*]; done), by repeat (first | exact Drawn0.refl _ | apply Drawn0.step)⟩
 ·rw [if_neg c3] at H
  have c3b0 : ((l0.length : Int) == (l1.length : Int)) = false := beq_eq_false_iff_ne.mpr c3
  have c3b1 : ((l0.length : Int) != (l1.length : Int)) = true := bne_iff_ne.mpr c3
  have c3b2 : (l0.length == l1.length) = false := by first | simpa using c3 | (simp at c3 ⊢; omega)
  obtain rfl := Option.some.inj H
  go_enter Tryd.func42, Tryd.ntmps42
  go_wp2
  repeat (go_quiet (fail); try go_wp2)
  go_ret
  exact ⟨by first | rfl | (simp; done) | (simp [*]; done), by repeat (first | exact Drawn0.refl _ | apply Drawn0.step)⟩
end Go.Proofs.YtjfhcijjjadhbaaDoor.P
end
section
namespace Go.Proofs.YtjfhcijjjadhbaaDoor.P
open Go.RowKit Go.Proofs.YtjfhcijjjadhbaaDoor.K Go.Proofs.YtjfhcijjjadhbaaDoorW.PrintWords Go.Proofs.YtjfhcijjjadhbaaDoorW.PrintLast Go.Proofs.YtjfhcijjjadhbaaDoorW.PrintMore
attribute [local go_sem] max2_int min2_int max_two min_two max_three min_three max_four min_four   -- for this text's walks alone
attribute [local go_sem high] eqA23
def desc_Same.f (k : Nat) (a0_0 : Int) (a0_1 : ByteArray) (a0_2 : ByteArray) (a0_3 : Int) (l0_4 : List (S60)) (a0_5 : Int) (a1_0 : Int) (a1_1 : ByteArray) (a1_2 : ByteArray) (a1_3 : Int) (l1_4 : List (S60)) (a1_5 : Int) : Option (Bool) := if a0_0 = a1_0 then (if (a0_1.toList == a1_1.toList && (a0_2.toList == a1_2.toList)) = true then (if a0_3 = a1_3 then (if a0_5 = a1_5 then ((api_Member_42.f k l0_4 l1_4).bind fun t490 => (some t490)) else (some false)) else (some false)) else (some false)) else (some false)
theorem desc_Same.mono : ∀ a0 a1 a2 a3 a4 a5 a6 a7 a8 a9 a10 a11 k, LeO (desc_Same.f k a0 a1 a2 a3 a4 a5 a6 a7 a8 a9 a10 a11) (desc_Same.f (k + 1) a0 a1 a2 a3 a4 a5 a6 a7 a8 a9 a10 a11) := by
 intro a0 a1 a2 a3 a4 a5 a6 a7 a8 a9 a10 a11 k
 unfold desc_Same.f
 repeat' first
  | (with_reducible exact api_Member_42.mono _ _ _)
  | (with_reducible exact LeO.refl _)
  | (with_reducible exact LeO.none _)
  | (with_reducible refine LeO.ite ?_ ?_)
  | (with_reducible refine LeO.bind ?_ (fun _ => ?_))
  | exact api_Member_42.mono _ _ _
  | exact LeO.none _
  | refine LeO.ite ?_ ?_
  | refine LeO.bind ?_ (fun _ => ?_)
set_option maxHeartbeats 8000000 in
set_option maxRecDepth 100000 in
theorem desc_Same.calls (k : Nat) (a0_0 : Int) (a0_1 : ByteArray) (a0_2 : ByteArray) (a0_3 : Int) (A0_4 : Option Addr) (c0_4 : Nat) (l0_4 : List (S60)) (a0_5 : Int) (a1_0 : Int) (a1_1 : ByteArray) (a1_2 : ByteArray) (a1_3 : Int) (A1_4 : Option Addr) (c1_4 : Nat) (l1_4 : List (S60)) (a1_5 : Int) (r : Bool) (w : World) (hG : TheG w) (hr0_4 : Kd.C k60 w A0_4 l0_4.length l0_4) (hc0_4 : l0_4.length ≤ c0_4) (hr1_4 : Kd.C k60 w A1_4 l1_4.length l1_4) (hc1_4 : l1_4.length ≤ c1_4) (h : desc_Same.f k a0_0 a0_1 a0_2 a0_3 l0_4 a0_5 a1_0 a1_1 a1_2 a1_3 l1_4 a1_5 = some r) :
 Calls Tryd.prog 20 #[.agg #[.int .i64 a0_0, .string a0_1, .string a0_2, .int .i64 a0_3, .slice A0_4 l0_4.length c0_4, .int .i64 a0_5], .agg #[.int .i64 a1_0, .string a1_1, .string a1_2, .int .i64 a1_3, .slice A1_4 l1_4.length c1_4, .int .i64 a1_5]] w fun e w' => e = .returned (.bool r) ∧ Below w.heap.size w w' := by
 have hu26 := Tryd.underlying26
 have hu23 := Tryd.underlying23
 have HR0_4 := Az.mk hr0_4
 have HC0_4 := Az.mk hc0_4
 clear hr0_4 hc0_4
 have HR1_4 := Az.mk hr1_4
 have HC1_4 := Az.mk hc1_4
 clear hr1_4 hc1_4
 have HB := Az.mk (Below.refl w.heap.size w)
 have H : (if a0_0 = a1_0 then (if (a0_1.toList == a1_1.toList && (a0_2.toList == a1_2.toList)) = true then (if a0_3 = a1_3 then (if a0_5 = a1_5 then ((api_Member_42.f k l0_4 l1_4).bind fun t490 => (some t490)) else (some false)) else (some false)) else (some false)) else (some false)) = some r := h
 clear h
 by_cases c3 : a0_0 = a1_0
 ·rw [if_pos c3] at H
  have c3b0 : (a0_0 == a1_0) = true := beq_iff_eq.mpr c3
  have c3b1 : (a0_0 != a1_0) = false := bne_eq_false_iff_eq.mpr c3
  clear c3
  by_cases c4 : (a0_1.toList == a1_1.toList && (a0_2.toList == a1_2.toList)) = true
  ·rw [if_pos c4] at H
   have c4b0 : (a0_1.toList == a1_1.toList && (a0_2.toList == a1_2.toList)) = true := c4
   (try (have c4b1 : decide (a0_1.toList = a1_1.toList && (a0_2.toList == a1_2.toList)) = true := by simpa using c4))
   (try (have c4b2 : (a0_1.toList == a1_1.toList && (a0_2.toList == a1_2.toList)) = true := by simpa using c4))
   clear c4
   by_cases c5 : a0_3 = a1_3
   ·rw [if_pos c5] at H
    have c5b0 : (a0_3 == a1_3) = true := beq_iff_eq.mpr c5
    have c5b1 : (a0_3 != a1_3) = false := bne_eq_false_iff_eq.mpr c5
    clear c5
    by_cases c6 : a0_5 = a1_5
    ·rw [if_pos c6] at H
     have c6b0 : (a0_5 == a1_5) = true := beq_iff_eq.mpr c6
     have c6b1 : (a0_5 != a1_5) = false := bne_eq_false_iff_eq.mpr c6
     clear c6
     replace H := Option.bind_eq_some_iff.mp H
     obtain ⟨t490, A70, H⟩ := H
     replace H : (some t490) = some r := H
     have A7 := Az.mk A70
     clear A70
     obtain rfl := Option.some.inj H
     go_enter Tryd.func20, Tryd.ntmps20
     go_wp2_with (first | ((with_reducible refine gate_dst (N := 2) rfl ?_); refine box_event ?hg (N := 2) ?hd (cs := #[.int .i64 a0_0, .string a0_1, .string a0_2, .int .i64 a0_3, .slice A0_4 l0_4.length c0_4, .int .i64 a0_5]) (t := 26) ?hr ?_; (case hd => rfl); (case hg => rfl); (case hr => first | (go_simp; done) | (go_simp; rfl)); intro gb488 hg w8 hbox hb; have BK488 := Az.mk (hbox); have GW488 := Az.mk (geO hg (pbE HB.out)); have GE488 := Az.mk (geO hg (pbE HB.out)); replace HB := Az.mk (pbT (by exact pbE HB.out) hb); clear hb hbox hg) | ((with_reducible refine gate_dst (N := 3) rfl ?_); refine box_event ?hg (N := 3) ?hd (cs := #[.int .i64 a1_0, .string a1_1, .string a1_2, .int .i64 a1_3, .slice A1_4 l1_4.length c1_4, .int .i64 a1_5]) (t := 26) ?hr ?_; (case hd => rfl); (case hg => rfl); (case hr => first | (go_simp; done) | (go_simp; rfl)); intro gb489 hg w9 hbox hb; have BK489 := Az.mk (hbox); have GW489 := Az.mk (geO hg (pbE HB.out)); have GE489 := Az.mk (geO hg (pbE HB.out)); replace HB := Az.mk (pbT (by exact pbE HB.out) hb); have NB488_489 := Az.mk (neO hg (bk BK488.out)); have NB489_488 := Az.mk (neP hg (bk BK488.out)); replace BK488 := Az.mk (bkB (bk BK488.out) hb); clear hb hbox hg; have hnb10 := NB488_489.out; have hnc10 := NB489_488.out; have hcz11 := cells6 BK488.out; have hcz12 := cells6 BK489.out) | (go_at_call 42; (with_reducible refine (api_Member_42.calls k _ _ l0_4 _ _ l1_4 t490 _ ?side1 ?side2 ?side3 ?side4 ?side5 A7.out).mono ?_); (case side1 => exact hG.below (by exact pbE HB.out)); (case side2 => repeat (first | exact (Kd.C_below HR0_4.out HB.out) | (with_reducible refine Kd.C_alloc ?_ _) | (with_reducible refine Kd.C_drewN ?_ _) | (with_reducible refine Kd.C_drew ?_))); (case side3 => exact HC0_4.out); (case side4 => repeat (first | exact (Kd.C_below HR1_4.out HB.out) | (with_reducible refine Kd.C_alloc ?_ _) | (with_reducible refine Kd.C_drewN ?_ _) | (with_reducible refine Kd.C_drew ?_))); (case side5 => exact HC1_4.out); rintro e w' ⟨rfl, ⟨nd, rfl⟩⟩))
     go_ret
     exact ⟨by first | rfl | (simp [errW_none, errW_some] <;> rfl) | (simp [*, errW_none, errW_some] <;> rfl), by exact pbE HB.out⟩
    ·rw [if_neg c6] at H
     have c6b0 : (a0_5 == a1_5) = false := beq_eq_false_iff_ne.mpr c6
     have c6b1 : (a0_5 != a1_5) = true := bne_iff_ne.mpr c6
     obtain rfl := Option.some.inj H
     go_enter Tryd.func20, Tryd.ntmps20
     go_wp2_with (first | ((with_reducible refine gate_dst (N := 2) rfl ?_); refine box_event ?hg (N := 2) ?hd (cs := #[.int .i64 a0_0, .string a0_1, .string a0_2, .int .i64 a0_3, .slice A0_4 l0_4.length c0_4, .int .i64 a0_5]) (t := 26) ?hr ?_; (case hd => rfl); (case hg => rfl); (case hr => first | (go_simp; done) | (go_simp; rfl)); intro gb488 hg w13 hbox hb; have BK488 := Az.mk (hbox); have GW488 := Az.mk (geO hg (pbE HB.out)); have GE488 := Az.mk (geO hg (pbE HB.out)); replace HB := Az.mk (pbT (by exact pbE HB.out) hb); clear hb hbox hg) | ((with_reducible refine gate_dst (N := 3) rfl ?_); refine box_event ?hg (N := 3) ?hd (cs := #[.int .i64 a1_0, .string a1_1, .string a1_2, .int .i64 a1_3, .slice A1_4 l1_4.length c1_4, .int .i64 a1_5]) (t := 26) ?hr ?_; (case hd => rfl); (case hg => rfl); (case hr => first | (go_simp; done) | (go_simp; rfl)); intro gb489 hg w14 hbox hb; have BK489 := Az.mk (hbox); have GW489 := Az.mk (geO hg (pbE HB.out)); have GE489 := Az.mk (geO hg (pbE HB.out)); replace HB := Az.mk (pbT (by exact pbE HB.out) hb); have NB488_489 := Az.mk (neO hg (bk BK488.out)); have NB489_488 := Az.mk (neP hg (bk BK488.out)); replace BK488 := Az.mk (bkB (bk BK488.out) hb); clear hb hbox hg; have hnb15 := NB488_489.out; have hnc15 := NB489_488.out; have hcz16 := cells6 BK488.out; have hcz17 := cells6 BK489.out))
     go_ret
     exact ⟨by first | rfl | (simp [errW_none, errW_some] <;> rfl) | (simp [*, errW_none, errW_some] <;> rfl), by exact pbE HB.out⟩
   ·rw [if_neg c5] at H
    have c5b0 : (a0_3 == a1_3) = false := beq_eq_false_iff_ne.mpr c5
    have c5b1 : (a0_3 != a1_3) = true := bne_iff_ne.mpr c5
    obtain rfl := Option.some.inj H
    go_enter Tryd.func20, Tryd.ntmps20
    go_wp2_with (first | ((with_reducible refine gate_dst (N := 2) rfl ?_); refine box_event ?hg (N := 2) ?hd (cs := #[.int .i64 a0_0, .string a0_1, .string a0_2, .int .i64 a0_3, .slice A0_4 l0_4.length c0_4, .int .i64 a0_5]) (t := 26) ?hr ?_; (case hd => rfl); (case hg => rfl); (case hr => first | (go_simp; done) | (go_simp; rfl)); intro gb488 hg w18 hbox hb; have BK488 := Az.mk (hbox); have GW488 := Az.mk (geO hg (pbE HB.out)); have GE488 := Az.mk (geO hg (pbE HB.out)); replace HB := Az.mk (pbT (by exact pbE HB.out) hb); clear hb hbox hg) | ((with_reducible refine gate_dst (N := 3) rfl ?_); refine box_event ?hg (N := 3) ?hd (cs := #[.int .i64 a1_0, .string a1_1, .string a1_2, .int .i64 a1_3, .slice A1_4 l1_4.length c1_4, .int .i64 a1_5]) (t := 26) ?hr ?_; (case hd => rfl); (case hg => rfl); (case hr => first | (go_simp; done) | (go_simp; rfl)); intro gb489 hg w19 hbox hb; have BK489 := Az.mk (hbox); have GW489 := Az.mk (geO hg (pbE HB.out)); have GE489 := Az.mk (geO hg (pbE HB.out)); replace HB := Az.mk (pbT (by exact pbE HB.out) hb); have NB488_489 := Az.mk (neO hg (bk BK488.out)); have NB489_488 := Az.mk (neP hg (bk BK488.out)); replace BK488 := Az.mk (bkB (bk BK488.out) hb); clear hb hbox hg; have hnb20 := NB488_489.out; have hnc20 := NB489_488.out; have hcz21 := cells6 BK488.out; have hcz22 := cells6 BK489.out))
    go_ret
    exact ⟨by first | rfl | (simp [errW_none, errW_some] <;> rfl) | (simp [*, errW_none, errW_some] <;> rfl), by exact pbE HB.out⟩
  ·rw [if_neg c4] at H
   have c4b0 : (a0_1.toList == a1_1.toList && (a0_2.toList == a1_2.toList)) = false := by simpa using c4
   (try (have c4b1 : decide (a0_1.toList = a1_1.toList && (a0_2.toList == a1_2.toList)) = false := by simpa using c4))
   (try (have c4b2 : (a0_1.toList == a1_1.toList && (a0_2.toList == a1_2.toList)) = false := by simpa using c4))
   (try (have c4b3 : ¬ (a0_1.toList = a1_1.toList && (a0_2.toList == a1_2.toList)) := by simpa using c4))
   clear c4
   obtain rfl := Option.some.inj H
   go_enter Tryd.func20, Tryd.ntmps20
   go_wp2_with (first | ((with_reducible refine gate_dst (N := 2) rfl ?_); refine box_event ?hg (N := 2) ?hd (cs := #[.int .i64 a0_0, .string a0_1, .string a0_2, .int .i64 a0_3, .slice A0_4 l0_4.length c0_4, .int .i64 a0_5]) (t := 26) ?hr ?_; (case hd => rfl); (case hg => rfl); (case hr => first | (go_simp; done) | (go_simp; rfl)); intro gb488 hg w23 hbox hb; have BK488 := Az.mk (hbox); have GW488 := Az.mk (geO hg (pbE HB.out)); have GE488 := Az.mk (geO hg (pbE HB.out)); replace HB := Az.mk (pbT (by exact pbE HB.out) hb); clear hb hbox hg) | ((with_reducible refine gate_dst (N := 3) rfl ?_); refine box_event ?hg (N := 3) ?hd (cs := #[.int .i64 a1_0, .string a1_1, .string a1_2, .int .i64 a1_3, .slice A1_4 l1_4.length c1_4, .int .i64 a1_5]) (t := 26) ?hr ?_; (case hd => rfl); (case hg => rfl); (case hr => first | (go_simp; done) | (go_simp; rfl)); intro gb489 hg w24 hbox hb; have BK489 := Az.mk (hbox); have GW489 := Az.mk (geO hg (pbE HB.out)); have GE489 := Az.mk (geO hg (pbE HB.out)); replace HB := Az.mk (pbT (by exact pbE HB.out) hb); have NB488_489 := Az.mk (neO hg (bk BK488.out)); have NB489_488 := Az.mk (neP hg (bk BK488.out)); replace BK488 := Az.mk (bkB (bk BK488.out) hb); clear hb hbox hg; have hnb25 := NB488_489.out; have hnc25 := NB489_488.out; have hcz26 := cells6 BK488.out; have hcz27 := cells6 BK489.out))
   go_ret
   exact ⟨by first | rfl | (simp [errW_none, errW_some] <;> rfl) | (simp [*, errW_none, errW_some] <;> rfl), by exact pbE HB.out⟩
 ·rw [if_neg c3] at H
  have c3b0 : (a0_0 == a1_0) = false := beq_eq_false_iff_ne.mpr c3
  have c3b1 : (a0_0 != a1_0) = true := bne_iff_ne.mpr c3
  obtain rfl := Option.some.inj H
  go_enter Tryd.func20, Tryd.ntmps20
  go_wp2_with (first | ((with_reducible refine gate_dst (N := 2) rfl ?_); refine box_event ?hg (N := 2) ?hd (cs := #[.int .i64 a0_0, .string a0_1, .string a0_2, .int .i64 a0_3, .slice A0_4 l0_4.length c0_4, .int .i64 a0_5]) (t := 26) ?hr ?_; (case hd => rfl); (case hg => rfl); (case hr => first | (go_simp; done) | (go_simp; rfl)); intro gb488 hg w28 hbox hb; have BK488 := Az.mk (hbox); have GW488 := Az.mk (geO hg (pbE HB.out)); have GE488 := Az.mk (geO hg (pbE HB.out)); replace HB := Az.mk (pbT (by exact pbE HB.out) hb); clear hb hbox hg) | ((with_reducible refine gate_dst (N := 3) rfl ?_); refine box_event ?hg (N := 3) ?hd (cs := #[.int .i64 a1_0, .string a1_1, .string a1_2, .int .i64 a1_3, .slice A1_4 l1_4.length c1_4, .int .i64 a1_5]) (t := 26) ?hr ?_; (case hd => rfl); (case hg => rfl); (case hr => first | (go_simp; done) | (go_simp; rfl)); intro gb489 hg w29 hbox hb; have BK489 := Az.mk (hbox); have GW489 := Az.mk (geO hg (pbE HB.out)); have GE489 := Az.mk (geO hg (pbE HB.out)); replace HB := Az.mk (pbT (by exact pbE HB.out) hb); have NB488_489 := Az.mk (neO hg (bk BK488.out)); have NB489_488 := Az.mk (neP hg (bk BK488.out)); replace BK488 := Az.mk (bkB (bk BK488.out) hb); clear hb hbox hg; have hnb30 := NB488_489.out; have hnc30 := NB489_488.out; have hcz31 := cells6 BK488.out; have hcz32 := cells6 BK489.out))
  go_ret
  exact ⟨by first | rfl | (simp [errW_none, errW_some] <;> rfl) | (simp [*, errW_none, errW_some] <;> rfl), by exact pbE HB.out⟩
end Go.Proofs.YtjfhcijjjadhbaaDoor.P
end
section
namespace Go.Proofs.YtjfhcijjjadhbaaDoor.P
open Go.RowKit Go.Proofs.YtjfhcijjjadhbaaDoor.K Go.Proofs.YtjfhcijjjadhbaaDoorW.PrintWords Go.Proofs.YtjfhcijjjadhbaaDoorW.PrintLast Go.Proofs.YtjfhcijjjadhbaaDoorW.PrintMore
attribute [local go_sem] max2_int min2_int max_two min_two max_three min_three max_four min_four   -- for this text's walks alone
def l06_small.f (a0_0 : Int) (a0_1 : ByteArray) (a0_2 : ByteArray) (a0_3 : Int) (l0_4 : List (S60)) (a0_5 : Int) : Option (Bool) := if (l0_4.length : Int) ≤ 30 then (if (a0_1.size : Int) ≤ 2000 then (some (decide ((a0_2.size : Int) ≤ 2000))) else (some false)) else (some false)
set_option maxHeartbeats 8000000 in
set_option maxRecDepth 100000 in
theorem l06_small.calls (a0_0 : Int) (a0_1 : ByteArray) (a0_2 : ByteArray) (a0_3 : Int) (A0_4 : Option Addr) (c0_4 : Nat) (l0_4 : List (S60)) (a0_5 : Int) (r : Bool) (w : World) (hG : TheG w) (hr0_4 : Kd.C k60 w A0_4 l0_4.length l0_4) (hc0_4 : l0_4.length ≤ c0_4) (h : l06_small.f a0_0 a0_1 a0_2 a0_3 l0_4 a0_5 = some r) :
 Calls Tryd.prog 9 #[.agg #[.int .i64 a0_0, .string a0_1, .string a0_2, .int .i64 a0_3, .slice A0_4 l0_4.length c0_4, .int .i64 a0_5]] w fun e w' => e = .returned (.bool r) ∧ Below w.heap.size w w' := by
 have hu26 := Tryd.underlying26
 have HR0_4 := Az.mk hr0_4
 have HC0_4 := Az.mk hc0_4
 clear hr0_4 hc0_4
 have HB := Az.mk (Below.refl w.heap.size w)
 have H : (if (l0_4.length : Int) ≤ 30 then (if (a0_1.size : Int) ≤ 2000 then (some (decide ((a0_2.size : Int) ≤ 2000))) else (some false)) else (some false)) = some r := h
 clear h
 by_cases c2 : (l0_4.length : Int) ≤ 30
 ·rw [if_pos c2] at H
  have c2b0 : decide ((l0_4.length : Int) ≤ 30) = true := decide_eq_true c2
  have c2b1 : decide (l0_4.length ≤ 30) = true := decide_eq_true (by omega)
  clear c2
  by_cases c3 : (a0_1.size : Int) ≤ 2000
  ·rw [if_pos c3] at H
   have c3b0 : decide ((a0_1.size : Int) ≤ 2000) = true := decide_eq_true c3
   have c3b1 : decide (a0_1.size ≤ 2000) = true := decide_eq_true (by omega)
   clear c3
   obtain rfl := Option.some.inj H
   go_enter Tryd.func9, Tryd.ntmps9
   go_wp2_with (first | ((with_reducible refine gate_dst (N := 1) rfl ?_); (try (refine gate_guard (by rfl) ?_; dsimp only)); refine box_event ?hg (N := 1) ?hd (cs := #[.int .i64 a0_0, .string a0_1, .string a0_2, .int .i64 a0_3, .slice A0_4 l0_4.length c0_4, .int .i64 a0_5]) (t := 26) ?hr ?_; (case hd => rfl); (case hg => rfl); (case hr => first | (go_simp; done) | (go_simp; rfl)); intro gb101 hg w4 hbox hb; have BK101 := Az.mk (hbox); have GW101 := Az.mk (geO hg (pbE HB.out)); have GE101 := Az.mk (geO hg (pbE HB.out)); replace HB := Az.mk (pbT (by exact pbE HB.out) hb); clear hb hbox hg; have hcz5 := cells6 BK101.out))
   go_ret
   exact ⟨by first | rfl | (simp [errW_none, errW_some] <;> rfl) | (simp [*, errW_none, errW_some] <;> rfl), by exact pbE HB.out⟩
  ·rw [if_neg c3] at H
   have c3b0 : decide ((a0_1.size : Int) ≤ 2000) = false := decide_eq_false c3
   have c3b1 : decide (a0_1.size ≤ 2000) = false := decide_eq_false (by omega)
   clear c3
   obtain rfl := Option.some.inj H
   go_enter Tryd.func9, Tryd.ntmps9
   go_wp2_with (first | ((with_reducible refine gate_dst (N := 1) rfl ?_); (try (refine gate_guard (by rfl) ?_; dsimp only)); refine box_event ?hg (N := 1) ?hd (cs := #[.int .i64 a0_0, .string a0_1, .string a0_2, .int .i64 a0_3, .slice A0_4 l0_4.length c0_4, .int .i64 a0_5]) (t := 26) ?hr ?_; (case hd => rfl); (case hg => rfl); (case hr => first | (go_simp; done) | (go_simp; rfl)); intro gb101 hg w6 hbox hb; have BK101 := Az.mk (hbox); have GW101 := Az.mk (geO hg (pbE HB.out)); have GE101 := Az.mk (geO hg (pbE HB.out)); replace HB := Az.mk (pbT (by exact pbE HB.out) hb); clear hb hbox hg; have hcz7 := cells6 BK101.out))
   go_ret
   exact ⟨by first | rfl | (simp [errW_none, errW_some] <;> rfl) | (simp [*, errW_none, errW_some] <;> rfl), by exact pbE HB.out⟩
 ·rw [if_neg c2] at H
  have c2b0 : decide ((l0_4.length : Int) ≤ 30) = false := decide_eq_false c2
  have c2b1 : decide (l0_4.length ≤ 30) = false := decide_eq_false (by omega)
  clear c2
  obtain rfl := Option.some.inj H
  go_enter Tryd.func9, Tryd.ntmps9
  go_wp2_with (first | ((with_reducible refine gate_dst (N := 1) rfl ?_); (try (refine gate_guard (by rfl) ?_; dsimp only)); refine box_event ?hg (N := 1) ?hd (cs := #[.int .i64 a0_0, .string a0_1, .string a0_2, .int .i64 a0_3, .slice A0_4 l0_4.length c0_4, .int .i64 a0_5]) (t := 26) ?hr ?_; (case hd => rfl); (case hg => rfl); (case hr => first | (go_simp; done) | (go_simp; rfl)); intro gb101 hg w8 hbox hb; have BK101 := Az.mk (hbox); have GW101 := Az.mk (geO hg (pbE HB.out)); have GE101 := Az.mk (geO hg (pbE HB.out)); replace HB := Az.mk (pbT (by exact pbE HB.out) hb); clear hb hbox hg; have hcz9 := cells6 BK101.out))
  go_ret
  exact ⟨by first | rfl | (simp [errW_none, errW_some] <;> rfl) | (simp [*, errW_none, errW_some] <;> rfl), by exact pbE HB.out⟩
def l06_num.f (a0 : Int) : Option (Int) := some a0
set_option maxHeartbeats 8000000 in
set_option maxRecDepth 100000 in
theorem l06_num.calls (a0 : Int) (r : Int) (w : World) (hG : TheG w) (h : l06_num.f a0 = some r) :
 Calls Tryd.prog 17 #[.int .i64 a0] w fun e w' => e = .returned (.int .i64 r) ∧ Drawn0 w w' := by
 have H : (some a0) = some r := h
 clear h
 obtain rfl := Option.some.inj H
 go_enter Tryd.func17, Tryd.ntmps17
 go_wp2
 go_ret
 exact ⟨by first | rfl | (simp; done) | (simp [*]; done), by repeat (first | exact Drawn0.refl _ | apply Drawn0.step)⟩
end Go.Proofs.YtjfhcijjjadhbaaDoor.P
end
section
namespace Go.Proofs.YtjfhcijjjadhbaaDoor.V
open Go.RowKit Go.Proofs.YtjfhcijjjadhbaaDoorW.PrintWords Go.Proofs.YtjfhcijjjadhbaaDoorW.PrintLast Go.Proofs.YtjfhcijjjadhbaaDoorW.PrintMore Go.Proofs.YtjfhcijjjadhbaaDoor.P Go.Proofs.YtjfhcijjjadhbaaDoor.K Go.Proofs.YtjfhcijjjadhbaaDoor.A
def okId (n : Int) : Bool := decide (1 ≤ n ∧ n ≤ 1099511627776)
def okM (l : List S60) (nx : Int) : Bool := if l.length = 0 ∨ 5 < l.length then false else isMem nx 0 (fun _ => false) l
def okD (id : Int) (fr tu : ByteArray) (gen : Int) (l : List S60) (nx : Int) : Bool := okId id && (okId gen && (okId nx && (boundOk fr tu && okM l nx)))
theorem isId_eq (n : Int) : desc_isId.f n = some (okId n) := by
 unfold desc_isId.f okId
 split
 ·rename_i h
  congr 1
  exact decide_eq_decide.2 (by omega)
 ·rename_i h
  rw [decide_eq_false (by omega)]
theorem members_eq (l : List S60) (nx : Int) : desc_isMembers.f l nx = some (okM l nx) := by
 unfold desc_isMembers.f okM; split <;> rfl
theorem check_eq (id : Int) (fr tu : ByteArray) (gen : Int) (l : List S60) (nx : Int) : desc_Check.f id fr tu gen l nx = some (if okD id fr tu gen l nx = true then 0 else 60) := by
 unfold desc_Check.f okD bound_Check.f
 simp only [isId_eq, members_eq, Option.bind_some]
 cases okId id <;> cases okId gen <;> cases okId nx <;> cases boundOk fr tu <;> cases okM l nx <;> rfl
abbrev DR := Int × ByteArray × ByteArray × Int × (List S60) × Int × Int
def badD : DR := (0, (⟨#[]⟩ : ByteArray), (⟨#[]⟩ : ByteArray), 0, ([] : List S60), 0, 60)
def rightR (id : Int) (fr tu : ByteArray) (gen : Int) (l : List S60) (nx : Int) : DR := if okD id fr tu gen l nx = true then (id, fr, tu, gen, l, nx, 0) else badD
theorem right_eq (id : Int) (fr tu : ByteArray) (gen : Int) (l : List S60) (nx : Int) : desc_right.f id fr tu gen l nx = some (rightR id fr tu gen l nx) := by
 unfold desc_right.f rightR
 rw [check_eq, Option.bind_some]
 cases okD id fr tu gen l nx <;> rfl
def flatM (l : List S60) : List Int := l.flatMap fun m => [m.f0, m.f1]
def putM (l : List S60) : List ByteArray := l.flatMap fun m => [B (Lib.itoa m.f0), B (Lib.itoa m.f1)]
def putD (id : Int) (fr tu : ByteArray) (gen : Int) (l : List S60) (nx : Int) : List ByteArray := [B (Lib.itoa id), fr, tu, B (Lib.itoa gen), B (Lib.itoa nx)] ++ putM l
def isM (l : List S60) : Prop := ∀ m ∈ l, isI m.f0 ∧ isI m.f1
theorem rd_lt {l : List S60} {i : Nat} (h : i < l.length) : rd_T60 l (i : Int) = l[i] := by simp [rd_T60, h]
theorem putM_length (l : List S60) : (putM l).length = 2 * l.length := by
 induction l with
 | nil => rfl
 | cons e l ih => simp only [putM, List.flatMap_cons, List.length_append, List.length_cons, List.length_nil] at ih ⊢; omega
theorem flatM_length (l : List S60) : (flatM l).length = 2 * l.length := by
 induction l with
 | nil => rfl
 | cons e l ih => simp only [flatM, List.flatMap_cons, List.length_append, List.length_cons, List.length_nil] at ih ⊢; omega
theorem putD_length (id : Int) (fr tu : ByteArray) (gen : Int) (l : List S60) (nx : Int) : (putD id fr tu gen l nx).length = 5 + 2 * l.length := by
 unfold putD; rw [List.length_append, putM_length]; rfl
theorem datas_putM (l : List S60) : datas (putM l) = (flatM l).map Lib.itoa := by
 induction l with
 | nil => rfl
 | cons e l ih =>
  show (B (Lib.itoa e.f0)).data.toList :: (B (Lib.itoa e.f1)).data.toList :: datas (putM l) = Lib.itoa e.f0 :: Lib.itoa e.f1 :: (flatM l).map Lib.itoa
  rw [B_data, B_data, ih]
theorem datas_putD (id : Int) (fr tu : ByteArray) (gen : Int) (l : List S60) (nx : Int) : datas (putD id fr tu gen l nx) = Lib.itoa id :: fr.data.toList :: tu.data.toList :: (gen :: nx :: flatM l).map Lib.itoa := by
 show (B (Lib.itoa id)).data.toList :: fr.data.toList :: tu.data.toList :: (B (Lib.itoa gen)).data.toList :: (B (Lib.itoa nx)).data.toList :: datas (putM l) = _
 rw [B_data, B_data, B_data, datas_putM]; rfl
theorem put_ev {id : Int} {fr tu : ByteArray} {gen : Int} {l : List S60} {nx : Int} (hm : l.length ≤ 1000000000) (hi : isI id) (hg : isI gen) (hn : isI nx) (he : isM l) (ht : (tieD (datas (putD id fr tu gen l nx))).length ≤ 140737488355328) :
 Ev (fun k => desc_Put.f k id fr tu gen l nx) (B (tieD (datas (putD id fr tu gen l nx)))) := by
 simp only [desc_Put.f, num_eq hi, num_eq hg, num_eq hn, Option.bind_some]
 have := Ev.upto (F := fun k (s : List ByteArray) i => desc_Put.l0 k s l (l.length : Int) i) (n := l.length) (G := fun s i => B (tieD (datas (s ++ putM (l.drop i))))) (I := fun s i => s.length ≤ 5 + 2 * i ∧ (tieD (datas (s ++ putM (l.drop i)))).length ≤ 140737488355328)
  (by
   intro s i hi hI ih
   have hdrop : l.drop i = l[i] :: l.drop (i + 1) := List.drop_eq_getElem_cons hi
   have hl : s.length + 2 < 8796093022208 := by omega
   simp only [desc_Put.l0, if_pos (lt_cast hi), if_pos (nn i), wrap_nat (n := i) (by omega), rd_lt hi, num_eq (he _ (List.getElem_mem hi)).1, num_eq (he _ (List.getElem_mem hi)).2, Option.bind_some, List.length_cons, List.length_nil, Nat.zero_add, Nat.reduceAdd, if_pos hl]
   have e : s ++ putM (l.drop i) = (s ++ [B (Lib.itoa l[i].f0), B (Lib.itoa l[i].f1)]) ++ putM (l.drop (i + 1)) := by rw [hdrop, List.append_assoc]; rfl
   rw [e]
   refine ih _ ⟨by simp; omega, ?_⟩
   rw [← e]; exact hI.2)
  (by
   intro s hI
   have h2 := hI.2
   rw [List.drop_length] at h2 ⊢
   have e : s ++ putM [] = s := by simp [putM]
   rw [e] at h2 ⊢
   simp only [desc_Put.l0, if_neg (Int.lt_irrefl _), ktie h2, Option.bind_some]
   exact Ev.now _) 0 (Nat.zero_le _) [B (Lib.itoa id), fr, tu, B (Lib.itoa gen), B (Lib.itoa nx)] ⟨by simp, by rw [List.drop_zero]; exact ht⟩
 exact this
def nums : List (List UInt8) → Option (List Int)
 | [] => some []
 | a :: r => match pz a with | some n => (nums r).map (n :: ·) | none => none
theorem nums_some : ∀ {ss : List (List UInt8)} {ns : List Int}, nums ss = some ns → ss = ns.map Lib.itoa ∧ ∀ n ∈ ns, isI n
 | [], ns, h => by
  injection h with h
  subst h
  exact ⟨rfl, fun n hn => by simp at hn⟩
 | a :: r, ns, h => by
  unfold nums at h
  cases hp : pz a with
  | none => rw [hp] at h; cases h
  | some n =>
   rw [hp] at h
   simp only [Option.map_eq_some_iff] at h
   obtain ⟨m, hm, rfl⟩ := h
   obtain ⟨e, hi⟩ := nums_some hm
   refine ⟨by rw [List.map_cons, ← e, ← pz_some hp], fun x hx => ?_⟩
   rcases List.mem_cons.1 hx with rfl | hx
   ·exact pz_isI hp
   ·exact hi x hx
theorem nums_itoa : ∀ {ns : List Int}, (∀ n ∈ ns, isI n) → nums (ns.map Lib.itoa) = some ns
 | [], _ => rfl
 | n :: r, h => by
  rw [List.map_cons]
  unfold nums
  rw [pz_itoa (h n (by simp)), nums_itoa (fun x hx => h x (by simp [hx]))]
  rfl
theorem rd_B {ss : List (List UInt8)} {i : Nat} {x : List UInt8} (h : ss[i]? = some x) : rdOf ByteArray.empty (ss.map B) (i : Int) = B x := by
 simp [rdOf, h]
theorem intB (x : List UInt8) (h : x.length ≤ 1048576) : knot_Int.f (B x) = some (intA (pz x)) := by
 rw [int_eq (by rw [B_size]; omega), B_data]; rfl
theorem numbers_ev (ss : List (List UInt8)) (hs : ∀ x ∈ ss, x.length ≤ 1048576) (hn : ss.length ≤ 100000) : Ev (fun k => desc_numbers.f k (ss.map B)) (match nums ss with | some ns => (ns, true) | none => (([] : List Int), false)) := by
 have := Ev.upto (F := fun k (s : List Int) i => desc_numbers.l0 k s (ss.map B) (ss.length : Int) i) (n := ss.length) (G := fun s i => match nums (ss.drop i) with | some ns => (s ++ ns, true) | none => (([] : List Int), false)) (I := fun s i => s.length ≤ i)
  (by
   intro s i hi hI ih
   have hdrop : ss.drop i = ss[i] :: ss.drop (i + 1) := List.drop_eq_getElem_cons hi
   have hl : s.length < 17592186044416 := by omega
   have hr := rd_B (List.getElem?_eq_getElem hi)
   have hI' := intB _ (hs _ (List.getElem_mem hi))
   have hi' : (i : Int) < ((ss.map B).length : Int) := by rw [List.length_map]; omega
   simp only [desc_numbers.l0, if_pos (lt_cast hi), if_pos (nn i), if_pos hi', wrap_nat (n := i) (by omega), hr, hI', Option.bind_some, hdrop, nums]
   cases hp : pz ss[i] with
   | none => exact Ev.ite (fun h => absurd h (by decide)) (fun _ => Ev.now _)
   | some m =>
    simp only [intA]
    refine Ev.ite (fun _ => ?_) (fun h => absurd trivial h)
    simp only [if_pos hl]
    have := ih (s ++ [m]) (by simp; omega)
    cases hq : nums (ss.drop (i + 1)) with
    | none => rw [hq] at this; exact this
    | some r =>
     rw [hq] at this
     simp only [List.append_assoc, List.cons_append, List.nil_append] at this
     exact this)
  (by
   intro s hI
   rw [List.drop_length]
   simp only [desc_numbers.l0, if_neg (Int.lt_irrefl _), nums, List.append_nil]
   exact Ev.now _) 0 (Nat.zero_le _) [] (Nat.zero_le _)
 have e : ((ss.map B).length : Int) = (ss.length : Int) := by rw [List.length_map]
 simp only [desc_numbers.f, e]
 simp only [List.drop_zero, List.nil_append] at this
 exact this
theorem pairs_flat : ∀ (q : List Int), q.length % 2 = 0 → flatM (pairsOf q) = q
 | [], _ => rfl
 | [_], h => by simp at h
 | a :: b :: r, h => by
  show a :: b :: flatM (pairsOf r) = _
  rw [pairs_flat r (by simp at h; omega)]
theorem flat_pairs : ∀ (l : List S60), pairsOf (flatM l) = l
 | [] => rfl
 | m :: r => by
  show (⟨m.f0, m.f1⟩ : S60) :: pairsOf (flatM r) = _
  rw [flat_pairs r]
theorem pairs_length (q : List Int) (h : q.length % 2 = 0) : 2 * (pairsOf q).length = q.length := by
 rw [← flatM_length, pairs_flat q h]
theorem pairs_isM {q : List Int} (h : q.length % 2 = 0) (hi : ∀ n ∈ q, isI n) : isM (pairsOf q) := by
 intro m hm
 have := pairs_flat q h
 have h0 : m.f0 ∈ flatM (pairsOf q) := List.mem_flatMap.2 ⟨m, hm, by simp⟩
 have h1 : m.f1 ∈ flatM (pairsOf q) := List.mem_flatMap.2 ⟨m, hm, by simp⟩
 rw [this] at h0 h1
 exact ⟨hi _ h0, hi _ h1⟩
def parseN (f t : List UInt8) : Option (List Int) → DR
 | some (id :: gen :: nx :: q) => if q.length % 2 = 1 then badD else rightR id (B f) (B t) gen (pairsOf q) nx
 | _ => badD
def parseL : List (List UInt8) → DR
 | a :: f :: t :: r => if r.length < 2 then badD else parseN f t (nums (a :: r))
 | _ => badD
def parseR (s : ByteArray) : DR := match untieL s.data.toList with | some ss => parseL ss | none => badD
theorem j1_bad (s : ByteArray) (l : List ByteArray) (n : List Int) : Ev (fun k => desc_Parse.j1 k s l n true) badD := by
 refine Ev.shift ?_
 simp only [desc_Parse.j1, if_true]
 exact Ev.now _
theorem j0_bad (s : ByteArray) (l : List ByteArray) : Ev (fun k => desc_Parse.j0 k s l true) badD := by
 refine Ev.shift ?_
 simp only [desc_Parse.j0, if_true]
 exact Ev.now _
theorem parse_ev (s : ByteArray) : Ev (fun k => desc_Parse.f k s) (parseR s) := by
 refine Ev.bind (untie_ev s) ?_
 unfold untieR parseR
 cases hu : untieL s.data.toList with
 | none => exact Ev.ite (fun h => absurd h (by decide)) (fun _ => j0_bad _ _)
 | some ss =>
  obtain ⟨h1, h2, h3⟩ := untieL_some hu
  have hs : ∀ x ∈ ss, x.length ≤ 1048576 := by
   intro x hx
   have := tie_mem hx
   rw [← h1] at this
   omega
  simp only [List.length_map]
  refine Ev.ite (fun _ => ?_) (fun h => absurd trivial h)
  by_cases h5 : (ss.length : Int) < 5
  ·rw [decide_eq_true h5]
   have e : parseL ss = badD := by
    rcases ss with _ | ⟨a, _ | ⟨f, _ | ⟨t, r⟩⟩⟩
    ·rfl
    ·rfl
    ·rfl
    ·simp only [List.length_cons] at h5
     simp only [parseL]
     rw [if_pos (by omega)]
   simp only [e]
   exact j0_bad _ _
  ·rw [decide_eq_false h5]
   obtain ⟨a, f, t, r, rfl⟩ : ∃ a f t r, ss = a :: f :: t :: r := by
    rcases ss with _ | ⟨a, _ | ⟨f, _ | ⟨t, r⟩⟩⟩
    ·simp at h5
    ·simp at h5
    ·simp at h5
    ·exact ⟨_, _, _, _, rfl⟩
   have hr2 : ¬ r.length < 2 := by simp only [List.length_cons] at h5; omega
   have hrn : r.length ≤ 4093 := by simp only [List.length_cons] at h2; omega
   simp only [parseL, if_neg hr2]
   refine Ev.shift ?_
   have c1 : (0 : Int) < (((a :: f :: t :: r).map B).length : Int) := by rw [List.length_map]; simp only [List.length_cons]; omega
   have c2 : (3 : Int) ≤ (((a :: f :: t :: r).map B).length : Int) := by rw [List.length_map]; simp only [List.length_cons]; omega
   have c3 : [rdOf ByteArray.empty ((a :: f :: t :: r).map B) 0].length + (((a :: f :: t :: r).map B).drop 3).length < 8796093022208 := by
    rw [List.length_drop, List.length_map]; simp only [List.length_cons, List.length_nil]; omega
   have e0 : [rdOf ByteArray.empty ((a :: f :: t :: r).map B) 0] ++ ((a :: f :: t :: r).map B).drop 3 = (a :: r).map B := rfl
   simp only [desc_Parse.j0, Bool.false_eq_true, if_false, if_pos c1, if_pos c2, Option.bind_some, if_pos c3, e0]
   refine Ev.bind (numbers_ev (a :: r) (fun x hx => hs x ?_) (by simp only [List.length_cons]; omega)) ?_
   ·rcases List.mem_cons.1 hx with rfl | hx
    ·simp
    ·simp [hx]
   cases hq : nums (a :: r) with
   | none => exact Ev.ite (fun h => absurd h (by simp)) (fun _ => j1_bad _ _ _)
   | some ns =>
    refine Ev.ite (fun _ => ?_) (fun h => absurd rfl h)
    obtain ⟨en, hin⟩ := nums_some hq
    have hl : ns.length = r.length + 1 := by have := congrArg List.length en; simp only [List.length_cons, List.length_map] at this; omega
    obtain ⟨id, gen, nx, q, rfl⟩ : ∃ id gen nx q, ns = id :: gen :: nx :: q := by
     rcases ns with _ | ⟨id, _ | ⟨gen, _ | ⟨nx, q⟩⟩⟩
     ·simp at hl
     ·simp only [List.length_cons, List.length_nil] at hl; omega
     ·simp only [List.length_cons, List.length_nil] at hl; omega
     ·exact ⟨_, _, _, _, rfl⟩
    simp only [parseN]
    simp only [List.length_cons] at hl
    by_cases ho : q.length % 2 = 1
    ·have e : ((((id :: gen :: nx :: q).length : Int) % 2) == 0) = true := by rw [beq_iff_eq]; simp only [List.length_cons]; omega
     rw [if_pos ho]
     simp only [e]
     exact j1_bad _ _ _
    ·have e : ((((id :: gen :: nx :: q).length : Int) % 2) == 0) = false := by rw [beq_eq_false_iff_ne]; simp only [List.length_cons]; omega
     have hev : q.length % 2 = 0 := by omega
     rw [if_neg ho]
     simp only [e]
     refine Ev.shift ?_
     have d1 : (0 : Int) < ((id :: gen :: nx :: q).length : Int) := by simp only [List.length_cons]; omega
     have d2 : (1 : Int) < (((a :: f :: t :: r).map B).length : Int) := by omega
     have d3 : (2 : Int) < (((a :: f :: t :: r).map B).length : Int) := by omega
     have d4 : (1 : Int) < ((id :: gen :: nx :: q).length : Int) := by simp only [List.length_cons]; omega
     have d5 : (2 : Int) < ((id :: gen :: nx :: q).length : Int) := by simp only [List.length_cons]; omega
     have hc : slices_Chunk_int64_int64.f (id :: gen :: nx :: q) 2 = some (pairsOf q) := by
      unfold slices_Chunk_int64_int64.f
      rw [if_pos ⟨rfl, by simp only [List.length_cons]; omega, by simp only [List.length_cons]; omega, by simp only [List.length_cons]; omega⟩]
      rfl
     have g0 : rd (id :: gen :: nx :: q) 0 = id := rfl
     have g1 : rd (id :: gen :: nx :: q) 1 = gen := rfl
     have g2 : rd (id :: gen :: nx :: q) 2 = nx := rfl
     have g3 : rdOf ByteArray.empty ((a :: f :: t :: r).map B) 1 = B f := rfl
     have g4 : rdOf ByteArray.empty ((a :: f :: t :: r).map B) 2 = B t := rfl
     have hd : datas (putD id (B f) (B t) gen (pairsOf q) nx) = a :: f :: t :: r := by
      rw [datas_putD, B_data, B_data, pairs_flat q hev]
      simp only [List.map_cons, List.cons.injEq] at en ⊢
      exact ⟨en.1.symm, trivial, trivial, en.2.symm⟩
     have hM := pairs_isM hev (fun n hn => hin n (by simp [hn]))
     have hpl := pairs_length q hev
     simp only [desc_Parse.j1, Bool.false_eq_true, if_false, if_pos d1, if_pos d2, if_pos d3, if_pos d4, if_pos d5, hc, Option.bind_some, g0, g1, g2, g3, g4]
     refine Ev.bind (put_ev (by omega) (hin id (by simp)) (hin gen (by simp)) (hin nx (by simp)) hM (by rw [hd, ← h1]; omega)) ?_
     rw [hd]
     refine Ev.ite (fun _ => ?_) (fun h => absurd (by rw [B_toList, ← h1, Lib.toList_data]) h)
     rw [right_eq, Option.bind_some]
     exact Ev.now _
instance : DecidableEq S60 := fun a b => decidable_of_iff (a.f0 = b.f0 ∧ a.f1 = b.f1) ⟨fun h => by cases a; cases b; simp at h; rw [h.1, h.2], fun h => by rw [h]; exact ⟨rfl, rfl⟩⟩
theorem M_ext {a b : S60} (h0 : a.f0 = b.f0) (h1 : a.f1 = b.f1) : a = b := by cases a; cases b; simp at h0 h1; rw [h0, h1]
theorem equal_ev (a b : List S60) (hm : a.length ≤ 9223372036854775000) : Ev (fun k => api_Member_42.f k a b) (decide (a = b)) := by
 refine Ev.ite (fun h => ?_) (fun h => ?_)
 ·have hl : a.length = b.length := by omega
  have := Ev.upto (F := fun k (_ : Unit) i => api_Member_42.l0 k a b (a.length : Int) i) (n := a.length) (G := fun _ i => decide (a.drop i = b.drop i)) (I := fun _ _ => True)
   (by
    intro _ i hi _ ih
    have hi2 : i < b.length := by omega
    have hd1 : a.drop i = a[i] :: a.drop (i + 1) := List.drop_eq_getElem_cons hi
    have hd2 : b.drop i = b[i] :: b.drop (i + 1) := List.drop_eq_getElem_cons hi2
    simp only [api_Member_42.l0, if_pos (lt_cast hi), if_pos (nn i), if_pos (lt_cast hi2), rd_lt hi, rd_lt hi2, hd1, hd2, wrap_nat (n := i) (by omega)]
    refine Ev.ite (fun h => ?_) (fun h => ?_)
    ·rw [decide_eq_false (fun e => ?_)]
     ·exact Ev.now _
     ·injection e with e1 _
      rw [e1] at h
      simp at h
    ·have e1 : a[i] = b[i] := by
      simp only [Bool.or_eq_true, Bool.not_eq_true', beq_eq_false_iff_ne, not_or, ne_eq, Classical.not_not] at h
      exact M_ext h.1 h.2
     rw [show decide (a[i] :: a.drop (i + 1) = b[i] :: b.drop (i + 1)) = decide (a.drop (i + 1) = b.drop (i + 1)) from decide_eq_decide.2 ⟨fun h => by injection h, fun h => by rw [e1, h]⟩]
     exact ih () trivial)
   (by
    intro _ _
    have e : decide (a.drop a.length = b.drop a.length) = true := decide_eq_true (by rw [List.drop_length, hl, List.drop_length])
    rw [e]
    simp only [api_Member_42.l0, if_neg (Int.lt_irrefl _)]
    exact Ev.now _) 0 (Nat.zero_le _) () trivial
  exact this
 ·rw [decide_eq_false (fun e => h (by rw [e]))]; exact Ev.now _
theorem same_ev {id : Int} {fr tu : ByteArray} {gen : Int} {l : List S60} {nx id2 : Int} {fr2 to2 : ByteArray} {gen2 : Int} {l2 : List S60} {nx2 : Int} (hm : l.length ≤ 9223372036854775000) :
 Ev (fun k => desc_Same.f k id fr tu gen l nx id2 fr2 to2 gen2 l2 nx2) (decide (id = id2 ∧ fr = fr2 ∧ tu = to2 ∧ gen = gen2 ∧ nx = nx2 ∧ l = l2)) := by
 refine Ev.ite (fun h1 => Ev.ite (fun h2 => Ev.ite (fun h3 => Ev.ite (fun h4 => Ev.bind (equal_ev l l2 hm) ?_) (fun h4 => ?_)) (fun h3 => ?_)) (fun h2 => ?_)) (fun h1 => ?_)
 ·simp only [Bool.and_eq_true, beq_iff_eq, toList_inj] at h2
  rw [show decide (id = id2 ∧ fr = fr2 ∧ tu = to2 ∧ gen = gen2 ∧ nx = nx2 ∧ l = l2) = decide (l = l2) from decide_eq_decide.2 ⟨fun h => h.2.2.2.2.2, fun h => ⟨h1, h2.1, h2.2, h3, h4, h⟩⟩]
  exact Ev.now _
 ·rw [decide_eq_false (fun e => h4 e.2.2.2.2.1)]; exact Ev.now _
 ·rw [decide_eq_false (fun e => h3 e.2.2.2.1)]; exact Ev.now _
 ·rw [decide_eq_false (fun e => h2 (by rw [e.2.1, e.2.2.1]; simp))]; exact Ev.now _
 ·rw [decide_eq_false (fun e => h1 e.1)]; exact Ev.now _
def smallD (fr tu : ByteArray) (l : List S60) : Bool := decide (l.length ≤ 30 ∧ fr.size ≤ 2000 ∧ tu.size ≤ 2000)
theorem small_eq (id : Int) (fr tu : ByteArray) (gen : Int) (l : List S60) (nx : Int) : l06_small.f id fr tu gen l nx = some (smallD fr tu l) := by
 unfold l06_small.f smallD
 by_cases h1 : (l.length : Int) ≤ 30
 ·by_cases h2 : (fr.size : Int) ≤ 2000
  ·rw [if_pos h1, if_pos h2]; congr 1; exact decide_eq_decide.2 (by omega)
  ·rw [if_pos h1, if_neg h2, decide_eq_false (by omega)]
 ·rw [if_neg h1, decide_eq_false (by omega)]
theorem total_le {K : Nat} : ∀ {l : List ByteArray}, (∀ x ∈ l, x.size ≤ K) → total l ≤ K * l.length
 | [], _ => Nat.zero_le _
 | a :: r, h => by
  have h1 := h a (by simp)
  have h2 := total_le (fun x hx => h x (by simp [hx]) : ∀ x ∈ r, x.size ≤ K)
  have : total (a :: r) = a.size + total r := rfl
  rw [this, List.length_cons, Nat.mul_add, Nat.mul_one]
  omega
theorem put_mem {id : Int} {fr tu : ByteArray} {gen : Int} {l : List S60} {nx : Int} (hi : isI id) (hg : isI gen) (hn : isI nx) (he : isM l) {K : Nat} (h20 : 20 ≤ K) (hf : fr.size ≤ K) (ht : tu.size ≤ K) : ∀ x ∈ putD id fr tu gen l nx, x.size ≤ K := by
 intro x hx
 have hB : ∀ {n : Int}, isI n → (B (Lib.itoa n)).size ≤ K := fun h => by rw [B_size]; exact Nat.le_trans (itoa_le20 h) h20
 simp only [putD, List.mem_append, List.mem_cons, List.not_mem_nil, or_false, putM, List.mem_flatMap] at hx
 rcases hx with (rfl | rfl | rfl | rfl | rfl) | ⟨m, hm, rfl | rfl⟩
 ·exact hB hi
 ·exact hf
 ·exact ht
 ·exact hB hg
 ·exact hB hn
 ·exact hB (he m hm).1
 ·exact hB (he m hm).2
theorem put_len {id : Int} {fr tu : ByteArray} {gen : Int} {l : List S60} {nx : Int} (hi : isI id) (hg : isI gen) (hn : isI nx) (he : isM l) (hs : smallD fr tu l = true) : (tieD (datas (putD id fr tu gen l nx))).length ≤ 200000 := by
 have hs := of_decide_eq_true hs
 have hreach : reachBytes = 140737488351232 := rfl
 have hm := put_mem hi hg hn he (K := 2000) (by omega) hs.2.1 hs.2.2
 have h1 := tie_total (putD id fr tu gen l nx) (fun x hx => Nat.le_trans (hm x hx) (by omega))
 have h2 := total_le hm
 rw [putD_length] at h1 h2
 omega
theorem putD_inj {id : Int} {fr tu : ByteArray} {gen : Int} {l : List S60} {nx id2 : Int} {fr2 to2 : ByteArray} {gen2 : Int} {l2 : List S60} {nx2 : Int} (hi : isI id) (hg : isI gen) (hn : isI nx) (he : isM l) (hi2 : isI id2) (hg2 : isI gen2) (hn2 : isI nx2) (he2 : isM l2)
 (h : datas (putD id fr tu gen l nx) = datas (putD id2 fr2 to2 gen2 l2 nx2)) : id = id2 ∧ fr = fr2 ∧ tu = to2 ∧ gen = gen2 ∧ nx = nx2 ∧ l = l2 := by
 rw [datas_putD, datas_putD] at h
 injection h with e1 h
 injection h with e2 h
 injection h with e3 h
 have hF : ∀ {l : List S60}, isM l → ∀ n ∈ flatM l, isI n := by
  intro l he n hn
  obtain ⟨m, hm, hx⟩ := List.mem_flatMap.1 hn
  simp only [List.mem_cons, List.not_mem_nil, or_false] at hx
  rcases hx with rfl | rfl
  ·exact (he m hm).1
  ·exact (he m hm).2
 have ha : nums ((gen :: nx :: flatM l).map Lib.itoa) = some (gen :: nx :: flatM l) := nums_itoa (by
  intro n hx
  rcases List.mem_cons.1 hx with rfl | hx
  ·exact hg
  rcases List.mem_cons.1 hx with rfl | hx
  ·exact hn
  exact hF he n hx)
 have hb : nums ((gen2 :: nx2 :: flatM l2).map Lib.itoa) = some (gen2 :: nx2 :: flatM l2) := nums_itoa (by
  intro n hx
  rcases List.mem_cons.1 hx with rfl | hx
  ·exact hg2
  rcases List.mem_cons.1 hx with rfl | hx
  ·exact hn2
  exact hF he2 n hx)
 rw [h, hb] at ha
 injection ha with ha
 injection ha with f1 ha
 injection ha with f2 ha
 refine ⟨itoa_inj hi hi2 e1, ext_data e2, ext_data e3, f1.symm, f2.symm, ?_⟩
 rw [← flat_pairs l, ← flat_pairs l2, ha]
theorem flat_isI {l : List S60} (he : isM l) : ∀ n ∈ flatM l, isI n := by
 intro n hn
 obtain ⟨m, hm, hx⟩ := List.mem_flatMap.1 hn
 simp only [List.mem_cons, List.not_mem_nil, or_false] at hx
 rcases hx with rfl | rfl
 ·exact (he m hm).1
 ·exact (he m hm).2
theorem parse_put {id : Int} {fr tu : ByteArray} {gen : Int} {l : List S60} {nx : Int} (hi : isI id) (hg : isI gen) (hn : isI nx) (he : isM l) (hm : l.length ≤ 2000) (ht : (tieD (datas (putD id fr tu gen l nx))).length ≤ 1048576) :
 parseR (B (tieD (datas (putD id fr tu gen l nx)))) = rightR id fr tu gen l nx := by
 have hlen : (datas (putD id fr tu gen l nx)).length ≤ 4096 := by unfold datas; rw [List.length_map, putD_length]; omega
 unfold parseR
 rw [B_data, untieL_tie _ hlen ht, datas_putD]
 simp only [parseL]
 have hnum : nums ((id :: gen :: nx :: flatM l).map Lib.itoa) = some (id :: gen :: nx :: flatM l) := nums_itoa (by
  intro n hx
  rcases List.mem_cons.1 hx with rfl | hx
  ·exact hi
  rcases List.mem_cons.1 hx with rfl | hx
  ·exact hg
  rcases List.mem_cons.1 hx with rfl | hx
  ·exact hn
  exact flat_isI he n hx)
 rw [if_neg (by simp only [List.length_map, List.length_cons]; omega), ← List.map_cons, hnum]
 simp only [parseN]
 rw [if_neg (by rw [flatM_length]; omega), flat_pairs, B_of, B_of]
/-- A knot that begins another one's text has fewer strands. -/
theorem tie_prefix : ∀ {a b : List (List UInt8)} {r : List UInt8}, r ≠ [] → (tieD b).length ≤ 1048576 → tieD a ++ r = tieD b → a.length < b.length
 | [], [], r, hr, _, h => absurd h hr
 | [], _ :: _, _, _, _, _ => by simp
 | x :: a, [], r, hr, _, h => by
  have := congrArg List.length h
  rw [tie_cons, List.append_assoc, List.length_append, strand_length] at this
  simp [tieD] at this
 | x :: a, y :: b, r, hr, hb, h => by
  rw [tie_cons, tie_cons, List.append_assoc] at h
  rw [tie_cons, List.length_append] at hb
  have hl := congrArg List.length h
  simp only [List.length_append] at hl
  have hx := firstL_strand x (tieD a ++ r) (by omega)
  have hy := firstL_strand y (tieD b) (by omega)
  rw [h, hy] at hx
  injection hx with hx
  injection hx with e1 e2
  have := tie_prefix hr (by omega) e2.symm
  simp only [List.length_cons]
  omega
theorem okD_len {id : Int} {fr tu : ByteArray} {gen : Int} {l : List S60} {nx : Int} (h : okD id fr tu gen l nx = true) : 1 ≤ l.length ∧ l.length ≤ 5 := by
 unfold okD at h
 simp only [Bool.and_eq_true] at h
 have h5 := h.2.2.2.2
 unfold okM at h5
 split at h5
 ·cases h5
 ·omega
theorem parse_err (s : ByteArray) : (parseR s).2.2.2.2.2.2 = 60 ∨ ∃ ss, untieL s.data.toList = some ss ∧ 7 ≤ ss.length := by
 unfold parseR
 cases hu : untieL s.data.toList with
 | none => exact .inl rfl
 | some ss =>
  by_cases h7 : 7 ≤ ss.length
  ·exact .inr ⟨ss, rfl, h7⟩
  ·left
   simp only
   rcases ss with _ | ⟨a, _ | ⟨f, _ | ⟨t, r⟩⟩⟩
   ·rfl
   ·rfl
   ·rfl
   ·simp only [parseL]
    split
    ·rfl
    ·cases hq : nums (a :: r) with
     | none => rfl
     | some ns =>
      obtain ⟨en, _⟩ := nums_some hq
      have hl := congrArg List.length en
      simp only [List.length_cons, List.length_map] at hl h7
      rcases ns with _ | ⟨id, _ | ⟨gen, _ | ⟨nx, q⟩⟩⟩
      ·rfl
      ·rfl
      ·rfl
      ·simp only [parseN]
       simp only [List.length_cons] at hl
       split
       ·rfl
       ·rename_i ho
        unfold rightR
        rw [if_neg]
        ·rfl
        ·intro hok
         have h1 := (okD_len hok).1
         have h2 := pairs_length q (by omega)
         omega
theorem parse_cut {id : Int} {fr tu : ByteArray} {gen : Int} {l : List S60} {nx : Int} (hm : l.length ≤ 1) (ht : (tieD (datas (putD id fr tu gen l nx))).length ≤ 1048576) (n : Nat) (hn : n < (tieD (datas (putD id fr tu gen l nx))).length) :
 (parseR ((B (tieD (datas (putD id fr tu gen l nx)))).extract 0 n)).2.2.2.2.2.2 = 60 := by
 rcases parse_err ((B (tieD (datas (putD id fr tu gen l nx)))).extract 0 n) with h | ⟨ss, hss, h7⟩
 ·exact h
 ·exfalso
  rw [take_data, B_data] at hss
  obtain ⟨h1, _, _⟩ := untieL_some hss
  have h2 := tie_prefix (a := ss) (b := datas (putD id fr tu gen l nx)) (r := (tieD (datas (putD id fr tu gen l nx))).drop n) (fun e => by
   have := congrArg List.length e
   rw [List.length_drop] at this
   simp only [List.length_nil] at this
   omega) ht (by rw [← h1, List.take_append_drop])
  unfold datas at h2
  rw [List.length_map, putD_length] at h2
  omega
end Go.Proofs.YtjfhcijjjadhbaaDoor.V
end
section
namespace Go.Proofs.YtjfhcijjjadhbaaDoor.P
open Go.RowKit Go.Shelf Go.Proofs.YtjfhcijjjadhbaaDoor.K Go.Proofs.YtjfhcijjjadhbaaDoorW.PrintWords Go.Proofs.YtjfhcijjjadhbaaDoorW.PrintLast Go.Proofs.YtjfhcijjjadhbaaDoorW.PrintMore
def aggM (m : S60) : Value := .agg #[.int .i64 m.f0, .int .i64 m.f1]
theorem two_old {w w2 : World} {c1 c2 : Array Value} {t t2 : TypeId} (hb : Below ((w.alloc (.cells c1 t)).alloc (.cells c2 t2)).heap.size ((w.alloc (.cells c1 t)).alloc (.cells c2 t2)) w2) (_ _ : Unit) : w2.heap[w.heap.size]? = some (.cells c1 t (0, 0)) := by
 have h1 : (w.alloc (.cells c1 t)).heap.size = w.heap.size + 1 := by simp
 have h2 : ((w.alloc (.cells c1 t)).alloc (.cells c2 t2)).heap.size = w.heap.size + 2 := by simp
 rw [hb.block w.heap.size (by omega), heap_alloc_old _ _ (by omega)]
 exact heap_alloc_new w _
theorem two_new {w w2 : World} {c1 c2 : Array Value} {t t2 : TypeId} (hb : Below ((w.alloc (.cells c1 t)).alloc (.cells c2 t2)).heap.size ((w.alloc (.cells c1 t)).alloc (.cells c2 t2)) w2) (_ _ : Unit) : w2.heap[w.heap.size + 1]? = some (.cells c2 t2 (0, 0)) := by
 have h1 : (w.alloc (.cells c1 t)).heap.size = w.heap.size + 1 := by simp
 have h2 : ((w.alloc (.cells c1 t)).alloc (.cells c2 t2)).heap.size = w.heap.size + 2 := by simp
 rw [hb.block (w.heap.size + 1) (by omega), ← h1]
 exact heap_alloc_new _ _
theorem three_new {w w2 : World} {c1 c2 c3 : Array Value} {t t2 t3 : TypeId} (hb : Below (((w.alloc (.cells c1 t)).alloc (.cells c2 t2)).alloc (.cells c3 t3)).heap.size (((w.alloc (.cells c1 t)).alloc (.cells c2 t2)).alloc (.cells c3 t3)) w2) (_ _ : Unit) : w2.heap[w.heap.size + 2]? = some (.cells c3 t3 (0, 0)) := by
 have h1 : ((w.alloc (.cells c1 t)).alloc (.cells c2 t2)).heap.size = w.heap.size + 2 := by simp
 have h2 : (((w.alloc (.cells c1 t)).alloc (.cells c2 t2)).alloc (.cells c3 t3)).heap.size = w.heap.size + 3 := by simp
 rw [hb.block (w.heap.size + 2) (by omega), ← h1]
 exact heap_alloc_new _ _
theorem put2 {w1 : World} {B : Nat} {t : TypeId} {x y : Value} (BL : w1.heap[B]? = some (.cells #[.int .i64 0, .int .i64 0] t (0, 0))) : ((w1.setCell ⟨B, 0, none⟩ x).setCell ⟨B, 1, none⟩ y).heap[B]? = some (.cells #[x, y] t (0, 0)) := by
 refine blk_put (cs := #[x, .int .i64 0]) ?_ 1 _ rfl
 exact blk_put (cs := #[.int .i64 0, .int .i64 0]) BL 0 _ rfl
theorem three_old {w w2 : World} {c1 c2 c3 : Array Value} {t t2 t3 : TypeId} (hb : Below (((w.alloc (.cells c1 t)).alloc (.cells c2 t2)).alloc (.cells c3 t3)).heap.size (((w.alloc (.cells c1 t)).alloc (.cells c2 t2)).alloc (.cells c3 t3)) w2) (_ _ : Unit) : w2.heap[w.heap.size]? = some (.cells c1 t (0, 0)) := bkB (bkA (bkA (heap_alloc_new w _) _) _) hb
theorem three_mid2 {w w2 : World} {c1 c2 c3 : Array Value} {t t2 t3 : TypeId} (hb : Below (((w.alloc (.cells c1 t)).alloc (.cells c2 t2)).alloc (.cells c3 t3)).heap.size (((w.alloc (.cells c1 t)).alloc (.cells c2 t2)).alloc (.cells c3 t3)) w2) (_ _ : Unit) : w2.heap[w.heap.size + 1]? = some (.cells c2 t2 (0, 0)) := by
 have h1 : (w.alloc (.cells c1 t)).heap.size = w.heap.size + 1 := by simp
 refine bkB (bkA ?_ _) hb
 rw [← h1]
 exact heap_alloc_new _ _
theorem three_mid (w : World) (c1 c2 c3 : Array Value) (t t2 t3 : TypeId) : (((w.alloc (.cells c1 t)).alloc (.cells c2 t2)).alloc (.cells c3 t3)).heap[w.heap.size + 1]? = some (.cells c2 t2 (0, 0)) := by
 have h1 : (w.alloc (.cells c1 t)).heap.size = w.heap.size + 1 := by simp
 refine bkA ?_ _
 rw [← h1]
 exact heap_alloc_new _ _
/-- A predicate that may lay blocks of its own. -/
def PredM (g : Nat) (lb : Array Value) (p : S60 → Bool) (w : World) : Prop :=
 ∀ (W : World) (x : S60), Below w.heap.size w W → Calls Tryd.prog g (#[aggM x] ++ lb) W fun e w' => e = .returned (.bool (p x)) ∧ Below W.heap.size W w'
def idxZ (p : S60 → Bool) : List S60 → Nat → Int
 | [], _ => -1
 | m :: r, k => if p m = true then (k : Int) else idxZ p r (k + 1)
theorem idxZ_cases (p : S60 → Bool) : ∀ (l : List S60) (k : Nat), (idxZ p l k = -1 ∧ l.find? p = none) ∨ ∃ (i : Nat) (h : i < l.length), idxZ p l k = ((k + i : Nat) : Int) ∧ l.find? p = some l[i]
 | [], k => .inl ⟨rfl, rfl⟩
 | m :: r, k => by
  simp only [idxZ]
  by_cases hp : p m = true
  ·rw [if_pos hp]
   exact .inr ⟨0, by simp, by simp, by simp [List.find?_cons, hp]⟩
  ·have hp' : p m = false := by simpa using hp
   rw [if_neg hp]
   rcases idxZ_cases p r (k + 1) with ⟨h1, h2⟩ | ⟨i, h, h1, h2⟩
   ·exact .inl ⟨h1, by simp [List.find?_cons, hp', h2]⟩
   ·exact .inr ⟨i + 1, by simp; omega, by rw [h1]; omega, by simp [List.find?_cons, hp', h2]⟩
set_option maxHeartbeats 4000000 in
set_option maxRecDepth 100000 in
theorem indexM_calls (p : S60 → Bool) (g : Nat) (lb : Array Value) (eg : ∀ args w, (callFunc g args).run Tryd.prog w = .ok (.enter g args) w) (A0 : Option Addr) (c0 : Nat) (l0 : List (S60)) (w : World) (hr0 : Kd.C k60 w A0 l0.length l0) (hc0 : l0.length ≤ 1000000000) (hp : PredM g lb p w) :
 Calls Tryd.prog 72 #[.slice A0 l0.length c0, .func (.func g) #[] lb] w fun e w' => e = .returned (.int .i64 (idxZ p l0 0)) ∧ Below w.heap.size w w' := by
 have HC := Lib.hid hr0
 clear hr0
 go_enter Tryd.func72, Tryd.ntmps72
 go_wp2
 go_loopw [5, 8] (fun _ i wr => ∃ k : Nat, k ≤ l0.length ∧ i = .int .i64 k ∧ Hid (idxZ p l0 0 = idxZ p (l0.drop k) k) ∧ Hid (Below w.heap.size w wr)) (fun _ i _ => l0.length - (intOf i).toNat)
 case atStart => exact ⟨0, Nat.zero_le _, rfl, Lib.hid rfl, Lib.hid (Below.refl _ _)⟩
 case round =>
  obtain ⟨k, hk, rfl, HN, HB⟩ := hrel
  by_cases hlt : k < l0.length
  ·have hk0 : (0 : Int) ≤ (k : Int) := by omega
   have hk1 : (k : Int) < (l0.length : Int) := by omega
   obtain ⟨ad, ea, hx0, hx1⟩ := at_T60 (Kd.C_below HC.out HB.out) (k : Int) hk0 hk1
   subst ea
   rw [Int.toNat_natCast] at hx0 hx1
   have hdrop : l0.drop k = l0[k] :: l0.drop (k + 1) := List.drop_eq_getElem_cons hlt
   have hrd : rd_T60 l0 (k : Int) = l0[k] := by simp [rd_T60, hlt]
   have hN := HN.out
   rw [hdrop, ← hrd] at hN
   simp only [idxZ] at hN
   clear hdrop hrd HN
   generalize rd_T60 l0 (k : Int) = m at hx0 hx1 hN
   have HP := Lib.hid (hp wr m HB.out)
   cases hq : p m with
   | true =>
    rw [if_pos hq] at hN
    rw [hq] at HP
    go_wp2_with (go_at_fn g; refine HP.out.mono ?_; rintro e w2 ⟨rfl, hb⟩)
    go_ret
    exact ⟨by first | rfl | (rw [hN]; rfl), pbT HB.out hb⟩
   | false =>
    rw [if_neg (by rw [hq]; simp)] at hN
    rw [hq] at HP
    have HN := Lib.hid hN
    clear hN
    go_wp2_with (go_at_fn g; refine HP.out.mono ?_; rintro e w2 ⟨rfl, hb⟩)
    go_roundw
    case rel => exact ⟨k + 1, by omega, by go_num, HN, Lib.hid (pbT HB.out hb)⟩
    case measure => simp [intOf]; omega
  ·obtain rfl : k = l0.length := by omega
   have hN := HN.out
   rw [List.drop_length] at hN
   simp only [idxZ] at hN
   go_wp2
   go_ret
   exact ⟨by first | rfl | (rw [hN]; rfl), HB.out⟩
set_option maxHeartbeats 4000000 in
set_option maxRecDepth 100000 in
theorem findM_calls (p : S60 → Bool) (g : Nat) (lb : Array Value) (eg : ∀ args w, (callFunc g args).run Tryd.prog w = .ok (.enter g args) w) (a0_0 : Int) (a0_1 a0_2 : ByteArray) (a0_3 : Int) (A0_4 : Option Addr) (c0_4 : Nat) (l0_4 : List (S60)) (a0_5 : Int) (w : World) (hr0 : Kd.C k60 w A0_4 l0_4.length l0_4) (hl : l0_4.length ≤ c0_4) (hc0 : l0_4.length ≤ 1000000000) (hp : PredM g lb p w) :
 Calls Tryd.prog 54 #[.agg #[.int .i64 a0_0, .string a0_1, .string a0_2, .int .i64 a0_3, .slice A0_4 l0_4.length c0_4, .int .i64 a0_5], .func (.func g) #[] lb] w fun e w' => e = .returned (.tuple (match l0_4.find? p with | some m => #[aggM m, .bool true] | none => #[.agg #[.int .i64 0, .int .i64 0], .bool false])) ∧ Below w.heap.size w w' := by
 have HC := Lib.hid hr0
 clear hr0
 have hu := Tryd.underlying26
 have hu2 := Tryd.underlying60
 have HI : ∀ W, Below w.heap.size w W → Hid (Calls Tryd.prog 72 #[.slice A0_4 l0_4.length c0_4, .func (.func g) #[] lb] W fun e w' => e = .returned (.int .i64 (idxZ p l0_4 0)) ∧ Below W.heap.size W w') := fun W hW =>
  Lib.hid (indexM_calls p g lb eg A0_4 c0_4 l0_4 W (Kd.C_below HC.out hW) hc0 (fun W' x hb => hp W' x (hW.trans (hb.mono hW.size))))
 clear hp
 rcases idxZ_cases p l0_4 0 with ⟨h1, h2⟩ | ⟨i, hi, h1, h2⟩
 ·rw [h2]
  rw [h1] at HI
  go_enter Tryd.func54, Tryd.ntmps54
  go_wp2_with (first | (go_at_call 72; refine (HI _ (pbA (pbA (Below.refl _ _) _) _)).out.mono ?_; rintro e w1 ⟨rfl, hb⟩; have BK := two_old hb () (); have BL := two_new hb () (); have f0 := bkF BL 0; have f1 := bkF BL 1; have y0 := (bkC BL 0).trans rfl; have y1 := (bkC BL 1).trans rfl) | fail)
  refine bodyPost_ret (results_ct rfl _ _ (w.heap.size + 1) 60 #[.int .i64 0, .int .i64 0] (0, 0) _ rfl (put2 BL) hu2 rfl (by kernel_rfl)) rfl ?_
  exact ⟨rfl, ((pbT (pbA (pbA (Below.refl _ _) _) _) hb).setCell (Nat.le_succ _) _).setCell (Nat.le_succ _) _⟩
 ·rw [h2]
  rw [h1, Nat.zero_add] at HI
  have q0 : (0 : Int) ≤ (i : Int) := by omega
  have q1 : (i : Int) < (l0_4.length : Int) := by omega
  have hrd : rd_T60 l0_4 (i : Int) = l0_4[i] := by simp [rd_T60, hi]
  have HE : ∀ W, Below w.heap.size w W → ∃ ad, A0_4 = some ad ∧ W.cell? (ad.add (i * 2)) = some (.int .i64 l0_4[i].f0) ∧ W.cell? ⟨(ad.add (i * 2)).block, (ad.add (i * 2)).off + 1, none⟩ = some (.int .i64 l0_4[i].f1) := by
   intro W hW
   obtain ⟨ad, ea, e0, e1⟩ := at_T60 (Kd.C_below HC.out hW) (i : Int) q0 q1
   rw [Int.toNat_natCast, hrd] at e0 e1
   exact ⟨ad, ea, e0, e1⟩
  obtain ⟨ad, rfl, _⟩ := HE w (Below.refl _ _)
  clear h1 h2 hrd
  generalize l0_4[i] = m at HE
  go_enter Tryd.func54, Tryd.ntmps54
  go_wp2_with (first | (go_at_call 72; refine (HI _ (pbA (pbA (Below.refl _ _) _) _)).out.mono ?_; rintro e w1 ⟨rfl, hb⟩; have BK := two_old hb () (); have BL := two_new hb () (); have z3 := (bkC BK 4).trans rfl; have f0 := bkF BL 0; have f1 := bkF BL 1; have y0 := (bkC BL 0).trans rfl; have y1 := (bkC BL 1).trans rfl; have HB := Lib.hid (pbT (pbA (pbA (Below.refl _ _) _) _) hb); obtain ⟨ad', ea, e0, e1⟩ := HE _ HB.out; injection ea with ea; subst ea) | fail)
  refine bodyPost_ret (results_ct rfl _ _ (w.heap.size + 1) 60 #[.int .i64 m.f0, .int .i64 m.f1] (0, 0) _ rfl (put2 BL) hu2 rfl (by kernel_rfl)) rfl ?_
  exact ⟨rfl, (HB.out.setCell (Nat.le_succ _) _).setCell (Nat.le_succ _) _⟩
def desc_On.f (a0_0 : Int) (a0_1 a0_2 : ByteArray) (a0_3 : Int) (l0_4 : List S60) (a0_5 a1 : Int) : Option (Int × Int × Bool) := if l0_4.length ≤ 1000000000 then some (match l0_4.find? (fun m => m.f0 == a1) with | some m => (m.f0, m.f1, true) | none => (0, 0, false)) else none
def desc_Has.f (a0_0 : Int) (a0_1 a0_2 : ByteArray) (a0_3 : Int) (l0_4 : List S60) (a0_5 a1 : Int) : Option (Int × Int × Bool) := if l0_4.length ≤ 1000000000 then some (match l0_4.find? (fun m => m.f1 == a1) with | some m => (m.f0, m.f1, true) | none => (0, 0, false)) else none
theorem pred_On (B : Nat) (n : Int) (w : World) (hB : B < w.heap.size) (hc : w.cell? ⟨B, 0, none⟩ = some (.int .i64 n)) : PredM 56 #[.pointer (some ⟨B, 0, none⟩)] (fun m => m.f0 == n) w := by
 intro W x hb
 have hc : W.cell? ⟨B, 0, none⟩ = some (.int .i64 n) := (hb.cell (p := ⟨B, 0, none⟩) hB).trans hc
 have hBW : B < W.heap.size := Nat.lt_of_lt_of_le hB hb.size
 show Calls Tryd.prog 56 #[.agg #[.int .i64 x.f0, .int .i64 x.f1], .pointer (some ⟨B, 0, none⟩)] W _
 go_enter Tryd.func56, Tryd.ntmps56
 go_wp2
 all_goals go_ret
 all_goals exact ⟨by first | rfl | (simp; done), pbA (Below.refl _ _) _⟩
set_option maxHeartbeats 4000000 in
set_option maxRecDepth 100000 in
theorem desc_On.calls (a0_0 : Int) (a0_1 : ByteArray) (a0_2 : ByteArray) (a0_3 : Int) (A0_4 : Option Addr) (c0_4 : Nat) (l0_4 : List (S60)) (a0_5 : Int) (a1 : Int) (r1 : Int) (r2 : Int) (r3 : Bool) (w : World) (hG : TheG w) (hr0_4 : Kd.C k60 w A0_4 l0_4.length l0_4) (hc0_4 : l0_4.length ≤ c0_4) (h : desc_On.f a0_0 a0_1 a0_2 a0_3 l0_4 a0_5 a1 = some (r1, r2, r3)) :
 Calls Tryd.prog 30 #[.agg #[.int .i64 a0_0, .string a0_1, .string a0_2, .int .i64 a0_3, .slice A0_4 l0_4.length c0_4, .int .i64 a0_5], .int .i64 a1] w fun e w' => e = .returned (.tuple #[.agg #[.int .i64 r1, .int .i64 r2], .bool r3]) ∧ Below w.heap.size w w' := by
 unfold desc_On.f at h
 split at h
 case isFalse => exact absurd h (by simp)
 case isTrue hl =>
 have h := Option.some.inj h
 have hu := Tryd.underlying26
 have hu2 := Tryd.underlying60
 have hmf : ∀ (fn : Fn) (first cap : Array Value) (w : World), (Instr.makeFunc fn first cap).run Tryd.prog w = .ok (.func fn first cap) w := fun _ _ _ _ => rfl
 have eg : ∀ args w, (callFunc 56 args).run Tryd.prog w = .ok (.enter 56 args) w := enters_of Tryd.func56 (by kernel_rfl) rfl
 have HC := Lib.hid hr0_4
 clear hr0_4
 have HF : ∀ W B, Below w.heap.size w W → B < W.heap.size → W.cell? ⟨B, 0, none⟩ = some (.int .i64 a1) → Hid (Calls Tryd.prog 54 #[.agg #[.int .i64 a0_0, .string a0_1, .string a0_2, .int .i64 a0_3, .slice A0_4 l0_4.length c0_4, .int .i64 a0_5], .func (.func 56) #[] #[.pointer (some ⟨B, 0, none⟩)]] W fun e w' => e = .returned (.tuple #[.agg #[.int .i64 r1, .int .i64 r2], .bool r3]) ∧ Below W.heap.size W w') := by
  intro W B hW hB hcl
  refine Lib.hid ((findM_calls (fun m => m.f0 == a1) 56 #[.pointer (some ⟨B, 0, none⟩)] eg a0_0 a0_1 a0_2 a0_3 A0_4 c0_4 l0_4 a0_5 W (Kd.C_below HC.out hW) hc0_4 hl (pred_On B a1 W hB hcl)).mono ?_)
  rintro e w' ⟨he, hb⟩
  refine ⟨?_, hb⟩
  rw [he]
  cases hq : l0_4.find? (fun m => m.f0 == a1) with
  | none => rw [hq] at h; simp only [Prod.mk.injEq] at h; obtain ⟨rfl, rfl, rfl⟩ := h; rfl
  | some m => rw [hq] at h; simp only [Prod.mk.injEq] at h; obtain ⟨rfl, rfl, rfl⟩ := h; rfl
 clear h eg
 go_enter Tryd.func30, Tryd.ntmps30
 go_wp2_with (first | (go_at_call 54; refine (HF _ (w.heap.size + 1) (pbA (pbA (pbA (Below.refl _ _) _) _) _) (by simp) ((bkC (three_mid _ _ _ _ _ _ _) 0).trans rfl)).out.mono ?_; rintro e w1 ⟨rfl, hb⟩; have BL := three_new hb () (); have f0 := bkF BL 0; have f1 := bkF BL 1; have y0 := (bkC BL 0).trans rfl; have y1 := (bkC BL 1).trans rfl) | fail)
 refine bodyPost_ret (results_ct rfl _ _ (w.heap.size + 2) 60 #[.int .i64 r1, .int .i64 r2] (0, 0) _ rfl (put2 BL) hu2 rfl (by kernel_rfl)) rfl ?_
 exact ⟨rfl, ((pbT (pbA (pbA (pbA (Below.refl _ _) _) _) _) hb).setCell (Nat.le_add_right _ 2) _).setCell (Nat.le_add_right _ 2) _⟩
theorem pred_Has (B : Nat) (n : Int) (w : World) (hB : B < w.heap.size) (hc : w.cell? ⟨B, 0, none⟩ = some (.int .i64 n)) : PredM 55 #[.pointer (some ⟨B, 0, none⟩)] (fun m => m.f1 == n) w := by
 intro W x hb
 have hc : W.cell? ⟨B, 0, none⟩ = some (.int .i64 n) := (hb.cell (p := ⟨B, 0, none⟩) hB).trans hc
 have hBW : B < W.heap.size := Nat.lt_of_lt_of_le hB hb.size
 show Calls Tryd.prog 55 #[.agg #[.int .i64 x.f0, .int .i64 x.f1], .pointer (some ⟨B, 0, none⟩)] W _
 go_enter Tryd.func55, Tryd.ntmps55
 go_wp2
 all_goals go_ret
 all_goals exact ⟨by first | rfl | (simp; done), pbA (Below.refl _ _) _⟩
set_option maxHeartbeats 4000000 in
set_option maxRecDepth 100000 in
theorem desc_Has.calls (a0_0 : Int) (a0_1 : ByteArray) (a0_2 : ByteArray) (a0_3 : Int) (A0_4 : Option Addr) (c0_4 : Nat) (l0_4 : List (S60)) (a0_5 : Int) (a1 : Int) (r1 : Int) (r2 : Int) (r3 : Bool) (w : World) (hG : TheG w) (hr0_4 : Kd.C k60 w A0_4 l0_4.length l0_4) (hc0_4 : l0_4.length ≤ c0_4) (h : desc_Has.f a0_0 a0_1 a0_2 a0_3 l0_4 a0_5 a1 = some (r1, r2, r3)) :
 Calls Tryd.prog 29 #[.agg #[.int .i64 a0_0, .string a0_1, .string a0_2, .int .i64 a0_3, .slice A0_4 l0_4.length c0_4, .int .i64 a0_5], .int .i64 a1] w fun e w' => e = .returned (.tuple #[.agg #[.int .i64 r1, .int .i64 r2], .bool r3]) ∧ Below w.heap.size w w' := by
 unfold desc_Has.f at h
 split at h
 case isFalse => exact absurd h (by simp)
 case isTrue hl =>
 have h := Option.some.inj h
 have hu := Tryd.underlying26
 have hu2 := Tryd.underlying60
 have hmf : ∀ (fn : Fn) (first cap : Array Value) (w : World), (Instr.makeFunc fn first cap).run Tryd.prog w = .ok (.func fn first cap) w := fun _ _ _ _ => rfl
 have eg : ∀ args w, (callFunc 55 args).run Tryd.prog w = .ok (.enter 55 args) w := enters_of Tryd.func55 (by kernel_rfl) rfl
 have HC := Lib.hid hr0_4
 clear hr0_4
 have HF : ∀ W B, Below w.heap.size w W → B < W.heap.size → W.cell? ⟨B, 0, none⟩ = some (.int .i64 a1) → Hid (Calls Tryd.prog 54 #[.agg #[.int .i64 a0_0, .string a0_1, .string a0_2, .int .i64 a0_3, .slice A0_4 l0_4.length c0_4, .int .i64 a0_5], .func (.func 55) #[] #[.pointer (some ⟨B, 0, none⟩)]] W fun e w' => e = .returned (.tuple #[.agg #[.int .i64 r1, .int .i64 r2], .bool r3]) ∧ Below W.heap.size W w') := by
  intro W B hW hB hcl
  refine Lib.hid ((findM_calls (fun m => m.f1 == a1) 55 #[.pointer (some ⟨B, 0, none⟩)] eg a0_0 a0_1 a0_2 a0_3 A0_4 c0_4 l0_4 a0_5 W (Kd.C_below HC.out hW) hc0_4 hl (pred_Has B a1 W hB hcl)).mono ?_)
  rintro e w' ⟨he, hb⟩
  refine ⟨?_, hb⟩
  rw [he]
  cases hq : l0_4.find? (fun m => m.f1 == a1) with
  | none => rw [hq] at h; simp only [Prod.mk.injEq] at h; obtain ⟨rfl, rfl, rfl⟩ := h; rfl
  | some m => rw [hq] at h; simp only [Prod.mk.injEq] at h; obtain ⟨rfl, rfl, rfl⟩ := h; rfl
 clear h eg
 go_enter Tryd.func29, Tryd.ntmps29
 go_wp2_with (first | (go_at_call 54; refine (HF _ (w.heap.size + 1) (pbA (pbA (pbA (Below.refl _ _) _) _) _) (by simp) ((bkC (three_mid _ _ _ _ _ _ _) 0).trans rfl)).out.mono ?_; rintro e w1 ⟨rfl, hb⟩; have BL := three_new hb () (); have f0 := bkF BL 0; have f1 := bkF BL 1; have y0 := (bkC BL 0).trans rfl; have y1 := (bkC BL 1).trans rfl) | fail)
 refine bodyPost_ret (results_ct rfl _ _ (w.heap.size + 2) 60 #[.int .i64 r1, .int .i64 r2] (0, 0) _ rfl (put2 BL) hu2 rfl (by kernel_rfl)) rfl ?_
 exact ⟨rfl, ((pbT (pbA (pbA (pbA (Below.refl _ _) _) _) _) hb).setCell (Nat.le_add_right _ 2) _).setCell (Nat.le_add_right _ 2) _⟩
end Go.Proofs.YtjfhcijjjadhbaaDoor.P
end
section
namespace Go.Proofs.YtjfhcijjjadhbaaDoor.V
open Go.RowKit Go.Proofs.YtjfhcijjjadhbaaDoorW.PrintWords Go.Proofs.YtjfhcijjjadhbaaDoorW.PrintLast Go.Proofs.YtjfhcijjjadhbaaDoorW.PrintMore Go.Proofs.YtjfhcijjjadhbaaDoor.P Go.Proofs.YtjfhcijjjadhbaaDoor.K Go.Proofs.YtjfhcijjjadhbaaDoor.A
def hitM (p : S60 → Bool) (l : List S60) : Int × Int × Bool := match l.find? p with | some m => (m.f0, m.f1, true) | none => (0, 0, false)
theorem hitM_cons {p : S60 → Bool} {m : S60} {l : List S60} : hitM p (m :: l) = if p m = true then (m.f0, m.f1, true) else hitM p l := by
 unfold hitM
 rw [List.find?_cons]
 cases hp : p m <;> simp
theorem on_eq {id : Int} {fr tu : ByteArray} {gen : Int} {l : List S60} {nx a : Int} (hm : l.length ≤ 1000000) : desc_On.f id fr tu gen l nx a = some (hitM (fun m => m.f0 == a) l) := by
 unfold desc_On.f hitM; rw [if_pos (by omega)]; try (cases l.find? (fun m => m.f0 == a) <;> rfl)
theorem has_eq {id : Int} {fr tu : ByteArray} {gen : Int} {l : List S60} {nx a : Int} (hm : l.length ≤ 1000000) : desc_Has.f id fr tu gen l nx a = some (hitM (fun m => m.f1 == a) l) := by
 unfold desc_Has.f hitM; rw [if_pos (by omega)]; try (cases l.find? (fun m => m.f1 == a) <;> rfl)
end Go.Proofs.YtjfhcijjjadhbaaDoor.V
end
section
namespace Go.Proofs.YtjfhcijjjadhbaaDoor.P
open Go.RowKit Go.Proofs.YtjfhcijjjadhbaaDoor.K Go.Proofs.YtjfhcijjjadhbaaDoorW.PrintWords Go.Proofs.YtjfhcijjjadhbaaDoorW.PrintLast Go.Proofs.YtjfhcijjjadhbaaDoorW.PrintMore
attribute [local go_sem] max2_int min2_int max_two min_two max_three min_three max_four min_four   -- for this text's walks alone
attribute [local go_sem high] eqA60
def r06_Members.l0 : Nat → List (S60) → List (S60) → Int → Option (Bool)
 | 0, _, _, _ => none
 | k + 1, x0, x1, x5 => if x5 < (x0.length : Int) then (if 0 ≤ x5 then (if x5 < (x1.length : Int) then (if (!(((rd_T60 x0 x5).f0) == ((rd_T60 x1 x5).f0)) || (!(((rd_T60 x0 x5).f1) == ((rd_T60 x1 x5).f1)))) = true then (some false) else (r06_Members.l0 k x0 x1 (wrap64 (x5 + 1)))) else (none)) else (none)) else (some true)
def r06_Members.f (k : Nat) (l0 : List (S60)) (l1 : List (S60)) : Option (Bool) := if (l0.length : Int) = (l1.length : Int) then (r06_Members.l0 k l0 l1 0) else (some false)
theorem r06_Members.mono_l : ∀ k, (∀ y0 y1 y2, LeO (r06_Members.l0 k y0 y1 y2) (r06_Members.l0 (k + 1) y0 y1 y2))
 | 0 => fun _ _ _ r h => by simp [r06_Members.l0] at h
 | k + 1 => by
  have ih0 := r06_Members.mono_l k
  ·intro y0 y1 y2
   unfold r06_Members.l0
   repeat' first
   | (with_reducible exact ih0 _ _ _)
   | (with_reducible exact LeO.refl _)
   | (with_reducible exact LeO.none _)
   | (with_reducible refine LeO.ite ?_ ?_)
   | (with_reducible refine LeO.bind ?_ (fun _ => ?_))
   | exact ih0 _ _ _
   | exact LeO.none _
   | refine LeO.ite ?_ ?_
   | refine LeO.bind ?_ (fun _ => ?_)
theorem r06_Members.mono : ∀ a0 a1 k, LeO (r06_Members.f k a0 a1) (r06_Members.f (k + 1) a0 a1) := by
 intro a0 a1 k
 have ih0 := r06_Members.mono_l k
 unfold r06_Members.f
 repeat' first
  | (with_reducible exact ih0 _ _ _)
  | (with_reducible exact LeO.refl _)
  | (with_reducible exact LeO.none _)
  | (with_reducible refine LeO.ite ?_ ?_)
  | (with_reducible refine LeO.bind ?_ (fun _ => ?_))
  | exact ih0 _ _ _
  | exact LeO.none _
  | refine LeO.ite ?_ ?_
  | refine LeO.bind ?_ (fun _ => ?_)
set_option maxHeartbeats 8000000 in
set_option maxRecDepth 100000 in
theorem r06_Members.calls (k : Nat) (A0 : Option Addr) (c0 : Nat) (l0 : List (S60)) (A1 : Option Addr) (c1 : Nat) (l1 : List (S60)) (r : Bool) (w : World) (hG : TheG w) (hr0 : Kd.C k60 w A0 l0.length l0) (hc0 : l0.length ≤ c0) (hr1 : Kd.C k60 w A1 l1.length l1) (hc1 : l1.length ≤ c1) (h : r06_Members.f k l0 l1 = some r) :
 Calls Tryd.prog 31 #[.slice A0 l0.length c0, .slice A1 l1.length c1] w fun e w' => e = .returned (.bool r) ∧ Drawn0 w w' := by
 have hu60 := Tryd.underlying60
 have HR0 := Az.mk hr0
 have HC0 := Az.mk hc0
 clear hr0 hc0
 have HR1 := Az.mk hr1
 have HC1 := Az.mk hc1
 clear hr1 hc1
 have H : (if (l0.length : Int) = (l1.length : Int) then (r06_Members.l0 k l0 l1 0) else (some false)) = some r := h
 clear h
 by_cases c3 : (l0.length : Int) = (l1.length : Int)
 ·rw [if_pos c3] at H
  have c3b0 : ((l0.length : Int) == (l1.length : Int)) = true := beq_iff_eq.mpr c3
  have c3b1 : ((l0.length : Int) != (l1.length : Int)) = false := bne_eq_false_iff_eq.mpr c3
  have c3b2 : (l0.length == l1.length) = true := by first | simpa using c3 | (simp at c3 ⊢; omega)
  clear c3
  have H' := Az.mk H
  clear H
  go_enter Tryd.func31, Tryd.ntmps31
  go_wp2
  repeat (go_quiet (fail); try go_wp2)
  go_loopg [5] k (fun kq v5 w' => ∃ (x5_1 : Int), v5 = .int .i64 x5_1 ∧ Az (r06_Members.l0 kq l0 l1 x5_1 = some r) ∧ Az (kq ≤ k) ∧ Drawn0 w w')
  case atStart => exact ⟨(0), (by first | rfl | (simp; done) | (simp [*]; done)), H', ⟨Nat.le_refl _⟩, by repeat (first | exact Drawn0.refl _ | apply Drawn0.step)⟩
  case round =>
   clear H'
   try clear c1
   try clear p2
   try clear c3
   try clear c3b0
   try clear c3b1
   try clear c3b2
   obtain ⟨x5_1, rfl, HA, HK1, ⟨m1, rfl⟩⟩ := hrel
   cases gk with
   | zero => exact absurd HA.out (by simp [r06_Members.l0])
   | succ k1 =>
    have H := HA.out
    clear HA
    simp only [r06_Members.l0] at H
    by_cases c4 : x5_1 < (l0.length : Int)
    ·rw [if_pos c4] at H
     have c4b0 : decide (x5_1 < (l0.length : Int)) = true := decide_eq_true c4
     clear c4
     by_cases c5 : 0 ≤ x5_1
     ·rw [if_pos c5] at H
      have c5b0 : decide (0 ≤ x5_1) = true := decide_eq_true c5
      clear c5
      by_cases c6 : x5_1 < (l1.length : Int)
      ·rw [if_pos c6] at H
       have c6b0 : decide (x5_1 < (l1.length : Int)) = true := decide_eq_true c6
       clear c6
       by_cases c7 : (!(((rd_T60 l0 x5_1).f0) == ((rd_T60 l1 x5_1).f0)) || (!(((rd_T60 l0 x5_1).f1) == ((rd_T60 l1 x5_1).f1)))) = true
       ·rw [if_pos c7] at H
        have c7b0 : (!(((rd_T60 l0 x5_1).f0) == ((rd_T60 l1 x5_1).f0)) || (!(((rd_T60 l0 x5_1).f1) == ((rd_T60 l1 x5_1).f1)))) = true := c7
        clear c7
        obtain rfl := Option.some.inj H
        have p140 : 0 ≤ (x5_1 : Int) := of_decide_eq_true (by first | (with_reducible assumption) | assumption)
        have q140 : x5_1 < (l0.length : Int) := of_decide_eq_true (by first | (with_reducible assumption) | assumption)
        obtain ⟨ad140, e140, hx140_0, hx140_1⟩ := at_T60 HR0.out x5_1 p140 q140
        cases e140
        replace p140 := eq_true p140
        replace q140 := eq_true q140
        have p141 : 0 ≤ (x5_1 : Int) := of_decide_eq_true (by first | (with_reducible assumption) | assumption)
        have q141 : x5_1 < (l1.length : Int) := of_decide_eq_true (by first | (with_reducible assumption) | assumption)
        obtain ⟨ad141, e141, hx141_0, hx141_1⟩ := at_T60 HR1.out x5_1 p141 q141
        cases e141
        replace p141 := eq_true p141
        replace q141 := eq_true q141
        go_wp2
        repeat (go_quiet (fail); try go_wp2)
        go_ret
        exact ⟨by first | rfl | (simp; done) | (simp [*]; done), by repeat (first | exact Drawn0.refl _ | apply Drawn0.step)⟩
       ·rw [if_neg c7] at H
        have c7b0 : (!(((rd_T60 l0 x5_1).f0) == ((rd_T60 l1 x5_1).f0)) || (!(((rd_T60 l0 x5_1).f1) == ((rd_T60 l1 x5_1).f1)))) = false := by simpa using c7
        clear c7
        have H' := Az.mk H
        clear H
        have p140 : 0 ≤ (x5_1 : Int) := of_decide_eq_true (by first | (with_reducible assumption) | assumption)
        have q140 : x5_1 < (l0.length : Int) := of_decide_eq_true (by first | (with_reducible assumption) | assumption)
        obtain ⟨ad140, e140, hx140_0, hx140_1⟩ := at_T60 HR0.out x5_1 p140 q140
        cases e140
        replace p140 := eq_true p140
        replace q140 := eq_true q140
        have p141 : 0 ≤ (x5_1 : Int) := of_decide_eq_true (by first | (with_reducible assumption) | assumption)
        have q141 : x5_1 < (l1.length : Int) := of_decide_eq_true (by first | (with_reducible assumption) | assumption)
        obtain ⟨ad141, e141, hx141_0, hx141_1⟩ := at_T60 HR1.out x5_1 p141 q141
        cases e141
        replace p141 := eq_true p141
        replace q141 := eq_true q141
        go_wp2
        repeat (go_quiet (fail); try go_wp2)
        go_roundg k1
        case measure => have := HK1.out; omega
        case rel => exact ⟨(wrap64 (x5_1 + 1)), (by first | rfl | (simp; done) | (simp [*]; done)), H', ⟨by have := HK1.out; omega⟩, by repeat (first | exact Drawn0.refl _ | apply Drawn0.step)⟩
      ·rw [if_neg c6] at H
       exact absurd H (by simp)
     ·rw [if_neg c5] at H
      exact absurd H (by simp)
    ·rw [if_neg c4] at H
     have c4b0 : decide (x5_1 < (l0.length : Int)) = false := decide_eq_false c4
     clear c4
     obtain rfl := Option.some.inj H
     go_wp2
     repeat (go_quiet (fail); try go_wp2)
     go_ret
     exact ⟨by first | rfl | (simp; done) | (simp [*]; done), by repeat (first | exact Drawn0.refl _ | apply Drawn0.step)⟩
 ·rw [if_neg c3] at H
  have c3b0 : ((l0.length : Int) == (l1.length : Int)) = false := beq_eq_false_iff_ne.mpr c3
  have c3b1 : ((l0.length : Int) != (l1.length : Int)) = true := bne_iff_ne.mpr c3
  have c3b2 : (l0.length == l1.length) = false := by first | simpa using c3 | (simp at c3 ⊢; omega)
  obtain rfl := Option.some.inj H
  go_enter Tryd.func31, Tryd.ntmps31
  go_wp2
  repeat (go_quiet (fail); try go_wp2)
  go_ret
  exact ⟨by first | rfl | (simp; done) | (simp [*]; done), by repeat (first | exact Drawn0.refl _ | apply Drawn0.step)⟩
end Go.Proofs.YtjfhcijjjadhbaaDoor.P
end
section
namespace Go.Proofs.YtjfhcijjjadhbaaDoor.P
open Go.RowKit Go.Proofs.YtjfhcijjjadhbaaDoor.K Go.Proofs.YtjfhcijjjadhbaaDoorW.PrintWords Go.Proofs.YtjfhcijjjadhbaaDoorW.PrintLast Go.Proofs.YtjfhcijjjadhbaaDoorW.PrintMore
attribute [local go_sem] max2_int min2_int max_two min_two max_three min_three max_four min_four   -- for this text's walks alone
def r06_id.f (a0 : Int) : Option (Bool) := if a0 ≥ 1 then (some (decide (a0 ≤ 1099511627776))) else (some false)
set_option maxHeartbeats 8000000 in
set_option maxRecDepth 100000 in
theorem r06_id.calls (a0 : Int) (r : Bool) (w : World) (hG : TheG w) (h : r06_id.f a0 = some r) :
 Calls Tryd.prog 59 #[.int .i64 a0] w fun e w' => e = .returned (.bool r) ∧ Drawn0 w w' := by
 have H : (if a0 ≥ 1 then (some (decide (a0 ≤ 1099511627776))) else (some false)) = some r := h
 clear h
 by_cases c2 : a0 ≥ 1
 ·rw [if_pos c2] at H
  have c2b0 : decide (1 ≤ a0) = true := decide_eq_true c2
  clear c2
  obtain rfl := Option.some.inj H
  go_enter Tryd.func59, Tryd.ntmps59
  go_wp2
  go_ret
  exact ⟨by first | rfl | (simp; done) | (simp [*]; done), by repeat (first | exact Drawn0.refl _ | apply Drawn0.step)⟩
 ·rw [if_neg c2] at H
  have c2b0 : decide (1 ≤ a0) = false := decide_eq_false c2
  clear c2
  obtain rfl := Option.some.inj H
  go_enter Tryd.func59, Tryd.ntmps59
  go_wp2
  go_ret
  exact ⟨by first | rfl | (simp; done) | (simp [*]; done), by repeat (first | exact Drawn0.refl _ | apply Drawn0.step)⟩
def r02_Is.f (a0_0 : ByteArray) (a0_1 : ByteArray) : Option (Bool) := if (a0_0.size : Int) ≤ 33 then (if (a0_1.size : Int) ≤ 33 then (if a0_1.toList = ([] : List UInt8) then (some true) else (some (Op.bytesLess a0_0.toList a0_1.toList))) else (some false)) else (some false)
set_option maxHeartbeats 8000000 in
set_option maxRecDepth 100000 in
theorem r02_Is.calls (a0_0 : ByteArray) (a0_1 : ByteArray) (r : Bool) (w : World) (hG : TheG w) (h : r02_Is.f a0_0 a0_1 = some r) :
 Calls Tryd.prog 60 #[.agg #[.string a0_0, .string a0_1]] w fun e w' => e = .returned (.bool r) ∧ Below w.heap.size w w' := by
 have hu23 := Tryd.underlying23
 have HB := Az.mk (Below.refl w.heap.size w)
 have H : (if (a0_0.size : Int) ≤ 33 then (if (a0_1.size : Int) ≤ 33 then (if a0_1.toList = ([] : List UInt8) then (some true) else (some (Op.bytesLess a0_0.toList a0_1.toList))) else (some false)) else (some false)) = some r := h
 clear h
 by_cases c2 : (a0_0.size : Int) ≤ 33
 ·rw [if_pos c2] at H
  have c2b0 : decide ((a0_0.size : Int) ≤ 33) = true := decide_eq_true c2
  have c2b1 : decide (a0_0.size ≤ 33) = true := decide_eq_true (by omega)
  clear c2
  by_cases c3 : (a0_1.size : Int) ≤ 33
  ·rw [if_pos c3] at H
   have c3b0 : decide ((a0_1.size : Int) ≤ 33) = true := decide_eq_true c3
   have c3b1 : decide (a0_1.size ≤ 33) = true := decide_eq_true (by omega)
   clear c3
   by_cases c4 : a0_1.toList = ([] : List UInt8)
   ·rw [if_pos c4] at H
    have c4b0 : (a0_1.toList == ([] : List UInt8)) = true := beq_iff_eq.mpr c4
    have c4b1 : (a0_1.toList != ([] : List UInt8)) = false := bne_eq_false_iff_eq.mpr c4
    clear c4
    obtain rfl := Option.some.inj H
    go_enter Tryd.func60, Tryd.ntmps60
    go_wp2_with (first | ((with_reducible refine gate_dst (N := 1) rfl ?_); (try (refine gate_guard (by rfl) ?_; dsimp only)); refine box_event ?hg (N := 1) ?hd (cs := #[.string a0_0, .string a0_1]) (t := 23) ?hr ?_; (case hd => rfl); (case hg => rfl); (case hr => first | (go_simp; done) | (go_simp; rfl)); intro gb343 hg w5 hbox hb; have BK343 := Az.mk (hbox); have GW343 := Az.mk (geO hg (pbE HB.out)); have GE343 := Az.mk (geO hg (pbE HB.out)); replace HB := Az.mk (pbT (by exact pbE HB.out) hb); clear hb hbox hg; have hcz6 := cells2 BK343.out))
    go_ret
    exact ⟨by first | rfl | (simp [errW_none, errW_some] <;> rfl) | (simp [*, errW_none, errW_some] <;> rfl), by exact pbE HB.out⟩
   ·rw [if_neg c4] at H
    have c4b0 : (a0_1.toList == ([] : List UInt8)) = false := beq_eq_false_iff_ne.mpr c4
    have c4b1 : (a0_1.toList != ([] : List UInt8)) = true := bne_iff_ne.mpr c4
    obtain rfl := Option.some.inj H
    go_enter Tryd.func60, Tryd.ntmps60
    go_wp2_with (first | ((with_reducible refine gate_dst (N := 1) rfl ?_); (try (refine gate_guard (by rfl) ?_; dsimp only)); refine box_event ?hg (N := 1) ?hd (cs := #[.string a0_0, .string a0_1]) (t := 23) ?hr ?_; (case hd => rfl); (case hg => rfl); (case hr => first | (go_simp; done) | (go_simp; rfl)); intro gb343 hg w7 hbox hb; have BK343 := Az.mk (hbox); have GW343 := Az.mk (geO hg (pbE HB.out)); have GE343 := Az.mk (geO hg (pbE HB.out)); replace HB := Az.mk (pbT (by exact pbE HB.out) hb); clear hb hbox hg; have hcz8 := cells2 BK343.out))
    go_ret
    exact ⟨by first | rfl | (simp [errW_none, errW_some] <;> rfl) | (simp [*, errW_none, errW_some] <;> rfl), by exact pbE HB.out⟩
  ·rw [if_neg c3] at H
   have c3b0 : decide ((a0_1.size : Int) ≤ 33) = false := decide_eq_false c3
   have c3b1 : decide (a0_1.size ≤ 33) = false := decide_eq_false (by omega)
   clear c3
   obtain rfl := Option.some.inj H
   go_enter Tryd.func60, Tryd.ntmps60
   go_wp2_with (first | ((with_reducible refine gate_dst (N := 1) rfl ?_); (try (refine gate_guard (by rfl) ?_; dsimp only)); refine box_event ?hg (N := 1) ?hd (cs := #[.string a0_0, .string a0_1]) (t := 23) ?hr ?_; (case hd => rfl); (case hg => rfl); (case hr => first | (go_simp; done) | (go_simp; rfl)); intro gb343 hg w9 hbox hb; have BK343 := Az.mk (hbox); have GW343 := Az.mk (geO hg (pbE HB.out)); have GE343 := Az.mk (geO hg (pbE HB.out)); replace HB := Az.mk (pbT (by exact pbE HB.out) hb); clear hb hbox hg; have hcz10 := cells2 BK343.out))
   go_ret
   exact ⟨by first | rfl | (simp [errW_none, errW_some] <;> rfl) | (simp [*, errW_none, errW_some] <;> rfl), by exact pbE HB.out⟩
 ·rw [if_neg c2] at H
  have c2b0 : decide ((a0_0.size : Int) ≤ 33) = false := decide_eq_false c2
  have c2b1 : decide (a0_0.size ≤ 33) = false := decide_eq_false (by omega)
  clear c2
  obtain rfl := Option.some.inj H
  go_enter Tryd.func60, Tryd.ntmps60
  go_wp2_with (first | ((with_reducible refine gate_dst (N := 1) rfl ?_); (try (refine gate_guard (by rfl) ?_; dsimp only)); refine box_event ?hg (N := 1) ?hd (cs := #[.string a0_0, .string a0_1]) (t := 23) ?hr ?_; (case hd => rfl); (case hg => rfl); (case hr => first | (go_simp; done) | (go_simp; rfl)); intro gb343 hg w11 hbox hb; have BK343 := Az.mk (hbox); have GW343 := Az.mk (geO hg (pbE HB.out)); have GE343 := Az.mk (geO hg (pbE HB.out)); replace HB := Az.mk (pbT (by exact pbE HB.out) hb); clear hb hbox hg; have hcz12 := cells2 BK343.out))
  go_ret
  exact ⟨by first | rfl | (simp [errW_none, errW_some] <;> rfl) | (simp [*, errW_none, errW_some] <;> rfl), by exact pbE HB.out⟩
mutual
def r06_Is.j0 : Nat → Bool → Int → ByteArray → ByteArray → Int → List (S60) → Int → Option (Bool)
 | 0, _, _, _, _, _, _, _ => none
 | k + 1, x39, x345000, x345001, x345002, x345003, x345004, x345005 => if x39 = true then (some false) else (r06_Is.l0 k 0 x345000 x345001 x345002 x345003 x345004 x345005)
def r06_Is.l0 : Nat → Int → Int → ByteArray → ByteArray → Int → List (S60) → Int → Option (Bool)
 | 0, _, _, _, _, _, _, _ => none
 | k + 1, x3, x345000, x345001, x345002, x345003, x345004, x345005 => if x3 < (x345004.length : Int) then (if 0 ≤ x3 then (if ((rd_T60 x345004 x3).f0) < 1 then (r06_Is.j2 k x3 true x345000 x345001 x345002 x345003 x345004 x345005 ((rd_T60 x345004 x3).f0) ((rd_T60 x345004 x3).f1)) else (if ((rd_T60 x345004 x3).f0) > 7 then (r06_Is.j2 k x3 true x345000 x345001 x345002 x345003 x345004 x345005 ((rd_T60 x345004 x3).f0) ((rd_T60 x345004 x3).f1)) else (if ((rd_T60 x345004 x3).f1) < 1 then (r06_Is.j2 k x3 true x345000 x345001 x345002 x345003 x345004 x345005 ((rd_T60 x345004 x3).f0) ((rd_T60 x345004 x3).f1)) else (if ((rd_T60 x345004 x3).f1) ≥ x345005 then (r06_Is.j2 k x3 true x345000 x345001 x345002 x345003 x345004 x345005 ((rd_T60 x345004 x3).f0) ((rd_T60 x345004 x3).f1)) else (if x3 > 0 then (if 0 ≤ (wrap64 (x3 - 1)) then (if (wrap64 (x3 - 1)) < (x345004.length : Int) then (r06_Is.j2 k x3 (decide (((rd_T60 x345004 x3).f1) ≤ ((rd_T60 x345004 (wrap64 (x3 - 1))).f1))) x345000 x345001 x345002 x345003 x345004 x345005 ((rd_T60 x345004 x3).f0) ((rd_T60 x345004 x3).f1)) else (none)) else (none)) else (r06_Is.j2 k x3 false x345000 x345001 x345002 x345003 x345004 x345005 ((rd_T60 x345004 x3).f0) ((rd_T60 x345004 x3).f1))))))) else (none)) else (some true)
def r06_Is.j2 : Nat → Int → Bool → Int → ByteArray → ByteArray → Int → List (S60) → Int → Int → Int → Option (Bool)
 | 0, _, _, _, _, _, _, _, _, _, _ => none
 | k + 1, x3, x87, x345000, x345001, x345002, x345003, x345004, x345005, x351000, x351001 => if x87 = true then (some false) else (r06_Is.l1 k x3 0 x345000 x345001 x345002 x345003 x345004 x345005 x351000 x351001)
def r06_Is.l1 : Nat → Int → Int → Int → ByteArray → ByteArray → Int → List (S60) → Int → Int → Int → Option (Bool)
 | 0, _, _, _, _, _, _, _, _, _, _ => none
 | k + 1, x3, x5, x345000, x345001, x345002, x345003, x345004, x345005, x351000, x351001 => if x5 < x3 then (if 0 ≤ x5 then (if x5 < (x345004.length : Int) then (if ((rd_T60 x345004 x5).f0) = x351000 then (some false) else (r06_Is.l1 k x3 (wrap64 (x5 + 1)) x345000 x345001 x345002 x345003 x345004 x345005 x351000 x351001)) else (none)) else (none)) else (r06_Is.l0 k (wrap64 (x3 + 1)) x345000 x345001 x345002 x345003 x345004 x345005)
end
def r06_Is.f (k : Nat) (a0_0 : Int) (a0_1 : ByteArray) (a0_2 : ByteArray) (a0_3 : Int) (l0_4 : List (S60)) (a0_5 : Int) : Option (Bool) := (r06_id.f a0_0).bind fun t345 => (if t345 = true then ((r06_id.f a0_3).bind fun t346 => (if t346 = true then ((r06_id.f a0_5).bind fun t347 => (if t347 = true then ((r02_Is.f a0_1 a0_2).bind fun t348 => (if t348 = true then (if (l0_4.length : Int) < 1 then (r06_Is.j0 k true a0_0 a0_1 a0_2 a0_3 l0_4 a0_5) else (r06_Is.j0 k (decide ((l0_4.length : Int) > 5)) a0_0 a0_1 a0_2 a0_3 l0_4 a0_5)) else (r06_Is.j0 k true a0_0 a0_1 a0_2 a0_3 l0_4 a0_5))) else (r06_Is.j0 k true a0_0 a0_1 a0_2 a0_3 l0_4 a0_5))) else (r06_Is.j0 k true a0_0 a0_1 a0_2 a0_3 l0_4 a0_5))) else (r06_Is.j0 k true a0_0 a0_1 a0_2 a0_3 l0_4 a0_5))
theorem r06_Is.mono_l : ∀ k, (∀ y0 y1 y2 y3 y4 y5 y6, LeO (r06_Is.j0 k y0 y1 y2 y3 y4 y5 y6) (r06_Is.j0 (k + 1) y0 y1 y2 y3 y4 y5 y6)) ∧ (∀ y0 y1 y2 y3 y4 y5 y6, LeO (r06_Is.l0 k y0 y1 y2 y3 y4 y5 y6) (r06_Is.l0 (k + 1) y0 y1 y2 y3 y4 y5 y6)) ∧ (∀ y0 y1 y2 y3 y4 y5 y6 y7 y8 y9, LeO (r06_Is.j2 k y0 y1 y2 y3 y4 y5 y6 y7 y8 y9) (r06_Is.j2 (k + 1) y0 y1 y2 y3 y4 y5 y6 y7 y8 y9)) ∧ (∀ y0 y1 y2 y3 y4 y5 y6 y7 y8 y9, LeO (r06_Is.l1 k y0 y1 y2 y3 y4 y5 y6 y7 y8 y9) (r06_Is.l1 (k + 1) y0 y1 y2 y3 y4 y5 y6 y7 y8 y9))
 | 0 => ⟨fun _ _ _ _ _ _ _ r h => by simp [r06_Is.j0] at h, fun _ _ _ _ _ _ _ r h => by simp [r06_Is.l0] at h, fun _ _ _ _ _ _ _ _ _ _ r h => by simp [r06_Is.j2] at h, fun _ _ _ _ _ _ _ _ _ _ r h => by simp [r06_Is.l1] at h⟩
 | k + 1 => by
  obtain ⟨ih0, ih1, ih2, ih3⟩ := r06_Is.mono_l k
  refine ⟨?_, ?_, ?_, ?_⟩
  ·intro y0 y1 y2 y3 y4 y5 y6
   unfold r06_Is.j0
   repeat' first
   | (with_reducible exact ih0 _ _ _ _ _ _ _)
   | (with_reducible exact ih1 _ _ _ _ _ _ _)
   | (with_reducible exact ih2 _ _ _ _ _ _ _ _ _ _)
   | (with_reducible exact ih3 _ _ _ _ _ _ _ _ _ _)
   | (with_reducible exact LeO.refl _)
   | (with_reducible exact LeO.none _)
   | (with_reducible refine LeO.ite ?_ ?_)
   | (with_reducible refine LeO.bind ?_ (fun _ => ?_))
   | exact ih0 _ _ _ _ _ _ _
   | exact ih1 _ _ _ _ _ _ _
   | exact ih2 _ _ _ _ _ _ _ _ _ _
   | exact ih3 _ _ _ _ _ _ _ _ _ _
   | exact LeO.none _
   | refine LeO.ite ?_ ?_
   | refine LeO.bind ?_ (fun _ => ?_)
  ·intro y0 y1 y2 y3 y4 y5 y6
   unfold r06_Is.l0
   repeat' first
   | (with_reducible exact ih0 _ _ _ _ _ _ _)
   | (with_reducible exact ih1 _ _ _ _ _ _ _)
   | (with_reducible exact ih2 _ _ _ _ _ _ _ _ _ _)
   | (with_reducible exact ih3 _ _ _ _ _ _ _ _ _ _)
   | (with_reducible exact LeO.refl _)
   | (with_reducible exact LeO.none _)
   | (with_reducible refine LeO.ite ?_ ?_)
   | (with_reducible refine LeO.bind ?_ (fun _ => ?_))
   | exact ih0 _ _ _ _ _ _ _
   | exact ih1 _ _ _ _ _ _ _
   | exact ih2 _ _ _ _ _ _ _ _ _ _
   | exact ih3 _ _ _ _ _ _ _ _ _ _
   | exact LeO.none _
   | refine LeO.ite ?_ ?_
   | refine LeO.bind ?_ (fun _ => ?_)
  ·intro y0 y1 y2 y3 y4 y5 y6 y7 y8 y9
   unfold r06_Is.j2
   repeat' first
   | (with_reducible exact ih0 _ _ _ _ _ _ _)
   | (with_reducible exact ih1 _ _ _ _ _ _ _)
   | (with_reducible exact ih2 _ _ _ _ _ _ _ _ _ _)
   | (with_reducible exact ih3 _ _ _ _ _ _ _ _ _ _)
   | (with_reducible exact LeO.refl _)
   | (with_reducible exact LeO.none _)
   | (with_reducible refine LeO.ite ?_ ?_)
   | (with_reducible refine LeO.bind ?_ (fun _ => ?_))
   | exact ih0 _ _ _ _ _ _ _
   | exact ih1 _ _ _ _ _ _ _
   | exact ih2 _ _ _ _ _ _ _ _ _ _
   | exact ih3 _ _ _ _ _ _ _ _ _ _
   | exact LeO.none _
   | refine LeO.ite ?_ ?_
   | refine LeO.bind ?_ (fun _ => ?_)
  ·intro y0 y1 y2 y3 y4 y5 y6 y7 y8 y9
   unfold r06_Is.l1
   repeat' first
   | (with_reducible exact ih0 _ _ _ _ _ _ _)
   | (with_reducible exact ih1 _ _ _ _ _ _ _)
   | (with_reducible exact ih2 _ _ _ _ _ _ _ _ _ _)
   | (with_reducible exact ih3 _ _ _ _ _ _ _ _ _ _)
   | (with_reducible exact LeO.refl _)
   | (with_reducible exact LeO.none _)
   | (with_reducible refine LeO.ite ?_ ?_)
   | (with_reducible refine LeO.bind ?_ (fun _ => ?_))
   | exact ih0 _ _ _ _ _ _ _
   | exact ih1 _ _ _ _ _ _ _
   | exact ih2 _ _ _ _ _ _ _ _ _ _
   | exact ih3 _ _ _ _ _ _ _ _ _ _
   | exact LeO.none _
   | refine LeO.ite ?_ ?_
   | refine LeO.bind ?_ (fun _ => ?_)
theorem r06_Is.mono : ∀ a0 a1 a2 a3 a4 a5 k, LeO (r06_Is.f k a0 a1 a2 a3 a4 a5) (r06_Is.f (k + 1) a0 a1 a2 a3 a4 a5) := by
 intro a0 a1 a2 a3 a4 a5 k
 obtain ⟨ih0, ih1, ih2, ih3⟩ := r06_Is.mono_l k
 unfold r06_Is.f
 repeat' first
  | (with_reducible exact ih0 _ _ _ _ _ _ _)
  | (with_reducible exact ih1 _ _ _ _ _ _ _)
  | (with_reducible exact ih2 _ _ _ _ _ _ _ _ _ _)
  | (with_reducible exact ih3 _ _ _ _ _ _ _ _ _ _)
  | (with_reducible exact LeO.refl _)
  | (with_reducible exact LeO.none _)
  | (with_reducible refine LeO.ite ?_ ?_)
  | (with_reducible refine LeO.bind ?_ (fun _ => ?_))
  | exact ih0 _ _ _ _ _ _ _
  | exact ih1 _ _ _ _ _ _ _
  | exact ih2 _ _ _ _ _ _ _ _ _ _
  | exact ih3 _ _ _ _ _ _ _ _ _ _
  | exact LeO.none _
  | refine LeO.ite ?_ ?_
  | refine LeO.bind ?_ (fun _ => ?_)
set_option maxHeartbeats 8000000 in
set_option maxRecDepth 100000 in
theorem r06_Is.calls (k : Nat) (a0_0 : Int) (a0_1 : ByteArray) (a0_2 : ByteArray) (a0_3 : Int) (A0_4 : Option Addr) (c0_4 : Nat) (l0_4 : List (S60)) (a0_5 : Int) (r : Bool) (w : World) (hG : TheG w) (hr0_4 : Kd.C k60 w A0_4 l0_4.length l0_4) (hc0_4 : l0_4.length ≤ c0_4) (h : r06_Is.f k a0_0 a0_1 a0_2 a0_3 l0_4 a0_5 = some r) :
 Calls Tryd.prog 34 #[.agg #[.int .i64 a0_0, .string a0_1, .string a0_2, .int .i64 a0_3, .slice A0_4 l0_4.length c0_4, .int .i64 a0_5]] w fun e w' => e = .returned (.bool r) ∧ Below w.heap.size w w' := by
 have hu26 := Tryd.underlying26
 have hu23 := Tryd.underlying23
 have hu60 := Tryd.underlying60
 have HR0_4 := Az.mk hr0_4
 have HC0_4 := Az.mk hc0_4
 clear hr0_4 hc0_4
 have HB := Az.mk (Below.refl w.heap.size w)
 have H : ((r06_id.f a0_0).bind fun t345 => (if t345 = true then ((r06_id.f a0_3).bind fun t346 => (if t346 = true then ((r06_id.f a0_5).bind fun t347 => (if t347 = true then ((r02_Is.f a0_1 a0_2).bind fun t348 => (if t348 = true then (if (l0_4.length : Int) < 1 then (r06_Is.j0 k true a0_0 a0_1 a0_2 a0_3 l0_4 a0_5) else (r06_Is.j0 k (decide ((l0_4.length : Int) > 5)) a0_0 a0_1 a0_2 a0_3 l0_4 a0_5)) else (r06_Is.j0 k true a0_0 a0_1 a0_2 a0_3 l0_4 a0_5))) else (r06_Is.j0 k true a0_0 a0_1 a0_2 a0_3 l0_4 a0_5))) else (r06_Is.j0 k true a0_0 a0_1 a0_2 a0_3 l0_4 a0_5))) else (r06_Is.j0 k true a0_0 a0_1 a0_2 a0_3 l0_4 a0_5))) = some r := h
 clear h
 have HC2 := Az.mk H
 clear H
 go_enter Tryd.func34, Tryd.ntmps34
 go_upto_region 1 with ((with_reducible refine gate_dst (N := 1) rfl ?_); (try (refine gate_guard (by rfl) ?_; dsimp only)); refine box_event ?hg (N := 1) ?hd (cs := #[.int .i64 a0_0, .string a0_1, .string a0_2, .int .i64 a0_3, .slice A0_4 l0_4.length c0_4, .int .i64 a0_5]) (t := 26) ?hr ?_; (case hd => rfl); (case hg => rfl); (case hr => first | (go_simp; done) | (go_simp; rfl)); intro gb344 hg w3 hbox hb; have BK344 := Az.mk (hbox); have GW344 := Az.mk (geO hg (pbE HB.out)); have GE344 := Az.mk (geO hg (pbE HB.out)); replace HB := Az.mk (pbT (by exact pbE HB.out) hb); clear hb hbox hg)
 repeat (go_quiet (first | ((with_reducible refine gate_dst (N := 1) rfl ?_); (try (refine gate_guard (by rfl) ?_; dsimp only)); refine box_event ?hg (N := 1) ?hd (cs := #[.int .i64 a0_0, .string a0_1, .string a0_2, .int .i64 a0_3, .slice A0_4 l0_4.length c0_4, .int .i64 a0_5]) (t := 26) ?hr ?_; (case hd => rfl); (case hg => rfl); (case hr => first | (go_simp; done) | (go_simp; rfl)); intro gb344 hg w3 hbox hb; have BK344 := Az.mk (hbox); have GW344 := Az.mk (geO hg (pbE HB.out)); have GE344 := Az.mk (geO hg (pbE HB.out)); replace HB := Az.mk (pbT (by exact pbE HB.out) hb); clear hb hbox hg)); go_upto_region 1 with (fail))
 (try simp only [Act.put, List.setIfInBounds_toArray, List.set_cons_zero, List.set_cons_succ])
 go_cut [39] (fun v39 wc => ∃ (kq : Nat) (x39_1 : Bool), v39 = .bool x39_1 ∧ Az (r06_Is.j0 kq x39_1 a0_0 a0_1 a0_2 a0_3 l0_4 a0_5 = some r) ∧ Az (kq ≤ k) ∧ Az (wc.heap[gb344]? = some (.cells #[.int .i64 a0_0, .string a0_1, .string a0_2, .int .i64 a0_3, (.slice A0_4 l0_4.length c0_4), .int .i64 a0_5] 26 (0, 0))) ∧ Az (Below w.heap.size w wc))
 case first =>
  have H := HC2.out
  clear HC2
  replace H := Option.bind_eq_some_iff.mp H
  obtain ⟨t345, A40, H⟩ := H
  try dsimp only at H
  have A4 := Az.mk A40
  clear A40
  by_cases c5 : t345 = true
  ·subst c5
   rw [if_pos rfl] at H
   replace H := Option.bind_eq_some_iff.mp H
   obtain ⟨t346, A60, H⟩ := H
   try dsimp only at H
   have A6 := Az.mk A60
   clear A60
   by_cases c7 : t346 = true
   ·subst c7
    rw [if_pos rfl] at H
    replace H := Option.bind_eq_some_iff.mp H
    obtain ⟨t347, A80, H⟩ := H
    try dsimp only at H
    have A8 := Az.mk A80
    clear A80
    by_cases c9 : t347 = true
    ·subst c9
     rw [if_pos rfl] at H
     replace H := Option.bind_eq_some_iff.mp H
     obtain ⟨t348, A100, H⟩ := H
     try dsimp only at H
     have A10 := Az.mk A100
     clear A100
     by_cases c11 : t348 = true
     ·subst c11
      rw [if_pos rfl] at H
      by_cases c12 : (l0_4.length : Int) < 1
      ·rw [if_pos c12] at H
       have c12b0 : decide ((l0_4.length : Int) < 1) = true := decide_eq_true c12
       have c12b1 : decide (l0_4.length < 1) = true := decide_eq_true (by omega)
       clear c12
       (first | rw [c12b0] | (simp only [i64_w, i32_w]; rw [c12b0]) | skip)
       have H' := Az.mk H
       clear H
       have hcz13 := cells6 BK344.out
       go_wp2_with (first | (go_at_call 59; (with_reducible refine (r06_id.calls a0_0 true _ ?side1 A4.out).mono ?_); (case side1 => exact hG.below (by exact pbE HB.out)); rintro e w' ⟨rfl, ⟨nd, rfl⟩⟩; (try first | exact ⟨rfl, _, World.drewN_drewN _ _ _⟩ | exact ⟨rfl, _, Eq.trans (World.drewN_drewN _ _ _) (congrArg (World.drewN _) (Nat.add_assoc _ _ _))⟩)) | (go_at_call 59; (with_reducible refine (r06_id.calls a0_3 true _ ?side1 A6.out).mono ?_); (case side1 => exact hG.below (by exact pbE HB.out)); rintro e w' ⟨rfl, ⟨nd, rfl⟩⟩; (try first | exact ⟨rfl, _, World.drewN_drewN _ _ _⟩ | exact ⟨rfl, _, Eq.trans (World.drewN_drewN _ _ _) (congrArg (World.drewN _) (Nat.add_assoc _ _ _))⟩)) | (go_at_call 59; (with_reducible refine (r06_id.calls a0_5 true _ ?side1 A8.out).mono ?_); (case side1 => exact hG.below (by exact pbE HB.out)); rintro e w' ⟨rfl, ⟨nd, rfl⟩⟩; (try first | exact ⟨rfl, _, World.drewN_drewN _ _ _⟩ | exact ⟨rfl, _, Eq.trans (World.drewN_drewN _ _ _) (congrArg (World.drewN _) (Nat.add_assoc _ _ _))⟩)) | (go_at_call 60; (with_reducible refine (r02_Is.calls a0_1 a0_2 true _ ?side1 A10.out).mono ?_); (case side1 => exact hG.below (by exact pbE HB.out)); rintro e w14 ⟨rfl, hb⟩; replace BK344 := Az.mk (bkB (bk BK344.out) hb); replace HB := Az.mk (pbT (by exact pbE HB.out) hb); (try clear hb); (try clear hb2); (try clear hk); (try clear hi); have hcz15 := cells6 BK344.out))
       repeat (go_quiet (first | (go_at_call 59; (with_reducible refine (r06_id.calls a0_0 true _ ?side1 A4.out).mono ?_); (case side1 => exact hG.below (by exact pbE HB.out)); rintro e w' ⟨rfl, ⟨nd, rfl⟩⟩; (try first | exact ⟨rfl, _, World.drewN_drewN _ _ _⟩ | exact ⟨rfl, _, Eq.trans (World.drewN_drewN _ _ _) (congrArg (World.drewN _) (Nat.add_assoc _ _ _))⟩)) | (go_at_call 59; (with_reducible refine (r06_id.calls a0_3 true _ ?side1 A6.out).mono ?_); (case side1 => exact hG.below (by exact pbE HB.out)); rintro e w' ⟨rfl, ⟨nd, rfl⟩⟩; (try first | exact ⟨rfl, _, World.drewN_drewN _ _ _⟩ | exact ⟨rfl, _, Eq.trans (World.drewN_drewN _ _ _) (congrArg (World.drewN _) (Nat.add_assoc _ _ _))⟩)) | (go_at_call 59; (with_reducible refine (r06_id.calls a0_5 true _ ?side1 A8.out).mono ?_); (case side1 => exact hG.below (by exact pbE HB.out)); rintro e w' ⟨rfl, ⟨nd, rfl⟩⟩; (try first | exact ⟨rfl, _, World.drewN_drewN _ _ _⟩ | exact ⟨rfl, _, Eq.trans (World.drewN_drewN _ _ _) (congrArg (World.drewN _) (Nat.add_assoc _ _ _))⟩)) | (go_at_call 60; (with_reducible refine (r02_Is.calls a0_1 a0_2 true _ ?side1 A10.out).mono ?_); (case side1 => exact hG.below (by exact pbE HB.out)); rintro e w14 ⟨rfl, hb⟩; replace BK344 := Az.mk (bkB (bk BK344.out) hb); replace HB := Az.mk (pbT (by exact pbE HB.out) hb); (try clear hb); (try clear hb2); (try clear hk); (try clear hi); have hcz15 := cells6 BK344.out)); try go_wp2_with (fail))
       go_meet
       case rel => exact ⟨_, (true), (by first | rfl | (simp; done) | (simp [*]; done)), H', ⟨by first | omega | exact Nat.le_refl _⟩, ⟨by refine bk ?_; exact BK344.out⟩, ⟨by exact pbE HB.out⟩⟩
      ·rw [if_neg c12] at H
       have c12b0 : decide ((l0_4.length : Int) < 1) = false := decide_eq_false c12
       have c12b1 : decide (l0_4.length < 1) = false := decide_eq_false (by omega)
       clear c12
       (first | rw [c12b0] | (simp only [i64_w, i32_w]; rw [c12b0]) | skip)
       have H' := Az.mk H
       clear H
       have hcz16 := cells6 BK344.out
       go_wp2_with (first | (go_at_call 59; (with_reducible refine (r06_id.calls a0_0 true _ ?side1 A4.out).mono ?_); (case side1 => exact hG.below (by exact pbE HB.out)); rintro e w' ⟨rfl, ⟨nd, rfl⟩⟩; (try first | exact ⟨rfl, _, World.drewN_drewN _ _ _⟩ | exact ⟨rfl, _, Eq.trans (World.drewN_drewN _ _ _) (congrArg (World.drewN _) (Nat.add_assoc _ _ _))⟩)) | (go_at_call 59; (with_reducible refine (r06_id.calls a0_3 true _ ?side1 A6.out).mono ?_); (case side1 => exact hG.below (by exact pbE HB.out)); rintro e w' ⟨rfl, ⟨nd, rfl⟩⟩; (try first | exact ⟨rfl, _, World.drewN_drewN _ _ _⟩ | exact ⟨rfl, _, Eq.trans (World.drewN_drewN _ _ _) (congrArg (World.drewN _) (Nat.add_assoc _ _ _))⟩)) | (go_at_call 59; (with_reducible refine (r06_id.calls a0_5 true _ ?side1 A8.out).mono ?_); (case side1 => exact hG.below (by exact pbE HB.out)); rintro e w' ⟨rfl, ⟨nd, rfl⟩⟩; (try first | exact ⟨rfl, _, World.drewN_drewN _ _ _⟩ | exact ⟨rfl, _, Eq.trans (World.drewN_drewN _ _ _) (congrArg (World.drewN _) (Nat.add_assoc _ _ _))⟩)) | (go_at_call 60; (with_reducible refine (r02_Is.calls a0_1 a0_2 true _ ?side1 A10.out).mono ?_); (case side1 => exact hG.below (by exact pbE HB.out)); rintro e w17 ⟨rfl, hb⟩; replace BK344 := Az.mk (bkB (bk BK344.out) hb); replace HB := Az.mk (pbT (by exact pbE HB.out) hb); (try clear hb); (try clear hb2); (try clear hk); (try clear hi); have hcz18 := cells6 BK344.out))
       repeat (go_quiet (first | (go_at_call 59; (with_reducible refine (r06_id.calls a0_0 true _ ?side1 A4.out).mono ?_); (case side1 => exact hG.below (by exact pbE HB.out)); rintro e w' ⟨rfl, ⟨nd, rfl⟩⟩; (try first | exact ⟨rfl, _, World.drewN_drewN _ _ _⟩ | exact ⟨rfl, _, Eq.trans (World.drewN_drewN _ _ _) (congrArg (World.drewN _) (Nat.add_assoc _ _ _))⟩)) | (go_at_call 59; (with_reducible refine (r06_id.calls a0_3 true _ ?side1 A6.out).mono ?_); (case side1 => exact hG.below (by exact pbE HB.out)); rintro e w' ⟨rfl, ⟨nd, rfl⟩⟩; (try first | exact ⟨rfl, _, World.drewN_drewN _ _ _⟩ | exact ⟨rfl, _, Eq.trans (World.drewN_drewN _ _ _) (congrArg (World.drewN _) (Nat.add_assoc _ _ _))⟩)) | (go_at_call 59; (with_reducible refine (r06_id.calls a0_5 true _ ?side1 A8.out).mono ?_); (case side1 => exact hG.below (by exact pbE HB.out)); rintro e w' ⟨rfl, ⟨nd, rfl⟩⟩; (try first | exact ⟨rfl, _, World.drewN_drewN _ _ _⟩ | exact ⟨rfl, _, Eq.trans (World.drewN_drewN _ _ _) (congrArg (World.drewN _) (Nat.add_assoc _ _ _))⟩)) | (go_at_call 60; (with_reducible refine (r02_Is.calls a0_1 a0_2 true _ ?side1 A10.out).mono ?_); (case side1 => exact hG.below (by exact pbE HB.out)); rintro e w17 ⟨rfl, hb⟩; replace BK344 := Az.mk (bkB (bk BK344.out) hb); replace HB := Az.mk (pbT (by exact pbE HB.out) hb); (try clear hb); (try clear hb2); (try clear hk); (try clear hi); have hcz18 := cells6 BK344.out)); try go_wp2_with (fail))
       go_meet
       case rel => exact ⟨_, (decide ((l0_4.length : Int) > 5)), (by first | rfl | (simp; done) | (simp [*]; done)), H', ⟨by first | omega | exact Nat.le_refl _⟩, ⟨by refine bk ?_; exact BK344.out⟩, ⟨by exact pbE HB.out⟩⟩
     ·replace c11 := Bool.eq_false_iff.mpr c11
      subst c11
      rw [if_neg (show ¬ (false = true) by decide)] at H
      have H' := Az.mk H
      clear H
      have hcz19 := cells6 BK344.out
      go_wp2_with (first | (go_at_call 59; (with_reducible refine (r06_id.calls a0_0 true _ ?side1 A4.out).mono ?_); (case side1 => exact hG.below (by exact pbE HB.out)); rintro e w' ⟨rfl, ⟨nd, rfl⟩⟩; (try first | exact ⟨rfl, _, World.drewN_drewN _ _ _⟩ | exact ⟨rfl, _, Eq.trans (World.drewN_drewN _ _ _) (congrArg (World.drewN _) (Nat.add_assoc _ _ _))⟩)) | (go_at_call 59; (with_reducible refine (r06_id.calls a0_3 true _ ?side1 A6.out).mono ?_); (case side1 => exact hG.below (by exact pbE HB.out)); rintro e w' ⟨rfl, ⟨nd, rfl⟩⟩; (try first | exact ⟨rfl, _, World.drewN_drewN _ _ _⟩ | exact ⟨rfl, _, Eq.trans (World.drewN_drewN _ _ _) (congrArg (World.drewN _) (Nat.add_assoc _ _ _))⟩)) | (go_at_call 59; (with_reducible refine (r06_id.calls a0_5 true _ ?side1 A8.out).mono ?_); (case side1 => exact hG.below (by exact pbE HB.out)); rintro e w' ⟨rfl, ⟨nd, rfl⟩⟩; (try first | exact ⟨rfl, _, World.drewN_drewN _ _ _⟩ | exact ⟨rfl, _, Eq.trans (World.drewN_drewN _ _ _) (congrArg (World.drewN _) (Nat.add_assoc _ _ _))⟩)) | (go_at_call 60; (with_reducible refine (r02_Is.calls a0_1 a0_2 false _ ?side1 A10.out).mono ?_); (case side1 => exact hG.below (by exact pbE HB.out)); rintro e w20 ⟨rfl, hb⟩; replace BK344 := Az.mk (bkB (bk BK344.out) hb); replace HB := Az.mk (pbT (by exact pbE HB.out) hb); (try clear hb); (try clear hb2); (try clear hk); (try clear hi)))
      repeat (go_quiet (first | (go_at_call 59; (with_reducible refine (r06_id.calls a0_0 true _ ?side1 A4.out).mono ?_); (case side1 => exact hG.below (by exact pbE HB.out)); rintro e w' ⟨rfl, ⟨nd, rfl⟩⟩; (try first | exact ⟨rfl, _, World.drewN_drewN _ _ _⟩ | exact ⟨rfl, _, Eq.trans (World.drewN_drewN _ _ _) (congrArg (World.drewN _) (Nat.add_assoc _ _ _))⟩)) | (go_at_call 59; (with_reducible refine (r06_id.calls a0_3 true _ ?side1 A6.out).mono ?_); (case side1 => exact hG.below (by exact pbE HB.out)); rintro e w' ⟨rfl, ⟨nd, rfl⟩⟩; (try first | exact ⟨rfl, _, World.drewN_drewN _ _ _⟩ | exact ⟨rfl, _, Eq.trans (World.drewN_drewN _ _ _) (congrArg (World.drewN _) (Nat.add_assoc _ _ _))⟩)) | (go_at_call 59; (with_reducible refine (r06_id.calls a0_5 true _ ?side1 A8.out).mono ?_); (case side1 => exact hG.below (by exact pbE HB.out)); rintro e w' ⟨rfl, ⟨nd, rfl⟩⟩; (try first | exact ⟨rfl, _, World.drewN_drewN _ _ _⟩ | exact ⟨rfl, _, Eq.trans (World.drewN_drewN _ _ _) (congrArg (World.drewN _) (Nat.add_assoc _ _ _))⟩)) | (go_at_call 60; (with_reducible refine (r02_Is.calls a0_1 a0_2 false _ ?side1 A10.out).mono ?_); (case side1 => exact hG.below (by exact pbE HB.out)); rintro e w20 ⟨rfl, hb⟩; replace BK344 := Az.mk (bkB (bk BK344.out) hb); replace HB := Az.mk (pbT (by exact pbE HB.out) hb); (try clear hb); (try clear hb2); (try clear hk); (try clear hi))); try go_wp2_with (fail))
      go_meet
      case rel => exact ⟨_, (true), (by first | rfl | (simp; done) | (simp [*]; done)), H', ⟨by first | omega | exact Nat.le_refl _⟩, ⟨by refine bk ?_; exact BK344.out⟩, ⟨by exact pbE HB.out⟩⟩
    ·replace c9 := Bool.eq_false_iff.mpr c9
     subst c9
     rw [if_neg (show ¬ (false = true) by decide)] at H
     have H' := Az.mk H
     clear H
     have hcz21 := cells6 BK344.out
     go_wp2_with (first | (go_at_call 59; (with_reducible refine (r06_id.calls a0_0 true _ ?side1 A4.out).mono ?_); (case side1 => exact hG.below (by exact pbE HB.out)); rintro e w' ⟨rfl, ⟨nd, rfl⟩⟩; (try first | exact ⟨rfl, _, World.drewN_drewN _ _ _⟩ | exact ⟨rfl, _, Eq.trans (World.drewN_drewN _ _ _) (congrArg (World.drewN _) (Nat.add_assoc _ _ _))⟩)) | (go_at_call 59; (with_reducible refine (r06_id.calls a0_3 true _ ?side1 A6.out).mono ?_); (case side1 => exact hG.below (by exact pbE HB.out)); rintro e w' ⟨rfl, ⟨nd, rfl⟩⟩; (try first | exact ⟨rfl, _, World.drewN_drewN _ _ _⟩ | exact ⟨rfl, _, Eq.trans (World.drewN_drewN _ _ _) (congrArg (World.drewN _) (Nat.add_assoc _ _ _))⟩)) | (go_at_call 59; (with_reducible refine (r06_id.calls a0_5 false _ ?side1 A8.out).mono ?_); (case side1 => exact hG.below (by exact pbE HB.out)); rintro e w' ⟨rfl, ⟨nd, rfl⟩⟩; (try first | exact ⟨rfl, _, World.drewN_drewN _ _ _⟩ | exact ⟨rfl, _, Eq.trans (World.drewN_drewN _ _ _) (congrArg (World.drewN _) (Nat.add_assoc _ _ _))⟩)))
     repeat (go_quiet (first | (go_at_call 59; (with_reducible refine (r06_id.calls a0_0 true _ ?side1 A4.out).mono ?_); (case side1 => exact hG.below (by exact pbE HB.out)); rintro e w' ⟨rfl, ⟨nd, rfl⟩⟩; (try first | exact ⟨rfl, _, World.drewN_drewN _ _ _⟩ | exact ⟨rfl, _, Eq.trans (World.drewN_drewN _ _ _) (congrArg (World.drewN _) (Nat.add_assoc _ _ _))⟩)) | (go_at_call 59; (with_reducible refine (r06_id.calls a0_3 true _ ?side1 A6.out).mono ?_); (case side1 => exact hG.below (by exact pbE HB.out)); rintro e w' ⟨rfl, ⟨nd, rfl⟩⟩; (try first | exact ⟨rfl, _, World.drewN_drewN _ _ _⟩ | exact ⟨rfl, _, Eq.trans (World.drewN_drewN _ _ _) (congrArg (World.drewN _) (Nat.add_assoc _ _ _))⟩)) | (go_at_call 59; (with_reducible refine (r06_id.calls a0_5 false _ ?side1 A8.out).mono ?_); (case side1 => exact hG.below (by exact pbE HB.out)); rintro e w' ⟨rfl, ⟨nd, rfl⟩⟩; (try first | exact ⟨rfl, _, World.drewN_drewN _ _ _⟩ | exact ⟨rfl, _, Eq.trans (World.drewN_drewN _ _ _) (congrArg (World.drewN _) (Nat.add_assoc _ _ _))⟩))); try go_wp2_with (fail))
     go_meet
     case rel => exact ⟨_, (true), (by first | rfl | (simp; done) | (simp [*]; done)), H', ⟨by first | omega | exact Nat.le_refl _⟩, ⟨by refine bk ?_; exact BK344.out⟩, ⟨by exact pbE HB.out⟩⟩
   ·replace c7 := Bool.eq_false_iff.mpr c7
    subst c7
    rw [if_neg (show ¬ (false = true) by decide)] at H
    have H' := Az.mk H
    clear H
    have hcz22 := cells6 BK344.out
    go_wp2_with (first | (go_at_call 59; (with_reducible refine (r06_id.calls a0_0 true _ ?side1 A4.out).mono ?_); (case side1 => exact hG.below (by exact pbE HB.out)); rintro e w' ⟨rfl, ⟨nd, rfl⟩⟩; (try first | exact ⟨rfl, _, World.drewN_drewN _ _ _⟩ | exact ⟨rfl, _, Eq.trans (World.drewN_drewN _ _ _) (congrArg (World.drewN _) (Nat.add_assoc _ _ _))⟩)) | (go_at_call 59; (with_reducible refine (r06_id.calls a0_3 false _ ?side1 A6.out).mono ?_); (case side1 => exact hG.below (by exact pbE HB.out)); rintro e w' ⟨rfl, ⟨nd, rfl⟩⟩; (try first | exact ⟨rfl, _, World.drewN_drewN _ _ _⟩ | exact ⟨rfl, _, Eq.trans (World.drewN_drewN _ _ _) (congrArg (World.drewN _) (Nat.add_assoc _ _ _))⟩)))
    repeat (go_quiet (first | (go_at_call 59; (with_reducible refine (r06_id.calls a0_0 true _ ?side1 A4.out).mono ?_); (case side1 => exact hG.below (by exact pbE HB.out)); rintro e w' ⟨rfl, ⟨nd, rfl⟩⟩; (try first | exact ⟨rfl, _, World.drewN_drewN _ _ _⟩ | exact ⟨rfl, _, Eq.trans (World.drewN_drewN _ _ _) (congrArg (World.drewN _) (Nat.add_assoc _ _ _))⟩)) | (go_at_call 59; (with_reducible refine (r06_id.calls a0_3 false _ ?side1 A6.out).mono ?_); (case side1 => exact hG.below (by exact pbE HB.out)); rintro e w' ⟨rfl, ⟨nd, rfl⟩⟩; (try first | exact ⟨rfl, _, World.drewN_drewN _ _ _⟩ | exact ⟨rfl, _, Eq.trans (World.drewN_drewN _ _ _) (congrArg (World.drewN _) (Nat.add_assoc _ _ _))⟩))); try go_wp2_with (fail))
    go_meet
    case rel => exact ⟨_, (true), (by first | rfl | (simp; done) | (simp [*]; done)), H', ⟨by first | omega | exact Nat.le_refl _⟩, ⟨by refine bk ?_; exact BK344.out⟩, ⟨by exact pbE HB.out⟩⟩
  ·replace c5 := Bool.eq_false_iff.mpr c5
   subst c5
   rw [if_neg (show ¬ (false = true) by decide)] at H
   have H' := Az.mk H
   clear H
   have hcz23 := cells6 BK344.out
   go_wp2_with (go_at_call 59; (with_reducible refine (r06_id.calls a0_0 false _ ?side1 A4.out).mono ?_); (case side1 => exact hG.below (by exact pbE HB.out)); rintro e w' ⟨rfl, ⟨nd, rfl⟩⟩; (try first | exact ⟨rfl, _, World.drewN_drewN _ _ _⟩ | exact ⟨rfl, _, Eq.trans (World.drewN_drewN _ _ _) (congrArg (World.drewN _) (Nat.add_assoc _ _ _))⟩))
   repeat (go_quiet (first | (go_at_call 59; (with_reducible refine (r06_id.calls a0_0 false _ ?side1 A4.out).mono ?_); (case side1 => exact hG.below (by exact pbE HB.out)); rintro e w' ⟨rfl, ⟨nd, rfl⟩⟩; (try first | exact ⟨rfl, _, World.drewN_drewN _ _ _⟩ | exact ⟨rfl, _, Eq.trans (World.drewN_drewN _ _ _) (congrArg (World.drewN _) (Nat.add_assoc _ _ _))⟩))); try go_wp2_with (fail))
   go_meet
   case rel => exact ⟨_, (true), (by first | rfl | (simp; done) | (simp [*]; done)), H', ⟨by first | omega | exact Nat.le_refl _⟩, ⟨by refine bk ?_; exact BK344.out⟩, ⟨by exact pbE HB.out⟩⟩
 case rest =>
  clear HC2
  try clear c1
  try clear p2
  try clear c3
  try clear c5
  try clear c7
  try clear c9
  try clear c11
  try clear c12
  try clear c12b0
  try clear c12b1
  try clear hcz13
  try clear hcz15
  try clear hcz16
  try clear hcz18
  try clear hcz19
  try clear hcz21
  try clear hcz22
  try clear hcz23
  obtain ⟨kq, x39_1, rfl, HA, HJ1, BK344, HB⟩ := hcut
  cases kq with
  | zero => exact absurd HA.out (by simp [r06_Is.j0])
  | succ kj1 =>
   have H := HA.out
   clear HA
   simp only [r06_Is.j0] at H
   by_cases c24 : x39_1 = true
   ·subst c24
    rw [if_pos rfl] at H
    obtain rfl := Option.some.inj H
    go_wp2
    repeat (go_quiet (fail); try go_wp2)
    go_ret
    exact ⟨by first | rfl | (simp [errW_none, errW_some] <;> rfl) | (simp [*, errW_none, errW_some] <;> rfl), by exact pbE HB.out⟩
   ·replace c24 := Bool.eq_false_iff.mpr c24
    subst c24
    rw [if_neg (show ¬ (false = true) by decide)] at H
    have H' := Az.mk H
    clear H
    go_wp2
    repeat (go_quiet (fail); try go_wp2)
    go_loopg [3] kj1 (fun kq v3 w' => ∃ (x3_2 : Int), v3 = .int .i64 x3_2 ∧ Az (r06_Is.l0 kq x3_2 a0_0 a0_1 a0_2 a0_3 l0_4 a0_5 = some r) ∧ Az (kq ≤ kj1) ∧ Az (w'.heap[gb344]? = some (.cells #[.int .i64 a0_0, .string a0_1, .string a0_2, .int .i64 a0_3, (.slice A0_4 l0_4.length c0_4), .int .i64 a0_5] 26 (0, 0))) ∧ Az (Below w.heap.size w w'))
    case atStart => exact ⟨(0), (by first | rfl | (simp; done) | (simp [*]; done)), H', ⟨Nat.le_refl _⟩, ⟨by refine bk ?_; exact BK344.out⟩, ⟨by exact pbE HB.out⟩⟩
    case round =>
     clear H'
     try clear c1
     try clear c2
     try clear p2
     try clear c3
     try clear c5
     try clear c7
     try clear c9
     try clear c11
     try clear c12
     try clear c12b0
     try clear c12b1
     try clear c24
     try clear hcz13
     try clear hcz15
     try clear hcz16
     try clear hcz18
     try clear hcz19
     try clear hcz21
     try clear hcz22
     try clear hcz23
     try clear p2
     obtain ⟨x3_2, rfl, HA, HK2, BK344, HB⟩ := hrel
     cases gk with
     | zero => exact absurd HA.out (by simp [r06_Is.l0])
     | succ k2 =>
      have H := HA.out
      clear HA
      simp only [r06_Is.l0] at H
      by_cases c25 : x3_2 < (l0_4.length : Int)
      ·rw [if_pos c25] at H
       have c25b0 : decide (x3_2 < (l0_4.length : Int)) = true := decide_eq_true c25
       clear c25
       by_cases c26 : 0 ≤ x3_2
       ·rw [if_pos c26] at H
        have c26b0 : decide (0 ≤ x3_2) = true := decide_eq_true c26
        clear c26
        have HC27 := Az.mk H
        clear H
        have hcz28 := cells6 BK344.out
        have p349 : 0 ≤ (x3_2 : Int) := of_decide_eq_true (by first | (with_reducible assumption) | assumption)
        have q349 : x3_2 < (l0_4.length : Int) := of_decide_eq_true (by first | (with_reducible assumption) | assumption)
        obtain ⟨ad349, e349, hx349_0, hx349_1⟩ := at_T60 HR0_4.out x3_2 p349 q349
        cases e349
        replace hx349_0 := (HB.out.cell (World.block_lt_of_cell? w _ hx349_0)).trans hx349_0
        replace hx349_1 := (HB.out.cell (World.block_lt_of_cell? w _ hx349_1)).trans hx349_1
        replace p349 := eq_true p349
        replace q349 := eq_true q349
        go_upto_region 7 with ((with_reducible refine gate_dst (N := 4) rfl ?_); (try (refine gate_guard (by rfl) ?_; dsimp only)); refine box_event ?hg (N := 4) ?hd (cs := #[.int .i64 0, .int .i64 0]) (t := 60) ?hr ?_; (case hd => rfl); (case hg => rfl); (case hr => first | (go_simp; done) | (go_simp; rfl)); intro gb350 hg w29 hbox hb; have BK350 := Az.mk (hbox); have GW350 := Az.mk (geO hg (pbE HB.out)); have GE350 := Az.mk (geO hg (pbE HB.out)); replace HB := Az.mk (pbT (by exact pbE HB.out) hb); have NB344_350 := Az.mk (neO hg (bk BK344.out)); have NB350_344 := Az.mk (neP hg (bk BK344.out)); replace BK344 := Az.mk (bkB (bk BK344.out) hb); clear hb hbox hg; have hnb30 := NB350_344.out; have hnc30 := NB344_350.out; have hcz31 := cells2 BK350.out)
        repeat (go_quiet (first | ((with_reducible refine gate_dst (N := 4) rfl ?_); (try (refine gate_guard (by rfl) ?_; dsimp only)); refine box_event ?hg (N := 4) ?hd (cs := #[.int .i64 0, .int .i64 0]) (t := 60) ?hr ?_; (case hd => rfl); (case hg => rfl); (case hr => first | (go_simp; done) | (go_simp; rfl)); intro gb350 hg w29 hbox hb; have BK350 := Az.mk (hbox); have GW350 := Az.mk (geO hg (pbE HB.out)); have GE350 := Az.mk (geO hg (pbE HB.out)); replace HB := Az.mk (pbT (by exact pbE HB.out) hb); have NB344_350 := Az.mk (neO hg (bk BK344.out)); have NB350_344 := Az.mk (neP hg (bk BK344.out)); replace BK344 := Az.mk (bkB (bk BK344.out) hb); clear hb hbox hg; have hnb30 := NB350_344.out; have hnc30 := NB344_350.out; have hcz31 := cells2 BK350.out)); go_upto_region 7 with (fail))
        (try simp only [Act.put, List.setIfInBounds_toArray, List.set_cons_zero, List.set_cons_succ])
        go_cut [87] (fun v87 wc => ∃ (kq : Nat) (x87_26 : Bool), v87 = .bool x87_26 ∧ Az (r06_Is.j2 kq x3_2 x87_26 a0_0 a0_1 a0_2 a0_3 l0_4 a0_5 ((rd_T60 l0_4 x3_2).f0) ((rd_T60 l0_4 x3_2).f1) = some r) ∧ Az (kq ≤ k2) ∧ Az (wc.heap[gb344]? = some (.cells #[.int .i64 a0_0, .string a0_1, .string a0_2, .int .i64 a0_3, (.slice (some ad349) l0_4.length c0_4), .int .i64 a0_5] 26 (0, 0))) ∧ Az (wc.heap[gb350]? = some (.cells #[.int .i64 ((rd_T60 l0_4 x3_2).f0), .int .i64 ((rd_T60 l0_4 x3_2).f1)] 60 (0, 0))) ∧ Az (Below w.heap.size w wc))
        case first =>
         have H := HC27.out
         clear HC27
         by_cases c32 : ((rd_T60 l0_4 x3_2).f0) < 1
         ·rw [if_pos c32] at H
          have c32b0 : decide (((rd_T60 l0_4 x3_2).f0) < 1) = true := decide_eq_true c32
          clear c32
          (first | rw [c32b0] | (simp only [i64_w, i32_w]; rw [c32b0]) | skip)
          have H' := Az.mk H
          clear H
          have hnb33 := NB350_344.out
          have hnc33 := NB344_350.out
          have hcz34 := cells2 BK350.out
          go_wp2
          repeat (go_quiet (fail); try go_wp2)
          go_meet
          case rel => exact ⟨_, (true), (by first | rfl | (simp; done) | (simp [*]; done)), H', ⟨by have := HJ1.out; have := HK2.out; first | omega | exact Nat.le_refl _⟩, ⟨by exact bf BK344.out⟩, ⟨by refine bk ?_; refine blk_put (cs := #[.int .i64 ((rd_T60 l0_4 x3_2).f0), .int .i64 0]) ?_ 1 _ rfl; refine bk ?_; refine blk_put (cs := #[.int .i64 0, .int .i64 0]) ?_ 0 _ rfl; refine bk ?_; exact BK350.out⟩, ⟨by exact pbE HB.out⟩⟩
         ·rw [if_neg c32] at H
          have c32b0 : decide (((rd_T60 l0_4 x3_2).f0) < 1) = false := decide_eq_false c32
          clear c32
          (first | rw [c32b0] | (simp only [i64_w, i32_w]; rw [c32b0]) | skip)
          by_cases c35 : ((rd_T60 l0_4 x3_2).f0) > 7
          ·rw [if_pos c35] at H
           have c35b0 : decide (7 < ((rd_T60 l0_4 x3_2).f0)) = true := decide_eq_true c35
           clear c35
           have H' := Az.mk H
           clear H
           have hnb36 := NB350_344.out
           have hnc36 := NB344_350.out
           have hcz37 := cells2 BK350.out
           go_wp2
           repeat (go_quiet (fail); try go_wp2)
           go_meet
           case rel => exact ⟨_, (true), (by first | rfl | (simp; done) | (simp [*]; done)), H', ⟨by have := HJ1.out; have := HK2.out; first | omega | exact Nat.le_refl _⟩, ⟨by exact bf BK344.out⟩, ⟨by refine bk ?_; refine blk_put (cs := #[.int .i64 ((rd_T60 l0_4 x3_2).f0), .int .i64 0]) ?_ 1 _ rfl; refine bk ?_; refine blk_put (cs := #[.int .i64 0, .int .i64 0]) ?_ 0 _ rfl; refine bk ?_; exact BK350.out⟩, ⟨by exact pbE HB.out⟩⟩
          ·rw [if_neg c35] at H
           have c35b0 : decide (7 < ((rd_T60 l0_4 x3_2).f0)) = false := decide_eq_false c35
           clear c35
           by_cases c38 : ((rd_T60 l0_4 x3_2).f1) < 1
           ·rw [if_pos c38] at H
            have c38b0 : decide (((rd_T60 l0_4 x3_2).f1) < 1) = true := decide_eq_true c38
            clear c38
            have H' := Az.mk H
            clear H
            have hnb39 := NB350_344.out
            have hnc39 := NB344_350.out
            have hcz40 := cells2 BK350.out
            go_wp2
            repeat (go_quiet (fail); try go_wp2)
            go_meet
            case rel => exact ⟨_, (true), (by first | rfl | (simp; done) | (simp [*]; done)), H', ⟨by have := HJ1.out; have := HK2.out; first | omega | exact Nat.le_refl _⟩, ⟨by exact bf BK344.out⟩, ⟨by refine bk ?_; refine blk_put (cs := #[.int .i64 ((rd_T60 l0_4 x3_2).f0), .int .i64 0]) ?_ 1 _ rfl; refine bk ?_; refine blk_put (cs := #[.int .i64 0, .int .i64 0]) ?_ 0 _ rfl; refine bk ?_; exact BK350.out⟩, ⟨by exact pbE HB.out⟩⟩
           ·rw [if_neg c38] at H
            have c38b0 : decide (((rd_T60 l0_4 x3_2).f1) < 1) = false := decide_eq_false c38
            clear c38
            by_cases c41 : ((rd_T60 l0_4 x3_2).f1) ≥ a0_5
            ·rw [if_pos c41] at H
             have c41b0 : decide (a0_5 ≤ ((rd_T60 l0_4 x3_2).f1)) = true := decide_eq_true c41
             clear c41
             have H' := Az.mk H
             clear H
             have hnb42 := NB350_344.out
             have hnc42 := NB344_350.out
             have hcz43 := cells2 BK350.out
             have hcz44 := cells6 BK344.out
             go_wp2
             repeat (go_quiet (fail); try go_wp2)
             go_meet
             case rel => exact ⟨_, (true), (by first | rfl | (simp; done) | (simp [*]; done)), H', ⟨by have := HJ1.out; have := HK2.out; first | omega | exact Nat.le_refl _⟩, ⟨by exact bf BK344.out⟩, ⟨by refine bk ?_; refine blk_put (cs := #[.int .i64 ((rd_T60 l0_4 x3_2).f0), .int .i64 0]) ?_ 1 _ rfl; refine bk ?_; refine blk_put (cs := #[.int .i64 0, .int .i64 0]) ?_ 0 _ rfl; refine bk ?_; exact BK350.out⟩, ⟨by exact pbE HB.out⟩⟩
            ·rw [if_neg c41] at H
             have c41b0 : decide (a0_5 ≤ ((rd_T60 l0_4 x3_2).f1)) = false := decide_eq_false c41
             clear c41
             by_cases c45 : x3_2 > 0
             ·rw [if_pos c45] at H
              have c45b0 : decide (0 < x3_2) = true := decide_eq_true c45
              clear c45
              obtain ⟨ji46, hji46⟩ : ∃ j_ : Int, (wrap64 (x3_2 - 1)) = j_ := ⟨_, rfl⟩
              replace H : (if 0 ≤ (ji46) then (if (ji46) < (l0_4.length : Int) then (r06_Is.j2 k2 x3_2 (decide (((rd_T60 l0_4 x3_2).f1) ≤ ((rd_T60 l0_4 (ji46)).f1))) a0_0 a0_1 a0_2 a0_3 l0_4 a0_5 ((rd_T60 l0_4 x3_2).f0) ((rd_T60 l0_4 x3_2).f1)) else (none)) else (none)) = some r := by first | (rw [hji46] at H; exact H) | (simp only [hji46] at H ⊢; exact H)
              have hji46w : (IntKind.i64.wrap (x3_2 - 1)) = ji46 := (i64_w _).trans hji46
              by_cases c47 : 0 ≤ (ji46)
              ·rw [if_pos c47] at H
               have c47b0 : decide (0 ≤ (ji46)) = true := decide_eq_true c47
               clear c47
               by_cases c48 : (ji46) < (l0_4.length : Int)
               ·rw [if_pos c48] at H
                have c48b0 : decide ((ji46) < (l0_4.length : Int)) = true := decide_eq_true c48
                clear c48
                have H' := Az.mk H
                clear H
                have hnb49 := NB350_344.out
                have hnc49 := NB344_350.out
                have hcz50 := cells2 BK350.out
                have hcz51 := cells6 BK344.out
                have p351 : 0 ≤ ((ji46) : Int) := of_decide_eq_true (by first | (with_reducible assumption) | assumption)
                have q351 : (ji46) < (l0_4.length : Int) := of_decide_eq_true (by first | (with_reducible assumption) | assumption)
                obtain ⟨ad351, e351, hx351_0, hx351_1⟩ := at_T60 HR0_4.out (ji46) p351 q351
                obtain rfl : ad349 = ad351 := (by injection e351)
                have hn351_0 : ad349.block ≠ gb350 := Nat.ne_of_lt (Nat.lt_of_lt_of_le (by have := World.block_lt_of_cell? _ _ hx351_0; first | rwa [add_block] at this | exact this) GW350.out)
                have hn351_1 : ad349.block ≠ gb350 := Nat.ne_of_lt (Nat.lt_of_lt_of_le (by have := World.block_lt_of_cell? _ _ hx351_0; first | rwa [add_block] at this | exact this) GW350.out)
                replace hx351_0 := (HB.out.cell (World.block_lt_of_cell? w _ hx351_0)).trans hx351_0
                replace hx351_1 := (HB.out.cell (World.block_lt_of_cell? w _ hx351_1)).trans hx351_1
                replace hx351_0 := (cell_far (p := ⟨gb350, 0, none⟩) (by first | (rw [add_block]; exact hn351_0) | (show (Addr.add _ _).block ≠ _; rw [add_block]; exact hn351_0) | exact hn351_0) (.int .i64 ((rd_T60 l0_4 x3_2).f0))).trans hx351_0
                replace hx351_1 := (cell_far (p := ⟨gb350, 0, none⟩) (by first | (rw [add_block]; exact hn351_0) | (show (Addr.add _ _).block ≠ _; rw [add_block]; exact hn351_0) | exact hn351_0) (.int .i64 ((rd_T60 l0_4 x3_2).f0))).trans hx351_1
                replace hx351_0 := (cell_far (p := ⟨gb350, 1, none⟩) (by first | (rw [add_block]; exact hn351_1) | (show (Addr.add _ _).block ≠ _; rw [add_block]; exact hn351_1) | exact hn351_1) (.int .i64 ((rd_T60 l0_4 x3_2).f1))).trans hx351_0
                replace hx351_1 := (cell_far (p := ⟨gb350, 1, none⟩) (by first | (rw [add_block]; exact hn351_1) | (show (Addr.add _ _).block ≠ _; rw [add_block]; exact hn351_1) | exact hn351_1) (.int .i64 ((rd_T60 l0_4 x3_2).f1))).trans hx351_1
                (try have hy351_0 := fun (n_ : Nat) => (show ((((w29.drewN n_).setCell ⟨gb350, 0, none⟩ (.int .i64 ((rd_T60 l0_4 x3_2).f0))).setCell ⟨gb350, 1, none⟩ (.int .i64 ((rd_T60 l0_4 x3_2).f1)))).cell? _ = some _ from hx351_0))
                (try have hy351_1 := fun (n_ : Nat) => (show ((((w29.drewN n_).setCell ⟨gb350, 0, none⟩ (.int .i64 ((rd_T60 l0_4 x3_2).f0))).setCell ⟨gb350, 1, none⟩ (.int .i64 ((rd_T60 l0_4 x3_2).f1)))).cell? _ = some _ from hx351_1))
                clear hn351_0
                clear hn351_1
                replace p351 := eq_true p351
                replace q351 := eq_true q351
                go_wp2
                repeat (go_quiet (fail); try go_wp2)
                go_meet
                case rel => exact ⟨_, (decide (((rd_T60 l0_4 x3_2).f1) ≤ ((rd_T60 l0_4 (ji46)).f1))), (by first | rfl | (simp; done) | (simp only [← hji46] <;> (first | rfl | simp)) | (simp [*]; done)), H', ⟨by have := HJ1.out; have := HK2.out; first | omega | exact Nat.le_refl _⟩, ⟨by exact bf BK344.out⟩, ⟨by refine bk ?_; refine blk_put (cs := #[.int .i64 ((rd_T60 l0_4 x3_2).f0), .int .i64 0]) ?_ 1 _ rfl; refine bk ?_; refine blk_put (cs := #[.int .i64 0, .int .i64 0]) ?_ 0 _ rfl; refine bk ?_; exact BK350.out⟩, ⟨by exact pbE HB.out⟩⟩
               ·rw [if_neg c48] at H
                exact absurd H (by simp)
              ·rw [if_neg c47] at H
               exact absurd H (by simp)
             ·rw [if_neg c45] at H
              have c45b0 : decide (0 < x3_2) = false := decide_eq_false c45
              clear c45
              have H' := Az.mk H
              clear H
              have hnb52 := NB350_344.out
              have hnc52 := NB344_350.out
              have hcz53 := cells2 BK350.out
              have hcz54 := cells6 BK344.out
              go_wp2
              repeat (go_quiet (fail); try go_wp2)
              go_meet
              case rel => exact ⟨_, (false), (by first | rfl | (simp; done) | (simp [*]; done)), H', ⟨by have := HJ1.out; have := HK2.out; first | omega | exact Nat.le_refl _⟩, ⟨by exact bf BK344.out⟩, ⟨by refine bk ?_; refine blk_put (cs := #[.int .i64 ((rd_T60 l0_4 x3_2).f0), .int .i64 0]) ?_ 1 _ rfl; refine bk ?_; refine blk_put (cs := #[.int .i64 0, .int .i64 0]) ?_ 0 _ rfl; refine bk ?_; exact BK350.out⟩, ⟨by exact pbE HB.out⟩⟩
        case rest =>
         clear HC27
         try clear c1
         try clear c2
         try clear p2
         try clear c3
         try clear p3
         try clear q3
         try clear hx3
         try clear c4
         try clear c5
         try clear p6
         try clear c7
         try clear c9
         try clear c11
         try clear c12
         try clear c12b0
         try clear c12b1
         try clear c24
         try clear c25
         try clear c25b0
         try clear c26
         try clear c26b0
         try clear c30
         try clear c32
         try clear c32b0
         try clear c33
         try clear p34
         try clear q34
         try clear hx34
         try clear c35
         try clear c35b0
         try clear p35
         try clear q35
         try clear hx35
         try clear c36
         try clear c38
         try clear c38b0
         try clear c39
         try clear c41
         try clear c41b0
         try clear c42
         try clear c45
         try clear c45b0
         try clear c47
         try clear c47b0
         try clear c48
         try clear c48b0
         try clear c49
         try clear c52
         try clear hcz13
         try clear hcz15
         try clear hcz16
         try clear hcz18
         try clear hcz19
         try clear hcz21
         try clear hcz22
         try clear hcz23
         try clear hcz28
         try clear hcz31
         try clear hcz34
         try clear hcz37
         try clear hcz40
         try clear hcz43
         try clear hcz44
         try clear hcz50
         try clear hcz51
         try clear hcz53
         try clear hcz54
         try clear hx349_0
         try clear hx349_1
         try clear hx351_0
         try clear hx351_1
         try clear p2
         try clear p349
         try clear p351
         try clear q349
         try clear q351
         obtain ⟨kq, x87_26, rfl, HA, HJ26, BK344, BK350, HB⟩ := hcut
         cases kq with
         | zero => exact absurd HA.out (by simp [r06_Is.j2])
         | succ kj26 =>
          have H := HA.out
          clear HA
          simp only [r06_Is.j2] at H
          by_cases c55 : x87_26 = true
          ·subst c55
           rw [if_pos rfl] at H
           obtain rfl := Option.some.inj H
           go_wp2
           repeat (go_quiet (fail); try go_wp2)
           go_ret
           exact ⟨by first | rfl | (simp [errW_none, errW_some] <;> rfl) | (simp [*, errW_none, errW_some] <;> rfl), by exact pbE HB.out⟩
          ·replace c55 := Bool.eq_false_iff.mpr c55
           subst c55
           rw [if_neg (show ¬ (false = true) by decide)] at H
           have H' := Az.mk H
           clear H
           go_wp2
           repeat (go_quiet (fail); try go_wp2)
           go_loopg [5] kj26 (fun kq v5 w' => ∃ (x5_4 : Int), v5 = .int .i64 x5_4 ∧ Az (r06_Is.l1 kq x3_2 x5_4 a0_0 a0_1 a0_2 a0_3 l0_4 a0_5 ((rd_T60 l0_4 x3_2).f0) ((rd_T60 l0_4 x3_2).f1) = some r) ∧ Az (kq ≤ kj26) ∧ Az (w'.heap[gb344]? = some (.cells #[.int .i64 a0_0, .string a0_1, .string a0_2, .int .i64 a0_3, (.slice (some ad349) l0_4.length c0_4), .int .i64 a0_5] 26 (0, 0))) ∧ Az (w'.heap[gb350]? = some (.cells #[.int .i64 ((rd_T60 l0_4 x3_2).f0), .int .i64 ((rd_T60 l0_4 x3_2).f1)] 60 (0, 0))) ∧ Az (Below w.heap.size w w'))
           case atStart => exact ⟨(0), (by first | rfl | (simp; done) | (simp [*]; done)), H', ⟨Nat.le_refl _⟩, ⟨by refine bk ?_; exact BK344.out⟩, ⟨by refine bk ?_; exact BK350.out⟩, ⟨by exact pbE HB.out⟩⟩
           case round =>
            clear H'
            try clear c1
            try clear c2
            try clear p2
            try clear c3
            try clear p3
            try clear q3
            try clear hx3
            try clear c4
            try clear c5
            try clear p6
            try clear c7
            try clear c9
            try clear c11
            try clear c12
            try clear c12b0
            try clear c12b1
            try clear c24
            try clear c25
            try clear c25b0
            try clear c26
            try clear c26b0
            try clear c30
            try clear c32
            try clear c32b0
            try clear c33
            try clear p34
            try clear q34
            try clear hx34
            try clear c35
            try clear c35b0
            try clear p35
            try clear q35
            try clear hx35
            try clear c36
            try clear c38
            try clear c38b0
            try clear c39
            try clear c41
            try clear c41b0
            try clear c42
            try clear c45
            try clear c45b0
            try clear c47
            try clear c47b0
            try clear c48
            try clear c48b0
            try clear c49
            try clear c52
            try clear c55
            try clear hcz13
            try clear hcz15
            try clear hcz16
            try clear hcz18
            try clear hcz19
            try clear hcz21
            try clear hcz22
            try clear hcz23
            try clear hcz28
            try clear hcz31
            try clear hcz34
            try clear hcz37
            try clear hcz40
            try clear hcz43
            try clear hcz44
            try clear hcz50
            try clear hcz51
            try clear hcz53
            try clear hcz54
            try clear hx349_0
            try clear hx349_1
            try clear hx351_0
            try clear hx351_1
            try clear p2
            try clear p3
            try clear p34
            try clear p349
            try clear p35
            try clear p351
            try clear p6
            try clear q3
            try clear q34
            try clear q349
            try clear q35
            try clear q351
            obtain ⟨x5_4, rfl, HA, HK4, BK344, BK350, HB⟩ := hrel
            cases gk with
            | zero => exact absurd HA.out (by simp [r06_Is.l1])
            | succ k4 =>
             have H := HA.out
             clear HA
             simp only [r06_Is.l1] at H
             by_cases c56 : x5_4 < x3_2
             ·rw [if_pos c56] at H
              have c56b0 : decide (x5_4 < x3_2) = true := decide_eq_true c56
              clear c56
              by_cases c57 : 0 ≤ x5_4
              ·rw [if_pos c57] at H
               have c57b0 : decide (0 ≤ x5_4) = true := decide_eq_true c57
               clear c57
               by_cases c58 : x5_4 < (l0_4.length : Int)
               ·rw [if_pos c58] at H
                have c58b0 : decide (x5_4 < (l0_4.length : Int)) = true := decide_eq_true c58
                clear c58
                by_cases c59 : ((rd_T60 l0_4 x5_4).f0) = ((rd_T60 l0_4 x3_2).f0)
                ·rw [if_pos c59] at H
                 have c59b0 : (((rd_T60 l0_4 x5_4).f0) == ((rd_T60 l0_4 x3_2).f0)) = true := beq_iff_eq.mpr c59
                 have c59b1 : (((rd_T60 l0_4 x5_4).f0) != ((rd_T60 l0_4 x3_2).f0)) = false := bne_eq_false_iff_eq.mpr c59
                 clear c59
                 obtain rfl := Option.some.inj H
                 have hnb60 := NB344_350.out
                 have hnc60 := NB350_344.out
                 have hcz61 := cells6 BK344.out
                 have p352 : 0 ≤ (x5_4 : Int) := of_decide_eq_true (by first | (with_reducible assumption) | assumption)
                 have q352 : x5_4 < (l0_4.length : Int) := of_decide_eq_true (by first | (with_reducible assumption) | assumption)
                 obtain ⟨ad352, e352, hx352_0, hx352_1⟩ := at_T60 HR0_4.out x5_4 p352 q352
                 obtain rfl : ad349 = ad352 := (by injection e352)
                 replace hx352_0 := (HB.out.cell (World.block_lt_of_cell? w _ hx352_0)).trans hx352_0
                 replace hx352_1 := (HB.out.cell (World.block_lt_of_cell? w _ hx352_1)).trans hx352_1
                 replace p352 := eq_true p352
                 replace q352 := eq_true q352
                 have hcz62 := cells2 BK350.out
                 go_wp2
                 repeat (go_quiet (fail); try go_wp2)
                 go_ret
                 exact ⟨by first | rfl | (simp [errW_none, errW_some] <;> rfl) | (simp [*, errW_none, errW_some] <;> rfl), by exact pbE HB.out⟩
                ·rw [if_neg c59] at H
                 have c59b0 : (((rd_T60 l0_4 x5_4).f0) == ((rd_T60 l0_4 x3_2).f0)) = false := beq_eq_false_iff_ne.mpr c59
                 have c59b1 : (((rd_T60 l0_4 x5_4).f0) != ((rd_T60 l0_4 x3_2).f0)) = true := bne_iff_ne.mpr c59
                 have H' := Az.mk H
                 clear H
                 have hnb63 := NB344_350.out
                 have hnc63 := NB350_344.out
                 have hcz64 := cells6 BK344.out
                 have p352 : 0 ≤ (x5_4 : Int) := of_decide_eq_true (by first | (with_reducible assumption) | assumption)
                 have q352 : x5_4 < (l0_4.length : Int) := of_decide_eq_true (by first | (with_reducible assumption) | assumption)
                 obtain ⟨ad352, e352, hx352_0, hx352_1⟩ := at_T60 HR0_4.out x5_4 p352 q352
                 obtain rfl : ad349 = ad352 := (by injection e352)
                 replace hx352_0 := (HB.out.cell (World.block_lt_of_cell? w _ hx352_0)).trans hx352_0
                 replace hx352_1 := (HB.out.cell (World.block_lt_of_cell? w _ hx352_1)).trans hx352_1
                 replace p352 := eq_true p352
                 replace q352 := eq_true q352
                 have hcz65 := cells2 BK350.out
                 go_wp2
                 repeat (go_quiet (fail); try go_wp2)
                 go_roundg k4
                 case measure => have := HJ1.out; have := HK2.out; have := HJ26.out; have := HK4.out; omega
                 case rel => exact ⟨(wrap64 (x5_4 + 1)), (by first | rfl | (simp; done) | (simp [*]; done)), H', ⟨by have := HJ1.out; have := HK2.out; have := HJ26.out; have := HK4.out; omega⟩, ⟨by refine bk ?_; exact BK344.out⟩, ⟨by refine bk ?_; exact BK350.out⟩, ⟨by exact pbE HB.out⟩⟩
               ·rw [if_neg c58] at H
                exact absurd H (by simp)
              ·rw [if_neg c57] at H
               exact absurd H (by simp)
             ·rw [if_neg c56] at H
              have c56b0 : decide (x5_4 < x3_2) = false := decide_eq_false c56
              clear c56
              have H' := Az.mk H
              clear H
              go_wp2
              repeat (go_quiet (fail); try go_wp2)
              go_roundg k4
              case measure => have := HJ1.out; have := HK2.out; have := HJ26.out; have := HK4.out; omega
              case rel => exact ⟨(wrap64 (x3_2 + 1)), (by first | rfl | (simp; done) | (simp [*]; done)), H', ⟨by have := HJ1.out; have := HK2.out; have := HJ26.out; have := HK4.out; omega⟩, ⟨by refine bk ?_; exact BK344.out⟩, ⟨by exact pbE HB.out⟩⟩
       ·rw [if_neg c26] at H
        exact absurd H (by simp)
      ·rw [if_neg c25] at H
       have c25b0 : decide (x3_2 < (l0_4.length : Int)) = false := decide_eq_false c25
       clear c25
       obtain rfl := Option.some.inj H
       have hcz66 := cells6 BK344.out
       go_wp2
       repeat (go_quiet (fail); try go_wp2)
       go_ret
       exact ⟨by first | rfl | (simp [errW_none, errW_some] <;> rfl) | (simp [*, errW_none, errW_some] <;> rfl), by exact pbE HB.out⟩
def r06_right.f (k : Nat) (a0_0 : Int) (a0_1 : ByteArray) (a0_2 : ByteArray) (a0_3 : Int) (l0_4 : List (S60)) (a0_5 : Int) : Option (Int × ByteArray × ByteArray × Int × (List (S60)) × Int × Int) := (r06_Is.f k a0_0 a0_1 a0_2 a0_3 l0_4 a0_5).bind fun t370 => (if t370 = true then (some (a0_0, a0_1, a0_2, a0_3, l0_4, a0_5, 0)) else (some (0, (⟨#[]⟩ : ByteArray), (⟨#[]⟩ : ByteArray), 0, ([] : List (S60)), 0, 60)))
theorem r06_right.mono : ∀ a0 a1 a2 a3 a4 a5 k, LeO (r06_right.f k a0 a1 a2 a3 a4 a5) (r06_right.f (k + 1) a0 a1 a2 a3 a4 a5) := by
 intro a0 a1 a2 a3 a4 a5 k
 unfold r06_right.f
 repeat' first
  | (with_reducible exact r06_Is.mono _ _ _ _ _ _ _)
  | (with_reducible exact LeO.refl _)
  | (with_reducible exact LeO.none _)
  | (with_reducible refine LeO.ite ?_ ?_)
  | (with_reducible refine LeO.bind ?_ (fun _ => ?_))
  | exact r06_Is.mono _ _ _ _ _ _ _
  | exact LeO.none _
  | refine LeO.ite ?_ ?_
  | refine LeO.bind ?_ (fun _ => ?_)
set_option maxHeartbeats 8000000 in
set_option maxRecDepth 100000 in
theorem r06_right.calls (k : Nat) (a0_0 : Int) (a0_1 : ByteArray) (a0_2 : ByteArray) (a0_3 : Int) (P0_4_ : Nat → Prop) (A0_4 : Option Addr) (c0_4 : Nat) (l0_4 : List (S60)) (a0_5 : Int) (r1 : Int) (r2 : ByteArray) (r3 : ByteArray) (r4 : Int) (r5 : List (S60)) (r6 : Int) (r7 : Int) (w : World) (hG : TheG w) (hs0_4 : Kd.V k60 60 w w.heap.size (fun k_ => P0_4_ k_) (.slice A0_4 l0_4.length c0_4) l0_4) (h : r06_right.f k a0_0 a0_1 a0_2 a0_3 l0_4 a0_5 = some (r1, r2, r3, r4, r5, r6, r7)) :
 Calls Tryd.prog 39 #[.agg #[.int .i64 a0_0, .string a0_1, .string a0_2, .int .i64 a0_3, .slice A0_4 l0_4.length c0_4, .int .i64 a0_5]] w fun e w' => ∃ v4_ : Value, e = .returned (.tuple #[.agg #[.int .i64 r1, .string r2, .string r3, .int .i64 r4, v4_, .int .i64 r6], .int .i64 r7]) ∧ Kd.V k60 60 w' w.heap.size (fun k_ => (P0_4_ k_ ∨ w.heap.size ≤ k_)) v4_ r5 ∧ Below w.heap.size w w' := by
 have hu26 := Tryd.underlying26
 have HO0_4 := Az.mk (show Kd.V k60 60 w w.heap.size (fun k_ => (P0_4_ k_ ∨ w.heap.size ≤ k_)) (.slice A0_4 l0_4.length c0_4) l0_4 from Kd.V_mono hs0_4 (fun k_ hk => .inl hk))
 have HB := Az.mk (Below.refl w.heap.size w)
 have H : ((r06_Is.f k a0_0 a0_1 a0_2 a0_3 l0_4 a0_5).bind fun t370 => (if t370 = true then (some (a0_0, a0_1, a0_2, a0_3, l0_4, a0_5, 0)) else (some (0, (⟨#[]⟩ : ByteArray), (⟨#[]⟩ : ByteArray), 0, ([] : List (S60)), 0, 60)))) = some (r1, r2, r3, r4, r5, r6, r7) := h
 clear h
 replace H := Option.bind_eq_some_iff.mp H
 obtain ⟨t370, A20, H⟩ := H
 try dsimp only at H
 have A2 := Az.mk A20
 clear A20
 by_cases c3 : t370 = true
 ·subst c3
  rw [if_pos rfl] at H
  simp only [Option.some.injEq, Prod.mk.injEq] at H
  obtain ⟨rfl, rfl, rfl, rfl, rfl, rfl, rfl⟩ := H
  go_enter Tryd.func39, Tryd.ntmps39
  go_wp2_with (first | ((with_reducible refine gate_dst (N := 1) rfl ?_); refine box_event ?hg (N := 1) ?hd (cs := #[.int .i64 a0_0, .string a0_1, .string a0_2, .int .i64 a0_3, .slice A0_4 l0_4.length c0_4, .int .i64 a0_5]) (t := 26) ?hr ?_; (case hd => rfl); (case hg => rfl); (case hr => first | (go_simp; done) | (go_simp; rfl)); intro gb368 hg w4 hbox hb; replace HO0_4 := Az.mk (Kd.V_below (Kd.V_elderB (Kd.V_ext HO0_4.out) gb368 (Nat.le_of_eq hg.symm)) hb); have BK368 := Az.mk (hbox); have GW368 := Az.mk (geO hg (pbE HB.out)); have GE368 := Az.mk (geO hg (pbE HB.out)); replace HB := Az.mk (pbT (by exact pbE HB.out) hb); clear hb hbox hg) | ((with_reducible refine gate_dst (N := 2) rfl ?_); refine box_event ?hg (N := 2) ?hd (cs := #[.int .i64 0, .string (⟨#[]⟩ : ByteArray), .string (⟨#[]⟩ : ByteArray), .int .i64 0, .slice none 0 0, .int .i64 0]) (t := 26) ?hr ?_; (case hd => rfl); (case hg => rfl); (case hr => first | (go_simp; done) | (go_simp; rfl)); intro gb369 hg w5 hbox hb; replace HO0_4 := Az.mk (Kd.V_below (Kd.V_elderB (Kd.V_ext HO0_4.out) gb369 (Nat.le_of_eq hg.symm)) hb); have BK369 := Az.mk (hbox); have GW369 := Az.mk (geO hg (pbE HB.out)); have GE369 := Az.mk (geO hg (pbE HB.out)); replace HB := Az.mk (pbT (by exact pbE HB.out) hb); have NB368_369 := Az.mk (neO hg (bk BK368.out)); have NB369_368 := Az.mk (neP hg (bk BK368.out)); replace BK368 := Az.mk (bkB (bk BK368.out) hb); clear hb hbox hg; have hnb6 := NB368_369.out; have hnc6 := NB369_368.out; have hcz7 := cells6 BK368.out) | ((with_reducible refine gtc (f := 34) rfl ?_); refine goesL_ (some 5) rfl rfl Tryd.func34 (by kernel_rfl) rfl #[.agg #[.int .i64 a0_0, .string a0_1, .string a0_2, .int .i64 a0_3, .slice A0_4 l0_4.length c0_4, .int .i64 a0_5]] rfl (by (try simp only [List.map_toArray, List.map_cons, List.map_nil]); first | done | rfl | (simp only [List.length_drop, List.length_take]; rfl)) ?_; (with_reducible refine (r06_Is.calls k a0_0 a0_1 a0_2 a0_3 _ _ l0_4 a0_5 true _ ?side1 ?side2 ?side3 A2.out).mono ?_); (case side1 => exact hG.below (by exact pbE HB.out)); (case side2 => repeat (first | exact (Kd.V_reads' HO0_4.out).2.2 | (with_reducible refine Kd.C_alloc ?_ _) | (with_reducible refine Kd.C_drewN ?_ _) | (with_reducible refine Kd.C_drew ?_))); (case side3 => exact (Kd.V_reads' HO0_4.out).2.1); rintro e w8 ⟨rfl, hb⟩; refine ⟨_, rfl, ?_⟩; replace HO0_4 := Az.mk (Kd.V_below (Kd.V_ext HO0_4.out) hb); replace BK368 := Az.mk (bkB (bk BK368.out) hb); replace BK369 := Az.mk (bkB (bk BK369.out) hb); replace HB := Az.mk (pbT (by exact pbE HB.out) hb); (try clear hb); (try clear hb2); (try clear hk); (try clear hi); have hcz9 := cells6 BK368.out; have hcz10 := cells6 BK369.out))
  refine bodyPost_ret (results_ct rfl _ _ gb369 26 #[.int .i64 a0_0, .string a0_1, .string a0_2, .int .i64 a0_3, .slice A0_4 l0_4.length c0_4, .int .i64 a0_5] (0, 0) _ rfl (by refine bk ?_; refine blk_put (cs := #[.int .i64 a0_0, .string a0_1, .string a0_2, .int .i64 a0_3, .slice A0_4 l0_4.length c0_4, .int .i64 0]) ?_ 5 _ rfl; refine bk ?_; refine blk_put (cs := #[.int .i64 a0_0, .string a0_1, .string a0_2, .int .i64 a0_3, .slice none 0 0, .int .i64 0]) ?_ 4 _ rfl; refine bk ?_; refine blk_put (cs := #[.int .i64 a0_0, .string a0_1, .string a0_2, .int .i64 0, .slice none 0 0, .int .i64 0]) ?_ 3 _ rfl; refine bk ?_; refine blk_put (cs := #[.int .i64 a0_0, .string a0_1, .string (⟨#[]⟩ : ByteArray), .int .i64 0, .slice none 0 0, .int .i64 0]) ?_ 2 _ rfl; refine bk ?_; refine blk_put (cs := #[.int .i64 a0_0, .string (⟨#[]⟩ : ByteArray), .string (⟨#[]⟩ : ByteArray), .int .i64 0, .slice none 0 0, .int .i64 0]) ?_ 1 _ rfl; refine bk ?_; refine blk_put (cs := #[.int .i64 0, .string (⟨#[]⟩ : ByteArray), .string (⟨#[]⟩ : ByteArray), .int .i64 0, .slice none 0 0, .int .i64 0]) ?_ 0 _ rfl; refine bk ?_; exact BK369.out) Tryd.underlying26 rfl (by kernel_rfl)) rfl ?_
  exact ⟨_, by first | rfl | (simp [errW_none, errW_some] <;> rfl) | (simp [*, errW_none, errW_some] <;> rfl), by (with_reducible repeat (first | apply Kd.V_alloc | apply Kd.V_drewN | apply Kd.V_drew)); exact Kd.V_mono (Kd.V_off (g := gb369) (fun _ hk => hk.2) (Kd.V_mono HO0_4.out (fun k_ hk => (⟨hk, hk.2⟩ : _ ∧ k_ ≠ gb369)))) (fun _ hk => hk.1.1.1), by exact pbE HB.out⟩
 ·replace c3 := Bool.eq_false_iff.mpr c3
  subst c3
  rw [if_neg (show ¬ (false = true) by decide)] at H
  simp only [Option.some.injEq, Prod.mk.injEq] at H
  obtain ⟨rfl, rfl, rfl, rfl, rfl, rfl, rfl⟩ := H
  go_enter Tryd.func39, Tryd.ntmps39
  go_wp2_with (first | ((with_reducible refine gate_dst (N := 1) rfl ?_); refine box_event ?hg (N := 1) ?hd (cs := #[.int .i64 a0_0, .string a0_1, .string a0_2, .int .i64 a0_3, .slice A0_4 l0_4.length c0_4, .int .i64 a0_5]) (t := 26) ?hr ?_; (case hd => rfl); (case hg => rfl); (case hr => first | (go_simp; done) | (go_simp; rfl)); intro gb368 hg w11 hbox hb; replace HO0_4 := Az.mk (Kd.V_below (Kd.V_elderB (Kd.V_ext HO0_4.out) gb368 (Nat.le_of_eq hg.symm)) hb); have BK368 := Az.mk (hbox); have GW368 := Az.mk (geO hg (pbE HB.out)); have GE368 := Az.mk (geO hg (pbE HB.out)); replace HB := Az.mk (pbT (by exact pbE HB.out) hb); clear hb hbox hg) | ((with_reducible refine gate_dst (N := 2) rfl ?_); refine box_event ?hg (N := 2) ?hd (cs := #[.int .i64 0, .string (⟨#[]⟩ : ByteArray), .string (⟨#[]⟩ : ByteArray), .int .i64 0, .slice none 0 0, .int .i64 0]) (t := 26) ?hr ?_; (case hd => rfl); (case hg => rfl); (case hr => first | (go_simp; done) | (go_simp; rfl)); intro gb369 hg w12 hbox hb; replace HO0_4 := Az.mk (Kd.V_below (Kd.V_elderB (Kd.V_ext HO0_4.out) gb369 (Nat.le_of_eq hg.symm)) hb); have BK369 := Az.mk (hbox); have GW369 := Az.mk (geO hg (pbE HB.out)); have GE369 := Az.mk (geO hg (pbE HB.out)); replace HB := Az.mk (pbT (by exact pbE HB.out) hb); have NB368_369 := Az.mk (neO hg (bk BK368.out)); have NB369_368 := Az.mk (neP hg (bk BK368.out)); replace BK368 := Az.mk (bkB (bk BK368.out) hb); clear hb hbox hg; have hnb13 := NB368_369.out; have hnc13 := NB369_368.out; have hcz14 := cells6 BK368.out) | ((with_reducible refine gtc (f := 34) rfl ?_); refine goesL_ (some 5) rfl rfl Tryd.func34 (by kernel_rfl) rfl #[.agg #[.int .i64 a0_0, .string a0_1, .string a0_2, .int .i64 a0_3, .slice A0_4 l0_4.length c0_4, .int .i64 a0_5]] rfl (by (try simp only [List.map_toArray, List.map_cons, List.map_nil]); first | done | rfl | (simp only [List.length_drop, List.length_take]; rfl)) ?_; (with_reducible refine (r06_Is.calls k a0_0 a0_1 a0_2 a0_3 _ _ l0_4 a0_5 false _ ?side1 ?side2 ?side3 A2.out).mono ?_); (case side1 => exact hG.below (by exact pbE HB.out)); (case side2 => repeat (first | exact (Kd.V_reads' HO0_4.out).2.2 | (with_reducible refine Kd.C_alloc ?_ _) | (with_reducible refine Kd.C_drewN ?_ _) | (with_reducible refine Kd.C_drew ?_))); (case side3 => exact (Kd.V_reads' HO0_4.out).2.1); rintro e w15 ⟨rfl, hb⟩; refine ⟨_, rfl, ?_⟩; replace HO0_4 := Az.mk (Kd.V_below (Kd.V_ext HO0_4.out) hb); replace BK368 := Az.mk (bkB (bk BK368.out) hb); replace BK369 := Az.mk (bkB (bk BK369.out) hb); replace HB := Az.mk (pbT (by exact pbE HB.out) hb); (try clear hb); (try clear hb2); (try clear hk); (try clear hi); have hcz16 := cells6 BK369.out))
  refine bodyPost_ret (results_ct rfl _ _ gb369 26 #[.int .i64 0, .string (⟨#[]⟩ : ByteArray), .string (⟨#[]⟩ : ByteArray), .int .i64 0, .slice none 0 0, .int .i64 0] (0, 0) _ rfl (by refine bk ?_; refine blk_put (cs := #[.int .i64 0, .string (⟨#[]⟩ : ByteArray), .string (⟨#[]⟩ : ByteArray), .int .i64 0, .slice none 0 0, .int .i64 0]) ?_ 5 _ rfl; refine bk ?_; refine blk_put (cs := #[.int .i64 0, .string (⟨#[]⟩ : ByteArray), .string (⟨#[]⟩ : ByteArray), .int .i64 0, .slice none 0 0, .int .i64 0]) ?_ 4 _ rfl; refine bk ?_; refine blk_put (cs := #[.int .i64 0, .string (⟨#[]⟩ : ByteArray), .string (⟨#[]⟩ : ByteArray), .int .i64 0, .slice none 0 0, .int .i64 0]) ?_ 3 _ rfl; refine bk ?_; refine blk_put (cs := #[.int .i64 0, .string (⟨#[]⟩ : ByteArray), .string (⟨#[]⟩ : ByteArray), .int .i64 0, .slice none 0 0, .int .i64 0]) ?_ 2 _ rfl; refine bk ?_; refine blk_put (cs := #[.int .i64 0, .string (⟨#[]⟩ : ByteArray), .string (⟨#[]⟩ : ByteArray), .int .i64 0, .slice none 0 0, .int .i64 0]) ?_ 1 _ rfl; refine bk ?_; refine blk_put (cs := #[.int .i64 0, .string (⟨#[]⟩ : ByteArray), .string (⟨#[]⟩ : ByteArray), .int .i64 0, .slice none 0 0, .int .i64 0]) ?_ 0 _ rfl; refine bk ?_; exact BK369.out) Tryd.underlying26 rfl (by kernel_rfl)) rfl ?_
  exact ⟨_, by first | rfl | (simp [errW_none, errW_some] <;> rfl) | (simp [*, errW_none, errW_some] <;> rfl), Kd.V_nil _ _ _ _ _, by exact pbE HB.out⟩
end Go.Proofs.YtjfhcijjjadhbaaDoor.P
end
