import Derived.Test.YtppdcldbebnmlaaZRouteCache1
import Derived.Test.YtppdcldbebnmlaaZRouteCache2
import Derived.BigQuiet
import Derived.ChangeOld
import Derived.Deep.QuietTactic
import Derived.Deep.RegionHeld3
import Derived.IntWalk
import Derived.Lib.SlBytesConst
import Derived.OpenShut
import Derived.ProofKit
import Derived.ShutString
import Derived.SizedLaws
import Derived.WalkKit
import Derived.WalkSpells
import Derived.Test.YtppdcldbebnmlaaRows
set_option linter.unusedVariables false
set_option linter.unusedSimpArgs false
set_option linter.unnecessarySimpa false
section
namespace Go.Proofs.Ytppdcldbebnmlaa.P
open Go.RowKit Go.Shelf Go.Proofs.Ytppdcldbebnmlaa.K Go.Proofs.YtppdcldbebnmlaaW.PrintWords Go.Proofs.YtppdcldbebnmlaaW.PrintLast Go.Proofs.YtppdcldbebnmlaaW.PrintMore
/-- With bounds that may be the two ways to say that they meet are one. -/
theorem meetR_eq (a b c d : ByteArray) : meetR a b c d = meetB a b c d := by
 unfold meetR meetB
 cases h1 : boundOk a b
 ·rfl
 ·cases h2 : boundOk c d
  ·rfl
  ·simp only [Bool.true_and]
   unfold hasB
   have key : ∀ f t k : ByteArray, boundOk f t = true → lt k f = true → endsB t k = true := by
    intro f t k h hk
    unfold endsB
    unfold boundOk at h
    split at h
    ·rw [Bool.or_eq_true] at h ⊢
     rcases h with h | h
     ·exact .inl h
     ·exact .inr (less_trans _ _ _ hk h)
    ·cases h
   have key2 : ∀ f t k : ByteArray, boundOk f t = true → k = f → endsB t k = true := by
    rintro f t k h rfl
    unfold endsB
    unfold boundOk at h
    split at h
    ·exact h
    ·cases h
   cases h3 : lt c a
   ·cases h4 : lt a c
    ·have e : a = c := by
      rcases less_or _ _ h3 with h | h
      ·rw [show Op.bytesLess a.toList c.toList = lt a c from rfl, h4] at h; cases h
      ·exact toList_inj h
     rw [key2 a b c h1 e.symm, key2 c d a h2 e]; rfl
    ·rw [key c d a h2 h4]; simp
   ·have h4 : lt a c = false := by
     cases h : lt a c
     ·rfl
     ·have := less_trans _ _ _ h3 h
      rw [less_irrefl] at this; cases this
    rw [key a b c h1 h3, h4]; simp
/-- What the document's Learn makes of a list. -/
def RefLearnt (σ : RawD → List SM) (d : RawD) (l l' : List RawD) : Prop :=
 (l.any (later σ d) = true → l' = l) ∧ (l.any (later σ d) = false → ∃ k, k ≤ (delF (dropP d) l).length ∧ l' = (delF (dropP d) l).take k ++ [d] ++ (delF (dropP d) l).drop k ∧ (∀ x ∈ (delF (dropP d) l).take k, lt x.f1 d.f1 = true) ∧ ∀ h : k < (delF (dropP d) l).length, lt (delF (dropP d) l)[k].f1 d.f1 = false)
/-- The first loop's end: nothing later is known, and out holds what stays. -/
def Scan (σ : RawD → List SM) (d : RawD) (l0 : List RawD) (k : Nat) : Prop := ∀ x ∈ l0.take k, later σ d x = false
theorem Scan.step {σ : RawD → List SM} {d : RawD} {l0 : List RawD} {k : Nat} (h : Scan σ d l0 k) (hk : k < l0.length) (hx : later σ d l0[k] = false) : Scan σ d l0 (k + 1) := by
 intro x hm
 rw [List.take_succ_eq_append_getElem hk, List.mem_append, List.mem_singleton] at hm
 rcases hm with hm | rfl
 ·exact h x hm
 ·exact hx
set_option maxHeartbeats 16000000 in
set_option maxRecDepth 100000 in
theorem refLearn_calls (σ : RawD → List SM) (A0 : Option Addr) (c0_ : Nat) (l0 : List RawD) (d : RawD) (w : World) (hr0 : Kd.C kD w A0 l0.length l0) (hc0 : l0.length ≤ c0_) (hl : l0.length ≤ 1000000) (hm : ∀ x ∈ l0, Mem σ w x ∧ (σ x).length ≤ 1000000000) (hd : Mem σ w d) :
 Calls Try.prog 14 #[.slice A0 l0.length c0_, aggD d] w fun e w' => ∃ v l', e = .returned v ∧ Reads w' l' v ∧ RefLearnt σ d l0 l' ∧ Below w.heap.size w w' := by
 have HC := Lib.hid hr0
 have Hc0 := Lib.hid hc0
 have HMm := Lib.hid hm
 have HMd := Lib.hid hd
 clear hr0 hc0 hm hd
 have hu := Try.underlying27
 have hu2 := Try.underlying24
 obtain ⟨W0, hW0⟩ : ∃ W0, W0 = w.alloc (.cells (encD d).toArray 27) := ⟨_, rfl⟩
 have hb0 : Below w.heap.size w W0 := by rw [hW0]; exact pbA (Below.refl _ _) _
 have hs0 : W0.heap.size = w.heap.size + 1 := by rw [hW0]; simp
 have hX0 : W0.heap[w.heap.size]? = some (.cells (encD d).toArray 27 (0, 0)) := by rw [hW0]; exact heap_alloc_new _ _
 have HW0 := Lib.hid hW0
 have Hb0 := Lib.hid hb0
 have Hs0 := Lib.hid hs0
 have HX0 := Lib.hid hX0
 clear hW0 hb0 hs0 hX0
 unfold aggD
 go_enter Try.func14, Try.ntmps14
 go_wp2
 go_loopw [5, 6, 7, 8] (fun o i _ _ wr => ∃ k : Nat, k ≤ l0.length ∧ i = .int .i64 k ∧ Hid (Scan σ d l0 k) ∧ Hid (Kd.R kD 27 wr W0.heap.size (fun _ => True) o (delF (dropP d) (l0.take k))) ∧ Hid (Below W0.heap.size W0 wr)) (fun _ i _ _ _ => l0.length - (intOf i).toNat)
 case atStart => exact ⟨0, Nat.zero_le _, rfl, Lib.hid (fun x hx => by simp at hx), Lib.hid (Kd.R_nil _ _ _ _ _), Lib.hid (by rw [HW0.out]; exact Below.refl _ _)⟩
 case round =>
  obtain ⟨k, hk, rfl, HS, HO, HBt⟩ := hrel
  have HB := Lib.hid (pbT Hb0.out HBt.out)
  have HX : Hid (wr.heap[w.heap.size]? = some (.cells (encD d).toArray 27 (0, 0))) := Lib.hid (bkB HX0.out HBt.out)
  by_cases hlt : k < l0.length
  ·obtain ⟨ad, ea, hx0, hx1, hx2, hx3, hx4, hx5⟩ := at_D (Kd.C_below HC.out HB.out) k hlt
   subst ea
   have hmx := (HMm.out _ (List.getElem_mem hlt)).1
   have hmy := (HMm.out _ (List.getElem_mem hlt)).2
   have hdrop := delF_snoc (dropP d) hlt
   have hnxt := HS.out.step hlt
   have hmem : l0[k] ∈ l0 := List.getElem_mem hlt
   have c0 : wr.cell? ⟨w.heap.size, 0, none⟩ = some (.int .i64 d.f0) := (bkC HX.out 0).trans rfl
   have c1 : wr.cell? ⟨w.heap.size, 1, none⟩ = some (.string d.f1) := (bkC HX.out 1).trans rfl
   have c2 : wr.cell? ⟨w.heap.size, 2, none⟩ = some (.string d.f2) := (bkC HX.out 2).trans rfl
   have c3 : wr.cell? ⟨w.heap.size, 3, none⟩ = some (.int .i64 d.f3) := (bkC HX.out 3).trans rfl
   have hBW := blk_lt HX.out
   generalize l0[k] = x at hx0 hx1 hx2 hx3 hx4 hx5 hmx hmy hdrop hnxt hmem
   have hM : ∀ W', Hid (Calls Try.prog 20 #[.agg #[.string x.f1, .string x.f2], .agg #[.string d.f1, .string d.f2]] W' fun e w' => e = .returned (.bool (meetB x.f1 x.f2 d.f1 d.f2)) ∧ Below W'.heap.size W' w') := fun W' => Lib.hid (r02_Meet.calls _ _ _ _ _ W' ((refMeet_eq _ _ _ _).trans (congrArg some (meetR_eq _ _ _ _))))
   have hS : ∀ W', Below w.heap.size w W' → Hid (Calls Try.prog 17 #[.agg #[.int .i64 x.f0, .string x.f1, .string x.f2, .int .i64 x.f3, .slice x.a4 x.n4 x.c4, .int .i64 x.f5], .agg #[.int .i64 d.f0, .string d.f1, .string d.f2, .int .i64 d.f3, .slice d.a4 d.n4 d.c4, .int .i64 d.f5]] W' fun e w' => e = .returned (.bool (sameS (toS σ x) (toS σ d))) ∧ Below W'.heap.size W' w') := by
    intro W' hW
    obtain ⟨x1, x2⟩ := hmx.below hW
    obtain ⟨d1, d2⟩ := HMd.out.below hW
    have nx := Kd.C_len x1
    have nd := Kd.C_len d1
    have := r06_Same.calls ((σ x).length + 1) x.f0 x.f1 x.f2 x.f3 x.a4 x.c4 (σ x) x.f5 d.f0 d.f1 d.f2 d.f3 d.a4 d.c4 (σ d) d.f5 (sameS (toS σ x) (toS σ d)) W' (by rw [nx]; exact x1) (by omega) (by rw [nd]; exact d1) (by omega) (refSame_eq (x := toS σ x) (y := toS σ d) hmy (Nat.lt_succ_self _))
    rw [nx, nd] at this
    exact Lib.hid this
   have hany : later σ d x = true → l0.any (later σ d) = true := fun h => List.any_eq_true.2 ⟨x, hmem, h⟩
   have hll : (delF (dropP d) (l0.take k)).length ≤ l0.length := Nat.le_trans (List.length_filter_le _ _) (by rw [List.length_take]; omega)
   have HL : Hid ((delF (dropP d) (l0.take k)).length ≤ 1000000) := Lib.hid (by omega)
   have Hdrop := Lib.hid hdrop
   have Hnxt := Lib.hid hnxt
   have Hany := Lib.hid hany
   have hlat : later σ d x = ((x.f0 == d.f0 && decide (d.f3 < x.f3)) || (meetB x.f1 x.f2 d.f1 d.f2 && (decide (d.f3 < x.f3) || (x.f3 == d.f3 && !sameS (toS σ x) (toS σ d))))) := rfl
   have hdrp : dropP d x = (x.f0 == d.f0 || meetB x.f1 x.f2 d.f1 d.f2) := rfl
   have Hlat := Lib.hid hlat
   have Hdrp := Lib.hid hdrp
   clear hmx hmy hdrop hnxt hmem hany hll hlat hdrp
   generalize meetB x.f1 x.f2 d.f1 d.f2 = r at hM Hlat Hdrp
   generalize sameS (toS σ x) (toS σ d) = r2 at hS Hlat
   generalize hLk : delF (dropP d) (l0.take k) = L at HO HL Hdrop
   clear hLk
   cases r
   ·cases ha : (x.f0 == d.f0) <;> cases hg : decide (d.f3 < x.f3)
    all_goals
     rw [ha, hg] at Hlat
     rw [ha] at Hdrp
     go_wp2_with (first | (go_at_call 20; refine (hM _).out.mono ?_; rintro e w1 ⟨rfl, hb1⟩; have BX := bkB (heap_alloc_new wr _) hb1; have BD := bkB (bkA HX.out _) hb1; have HBX := Lib.hid BX; have HBD := Lib.hid BD; have x0 : w1.cell? ⟨wr.heap.size, 0, none⟩ = some (.int .i64 x.f0) := (bkC BX 0).trans rfl; have x1 : w1.cell? ⟨wr.heap.size, 1, none⟩ = some (.string x.f1) := (bkC BX 1).trans rfl; have x2 : w1.cell? ⟨wr.heap.size, 2, none⟩ = some (.string x.f2) := (bkC BX 2).trans rfl; have x3 : w1.cell? ⟨wr.heap.size, 3, none⟩ = some (.int .i64 x.f3) := (bkC BX 3).trans rfl; have x4 : w1.cell? ⟨wr.heap.size, 4, none⟩ = some (.slice x.a4 x.n4 x.c4) := (bkC BX 4).trans rfl; have x5 : w1.cell? ⟨wr.heap.size, 5, none⟩ = some (.int .i64 x.f5) := (bkC BX 5).trans rfl; have d0 : w1.cell? ⟨w.heap.size, 0, none⟩ = some (.int .i64 d.f0) := (bkC BD 0).trans rfl; have d1 : w1.cell? ⟨w.heap.size, 1, none⟩ = some (.string d.f1) := (bkC BD 1).trans rfl; have d2 : w1.cell? ⟨w.heap.size, 2, none⟩ = some (.string d.f2) := (bkC BD 2).trans rfl; have d3 : w1.cell? ⟨w.heap.size, 3, none⟩ = some (.int .i64 d.f3) := (bkC BD 3).trans rfl; have d4 : w1.cell? ⟨w.heap.size, 4, none⟩ = some (.slice d.a4 d.n4 d.c4) := (bkC BD 4).trans rfl; have d5 : w1.cell? ⟨w.heap.size, 5, none⟩ = some (.int .i64 d.f5) := (bkC BD 5).trans rfl; have HBf := Lib.hid (pbT (pbA HB.out _) hb1); have HBu := Lib.hid (pbT (pbA HBt.out _) hb1); have HOf := Lib.hid (Kd.R_below (Kd.R_alloc HO.out _) hb1); clear hb1 BX BD) | (go_at_call 17; refine (hS _ HBf.out).out.mono ?_; rintro e w2 ⟨rfl, hb2⟩; have BX := bkB HBX.out hb2; have BD := bkB HBD.out hb2; have x0 : w2.cell? ⟨wr.heap.size, 0, none⟩ = some (.int .i64 x.f0) := (bkC BX 0).trans rfl; have x1 : w2.cell? ⟨wr.heap.size, 1, none⟩ = some (.string x.f1) := (bkC BX 1).trans rfl; have x2 : w2.cell? ⟨wr.heap.size, 2, none⟩ = some (.string x.f2) := (bkC BX 2).trans rfl; have x3 : w2.cell? ⟨wr.heap.size, 3, none⟩ = some (.int .i64 x.f3) := (bkC BX 3).trans rfl; have x4 : w2.cell? ⟨wr.heap.size, 4, none⟩ = some (.slice x.a4 x.n4 x.c4) := (bkC BX 4).trans rfl; have x5 : w2.cell? ⟨wr.heap.size, 5, none⟩ = some (.int .i64 x.f5) := (bkC BX 5).trans rfl; have d0 : w2.cell? ⟨w.heap.size, 0, none⟩ = some (.int .i64 d.f0) := (bkC BD 0).trans rfl; have d1 : w2.cell? ⟨w.heap.size, 1, none⟩ = some (.string d.f1) := (bkC BD 1).trans rfl; have d2 : w2.cell? ⟨w.heap.size, 2, none⟩ = some (.string d.f2) := (bkC BD 2).trans rfl; have d3 : w2.cell? ⟨w.heap.size, 3, none⟩ = some (.int .i64 d.f3) := (bkC BD 3).trans rfl; have d4 : w2.cell? ⟨w.heap.size, 4, none⟩ = some (.slice d.a4 d.n4 d.c4) := (bkC BD 4).trans rfl; have d5 : w2.cell? ⟨w.heap.size, 5, none⟩ = some (.int .i64 d.f5) := (bkC BD 5).trans rfl; have HBf := Lib.hid (pbT HBf.out hb2); have HBu := Lib.hid (pbT HBu.out hb2); have HOf := Lib.hid (Kd.R_below HOf.out hb2); clear hb2 BX BD) | ((with_reducible refine gate_builtin (b := .append) (xs := #[.tmp 70, .tmp 72]) rfl ?_); at_builtin; refine Kd.R_append kD (w0 := W0) W0.heap.size rfl (.tmp 70) (.tmp 72) 22 27 (.agg #[.int .i64 0, .string ⟨#[]⟩, .string ⟨#[]⟩, .int .i64 0, .slice none 0 0, .int .i64 0]) 80 rfl Try.underlying22 infoD rfl (by decide) (by omega) u5 L x (encD x) (fun _ => True) (fun _ => False) rfl rfl rfl (fun _ h => h.elim) (fun _ _ => trivial) HOf.out HBu.out HBu.out.size ?aL ?_; (case aL => have := HL.out; omega); intro v4 w4 hR4 hb4 _ _; have HOf := Lib.hid hR4; have HBu := Lib.hid hb4; clear hR4 hb4) | go_in)
     first | (go_ret; exact ⟨_, l0, rfl, ⟨some ad, c0_, rfl, Hc0.out, Kd.C_below HC.out HBf.out⟩, ⟨fun _ => rfl, (fun h => by rw [Hany.out (by rw [Hlat.out]; rfl)] at h; cases h)⟩, HBf.out⟩) | (go_roundw; (case rel => exact ⟨k + 1, by omega, by go_num, Lib.hid (Hnxt.out (by rw [Hlat.out]; rfl)), Lib.hid (by rw [Hdrop.out, Hdrp.out]; simpa using HOf.out), HBu⟩); (case measure => simp [intOf]; omega))
   ·cases hg : decide (d.f3 < x.f3)
    ·cases he : (x.f3 == d.f3)
     ·cases ha : (x.f0 == d.f0)
      all_goals
       rw [ha, hg, he] at Hlat
       rw [ha] at Hdrp
       go_wp2_with (first | (go_at_call 20; refine (hM _).out.mono ?_; rintro e w1 ⟨rfl, hb1⟩; have BX := bkB (heap_alloc_new wr _) hb1; have BD := bkB (bkA HX.out _) hb1; have HBX := Lib.hid BX; have HBD := Lib.hid BD; have x0 : w1.cell? ⟨wr.heap.size, 0, none⟩ = some (.int .i64 x.f0) := (bkC BX 0).trans rfl; have x1 : w1.cell? ⟨wr.heap.size, 1, none⟩ = some (.string x.f1) := (bkC BX 1).trans rfl; have x2 : w1.cell? ⟨wr.heap.size, 2, none⟩ = some (.string x.f2) := (bkC BX 2).trans rfl; have x3 : w1.cell? ⟨wr.heap.size, 3, none⟩ = some (.int .i64 x.f3) := (bkC BX 3).trans rfl; have x4 : w1.cell? ⟨wr.heap.size, 4, none⟩ = some (.slice x.a4 x.n4 x.c4) := (bkC BX 4).trans rfl; have x5 : w1.cell? ⟨wr.heap.size, 5, none⟩ = some (.int .i64 x.f5) := (bkC BX 5).trans rfl; have d0 : w1.cell? ⟨w.heap.size, 0, none⟩ = some (.int .i64 d.f0) := (bkC BD 0).trans rfl; have d1 : w1.cell? ⟨w.heap.size, 1, none⟩ = some (.string d.f1) := (bkC BD 1).trans rfl; have d2 : w1.cell? ⟨w.heap.size, 2, none⟩ = some (.string d.f2) := (bkC BD 2).trans rfl; have d3 : w1.cell? ⟨w.heap.size, 3, none⟩ = some (.int .i64 d.f3) := (bkC BD 3).trans rfl; have d4 : w1.cell? ⟨w.heap.size, 4, none⟩ = some (.slice d.a4 d.n4 d.c4) := (bkC BD 4).trans rfl; have d5 : w1.cell? ⟨w.heap.size, 5, none⟩ = some (.int .i64 d.f5) := (bkC BD 5).trans rfl; have HBf := Lib.hid (pbT (pbA HB.out _) hb1); have HBu := Lib.hid (pbT (pbA HBt.out _) hb1); have HOf := Lib.hid (Kd.R_below (Kd.R_alloc HO.out _) hb1); clear hb1 BX BD) | (go_at_call 17; refine (hS _ HBf.out).out.mono ?_; rintro e w2 ⟨rfl, hb2⟩; have BX := bkB HBX.out hb2; have BD := bkB HBD.out hb2; have x0 : w2.cell? ⟨wr.heap.size, 0, none⟩ = some (.int .i64 x.f0) := (bkC BX 0).trans rfl; have x1 : w2.cell? ⟨wr.heap.size, 1, none⟩ = some (.string x.f1) := (bkC BX 1).trans rfl; have x2 : w2.cell? ⟨wr.heap.size, 2, none⟩ = some (.string x.f2) := (bkC BX 2).trans rfl; have x3 : w2.cell? ⟨wr.heap.size, 3, none⟩ = some (.int .i64 x.f3) := (bkC BX 3).trans rfl; have x4 : w2.cell? ⟨wr.heap.size, 4, none⟩ = some (.slice x.a4 x.n4 x.c4) := (bkC BX 4).trans rfl; have x5 : w2.cell? ⟨wr.heap.size, 5, none⟩ = some (.int .i64 x.f5) := (bkC BX 5).trans rfl; have d0 : w2.cell? ⟨w.heap.size, 0, none⟩ = some (.int .i64 d.f0) := (bkC BD 0).trans rfl; have d1 : w2.cell? ⟨w.heap.size, 1, none⟩ = some (.string d.f1) := (bkC BD 1).trans rfl; have d2 : w2.cell? ⟨w.heap.size, 2, none⟩ = some (.string d.f2) := (bkC BD 2).trans rfl; have d3 : w2.cell? ⟨w.heap.size, 3, none⟩ = some (.int .i64 d.f3) := (bkC BD 3).trans rfl; have d4 : w2.cell? ⟨w.heap.size, 4, none⟩ = some (.slice d.a4 d.n4 d.c4) := (bkC BD 4).trans rfl; have d5 : w2.cell? ⟨w.heap.size, 5, none⟩ = some (.int .i64 d.f5) := (bkC BD 5).trans rfl; have HBf := Lib.hid (pbT HBf.out hb2); have HBu := Lib.hid (pbT HBu.out hb2); have HOf := Lib.hid (Kd.R_below HOf.out hb2); clear hb2 BX BD) | ((with_reducible refine gate_builtin (b := .append) (xs := #[.tmp 70, .tmp 72]) rfl ?_); at_builtin; refine Kd.R_append kD (w0 := W0) W0.heap.size rfl (.tmp 70) (.tmp 72) 22 27 (.agg #[.int .i64 0, .string ⟨#[]⟩, .string ⟨#[]⟩, .int .i64 0, .slice none 0 0, .int .i64 0]) 80 rfl Try.underlying22 infoD rfl (by decide) (by omega) u5 L x (encD x) (fun _ => True) (fun _ => False) rfl rfl rfl (fun _ h => h.elim) (fun _ _ => trivial) HOf.out HBu.out HBu.out.size ?aL ?_; (case aL => have := HL.out; omega); intro v4 w4 hR4 hb4 _ _; have HOf := Lib.hid hR4; have HBu := Lib.hid hb4; clear hR4 hb4) | go_in)
       first | (go_ret; exact ⟨_, l0, rfl, ⟨some ad, c0_, rfl, Hc0.out, Kd.C_below HC.out HBf.out⟩, ⟨fun _ => rfl, (fun h => by rw [Hany.out (by rw [Hlat.out]; rfl)] at h; cases h)⟩, HBf.out⟩) | (go_roundw; (case rel => exact ⟨k + 1, by omega, by go_num, Lib.hid (Hnxt.out (by rw [Hlat.out]; rfl)), Lib.hid (by rw [Hdrop.out, Hdrp.out]; simpa using HOf.out), HBu⟩); (case measure => simp [intOf]; omega))
     ·cases r2 <;> cases ha : (x.f0 == d.f0)
      all_goals
       rw [ha, hg, he] at Hlat
       rw [ha] at Hdrp
       go_wp2_with (first | (go_at_call 20; refine (hM _).out.mono ?_; rintro e w1 ⟨rfl, hb1⟩; have BX := bkB (heap_alloc_new wr _) hb1; have BD := bkB (bkA HX.out _) hb1; have HBX := Lib.hid BX; have HBD := Lib.hid BD; have x0 : w1.cell? ⟨wr.heap.size, 0, none⟩ = some (.int .i64 x.f0) := (bkC BX 0).trans rfl; have x1 : w1.cell? ⟨wr.heap.size, 1, none⟩ = some (.string x.f1) := (bkC BX 1).trans rfl; have x2 : w1.cell? ⟨wr.heap.size, 2, none⟩ = some (.string x.f2) := (bkC BX 2).trans rfl; have x3 : w1.cell? ⟨wr.heap.size, 3, none⟩ = some (.int .i64 x.f3) := (bkC BX 3).trans rfl; have x4 : w1.cell? ⟨wr.heap.size, 4, none⟩ = some (.slice x.a4 x.n4 x.c4) := (bkC BX 4).trans rfl; have x5 : w1.cell? ⟨wr.heap.size, 5, none⟩ = some (.int .i64 x.f5) := (bkC BX 5).trans rfl; have d0 : w1.cell? ⟨w.heap.size, 0, none⟩ = some (.int .i64 d.f0) := (bkC BD 0).trans rfl; have d1 : w1.cell? ⟨w.heap.size, 1, none⟩ = some (.string d.f1) := (bkC BD 1).trans rfl; have d2 : w1.cell? ⟨w.heap.size, 2, none⟩ = some (.string d.f2) := (bkC BD 2).trans rfl; have d3 : w1.cell? ⟨w.heap.size, 3, none⟩ = some (.int .i64 d.f3) := (bkC BD 3).trans rfl; have d4 : w1.cell? ⟨w.heap.size, 4, none⟩ = some (.slice d.a4 d.n4 d.c4) := (bkC BD 4).trans rfl; have d5 : w1.cell? ⟨w.heap.size, 5, none⟩ = some (.int .i64 d.f5) := (bkC BD 5).trans rfl; have HBf := Lib.hid (pbT (pbA HB.out _) hb1); have HBu := Lib.hid (pbT (pbA HBt.out _) hb1); have HOf := Lib.hid (Kd.R_below (Kd.R_alloc HO.out _) hb1); clear hb1 BX BD) | (go_at_call 17; refine (hS _ HBf.out).out.mono ?_; rintro e w2 ⟨rfl, hb2⟩; have BX := bkB HBX.out hb2; have BD := bkB HBD.out hb2; have x0 : w2.cell? ⟨wr.heap.size, 0, none⟩ = some (.int .i64 x.f0) := (bkC BX 0).trans rfl; have x1 : w2.cell? ⟨wr.heap.size, 1, none⟩ = some (.string x.f1) := (bkC BX 1).trans rfl; have x2 : w2.cell? ⟨wr.heap.size, 2, none⟩ = some (.string x.f2) := (bkC BX 2).trans rfl; have x3 : w2.cell? ⟨wr.heap.size, 3, none⟩ = some (.int .i64 x.f3) := (bkC BX 3).trans rfl; have x4 : w2.cell? ⟨wr.heap.size, 4, none⟩ = some (.slice x.a4 x.n4 x.c4) := (bkC BX 4).trans rfl; have x5 : w2.cell? ⟨wr.heap.size, 5, none⟩ = some (.int .i64 x.f5) := (bkC BX 5).trans rfl; have d0 : w2.cell? ⟨w.heap.size, 0, none⟩ = some (.int .i64 d.f0) := (bkC BD 0).trans rfl; have d1 : w2.cell? ⟨w.heap.size, 1, none⟩ = some (.string d.f1) := (bkC BD 1).trans rfl; have d2 : w2.cell? ⟨w.heap.size, 2, none⟩ = some (.string d.f2) := (bkC BD 2).trans rfl; have d3 : w2.cell? ⟨w.heap.size, 3, none⟩ = some (.int .i64 d.f3) := (bkC BD 3).trans rfl; have d4 : w2.cell? ⟨w.heap.size, 4, none⟩ = some (.slice d.a4 d.n4 d.c4) := (bkC BD 4).trans rfl; have d5 : w2.cell? ⟨w.heap.size, 5, none⟩ = some (.int .i64 d.f5) := (bkC BD 5).trans rfl; have HBf := Lib.hid (pbT HBf.out hb2); have HBu := Lib.hid (pbT HBu.out hb2); have HOf := Lib.hid (Kd.R_below HOf.out hb2); clear hb2 BX BD) | ((with_reducible refine gate_builtin (b := .append) (xs := #[.tmp 70, .tmp 72]) rfl ?_); at_builtin; refine Kd.R_append kD (w0 := W0) W0.heap.size rfl (.tmp 70) (.tmp 72) 22 27 (.agg #[.int .i64 0, .string ⟨#[]⟩, .string ⟨#[]⟩, .int .i64 0, .slice none 0 0, .int .i64 0]) 80 rfl Try.underlying22 infoD rfl (by decide) (by omega) u5 L x (encD x) (fun _ => True) (fun _ => False) rfl rfl rfl (fun _ h => h.elim) (fun _ _ => trivial) HOf.out HBu.out HBu.out.size ?aL ?_; (case aL => have := HL.out; omega); intro v4 w4 hR4 hb4 _ _; have HOf := Lib.hid hR4; have HBu := Lib.hid hb4; clear hR4 hb4) | go_in)
       first | (go_ret; exact ⟨_, l0, rfl, ⟨some ad, c0_, rfl, Hc0.out, Kd.C_below HC.out HBf.out⟩, ⟨fun _ => rfl, (fun h => by rw [Hany.out (by rw [Hlat.out]; rfl)] at h; cases h)⟩, HBf.out⟩) | (go_roundw; (case rel => exact ⟨k + 1, by omega, by go_num, Lib.hid (Hnxt.out (by rw [Hlat.out]; rfl)), Lib.hid (by rw [Hdrop.out, Hdrp.out]; simpa using HOf.out), HBu⟩); (case measure => simp [intOf]; omega))
    ·cases ha : (x.f0 == d.f0)
     all_goals
      rw [ha, hg] at Hlat
      rw [ha] at Hdrp
      go_wp2_with (first | (go_at_call 20; refine (hM _).out.mono ?_; rintro e w1 ⟨rfl, hb1⟩; have BX := bkB (heap_alloc_new wr _) hb1; have BD := bkB (bkA HX.out _) hb1; have HBX := Lib.hid BX; have HBD := Lib.hid BD; have x0 : w1.cell? ⟨wr.heap.size, 0, none⟩ = some (.int .i64 x.f0) := (bkC BX 0).trans rfl; have x1 : w1.cell? ⟨wr.heap.size, 1, none⟩ = some (.string x.f1) := (bkC BX 1).trans rfl; have x2 : w1.cell? ⟨wr.heap.size, 2, none⟩ = some (.string x.f2) := (bkC BX 2).trans rfl; have x3 : w1.cell? ⟨wr.heap.size, 3, none⟩ = some (.int .i64 x.f3) := (bkC BX 3).trans rfl; have x4 : w1.cell? ⟨wr.heap.size, 4, none⟩ = some (.slice x.a4 x.n4 x.c4) := (bkC BX 4).trans rfl; have x5 : w1.cell? ⟨wr.heap.size, 5, none⟩ = some (.int .i64 x.f5) := (bkC BX 5).trans rfl; have d0 : w1.cell? ⟨w.heap.size, 0, none⟩ = some (.int .i64 d.f0) := (bkC BD 0).trans rfl; have d1 : w1.cell? ⟨w.heap.size, 1, none⟩ = some (.string d.f1) := (bkC BD 1).trans rfl; have d2 : w1.cell? ⟨w.heap.size, 2, none⟩ = some (.string d.f2) := (bkC BD 2).trans rfl; have d3 : w1.cell? ⟨w.heap.size, 3, none⟩ = some (.int .i64 d.f3) := (bkC BD 3).trans rfl; have d4 : w1.cell? ⟨w.heap.size, 4, none⟩ = some (.slice d.a4 d.n4 d.c4) := (bkC BD 4).trans rfl; have d5 : w1.cell? ⟨w.heap.size, 5, none⟩ = some (.int .i64 d.f5) := (bkC BD 5).trans rfl; have HBf := Lib.hid (pbT (pbA HB.out _) hb1); have HBu := Lib.hid (pbT (pbA HBt.out _) hb1); have HOf := Lib.hid (Kd.R_below (Kd.R_alloc HO.out _) hb1); clear hb1 BX BD) | (go_at_call 17; refine (hS _ HBf.out).out.mono ?_; rintro e w2 ⟨rfl, hb2⟩; have BX := bkB HBX.out hb2; have BD := bkB HBD.out hb2; have x0 : w2.cell? ⟨wr.heap.size, 0, none⟩ = some (.int .i64 x.f0) := (bkC BX 0).trans rfl; have x1 : w2.cell? ⟨wr.heap.size, 1, none⟩ = some (.string x.f1) := (bkC BX 1).trans rfl; have x2 : w2.cell? ⟨wr.heap.size, 2, none⟩ = some (.string x.f2) := (bkC BX 2).trans rfl; have x3 : w2.cell? ⟨wr.heap.size, 3, none⟩ = some (.int .i64 x.f3) := (bkC BX 3).trans rfl; have x4 : w2.cell? ⟨wr.heap.size, 4, none⟩ = some (.slice x.a4 x.n4 x.c4) := (bkC BX 4).trans rfl; have x5 : w2.cell? ⟨wr.heap.size, 5, none⟩ = some (.int .i64 x.f5) := (bkC BX 5).trans rfl; have d0 : w2.cell? ⟨w.heap.size, 0, none⟩ = some (.int .i64 d.f0) := (bkC BD 0).trans rfl; have d1 : w2.cell? ⟨w.heap.size, 1, none⟩ = some (.string d.f1) := (bkC BD 1).trans rfl; have d2 : w2.cell? ⟨w.heap.size, 2, none⟩ = some (.string d.f2) := (bkC BD 2).trans rfl; have d3 : w2.cell? ⟨w.heap.size, 3, none⟩ = some (.int .i64 d.f3) := (bkC BD 3).trans rfl; have d4 : w2.cell? ⟨w.heap.size, 4, none⟩ = some (.slice d.a4 d.n4 d.c4) := (bkC BD 4).trans rfl; have d5 : w2.cell? ⟨w.heap.size, 5, none⟩ = some (.int .i64 d.f5) := (bkC BD 5).trans rfl; have HBf := Lib.hid (pbT HBf.out hb2); have HBu := Lib.hid (pbT HBu.out hb2); have HOf := Lib.hid (Kd.R_below HOf.out hb2); clear hb2 BX BD) | ((with_reducible refine gate_builtin (b := .append) (xs := #[.tmp 70, .tmp 72]) rfl ?_); at_builtin; refine Kd.R_append kD (w0 := W0) W0.heap.size rfl (.tmp 70) (.tmp 72) 22 27 (.agg #[.int .i64 0, .string ⟨#[]⟩, .string ⟨#[]⟩, .int .i64 0, .slice none 0 0, .int .i64 0]) 80 rfl Try.underlying22 infoD rfl (by decide) (by omega) u5 L x (encD x) (fun _ => True) (fun _ => False) rfl rfl rfl (fun _ h => h.elim) (fun _ _ => trivial) HOf.out HBu.out HBu.out.size ?aL ?_; (case aL => have := HL.out; omega); intro v4 w4 hR4 hb4 _ _; have HOf := Lib.hid hR4; have HBu := Lib.hid hb4; clear hR4 hb4) | go_in)
      first | (go_ret; exact ⟨_, l0, rfl, ⟨some ad, c0_, rfl, Hc0.out, Kd.C_below HC.out HBf.out⟩, ⟨fun _ => rfl, (fun h => by rw [Hany.out (by rw [Hlat.out]; rfl)] at h; cases h)⟩, HBf.out⟩) | (go_roundw; (case rel => exact ⟨k + 1, by omega, by go_num, Lib.hid (Hnxt.out (by rw [Hlat.out]; rfl)), Lib.hid (by rw [Hdrop.out, Hdrp.out]; simpa using HOf.out), HBu⟩); (case measure => simp [intOf]; omega))
  ·obtain rfl : k = l0.length := by omega
   obtain ⟨wo, rfl⟩ : ∃ wo : World, wo = wr := ⟨_, rfl⟩
   have HO2 := HO.out
   rw [List.take_length] at HO2
   have hnone : l0.any (later σ d) = false := List.any_eq_false.2 (fun x hx => by rw [HS.out x (by rw [List.take_length]; exact hx)]; simp)
   have hll : (delF (dropP d) l0).length ≤ l0.length := List.length_filter_le _ _
   have Hfin : Hid (∀ (k2 : Nat) (l' : List RawD), k2 ≤ (delF (dropP d) l0).length → l' = (delF (dropP d) l0).take k2 ++ [d] ++ (delF (dropP d) l0).drop k2 → (∀ x ∈ (delF (dropP d) l0).take k2, lt x.f1 d.f1 = true) → (∀ h : k2 < (delF (dropP d) l0).length, lt (delF (dropP d) l0)[k2].f1 d.f1 = false) → RefLearnt σ d l0 l') := Lib.hid (fun k2 l' h1 h2 h3 h4 => ⟨(fun h => by rw [hnone] at h; cases h), fun _ => ⟨k2, h1, h2, h3, h4⟩⟩)
   clear hnone HS HO
   generalize delF (dropP d) l0 = L at HO2 hll Hfin
   obtain ⟨A, c, rfl⟩ := Kd.R_slice HO2
   have HO := Lib.hid HO2
   have HLc := Lib.hid (Kd.R_reads' HO2).2.1
   have hLL : Hid (L.length ≤ 1000000) := Lib.hid (by omega)
   clear HO2 hll
   have hlen : (L.length : Int) ≤ 1000000 := by have := hLL.out; omega
   go_wp2
   go_loopw [9] (fun s9 wr => ∃ k2 : Nat, s9 = .int .i64 k2 ∧ k2 ≤ L.length ∧ Hid (∀ x ∈ L.take k2, lt x.f1 d.f1 = true) ∧ Hid (Kd.R kD 27 wr W0.heap.size (fun _ => True) (.slice A L.length c) L) ∧ Hid (Below W0.heap.size W0 wr)) (fun s9 _ => L.length - (intOf s9).toNat)
   case atStart => exact ⟨0, rfl, Nat.zero_le _, Lib.hid (fun x hx => by simp at hx), HO, HBt⟩
   case round =>
    clear HO HBt HB HX
    obtain ⟨k2, rfl, hk2, HT, HO, HBt⟩ := hrel
    have HB := Lib.hid (pbT Hb0.out HBt.out)
    have HX : Hid (wr.heap[w.heap.size]? = some (.cells (encD d).toArray 27 (0, 0))) := Lib.hid (bkB HX0.out HBt.out)
    have c1 : wr.cell? ⟨w.heap.size, 1, none⟩ = some (.string d.f1) := (bkC HX.out 1).trans rfl
    have hBW := blk_lt HX.out
    by_cases hlt2 : k2 < L.length
    ·obtain ⟨ad, ea, _, hy1, _⟩ := at_D (Kd.R_reads' HO.out).2.2 k2 hlt2
     have hk0 : (0 : Int) ≤ (k2 : Int) := by omega
     have hk1 : (k2 : Int) < (L.length : Int) := by omega
     subst ea
     have hget : ∀ h : k2 < L.length, L[k2] = L[k2] := fun _ => rfl
     have HT2 : lt L[k2].f1 d.f1 = true → ∀ x ∈ L.take (k2 + 1), lt x.f1 d.f1 = true := by
      intro h x hx
      rw [List.take_succ_eq_append_getElem hlt2, List.mem_append, List.mem_singleton] at hx
      rcases hx with hx | rfl
      ·exact HT.out x hx
      ·exact h
     have HT3 : lt L[k2].f1 d.f1 = false → ∀ h : k2 < L.length, lt L[k2].f1 d.f1 = false := fun h _ => h
     have HT2 := Lib.hid HT2
     have HT3 := Lib.hid HT3
     clear hget
     generalize hy : L[k2].f1 = y at hy1 HT2
     have Hy := Lib.hid hy
     clear hy
     cases hq : Op.bytesLess y.toList d.f1.toList
     ·go_wp2
      go_quiet (fail)
      rename_i nq
      have tnq : nq = nq := rfl
      go_wp2
      clear tnq
      obtain ⟨Wr, hWr⟩ : ∃ Wr : World, Wr = wr.drewN nq := ⟨_, rfl⟩
      rw [← hWr]
      have HBr : Hid (Below w.heap.size w Wr) := Lib.hid (by rw [hWr]; exact pbN HB.out _)
      have HXr : Hid (Wr.heap[w.heap.size]? = some (.cells (encD d).toArray 27 (0, 0))) := Lib.hid (by rw [hWr]; exact HX.out)
      have HOr : Hid (Kd.R kD 27 Wr W0.heap.size (fun _ => True) (.slice (some ad) L.length c) L) := Lib.hid (by rw [hWr]; exact Kd.R_drewN HO.out _)
      clear hWr c1 hBW HB HX HO HBt
      have d0 : Wr.cell? ⟨w.heap.size, 0, none⟩ = some (.int .i64 d.f0) := (bkC HXr.out 0).trans rfl
      have d1 : Wr.cell? ⟨w.heap.size, 1, none⟩ = some (.string d.f1) := (bkC HXr.out 1).trans rfl
      have d2 : Wr.cell? ⟨w.heap.size, 2, none⟩ = some (.string d.f2) := (bkC HXr.out 2).trans rfl
      have d3 : Wr.cell? ⟨w.heap.size, 3, none⟩ = some (.int .i64 d.f3) := (bkC HXr.out 3).trans rfl
      have d4 : Wr.cell? ⟨w.heap.size, 4, none⟩ = some (.slice d.a4 d.n4 d.c4) := (bkC HXr.out 4).trans rfl
      have d5 : Wr.cell? ⟨w.heap.size, 5, none⟩ = some (.int .i64 d.f5) := (bkC HXr.out 5).trans rfl
      have hBW := blk_lt HXr.out
      obtain ⟨i0_, hi0_, _, hsz_, _⟩ := info_parts infoD
      obtain ⟨AD, hAD⟩ : ∃ AD : Option Addr, AD = if c = k2 then some ad else (some ad).map (·.add (k2 * 6)) := ⟨_, rfl⟩
      have hcut : ∀ W : World, (Instr.slice 22 (.slice (some ad) L.length c) (some (.int .i64 (k2 : Int))) none none).run Try.prog W = .ok (.slice AD (L.length - k2) (c - k2)) W := fun W => by
       have := cut_from (P := Try.prog) 22 27 .i64 Try.underlying22 hi0_ 6 hsz_ (some ad) L.length c (k2 : Int) (by omega) (by omega) W
       rw [Int.toNat_natCast, ← hAD] at this
       exact this
      have hcut2 : ∀ W : World, (Instr.slice 22 (.slice (some ad) L.length c) none (some (.int .i64 (k2 : Int))) none).run Try.prog W = .ok (.slice (some ad) k2 c) W := fun W => by
       have := cut_to (P := Try.prog) 22 27 .i64 Try.underlying22 hi0_ (some ad) L.length c (k2 : Int) (by omega) (by omega) HLc.out W
       rw [Int.toNat_natCast] at this
       exact this
      have HAD := Lib.hid hAD
      clear hAD hi0_ hsz_
      have RTK : ∀ W, Below Wr.heap.size Wr W → Kd.C kD W (some ad) k2 (L.take k2) := fun W hW => by
       have h := Kd.C_take (Kd.C_below (Kd.R_reads' HOr.out).2.2 hW) hk2
       have e : (L.take k2).length = k2 := by rw [List.length_take]; omega
       rw [e] at h
       exact h
      have DRK : ∀ W, Below Wr.heap.size Wr W → Kd.C kD W AD (L.length - k2) (L.drop k2) := fun W hW => by
       have h := Kd.C_drop (Kd.C_below (Kd.R_reads' HOr.out).2.2 hW) hk2 HLc.out
       rw [List.length_drop] at h
       rw [HAD.out]
       exact h
      replace RTK := Lib.hid RTK
      replace DRK := Lib.hid DRK
      clear HXr HOr
      go_region_held3 (fun w' => w'.cell? ⟨w.heap.size, 0, none⟩ = some (.int .i64 d.f0) ∧ w'.cell? ⟨w.heap.size, 1, none⟩ = some (.string d.f1) ∧ w'.cell? ⟨w.heap.size, 2, none⟩ = some (.string d.f2) ∧ w'.cell? ⟨w.heap.size, 3, none⟩ = some (.int .i64 d.f3) ∧ w'.cell? ⟨w.heap.size, 4, none⟩ = some (.slice d.a4 d.n4 d.c4) ∧ w'.cell? ⟨w.heap.size, 5, none⟩ = some (.int .i64 d.f5)) (first | go_keep | exact ⟨(hbw.cell (p := ⟨w.heap.size, 0, none⟩) hBW).trans d0, (hbw.cell (p := ⟨w.heap.size, 1, none⟩) hBW).trans d1, (hbw.cell (p := ⟨w.heap.size, 2, none⟩) hBW).trans d2, (hbw.cell (p := ⟨w.heap.size, 3, none⟩) hBW).trans d3, (hbw.cell (p := ⟨w.heap.size, 4, none⟩) hBW).trans d4, (hbw.cell (p := ⟨w.heap.size, 5, none⟩) hBW).trans d5⟩) (first | (refine Kd.R_append_rows_step kD (Rr := fun x cs => cs = encD x) (w0 := Wr) Wr.heap.size (by rfl) (.tmp 92) (.tmp 95) 22 27 (.agg #[.int .i64 0, .string ⟨#[]⟩, .string ⟨#[]⟩, .int .i64 0, .slice none 0 0, .int .i64 0]) 80 (by rfl) Try.underlying22 infoD (by rfl) (by decide) (by omega) (.slice (some ⟨Wr.heap.size, 0, none⟩) 0 0) ([] : List RawD) (L.take k2) (some ad) k2 c (fun _ => True) (fun _ => False) (by rfl) (by rfl) ?aO ?aR (fun _ _ h => h) (fun _ h => h.elim) (fun _ _ => trivial) ?aB ?aS ?aL ?_; (case aO => exact raw_of_block (hk := encD_len) (h1 := encD_one) ([] : List RawD) (by ((with_reducible repeat (first | refine bkD ?_ | refine bkN ?_ _)); first | exact heap_alloc_new _ _ | exact bkA (heap_alloc_new _ _) _ | exact blk_second _ _ _)) (by first | exact Nat.le_refl _ | (simp; done)) (by simp)); (case aR => exact RTK.out _ (by ((with_reducible repeat (first | apply below_drew | apply pbA | apply pbN)); first | exact hbw | exact Below.refl _ _))); (case aB => exact (by ((with_reducible repeat (first | apply below_drew | apply pbA | apply pbN)); first | exact hbw | exact Below.refl _ _))); (case aS => exact (Below.size (by ((with_reducible repeat (first | apply below_drew | apply pbA | apply pbN)); first | exact hbw | exact Below.refl _ _) : Below Wr.heap.size Wr _))); (case aL => have := hLL.out; simp; omega); intro v5 w5 hR5 hbw hg5 _; (first | (have HD98 : Hid (w5.heap[Wr.heap.size + 1]? = some (.cells #[.int .i64 d.f0, .string d.f1, .string d.f2, .int .i64 d.f3, .slice d.a4 d.n4 d.c4, .int .i64 d.f5] 27 (0, 0))) := Lib.hid ((hg5.block _ (by first | (simp; done) | (simp; omega)) (by simp [Value.ownBlock])).trans (by ((with_reducible repeat (first | refine bkD ?_ | refine bkN ?_ _)); first | exact heap_alloc_new _ _ | exact bkA (heap_alloc_new _ _) _ | exact blk_second _ _ _)))) | skip); have HR5 := Lib.hid hR5; clear hR5 hg5) | (refine Kd.R_append_rows_step kD (Rr := fun x cs => cs = encD x) (w0 := Wr) Wr.heap.size (by rfl) (.tmp 92) (.tmp 95) 22 27 (.agg #[.int .i64 0, .string ⟨#[]⟩, .string ⟨#[]⟩, .int .i64 0, .slice none 0 0, .int .i64 0]) 80 (by rfl) Try.underlying22 infoD (by rfl) (by decide) (by omega) (.slice (some ⟨Wr.heap.size + 1, 0, none⟩) 0 0) ([] : List RawD) (L.take k2) (some ad) k2 c (fun _ => True) (fun _ => False) (by rfl) (by rfl) ?aO ?aR (fun _ _ h => h) (fun _ h => h.elim) (fun _ _ => trivial) ?aB ?aS ?aL ?_; (case aO => exact raw_of_block (hk := encD_len) (h1 := encD_one) ([] : List RawD) (by ((with_reducible repeat (first | refine bkD ?_ | refine bkN ?_ _)); first | exact heap_alloc_new _ _ | exact bkA (heap_alloc_new _ _) _ | exact blk_second _ _ _)) (by first | exact Nat.le_refl _ | (simp; done)) (by simp)); (case aR => exact RTK.out _ (by ((with_reducible repeat (first | apply below_drew | apply pbA | apply pbN)); first | exact hbw | exact Below.refl _ _))); (case aB => exact (by ((with_reducible repeat (first | apply below_drew | apply pbA | apply pbN)); first | exact hbw | exact Below.refl _ _))); (case aS => exact (Below.size (by ((with_reducible repeat (first | apply below_drew | apply pbA | apply pbN)); first | exact hbw | exact Below.refl _ _) : Below Wr.heap.size Wr _))); (case aL => have := hLL.out; simp; omega); intro v5 w5 hR5 hbw hg5 _; (have HD98 : Hid (w5.heap[Wr.heap.size]? = some (.cells #[.int .i64 d.f0, .string d.f1, .string d.f2, .int .i64 d.f3, .slice d.a4 d.n4 d.c4, .int .i64 d.f5] 27 (0, 0))) := Lib.hid ((hg5.block _ (by first | (simp; done) | (simp; omega)) (by simp [Value.ownBlock])).trans (by ((with_reducible repeat (first | refine bkD ?_ | refine bkN ?_ _)); first | exact heap_alloc_new _ _ | exact bkA (heap_alloc_new _ _) _ | exact blk_second _ _ _)))); have HR5 := Lib.hid hR5; clear hR5 hg5) | (refine Kd.R_append_rows_step kD (Rr := fun x cs => cs = encD x) (w0 := Wr) Wr.heap.size (by rfl) (.tmp 96) (.tmp 98) 22 27 (.agg #[.int .i64 0, .string ⟨#[]⟩, .string ⟨#[]⟩, .int .i64 0, .slice none 0 0, .int .i64 0]) 80 (by rfl) Try.underlying22 infoD (by rfl) (by decide) (by omega) v5 ([] ++ L.take k2) [d] _ 1 1 (fun _ => True) (fun _ => False) (by rfl) (by rfl) ?aO ?aR (fun _ _ h => h) (fun _ h => h.elim) (fun _ _ => trivial) ?aB ?aS ?aL ?_; (case aO => exact (by ((with_reducible repeat (first | apply Kd.R_drew | apply Kd.R_drewN | apply Kd.R_alloc)); exact HR5.out))); (case aR => exact (Kd.R_reads' (raw_of_block (hk := encD_len) (h1 := encD_one) (e := 27) (base := 0) [d] (by ((with_reducible repeat (first | refine bkD ?_ | refine bkN ?_ _)); first | exact HD98.out | exact heap_alloc_new _ _ | exact bkA HD98.out _)) (Nat.zero_le _) (by simp))).2.2); (case aB => exact (by ((with_reducible repeat (first | apply below_drew | apply pbA | apply pbN)); first | exact hbw | exact Below.refl _ _))); (case aS => exact (Below.size (by ((with_reducible repeat (first | apply below_drew | apply pbA | apply pbN)); first | exact hbw | exact Below.refl _ _) : Below Wr.heap.size Wr _))); (case aL => have := hLL.out; simp; omega); intro v6 w6 hR6 hbw hg6 _; have HR6 := Lib.hid hR6; clear hR6 hg6) | (refine Kd.R_append_rows_step kD (Rr := fun x cs => cs = encD x) (w0 := Wr) Wr.heap.size (by rfl) (.tmp 99) (.tmp 102) 22 27 (.agg #[.int .i64 0, .string ⟨#[]⟩, .string ⟨#[]⟩, .int .i64 0, .slice none 0 0, .int .i64 0]) 80 (by rfl) Try.underlying22 infoD (by rfl) (by decide) (by omega) v6 ([] ++ L.take k2 ++ [d]) (L.drop k2) AD (L.length - k2) (c - k2) (fun _ => True) (fun _ => False) (by rfl) (by rfl) ?aO ?aR (fun _ _ h => h) (fun _ h => h.elim) (fun _ _ => trivial) ?aB ?aS ?aL ?_; (case aO => exact (by ((with_reducible repeat (first | apply Kd.R_drew | apply Kd.R_drewN | apply Kd.R_alloc)); exact HR6.out))); (case aR => exact DRK.out _ (by ((with_reducible repeat (first | apply below_drew | apply pbA | apply pbN)); first | exact hbw | exact Below.refl _ _))); (case aB => exact (by ((with_reducible repeat (first | apply below_drew | apply pbA | apply pbN)); first | exact hbw | exact Below.refl _ _))); (case aS => exact (Below.size (by ((with_reducible repeat (first | apply below_drew | apply pbA | apply pbN)); first | exact hbw | exact Below.refl _ _) : Below Wr.heap.size Wr _))); (case aL => have := hLL.out; simp; omega); intro v7 w7 hR7 hbw hg7 _; have HR7 := Lib.hid hR7; clear hR7 hg7))
      all_goals
       go_wp2
       go_ret
       refine ⟨_, L.take k2 ++ [d] ++ L.drop k2, rfl, ?_, Hfin.out k2 _ hk2 rfl HT.out (HT3.out (by rw [Hy.out]; exact hq)), ?_⟩
       ·exact Reads.of_R (by (with_reducible repeat (first | apply Kd.R_drew | apply Kd.R_drewN | apply Kd.R_alloc)); exact HR7.out)
       ·exact pbT HBr.out (by ((with_reducible repeat (first | apply below_drew | apply pbA | apply pbN)); first | exact hbw | exact Below.refl _ _))
     ·go_wp2
      go_quiet (fail)
      go_wp2
      go_roundw
      case rel => exact ⟨k2 + 1, by go_num, by omega, Lib.hid (HT2.out hq), Lib.hid (Kd.R_drewN HO.out _), Lib.hid (pbN HBt.out _)⟩
      case measure => simp [intOf]; omega
    ·have hdec : decide ((k2 : Int) < (L.length : Int)) = false := decide_eq_false (by omega)
     have hdec2 : decide (k2 < L.length) = false := decide_eq_false (by omega)
     have HT3 : Hid (∀ h : k2 < L.length, lt L[k2].f1 d.f1 = false) := Lib.hid (fun h => absurd h hlt2)
     go_wp2
     go_quiet (fail)
     rename_i nq
     have tnq : nq = nq := rfl
     go_wp2
     clear tnq
     obtain ⟨Wr, hWr⟩ : ∃ Wr : World, Wr = wr.drewN nq := ⟨_, rfl⟩
     rw [← hWr]
     have HBr : Hid (Below w.heap.size w Wr) := Lib.hid (by rw [hWr]; exact pbN HB.out _)
     have HXr : Hid (Wr.heap[w.heap.size]? = some (.cells (encD d).toArray 27 (0, 0))) := Lib.hid (by rw [hWr]; exact HX.out)
     have HOr : Hid (Kd.R kD 27 Wr W0.heap.size (fun _ => True) (.slice A L.length c) L) := Lib.hid (by rw [hWr]; exact Kd.R_drewN HO.out _)
     clear hWr c1 hBW HB HX HO HBt
     have d0 : Wr.cell? ⟨w.heap.size, 0, none⟩ = some (.int .i64 d.f0) := (bkC HXr.out 0).trans rfl
     have d1 : Wr.cell? ⟨w.heap.size, 1, none⟩ = some (.string d.f1) := (bkC HXr.out 1).trans rfl
     have d2 : Wr.cell? ⟨w.heap.size, 2, none⟩ = some (.string d.f2) := (bkC HXr.out 2).trans rfl
     have d3 : Wr.cell? ⟨w.heap.size, 3, none⟩ = some (.int .i64 d.f3) := (bkC HXr.out 3).trans rfl
     have d4 : Wr.cell? ⟨w.heap.size, 4, none⟩ = some (.slice d.a4 d.n4 d.c4) := (bkC HXr.out 4).trans rfl
     have d5 : Wr.cell? ⟨w.heap.size, 5, none⟩ = some (.int .i64 d.f5) := (bkC HXr.out 5).trans rfl
     have hBW := blk_lt HXr.out
     obtain ⟨i0_, hi0_, _, hsz_, _⟩ := info_parts infoD
     obtain ⟨AD, hAD⟩ : ∃ AD : Option Addr, AD = if c = k2 then A else A.map (·.add (k2 * 6)) := ⟨_, rfl⟩
     have hcut : ∀ W : World, (Instr.slice 22 (.slice A L.length c) (some (.int .i64 (k2 : Int))) none none).run Try.prog W = .ok (.slice AD (L.length - k2) (c - k2)) W := fun W => by
      have := cut_from (P := Try.prog) 22 27 .i64 Try.underlying22 hi0_ 6 hsz_ A L.length c (k2 : Int) (by omega) (by omega) W
      rw [Int.toNat_natCast, ← hAD] at this
      exact this
     have hcut2 : ∀ W : World, (Instr.slice 22 (.slice A L.length c) none (some (.int .i64 (k2 : Int))) none).run Try.prog W = .ok (.slice A k2 c) W := fun W => by
      have := cut_to (P := Try.prog) 22 27 .i64 Try.underlying22 hi0_ A L.length c (k2 : Int) (by omega) (by omega) HLc.out W
      rw [Int.toNat_natCast] at this
      exact this
     have HAD := Lib.hid hAD
     clear hAD hi0_ hsz_
     have RTK : ∀ W, Below Wr.heap.size Wr W → Kd.C kD W A k2 (L.take k2) := fun W hW => by
      have h := Kd.C_take (Kd.C_below (Kd.R_reads' HOr.out).2.2 hW) hk2
      have e : (L.take k2).length = k2 := by rw [List.length_take]; omega
      rw [e] at h
      exact h
     have DRK : ∀ W, Below Wr.heap.size Wr W → Kd.C kD W AD (L.length - k2) (L.drop k2) := fun W hW => by
      have h := Kd.C_drop (Kd.C_below (Kd.R_reads' HOr.out).2.2 hW) hk2 HLc.out
      rw [List.length_drop] at h
      rw [HAD.out]
      exact h
     replace RTK := Lib.hid RTK
     replace DRK := Lib.hid DRK
     clear HXr HOr
     go_region_held3 (fun w' => w'.cell? ⟨w.heap.size, 0, none⟩ = some (.int .i64 d.f0) ∧ w'.cell? ⟨w.heap.size, 1, none⟩ = some (.string d.f1) ∧ w'.cell? ⟨w.heap.size, 2, none⟩ = some (.string d.f2) ∧ w'.cell? ⟨w.heap.size, 3, none⟩ = some (.int .i64 d.f3) ∧ w'.cell? ⟨w.heap.size, 4, none⟩ = some (.slice d.a4 d.n4 d.c4) ∧ w'.cell? ⟨w.heap.size, 5, none⟩ = some (.int .i64 d.f5)) (first | go_keep | exact ⟨(hbw.cell (p := ⟨w.heap.size, 0, none⟩) hBW).trans d0, (hbw.cell (p := ⟨w.heap.size, 1, none⟩) hBW).trans d1, (hbw.cell (p := ⟨w.heap.size, 2, none⟩) hBW).trans d2, (hbw.cell (p := ⟨w.heap.size, 3, none⟩) hBW).trans d3, (hbw.cell (p := ⟨w.heap.size, 4, none⟩) hBW).trans d4, (hbw.cell (p := ⟨w.heap.size, 5, none⟩) hBW).trans d5⟩) (first | (refine Kd.R_append_rows_step kD (Rr := fun x cs => cs = encD x) (w0 := Wr) Wr.heap.size (by rfl) (.tmp 92) (.tmp 95) 22 27 (.agg #[.int .i64 0, .string ⟨#[]⟩, .string ⟨#[]⟩, .int .i64 0, .slice none 0 0, .int .i64 0]) 80 (by rfl) Try.underlying22 infoD (by rfl) (by decide) (by omega) (.slice (some ⟨Wr.heap.size, 0, none⟩) 0 0) ([] : List RawD) (L.take k2) A k2 c (fun _ => True) (fun _ => False) (by rfl) (by rfl) ?aO ?aR (fun _ _ h => h) (fun _ h => h.elim) (fun _ _ => trivial) ?aB ?aS ?aL ?_; (case aO => exact raw_of_block (hk := encD_len) (h1 := encD_one) ([] : List RawD) (by ((with_reducible repeat (first | refine bkD ?_ | refine bkN ?_ _)); first | exact heap_alloc_new _ _ | exact bkA (heap_alloc_new _ _) _ | exact blk_second _ _ _)) (by first | exact Nat.le_refl _ | (simp; done)) (by simp)); (case aR => exact RTK.out _ (by ((with_reducible repeat (first | apply below_drew | apply pbA | apply pbN)); first | exact hbw | exact Below.refl _ _))); (case aB => exact (by ((with_reducible repeat (first | apply below_drew | apply pbA | apply pbN)); first | exact hbw | exact Below.refl _ _))); (case aS => exact (Below.size (by ((with_reducible repeat (first | apply below_drew | apply pbA | apply pbN)); first | exact hbw | exact Below.refl _ _) : Below Wr.heap.size Wr _))); (case aL => have := hLL.out; simp; omega); intro v5 w5 hR5 hbw hg5 _; (first | (have HD98 : Hid (w5.heap[Wr.heap.size + 1]? = some (.cells #[.int .i64 d.f0, .string d.f1, .string d.f2, .int .i64 d.f3, .slice d.a4 d.n4 d.c4, .int .i64 d.f5] 27 (0, 0))) := Lib.hid ((hg5.block _ (by first | (simp; done) | (simp; omega)) (by simp [Value.ownBlock])).trans (by ((with_reducible repeat (first | refine bkD ?_ | refine bkN ?_ _)); first | exact heap_alloc_new _ _ | exact bkA (heap_alloc_new _ _) _ | exact blk_second _ _ _)))) | skip); have HR5 := Lib.hid hR5; clear hR5 hg5) | (refine Kd.R_append_rows_step kD (Rr := fun x cs => cs = encD x) (w0 := Wr) Wr.heap.size (by rfl) (.tmp 92) (.tmp 95) 22 27 (.agg #[.int .i64 0, .string ⟨#[]⟩, .string ⟨#[]⟩, .int .i64 0, .slice none 0 0, .int .i64 0]) 80 (by rfl) Try.underlying22 infoD (by rfl) (by decide) (by omega) (.slice (some ⟨Wr.heap.size + 1, 0, none⟩) 0 0) ([] : List RawD) (L.take k2) A k2 c (fun _ => True) (fun _ => False) (by rfl) (by rfl) ?aO ?aR (fun _ _ h => h) (fun _ h => h.elim) (fun _ _ => trivial) ?aB ?aS ?aL ?_; (case aO => exact raw_of_block (hk := encD_len) (h1 := encD_one) ([] : List RawD) (by ((with_reducible repeat (first | refine bkD ?_ | refine bkN ?_ _)); first | exact heap_alloc_new _ _ | exact bkA (heap_alloc_new _ _) _ | exact blk_second _ _ _)) (by first | exact Nat.le_refl _ | (simp; done)) (by simp)); (case aR => exact RTK.out _ (by ((with_reducible repeat (first | apply below_drew | apply pbA | apply pbN)); first | exact hbw | exact Below.refl _ _))); (case aB => exact (by ((with_reducible repeat (first | apply below_drew | apply pbA | apply pbN)); first | exact hbw | exact Below.refl _ _))); (case aS => exact (Below.size (by ((with_reducible repeat (first | apply below_drew | apply pbA | apply pbN)); first | exact hbw | exact Below.refl _ _) : Below Wr.heap.size Wr _))); (case aL => have := hLL.out; simp; omega); intro v5 w5 hR5 hbw hg5 _; (have HD98 : Hid (w5.heap[Wr.heap.size]? = some (.cells #[.int .i64 d.f0, .string d.f1, .string d.f2, .int .i64 d.f3, .slice d.a4 d.n4 d.c4, .int .i64 d.f5] 27 (0, 0))) := Lib.hid ((hg5.block _ (by first | (simp; done) | (simp; omega)) (by simp [Value.ownBlock])).trans (by ((with_reducible repeat (first | refine bkD ?_ | refine bkN ?_ _)); first | exact heap_alloc_new _ _ | exact bkA (heap_alloc_new _ _) _ | exact blk_second _ _ _)))); have HR5 := Lib.hid hR5; clear hR5 hg5) | (refine Kd.R_append_rows_step kD (Rr := fun x cs => cs = encD x) (w0 := Wr) Wr.heap.size (by rfl) (.tmp 96) (.tmp 98) 22 27 (.agg #[.int .i64 0, .string ⟨#[]⟩, .string ⟨#[]⟩, .int .i64 0, .slice none 0 0, .int .i64 0]) 80 (by rfl) Try.underlying22 infoD (by rfl) (by decide) (by omega) v5 ([] ++ L.take k2) [d] _ 1 1 (fun _ => True) (fun _ => False) (by rfl) (by rfl) ?aO ?aR (fun _ _ h => h) (fun _ h => h.elim) (fun _ _ => trivial) ?aB ?aS ?aL ?_; (case aO => exact (by ((with_reducible repeat (first | apply Kd.R_drew | apply Kd.R_drewN | apply Kd.R_alloc)); exact HR5.out))); (case aR => exact (Kd.R_reads' (raw_of_block (hk := encD_len) (h1 := encD_one) (e := 27) (base := 0) [d] (by ((with_reducible repeat (first | refine bkD ?_ | refine bkN ?_ _)); first | exact HD98.out | exact heap_alloc_new _ _ | exact bkA HD98.out _)) (Nat.zero_le _) (by simp))).2.2); (case aB => exact (by ((with_reducible repeat (first | apply below_drew | apply pbA | apply pbN)); first | exact hbw | exact Below.refl _ _))); (case aS => exact (Below.size (by ((with_reducible repeat (first | apply below_drew | apply pbA | apply pbN)); first | exact hbw | exact Below.refl _ _) : Below Wr.heap.size Wr _))); (case aL => have := hLL.out; simp; omega); intro v6 w6 hR6 hbw hg6 _; have HR6 := Lib.hid hR6; clear hR6 hg6) | (refine Kd.R_append_rows_step kD (Rr := fun x cs => cs = encD x) (w0 := Wr) Wr.heap.size (by rfl) (.tmp 99) (.tmp 102) 22 27 (.agg #[.int .i64 0, .string ⟨#[]⟩, .string ⟨#[]⟩, .int .i64 0, .slice none 0 0, .int .i64 0]) 80 (by rfl) Try.underlying22 infoD (by rfl) (by decide) (by omega) v6 ([] ++ L.take k2 ++ [d]) (L.drop k2) AD (L.length - k2) (c - k2) (fun _ => True) (fun _ => False) (by rfl) (by rfl) ?aO ?aR (fun _ _ h => h) (fun _ h => h.elim) (fun _ _ => trivial) ?aB ?aS ?aL ?_; (case aO => exact (by ((with_reducible repeat (first | apply Kd.R_drew | apply Kd.R_drewN | apply Kd.R_alloc)); exact HR6.out))); (case aR => exact DRK.out _ (by ((with_reducible repeat (first | apply below_drew | apply pbA | apply pbN)); first | exact hbw | exact Below.refl _ _))); (case aB => exact (by ((with_reducible repeat (first | apply below_drew | apply pbA | apply pbN)); first | exact hbw | exact Below.refl _ _))); (case aS => exact (Below.size (by ((with_reducible repeat (first | apply below_drew | apply pbA | apply pbN)); first | exact hbw | exact Below.refl _ _) : Below Wr.heap.size Wr _))); (case aL => have := hLL.out; simp; omega); intro v7 w7 hR7 hbw hg7 _; have HR7 := Lib.hid hR7; clear hR7 hg7))
     all_goals
      go_wp2
      go_ret
      refine ⟨_, L.take k2 ++ [d] ++ L.drop k2, rfl, ?_, Hfin.out k2 _ hk2 rfl HT.out (HT3.out), ?_⟩
      ·exact Reads.of_R (by (with_reducible repeat (first | apply Kd.R_drew | apply Kd.R_drewN | apply Kd.R_alloc)); exact HR7.out)
      ·exact pbT HBr.out (by ((with_reducible repeat (first | apply below_drew | apply pbA | apply pbN)); first | exact hbw | exact Below.refl _ _))
end Go.Proofs.Ytppdcldbebnmlaa.P
end
section
namespace Go.Proofs.Ytppdcldbebnmlaa.P
open Go.RowKit Go.Shelf Go.Proofs.Ytppdcldbebnmlaa.K Go.Proofs.YtppdcldbebnmlaaW.PrintWords Go.Proofs.YtppdcldbebnmlaaW.PrintLast Go.Proofs.YtppdcldbebnmlaaW.PrintMore
theorem cacheB_iff (l : List SD) (d : Nat) : ∀ i, cacheB l d i = true ↔ ∀ j, i ≤ j → j < i + d → okAt l j = true := by
 induction d with
 | zero => intro i; exact ⟨fun _ j h1 h2 => by omega, fun _ => rfl⟩
 | succ d ih =>
  intro i
  simp only [cacheB, Bool.and_eq_true, ih (i + 1)]
  constructor
  ·rintro ⟨h1, h2⟩ j hj1 hj2
   by_cases h : j = i
   ·rw [h]; exact h1
   ·exact h2 j (by omega) (by omega)
  ·intro h
   exact ⟨h i (Nat.le_refl _) (by omega), fun j h1 h2 => h j (by omega) (by omega)⟩
theorem okAt_some {l : List SD} {i : Nat} (hi : i < l.length) : okAt l i = (isD l[i] && (prevLt l l[i] i && (l.take i).all fun y => !meetS' y l[i])) := by
 unfold okAt; rw [List.getElem?_eq_getElem hi]
theorem isC_iff (l : List SD) : isC l = true ↔ Cache l := by
 unfold isC
 rw [cacheB_iff]
 constructor
 ·intro h
  have h2 : ∀ j (hj : j < l.length), isD l[j] = true ∧ prevLt l l[j] j = true ∧ ∀ y ∈ l.take j, meetS' y l[j] = false := by
   intro j hj
   have := h j (Nat.zero_le _) (by omega)
   rw [okAt_some hj] at this
   simp only [Bool.and_eq_true, List.all_eq_true, Bool.not_eq_true'] at this
   exact ⟨this.1, this.2.1, this.2.2⟩
  refine ⟨fun x hx => ?_, ?_⟩
  ·obtain ⟨j, hj, rfl⟩ := List.getElem_of_mem hx
   exact (h2 j hj).1
  ·rw [List.pairwise_iff_getElem]
   intro i j hi hj hij
   refine ⟨?_, (h2 j hj).2.2 _ (List.mem_iff_getElem.2 ⟨i, by rw [List.length_take]; omega, by rw [List.getElem_take]⟩)⟩
   have step : ∀ q (hq : q + 1 < l.length), lt (l[q]'(by omega)).f1.f0 l[q + 1].f1.f0 = true := by
    intro q hq
    have := (h2 (q + 1) hq).2.1
    simp only [prevLt] at this
    rw [List.getElem?_eq_getElem (by omega : q < l.length)] at this
    exact this
   have all : ∀ m (hm : i + 1 + m < l.length), lt (l[i]'hi).f1.f0 l[i + 1 + m].f1.f0 = true := by
    intro m
    induction m with
    | zero => intro hm; exact step i hm
    | succ m ih => intro hm; exact less_trans _ _ _ (ih (by omega)) (step (i + 1 + m) hm)
   have := all (j - (i + 1)) (by omega)
   have e : i + 1 + (j - (i + 1)) = j := by omega
   simp only [e] at this
   exact this
 ·rintro ⟨h1, h2⟩ j _ hj
  have hj : j < l.length := by omega
  rw [List.pairwise_iff_getElem] at h2
  rw [okAt_some hj]
  simp only [Bool.and_eq_true, List.all_eq_true, Bool.not_eq_true']
  refine ⟨h1 _ (List.getElem_mem hj), ?_, fun y hy => ?_⟩
  ·rcases j with _ | j
   ·rfl
   ·simp only [prevLt]
    rw [List.getElem?_eq_getElem (by omega : j < l.length)]
    exact (h2 j (j + 1) (by omega) hj (Nat.lt_succ_self _)).1
  ·obtain ⟨i, hi, rfl⟩ := List.mem_iff_getElem.1 hy
   rw [List.length_take] at hi
   rw [List.getElem_take]
   exact (h2 i j (by omega) hj (by omega)).2
theorem list_any (a b : List SD) (hl : a.length = b.length) (hm : a.length ≤ 1000000000) (hx : ∀ x ∈ a, x.f3.length ≤ 1000000000) (he : a = b) (d : Nat) : ∀ i, a.length - i = d → i ≤ a.length → Ev (fun k => r18_List.l0 k a b (i : Int)) true := by
 induction d with
 | zero =>
  intro i h1 h2
  exact Ev.step (f := fun _ => some true) (fun k => by rw [r18_List.l0, if_neg (by omega)]) (Ev.now _)
 | succ d ih =>
  intro i h1 h2
  have hi : i < a.length := by omega
  have hib : i < b.length := by omega
  have hs : Ev (fun k => r06_Same.f k a[i].f0 a[i].f1.f0 a[i].f1.f1 a[i].f2 a[i].f3 a[i].f4 b[i].f0 b[i].f1.f0 b[i].f1.f1 b[i].f2 b[i].f3 b[i].f4) true := by
   refine ⟨a[i].f3.length + 1, fun k hk => ?_⟩
   refine (refSame_eq (x := a[i]) (y := b[i]) (hx _ (List.getElem_mem hi)) (by omega)).trans ?_
   have : a[i] = b[i] := by simp only [he]
   rw [this, sameS_iff.2 rfl]
  refine Ev.step (f := fun k => (r06_Same.f k a[i].f0 a[i].f1.f0 a[i].f1.f1 a[i].f2 a[i].f3 a[i].f4 b[i].f0 b[i].f1.f0 b[i].f1.f1 b[i].f2 b[i].f3 b[i].f4).bind fun t => if t = true then r18_List.l0 k a b ((i + 1 : Nat) : Int) else some false) (fun k => ?_) (Ev.bind hs (by simpa using ih (i + 1) (by omega) (by omega)))
  rw [r18_List.l0, if_pos (by omega), if_pos (by omega), if_pos (by omega), rd_D hi, rd_D hib, w64 (by omega)]
theorem list_same (a : List SD) (hm : a.length ≤ 1000000000) (hx : ∀ x ∈ a, x.f3.length ≤ 1000000000) : ∃ k, r18_List.f k a a = some true := by
 obtain ⟨k, hk⟩ := (list_any a a rfl hm hx rfl a.length 0 rfl (Nat.zero_le _)).rounds
 exact ⟨k, by unfold r18_List.f; rw [if_pos rfl]; exact hk⟩
abbrev FR := Int × ByteArray × ByteArray × Int × (List SM) × Int × Bool
def foundS : Option SD → FR
 | some x => (x.f0, x.f1.f0, x.f1.f1, x.f2, x.f3, x.f4, true)
 | none => (0, (⟨#[]⟩ : ByteArray), (⟨#[]⟩ : ByteArray), 0, ([] : List SM), 0, false)
theorem find_any (l : List SD) (key : ByteArray) (hm : l.length ≤ 1000000000) (d : Nat) : ∀ i k, l.length - i = d → i ≤ l.length → d < k → r18_Find.l0 k l key (i : Int) = some (foundS ((l.drop i).find? fun x => hasB x.f1.f0 x.f1.f1 key)) := by
 induction d with
 | zero =>
  intro i k h1 h2 h3
  obtain ⟨k, rfl⟩ : ∃ m, k = m + 1 := ⟨k - 1, by omega⟩
  rw [r18_Find.l0, if_neg (by omega), List.drop_of_length_le (by omega)]; rfl
 | succ d ih =>
  intro i k h1 h2 h3
  obtain ⟨k, rfl⟩ : ∃ m, k = m + 1 := ⟨k - 1, by omega⟩
  have hi : i < l.length := by omega
  rw [r18_Find.l0, if_pos (by omega), if_pos (by omega), rd_D hi, refHas_eq, Option.bind_some, List.drop_eq_getElem_cons hi, List.find?_cons]
  cases hq : hasB l[i].f1.f0 l[i].f1.f1 key
  ·rw [if_neg (by simp), w64 (by omega), ih (i + 1) k (by omega) (by omega) (by omega)]
  ·rw [if_pos rfl]; rfl
theorem refFind_eq (l : List SD) (key : ByteArray) (hm : l.length ≤ 1000000000) : r18_Find.f (l.length + 1) l key = some (foundS (l.find? fun x => hasB x.f1.f0 x.f1.f1 key)) := by
 unfold r18_Find.f
 exact find_any l key hm l.length 0 _ rfl (Nat.zero_le _) (Nat.lt_succ_self _)
theorem forget_any (l : List SD) (id : Int) (hm : l.length ≤ 1000000000) (d : Nat) : ∀ i k, l.length - i = d → i ≤ l.length → d < k → r18_Forget.l0 k l id ((l.take i).filter fun x => !(x.f0 == id)) (i : Int) = some (l.filter fun x => !(x.f0 == id)) := by
 induction d with
 | zero =>
  intro i k h1 h2 h3
  obtain ⟨k, rfl⟩ : ∃ m, k = m + 1 := ⟨k - 1, by omega⟩
  rw [r18_Forget.l0, if_neg (by omega), List.take_of_length_le (by omega)]
 | succ d ih =>
  intro i k h1 h2 h3
  obtain ⟨k, rfl⟩ : ∃ m, k = m + 1 := ⟨k - 1, by omega⟩
  have hi : i < l.length := by omega
  have hlen : ((l.take i).filter fun x => !(x.f0 == id)).length ≤ i := Nat.le_trans (List.length_filter_le _ _) (by rw [List.length_take]; omega)
  have ht : (l.take (i + 1)).filter (fun x => !(x.f0 == id)) = ((l.take i).filter fun x => !(x.f0 == id)) ++ (if l[i].f0 = id then [] else [l[i]]) := by
   rw [List.take_succ_eq_append_getElem hi, List.filter_append]
   congr 1
   by_cases h : l[i].f0 = id
   ·rw [if_pos h]; simp [h]
   ·rw [if_neg h]; simp [h]
  rw [r18_Forget.l0, if_pos (by omega), if_pos (by omega), rd_D hi, w64 (by omega)]
  have := ih (i + 1) k (by omega) (by omega) (by omega)
  rw [ht] at this
  by_cases h : l[i].f0 = id
  ·rw [if_pos h] at this ⊢
   rw [List.append_nil] at this
   exact this
  ·rw [if_neg h] at this ⊢
   rw [if_pos (Nat.lt_of_le_of_lt hlen (by omega))]
   exact this
theorem refForget_eq (l : List SD) (id : Int) (hm : l.length ≤ 1000000000) : r18_Forget.f (l.length + 1) l id = some (l.filter fun x => !(x.f0 == id)) := by
 unfold r18_Forget.f
 exact forget_any l id hm l.length 0 _ rfl (Nat.zero_le _) (Nat.lt_succ_self _)
theorem ends_self {f t : ByteArray} (h : boundOk f t = true) : endsB t f = true := by
 unfold endsB
 unfold boundOk at h
 split at h
 ·exact h
 ·cases h
theorem meet_from {a b c : ByteArray} (h1 : boundOk a b = true) (h2 : boundOk a c = true) : meetB a b a c = true := by
 unfold meetB
 rw [h1, h2, ends_self h1, ends_self h2]; rfl
theorem uniq : ∀ (l1 l2 : List RawD), l1.Perm l2 → (l1.Pairwise fun x y => lt y.f1 x.f1 = false) → (l2.Pairwise fun x y => lt x.f1 y.f1 = true) → l1 = l2
 | [], l2, hp, _, _ => (List.nil_perm.1 hp).symm
 | a :: t1, [], hp, _, _ => by have := List.perm_nil.1 hp; cases this
 | a :: t1, b :: t2, hp, h1, h2 => by
  rw [List.pairwise_cons] at h1 h2
  have hab : a = b := by
   rcases List.mem_cons.1 (hp.subset (List.mem_cons_self (a := a))) with h | h
   ·exact h
   ·rcases List.mem_cons.1 (hp.symm.subset (List.mem_cons_self (a := b))) with h' | h'
    ·exact h'.symm
    ·have e1 := h1.1 b h'
     have e2 := h2.1 a h
     rw [e1] at e2; cases e2
  subst hab
  rw [uniq t1 t2 hp.cons_inv h1.2 h2.2]
variable {σ : RawD → List SM}
/-- A cache, raw. -/
def RC (σ : RawD → List SM) (l : List RawD) : Prop := Cache (l.map (toS σ))
theorem RC.get {l : List RawD} (h : RC σ l) : (∀ x ∈ l, isD (toS σ x) = true ∧ boundOk x.f1 x.f2 = true) ∧ (l.Pairwise fun x y => lt x.f1 y.f1 = true ∧ meetB x.f1 x.f2 y.f1 y.f2 = false) := by
 obtain ⟨h1, h2⟩ := h
 refine ⟨fun x hx => ?_, ?_⟩
 ·have := h1 _ (List.mem_map_of_mem (f := toS σ) hx)
  exact ⟨this, isD_bound this⟩
 ·rw [List.pairwise_map] at h2
  exact h2.imp (fun {x y} h => ⟨h.1, by rw [← meetR_eq]; exact h.2⟩)
theorem RC.mk {l : List RawD} (h1 : ∀ x ∈ l, isD (toS σ x) = true) (h2 : l.Pairwise fun x y => lt x.f1 y.f1 = true ∧ meetB x.f1 x.f2 y.f1 y.f2 = false) : RC σ l := by
 refine ⟨fun x hx => ?_, ?_⟩
 ·obtain ⟨y, hy, rfl⟩ := List.mem_map.1 hx
  exact h1 y hy
 ·rw [List.pairwise_map]
  exact h2.imp (fun {x y} h => ⟨h.1, (meetR_eq _ _ _ _).trans h.2⟩)
theorem RC.del {l : List RawD} (h : RC σ l) (p : RawD → Bool) : RC σ (delF p l) := by
 obtain ⟨h1, h2⟩ := h.get
 exact RC.mk (fun x hx => (h1 x (List.mem_filter.1 hx).1).1) (h2.filter _)
/-- What stays beside what is learnt does not begin where it begins. -/
theorem stays {l : List RawD} (h : RC σ l) {d : RawD} (hd : boundOk d.f1 d.f2 = true) : ∀ x ∈ delF (dropP d) l, meetB x.f1 x.f2 d.f1 d.f2 = false ∧ x.f1 ≠ d.f1 := by
 intro x hx
 obtain ⟨hx1, hx2⟩ := List.mem_filter.1 hx
 have hx2 : dropP d x = false := by simpa using hx2
 unfold dropP at hx2
 have hm := (Bool.or_eq_false_iff.1 hx2).2
 refine ⟨hm, fun e => ?_⟩
 have := meet_from (a := d.f1) (b := x.f2) (c := d.f2) (by rw [← e]; exact (h.get.1 x hx1).2) hd
 rw [e, this] at hm; cases hm
theorem lt_or {a b : ByteArray} (h : lt a b = false) (hne : a ≠ b) : lt b a = true := by
 rcases less_or _ _ h with h | h
 ·exact h
 ·exact absurd (toList_inj h).symm hne
theorem insert_strict {l : List RawD} (h : RC σ l) {d : RawD} (hd : boundOk d.f1 d.f2 = true) (k : Nat) (h1 : ∀ x ∈ (delF (dropP d) l).take k, lt x.f1 d.f1 = true) (h2 : ∀ hk : k < (delF (dropP d) l).length, lt (delF (dropP d) l)[k].f1 d.f1 = false) :
 ((delF (dropP d) l).take k ++ [d] ++ (delF (dropP d) l).drop k).Pairwise fun x y => lt x.f1 y.f1 = true := by
 have hst := stays h hd
 have hpw := (h.del (dropP d)).get.2
 generalize delF (dropP d) l = L at h1 h2 hst hpw
 have hp : L.Pairwise fun x y => lt x.f1 y.f1 = true := hpw.imp (fun h => h.1)
 have hsplit : (L.take k ++ L.drop k).Pairwise fun x y => lt x.f1 y.f1 = true := by rw [List.take_append_drop]; exact hp
 rw [List.pairwise_append] at hsplit
 obtain ⟨p1, p2, p3⟩ := hsplit
 have hdrop : ∀ y ∈ L.drop k, lt d.f1 y.f1 = true := by
  intro y hy
  by_cases hk : k < L.length
  ·have hkk := lt_or (h2 hk) (hst _ (List.getElem_mem hk)).2
   rw [List.drop_eq_getElem_cons hk] at hy p2
   rcases List.mem_cons.1 hy with rfl | hy
   ·exact hkk
   ·exact less_trans _ _ _ hkk ((List.pairwise_cons.1 p2).1 y hy)
  ·rw [List.drop_of_length_le (by omega)] at hy; cases hy
 rw [List.append_assoc, List.pairwise_append]
 refine ⟨p1, ?_, ?_⟩
 ·rw [List.singleton_append, List.pairwise_cons]
  exact ⟨hdrop, p2⟩
 ·intro x hx y hy
  rw [List.singleton_append] at hy
  rcases List.mem_cons.1 hy with rfl | hy
  ·exact h1 x hx
  ·exact p3 x hx y hy
theorem learn_same {l l1 l2 : List RawD} {d : RawD} (h : RC σ l) (hd : boundOk d.f1 d.f2 = true) (a : Learnt σ d l l1) (b : RefLearnt σ d l l2) : l1 = l2 := by
 cases hany : l.any (later σ d)
 ·obtain ⟨k, hk, rfl, h1, h2⟩ := b.2 hany
  obtain ⟨p1, p2⟩ := a.2 hany
  refine uniq _ _ (p1.trans ?_) p2 (insert_strict h hd k h1 h2)
  have e : delF (dropP d) l = (delF (dropP d) l).take k ++ (delF (dropP d) l).drop k := (List.take_append_drop _ _).symm
  conv => lhs; rw [e]
  rw [List.append_assoc, List.append_assoc]
  exact List.Perm.append_left _ List.perm_append_comm
 ·rw [a.1 hany, b.1 hany]
theorem pw_not {α : Type} {R : α → α → Prop} {l : List α} (h : l.Pairwise R) (hs : ∀ x y, R x y → R y x) {x y : α} (hx : x ∈ l) (hy : y ∈ l) (hne : x ≠ y) : R x y := by
 induction l with
 | nil => cases hx
 | cons a l ih =>
  rw [List.pairwise_cons] at h
  rcases List.mem_cons.1 hx with e1 | h1
  ·rcases List.mem_cons.1 hy with e2 | h2
   ·exact absurd (e1.trans e2.symm) hne
   ·rw [e1]; exact h.1 y h2
  ·rcases List.mem_cons.1 hy with e2 | h2
   ·rw [e2]; exact hs _ _ (h.1 x h1)
   ·exact ih h.2 h1 h2
theorem meet_comm (a b c d : ByteArray) : meetB a b c d = meetB c d a b := by
 unfold meetB
 cases boundOk a b <;> cases boundOk c d <;> cases endsB b c <;> cases endsB d a <;> rfl
theorem learn_cache {l l1 : List RawD} {d : RawD} (h : RC σ l) (hd : isD (toS σ d) = true) (a : Learnt σ d l l1) : RC σ l1 ∧ (l.any (later σ d) = false → d ∈ l1) ∧ (∀ x ∈ l1, x ∈ l ∨ x = d) := by
 have hb : boundOk d.f1 d.f2 = true := isD_bound hd
 cases hany : l.any (later σ d)
 ·obtain ⟨p1, p2⟩ := a.2 hany
  have hst := stays h hb
  have hg := (h.del (dropP d)).get
  have hmem : ∀ x ∈ l1, x ∈ delF (dropP d) l ∨ x = d := fun x hx => by
   have := p1.subset hx
   rw [List.mem_append, List.mem_singleton] at this
   exact this
  have hapart : l1.Pairwise fun x y => meetB x.f1 x.f2 y.f1 y.f2 = false ∧ x.f1 ≠ y.f1 := by
   refine (p1.pairwise_iff (fun {x y} h => ⟨(meet_comm _ _ _ _).trans h.1, h.2.symm⟩)).2 ?_
   rw [List.pairwise_append]
   refine ⟨hg.2.imp (fun {x y} h => ⟨h.2, fun e => absurd h.1 (by rw [e, show lt y.f1 y.f1 = false from less_irrefl _]; simp)⟩), List.pairwise_singleton _ _, fun x hx y hy => ?_⟩
   rw [List.mem_singleton.1 hy]
   exact hst x hx
  refine ⟨RC.mk (fun x hx => ?_) ?_, fun _ => p1.symm.subset (by simp), fun x hx => ?_⟩
  ·rcases hmem x hx with h' | rfl
   ·exact (hg.1 x h').1
   ·exact hd
  ·exact (p2.and hapart).imp (fun {x y} h => ⟨lt_or h.1 h.2.2.symm, h.2.1⟩)
  ·rcases hmem x hx with h' | rfl
   ·exact .inl (List.mem_filter.1 h').1
   ·exact .inr rfl
 ·rw [a.1 hany]
  exact ⟨h, fun h => (by cases h), fun x hx => .inl hx⟩
theorem hasB_from {f t : ByteArray} (h : boundOk f t = true) : hasB f t f = true := by
 unfold hasB
 rw [show lt f f = false from less_irrefl _, ends_self h]; rfl
/-- What was learnt is found where it begins. -/
theorem find_learnt {l : List RawD} {d : RawD} (h : RC σ l) (hd : d ∈ l) : l.find? (fun x => hasB x.f1 x.f2 d.f1) = some d := by
 obtain ⟨h1, h2⟩ := h.get
 have hb := (h1 d hd).2
 cases hf : l.find? (fun x => hasB x.f1 x.f2 d.f1) with
 | none =>
  have := List.find?_eq_none.1 hf d hd
  rw [hasB_from hb] at this; exact absurd rfl this
 | some x =>
  have hx := List.mem_of_find?_eq_some hf
  have hx2 := List.find?_some hf
  by_cases e : x = d
  ·rw [e]
  ·have := pw_not (R := fun x y => meetB x.f1 x.f2 y.f1 y.f2 = false) (h2.imp (fun h => h.2)) (fun x y h => (meet_comm _ _ _ _).trans h) hx hd e
   rw [← meetR_eq] at this
   unfold meetR at this
   rw [(h1 x hx).2, hb] at this
   rw [show hasB x.f1 x.f2 d.f1 = true from hx2] at this
   cases this
/-- If it isn't learnt, something later was known. -/
theorem later_gen {l : List RawD} {d : RawD} (h : l.any (later σ d) = true) : ∃ (i : Nat) (hi : i < l.length), d.f3 ≤ l[i].f3 := by
 obtain ⟨x, hx, hl⟩ := List.any_eq_true.1 h
 obtain ⟨i, hi, rfl⟩ := List.getElem_of_mem hx
 refine ⟨i, hi, ?_⟩
 unfold later at hl
 simp only [Bool.or_eq_true, Bool.and_eq_true, decide_eq_true_iff, beq_iff_eq] at hl
 omega
end Go.Proofs.Ytppdcldbebnmlaa.P
end
section
namespace Go.Proofs.Ytppdcldbebnmlaa.P
open Go.RowKit Go.Proofs.Ytppdcldbebnmlaa.K Go.Proofs.YtppdcldbebnmlaaW.PrintWords Go.Proofs.YtppdcldbebnmlaaW.PrintLast Go.Proofs.YtppdcldbebnmlaaW.PrintMore
attribute [local go_sem] max2_int min2_int max_two min_two max_three min_three max_four min_four   -- for this text's walks alone
def bound_Level.j0 : Nat → ByteArray → Bool → Option (Int)
 | 0, _, _ => none
 | k + 1, x0, x3 => if x3 = true then (some 3) else (if 0 < (x0.size : Int) then (if (bt x0 0) ≤ 2 then (some (wrap64 (bt x0 0))) else (some 0)) else (none))
def bound_Level.f (k : Nat) (a0 : ByteArray) : Option (Int) := if a0.toList = ([] : List UInt8) then (bound_Level.j0 k a0 true) else (if 0 < (a0.size : Int) then (bound_Level.j0 k a0 ((bt a0 0) == 0)) else (none))
theorem bound_Level.mono_l : ∀ k, (∀ y0 y1, LeO (bound_Level.j0 k y0 y1) (bound_Level.j0 (k + 1) y0 y1))
 | 0 => fun _ _ r h => by simp [bound_Level.j0] at h
 | k + 1 => by
  have ih0 := bound_Level.mono_l k
  ·intro y0 y1
   unfold bound_Level.j0
   repeat' first
   | (with_reducible exact ih0 _ _)
   | (with_reducible exact LeO.refl _)
   | (with_reducible exact LeO.none _)
   | (with_reducible refine LeO.ite ?_ ?_)
   | (with_reducible refine LeO.bind ?_ (fun _ => ?_))
   | exact ih0 _ _
   | exact LeO.none _
   | refine LeO.ite ?_ ?_
   | refine LeO.bind ?_ (fun _ => ?_)
theorem bound_Level.mono : ∀ a0 k, LeO (bound_Level.f k a0) (bound_Level.f (k + 1) a0) := by
 intro a0 k
 have ih0 := bound_Level.mono_l k
 unfold bound_Level.f
 repeat' first
  | (with_reducible exact ih0 _ _)
  | (with_reducible exact LeO.refl _)
  | (with_reducible exact LeO.none _)
  | (with_reducible refine LeO.ite ?_ ?_)
  | (with_reducible refine LeO.bind ?_ (fun _ => ?_))
  | exact ih0 _ _
  | exact LeO.none _
  | refine LeO.ite ?_ ?_
  | refine LeO.bind ?_ (fun _ => ?_)
set_option maxHeartbeats 8000000 in
set_option maxRecDepth 100000 in
theorem bound_Level.calls (k : Nat) (a0 : ByteArray) (r : Int) (w : World) (h : bound_Level.f k a0 = some r) :
 Calls Try.prog 41 #[.string a0] w fun e w' => e = .returned (.int .i64 r) ∧ Drawn0 w w' := by
 have H : (if a0.toList = ([] : List UInt8) then (bound_Level.j0 k a0 true) else (if 0 < (a0.size : Int) then (bound_Level.j0 k a0 ((bt a0 0) == 0)) else (none))) = some r := h
 clear h
 have HC2 := Az.mk H
 clear H
 go_enter Try.func41, Try.ntmps41
 go_upto_region 1 with (fail)
 go_cut [3] (fun v3 wc => ∃ (kq : Nat) (x3_1 : Bool), v3 = .bool x3_1 ∧ Az (bound_Level.j0 kq a0 x3_1 = some r) ∧ Az (kq ≤ k) ∧ Drawn0 w wc)
 case first =>
  have H := HC2.out
  clear HC2
  by_cases c3 : a0.toList = ([] : List UInt8)
  ·rw [if_pos c3] at H
   have c3b0 : (a0.toList == ([] : List UInt8)) = true := beq_iff_eq.mpr c3
   have c3b1 : (a0.toList != ([] : List UInt8)) = false := bne_eq_false_iff_eq.mpr c3
   clear c3
   (first | rw [c3b0] | (simp only [i64_w, i32_w]; rw [c3b0]) | skip)
   have H' := Az.mk H
   clear H
   go_wp2
   go_meet
   case rel => exact ⟨_, (true), (by first | rfl | (simp; done) | (simp [*]; done)), H', ⟨by first | omega | exact Nat.le_refl _⟩, by repeat (first | exact Drawn0.refl _ | apply Drawn0.step)⟩
  ·rw [if_neg c3] at H
   have c3b0 : (a0.toList == ([] : List UInt8)) = false := beq_eq_false_iff_ne.mpr c3
   have c3b1 : (a0.toList != ([] : List UInt8)) = true := bne_iff_ne.mpr c3
   (first | rw [c3b0] | (simp only [i64_w, i32_w]; rw [c3b0]) | skip)
   by_cases c4 : 0 < (a0.size : Int)
   ·rw [if_pos c4] at H
    have c4b0 : decide (0 < (a0.size : Int)) = true := decide_eq_true c4
    have c4b1 : decide (0 < a0.size) = true := decide_eq_true (by omega)
    clear c4
    have H' := Az.mk H
    clear H
    have p5 : 0 ≤ (0 : Int) := (by omega)
    have q5 : 0 < a0.size := (by have : (0 : Int) < (a0.size : Int) := of_decide_eq_true (by first | (with_reducible assumption) | assumption); omega)
    have hx5 : ∀ h : 0 < a0.size, ((a0[0]'h).toNat : Int) = bt a0 0 := bt_at a0 0
    clear p5
    have qi5 : (0 < (a0.size : Int)) = True := eq_true (of_decide_eq_true (by first | (with_reducible assumption) | assumption))
    replace q5 := eq_true q5
    go_wp2
    go_meet
    case rel => exact ⟨_, (((bt a0 0) == 0)), (by first | rfl | (simp; done) | (simp [*]; done)), H', ⟨by first | omega | exact Nat.le_refl _⟩, by repeat (first | exact Drawn0.refl _ | apply Drawn0.step)⟩
   ·rw [if_neg c4] at H
    exact absurd H (by simp)
 case rest =>
  clear HC2
  try clear p2
  try clear c3
  try clear c3b0
  try clear c3b1
  try clear c4
  try clear c4b0
  try clear c4b1
  try clear p5
  try clear q5
  try clear hx5
  try clear qi5
  try clear p5
  try clear q5
  obtain ⟨kq, x3_1, rfl, HA, HJ1, ⟨mc1, rfl⟩⟩ := hcut
  cases kq with
  | zero => exact absurd HA.out (by simp [bound_Level.j0])
  | succ kj1 =>
   have H := HA.out
   clear HA
   simp only [bound_Level.j0] at H
   by_cases c6 : x3_1 = true
   ·subst c6
    rw [if_pos rfl] at H
    obtain rfl := Option.some.inj H
    go_wp2
    go_ret
    exact ⟨by first | rfl | (simp; done) | (simp [*]; done), by repeat (first | exact Drawn0.refl _ | apply Drawn0.step)⟩
   ·replace c6 := Bool.eq_false_iff.mpr c6
    subst c6
    rw [if_neg (show ¬ (false = true) by decide)] at H
    by_cases c7 : 0 < (a0.size : Int)
    ·rw [if_pos c7] at H
     have c7b0 : decide (0 < (a0.size : Int)) = true := decide_eq_true c7
     have c7b1 : decide (0 < a0.size) = true := decide_eq_true (by omega)
     clear c7
     by_cases c9 : (bt a0 0) ≤ 2
     ·rw [if_pos c9] at H
      have c9b0 : decide ((bt a0 0) ≤ 2) = true := decide_eq_true c9
      clear c9
      obtain rfl := Option.some.inj H
      have p8 : 0 ≤ (0 : Int) := (by omega)
      have q8 : 0 < a0.size := (by have : (0 : Int) < (a0.size : Int) := of_decide_eq_true (by first | (with_reducible assumption) | assumption); omega)
      have hx8 : ∀ h : 0 < a0.size, ((a0[0]'h).toNat : Int) = bt a0 0 := bt_at a0 0
      clear p8
      have qi8 : (0 < (a0.size : Int)) = True := eq_true (of_decide_eq_true (by first | (with_reducible assumption) | assumption))
      replace q8 := eq_true q8
      have p10 : 0 ≤ (0 : Int) := (by omega)
      have q10 : 0 < a0.size := (by have : (0 : Int) < (a0.size : Int) := of_decide_eq_true (by first | (with_reducible assumption) | assumption); omega)
      have hx10 : ∀ h : 0 < a0.size, ((a0[0]'h).toNat : Int) = bt a0 0 := bt_at a0 0
      clear p10
      have qi10 : (0 < (a0.size : Int)) = True := eq_true (of_decide_eq_true (by first | (with_reducible assumption) | assumption))
      replace q10 := eq_true q10
      go_wp2
      go_ret
      exact ⟨by first | rfl | (simp; done) | (simp [*]; done), by repeat (first | exact Drawn0.refl _ | apply Drawn0.step)⟩
     ·rw [if_neg c9] at H
      have c9b0 : decide ((bt a0 0) ≤ 2) = false := decide_eq_false c9
      clear c9
      obtain rfl := Option.some.inj H
      have p8 : 0 ≤ (0 : Int) := (by omega)
      have q8 : 0 < a0.size := (by have : (0 : Int) < (a0.size : Int) := of_decide_eq_true (by first | (with_reducible assumption) | assumption); omega)
      have hx8 : ∀ h : 0 < a0.size, ((a0[0]'h).toNat : Int) = bt a0 0 := bt_at a0 0
      clear p8
      have qi8 : (0 < (a0.size : Int)) = True := eq_true (of_decide_eq_true (by first | (with_reducible assumption) | assumption))
      replace q8 := eq_true q8
      go_wp2
      go_ret
      exact ⟨by first | rfl | (simp; done) | (simp [*]; done), by repeat (first | exact Drawn0.refl _ | apply Drawn0.step)⟩
    ·rw [if_neg c7] at H
     exact absurd H (by simp)
end Go.Proofs.Ytppdcldbebnmlaa.P
end
section
namespace Go.Proofs.Ytppdcldbebnmlaa.P
open Go.RowKit Go.Shelf Go.Proofs.Ytppdcldbebnmlaa.K Go.Proofs.YtppdcldbebnmlaaW.PrintWords Go.Proofs.YtppdcldbebnmlaaW.PrintLast Go.Proofs.YtppdcldbebnmlaaW.PrintMore
theorem toList_ne {key : ByteArray} {n : Nat} (hn : key.size = n + 1) : (key.toList == ([] : List UInt8)) = false := by
 rw [beq_eq_false_iff_ne, ByteArray.toList_eq]
 intro h
 have := congrArg List.length h
 rw [Array.length_toList] at this
 have e : key.data.size = key.size := rfl
 rw [e, hn] at this
 simp at this
set_option maxHeartbeats 4000000 in
set_option maxRecDepth 100000 in
theorem before_head (key : ByteArray) (n : Nat) (hn : key.size = n + 1) (hk : n ≤ 32) (v : Nat) (hv : ∀ h : n < key.size, (key[n]'h).toNat = v) (hq : v = 0 ∨ n = 32) (w : World) :
 Calls Try.prog 19 #[.string key] w fun e w' => e = .returned (.string (key.extract 0 n)) ∧ Below w.heap.size w w' := by
 have he1 := toList_ne hn
 have hwr : IntKind.i64.wrap (n : Int) = (n : Int) := IntWalk.i64_in _ (by omega)
 have hle : (n : Int) ≤ (n : Int) + 1 := by omega
 have hlt : (n : Int) < (n : Int) + 1 := by omega
 have h00 : (0 : Int) ≤ (n : Int) := by omega
 by_cases hz : v = 0
 ·subst hz
  go_enter Try.func19, Try.ntmps19
  go_wp2
  go_region
  all_goals
   go_wp2
   go_ret
   exact ⟨rfl, by (with_reducible repeat (first | apply below_drew | apply pbN)); exact Below.refl _ _⟩
 ·have hz2 : ((v : Int) == 0) = false := beq_eq_false_iff_ne.2 (by omega)
  have h32 : n = 32 := by omega
  subst h32
  go_enter Try.func19, Try.ntmps19
  go_wp2
  go_region
  all_goals
   go_wp2
   go_ret
   exact ⟨rfl, by (with_reducible repeat (first | apply below_drew | apply pbN)); exact Below.refl _ _⟩
/-- The greatest text of 32 bytes below one that ends in v. -/
def beforeS (key : ByteArray) (n v : Nat) : ByteArray := key.extract 0 n ++ strOfNums [(v : Int) - 1] ++ ⟨(Lib.repeatL [255] (31 - n)).toArray⟩
theorem conv_one (w W : World) (x : Int) (h : W.heap[w.heap.size]? = some (.cells #[.int .u8 x] 5 (0, 0))) : (convert 59 9 (.slice (some ⟨w.heap.size, 0, none⟩) 1 1)).run Try.prog W = .ok (.string (strOfNums [x])) W := by
 refine run_convert_bytes_arg W 59 5 Try.underlying59 Try.underlying5 w.heap.size 0 1 1 [x] rfl (fun i hi => ?_) 9 Try.underlying9
 obtain rfl : i = 0 := by omega
 have := bkC h 0
 simpa [Addr.add] using this
set_option maxHeartbeats 4000000 in
set_option maxRecDepth 100000 in
theorem before_down (key : ByteArray) (n : Nat) (hn : key.size = n + 1) (hk : n < 32) (v : Nat) (hv : ∀ h : n < key.size, (key[n]'h).toNat = v) (hq : 1 ≤ v) (hq2 : v ≤ 255) (w : World) :
 Calls Try.prog 19 #[.string key] w fun e w' => e = .returned (.string (beforeS key n v)) ∧ Below w.heap.size w w' := by
 have he1 := toList_ne hn
 have hwr : IntKind.i64.wrap (n : Int) = (n : Int) := IntWalk.i64_in _ (by omega)
 have hle : (n : Int) ≤ (n : Int) + 1 := by omega
 have hlt : (n : Int) < (n : Int) + 1 := by omega
 have h00 : (0 : Int) ≤ (n : Int) := by omega
 have hz2 : ((v : Int) == 0) = false := beq_eq_false_iff_ne.2 (by omega)
 have hn32 : decide ((32 : Int) ≤ (n : Int)) = false := decide_eq_false (by omega)
 have hn32' : ¬ (32 : Int) ≤ (n : Int) := by omega
 have hn33 : decide (32 ≤ n) = false := decide_eq_false (by omega)
 have hsz : (key.extract 0 n ++ strOfNums [(v : Int) - 1]).size = n + 1 := by
  rw [ByteArray.size_append, strOfNums_size, ByteArray.size_extract]
  simp only [List.length_cons, List.length_nil]
  omega
 have HR : ∀ W, Hid (Calls Try.prog 40 #[.string ⟨#[255]⟩, .int .i64 (32 - ((n : Int) + 1))] W fun e w' => e = .returned (.string ⟨(Lib.repeatL [255] (31 - n)).toArray⟩) ∧ Below W.heap.size W w') := fun W => by
  have h := Try.strings_Repeat ⟨#[255]⟩ (31 - n) W (by omega) (by show 1 * _ ≤ _; omega)
  rw [show ((31 - n : Nat) : Int) = 32 - ((n : Int) + 1) by omega] at h
  exact Lib.hid h
 have hT : (strOfNums [(v : Int) - 1]).size = 1 := by rw [strOfNums_size]; rfl
 have hE : (key.extract 0 n).size = n := by rw [ByteArray.size_extract]; omega
 have hZ : (⟨(Lib.repeatL [255] (31 - n)).toArray⟩ : ByteArray).size ≤ 31 := by
  have : ∀ m, (Lib.repeatL [255] m).length = m := fun m => by
   induction m with
   | zero => rfl
   | succ m ih => simp only [Lib.repeatL, List.length_append, List.length_cons, List.length_nil, ih]; omega
  show (Lib.repeatL [255] (31 - n)).toArray.size ≤ 31
  rw [List.size_toArray, this]; omega
 unfold beforeS
 have cv0 := conv_one w (w.alloc (.cells #[.int .u8 ((v : Int) - 1)] 5)) ((v : Int) - 1) (heap_alloc_new _ _)
 have cv1 := conv_one w (w.alloc (.cells #[.int .u8 ((v : Int) - 1)] 5)).drew ((v : Int) - 1) (heap_alloc_new _ _)
 have cv2 := conv_one w (w.alloc (.cells #[.int .u8 ((v : Int) - 1)] 5)).drew.drew ((v : Int) - 1) (heap_alloc_new _ _)
 have cv3 := conv_one w (w.alloc (.cells #[.int .u8 ((v : Int) - 1)] 5)).drew.drew.drew ((v : Int) - 1) (heap_alloc_new _ _)
 generalize strOfNums [(v : Int) - 1] = T at hsz hT cv0 cv1 cv2 cv3 ⊢
 generalize (⟨(Lib.repeatL [255] (31 - n)).toArray⟩ : ByteArray) = Z at HR hZ ⊢
 have hm1 : n + 1 ≤ 9223372036854775807 := by omega
 have hm2 : n + 1 + Z.size ≤ 9223372036854775807 := by omega
 have hm3 : (n : Int) + 1 + (Z.size : Int) ≤ 9223372036854775807 := by omega
 have hm4 : (n : Int) + 1 ≤ 9223372036854775807 := by omega
 go_enter Try.func19, Try.ntmps19
 go_wp2
 go_region
 all_goals
  go_wp2_with (go_at_call 40; refine (HR _).out.mono ?_; rintro e w' ⟨rfl, hb⟩)
  go_ret
  exact ⟨rfl, pbT (by (with_reducible repeat (first | apply below_drew | apply pbA | apply pbN)); exact Below.refl _ _) hb⟩
end Go.Proofs.Ytppdcldbebnmlaa.P
end
section
namespace Go.Proofs.Ytppdcldbebnmlaa.P
open Go.RowKit Go.Proofs.Ytppdcldbebnmlaa.K Go.Proofs.YtppdcldbebnmlaaW.PrintWords Go.Proofs.YtppdcldbebnmlaaW.PrintLast Go.Proofs.YtppdcldbebnmlaaW.PrintMore
attribute [local go_sem] max2_int min2_int max_two min_two max_three min_three max_four min_four   -- for this text's walks alone
def l18_one.f (a0 : Int) (a1 : Int) (a2 : ByteArray) (a3 : ByteArray) : Option (Int × ByteArray × ByteArray × Int × (List (S47)) × Int) := some (a0, a2, a3, a1, (([(⟨1, 1⟩ : S47)] : List (S47))), 2)
set_option maxHeartbeats 8000000 in
set_option maxRecDepth 100000 in
theorem l18_one.calls (a0 : Int) (a1 : Int) (a2 : ByteArray) (a3 : ByteArray) (r1 : Int) (r2 : ByteArray) (r3 : ByteArray) (r4 : Int) (r5 : List (S47)) (r6 : Int) (w : World) (h : l18_one.f a0 a1 a2 a3 = some (r1, r2, r3, r4, r5, r6)) :
 Calls Try.prog 23 #[.int .i64 a0, .int .i64 a1, .string a2, .string a3] w fun e w' => ∃ v4_ : Value, e = .returned (.agg #[.int .i64 r1, .string r2, .string r3, .int .i64 r4, v4_, .int .i64 r6]) ∧ Kd.R k47 47 w' w.heap.size (fun _ => True) v4_ r5 ∧ Below w.heap.size w w' := by
 have hu27 := Try.underlying27
 have hu24 := Try.underlying24
 have hu47 := Try.underlying47
 have HB := Az.mk (Below.refl w.heap.size w)
 have H : (some (a0, a2, a3, a1, (([(⟨1, 1⟩ : S47)] : List (S47))), 2)) = some (r1, r2, r3, r4, r5, r6) := h
 clear h
 obtain ⟨y155, hy155⟩ : ∃ y_ : List (S47), y_ = (([(⟨1, 1⟩ : S47)] : List (S47))) := ⟨_, rfl⟩
 replace H : (some (a0, a2, a3, a1, y155, 2)) = some (r1, r2, r3, r4, r5, r6) := by first | (rw [hy155]; with_reducible exact H) | (have H2_ := (Option.bind_some _ _).symm.trans H; rw [hy155]; with_reducible exact H2_) | (have H2_ := (Option.bind_some _ _).symm.trans H; with_reducible exact H2_) | with_reducible exact H | (rw [hy155]; exact H) | exact H
 have Ny155 := Az.mk hy155
 clear hy155
 simp only [Option.some.injEq, Prod.mk.injEq] at H
 obtain ⟨rfl, rfl, rfl, rfl, rfl, rfl⟩ := H
 go_enter Try.func23, Try.ntmps23
 go_wp2_with (first | ((with_reducible refine gate_dst (N := 8) rfl ?_); refine box_event ?hg (N := 8) ?hd (cs := #[.int .i64 0, .string (⟨#[]⟩ : ByteArray), .string (⟨#[]⟩ : ByteArray), .int .i64 0, .slice none 0 0, .int .i64 0]) (t := 27) ?hr ?_; (case hd => rfl); (case hg => rfl); (case hr => first | (go_simp; done) | (go_simp; rfl)); intro gb154 hg w5 hbox hb; have BK154 := Az.mk (hbox); have GW154 := Az.mk (geO hg (pbE HB.out)); have GE154 := Az.mk (geO hg (pbE HB.out)); replace HB := Az.mk (pbT (by exact pbE HB.out) hb); clear hb hbox hg) | ((with_reducible refine gate_dst (N := 15) rfl ?_); refine Kd.R_lit k47 _ 47 ?hg (N := 15) ?hd (xs := ([(⟨1, 1⟩ : S47)] : List (S47))) (inner := [.int .i64 1, .int .i64 1]) (ok := fun _ => True) (okp := fun _ => True) ?hr ?hp (fun _ hk => hk) trivial (Below.refl _ _) (Nat.le_refl _) (by simp) ?_; (case hd => rfl); (case hg => rfl); (case hr => first | (go_simp; done) | (go_simp; rfl)); (case hp => exact (Reps.c2 (show Kd.M k47 _ _ _ (⟨1, 1⟩ : S47) [.int .i64 1, .int .i64 1] from (k47_mkM _ _ _ (⟨1, 1⟩ : S47) )) (Reps.none _ _))); intro v156 w6 ho7 hb hg_ hnew_; clear hg_ hnew_; (first | rw [← Ny155.out] at ho7 | (simp only [Int.reduceToNat] at ho7; rw [← Ny155.out] at ho7)); have HO157 := Az.mk (Kd.R_lower ho7 (pbZ (by exact pbE HB.out))); replace BK154 := Az.mk (bkB (bk BK154.out) hb); replace HB := Az.mk (pbT (by exact pbE HB.out) hb); clear hb ho7; obtain ⟨Ao8, co8, eo8⟩ := Kd.R_slice HO157.out; subst eo8; have hcz9 := cells6 BK154.out))
 refine bodyPost_ret (results_cell_row rfl _ _ gb154 27 #[.int .i64 a0, .string a2, .string a3, .int .i64 a1, .slice Ao8 y155.length co8, .int .i64 2] (0, 0) _ rfl (by refine bk ?_; refine blk_put (cs := #[.int .i64 a0, .string a2, .string a3, .int .i64 a1, .slice Ao8 y155.length co8, .int .i64 0]) ?_ 5 _ rfl; refine bk ?_; refine blk_put (cs := #[.int .i64 a0, .string a2, .string a3, .int .i64 a1, .slice none 0 0, .int .i64 0]) ?_ 4 _ rfl; refine bk ?_; refine blk_put (cs := #[.int .i64 a0, .string a2, .string a3, .int .i64 0, .slice none 0 0, .int .i64 0]) ?_ 3 _ rfl; refine bk ?_; refine blk_put (cs := #[.int .i64 a0, .string a2, .string (⟨#[]⟩ : ByteArray), .int .i64 0, .slice none 0 0, .int .i64 0]) ?_ 2 _ rfl; refine bk ?_; refine blk_put (cs := #[.int .i64 a0, .string (⟨#[]⟩ : ByteArray), .string (⟨#[]⟩ : ByteArray), .int .i64 0, .slice none 0 0, .int .i64 0]) ?_ 1 _ rfl; refine bk ?_; refine blk_put (cs := #[.int .i64 0, .string (⟨#[]⟩ : ByteArray), .string (⟨#[]⟩ : ByteArray), .int .i64 0, .slice none 0 0, .int .i64 0]) ?_ 0 _ rfl; refine bk ?_; exact BK154.out) Try.underlying27 rfl (by kernel_rfl)) rfl ?_
 exact ⟨_, by first | rfl | (simp [errW_none, errW_some] <;> rfl) | (simp [*, errW_none, errW_some] <;> rfl), by (with_reducible repeat (first | apply Kd.R_alloc | apply Kd.R_drewN | apply Kd.R_drew)); exact Kd.R_mono (Kd.R_far (p := ⟨gb154, 5, none⟩) (Kd.R_far (p := ⟨gb154, 4, none⟩) (Kd.R_far (p := ⟨gb154, 3, none⟩) (Kd.R_far (p := ⟨gb154, 2, none⟩) (Kd.R_far (p := ⟨gb154, 1, none⟩) (Kd.R_far (p := ⟨gb154, 0, none⟩) (Kd.R_types HO157.out BK154.out (by decide)) (fun _ hk => hk.2) (.int .i64 a0)) (fun _ hk => hk.2) (.string a2)) (fun _ hk => hk.2) (.string a3)) (fun _ hk => hk.2) (.int .i64 a1)) (fun _ hk => hk.2) (.slice Ao8 y155.length co8)) (fun _ hk => hk.2) (.int .i64 2)) (fun _ hk => trivial), by exact pbE HB.out⟩
end Go.Proofs.Ytppdcldbebnmlaa.P
end
section
namespace Go.Proofs.Ytppdcldbebnmlaa.P
open Go.RowKit Go.Shelf Go.Proofs.Ytppdcldbebnmlaa.K Go.Proofs.YtppdcldbebnmlaaW.PrintWords Go.Proofs.YtppdcldbebnmlaaW.PrintLast Go.Proofs.YtppdcldbebnmlaaW.PrintMore
def sM : ByteArray := ⟨#[109]⟩
theorem level_m : bound_Level.f 2 ⟨#[109]⟩ = some 0 := by
 have e : bt ⟨#[109]⟩ 0 = 109 := by decide
 have h0 : (⟨#[109]⟩ : ByteArray).toList ≠ [] := by
  intro h
  have : (⟨#[109]⟩ : ByteArray).toList = [109] := by rw [ByteArray.toList_eq]
  rw [this] at h; cases h
 unfold bound_Level.f
 rw [if_neg h0, if_pos (by decide), e, bound_Level.j0, if_neg (by decide), if_pos (by decide), e, if_neg (by decide)]
theorem two_put {w1 : World} {B : Nat} {t : TypeId} {x y u0 u1 : Value} (BL : w1.heap[B]? = some (.cells #[u0, u1] t (0, 0))) : ((w1.setCell ⟨B, 0, none⟩ x).setCell ⟨B, 1, none⟩ y).heap[B]? = some (.cells #[x, y] t (0, 0)) := by
 refine blk_put (cs := #[x, u1]) ?_ 1 _ rfl
 exact blk_put (cs := #[u0, u1]) BL 0 _ rfl
set_option maxHeartbeats 4000000 in
set_option maxRecDepth 100000 in
theorem search_m (w : World) : Calls Try.prog 42 #[.int .i64 2, .string ⟨#[109]⟩] w fun e w' => e = .returned (.agg #[.string ⟨#[2, 109, 0]⟩, .string ⟨#[3]⟩]) ∧ Below w.heap.size w w' := by
 have k2 : ∀ W, (convert 3 21 (.int .i64 2)).run Try.prog W = .ok (.int .i32 2) W := fun W => by kernel_rfl
 have k3 : ∀ W, (convert 3 21 (.int .i64 3)).run Try.prog W = .ok (.int .i32 3) W := fun W => by kernel_rfl
 have s2 : ∀ W, (convert 21 9 (.int .i32 2)).run Try.prog W = .ok (.string ⟨#[2]⟩) W := fun W => by kernel_rfl
 have s3 : ∀ W, (convert 21 9 (.int .i32 3)).run Try.prog W = .ok (.string ⟨#[3]⟩) W := fun W => by kernel_rfl
 have hc : (⟨#[2]⟩ ++ ⟨#[109]⟩ ++ ⟨#[0]⟩ : ByteArray) = ⟨#[2, 109, 0]⟩ := by decide
 rw [← hc]
 go_enter Try.func42, Try.ntmps42
 go_wp2
 refine bodyPost_ret (results_cell_row rfl _ _ w.heap.size 24 #[.string (⟨#[2]⟩ ++ ⟨#[109]⟩ ++ ⟨#[0]⟩), .string ⟨#[3]⟩] (0, 0) _ rfl (heap_alloc_new _ _) Try.underlying24 rfl (by kernel_rfl)) rfl ?_
 exact ⟨rfl, pbA (Below.refl _ _) _⟩
set_option maxHeartbeats 4000000 in
set_option maxRecDepth 100000 in
theorem seek_m (w : World) : Calls Try.prog 24 #[.string ⟨#[109]⟩] w fun e w' => e = .returned (.tuple #[.int .i64 2, .agg #[.string ⟨#[2, 109, 0]⟩, .string ⟨#[3]⟩]]) ∧ Below w.heap.size w w' := by
 have hL : ∀ W, Hid (Calls Try.prog 41 #[.string ⟨#[109]⟩] W fun e w' => e = .returned (.int .i64 0) ∧ Drawn0 W w') := fun W => Lib.hid (bound_Level.calls 2 _ _ W level_m)
 have hS : ∀ W, Hid (Calls Try.prog 42 #[.int .i64 2, .string ⟨#[109]⟩] W fun e w' => e = .returned (.agg #[.string ⟨#[2, 109, 0]⟩, .string ⟨#[3]⟩]) ∧ Below W.heap.size W w') := fun W => Lib.hid (search_m W)
 go_enter Try.func24, Try.ntmps24
 go_wp2_with (first | (go_at_call 41; refine (hL _).out.mono ?_; rintro e w1 ⟨rfl, ⟨nd, rfl⟩⟩) | (go_at_call 42; refine (hS _).out.mono ?_; rintro e w2 ⟨rfl, hb⟩; have BL := bkB (bkN (heap_alloc_new w _) nd) hb; have f0 := bkF BL 0; have f1 := bkF BL 1; have y0 := (bkC BL 0).trans rfl; have y1 := (bkC BL 1).trans rfl) | go_in)
 refine bodyPost_ret (results_tc rfl _ _ w.heap.size 24 #[.string ⟨#[2, 109, 0]⟩, .string ⟨#[3]⟩] (0, 0) _ rfl (two_put BL) Try.underlying24 rfl (by kernel_rfl)) rfl ?_
 exact ⟨rfl, ((pbT (pbN (pbA (Below.refl _ _) _) nd) hb).setCell (Nat.le_refl _) _).setCell (Nat.le_refl _) _⟩
def sig1 : RawD → List SM := fun _ => [⟨1, 1⟩]
theorem one_raw (id gen : Int) (f t : ByteArray) (w : World) : Calls Try.prog 23 #[.int .i64 id, .int .i64 gen, .string f, .string t] w fun e w' => ∃ x : RawD, e = .returned (aggD x) ∧ (x.f0 = id ∧ x.f1 = f ∧ x.f2 = t ∧ x.f3 = gen) ∧ Mem sig1 w' x ∧ Below w.heap.size w w' := by
 refine (l18_one.calls id gen f t _ _ _ _ _ _ w rfl).mono ?_
 rintro e w' ⟨v, rfl, hR, hb⟩
 obtain ⟨A, c, rfl, h1, h2⟩ := Kd.R_reads hR
 exact ⟨⟨id, f, t, gen, A, 1, c, 2⟩, rfl, ⟨rfl, rfl, rfl, rfl⟩, ⟨h2, h1⟩, hb⟩
theorem meet_1 : meetB ⟨#[]⟩ ⟨#[]⟩ ⟨#[109]⟩ ⟨#[]⟩ = true := by
 unfold meetB boundOk endsB lt; simp only [ByteArray.toList_eq]; decide
theorem meet_2 : meetB ⟨#[109]⟩ ⟨#[]⟩ ⟨#[]⟩ ⟨#[]⟩ = true := by
 unfold meetB boundOk endsB lt; simp only [ByteArray.toList_eq]; decide
theorem has_z : hasB ⟨#[109]⟩ ⟨#[]⟩ ⟨#[122]⟩ = true := by
 unfold hasB endsB lt; simp only [ByteArray.toList_eq]; decide
theorem has_a : hasB ⟨#[109]⟩ ⟨#[]⟩ ⟨#[97]⟩ = false := by
 unfold hasB endsB lt; simp only [ByteArray.toList_eq]; decide
theorem perm_one {d : RawD} {l : List RawD} (h : l.Perm ([] ++ [d])) : l = [d] := List.perm_singleton.1 h
theorem learn1 (x : RawD) (w : World) (hx : Mem sig1 w x) : Calls Try.prog 13 #[.slice none 0 0, aggD x] w fun e w' => ∃ v, e = .returned v ∧ Reads w' [x] v ∧ Below w.heap.size w w' := by
 refine (learn_calls sig1 none 0 [] x w (Kd.C_nil _ _) (Nat.le_refl _) (by simp) (fun y hy => by simp at hy) hx).mono ?_
 rintro e w' ⟨v, l', rfl, hr, ⟨_, h2⟩, hb⟩
 obtain rfl := perm_one (h2 rfl).1
 exact ⟨v, rfl, hr, hb⟩
theorem learn2 (x y : RawD) (v : Value) (w : World) (hv : Reads w [x] v) (hx : Mem sig1 w x) (hy : Mem sig1 w y) (h1 : x.f0 = 1 ∧ x.f1 = ⟨#[]⟩ ∧ x.f2 = ⟨#[]⟩ ∧ x.f3 = 1) (h2 : y.f0 = 2 ∧ y.f1 = ⟨#[109]⟩ ∧ y.f2 = ⟨#[]⟩ ∧ y.f3 = 2) : Calls Try.prog 13 #[v, aggD y] w fun e w' => ∃ v, e = .returned v ∧ Reads w' [y] v ∧ Below w.heap.size w w' := by
 obtain ⟨A, c, rfl, hc, hC⟩ := hv
 refine (learn_calls sig1 A c [x] y w hC hc (by simp) (fun z hz => by obtain rfl := List.mem_singleton.1 hz; exact ⟨hx, by show 1 ≤ _; omega⟩) hy).mono ?_
 rintro e w' ⟨v, l', rfl, hr, ⟨_, h3⟩, hb⟩
 obtain ⟨a1, a2, a3, a4⟩ := h1
 obtain ⟨b1, b2, b3, b4⟩ := h2
 have hl : [x].any (later sig1 y) = false := by
  simp only [List.any_cons, List.any_nil, Bool.or_false]
  unfold later
  rw [a1, a2, a3, a4, b1, b2, b3, b4, meet_1]; rfl
 have hd : delF (dropP y) [x] = [] := by
  have : dropP y x = true := by
   unfold dropP
   rw [a1, a2, a3, b1, b2, b3]
   rw [meet_1]; rfl
  unfold delF
  rw [List.filter_cons_of_neg (by rw [this]; simp), List.filter_nil]
 have h4 := (h3 hl).1
 rw [hd] at h4
 obtain rfl := perm_one h4
 exact ⟨v, rfl, hr, hb⟩
theorem learn3 (x y : RawD) (v : Value) (w : World) (hv : Reads w [x] v) (hx : Mem sig1 w x) (hy : Mem sig1 w y) (h1 : x.f0 = 2 ∧ x.f1 = ⟨#[109]⟩ ∧ x.f2 = ⟨#[]⟩ ∧ x.f3 = 2) (h2 : y.f0 = 1 ∧ y.f1 = ⟨#[]⟩ ∧ y.f2 = ⟨#[]⟩ ∧ y.f3 = 1) : Calls Try.prog 13 #[v, aggD y] w fun e w' => ∃ A c, e = .returned (.slice A 1 c) ∧ Below w.heap.size w w' := by
 obtain ⟨A, c, rfl, hc, hC⟩ := hv
 refine (learn_calls sig1 A c [x] y w hC hc (by simp) (fun z hz => by obtain rfl := List.mem_singleton.1 hz; exact ⟨hx, by show 1 ≤ _; omega⟩) hy).mono ?_
 rintro e w' ⟨v, l', rfl, hr, ⟨h3, _⟩, hb⟩
 obtain ⟨a1, a2, a3, a4⟩ := h1
 obtain ⟨b1, b2, b3, b4⟩ := h2
 have hl : [x].any (later sig1 y) = true := by
  simp only [List.any_cons, List.any_nil, Bool.or_false]
  unfold later
  rw [a1, a2, a3, a4, b1, b2, b3, b4]
  rw [meet_2]; rfl
 obtain rfl := h3 hl
 obtain ⟨A', c', rfl, _, _⟩ := hr
 exact ⟨A', c', rfl, hb⟩
theorem find_z (x : RawD) (v : Value) (w : World) (hv : Reads w [x] v) (h1 : x.f0 = 2 ∧ x.f1 = ⟨#[109]⟩ ∧ x.f2 = ⟨#[]⟩ ∧ x.f3 = 2) : Calls Try.prog 10 #[v, .string ⟨#[122]⟩] w fun e w' => e = .returned (.tuple #[.agg #[.int .i64 2, .string x.f1, .string x.f2, .int .i64 x.f3, .slice x.a4 x.n4 x.c4, .int .i64 x.f5], .bool true]) ∧ Below w.heap.size w w' := by
 obtain ⟨A, c, rfl, hc, hC⟩ := hv
 refine (find_calls A c [x] ⟨#[122]⟩ w hC (by simp)).mono ?_
 rintro e w' ⟨rfl, hb⟩
 refine ⟨?_, hb⟩
 obtain ⟨a1, a2, a3, a4⟩ := h1
 have : hasB x.f1 x.f2 ⟨#[122]⟩ = true := by rw [a2, a3]; exact has_z
 rw [List.find?_cons_of_pos (by exact this)]
 show Ending.returned (.tuple #[.agg #[.int .i64 x.f0, .string x.f1, .string x.f2, .int .i64 x.f3, .slice x.a4 x.n4 x.c4, .int .i64 x.f5], .bool true]) = _
 rw [a1]
theorem find_a (x : RawD) (v : Value) (w : World) (hv : Reads w [x] v) (h1 : x.f0 = 2 ∧ x.f1 = ⟨#[109]⟩ ∧ x.f2 = ⟨#[]⟩ ∧ x.f3 = 2) : Calls Try.prog 10 #[v, .string ⟨#[97]⟩] w fun e w' => e = .returned (.tuple #[.agg #[.int .i64 0, .string ⟨#[]⟩, .string ⟨#[]⟩, .int .i64 0, .slice none 0 0, .int .i64 0], .bool false]) ∧ Below w.heap.size w w' := by
 obtain ⟨A, c, rfl, hc, hC⟩ := hv
 refine (find_calls A c [x] ⟨#[97]⟩ w hC (by simp)).mono ?_
 rintro e w' ⟨rfl, hb⟩
 refine ⟨?_, hb⟩
 obtain ⟨a1, a2, a3, a4⟩ := h1
 have : hasB x.f1 x.f2 ⟨#[97]⟩ = false := by rw [a2, a3]; exact has_a
 rw [List.find?_cons_of_neg (by rw [this]; simp), List.find?_nil]
 rfl
theorem forget_2 (x : RawD) (v : Value) (w : World) (hv : Reads w [x] v) (h1 : x.f0 = 2 ∧ x.f1 = ⟨#[109]⟩ ∧ x.f2 = ⟨#[]⟩ ∧ x.f3 = 2) : Calls Try.prog 15 #[v, .int .i64 2] w fun e w' => ∃ A c, e = .returned (.slice A 0 c) ∧ Below w.heap.size w w' := by
 obtain ⟨A, c, rfl, hc, hC⟩ := hv
 refine (forget_calls A c [x] 2 w hC (by simp)).mono ?_
 rintro e w' ⟨v, rfl, hR, hb⟩
 have hd : delF (fun y : RawD => y.f0 == 2) [x] = [] := by
  unfold delF
  rw [List.filter_cons_of_neg (by simp [h1.1]), List.filter_nil]
 rw [hd] at hR
 obtain ⟨A', c', rfl⟩ := Kd.R_slice hR
 exact ⟨A', c', rfl, hb⟩
theorem before_m (w : World) : Calls Try.prog 19 #[.string ⟨#[109]⟩] w fun e w' => ∃ s : ByteArray, e = .returned (.string s) ∧ s.size = 32 ∧ (∀ h : 0 < s.size, (s[0]'h).toNat = 108) ∧ Below w.heap.size w w' := by
 refine (before_down ⟨#[109]⟩ 0 rfl (by omega) 109 (fun _ => rfl) (by omega) (by omega) w).mono ?_
 rintro e w' ⟨rfl, hb⟩
 exact ⟨_, rfl, by rfl, fun _ => by rfl, hb⟩
theorem before_m0 (w : World) : Calls Try.prog 19 #[.string ⟨#[109, 0]⟩] w fun e w' => e = .returned (.string ⟨#[109]⟩) ∧ Below w.heap.size w w' := by
 have := before_head ⟨#[109, 0]⟩ 1 rfl (by omega) 0 (fun _ => rfl) (.inl rfl) w
 have e : (⟨#[109, 0]⟩ : ByteArray).extract 0 1 = ⟨#[109]⟩ := by decide
 rw [e] at this
 exact this
set_option maxHeartbeats 8000000 in
set_option maxRecDepth 100000 in
theorem live_calls (w : World) : Calls Try.prog 9 #[] w fun e w' => e = .returned (.bool true) ∧ Below w.heap.size w w' := by
 have hu := Try.underlying27
 have hu2 := Try.underlying24
 go_enter Try.func9, Try.ntmps9
 go_wp2_with fail
 refine (one_raw _ _ _ _ _).mono ?_
 rintro e w1 ⟨x1, rfl, hx1, hm1, hb1⟩
 have HX1 := Lib.hid hx1; have HM1 := Lib.hid hm1; have HB1 := Lib.hid hb1
 clear hx1 hm1 hb1
 go_wp2_with fail
 refine (learn1 x1 w1 HM1.out).mono ?_
 rintro e w2 ⟨v2, rfl, hr2, hb2⟩
 have HR2 := Lib.hid hr2; have HM1 := Lib.hid (HM1.out.below hb2); have HB2 := Lib.hid (pbT HB1.out hb2)
 clear hr2 hb2
 go_wp2_with fail
 refine (one_raw _ _ _ _ _).mono ?_
 rintro e w3 ⟨x2, rfl, hx2, hm2, hb3⟩
 have HX2 := Lib.hid hx2; have HM2 := Lib.hid hm2; have HR3 := Lib.hid (HR2.out.below hb3); have HM1 := Lib.hid (HM1.out.below hb3); have HB3 := Lib.hid (pbT HB2.out hb3)
 clear hx2 hm2 hb3
 go_wp2_with fail
 refine (learn2 x1 x2 v2 w3 HR3.out HM1.out HM2.out HX1.out HX2.out).mono ?_
 rintro e w4 ⟨v4, rfl, hr4, hb4⟩
 have HR4 := Lib.hid hr4; have HM2 := Lib.hid (HM2.out.below hb4); have HB4 := Lib.hid (pbT HB3.out hb4)
 clear hr4 hb4
 go_wp2_with fail
 refine (find_z x2 v4 w4 HR4.out HX2.out).mono ?_
 rintro e w5 ⟨rfl, hb5⟩
 have HR5 := Lib.hid (HR4.out.below hb5); have HM2 := Lib.hid (HM2.out.below hb5); have HB5 := Lib.hid (pbT HB4.out hb5)
 clear hb5
 go_wp2_with fail
 refine (find_a x2 v4 _ (HR5.out.below (pbA (Below.refl _ _) _)) HX2.out).mono ?_
 rintro e w6 ⟨rfl, hb6⟩
 have HD6 := Lib.hid (bkB (heap_alloc_new w5 _) hb6); have HR6 := Lib.hid ((HR5.out.below (pbA (Below.refl _ _) _)).below hb6); have HM2 := Lib.hid ((HM2.out.below (pbA (Below.refl _ _) _)).below hb6); have HB6 := Lib.hid (pbT (pbA HB5.out _) hb6)
 clear hb6
 go_wp2_with fail
 refine (seek_m _).mono ?_
 rintro e w7 ⟨rfl, hb7⟩
 have HD7 := Lib.hid (bkB (bkA HD6.out _) hb7); have HR7 := Lib.hid ((HR6.out.below (pbA (Below.refl _ _) _)).below hb7); have HM2 := Lib.hid ((HM2.out.below (pbA (Below.refl _ _) _)).below hb7); have HB7 := Lib.hid (pbT (pbA HB6.out _) hb7)
 clear hb7
 go_wp2_with fail
 refine (before_m _).mono ?_
 rintro e w8 ⟨s, rfl, hs1, hs2, hb8⟩
 have HD8 := bkB (bkA HD7.out _) hb8; have HE8 := Lib.hid (bkB (heap_alloc_new w7 _) hb8); have HR8 := Lib.hid ((HR7.out.below (pbA (Below.refl _ _) _)).below hb8); have HM2 := Lib.hid ((HM2.out.below (pbA (Below.refl _ _) _)).below hb8); have HB8 := Lib.hid (pbT (pbA HB7.out _) hb8)
 have d0 : w8.cell? ⟨w5.heap.size, 0, none⟩ = some (.int .i64 2) := (bkC HD8 0).trans rfl
 clear hb8 HD8
 have HS1 := Lib.hid hs1
 have HS2 := Lib.hid hs2
 clear hs1 hs2
 go_wp2_with fail
 refine (one_raw _ _ _ _ _).mono ?_
 rintro e w9 ⟨x3, rfl, hx3, hm3, hb9⟩
 have HX3 := Lib.hid hx3; have HM3 := Lib.hid hm3; have HR9 := Lib.hid (HR8.out.below hb9); have HM2 := Lib.hid (HM2.out.below hb9); have HB9 := Lib.hid (pbT HB8.out hb9); have HE9 := Lib.hid (bkB HE8.out hb9)
 clear hx3 hm3 hb9 d0
 go_wp2_with fail
 refine (learn3 x2 x3 v4 w9 HR9.out HM2.out HM3.out HX2.out HX3.out).mono ?_
 rintro e w10 ⟨A10, c10, rfl, hb10⟩
 have HR10 := Lib.hid (HR9.out.below hb10); have HB10 := Lib.hid (pbT HB9.out hb10); have HE10 := bkB HE9.out hb10
 have e0 : w10.cell? ⟨w7.heap.size, 0, none⟩ = some (.string ⟨#[2, 109, 0]⟩) := (bkC HE10 0).trans rfl
 have e1 : w10.cell? ⟨w7.heap.size, 1, none⟩ = some (.string ⟨#[3]⟩) := (bkC HE10 1).trans rfl
 clear hb10 HE10
 have hs1 := HS1.out
 have hs2 := HS2.out
 go_wp2_with fail
 refine (before_m0 _).mono ?_
 rintro e w11 ⟨rfl, hb11⟩
 have HR11 := Lib.hid (HR10.out.below hb11); have HB11 := Lib.hid (pbT HB10.out hb11)
 clear hb11 e0 e1 hs1 hs2
 go_wp2_with fail
 refine (forget_2 x2 v4 w11 HR11.out HX2.out).mono ?_
 rintro e w12 ⟨A12, c12, rfl, hb12⟩
 have HB12 := Lib.hid (pbT HB11.out hb12)
 clear hb12
 go_wp2
 go_ret
 exact ⟨rfl, HB12.out⟩
end Go.Proofs.Ytppdcldbebnmlaa.P
end
section
namespace Go.Proofs.Ytppdcldbebnmlaa.P
open Go.RowKit Go.Shelf Go.Proofs.Ytppdcldbebnmlaa.K Go.Proofs.YtppdcldbebnmlaaW.PrintWords Go.Proofs.YtppdcldbebnmlaaW.PrintLast Go.Proofs.YtppdcldbebnmlaaW.PrintMore
theorem mem_zero (w : World) : Mem (memOf w) w zeroD := mem_of ⟨[], Kd.C_nil _ _, Nat.le_refl _⟩
theorem memOf_zero (w : World) : memOf w zeroD = [] := List.eq_nil_of_length_eq_zero (Kd.C_len (mem_zero w).1)
/-- What Find finds, or the zero descriptor. -/
def fX (p : RawD → Bool) (l : List RawD) : RawD := (l.find? p).getD zeroD
theorem foundV_eq (p : RawD → Bool) (l : List RawD) : foundV (l.find? p) = .tuple #[aggD (fX p l), .bool (l.find? p).isSome] := by
 unfold fX; cases l.find? p <;> rfl
theorem foundS_eq (σ : RawD → List SM) (hz : σ zeroD = []) (l : List RawD) (key : ByteArray) : foundS ((l.map (toS σ)).find? fun x => hasB x.f1.f0 x.f1.f1 key) = ((toS σ (fX (fun x => hasB x.f1 x.f2 key) l)).f0, (toS σ (fX (fun x => hasB x.f1 x.f2 key) l)).f1.f0, (toS σ (fX (fun x => hasB x.f1 x.f2 key) l)).f1.f1, (toS σ (fX (fun x => hasB x.f1 x.f2 key) l)).f2, (toS σ (fX (fun x => hasB x.f1 x.f2 key) l)).f3, (toS σ (fX (fun x => hasB x.f1 x.f2 key) l)).f4, (l.find? (fun x => hasB x.f1 x.f2 key)).isSome) := by
 rw [List.find?_map]
 unfold fX
 have e : ((fun x : SD => hasB x.f1.f0 x.f1.f1 key) ∘ toS σ) = fun x : RawD => hasB x.f1 x.f2 key := rfl
 rw [e]
 cases l.find? (fun x : RawD => hasB x.f1 x.f2 key) with
 | none =>
  show ((0 : Int), (⟨#[]⟩ : ByteArray), (⟨#[]⟩ : ByteArray), (0 : Int), ([] : List SM), (0 : Int), false) = (0, ⟨#[]⟩, ⟨#[]⟩, 0, σ zeroD, 0, false)
  rw [hz]
 | some x => rfl
theorem fX_mem {p : RawD → Bool} {l : List RawD} : fX p l ∈ l ∨ fX p l = zeroD := by
 unfold fX
 cases h : l.find? p with
 | none => exact .inr rfl
 | some x => exact .inl (List.mem_of_find?_eq_some h)
section
variable {σ : RawD → List SM}
theorem list_calls {w : World} {l : List RawD} {A1 A2 : Option Addr} {c1 c2 : Nat} (h1 : Kd.C kD w A1 l.length l) (h2 : Kd.C kD w A2 l.length l) (hc1 : l.length ≤ c1) (hc2 : l.length ≤ c2) (hl : l.length ≤ 1000000) (hm : ∀ x ∈ l, Mem σ w x ∧ (σ x).length ≤ 1000000000) :
 Calls Try.prog 12 #[.slice A1 l.length c1, .slice A2 l.length c2] w fun e w' => e = .returned (.bool true) ∧ Below w.heap.size w w' := by
 obtain ⟨k, hk⟩ := list_same (l.map (toS σ)) (by rw [List.length_map]; omega) (fun x hx => by obtain ⟨y, hy, rfl⟩ := List.mem_map.1 hx; exact (hm y hy).2)
 have := r18_List.calls k A1 c1 (l.map (toS σ)) A2 c2 (l.map (toS σ)) true w (toC h1 (fun x hx => (hm x hx).1)) (by rw [List.length_map]; exact hc1) (toC h2 (fun x hx => (hm x hx).1)) (by rw [List.length_map]; exact hc2) hk
 rw [List.length_map] at this
 exact this
/-- A list of the document's that reads as the program's. -/
theorem list_calls2 {w : World} {l : List RawD} {A1 A2 : Option Addr} {c1 c2 : Nat} (h1 : Kd.C kD w A1 l.length l) (h2 : Kd.C k27 w A2 l.length (l.map (toS σ))) (hc1 : l.length ≤ c1) (hc2 : l.length ≤ c2) (hl : l.length ≤ 1000000) (hm : ∀ x ∈ l, Mem σ w x ∧ (σ x).length ≤ 1000000000) :
 Calls Try.prog 12 #[.slice A1 l.length c1, .slice A2 l.length c2] w fun e w' => e = .returned (.bool true) ∧ Below w.heap.size w w' := by
 obtain ⟨k, hk⟩ := list_same (l.map (toS σ)) (by rw [List.length_map]; omega) (fun x hx => by obtain ⟨y, hy, rfl⟩ := List.mem_map.1 hx; exact (hm y hy).2)
 have e : (l.map (toS σ)).length = l.length := List.length_map _
 have := r18_List.calls k A1 c1 (l.map (toS σ)) A2 c2 (l.map (toS σ)) true w (toC h1 (fun x hx => (hm x hx).1)) (by omega) (by rw [e]; exact h2) (by omega) hk
 rw [e] at this
 exact this
end
theorem map_del (σ : RawD → List SM) (l : List RawD) (id : Int) : (l.map (toS σ)).filter (fun x => !(x.f0 == id)) = (delF (fun x => x.f0 == id) l).map (toS σ) := by
 unfold delF; rw [List.filter_map]; rfl
theorem refForget_calls {σ : RawD → List SM} {w : World} {l : List RawD} {A : Option Addr} {c : Nat} (id : Int) (h : Kd.C kD w A l.length l) (hc : l.length ≤ c) (hl : l.length ≤ 1000000) (hm : ∀ x ∈ l, Mem σ w x) :
 Calls Try.prog 16 #[.slice A l.length c, .int .i64 id] w fun e w' => ∃ A' c', e = .returned (.slice A' (delF (fun x => x.f0 == id) l).length c') ∧ (delF (fun x => x.f0 == id) l).length ≤ c' ∧ Kd.C k27 w' A' (delF (fun x => x.f0 == id) l).length ((delF (fun x => x.f0 == id) l).map (toS σ)) ∧ Below w.heap.size w w' := by
 have e := refForget_eq (l.map (toS σ)) id (by rw [List.length_map]; omega)
 rw [map_del] at e
 have := r18_Forget.calls ((l.map (toS σ)).length + 1) (fun _ => True) A c (l.map (toS σ)) id _ w (toV h hc hm) e
 rw [List.length_map] at this
 refine this.mono ?_
 rintro e w' ⟨v, rfl, hN, hb⟩
 obtain ⟨A', c', rfl, h1, h2⟩ := Kd.N_V (base' := 0) hN
 rw [List.length_map] at h1 h2
 rw [List.length_map]
 exact ⟨A', c', rfl, h1, Kd.F_now h2, hb⟩
theorem refFind_calls {σ : RawD → List SM} (hz : σ zeroD = []) {w : World} {l : List RawD} {A : Option Addr} {c : Nat} (key : ByteArray) (h : Kd.C kD w A l.length l) (hc : l.length ≤ c) (hl : l.length ≤ 1000000) (hm : ∀ x ∈ l, Mem σ w x) :
 Calls Try.prog 11 #[.slice A l.length c, .string key] w fun e w' => ∃ y : RawD, e = .returned (.tuple #[aggD y, .bool (l.find? (fun x => hasB x.f1 x.f2 key)).isSome]) ∧ Kd.C k47 w' y.a4 y.n4 (σ (fX (fun x => hasB x.f1 x.f2 key) l)) ∧ y.n4 ≤ y.c4 ∧ (y.f0 = (fX (fun x => hasB x.f1 x.f2 key) l).f0 ∧ y.f1 = (fX (fun x => hasB x.f1 x.f2 key) l).f1 ∧ y.f2 = (fX (fun x => hasB x.f1 x.f2 key) l).f2 ∧ y.f3 = (fX (fun x => hasB x.f1 x.f2 key) l).f3 ∧ y.f5 = (fX (fun x => hasB x.f1 x.f2 key) l).f5) ∧ Below w.heap.size w w' := by
 have e := refFind_eq (l.map (toS σ)) key (by rw [List.length_map]; omega)
 rw [foundS_eq σ hz] at e
 have := r18_Find.calls _ (fun _ => True) A c (l.map (toS σ)) key _ _ _ _ _ _ _ w (toV h hc hm) e
 rw [List.length_map] at this
 refine this.mono ?_
 rintro e w' ⟨v, rfl, hV, hb⟩
 obtain ⟨A', c', rfl, h1, h2⟩ := hV
 exact ⟨⟨_, _, _, _, A', _, c', _⟩, rfl, Kd.F_now h2, h1, ⟨rfl, rfl, rfl, rfl, rfl⟩, hb⟩
theorem sameD_calls {σ : RawD → List SM} {w : World} {x y : RawD} (hx : Mem σ w x) (hy : Kd.C k47 w y.a4 y.n4 (σ x)) (hc : y.n4 ≤ y.c4) (he : y.f0 = x.f0 ∧ y.f1 = x.f1 ∧ y.f2 = x.f2 ∧ y.f3 = x.f3 ∧ y.f5 = x.f5) (hl : (σ x).length ≤ 1000000000) :
 Calls Try.prog 17 #[.agg #[.int .i64 x.f0, .string x.f1, .string x.f2, .int .i64 x.f3, .slice x.a4 x.n4 x.c4, .int .i64 x.f5], .agg #[.int .i64 y.f0, .string y.f1, .string y.f2, .int .i64 y.f3, .slice y.a4 y.n4 y.c4, .int .i64 y.f5]] w fun e w' => e = .returned (.bool true) ∧ Below w.heap.size w w' := by
 obtain ⟨h1, h2⟩ := hx
 obtain ⟨e0, e1, e2, e3, e5⟩ := he
 have n1 := Kd.C_len h1
 have n2 := Kd.C_len hy
 have hs : sameS (toS σ x) ⟨y.f0, ⟨y.f1, y.f2⟩, y.f3, σ x, y.f5⟩ = true := sameS_iff.2 (by unfold toS; rw [e0, e1, e2, e3, e5])
 have := r06_Same.calls ((σ x).length + 1) x.f0 x.f1 x.f2 x.f3 x.a4 x.c4 (σ x) x.f5 y.f0 y.f1 y.f2 y.f3 y.a4 y.c4 (σ x) y.f5 true w (by rw [n1]; exact h1) (by omega) (by rw [n2]; exact hy) (by omega) ((refSame_eq (x := toS σ x) (y := ⟨y.f0, ⟨y.f1, y.f2⟩, y.f3, σ x, y.f5⟩) hl (Nat.lt_succ_self _)).trans (congrArg some hs))
 rw [n1] at this
 rw [show y.n4 = x.n4 from n2.symm.trans n1]
 exact this
set_option maxHeartbeats 16000000 in
set_option maxRecDepth 100000 in
theorem learns_main (A0 : Option Addr) (c0 : Nat) (rs : List RawD) (d : RawD) (id : Int) (key : ByteArray) (w : World) (hr0 : Kd.C kD w A0 rs.length rs) (hc0 : rs.length ≤ c0) (hm : ∀ x ∈ rs, Mem (memOf w) w x) (hd : Mem (memOf w) w d) (hf : ∀ x ∈ rs.map (toS (memOf w)), Fits x) (hfd : Fits (toS (memOf w) d)) :
 Calls Try.prog 3 #[.slice A0 rs.length c0, .agg #[.int .i64 d.f0, .string d.f1, .string d.f2, .int .i64 d.f3, .slice d.a4 d.n4 d.c4, .int .i64 d.f5], .int .i64 id, .string key] w fun e w' => e = .returned (.bool true) ∧ Below w.heap.size w w' := by
 generalize hσ : memOf w = σ at hm hd hf hfd
 have hz : σ zeroD = [] := by rw [← hσ]; exact memOf_zero w
 have hmz : Mem σ w zeroD := by rw [← hσ]; exact mem_zero w
 clear hσ
 have hL : ∀ W, Hid (Calls Try.prog 9 #[] W fun e w' => e = .returned (.bool true) ∧ Below W.heap.size W w') := fun W => Lib.hid (live_calls W)
 have hu := Try.underlying27
 have hu2 := Try.underlying24
 have HC := Lib.hid hr0
 have Hc0 := Lib.hid hc0
 have Hm := Lib.hid hm
 have Hd := Lib.hid hd
 have Hz := Lib.hid hz
 have Hmz := Lib.hid hmz
 obtain ⟨k1, b1, hk1, hb1⟩ := small_once (rs.map (toS σ)) hf
 obtain ⟨k2, b2, hk2, hb2⟩ := small_once [toS σ d] (fun x hx => by rw [List.mem_singleton.1 hx]; exact hfd)
 have hS1 : ∀ W, Below w.heap.size w W → Hid (Calls Try.prog 6 #[.slice A0 rs.length c0] W fun e w' => e = .returned (.bool b1) ∧ Drawn0 W w') := fun W hW => by
  have := l18_small.calls k1 A0 c0 (rs.map (toS σ)) b1 W (toC (Kd.C_below HC.out hW) (fun x hx => (Hm.out x hx).below hW)) (by rw [List.length_map]; exact hc0) hk1
  rw [List.length_map] at this
  exact Lib.hid this
 have hS2 : ∀ W g, Below w.heap.size w W → W.heap[g]? = some (.cells #[.int .i64 d.f0, .string d.f1, .string d.f2, .int .i64 d.f3, .slice d.a4 d.n4 d.c4, .int .i64 d.f5] 27 (0, 0)) → Hid (Calls Try.prog 6 #[.slice (some ⟨g, 0, none⟩) 1 1] W fun e w' => e = .returned (.bool b2) ∧ Drawn0 W w') := fun W g hW hg => by
  have hR := raw_of_block (hk := encD_len) (h1 := encD_one) (e := 27) (base := 0) [d] hg (Nat.zero_le _) (by simp)
  exact Lib.hid (l18_small.calls k2 (some ⟨g, 0, none⟩) 1 [toS σ d] b2 W (toC (σ := σ) (l := [d]) (Kd.R_reads' hR).2.2 (fun x hx => by rw [List.mem_singleton.1 hx]; exact Hd.out.below hW)) (Nat.le_refl _) hk2)
 clear hr0 hc0 hm hd hz hmz hf hfd hk1 hk2
 cases b1
 ·clear hb1 hb2 hS2
  go_enter Try.func3, Try.ntmps3
  go_wp2_with (first | (go_at_call 6; (with_reducible refine (hS1 _ ?_).out.mono ?_); ((with_reducible repeat (first | apply below_drew | apply pbA | apply pbN)); first | exact HBq.out | exact Below.refl _ _); rintro e w1 ⟨rfl, ⟨nd, rfl⟩⟩) | (go_at_call 9; refine (hL _).out.mono ?_; rintro e w2 ⟨rfl, hb⟩))
  go_ret
  exact ⟨rfl, pbT (by ((with_reducible repeat (first | apply below_drew | apply pbA | apply pbN)); first | exact HBq.out | exact Below.refl _ _)) hb⟩
 ·obtain ⟨hl1, hl2⟩ := hb1 rfl
  have Hl1 : Hid (rs.length ≤ 30) := Lib.hid (by rw [List.length_map] at hl1; exact hl1)
  have Hl2 : Hid (∀ x ∈ rs, (σ x).length ≤ 2000) := Lib.hid (fun x hx => hl2 (toS σ x) (List.mem_map_of_mem hx))
  clear hb1 hl1 hl2
  cases b2
  ·clear hb2
   go_enter Try.func3, Try.ntmps3
   go_wp2_with (first | (go_at_call 6; (with_reducible refine (hS1 _ ?_).out.mono ?_); ((with_reducible repeat (first | apply below_drew | apply pbA | apply pbN)); first | exact HBq.out | exact Below.refl _ _); rintro e w1 ⟨rfl, ⟨nd, rfl⟩⟩) | (go_at_call 6; (with_reducible refine (hS2 _ _ ?_ ?_).out.mono ?_); ((with_reducible repeat (first | apply below_drew | apply pbA | apply pbN)); first | exact HBq.out | exact Below.refl _ _); ((with_reducible repeat (first | refine bkD ?_ | refine bkN ?_ _)); first | exact heap_alloc_new _ _ | exact blk_second _ _ _ | (rw [show w.heap.size + 1 = ((w.alloc _).drewN _).heap.size by simp]; exact heap_alloc_new _ _)); rintro e w1 ⟨rfl, ⟨nd2, rfl⟩⟩) | (go_at_call 9; refine (hL _).out.mono ?_; rintro e w2 ⟨rfl, hb⟩))
   go_ret
   exact ⟨rfl, pbT (by ((with_reducible repeat (first | apply below_drew | apply pbA | apply pbN)); first | exact HBq.out | exact Below.refl _ _)) hb⟩
  ·have Hd2 : Hid ((σ d).length ≤ 2000) := Lib.hid ((hb2 rfl).2 (toS σ d) (List.mem_singleton.2 rfl))
   clear hb2
   by_cases hk : key.size ≤ 2000
   ·have q1 : decide ((2000 : Int) < (key.size : Int)) = false := decide_eq_false (by omega)
    clear hk
    have hmap : (rs.map (toS σ)).length = rs.length := List.length_map _
    obtain ⟨k3, hk3⟩ := (isC_ev (l := rs.map (toS σ)) (by have := Hl1.out; omega) (fun x hx => by obtain ⟨y, hy, rfl⟩ := List.mem_map.1 hx; have := Hl2.out y hy; show (σ y).length ≤ _; omega)).rounds
    obtain ⟨k4, hk4⟩ := (isD_ev (x := toS σ d) (by have := Hd2.out; show (σ d).length ≤ _; omega)).rounds
    have hIC : ∀ W, Below w.heap.size w W → Hid (Calls Try.prog 7 #[.slice A0 rs.length c0] W fun e w' => e = .returned (.bool (isC (rs.map (toS σ)))) ∧ Below W.heap.size W w') := fun W hW => by
     have := r18_Is.calls k3 A0 c0 (rs.map (toS σ)) _ W (toC (Kd.C_below HC.out hW) (fun x hx => (Hm.out x hx).below hW)) (by rw [hmap]; exact Hc0.out) hk3
     rw [hmap] at this
     exact Lib.hid this
    have hID : ∀ W, Below w.heap.size w W → Hid (Calls Try.prog 8 #[.agg #[.int .i64 d.f0, .string d.f1, .string d.f2, .int .i64 d.f3, .slice d.a4 d.n4 d.c4, .int .i64 d.f5]] W fun e w' => e = .returned (.bool (isD (toS σ d))) ∧ Below W.heap.size W w') := fun W hW => by
     obtain ⟨g1, g2⟩ := Hd.out.below hW
     have n1 := Kd.C_len g1
     have := r06_Is.calls k4 d.f0 d.f1 d.f2 d.f3 d.a4 d.c4 (σ d) d.f5 _ W (by rw [n1]; exact g1) (by omega) hk4
     rw [n1] at this
     exact Lib.hid this
    clear hk3 hk4 hmap
    cases hcc : isC (rs.map (toS σ))
    ·rw [hcc] at hIC
     clear hID hcc
     go_enter Try.func3, Try.ntmps3
     go_wp2_with (first | (go_at_call 6; (with_reducible refine (hS1 _ ?_).out.mono ?_); ((with_reducible repeat (first | apply below_drew | apply pbA | apply pbN)); first | exact HBq.out | exact Below.refl _ _); rintro e w1 ⟨rfl, ⟨nd, rfl⟩⟩) | (go_at_call 6; (with_reducible refine (hS2 _ _ ?_ ?_).out.mono ?_); ((with_reducible repeat (first | apply below_drew | apply pbA | apply pbN)); first | exact HBq.out | exact Below.refl _ _); ((with_reducible repeat (first | refine bkD ?_ | refine bkN ?_ _)); first | exact heap_alloc_new _ _ | exact blk_second _ _ _ | (rw [show w.heap.size + 1 = ((w.alloc _).drewN _).heap.size by simp]; exact heap_alloc_new _ _)); rintro e w1 ⟨rfl, ⟨nd2, rfl⟩⟩) | (go_at_call 7; (with_reducible refine (hIC _ ?_).out.mono ?_); ((with_reducible repeat (first | apply below_drew | apply pbA | apply pbN)); first | exact HBq.out | exact Below.refl _ _); rintro e w3 ⟨rfl, hb3⟩; have BX : w3.heap[w.heap.size]? = some (.cells #[.int .i64 d.f0, .string d.f1, .string d.f2, .int .i64 d.f3, .slice d.a4 d.n4 d.c4, .int .i64 d.f5] 27 (0, 0)) := bkB (by (with_reducible repeat (first | exact heap_alloc_new _ _ | refine bkD ?_ | refine bkN ?_ _ | refine bkA ?_ _))) hb3; have HBq := Lib.hid (pbT (by ((with_reducible repeat (first | apply below_drew | apply pbA | apply pbN)); first | exact HBq.out | exact Below.refl _ _)) hb3); have HX := Lib.hid BX; have d0 : w3.cell? ⟨w.heap.size, 0, none⟩ = some (.int .i64 d.f0) := (bkC BX 0).trans rfl; have d1 : w3.cell? ⟨w.heap.size, 1, none⟩ = some (.string d.f1) := (bkC BX 1).trans rfl; have d2 : w3.cell? ⟨w.heap.size, 2, none⟩ = some (.string d.f2) := (bkC BX 2).trans rfl; have d3 : w3.cell? ⟨w.heap.size, 3, none⟩ = some (.int .i64 d.f3) := (bkC BX 3).trans rfl; have d4 : w3.cell? ⟨w.heap.size, 4, none⟩ = some (.slice d.a4 d.n4 d.c4) := (bkC BX 4).trans rfl; have d5 : w3.cell? ⟨w.heap.size, 5, none⟩ = some (.int .i64 d.f5) := (bkC BX 5).trans rfl; clear hb3 BX) | (go_at_call 9; refine (hL _).out.mono ?_; rintro e w2 ⟨rfl, hb⟩))
     go_ret
     exact ⟨rfl, pbT (by ((with_reducible repeat (first | apply below_drew | apply pbA | apply pbN)); first | exact HBq.out | exact Below.refl _ _)) hb⟩
    ·have Hcc : Hid (RC σ rs) := Lib.hid ((isC_iff _).1 hcc)
     rw [hcc] at hIC
     clear hcc
     cases hdd : isD (toS σ d)
     ·rw [hdd] at hID
      clear hdd
      go_enter Try.func3, Try.ntmps3
      go_wp2_with (first | (go_at_call 6; (with_reducible refine (hS1 _ ?_).out.mono ?_); ((with_reducible repeat (first | apply below_drew | apply pbA | apply pbN)); first | exact HBq.out | exact Below.refl _ _); rintro e w1 ⟨rfl, ⟨nd, rfl⟩⟩) | (go_at_call 6; (with_reducible refine (hS2 _ _ ?_ ?_).out.mono ?_); ((with_reducible repeat (first | apply below_drew | apply pbA | apply pbN)); first | exact HBq.out | exact Below.refl _ _); ((with_reducible repeat (first | refine bkD ?_ | refine bkN ?_ _)); first | exact heap_alloc_new _ _ | exact blk_second _ _ _ | (rw [show w.heap.size + 1 = ((w.alloc _).drewN _).heap.size by simp]; exact heap_alloc_new _ _)); rintro e w1 ⟨rfl, ⟨nd2, rfl⟩⟩) | (go_at_call 7; (with_reducible refine (hIC _ ?_).out.mono ?_); ((with_reducible repeat (first | apply below_drew | apply pbA | apply pbN)); first | exact HBq.out | exact Below.refl _ _); rintro e w3 ⟨rfl, hb3⟩; have BX : w3.heap[w.heap.size]? = some (.cells #[.int .i64 d.f0, .string d.f1, .string d.f2, .int .i64 d.f3, .slice d.a4 d.n4 d.c4, .int .i64 d.f5] 27 (0, 0)) := bkB (by (with_reducible repeat (first | exact heap_alloc_new _ _ | refine bkD ?_ | refine bkN ?_ _ | refine bkA ?_ _))) hb3; have HBq := Lib.hid (pbT (by ((with_reducible repeat (first | apply below_drew | apply pbA | apply pbN)); first | exact HBq.out | exact Below.refl _ _)) hb3); have HX := Lib.hid BX; have d0 : w3.cell? ⟨w.heap.size, 0, none⟩ = some (.int .i64 d.f0) := (bkC BX 0).trans rfl; have d1 : w3.cell? ⟨w.heap.size, 1, none⟩ = some (.string d.f1) := (bkC BX 1).trans rfl; have d2 : w3.cell? ⟨w.heap.size, 2, none⟩ = some (.string d.f2) := (bkC BX 2).trans rfl; have d3 : w3.cell? ⟨w.heap.size, 3, none⟩ = some (.int .i64 d.f3) := (bkC BX 3).trans rfl; have d4 : w3.cell? ⟨w.heap.size, 4, none⟩ = some (.slice d.a4 d.n4 d.c4) := (bkC BX 4).trans rfl; have d5 : w3.cell? ⟨w.heap.size, 5, none⟩ = some (.int .i64 d.f5) := (bkC BX 5).trans rfl; clear hb3 BX) | (go_at_call 8; (with_reducible refine (hID _ ?_).out.mono ?_); ((with_reducible repeat (first | apply below_drew | apply pbA | apply pbN)); first | exact HBq.out | exact Below.refl _ _); rintro e w4 ⟨rfl, hb4⟩; have HX := Lib.hid (bkB HX.out hb4); have HBq := Lib.hid (pbT HBq.out hb4); clear hb4 d0 d1 d2 d3 d4 d5) | (go_at_call 9; refine (hL _).out.mono ?_; rintro e w2 ⟨rfl, hb⟩))
      go_ret
      exact ⟨rfl, pbT (by ((with_reducible repeat (first | apply below_drew | apply pbA | apply pbN)); first | exact HBq.out | exact Below.refl _ _)) hb⟩
     ·have Hdd := Lib.hid hdd
      rw [hdd] at hID
      clear hdd
      obtain ⟨X, hX⟩ : ∃ X, X = fX (fun x => hasB x.f1 x.f2 key) rs := ⟨_, rfl⟩
      obtain ⟨ob, hob⟩ : ∃ ob, ob = (rs.find? (fun x => hasB x.f1 x.f2 key)).isSome := ⟨_, rfl⟩
      have hFd : ∀ W A c, Kd.C kD W A rs.length rs → Hid (Calls Try.prog 10 #[.slice A rs.length c, .string key] W fun e w' => e = .returned (.tuple #[.agg #[.int .i64 X.f0, .string X.f1, .string X.f2, .int .i64 X.f3, .slice X.a4 X.n4 X.c4, .int .i64 X.f5], .bool ob]) ∧ Below W.heap.size W w') := fun W A c h => by
       have := find_calls A c rs key W h (by have := Hl1.out; omega)
       rw [foundV_eq, ← hX, ← hob] at this
       exact Lib.hid this
      have hRF : ∀ W, Below w.heap.size w W → Hid (Calls Try.prog 11 #[.slice A0 rs.length c0, .string key] W fun e w' => ∃ y : RawD, e = .returned (.tuple #[.agg #[.int .i64 y.f0, .string y.f1, .string y.f2, .int .i64 y.f3, .slice y.a4 y.n4 y.c4, .int .i64 y.f5], .bool ob]) ∧ Kd.C k47 w' y.a4 y.n4 (σ X) ∧ y.n4 ≤ y.c4 ∧ (y.f0 = X.f0 ∧ y.f1 = X.f1 ∧ y.f2 = X.f2 ∧ y.f3 = X.f3 ∧ y.f5 = X.f5) ∧ Below W.heap.size W w') := fun W hW => by
       have := refFind_calls (σ := σ) Hz.out key (Kd.C_below HC.out hW) Hc0.out (by have := Hl1.out; omega) (fun x hx => (Hm.out x hx).below hW)
       rw [← hX, ← hob] at this
       exact Lib.hid this
      have HmX : Hid (Mem σ w X ∧ (σ X).length ≤ 1000000000) := Lib.hid (by
       rw [hX]
       rcases fX_mem (p := fun x => hasB x.f1 x.f2 key) (l := rs) with h | h
       ·exact ⟨Hm.out _ h, by have := Hl2.out _ h; omega⟩
       ·rw [h]; exact ⟨Hmz.out, by rw [Hz.out]; simp⟩)
      clear hX hob
      go_enter Try.func3, Try.ntmps3
      go_wp2_with (first | (go_at_call 6; (with_reducible refine (hS1 _ ?_).out.mono ?_); ((with_reducible repeat (first | apply below_drew | apply pbA | apply pbN)); first | exact HBq.out | exact Below.refl _ _); rintro e w1 ⟨rfl, ⟨nd, rfl⟩⟩) | (go_at_call 6; (with_reducible refine (hS2 _ _ ?_ ?_).out.mono ?_); ((with_reducible repeat (first | apply below_drew | apply pbA | apply pbN)); first | exact HBq.out | exact Below.refl _ _); ((with_reducible repeat (first | refine bkD ?_ | refine bkN ?_ _)); first | exact heap_alloc_new _ _ | exact blk_second _ _ _ | (rw [show w.heap.size + 1 = ((w.alloc _).drewN _).heap.size by simp]; exact heap_alloc_new _ _)); rintro e w1 ⟨rfl, ⟨nd2, rfl⟩⟩) | (go_at_call 7; (with_reducible refine (hIC _ ?_).out.mono ?_); ((with_reducible repeat (first | apply below_drew | apply pbA | apply pbN)); first | exact HBq.out | exact Below.refl _ _); rintro e w3 ⟨rfl, hb3⟩; have BX : w3.heap[w.heap.size]? = some (.cells #[.int .i64 d.f0, .string d.f1, .string d.f2, .int .i64 d.f3, .slice d.a4 d.n4 d.c4, .int .i64 d.f5] 27 (0, 0)) := bkB (by (with_reducible repeat (first | exact heap_alloc_new _ _ | refine bkD ?_ | refine bkN ?_ _ | refine bkA ?_ _))) hb3; have HBq := Lib.hid (pbT (by ((with_reducible repeat (first | apply below_drew | apply pbA | apply pbN)); first | exact HBq.out | exact Below.refl _ _)) hb3); have HX := Lib.hid BX; have d0 : w3.cell? ⟨w.heap.size, 0, none⟩ = some (.int .i64 d.f0) := (bkC BX 0).trans rfl; have d1 : w3.cell? ⟨w.heap.size, 1, none⟩ = some (.string d.f1) := (bkC BX 1).trans rfl; have d2 : w3.cell? ⟨w.heap.size, 2, none⟩ = some (.string d.f2) := (bkC BX 2).trans rfl; have d3 : w3.cell? ⟨w.heap.size, 3, none⟩ = some (.int .i64 d.f3) := (bkC BX 3).trans rfl; have d4 : w3.cell? ⟨w.heap.size, 4, none⟩ = some (.slice d.a4 d.n4 d.c4) := (bkC BX 4).trans rfl; have d5 : w3.cell? ⟨w.heap.size, 5, none⟩ = some (.int .i64 d.f5) := (bkC BX 5).trans rfl; clear hb3 BX) | (go_at_call 8; (with_reducible refine (hID _ ?_).out.mono ?_); ((with_reducible repeat (first | apply below_drew | apply pbA | apply pbN)); first | exact HBq.out | exact Below.refl _ _); rintro e w4 ⟨rfl, hb4⟩; have HX := Lib.hid (bkB HX.out hb4); have HBq := Lib.hid (pbT HBq.out hb4); clear hb4 d0 d1 d2 d3 d4 d5) | ((with_reducible refine gate_dst (N := 39) rfl ?_); refine Kd.R_lit kD (w0 := w4) w4.heap.size 27 ?hg (N := 39) ?hd (xs := ([] : List RawD)) (inner := []) (ok := fun _ => True) (okp := fun _ => True) ?hr ?hp (fun _ hk => hk) trivial (Below.refl _ _) (Nat.le_refl _) (by simp) ?_; (case hd => rfl); (case hg => rfl); (case hr => first | (go_simp; done) | (go_simp; rfl)); (case hp => exact (Reps.none _ _)); intro v5 w5 ho5 hb5 _ _) | ((with_reducible refine gate_builtin (b := .append) (xs := #[.tmp 39, .tmp 40]) rfl ?_); at_builtin; refine Kd.R_append_rows kD (Rr := fun x cs => cs = encD x) (w0 := w4) w4.heap.size rfl (.tmp 39) (.tmp 40) 22 27 (.agg #[.int .i64 0, .string ⟨#[]⟩, .string ⟨#[]⟩, .int .i64 0, .slice none 0 0, .int .i64 0]) 80 rfl Try.underlying22 infoD rfl (by decide) (by omega) v5 [] rs _ _ _ (fun _ => True) (fun _ => False) rfl rfl ?aO ?aR (fun _ _ h => h) (fun _ h => h.elim) ?aF ?aB ?aS ?aL ?_; (case aR => exact Kd.C_below HC.out (pbT HBq.out hb5)); (case aF => exact fun _ _ => trivial); (case aB => exact hb5); (case aS => exact hb5.size); (case aL => have := Hl1.out; simp; omega); (case aO => exact ho5); intro v6 w6 ho6 hb6 _ _; rw [List.nil_append] at ho6; obtain ⟨A3, c3, rfl, h63, h64⟩ := Kd.R_reads ho6; have HG := Lib.hid h64; have Hc3 := Lib.hid h63; have HX := Lib.hid (bkB HX.out hb6); have HBq := Lib.hid (pbT HBq.out hb6); clear ho5 hb5 ho6 hb6 h63 h64) | (go_at_call 10; (with_reducible refine (hFd _ A3 c3 HG.out).out.mono ?_); rintro e w7 ⟨rfl, hb7⟩; have HG := Lib.hid (Kd.C_below HG.out hb7); have HX := Lib.hid (bkB HX.out hb7); have HBq := Lib.hid (pbT HBq.out hb7); clear hb7) | (go_at_call 11; (with_reducible refine (hRF _ ?_).out.mono ?_); ((with_reducible repeat (first | apply below_drew | apply pbA | apply pbN)); first | exact HBq.out | exact Below.refl _ _); rintro e w8 ⟨y, rfl, hy1, hy2, hy3, hb8⟩; have HG := Lib.hid (Kd.C_below (Kd.C_alloc HG.out _) hb8); have HX := Lib.hid (bkB (bkA HX.out _) hb8); have HXx := Lib.hid (bkB (heap_alloc_new w7 _) hb8); have HBq := Lib.hid (pbT (pbA HBq.out _) hb8); have Hy1 := Lib.hid hy1; have Hy2 := Lib.hid hy2; have Hy3 := Lib.hid hy3; clear hy1 hy2 hy3 hb8))
      obtain ⟨Wr, hWr⟩ : ∃ Wr, Wr = w8.alloc (.cells #[.int .i64 y.f0, .string y.f1, .string y.f2, .int .i64 y.f3, .slice y.a4 y.n4 y.c4, .int .i64 y.f5] 27) := ⟨_, rfl⟩
      rw [← hWr]
      have HBr : Hid (Below w.heap.size w Wr) := Lib.hid (by rw [hWr]; exact pbA HBq.out _)
      have HXr : Hid (Wr.heap[w.heap.size]? = some (.cells #[.int .i64 d.f0, .string d.f1, .string d.f2, .int .i64 d.f3, .slice d.a4 d.n4 d.c4, .int .i64 d.f5] 27 (0, 0))) := Lib.hid (by rw [hWr]; exact bkA HX.out _)
      have HXxr : Hid (Wr.heap[w7.heap.size]? = some (.cells #[.int .i64 X.f0, .string X.f1, .string X.f2, .int .i64 X.f3, .slice X.a4 X.n4 X.c4, .int .i64 X.f5] 27 (0, 0))) := Lib.hid (by rw [hWr]; exact bkA HXx.out _)
      have HYr : Hid (Wr.heap[w8.heap.size]? = some (.cells #[.int .i64 y.f0, .string y.f1, .string y.f2, .int .i64 y.f3, .slice y.a4 y.n4 y.c4, .int .i64 y.f5] 27 (0, 0))) := Lib.hid (by rw [hWr]; exact heap_alloc_new _ _)
      have HGr : Hid (Kd.C kD Wr A3 rs.length rs) := Lib.hid (by rw [hWr]; exact Kd.C_alloc HG.out _)
      have Hy1r : Hid (Kd.C k47 Wr y.a4 y.n4 (σ X)) := Lib.hid (by rw [hWr]; exact Kd.C_alloc Hy1.out _)
      clear hWr HBq HX HXx HG Hy1 hS1 hS2 hIC hID hFd hRF
      have d0 : Wr.cell? ⟨w.heap.size, 0, none⟩ = some (.int .i64 d.f0) := (bkC HXr.out 0).trans rfl
      have d1 : Wr.cell? ⟨w.heap.size, 1, none⟩ = some (.string d.f1) := (bkC HXr.out 1).trans rfl
      have d2 : Wr.cell? ⟨w.heap.size, 2, none⟩ = some (.string d.f2) := (bkC HXr.out 2).trans rfl
      have d3 : Wr.cell? ⟨w.heap.size, 3, none⟩ = some (.int .i64 d.f3) := (bkC HXr.out 3).trans rfl
      have d4 : Wr.cell? ⟨w.heap.size, 4, none⟩ = some (.slice d.a4 d.n4 d.c4) := (bkC HXr.out 4).trans rfl
      have d5 : Wr.cell? ⟨w.heap.size, 5, none⟩ = some (.int .i64 d.f5) := (bkC HXr.out 5).trans rfl
      have x0 : Wr.cell? ⟨w7.heap.size, 0, none⟩ = some (.int .i64 X.f0) := (bkC HXxr.out 0).trans rfl
      have x1 : Wr.cell? ⟨w7.heap.size, 1, none⟩ = some (.string X.f1) := (bkC HXxr.out 1).trans rfl
      have x2 : Wr.cell? ⟨w7.heap.size, 2, none⟩ = some (.string X.f2) := (bkC HXxr.out 2).trans rfl
      have x3 : Wr.cell? ⟨w7.heap.size, 3, none⟩ = some (.int .i64 X.f3) := (bkC HXxr.out 3).trans rfl
      have x4 : Wr.cell? ⟨w7.heap.size, 4, none⟩ = some (.slice X.a4 X.n4 X.c4) := (bkC HXxr.out 4).trans rfl
      have x5 : Wr.cell? ⟨w7.heap.size, 5, none⟩ = some (.int .i64 X.f5) := (bkC HXxr.out 5).trans rfl
      have y0 : Wr.cell? ⟨w8.heap.size, 0, none⟩ = some (.int .i64 y.f0) := (bkC HYr.out 0).trans rfl
      have y1 : Wr.cell? ⟨w8.heap.size, 1, none⟩ = some (.string y.f1) := (bkC HYr.out 1).trans rfl
      have y2 : Wr.cell? ⟨w8.heap.size, 2, none⟩ = some (.string y.f2) := (bkC HYr.out 2).trans rfl
      have y3 : Wr.cell? ⟨w8.heap.size, 3, none⟩ = some (.int .i64 y.f3) := (bkC HYr.out 3).trans rfl
      have y4 : Wr.cell? ⟨w8.heap.size, 4, none⟩ = some (.slice y.a4 y.n4 y.c4) := (bkC HYr.out 4).trans rfl
      have y5 : Wr.cell? ⟨w8.heap.size, 5, none⟩ = some (.int .i64 y.f5) := (bkC HYr.out 5).trans rfl
      have hBd := blk_lt HXr.out
      have hBx := blk_lt HXxr.out
      have hBy := blk_lt HYr.out
      have hmem1 : ∀ l1, Learnt σ d rs l1 → ∀ x ∈ l1, Mem σ w x ∧ (σ x).length ≤ 1000000000 := fun l1 h x hx => by
       rcases (learn_cache Hcc.out Hdd.out h).2.2 x hx with h' | h'
       ·exact ⟨Hm.out x h', by have := Hl2.out x h'; omega⟩
       ·rw [h']; exact ⟨Hd.out, by have := Hd2.out; omega⟩
      have hlen1 : ∀ l1, Learnt σ d rs l1 → l1.length ≤ 1000000 := fun l1 h => by
       have := Hl1.out
       cases hany : rs.any (later σ d)
       ·have e := (h.2 hany).1.length_eq
        rw [List.length_append] at e
        have : (delF (dropP d) rs).length ≤ rs.length := List.length_filter_le _ _
        simp only [List.length_cons, List.length_nil] at e
        omega
       ·rw [h.1 hany]; omega
      obtain ⟨DL, hDL⟩ : ∃ DL, DL = delF (fun x : RawD => x.f0 == id) rs := ⟨_, rfl⟩
      have HDl : Hid (DL.length ≤ 1000000) := Lib.hid (by have : (delF (fun x : RawD => x.f0 == id) rs).length ≤ rs.length := List.length_filter_le _ _; have := Hl1.out; rw [hDL]; omega)
      have HDm : Hid (∀ x ∈ DL, Mem σ w x ∧ (σ x).length ≤ 1000000000) := Lib.hid (fun x hx => by rw [hDL] at hx; have h := (List.mem_filter.1 hx).1; exact ⟨Hm.out x h, by have := Hl2.out x h; omega⟩)
      have hLn : ∀ W, Below Wr.heap.size Wr W → Hid (Calls Try.prog 13 #[.slice A3 rs.length c3, .agg #[.int .i64 d.f0, .string d.f1, .string d.f2, .int .i64 d.f3, .slice d.a4 d.n4 d.c4, .int .i64 d.f5]] W fun e w' => ∃ v l', e = .returned v ∧ Reads w' l' v ∧ Learnt σ d rs l' ∧ Below W.heap.size W w') := fun W hW => Lib.hid (learn_calls σ A3 c3 rs d W (Kd.C_below HGr.out hW) Hc3.out (by have := Hl1.out; omega) (fun x hx => ⟨(Hm.out x hx).below (pbT HBr.out hW), by have := Hl2.out x hx; omega⟩) (Hd.out.below (pbT HBr.out hW)))
      have hRL : ∀ W, Below Wr.heap.size Wr W → Hid (Calls Try.prog 14 #[.slice A0 rs.length c0, .agg #[.int .i64 d.f0, .string d.f1, .string d.f2, .int .i64 d.f3, .slice d.a4 d.n4 d.c4, .int .i64 d.f5]] W fun e w' => ∃ v l', e = .returned v ∧ Reads w' l' v ∧ RefLearnt σ d rs l' ∧ Below W.heap.size W w') := fun W hW => Lib.hid (refLearn_calls σ A0 c0 rs d W (Kd.C_below HC.out (pbT HBr.out hW)) Hc0.out (by have := Hl1.out; omega) (fun x hx => ⟨(Hm.out x hx).below (pbT HBr.out hW), by have := Hl2.out x hx; omega⟩) (Hd.out.below (pbT HBr.out hW)))
      have hFg : ∀ W, Below Wr.heap.size Wr W → Hid (Calls Try.prog 15 #[.slice A3 rs.length c3, .int .i64 id] W fun e w' => ∃ A c, e = .returned (.slice A DL.length c) ∧ DL.length ≤ c ∧ Kd.C kD w' A DL.length DL ∧ Below W.heap.size W w') := fun W hW => Lib.hid ((forget_calls A3 c3 rs id W (Kd.C_below HGr.out hW) (by have := Hl1.out; omega)).mono (fun e w' h => by
       obtain ⟨v, he, hR, hb⟩ := h
       rw [← hDL] at hR
       obtain ⟨A, c, hv, g1, g2⟩ := Kd.R_reads hR
       exact ⟨A, c, by rw [he, hv], g1, g2, hb⟩))
      have hRG : ∀ W, Below Wr.heap.size Wr W → Hid (Calls Try.prog 16 #[.slice A0 rs.length c0, .int .i64 id] W fun e w' => ∃ A c, e = .returned (.slice A DL.length c) ∧ DL.length ≤ c ∧ Kd.C k27 w' A DL.length (DL.map (toS σ)) ∧ Below W.heap.size W w') := fun W hW => Lib.hid (by rw [hDL]; exact refForget_calls (σ := σ) id (Kd.C_below HC.out (pbT HBr.out hW)) Hc0.out (by have := Hl1.out; omega) (fun x hx => (Hm.out x hx).below (pbT HBr.out hW)))
      have hSm : ∀ W, Below Wr.heap.size Wr W → Hid (Calls Try.prog 17 #[.agg #[.int .i64 X.f0, .string X.f1, .string X.f2, .int .i64 X.f3, .slice X.a4 X.n4 X.c4, .int .i64 X.f5], .agg #[.int .i64 y.f0, .string y.f1, .string y.f2, .int .i64 y.f3, .slice y.a4 y.n4 y.c4, .int .i64 y.f5]] W fun e w' => e = .returned (.bool true) ∧ Below W.heap.size W w') := fun W hW => Lib.hid (sameD_calls (σ := σ) (HmX.out.1.below (pbT HBr.out hW)) (Kd.C_below Hy1r.out hW) Hy2.out Hy3.out HmX.out.2)
      have hLs3 : ∀ W, Below Wr.heap.size Wr W → Hid (Calls Try.prog 12 #[.slice A3 rs.length c3, .slice A0 rs.length c0] W fun e w' => e = .returned (.bool true) ∧ Below W.heap.size W w') := fun W hW => Lib.hid (list_calls (σ := σ) (Kd.C_below HGr.out hW) (Kd.C_below HC.out (pbT HBr.out hW)) Hc3.out Hc0.out (by have := Hl1.out; omega) (fun x hx => ⟨(Hm.out x hx).below (pbT HBr.out hW), by have := Hl2.out x hx; omega⟩))
      clear HXr HXxr HYr hDL
      replace hmem1 := Lib.hid hmem1
      replace hlen1 := Lib.hid hlen1
      go_region_held3 (fun w' => w'.cell? ⟨w.heap.size, 0, none⟩ = some (.int .i64 d.f0) ∧ w'.cell? ⟨w.heap.size, 1, none⟩ = some (.string d.f1) ∧ w'.cell? ⟨w.heap.size, 2, none⟩ = some (.string d.f2) ∧ w'.cell? ⟨w.heap.size, 3, none⟩ = some (.int .i64 d.f3) ∧ w'.cell? ⟨w.heap.size, 4, none⟩ = some (.slice d.a4 d.n4 d.c4) ∧ w'.cell? ⟨w.heap.size, 5, none⟩ = some (.int .i64 d.f5) ∧ w'.cell? ⟨w7.heap.size, 0, none⟩ = some (.int .i64 X.f0) ∧ w'.cell? ⟨w7.heap.size, 1, none⟩ = some (.string X.f1) ∧ w'.cell? ⟨w7.heap.size, 2, none⟩ = some (.string X.f2) ∧ w'.cell? ⟨w7.heap.size, 3, none⟩ = some (.int .i64 X.f3) ∧ w'.cell? ⟨w7.heap.size, 4, none⟩ = some (.slice X.a4 X.n4 X.c4) ∧ w'.cell? ⟨w7.heap.size, 5, none⟩ = some (.int .i64 X.f5) ∧ w'.cell? ⟨w8.heap.size, 0, none⟩ = some (.int .i64 y.f0) ∧ w'.cell? ⟨w8.heap.size, 1, none⟩ = some (.string y.f1) ∧ w'.cell? ⟨w8.heap.size, 2, none⟩ = some (.string y.f2) ∧ w'.cell? ⟨w8.heap.size, 3, none⟩ = some (.int .i64 y.f3) ∧ w'.cell? ⟨w8.heap.size, 4, none⟩ = some (.slice y.a4 y.n4 y.c4) ∧ w'.cell? ⟨w8.heap.size, 5, none⟩ = some (.int .i64 y.f5)) (first | go_keep | exact ⟨(hbw.cell (p := ⟨w.heap.size, 0, none⟩) hBd).trans d0, (hbw.cell (p := ⟨w.heap.size, 1, none⟩) hBd).trans d1, (hbw.cell (p := ⟨w.heap.size, 2, none⟩) hBd).trans d2, (hbw.cell (p := ⟨w.heap.size, 3, none⟩) hBd).trans d3, (hbw.cell (p := ⟨w.heap.size, 4, none⟩) hBd).trans d4, (hbw.cell (p := ⟨w.heap.size, 5, none⟩) hBd).trans d5, (hbw.cell (p := ⟨w7.heap.size, 0, none⟩) hBx).trans x0, (hbw.cell (p := ⟨w7.heap.size, 1, none⟩) hBx).trans x1, (hbw.cell (p := ⟨w7.heap.size, 2, none⟩) hBx).trans x2, (hbw.cell (p := ⟨w7.heap.size, 3, none⟩) hBx).trans x3, (hbw.cell (p := ⟨w7.heap.size, 4, none⟩) hBx).trans x4, (hbw.cell (p := ⟨w7.heap.size, 5, none⟩) hBx).trans x5, (hbw.cell (p := ⟨w8.heap.size, 0, none⟩) hBy).trans y0, (hbw.cell (p := ⟨w8.heap.size, 1, none⟩) hBy).trans y1, (hbw.cell (p := ⟨w8.heap.size, 2, none⟩) hBy).trans y2, (hbw.cell (p := ⟨w8.heap.size, 3, none⟩) hBy).trans y3, (hbw.cell (p := ⟨w8.heap.size, 4, none⟩) hBy).trans y4, (hbw.cell (p := ⟨w8.heap.size, 5, none⟩) hBy).trans y5⟩) (first | (go_at_call 13; (with_reducible refine (hLn _ ?_).out.mono ?_); ((with_reducible repeat (first | apply below_drew | apply pbA | apply pbN)); first | exact hbw | exact Below.refl _ _); rintro e wa ⟨v1, l1, rfl, hr1, hln1, hb1⟩; have hbw : Below Wr.heap.size Wr wa := pbT (by ((with_reducible repeat (first | apply below_drew | apply pbA | apply pbN)); first | exact hbw | exact Below.refl _ _)) hb1; have HR1 := Lib.hid hr1; have HN1 := Lib.hid hln1; clear hr1 hln1 hb1) | (go_at_call 14; (with_reducible refine (hRL _ ?_).out.mono ?_); ((with_reducible repeat (first | apply below_drew | apply pbA | apply pbN)); first | exact hbw | exact Below.refl _ _); rintro e wb ⟨v2, l2, rfl, hr2, hln2, hb2⟩; have hbw : Below Wr.heap.size Wr wb := pbT (by ((with_reducible repeat (first | apply below_drew | apply pbA | apply pbN)); first | exact hbw | exact Below.refl _ _)) hb2; have hba : Below wa.heap.size wa wb := pbT (by ((with_reducible repeat (first | apply below_drew | apply pbA | apply pbN)); exact Below.refl _ _)) hb2; obtain rfl : l1 = l2 := learn_same Hcc.out (isD_bound Hdd.out) HN1.out hln2; obtain ⟨A1, c1, rfl, g11, g12⟩ := HR1.out.below hba; obtain ⟨A2, c2, rfl, g21, g22⟩ := hr2; have hLs1 : ∀ W, Below wb.heap.size wb W → Hid (Calls Try.prog 12 #[.slice A1 l1.length c1, .slice A2 l1.length c2] W fun e w' => e = .returned (.bool true) ∧ Below W.heap.size W w') := fun W hW => Lib.hid (list_calls (σ := σ) (Kd.C_below g12 hW) (Kd.C_below g22 hW) g11 g21 (hlen1.out l1 HN1.out) (fun x hx => ⟨((hmem1.out l1 HN1.out x hx).1).below (pbT HBr.out (below_then hbw hbw.size hW)), (hmem1.out l1 HN1.out x hx).2⟩)); replace hLs1 := Lib.hid hLs1; clear hln2 hb2 hba g11 g12 g21 g22) | (go_at_call 12; (with_reducible refine (hLs1.out _ ?_).out.mono ?_); ((with_reducible repeat (first | apply below_drew | apply pbA | apply pbN)); exact Below.refl _ _); rintro e wc ⟨rfl, hb3⟩; have hbw : Below Wr.heap.size Wr wc := pbT (by ((with_reducible repeat (first | apply below_drew | apply pbA | apply pbN)); first | exact hbw | exact Below.refl _ _)) hb3; clear hb3 hLs1) | (go_at_call 15; (with_reducible refine (hFg _ ?_).out.mono ?_); ((with_reducible repeat (first | apply below_drew | apply pbA | apply pbN)); first | exact hbw | exact Below.refl _ _); rintro e wd ⟨A5, c5, rfl, g51, g52, hb4⟩; have hbw : Below Wr.heap.size Wr wd := pbT (by ((with_reducible repeat (first | apply below_drew | apply pbA | apply pbN)); first | exact hbw | exact Below.refl _ _)) hb4; have G51 := Lib.hid g51; have G52 := Lib.hid g52; clear g51 g52 hb4) | (go_at_call 16; (with_reducible refine (hRG _ ?_).out.mono ?_); ((with_reducible repeat (first | apply below_drew | apply pbA | apply pbN)); first | exact hbw | exact Below.refl _ _); rintro e we ⟨A6, c6, rfl, g61, g62, hb5⟩; have hbw : Below Wr.heap.size Wr we := pbT (by ((with_reducible repeat (first | apply below_drew | apply pbA | apply pbN)); first | exact hbw | exact Below.refl _ _)) hb5; have hbd : Below wd.heap.size wd we := pbT (by ((with_reducible repeat (first | apply below_drew | apply pbA | apply pbN)); exact Below.refl _ _)) hb5; have hLs2 : ∀ W, Below we.heap.size we W → Hid (Calls Try.prog 12 #[.slice A5 DL.length c5, .slice A6 DL.length c6] W fun e w' => e = .returned (.bool true) ∧ Below W.heap.size W w') := fun W hW => Lib.hid (list_calls2 (σ := σ) (Kd.C_below (Kd.C_below G52.out hbd) hW) (Kd.C_below g62 hW) G51.out g61 HDl.out (fun x hx => ⟨((HDm.out x hx).1).below (pbT HBr.out (below_then hbw hbw.size hW)), (HDm.out x hx).2⟩)); replace hLs2 := Lib.hid hLs2; clear g61 g62 hb5 hbd) | (go_at_call 12; (with_reducible refine (hLs2.out _ ?_).out.mono ?_); ((with_reducible repeat (first | apply below_drew | apply pbA | apply pbN)); exact Below.refl _ _); rintro e wf ⟨rfl, hb6⟩; have hbw : Below Wr.heap.size Wr wf := pbT (by ((with_reducible repeat (first | apply below_drew | apply pbA | apply pbN)); first | exact hbw | exact Below.refl _ _)) hb6; clear hb6 hLs2) | (go_at_call 17; (with_reducible refine (hSm _ ?_).out.mono ?_); ((with_reducible repeat (first | apply below_drew | apply pbA | apply pbN)); first | exact hbw | exact Below.refl _ _); rintro e wg ⟨rfl, hb7⟩; have hbw : Below Wr.heap.size Wr wg := pbT (by ((with_reducible repeat (first | apply below_drew | apply pbA | apply pbN)); first | exact hbw | exact Below.refl _ _)) hb7; clear hb7) | (go_at_call 12; (with_reducible refine (hLs3 _ ?_).out.mono ?_); ((with_reducible repeat (first | apply below_drew | apply pbA | apply pbN)); first | exact hbw | exact Below.refl _ _); rintro e wh ⟨rfl, hb8⟩; have hbw : Below Wr.heap.size Wr wh := pbT (by ((with_reducible repeat (first | apply below_drew | apply pbA | apply pbN)); first | exact hbw | exact Below.refl _ _)) hb8; clear hb8) | (go_at_call 9; (with_reducible refine (hL _).out.mono ?_); rintro e wi ⟨rfl, hb9⟩; have hbw : Below Wr.heap.size Wr wi := pbT (by ((with_reducible repeat (first | apply below_drew | apply pbA | apply pbN)); first | exact hbw | exact Below.refl _ _)) hb9; clear hb9))
      all_goals
       go_wp2
       go_ret
       exact ⟨rfl, pbT HBr.out (by ((with_reducible repeat (first | apply below_drew | apply pbA | apply pbN)); first | exact hbw | exact Below.refl _ _))⟩
   ·have q1 : decide ((2000 : Int) < (key.size : Int)) = true := decide_eq_true (by omega)
    clear hk
    go_enter Try.func3, Try.ntmps3
    go_wp2_with (first | (go_at_call 6; (with_reducible refine (hS1 _ ?_).out.mono ?_); ((with_reducible repeat (first | apply below_drew | apply pbA | apply pbN)); first | exact HBq.out | exact Below.refl _ _); rintro e w1 ⟨rfl, ⟨nd, rfl⟩⟩) | (go_at_call 6; (with_reducible refine (hS2 _ _ ?_ ?_).out.mono ?_); ((with_reducible repeat (first | apply below_drew | apply pbA | apply pbN)); first | exact HBq.out | exact Below.refl _ _); ((with_reducible repeat (first | refine bkD ?_ | refine bkN ?_ _)); first | exact heap_alloc_new _ _ | exact blk_second _ _ _ | (rw [show w.heap.size + 1 = ((w.alloc _).drewN _).heap.size by simp]; exact heap_alloc_new _ _)); rintro e w1 ⟨rfl, ⟨nd2, rfl⟩⟩) | (go_at_call 9; refine (hL _).out.mono ?_; rintro e w2 ⟨rfl, hb⟩))
    go_ret
    exact ⟨rfl, pbT (by ((with_reducible repeat (first | apply below_drew | apply pbA | apply pbN)); first | exact HBq.out | exact Below.refl _ _)) hb⟩
theorem raws_of {w : World} {A : Option Addr} {l : List SD} (h : Kd.C k27 w A l.length l) (hf : ∀ x ∈ l, Fits x) : ∃ rs : List RawD, rs.length = l.length ∧ Kd.C kD w A rs.length rs ∧ (∀ x ∈ rs, Mem (memOf w) w x) ∧ ∀ x ∈ rs.map (toS (memOf w)), Fits x := by
 obtain ⟨rs, e, h1, h2⟩ := fromC h
 refine ⟨rs, e, h1, fun x hx => mem_of (h2 x hx).1, fun x hx => ?_⟩
 obtain ⟨r, hr, rfl⟩ := List.mem_map.1 hx
 obtain ⟨y, hy, e1, e2, e3⟩ := (h2 r hr).2
 obtain ⟨f1, f2, f3⟩ := hf y hy
 have := Kd.C_len (mem_of (h2 r hr).1).1
 exact ⟨by show r.f1.size ≤ _; rw [e1]; exact f1, by show r.f2.size ≤ _; rw [e2]; exact f2, by show (memOf w r).length ≤ _; omega⟩
open Classical in
noncomputable def l18_RouteLearns.f (l0 : List SD) (a1_0 : Int) (a1_1 a1_2 : ByteArray) (a1_3 : Int) (l1_4 : List SM) (a1_5 a2 : Int) (a3 : ByteArray) : Option Bool := if (∀ x ∈ l0, Fits x) ∧ Fits ⟨a1_0, ⟨a1_1, a1_2⟩, a1_3, l1_4, a1_5⟩ then some true else none
theorem l18_RouteLearns.calls (A0 : Option Addr) (c0 : Nat) (l0 : List SD) (a1_0 : Int) (a1_1 a1_2 : ByteArray) (a1_3 : Int) (A1_4 : Option Addr) (c1_4 : Nat) (l1_4 : List SM) (a1_5 a2 : Int) (a3 : ByteArray) (r : Bool) (w : World) (hr : r = true) (hr0 : Kd.C k27 w A0 l0.length l0) (hc0 : l0.length ≤ c0) (hr1_4 : Kd.C k47 w A1_4 l1_4.length l1_4) (hc1_4 : l1_4.length ≤ c1_4) (h : l18_RouteLearns.f l0 a1_0 a1_1 a1_2 a1_3 l1_4 a1_5 a2 a3 = some r) :
 Calls Try.prog 3 #[.slice A0 l0.length c0, .agg #[.int .i64 a1_0, .string a1_1, .string a1_2, .int .i64 a1_3, .slice A1_4 l1_4.length c1_4, .int .i64 a1_5], .int .i64 a2, .string a3] w fun e w' => e = .returned (.bool r) ∧ Below w.heap.size w w' := by
 subst hr
 unfold l18_RouteLearns.f at h
 split at h
 ·rename_i hp
  obtain ⟨hf, f1, f2, f3⟩ := hp
  obtain ⟨rs, e, h1, h2, h3⟩ := raws_of hr0 hf
  have hd := mem_of (w := w) (x := ⟨a1_0, a1_1, a1_2, a1_3, A1_4, l1_4.length, c1_4, a1_5⟩) ⟨l1_4, hr1_4, hc1_4⟩
  have hn := Kd.C_len hd.1
  have := learns_main A0 c0 rs ⟨a1_0, a1_1, a1_2, a1_3, A1_4, l1_4.length, c1_4, a1_5⟩ a2 a3 w h1 (by omega) h2 hd h3 ⟨f1, f2, by show (memOf w _).length ≤ _; rw [hn]; exact f3⟩
  rw [e] at this
  exact this
 ·cases h
end Go.Proofs.Ytppdcldbebnmlaa.P
end
section
namespace Go.Proofs.Ytppdcldbebnmlaa.P
open Go.RowKit Go.Shelf Go.Proofs.Ytppdcldbebnmlaa.K Go.Proofs.YtppdcldbebnmlaaW.PrintWords Go.Proofs.YtppdcldbebnmlaaW.PrintLast Go.Proofs.YtppdcldbebnmlaaW.PrintMore
theorem reads_nil (w : World) : Reads w [] (.slice none 0 0) := ⟨none, 0, rfl, Nat.le_refl _, Kd.C_nil _ _⟩
theorem rc_nil (σ : RawD → List SM) : RC σ [] := RC.mk (fun x hx => by simp at hx) List.Pairwise.nil
theorem sameX_calls {σ : RawD → List SM} {w : World} {x y : RawD} (hx : Mem σ w x) (hy : Mem σ w y) (hl : (σ x).length ≤ 1000000000) :
 Calls Try.prog 17 #[.agg #[.int .i64 x.f0, .string x.f1, .string x.f2, .int .i64 x.f3, .slice x.a4 x.n4 x.c4, .int .i64 x.f5], .agg #[.int .i64 y.f0, .string y.f1, .string y.f2, .int .i64 y.f3, .slice y.a4 y.n4 y.c4, .int .i64 y.f5]] w fun e w' => e = .returned (.bool (sameS (toS σ x) (toS σ y))) ∧ Below w.heap.size w w' := by
 obtain ⟨x1, x2⟩ := hx
 obtain ⟨d1, d2⟩ := hy
 have nx := Kd.C_len x1
 have nd := Kd.C_len d1
 have := r06_Same.calls ((σ x).length + 1) x.f0 x.f1 x.f2 x.f3 x.a4 x.c4 (σ x) x.f5 y.f0 y.f1 y.f2 y.f3 y.a4 y.c4 (σ y) y.f5 (sameS (toS σ x) (toS σ y)) w (by rw [nx]; exact x1) (by omega) (by rw [nd]; exact d1) (by omega) (refSame_eq (x := toS σ x) (y := toS σ y) hl (Nat.lt_succ_self _))
 rw [nx, nd] at this
 exact this
/-- If what was learnt is not found, something later was known. -/
theorem cache_later {σ : RawD → List SM} {l l1 : List RawD} {d : RawD} (h : RC σ l) (hd : isD (toS σ d) = true) (a : Learnt σ d l l1) (hn : ((l1.find? (fun x => hasB x.f1 x.f2 d.f1)).isSome && sameS (toS σ (fX (fun x => hasB x.f1 x.f2 d.f1) l1)) (toS σ d)) = false) : l.any (later σ d) = true ∧ l1 = l := by
 cases hany : l.any (later σ d)
 ·obtain ⟨c1, c2, _⟩ := learn_cache h hd a
  have hf := find_learnt c1 (c2 hany)
  unfold fX at hn
  rw [hf] at hn
  simp only [Option.isSome_some, Option.getD_some, Bool.true_and] at hn
  rw [sameS_iff.2 rfl] at hn
  cases hn
 ·exact ⟨rfl, a.1 hany⟩
theorem learnt_len {σ : RawD → List SM} {d : RawD} {l l1 : List RawD} (h : Learnt σ d l l1) : l1.length ≤ l.length + 1 := by
 cases hany : l.any (later σ d)
 ·have e := (h.2 hany).1.length_eq
  rw [List.length_append] at e
  have : (delF (dropP d) l).length ≤ l.length := List.length_filter_le _ _
  simp only [List.length_cons, List.length_nil] at e
  omega
 ·rw [h.1 hany]; omega
set_option maxHeartbeats 16000000 in
set_option maxRecDepth 100000 in
theorem cache_main (A0 : Option Addr) (c0 : Nat) (rs : List RawD) (A1 : Option Addr) (c1 : Nat) (dl : List Int) (key : ByteArray) (w : World) (hr0 : Kd.C kD w A0 rs.length rs) (hc0 : rs.length ≤ c0) (hm : ∀ x ∈ rs, Mem (memOf w) w x) (hf : ∀ x ∈ rs.map (toS (memOf w)), Fits x) (hr1 : Kd.C (Kd.int .i64) w A1 dl.length dl) (hdl : dl.length ≤ 4611686018427387904) :
 Calls Try.prog 4 #[.slice A0 rs.length c0, .slice A1 dl.length c1, .string key] w fun e w' => e = .returned (.bool true) ∧ Below w.heap.size w w' := by
 generalize hσ : memOf w = σ at hm hf
 have hz : σ zeroD = [] := by rw [← hσ]; exact memOf_zero w
 have hmz : Mem σ w zeroD := by rw [← hσ]; exact mem_zero w
 clear hσ
 have hL : ∀ W, Hid (Calls Try.prog 9 #[] W fun e w' => e = .returned (.bool true) ∧ Below W.heap.size W w') := fun W => Lib.hid (live_calls W)
 have hu := Try.underlying27
 have hu2 := Try.underlying24
 have HC := Lib.hid hr0
 have HD := Lib.hid hr1
 have Hc0 := Lib.hid hc0
 have Hm := Lib.hid hm
 have Hz := Lib.hid hz
 have Hmz := Lib.hid hmz
 obtain ⟨k1, b1, hk1, hb1⟩ := small_once (rs.map (toS σ)) hf
 have hS1 : ∀ W, Below w.heap.size w W → Hid (Calls Try.prog 6 #[.slice A0 rs.length c0] W fun e w' => e = .returned (.bool b1) ∧ Drawn0 W w') := fun W hW => by
  have := l18_small.calls k1 A0 c0 (rs.map (toS σ)) b1 W (toC (Kd.C_below HC.out hW) (fun x hx => (Hm.out x hx).below hW)) (by rw [List.length_map]; exact hc0) hk1
  rw [List.length_map] at this
  exact Lib.hid this
 clear hr0 hr1 hc0 hm hz hmz hf hk1
 cases b1
 ·clear hb1
  go_enter Try.func4, Try.ntmps4
  go_wp2_with (first | (go_at_call 6; (with_reducible refine (hS1 _ ?_).out.mono ?_); ((with_reducible repeat (first | apply below_drew | apply pbA | apply pbN)); first | exact HBq.out | exact Below.refl _ _); rintro e w1 ⟨rfl, ⟨nd, rfl⟩⟩) | (go_at_call 9; (with_reducible refine (hL _).out.mono ?_); rintro e w2 ⟨rfl, hb⟩))
  go_ret
  exact ⟨rfl, pbT (by ((with_reducible repeat (first | apply below_drew | apply pbA | apply pbN)); first | exact HBq.out | exact Below.refl _ _)) hb⟩
 ·obtain ⟨hl1, hl2⟩ := hb1 rfl
  have Hl1 : Hid (rs.length ≤ 30) := Lib.hid (by rw [List.length_map] at hl1; exact hl1)
  have Hl2 : Hid (∀ x ∈ rs, (σ x).length ≤ 2000) := Lib.hid (fun x hx => hl2 (toS σ x) (List.mem_map_of_mem hx))
  clear hb1 hl1 hl2
  by_cases hdr : dl.length < rs.length
  ·have q0 : decide ((dl.length : Int) < (rs.length : Int)) = true := decide_eq_true (by omega)
   go_enter Try.func4, Try.ntmps4
   go_wp2_with (first | (go_at_call 6; (with_reducible refine (hS1 _ ?_).out.mono ?_); ((with_reducible repeat (first | apply below_drew | apply pbA | apply pbN)); first | exact HBq.out | exact Below.refl _ _); rintro e w1 ⟨rfl, ⟨nd, rfl⟩⟩) | (go_at_call 9; (with_reducible refine (hL _).out.mono ?_); rintro e w2 ⟨rfl, hb⟩))
   go_ret
   exact ⟨rfl, pbT (by ((with_reducible repeat (first | apply below_drew | apply pbA | apply pbN)); first | exact HBq.out | exact Below.refl _ _)) hb⟩
  ·have q0 : decide ((dl.length : Int) < (rs.length : Int)) = false := decide_eq_false (by omega)
   have Hdr : Hid (rs.length ≤ dl.length) := Lib.hid (by omega)
   by_cases hk : key.size ≤ 2000
   ·have q1 : decide ((2000 : Int) < (key.size : Int)) = false := decide_eq_false (by omega)
    have hrs : (rs.length : Int) ≤ 30 := by have := Hl1.out; omega
    clear hk
    go_enter Try.func4, Try.ntmps4
    go_wp2_with (first | (go_at_call 6; (with_reducible refine (hS1 _ ?_).out.mono ?_); ((with_reducible repeat (first | apply below_drew | apply pbA | apply pbN)); first | exact HBq.out | exact Below.refl _ _); rintro e w1 ⟨rfl, ⟨nd, rfl⟩⟩))
    go_loopw [7, 8, 9, 10, 11, 12, 13, 14] (fun nv iv _ _ _ _ _ _ wr => ∃ (i : Nat) (NL : List RawD), i ≤ rs.length ∧ iv = .int .i64 i ∧ Hid (Reads wr NL nv) ∧ Hid (RC σ NL) ∧ Hid (∀ x ∈ NL, x ∈ rs) ∧ Hid (NL.length ≤ i) ∧ Hid (Below w.heap.size w wr)) (fun _ iv _ _ _ _ _ _ _ => rs.length - (intOf iv).toNat)
    case atStart => exact ⟨0, [], Nat.zero_le _, rfl, Lib.hid (reads_nil _), Lib.hid (rc_nil σ), Lib.hid (fun x hx => by simp at hx), Lib.hid (Nat.zero_le _), Lib.hid (by ((with_reducible repeat (first | apply below_drew | apply pbA | apply pbN)); first | exact HBq.out | exact Below.refl _ _))⟩
    case round =>
     obtain ⟨i, NL, hi, rfl, HR, HRC, HIn, HLn, HB⟩ := hrel
     obtain ⟨wO, rfl⟩ : ∃ wO : World, wO = wr := ⟨_, rfl⟩
     by_cases hlt : i < rs.length
     ·obtain ⟨ad, ea, e0, e1, e2, e3, e4, e5⟩ := at_D (Kd.C_below HC.out HB.out) i hlt
      subst ea
      have hi0 : (0 : Int) ≤ (i : Int) := by omega
      have hi1 : (i : Int) < (rs.length : Int) := by omega
      obtain ⟨dx, hdx⟩ : ∃ dx, dx = rs[i] := ⟨_, rfl⟩
      have hmemd : dx ∈ rs := by rw [hdx]; exact List.getElem_mem hlt
      rw [← hdx] at e0 e1 e2 e3 e4 e5
      have Hat : Hid (∀ W, Below w.heap.size w W → W.cell? (ad.add (i * 6)) = some (.int .i64 dx.f0) ∧ W.cell? ⟨(ad.add (i * 6)).block, (ad.add (i * 6)).off + 1, none⟩ = some (.string dx.f1) ∧ W.cell? ⟨(ad.add (i * 6)).block, (ad.add (i * 6)).off + 2, none⟩ = some (.string dx.f2) ∧ W.cell? ⟨(ad.add (i * 6)).block, (ad.add (i * 6)).off + 3, none⟩ = some (.int .i64 dx.f3) ∧ W.cell? ⟨(ad.add (i * 6)).block, (ad.add (i * 6)).off + 4, none⟩ = some (.slice dx.a4 dx.n4 dx.c4) ∧ W.cell? ⟨(ad.add (i * 6)).block, (ad.add (i * 6)).off + 5, none⟩ = some (.int .i64 dx.f5)) := Lib.hid (fun W hW => by
       obtain ⟨ad', ea', q⟩ := at_D (Kd.C_below HC.out hW) i hlt
       injection ea' with ea'
       subst ea'
       rw [hdx]; exact q)
      have Hmd : Hid (Mem σ w dx ∧ (σ dx).length ≤ 1000000000) := Lib.hid ⟨Hm.out dx hmemd, by have := Hl2.out dx hmemd; omega⟩
      have Hmemd := Lib.hid hmemd
      have hadl : i < dl.length := by have := Hdr.out; omega
      obtain ⟨ad1, ea1⟩ : ∃ ad1, A1 = some ad1 := by
       obtain ⟨ad1, h, _⟩ := HD.out.2.2 (by omega)
       exact ⟨ad1, h⟩
      subst ea1
      obtain ⟨dv, hdv⟩ : ∃ dv, dv = rd dl (i : Int) := ⟨_, rfl⟩
      have Hdv : Hid (∀ W, Below w.heap.size w W → W.cell? (ad1.add i) = some (.int .i64 dv)) := Lib.hid (fun W hW => by
       have := Kd.foot_int (Kd.C_below HD.out hW) (i : Int) hi0 (by omega)
       rw [Int.toNat_natCast, ← hdv] at this
       exact this)
      clear hdx hmemd hdv
      obtain ⟨k4, hk4⟩ := (isD_ev (x := toS σ dx) Hmd.out.2).rounds
      have hID : Hid (Calls Try.prog 8 #[.agg #[.int .i64 dx.f0, .string dx.f1, .string dx.f2, .int .i64 dx.f3, .slice dx.a4 dx.n4 dx.c4, .int .i64 dx.f5]] wO fun e w' => e = .returned (.bool (isD (toS σ dx))) ∧ Below wO.heap.size wO w') := by
       obtain ⟨g1, g2⟩ := Hmd.out.1.below HB.out
       have n1 := Kd.C_len g1
       have := r06_Is.calls k4 dx.f0 dx.f1 dx.f2 dx.f3 dx.a4 dx.c4 (σ dx) dx.f5 _ wO (by rw [n1]; exact g1) (by omega) hk4
       rw [n1] at this
       exact Lib.hid this
      clear hk4
      cases hdd : isD (toS σ dx)
      ·rw [hdd] at hID
       clear hdd
       go_wp2_with (first | (go_at_call 8; (with_reducible refine hID.out.mono ?_); rintro e w1 ⟨rfl, hb1⟩) | (go_at_call 9; (with_reducible refine (hL _).out.mono ?_); rintro e w2 ⟨rfl, hb⟩))
       go_ret
       exact ⟨rfl, pbT (pbT HB.out hb1) hb⟩
      ·rw [hdd] at hID
       have Hdd := Lib.hid hdd
       clear hdd
       obtain ⟨An, cn, rfl, hcn, hCn⟩ := HR.out
       have Hcn := Lib.hid hcn
       have HCn := Lib.hid hCn
       clear hcn hCn
       have hNl : NL.length ≤ 30 := by have := HLn.out; have := Hl1.out; omega
       have HNl := Lib.hid hNl
       have hLn : ∀ W, Below wO.heap.size wO W → Hid (Calls Try.prog 13 #[.slice An NL.length cn, .agg #[.int .i64 dx.f0, .string dx.f1, .string dx.f2, .int .i64 dx.f3, .slice dx.a4 dx.n4 dx.c4, .int .i64 dx.f5]] W fun e w' => ∃ v l', e = .returned v ∧ Reads w' l' v ∧ Learnt σ dx NL l' ∧ Below W.heap.size W w') := fun W hW => Lib.hid (learn_calls σ An cn NL dx W (Kd.C_below HCn.out hW) Hcn.out (by have := HNl.out; omega) (fun x hx => ⟨(Hm.out x (HIn.out x hx)).below (pbT HB.out hW), by have := Hl2.out x (HIn.out x hx); omega⟩) (Hmd.out.1.below (pbT HB.out hW)))
       have hIC : ∀ W v l1, Below wO.heap.size wO W → Reads W l1 v → Learnt σ dx NL l1 → Hid (Calls Try.prog 7 #[v] W fun e w' => e = .returned (.bool true) ∧ Below W.heap.size W w') := fun W v l1 hW hv hl => by
        obtain ⟨A, c, rfl, h1, h2⟩ := hv
        obtain ⟨r1, _, r3⟩ := learn_cache HRC.out Hdd.out hl
        have hin : ∀ x ∈ l1, x ∈ rs := fun x hx => by
         rcases r3 x hx with h | h
         ·exact HIn.out x h
         ·rw [h]; exact Hmemd.out
        have hlen := learnt_len hl
        have e : (l1.map (toS σ)).length = l1.length := List.length_map _
        obtain ⟨k, hk⟩ := (isC_ev (l := l1.map (toS σ)) (by have := HNl.out; omega) (fun x hx => by obtain ⟨y, hy, rfl⟩ := List.mem_map.1 hx; have := Hl2.out y (hin y hy); show (σ y).length ≤ _; omega)).rounds
        rw [(isC_iff _).2 r1] at hk
        have := r18_Is.calls k A c (l1.map (toS σ)) true W (toC h2 (fun x hx => (Hm.out x (hin x hx)).below (pbT HB.out hW))) (by omega) hk
        rw [e] at this
        exact Lib.hid this
       have hFd : ∀ W v (l1 : List RawD), Reads W l1 v → l1.length ≤ 31 → Hid (Calls Try.prog 10 #[v, .string dx.f1] W fun e w' => e = .returned (.tuple #[.agg #[.int .i64 (fX (fun x => hasB x.f1 x.f2 dx.f1) l1).f0, .string (fX (fun x => hasB x.f1 x.f2 dx.f1) l1).f1, .string (fX (fun x => hasB x.f1 x.f2 dx.f1) l1).f2, .int .i64 (fX (fun x => hasB x.f1 x.f2 dx.f1) l1).f3, .slice (fX (fun x => hasB x.f1 x.f2 dx.f1) l1).a4 (fX (fun x => hasB x.f1 x.f2 dx.f1) l1).n4 (fX (fun x => hasB x.f1 x.f2 dx.f1) l1).c4, .int .i64 (fX (fun x => hasB x.f1 x.f2 dx.f1) l1).f5], .bool (l1.find? (fun x => hasB x.f1 x.f2 dx.f1)).isSome]) ∧ Below W.heap.size W w') := fun W v l1 hv hl => by
        obtain ⟨A, c, rfl, h1, h2⟩ := hv
        have := find_calls A c l1 dx.f1 W h2 (by omega)
        rw [foundV_eq] at this
        exact Lib.hid this
       clear hNl
       go_wp2_with (first | (go_at_call 8; (with_reducible refine hID.out.mono ?_); rintro e w1 ⟨rfl, hb1⟩; obtain ⟨e0, e1, e2, e3, e4, e5⟩ := Hat.out w1 (pbT HB.out hb1); have HB1 := Lib.hid hb1; clear hb1) | (go_at_call 13; (with_reducible refine (hLn _ ?_).out.mono ?_); (exact HB1.out); rintro e w2 ⟨v2, l1, rfl, hr2, hl2, hb2⟩; have HB2 := Lib.hid (below_then HB1.out HB1.out.size hb2); obtain ⟨e0, e1, e2, e3, e4, e5⟩ := Hat.out w2 (pbT HB.out HB2.out); have HR2 := Lib.hid hr2; have HL2 := Lib.hid hl2; clear hr2 hl2 hb2) | (go_at_call 7; (with_reducible refine (hIC _ v2 l1 ?_ ?_ HL2.out).out.mono ?_); (exact HB2.out); (exact HR2.out); rintro e w3 ⟨rfl, hb3⟩; have HB3 := Lib.hid (below_then HB2.out HB2.out.size hb3); have HR3 := Lib.hid (HR2.out.below hb3); obtain ⟨e0, e1, e2, e3, e4, e5⟩ := Hat.out w3 (pbT HB.out HB3.out); clear hb3) | (go_at_call 10; (with_reducible refine (hFd _ v2 l1 ?_ ?_).out.mono ?_); (exact HR3.out); (have := learnt_len HL2.out; have := HNl.out; omega); rintro e w4 ⟨rfl, hb4⟩; have HB4 := Lib.hid (below_then HB3.out HB3.out.size hb4); have HR4 := Lib.hid (HR3.out.below hb4); clear hb4))
       generalize hX : fX (fun x => hasB x.f1 x.f2 dx.f1) l1 = X
       generalize hob : (l1.find? (fun x => hasB x.f1 x.f2 dx.f1)).isSome = ob
       obtain ⟨Wr, hWr⟩ : ∃ Wr, Wr = w4.alloc (.cells #[.int .i64 X.f0, .string X.f1, .string X.f2, .int .i64 X.f3, .slice X.a4 X.n4 X.c4, .int .i64 X.f5] 27) := ⟨_, rfl⟩
       rw [← hWr]
       have HB4r : Hid (Below wO.heap.size wO Wr) := Lib.hid (by rw [hWr]; exact pbA HB4.out _)
       have HBr : Hid (Below w.heap.size w Wr) := Lib.hid (pbT HB.out HB4r.out)
       have HXr : Hid (Wr.heap[w4.heap.size]? = some (.cells #[.int .i64 X.f0, .string X.f1, .string X.f2, .int .i64 X.f3, .slice X.a4 X.n4 X.c4, .int .i64 X.f5] 27 (0, 0))) := Lib.hid (by rw [hWr]; exact heap_alloc_new _ _)
       have hRr : Reads Wr l1 v2 := by rw [hWr]; exact HR4.out.below (pbA (Below.refl _ _) _)
       obtain ⟨A2, c2, rfl, hc2, hC2⟩ := hRr
       have Hc2r := Lib.hid hc2
       have HC2r := Lib.hid hC2
       have HCnr : Hid (Kd.C kD Wr An NL.length NL) := Lib.hid (Kd.C_below HCn.out HB4r.out)
       obtain ⟨r1, r2, r3⟩ := learn_cache HRC.out Hdd.out HL2.out
       have Hr1 := Lib.hid r1
       have HIn1 : Hid (∀ x ∈ l1, x ∈ rs) := Lib.hid (fun x hx => by
        rcases r3 x hx with h | h
        ·exact HIn.out x h
        ·rw [h]; exact Hmemd.out)
       have hl1 := learnt_len HL2.out
       have Hl1n : Hid (l1.length ≤ i + 1) := Lib.hid (by have := HLn.out; omega)
       have hl31 : l1.length ≤ 31 := by have := HNl.out; omega
       have Hl31 := Lib.hid hl31
       have HmX : Hid (Mem σ w X ∧ (σ X).length ≤ 1000000000) := Lib.hid (by
        rw [← hX]
        rcases fX_mem (p := fun x => hasB x.f1 x.f2 dx.f1) (l := l1) with h | h
        ·exact ⟨Hm.out _ (HIn1.out _ h), by have := Hl2.out _ (HIn1.out _ h); omega⟩
        ·rw [h]; exact ⟨Hmz.out, by rw [Hz.out]; simp⟩)
       obtain ⟨sb, hsb⟩ : ∃ sb, sb = sameS (toS σ X) (toS σ dx) := ⟨_, rfl⟩
       have HCl : Hid ((ob && sb) = false → NL.any (later σ dx) = true ∧ l1 = NL) := Lib.hid (fun h => cache_later HRC.out Hdd.out HL2.out (by rw [hX, hob, ← hsb]; exact h))
       have hSm : ∀ W, Below Wr.heap.size Wr W → Hid (Calls Try.prog 17 #[.agg #[.int .i64 X.f0, .string X.f1, .string X.f2, .int .i64 X.f3, .slice X.a4 X.n4 X.c4, .int .i64 X.f5], .agg #[.int .i64 dx.f0, .string dx.f1, .string dx.f2, .int .i64 dx.f3, .slice dx.a4 dx.n4 dx.c4, .int .i64 dx.f5]] W fun e w' => e = .returned (.bool sb) ∧ Below W.heap.size W w') := fun W hW => Lib.hid (by rw [hsb]; exact sameX_calls (σ := σ) (HmX.out.1.below (pbT HBr.out hW)) (Hmd.out.1.below (pbT HBr.out hW)) HmX.out.2)
       obtain ⟨DL, hDL⟩ : ∃ DL, DL = delF (fun x : RawD => x.f0 == dv) l1 := ⟨_, rfl⟩
       have HDr : Hid (RC σ DL) := Lib.hid (by rw [hDL]; exact r1.del _)
       have HDi : Hid (∀ x ∈ DL, x ∈ rs) := Lib.hid (fun x hx => by rw [hDL] at hx; exact HIn1.out x (List.mem_filter.1 hx).1)
       have HDn : Hid (∀ x ∈ DL, (x.f0 == dv) = false) := Lib.hid (fun x hx => by rw [hDL] at hx; simpa using (List.mem_filter.1 hx).2)
       have HDl1 : Hid (DL.length ≤ l1.length) := Lib.hid (by rw [hDL]; exact List.length_filter_le _ _)
       have HDl : Hid (DL.length ≤ 31) := Lib.hid (Nat.le_trans HDl1.out hl31)
       have hFg : ∀ W, Below Wr.heap.size Wr W → Hid (Calls Try.prog 15 #[.slice A2 l1.length c2, .int .i64 dv] W fun e w' => ∃ A c, e = .returned (.slice A DL.length c) ∧ DL.length ≤ c ∧ Kd.C kD w' A DL.length DL ∧ Below W.heap.size W w') := fun W hW => Lib.hid ((forget_calls A2 c2 l1 dv W (Kd.C_below HC2r.out hW) (by have := Hl31.out; omega)).mono (fun e w' h => by
        obtain ⟨v, he, hR, hb⟩ := h
        rw [← hDL] at hR
        obtain ⟨A, c, hv, g1, g2⟩ := Kd.R_reads hR
        exact ⟨A, c, by rw [he, hv], g1, g2, hb⟩))
       clear hDL hX hob hsb hWr hc2 hC2 r1 r2 r3 hl1 hl31 HR4 HR3 HR2 HB1 HB2 HB3 HB4 hLn hIC hFd hID HIn HR
       have x0 : Wr.cell? ⟨w4.heap.size, 0, none⟩ = some (.int .i64 X.f0) := (bkC HXr.out 0).trans rfl
       have x1 : Wr.cell? ⟨w4.heap.size, 1, none⟩ = some (.string X.f1) := (bkC HXr.out 1).trans rfl
       have x2 : Wr.cell? ⟨w4.heap.size, 2, none⟩ = some (.string X.f2) := (bkC HXr.out 2).trans rfl
       have x3 : Wr.cell? ⟨w4.heap.size, 3, none⟩ = some (.int .i64 X.f3) := (bkC HXr.out 3).trans rfl
       have x4 : Wr.cell? ⟨w4.heap.size, 4, none⟩ = some (.slice X.a4 X.n4 X.c4) := (bkC HXr.out 4).trans rfl
       have x5 : Wr.cell? ⟨w4.heap.size, 5, none⟩ = some (.int .i64 X.f5) := (bkC HXr.out 5).trans rfl
       obtain ⟨e0, e1, e2, e3, e4, e5⟩ := Hat.out Wr HBr.out
       have hBx := blk_lt HXr.out
       have hbw : Below Wr.heap.size Wr Wr := Below.refl _ _
       cases ob
       ·obtain ⟨hany, rfl⟩ := HCl.out rfl
        clear hSm HCl
        go_quiet (fail)
        have hlg := later_gen hany
        have hlb : (l1.length : Int) ≤ 31 := by have := Hl31.out; omega
        have Hlg := Lib.hid hlg
        clear hlg
        go_wp2
        go_loopw [12, 13] (fun tv kv wr => ∃ k : Nat, k ≤ l1.length ∧ kv = .int .i64 k ∧ tv = .bool ((l1.take k).any fun x => decide (dx.f3 ≤ x.f3)) ∧ Hid (Below Wr.heap.size Wr wr)) (fun _ kv _ => l1.length - (intOf kv).toNat)
        case atStart => exact ⟨0, Nat.zero_le _, rfl, rfl, Lib.hid (by (with_reducible repeat (first | apply below_drew | apply pbA | apply pbN)); first | exact hbw | exact Below.refl _ _)⟩
        case round =>
         obtain ⟨k, hk, rfl, rfl, HW⟩ := hrel
         have hmeas2 : k < l1.length → l1.length - (intOf (Value.int IntKind.i64 ((k : Int) + 1))).toNat < l1.length - (intOf (Value.int IntKind.i64 (k : Int))).toNat := fun h => by simp only [intOf]; omega
         by_cases hlk : k < l1.length
         ·obtain ⟨adn, en, _, _, _, n3, _⟩ := at_D (Kd.C_below HCnr.out HW.out) k hlk
          subst en
          obtain ⟨_, _, _, q3, _⟩ := Hat.out wr (pbT HBr.out HW.out)
          have hk0 : (0 : Int) ≤ (k : Int) := by omega
          have hk1 : (k : Int) < (l1.length : Int) := by omega
          have hs : (l1.take (k + 1)).any (fun x => decide (dx.f3 ≤ x.f3)) = ((l1.take k).any (fun x => decide (dx.f3 ≤ x.f3)) || decide (dx.f3 ≤ l1[k].f3)) := by rw [List.take_succ_eq_append_getElem hlk, List.any_append]; simp
          generalize l1[k].f3 = gk at n3 hs
          have Hs := Lib.hid hs
          have hm2 := hmeas2 hlk
          clear hs hmeas2
          generalize (l1.take k).any (fun x => decide (dx.f3 ≤ x.f3)) = tb at Hs
          cases tb
          ·go_wp2
           go_quiet (fail)
           go_wp2
           go_roundw
           case rel => exact ⟨k + 1, hlk, by go_num, by rw [Hs.out]; rfl, Lib.hid (by (with_reducible repeat (first | apply below_drew | apply pbA | apply pbN)); first | exact HW.out | exact Below.refl _ _)⟩
           case measure => simp only [intOf]; omega
          ·go_wp2
           go_quiet (fail)
           go_wp2
           go_roundw
           case rel => exact ⟨k + 1, hlk, by go_num, by rw [Hs.out]; rfl, Lib.hid (by (with_reducible repeat (first | apply below_drew | apply pbA | apply pbN)); first | exact HW.out | exact Below.refl _ _)⟩
           case measure => simp only [intOf]; omega
         ·obtain rfl : k = l1.length := by omega
          have hall : (l1.take l1.length).any (fun x => decide (dx.f3 ≤ x.f3)) = true := by
           rw [List.take_length]
           obtain ⟨q, hq, h⟩ := Hlg.out
           exact List.any_eq_true.2 ⟨l1[q], List.getElem_mem hq, decide_eq_true h⟩
          rw [hall]
          have HLs : Hid (∀ W, Below Wr.heap.size Wr W → Calls Try.prog 12 #[.slice A2 l1.length c2, .slice An l1.length cn] W fun e w' => e = .returned (.bool true) ∧ Below W.heap.size W w') := Lib.hid (fun W hW => list_calls (σ := σ) (Kd.C_below HC2r.out hW) (Kd.C_below HCnr.out hW) Hc2r.out Hcn.out (by have := HNl.out; omega) (fun x hx => ⟨(Hm.out x (HIn1.out x hx)).below (pbT HBr.out hW), by have := Hl2.out x (HIn1.out x hx); omega⟩))
          clear hall hmeas2
          cases hev : (dv.tmod 2 == 0)
          ·go_wp2_with (go_at_call 12; (with_reducible refine (HLs.out _ ?_).mono ?_); ((with_reducible repeat (first | apply below_drew | apply pbA | apply pbN)); first | exact HW.out | exact Below.refl _ _); rintro e wL ⟨rfl, hbL⟩; have hbw : Below Wr.heap.size Wr wL := below_then (by (with_reducible repeat (first | apply below_drew | apply pbA | apply pbN)); first | exact HW.out | exact Below.refl _ _) (Below.size (by (with_reducible repeat (first | apply below_drew | apply pbA | apply pbN)); first | exact HW.out | exact Below.refl _ _)) hbL; have cdr := Hdv.out wL (pbT HBr.out hbw); clear hbL)
           go_roundw
           case rel => exact ⟨i + 1, l1, hlt, by go_num, Lib.hid ⟨A2, c2, rfl, Hc2r.out, Kd.C_below HC2r.out (by (with_reducible repeat (first | apply below_drew | apply pbA | apply pbN)); first | exact hbw | exact Below.refl _ _)⟩, Hr1, HIn1, Hl1n, Lib.hid (pbT HBr.out (by (with_reducible repeat (first | apply below_drew | apply pbA | apply pbN)); first | exact hbw | exact Below.refl _ _))⟩
           case measure => simp only [intOf]; omega
          ·go_wp2_with (first | (go_at_call 12; (with_reducible refine (HLs.out _ ?_).mono ?_); ((with_reducible repeat (first | apply below_drew | apply pbA | apply pbN)); first | exact HW.out | exact Below.refl _ _); rintro e wL ⟨rfl, hbL⟩; have hbw : Below Wr.heap.size Wr wL := below_then (by (with_reducible repeat (first | apply below_drew | apply pbA | apply pbN)); first | exact HW.out | exact Below.refl _ _) (Below.size (by (with_reducible repeat (first | apply below_drew | apply pbA | apply pbN)); first | exact HW.out | exact Below.refl _ _)) hbL; have cdr := Hdv.out wL (pbT HBr.out hbw); clear hbL) | (go_at_call 15; (with_reducible refine (hFg _ ?_).out.mono ?_); ((with_reducible repeat (first | apply below_drew | apply pbA | apply pbN)); first | exact hbw | exact Below.refl _ _); rintro e wF ⟨A6, c6, rfl, g61, g62, hb6⟩; have HBF : Hid (Below Wr.heap.size Wr wF) := Lib.hid (below_then (by (with_reducible repeat (first | apply below_drew | apply pbA | apply pbN)); first | exact hbw | exact Below.refl _ _) (Below.size (by (with_reducible repeat (first | apply below_drew | apply pbA | apply pbN)); first | exact hbw | exact Below.refl _ _)) hb6); have G61 := Lib.hid g61; have G62 := Lib.hid g62; clear g61 g62 hb6))
           go_loopw [14] (fun kv wr => ∃ k : Nat, k ≤ DL.length ∧ kv = .int .i64 k ∧ Hid (Below wF.heap.size wF wr)) (fun kv _ => DL.length - (intOf kv).toNat)
           case atStart => exact ⟨0, Nat.zero_le _, rfl, Lib.hid (Below.refl _ _)⟩
           case round =>
            obtain ⟨k, hk, rfl, HW2⟩ := hrel
            have hDb : (DL.length : Int) ≤ 31 := by have := HDl.out; omega
            by_cases hlk : k < DL.length
            ·obtain ⟨ad6, e6, n0, _⟩ := at_D (Kd.C_below G62.out HW2.out) k hlk
             subst e6
             have cdr := Hdv.out wr (pbT HBr.out (below_then HBF.out HBF.out.size HW2.out))
             have hk0 : (0 : Int) ≤ (k : Int) := by omega
             have hk1 : (k : Int) < (DL.length : Int) := by omega
             have hne := HDn.out DL[k] (List.getElem_mem hlk)
             generalize DL[k].f0 = gk at n0 hne
             go_wp2
             go_quiet (fail)
             go_wp2
             go_roundw
             case rel => exact ⟨k + 1, hlk, by go_num, Lib.hid (by (with_reducible repeat (first | apply below_drew | apply pbA | apply pbN)); first | exact HW2.out | exact Below.refl _ _)⟩
             case measure => simp only [intOf]; omega
            ·obtain rfl : k = DL.length := by omega
             go_wp2
             go_roundw
             case rel => exact ⟨i + 1, DL, hlt, by go_num, Lib.hid ⟨A6, c6, rfl, G61.out, Kd.C_below G62.out HW2.out⟩, HDr, HDi, Lib.hid (Nat.le_trans HDl1.out Hl1n.out), Lib.hid (pbT HBr.out (below_then HBF.out HBF.out.size HW2.out))⟩
             case measure => simp only [intOf]; omega
       ·go_region_held3 (fun w' => w'.cell? ⟨w4.heap.size, 0, none⟩ = some (.int .i64 X.f0) ∧ w'.cell? ⟨w4.heap.size, 1, none⟩ = some (.string X.f1) ∧ w'.cell? ⟨w4.heap.size, 2, none⟩ = some (.string X.f2) ∧ w'.cell? ⟨w4.heap.size, 3, none⟩ = some (.int .i64 X.f3) ∧ w'.cell? ⟨w4.heap.size, 4, none⟩ = some (.slice X.a4 X.n4 X.c4) ∧ w'.cell? ⟨w4.heap.size, 5, none⟩ = some (.int .i64 X.f5) ∧ w'.cell? (ad.add (i * 6)) = some (.int .i64 dx.f0) ∧ w'.cell? ⟨(ad.add (i * 6)).block, (ad.add (i * 6)).off + 1, none⟩ = some (.string dx.f1) ∧ w'.cell? ⟨(ad.add (i * 6)).block, (ad.add (i * 6)).off + 2, none⟩ = some (.string dx.f2) ∧ w'.cell? ⟨(ad.add (i * 6)).block, (ad.add (i * 6)).off + 3, none⟩ = some (.int .i64 dx.f3) ∧ w'.cell? ⟨(ad.add (i * 6)).block, (ad.add (i * 6)).off + 4, none⟩ = some (.slice dx.a4 dx.n4 dx.c4) ∧ w'.cell? ⟨(ad.add (i * 6)).block, (ad.add (i * 6)).off + 5, none⟩ = some (.int .i64 dx.f5)) (first | go_keep | exact ⟨(hbw.cell (p := ⟨w4.heap.size, 0, none⟩) hBx).trans x0, (hbw.cell (p := ⟨w4.heap.size, 1, none⟩) hBx).trans x1, (hbw.cell (p := ⟨w4.heap.size, 2, none⟩) hBx).trans x2, (hbw.cell (p := ⟨w4.heap.size, 3, none⟩) hBx).trans x3, (hbw.cell (p := ⟨w4.heap.size, 4, none⟩) hBx).trans x4, (hbw.cell (p := ⟨w4.heap.size, 5, none⟩) hBx).trans x5, Hat.out _ (pbT HBr.out hbw)⟩) ((go_at_call 17; (with_reducible refine (hSm _ ?_).out.mono ?_); ((with_reducible repeat (first | apply below_drew | apply pbA | apply pbN)); exact Below.refl _ _); rintro e wS ⟨rfl, hbS⟩; have hbw : Below Wr.heap.size Wr wS := below_then (by (with_reducible repeat (first | apply below_drew | apply pbA | apply pbN)); first | exact hbw | exact Below.refl _ _) (Below.size (by (with_reducible repeat (first | apply below_drew | apply pbA | apply pbN)); first | exact hbw | exact Below.refl _ _)) hbS; clear hbS))
        cases sb
        ·obtain ⟨hany, rfl⟩ := HCl.out rfl
         clear hSm HCl
         have hlg := later_gen hany
         have hlb : (l1.length : Int) ≤ 31 := by have := Hl31.out; omega
         have Hlg := Lib.hid hlg
         clear hlg
         go_wp2
         go_loopw [12, 13] (fun tv kv wr => ∃ k : Nat, k ≤ l1.length ∧ kv = .int .i64 k ∧ tv = .bool ((l1.take k).any fun x => decide (dx.f3 ≤ x.f3)) ∧ Hid (Below Wr.heap.size Wr wr)) (fun _ kv _ => l1.length - (intOf kv).toNat)
         case atStart => exact ⟨0, Nat.zero_le _, rfl, rfl, Lib.hid (by (with_reducible repeat (first | apply below_drew | apply pbA | apply pbN)); first | exact hbw | exact Below.refl _ _)⟩
         case round =>
          obtain ⟨k, hk, rfl, rfl, HW⟩ := hrel
          have hmeas2 : k < l1.length → l1.length - (intOf (Value.int IntKind.i64 ((k : Int) + 1))).toNat < l1.length - (intOf (Value.int IntKind.i64 (k : Int))).toNat := fun h => by simp only [intOf]; omega
          by_cases hlk : k < l1.length
          ·obtain ⟨adn, en, _, _, _, n3, _⟩ := at_D (Kd.C_below HCnr.out HW.out) k hlk
           subst en
           obtain ⟨_, _, _, q3, _⟩ := Hat.out wr (pbT HBr.out HW.out)
           have hk0 : (0 : Int) ≤ (k : Int) := by omega
           have hk1 : (k : Int) < (l1.length : Int) := by omega
           have hs : (l1.take (k + 1)).any (fun x => decide (dx.f3 ≤ x.f3)) = ((l1.take k).any (fun x => decide (dx.f3 ≤ x.f3)) || decide (dx.f3 ≤ l1[k].f3)) := by rw [List.take_succ_eq_append_getElem hlk, List.any_append]; simp
           generalize l1[k].f3 = gk at n3 hs
           have Hs := Lib.hid hs
           have hm2 := hmeas2 hlk
           clear hs hmeas2
           generalize (l1.take k).any (fun x => decide (dx.f3 ≤ x.f3)) = tb at Hs
           cases tb
           ·go_wp2
            go_quiet (fail)
            go_wp2
            go_roundw
            case rel => exact ⟨k + 1, hlk, by go_num, by rw [Hs.out]; rfl, Lib.hid (by (with_reducible repeat (first | apply below_drew | apply pbA | apply pbN)); first | exact HW.out | exact Below.refl _ _)⟩
            case measure => simp only [intOf]; omega
           ·go_wp2
            go_quiet (fail)
            go_wp2
            go_roundw
            case rel => exact ⟨k + 1, hlk, by go_num, by rw [Hs.out]; rfl, Lib.hid (by (with_reducible repeat (first | apply below_drew | apply pbA | apply pbN)); first | exact HW.out | exact Below.refl _ _)⟩
            case measure => simp only [intOf]; omega
          ·obtain rfl : k = l1.length := by omega
           have hall : (l1.take l1.length).any (fun x => decide (dx.f3 ≤ x.f3)) = true := by
            rw [List.take_length]
            obtain ⟨q, hq, h⟩ := Hlg.out
            exact List.any_eq_true.2 ⟨l1[q], List.getElem_mem hq, decide_eq_true h⟩
           rw [hall]
           have HLs : Hid (∀ W, Below Wr.heap.size Wr W → Calls Try.prog 12 #[.slice A2 l1.length c2, .slice An l1.length cn] W fun e w' => e = .returned (.bool true) ∧ Below W.heap.size W w') := Lib.hid (fun W hW => list_calls (σ := σ) (Kd.C_below HC2r.out hW) (Kd.C_below HCnr.out hW) Hc2r.out Hcn.out (by have := HNl.out; omega) (fun x hx => ⟨(Hm.out x (HIn1.out x hx)).below (pbT HBr.out hW), by have := Hl2.out x (HIn1.out x hx); omega⟩))
           clear hall hmeas2
           cases hev : (dv.tmod 2 == 0)
           ·go_wp2_with (go_at_call 12; (with_reducible refine (HLs.out _ ?_).mono ?_); ((with_reducible repeat (first | apply below_drew | apply pbA | apply pbN)); first | exact HW.out | exact Below.refl _ _); rintro e wL ⟨rfl, hbL⟩; have hbw : Below Wr.heap.size Wr wL := below_then (by (with_reducible repeat (first | apply below_drew | apply pbA | apply pbN)); first | exact HW.out | exact Below.refl _ _) (Below.size (by (with_reducible repeat (first | apply below_drew | apply pbA | apply pbN)); first | exact HW.out | exact Below.refl _ _)) hbL; have cdr := Hdv.out wL (pbT HBr.out hbw); clear hbL)
            go_roundw
            case rel => exact ⟨i + 1, l1, hlt, by go_num, Lib.hid ⟨A2, c2, rfl, Hc2r.out, Kd.C_below HC2r.out (by (with_reducible repeat (first | apply below_drew | apply pbA | apply pbN)); first | exact hbw | exact Below.refl _ _)⟩, Hr1, HIn1, Hl1n, Lib.hid (pbT HBr.out (by (with_reducible repeat (first | apply below_drew | apply pbA | apply pbN)); first | exact hbw | exact Below.refl _ _))⟩
            case measure => simp only [intOf]; omega
           ·go_wp2_with (first | (go_at_call 12; (with_reducible refine (HLs.out _ ?_).mono ?_); ((with_reducible repeat (first | apply below_drew | apply pbA | apply pbN)); first | exact HW.out | exact Below.refl _ _); rintro e wL ⟨rfl, hbL⟩; have hbw : Below Wr.heap.size Wr wL := below_then (by (with_reducible repeat (first | apply below_drew | apply pbA | apply pbN)); first | exact HW.out | exact Below.refl _ _) (Below.size (by (with_reducible repeat (first | apply below_drew | apply pbA | apply pbN)); first | exact HW.out | exact Below.refl _ _)) hbL; have cdr := Hdv.out wL (pbT HBr.out hbw); clear hbL) | (go_at_call 15; (with_reducible refine (hFg _ ?_).out.mono ?_); ((with_reducible repeat (first | apply below_drew | apply pbA | apply pbN)); first | exact hbw | exact Below.refl _ _); rintro e wF ⟨A6, c6, rfl, g61, g62, hb6⟩; have HBF : Hid (Below Wr.heap.size Wr wF) := Lib.hid (below_then (by (with_reducible repeat (first | apply below_drew | apply pbA | apply pbN)); first | exact hbw | exact Below.refl _ _) (Below.size (by (with_reducible repeat (first | apply below_drew | apply pbA | apply pbN)); first | exact hbw | exact Below.refl _ _)) hb6); have G61 := Lib.hid g61; have G62 := Lib.hid g62; clear g61 g62 hb6))
            go_loopw [14] (fun kv wr => ∃ k : Nat, k ≤ DL.length ∧ kv = .int .i64 k ∧ Hid (Below wF.heap.size wF wr)) (fun kv _ => DL.length - (intOf kv).toNat)
            case atStart => exact ⟨0, Nat.zero_le _, rfl, Lib.hid (Below.refl _ _)⟩
            case round =>
             obtain ⟨k, hk, rfl, HW2⟩ := hrel
             have hDb : (DL.length : Int) ≤ 31 := by have := HDl.out; omega
             by_cases hlk : k < DL.length
             ·obtain ⟨ad6, e6, n0, _⟩ := at_D (Kd.C_below G62.out HW2.out) k hlk
              subst e6
              have cdr := Hdv.out wr (pbT HBr.out (below_then HBF.out HBF.out.size HW2.out))
              have hk0 : (0 : Int) ≤ (k : Int) := by omega
              have hk1 : (k : Int) < (DL.length : Int) := by omega
              have hne := HDn.out DL[k] (List.getElem_mem hlk)
              generalize DL[k].f0 = gk at n0 hne
              go_wp2
              go_quiet (fail)
              go_wp2
              go_roundw
              case rel => exact ⟨k + 1, hlk, by go_num, Lib.hid (by (with_reducible repeat (first | apply below_drew | apply pbA | apply pbN)); first | exact HW2.out | exact Below.refl _ _)⟩
              case measure => simp only [intOf]; omega
             ·obtain rfl : k = DL.length := by omega
              go_wp2
              go_roundw
              case rel => exact ⟨i + 1, DL, hlt, by go_num, Lib.hid ⟨A6, c6, rfl, G61.out, Kd.C_below G62.out HW2.out⟩, HDr, HDi, Lib.hid (Nat.le_trans HDl1.out Hl1n.out), Lib.hid (pbT HBr.out (below_then HBF.out HBF.out.size HW2.out))⟩
              case measure => simp only [intOf]; omega
        ·clear hSm HCl
         have cdr := Hdv.out wS (pbT HBr.out hbw)
         cases hev : (dv.tmod 2 == 0)
         ·go_wp2
          go_roundw
          case rel => exact ⟨i + 1, l1, hlt, by go_num, Lib.hid ⟨A2, c2, rfl, Hc2r.out, Kd.C_below HC2r.out (by (with_reducible repeat (first | apply below_drew | apply pbA | apply pbN)); first | exact hbw | exact Below.refl _ _)⟩, Hr1, HIn1, Hl1n, Lib.hid (pbT HBr.out (by (with_reducible repeat (first | apply below_drew | apply pbA | apply pbN)); first | exact hbw | exact Below.refl _ _))⟩
          case measure => simp only [intOf]; omega
         ·go_wp2_with (go_at_call 15; (with_reducible refine (hFg _ ?_).out.mono ?_); ((with_reducible repeat (first | apply below_drew | apply pbA | apply pbN)); first | exact hbw | exact Below.refl _ _); rintro e wF ⟨A6, c6, rfl, g61, g62, hb6⟩; have HBF : Hid (Below Wr.heap.size Wr wF) := Lib.hid (below_then (by (with_reducible repeat (first | apply below_drew | apply pbA | apply pbN)); first | exact hbw | exact Below.refl _ _) (Below.size (by (with_reducible repeat (first | apply below_drew | apply pbA | apply pbN)); first | exact hbw | exact Below.refl _ _)) hb6); have G61 := Lib.hid g61; have G62 := Lib.hid g62; clear g61 g62 hb6)
          go_loopw [14] (fun kv wr => ∃ k : Nat, k ≤ DL.length ∧ kv = .int .i64 k ∧ Hid (Below wF.heap.size wF wr)) (fun kv _ => DL.length - (intOf kv).toNat)
          case atStart => exact ⟨0, Nat.zero_le _, rfl, Lib.hid (Below.refl _ _)⟩
          case round =>
           obtain ⟨k, hk, rfl, HW2⟩ := hrel
           have hDb : (DL.length : Int) ≤ 31 := by have := HDl.out; omega
           by_cases hlk : k < DL.length
           ·obtain ⟨ad6, e6, n0, _⟩ := at_D (Kd.C_below G62.out HW2.out) k hlk
            subst e6
            have cdr := Hdv.out wr (pbT HBr.out (below_then HBF.out HBF.out.size HW2.out))
            have hk0 : (0 : Int) ≤ (k : Int) := by omega
            have hk1 : (k : Int) < (DL.length : Int) := by omega
            have hne := HDn.out DL[k] (List.getElem_mem hlk)
            generalize DL[k].f0 = gk at n0 hne
            go_wp2
            go_quiet (fail)
            go_wp2
            go_roundw
            case rel => exact ⟨k + 1, hlk, by go_num, Lib.hid (by (with_reducible repeat (first | apply below_drew | apply pbA | apply pbN)); first | exact HW2.out | exact Below.refl _ _)⟩
            case measure => simp only [intOf]; omega
           ·obtain rfl : k = DL.length := by omega
            go_wp2
            go_roundw
            case rel => exact ⟨i + 1, DL, hlt, by go_num, Lib.hid ⟨A6, c6, rfl, G61.out, Kd.C_below G62.out HW2.out⟩, HDr, HDi, Lib.hid (Nat.le_trans HDl1.out Hl1n.out), Lib.hid (pbT HBr.out (below_then HBF.out HBF.out.size HW2.out))⟩
            case measure => simp only [intOf]; omega
     ·obtain rfl : i = rs.length := by omega
      obtain ⟨An, cn, rfl, hcn, hCn⟩ := HR.out
      have Hcn := Lib.hid hcn
      have HCn := Lib.hid hCn
      obtain ⟨X, hX⟩ : ∃ X, X = fX (fun x => hasB x.f1 x.f2 key) NL := ⟨_, rfl⟩
      obtain ⟨ob, hob⟩ : ∃ ob, ob = (NL.find? (fun x => hasB x.f1 x.f2 key)).isSome := ⟨_, rfl⟩
      have hFd : Hid (Calls Try.prog 10 #[.slice An NL.length cn, .string key] wO fun e w' => e = .returned (.tuple #[.agg #[.int .i64 X.f0, .string X.f1, .string X.f2, .int .i64 X.f3, .slice X.a4 X.n4 X.c4, .int .i64 X.f5], .bool ob]) ∧ Below wO.heap.size wO w') := by
       have := find_calls An cn NL key wO hCn (by have := HLn.out; have := Hl1.out; omega)
       rw [foundV_eq, ← hX, ← hob] at this
       exact Lib.hid this
      have hHas : ob = true → hasB X.f1 X.f2 key = true := fun h => by
       rw [hob] at h
       rw [hX]
       unfold fX
       cases hf : NL.find? (fun x => hasB x.f1 x.f2 key) with
       | none => rw [hf] at h; cases h
       | some x => exact List.find?_some (p := fun x : RawD => hasB x.f1 x.f2 key) hf
      clear hX hob hcn hCn
      cases ob
      ·clear hHas
       go_wp2_with (first | (go_at_call 10; (with_reducible refine hFd.out.mono ?_); rintro e w1 ⟨rfl, hb1⟩) | (go_at_call 9; (with_reducible refine (hL _).out.mono ?_); rintro e w2 ⟨rfl, hb⟩))
       go_ret
       exact ⟨rfl, pbT (pbT HB.out hb1) (below_then (pbA (Below.refl _ _) _) (by simp) hb)⟩
      ·have hh := hHas rfl
       have hH : ∀ W, Hid (Calls Try.prog 18 #[.agg #[.string X.f1, .string X.f2], .string key] W fun e w' => e = .returned (.bool true) ∧ Below W.heap.size W w') := fun W => Lib.hid (r02_Has.calls _ _ _ _ W ((refHas_eq _ _ _).trans (congrArg some hh)))
       clear hHas hh
       go_wp2_with (first | (go_at_call 10; (with_reducible refine hFd.out.mono ?_); rintro e w1 ⟨rfl, hb1⟩; have HB1 := Lib.hid (pbT HB.out hb1); clear hb1) | (go_at_call 18; (with_reducible refine (hH _).out.mono ?_); rintro e w3 ⟨rfl, hb3⟩; have HB3 := Lib.hid (pbT (pbA HB1.out _) hb3); clear hb3) | (go_at_call 9; (with_reducible refine (hL _).out.mono ?_); rintro e w2 ⟨rfl, hb⟩))
       go_ret
       exact ⟨rfl, pbT HB3.out hb⟩
   ·have q1 : decide ((2000 : Int) < (key.size : Int)) = true := decide_eq_true (by omega)
    clear hk
    go_enter Try.func4, Try.ntmps4
    go_wp2_with (first | (go_at_call 6; (with_reducible refine (hS1 _ ?_).out.mono ?_); ((with_reducible repeat (first | apply below_drew | apply pbA | apply pbN)); first | exact HBq.out | exact Below.refl _ _); rintro e w1 ⟨rfl, ⟨nd, rfl⟩⟩) | (go_at_call 9; (with_reducible refine (hL _).out.mono ?_); rintro e w2 ⟨rfl, hb⟩))
    go_ret
    exact ⟨rfl, pbT (by ((with_reducible repeat (first | apply below_drew | apply pbA | apply pbN)); first | exact HBq.out | exact Below.refl _ _)) hb⟩
open Classical in
noncomputable def l18_RouteCache.f (l0 : List SD) (l1 : List Int) (a2 : ByteArray) : Option Bool := if (∀ x ∈ l0, Fits x) ∧ l1.length ≤ 4611686018427387904 then some true else none
theorem l18_RouteCache.calls (A0 : Option Addr) (c0 : Nat) (l0 : List SD) (A1 : Option Addr) (c1 : Nat) (l1 : List Int) (a2 : ByteArray) (r : Bool) (w : World) (hr : r = true) (hr0 : Kd.C k27 w A0 l0.length l0) (hc0 : l0.length ≤ c0) (hr1 : Kd.C (Kd.int .i64) w A1 l1.length l1) (hc1 : l1.length ≤ c1) (h : l18_RouteCache.f l0 l1 a2 = some r) :
 Calls Try.prog 4 #[.slice A0 l0.length c0, .slice A1 l1.length c1, .string a2] w fun e w' => e = .returned (.bool r) ∧ Below w.heap.size w w' := by
 subst hr
 unfold l18_RouteCache.f at h
 split at h
 ·rename_i hp
  obtain ⟨hf, f1⟩ := hp
  obtain ⟨rs, e, h1, h2, h3⟩ := raws_of hr0 hf
  have := cache_main A0 c0 rs A1 c1 l1 a2 w h1 (by omega) h2 h3 hr1 f1
  rw [e] at this
  exact this
 ·cases h
end Go.Proofs.Ytppdcldbebnmlaa.P
end
section
namespace Go.Proofs.Ytppdcldbebnmlaa.U
open Go.RowKit Go.Proofs.YtppdcldbebnmlaaW.PrintWords Go.Proofs.YtppdcldbebnmlaaW.PrintLast Go.Proofs.YtppdcldbebnmlaaW.PrintMore Go.Proofs.Ytppdcldbebnmlaa.P Go.Proofs.Ytppdcldbebnmlaa.K
theorem RouteCache : ∀ (l0 : List SD), (l0.length * 80 ≤ reachBytes ∧ l0.length ≤ maxLen ∧ ∀ x ∈ l0, ((Lit.int .i64 x.f0).wf = true ∧ (x.f1.f0.size ≤ reachBytes ∧ x.f1.f1.size ≤ reachBytes) ∧ (Lit.int .i64 x.f2).wf = true ∧ (x.f3.length * 16 ≤ reachBytes ∧ x.f3.length ≤ maxLen ∧ ∀ y ∈ x.f3, ((Lit.int .i64 y.f0).wf = true ∧ (Lit.int .i64 y.f1).wf = true)) ∧ (Lit.int .i64 x.f4).wf = true)) →
 ∀ (l1 : List Int), (l1.length * 8 ≤ reachBytes ∧ l1.length ≤ maxLen ∧ ∀ x ∈ l1, (Lit.int .i64 x).wf = true) → ∀ (a2 : ByteArray), a2.size ≤ reachBytes → l18_RouteCache.f l0 l1 a2 = some true := by
 intro l0 h0 l1 h1 a2 _
 unfold l18_RouteCache.f
 unfold reachBytes at *
 have hc : (∀ x ∈ l0, Fits x) ∧ l1.length ≤ 4611686018427387904 := by
  refine ⟨fun x hx => ?_, by omega⟩
  obtain ⟨_, ⟨q1, q2⟩, _, ⟨q3, _⟩, _⟩ := h0.2.2 x hx
  exact ⟨by omega, by omega, by omega⟩
 exact if_pos hc
end Go.Proofs.Ytppdcldbebnmlaa.U
end
section
namespace Go.Proofs.Ytppdcldbebnmlaa.routeCache
open Go.ChangeShapes Go.WideShapes Go.ChangeAt Go.RowKit Go.Proofs.Ytppdcldbebnmlaa.K
open Go.ChangeMaps (open_string shut_string)
open Go.RowKit Go.Proofs.YtppdcldbebnmlaaW.PrintWords Go.Proofs.YtppdcldbebnmlaaW.PrintLast Go.Proofs.YtppdcldbebnmlaaW.PrintMore Go.Proofs.Ytppdcldbebnmlaa.P Go.Proofs.Ytppdcldbebnmlaa.K
theorem own : ownKnob Try.prog.godebug = none := by kernel_rfl
theorem laidOut : laidOutB Try.prog = true := by kernel_rfl
set_option maxRecDepth 100000 in
theorem opn24 : O.Opn Try.prog 24 P.k24 (fun x => (x.f0.size ≤ reachBytes ∧ x.f1.size ≤ reachBytes)) := O.Opn.iso (fun y => ⟨y.1, y.2⟩) (fun _ => rfl) (O.Opn.struct Try.underlying24 (by kernel_rfl) (O.OpnF.cons rfl (by kernel_rfl) (O.Opn.string Try.underlying9) (O.OpnF.one rfl (by kernel_rfl) (O.Opn.string Try.underlying9))))
set_option maxRecDepth 100000 in
theorem opn47 : O.Opn Try.prog 47 P.k47 (fun x => ((Lit.int .i64 x.f0).wf = true ∧ (Lit.int .i64 x.f1).wf = true)) := O.Opn.iso (fun y => ⟨y.1, y.2⟩) (fun _ => rfl) (O.Opn.struct Try.underlying47 (by kernel_rfl) (O.OpnF.cons rfl (by kernel_rfl) (O.Opn.int Try.underlying3) (O.OpnF.one rfl (by kernel_rfl) (O.Opn.int Try.underlying2))))
set_option maxRecDepth 100000 in
theorem opn27 : O.Opn Try.prog 27 P.k27 (fun x => ((Lit.int .i64 x.f0).wf = true ∧ (x.f1.f0.size ≤ reachBytes ∧ x.f1.f1.size ≤ reachBytes) ∧ (Lit.int .i64 x.f2).wf = true ∧ (x.f3.length * 16 ≤ reachBytes ∧ x.f3.length ≤ maxLen ∧ ∀ y ∈ x.f3, ((Lit.int .i64 y.f0).wf = true ∧ (Lit.int .i64 y.f1).wf = true)) ∧ (Lit.int .i64 x.f4).wf = true)) := O.Opn.iso (fun y => ⟨y.1, y.2.1, y.2.2.1, y.2.2.2.1, y.2.2.2.2⟩) (fun _ => rfl) (O.Opn.struct Try.underlying27 (by kernel_rfl) (O.OpnF.cons rfl (by kernel_rfl) (O.Opn.int Try.underlying2) (O.OpnF.cons rfl (by kernel_rfl) opn24 (O.OpnF.cons rfl (by kernel_rfl) (O.Opn.int Try.underlying2) (O.OpnF.cons rfl (by kernel_rfl) (O.Opn.slice Try.underlying25 (by kernel_rfl) (by kernel_rfl) opn47) (O.OpnF.one rfl (by kernel_rfl) (O.Opn.int Try.underlying2)))))))
set_option maxRecDepth 100000 in
theorem contract (H : Type) (enc : TypeId × Value → H) (W : World) (base : Nat) (args : Array Value) (ds gs : List (DataW H)) (before : List MemPlace)
 (hval0 : ∀ (j : Nat) t v, Try.f4.params[j]? = some t → args[j]? = some v → Value.okWide Try.prog W .any base t v)
 (hW : DataW.Whole enc Try.prog Try.f4.params.toList Rows.routeCacheSpec.vars false W args.toList ds gs before)
 (hsz0 : (DataW.weightsEach Try.prog (Try.f4.params.toList ++ Rows.routeCacheSpec.plain.varTypes Try.prog) (ds ++ gs)).all (· ≤ reachBytes) = true) :
 Calls Try.prog 4 args W fun e W' => ∃ v, e = .returned v ∧ Rows.routeCacheSpec.post enc Try.prog Try.f4 false true false false W args v W' := by
 have hsz : (DataW.weightsEach Try.prog (Try.f4.params.toList ++ Rows.routeCacheSpec.plain.varTypes Try.prog) (ds ++ gs)).all (· ≤ reachBytes) = true := hsz0
 have hval : ∀ (j : Nat) t v, Try.f4.params[j]? = some t → args[j]? = some v → Value.okWide Try.prog W .any base t v := hval0
 have hW' := hW
 obtain ⟨p, q, hA0, hV, rfl, hfz, hnd⟩ := hW
 have hA : DataW.TrodAll enc Try.prog W 0 (fun _ => true) true Try.f4.params.toList args.toList ds p := hA0
 rw [Try.params4] at hA hval hsz
 obtain ⟨v0, vs0, d0, ds0, p0, q0, hargs, rfl, rfl, h0, r0⟩ := trodAll_cons hA
 obtain ⟨v1, vs1, d1, ds1, p1, q1, rfl, rfl, rfl, h1, r1⟩ := trodAll_cons r0
 obtain ⟨v2, vs2, d2, ds2, p2, q2, rfl, rfl, rfl, h2, r2⟩ := trodAll_cons r1
 obtain ⟨rfl, rfl, rfl⟩ := trodAll_nil r2
 obtain rfl : args = #[v0, v1, v2] := by cases args; simp_all
 obtain ⟨rfl, rfl⟩ := trodVars_none hV
 have k0 := h0
 have lt0 : ∀ x ∈ p0, x.block < W.heap.size := by obtain ⟨m, hm⟩ := k0; exact DataW.trod_lt m _ _ _ hm
 have wt0 : ∀ n ∈ DataW.weights Try.prog 22 d0, n ≤ reachBytes := fun n hn => of_decide_eq_true (List.all_eq_true.1 hsz n (DataW.weights_mem_each (j := 0) rfl rfl n hn))
 obtain ⟨a0, len0, cap0, rfl⟩ := okWide_slice Try.underlying22 (hval 0 22 v0 rfl rfl)
 obtain ⟨fu0, hf0⟩ := h0
 obtain ⟨l0, ⟨A0, c0, hcs0, hc0, hr0⟩, hok0⟩ := (O.Opn.slice Try.underlying22 (by kernel_rfl) (by kernel_rfl) opn27) H enc W _ _ _ _ _ _ _ hf0 wt0
 simp [Value.cells] at hcs0
 obtain ⟨rfl, rfl, rfl⟩ := hcs0
 have k1 := h1
 have lt1 : ∀ x ∈ p1, x.block < W.heap.size := by obtain ⟨m, hm⟩ := k1; exact DataW.trod_lt m _ _ _ hm
 have wt1 : ∀ n ∈ DataW.weights Try.prog 38 d1, n ≤ reachBytes := fun n hn => of_decide_eq_true (List.all_eq_true.1 hsz n (DataW.weights_mem_each (j := 1) rfl rfl n hn))
 obtain ⟨a1, len1, cap1, rfl⟩ := okWide_slice Try.underlying38 (hval 1 38 v1 rfl rfl)
 obtain ⟨fu1, hf1⟩ := h1
 obtain ⟨l1, ⟨A1, c1, hcs1, hc1, hr1⟩, hok1⟩ := (O.Opn.slice Try.underlying38 (by kernel_rfl) (by kernel_rfl) (O.Opn.int Try.underlying2)) H enc W _ _ _ _ _ _ _ hf1 wt1
 simp [Value.cells] at hcs1
 obtain ⟨rfl, rfl, rfl⟩ := hcs1
 have k2 := h2
 have lt2 : ∀ x ∈ p2, x.block < W.heap.size := by obtain ⟨m, hm⟩ := k2; exact DataW.trod_lt m _ _ _ hm
 have wt2 : ∀ n ∈ DataW.weights Try.prog 9 d2, n ≤ reachBytes := fun n hn => of_decide_eq_true (List.all_eq_true.1 hsz n (DataW.weights_mem_each (j := 2) rfl rfl n hn))
 obtain ⟨a2, rfl, rfl, rfl, y2⟩ := open_string Try.underlying9 (hval 2 9 v2 rfl rfl) h2
 have w2 : a2.size ≤ reachBytes := by have := wt2 a2.data.toList.length (by simp [DataW.weights]); rw [← Lib.size_eq] at this; exact this
 have hp := U.RouteCache l0 hok0 l1 hok1 a2 w2
 refine (l18_RouteCache.calls (r := true) (w := W) (hr := rfl) (hr0 := hr0) (hc0 := hc0) (hr1 := hr1) (hc1 := hc1) (h := hp)).mono ?_
 rintro e W' ⟨rfl, bel0⟩
 have bel : Below W.heap.size W W' := by first | exact bel0 | exact bel0.below
 exact ⟨_, rfl, _, _, _, [], _, [], hW', trodAll_mk1 (shut_bool Try.underlying4 _), (trodAll_cons_mk (Below.trod laidOut (by kernel_rfl) (of_decide_eq_true (by kernel_rfl)) k0 bel lt0) (trodAll_cons_mk (Below.trod laidOut (by kernel_rfl) (of_decide_eq_true (by kernel_rfl)) k1 bel lt1) (trodAll_cons_mk (Below.trod laidOut (by kernel_rfl) (of_decide_eq_true (by kernel_rfl)) k2 bel lt2) trodAll_mk0))), rfl, bel.frame _, fun h => by cases h⟩
set_option maxRecDepth 100000 in
theorem lifted (os : Os) (started : os.Started) (H : Type) (enc : TypeId × Value → H) :
 ReturnsInHanded {} Try.checked os 4 .any (Rows.routeCacheSpec.pre6 enc Try.prog Try.f4 Rows.routeCacheRow.domain false) (Rows.routeCacheSpec.post enc Try.prog Try.f4 false true false false) := by
 refine returnsInHanded_of_change_sized (C := Try.checked) own started (by kernel_rfl) Try.func4
  (ChangeSpec.witness6 (enc := enc) (C := Try.checked) false ⟨#[], #[.slice none 0 0, .slice none 0 0, .string ByteArray.empty], []⟩ 8 (by kernel_rfl) (by kernel_rfl) (by kernel_rfl) (by kernel_rfl)) ?_
 intro W base args ds gs before hval hW _ hsz _
 exact contract H enc W base args ds gs before hval hW hsz
theorem said : Rows.RouteCacheSaid :=
 OpenClaim.holds_of_wide 4 Try.f4 rfl rfl rfl rfl rfl rfl rfl ⟨rfl, rfl, rfl, rfl, rfl⟩ rfl rfl rfl rfl rfl (by kernel_rfl) Try.func4 (by kernel_rfl)
  (of_decide_eq_true (by kernel_rfl)) (by unfold Func.isWrapper; first | (rw [if_pos (by decide +kernel)]; kernel_rfl) | (rw [if_neg (by decide +kernel)]; exact ⟨rfl, rfl⟩))
  (fun os started H enc _ => lifted os started H enc)
#print axioms said
end Go.Proofs.Ytppdcldbebnmlaa.routeCache
namespace Go.Proofs.Ytppdcldbebnmlaa
theorem routeCache_holds : Rows.RouteCacheSaid := routeCache.said
end Go.Proofs.Ytppdcldbebnmlaa
end
