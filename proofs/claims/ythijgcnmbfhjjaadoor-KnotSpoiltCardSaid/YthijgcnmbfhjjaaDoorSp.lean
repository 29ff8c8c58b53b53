/- The walk of KnotSpoilt, by hand: a row of bytes out of a text, one byte of it written, and a text out of it again. -/
import Derived.Test.YthijgcnmbfhjjaaDoorPx1
import Derived.Test.YthijgcnmbfhjjaaDoorV
import Derived.Lib.ConvBytes
import Derived.Laws.BytesArg
namespace Go.Proofs.YthijgcnmbfhjjaaDoor.P
set_option linter.unusedVariables false
set_option linter.unusedSimpArgs false
set_option linter.unnecessarySimpa false
open Go.RowKit Go.Proofs.YthijgcnmbfhjjaaDoorW.PrintWords Go.Proofs.YthijgcnmbfhjjaaDoorW.PrintLast Go.Proofs.YthijgcnmbfhjjaaDoorW.PrintMore Go.Proofs.YthijgcnmbfhjjaaDoor.K Go.Proofs.YthijgcnmbfhjjaaDoor.A
/-- A text in which one byte is another one. -/
def spoil (t : ByteArray) (i : Nat) (c : Int) : ByteArray := B (t.data.toList.set i (UInt8.ofNat c.toNat))
def furlonglaw01_KnotSpoilt.f (k : Nat) (s : ByteArray) (n c : Int) : Option Bool :=
  if (s.size : Int) > 20000 then furlonglaw01_live.f k else
  (knot_Seal.f s).bind fun t => if ¬ t.size = s.size + 8 then none else if n < 0 then furlonglaw01_live.f k else if n ≥ (t.size : Int) then furlonglaw01_live.f k else if bt t n = c then furlonglaw01_live.f k else
  (knot_Open.f (spoil t n.toNat c)).bind fun r => if r.2 = 11 then (if r.1.toList = ([] : List UInt8) then furlonglaw01_live.f k else some false) else some false
theorem bytes_frozen (w1 : World) (t : ByteArray) (n : Nat) (h : n < t.size) : (Lib.bytesWorld w1 5 t).frozen? ⟨w1.heap.size, n, none⟩ = false := by
  have hz : t.size ≤ (Lib.bytesCells w1 5 t).size := by simp [Lib.bytesCells]
  simp [World.frozen?, Lib.bytesWorld_at_new]
  omega
theorem spoil_nums (t : ByteArray) (n : Nat) (c : Int) : strOfNums ((t.data.toList.map fun b => (b.toNat : Int)).set n c) = spoil t n c := by
  unfold strOfNums spoil B
  rw [List.map_set, List.map_map]
  rw [show ((fun n : Int => UInt8.ofNat n.toNat) ∘ fun d : UInt8 => ((d.toNat : Nat) : Int)) = id from funext fun d => by simp, List.map_id]
theorem conv_out (w1 : World) (t : ByteArray) (n : Nat) (hn : n < t.size) (c : Int) (cap : Nat) : (convert 53 9 (.slice (some ⟨w1.heap.size, 0, none⟩) t.size cap)).run Tryd.prog ((Lib.bytesWorld w1 5 t).setCell ⟨w1.heap.size, n, none⟩ (.int .u8 c)) = .ok (.string (spoil t n c)) ((Lib.bytesWorld w1 5 t).setCell ⟨w1.heap.size, n, none⟩ (.int .u8 c)) := by
  rw [← spoil_nums]
  refine run_convert_bytes_arg _ 53 5 Tryd.underlying53 Tryd.underlying5 w1.heap.size 0 t.size cap _ (by simp) ?_ _ Tryd.underlying9
  intro i hi
  rw [Nat.zero_add]
  have hc := Lib.bytesWorld_cell w1 5 t i hi
  have hz : t.size ≤ (Lib.bytesCells w1 5 t).size := by simp [Lib.bytesCells]
  by_cases e : i = n
  · subst e
    simp only [World.setCell, World.cell?, Array.getElem?_modify, Lib.bytesWorld_at_new]
    simp [hi, show i < (Lib.bytesCells w1 5 t).size by omega]
  · simp only [World.cell?, Lib.bytesWorld_at_new] at hc
    simp only [World.setCell, World.cell?, Array.getElem?_modify, Lib.bytesWorld_at_new]
    simp only [Option.map_some, if_true, Option.bind_some] at hc ⊢
    simp [Array.getElem?_setIfInBounds, Ne.symm e] at hc ⊢
    rw [hc]
    simp [List.getD]
    have hi' : i < t.data.size := hi
    rw [Array.getElem?_eq_getElem hi']
    rfl
theorem conv_in (w1 : World) (t : ByteArray) : (convert 9 53 (.string t)).run Tryd.prog w1 = .ok (.slice (some ⟨w1.heap.size, 0, none⟩) t.size (grownCap w1 t.size 0 5)) (Lib.bytesWorld w1 5 t) :=
  Lib.run_convert_string_bytes (P := Tryd.prog) w1 9 53 5 t (u := .string) Tryd.underlying9 Tryd.underlying53 Tryd.underlying5
set_option maxHeartbeats 4000000 in
set_option maxRecDepth 100000 in
theorem furlonglaw01_KnotSpoilt.calls (k : Nat) (a0 : ByteArray) (a1 a2 : Int) (r : Bool) (w : World) (hG : TheG w) (h : furlonglaw01_KnotSpoilt.f k a0 a1 a2 = some r) :
    Calls Tryd.prog 8 #[.string a0, .int .i64 a1, .int .u8 a2] w fun e w' => e = .returned (.bool r) ∧ Below w.heap.size w w' := by
  unfold furlonglaw01_KnotSpoilt.f at h
  by_cases hs : (a0.size : Int) > 20000
  · rw [if_pos hs] at h
    have H := Lib.hid h
    clear h
    go_enter Tryd.func8, Tryd.ntmps8
    go_wp2_with (first | (go_at_call 11; refine (furlonglaw01_live.calls k r _ hG H.out).mono ?_; rintro e w1 ⟨rfl, hb⟩) | fail)
    go_ret
    exact ⟨rfl, hb⟩
  rw [if_neg hs] at h
  obtain ⟨t, ht, h⟩ := Option.bind_eq_some_iff.mp h
  by_cases hz : t.size = a0.size + 8
  · rw [if_neg (Classical.not_not.2 hz)] at h
    have HT := Lib.hid ht
    clear ht
    have hcv : ∀ w1, (convert 9 53 (.string t)).run Tryd.prog w1 = .ok (.slice (some ⟨w1.heap.size, 0, none⟩) t.size (grownCap w1 t.size 0 5)) (Lib.bytesWorld w1 5 t) := fun w1 => conv_in w1 t
    by_cases c1 : a1 < 0
    · rw [if_pos c1] at h
      have H := Lib.hid h
      clear h
      go_enter Tryd.func8, Tryd.ntmps8
      go_wp2_with (first | (go_at_call 29; refine (knot_Seal.calls a0 t _ hG HT.out).mono ?_; rintro e w1 ⟨rfl, hb⟩) | (go_at_call 11; refine (furlonglaw01_live.calls k r _ (hG.below (below_step hb (bytes_below _ _ _))) H.out).mono ?_; rintro e w2 ⟨rfl, hb2⟩) | fail)
      go_ret
      exact ⟨rfl, below_step (below_step hb (bytes_below _ _ _)) hb2⟩
    rw [if_neg c1] at h
    by_cases c2 : a1 ≥ (t.size : Int)
    · rw [if_pos c2] at h
      have H := Lib.hid h
      clear h
      go_enter Tryd.func8, Tryd.ntmps8
      go_wp2_with (first | (go_at_call 29; refine (knot_Seal.calls a0 t _ hG HT.out).mono ?_; rintro e w1 ⟨rfl, hb⟩) | (go_at_call 11; refine (furlonglaw01_live.calls k r _ (hG.below (below_step hb (bytes_below _ _ _))) H.out).mono ?_; rintro e w2 ⟨rfl, hb2⟩) | fail)
      go_ret
      exact ⟨rfl, below_step (below_step hb (bytes_below _ _ _)) hb2⟩
    rw [if_neg c2] at h
    obtain ⟨n, rfl⟩ : ∃ n : Nat, a1 = n := ⟨a1.toNat, by omega⟩
    have hn : n < t.size := by omega
    have hbt : bt t (n : Int) = ((t.data.toList.getD n 0).toNat : Int) := by
      rw [V.bt_eq t n t[n] (V.bt_lt hn), List.getD, V.bt_lt hn]; rfl
    have hcell : ∀ w1, (Lib.bytesWorld w1 5 t).cell? ⟨w1.heap.size, n, none⟩ = some (.int .u8 (bt t (n : Int))) := fun w1 => by rw [hbt]; exact Lib.bytesWorld_cell w1 5 t n hn
    by_cases c3 : bt t (n : Int) = a2
    · rw [if_pos c3] at h
      have c3b : (((t.data[n]?.getD 0).toNat : Int) == a2) = true := by rw [beq_iff_eq, ← c3, hbt]; simp [List.getD]
      have H := Lib.hid h
      clear h
      go_enter Tryd.func8, Tryd.ntmps8
      go_wp2_with (first | (go_at_call 29; refine (knot_Seal.calls a0 t _ hG HT.out).mono ?_; rintro e w1 ⟨rfl, hb⟩; have hcell1 := hcell w1) | (go_at_call 11; refine (furlonglaw01_live.calls k r _ (hG.below (below_step hb (bytes_below _ _ _))) H.out).mono ?_; rintro e w2 ⟨rfl, hb2⟩) | fail)
      go_ret
      exact ⟨rfl, below_step (below_step hb (bytes_below _ _ _)) hb2⟩
    rw [if_neg c3] at h
    have c3b : (((t.data[n]?.getD 0).toNat : Int) == a2) = false := by rw [beq_eq_false_iff_ne]; intro e; apply c3; rw [hbt, ← e]; simp [List.getD]
    have hfz : ∀ w1, (Lib.bytesWorld w1 5 t).frozen? ⟨w1.heap.size, n, none⟩ = false := fun w1 => bytes_frozen w1 t n hn
    have hout := fun w1 c => conv_out w1 t n hn a2 c
    rw [hz] at hout
    have hpv : ∀ w1, Below w1.heap.size w1 ((Lib.bytesWorld w1 5 t).setCell ⟨w1.heap.size, n, none⟩ (.int .u8 a2)) := fun w1 => (bytes_below w1 _ t).setCell (Nat.le_refl _) _
    obtain ⟨q, hq, h⟩ := Option.bind_eq_some_iff.mp h
    obtain ⟨x, e⟩ := q
    rw [Int.toNat_natCast] at hq
    have HQ := Lib.hid hq
    clear hq
    by_cases e11 : e = 11
    · subst e11
      simp only [if_true] at h
      by_cases hx : x.toList = ([] : List UInt8)
      · rw [if_pos hx] at h
        have hxb : (x.toList == ([] : List UInt8)) = true := beq_iff_eq.2 hx
        have H := Lib.hid h
        clear h
        go_enter Tryd.func8, Tryd.ntmps8
        go_wp2_with (first | (go_at_call 29; refine (knot_Seal.calls a0 t _ hG HT.out).mono ?_; rintro e w1 ⟨rfl, hb⟩; have hfz1 := hfz w1; have hout1 := hout w1; have hb1 := below_step hb (hpv w1)) | (go_at_call 25; refine (knot_Open.calls _ x 11 _ (hG.below hb1) HQ.out).mono ?_; rintro e w2 ⟨rfl, hb2⟩; have hb3 := below_step hb1 hb2) | (go_at_call 16; refine (furlonglaw01_num.calls 11 11 _ (hG.below hb3) rfl).mono ?_; rintro e w3 ⟨rfl, ⟨nd, rfl⟩⟩) | (go_at_call 11; refine (furlonglaw01_live.calls k r _ (hG.below (pw_below_drewN hb3 _)) H.out).mono ?_; rintro e w4 ⟨rfl, hb4⟩) | fail)
        go_ret
        exact ⟨rfl, below_step (pw_below_drewN hb3 _) hb4⟩
      · rw [if_neg hx] at h
        have hxb : (x.toList == ([] : List UInt8)) = false := beq_eq_false_iff_ne.2 hx
        obtain rfl := Option.some.inj h
        go_enter Tryd.func8, Tryd.ntmps8
        go_wp2_with (first | (go_at_call 29; refine (knot_Seal.calls a0 t _ hG HT.out).mono ?_; rintro e w1 ⟨rfl, hb⟩; have hfz1 := hfz w1; have hout1 := hout w1; have hb1 := below_step hb (hpv w1)) | (go_at_call 25; refine (knot_Open.calls _ x 11 _ (hG.below hb1) HQ.out).mono ?_; rintro e w2 ⟨rfl, hb2⟩; have hb3 := below_step hb1 hb2) | (go_at_call 16; refine (furlonglaw01_num.calls 11 11 _ (hG.below hb3) rfl).mono ?_; rintro e w3 ⟨rfl, ⟨nd, rfl⟩⟩) | fail)
        go_ret
        exact ⟨rfl, pw_below_drewN hb3 _⟩
    · rw [if_neg e11] at h
      obtain rfl := Option.some.inj h
      have e11b : (e == 11) = false := beq_eq_false_iff_ne.2 e11
      go_enter Tryd.func8, Tryd.ntmps8
      go_wp2_with (first | (go_at_call 29; refine (knot_Seal.calls a0 t _ hG HT.out).mono ?_; rintro e w1 ⟨rfl, hb⟩; have hfz1 := hfz w1; have hout1 := hout w1; have hb1 := below_step hb (hpv w1)) | (go_at_call 25; refine (knot_Open.calls _ x e _ (hG.below hb1) HQ.out).mono ?_; rintro e w2 ⟨rfl, hb2⟩; have hb3 := below_step hb1 hb2) | (go_at_call 16; refine (furlonglaw01_num.calls e e _ (hG.below hb3) rfl).mono ?_; rintro e w3 ⟨rfl, ⟨nd, rfl⟩⟩) | fail)
      go_ret
      exact ⟨rfl, pw_below_drewN hb3 _⟩
  · rw [if_pos hz] at h; cases h
end Go.Proofs.YthijgcnmbfhjjaaDoor.P
