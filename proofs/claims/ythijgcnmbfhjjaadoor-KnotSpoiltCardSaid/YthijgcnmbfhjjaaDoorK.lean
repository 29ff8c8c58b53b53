/- Contracts of package knot's leaf functions over this dump, in the form in which the printed texts ask for them: Num, Int, Tie, Seal, and strings.Cut; and TheG: the library's tables lie as laid. -/
import Derived.Test.YthijgcnmbfhjjaaDoorKb
import Derived.Test.YthijgcnmbfhjjaaDoorWLast
import Derived.Lib.Hide
import Derived.LoopTactic
import Derived.Outline
import Derived.Deep.LoopGhost
import Derived.WalkSmall
import Derived.Lib.ItoaLen
set_option linter.unusedVariables false
namespace Go.Proofs.YthijgcnmbfhjjaaDoor.K
open Go.RowKit Go.Proofs.YthijgcnmbfhjjaaDoorW.PrintWords Go.Proofs.YthijgcnmbfhjjaaDoorW.PrintLast

/-- What the library's own variables hold: as they were laid. -/
structure TheG (w : World) : Prop where
  tab : Lib.TabIs Tryd.prog w "internal/strconv.uint64pow10" .u64 Lib.pow10Tab
  syn : ∃ ev, w.cell? ⟨0, 0, none⟩ = some ev ∧ (ev = .nilIface ∨ ∃ te pe, ev = .iface te pe)
  rng : ∃ ev, w.cell? ⟨1, 0, none⟩ = some ev ∧ (ev = .nilIface ∨ ∃ te pe, ev = .iface te pe)
  mx : ∃ m, w.cell? ⟨3, 0, none⟩ = some (.int .i64 m)
theorem var_lt {w : World} {n : String} {cs : Array Value} {g : Nat} (hg : Tryd.prog.globalNamed n = some g) (h : w.var? Tryd.prog n = some cs) : g < w.heap.size := by
  unfold World.var? at h
  rw [hg, Option.bind_some] at h
  rcases Nat.lt_or_ge g w.heap.size with h' | h'
  · exact h'
  · rw [Array.getElem?_eq_none h'] at h; exact absurd h (by simp)
theorem g_tab : Tryd.prog.globalNamed "internal/strconv.uint64pow10" = some 2 := by kernel_rfl
theorem TheG.below {w w' : World} (h : TheG w) (hb : Below w.heap.size w w') : TheG w' := by
  obtain ⟨h1, ⟨e1, h2, h2'⟩, ⟨e2, h3, h3'⟩, m, h4⟩ := h
  exact ⟨var?_below hb g_tab (var_lt g_tab h1) h1, ⟨e1, pw_cell_below hb h2, h2'⟩, ⟨e2, pw_cell_below hb h3, h3'⟩, m, pw_cell_below hb h4⟩
theorem TheG.quiet {w w' : World} (h : TheG w) (hb : Drawn0 w w') : TheG w' := h.below hb.below

/-! ### knot.Num -/
def numB (n : Int) : ByteArray := ⟨(Lib.itoa n).toArray⟩
def knot_Num.f (a0 : Int) : Option ByteArray := if -9223372036854775808 ≤ a0 then (if a0 ≤ 9223372036854775807 then some (numB a0) else none) else none
theorem below_grow (w : World) (k : Nat) (os : Array Obj) : Below w.heap.size w (Go.Sort.grow (w.drewN k) os) := by
  have h : ∀ (W : World), Below W.heap.size W (Go.Sort.grow W os) := fun W =>
    ⟨rfl, rfl, rfl, by simp [Go.Sort.grow], fun i hi => by simp only [Go.Sort.grow]; rw [Array.getElem?_append_left hi]⟩
  exact below_then (pw_below_drewN (Below.refl _ _) k) (by rw [World.heap_drewN]; exact Nat.le_refl _) (h _)
set_option maxHeartbeats 1000000 in
set_option maxRecDepth 100000 in
theorem knot_Num.calls (a0 : Int) (r : ByteArray) (w : World) (hG : TheG w) (h : knot_Num.f a0 = some r) :
    Calls Tryd.prog 14 #[.int .i64 a0] w fun e w' => e = .returned (.string r) ∧ Below w.heap.size w w' := by
  unfold knot_Num.f at h
  split at h
  · split at h
    · rename_i h0 h1
      obtain rfl := Option.some.inj h
      go_enter Tryd.func14, Tryd.ntmps14
      go_wp2_with (go_at_call 32; refine (Tryd.strconv_FormatInt_10 a0 h0 h1 _ hG.tab).mono ?_; rintro e w' ⟨rfl, k, os, rfl⟩)
      go_ret
      exact ⟨rfl, below_grow _ _ _⟩
    · exact absurd h (by simp)
  · exact absurd h (by simp)

/-! ### knot.Int -/
theorem parseUintM_le (M : Nat) : ∀ (l : List UInt8) (acc u : Nat), acc ≤ M → Lib.parseUintM M acc l = .ok u → u ≤ M
  | [], acc, u, h, e => by simp only [Lib.parseUintM] at e; injection e with e; omega
  | c :: r, acc, u, h, e => by
    simp only [Lib.parseUintM] at e
    split at e
    · split at e
      · exact absurd e (by simp)
      · split at e
        · exact absurd e (by simp)
        · exact parseUintM_le M r _ u (by omega) e
    · exact absurd e (by simp)
theorem parseIntB_bound {l : List UInt8} {v : Int} (h : Lib.parseIntB 64 l = .ok v) : -9223372036854775808 ≤ v ∧ v ≤ 9223372036854775807 := by
  cases l with
  | nil => simp [Lib.parseIntB] at h
  | cons c r =>
    simp only [Lib.parseIntB] at h
    cases hu : Lib.parseUintB 64 (if c.toNat = 43 ∨ c.toNat = 45 then r else c :: r)
    case ok u =>
      rw [hu] at h
      simp only [] at h
      split at h
      · exact absurd h (by simp)
      · split at h
        · exact absurd h (by simp)
        · injection h with h
          split at h <;> omega
    all_goals (rw [hu] at h; exact absurd h (by simp))
theorem bytes_below (w : World) (e : TypeId) (s : ByteArray) : Below w.heap.size w (Lib.bytesWorld w e s) :=
  ⟨rfl, rfl, rfl, by rw [Lib.bytesWorld_size]; omega, fun i hi => Lib.bytesWorld_at_old _ _ _ _ hi⟩
def knot_Int.f (a0 : ByteArray) : Option (Int × Int) :=
  if a0.size ≤ 281474976710656 then some (match Lib.parseIntB 64 a0.data.toList with | .ok v => if numB v = a0 then (v, 0) else (0, 10) | _ => (0, 10)) else none
set_option maxHeartbeats 1000000 in
set_option maxRecDepth 100000 in
theorem knot_Int.calls (a0 : ByteArray) (r1 : Int) (r2 : Int) (w : World) (hG : TheG w) (h : knot_Int.f a0 = some (r1, r2)) :
    Calls Tryd.prog 12 #[.string a0] w fun e w' => e = .returned (.tuple #[.int .i64 r1, .int .i64 r2]) ∧ Below w.heap.size w w' := by
  unfold knot_Int.f at h
  split at h
  case isFalse => exact absurd h (by simp)
  case isTrue hs =>
  cases hp : Lib.parseIntB 64 a0.data.toList
  case ok v =>
    rw [hp] at h
    have hb := parseIntB_bound hp
    obtain ⟨h0, h1⟩ := hb
    by_cases hn : numB v = a0
    · simp only [hn, if_true, Option.some.injEq, Prod.mk.injEq] at h
      obtain ⟨rfl, rfl⟩ := h
      have hq : ((numB v).toList == a0.toList) = true := by rw [hn]; simp
      have hN : knot_Num.f v = some (numB v) := by unfold knot_Num.f; rw [if_pos h0, if_pos h1]
      have HN := Lib.hid hN
      have HP := Lib.hid hp
      clear hN hp hn h0 h1
      go_enter Tryd.func12, Tryd.ntmps12
      go_wp2_with (first | (go_at_call 31; refine (Tryd.strconv_ParseInt_10_at64_ok a0 (by omega) v HP.out _).mono ?_; rintro e w1 ⟨rfl, hw1⟩; have hb1 : Below w.heap.size w w1 := (by rcases hw1 with rfl | ⟨t, rfl⟩; exact Below.refl _ _; exact bytes_below _ _ _); clear hw1) | (go_at_call 14; refine (knot_Num.calls v (numB v) _ (hG.below hb1) HN.out).mono ?_; rintro e w2 ⟨rfl, hb2⟩))
      go_ret2
      exact ⟨rfl, below_step hb1 hb2⟩
    · simp only [hn, if_false, Option.some.injEq, Prod.mk.injEq] at h
      obtain ⟨rfl, rfl⟩ := h
      have hq : ((numB v).toList == a0.toList) = false := by
        rw [beq_eq_false_iff_ne]; intro e; exact hn (ByteArray.ext (Array.toList_inj.1 (by rw [← Lib.toList_data, ← Lib.toList_data]; exact e)))
      have hN : knot_Num.f v = some (numB v) := by unfold knot_Num.f; rw [if_pos h0, if_pos h1]
      have HN := Lib.hid hN
      have HP := Lib.hid hp
      clear hN hp hn h0 h1
      go_enter Tryd.func12, Tryd.ntmps12
      go_wp2_with (first | (go_at_call 31; refine (Tryd.strconv_ParseInt_10_at64_ok a0 (by omega) v HP.out _).mono ?_; rintro e w1 ⟨rfl, hw1⟩; have hb1 : Below w.heap.size w w1 := (by rcases hw1 with rfl | ⟨t, rfl⟩; exact Below.refl _ _; exact bytes_below _ _ _); clear hw1) | (go_at_call 14; refine (knot_Num.calls v (numB v) _ (hG.below hb1) HN.out).mono ?_; rintro e w2 ⟨rfl, hb2⟩))
      go_ret2
      exact ⟨rfl, below_step hb1 hb2⟩
  case range =>
    rw [hp] at h
    simp only [Option.some.injEq, Prod.mk.injEq] at h
    obtain ⟨rfl, rfl⟩ := h
    obtain ⟨ev, hv, hev⟩ := hG.rng
    have HE := Lib.hid hev
    clear hev
    have HP := Lib.hid hp
    have HV := Lib.hid hv
    clear hp hv
    go_enter Tryd.func12, Tryd.ntmps12
    go_wp2_with (first | (go_at_call 31; refine (Tryd.strconv_ParseInt_10_at64_range a0 hs HP.out ev _ HV.out HE.out).mono ?_; rintro e w1 ⟨N, rfl, _, _, hb1⟩))
    go_ret2
    exact ⟨rfl, hb1⟩
  all_goals
    rw [hp] at h
    simp only [Option.some.injEq, Prod.mk.injEq] at h
    obtain ⟨rfl, rfl⟩ := h
    obtain ⟨ev, hv, hev⟩ := hG.syn
    have HE := Lib.hid hev
    clear hev
    have HP := Lib.hid hp
    have HV := Lib.hid hv
    clear hp hv
    go_enter Tryd.func12, Tryd.ntmps12
    go_wp2_with (first | (go_at_call 31; refine (Any.strconv_ParseInt_10_at64_syntax Tryd.laysC174 a0 hs HP.out ev _ HV.out HE.out).mono ?_; rintro e w1 ⟨N, rfl, _, _, hb1⟩))
    go_ret2
    exact ⟨rfl, hb1⟩

/-! ### strings.Cut -/
def strings_Cut.f (a0 a1 : ByteArray) : Option (ByteArray × ByteArray × Bool) :=
  if a0.size < 4294967281 then some (⟨(Lib.cut a0.data.toList a1.data.toList).1.toArray⟩, ⟨(Lib.cut a0.data.toList a1.data.toList).2.1.toArray⟩, (Lib.cut a0.data.toList a1.data.toList).2.2) else none
theorem strings_Cut.calls (a0 a1 : ByteArray) (r1 r2 : ByteArray) (r3 : Bool) (w : World) (hG : TheG w) (h : strings_Cut.f a0 a1 = some (r1, r2, r3)) :
    Calls Tryd.prog 38 #[.string a0, .string a1] w fun e w' => e = .returned (.tuple #[.string r1, .string r2, .bool r3]) ∧ Drawn0 w w' := by
  unfold strings_Cut.f at h
  split at h
  case isFalse => exact absurd h (by simp)
  case isTrue hs =>
  simp only [Option.some.injEq, Prod.mk.injEq] at h
  obtain ⟨rfl, rfl, rfl⟩ := h
  obtain ⟨m, hm⟩ := hG.mx
  exact (Tryd.strings_Cut a0 a1 m w hs hm).mono fun e w' ⟨h1, h2⟩ => ⟨h1, ⟨h2⟩⟩

/-! ### knot.Tie -/
theorem numB_size (n : Int) : (numB n).size = (Lib.itoa n).length := by simp [numB, ByteArray.size]
def strandL (s : ByteArray) : List UInt8 := Lib.itoa s.size ++ [58] ++ s.data.toList ++ [44]
def tieL (l : List ByteArray) : List UInt8 := (l.map strandL).flatten
def knot_Tie.f (l0 : List ByteArray) : Option ByteArray := if (tieL l0).length ≤ 140737488355328 then some ⟨(tieL l0).toArray⟩ else none
theorem tieL_snoc (l : List ByteArray) (k : Nat) (h : k < l.length) : tieL (l.take (k + 1)) = tieL (l.take k) ++ strandL l[k] := by
  unfold tieL
  rw [List.take_succ_eq_append_getElem h, List.map_append, List.flatten_append]
  simp
theorem tieL_le (l : List ByteArray) (k : Nat) : (tieL (l.take k)).length ≤ (tieL l).length := by
  unfold tieL
  conv => rhs; rw [← List.take_append_drop k l]
  rw [List.map_append, List.flatten_append, List.length_append]
  omega
theorem byteCells_append (a b : List UInt8) : Lib.byteCells (a ++ b) = Lib.byteCells a ++ Lib.byteCells b := by simp [Lib.byteCells]
theorem byteCells_length (a : List UInt8) : (Lib.byteCells a).length = a.length := by simp [Lib.byteCells]
theorem strCells_eq (s : ByteArray) : Lib.strCells s = Lib.byteCells s.data.toList := rfl
theorem isBuilder_step {T e : TypeId} {B b : Nat} {bs : List Value} {w w' : World} (h : Lib.IsBuilder T e B b bs w) (hb : Below w.heap.size w w') : Lib.IsBuilder T e B b bs w' := by
  have aux : ∀ p, Lib.BuilderAt T e B b p bs w → Lib.BuilderAt T e B b p bs w' := by
    intro p hp
    have hlt := hp.lt
    obtain ⟨h1, v, h2, h3, h4⟩ := hp
    exact ⟨h1, v, (hb.block b hlt).trans h2, pw_own_below h3 hb, h4⟩
  rcases h with h | h
  · exact .inl (aux _ h)
  · exact .inr (aux _ h)
theorem isBuilder_used {T e : TypeId} {B b : Nat} {bs : List Value} {w : World} (h : Lib.BuilderAt T e B b (.pointer (some ⟨b, 0, none⟩)) bs w) : Lib.IsBuilder T e B b bs w := .inr h
theorem isBuilder_lt {T e : TypeId} {B b : Nat} {bs : List Value} {w : World} (h : Lib.IsBuilder T e B b bs w) : b < w.heap.size := by
  rcases h with h | h <;> exact h.lt
set_option maxHeartbeats 2000000 in
set_option maxRecDepth 100000 in
theorem knot_Tie.calls (A0 : Option Addr) (c0 : Nat) (l0 : List ByteArray) (r : ByteArray) (w : World) (hG : TheG w) (hr0 : Kd.C Kd.string w A0 l0.length l0) (hc0 : l0.length ≤ c0) (h : knot_Tie.f l0 = some r) :
    Calls Tryd.prog 18 #[.slice A0 l0.length c0] w fun e w' => e = .returned (.string r) ∧ Below w.heap.size w w' := by
  unfold knot_Tie.f at h
  split at h
  case isFalse => exact absurd h (by simp)
  case isTrue hs =>
  obtain rfl := Option.some.inj h
  have hmax : l0.length ≤ 9223372036854775807 := hr0.2.1
  have HC := Lib.hid hr0
  have HS := Lib.hid hs
  clear hs hr0
  go_enter Tryd.func18, Tryd.ntmps18
  go_wp2
  go_loopw [8] (fun i wr => ∃ k : Nat, k ≤ l0.length ∧ i = .int .i64 k ∧ Hid (Lib.IsBuilder 64 5 w.heap.size w.heap.size (Lib.byteCells (tieL (l0.take k))) wr) ∧ Hid (Below w.heap.size w wr) ∧ Hid (w.heap.size < wr.heap.size)) (fun i _ => l0.length - (intOf i).toNat)
  case atStart => exact ⟨0, Nat.zero_le _, rfl, Lib.hid (Or.inl ⟨Nat.le_refl _, .slice none 0 0, Array.getElem?_push_size, own_nil _ _ _ _, by exact fun h => nomatch h⟩), Lib.hid (below_alloc (Below.refl _ _) _), Lib.hid (by simp)⟩
  case round =>
    obtain ⟨k, hk, rfl, HB, HW, HL⟩ := hrel
    by_cases hlt : k < l0.length
    · obtain ⟨ad, ead, hcell⟩ := Kd.at_string (Kd.C_below HC.out HW.out) (k : Int) (by omega) (by omega)
      subst ead
      have hrd : rdOf ByteArray.empty l0 (k : Int) = l0[k] := by simp [rdOf, hlt]
      rw [hrd] at hcell
      simp only [Int.toNat_natCast] at hcell
      have hle := tieL_le l0 (k + 1)
      have hsn := tieL_snoc l0 k hlt
      have hln : (tieL (l0.take k)).length + (Lib.itoa (l0[k].size : Int)).length + 1 + l0[k].size + 1 ≤ 140737488355328 := by
        have := HS.out
        rw [hsn] at hle
        simp only [strandL, List.length_append, List.length_cons, List.length_nil, ← Lib.size_eq] at hle
        omega
      have hN : knot_Num.f (l0[k].size : Int) = some (numB (l0[k].size : Int)) := by unfold knot_Num.f; rw [if_pos (by omega), if_pos (by omega)]
      have HN := Lib.hid hN
      have HLN := Lib.hid hln
      have HSN := Lib.hid hsn
      have HGr := Lib.hid (hG.below HW.out)
      have hz := numB_size (l0[k].size : Int)
      have HC1 := Lib.hid (show (Lib.byteCells (tieL (l0.take k))).length + (numB (l0[k].size : Int)).size ≤ 140737488355328 by simp only [byteCells_length, hz]; omega)
      have HC2 := Lib.hid (show (Lib.byteCells (tieL (l0.take k)) ++ Lib.strCells (numB (l0[k].size : Int))).length + 1 ≤ 140737488355328 by simp only [byteCells_length, strCells_eq, ← Lib.size_eq, List.length_append, hz]; omega)
      have HC3 := Lib.hid (show (Lib.byteCells (tieL (l0.take k)) ++ Lib.strCells (numB (l0[k].size : Int)) ++ [Value.int .u8 58]).length + l0[k].size ≤ 140737488355328 by simp only [byteCells_length, strCells_eq, ← Lib.size_eq, List.length_append, List.length_cons, List.length_nil, hz]; omega)
      have HC4 := Lib.hid (show (Lib.byteCells (tieL (l0.take k)) ++ Lib.strCells (numB (l0[k].size : Int)) ++ [Value.int .u8 58] ++ Lib.strCells l0[k]).length + 1 ≤ 140737488355328 by simp only [byteCells_length, strCells_eq, ← Lib.size_eq, List.length_append, List.length_cons, List.length_nil, hz]; omega)
      clear hN hln hsn hle hrd hz
      go_wp2_with (first | (go_at_call 14; refine (knot_Num.calls _ _ _ HGr.out HN.out).mono ?_; rintro e w1 ⟨rfl, hb1⟩; have HB1 := Lib.hid (isBuilder_step HB.out hb1); have HW1 := Lib.hid (below_step HW.out hb1); clear hb1) | fail)
      go_wp2_with (first | (go_at_call 34; refine (writeString _ _ _ _ _ HB1.out HC1.out HW1.out.size).mono ?_; rintro e w2 ⟨rfl, hB, hb⟩; have HB2 := Lib.hid (isBuilder_used hB); have HW2 := Lib.hid (HW1.out.trans hb); clear hb hB) | fail)
      go_wp2_with (first | (go_at_call 35; refine (writeByte _ _ _ _ _ HB2.out HC2.out HW2.out.size).mono ?_; rintro e w3 ⟨rfl, hB, hb⟩; have HB3 := Lib.hid (isBuilder_used hB); have HW3 := Lib.hid (HW2.out.trans hb); clear hb hB) | fail)
      go_wp2_with (first | (go_at_call 34; refine (writeString _ _ _ _ _ HB3.out HC3.out HW3.out.size).mono ?_; rintro e w4 ⟨rfl, hB, hb⟩; have HB4 := Lib.hid (isBuilder_used hB); have HW4 := Lib.hid (HW3.out.trans hb); clear hb hB) | fail)
      go_wp2_with (first | (go_at_call 35; refine (writeByte _ _ _ _ _ HB4.out HC4.out HW4.out.size).mono ?_; rintro e w5 ⟨rfl, hB, hb⟩; have HB5 := Lib.hid (isBuilder_used hB); have HW5 := Lib.hid (HW4.out.trans hb); clear hb hB) | fail)
      go_roundw
      case rel =>
        refine ⟨k + 1, by omega, by go_num, ?_, HW5, Lib.hid (isBuilder_lt HB5.out)⟩
        have h := HB5.out
        rw [HSN.out]
        refine Lib.hid ?_
        simpa [byteCells_append, strandL, numB, strCells_eq, Lib.byteCells] using h
      case measure => simp [intOf]; omega
    · obtain rfl : k = l0.length := by omega
      rw [List.take_length] at HB
      go_wp2_with (first | (go_at_call 36; refine (Tryd.Builder_String_any _ _ _ _ HB.out HW.out.size).mono ?_; rintro e w1 ⟨rfl, hb1⟩; have HW1 := Lib.hid (HW.out.trans hb1); clear hb1) | fail)
      go_ret
      exact ⟨rfl, HW1.out⟩

/-! ### knot.Sum -/
def sumAB (l : List UInt8) : Int × Int := l.foldl (fun p c => ((p.1 + c.toNat) % 65521, (p.2 + (p.1 + c.toNat) % 65521) % 65521)) (1, 0)
theorem sumAB_bd (l : List UInt8) : (0 ≤ (sumAB l).1 ∧ (sumAB l).1 ≤ 65520) ∧ 0 ≤ (sumAB l).2 ∧ (sumAB l).2 ≤ 65520 := by
  have key : ∀ (l : List UInt8) (p : Int × Int), ((0 ≤ p.1 ∧ p.1 ≤ 65520) ∧ 0 ≤ p.2 ∧ p.2 ≤ 65520) → ((0 ≤ (l.foldl (fun p c => ((p.1 + (c.toNat : Int)) % 65521, (p.2 + (p.1 + c.toNat) % 65521) % 65521)) p).1 ∧ (l.foldl (fun p c => ((p.1 + (c.toNat : Int)) % 65521, (p.2 + (p.1 + c.toNat) % 65521) % 65521)) p).1 ≤ 65520) ∧ 0 ≤ (l.foldl (fun p c => ((p.1 + (c.toNat : Int)) % 65521, (p.2 + (p.1 + c.toNat) % 65521) % 65521)) p).2 ∧ (l.foldl (fun p c => ((p.1 + (c.toNat : Int)) % 65521, (p.2 + (p.1 + c.toNat) % 65521) % 65521)) p).2 ≤ 65520) := by
    intro l
    induction l with
    | nil => intro p h; exact h
    | cons c l ih => intro p h; exact ih _ (by simp only; omega)
  exact key l (1, 0) (by simp)
theorem sumAB_snoc (l : List UInt8) (c : UInt8) : sumAB (l ++ [c]) = (((sumAB l).1 + c.toNat) % 65521, ((sumAB l).2 + ((sumAB l).1 + c.toNat) % 65521) % 65521) := by
  unfold sumAB; rw [List.foldl_append]; rfl
def sumI (l : List UInt8) : Int := Go.bits .or .u32 ((sumAB l).2 * 65536) (sumAB l).1
theorem sumI_bd (l : List UInt8) : 0 ≤ sumI l ∧ sumI l ≤ 4294967295 := by
  obtain ⟨⟨h1, h2⟩, h3, h4⟩ := sumAB_bd l
  unfold sumI
  rw [u32_or _ _ (by omega) (by omega) (by omega) (by omega)]
  have : (((sumAB l).2 * 65536).toNat ||| (sumAB l).1.toNat) < 2 ^ 32 := Nat.or_lt_two_pow (by omega) (by omega)
  omega
def knot_Sum.f (a0 : ByteArray) : Option Int := if a0.size ≤ 9223372036854775807 then some (sumI a0.data.toList) else none
set_option maxHeartbeats 1000000 in
set_option maxRecDepth 100000 in
theorem knot_Sum.calls (a0 : ByteArray) (r : Int) (w : World) (hG : TheG w) (h : knot_Sum.f a0 = some r) :
    Calls Tryd.prog 27 #[.string a0] w fun e w' => e = .returned (.int .u32 r) ∧ Drawn0 w w' := by
  unfold knot_Sum.f at h
  split at h
  case isFalse => exact absurd h (by simp)
  case isTrue hs =>
  obtain rfl := Option.some.inj h
  go_enter Tryd.func27, Tryd.ntmps27
  go_wp2
  go_loop [3, 4, 8] (fun a b i => ∃ k : Nat, k ≤ a0.size ∧ i = .int .i64 k ∧ a = .int .u32 (sumAB (a0.data.toList.take k)).1 ∧ b = .int .u32 (sumAB (a0.data.toList.take k)).2) (fun _ _ i => a0.size - (intOf i).toNat)
  case atStart => exact ⟨0, Nat.zero_le _, rfl, rfl, rfl⟩
  case round =>
    obtain ⟨k, hk, rfl, rfl, rfl⟩ := hrel
    by_cases hlt : k < a0.size
    · have hbd := sumAB_bd (a0.data.toList.take k)
      have hsn := sumAB_snoc (a0.data.toList.take k) a0[k]
      have hts : a0.data.toList.take (k + 1) = a0.data.toList.take k ++ [a0[k]] := by
        rw [List.take_succ_eq_append_getElem (by rw [← Lib.size_eq]; exact hlt)]; rfl
      rw [← hts] at hsn
      have HS := Lib.hid hsn
      clear hsn hts
      generalize hP : sumAB (a0.data.toList.take k) = P at hbd HS
      obtain ⟨A, B⟩ := P
      obtain ⟨⟨hA0, hA1⟩, hB0, hB1⟩ := hbd
      clear hP
      have hc : a0[k].toNat < 256 := a0[k].toNat_lt
      go_wp2
      go_round
      case rel => exact ⟨k + 1, by omega, by go_num, by rw [HS.out], by rw [HS.out]⟩
      case measure => simp [intOf]; omega
    · have hbd := sumAB_bd (a0.data.toList.take k)
      have hR : sumI a0.data.toList = Go.bits .or .u32 ((sumAB (a0.data.toList.take k)).2 * 65536) (sumAB (a0.data.toList.take k)).1 := by
        rw [show a0.data.toList.take k = a0.data.toList from List.take_of_length_le (by rw [← Lib.size_eq]; omega)]; rfl
      generalize hP : sumAB (a0.data.toList.take k) = P at hbd hR
      have HR := Lib.hid hR
      clear hR hP
      obtain ⟨A, B⟩ := P
      obtain ⟨⟨hA0, hA1⟩, hB0, hB1⟩ := hbd
      simp only at hA0 hA1 hB0 hB1 HR
      go_wp2
      go_ret
      exact ⟨by rw [HR.out]; rfl, Drawn0.refl _⟩

/-! ### knot.Seal -/
def hexd (n : Nat) : UInt8 := [48, 49, 50, 51, 52, 53, 54, 55, 56, 57, 97, 98, 99, 100, 101, 102].getD (n % 16) 0
def hex8 (n : Nat) : List UInt8 := (List.range 8).map fun j => hexd (n / 16 ^ (7 - j))
def sealB (s : ByteArray) : ByteArray := s ++ ⟨(hex8 (sumI s.data.toList).toNat).toArray⟩
/-- The eight cells behind k rounds. -/
def hexCells (n k : Nat) : Array Value := ((List.range 8).map fun j => Value.int .u8 (if 8 ≤ j + k then ((hexd (n / 16 ^ (7 - j))).toNat : Int) else 0)).toArray
theorem hexCells_at (n k : Nat) (h : k < 8) : (hexCells n k)[7 - k]? = some (.int .u8 0) := by
  obtain rfl | rfl | rfl | rfl | rfl | rfl | rfl | rfl : k = 0 ∨ k = 1 ∨ k = 2 ∨ k = 3 ∨ k = 4 ∨ k = 5 ∨ k = 6 ∨ k = 7 := by omega
  all_goals simp [hexCells, List.range, List.range.loop]
theorem hexCells_step (n k : Nat) (h : k < 8) : (hexCells n k).setIfInBounds (7 - k) (.int .u8 (hexd (n / 16 ^ k)).toNat) = hexCells n (k + 1) := by
  obtain rfl | rfl | rfl | rfl | rfl | rfl | rfl | rfl : k = 0 ∨ k = 1 ∨ k = 2 ∨ k = 3 ∨ k = 4 ∨ k = 5 ∨ k = 6 ∨ k = 7 := by omega
  all_goals simp [hexCells, List.range, List.range.loop]
theorem hexd_fin : ∀ j : Fin 16, bt (⟨#[48, 49, 50, 51, 52, 53, 54, 55, 56, 57, 97, 98, 99, 100, 101, 102]⟩ : ByteArray) (j.val : Int) = ((hexd j.val).toNat : Int) := by decide +kernel
theorem hexd_bt (m : Nat) : bt (⟨#[48, 49, 50, 51, 52, 53, 54, 55, 56, 57, 97, 98, 99, 100, 101, 102]⟩ : ByteArray) ((m : Int) % 16) = ((hexd m).toNat : Int) := by
  have h := hexd_fin ⟨m % 16, Nat.mod_lt _ (by omega)⟩
  simp only [Int.natCast_emod] at h
  have e : hexd (m % 16) = hexd m := by unfold hexd; rw [Nat.mod_mod]
  rw [e] at h
  exact h
def knot_Seal.f (a0 : ByteArray) : Option ByteArray := if a0.size ≤ 140737488355328 then some (sealB a0) else none
set_option maxHeartbeats 1000000 in
set_option maxRecDepth 100000 in
theorem knot_Seal.calls (a0 : ByteArray) (r : ByteArray) (w : World) (hG : TheG w) (h : knot_Seal.f a0 = some r) :
    Calls Tryd.prog 29 #[.string a0] w fun e w' => e = .returned (.string r) ∧ Below w.heap.size w w' := by
  unfold knot_Seal.f at h
  split at h
  case isFalse => exact absurd h (by simp)
  case isTrue hs =>
  obtain rfl := Option.some.inj h
  have hS : knot_Sum.f a0 = some (sumI a0.data.toList) := by unfold knot_Sum.f; rw [if_pos (by omega)]
  have HS := Lib.hid hS
  clear hS
  generalize hn : sumI a0.data.toList = N at HS
  have HNB : 0 ≤ N ∧ N ≤ 4294967295 := hn ▸ sumI_bd _
  obtain ⟨hN0, hN1⟩ := HNB
  obtain ⟨n, rfl⟩ : ∃ n : Nat, N = n := ⟨N.toNat, by omega⟩
  have HN := Lib.hid hn
  clear hn
  go_enter Tryd.func29, Tryd.ntmps29
  go_wp2_with (first | (go_at_call 27; refine (knot_Sum.calls _ _ _ (hG.below (below_alloc (Below.refl _ _) _)) HS.out).mono ?_; rintro e w1 ⟨rfl, ⟨nd, rfl⟩⟩) | fail)
  go_loopw [4, 8] (fun v i wr => ∃ k m : Nat, k ≤ 8 ∧ i = .int .i64 k ∧ v = .int .u32 m ∧ m ≤ 4294967295 ∧ Hid (m = n / 16 ^ k) ∧ Hid (wr.heap[w.heap.size]? = some (.cells (hexCells n k) 72 (0, 0))) ∧ Hid (Below w.heap.size w wr)) (fun _ i _ => 8 - (intOf i).toNat)
  case atStart =>
    exact ⟨0, n, Nat.zero_le _, rfl, rfl, by omega, Lib.hid (by simp), Lib.hid Array.getElem?_push_size, Lib.hid (pw_below_drewN (below_alloc (Below.refl _ _) _) _)⟩
  case round =>
    obtain ⟨k, m, hk, rfl, rfl, hm, HM, HB, HW⟩ := hrel
    by_cases hlt : k < 8
    · have hx := bt_at (⟨#[48, 49, 50, 51, 52, 53, 54, 55, 56, 57, 97, 98, 99, 100, 101, 102]⟩ : ByteArray) ((m : Int) % 16)
      have hcell : wr.cell? ⟨w.heap.size, 7 - k, none⟩ = some (.int .u8 0) := by
        rw [Lib.cell_of_heap HB.out, hexCells_at n k hlt]
      have hfz : wr.frozen? ⟨w.heap.size, 7 - k, none⟩ = false := Lib.frozen_of_heap HB.out _
      go_wp2
      go_roundw
      case rel =>
        refine ⟨k + 1, m / 16, by omega, by go_num, by simp, by omega, Lib.hid (by rw [HM.out, Nat.pow_succ, Nat.div_div_eq_div_mul]), Lib.hid ?_, Lib.hid (HW.out.setCell (Nat.le_refl _) _)⟩
        rw [hexd_bt, HM.out]
        simp only [World.setCell, Array.getElem?_modify, HB.out]
        simp [hexCells_step n k hlt]
      case measure => simp [intOf]; omega
    · obtain rfl : k = 8 := by omega
      have hcv : ∀ c, (convert 53 9 (.slice (some ⟨w.heap.size, 0, none⟩) 8 c)).run Tryd.prog wr = .ok (.string (strOfNums ((hex8 n).map fun d => ((d.toNat : Nat) : Int)))) wr := by
        intro c
        refine run_convert_bytes_arg wr 53 5 Tryd.underlying53 Tryd.underlying5 w.heap.size 0 8 c _ (by simp [hex8]) ?_ _ Tryd.underlying9
        intro i hi
        rw [Nat.zero_add, Lib.cell_of_heap HB.out]
        obtain rfl | rfl | rfl | rfl | rfl | rfl | rfl | rfl : i = 0 ∨ i = 1 ∨ i = 2 ∨ i = 3 ∨ i = 4 ∨ i = 5 ∨ i = 6 ∨ i = 7 := by omega
        all_goals simp [hexCells, hex8, List.range, List.range.loop]
      have hz : (strOfNums ((hex8 n).map fun d => ((d.toNat : Nat) : Int))).size = 8 := by simp [strOfNums_size, hex8]
      have hR : a0 ++ strOfNums ((hex8 n).map fun d => ((d.toNat : Nat) : Int)) = sealB a0 := by
        unfold sealB
        rw [HN.out, Int.toNat_natCast]
        congr 1
        unfold strOfNums
        rw [List.map_map, show ((fun n : Int => UInt8.ofNat n.toNat) ∘ fun d : UInt8 => ((d.toNat : Nat) : Int)) = id from funext fun d => by simp, List.map_id]
      have HR := Lib.hid hR
      clear hR
      go_wp2
      go_ret
      exact ⟨by rw [← HR.out]; rfl, HW.out⟩
end Go.Proofs.YthijgcnmbfhjjaaDoor.K
