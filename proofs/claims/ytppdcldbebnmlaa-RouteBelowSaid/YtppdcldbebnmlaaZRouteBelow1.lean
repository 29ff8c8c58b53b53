import Derived.Test.YtppdcldbebnmlaaZRouteBelow0
import Derived.ArgAppend
import Derived.Below
import Derived.BigQuiet
import Derived.DataReads
import Derived.Deep.AppendLies
import Derived.Deep.CutBlock
import Derived.Deep.DeepCutAuto
import Derived.Deep.Draws
import Derived.Deep.LoopGhost
import Derived.Deep.OwnRows
import Derived.Deep.QuietTactic
import Derived.Deep.RegionHeld3
import Derived.IntWalk
import Derived.KernelRfl
import Derived.Laws.BitsLemmas
import Derived.Laws.BytesArg
import Derived.Laws.IdiomCopy
import Derived.Laws.MakeOwn
import Derived.Laws.OwnMore
import Derived.Laws.Rows
import Derived.Laws.Slices
import Derived.Laws.Strings
import Derived.Lib.AppendStr
import Derived.Lib.ConvBytes
import Derived.Lib.Hide
import Derived.Lib.SlBytesConst
import Derived.Lib.SliceRun
import Derived.Lib.Strings
import Derived.Maps.AppendAt
import Derived.OrdersHeld
import Derived.OwnWalk
import Derived.ProofKit
import Derived.RowKit
import Derived.RowKit3
import Derived.Shelf.Abstract
import Derived.Shelf.Bits.Mul64
import Derived.Shelf.SlSortCmp.NoneTotal
import Derived.Shelf.Small.Bits
import Derived.Shelf.Small.Strs
import Derived.Shelf.Strconv.Itoa0
import Derived.Shelf.Strings.Builder1
import Derived.Shelf.Strings.Builder2
import Derived.Shelf.Strings.BuilderF
import Derived.Shelf.Strings.Prefix
import Derived.Shelf.Strings.Repeat
import Derived.SizedLaws
import Derived.Tactics
import Derived.WalkKit
import Derived.WalkSpells
import Derived.WideLaws
import GoSem.ClaimJoined
import Derived.Test.YtppdcldbebnmlaaProg
set_option linter.unusedVariables false
set_option linter.unusedSimpArgs false
set_option linter.unnecessarySimpa false
section
namespace Go.Proofs.Ytppdcldbebnmlaa.O
open Go Go.RowKit Go.Proofs.YtppdcldbebnmlaaW.PrintWords
/-- What is read as data of type t has cells of kind d, and is well formed and within the reach (ok). -/
def Opn {α : Type} (P : Program) (t : TypeId) (d : Kd α) (ok : α → Prop) : Prop :=
 ∀ (H : Type) (enc : TypeId × Value → H) (w : World) (base : Nat) (sp : Nat → Bool) (held : Bool) (fuel : Nat) (cs : List Value) (y : DataW H) (ps : List MemPlace),
  DataW.trod enc P w base sp held fuel t cs = some (y, ps) → (∀ n ∈ DataW.weights P t y, n ≤ reachBytes) → ∃ x, d.K w x cs ∧ ok x
variable {P : Program} {t : TypeId}
theorem Opn.bool (hu : P.underlying t = some .bool) : Opn P t Kd.bool (fun _ => True) := by
 intro H enc w base sp held fuel cs y ps h _
 cases fuel with
 | zero => simp [DataW.trod] at h
 | succ f =>
  unfold DataW.trod at h
  rw [hu] at h
  cases cs with
  | nil => simp at h
  | cons v l =>
   cases l with
   | cons _ _ => cases v <;> simp at h
   | nil => cases v <;> first | exact ⟨_, rfl, trivial⟩ | (simp at h)
theorem Opn.int {k : IntKind} (hu : P.underlying t = some (.int k)) : Opn P t (Kd.int k) (fun n => (Lit.int k n).wf = true) := by
 intro H enc w base sp held fuel cs y ps h _
 cases fuel with
 | zero => simp [DataW.trod] at h
 | succ f =>
  unfold DataW.trod at h
  rw [hu] at h
  cases cs with
  | nil => simp at h
  | cons v l =>
   cases l with
   | cons _ _ => cases v <;> simp at h
   | nil =>
    cases v
    case int k' n =>
     simp only at h
     split at h
     ·rename_i hc
      obtain ⟨rfl, hw⟩ := hc
      exact ⟨n, rfl, hw⟩
     ·exact absurd h (by simp)
    all_goals simp at h
theorem Opn.string (hu : P.underlying t = some .string) : Opn P t Kd.string (fun s => s.size ≤ reachBytes) := by
 intro H enc w base sp held fuel cs y ps h hw
 cases fuel with
 | zero => simp [DataW.trod] at h
 | succ f =>
  unfold DataW.trod at h
  rw [hu] at h
  cases cs with
  | nil => simp at h
  | cons v l =>
   cases l with
   | cons _ _ => cases v <;> simp at h
   | nil =>
    cases v
    case string s =>
     simp only at h
     split at h
     ·simp only [Option.some.injEq, Prod.mk.injEq] at h
      obtain ⟨rfl, _⟩ := h
      refine ⟨s, rfl, ?_⟩
      have := hw s.data.toList.length (by simp [DataW.weights])
      rw [← Lib.size_eq] at this
      exact this
     ·exact absurd h (by simp)
    all_goals simp at h
theorem weightsAll_mem {H : Type} {P : Program} {e : TypeId} : ∀ {l : List (DataW H)} {d : DataW H}, d ∈ l → ∀ n ∈ DataW.weights P e d, n ∈ DataW.weightsAll P e l
 | a :: l, d, hd, n, hn => by
  simp only [DataW.weightsAll, List.mem_append]
  rcases List.mem_cons.1 hd with rfl | hd
  ·exact .inl hn
  ·exact .inr (weightsAll_mem hd n hn)
theorem mapM_some {α β : Type} {f : α → Option β} : ∀ {l : List α} {r : List β}, l.mapM f = some r → r.length = l.length ∧ ∀ i (hi : i < l.length), ∃ b, r[i]? = some b ∧ f l[i] = some b
 | [], r, h => by simp at h; subst h; exact ⟨rfl, fun i hi => by simp at hi⟩
 | a :: l, r, h => by
  simp only [List.mapM_cons, Option.pure_def, Option.bind_eq_bind, Option.bind_eq_some_iff, Option.some.injEq] at h
  obtain ⟨b, hb, r', hr, rfl⟩ := h
  obtain ⟨h1, h2⟩ := mapM_some hr
  refine ⟨by simp [h1], fun i hi => ?_⟩
  cases i with
  | zero => exact ⟨b, rfl, hb⟩
  | succ i => exact h2 i (by simpa using hi)
theorem choose_list {α : Type} (n : Nat) (Q : Nat → α → Prop) (h : ∀ i, i < n → ∃ x, Q i x) : ∃ xs : List α, xs.length = n ∧ ∀ i x, xs[i]? = some x → Q i x := by
 induction n with
 | zero => exact ⟨[], rfl, fun i x hx => by simp at hx⟩
 | succ n ih =>
  obtain ⟨xs, h1, h2⟩ := ih (fun i hi => h i (by omega))
  obtain ⟨x, hx⟩ := h n (by omega)
  refine ⟨xs ++ [x], by simp [h1], fun i y hy => ?_⟩
  rcases Nat.lt_or_ge i n with hi | hi
  ·rw [List.getElem?_append_left (by omega)] at hy; exact h2 i y hy
  ·rw [List.getElem?_append_right (by omega)] at hy
   have : i - xs.length = 0 := by
    rcases Nat.eq_zero_or_pos (i - xs.length) with h0 | h0
    ·exact h0
    ·rw [List.getElem?_eq_none (by simp; omega)] at hy; simp at hy
   rw [this] at hy
   simp at hy
   subst hy
   rw [show i = n by omega]; exact hx
theorem add_add_ (a : Addr) (i j : Nat) : (a.add i).add j = a.add (i + j) := by
 unfold Addr.add
 by_cases hi : i = 0 <;> by_cases hj : j = 0 <;> simp [hi, hj, Nat.add_assoc]
theorem Opn.slice {α : Type} {e : TypeId} {d : Kd α} {ok : α → Prop} {B : Nat} (hu : P.underlying t = some (.slice e)) (hc : P.cellsOf e = d.sz) (hB : P.bytesOf e = B) (ho : Opn P e d ok) :
 Opn P t (Kd.slice e d) (fun xs => xs.length * B ≤ reachBytes ∧ xs.length ≤ maxLen ∧ ∀ x ∈ xs, ok x) := by
 intro H enc w base sp held fuel cs y ps h hw
 cases fuel with
 | zero => simp [DataW.trod] at h
 | succ f =>
  unfold DataW.trod at h
  rw [hu] at h
  cases cs with
  | nil => simp at h
  | cons v l =>
   cases l with
   | cons _ _ => cases v <;> simp at h
   | nil =>
    cases v
    case slice A n c =>
     cases A with
     | none =>
      have hz : n = 0 ∧ c = 0 := by
       cases n <;> cases c <;> simp at h ⊢
      obtain ⟨rfl, rfl⟩ := hz
      exact ⟨[], ⟨none, 0, rfl, Nat.le_refl _, Kd.C_nil _ _⟩, by simp [reachBytes], by simp, by simp⟩
     | some a =>
      simp only at h
      split at h
      ·rename_i hcnd
       obtain ⟨_, hle, hmx⟩ := hcnd
       rw [Option.bind_eq_some_iff] at h
       obtain ⟨elems, he, h⟩ := h
       rw [Option.map_eq_some_iff] at h
       obtain ⟨rest, hr, h⟩ := h
       simp only [Prod.mk.injEq] at h
       obtain ⟨rfl, _⟩ := h
       obtain ⟨hl, hi⟩ := mapM_some he
       rw [List.length_range] at hl
       have hwt : ∀ (i : Nat) (b : DataW H × List MemPlace), elems[i]? = some b → ∀ m ∈ DataW.weights P e b.1, m ≤ reachBytes := by
        intro i b hb m hm
        refine hw m ?_
        simp only [DataW.weights, hu, List.mem_cons, List.mem_append]
        exact .inr (.inl (weightsAll_mem (List.mem_map.2 ⟨b, List.mem_of_getElem? hb, rfl⟩) m hm))
       obtain ⟨xs, hxl, hxs⟩ := choose_list n (fun i x => (∃ cs, (w.cells? base (a.add (i * P.cellsOf e)) (P.cellsOf e)) = some cs ∧ d.K w x cs) ∧ ok x) (by
        intro i hin
        obtain ⟨b, hb, hf⟩ := hi i (by rw [List.length_range]; exact hin)
        rw [List.getElem_range, Option.bind_eq_some_iff] at hf
        obtain ⟨cs, h1, h2⟩ := hf
        obtain ⟨x, hx, hok⟩ := ho H enc w base sp held f cs b.1 b.2 h2 (hwt i b hb)
        exact ⟨x, ⟨cs, h1, hx⟩, hok⟩)
       subst hxl
       refine ⟨xs, ⟨some a, c, rfl, hle, rfl, ?_, ?_⟩, ?_, ?_, ?_⟩
       ·unfold maxLen at hmx; omega
       ·intro hpos
        refine ⟨a, rfl, fun j p hp => ?_⟩
        obtain ⟨⟨cs, h1, h2⟩, _⟩ := hxs j p hp
        refine ⟨cs, d.K_len h2, h2, fun i u hu2 => ?_⟩
        rw [hc] at h1
        obtain ⟨_, _, hcell⟩ := World.cells?_some h1
        have hlt := (List.getElem?_eq_some_iff.1 hu2).1
        rw [d.K_len h2] at hlt
        rw [← add_add_, hcell i hlt]
        exact hu2
       ·have := hw ((elems.length + rest.length) * P.bytesOf e) (by simp [DataW.weights, hu])
        rw [hB, hl] at this
        exact Nat.le_trans (Nat.mul_le_mul_right _ (by omega)) this
       ·omega
       ·intro x hx
        obtain ⟨i, hi2⟩ := List.getElem?_of_mem hx
        exact (hxs i x hi2).2
      ·exact absurd h (by simp)
    all_goals simp at h
def OpnF {α : Type} (P : Program) (d : Kd α) (ok : α → Prop) (fs : List Field) (off : Nat) : Prop :=
 ∀ (H : Type) (enc : TypeId × Value → H) (w : World) (base : Nat) (sp : Nat → Bool) (held : Bool) (fuel : Nat) (cs : List Value) (ys : List (DataW H × List MemPlace)),
  (fs.mapM fun f => DataW.trod enc P w base sp held fuel f.type ((cs.drop f.offset).take (P.cellsOf f.type))) = some ys → (∀ n ∈ DataW.weightsEach P (fs.map (·.type)) (ys.map (·.1)), n ≤ reachBytes) → ∃ x, d.K w x ((cs.drop off).take d.sz) ∧ ok x
theorem OpnF.one {α : Type} {d : Kd α} {ok : α → Prop} {f : Field} {off : Nat} (ho : f.offset = off) (hs : P.cellsOf f.type = d.sz) (h : Opn P f.type d ok) : OpnF P d ok [f] off := by
 intro H enc w base sp held fuel cs ys hm hw
 subst ho
 cases hy : DataW.trod enc P w base sp held fuel f.type ((cs.drop f.offset).take (P.cellsOf f.type)) with
 | none => simp [hy] at hm
 | some y =>
  simp [hy] at hm
  subst hm
  rw [hs] at hy
  exact h H enc w base sp held fuel _ y.1 y.2 hy (fun n hn => hw n (by simp [DataW.weightsEach]; exact hn))
theorem OpnF.cons {α β : Type} {d : Kd α} {d2 : Kd β} {ok : α → Prop} {ok2 : β → Prop} {f : Field} {fs : List Field} {off : Nat} (ho : f.offset = off) (hs : P.cellsOf f.type = d.sz) (h : Opn P f.type d ok) (h2 : OpnF P d2 ok2 fs (off + d.sz)) :
 OpnF P (Kd.pair d d2) (fun x => ok x.1 ∧ ok2 x.2) (f :: fs) off := by
 intro H enc w base sp held fuel cs ys hm hw
 subst ho
 cases hy : DataW.trod enc P w base sp held fuel f.type ((cs.drop f.offset).take (P.cellsOf f.type)) with
 | none => simp [hy] at hm
 | some y =>
  cases hz : (fs.mapM fun f => DataW.trod enc P w base sp held fuel f.type ((cs.drop f.offset).take (P.cellsOf f.type))) with
  | none => simp [hy, hz] at hm
  | some zs =>
   simp [hy, hz] at hm
   subst hm
   rw [hs] at hy
   obtain ⟨x, hx, hok⟩ := h H enc w base sp held fuel _ y.1 y.2 hy (fun n hn => hw n (by simp [DataW.weightsEach]; exact .inl hn))
   obtain ⟨x2, hx2, hok2⟩ := h2 H enc w base sp held fuel cs zs hz (fun n hn => hw n (by simp [DataW.weightsEach]; exact .inr (by simpa using hn)))
   refine ⟨(x, x2), ⟨_, _, ?_, hx, hx2⟩, hok, hok2⟩
   show (cs.drop f.offset).take (d.sz + d2.sz) = _
   rw [List.take_add, List.drop_drop]
theorem Opn.struct {α : Type} {d : Kd α} {ok : α → Prop} {fs : Array Field} (hu : P.underlying t = some (.struct fs)) (hs : P.cellsOf t = d.sz) (h : OpnF P d ok fs.toList 0) : Opn P t d ok := by
 intro H enc w base sp held fuel cs y ps hy hw
 cases fuel with
 | zero => simp [DataW.trod] at hy
 | succ f =>
  unfold DataW.trod at hy
  rw [hu] at hy
  simp only at hy
  split at hy
  ·rename_i hl
   rw [Option.map_eq_some_iff] at hy
   obtain ⟨ys, hm, he⟩ := hy
   simp only [Prod.mk.injEq] at he
   obtain ⟨rfl, _⟩ := he
   obtain ⟨x, hx, hok⟩ := h H enc w base sp held f cs ys hm (fun n hn => hw n (by simp only [DataW.weights, hu]; exact hn))
   rw [List.drop_zero, List.take_of_length_le (by omega)] at hx
   exact ⟨x, hx, hok⟩
  ·cases hy
theorem Opn.iso {α β : Type} {d : Kd α} {ok : α → Prop} {f : β → α} (g : α → β) (hg : ∀ x, f (g x) = x) (h : Opn P t d ok) : Opn P t (Kd.iso d f) (fun x => ok (f x)) := by
 intro H enc w base sp held fuel cs y ps hy hw
 obtain ⟨x, hx, hok⟩ := h H enc w base sp held fuel cs y ps hy hw
 exact ⟨g x, by show d.K w (f (g x)) cs; rw [hg]; exact hx, by simp only; rw [hg]; exact hok⟩
theorem Opn.imp {α : Type} {d : Kd α} {ok ok2 : α → Prop} (h : Opn P t d ok) (hi : ∀ x, ok x → ok2 x) : Opn P t d ok2 := by
 intro H enc w base sp held fuel cs y ps hy hw
 obtain ⟨x, hx, hok⟩ := h H enc w base sp held fuel cs y ps hy hw
 exact ⟨x, hx, hi x hok⟩
end Go.Proofs.Ytppdcldbebnmlaa.O
end
section
namespace Go.Proofs.Ytppdcldbebnmlaa.K
open Go
theorem less_total : ∀ (a b : List UInt8), (Op.bytesLess a b || a == b) = !Op.bytesLess b a
 | [], [] => rfl
 | [], _ :: _ => rfl
 | _ :: _, [] => rfl
 | x :: a, y :: b => by
  simp only [Op.bytesLess]
  have ih := less_total a b
  by_cases h1 : x < y
  ·have h2 : ¬ y < x := fun h => absurd (UInt8.lt_trans h1 h) (UInt8.lt_irrefl x)
   have h3 : (y == x) = false := by rw [beq_eq_false_iff_ne]; intro e; rw [e] at h1; exact absurd h1 (UInt8.lt_irrefl x)
   simp [h1, h2, h3]
  ·by_cases h2 : y < x
   ·have h3 : (x == y) = false := by rw [beq_eq_false_iff_ne]; intro e; rw [e] at h2; exact absurd h2 (UInt8.lt_irrefl y)
    have h4 : (x :: a == y :: b) = false := by rw [List.cons_beq_cons, h3]; rfl
    simp [h1, h2, h3, h4]
   ·have h3 : x = y := UInt8.le_antisymm (UInt8.not_lt.1 h2) (UInt8.not_lt.1 h1)
    subst h3
    rw [List.cons_beq_cons]
    simp only [beq_self_eq_true, Bool.true_and, decide_eq_false h1, Bool.false_or]
    exact ih
@[go_sem] theorem binOp_string_leq_ (t : TypeId) (a b : ByteArray) : binOp .leq t (.string a) (.string b) = pure (.bool (!Op.bytesLess b.toList a.toList)) := by
 rw [← less_total]; simp [binOp, Op.stringOp]
@[go_sem] theorem binOp_string_gtr_ (t : TypeId) (a b : ByteArray) : binOp .gtr t (.string a) (.string b) = pure (.bool (Op.bytesLess b.toList a.toList)) := by
 rw [← Bool.not_not (Op.bytesLess b.toList a.toList), ← less_total]; simp [binOp, Op.stringOp]
@[go_sem] theorem binOp_string_geq_ (t : TypeId) (a b : ByteArray) : binOp .geq t (.string a) (.string b) = pure (.bool (!Op.bytesLess a.toList b.toList)) := by simp [binOp, Op.stringOp]
end Go.Proofs.Ytppdcldbebnmlaa.K
end
section
namespace Go.Proofs.Ytppdcldbebnmlaa.P
open Go.RowKit Go.Proofs.Ytppdcldbebnmlaa.K Go.Proofs.YtppdcldbebnmlaaW.PrintWords Go.Proofs.YtppdcldbebnmlaaW.PrintLast Go.Proofs.YtppdcldbebnmlaaW.PrintMore
attribute [local go_sem] max2_int min2_int max_two min_two max_three min_three max_four min_four   -- for this text's walks alone
def errW : Option Int → Value
 | none => .nilIface
 | some c => .iface 0 (.int .i64 c)
theorem errW_none : errW none = .nilIface := rfl
theorem errW_some (c : Int) : errW (some c) = .iface 0 (.int .i64 c) := rfl
theorem info27 : (Try.prog.info? 27).map (fun i => (i.zero, i.size, i.bytes)) = some (some (.agg #[(.int .i64 0), (.string ⟨#[]⟩), (.string ⟨#[]⟩), (.int .i64 0), (.slice none 0 0), (.int .i64 0)]), 6, 80) := by kernel_rfl
theorem info47 : (Try.prog.info? 47).map (fun i => (i.zero, i.size, i.bytes)) = some (some (.agg #[(.int .i64 0), (.int .i64 0)]), 2, 16) := by kernel_rfl
structure S47 where
 f0 : Int
 f1 : Int
def z47 : S47 := ⟨(0 : Int), (0 : Int)⟩
def k47 : Kd S47 := Kd.iso (Kd.pair (Kd.int .i64) (Kd.int .i64)) (fun x : S47 => (x.f0, x.f1))
theorem k47_open {w : World} {x : S47} {cs : List Value} (h : k47.K w x cs) : cs = [.int .i64 x.f0, .int .i64 x.f1] := by
 obtain ⟨_, _, rfl, rfl, rfl⟩ := h
 exact rfl
theorem k47_openM {w : World} {base : Nat} {ok : Nat → Prop} {x : S47} {cs : List Value} (h : k47.M w base ok x cs) : cs = [.int .i64 x.f0, .int .i64 x.f1] := by
 obtain ⟨_, _, rfl, rfl, rfl⟩ := h
 exact rfl
theorem k47_mk (w : World) (x : S47)  : k47.K w x [.int .i64 x.f0, .int .i64 x.f1] := ⟨[.int .i64 x.f0], [.int .i64 x.f1], rfl, rfl, rfl⟩
theorem k47_mkM (w : World) (base : Nat) (ok : Nat → Prop) (x : S47)  : k47.M w base ok x [.int .i64 x.f0, .int .i64 x.f1] := ⟨[.int .i64 x.f0], [.int .i64 x.f1], rfl, rfl, rfl⟩
theorem k47_mkF (W : World) (ok : Nat → Prop) (x : S47) : Kd.FK k47 W ok x [.int .i64 x.f0, .int .i64 x.f1] := fun W2 _ => k47_mk W2 x
def rd_T47 (xs : List S47) (i : Int) : S47 := xs.getD i.toNat z47
theorem at_T47 {w : World} {A : Option Addr} {n : Nat} {xs : List S47} (h : Kd.C k47 w A n xs) (i : Int) (h0 : 0 ≤ i) (h1 : i < n) : ∃ ad , A = some ad ∧ w.cell? (ad.add (i.toNat * 2)) = some (.int .i64 (rd_T47 xs i).f0) ∧ w.cell? ⟨(ad.add (i.toNat * 2)).block, (ad.add (i.toNat * 2)).off + 1, none⟩ = some (.int .i64 (rd_T47 xs i).f1) := by
 obtain ⟨ad, c, e, _, hK, hc0⟩ := Kd.C_get h z47 i h0 h1
 have hc : ∀ j u, c[j]? = some u → w.cell? (ad.add (i.toNat * 2 + j)) = some u := hc0
 obtain rfl := k47_open hK
 exact ⟨ad, e, hc 0 _ rfl, by rw [← add_field _ _ 1 (by omega)]; exact hc 1 _ rfl⟩
structure S24 where
 f0 : ByteArray
 f1 : ByteArray
def z24 : S24 := ⟨(⟨#[]⟩ : ByteArray), (⟨#[]⟩ : ByteArray)⟩
def k24 : Kd S24 := Kd.iso (Kd.pair Kd.string Kd.string) (fun x : S24 => (x.f0, x.f1))
theorem k24_open {w : World} {x : S24} {cs : List Value} (h : k24.K w x cs) : cs = [.string x.f0, .string x.f1] := by
 obtain ⟨_, _, rfl, rfl, rfl⟩ := h
 exact rfl
theorem k24_openM {w : World} {base : Nat} {ok : Nat → Prop} {x : S24} {cs : List Value} (h : k24.M w base ok x cs) : cs = [.string x.f0, .string x.f1] := by
 obtain ⟨_, _, rfl, rfl, rfl⟩ := h
 exact rfl
theorem k24_mk (w : World) (x : S24)  : k24.K w x [.string x.f0, .string x.f1] := ⟨[.string x.f0], [.string x.f1], rfl, rfl, rfl⟩
theorem k24_mkM (w : World) (base : Nat) (ok : Nat → Prop) (x : S24)  : k24.M w base ok x [.string x.f0, .string x.f1] := ⟨[.string x.f0], [.string x.f1], rfl, rfl, rfl⟩
theorem k24_mkF (W : World) (ok : Nat → Prop) (x : S24) : Kd.FK k24 W ok x [.string x.f0, .string x.f1] := fun W2 _ => k24_mk W2 x
def rd_T24 (xs : List S24) (i : Int) : S24 := xs.getD i.toNat z24
theorem at_T24 {w : World} {A : Option Addr} {n : Nat} {xs : List S24} (h : Kd.C k24 w A n xs) (i : Int) (h0 : 0 ≤ i) (h1 : i < n) : ∃ ad , A = some ad ∧ w.cell? (ad.add (i.toNat * 2)) = some (.string (rd_T24 xs i).f0) ∧ w.cell? ⟨(ad.add (i.toNat * 2)).block, (ad.add (i.toNat * 2)).off + 1, none⟩ = some (.string (rd_T24 xs i).f1) := by
 obtain ⟨ad, c, e, _, hK, hc0⟩ := Kd.C_get h z24 i h0 h1
 have hc : ∀ j u, c[j]? = some u → w.cell? (ad.add (i.toNat * 2 + j)) = some u := hc0
 obtain rfl := k24_open hK
 exact ⟨ad, e, hc 0 _ rfl, by rw [← add_field _ _ 1 (by omega)]; exact hc 1 _ rfl⟩
def rd_L4 (xs : List (List S47)) (i : Int) : (List S47) := xs.getD i.toNat ([] : List S47)
theorem at_L4 {w : World} {A : Option Addr} {n : Nat} {xs : List (List S47)} (h : Kd.C (Kd.slice 47 k47) w A n xs) (i : Int) (h0 : 0 ≤ i) (h1 : i < n) : ∃ ad A0 c0, A = some ad ∧ w.cell? (ad.add i.toNat) = some (.slice A0 (rd_L4 xs i).length c0) ∧ (rd_L4 xs i).length ≤ c0 ∧ k47.C w A0 (rd_L4 xs i).length (rd_L4 xs i) := by
 obtain ⟨ad, c, e, _, hK, hc0⟩ := Kd.C_get h ([] : List S47) i h0 h1
 have hc : ∀ j u, c[j]? = some u → w.cell? (ad.add (i.toNat * 1 + j)) = some u := hc0
 obtain ⟨A0, c0, rfl, l0, g0⟩ := hK
 exact ⟨ad, A0, c0, e, by have hq := hc 0 _ rfl; rwa [Nat.mul_one, Nat.add_zero] at hq, l0, g0⟩
structure S27 where
 f0 : Int
 f1 : S24
 f2 : Int
 f3 : (List S47)
 f4 : Int
def z27 : S27 := ⟨(0 : Int), z24, (0 : Int), ([] : List S47), (0 : Int)⟩
def k27 : Kd S27 := Kd.iso (Kd.pair (Kd.int .i64) (Kd.pair k24 (Kd.pair (Kd.int .i64) (Kd.pair (Kd.slice 47 k47) (Kd.int .i64))))) (fun x : S27 => (x.f0, x.f1, x.f2, x.f3, x.f4))
theorem k27_open {w : World} {x : S27} {cs : List Value} (h : k27.K w x cs) : ∃ A4 c4, cs = [.int .i64 x.f0, .string x.f1.f0, .string x.f1.f1, .int .i64 x.f2, .slice A4 x.f3.length c4, .int .i64 x.f4] ∧ x.f3.length ≤ c4 ∧ k47.C w A4 x.f3.length x.f3 := by
 obtain ⟨_, _, rfl, rfl, ⟨_, _, rfl, s1, ⟨_, _, rfl, rfl, ⟨_, _, rfl, ⟨A4, c4, rfl, l4, g4⟩, rfl⟩⟩⟩⟩ := h
 obtain rfl := k24_open s1
 exact ⟨A4, c4, rfl, l4, g4⟩
theorem k27_openM {w : World} {base : Nat} {ok : Nat → Prop} {x : S27} {cs : List Value} (h : k27.M w base ok x cs) : ∃ v4, cs = [.int .i64 x.f0, .string x.f1.f0, .string x.f1.f1, .int .i64 x.f2, v4, .int .i64 x.f4] ∧ k47.R 47 w base ok v4 x.f3 := by
 obtain ⟨_, _, rfl, rfl, ⟨_, _, rfl, s1, ⟨_, _, rfl, rfl, ⟨_, _, rfl, ⟨v4, rfl, g4⟩, rfl⟩⟩⟩⟩ := h
 obtain rfl := k24_openM s1
 exact ⟨v4, rfl, g4⟩
theorem k27_mk (w : World) (x : S27) {A4 : Option Addr} {c4 : Nat} (l4 : x.f3.length ≤ c4) (g4 : k47.C w A4 x.f3.length x.f3) : k27.K w x [.int .i64 x.f0, .string x.f1.f0, .string x.f1.f1, .int .i64 x.f2, .slice A4 x.f3.length c4, .int .i64 x.f4] := ⟨[.int .i64 x.f0], [.string x.f1.f0, .string x.f1.f1, .int .i64 x.f2, .slice A4 x.f3.length c4, .int .i64 x.f4], rfl, rfl, ⟨[.string x.f1.f0, .string x.f1.f1], [.int .i64 x.f2, .slice A4 x.f3.length c4, .int .i64 x.f4], rfl, (k24_mk w x.f1 ), ⟨[.int .i64 x.f2], [.slice A4 x.f3.length c4, .int .i64 x.f4], rfl, rfl, ⟨[.slice A4 x.f3.length c4], [.int .i64 x.f4], rfl, ⟨A4, c4, rfl, l4, g4⟩, rfl⟩⟩⟩⟩
theorem k27_mkM (w : World) (base : Nat) (ok : Nat → Prop) (x : S27) {v4 : Value} (g4 : k47.R 47 w base ok v4 x.f3) : k27.M w base ok x [.int .i64 x.f0, .string x.f1.f0, .string x.f1.f1, .int .i64 x.f2, v4, .int .i64 x.f4] := ⟨[.int .i64 x.f0], [.string x.f1.f0, .string x.f1.f1, .int .i64 x.f2, v4, .int .i64 x.f4], rfl, rfl, ⟨[.string x.f1.f0, .string x.f1.f1], [.int .i64 x.f2, v4, .int .i64 x.f4], rfl, (k24_mkM w base ok x.f1 ), ⟨[.int .i64 x.f2], [v4, .int .i64 x.f4], rfl, rfl, ⟨[v4], [.int .i64 x.f4], rfl, ⟨v4, rfl, g4⟩, rfl⟩⟩⟩⟩
theorem k27_openF {W : World} {ok : Nat → Prop} {x : S27} {cs : List Value} (h : Kd.FK k27 W ok x cs) : ∃ A4 c4, cs = [.int .i64 x.f0, .string x.f1.f0, .string x.f1.f1, .int .i64 x.f2, .slice A4 x.f3.length c4, .int .i64 x.f4] ∧ x.f3.length ≤ c4 ∧ Kd.F k47 W ok A4 x.f3.length x.f3 := by
 obtain ⟨A4, c4, rfl, l4, _⟩ := k27_open (Kd.FK_now h)
 exact ⟨A4, c4, rfl, l4, (fun W' hW => by obtain ⟨A4_, c4_, he, l4_, g4_⟩ := k27_open (h W' hW); injection (Option.some.inj (show some (Value.slice A4 x.f3.length c4) = some (Value.slice A4_ x.f3.length c4_) from congrArg (fun l => l[4]?) he)) with ha_ _ _; rw [ha_]; exact g4_)⟩
theorem k27_mkF (W : World) (ok : Nat → Prop) (x : S27) {A4 : Option Addr} {c4 : Nat} (l4 : x.f3.length ≤ c4) (g4 : Kd.F k47 W ok A4 x.f3.length x.f3) : Kd.FK k27 W ok x [.int .i64 x.f0, .string x.f1.f0, .string x.f1.f1, .int .i64 x.f2, .slice A4 x.f3.length c4, .int .i64 x.f4] := fun W2 hW => k27_mk W2 x l4 (g4 W2 hW)
def rd_T27 (xs : List S27) (i : Int) : S27 := xs.getD i.toNat z27
theorem at_T27 {w : World} {A : Option Addr} {n : Nat} {xs : List S27} (h : Kd.C k27 w A n xs) (i : Int) (h0 : 0 ≤ i) (h1 : i < n) : ∃ ad A4 c4, A = some ad ∧ w.cell? (ad.add (i.toNat * 6)) = some (.int .i64 (rd_T27 xs i).f0) ∧ w.cell? ⟨(ad.add (i.toNat * 6)).block, (ad.add (i.toNat * 6)).off + 1, none⟩ = some (.string (rd_T27 xs i).f1.f0) ∧ w.cell? ⟨(ad.add (i.toNat * 6)).block, (ad.add (i.toNat * 6)).off + 2, none⟩ = some (.string (rd_T27 xs i).f1.f1) ∧ w.cell? ⟨(ad.add (i.toNat * 6)).block, (ad.add (i.toNat * 6)).off + 3, none⟩ = some (.int .i64 (rd_T27 xs i).f2) ∧ w.cell? ⟨(ad.add (i.toNat * 6)).block, (ad.add (i.toNat * 6)).off + 4, none⟩ = some (.slice A4 (rd_T27 xs i).f3.length c4) ∧ w.cell? ⟨(ad.add (i.toNat * 6)).block, (ad.add (i.toNat * 6)).off + 5, none⟩ = some (.int .i64 (rd_T27 xs i).f4) ∧ (rd_T27 xs i).f3.length ≤ c4 ∧ k47.C w A4 (rd_T27 xs i).f3.length (rd_T27 xs i).f3 := by
 obtain ⟨ad, c, e, _, hK, hc0⟩ := Kd.C_get h z27 i h0 h1
 have hc : ∀ j u, c[j]? = some u → w.cell? (ad.add (i.toNat * 6 + j)) = some u := hc0
 obtain ⟨A4, c4, rfl, l4, g4⟩ := k27_open hK
 exact ⟨ad, A4, c4, e, hc 0 _ rfl, by rw [← add_field _ _ 1 (by omega)]; exact hc 1 _ rfl, by rw [← add_field _ _ 2 (by omega)]; exact hc 2 _ rfl, by rw [← add_field _ _ 3 (by omega)]; exact hc 3 _ rfl, by rw [← add_field _ _ 4 (by omega)]; exact hc 4 _ rfl, by rw [← add_field _ _ 5 (by omega)]; exact hc 5 _ rfl, l4, g4⟩
end Go.Proofs.Ytppdcldbebnmlaa.P
end
section
namespace Go.Proofs.Ytppdcldbebnmlaa.K
open Go Go.RowKit Go.Proofs.YtppdcldbebnmlaaW.PrintWords Go.Proofs.YtppdcldbebnmlaaW.PrintLast Go.Proofs.YtppdcldbebnmlaaW.PrintMore
section
variable {α : Type}
/-- The kind of elements that are their own cells. -/
def rawKd (enc : α → List Value) (k : Nat) (hk : ∀ x, (enc x).length = k) (h1 : ∀ x, ∀ u ∈ enc x, u.oneCell' = true) : Kd α where
 sz := k
 E := []
 K := fun _ x cs => cs = enc x
 M := fun _ _ _ x cs => cs = enc x
 K_len := by rintro w x cs rfl; exact hk x
 K_one := by rintro w x cs rfl; exact h1 x
 K_below := fun _ h => h
 K_of_M := fun h => h
 M_mono := fun _ h => h
 M_bound := fun h => h
 M_move := fun _ h => h
 M_lower := fun _ h => h
theorem grow_then {a b c : World} {row : Option Nat} (h : a.grownBy b row) (k : b.grownBy c row) : a.grownBy c row := ⟨k.os.trans h.os, k.tape.trans h.tape, k.output.trans h.output, Nat.le_trans h.size k.size, fun i hi hr => (k.block i (Nat.lt_of_lt_of_le hi h.size) hr).trans (h.block i hi hr)⟩
theorem grow_below {a b c : World} {row : Option Nat} (h : a.grownBy b row) (k : Below b.heap.size b c) : a.grownBy c row := ⟨k.os.trans h.os, k.tape.trans h.tape, k.output.trans h.output, Nat.le_trans h.size k.size, fun i hi hr => (k.block i (Nat.lt_of_lt_of_le hi h.size)).trans (h.block i hi hr)⟩
/-- Where the first one stands of which something is so. -/
def idxZ (p : α → Bool) : List α → Nat → Int
 | [], _ => -1
 | m :: r, k => if p m = true then (k : Int) else idxZ p r (k + 1)
theorem idxZ_spec (p : α → Bool) : ∀ (l : List α) (k : Nat), (idxZ p l k = -1 ∧ ∀ x ∈ l, p x = false) ∨ ∃ (i : Nat) (h : i < l.length), idxZ p l k = ((k + i : Nat) : Int) ∧ p l[i] = true ∧ ∀ x ∈ l.take i, p x = false
 | [], k => .inl ⟨rfl, fun x hx => by simp at hx⟩
 | m :: r, k => by
  simp only [idxZ]
  by_cases hp : p m = true
  ·rw [if_pos hp]
   exact .inr ⟨0, by simp, by simp, hp, fun x hx => by simp at hx⟩
  ·have hp' : p m = false := by simpa using hp
   rw [if_neg hp]
   rcases idxZ_spec p r (k + 1) with ⟨h1, h2⟩ | ⟨i, h, h1, h2, h3⟩
   ·exact .inl ⟨h1, fun x hx => by
     rcases List.mem_cons.1 hx with rfl | hx
     ·exact hp'
     ·exact h2 x hx⟩
   ·refine .inr ⟨i + 1, by simp; omega, by rw [h1]; omega, h2, fun x hx => ?_⟩
    rw [List.take_succ_cons] at hx
    rcases List.mem_cons.1 hx with rfl | hx
    ·exact hp'
    ·exact h3 x hx
theorem idxZ_any (p : α → Bool) (l : List α) : decide (idxZ p l 0 ≥ 0) = l.any p := by
 rcases idxZ_spec p l 0 with ⟨h1, h2⟩ | ⟨i, h, h1, h2, _⟩
 ·rw [h1, Eq.comm, List.any_eq_false.2 (fun x hx => by rw [h2 x hx]; simp)]; rfl
 ·rw [h1, Eq.comm, List.any_eq_true.2 ⟨l[i], List.getElem_mem h, h2⟩, Eq.comm]
  exact decide_eq_true (by omega)
def delF (p : α → Bool) (l : List α) : List α := l.filter fun x => !p x
theorem delF_all {p : α → Bool} {l : List α} (h : ∀ x ∈ l, p x = false) : delF p l = l := List.filter_eq_self.2 (fun x hx => by rw [h x hx]; rfl)
theorem delF_snoc (p : α → Bool) {l : List α} {j : Nat} (h : j < l.length) : delF p (l.take (j + 1)) = delF p (l.take j) ++ (if p l[j] = true then [] else [l[j]]) := by
 unfold delF
 rw [List.take_succ_eq_append_getElem h, List.filter_append]
 congr 1
 cases hq : p l[j] <;> simp [hq]
/-- Between two rounds: the kept ones stand in front; from j on the row is as it was. -/
structure DelInv (p : α → Bool) (l : List α) (i j : Nat) (dk : List α) : Prop where
 lt : i < j
 len : dk.length = l.length
 done : dk.take i = delF p (l.take j)
 high : dk.drop j = l.drop j
theorem DelInv.start {p : α → Bool} {l : List α} {k : Nat} (h : k < l.length) (ht : p l[k] = true) (ha : ∀ x ∈ l.take k, p x = false) : DelInv p l k (k + 1) l :=
 ⟨Nat.lt_succ_self _, rfl, by rw [delF_snoc p h, if_pos ht, List.append_nil, delF_all ha], rfl⟩
theorem DelInv.skip {p : α → Bool} {l dk : List α} {i j : Nat} (h : DelInv p l i j dk) (hj : j < l.length) (ht : p l[j] = true) : DelInv p l i (j + 1) dk :=
 ⟨Nat.lt_succ_of_lt h.lt, h.len, by rw [delF_snoc p hj, if_pos ht, List.append_nil, h.done], by rw [← List.drop_drop, h.high, List.drop_drop]⟩
theorem DelInv.keep {p : α → Bool} {l dk : List α} {i j : Nat} (h : DelInv p l i j dk) (hj : j < l.length) (ht : p l[j] = false) : DelInv p l (i + 1) (j + 1) (dk.set i l[j]) := by
 have h1 := h.lt
 have h2 := h.len
 refine ⟨by omega, by rw [List.length_set, h2], ?_, ?_⟩
 ·rw [delF_snoc p hj, if_neg (by rw [ht]; simp), ← h.done, List.take_succ_eq_append_getElem (by rw [List.length_set]; omega), List.getElem_set_self, List.take_set_of_le (Nat.le_refl _)]
 ·rw [List.drop_set_of_lt (by omega), ← List.drop_drop, h.high, List.drop_drop]
theorem DelInv.at {p : α → Bool} {l dk : List α} {i j : Nat} (h : DelInv p l i j dk) (hj : j < l.length) (z : α) : dk.getD j z = l[j] := by
 have := h.high
 have h1 : dk[j]? = l[j]? := by
  have := congrArg (fun x : List α => x[0]?) this
  simpa [List.getElem?_drop] using this
 rw [List.getD_eq_getElem?_getD, h1, List.getElem?_eq_getElem hj]; rfl
theorem getD_of {l : List α} {i : Nat} (h : i < l.length) (z : α) : l.getD i z = l[i] := by rw [List.getD_eq_getElem?_getD, List.getElem?_eq_getElem h]; rfl
end
theorem blk_second (w : World) (o1 o2 : Obj) : ((w.alloc o1).alloc o2).heap[w.heap.size + 1]? = some o2 := by
 have h1 : (w.alloc o1).heap.size = w.heap.size + 1 := by simp
 rw [← h1]; exact heap_alloc_new _ _
theorem cell_off {w : World} {g o o' : Nat} {v : Value} (h : o ≠ o') : (w.setCell ⟨g, o, none⟩ v).cell? ⟨g, o', none⟩ = w.cell? ⟨g, o', none⟩ := by
 rw [World.cell?_setCell_other (h := fun e => by have := congrArg Addr.off e; simp at this; exact h this)]
section
variable {α : Type} {enc : α → List Value} {k : Nat} {hk : ∀ x, (enc x).length = k} {h1 : ∀ x, ∀ u ∈ enc x, u.oneCell' = true}
theorem raw_at {w : World} {A : Option Addr} {n : Nat} {l : List α} (h : Kd.C (rawKd enc k hk h1) w A n l) (i : Nat) (hi : i < l.length) :
 ∃ ad, A = some ad ∧ ∀ j u, (enc l[i])[j]? = some u → w.cell? (ad.add (i * k + j)) = some u := by
 have hn : l.length = n := h.1
 obtain ⟨ad, c, ea, _, hK, hc⟩ := Kd.C_get h l[i] (i : Int) (by omega) (by omega)
 rw [Int.toNat_natCast] at hK hc
 rw [getD_of hi] at hK
 have hK : c = enc l[i] := hK
 rw [hK] at hc
 exact ⟨ad, ea, hc⟩
theorem raw_own_at {W : World} {base g cap n : Nat} {ok : Nat → Prop} {e : Nat} {l : List α} (h : Kd.R (rawKd enc k hk h1) e W base ok (.slice (some ⟨g, 0, none⟩) n cap) l) (i : Nat) (hi : i < l.length) :
 (∀ j u, (enc l[i])[j]? = some u → W.cell? ⟨g, i * k + j, none⟩ = some u) ∧ ∀ j, W.frozen? ⟨g, i * k + j, none⟩ = false := by
 have hn : n = l.length := (Kd.R_reads' h).1
 obtain ⟨c, _, hM, hcc, hf⟩ := Kd.R_elem h l[i] (i : Int) (by omega) (by omega)
 rw [Int.toNat_natCast] at hM hcc hf
 rw [getD_of hi] at hM
 have hM : c = enc l[i] := hM
 rw [hM] at hcc
 exact ⟨hcc, hf⟩
theorem raw_set {w : World} {base g cap : Nat} {ok : Nat → Prop} {e : Nat} {l : List α} {n : Nat} (h : Kd.R (rawKd enc k hk h1) e w base ok (.slice (some ⟨g, 0, none⟩) n cap) l) (i : Nat) (hi : i < n) (x : α) :
 Kd.R (rawKd enc k hk h1) e (w.setCells g (i * k) (enc x)) base ok (.slice (some ⟨g, 0, none⟩) n cap) (l.set i x) ∧ w.grownBy (w.setCells g (i * k) (enc x)) (some g) := by
 have hn : n = l.length := (Kd.R_reads' h).1
 obtain ⟨hcc, _⟩ := raw_own_at h i (by omega)
 have hx := hk x
 have := Kd.R_seg (okp := fun _ => False) h (i : Int) (by omega) (by omega) (c := enc l[i]) (seg := enc x) (j := 0) (x' := x) (hk _) (by rw [Int.toNat_natCast]; exact hcc) (by rw [hx]; exact Nat.le_of_eq (Nat.zero_add k)) (by
  show (enc (l[i]'(by omega))).take 0 ++ enc x ++ (enc (l[i]'(by omega))).drop (0 + (enc x).length) = enc x
  rw [List.take_zero, List.nil_append, List.drop_of_length_le (by rw [hk, hx]; omega), List.append_nil]) (fun _ h => h.elim)
 rw [Int.toNat_natCast] at this
 exact this
theorem setCells_add (w : World) (g : Nat) : ∀ (a b : List Value) (o : Nat), w.setCells g o (a ++ b) = (w.setCells g o a).setCells g (o + a.length) b
 | [], b, o => by simp [World.setCells]
 | x :: a, b, o => by
  show (w.setCell _ x).setCells g (o + 1) (a ++ b) = _
  rw [setCells_add _ g a b (o + 1)]
  show _ = ((w.setCell _ x).setCells g (o + 1) a).setCells g (o + (a.length + 1)) b
  rw [show o + 1 + a.length = o + (a.length + 1) by omega]
theorem raw_clear (z : α) (zs : List Value) (hz : enc z = zs) (e : Nat) : ∀ (m : Nat) {w : World} {base g cap : Nat} {ok : Nat → Prop} {l : List α} {n i : Nat}, i + m = n → Kd.R (rawKd enc k hk h1) e w base ok (.slice (some ⟨g, 0, none⟩) n cap) l →
 ∃ l', l'.take i = l.take i ∧ l'.length = l.length ∧ Kd.R (rawKd enc k hk h1) e (w.setCells g (i * k) (List.replicate m zs).flatten) base ok (.slice (some ⟨g, 0, none⟩) n cap) l' ∧ w.grownBy (w.setCells g (i * k) (List.replicate m zs).flatten) (some g)
 | 0, w, base, g, cap, ok, l, n, i, _, h => ⟨l, rfl, rfl, by simpa [World.setCells] using h, by simpa [World.setCells] using World.grownBy.refl w (some g)⟩
 | m + 1, w, base, g, cap, ok, l, n, i, hin, h => by
  obtain ⟨h1', g1⟩ := raw_set h i (by omega) z
  obtain ⟨l', e1, e2, h2, g2⟩ := raw_clear z zs hz e m (i := i + 1) (by omega) h1'
  have hzl : zs.length = k := by rw [← hz]; exact hk z
  rw [List.replicate_succ, List.flatten_cons, setCells_add, hzl, show i * k + k = (i + 1) * k by rw [Nat.add_mul, Nat.one_mul]]
  rw [hz] at h2 g2 g1
  refine ⟨l', ?_, by rw [e2, List.length_set], h2, grow_then g1 g2⟩
  have : (l'.take (i + 1)).take i = ((l.set i z).take (i + 1)).take i := by rw [e1]
  rw [List.take_take, List.take_take, Nat.min_eq_left (Nat.le_succ _)] at this
  rw [this, List.take_set_of_le (Nat.le_refl _)]
theorem raw_reps (W : World) (base : Nat) (ok : Nat → Prop) (l : List α) : Reps ((rawKd enc k hk h1).M W base ok) k l (l.map enc).flatten := by
 have : ∀ i, i ≤ l.length → Reps ((rawKd enc k hk h1).M W base ok) k (l.take i) ((l.take i).map enc).flatten := by
  intro i
  induction i with
  | zero => intro _; exact Reps.none _ _
  | succ i ih =>
   intro hi
   rw [List.take_succ_eq_append_getElem (by omega), List.map_append, List.flatten_append]
   have := (ih (by omega)).snoc (p := l[i]'(by omega)) (c := enc (l[i]'(by omega))) rfl (hk _)
   simpa using this
 have h := this l.length (Nat.le_refl _)
 rwa [List.take_length] at h
/-- A block that holds elements and nothing else is a row of one's own. -/
theorem raw_of_block {W : World} {g e : Nat} (l : List α) (h : W.heap[g]? = some (.cells (l.map enc).flatten.toArray e (0, 0))) {base : Nat} (hb : base ≤ g) (hl : l.length ≤ 1000000000000) : Kd.R (rawKd enc k hk h1) e W base (fun _ => True) (.slice (some ⟨g, 0, none⟩) l.length l.length) l := by
 obtain ⟨r1, r2⟩ := raw_reps (hk := hk) (h1 := h1) W base (fun k => True ∧ some k ≠ (Value.slice (some ⟨g, 0, none⟩) l.length l.length).ownBlock) l
 refine ⟨fun _ _ => trivial, (l.map enc).flatten, ⟨r1, .inr ⟨g, l.length, _, rfl, hb, h, Nat.le_refl _, by unfold maxLen; omega, ?_, ?_⟩⟩, r1, r2⟩
 ·rw [List.size_toArray]; exact r1
 ·show List.take (l.length * k) _ = _
  rw [List.take_of_length_le (by rw [r1]; exact Nat.le_refl _)]
end
theorem flat_len (zs : List Value) (m : Nat) : (List.replicate m zs).flatten.length = m * zs.length := by
 induction m with
 | zero => simp
 | succ m ih => rw [List.replicate_succ, List.flatten_cons, List.length_append, ih, Nat.add_mul, Nat.one_mul]; omega
theorem flat_get (zs : List Value) (hz : 0 < zs.length) (m q : Nat) (h : q < m * zs.length) : (List.replicate m zs).flatten[q]? = zs[q % zs.length]? := by
 induction m generalizing q with
 | zero => omega
 | succ m ih =>
  rw [List.replicate_succ, List.flatten_cons]
  by_cases hq : q < zs.length
  ·rw [List.getElem?_append_left hq, Nat.mod_eq_of_lt hq]
  ·rw [List.getElem?_append_right (by omega), ih _ (by rw [Nat.add_mul, Nat.one_mul] at h; omega)]
   congr 1
   exact (Nat.mod_eq_sub_mod (by omega)).symm
theorem zeroCells_flat (zs : List Value) (hz : 0 < zs.length) (m : Nat) : (Builtin.zeroCells zs.toArray m).toList = (List.replicate m zs).flatten := by
 apply List.ext_getElem?
 intro q
 by_cases hq : q < m * zs.length
 ·rw [flat_get zs hz m q hq]
  have hm : q % zs.length < zs.length := Nat.mod_lt _ hz
  simp [Builtin.zeroCells, hq, hm]
 ·rw [List.getElem?_eq_none (by simp [Builtin.zeroCells]; omega), List.getElem?_eq_none (by rw [flat_len]; omega)]
end Go.Proofs.Ytppdcldbebnmlaa.K
end
section
namespace Go.Proofs.Ytppdcldbebnmlaa.P
open Go.RowKit Go.Shelf Go.Proofs.Ytppdcldbebnmlaa.K Go.Proofs.YtppdcldbebnmlaaW.PrintWords Go.Proofs.YtppdcldbebnmlaaW.PrintLast Go.Proofs.YtppdcldbebnmlaaW.PrintMore
structure RawD where
 f0 : Int
 f1 : ByteArray
 f2 : ByteArray
 f3 : Int
 a4 : Option Addr
 n4 : Nat
 c4 : Nat
 f5 : Int
instance : Inhabited RawD := ⟨⟨0, ⟨#[]⟩, ⟨#[]⟩, 0, none, 0, 0, 0⟩⟩
def zeroD : RawD := ⟨0, ⟨#[]⟩, ⟨#[]⟩, 0, none, 0, 0, 0⟩
def encD (x : RawD) : List Value := [.int .i64 x.f0, .string x.f1, .string x.f2, .int .i64 x.f3, .slice x.a4 x.n4 x.c4, .int .i64 x.f5]
theorem encD_len (x : RawD) : (encD x).length = 6 := rfl
theorem encD_one (x : RawD) : ∀ u ∈ encD x, u.oneCell' = true := by
 intro u hu
 simp only [encD, List.mem_cons, List.not_mem_nil, or_false] at hu
 rcases hu with rfl | rfl | rfl | rfl | rfl | rfl <;> rfl
noncomputable abbrev kD : Kd RawD := rawKd encD 6 encD_len encD_one
def aggD (x : RawD) : Value := .agg #[.int .i64 x.f0, .string x.f1, .string x.f2, .int .i64 x.f3, .slice x.a4 x.n4 x.c4, .int .i64 x.f5]
theorem infoD : (Try.prog.info? 27).map (fun i => (i.zero, i.size, i.bytes)) = some (some (.agg #[.int .i64 0, .string ⟨#[]⟩, .string ⟨#[]⟩, .int .i64 0, .slice none 0 0, .int .i64 0]), 6, 80) := by kernel_rfl
theorem at_D {w : World} {A : Option Addr} {n : Nat} {l : List RawD} (h : Kd.C kD w A n l) (i : Nat) (hi : i < l.length) : ∃ ad, A = some ad ∧ w.cell? (ad.add (i * 6)) = some (.int .i64 l[i].f0) ∧ w.cell? ⟨(ad.add (i * 6)).block, (ad.add (i * 6)).off + 1, none⟩ = some (.string l[i].f1) ∧ w.cell? ⟨(ad.add (i * 6)).block, (ad.add (i * 6)).off + 2, none⟩ = some (.string l[i].f2) ∧ w.cell? ⟨(ad.add (i * 6)).block, (ad.add (i * 6)).off + 3, none⟩ = some (.int .i64 l[i].f3) ∧ w.cell? ⟨(ad.add (i * 6)).block, (ad.add (i * 6)).off + 4, none⟩ = some (.slice l[i].a4 l[i].n4 l[i].c4) ∧ w.cell? ⟨(ad.add (i * 6)).block, (ad.add (i * 6)).off + 5, none⟩ = some (.int .i64 l[i].f5) := by
 obtain ⟨ad, ea, h⟩ := raw_at h i hi
 refine ⟨ad, ea, h 0 _ rfl, by rw [← add_field _ _ _ (by decide)]; exact h 1 _ rfl, by rw [← add_field _ _ _ (by decide)]; exact h 2 _ rfl, by rw [← add_field _ _ _ (by decide)]; exact h 3 _ rfl, by rw [← add_field _ _ _ (by decide)]; exact h 4 _ rfl, by rw [← add_field _ _ _ (by decide)]; exact h 5 _ rfl⟩
/-- A predicate that may lay blocks of its own. -/
def PredD (g : Nat) (lb : Array Value) (l : List RawD) (p : RawD → Bool) (w : World) : Prop :=
 ∀ (W : World) (x : RawD), x ∈ l → Below w.heap.size w W → Calls Try.prog g (#[aggD x] ++ lb) W fun e w' => e = .returned (.bool (p x)) ∧ Below W.heap.size W w'
set_option maxHeartbeats 4000000 in
set_option maxRecDepth 100000 in
theorem indexD_calls (p : RawD → Bool) (g : Nat) (lb : Array Value) (eg : ∀ args w, (callFunc g args).run Try.prog w = .ok (.enter g args) w) (A0 : Option Addr) (c0 : Nat) (l0 : List RawD) (w : World) (hr0 : Kd.C kD w A0 l0.length l0) (hc0 : l0.length ≤ 1000000000) (hp : PredD g lb l0 p w) :
 Calls Try.prog 25 #[.slice A0 l0.length c0, .func (.func g) #[] lb] w fun e w' => e = .returned (.int .i64 (idxZ p l0 0)) ∧ Below w.heap.size w w' := by
 have HC := Lib.hid hr0
 clear hr0
 go_enter Try.func25, Try.ntmps25
 go_wp2
 go_loopw [5, 8] (fun _ i wr => ∃ k : Nat, k ≤ l0.length ∧ i = .int .i64 k ∧ Hid (idxZ p l0 0 = idxZ p (l0.drop k) k) ∧ Hid (Below w.heap.size w wr)) (fun _ i _ => l0.length - (intOf i).toNat)
 case atStart => exact ⟨0, Nat.zero_le _, rfl, Lib.hid rfl, Lib.hid (Below.refl _ _)⟩
 case round =>
  obtain ⟨k, hk, rfl, HN, HB⟩ := hrel
  by_cases hlt : k < l0.length
  ·obtain ⟨ad, ea, hx0, hx1, hx2, hx3, hx4, hx5⟩ := at_D (Kd.C_below HC.out HB.out) k hlt
   subst ea
   have hdrop : l0.drop k = l0[k] :: l0.drop (k + 1) := List.drop_eq_getElem_cons hlt
   have hN := HN.out
   rw [hdrop] at hN
   simp only [idxZ] at hN
   clear hdrop HN
   have hmem : l0[k] ∈ l0 := List.getElem_mem hlt
   generalize l0[k] = m at hx0 hx1 hx2 hx3 hx4 hx5 hN hmem
   have HP := Lib.hid (hp wr m hmem HB.out)
   unfold aggD at HP
   clear hmem
   cases hq : p m with
   | true =>
    rw [if_pos hq] at hN
    rw [hq] at HP
    go_wp2_with (go_at_fn g; refine HP.out.mono ?_; rintro e w2 ⟨rfl, hb⟩)
    go_ret
    exact ⟨by first | rfl | (rw [hN]; rfl), pbT HB.out hb⟩
   | false =>
    rw [if_neg (by rw [hq]; simp)] at hN
    rw [hq] at HP
    have HN := Lib.hid hN
    clear hN
    go_wp2_with (go_at_fn g; refine HP.out.mono ?_; rintro e w2 ⟨rfl, hb⟩)
    go_roundw
    case rel => exact ⟨k + 1, by omega, by go_num, HN, Lib.hid (pbT HB.out hb)⟩
    case measure => simp [intOf]; omega
  ·obtain rfl : k = l0.length := by omega
   have hN := HN.out
   rw [List.drop_length] at hN
   simp only [idxZ] at hN
   go_wp2
   go_ret
   exact ⟨by first | rfl | (rw [hN]; rfl), HB.out⟩
set_option maxHeartbeats 4000000 in
theorem containsD_calls (p : RawD → Bool) (g : Nat) (lb : Array Value) (eg : ∀ args w, (callFunc g args).run Try.prog w = .ok (.enter g args) w) (A0 : Option Addr) (c0 : Nat) (l0 : List RawD) (w : World) (hr0 : Kd.C kD w A0 l0.length l0) (hc0 : l0.length ≤ 1000000000) (hp : PredD g lb l0 p w) :
 Calls Try.prog 31 #[.slice A0 l0.length c0, .func (.func g) #[] lb] w fun e w' => e = .returned (.bool (l0.any p)) ∧ Below w.heap.size w w' := by
 have hI := indexD_calls p g lb eg A0 c0 l0 w hr0 hc0 hp
 have HA := Lib.hid (idxZ_any p l0)
 clear hr0 hp
 generalize idxZ p l0 0 = z at hI HA
 have HI := Lib.hid hI
 clear hI
 go_enter Try.func31, Try.ntmps31
 go_wp2_with (go_at_call 25; refine HI.out.mono ?_; rintro e w1 ⟨rfl, hb⟩)
 go_ret
 exact ⟨by rw [← HA.out]; rfl, hb⟩
theorem flatD : ∀ (W : World) (base : Nat) (ok : Nat → Prop) x cs, kD.K W x cs → kD.M W base ok x cs := fun _ _ _ _ _ h => h
set_option maxHeartbeats 2000000 in
set_option maxRecDepth 100000 in
theorem cloneD_calls (A0 : Option Addr) (c0 : Nat) (l0 : List RawD) (w : World) (hr0 : Kd.C kD w A0 l0.length l0) (hl : l0.length ≤ 1000000000) :
 Calls Try.prog 33 #[.slice A0 l0.length c0] w fun e w' => ∃ v : Value, e = .returned v ∧ Kd.R kD 27 w' w.heap.size (fun _ => True) v l0 ∧ Below w.heap.size w w' := by
 rcases A0 with _ | ad
 ·have h0 : l0 = [] := by
   rcases l0 with _ | ⟨x, l⟩
   ·rfl
   ·obtain ⟨ad, h, _⟩ := hr0.2.2 (by simp); cases h
  subst h0
  have hbin := fun w => Lib.run_eql_slice_nil (P := Try.prog) w 22 27 none 0 c0 0 0 Try.underlying22
  go_enter Try.func33, Try.ntmps33
  go_wp2
  go_ret
  exact ⟨_, rfl, Kd.R_nil _ _ _ _ _, Below.refl _ _⟩
 ·have HC := Lib.hid hr0
  clear hr0
  have hbin := fun w => Lib.run_eql_slice_nil (P := Try.prog) w 22 27 (some ad) l0.length c0 0 0 Try.underlying22
  go_enter Try.func33, Try.ntmps33
  go_wp2_with (first | ((with_reducible refine gate_dst (N := 5) rfl ?_); refine Kd.R_lit kD _ 27 ?hg (N := 5) ?hd (xs := ([] : List RawD)) (inner := []) (ok := fun _ => True) (okp := fun _ => True) ?hr ?hp (fun _ hk => hk) trivial (Below.refl _ _) (Nat.le_refl _) (by simp) ?_; (case hd => rfl); (case hg => rfl); (case hr => first | (go_simp; done) | (go_simp; rfl)); (case hp => exact (Reps.none _ _)); intro v1 w1 ho1 hb1 _ _) | ((with_reducible refine gate_builtin (b := .append) (xs := #[.tmp 5, .tmp 6]) rfl ?_); at_builtin; refine Kd.R_append_rows kD (Rr := fun x cs => cs = encD x) (w0 := w) w.heap.size rfl (.tmp 5) (.tmp 6) 22 27 (.agg #[.int .i64 0, .string ⟨#[]⟩, .string ⟨#[]⟩, .int .i64 0, .slice none 0 0, .int .i64 0]) 80 rfl Try.underlying22 infoD rfl (by decide) (by omega) v1 [] l0 _ _ _ (fun _ => True) (fun _ => False) rfl rfl ?aO ?aR (fun _ _ h => h) (fun _ h => h.elim) ?aF ?aB ?aS ?aL ?_; (case aR => exact Kd.C_below HC.out hb1); (case aF => exact fun _ _ => trivial); (case aB => exact hb1); (case aS => exact hb1.size); (case aL => simp; omega); (case aO => exact ho1); intro v2 w2 ho2 hb2 _ _) | fail)
  obtain ⟨A3, c3, rfl⟩ := Kd.R_slice ho2
  go_ret
  exact ⟨_, rfl, ho2, hb2⟩
theorem spotsD {w2 : World} {ad : Addr} {g i : Nat} (had : ad = ⟨g, 0, none⟩) (m : RawD) (y : RawD) (h : ∀ j u, (encD y)[j]? = some u → w2.cell? ⟨g, i * 6 + j, none⟩ = some u) (hf : ∀ j, w2.frozen? ⟨g, i * 6 + j, none⟩ = false) :
 (∃ u, w2.cell? (ad.add (i * 6)) = some u) ∧ w2.frozen? (ad.add (i * 6)) = false ∧ (∃ u, (w2.setCell (ad.add (i * 6)) (.int .i64 m.f0)).cell? ⟨(ad.add (i * 6)).block, (ad.add (i * 6)).off + 1, none⟩ = some u) ∧ (w2.setCell (ad.add (i * 6)) (.int .i64 m.f0)).frozen? ⟨(ad.add (i * 6)).block, (ad.add (i * 6)).off + 1, none⟩ = false ∧ (∃ u, ((w2.setCell (ad.add (i * 6)) (.int .i64 m.f0)).setCell ⟨(ad.add (i * 6)).block, (ad.add (i * 6)).off + 1, none⟩ (.string m.f1)).cell? ⟨(ad.add (i * 6)).block, (ad.add (i * 6)).off + 2, none⟩ = some u) ∧ ((w2.setCell (ad.add (i * 6)) (.int .i64 m.f0)).setCell ⟨(ad.add (i * 6)).block, (ad.add (i * 6)).off + 1, none⟩ (.string m.f1)).frozen? ⟨(ad.add (i * 6)).block, (ad.add (i * 6)).off + 2, none⟩ = false ∧ (∃ u, (((w2.setCell (ad.add (i * 6)) (.int .i64 m.f0)).setCell ⟨(ad.add (i * 6)).block, (ad.add (i * 6)).off + 1, none⟩ (.string m.f1)).setCell ⟨(ad.add (i * 6)).block, (ad.add (i * 6)).off + 2, none⟩ (.string m.f2)).cell? ⟨(ad.add (i * 6)).block, (ad.add (i * 6)).off + 3, none⟩ = some u) ∧ (((w2.setCell (ad.add (i * 6)) (.int .i64 m.f0)).setCell ⟨(ad.add (i * 6)).block, (ad.add (i * 6)).off + 1, none⟩ (.string m.f1)).setCell ⟨(ad.add (i * 6)).block, (ad.add (i * 6)).off + 2, none⟩ (.string m.f2)).frozen? ⟨(ad.add (i * 6)).block, (ad.add (i * 6)).off + 3, none⟩ = false ∧ (∃ u, ((((w2.setCell (ad.add (i * 6)) (.int .i64 m.f0)).setCell ⟨(ad.add (i * 6)).block, (ad.add (i * 6)).off + 1, none⟩ (.string m.f1)).setCell ⟨(ad.add (i * 6)).block, (ad.add (i * 6)).off + 2, none⟩ (.string m.f2)).setCell ⟨(ad.add (i * 6)).block, (ad.add (i * 6)).off + 3, none⟩ (.int .i64 m.f3)).cell? ⟨(ad.add (i * 6)).block, (ad.add (i * 6)).off + 4, none⟩ = some u) ∧ ((((w2.setCell (ad.add (i * 6)) (.int .i64 m.f0)).setCell ⟨(ad.add (i * 6)).block, (ad.add (i * 6)).off + 1, none⟩ (.string m.f1)).setCell ⟨(ad.add (i * 6)).block, (ad.add (i * 6)).off + 2, none⟩ (.string m.f2)).setCell ⟨(ad.add (i * 6)).block, (ad.add (i * 6)).off + 3, none⟩ (.int .i64 m.f3)).frozen? ⟨(ad.add (i * 6)).block, (ad.add (i * 6)).off + 4, none⟩ = false ∧ (∃ u, (((((w2.setCell (ad.add (i * 6)) (.int .i64 m.f0)).setCell ⟨(ad.add (i * 6)).block, (ad.add (i * 6)).off + 1, none⟩ (.string m.f1)).setCell ⟨(ad.add (i * 6)).block, (ad.add (i * 6)).off + 2, none⟩ (.string m.f2)).setCell ⟨(ad.add (i * 6)).block, (ad.add (i * 6)).off + 3, none⟩ (.int .i64 m.f3)).setCell ⟨(ad.add (i * 6)).block, (ad.add (i * 6)).off + 4, none⟩ (.slice m.a4 m.n4 m.c4)).cell? ⟨(ad.add (i * 6)).block, (ad.add (i * 6)).off + 5, none⟩ = some u) ∧ (((((w2.setCell (ad.add (i * 6)) (.int .i64 m.f0)).setCell ⟨(ad.add (i * 6)).block, (ad.add (i * 6)).off + 1, none⟩ (.string m.f1)).setCell ⟨(ad.add (i * 6)).block, (ad.add (i * 6)).off + 2, none⟩ (.string m.f2)).setCell ⟨(ad.add (i * 6)).block, (ad.add (i * 6)).off + 3, none⟩ (.int .i64 m.f3)).setCell ⟨(ad.add (i * 6)).block, (ad.add (i * 6)).off + 4, none⟩ (.slice m.a4 m.n4 m.c4)).frozen? ⟨(ad.add (i * 6)).block, (ad.add (i * 6)).off + 5, none⟩ = false := by
 subst had
 simp only [add_plain]
 refine ⟨⟨_, h 0 _ rfl⟩, hf 0, ⟨_, by (rw [cell_off]; (exact h 1 _ rfl)); all_goals omega⟩, by simp only [World.frozen?_setCell]; exact hf 1, ⟨_, by (rw [cell_off, cell_off]; (exact h 2 _ rfl)); all_goals omega⟩, by simp only [World.frozen?_setCell]; exact hf 2, ⟨_, by (rw [cell_off, cell_off, cell_off]; (exact h 3 _ rfl)); all_goals omega⟩, by simp only [World.frozen?_setCell]; exact hf 3, ⟨_, by (rw [cell_off, cell_off, cell_off, cell_off]; (exact h 4 _ rfl)); all_goals omega⟩, by simp only [World.frozen?_setCell]; exact hf 4, ⟨_, by (rw [cell_off, cell_off, cell_off, cell_off, cell_off]; (exact h 5 _ rfl)); all_goals omega⟩, by simp only [World.frozen?_setCell]; exact hf 5⟩
set_option maxHeartbeats 4000000 in
set_option maxRecDepth 100000 in
theorem run_clearD (w : World) (ty : TypeId) (b o m c : Nat) (hn : 0 < m) (hc : ∀ j, j < m * 6 → (w.cell? ⟨b, o + j, none⟩).isSome = true) (hf : ∀ j, j < m * 6 → w.frozen? ⟨b, o + j, none⟩ = false) :
 (Builtin.clear_ #[22] ty #[.slice (some ⟨b, o, none⟩) m c]).run Try.prog w = .ok (.tuple #[]) (w.setCells b o (List.replicate m [.int .i64 0, .string ⟨#[]⟩, .string ⟨#[]⟩, .int .i64 0, .slice none 0 0, .int .i64 0]).flatten) := by
 have hv : ∀ w, (zeroValue 27).run Try.prog w = .ok (.agg #[.int .i64 0, .string ⟨#[]⟩, .string ⟨#[]⟩, .int .i64 0, .slice none 0 0, .int .i64 0]) w := fun w => by kernel_rfl
 have hzc : (Builtin.zeroCells (Value.agg #[.int .i64 0, .string ⟨#[]⟩, .string ⟨#[]⟩, .int .i64 0, .slice none 0 0, .int .i64 0]).cells m).toList = (List.replicate m [.int .i64 0, .string ⟨#[]⟩, .string ⟨#[]⟩, .int .i64 0, .slice none 0 0, .int .i64 0]).flatten := by
  have : (Value.agg #[.int .i64 0, .string ⟨#[]⟩, .string ⟨#[]⟩, .int .i64 0, .slice none 0 0, .int .i64 0]).cells = #[.int .i64 0, .string ⟨#[]⟩, .string ⟨#[]⟩, .int .i64 0, .slice none 0 0, .int .i64 0] := by kernel_rfl
  rw [this]
  exact zeroCells_flat [.int .i64 0, .string ⟨#[]⟩, .string ⟨#[]⟩, .int .i64 0, .slice none 0 0, .int .i64 0] (by simp) m
 have hst := run_storeCells_cells (P := Try.prog) b o (List.replicate m [.int .i64 0, .string ⟨#[]⟩, .string ⟨#[]⟩, .int .i64 0, .slice none 0 0, .int .i64 0]).flatten 0 w (by simpa [flat_len] using hc) (by simpa [flat_len] using hf) (by intro v hv'; obtain ⟨q, hq, hv'⟩ := List.mem_flatten.1 hv'; rw [List.eq_of_mem_replicate hq] at hv'; simp only [List.mem_cons, List.not_mem_nil, or_false] at hv'; rcases hv' with rfl | rfl | rfl | rfl | rfl | rfl <;> rfl)
 simp only [Nat.add_zero] at hst
 obtain ⟨m, rfl⟩ : ∃ q, m = q + 1 := ⟨m - 1, by omega⟩
 simp [Builtin.clear_, run_underlying Try.underlying22, hv, hzc, hst]
set_option maxHeartbeats 8000000 in
set_option maxRecDepth 100000 in
theorem deleteD_calls (p : RawD → Bool) (fg : Nat) (lb : Array Value) (eg : ∀ args w, (callFunc fg args).run Try.prog w = .ok (.enter fg args) w) (base : Nat) (ok : Nat → Prop) (v : Value) (l : List RawD) (w : World)
 (hR : Kd.R kD 27 w base ok v l) (hl : l.length ≤ 1000000000)
 (hp : ∀ (W : World) (x : RawD), x ∈ l → w.grownBy W v.ownBlock → Calls Try.prog fg (#[aggD x] ++ lb) W fun e w' => e = .returned (.bool (p x)) ∧ Below W.heap.size W w') :
 Calls Try.prog 32 #[v, .func (.func fg) #[] lb] w fun e w' => ∃ v', e = .returned v' ∧ Kd.R kD 27 w' base ok v' (delF p l) ∧ v'.ownBlock = v.ownBlock ∧ w.grownBy w' v.ownBlock := by
 obtain ⟨A, c, rfl⟩ := Kd.R_slice hR
 have hI := indexD_calls p fg lb eg A c l w (Kd.R_reads' hR).2.2 hl (fun W x hx hb => hp W x hx (grow_below (World.grownBy.refl _ _) hb))
 rcases idxZ_spec p l 0 with ⟨h1, h2⟩ | ⟨k, hk, h1, h2, h3⟩
 ·rw [h1] at hI
  have HI := Lib.hid hI
  have HR := Lib.hid hR
  clear hI hR hp
  go_enter Try.func32, Try.ntmps32
  go_wp2_with (go_at_call 25; refine HI.out.mono ?_; rintro e w1 ⟨rfl, hb⟩)
  go_ret
  exact ⟨_, rfl, by rw [delF_all h2]; exact Kd.R_below HR.out hb, rfl, grow_below (World.grownBy.refl _ _) hb⟩
 ·rw [h1, Nat.zero_add] at hI
  obtain ⟨g, cap, e, hbg, hglt, cells, hcells⟩ := Kd.R_form hR (by omega)
  have hcap := (Kd.R_reads' hR).2.1
  injection e with e1 _ e3
  subst e1
  subst e3
  have HI := Lib.hid hI
  have HR := Lib.hid hR
  have HS := Lib.hid (DelInv.start hk h2 h3)
  have HP := Lib.hid hp
  have hne1 : ((k : Int) == -1) = false := beq_eq_false_iff_ne.2 (by omega)
  clear hI hR hp h1 h2 h3
  obtain ⟨ad, had⟩ : ∃ ad : Addr, ad = ⟨g, 0, none⟩ := ⟨_, rfl⟩
  rw [← had] at HI HR HP ⊢
  have HA := Lib.hid had
  clear had
  go_enter Try.func32, Try.ntmps32
  go_wp2_with (go_at_call 25; refine HI.out.mono ?_; rintro e w1 ⟨rfl, hb⟩)
  go_loopw [5, 6, 7] (fun s5 s6 _ wr => ∃ (i j : Nat) (dk : List RawD), s5 = .int .i64 i ∧ s6 = .int .i64 j ∧ j ≤ l.length ∧ Hid (DelInv p l i j dk) ∧ Hid (Kd.R kD 27 wr base ok (.slice (some ad) l.length c) dk) ∧ Hid (w.grownBy wr (some g))) (fun _ s6 _ _ => l.length - (intOf s6).toNat)
  case atStart => exact ⟨k, k + 1, l, rfl, by go_num, by omega, HS, Lib.hid (Kd.R_below HR.out hb), Lib.hid (grow_below (World.grownBy.refl _ _) hb)⟩
  case round =>
   obtain ⟨i, j, dk, rfl, rfl, hj, HD, HQ, HG⟩ := hrel
   have hij := HD.out.lt
   by_cases hlt : j < l.length
   ·have hdl := HD.out.len
    obtain ⟨ad', ea, hx0, hx1, hx2, hx3, hx4, hx5⟩ := at_D (Kd.R_reads' HQ.out).2.2 j (by rw [hdl]; exact hlt)
    injection ea with ea
    subst ea
    have hdj : dk[j]'(by rw [hdl]; exact hlt) = l[j] := by rw [← HD.out.at hlt default]; exact (getD_of _ _).symm
    rw [hdj] at hx0 hx1 hx2 hx3 hx4 hx5
    have hmem : l[j] ∈ l := List.getElem_mem hlt
    clear hdj
    obtain ⟨m, hm⟩ : ∃ m, m = l[j] := ⟨_, rfl⟩
    rw [← hm] at hx0 hx1 hx2 hx3 hx4 hx5 hmem
    have Hm := Lib.hid hm
    have Hdl := Lib.hid hdl
    clear hm hdl
    have hc := HP.out (wr.alloc (.cells (encD m).toArray 27)) m hmem (by rw [HA.out]; exact grow_below HG.out (pbA (Below.refl _ _) _))
    unfold aggD encD at hc
    clear hmem
    cases hq : p m with
    | true =>
     rw [hq] at hc
     have HC := Lib.hid hc
     clear hc
     go_wp2_with (go_at_fn fg; refine HC.out.mono ?_; rintro e w2 ⟨rfl, hb2⟩)
     go_roundw
     case rel => exact ⟨i, j + 1, dk, rfl, by go_num, by omega, Lib.hid (HD.out.skip hlt (by rw [← Hm.out]; exact hq)), Lib.hid (Kd.R_below (Kd.R_alloc HQ.out _) hb2), Lib.hid (grow_below (grow_below HG.out (pbA (Below.refl _ _) _)) hb2)⟩
     case measure => simp [intOf]; omega
    | false =>
     rw [hq] at hc
     have HC := Lib.hid hc
     clear hc
     go_wp2_with (go_at_fn fg; refine HC.out.mono ?_; rintro e w2 ⟨rfl, hb2⟩; have BL := bkB (heap_alloc_new wr _) hb2; have hz0 := (bkC BL 0).trans rfl; have hz1 := (bkC BL 1).trans rfl; have hz2 := (bkC BL 2).trans rfl; have hz3 := (bkC BL 3).trans rfl; have hz4 := (bkC BL 4).trans rfl; have hz5 := (bkC BL 5).trans rfl; have hQ2 := Kd.R_below (Kd.R_alloc HQ.out _) hb2; have hQ3 := hQ2; rw [HA.out] at hQ3; obtain ⟨hcc, hff⟩ := raw_own_at hQ3 i (by rw [Hdl.out]; omega); obtain ⟨⟨o0, hy0⟩, hf0, ⟨o1, hy1⟩, hf1, ⟨o2, hy2⟩, hf2, ⟨o3, hy3⟩, hf3, ⟨o4, hy4⟩, hf4, ⟨o5, hy5⟩, hf5⟩ := spotsD HA.out m _ hcc hff; have HQ2 := Lib.hid hQ2; clear hQ2 hQ3 hcc hff; have HB2 := Lib.hid hb2; clear hb2)
     have hW : ((((((w2.setCell (ad.add (i * 6)) (.int .i64 m.f0)).setCell ⟨(ad.add (i * 6)).block, (ad.add (i * 6)).off + 1, none⟩ (.string m.f1)).setCell ⟨(ad.add (i * 6)).block, (ad.add (i * 6)).off + 2, none⟩ (.string m.f2)).setCell ⟨(ad.add (i * 6)).block, (ad.add (i * 6)).off + 3, none⟩ (.int .i64 m.f3)).setCell ⟨(ad.add (i * 6)).block, (ad.add (i * 6)).off + 4, none⟩ (.slice m.a4 m.n4 m.c4)).setCell ⟨(ad.add (i * 6)).block, (ad.add (i * 6)).off + 5, none⟩ (.int .i64 m.f5)) = w2.setCells g (i * 6) (encD m) := by rw [HA.out, add_plain]; rfl
     have hQ3 := HQ2.out
     rw [HA.out] at hQ3
     obtain ⟨hs1, hs2⟩ := raw_set hQ3 i (by omega) m
     have HS1 := Lib.hid hs1
     have HS2 := Lib.hid hs2
     have HW := Lib.hid hW
     clear hs1 hs2 hW hQ3
     go_roundw
     case rel =>
      refine ⟨i + 1, j + 1, dk.set i m, by go_num, by go_num, by omega, Lib.hid ?_, Lib.hid ?_, Lib.hid ?_⟩
      ·have := HD.out.keep hlt (by rw [← Hm.out]; exact hq)
       rw [← Hm.out] at this
       exact this
      ·rw [HW.out, HA.out]; exact HS1.out
      ·rw [HW.out]; exact grow_then (grow_below (grow_below HG.out (pbA (Below.refl _ _) _)) HB2.out) HS2.out
     case measure => simp [intOf]; omega
   ·obtain rfl : j = l.length := by omega
    have hQ := HQ.out
    rw [HA.out] at hQ
    have hdl := HD.out.len
    obtain ⟨i0_, hi0_, _, hsz_, _⟩ := info_parts infoD
    have hcut : ∀ W : World, (Instr.slice 22 (.slice (some ad) l.length c) (some (.int .i64 (i : Int))) none none).run Try.prog W = .ok (.slice (some (ad.add (i * 6))) (l.length - i) (c - i)) W := fun W => by
     have := cut_from (P := Try.prog) 22 27 .i64 Try.underlying22 hi0_ 6 hsz_ (some ad) l.length c (i : Int) (by omega) (by omega) W
     rw [Int.toNat_natCast, if_neg (by omega)] at this
     exact this
    have hcut2 : ∀ W : World, (Instr.slice 22 (.slice (some ad) l.length c) none (some (.int .i64 (i : Int))) none).run Try.prog W = .ok (.slice (some ad) i c) W := fun W => by
     have := cut_to (P := Try.prog) 22 27 .i64 Try.underlying22 hi0_ (some ad) l.length c (i : Int) (by omega) (by omega) hcap W
     rw [Int.toNat_natCast] at this
     exact this
    obtain ⟨dk', e1, e2, hC1, hC2⟩ := raw_clear zeroD _ rfl 27 (l.length - i) (i := i) (by omega) hQ
    have hcl : ∀ ty, (Builtin.clear_ #[22] ty #[.slice (some (ad.add (i * 6))) (l.length - i) (c - i)]).run Try.prog wr = .ok (.tuple #[]) (wr.setCells g (i * 6) (List.replicate (l.length - i) [.int .i64 0, .string ⟨#[]⟩, .string ⟨#[]⟩, .int .i64 0, .slice none 0 0, .int .i64 0]).flatten) := fun ty => by
     rw [HA.out, add_plain]
     refine run_clearD wr ty g (i * 6) (l.length - i) (c - i) (by omega) (fun q hq => ?_) (fun q hq => ?_)
     ·obtain ⟨hcc, _⟩ := raw_own_at hQ (i + q / 6) (by rw [hdl]; omega)
      have hq6 : q % 6 < (encD (dk[i + q / 6]'(by rw [hdl]; omega))).length := by rw [encD_len]; exact Nat.mod_lt _ (by decide)
      have := hcc (q % 6) _ (List.getElem?_eq_getElem hq6)
      have es : (i + q / 6) * 6 + q % 6 = i * 6 + q := by omega
      rw [es] at this
      rw [this]; rfl
     ·obtain ⟨cells2, hc2⟩ := Kd.R_typed hQ g rfl
      exact bkF hc2 _
    have HC1 := Lib.hid hC1
    have HC2 := Lib.hid hC2
    have HE1 := Lib.hid e1
    have HE2 := Lib.hid e2
    have Hdl := Lib.hid hdl
    clear hQ e1 e2 hC1 hC2 hi0_ hsz_ hdl
    go_wp2
    go_ret
    have hd := HD.out.done
    rw [List.take_length] at hd
    have ht := Kd.R_take (m := i) HC1.out (by rw [HE2.out, Hdl.out]; omega)
    rw [HE1.out, hd] at ht
    refine ⟨_, rfl, ?_, ?_, ?_⟩
    ·rw [HA.out]; exact ht
    ·rw [HA.out]; rfl
    ·rw [HA.out]; exact grow_then HG.out HC2.out
end Go.Proofs.Ytppdcldbebnmlaa.P
end
section
namespace Go.Proofs.Ytppdcldbebnmlaa.K
open Go Go.RowKit Go.Proofs.YtppdcldbebnmlaaW.PrintWords Go.Proofs.YtppdcldbebnmlaaW.PrintLast Go.Proofs.YtppdcldbebnmlaaW.PrintMore
section
variable {P : Program} {α : Type}
/-- A kind whose cells tell all: none of it lies elsewhere. -/
def Flat (d : Kd α) : Prop := ∀ (w w' : World) x c, d.K w x c → d.K w' x c
theorem V_own {d : Kd α} (hf : Flat d) {W W1 : World} {base b2 : Nat} {e : TypeId} {v : Value} {xs : List α} {inner : List Value} (hown : W1.ownsRow base e d.sz v xs.length inner) (hr : Reps (d.K W) d.sz xs inner) (ok : Nat → Prop) (hok : ∀ k, v.ownBlock = some k → ok k) : Kd.V d e W1 b2 ok v xs := by
 obtain ⟨hlen, hown⟩ := hown
 rcases hown with ⟨rfl, h0⟩ | ⟨g, cap, cur, rfl, hg, hheap, hcap, hmax, hsz, htake⟩
 ·obtain rfl : xs = [] := List.eq_nil_of_length_eq_zero h0
  exact ⟨none, 0, rfl, Nat.le_refl _, Kd.F_nil d W1 ok⟩
 ·refine ⟨some ⟨g, 0, none⟩, cap, rfl, hcap, fun W' hW => ?_⟩
  have hlt : g < W1.heap.size := by
   rcases Nat.lt_or_ge g W1.heap.size with h | h
   ·exact h
   ·rw [Array.getElem?_eq_none h] at hheap; cases hheap
  have hh : W'.heap[g]? = some (.cells cur e (0, 0)) := (hW g (hok g rfl) hlt).trans hheap
  have ho : OwnRow (d.K W') e d.sz W' base (.slice (some ⟨g, 0, none⟩) xs.length cap) xs := ⟨inner, ⟨hlen, .inr ⟨g, cap, cur, rfl, hg, hh, hcap, hmax, hsz, htake⟩⟩, hr.imp_ (fun p c hp => hf _ _ _ _ hp)⟩
  obtain ⟨A, c, he, _, hR⟩ := ho.reads
  injection he with h1
  subst h1
  exact hR
theorem F_flat {d : Kd α} {W : World} {ok : Nat → Prop} {A : Option Addr} {n : Nat} {xs : List α} (h : Kd.F d W ok A n xs) : Kd.C d W A n xs := Kd.F_now h
/-- What is read of flat elements is so in every world that has the same blocks. -/
theorem F_of_C {d : Kd α} (hf : Flat d) {W : World} {A : Option Addr} {n : Nat} {xs : List α} (h : Kd.C d W A n xs) : Kd.F d W (fun _ => True) A n xs := by
 intro W' hW
 obtain ⟨h1, h2, h3⟩ := h
 refine ⟨h1, h2, fun hn => ?_⟩
 obtain ⟨ad, e, hc⟩ := h3 hn
 refine ⟨ad, e, fun j p hp => ?_⟩
 obtain ⟨c, hl, hK, hcell⟩ := hc j p hp
 refine ⟨c, hl, hf _ _ _ _ hK, fun i u hu => ?_⟩
 have hold := hcell i u hu
 have hlt : (ad.add (j * d.sz + i)).block < W.heap.size := by
  rcases Nat.lt_or_ge (ad.add (j * d.sz + i)).block W.heap.size with h | h
  ·exact h
  ·simp [World.cell?, Array.getElem?_eq_none h] at hold
 rw [World.cell?_of_block (hW _ trivial hlt)]
 exact hold
theorem V_of_C {d : Kd α} (hf : Flat d) {W : World} {A : Option Addr} {c : Nat} {xs : List α} {e base : Nat} (h : Kd.C d W A xs.length xs) (hc : xs.length ≤ c) : Kd.V d e W base (fun _ => True) (.slice A xs.length c) xs := ⟨A, c, rfl, hc, F_of_C hf h⟩
/-- append(xs[:n:n], ys..): a new row, or, with nothing to append, xs[:n:n] itself. -/
theorem run_app_cut (d : Kd α) (hf : Flat d) (W : World) (t ty e : TypeId) (i : TypeInfo) (z : Value) (bytes : Nat) (ht : P.underlying t = some (.slice e)) (hi : P.info? e = some i) (hz : i.zero = some z) (hsize : i.size = d.sz) (hby : i.bytes = bytes) (hzs : z.cells.size = d.sz) (hsz : 0 < d.sz) (hb0 : 0 < bytes)
 (A : Option Addr) (n : Nat) (xs : List α) (A2 : Option Addr) (m c : Nat) (ys : List α) (ok : Nat → Prop) (base : Nat) (HX : Kd.F d W ok A n xs) (HY : Kd.C d W A2 m ys) (hl : (n + m) * bytes ≤ 140737488355328) :
 ∃ v1 w1, (Builtin.append_ #[t, t] ty #[.slice A n n, .slice A2 m c]).run P W = .ok v1 w1 ∧ Below W.heap.size W w1 ∧ Kd.V d e w1 base (fun k => ok k ∨ W.heap.size ≤ k) v1 (xs ++ ys) := by
 have HX0 := F_flat HX
 have hn : xs.length = n := HX0.1
 have hm : ys.length = m := HY.1
 have hlen : n + m ≤ 140737488355328 := Nat.le_trans (Nat.le_mul_of_pos_right _ hb0) hl
 rcases Nat.eq_zero_or_pos m with h0 | hp
 ·subst h0
  obtain rfl : ys = [] := List.eq_nil_of_length_eq_zero hm
  refine ⟨.slice A n n, W, ?_, Below.refl _ _, ?_⟩
  ·rcases A with _ | ad
   ·have hn0 : n = 0 := by
     rcases Nat.eq_zero_or_pos n with h | h
     ·exact h
     ·obtain ⟨ad, h, _⟩ := HX0.2.2 h; cases h
    subst hn0
    rcases A2 with _ | a2
    ·simp [Builtin.append_, run_underlying ht, sizeOf, typeInfo, hi, Builtin.lenOf, Builtin.firstCells]
    ·simp [Builtin.append_, run_underlying ht, sizeOf, typeInfo, hi, Builtin.lenOf, Builtin.firstCells, loadCells, loadCellsFrom]
   ·rcases A2 with _ | a2
    ·simp [Builtin.append_, run_underlying ht, sizeOf, typeInfo, hi, Builtin.lenOf, Builtin.firstCells, storeCells]
    ·simp [Builtin.append_, run_underlying ht, sizeOf, typeInfo, hi, Builtin.lenOf, Builtin.firstCells, storeCells, loadCells, loadCellsFrom]
  ·rw [List.append_nil]
   subst hn
   exact ⟨A, xs.length, rfl, Nat.le_refl _, Kd.F_mono HX (fun k hk => .inl hk)⟩
 ·obtain ⟨a2, rfl, _⟩ := HY.2.2 hp
  obtain ⟨news, hnr, hnc⟩ := ReadsRow.inner_ HY
  have hone : ∀ u ∈ news, u.oneCell' = true := by
   intro u hu
   obtain ⟨q, hq, rfl⟩ := List.mem_iff_getElem.1 hu
   have hql : q / d.sz < ys.length := by rw [Nat.div_lt_iff_lt_mul hsz, ← hnr.1]; exact hq
   have hc := hnr.2 (q / d.sz) _ (List.getElem?_eq_getElem hql)
   refine d.K_one hc _ ?_
   rw [List.mem_iff_getElem?]
   refine ⟨q % d.sz, ?_⟩
   rw [List.getElem?_take, if_pos (Nat.mod_lt _ hsz), List.getElem?_drop, Nat.mul_comm, Nat.div_add_mod, List.getElem?_eq_getElem hq]
  have hnl : news.length = m * d.sz := by rw [hnr.1, hm]
  have fin : ∀ (olds : List Value) v1 w1, Reps (d.K W) d.sz xs olds → w1.ownsRow W.heap.size e d.sz v1 (n + m) (olds ++ news) → W.grownBy w1 none → Below W.heap.size W w1 ∧ Kd.V d e w1 base (fun k => ok k ∨ W.heap.size ≤ k) v1 (xs ++ ys) := by
   intro olds v1 w1 hxr hown hg
   refine ⟨⟨hg.os, hg.tape, hg.output, hg.size, fun k hk => hg.block k hk (by simp)⟩, V_own hf (xs := xs ++ ys) (by rw [List.length_append, hn, hm]; exact hown) (Kd.reps_append hxr hnr) _ (fun k hk => .inr ?_)⟩
   rcases hown.2 with ⟨rfl, h⟩ | ⟨g, cap, cur, rfl, hgb, _⟩
   ·omega
   ·have : g = k := by simpa [Value.ownBlock] using hk
    omega
  rcases A with _ | ad
  ·have hn0 : n = 0 := by
    rcases Nat.eq_zero_or_pos n with h | h
    ·exact h
    ·obtain ⟨ad, h, _⟩ := HX0.2.2 h; cases h
   subst hn0
   obtain rfl : xs = [] := List.eq_nil_of_length_eq_zero hn
   obtain ⟨v1, w1, hrun, h2, hg, _⟩ := run_append_own_at (P := P) W W.heap.size t ty e i z d.sz bytes ht hi hz hsize hby hzs hsz (.slice none 0 0) 0 [] (own_nil _ _ _ _) a2 m c news hnl hnc hone (by simp only [maxLen]; omega) hl (Nat.le_refl _)
   exact ⟨v1, w1, hrun, fin [] v1 w1 (Reps.none _ _) h2 hg⟩
  ·obtain ⟨olds, hxr, hxc⟩ := ReadsRow.inner_ HX0
   obtain ⟨v1, w1, hrun, h2, hg⟩ := run_append_arg_grows (P := P) W t ty e i z d.sz bytes ht hi hz hsize hby hzs hsz ad n n olds (by rw [hxr.1, hn]) hxc a2 m c news hnl hnc (by omega) (by simp only [maxLen]; omega) hl
   exact ⟨v1, w1, hrun, fin olds v1 w1 hxr h2 hg⟩
variable {ops : Array Oper} {rest : List Oper} {o : Oper} {a : Act} {Q : Exit → Act → World → Prop}
theorem V_append_cut (d : Kd α) (hf : Flat d) {W : World} (base : Nat) (hgd : o.guard = none) (s x : Operand) (t e : TypeId) (z : Value) (bytes : Nat)
 (ho : o.op = .call { callee := .builtin .append, args := #[s, x], argTypes := #[t, t] })
 (ht : P.underlying t = some (.slice e)) (hinfo : (P.info? e).map (fun i => (i.zero, i.size, i.bytes)) = some (some z, d.sz, bytes)) (hz : z.cells.size = d.sz) (hs0 : 0 < d.sz) (hb0 : 0 < bytes)
 (A : Option Addr) (n : Nat) (xs : List α) (A2 : Option Addr) (m c : Nat) (ys : List α) (ok : Nat → Prop) (hs : a.eval s = .slice A n n) (hx : a.eval x = .slice A2 m c)
 (HX : Kd.F d W ok A n xs) (HY : Kd.C d W A2 m ys) (hl : (n + m) * bytes ≤ 140737488355328)
 (h : ∀ v1 w1, Kd.V d e w1 base (fun k => ok k ∨ W.heap.size ≤ k) v1 (xs ++ ys) → Below W.heap.size W w1 → wpList P ops Q rest (a.put o.dst v1) w1) :
 wpList P ops Q (o :: rest) a W := by
 obtain ⟨i0, hi, hzz⟩ := Option.map_eq_some_iff.1 hinfo
 simp only [Prod.mk.injEq] at hzz
 obtain ⟨hz0, hz1, hz2⟩ := hzz
 obtain ⟨v1, w1, hr1, hb, hv⟩ := run_app_cut (P := P) d hf W t o.type e i0 z bytes ht hi hz0 hz1 hz2 hz hs0 hb0 A n xs A2 m c ys ok base HX HY hl
 refine wpList_plain hgd fun K hK => ?_
 unfold Oper.wp execOp
 simp only [ho, resolve, invoke, builtin, Sem.run_bind, Sem.run_pure, Result.andThen_ok, List.map_toArray, List.map_cons, List.map_nil, hs, hx, hr1]
 exact hK _ _ (h v1 w1 hv hb)
theorem step_append_cut (d : Kd α) (hf : Flat d) {W : World} {K : Act → World → Prop} {E : Prop} (base : Nat) (hgd : o.guard = none) (s x : Operand) (t e : TypeId) (z : Value) (bytes : Nat)
 (ho : o.op = .call { callee := .builtin .append, args := #[s, x], argTypes := #[t, t] })
 (ht : P.underlying t = some (.slice e)) (hinfo : (P.info? e).map (fun i => (i.zero, i.size, i.bytes)) = some (some z, d.sz, bytes)) (hz : z.cells.size = d.sz) (hs0 : 0 < d.sz) (hb0 : 0 < bytes)
 (A : Option Addr) (n : Nat) (xs : List α) (A2 : Option Addr) (m c : Nat) (ys : List α) (ok : Nat → Prop) (hs : a.eval s = .slice A n n) (hx : a.eval x = .slice A2 m c)
 (HX : Kd.F d W ok A n xs) (HY : Kd.C d W A2 m ys) (hl : (n + m) * bytes ≤ 140737488355328)
 (h : ∀ v1 w1, Kd.V d e w1 base (fun k => ok k ∨ W.heap.size ≤ k) v1 (xs ++ ys) → Below W.heap.size W w1 → K (a.put o.dst v1) w1) :
 if Region.wanted o (yielded ops a.tmps) = true then Oper.wp P o a W K Q else E := by
 obtain ⟨i0, hi, hzz⟩ := Option.map_eq_some_iff.1 hinfo
 simp only [Prod.mk.injEq] at hzz
 obtain ⟨hz0, hz1, hz2⟩ := hzz
 obtain ⟨v1, w1, hr1, hb, hv⟩ := run_app_cut (P := P) d hf W t o.type e i0 z bytes ht hi hz0 hz1 hz2 hz hs0 hb0 A n xs A2 m c ys ok base HX HY hl
 have hw : Region.wanted o (yielded ops a.tmps) = true := by simp [Region.wanted, hgd]
 rw [if_pos hw]
 unfold Oper.wp execOp
 simp only [ho, resolve, invoke, builtin, Sem.run_bind, Sem.run_pure, Result.andThen_ok, List.map_toArray, List.map_cons, List.map_nil, hs, hx, hr1]
 exact h v1 w1 hv hb
end
end Go.Proofs.Ytppdcldbebnmlaa.K
end
section
namespace Go.Proofs.Ytppdcldbebnmlaa.P
open Go.RowKit Go.Proofs.Ytppdcldbebnmlaa.K Go.Proofs.YtppdcldbebnmlaaW.PrintWords Go.Proofs.YtppdcldbebnmlaaW.PrintLast Go.Proofs.YtppdcldbebnmlaaW.PrintMore
attribute [local go_sem] max2_int min2_int max_two min_two max_three min_three max_four min_four   -- for this text's walks alone
def bound_ends.f (a0_0 : ByteArray) (a0_1 : ByteArray) (a1 : ByteArray) : Option (Bool) := if a0_1.toList = ([] : List UInt8) then (some true) else (some (Op.bytesLess a1.toList a0_1.toList))
set_option maxHeartbeats 8000000 in
set_option maxRecDepth 100000 in
theorem bound_ends.calls (a0_0 : ByteArray) (a0_1 : ByteArray) (a1 : ByteArray) (r : Bool) (w : World) (h : bound_ends.f a0_0 a0_1 a1 = some r) :
 Calls Try.prog 43 #[.agg #[.string a0_0, .string a0_1], .string a1] w fun e w' => e = .returned (.bool r) ∧ Below w.heap.size w w' := by
 have hu24 := Try.underlying24
 have HB := Az.mk (Below.refl w.heap.size w)
 have H : (if a0_1.toList = ([] : List UInt8) then (some true) else (some (Op.bytesLess a1.toList a0_1.toList))) = some r := h
 clear h
 by_cases c3 : a0_1.toList = ([] : List UInt8)
 ·rw [if_pos c3] at H
  have c3b0 : (a0_1.toList == ([] : List UInt8)) = true := beq_iff_eq.mpr c3
  have c3b1 : (a0_1.toList != ([] : List UInt8)) = false := bne_eq_false_iff_eq.mpr c3
  clear c3
  obtain rfl := Option.some.inj H
  go_enter Try.func43, Try.ntmps43
  go_wp2_with (first | ((with_reducible refine gate_dst (N := 2) rfl ?_); refine box_event ?hg (N := 2) ?hd (cs := #[.string a0_0, .string a0_1]) (t := 24) ?hr ?_; (case hd => rfl); (case hg => rfl); (case hr => first | (go_simp; done) | (go_simp; rfl)); intro gb101 hg w4 hbox hb; have BK101 := Az.mk (hbox); have GW101 := Az.mk (geO hg (pbE HB.out)); have GE101 := Az.mk (geO hg (pbE HB.out)); replace HB := Az.mk (pbT (by exact pbE HB.out) hb); clear hb hbox hg; have hcz5 := cells2 BK101.out))
  go_ret
  exact ⟨by first | rfl | (simp [errW_none, errW_some] <;> rfl) | (simp [*, errW_none, errW_some] <;> rfl), by exact pbE HB.out⟩
 ·rw [if_neg c3] at H
  have c3b0 : (a0_1.toList == ([] : List UInt8)) = false := beq_eq_false_iff_ne.mpr c3
  have c3b1 : (a0_1.toList != ([] : List UInt8)) = true := bne_iff_ne.mpr c3
  obtain rfl := Option.some.inj H
  go_enter Try.func43, Try.ntmps43
  go_wp2_with (first | ((with_reducible refine gate_dst (N := 2) rfl ?_); refine box_event ?hg (N := 2) ?hd (cs := #[.string a0_0, .string a0_1]) (t := 24) ?hr ?_; (case hd => rfl); (case hg => rfl); (case hr => first | (go_simp; done) | (go_simp; rfl)); intro gb101 hg w6 hbox hb; have BK101 := Az.mk (hbox); have GW101 := Az.mk (geO hg (pbE HB.out)); have GE101 := Az.mk (geO hg (pbE HB.out)); replace HB := Az.mk (pbT (by exact pbE HB.out) hb); clear hb hbox hg; have hcz7 := cells2 BK101.out))
  go_ret
  exact ⟨by first | rfl | (simp [errW_none, errW_some] <;> rfl) | (simp [*, errW_none, errW_some] <;> rfl), by exact pbE HB.out⟩
def bound_Has.f (a0_0 : ByteArray) (a0_1 : ByteArray) (a1 : ByteArray) : Option (Bool) := if ((Op.bytesLess a1.toList a0_0.toList) = true) then (some false) else ((bound_ends.f a0_0 a0_1 a1).bind fun t112 => (some t112))
set_option maxHeartbeats 8000000 in
set_option maxRecDepth 100000 in
theorem bound_Has.calls (a0_0 : ByteArray) (a0_1 : ByteArray) (a1 : ByteArray) (r : Bool) (w : World) (h : bound_Has.f a0_0 a0_1 a1 = some r) :
 Calls Try.prog 27 #[.agg #[.string a0_0, .string a0_1], .string a1] w fun e w' => e = .returned (.bool r) ∧ Below w.heap.size w w' := by
 have hu24 := Try.underlying24
 have HB := Az.mk (Below.refl w.heap.size w)
 have H : (if ((Op.bytesLess a1.toList a0_0.toList) = true) then (some false) else ((bound_ends.f a0_0 a0_1 a1).bind fun t112 => (some t112))) = some r := h
 clear h
 by_cases c3 : ((Op.bytesLess a1.toList a0_0.toList) = true)
 ·rw [if_pos c3] at H
  have c3b0 : (Op.bytesLess a1.toList a0_0.toList) = true := c3
  clear c3
  obtain rfl := Option.some.inj H
  go_enter Try.func27, Try.ntmps27
  go_wp2_with (first | ((with_reducible refine gate_dst (N := 2) rfl ?_); refine box_event ?hg (N := 2) ?hd (cs := #[.string a0_0, .string a0_1]) (t := 24) ?hr ?_; (case hd => rfl); (case hg => rfl); (case hr => first | (go_simp; done) | (go_simp; rfl)); intro gb111 hg w4 hbox hb; have BK111 := Az.mk (hbox); have GW111 := Az.mk (geO hg (pbE HB.out)); have GE111 := Az.mk (geO hg (pbE HB.out)); replace HB := Az.mk (pbT (by exact pbE HB.out) hb); clear hb hbox hg; have hcz5 := cells2 BK111.out))
  go_ret
  exact ⟨by first | rfl | (simp [errW_none, errW_some] <;> rfl) | (simp [*, errW_none, errW_some] <;> rfl), by exact pbE HB.out⟩
 ·rw [if_neg c3] at H
  have c3b0 : (Op.bytesLess a1.toList a0_0.toList) = false := by simpa using c3
  clear c3
  replace H := Option.bind_eq_some_iff.mp H
  obtain ⟨t112, A60, H⟩ := H
  replace H : (some t112) = some r := H
  have A6 := Az.mk A60
  clear A60
  obtain rfl := Option.some.inj H
  go_enter Try.func27, Try.ntmps27
  go_wp2_with (first | ((with_reducible refine gate_dst (N := 2) rfl ?_); refine box_event ?hg (N := 2) ?hd (cs := #[.string a0_0, .string a0_1]) (t := 24) ?hr ?_; (case hd => rfl); (case hg => rfl); (case hr => first | (go_simp; done) | (go_simp; rfl)); intro gb111 hg w7 hbox hb; have BK111 := Az.mk (hbox); have GW111 := Az.mk (geO hg (pbE HB.out)); have GE111 := Az.mk (geO hg (pbE HB.out)); replace HB := Az.mk (pbT (by exact pbE HB.out) hb); clear hb hbox hg; have hcz8 := cells2 BK111.out) | (go_at_call 43; (with_reducible refine (bound_ends.calls a0_0 a0_1 a1 t112 _ A6.out).mono ?_); rintro e w9 ⟨rfl, hb⟩; replace BK111 := Az.mk (bkB (bk BK111.out) hb); replace HB := Az.mk (pbT (by exact pbE HB.out) hb); (try clear hb); (try clear hb2); (try clear hk); (try clear hi)))
  go_ret
  exact ⟨by first | rfl | (simp [errW_none, errW_some] <;> rfl) | (simp [*, errW_none, errW_some] <;> rfl), by exact pbE HB.out⟩
end Go.Proofs.Ytppdcldbebnmlaa.P
end
section
namespace Go.Proofs.Ytppdcldbebnmlaa.P
open Go.RowKit Go.Proofs.Ytppdcldbebnmlaa.K Go.Proofs.YtppdcldbebnmlaaW.PrintWords Go.Proofs.YtppdcldbebnmlaaW.PrintLast Go.Proofs.YtppdcldbebnmlaaW.PrintMore
attribute [local go_sem] max2_int min2_int max_two min_two max_three min_three max_four min_four
/-- A bound may be. -/
def boundOk (f t : ByteArray) : Bool := if f.size ≤ 33 ∧ t.size ≤ 33 then (t.toList == ([] : List UInt8)) || Op.bytesLess f.toList t.toList else false
def bound_Check.f (a0_0 a0_1 : ByteArray) : Option Int := some (if boundOk a0_0 a0_1 = true then 0 else 20)
set_option maxHeartbeats 4000000 in
set_option maxRecDepth 100000 in
theorem bound_Check.calls (a0_0 a0_1 : ByteArray) (r : Int) (w : World) (h : bound_Check.f a0_0 a0_1 = some r) :
 Calls Try.prog 56 #[.agg #[.string a0_0, .string a0_1]] w fun e w' => e = .returned (.int .i64 r) ∧ Below w.heap.size w w' := by
 unfold bound_Check.f boundOk at h
 have hu := Try.underlying24
 obtain rfl := Option.some.inj h
 clear h
 have hB : ∀ o, Below w.heap.size w (w.alloc o) := fun o => pbA (Below.refl _ _) o
 by_cases hs : a0_0.size ≤ 33 ∧ a0_1.size ≤ 33
 ·obtain ⟨h1, h2⟩ := hs
  rw [if_pos (And.intro h1 h2)]
  have q1 : ¬ (33 : Int) < (a0_0.size : Int) := by omega
  have q2 : ¬ (33 : Int) < (a0_1.size : Int) := by omega
  by_cases he : a0_1.toList = ([] : List UInt8)
  ·have e1 : (a0_1.toList == ([] : List UInt8)) = true := beq_iff_eq.mpr he
   have e2 : (a0_1.toList != ([] : List UInt8)) = false := bne_eq_false_iff_eq.mpr he
   rw [e1]
   clear he
   go_enter Try.func56, Try.ntmps56
   go_wp2
   all_goals go_ret
   all_goals exact ⟨rfl, hB _⟩
  ·have e1 : (a0_1.toList == ([] : List UInt8)) = false := beq_eq_false_iff_ne.mpr he
   have e2 : (a0_1.toList != ([] : List UInt8)) = true := bne_iff_ne.mpr he
   rw [e1]
   clear he
   cases hl : Op.bytesLess a0_0.toList a0_1.toList
   all_goals
    go_enter Try.func56, Try.ntmps56
    go_wp2
   all_goals go_ret
   all_goals exact ⟨rfl, hB _⟩
 ·rw [if_neg hs]
  by_cases hlt : (a0_0.size : Int) < (a0_1.size : Int)
  ·have q : (33 : Int) < (a0_1.size : Int) := by omega
   go_enter Try.func56, Try.ntmps56
   go_wp2
   all_goals go_ret
   all_goals exact ⟨rfl, hB _⟩
  ·have q : (33 : Int) < (a0_0.size : Int) := by omega
   go_enter Try.func56, Try.ntmps56
   go_wp2
   all_goals go_ret
   all_goals exact ⟨rfl, hB _⟩
end Go.Proofs.Ytppdcldbebnmlaa.P
end
section
namespace Go.Proofs.Ytppdcldbebnmlaa.P
open Go.RowKit Go.Proofs.Ytppdcldbebnmlaa.K Go.Proofs.YtppdcldbebnmlaaW.PrintWords Go.Proofs.YtppdcldbebnmlaaW.PrintLast Go.Proofs.YtppdcldbebnmlaaW.PrintMore
attribute [local go_sem] max2_int min2_int max_two min_two max_three min_three max_four min_four   -- for this text's walks alone
def bound_both.f (a0_0 : ByteArray) (a0_1 : ByteArray) (a1_0 : ByteArray) (a1_1 : ByteArray) : Option (Bool) := (bound_Check.f a0_0 a0_1).bind fun t104 => (if t104 = 0 then ((bound_Check.f a1_0 a1_1).bind fun t105 => (some (t105 == 0))) else (some false))
set_option maxHeartbeats 8000000 in
set_option maxRecDepth 100000 in
theorem bound_both.calls (a0_0 : ByteArray) (a0_1 : ByteArray) (a1_0 : ByteArray) (a1_1 : ByteArray) (r : Bool) (w : World) (h : bound_both.f a0_0 a0_1 a1_0 a1_1 = some r) :
 Calls Try.prog 44 #[.agg #[.string a0_0, .string a0_1], .agg #[.string a1_0, .string a1_1]] w fun e w' => e = .returned (.bool r) ∧ Below w.heap.size w w' := by
 have hu24 := Try.underlying24
 have HB := Az.mk (Below.refl w.heap.size w)
 have H : ((bound_Check.f a0_0 a0_1).bind fun t104 => (if t104 = 0 then ((bound_Check.f a1_0 a1_1).bind fun t105 => (some (t105 == 0))) else (some false))) = some r := h
 clear h
 replace H := Option.bind_eq_some_iff.mp H
 obtain ⟨t104, A30, H⟩ := H
 try dsimp only at H
 have A3 := Az.mk A30
 clear A30
 by_cases c4 : t104 = 0
 ·rw [if_pos c4] at H
  have c4b0 : (t104 == 0) = true := beq_iff_eq.mpr c4
  have c4b1 : (t104 != 0) = false := bne_eq_false_iff_eq.mpr c4
  clear c4
  replace H := Option.bind_eq_some_iff.mp H
  obtain ⟨t105, A50, H⟩ := H
  replace H : (some (t105 == 0)) = some r := H
  have A5 := Az.mk A50
  clear A50
  obtain rfl := Option.some.inj H
  go_enter Try.func44, Try.ntmps44
  go_wp2_with (first | ((with_reducible refine gate_dst (N := 2) rfl ?_); refine box_event ?hg (N := 2) ?hd (cs := #[.string a0_0, .string a0_1]) (t := 24) ?hr ?_; (case hd => rfl); (case hg => rfl); (case hr => first | (go_simp; done) | (go_simp; rfl)); intro gb102 hg w6 hbox hb; have BK102 := Az.mk (hbox); have GW102 := Az.mk (geO hg (pbE HB.out)); have GE102 := Az.mk (geO hg (pbE HB.out)); replace HB := Az.mk (pbT (by exact pbE HB.out) hb); clear hb hbox hg) | ((with_reducible refine gate_dst (N := 3) rfl ?_); refine box_event ?hg (N := 3) ?hd (cs := #[.string a1_0, .string a1_1]) (t := 24) ?hr ?_; (case hd => rfl); (case hg => rfl); (case hr => first | (go_simp; done) | (go_simp; rfl)); intro gb103 hg w7 hbox hb; have BK103 := Az.mk (hbox); have GW103 := Az.mk (geO hg (pbE HB.out)); have GE103 := Az.mk (geO hg (pbE HB.out)); replace HB := Az.mk (pbT (by exact pbE HB.out) hb); have NB102_103 := Az.mk (neO hg (bk BK102.out)); have NB103_102 := Az.mk (neP hg (bk BK102.out)); replace BK102 := Az.mk (bkB (bk BK102.out) hb); clear hb hbox hg; have hnb8 := NB102_103.out; have hnc8 := NB103_102.out; have hcz9 := cells2 BK102.out) | ((with_reducible refine gtc (f := 56) rfl ?_); refine goesL_ (some 6) rfl rfl Try.func56 (by kernel_rfl) rfl #[.agg #[.string a0_0, .string a0_1]] rfl (by (try simp only [List.map_toArray, List.map_cons, List.map_nil]); first | done | rfl | (simp only [List.length_drop, List.length_take]; rfl)) ?_; (with_reducible refine (bound_Check.calls a0_0 a0_1 t104 _ A3.out).mono ?_); rintro e w10 ⟨rfl, hb⟩; refine ⟨_, rfl, ?_⟩; replace BK102 := Az.mk (bkB (bk BK102.out) hb); replace BK103 := Az.mk (bkB (bk BK103.out) hb); replace HB := Az.mk (pbT (by exact pbE HB.out) hb); (try clear hb); (try clear hb2); (try clear hk); (try clear hi); have hcz11 := cells2 BK103.out) | (go_at_call 56; (with_reducible refine (bound_Check.calls a1_0 a1_1 t105 _ A5.out).mono ?_); rintro e w12 ⟨rfl, hb⟩; replace BK102 := Az.mk (bkB (bk BK102.out) hb); replace BK103 := Az.mk (bkB (bk BK103.out) hb); replace HB := Az.mk (pbT (by exact pbE HB.out) hb); (try clear hb); (try clear hb2); (try clear hk); (try clear hi)))
  go_ret
  exact ⟨by first | rfl | (simp [errW_none, errW_some] <;> rfl) | (simp [*, errW_none, errW_some] <;> rfl), by exact pbE HB.out⟩
 ·rw [if_neg c4] at H
  have c4b0 : (t104 == 0) = false := beq_eq_false_iff_ne.mpr c4
  have c4b1 : (t104 != 0) = true := bne_iff_ne.mpr c4
  obtain rfl := Option.some.inj H
  go_enter Try.func44, Try.ntmps44
  go_wp2_with (first | ((with_reducible refine gate_dst (N := 2) rfl ?_); refine box_event ?hg (N := 2) ?hd (cs := #[.string a0_0, .string a0_1]) (t := 24) ?hr ?_; (case hd => rfl); (case hg => rfl); (case hr => first | (go_simp; done) | (go_simp; rfl)); intro gb102 hg w13 hbox hb; have BK102 := Az.mk (hbox); have GW102 := Az.mk (geO hg (pbE HB.out)); have GE102 := Az.mk (geO hg (pbE HB.out)); replace HB := Az.mk (pbT (by exact pbE HB.out) hb); clear hb hbox hg) | ((with_reducible refine gate_dst (N := 3) rfl ?_); refine box_event ?hg (N := 3) ?hd (cs := #[.string a1_0, .string a1_1]) (t := 24) ?hr ?_; (case hd => rfl); (case hg => rfl); (case hr => first | (go_simp; done) | (go_simp; rfl)); intro gb103 hg w14 hbox hb; have BK103 := Az.mk (hbox); have GW103 := Az.mk (geO hg (pbE HB.out)); have GE103 := Az.mk (geO hg (pbE HB.out)); replace HB := Az.mk (pbT (by exact pbE HB.out) hb); have NB102_103 := Az.mk (neO hg (bk BK102.out)); have NB103_102 := Az.mk (neP hg (bk BK102.out)); replace BK102 := Az.mk (bkB (bk BK102.out) hb); clear hb hbox hg; have hnb15 := NB102_103.out; have hnc15 := NB103_102.out; have hcz16 := cells2 BK102.out) | ((with_reducible refine gtc (f := 56) rfl ?_); refine goesL_ (some 6) rfl rfl Try.func56 (by kernel_rfl) rfl #[.agg #[.string a0_0, .string a0_1]] rfl (by (try simp only [List.map_toArray, List.map_cons, List.map_nil]); first | done | rfl | (simp only [List.length_drop, List.length_take]; rfl)) ?_; (with_reducible refine (bound_Check.calls a0_0 a0_1 t104 _ A3.out).mono ?_); rintro e w17 ⟨rfl, hb⟩; refine ⟨_, rfl, ?_⟩; replace BK102 := Az.mk (bkB (bk BK102.out) hb); replace BK103 := Az.mk (bkB (bk BK103.out) hb); replace HB := Az.mk (pbT (by exact pbE HB.out) hb); (try clear hb); (try clear hb2); (try clear hk); (try clear hi)))
  go_ret
  exact ⟨by first | rfl | (simp [errW_none, errW_some] <;> rfl) | (simp [*, errW_none, errW_some] <;> rfl), by exact pbE HB.out⟩
def bound_Meet.f (a0_0 : ByteArray) (a0_1 : ByteArray) (a1_0 : ByteArray) (a1_1 : ByteArray) : Option (Bool) := (bound_both.f a0_0 a0_1 a1_0 a1_1).bind fun t108 => (if t108 = true then ((bound_ends.f a0_0 a0_1 a1_0).bind fun t109 => (if t109 = true then ((bound_ends.f a1_0 a1_1 a0_0).bind fun t110 => (some t110)) else (some false))) else (some false))
set_option maxHeartbeats 8000000 in
set_option maxRecDepth 100000 in
theorem bound_Meet.calls (a0_0 : ByteArray) (a0_1 : ByteArray) (a1_0 : ByteArray) (a1_1 : ByteArray) (r : Bool) (w : World) (h : bound_Meet.f a0_0 a0_1 a1_0 a1_1 = some r) :
 Calls Try.prog 29 #[.agg #[.string a0_0, .string a0_1], .agg #[.string a1_0, .string a1_1]] w fun e w' => e = .returned (.bool r) ∧ Below w.heap.size w w' := by
 have hu24 := Try.underlying24
 have HB := Az.mk (Below.refl w.heap.size w)
 have H : ((bound_both.f a0_0 a0_1 a1_0 a1_1).bind fun t108 => (if t108 = true then ((bound_ends.f a0_0 a0_1 a1_0).bind fun t109 => (if t109 = true then ((bound_ends.f a1_0 a1_1 a0_0).bind fun t110 => (some t110)) else (some false))) else (some false))) = some r := h
 clear h
 replace H := Option.bind_eq_some_iff.mp H
 obtain ⟨t108, A30, H⟩ := H
 try dsimp only at H
 have A3 := Az.mk A30
 clear A30
 by_cases c4 : t108 = true
 ·subst c4
  rw [if_pos rfl] at H
  replace H := Option.bind_eq_some_iff.mp H
  obtain ⟨t109, A50, H⟩ := H
  try dsimp only at H
  have A5 := Az.mk A50
  clear A50
  by_cases c6 : t109 = true
  ·subst c6
   rw [if_pos rfl] at H
   replace H := Option.bind_eq_some_iff.mp H
   obtain ⟨t110, A70, H⟩ := H
   replace H : (some t110) = some r := H
   have A7 := Az.mk A70
   clear A70
   obtain rfl := Option.some.inj H
   go_enter Try.func29, Try.ntmps29
   go_wp2_with (first | ((with_reducible refine gate_dst (N := 2) rfl ?_); refine box_event ?hg (N := 2) ?hd (cs := #[.string a0_0, .string a0_1]) (t := 24) ?hr ?_; (case hd => rfl); (case hg => rfl); (case hr => first | (go_simp; done) | (go_simp; rfl)); intro gb106 hg w8 hbox hb; have BK106 := Az.mk (hbox); have GW106 := Az.mk (geO hg (pbE HB.out)); have GE106 := Az.mk (geO hg (pbE HB.out)); replace HB := Az.mk (pbT (by exact pbE HB.out) hb); clear hb hbox hg) | ((with_reducible refine gate_dst (N := 3) rfl ?_); refine box_event ?hg (N := 3) ?hd (cs := #[.string a1_0, .string a1_1]) (t := 24) ?hr ?_; (case hd => rfl); (case hg => rfl); (case hr => first | (go_simp; done) | (go_simp; rfl)); intro gb107 hg w9 hbox hb; have BK107 := Az.mk (hbox); have GW107 := Az.mk (geO hg (pbE HB.out)); have GE107 := Az.mk (geO hg (pbE HB.out)); replace HB := Az.mk (pbT (by exact pbE HB.out) hb); have NB106_107 := Az.mk (neO hg (bk BK106.out)); have NB107_106 := Az.mk (neP hg (bk BK106.out)); replace BK106 := Az.mk (bkB (bk BK106.out) hb); clear hb hbox hg; have hnb10 := NB106_107.out; have hnc10 := NB107_106.out; have hcz11 := cells2 BK106.out; have hcz12 := cells2 BK107.out) | ((with_reducible refine gtc (f := 44) rfl ?_); refine goesL_ (some 7) rfl rfl Try.func44 (by kernel_rfl) rfl #[.agg #[.string a0_0, .string a0_1], .agg #[.string a1_0, .string a1_1]] rfl (by (try simp only [List.map_toArray, List.map_cons, List.map_nil]); first | done | rfl | (simp only [List.length_drop, List.length_take]; rfl)) ?_; (with_reducible refine (bound_both.calls a0_0 a0_1 a1_0 a1_1 true _ A3.out).mono ?_); rintro e w13 ⟨rfl, hb⟩; refine ⟨_, rfl, ?_⟩; replace BK106 := Az.mk (bkB (bk BK106.out) hb); replace BK107 := Az.mk (bkB (bk BK107.out) hb); replace HB := Az.mk (pbT (by exact pbE HB.out) hb); (try clear hb); (try clear hb2); (try clear hk); (try clear hi); have hcz14 := cells2 BK106.out; have hcz15 := cells2 BK107.out) | (go_at_call 43; (with_reducible refine (bound_ends.calls a0_0 a0_1 a1_0 true _ A5.out).mono ?_); rintro e w16 ⟨rfl, hb⟩; replace BK106 := Az.mk (bkB (bk BK106.out) hb); replace BK107 := Az.mk (bkB (bk BK107.out) hb); replace HB := Az.mk (pbT (by exact pbE HB.out) hb); (try clear hb); (try clear hb2); (try clear hk); (try clear hi); have hcz17 := cells2 BK107.out; have hcz18 := cells2 BK106.out) | (go_at_call 43; (with_reducible refine (bound_ends.calls a1_0 a1_1 a0_0 t110 _ A7.out).mono ?_); rintro e w19 ⟨rfl, hb⟩; replace BK106 := Az.mk (bkB (bk BK106.out) hb); replace BK107 := Az.mk (bkB (bk BK107.out) hb); replace HB := Az.mk (pbT (by exact pbE HB.out) hb); (try clear hb); (try clear hb2); (try clear hk); (try clear hi)))
   go_ret
   exact ⟨by first | rfl | (simp [errW_none, errW_some] <;> rfl) | (simp [*, errW_none, errW_some] <;> rfl), by exact pbE HB.out⟩
  ·replace c6 := Bool.eq_false_iff.mpr c6
   subst c6
   rw [if_neg (show ¬ (false = true) by decide)] at H
   obtain rfl := Option.some.inj H
   go_enter Try.func29, Try.ntmps29
   go_wp2_with (first | ((with_reducible refine gate_dst (N := 2) rfl ?_); refine box_event ?hg (N := 2) ?hd (cs := #[.string a0_0, .string a0_1]) (t := 24) ?hr ?_; (case hd => rfl); (case hg => rfl); (case hr => first | (go_simp; done) | (go_simp; rfl)); intro gb106 hg w20 hbox hb; have BK106 := Az.mk (hbox); have GW106 := Az.mk (geO hg (pbE HB.out)); have GE106 := Az.mk (geO hg (pbE HB.out)); replace HB := Az.mk (pbT (by exact pbE HB.out) hb); clear hb hbox hg) | ((with_reducible refine gate_dst (N := 3) rfl ?_); refine box_event ?hg (N := 3) ?hd (cs := #[.string a1_0, .string a1_1]) (t := 24) ?hr ?_; (case hd => rfl); (case hg => rfl); (case hr => first | (go_simp; done) | (go_simp; rfl)); intro gb107 hg w21 hbox hb; have BK107 := Az.mk (hbox); have GW107 := Az.mk (geO hg (pbE HB.out)); have GE107 := Az.mk (geO hg (pbE HB.out)); replace HB := Az.mk (pbT (by exact pbE HB.out) hb); have NB106_107 := Az.mk (neO hg (bk BK106.out)); have NB107_106 := Az.mk (neP hg (bk BK106.out)); replace BK106 := Az.mk (bkB (bk BK106.out) hb); clear hb hbox hg; have hnb22 := NB106_107.out; have hnc22 := NB107_106.out; have hcz23 := cells2 BK106.out; have hcz24 := cells2 BK107.out) | ((with_reducible refine gtc (f := 44) rfl ?_); refine goesL_ (some 7) rfl rfl Try.func44 (by kernel_rfl) rfl #[.agg #[.string a0_0, .string a0_1], .agg #[.string a1_0, .string a1_1]] rfl (by (try simp only [List.map_toArray, List.map_cons, List.map_nil]); first | done | rfl | (simp only [List.length_drop, List.length_take]; rfl)) ?_; (with_reducible refine (bound_both.calls a0_0 a0_1 a1_0 a1_1 true _ A3.out).mono ?_); rintro e w25 ⟨rfl, hb⟩; refine ⟨_, rfl, ?_⟩; replace BK106 := Az.mk (bkB (bk BK106.out) hb); replace BK107 := Az.mk (bkB (bk BK107.out) hb); replace HB := Az.mk (pbT (by exact pbE HB.out) hb); (try clear hb); (try clear hb2); (try clear hk); (try clear hi); have hcz26 := cells2 BK106.out; have hcz27 := cells2 BK107.out) | (go_at_call 43; (with_reducible refine (bound_ends.calls a0_0 a0_1 a1_0 false _ A5.out).mono ?_); rintro e w28 ⟨rfl, hb⟩; replace BK106 := Az.mk (bkB (bk BK106.out) hb); replace BK107 := Az.mk (bkB (bk BK107.out) hb); replace HB := Az.mk (pbT (by exact pbE HB.out) hb); (try clear hb); (try clear hb2); (try clear hk); (try clear hi)))
   go_ret
   exact ⟨by first | rfl | (simp [errW_none, errW_some] <;> rfl) | (simp [*, errW_none, errW_some] <;> rfl), by exact pbE HB.out⟩
 ·replace c4 := Bool.eq_false_iff.mpr c4
  subst c4
  rw [if_neg (show ¬ (false = true) by decide)] at H
  obtain rfl := Option.some.inj H
  go_enter Try.func29, Try.ntmps29
  go_wp2_with (first | ((with_reducible refine gate_dst (N := 2) rfl ?_); refine box_event ?hg (N := 2) ?hd (cs := #[.string a0_0, .string a0_1]) (t := 24) ?hr ?_; (case hd => rfl); (case hg => rfl); (case hr => first | (go_simp; done) | (go_simp; rfl)); intro gb106 hg w29 hbox hb; have BK106 := Az.mk (hbox); have GW106 := Az.mk (geO hg (pbE HB.out)); have GE106 := Az.mk (geO hg (pbE HB.out)); replace HB := Az.mk (pbT (by exact pbE HB.out) hb); clear hb hbox hg) | ((with_reducible refine gate_dst (N := 3) rfl ?_); refine box_event ?hg (N := 3) ?hd (cs := #[.string a1_0, .string a1_1]) (t := 24) ?hr ?_; (case hd => rfl); (case hg => rfl); (case hr => first | (go_simp; done) | (go_simp; rfl)); intro gb107 hg w30 hbox hb; have BK107 := Az.mk (hbox); have GW107 := Az.mk (geO hg (pbE HB.out)); have GE107 := Az.mk (geO hg (pbE HB.out)); replace HB := Az.mk (pbT (by exact pbE HB.out) hb); have NB106_107 := Az.mk (neO hg (bk BK106.out)); have NB107_106 := Az.mk (neP hg (bk BK106.out)); replace BK106 := Az.mk (bkB (bk BK106.out) hb); clear hb hbox hg; have hnb31 := NB106_107.out; have hnc31 := NB107_106.out; have hcz32 := cells2 BK106.out; have hcz33 := cells2 BK107.out) | ((with_reducible refine gtc (f := 44) rfl ?_); refine goesL_ (some 7) rfl rfl Try.func44 (by kernel_rfl) rfl #[.agg #[.string a0_0, .string a0_1], .agg #[.string a1_0, .string a1_1]] rfl (by (try simp only [List.map_toArray, List.map_cons, List.map_nil]); first | done | rfl | (simp only [List.length_drop, List.length_take]; rfl)) ?_; (with_reducible refine (bound_both.calls a0_0 a0_1 a1_0 a1_1 false _ A3.out).mono ?_); rintro e w34 ⟨rfl, hb⟩; refine ⟨_, rfl, ?_⟩; replace BK106 := Az.mk (bkB (bk BK106.out) hb); replace BK107 := Az.mk (bkB (bk BK107.out) hb); replace HB := Az.mk (pbT (by exact pbE HB.out) hb); (try clear hb); (try clear hb2); (try clear hk); (try clear hi)))
  go_ret
  exact ⟨by first | rfl | (simp [errW_none, errW_some] <;> rfl) | (simp [*, errW_none, errW_some] <;> rfl), by exact pbE HB.out⟩
theorem eqA24 (d : Nat) (w : World) (x0 y0 : ByteArray) (x1 y1 : ByteArray) :
 (Op.equalIn (d + 2) 24 (.agg #[.string x0, .string x1]) (.agg #[.string y0, .string y1])).run Try.prog w = .ok (x0.toList == y0.toList && (x1.toList == y1.toList)) w := by
 refine eqA_of Try.underlying24 (by kernel_rfl) ?_
 refine eqf_cons (by rfl) (by go_simp; rfl) (by go_simp; rfl) (by go_simp) ?_
 exact eqf_last (by rfl) (by go_simp; rfl) (by go_simp; rfl) (by go_simp)
theorem eqA47 (d : Nat) (w : World) (x0 y0 : Int) (x1 y1 : Int) :
 (Op.equalIn (d + 2) 47 (.agg #[.int .i64 x0, .int .i64 x1]) (.agg #[.int .i64 y0, .int .i64 y1])).run Try.prog w = .ok (x0 == y0 && (x1 == y1)) w := by
 refine eqA_of Try.underlying47 (by kernel_rfl) ?_
 refine eqf_cons (by rfl) (by go_simp; rfl) (by go_simp; rfl) (by go_simp) ?_
 exact eqf_last (by rfl) (by go_simp; rfl) (by go_simp; rfl) (by go_simp)
end Go.Proofs.Ytppdcldbebnmlaa.P
end
section
namespace Go.Proofs.Ytppdcldbebnmlaa.P
open Go.RowKit Go.Proofs.Ytppdcldbebnmlaa.K Go.Proofs.YtppdcldbebnmlaaW.PrintWords Go.Proofs.YtppdcldbebnmlaaW.PrintLast Go.Proofs.YtppdcldbebnmlaaW.PrintMore
attribute [local go_sem] max2_int min2_int max_two min_two max_three min_three max_four min_four   -- for this text's walks alone
attribute [local go_sem high] eqA47
def api_Member.l0 : Nat → List (S47) → List (S47) → Int → Int → Option (Bool)
 | 0, _, _, _, _ => none
 | k + 1, x0, x1, x12, x13 => if x13 < x12 then (if 0 ≤ x13 then (if x13 < (x0.length : Int) then (if x13 < (x1.length : Int) then (if (!(((rd_T47 x0 x13).f0) == ((rd_T47 x1 x13).f0)) || (!(((rd_T47 x0 x13).f1) == ((rd_T47 x1 x13).f1)))) = true then (some false) else (api_Member.l0 k x0 x1 x12 (wrap64 (x13 + 1)))) else (none)) else (none)) else (none)) else (some true)
def api_Member.f (k : Nat) (l0 : List (S47)) (l1 : List (S47)) : Option (Bool) := if (l0.length : Int) = (l1.length : Int) then (api_Member.l0 k l0 l1 (l0.length : Int) 0) else (some false)
theorem api_Member.mono_l : ∀ k, (∀ y0 y1 y2 y3, LeO (api_Member.l0 k y0 y1 y2 y3) (api_Member.l0 (k + 1) y0 y1 y2 y3))
 | 0 => fun _ _ _ _ r h => by simp [api_Member.l0] at h
 | k + 1 => by
  have ih0 := api_Member.mono_l k
  ·intro y0 y1 y2 y3
   unfold api_Member.l0
   repeat' first
   | (with_reducible exact ih0 _ _ _ _)
   | (with_reducible exact LeO.refl _)
   | (with_reducible exact LeO.none _)
   | (with_reducible refine LeO.ite ?_ ?_)
   | (with_reducible refine LeO.bind ?_ (fun _ => ?_))
   | exact ih0 _ _ _ _
   | exact LeO.none _
   | refine LeO.ite ?_ ?_
   | refine LeO.bind ?_ (fun _ => ?_)
theorem api_Member.mono : ∀ a0 a1 k, LeO (api_Member.f k a0 a1) (api_Member.f (k + 1) a0 a1) := by
 intro a0 a1 k
 have ih0 := api_Member.mono_l k
 unfold api_Member.f
 repeat' first
  | (with_reducible exact ih0 _ _ _ _)
  | (with_reducible exact LeO.refl _)
  | (with_reducible exact LeO.none _)
  | (with_reducible refine LeO.ite ?_ ?_)
  | (with_reducible refine LeO.bind ?_ (fun _ => ?_))
  | exact ih0 _ _ _ _
  | exact LeO.none _
  | refine LeO.ite ?_ ?_
  | refine LeO.bind ?_ (fun _ => ?_)
set_option maxHeartbeats 8000000 in
set_option maxRecDepth 100000 in
theorem api_Member.calls (k : Nat) (A0 : Option Addr) (c0 : Nat) (l0 : List (S47)) (A1 : Option Addr) (c1 : Nat) (l1 : List (S47)) (r : Bool) (w : World) (hr0 : Kd.C k47 w A0 l0.length l0) (hc0 : l0.length ≤ c0) (hr1 : Kd.C k47 w A1 l1.length l1) (hc1 : l1.length ≤ c1) (h : api_Member.f k l0 l1 = some r) :
 Calls Try.prog 45 #[.slice A0 l0.length c0, .slice A1 l1.length c1] w fun e w' => e = .returned (.bool r) ∧ Drawn0 w w' := by
 have hu47 := Try.underlying47
 have HR0 := Az.mk hr0
 have HC0 := Az.mk hc0
 clear hr0 hc0
 have HR1 := Az.mk hr1
 have HC1 := Az.mk hc1
 clear hr1 hc1
 have H : (if (l0.length : Int) = (l1.length : Int) then (api_Member.l0 k l0 l1 (l0.length : Int) 0) else (some false)) = some r := h
 clear h
 by_cases c3 : (l0.length : Int) = (l1.length : Int)
 ·rw [if_pos c3] at H
  have c3b0 : ((l0.length : Int) == (l1.length : Int)) = true := beq_iff_eq.mpr c3
  have c3b1 : ((l0.length : Int) != (l1.length : Int)) = false := bne_eq_false_iff_eq.mpr c3
  have c3b2 : (l0.length == l1.length) = true := by first | simpa using c3 | (simp at c3 ⊢; omega)
  clear c3
  have H' := Az.mk H
  clear H
  go_enter Try.func45, Try.ntmps45
  go_wp2
  repeat (go_quiet (fail); try go_wp2)
  go_loopg [13] k (fun kq v13 w' => ∃ (x13_1 : Int), v13 = .int .i64 x13_1 ∧ Az (api_Member.l0 kq l0 l1 (l0.length : Int) x13_1 = some r) ∧ Az (kq ≤ k) ∧ Drawn0 w w')
  case atStart => exact ⟨(0), (by first | rfl | (simp; done) | (simp [*]; done)), H', ⟨Nat.le_refl _⟩, by repeat (first | exact Drawn0.refl _ | apply Drawn0.step)⟩
  case round =>
   clear H'
   try clear c1
   try clear p2
   try clear c3
   try clear c3b0
   try clear c3b1
   try clear c3b2
   obtain ⟨x13_1, rfl, HA, HK1, ⟨m1, rfl⟩⟩ := hrel
   cases gk with
   | zero => exact absurd HA.out (by simp [api_Member.l0])
   | succ k1 =>
    have H := HA.out
    clear HA
    simp only [api_Member.l0] at H
    by_cases c4 : x13_1 < (l0.length : Int)
    ·rw [if_pos c4] at H
     have c4b0 : decide (x13_1 < (l0.length : Int)) = true := decide_eq_true c4
     clear c4
     by_cases c5 : 0 ≤ x13_1
     ·rw [if_pos c5] at H
      have c5b0 : decide (0 ≤ x13_1) = true := decide_eq_true c5
      clear c5
      by_cases c6 : x13_1 < (l0.length : Int)
      ·rw [if_pos c6] at H
       have c6b0 : decide (x13_1 < (l0.length : Int)) = true := decide_eq_true c6
       clear c6
       by_cases c7 : x13_1 < (l1.length : Int)
       ·rw [if_pos c7] at H
        have c7b0 : decide (x13_1 < (l1.length : Int)) = true := decide_eq_true c7
        clear c7
        by_cases c8 : (!(((rd_T47 l0 x13_1).f0) == ((rd_T47 l1 x13_1).f0)) || (!(((rd_T47 l0 x13_1).f1) == ((rd_T47 l1 x13_1).f1)))) = true
        ·rw [if_pos c8] at H
         have c8b0 : (!(((rd_T47 l0 x13_1).f0) == ((rd_T47 l1 x13_1).f0)) || (!(((rd_T47 l0 x13_1).f1) == ((rd_T47 l1 x13_1).f1)))) = true := c8
         clear c8
         obtain rfl := Option.some.inj H
         have p113 : 0 ≤ (x13_1 : Int) := of_decide_eq_true (by first | (with_reducible assumption) | assumption)
         have q113 : x13_1 < (l0.length : Int) := of_decide_eq_true (by first | (with_reducible assumption) | assumption)
         obtain ⟨ad113, e113, hx113_0, hx113_1⟩ := at_T47 HR0.out x13_1 p113 q113
         cases e113
         replace p113 := eq_true p113
         replace q113 := eq_true q113
         have p114 : 0 ≤ (x13_1 : Int) := of_decide_eq_true (by first | (with_reducible assumption) | assumption)
         have q114 : x13_1 < (l1.length : Int) := of_decide_eq_true (by first | (with_reducible assumption) | assumption)
         obtain ⟨ad114, e114, hx114_0, hx114_1⟩ := at_T47 HR1.out x13_1 p114 q114
         cases e114
         replace p114 := eq_true p114
         replace q114 := eq_true q114
         go_wp2
         repeat (go_quiet (fail); try go_wp2)
         go_ret
         exact ⟨by first | rfl | (simp; done) | (simp [*]; done), by repeat (first | exact Drawn0.refl _ | apply Drawn0.step)⟩
        ·rw [if_neg c8] at H
         have c8b0 : (!(((rd_T47 l0 x13_1).f0) == ((rd_T47 l1 x13_1).f0)) || (!(((rd_T47 l0 x13_1).f1) == ((rd_T47 l1 x13_1).f1)))) = false := by simpa using c8
         clear c8
         have H' := Az.mk H
         clear H
         have p113 : 0 ≤ (x13_1 : Int) := of_decide_eq_true (by first | (with_reducible assumption) | assumption)
         have q113 : x13_1 < (l0.length : Int) := of_decide_eq_true (by first | (with_reducible assumption) | assumption)
         obtain ⟨ad113, e113, hx113_0, hx113_1⟩ := at_T47 HR0.out x13_1 p113 q113
         cases e113
         replace p113 := eq_true p113
         replace q113 := eq_true q113
         have p114 : 0 ≤ (x13_1 : Int) := of_decide_eq_true (by first | (with_reducible assumption) | assumption)
         have q114 : x13_1 < (l1.length : Int) := of_decide_eq_true (by first | (with_reducible assumption) | assumption)
         obtain ⟨ad114, e114, hx114_0, hx114_1⟩ := at_T47 HR1.out x13_1 p114 q114
         cases e114
         replace p114 := eq_true p114
         replace q114 := eq_true q114
         go_wp2
         repeat (go_quiet (fail); try go_wp2)
         go_roundg k1
         case measure => have := HK1.out; omega
         case rel => exact ⟨(wrap64 (x13_1 + 1)), (by first | rfl | (simp; done) | (simp [*]; done)), H', ⟨by have := HK1.out; omega⟩, by repeat (first | exact Drawn0.refl _ | apply Drawn0.step)⟩
       ·rw [if_neg c7] at H
        exact absurd H (by simp)
      ·rw [if_neg c6] at H
       exact absurd H (by simp)
     ·rw [if_neg c5] at H
      exact absurd H (by simp)
    ·rw [if_neg c4] at H
     have c4b0 : decide (x13_1 < (l0.length : Int)) = false := decide_eq_false c4
     clear c4
     obtain rfl := Option.some.inj H
     go_wp2
     repeat (go_quiet (fail); try go_wp2)
     go_ret
     exact ⟨by first | rfl | (simp; done) | (simp [*]; done), by repeat (first | exact Drawn0.refl _ | apply Drawn0.step)⟩
 ·rw [if_neg c3] at H
  have c3b0 : ((l0.length : Int) == (l1.length : Int)) = false := beq_eq_false_iff_ne.mpr c3
  have c3b1 : ((l0.length : Int) != (l1.length : Int)) = true := bne_iff_ne.mpr c3
  have c3b2 : (l0.length == l1.length) = false := by first | simpa using c3 | (simp at c3 ⊢; omega)
  obtain rfl := Option.some.inj H
  go_enter Try.func45, Try.ntmps45
  go_wp2
  repeat (go_quiet (fail); try go_wp2)
  go_ret
  exact ⟨by first | rfl | (simp; done) | (simp [*]; done), by repeat (first | exact Drawn0.refl _ | apply Drawn0.step)⟩
end Go.Proofs.Ytppdcldbebnmlaa.P
end
section
namespace Go.Proofs.Ytppdcldbebnmlaa.P
open Go.RowKit Go.Proofs.Ytppdcldbebnmlaa.K Go.Proofs.YtppdcldbebnmlaaW.PrintWords Go.Proofs.YtppdcldbebnmlaaW.PrintLast Go.Proofs.YtppdcldbebnmlaaW.PrintMore
attribute [local go_sem] max2_int min2_int max_two min_two max_three min_three max_four min_four   -- for this text's walks alone
attribute [local go_sem high] eqA24
def desc_Same.f (k : Nat) (a0_0 : Int) (a0_1 : ByteArray) (a0_2 : ByteArray) (a0_3 : Int) (l0_4 : List (S47)) (a0_5 : Int) (a1_0 : Int) (a1_1 : ByteArray) (a1_2 : ByteArray) (a1_3 : Int) (l1_4 : List (S47)) (a1_5 : Int) : Option (Bool) := if a0_0 = a1_0 then (if (a0_1.toList == a1_1.toList && (a0_2.toList == a1_2.toList)) = true then (if a0_3 = a1_3 then (if a0_5 = a1_5 then ((api_Member.f k l0_4 l1_4).bind fun t117 => (some t117)) else (some false)) else (some false)) else (some false)) else (some false)
theorem desc_Same.mono : ∀ a0 a1 a2 a3 a4 a5 a6 a7 a8 a9 a10 a11 k, LeO (desc_Same.f k a0 a1 a2 a3 a4 a5 a6 a7 a8 a9 a10 a11) (desc_Same.f (k + 1) a0 a1 a2 a3 a4 a5 a6 a7 a8 a9 a10 a11) := by
 intro a0 a1 a2 a3 a4 a5 a6 a7 a8 a9 a10 a11 k
 unfold desc_Same.f
 repeat' first
  | (with_reducible exact api_Member.mono _ _ _)
  | (with_reducible exact LeO.refl _)
  | (with_reducible exact LeO.none _)
  | (with_reducible refine LeO.ite ?_ ?_)
  | (with_reducible refine LeO.bind ?_ (fun _ => ?_))
  | exact api_Member.mono _ _ _
  | exact LeO.none _
  | refine LeO.ite ?_ ?_
  | refine LeO.bind ?_ (fun _ => ?_)
set_option maxHeartbeats 8000000 in
set_option maxRecDepth 100000 in
theorem desc_Same.calls (k : Nat) (a0_0 : Int) (a0_1 : ByteArray) (a0_2 : ByteArray) (a0_3 : Int) (A0_4 : Option Addr) (c0_4 : Nat) (l0_4 : List (S47)) (a0_5 : Int) (a1_0 : Int) (a1_1 : ByteArray) (a1_2 : ByteArray) (a1_3 : Int) (A1_4 : Option Addr) (c1_4 : Nat) (l1_4 : List (S47)) (a1_5 : Int) (r : Bool) (w : World) (hr0_4 : Kd.C k47 w A0_4 l0_4.length l0_4) (hc0_4 : l0_4.length ≤ c0_4) (hr1_4 : Kd.C k47 w A1_4 l1_4.length l1_4) (hc1_4 : l1_4.length ≤ c1_4) (h : desc_Same.f k a0_0 a0_1 a0_2 a0_3 l0_4 a0_5 a1_0 a1_1 a1_2 a1_3 l1_4 a1_5 = some r) :
 Calls Try.prog 30 #[.agg #[.int .i64 a0_0, .string a0_1, .string a0_2, .int .i64 a0_3, .slice A0_4 l0_4.length c0_4, .int .i64 a0_5], .agg #[.int .i64 a1_0, .string a1_1, .string a1_2, .int .i64 a1_3, .slice A1_4 l1_4.length c1_4, .int .i64 a1_5]] w fun e w' => e = .returned (.bool r) ∧ Below w.heap.size w w' := by
 have hu27 := Try.underlying27
 have hu24 := Try.underlying24
 have HR0_4 := Az.mk hr0_4
 have HC0_4 := Az.mk hc0_4
 clear hr0_4 hc0_4
 have HR1_4 := Az.mk hr1_4
 have HC1_4 := Az.mk hc1_4
 clear hr1_4 hc1_4
 have HB := Az.mk (Below.refl w.heap.size w)
 have H : (if a0_0 = a1_0 then (if (a0_1.toList == a1_1.toList && (a0_2.toList == a1_2.toList)) = true then (if a0_3 = a1_3 then (if a0_5 = a1_5 then ((api_Member.f k l0_4 l1_4).bind fun t117 => (some t117)) else (some false)) else (some false)) else (some false)) else (some false)) = some r := h
 clear h
 by_cases c3 : a0_0 = a1_0
 ·rw [if_pos c3] at H
  have c3b0 : (a0_0 == a1_0) = true := beq_iff_eq.mpr c3
  have c3b1 : (a0_0 != a1_0) = false := bne_eq_false_iff_eq.mpr c3
  clear c3
  by_cases c4 : (a0_1.toList == a1_1.toList && (a0_2.toList == a1_2.toList)) = true
  ·rw [if_pos c4] at H
   have c4b0 : (a0_1.toList == a1_1.toList && (a0_2.toList == a1_2.toList)) = true := c4
   (try (have c4b1 : decide (a0_1.toList = a1_1.toList && (a0_2.toList == a1_2.toList)) = true := by simpa using c4))
   (try (have c4b2 : (a0_1.toList == a1_1.toList && (a0_2.toList == a1_2.toList)) = true := by simpa using c4))
   clear c4
   by_cases c5 : a0_3 = a1_3
   ·rw [if_pos c5] at H
    have c5b0 : (a0_3 == a1_3) = true := beq_iff_eq.mpr c5
    have c5b1 : (a0_3 != a1_3) = false := bne_eq_false_iff_eq.mpr c5
    clear c5
    by_cases c6 : a0_5 = a1_5
    ·rw [if_pos c6] at H
     have c6b0 : (a0_5 == a1_5) = true := beq_iff_eq.mpr c6
     have c6b1 : (a0_5 != a1_5) = false := bne_eq_false_iff_eq.mpr c6
     clear c6
     replace H := Option.bind_eq_some_iff.mp H
     obtain ⟨t117, A70, H⟩ := H
     replace H : (some t117) = some r := H
     have A7 := Az.mk A70
     clear A70
     obtain rfl := Option.some.inj H
     go_enter Try.func30, Try.ntmps30
     go_wp2_with (first | ((with_reducible refine gate_dst (N := 2) rfl ?_); refine box_event ?hg (N := 2) ?hd (cs := #[.int .i64 a0_0, .string a0_1, .string a0_2, .int .i64 a0_3, .slice A0_4 l0_4.length c0_4, .int .i64 a0_5]) (t := 27) ?hr ?_; (case hd => rfl); (case hg => rfl); (case hr => first | (go_simp; done) | (go_simp; rfl)); intro gb115 hg w8 hbox hb; have BK115 := Az.mk (hbox); have GW115 := Az.mk (geO hg (pbE HB.out)); have GE115 := Az.mk (geO hg (pbE HB.out)); replace HB := Az.mk (pbT (by exact pbE HB.out) hb); clear hb hbox hg) | ((with_reducible refine gate_dst (N := 3) rfl ?_); refine box_event ?hg (N := 3) ?hd (cs := #[.int .i64 a1_0, .string a1_1, .string a1_2, .int .i64 a1_3, .slice A1_4 l1_4.length c1_4, .int .i64 a1_5]) (t := 27) ?hr ?_; (case hd => rfl); (case hg => rfl); (case hr => first | (go_simp; done) | (go_simp; rfl)); intro gb116 hg w9 hbox hb; have BK116 := Az.mk (hbox); have GW116 := Az.mk (geO hg (pbE HB.out)); have GE116 := Az.mk (geO hg (pbE HB.out)); replace HB := Az.mk (pbT (by exact pbE HB.out) hb); have NB115_116 := Az.mk (neO hg (bk BK115.out)); have NB116_115 := Az.mk (neP hg (bk BK115.out)); replace BK115 := Az.mk (bkB (bk BK115.out) hb); clear hb hbox hg; have hnb10 := NB115_116.out; have hnc10 := NB116_115.out; have hcz11 := cells6 BK115.out; have hcz12 := cells6 BK116.out) | (go_at_call 45; (with_reducible refine (api_Member.calls k _ _ l0_4 _ _ l1_4 t117 _ ?side1 ?side2 ?side3 ?side4 A7.out).mono ?_); (case side1 => repeat (first | exact (Kd.C_below HR0_4.out HB.out) | (with_reducible refine Kd.C_alloc ?_ _) | (with_reducible refine Kd.C_drewN ?_ _) | (with_reducible refine Kd.C_drew ?_))); (case side2 => exact HC0_4.out); (case side3 => repeat (first | exact (Kd.C_below HR1_4.out HB.out) | (with_reducible refine Kd.C_alloc ?_ _) | (with_reducible refine Kd.C_drewN ?_ _) | (with_reducible refine Kd.C_drew ?_))); (case side4 => exact HC1_4.out); rintro e w' ⟨rfl, ⟨nd, rfl⟩⟩))
     go_ret
     exact ⟨by first | rfl | (simp [errW_none, errW_some] <;> rfl) | (simp [*, errW_none, errW_some] <;> rfl), by exact pbE HB.out⟩
    ·rw [if_neg c6] at H
     have c6b0 : (a0_5 == a1_5) = false := beq_eq_false_iff_ne.mpr c6
     have c6b1 : (a0_5 != a1_5) = true := bne_iff_ne.mpr c6
     obtain rfl := Option.some.inj H
     go_enter Try.func30, Try.ntmps30
     go_wp2_with (first | ((with_reducible refine gate_dst (N := 2) rfl ?_); refine box_event ?hg (N := 2) ?hd (cs := #[.int .i64 a0_0, .string a0_1, .string a0_2, .int .i64 a0_3, .slice A0_4 l0_4.length c0_4, .int .i64 a0_5]) (t := 27) ?hr ?_; (case hd => rfl); (case hg => rfl); (case hr => first | (go_simp; done) | (go_simp; rfl)); intro gb115 hg w13 hbox hb; have BK115 := Az.mk (hbox); have GW115 := Az.mk (geO hg (pbE HB.out)); have GE115 := Az.mk (geO hg (pbE HB.out)); replace HB := Az.mk (pbT (by exact pbE HB.out) hb); clear hb hbox hg) | ((with_reducible refine gate_dst (N := 3) rfl ?_); refine box_event ?hg (N := 3) ?hd (cs := #[.int .i64 a1_0, .string a1_1, .string a1_2, .int .i64 a1_3, .slice A1_4 l1_4.length c1_4, .int .i64 a1_5]) (t := 27) ?hr ?_; (case hd => rfl); (case hg => rfl); (case hr => first | (go_simp; done) | (go_simp; rfl)); intro gb116 hg w14 hbox hb; have BK116 := Az.mk (hbox); have GW116 := Az.mk (geO hg (pbE HB.out)); have GE116 := Az.mk (geO hg (pbE HB.out)); replace HB := Az.mk (pbT (by exact pbE HB.out) hb); have NB115_116 := Az.mk (neO hg (bk BK115.out)); have NB116_115 := Az.mk (neP hg (bk BK115.out)); replace BK115 := Az.mk (bkB (bk BK115.out) hb); clear hb hbox hg; have hnb15 := NB115_116.out; have hnc15 := NB116_115.out; have hcz16 := cells6 BK115.out; have hcz17 := cells6 BK116.out))
     go_ret
     exact ⟨by first | rfl | (simp [errW_none, errW_some] <;> rfl) | (simp [*, errW_none, errW_some] <;> rfl), by exact pbE HB.out⟩
   ·rw [if_neg c5] at H
    have c5b0 : (a0_3 == a1_3) = false := beq_eq_false_iff_ne.mpr c5
    have c5b1 : (a0_3 != a1_3) = true := bne_iff_ne.mpr c5
    obtain rfl := Option.some.inj H
    go_enter Try.func30, Try.ntmps30
    go_wp2_with (first | ((with_reducible refine gate_dst (N := 2) rfl ?_); refine box_event ?hg (N := 2) ?hd (cs := #[.int .i64 a0_0, .string a0_1, .string a0_2, .int .i64 a0_3, .slice A0_4 l0_4.length c0_4, .int .i64 a0_5]) (t := 27) ?hr ?_; (case hd => rfl); (case hg => rfl); (case hr => first | (go_simp; done) | (go_simp; rfl)); intro gb115 hg w18 hbox hb; have BK115 := Az.mk (hbox); have GW115 := Az.mk (geO hg (pbE HB.out)); have GE115 := Az.mk (geO hg (pbE HB.out)); replace HB := Az.mk (pbT (by exact pbE HB.out) hb); clear hb hbox hg) | ((with_reducible refine gate_dst (N := 3) rfl ?_); refine box_event ?hg (N := 3) ?hd (cs := #[.int .i64 a1_0, .string a1_1, .string a1_2, .int .i64 a1_3, .slice A1_4 l1_4.length c1_4, .int .i64 a1_5]) (t := 27) ?hr ?_; (case hd => rfl); (case hg => rfl); (case hr => first | (go_simp; done) | (go_simp; rfl)); intro gb116 hg w19 hbox hb; have BK116 := Az.mk (hbox); have GW116 := Az.mk (geO hg (pbE HB.out)); have GE116 := Az.mk (geO hg (pbE HB.out)); replace HB := Az.mk (pbT (by exact pbE HB.out) hb); have NB115_116 := Az.mk (neO hg (bk BK115.out)); have NB116_115 := Az.mk (neP hg (bk BK115.out)); replace BK115 := Az.mk (bkB (bk BK115.out) hb); clear hb hbox hg; have hnb20 := NB115_116.out; have hnc20 := NB116_115.out; have hcz21 := cells6 BK115.out; have hcz22 := cells6 BK116.out))
    go_ret
    exact ⟨by first | rfl | (simp [errW_none, errW_some] <;> rfl) | (simp [*, errW_none, errW_some] <;> rfl), by exact pbE HB.out⟩
  ·rw [if_neg c4] at H
   have c4b0 : (a0_1.toList == a1_1.toList && (a0_2.toList == a1_2.toList)) = false := by simpa using c4
   (try (have c4b1 : decide (a0_1.toList = a1_1.toList && (a0_2.toList == a1_2.toList)) = false := by simpa using c4))
   (try (have c4b2 : (a0_1.toList == a1_1.toList && (a0_2.toList == a1_2.toList)) = false := by simpa using c4))
   (try (have c4b3 : ¬ (a0_1.toList = a1_1.toList && (a0_2.toList == a1_2.toList)) := by simpa using c4))
   clear c4
   obtain rfl := Option.some.inj H
   go_enter Try.func30, Try.ntmps30
   go_wp2_with (first | ((with_reducible refine gate_dst (N := 2) rfl ?_); refine box_event ?hg (N := 2) ?hd (cs := #[.int .i64 a0_0, .string a0_1, .string a0_2, .int .i64 a0_3, .slice A0_4 l0_4.length c0_4, .int .i64 a0_5]) (t := 27) ?hr ?_; (case hd => rfl); (case hg => rfl); (case hr => first | (go_simp; done) | (go_simp; rfl)); intro gb115 hg w23 hbox hb; have BK115 := Az.mk (hbox); have GW115 := Az.mk (geO hg (pbE HB.out)); have GE115 := Az.mk (geO hg (pbE HB.out)); replace HB := Az.mk (pbT (by exact pbE HB.out) hb); clear hb hbox hg) | ((with_reducible refine gate_dst (N := 3) rfl ?_); refine box_event ?hg (N := 3) ?hd (cs := #[.int .i64 a1_0, .string a1_1, .string a1_2, .int .i64 a1_3, .slice A1_4 l1_4.length c1_4, .int .i64 a1_5]) (t := 27) ?hr ?_; (case hd => rfl); (case hg => rfl); (case hr => first | (go_simp; done) | (go_simp; rfl)); intro gb116 hg w24 hbox hb; have BK116 := Az.mk (hbox); have GW116 := Az.mk (geO hg (pbE HB.out)); have GE116 := Az.mk (geO hg (pbE HB.out)); replace HB := Az.mk (pbT (by exact pbE HB.out) hb); have NB115_116 := Az.mk (neO hg (bk BK115.out)); have NB116_115 := Az.mk (neP hg (bk BK115.out)); replace BK115 := Az.mk (bkB (bk BK115.out) hb); clear hb hbox hg; have hnb25 := NB115_116.out; have hnc25 := NB116_115.out; have hcz26 := cells6 BK115.out; have hcz27 := cells6 BK116.out))
   go_ret
   exact ⟨by first | rfl | (simp [errW_none, errW_some] <;> rfl) | (simp [*, errW_none, errW_some] <;> rfl), by exact pbE HB.out⟩
 ·rw [if_neg c3] at H
  have c3b0 : (a0_0 == a1_0) = false := beq_eq_false_iff_ne.mpr c3
  have c3b1 : (a0_0 != a1_0) = true := bne_iff_ne.mpr c3
  obtain rfl := Option.some.inj H
  go_enter Try.func30, Try.ntmps30
  go_wp2_with (first | ((with_reducible refine gate_dst (N := 2) rfl ?_); refine box_event ?hg (N := 2) ?hd (cs := #[.int .i64 a0_0, .string a0_1, .string a0_2, .int .i64 a0_3, .slice A0_4 l0_4.length c0_4, .int .i64 a0_5]) (t := 27) ?hr ?_; (case hd => rfl); (case hg => rfl); (case hr => first | (go_simp; done) | (go_simp; rfl)); intro gb115 hg w28 hbox hb; have BK115 := Az.mk (hbox); have GW115 := Az.mk (geO hg (pbE HB.out)); have GE115 := Az.mk (geO hg (pbE HB.out)); replace HB := Az.mk (pbT (by exact pbE HB.out) hb); clear hb hbox hg) | ((with_reducible refine gate_dst (N := 3) rfl ?_); refine box_event ?hg (N := 3) ?hd (cs := #[.int .i64 a1_0, .string a1_1, .string a1_2, .int .i64 a1_3, .slice A1_4 l1_4.length c1_4, .int .i64 a1_5]) (t := 27) ?hr ?_; (case hd => rfl); (case hg => rfl); (case hr => first | (go_simp; done) | (go_simp; rfl)); intro gb116 hg w29 hbox hb; have BK116 := Az.mk (hbox); have GW116 := Az.mk (geO hg (pbE HB.out)); have GE116 := Az.mk (geO hg (pbE HB.out)); replace HB := Az.mk (pbT (by exact pbE HB.out) hb); have NB115_116 := Az.mk (neO hg (bk BK115.out)); have NB116_115 := Az.mk (neP hg (bk BK115.out)); replace BK115 := Az.mk (bkB (bk BK115.out) hb); clear hb hbox hg; have hnb30 := NB115_116.out; have hnc30 := NB116_115.out; have hcz31 := cells6 BK115.out; have hcz32 := cells6 BK116.out))
  go_ret
  exact ⟨by first | rfl | (simp [errW_none, errW_some] <;> rfl) | (simp [*, errW_none, errW_some] <;> rfl), by exact pbE HB.out⟩
end Go.Proofs.Ytppdcldbebnmlaa.P
end
section
namespace Go.Proofs.Ytppdcldbebnmlaa.P
open Go.RowKit Go.Proofs.Ytppdcldbebnmlaa.K Go.Proofs.YtppdcldbebnmlaaW.PrintWords Go.Proofs.YtppdcldbebnmlaaW.PrintLast Go.Proofs.YtppdcldbebnmlaaW.PrintMore
attribute [local go_sem] max2_int min2_int max_two min_two max_three min_three max_four min_four   -- for this text's walks alone
attribute [local go_sem high] eqA47
def r06_Members.l0 : Nat → List (S47) → List (S47) → Int → Option (Bool)
 | 0, _, _, _ => none
 | k + 1, x0, x1, x5 => if x5 < (x0.length : Int) then (if 0 ≤ x5 then (if x5 < (x1.length : Int) then (if (!(((rd_T47 x0 x5).f0) == ((rd_T47 x1 x5).f0)) || (!(((rd_T47 x0 x5).f1) == ((rd_T47 x1 x5).f1)))) = true then (some false) else (r06_Members.l0 k x0 x1 (wrap64 (x5 + 1)))) else (none)) else (none)) else (some true)
def r06_Members.f (k : Nat) (l0 : List (S47)) (l1 : List (S47)) : Option (Bool) := if (l0.length : Int) = (l1.length : Int) then (r06_Members.l0 k l0 l1 0) else (some false)
theorem r06_Members.mono_l : ∀ k, (∀ y0 y1 y2, LeO (r06_Members.l0 k y0 y1 y2) (r06_Members.l0 (k + 1) y0 y1 y2))
 | 0 => fun _ _ _ r h => by simp [r06_Members.l0] at h
 | k + 1 => by
  have ih0 := r06_Members.mono_l k
  ·intro y0 y1 y2
   unfold r06_Members.l0
   repeat' first
   | (with_reducible exact ih0 _ _ _)
   | (with_reducible exact LeO.refl _)
   | (with_reducible exact LeO.none _)
   | (with_reducible refine LeO.ite ?_ ?_)
   | (with_reducible refine LeO.bind ?_ (fun _ => ?_))
   | exact ih0 _ _ _
   | exact LeO.none _
   | refine LeO.ite ?_ ?_
   | refine LeO.bind ?_ (fun _ => ?_)
theorem r06_Members.mono : ∀ a0 a1 k, LeO (r06_Members.f k a0 a1) (r06_Members.f (k + 1) a0 a1) := by
 intro a0 a1 k
 have ih0 := r06_Members.mono_l k
 unfold r06_Members.f
 repeat' first
  | (with_reducible exact ih0 _ _ _)
  | (with_reducible exact LeO.refl _)
  | (with_reducible exact LeO.none _)
  | (with_reducible refine LeO.ite ?_ ?_)
  | (with_reducible refine LeO.bind ?_ (fun _ => ?_))
  | exact ih0 _ _ _
  | exact LeO.none _
  | refine LeO.ite ?_ ?_
  | refine LeO.bind ?_ (fun _ => ?_)
set_option maxHeartbeats 8000000 in
set_option maxRecDepth 100000 in
theorem r06_Members.calls (k : Nat) (A0 : Option Addr) (c0 : Nat) (l0 : List (S47)) (A1 : Option Addr) (c1 : Nat) (l1 : List (S47)) (r : Bool) (w : World) (hr0 : Kd.C k47 w A0 l0.length l0) (hc0 : l0.length ≤ c0) (hr1 : Kd.C k47 w A1 l1.length l1) (hc1 : l1.length ≤ c1) (h : r06_Members.f k l0 l1 = some r) :
 Calls Try.prog 39 #[.slice A0 l0.length c0, .slice A1 l1.length c1] w fun e w' => e = .returned (.bool r) ∧ Drawn0 w w' := by
 have hu47 := Try.underlying47
 have HR0 := Az.mk hr0
 have HC0 := Az.mk hc0
 clear hr0 hc0
 have HR1 := Az.mk hr1
 have HC1 := Az.mk hc1
 clear hr1 hc1
 have H : (if (l0.length : Int) = (l1.length : Int) then (r06_Members.l0 k l0 l1 0) else (some false)) = some r := h
 clear h
 by_cases c3 : (l0.length : Int) = (l1.length : Int)
 ·rw [if_pos c3] at H
  have c3b0 : ((l0.length : Int) == (l1.length : Int)) = true := beq_iff_eq.mpr c3
  have c3b1 : ((l0.length : Int) != (l1.length : Int)) = false := bne_eq_false_iff_eq.mpr c3
  have c3b2 : (l0.length == l1.length) = true := by first | simpa using c3 | (simp at c3 ⊢; omega)
  clear c3
  have H' := Az.mk H
  clear H
  go_enter Try.func39, Try.ntmps39
  go_wp2
  repeat (go_quiet (fail); try go_wp2)
  go_loopg [5] k (fun kq v5 w' => ∃ (x5_1 : Int), v5 = .int .i64 x5_1 ∧ Az (r06_Members.l0 kq l0 l1 x5_1 = some r) ∧ Az (kq ≤ k) ∧ Drawn0 w w')
  case atStart => exact ⟨(0), (by first | rfl | (simp; done) | (simp [*]; done)), H', ⟨Nat.le_refl _⟩, by repeat (first | exact Drawn0.refl _ | apply Drawn0.step)⟩
  case round =>
   clear H'
   try clear c1
   try clear p2
   try clear c3
   try clear c3b0
   try clear c3b1
   try clear c3b2
   obtain ⟨x5_1, rfl, HA, HK1, ⟨m1, rfl⟩⟩ := hrel
   cases gk with
   | zero => exact absurd HA.out (by simp [r06_Members.l0])
   | succ k1 =>
    have H := HA.out
    clear HA
    simp only [r06_Members.l0] at H
    by_cases c4 : x5_1 < (l0.length : Int)
    ·rw [if_pos c4] at H
     have c4b0 : decide (x5_1 < (l0.length : Int)) = true := decide_eq_true c4
     clear c4
     by_cases c5 : 0 ≤ x5_1
     ·rw [if_pos c5] at H
      have c5b0 : decide (0 ≤ x5_1) = true := decide_eq_true c5
      clear c5
      by_cases c6 : x5_1 < (l1.length : Int)
      ·rw [if_pos c6] at H
       have c6b0 : decide (x5_1 < (l1.length : Int)) = true := decide_eq_true c6
       clear c6
       by_cases c7 : (!(((rd_T47 l0 x5_1).f0) == ((rd_T47 l1 x5_1).f0)) || (!(((rd_T47 l0 x5_1).f1) == ((rd_T47 l1 x5_1).f1)))) = true
       ·rw [if_pos c7] at H
        have c7b0 : (!(((rd_T47 l0 x5_1).f0) == ((rd_T47 l1 x5_1).f0)) || (!(((rd_T47 l0 x5_1).f1) == ((rd_T47 l1 x5_1).f1)))) = true := c7
        clear c7
        obtain rfl := Option.some.inj H
        have p173 : 0 ≤ (x5_1 : Int) := of_decide_eq_true (by first | (with_reducible assumption) | assumption)
        have q173 : x5_1 < (l0.length : Int) := of_decide_eq_true (by first | (with_reducible assumption) | assumption)
        obtain ⟨ad173, e173, hx173_0, hx173_1⟩ := at_T47 HR0.out x5_1 p173 q173
        cases e173
        replace p173 := eq_true p173
        replace q173 := eq_true q173
        have p174 : 0 ≤ (x5_1 : Int) := of_decide_eq_true (by first | (with_reducible assumption) | assumption)
        have q174 : x5_1 < (l1.length : Int) := of_decide_eq_true (by first | (with_reducible assumption) | assumption)
        obtain ⟨ad174, e174, hx174_0, hx174_1⟩ := at_T47 HR1.out x5_1 p174 q174
        cases e174
        replace p174 := eq_true p174
        replace q174 := eq_true q174
        go_wp2
        repeat (go_quiet (fail); try go_wp2)
        go_ret
        exact ⟨by first | rfl | (simp; done) | (simp [*]; done), by repeat (first | exact Drawn0.refl _ | apply Drawn0.step)⟩
       ·rw [if_neg c7] at H
        have c7b0 : (!(((rd_T47 l0 x5_1).f0) == ((rd_T47 l1 x5_1).f0)) || (!(((rd_T47 l0 x5_1).f1) == ((rd_T47 l1 x5_1).f1)))) = false := by simpa using c7
        clear c7
        have H' := Az.mk H
        clear H
        have p173 : 0 ≤ (x5_1 : Int) := of_decide_eq_true (by first | (with_reducible assumption) | assumption)
        have q173 : x5_1 < (l0.length : Int) := of_decide_eq_true (by first | (with_reducible assumption) | assumption)
        obtain ⟨ad173, e173, hx173_0, hx173_1⟩ := at_T47 HR0.out x5_1 p173 q173
        cases e173
        replace p173 := eq_true p173
        replace q173 := eq_true q173
        have p174 : 0 ≤ (x5_1 : Int) := of_decide_eq_true (by first | (with_reducible assumption) | assumption)
        have q174 : x5_1 < (l1.length : Int) := of_decide_eq_true (by first | (with_reducible assumption) | assumption)
        obtain ⟨ad174, e174, hx174_0, hx174_1⟩ := at_T47 HR1.out x5_1 p174 q174
        cases e174
        replace p174 := eq_true p174
        replace q174 := eq_true q174
        go_wp2
        repeat (go_quiet (fail); try go_wp2)
        go_roundg k1
        case measure => have := HK1.out; omega
        case rel => exact ⟨(wrap64 (x5_1 + 1)), (by first | rfl | (simp; done) | (simp [*]; done)), H', ⟨by have := HK1.out; omega⟩, by repeat (first | exact Drawn0.refl _ | apply Drawn0.step)⟩
      ·rw [if_neg c6] at H
       exact absurd H (by simp)
     ·rw [if_neg c5] at H
      exact absurd H (by simp)
    ·rw [if_neg c4] at H
     have c4b0 : decide (x5_1 < (l0.length : Int)) = false := decide_eq_false c4
     clear c4
     obtain rfl := Option.some.inj H
     go_wp2
     repeat (go_quiet (fail); try go_wp2)
     go_ret
     exact ⟨by first | rfl | (simp; done) | (simp [*]; done), by repeat (first | exact Drawn0.refl _ | apply Drawn0.step)⟩
 ·rw [if_neg c3] at H
  have c3b0 : ((l0.length : Int) == (l1.length : Int)) = false := beq_eq_false_iff_ne.mpr c3
  have c3b1 : ((l0.length : Int) != (l1.length : Int)) = true := bne_iff_ne.mpr c3
  have c3b2 : (l0.length == l1.length) = false := by first | simpa using c3 | (simp at c3 ⊢; omega)
  obtain rfl := Option.some.inj H
  go_enter Try.func39, Try.ntmps39
  go_wp2
  repeat (go_quiet (fail); try go_wp2)
  go_ret
  exact ⟨by first | rfl | (simp; done) | (simp [*]; done), by repeat (first | exact Drawn0.refl _ | apply Drawn0.step)⟩
end Go.Proofs.Ytppdcldbebnmlaa.P
end
section
namespace Go.Proofs.Ytppdcldbebnmlaa.P
open Go.RowKit Go.Proofs.Ytppdcldbebnmlaa.K Go.Proofs.YtppdcldbebnmlaaW.PrintWords Go.Proofs.YtppdcldbebnmlaaW.PrintLast Go.Proofs.YtppdcldbebnmlaaW.PrintMore
attribute [local go_sem] max2_int min2_int max_two min_two max_three min_three max_four min_four   -- for this text's walks alone
attribute [local go_sem high] eqA24
def r06_Same.f (k : Nat) (a0_0 : Int) (a0_1 : ByteArray) (a0_2 : ByteArray) (a0_3 : Int) (l0_4 : List (S47)) (a0_5 : Int) (a1_0 : Int) (a1_1 : ByteArray) (a1_2 : ByteArray) (a1_3 : Int) (l1_4 : List (S47)) (a1_5 : Int) : Option (Bool) := if a0_0 = a1_0 then (if (a0_1.toList == a1_1.toList && (a0_2.toList == a1_2.toList)) = true then (if a0_3 = a1_3 then (if a0_5 = a1_5 then ((r06_Members.f k l0_4 l1_4).bind fun t177 => (some t177)) else (some false)) else (some false)) else (some false)) else (some false)
theorem r06_Same.mono : ∀ a0 a1 a2 a3 a4 a5 a6 a7 a8 a9 a10 a11 k, LeO (r06_Same.f k a0 a1 a2 a3 a4 a5 a6 a7 a8 a9 a10 a11) (r06_Same.f (k + 1) a0 a1 a2 a3 a4 a5 a6 a7 a8 a9 a10 a11) := by
 intro a0 a1 a2 a3 a4 a5 a6 a7 a8 a9 a10 a11 k
 unfold r06_Same.f
 repeat' first
  | (with_reducible exact r06_Members.mono _ _ _)
  | (with_reducible exact LeO.refl _)
  | (with_reducible exact LeO.none _)
  | (with_reducible refine LeO.ite ?_ ?_)
  | (with_reducible refine LeO.bind ?_ (fun _ => ?_))
  | exact r06_Members.mono _ _ _
  | exact LeO.none _
  | refine LeO.ite ?_ ?_
  | refine LeO.bind ?_ (fun _ => ?_)
set_option maxHeartbeats 8000000 in
set_option maxRecDepth 100000 in
theorem r06_Same.calls (k : Nat) (a0_0 : Int) (a0_1 : ByteArray) (a0_2 : ByteArray) (a0_3 : Int) (A0_4 : Option Addr) (c0_4 : Nat) (l0_4 : List (S47)) (a0_5 : Int) (a1_0 : Int) (a1_1 : ByteArray) (a1_2 : ByteArray) (a1_3 : Int) (A1_4 : Option Addr) (c1_4 : Nat) (l1_4 : List (S47)) (a1_5 : Int) (r : Bool) (w : World) (hr0_4 : Kd.C k47 w A0_4 l0_4.length l0_4) (hc0_4 : l0_4.length ≤ c0_4) (hr1_4 : Kd.C k47 w A1_4 l1_4.length l1_4) (hc1_4 : l1_4.length ≤ c1_4) (h : r06_Same.f k a0_0 a0_1 a0_2 a0_3 l0_4 a0_5 a1_0 a1_1 a1_2 a1_3 l1_4 a1_5 = some r) :
 Calls Try.prog 17 #[.agg #[.int .i64 a0_0, .string a0_1, .string a0_2, .int .i64 a0_3, .slice A0_4 l0_4.length c0_4, .int .i64 a0_5], .agg #[.int .i64 a1_0, .string a1_1, .string a1_2, .int .i64 a1_3, .slice A1_4 l1_4.length c1_4, .int .i64 a1_5]] w fun e w' => e = .returned (.bool r) ∧ Below w.heap.size w w' := by
 have hu27 := Try.underlying27
 have hu24 := Try.underlying24
 have HR0_4 := Az.mk hr0_4
 have HC0_4 := Az.mk hc0_4
 clear hr0_4 hc0_4
 have HR1_4 := Az.mk hr1_4
 have HC1_4 := Az.mk hc1_4
 clear hr1_4 hc1_4
 have HB := Az.mk (Below.refl w.heap.size w)
 have H : (if a0_0 = a1_0 then (if (a0_1.toList == a1_1.toList && (a0_2.toList == a1_2.toList)) = true then (if a0_3 = a1_3 then (if a0_5 = a1_5 then ((r06_Members.f k l0_4 l1_4).bind fun t177 => (some t177)) else (some false)) else (some false)) else (some false)) else (some false)) = some r := h
 clear h
 by_cases c3 : a0_0 = a1_0
 ·rw [if_pos c3] at H
  have c3b0 : (a0_0 == a1_0) = true := beq_iff_eq.mpr c3
  have c3b1 : (a0_0 != a1_0) = false := bne_eq_false_iff_eq.mpr c3
  clear c3
  by_cases c4 : (a0_1.toList == a1_1.toList && (a0_2.toList == a1_2.toList)) = true
  ·rw [if_pos c4] at H
   have c4b0 : (a0_1.toList == a1_1.toList && (a0_2.toList == a1_2.toList)) = true := c4
   (try (have c4b1 : decide (a0_1.toList = a1_1.toList && (a0_2.toList == a1_2.toList)) = true := by simpa using c4))
   (try (have c4b2 : (a0_1.toList == a1_1.toList && (a0_2.toList == a1_2.toList)) = true := by simpa using c4))
   clear c4
   by_cases c5 : a0_3 = a1_3
   ·rw [if_pos c5] at H
    have c5b0 : (a0_3 == a1_3) = true := beq_iff_eq.mpr c5
    have c5b1 : (a0_3 != a1_3) = false := bne_eq_false_iff_eq.mpr c5
    clear c5
    by_cases c6 : a0_5 = a1_5
    ·rw [if_pos c6] at H
     have c6b0 : (a0_5 == a1_5) = true := beq_iff_eq.mpr c6
     have c6b1 : (a0_5 != a1_5) = false := bne_eq_false_iff_eq.mpr c6
     clear c6
     replace H := Option.bind_eq_some_iff.mp H
     obtain ⟨t177, A70, H⟩ := H
     replace H : (some t177) = some r := H
     have A7 := Az.mk A70
     clear A70
     obtain rfl := Option.some.inj H
     go_enter Try.func17, Try.ntmps17
     go_wp2_with (first | ((with_reducible refine gate_dst (N := 2) rfl ?_); refine box_event ?hg (N := 2) ?hd (cs := #[.int .i64 a0_0, .string a0_1, .string a0_2, .int .i64 a0_3, .slice A0_4 l0_4.length c0_4, .int .i64 a0_5]) (t := 27) ?hr ?_; (case hd => rfl); (case hg => rfl); (case hr => first | (go_simp; done) | (go_simp; rfl)); intro gb175 hg w8 hbox hb; have BK175 := Az.mk (hbox); have GW175 := Az.mk (geO hg (pbE HB.out)); have GE175 := Az.mk (geO hg (pbE HB.out)); replace HB := Az.mk (pbT (by exact pbE HB.out) hb); clear hb hbox hg) | ((with_reducible refine gate_dst (N := 3) rfl ?_); refine box_event ?hg (N := 3) ?hd (cs := #[.int .i64 a1_0, .string a1_1, .string a1_2, .int .i64 a1_3, .slice A1_4 l1_4.length c1_4, .int .i64 a1_5]) (t := 27) ?hr ?_; (case hd => rfl); (case hg => rfl); (case hr => first | (go_simp; done) | (go_simp; rfl)); intro gb176 hg w9 hbox hb; have BK176 := Az.mk (hbox); have GW176 := Az.mk (geO hg (pbE HB.out)); have GE176 := Az.mk (geO hg (pbE HB.out)); replace HB := Az.mk (pbT (by exact pbE HB.out) hb); have NB175_176 := Az.mk (neO hg (bk BK175.out)); have NB176_175 := Az.mk (neP hg (bk BK175.out)); replace BK175 := Az.mk (bkB (bk BK175.out) hb); clear hb hbox hg; have hnb10 := NB175_176.out; have hnc10 := NB176_175.out; have hcz11 := cells6 BK175.out; have hcz12 := cells6 BK176.out) | (go_at_call 39; (with_reducible refine (r06_Members.calls k _ _ l0_4 _ _ l1_4 t177 _ ?side1 ?side2 ?side3 ?side4 A7.out).mono ?_); (case side1 => repeat (first | exact (Kd.C_below HR0_4.out HB.out) | (with_reducible refine Kd.C_alloc ?_ _) | (with_reducible refine Kd.C_drewN ?_ _) | (with_reducible refine Kd.C_drew ?_))); (case side2 => exact HC0_4.out); (case side3 => repeat (first | exact (Kd.C_below HR1_4.out HB.out) | (with_reducible refine Kd.C_alloc ?_ _) | (with_reducible refine Kd.C_drewN ?_ _) | (with_reducible refine Kd.C_drew ?_))); (case side4 => exact HC1_4.out); rintro e w' ⟨rfl, ⟨nd, rfl⟩⟩))
     go_ret
     exact ⟨by first | rfl | (simp [errW_none, errW_some] <;> rfl) | (simp [*, errW_none, errW_some] <;> rfl), by exact pbE HB.out⟩
    ·rw [if_neg c6] at H
     have c6b0 : (a0_5 == a1_5) = false := beq_eq_false_iff_ne.mpr c6
     have c6b1 : (a0_5 != a1_5) = true := bne_iff_ne.mpr c6
     obtain rfl := Option.some.inj H
     go_enter Try.func17, Try.ntmps17
     go_wp2_with (first | ((with_reducible refine gate_dst (N := 2) rfl ?_); refine box_event ?hg (N := 2) ?hd (cs := #[.int .i64 a0_0, .string a0_1, .string a0_2, .int .i64 a0_3, .slice A0_4 l0_4.length c0_4, .int .i64 a0_5]) (t := 27) ?hr ?_; (case hd => rfl); (case hg => rfl); (case hr => first | (go_simp; done) | (go_simp; rfl)); intro gb175 hg w13 hbox hb; have BK175 := Az.mk (hbox); have GW175 := Az.mk (geO hg (pbE HB.out)); have GE175 := Az.mk (geO hg (pbE HB.out)); replace HB := Az.mk (pbT (by exact pbE HB.out) hb); clear hb hbox hg) | ((with_reducible refine gate_dst (N := 3) rfl ?_); refine box_event ?hg (N := 3) ?hd (cs := #[.int .i64 a1_0, .string a1_1, .string a1_2, .int .i64 a1_3, .slice A1_4 l1_4.length c1_4, .int .i64 a1_5]) (t := 27) ?hr ?_; (case hd => rfl); (case hg => rfl); (case hr => first | (go_simp; done) | (go_simp; rfl)); intro gb176 hg w14 hbox hb; have BK176 := Az.mk (hbox); have GW176 := Az.mk (geO hg (pbE HB.out)); have GE176 := Az.mk (geO hg (pbE HB.out)); replace HB := Az.mk (pbT (by exact pbE HB.out) hb); have NB175_176 := Az.mk (neO hg (bk BK175.out)); have NB176_175 := Az.mk (neP hg (bk BK175.out)); replace BK175 := Az.mk (bkB (bk BK175.out) hb); clear hb hbox hg; have hnb15 := NB175_176.out; have hnc15 := NB176_175.out; have hcz16 := cells6 BK175.out; have hcz17 := cells6 BK176.out))
     go_ret
     exact ⟨by first | rfl | (simp [errW_none, errW_some] <;> rfl) | (simp [*, errW_none, errW_some] <;> rfl), by exact pbE HB.out⟩
   ·rw [if_neg c5] at H
    have c5b0 : (a0_3 == a1_3) = false := beq_eq_false_iff_ne.mpr c5
    have c5b1 : (a0_3 != a1_3) = true := bne_iff_ne.mpr c5
    obtain rfl := Option.some.inj H
    go_enter Try.func17, Try.ntmps17
    go_wp2_with (first | ((with_reducible refine gate_dst (N := 2) rfl ?_); refine box_event ?hg (N := 2) ?hd (cs := #[.int .i64 a0_0, .string a0_1, .string a0_2, .int .i64 a0_3, .slice A0_4 l0_4.length c0_4, .int .i64 a0_5]) (t := 27) ?hr ?_; (case hd => rfl); (case hg => rfl); (case hr => first | (go_simp; done) | (go_simp; rfl)); intro gb175 hg w18 hbox hb; have BK175 := Az.mk (hbox); have GW175 := Az.mk (geO hg (pbE HB.out)); have GE175 := Az.mk (geO hg (pbE HB.out)); replace HB := Az.mk (pbT (by exact pbE HB.out) hb); clear hb hbox hg) | ((with_reducible refine gate_dst (N := 3) rfl ?_); refine box_event ?hg (N := 3) ?hd (cs := #[.int .i64 a1_0, .string a1_1, .string a1_2, .int .i64 a1_3, .slice A1_4 l1_4.length c1_4, .int .i64 a1_5]) (t := 27) ?hr ?_; (case hd => rfl); (case hg => rfl); (case hr => first | (go_simp; done) | (go_simp; rfl)); intro gb176 hg w19 hbox hb; have BK176 := Az.mk (hbox); have GW176 := Az.mk (geO hg (pbE HB.out)); have GE176 := Az.mk (geO hg (pbE HB.out)); replace HB := Az.mk (pbT (by exact pbE HB.out) hb); have NB175_176 := Az.mk (neO hg (bk BK175.out)); have NB176_175 := Az.mk (neP hg (bk BK175.out)); replace BK175 := Az.mk (bkB (bk BK175.out) hb); clear hb hbox hg; have hnb20 := NB175_176.out; have hnc20 := NB176_175.out; have hcz21 := cells6 BK175.out; have hcz22 := cells6 BK176.out))
    go_ret
    exact ⟨by first | rfl | (simp [errW_none, errW_some] <;> rfl) | (simp [*, errW_none, errW_some] <;> rfl), by exact pbE HB.out⟩
  ·rw [if_neg c4] at H
   have c4b0 : (a0_1.toList == a1_1.toList && (a0_2.toList == a1_2.toList)) = false := by simpa using c4
   (try (have c4b1 : decide (a0_1.toList = a1_1.toList && (a0_2.toList == a1_2.toList)) = false := by simpa using c4))
   (try (have c4b2 : (a0_1.toList == a1_1.toList && (a0_2.toList == a1_2.toList)) = false := by simpa using c4))
   (try (have c4b3 : ¬ (a0_1.toList = a1_1.toList && (a0_2.toList == a1_2.toList)) := by simpa using c4))
   clear c4
   obtain rfl := Option.some.inj H
   go_enter Try.func17, Try.ntmps17
   go_wp2_with (first | ((with_reducible refine gate_dst (N := 2) rfl ?_); refine box_event ?hg (N := 2) ?hd (cs := #[.int .i64 a0_0, .string a0_1, .string a0_2, .int .i64 a0_3, .slice A0_4 l0_4.length c0_4, .int .i64 a0_5]) (t := 27) ?hr ?_; (case hd => rfl); (case hg => rfl); (case hr => first | (go_simp; done) | (go_simp; rfl)); intro gb175 hg w23 hbox hb; have BK175 := Az.mk (hbox); have GW175 := Az.mk (geO hg (pbE HB.out)); have GE175 := Az.mk (geO hg (pbE HB.out)); replace HB := Az.mk (pbT (by exact pbE HB.out) hb); clear hb hbox hg) | ((with_reducible refine gate_dst (N := 3) rfl ?_); refine box_event ?hg (N := 3) ?hd (cs := #[.int .i64 a1_0, .string a1_1, .string a1_2, .int .i64 a1_3, .slice A1_4 l1_4.length c1_4, .int .i64 a1_5]) (t := 27) ?hr ?_; (case hd => rfl); (case hg => rfl); (case hr => first | (go_simp; done) | (go_simp; rfl)); intro gb176 hg w24 hbox hb; have BK176 := Az.mk (hbox); have GW176 := Az.mk (geO hg (pbE HB.out)); have GE176 := Az.mk (geO hg (pbE HB.out)); replace HB := Az.mk (pbT (by exact pbE HB.out) hb); have NB175_176 := Az.mk (neO hg (bk BK175.out)); have NB176_175 := Az.mk (neP hg (bk BK175.out)); replace BK175 := Az.mk (bkB (bk BK175.out) hb); clear hb hbox hg; have hnb25 := NB175_176.out; have hnc25 := NB176_175.out; have hcz26 := cells6 BK175.out; have hcz27 := cells6 BK176.out))
   go_ret
   exact ⟨by first | rfl | (simp [errW_none, errW_some] <;> rfl) | (simp [*, errW_none, errW_some] <;> rfl), by exact pbE HB.out⟩
 ·rw [if_neg c3] at H
  have c3b0 : (a0_0 == a1_0) = false := beq_eq_false_iff_ne.mpr c3
  have c3b1 : (a0_0 != a1_0) = true := bne_iff_ne.mpr c3
  obtain rfl := Option.some.inj H
  go_enter Try.func17, Try.ntmps17
  go_wp2_with (first | ((with_reducible refine gate_dst (N := 2) rfl ?_); refine box_event ?hg (N := 2) ?hd (cs := #[.int .i64 a0_0, .string a0_1, .string a0_2, .int .i64 a0_3, .slice A0_4 l0_4.length c0_4, .int .i64 a0_5]) (t := 27) ?hr ?_; (case hd => rfl); (case hg => rfl); (case hr => first | (go_simp; done) | (go_simp; rfl)); intro gb175 hg w28 hbox hb; have BK175 := Az.mk (hbox); have GW175 := Az.mk (geO hg (pbE HB.out)); have GE175 := Az.mk (geO hg (pbE HB.out)); replace HB := Az.mk (pbT (by exact pbE HB.out) hb); clear hb hbox hg) | ((with_reducible refine gate_dst (N := 3) rfl ?_); refine box_event ?hg (N := 3) ?hd (cs := #[.int .i64 a1_0, .string a1_1, .string a1_2, .int .i64 a1_3, .slice A1_4 l1_4.length c1_4, .int .i64 a1_5]) (t := 27) ?hr ?_; (case hd => rfl); (case hg => rfl); (case hr => first | (go_simp; done) | (go_simp; rfl)); intro gb176 hg w29 hbox hb; have BK176 := Az.mk (hbox); have GW176 := Az.mk (geO hg (pbE HB.out)); have GE176 := Az.mk (geO hg (pbE HB.out)); replace HB := Az.mk (pbT (by exact pbE HB.out) hb); have NB175_176 := Az.mk (neO hg (bk BK175.out)); have NB176_175 := Az.mk (neP hg (bk BK175.out)); replace BK175 := Az.mk (bkB (bk BK175.out) hb); clear hb hbox hg; have hnb30 := NB175_176.out; have hnc30 := NB176_175.out; have hcz31 := cells6 BK175.out; have hcz32 := cells6 BK176.out))
  go_ret
  exact ⟨by first | rfl | (simp [errW_none, errW_some] <;> rfl) | (simp [*, errW_none, errW_some] <;> rfl), by exact pbE HB.out⟩
end Go.Proofs.Ytppdcldbebnmlaa.P
end
section
namespace Go.Proofs.Ytppdcldbebnmlaa.P
open Go.RowKit Go.Proofs.Ytppdcldbebnmlaa.K Go.Proofs.YtppdcldbebnmlaaW.PrintWords Go.Proofs.YtppdcldbebnmlaaW.PrintLast Go.Proofs.YtppdcldbebnmlaaW.PrintMore
attribute [local go_sem] max2_int min2_int max_two min_two max_three min_three max_four min_four   -- for this text's walks alone
def r02_Has.f (a0_0 : ByteArray) (a0_1 : ByteArray) (a1 : ByteArray) : Option (Bool) := if ((Op.bytesLess a1.toList a0_0.toList) = true) then (some false) else (if a0_1.toList = ([] : List UInt8) then (some true) else (some (Op.bytesLess a1.toList a0_1.toList)))
set_option maxHeartbeats 8000000 in
set_option maxRecDepth 100000 in
theorem r02_Has.calls (a0_0 : ByteArray) (a0_1 : ByteArray) (a1 : ByteArray) (r : Bool) (w : World) (h : r02_Has.f a0_0 a0_1 a1 = some r) :
 Calls Try.prog 18 #[.agg #[.string a0_0, .string a0_1], .string a1] w fun e w' => e = .returned (.bool r) ∧ Below w.heap.size w w' := by
 have hu24 := Try.underlying24
 have HB := Az.mk (Below.refl w.heap.size w)
 have H : (if ((Op.bytesLess a1.toList a0_0.toList) = true) then (some false) else (if a0_1.toList = ([] : List UInt8) then (some true) else (some (Op.bytesLess a1.toList a0_1.toList)))) = some r := h
 clear h
 by_cases c3 : ((Op.bytesLess a1.toList a0_0.toList) = true)
 ·rw [if_pos c3] at H
  have c3b0 : (Op.bytesLess a1.toList a0_0.toList) = true := c3
  clear c3
  obtain rfl := Option.some.inj H
  go_enter Try.func18, Try.ntmps18
  go_wp2_with (first | ((with_reducible refine gate_dst (N := 2) rfl ?_); refine box_event ?hg (N := 2) ?hd (cs := #[.string a0_0, .string a0_1]) (t := 24) ?hr ?_; (case hd => rfl); (case hg => rfl); (case hr => first | (go_simp; done) | (go_simp; rfl)); intro gb131 hg w4 hbox hb; have BK131 := Az.mk (hbox); have GW131 := Az.mk (geO hg (pbE HB.out)); have GE131 := Az.mk (geO hg (pbE HB.out)); replace HB := Az.mk (pbT (by exact pbE HB.out) hb); clear hb hbox hg; have hcz5 := cells2 BK131.out))
  go_ret
  exact ⟨by first | rfl | (simp [errW_none, errW_some] <;> rfl) | (simp [*, errW_none, errW_some] <;> rfl), by exact pbE HB.out⟩
 ·rw [if_neg c3] at H
  have c3b0 : (Op.bytesLess a1.toList a0_0.toList) = false := by simpa using c3
  clear c3
  by_cases c6 : a0_1.toList = ([] : List UInt8)
  ·rw [if_pos c6] at H
   have c6b0 : (a0_1.toList == ([] : List UInt8)) = true := beq_iff_eq.mpr c6
   have c6b1 : (a0_1.toList != ([] : List UInt8)) = false := bne_eq_false_iff_eq.mpr c6
   clear c6
   obtain rfl := Option.some.inj H
   go_enter Try.func18, Try.ntmps18
   go_wp2_with (first | ((with_reducible refine gate_dst (N := 2) rfl ?_); refine box_event ?hg (N := 2) ?hd (cs := #[.string a0_0, .string a0_1]) (t := 24) ?hr ?_; (case hd => rfl); (case hg => rfl); (case hr => first | (go_simp; done) | (go_simp; rfl)); intro gb131 hg w7 hbox hb; have BK131 := Az.mk (hbox); have GW131 := Az.mk (geO hg (pbE HB.out)); have GE131 := Az.mk (geO hg (pbE HB.out)); replace HB := Az.mk (pbT (by exact pbE HB.out) hb); clear hb hbox hg; have hcz8 := cells2 BK131.out))
   go_ret
   exact ⟨by first | rfl | (simp [errW_none, errW_some] <;> rfl) | (simp [*, errW_none, errW_some] <;> rfl), by exact pbE HB.out⟩
  ·rw [if_neg c6] at H
   have c6b0 : (a0_1.toList == ([] : List UInt8)) = false := beq_eq_false_iff_ne.mpr c6
   have c6b1 : (a0_1.toList != ([] : List UInt8)) = true := bne_iff_ne.mpr c6
   obtain rfl := Option.some.inj H
   go_enter Try.func18, Try.ntmps18
   go_wp2_with (first | ((with_reducible refine gate_dst (N := 2) rfl ?_); refine box_event ?hg (N := 2) ?hd (cs := #[.string a0_0, .string a0_1]) (t := 24) ?hr ?_; (case hd => rfl); (case hg => rfl); (case hr => first | (go_simp; done) | (go_simp; rfl)); intro gb131 hg w9 hbox hb; have BK131 := Az.mk (hbox); have GW131 := Az.mk (geO hg (pbE HB.out)); have GE131 := Az.mk (geO hg (pbE HB.out)); replace HB := Az.mk (pbT (by exact pbE HB.out) hb); clear hb hbox hg; have hcz10 := cells2 BK131.out))
   go_ret
   exact ⟨by first | rfl | (simp [errW_none, errW_some] <;> rfl) | (simp [*, errW_none, errW_some] <;> rfl), by exact pbE HB.out⟩
def r02_Is.f (a0_0 : ByteArray) (a0_1 : ByteArray) : Option (Bool) := if (a0_0.size : Int) ≤ 33 then (if (a0_1.size : Int) ≤ 33 then (if a0_1.toList = ([] : List UInt8) then (some true) else (some (Op.bytesLess a0_0.toList a0_1.toList))) else (some false)) else (some false)
set_option maxHeartbeats 8000000 in
set_option maxRecDepth 100000 in
theorem r02_Is.calls (a0_0 : ByteArray) (a0_1 : ByteArray) (r : Bool) (w : World) (h : r02_Is.f a0_0 a0_1 = some r) :
 Calls Try.prog 22 #[.agg #[.string a0_0, .string a0_1]] w fun e w' => e = .returned (.bool r) ∧ Below w.heap.size w w' := by
 have hu24 := Try.underlying24
 have HB := Az.mk (Below.refl w.heap.size w)
 have H : (if (a0_0.size : Int) ≤ 33 then (if (a0_1.size : Int) ≤ 33 then (if a0_1.toList = ([] : List UInt8) then (some true) else (some (Op.bytesLess a0_0.toList a0_1.toList))) else (some false)) else (some false)) = some r := h
 clear h
 by_cases c2 : (a0_0.size : Int) ≤ 33
 ·rw [if_pos c2] at H
  have c2b0 : decide ((a0_0.size : Int) ≤ 33) = true := decide_eq_true c2
  have c2b1 : decide (a0_0.size ≤ 33) = true := decide_eq_true (by omega)
  clear c2
  by_cases c3 : (a0_1.size : Int) ≤ 33
  ·rw [if_pos c3] at H
   have c3b0 : decide ((a0_1.size : Int) ≤ 33) = true := decide_eq_true c3
   have c3b1 : decide (a0_1.size ≤ 33) = true := decide_eq_true (by omega)
   clear c3
   by_cases c4 : a0_1.toList = ([] : List UInt8)
   ·rw [if_pos c4] at H
    have c4b0 : (a0_1.toList == ([] : List UInt8)) = true := beq_iff_eq.mpr c4
    have c4b1 : (a0_1.toList != ([] : List UInt8)) = false := bne_eq_false_iff_eq.mpr c4
    clear c4
    obtain rfl := Option.some.inj H
    go_enter Try.func22, Try.ntmps22
    go_wp2_with (first | ((with_reducible refine gate_dst (N := 1) rfl ?_); (try (refine gate_guard (by rfl) ?_; dsimp only)); refine box_event ?hg (N := 1) ?hd (cs := #[.string a0_0, .string a0_1]) (t := 24) ?hr ?_; (case hd => rfl); (case hg => rfl); (case hr => first | (go_simp; done) | (go_simp; rfl)); intro gb121 hg w5 hbox hb; have BK121 := Az.mk (hbox); have GW121 := Az.mk (geO hg (pbE HB.out)); have GE121 := Az.mk (geO hg (pbE HB.out)); replace HB := Az.mk (pbT (by exact pbE HB.out) hb); clear hb hbox hg; have hcz6 := cells2 BK121.out))
    go_ret
    exact ⟨by first | rfl | (simp [errW_none, errW_some] <;> rfl) | (simp [*, errW_none, errW_some] <;> rfl), by exact pbE HB.out⟩
   ·rw [if_neg c4] at H
    have c4b0 : (a0_1.toList == ([] : List UInt8)) = false := beq_eq_false_iff_ne.mpr c4
    have c4b1 : (a0_1.toList != ([] : List UInt8)) = true := bne_iff_ne.mpr c4
    obtain rfl := Option.some.inj H
    go_enter Try.func22, Try.ntmps22
    go_wp2_with (first | ((with_reducible refine gate_dst (N := 1) rfl ?_); (try (refine gate_guard (by rfl) ?_; dsimp only)); refine box_event ?hg (N := 1) ?hd (cs := #[.string a0_0, .string a0_1]) (t := 24) ?hr ?_; (case hd => rfl); (case hg => rfl); (case hr => first | (go_simp; done) | (go_simp; rfl)); intro gb121 hg w7 hbox hb; have BK121 := Az.mk (hbox); have GW121 := Az.mk (geO hg (pbE HB.out)); have GE121 := Az.mk (geO hg (pbE HB.out)); replace HB := Az.mk (pbT (by exact pbE HB.out) hb); clear hb hbox hg; have hcz8 := cells2 BK121.out))
    go_ret
    exact ⟨by first | rfl | (simp [errW_none, errW_some] <;> rfl) | (simp [*, errW_none, errW_some] <;> rfl), by exact pbE HB.out⟩
  ·rw [if_neg c3] at H
   have c3b0 : decide ((a0_1.size : Int) ≤ 33) = false := decide_eq_false c3
   have c3b1 : decide (a0_1.size ≤ 33) = false := decide_eq_false (by omega)
   clear c3
   obtain rfl := Option.some.inj H
   go_enter Try.func22, Try.ntmps22
   go_wp2_with (first | ((with_reducible refine gate_dst (N := 1) rfl ?_); (try (refine gate_guard (by rfl) ?_; dsimp only)); refine box_event ?hg (N := 1) ?hd (cs := #[.string a0_0, .string a0_1]) (t := 24) ?hr ?_; (case hd => rfl); (case hg => rfl); (case hr => first | (go_simp; done) | (go_simp; rfl)); intro gb121 hg w9 hbox hb; have BK121 := Az.mk (hbox); have GW121 := Az.mk (geO hg (pbE HB.out)); have GE121 := Az.mk (geO hg (pbE HB.out)); replace HB := Az.mk (pbT (by exact pbE HB.out) hb); clear hb hbox hg; have hcz10 := cells2 BK121.out))
   go_ret
   exact ⟨by first | rfl | (simp [errW_none, errW_some] <;> rfl) | (simp [*, errW_none, errW_some] <;> rfl), by exact pbE HB.out⟩
 ·rw [if_neg c2] at H
  have c2b0 : decide ((a0_0.size : Int) ≤ 33) = false := decide_eq_false c2
  have c2b1 : decide (a0_0.size ≤ 33) = false := decide_eq_false (by omega)
  clear c2
  obtain rfl := Option.some.inj H
  go_enter Try.func22, Try.ntmps22
  go_wp2_with (first | ((with_reducible refine gate_dst (N := 1) rfl ?_); (try (refine gate_guard (by rfl) ?_; dsimp only)); refine box_event ?hg (N := 1) ?hd (cs := #[.string a0_0, .string a0_1]) (t := 24) ?hr ?_; (case hd => rfl); (case hg => rfl); (case hr => first | (go_simp; done) | (go_simp; rfl)); intro gb121 hg w11 hbox hb; have BK121 := Az.mk (hbox); have GW121 := Az.mk (geO hg (pbE HB.out)); have GE121 := Az.mk (geO hg (pbE HB.out)); replace HB := Az.mk (pbT (by exact pbE HB.out) hb); clear hb hbox hg; have hcz12 := cells2 BK121.out))
  go_ret
  exact ⟨by first | rfl | (simp [errW_none, errW_some] <;> rfl) | (simp [*, errW_none, errW_some] <;> rfl), by exact pbE HB.out⟩
def r02_Meet.f (a0_0 : ByteArray) (a0_1 : ByteArray) (a1_0 : ByteArray) (a1_1 : ByteArray) : Option (Bool) := (r02_Is.f a0_0 a0_1).bind fun t134 => (if t134 = true then ((r02_Is.f a1_0 a1_1).bind fun t135 => (if t135 = true then ((r02_Has.f a0_0 a0_1 a1_0).bind fun t136 => (if t136 = true then (some true) else ((r02_Has.f a1_0 a1_1 a0_0).bind fun t137 => (some t137)))) else (some false))) else (some false))
set_option maxHeartbeats 8000000 in
set_option maxRecDepth 100000 in
theorem r02_Meet.calls (a0_0 : ByteArray) (a0_1 : ByteArray) (a1_0 : ByteArray) (a1_1 : ByteArray) (r : Bool) (w : World) (h : r02_Meet.f a0_0 a0_1 a1_0 a1_1 = some r) :
 Calls Try.prog 20 #[.agg #[.string a0_0, .string a0_1], .agg #[.string a1_0, .string a1_1]] w fun e w' => e = .returned (.bool r) ∧ Below w.heap.size w w' := by
 have hu24 := Try.underlying24
 have HB := Az.mk (Below.refl w.heap.size w)
 have H : ((r02_Is.f a0_0 a0_1).bind fun t134 => (if t134 = true then ((r02_Is.f a1_0 a1_1).bind fun t135 => (if t135 = true then ((r02_Has.f a0_0 a0_1 a1_0).bind fun t136 => (if t136 = true then (some true) else ((r02_Has.f a1_0 a1_1 a0_0).bind fun t137 => (some t137)))) else (some false))) else (some false))) = some r := h
 clear h
 replace H := Option.bind_eq_some_iff.mp H
 obtain ⟨t134, A30, H⟩ := H
 try dsimp only at H
 have A3 := Az.mk A30
 clear A30
 by_cases c4 : t134 = true
 ·subst c4
  rw [if_pos rfl] at H
  replace H := Option.bind_eq_some_iff.mp H
  obtain ⟨t135, A50, H⟩ := H
  try dsimp only at H
  have A5 := Az.mk A50
  clear A50
  by_cases c6 : t135 = true
  ·subst c6
   rw [if_pos rfl] at H
   replace H := Option.bind_eq_some_iff.mp H
   obtain ⟨t136, A70, H⟩ := H
   try dsimp only at H
   have A7 := Az.mk A70
   clear A70
   by_cases c8 : t136 = true
   ·subst c8
    rw [if_pos rfl] at H
    obtain rfl := Option.some.inj H
    go_enter Try.func20, Try.ntmps20
    go_wp2_with (first | ((with_reducible refine gate_dst (N := 2) rfl ?_); refine box_event ?hg (N := 2) ?hd (cs := #[.string a0_0, .string a0_1]) (t := 24) ?hr ?_; (case hd => rfl); (case hg => rfl); (case hr => first | (go_simp; done) | (go_simp; rfl)); intro gb132 hg w9 hbox hb; have BK132 := Az.mk (hbox); have GW132 := Az.mk (geO hg (pbE HB.out)); have GE132 := Az.mk (geO hg (pbE HB.out)); replace HB := Az.mk (pbT (by exact pbE HB.out) hb); clear hb hbox hg) | ((with_reducible refine gate_dst (N := 3) rfl ?_); refine box_event ?hg (N := 3) ?hd (cs := #[.string a1_0, .string a1_1]) (t := 24) ?hr ?_; (case hd => rfl); (case hg => rfl); (case hr => first | (go_simp; done) | (go_simp; rfl)); intro gb133 hg w10 hbox hb; have BK133 := Az.mk (hbox); have GW133 := Az.mk (geO hg (pbE HB.out)); have GE133 := Az.mk (geO hg (pbE HB.out)); replace HB := Az.mk (pbT (by exact pbE HB.out) hb); have NB132_133 := Az.mk (neO hg (bk BK132.out)); have NB133_132 := Az.mk (neP hg (bk BK132.out)); replace BK132 := Az.mk (bkB (bk BK132.out) hb); clear hb hbox hg; have hnb11 := NB132_133.out; have hnc11 := NB133_132.out; have hcz12 := cells2 BK132.out) | ((with_reducible refine gtc (f := 22) rfl ?_); refine goesL_ (some 6) rfl rfl Try.func22 (by kernel_rfl) rfl #[.agg #[.string a0_0, .string a0_1]] rfl (by (try simp only [List.map_toArray, List.map_cons, List.map_nil]); first | done | rfl | (simp only [List.length_drop, List.length_take]; rfl)) ?_; (with_reducible refine (r02_Is.calls a0_0 a0_1 true _ A3.out).mono ?_); rintro e w13 ⟨rfl, hb⟩; refine ⟨_, rfl, ?_⟩; replace BK132 := Az.mk (bkB (bk BK132.out) hb); replace BK133 := Az.mk (bkB (bk BK133.out) hb); replace HB := Az.mk (pbT (by exact pbE HB.out) hb); (try clear hb); (try clear hb2); (try clear hk); (try clear hi); have hcz14 := cells2 BK133.out) | (go_at_call 22; (with_reducible refine (r02_Is.calls a1_0 a1_1 true _ A5.out).mono ?_); rintro e w15 ⟨rfl, hb⟩; replace BK132 := Az.mk (bkB (bk BK132.out) hb); replace BK133 := Az.mk (bkB (bk BK133.out) hb); replace HB := Az.mk (pbT (by exact pbE HB.out) hb); (try clear hb); (try clear hb2); (try clear hk); (try clear hi); have hcz16 := cells2 BK132.out; have hcz17 := cells2 BK133.out) | (go_at_call 18; (with_reducible refine (r02_Has.calls a0_0 a0_1 a1_0 true _ A7.out).mono ?_); rintro e w18 ⟨rfl, hb⟩; replace BK132 := Az.mk (bkB (bk BK132.out) hb); replace BK133 := Az.mk (bkB (bk BK133.out) hb); replace HB := Az.mk (pbT (by exact pbE HB.out) hb); (try clear hb); (try clear hb2); (try clear hk); (try clear hi)))
    go_ret
    exact ⟨by first | rfl | (simp [errW_none, errW_some] <;> rfl) | (simp [*, errW_none, errW_some] <;> rfl), by exact pbE HB.out⟩
   ·replace c8 := Bool.eq_false_iff.mpr c8
    subst c8
    rw [if_neg (show ¬ (false = true) by decide)] at H
    replace H := Option.bind_eq_some_iff.mp H
    obtain ⟨t137, A190, H⟩ := H
    replace H : (some t137) = some r := H
    have A19 := Az.mk A190
    clear A190
    obtain rfl := Option.some.inj H
    go_enter Try.func20, Try.ntmps20
    go_wp2_with (first | ((with_reducible refine gate_dst (N := 2) rfl ?_); refine box_event ?hg (N := 2) ?hd (cs := #[.string a0_0, .string a0_1]) (t := 24) ?hr ?_; (case hd => rfl); (case hg => rfl); (case hr => first | (go_simp; done) | (go_simp; rfl)); intro gb132 hg w20 hbox hb; have BK132 := Az.mk (hbox); have GW132 := Az.mk (geO hg (pbE HB.out)); have GE132 := Az.mk (geO hg (pbE HB.out)); replace HB := Az.mk (pbT (by exact pbE HB.out) hb); clear hb hbox hg) | ((with_reducible refine gate_dst (N := 3) rfl ?_); refine box_event ?hg (N := 3) ?hd (cs := #[.string a1_0, .string a1_1]) (t := 24) ?hr ?_; (case hd => rfl); (case hg => rfl); (case hr => first | (go_simp; done) | (go_simp; rfl)); intro gb133 hg w21 hbox hb; have BK133 := Az.mk (hbox); have GW133 := Az.mk (geO hg (pbE HB.out)); have GE133 := Az.mk (geO hg (pbE HB.out)); replace HB := Az.mk (pbT (by exact pbE HB.out) hb); have NB132_133 := Az.mk (neO hg (bk BK132.out)); have NB133_132 := Az.mk (neP hg (bk BK132.out)); replace BK132 := Az.mk (bkB (bk BK132.out) hb); clear hb hbox hg; have hnb22 := NB132_133.out; have hnc22 := NB133_132.out; have hcz23 := cells2 BK132.out) | ((with_reducible refine gtc (f := 22) rfl ?_); refine goesL_ (some 6) rfl rfl Try.func22 (by kernel_rfl) rfl #[.agg #[.string a0_0, .string a0_1]] rfl (by (try simp only [List.map_toArray, List.map_cons, List.map_nil]); first | done | rfl | (simp only [List.length_drop, List.length_take]; rfl)) ?_; (with_reducible refine (r02_Is.calls a0_0 a0_1 true _ A3.out).mono ?_); rintro e w24 ⟨rfl, hb⟩; refine ⟨_, rfl, ?_⟩; replace BK132 := Az.mk (bkB (bk BK132.out) hb); replace BK133 := Az.mk (bkB (bk BK133.out) hb); replace HB := Az.mk (pbT (by exact pbE HB.out) hb); (try clear hb); (try clear hb2); (try clear hk); (try clear hi); have hcz25 := cells2 BK133.out) | (go_at_call 22; (with_reducible refine (r02_Is.calls a1_0 a1_1 true _ A5.out).mono ?_); rintro e w26 ⟨rfl, hb⟩; replace BK132 := Az.mk (bkB (bk BK132.out) hb); replace BK133 := Az.mk (bkB (bk BK133.out) hb); replace HB := Az.mk (pbT (by exact pbE HB.out) hb); (try clear hb); (try clear hb2); (try clear hk); (try clear hi); have hcz27 := cells2 BK132.out; have hcz28 := cells2 BK133.out) | (go_at_call 18; (with_reducible refine (r02_Has.calls a0_0 a0_1 a1_0 false _ A7.out).mono ?_); rintro e w29 ⟨rfl, hb⟩; replace BK132 := Az.mk (bkB (bk BK132.out) hb); replace BK133 := Az.mk (bkB (bk BK133.out) hb); replace HB := Az.mk (pbT (by exact pbE HB.out) hb); (try clear hb); (try clear hb2); (try clear hk); (try clear hi); have hcz30 := cells2 BK133.out; have hcz31 := cells2 BK132.out) | (go_at_call 18; (with_reducible refine (r02_Has.calls a1_0 a1_1 a0_0 t137 _ A19.out).mono ?_); rintro e w32 ⟨rfl, hb⟩; replace BK132 := Az.mk (bkB (bk BK132.out) hb); replace BK133 := Az.mk (bkB (bk BK133.out) hb); replace HB := Az.mk (pbT (by exact pbE HB.out) hb); (try clear hb); (try clear hb2); (try clear hk); (try clear hi)))
    go_ret
    exact ⟨by first | rfl | (simp [errW_none, errW_some] <;> rfl) | (simp [*, errW_none, errW_some] <;> rfl), by exact pbE HB.out⟩
  ·replace c6 := Bool.eq_false_iff.mpr c6
   subst c6
   rw [if_neg (show ¬ (false = true) by decide)] at H
   obtain rfl := Option.some.inj H
   go_enter Try.func20, Try.ntmps20
   go_wp2_with (first | ((with_reducible refine gate_dst (N := 2) rfl ?_); refine box_event ?hg (N := 2) ?hd (cs := #[.string a0_0, .string a0_1]) (t := 24) ?hr ?_; (case hd => rfl); (case hg => rfl); (case hr => first | (go_simp; done) | (go_simp; rfl)); intro gb132 hg w33 hbox hb; have BK132 := Az.mk (hbox); have GW132 := Az.mk (geO hg (pbE HB.out)); have GE132 := Az.mk (geO hg (pbE HB.out)); replace HB := Az.mk (pbT (by exact pbE HB.out) hb); clear hb hbox hg) | ((with_reducible refine gate_dst (N := 3) rfl ?_); refine box_event ?hg (N := 3) ?hd (cs := #[.string a1_0, .string a1_1]) (t := 24) ?hr ?_; (case hd => rfl); (case hg => rfl); (case hr => first | (go_simp; done) | (go_simp; rfl)); intro gb133 hg w34 hbox hb; have BK133 := Az.mk (hbox); have GW133 := Az.mk (geO hg (pbE HB.out)); have GE133 := Az.mk (geO hg (pbE HB.out)); replace HB := Az.mk (pbT (by exact pbE HB.out) hb); have NB132_133 := Az.mk (neO hg (bk BK132.out)); have NB133_132 := Az.mk (neP hg (bk BK132.out)); replace BK132 := Az.mk (bkB (bk BK132.out) hb); clear hb hbox hg; have hnb35 := NB132_133.out; have hnc35 := NB133_132.out; have hcz36 := cells2 BK132.out) | ((with_reducible refine gtc (f := 22) rfl ?_); refine goesL_ (some 6) rfl rfl Try.func22 (by kernel_rfl) rfl #[.agg #[.string a0_0, .string a0_1]] rfl (by (try simp only [List.map_toArray, List.map_cons, List.map_nil]); first | done | rfl | (simp only [List.length_drop, List.length_take]; rfl)) ?_; (with_reducible refine (r02_Is.calls a0_0 a0_1 true _ A3.out).mono ?_); rintro e w37 ⟨rfl, hb⟩; refine ⟨_, rfl, ?_⟩; replace BK132 := Az.mk (bkB (bk BK132.out) hb); replace BK133 := Az.mk (bkB (bk BK133.out) hb); replace HB := Az.mk (pbT (by exact pbE HB.out) hb); (try clear hb); (try clear hb2); (try clear hk); (try clear hi); have hcz38 := cells2 BK133.out) | (go_at_call 22; (with_reducible refine (r02_Is.calls a1_0 a1_1 false _ A5.out).mono ?_); rintro e w39 ⟨rfl, hb⟩; replace BK132 := Az.mk (bkB (bk BK132.out) hb); replace BK133 := Az.mk (bkB (bk BK133.out) hb); replace HB := Az.mk (pbT (by exact pbE HB.out) hb); (try clear hb); (try clear hb2); (try clear hk); (try clear hi)))
   go_ret
   exact ⟨by first | rfl | (simp [errW_none, errW_some] <;> rfl) | (simp [*, errW_none, errW_some] <;> rfl), by exact pbE HB.out⟩
 ·replace c4 := Bool.eq_false_iff.mpr c4
  subst c4
  rw [if_neg (show ¬ (false = true) by decide)] at H
  obtain rfl := Option.some.inj H
  go_enter Try.func20, Try.ntmps20
  go_wp2_with (first | ((with_reducible refine gate_dst (N := 2) rfl ?_); refine box_event ?hg (N := 2) ?hd (cs := #[.string a0_0, .string a0_1]) (t := 24) ?hr ?_; (case hd => rfl); (case hg => rfl); (case hr => first | (go_simp; done) | (go_simp; rfl)); intro gb132 hg w40 hbox hb; have BK132 := Az.mk (hbox); have GW132 := Az.mk (geO hg (pbE HB.out)); have GE132 := Az.mk (geO hg (pbE HB.out)); replace HB := Az.mk (pbT (by exact pbE HB.out) hb); clear hb hbox hg) | ((with_reducible refine gate_dst (N := 3) rfl ?_); refine box_event ?hg (N := 3) ?hd (cs := #[.string a1_0, .string a1_1]) (t := 24) ?hr ?_; (case hd => rfl); (case hg => rfl); (case hr => first | (go_simp; done) | (go_simp; rfl)); intro gb133 hg w41 hbox hb; have BK133 := Az.mk (hbox); have GW133 := Az.mk (geO hg (pbE HB.out)); have GE133 := Az.mk (geO hg (pbE HB.out)); replace HB := Az.mk (pbT (by exact pbE HB.out) hb); have NB132_133 := Az.mk (neO hg (bk BK132.out)); have NB133_132 := Az.mk (neP hg (bk BK132.out)); replace BK132 := Az.mk (bkB (bk BK132.out) hb); clear hb hbox hg; have hnb42 := NB132_133.out; have hnc42 := NB133_132.out; have hcz43 := cells2 BK132.out) | ((with_reducible refine gtc (f := 22) rfl ?_); refine goesL_ (some 6) rfl rfl Try.func22 (by kernel_rfl) rfl #[.agg #[.string a0_0, .string a0_1]] rfl (by (try simp only [List.map_toArray, List.map_cons, List.map_nil]); first | done | rfl | (simp only [List.length_drop, List.length_take]; rfl)) ?_; (with_reducible refine (r02_Is.calls a0_0 a0_1 false _ A3.out).mono ?_); rintro e w44 ⟨rfl, hb⟩; refine ⟨_, rfl, ?_⟩; replace BK132 := Az.mk (bkB (bk BK132.out) hb); replace BK133 := Az.mk (bkB (bk BK133.out) hb); replace HB := Az.mk (pbT (by exact pbE HB.out) hb); (try clear hb); (try clear hb2); (try clear hk); (try clear hi)))
  go_ret
  exact ⟨by first | rfl | (simp [errW_none, errW_some] <;> rfl) | (simp [*, errW_none, errW_some] <;> rfl), by exact pbE HB.out⟩
end Go.Proofs.Ytppdcldbebnmlaa.P
end
section
namespace Go.Proofs.Ytppdcldbebnmlaa.P
open Go.RowKit Go.Shelf Go.Proofs.Ytppdcldbebnmlaa.K Go.Proofs.YtppdcldbebnmlaaW.PrintWords Go.Proofs.YtppdcldbebnmlaaW.PrintLast Go.Proofs.YtppdcldbebnmlaaW.PrintMore
abbrev SD := S27
abbrev SM := S47
instance : DecidableEq SM := fun x y => decidable_of_iff (x.f0 = y.f0 ∧ x.f1 = y.f1) (by cases x; cases y; simp)
/-- What a raw descriptor says, its members read by σ. -/
def toS (σ : RawD → List SM) (x : RawD) : SD := ⟨x.f0, ⟨x.f1, x.f2⟩, x.f3, σ x, x.f5⟩
/-- Its members read so. -/
def Mem (σ : RawD → List SM) (w : World) (x : RawD) : Prop := Kd.C k47 w x.a4 x.n4 (σ x) ∧ x.n4 ≤ x.c4
theorem Mem.below {σ : RawD → List SM} {w w1 : World} {x : RawD} (h : Mem σ w x) (hb : Below w.heap.size w w1) : Mem σ w1 x := ⟨Kd.C_below h.1 hb, h.2⟩
theorem flatM : Flat k47 := by
 intro w w' x c h
 obtain rfl := k47_open h
 exact k47_mk w' x
theorem flatKD : Flat kD := fun _ _ _ _ h => h
theorem toC {σ : RawD → List SM} {w : World} {A : Option Addr} {l : List RawD} (h : Kd.C kD w A l.length l) (hm : ∀ x ∈ l, Mem σ w x) : Kd.C k27 w A (l.map (toS σ)).length (l.map (toS σ)) := by
 obtain ⟨h1, h2, h3⟩ := h
 refine ⟨rfl, by rw [List.length_map]; exact h2, fun hn => ?_⟩
 rw [List.length_map] at hn
 obtain ⟨ad, e, hc⟩ := h3 hn
 refine ⟨ad, e, fun j p hp => ?_⟩
 rw [List.getElem?_map] at hp
 obtain ⟨x, hx, rfl⟩ := Option.map_eq_some_iff.1 hp
 obtain ⟨c, hl, hK, hcell⟩ := hc j x hx
 have hK : c = encD x := hK
 obtain ⟨hm1, hm2⟩ := hm x (List.mem_of_getElem? hx)
 have hn4 : (σ x).length = x.n4 := Kd.C_len hm1
 refine ⟨c, hl, ?_, hcell⟩
 rw [hK]
 have := k27_mk w (toS σ x) (A4 := x.a4) (c4 := x.c4) (by show (σ x).length ≤ _; omega) (by show Kd.C _ _ _ (σ x).length (σ x); rw [hn4]; exact hm1)
 unfold encD
 rw [← hn4]
 exact this
theorem toV {σ : RawD → List SM} {w : World} {A : Option Addr} {l : List RawD} {c e base : Nat} (h : Kd.C kD w A l.length l) (hc : l.length ≤ c) (hm : ∀ x ∈ l, Mem σ w x) : Kd.V k27 e w base (fun _ => True) (.slice A (l.map (toS σ)).length c) (l.map (toS σ)) := by
 refine ⟨A, c, rfl, by rw [List.length_map]; exact hc, fun W' hW => ?_⟩
 exact toC (F_of_C flatKD h W' hW) (fun x hx => ⟨F_of_C flatM (hm x hx).1 W' hW, (hm x hx).2⟩)
/-- Whatever is read as descriptors lies raw. -/
theorem fromC {w : World} {A : Option Addr} {l : List SD} (h : Kd.C k27 w A l.length l) : ∃ rs : List RawD, rs.length = l.length ∧ Kd.C kD w A rs.length rs ∧ ∀ x ∈ rs, ∃ ms, Kd.C k47 w x.a4 x.n4 ms ∧ x.n4 ≤ x.c4 := by
 obtain ⟨h1, h2, h3⟩ := h
 rcases l with _ | ⟨y, l'⟩
 ·exact ⟨[], rfl, ⟨rfl, by simp, fun h => absurd h (Nat.lt_irrefl 0)⟩, fun x hx => by simp at hx⟩
 ·obtain ⟨ad, e, hc⟩ := h3 (by simp)
  have hx : ∀ j : Fin (y :: l').length, ∃ x : RawD, (∀ i u, (encD x)[i]? = some u → w.cell? (ad.add (j.1 * 6 + i)) = some u) ∧ ∃ ms, Kd.C k47 w x.a4 x.n4 ms ∧ x.n4 ≤ x.c4 := by
   intro j
   obtain ⟨c, hl, hK, hcell⟩ := hc j.1 _ (List.getElem?_eq_getElem j.2)
   obtain ⟨A4, c4, rfl, l4, g4⟩ := k27_open hK
   exact ⟨⟨_, _, _, _, A4, _, c4, _⟩, hcell, _, g4, l4⟩
  refine ⟨List.ofFn (fun j => Classical.choose (hx j)), by rw [List.length_ofFn], ⟨rfl, by rw [List.length_ofFn]; exact h2, fun _ => ⟨ad, e, fun j p hp => ?_⟩⟩, fun x hx2 => ?_⟩
  ·rw [List.getElem?_ofFn] at hp
   split at hp
   ·rename_i hj
    obtain rfl := Option.some.inj hp
    exact ⟨_, rfl, rfl, (Classical.choose_spec (hx ⟨j, hj⟩)).1⟩
   ·cases hp
  ·obtain ⟨j, rfl⟩ := List.mem_ofFn.1 hx2
   exact (Classical.choose_spec (hx j)).2
open Classical in
/-- The members that a raw descriptor has in a world. -/
noncomputable def memOf (w : World) (x : RawD) : List SM := if h : ∃ ms, Kd.C k47 w x.a4 x.n4 ms then Classical.choose h else []
theorem mem_of {w : World} {x : RawD} (h : ∃ ms, Kd.C k47 w x.a4 x.n4 ms ∧ x.n4 ≤ x.c4) : Mem (memOf w) w x := by
 obtain ⟨ms, h1, h2⟩ := h
 have hex : ∃ ms, Kd.C k47 w x.a4 x.n4 ms := ⟨ms, h1⟩
 refine ⟨?_, h2⟩
 unfold memOf
 rw [dif_pos hex]
 exact Classical.choose_spec hex
abbrev lt (a b : ByteArray) : Bool := Op.bytesLess a.toList b.toList
def endsB (t k : ByteArray) : Bool := t.toList == ([] : List UInt8) || lt k t
def hasB (f t k : ByteArray) : Bool := !lt k f && endsB t k
def meetB (a b c d : ByteArray) : Bool := boundOk a b && (boundOk c d && (endsB b c && endsB d a))
theorem ends_eq (f t k : ByteArray) : bound_ends.f f t k = some (endsB t k) := by
 unfold bound_ends.f endsB
 by_cases h : t.toList = []
 ·rw [if_pos h, h]; rfl
 ·rw [if_neg h, show (t.toList == ([] : List UInt8)) = false from beq_eq_false_iff_ne.mpr h, Bool.false_or]
theorem has_eq (f t k : ByteArray) : bound_Has.f f t k = some (hasB f t k) := by
 unfold bound_Has.f hasB
 rw [ends_eq]
 cases h : Op.bytesLess k.toList f.toList <;> simp [lt, h]
theorem meet_eq (a b c d : ByteArray) : bound_Meet.f a b c d = some (meetB a b c d) := by
 unfold bound_Meet.f bound_both.f bound_Check.f meetB
 simp only [Option.bind_some, ends_eq]
 cases boundOk a b <;> cases boundOk c d <;> cases endsB b c <;> cases endsB d a <;> rfl
theorem refIs_eq (f t : ByteArray) : r02_Is.f f t = some (boundOk f t) := by
 unfold r02_Is.f boundOk
 by_cases h1 : f.size ≤ 33
 ·by_cases h2 : t.size ≤ 33
  ·rw [if_pos (by omega), if_pos (by omega), if_pos (And.intro h1 h2)]
   by_cases h : t.toList = []
   ·rw [if_pos h, h]; rfl
   ·rw [if_neg h, show (t.toList == ([] : List UInt8)) = false from beq_eq_false_iff_ne.mpr h, Bool.false_or]
  ·rw [if_pos (by omega), if_neg (by omega), if_neg (fun h => h2 h.2)]
 ·rw [if_neg (by omega), if_neg (fun h => h1 h.1)]
theorem refHas_eq (f t k : ByteArray) : r02_Has.f f t k = some (hasB f t k) := by
 unfold r02_Has.f hasB endsB
 cases h : Op.bytesLess k.toList f.toList
 ·rw [if_neg (by simp)]
  by_cases h2 : t.toList = []
  ·rw [if_pos h2, h2]; simp [lt, h]
  ·rw [if_neg h2, show (t.toList == ([] : List UInt8)) = false from beq_eq_false_iff_ne.mpr h2]; simp [lt, h]
 ·rw [if_pos rfl]; simp [lt, h]
def meetR (a b c d : ByteArray) : Bool := boundOk a b && (boundOk c d && (hasB a b c || hasB c d a))
theorem refMeet_eq (a b c d : ByteArray) : r02_Meet.f a b c d = some (meetR a b c d) := by
 unfold r02_Meet.f meetR
 simp only [Option.bind_some, refHas_eq, refIs_eq]
 cases boundOk a b <;> cases boundOk c d <;> cases hasB a b c <;> cases hasB c d a <;> rfl
def sameM (a b : List SM) : Bool := a.map (fun m => (m.f0, m.f1)) == b.map (fun m => (m.f0, m.f1))
theorem sameM_iff {a b : List SM} : sameM a b = true ↔ a = b := by
 unfold sameM
 rw [beq_iff_eq]
 constructor
 ·intro h
  have := List.map_inj_right (f := fun m : SM => (m.f0, m.f1)) (l := a) (l' := b) (fun x y e => by cases x; cases y; simp only [Prod.mk.injEq] at e; obtain ⟨rfl, rfl⟩ := e; rfl)
  exact this.1 h
 ·rintro rfl; rfl
theorem rd_M {l : List SM} {i : Nat} (h : i < l.length) : rd_T47 l (i : Int) = l[i] := by simp [rd_T47, h]
theorem rd_D {l : List SD} {i : Nat} (h : i < l.length) : rd_T27 l (i : Int) = l[i] := by simp [rd_T27, h]
theorem eq_of_get {a b : List SM} (hl : a.length = b.length) {i : Nat} (hi : i ≤ a.length) (h : ∀ j, i ≤ j → (hj : j < a.length) → a[j] = b[j]'(by omega)) : a.drop i = b.drop i := by
 apply List.ext_getElem
 ·simp [hl]
 ·intro n h1 h2
  rw [List.getElem_drop, List.getElem_drop]
  exact h _ (by omega) (by rw [List.length_drop] at h1; omega)
theorem sm_ne {x y : SM} : (!(x.f0 == y.f0) || !(x.f1 == y.f1)) = true ↔ x ≠ y := by
 cases x; cases y
 simp only [Bool.or_eq_true, Bool.not_eq_true', beq_eq_false_iff_ne, ne_eq, S47.mk.injEq]
 omega
theorem apiM_any (a b : List SM) (hl : a.length = b.length) (hm : a.length ≤ 1000000000) (d : Nat) : ∀ i k, a.length - i = d → i ≤ a.length → d < k → api_Member.l0 k a b (a.length : Int) (i : Int) = some (decide (a.drop i = b.drop i)) := by
 induction d with
 | zero =>
  intro i k h1 h2 h3
  obtain ⟨k, rfl⟩ : ∃ m, k = m + 1 := ⟨k - 1, by omega⟩
  rw [api_Member.l0, if_neg (by omega), List.drop_of_length_le (by omega), List.drop_of_length_le (by omega)]; rfl
 | succ d ih =>
  intro i k h1 h2 h3
  obtain ⟨k, rfl⟩ : ∃ m, k = m + 1 := ⟨k - 1, by omega⟩
  have hw : wrap64 ((i : Int) + 1) = ((i + 1 : Nat) : Int) := by unfold wrap64; omega
  have ea : a.drop i = a[i]'(by omega) :: a.drop (i + 1) := List.drop_eq_getElem_cons (by omega)
  have eb : b.drop i = b[i]'(by omega) :: b.drop (i + 1) := List.drop_eq_getElem_cons (by omega)
  rw [api_Member.l0, if_pos (by omega), if_pos (by omega), if_pos (by omega), if_pos (by omega), rd_M (by omega : i < a.length), rd_M (by omega : i < b.length)]
  by_cases he : a[i]'(by omega) = b[i]'(by omega)
  ·rw [if_neg (fun h => sm_ne.1 h he), hw, ih (i + 1) k (by omega) (by omega) (by omega), ea, eb, he]
   exact congrArg some (decide_eq_decide.2 ⟨fun h => by rw [h], fun h => (List.cons.inj h).2⟩)
  ·rw [if_pos (sm_ne.2 he), decide_eq_false]
   rw [ea, eb]; exact fun h => he (List.cons.inj h).1
theorem refM_any (a b : List SM) (hl : a.length = b.length) (hm : a.length ≤ 1000000000) (d : Nat) : ∀ i k, a.length - i = d → i ≤ a.length → d < k → r06_Members.l0 k a b (i : Int) = some (decide (a.drop i = b.drop i)) := by
 induction d with
 | zero =>
  intro i k h1 h2 h3
  obtain ⟨k, rfl⟩ : ∃ m, k = m + 1 := ⟨k - 1, by omega⟩
  rw [r06_Members.l0, if_neg (by omega), List.drop_of_length_le (by omega), List.drop_of_length_le (by omega)]; rfl
 | succ d ih =>
  intro i k h1 h2 h3
  obtain ⟨k, rfl⟩ : ∃ m, k = m + 1 := ⟨k - 1, by omega⟩
  have hw : wrap64 ((i : Int) + 1) = ((i + 1 : Nat) : Int) := by unfold wrap64; omega
  have ea : a.drop i = a[i]'(by omega) :: a.drop (i + 1) := List.drop_eq_getElem_cons (by omega)
  have eb : b.drop i = b[i]'(by omega) :: b.drop (i + 1) := List.drop_eq_getElem_cons (by omega)
  rw [r06_Members.l0, if_pos (by omega), if_pos (by omega), if_pos (by omega), rd_M (by omega : i < a.length), rd_M (by omega : i < b.length)]
  by_cases he : a[i]'(by omega) = b[i]'(by omega)
  ·rw [if_neg (fun h => sm_ne.1 h he), hw, ih (i + 1) k (by omega) (by omega) (by omega), ea, eb, he]
   exact congrArg some (decide_eq_decide.2 ⟨fun h => by rw [h], fun h => (List.cons.inj h).2⟩)
  ·rw [if_pos (sm_ne.2 he), decide_eq_false]
   rw [ea, eb]; exact fun h => he (List.cons.inj h).1
theorem sameM_dec (a b : List SM) : sameM a b = decide (a = b) := by
 rw [Bool.eq_iff_iff, sameM_iff, decide_eq_true_iff]
theorem apiM_eq {a b : List SM} (hm : a.length ≤ 1000000000) {k : Nat} (hk : a.length < k) : api_Member.f k a b = some (sameM a b) := by
 unfold api_Member.f
 rw [sameM_dec]
 by_cases hl : a.length = b.length
 ·rw [if_pos (by omega)]
  exact apiM_any a b hl hm a.length 0 k rfl (Nat.zero_le _) hk
 ·rw [if_neg (by omega), decide_eq_false (fun h => hl (by rw [h]))]
theorem refM_eq {a b : List SM} (hm : a.length ≤ 1000000000) {k : Nat} (hk : a.length < k) : r06_Members.f k a b = some (sameM a b) := by
 unfold r06_Members.f
 rw [sameM_dec]
 by_cases hl : a.length = b.length
 ·rw [if_pos (by omega)]
  exact refM_any a b hl hm a.length 0 k rfl (Nat.zero_le _) hk
 ·rw [if_neg (by omega), decide_eq_false (fun h => hl (by rw [h]))]
def sameS (x y : SD) : Bool := x.f0 == y.f0 && ((x.f1.f0.toList == y.f1.f0.toList && x.f1.f1.toList == y.f1.f1.toList) && (x.f2 == y.f2 && (x.f4 == y.f4 && sameM x.f3 y.f3)))
theorem same_eq {x y : SD} (hm : x.f3.length ≤ 1000000000) {k : Nat} (hk : x.f3.length < k) : desc_Same.f k x.f0 x.f1.f0 x.f1.f1 x.f2 x.f3 x.f4 y.f0 y.f1.f0 y.f1.f1 y.f2 y.f3 y.f4 = some (sameS x y) := by
 unfold desc_Same.f sameS
 rw [apiM_eq hm hk]
 by_cases h1 : x.f0 = y.f0
 ·rw [if_pos h1, beq_iff_eq.2 h1, Bool.true_and]
  cases h2 : (x.f1.f0.toList == y.f1.f0.toList && x.f1.f1.toList == y.f1.f1.toList)
  ·rw [if_neg (by simp)]; rfl
  ·rw [if_pos rfl, Bool.true_and]
   by_cases h3 : x.f2 = y.f2
   ·rw [if_pos h3, beq_iff_eq.2 h3, Bool.true_and]
    by_cases h4 : x.f4 = y.f4
    ·rw [if_pos h4, beq_iff_eq.2 h4, Bool.true_and]; rfl
    ·rw [if_neg h4, beq_eq_false_iff_ne.2 h4]; rfl
   ·rw [if_neg h3, beq_eq_false_iff_ne.2 h3]; rfl
 ·rw [if_neg h1, beq_eq_false_iff_ne.2 h1]; rfl
theorem refSame_eq {x y : SD} (hm : x.f3.length ≤ 1000000000) {k : Nat} (hk : x.f3.length < k) : r06_Same.f k x.f0 x.f1.f0 x.f1.f1 x.f2 x.f3 x.f4 y.f0 y.f1.f0 y.f1.f1 y.f2 y.f3 y.f4 = some (sameS x y) := by
 unfold r06_Same.f sameS
 rw [refM_eq hm hk]
 by_cases h1 : x.f0 = y.f0
 ·rw [if_pos h1, beq_iff_eq.2 h1, Bool.true_and]
  cases h2 : (x.f1.f0.toList == y.f1.f0.toList && x.f1.f1.toList == y.f1.f1.toList)
  ·rw [if_neg (by simp)]; rfl
  ·rw [if_pos rfl, Bool.true_and]
   by_cases h3 : x.f2 = y.f2
   ·rw [if_pos h3, beq_iff_eq.2 h3, Bool.true_and]
    by_cases h4 : x.f4 = y.f4
    ·rw [if_pos h4, beq_iff_eq.2 h4, Bool.true_and]; rfl
    ·rw [if_neg h4, beq_eq_false_iff_ne.2 h4]; rfl
   ·rw [if_neg h3, beq_eq_false_iff_ne.2 h3]; rfl
 ·rw [if_neg h1, beq_eq_false_iff_ne.2 h1]; rfl
theorem toList_inj {a b : ByteArray} (h : a.toList = b.toList) : a = b := by
 rw [ByteArray.toList_eq, ByteArray.toList_eq] at h
 exact ByteArray.ext (Array.toList_inj.1 h)
theorem sameS_iff {x y : SD} : sameS x y = true ↔ x = y := by
 obtain ⟨a, ⟨b, c⟩, d, e, f⟩ := x
 obtain ⟨a', ⟨b', c'⟩, d', e', f'⟩ := y
 unfold sameS
 simp only [Bool.and_eq_true, beq_iff_eq, sameM_iff, S27.mk.injEq, S24.mk.injEq]
 constructor
 ·rintro ⟨h1, ⟨h2, h3⟩, h4, h5, h6⟩
  exact ⟨h1, ⟨toList_inj h2, toList_inj h3⟩, h4, h6, h5⟩
 ·rintro ⟨rfl, ⟨rfl, rfl⟩, rfl, rfl, rfl⟩
  exact ⟨rfl, ⟨rfl, rfl⟩, rfl, rfl, rfl⟩
end Go.Proofs.Ytppdcldbebnmlaa.P
end
section
namespace Go.Proofs.Ytppdcldbebnmlaa.P
open Go.RowKit Go.Shelf Go.Proofs.Ytppdcldbebnmlaa.K Go.Proofs.YtppdcldbebnmlaaW.PrintWords Go.Proofs.YtppdcldbebnmlaaW.PrintLast Go.Proofs.YtppdcldbebnmlaaW.PrintMore
theorem put_D {w1 : World} {B : Nat} {t : TypeId} {u0 u1 u2 u3 u4 u5 : Value} (x : RawD) (BL : w1.heap[B]? = some (.cells #[u0, u1, u2, u3, u4, u5] t (0, 0))) :
 ((((((w1.setCell ⟨B, 0, none⟩ (.int .i64 x.f0)).setCell ⟨B, 1, none⟩ (.string x.f1)).setCell ⟨B, 2, none⟩ (.string x.f2)).setCell ⟨B, 3, none⟩ (.int .i64 x.f3)).setCell ⟨B, 4, none⟩ (.slice x.a4 x.n4 x.c4)).setCell ⟨B, 5, none⟩ (.int .i64 x.f5)).heap[B]? = some (.cells (encD x).toArray t (0, 0)) := by
 unfold encD
 refine blk_put (cs := #[.int .i64 x.f0, .string x.f1, .string x.f2, .int .i64 x.f3, .slice x.a4 x.n4 x.c4, u5]) ?_ 5 _ rfl
 refine blk_put (cs := #[.int .i64 x.f0, .string x.f1, .string x.f2, .int .i64 x.f3, u4, u5]) ?_ 4 _ rfl
 refine blk_put (cs := #[.int .i64 x.f0, .string x.f1, .string x.f2, u3, u4, u5]) ?_ 3 _ rfl
 refine blk_put (cs := #[.int .i64 x.f0, .string x.f1, u2, u3, u4, u5]) ?_ 2 _ rfl
 refine blk_put (cs := #[.int .i64 x.f0, u1, u2, u3, u4, u5]) ?_ 1 _ rfl
 exact blk_put BL 0 _ rfl
theorem two_old {w w2 : World} {c1 c2 : Array Value} {t t2 : TypeId} (hb : Below ((w.alloc (.cells c1 t)).alloc (.cells c2 t2)).heap.size ((w.alloc (.cells c1 t)).alloc (.cells c2 t2)) w2) : w2.heap[w.heap.size]? = some (.cells c1 t (0, 0)) := by
 have h1 : (w.alloc (.cells c1 t)).heap.size = w.heap.size + 1 := by simp
 have h2 : ((w.alloc (.cells c1 t)).alloc (.cells c2 t2)).heap.size = w.heap.size + 2 := by simp
 rw [hb.block w.heap.size (by omega), heap_alloc_old _ _ (by omega)]
 exact heap_alloc_new w _
theorem two_new {w w2 : World} {c1 c2 : Array Value} {t t2 : TypeId} (hb : Below ((w.alloc (.cells c1 t)).alloc (.cells c2 t2)).heap.size ((w.alloc (.cells c1 t)).alloc (.cells c2 t2)) w2) : w2.heap[w.heap.size + 1]? = some (.cells c2 t2 (0, 0)) := by
 have h1 : (w.alloc (.cells c1 t)).heap.size = w.heap.size + 1 := by simp
 have h2 : ((w.alloc (.cells c1 t)).alloc (.cells c2 t2)).heap.size = w.heap.size + 2 := by simp
 rw [hb.block (w.heap.size + 1) (by omega), ← h1]
 exact heap_alloc_new _ _
set_option maxHeartbeats 1000000 in
theorem pred_find (B : Nat) (key : ByteArray) (l : List RawD) (w : World) (hB : B < w.heap.size) (hc : w.cell? ⟨B, 0, none⟩ = some (.string key)) : PredD 26 #[.pointer (some ⟨B, 0, none⟩)] l (fun x => hasB x.f1 x.f2 key) w := by
 intro W x _ hb
 have hc : W.cell? ⟨B, 0, none⟩ = some (.string key) := (hb.cell (p := ⟨B, 0, none⟩) hB).trans hc
 have hBW : B < W.heap.size := Nat.lt_of_lt_of_le hB hb.size
 have hH : ∀ W', Hid (Calls Try.prog 27 #[.agg #[.string x.f1, .string x.f2], .string key] W' fun e w' => e = .returned (.bool (hasB x.f1 x.f2 key)) ∧ Below W'.heap.size W' w') := fun W' => Lib.hid (bound_Has.calls _ _ _ _ W' (has_eq _ _ _))
 have hu := Try.underlying27
 have hu2 := Try.underlying24
 show Calls Try.prog 26 #[.agg #[.int .i64 x.f0, .string x.f1, .string x.f2, .int .i64 x.f3, .slice x.a4 x.n4 x.c4, .int .i64 x.f5], .pointer (some ⟨B, 0, none⟩)] W fun e w' => e = .returned (.bool (hasB x.f1 x.f2 key)) ∧ Below W.heap.size W w'
 generalize hasB x.f1 x.f2 key = r at hH ⊢
 clear hb
 go_enter Try.func26, Try.ntmps26
 go_wp2_with (go_at_call 27; refine (hH _).out.mono ?_; rintro e w' ⟨rfl, hb2⟩)
 go_ret
 exact ⟨rfl, pbT (pbA (Below.refl _ _) _) hb2⟩
set_option maxHeartbeats 1000000 in
theorem pred_forget (B : Nat) (id : Int) (W : World) (x : RawD) (hb : W.heap[B]? = some (.cells #[.int .i64 id] 2 (0, 0))) : Calls Try.prog 38 (#[aggD x] ++ #[.pointer (some ⟨B, 0, none⟩)]) W fun e w' => e = .returned (.bool (x.f0 == id)) ∧ Below W.heap.size W w' := by
 have hc : W.cell? ⟨B, 0, none⟩ = some (.int .i64 id) := (bkC hb 0).trans rfl
 have hBW := blk_lt hb
 have hu := Try.underlying27
 show Calls Try.prog 38 #[.agg #[.int .i64 x.f0, .string x.f1, .string x.f2, .int .i64 x.f3, .slice x.a4 x.n4 x.c4, .int .i64 x.f5], .pointer (some ⟨B, 0, none⟩)] W _
 clear hb
 go_enter Try.func38, Try.ntmps38
 go_wp2
 go_ret
 exact ⟨rfl, pbA (Below.refl _ _) _⟩
/-- What Find hands back of what it has found. -/
def foundV : Option RawD → Value
 | some x => .tuple #[aggD x, .bool true]
 | none => .tuple #[aggD zeroD, .bool false]
theorem find_idx (p : RawD → Bool) (l : List RawD) : (idxZ p l 0 = -1 ∧ l.find? p = none) ∨ ∃ (i : Nat) (h : i < l.length), idxZ p l 0 = (i : Int) ∧ l.find? p = some l[i] := by
 rcases idxZ_spec p l 0 with ⟨h1, h2⟩ | ⟨i, h, h1, h2, h3⟩
 ·exact .inl ⟨h1, List.find?_eq_none.2 (fun x hx => by rw [h2 x hx]; simp)⟩
 ·refine .inr ⟨i, h, by rw [h1, Nat.zero_add], ?_⟩
  rw [List.find?_eq_some_iff_getElem]
  refine ⟨h2, i, h, rfl, fun j hj => ?_⟩
  rw [h3 l[j] (List.mem_iff_getElem.2 ⟨j, by rw [List.length_take]; omega, by rw [List.getElem_take]⟩)]; rfl
set_option maxHeartbeats 4000000 in
set_option maxRecDepth 100000 in
theorem find_calls (A0 : Option Addr) (c0 : Nat) (l0 : List RawD) (key : ByteArray) (w : World) (hr0 : Kd.C kD w A0 l0.length l0) (hl : l0.length ≤ 1000000000) :
 Calls Try.prog 10 #[.slice A0 l0.length c0, .string key] w fun e w' => e = .returned (foundV (l0.find? fun x => hasB x.f1 x.f2 key)) ∧ Below w.heap.size w w' := by
 have HC := Lib.hid hr0
 clear hr0
 have hu := Try.underlying27
 have hu2 := Try.underlying9
 have hmf : ∀ (fn : Fn) (first cap : Array Value) (w : World), (Instr.makeFunc fn first cap).run Try.prog w = .ok (.func fn first cap) w := fun _ _ _ _ => rfl
 have eg : ∀ args w, (callFunc 26 args).run Try.prog w = .ok (.enter 26 args) w := enters_of Try.func26 (by kernel_rfl) rfl
 have HI : ∀ W, Below w.heap.size w W → W.heap[w.heap.size]? = some (.cells #[.string key] 9 (0, 0)) → Hid (Calls Try.prog 25 #[.slice A0 l0.length c0, .func (.func 26) #[] #[.pointer (some ⟨w.heap.size, 0, none⟩)]] W fun e w' => e = .returned (.int .i64 (idxZ (fun x => hasB x.f1 x.f2 key) l0 0)) ∧ Below W.heap.size W w') := fun W hW hx =>
  Lib.hid (indexD_calls _ _ _ eg A0 c0 l0 W (Kd.C_below HC.out hW) hl (pred_find w.heap.size key l0 W (blk_lt hx) ((bkC hx 0).trans rfl)))
 rcases find_idx (fun x => hasB x.f1 x.f2 key) l0 with ⟨h1, h2⟩ | ⟨i, hi, h1, h2⟩
 ·rw [h2]
  simp only [h1] at HI
  unfold foundV aggD zeroD
  go_enter Try.func10, Try.ntmps10
  go_wp2_with (go_at_call 25; refine (HI _ (pbA (pbA (Below.refl _ _) _) _) (bkA (heap_alloc_new _ _) _)).out.mono ?_; rintro e w1 ⟨rfl, hb⟩; have BL := two_new hb; have f0 := bkF BL 0; have f1 := bkF BL 1; have f2 := bkF BL 2; have f3 := bkF BL 3; have f4 := bkF BL 4; have f5 := bkF BL 5; have y0 := (bkC BL 0).trans rfl; have y1 := (bkC BL 1).trans rfl; have y2 := (bkC BL 2).trans rfl; have y3 := (bkC BL 3).trans rfl; have y4 := (bkC BL 4).trans rfl; have y5 := (bkC BL 5).trans rfl)
  refine bodyPost_ret (results_ct rfl _ _ (w.heap.size + 1) 27 (encD zeroD).toArray (0, 0) _ rfl (put_D zeroD BL) hu rfl (by kernel_rfl)) rfl ?_
  exact ⟨rfl, (((((((pbT (pbA (pbA (Below.refl _ _) _) _) hb).setCell (Nat.le_succ _) _).setCell (Nat.le_succ _) _).setCell (Nat.le_succ _) _).setCell (Nat.le_succ _) _).setCell (Nat.le_succ _) _).setCell (Nat.le_succ _) _)⟩
 ·rw [h2]
  simp only [h1] at HI
  have hi0 : (0 : Int) ≤ (i : Int) := by omega
  have hi1 : (i : Int) < (l0.length : Int) := by omega
  have HE : ∀ W, Below w.heap.size w W → Hid (Kd.C kD W A0 l0.length l0) := fun W hW => Lib.hid (Kd.C_below HC.out hW)
  obtain ⟨ad, rfl, _⟩ := at_D HC.out i hi
  have HM : Hid (∀ W, Below w.heap.size w W → ∃ ad', some ad = some ad' ∧ W.cell? (ad'.add (i * 6)) = some (.int .i64 l0[i].f0) ∧ W.cell? ⟨(ad'.add (i * 6)).block, (ad'.add (i * 6)).off + 1, none⟩ = some (.string l0[i].f1) ∧ W.cell? ⟨(ad'.add (i * 6)).block, (ad'.add (i * 6)).off + 2, none⟩ = some (.string l0[i].f2) ∧ W.cell? ⟨(ad'.add (i * 6)).block, (ad'.add (i * 6)).off + 3, none⟩ = some (.int .i64 l0[i].f3) ∧ W.cell? ⟨(ad'.add (i * 6)).block, (ad'.add (i * 6)).off + 4, none⟩ = some (.slice l0[i].a4 l0[i].n4 l0[i].c4) ∧ W.cell? ⟨(ad'.add (i * 6)).block, (ad'.add (i * 6)).off + 5, none⟩ = some (.int .i64 l0[i].f5)) := Lib.hid fun W hW => at_D (HE W hW).out i hi
  clear h1 h2 HE
  unfold foundV aggD
  simp only
  generalize l0[i] = m at HM ⊢
  go_enter Try.func10, Try.ntmps10
  go_wp2_with (go_at_call 25; refine (HI _ (pbA (pbA (Below.refl _ _) _) _) (bkA (heap_alloc_new _ _) _)).out.mono ?_; rintro e w1 ⟨rfl, hb⟩; have BL := two_new hb; have f0 := bkF BL 0; have f1 := bkF BL 1; have f2 := bkF BL 2; have f3 := bkF BL 3; have f4 := bkF BL 4; have f5 := bkF BL 5; have y0 := (bkC BL 0).trans rfl; have y1 := (bkC BL 1).trans rfl; have y2 := (bkC BL 2).trans rfl; have y3 := (bkC BL 3).trans rfl; have y4 := (bkC BL 4).trans rfl; have y5 := (bkC BL 5).trans rfl; have HB := Lib.hid (pbT (pbA (pbA (Below.refl _ _) _) _) hb); obtain ⟨ad', ea, e0, e1, e2, e3, e4, e5⟩ := HM.out _ HB.out; injection ea with ea; subst ea)
  refine bodyPost_ret (results_ct rfl _ _ (w.heap.size + 1) 27 (encD m).toArray (0, 0) _ rfl (put_D m BL) hu rfl (by kernel_rfl)) rfl ?_
  exact ⟨rfl, ((((((HB.out.setCell (Nat.le_succ _) _).setCell (Nat.le_succ _) _).setCell (Nat.le_succ _) _).setCell (Nat.le_succ _) _).setCell (Nat.le_succ _) _).setCell (Nat.le_succ _) _)⟩
set_option maxHeartbeats 4000000 in
set_option maxRecDepth 100000 in
theorem forget_calls (A0 : Option Addr) (c0 : Nat) (l0 : List RawD) (id : Int) (w : World) (hr0 : Kd.C kD w A0 l0.length l0) (hl : l0.length ≤ 1000000000) :
 Calls Try.prog 15 #[.slice A0 l0.length c0, .int .i64 id] w fun e w' => ∃ v, e = .returned v ∧ Kd.R kD 27 w' w.heap.size (fun _ => True) v (delF (fun x => x.f0 == id) l0) ∧ Below w.heap.size w w' := by
 have HC := Lib.hid hr0
 clear hr0
 have hmf : ∀ (fn : Fn) (first cap : Array Value) (w : World), (Instr.makeFunc fn first cap).run Try.prog w = .ok (.func fn first cap) w := fun _ _ _ _ => rfl
 have eg : ∀ args w, (callFunc 38 args).run Try.prog w = .ok (.enter 38 args) w := enters_of Try.func38 (by kernel_rfl) rfl
 have hs1 : (w.alloc (.cells #[.int .i64 id] 2)).heap.size = w.heap.size + 1 := by simp
 have HK := Lib.hid (cloneD_calls A0 c0 l0 (w.alloc (.cells #[.int .i64 id] 2)) (Kd.C_below HC.out (pbA (Below.refl _ _) _)) hl)
 have HD : ∀ W v, Kd.R kD 27 W (w.heap.size + 1) (fun _ => True) v l0 → W.heap[w.heap.size]? = some (.cells #[.int .i64 id] 2 (0, 0)) → Hid (Calls Try.prog 32 #[v, .func (.func 38) #[] #[.pointer (some ⟨w.heap.size, 0, none⟩)]] W fun e w' => ∃ v', e = .returned v' ∧ Kd.R kD 27 w' (w.heap.size + 1) (fun _ => True) v' (delF (fun x => x.f0 == id) l0) ∧ v'.ownBlock = v.ownBlock ∧ W.grownBy w' v.ownBlock) := fun W v hR hx =>
  Lib.hid (deleteD_calls _ _ _ eg (w.heap.size + 1) (fun _ => True) v l0 W hR hl (fun W' x _ hg => pred_forget w.heap.size id W' x ((hg.block _ (blk_lt hx) (fun e => by have := Kd.R_base hR _ e.symm; omega)).trans hx)))
 rw [hs1] at HK
 go_enter Try.func15, Try.ntmps15
 go_wp2_with (first | (go_at_call 33; refine HK.out.mono ?_; rintro e w1 ⟨v1, rfl, hR1, hb1⟩; have HR1 := Lib.hid hR1; have HB1 := Lib.hid hb1; clear hR1 hb1) | (go_at_call 32; refine (HD _ _ HR1.out (bkB (heap_alloc_new _ _) (by rw [hs1]; exact HB1.out))).out.mono ?_; rintro e w2 ⟨v2, rfl, hR2, ho, hg⟩; have HR2 := Lib.hid hR2; have HG2 := Lib.hid hg; have HO := Lib.hid ho; clear hR2 hg ho) | go_in)
 go_ret
 refine ⟨v2, rfl, Kd.R_lower HR2.out (Nat.le_succ _), ?_⟩
 exact pw_below_grown (pbT (pbA (Below.refl _ _) _) (by rw [hs1]; exact HB1.out)) _ (Nat.le_trans (by omega) HB1.out.size) HG2.out (fun k hk => by have := Kd.R_base HR1.out k hk; omega)
end Go.Proofs.Ytppdcldbebnmlaa.P
end
section
namespace Go.Proofs.Ytppdcldbebnmlaa.P
open Go.RowKit Go.Shelf Go.Proofs.Ytppdcldbebnmlaa.K Go.Proofs.YtppdcldbebnmlaaW.PrintWords Go.Proofs.YtppdcldbebnmlaaW.PrintLast Go.Proofs.YtppdcldbebnmlaaW.PrintMore
/-- Is something later known, so that nothing is learnt? -/
def later (σ : RawD → List SM) (d x : RawD) : Bool := (x.f0 == d.f0 && decide (d.f3 < x.f3)) || (meetB x.f1 x.f2 d.f1 d.f2 && (decide (d.f3 < x.f3) || (x.f3 == d.f3 && !sameS (toS σ x) (toS σ d))))
/-- Is it gone when this is learnt? -/
def dropP (d x : RawD) : Bool := x.f0 == d.f0 || meetB x.f1 x.f2 d.f1 d.f2
set_option maxHeartbeats 4000000 in
theorem pred_drop (B : Nat) (d : RawD) (W : World) (x : RawD) (hb : W.heap[B]? = some (.cells (encD d).toArray 27 (0, 0))) : Calls Try.prog 34 (#[aggD x] ++ #[.pointer (some ⟨B, 0, none⟩)]) W fun e w' => e = .returned (.bool (dropP d x)) ∧ Below W.heap.size W w' := by
 have hM : ∀ W', Hid (Calls Try.prog 29 #[.agg #[.string x.f1, .string x.f2], .agg #[.string d.f1, .string d.f2]] W' fun e w' => e = .returned (.bool (meetB x.f1 x.f2 d.f1 d.f2)) ∧ Below W'.heap.size W' w') := fun W' => Lib.hid (bound_Meet.calls _ _ _ _ _ W' (meet_eq _ _ _ _))
 unfold dropP
 generalize meetB x.f1 x.f2 d.f1 d.f2 = r at hM ⊢
 have c0 : W.cell? ⟨B, 0, none⟩ = some (.int .i64 d.f0) := (bkC hb 0).trans rfl
 have c1 : W.cell? ⟨B, 1, none⟩ = some (.string d.f1) := (bkC hb 1).trans rfl
 have c2 : W.cell? ⟨B, 2, none⟩ = some (.string d.f2) := (bkC hb 2).trans rfl
 have hBW := blk_lt hb
 have hu := Try.underlying27
 have hu2 := Try.underlying24
 show Calls Try.prog 34 #[.agg #[.int .i64 x.f0, .string x.f1, .string x.f2, .int .i64 x.f3, .slice x.a4 x.n4 x.c4, .int .i64 x.f5], .pointer (some ⟨B, 0, none⟩)] W _
 clear hb
 cases hq : (x.f0 == d.f0)
 ·go_enter Try.func34, Try.ntmps34
  go_wp2_with (go_at_call 29; refine (hM _).out.mono ?_; rintro e w' ⟨rfl, hb2⟩)
  go_ret
  exact ⟨rfl, pbT (pbA (Below.refl _ _) _) hb2⟩
 ·go_enter Try.func34, Try.ntmps34
  go_wp2
  go_ret
  exact ⟨rfl, pbA (Below.refl _ _) _⟩
set_option maxHeartbeats 8000000 in
set_option maxRecDepth 100000 in
theorem pred_later (σ : RawD → List SM) (B : Nat) (d : RawD) (W : World) (x : RawD) (hx : Mem σ W x) (hd : Mem σ W d) (hlx : (σ x).length ≤ 1000000000) (hb : W.heap[B]? = some (.cells (encD d).toArray 27 (0, 0))) : Calls Try.prog 28 (#[aggD x] ++ #[.pointer (some ⟨B, 0, none⟩)]) W fun e w' => e = .returned (.bool (later σ d x)) ∧ Below W.heap.size W w' := by
 have hM : ∀ W', Hid (Calls Try.prog 29 #[.agg #[.string x.f1, .string x.f2], .agg #[.string d.f1, .string d.f2]] W' fun e w' => e = .returned (.bool (meetB x.f1 x.f2 d.f1 d.f2)) ∧ Below W'.heap.size W' w') := fun W' => Lib.hid (bound_Meet.calls _ _ _ _ _ W' (meet_eq _ _ _ _))
 have hS : ∀ W', Below W.heap.size W W' → Hid (Calls Try.prog 30 #[.agg #[.int .i64 x.f0, .string x.f1, .string x.f2, .int .i64 x.f3, .slice x.a4 x.n4 x.c4, .int .i64 x.f5], .agg #[.int .i64 d.f0, .string d.f1, .string d.f2, .int .i64 d.f3, .slice d.a4 d.n4 d.c4, .int .i64 d.f5]] W' fun e w' => e = .returned (.bool (sameS (toS σ x) (toS σ d))) ∧ Below W'.heap.size W' w') := by
  intro W' hW
  obtain ⟨x1, x2⟩ := hx.below hW
  obtain ⟨d1, d2⟩ := hd.below hW
  have nx := Kd.C_len x1
  have nd := Kd.C_len d1
  have := desc_Same.calls ((σ x).length + 1) x.f0 x.f1 x.f2 x.f3 x.a4 x.c4 (σ x) x.f5 d.f0 d.f1 d.f2 d.f3 d.a4 d.c4 (σ d) d.f5 (sameS (toS σ x) (toS σ d)) W' (by rw [nx]; exact x1) (by omega) (by rw [nd]; exact d1) (by omega) (same_eq (x := toS σ x) (y := toS σ d) hlx (Nat.lt_succ_self _))
  rw [nx, nd] at this
  exact Lib.hid this
 unfold later
 clear hx hd hlx
 generalize meetB x.f1 x.f2 d.f1 d.f2 = r at hM ⊢
 generalize sameS (toS σ x) (toS σ d) = r2 at hS ⊢
 have hBW := blk_lt hb
 have c0 : W.cell? ⟨B, 0, none⟩ = some (.int .i64 d.f0) := (bkC hb 0).trans rfl
 have c1 : W.cell? ⟨B, 1, none⟩ = some (.string d.f1) := (bkC hb 1).trans rfl
 have c2 : W.cell? ⟨B, 2, none⟩ = some (.string d.f2) := (bkC hb 2).trans rfl
 have c3 : W.cell? ⟨B, 3, none⟩ = some (.int .i64 d.f3) := (bkC hb 3).trans rfl
 have HBB := Lib.hid hb
 have hu := Try.underlying27
 have hu2 := Try.underlying24
 show Calls Try.prog 28 #[.agg #[.int .i64 x.f0, .string x.f1, .string x.f2, .int .i64 x.f3, .slice x.a4 x.n4 x.c4, .int .i64 x.f5], .pointer (some ⟨B, 0, none⟩)] W _
 clear hb
 cases hq : (x.f0 == d.f0 && decide (d.f3 < x.f3))
 ·have hq1 : (x.f0 == d.f0) = false ∨ (decide (d.f3 < x.f3)) = false := Bool.and_eq_false_iff.1 hq
  clear hq
  cases r
  ·cases ha : (x.f0 == d.f0)
   all_goals
    try (have ha2 : decide (d.f3 < x.f3) = false := by rcases hq1 with h | h; (rw [ha] at h; cases h); exact h)
    clear hq1
    go_enter Try.func28, Try.ntmps28
    go_wp2_with (go_at_call 29; refine (hM _).out.mono ?_; rintro e w' ⟨rfl, hb2⟩)
    go_ret
    exact ⟨rfl, pbT (pbA (Below.refl _ _) _) hb2⟩
  ·cases ha : (x.f0 == d.f0)
   all_goals
    cases hg : decide (d.f3 < x.f3)
   all_goals try (exfalso; rw [ha, hg] at hq1; (rcases hq1 with h | h <;> cases h); done)
   all_goals clear hq1
   all_goals cases he : (x.f3 == d.f3)
   all_goals go_enter Try.func28, Try.ntmps28
   all_goals go_wp2_with (first | (go_at_call 29; refine (hM _).out.mono ?_; rintro e w1 ⟨rfl, hb2⟩; have BX := bkB (heap_alloc_new W _) hb2; have BD := bkB (bkA HBB.out _) hb2; have HB2 := Lib.hid (pbT (pbA (Below.refl _ _) _) hb2); clear hb2; have x0 := (bkC BX 0).trans rfl; have x1 := (bkC BX 1).trans rfl; have x2 := (bkC BX 2).trans rfl; have x3 := (bkC BX 3).trans rfl; have x4 := (bkC BX 4).trans rfl; have x5 := (bkC BX 5).trans rfl; have d0 : w1.cell? ⟨B, 0, none⟩ = some (.int .i64 d.f0) := (bkC BD 0).trans rfl; have d1 : w1.cell? ⟨B, 1, none⟩ = some (.string d.f1) := (bkC BD 1).trans rfl; have d2 : w1.cell? ⟨B, 2, none⟩ = some (.string d.f2) := (bkC BD 2).trans rfl; have d3 : w1.cell? ⟨B, 3, none⟩ = some (.int .i64 d.f3) := (bkC BD 3).trans rfl; have d4 : w1.cell? ⟨B, 4, none⟩ = some (.slice d.a4 d.n4 d.c4) := (bkC BD 4).trans rfl; have d5 : w1.cell? ⟨B, 5, none⟩ = some (.int .i64 d.f5) := (bkC BD 5).trans rfl) | (go_at_call 30; refine (hS _ HB2.out).out.mono ?_; rintro e w2 ⟨rfl, hb3⟩; have HB3 := Lib.hid (pbT HB2.out hb3); clear hb3))
   all_goals go_ret
   all_goals first | exact ⟨rfl, HB3.out⟩ | exact ⟨rfl, HB2.out⟩
 ·obtain ⟨ha, hg⟩ : (x.f0 == d.f0) = true ∧ decide (d.f3 < x.f3) = true := Bool.and_eq_true_iff.1 hq
  clear hq
  go_enter Try.func28, Try.ntmps28
  go_wp2
  go_ret
  exact ⟨rfl, pbA (Below.refl _ _) _⟩
end Go.Proofs.Ytppdcldbebnmlaa.P
end
section
namespace Go.Proofs.Ytppdcldbebnmlaa.K
open Go Go.RowKit Go.Sort Go.Lib Go.Proofs.YtppdcldbebnmlaaW.PrintWords Go.Proofs.YtppdcldbebnmlaaW.PrintLast Go.Proofs.YtppdcldbebnmlaaW.PrintMore
section
variable {α : Type} [Inhabited α] {enc : α → List Value} {k : Nat} {hk : ∀ x, (enc x).length = k} {h1 : ∀ x, ∀ u ∈ enc x, u.oneCell' = true}
theorem flat_at (hk : ∀ x, (enc x).length = k) (d : Array α) (j t : Nat) (hj : j < d.size) (ht : t < k) : (flatK enc k d)[j * k + t]! = (enc d[j]!)[t]! := by
 have hlt : j * k + t < d.size * k := Nat.lt_of_lt_of_le (by rw [Nat.add_mul, Nat.one_mul]; omega : j * k + t < (j + 1) * k) (Nat.mul_le_mul_right k hj)
 rw [get_flatK _ _ _ _ hlt, Nat.mul_comm j k, Nat.mul_add_div (by omega), Nat.mul_add_mod, Nat.div_eq_of_lt ht, Nat.mod_eq_of_lt ht, Nat.add_zero]
theorem raw_holds {w : World} {base g cap n : Nat} {ok : Nat → Prop} {e : Nat} {l : List α} (h : Kd.R (rawKd enc k hk h1) e w base ok (.slice (some ⟨g, 0, none⟩) n cap) l) (hk0 : 0 < k) : HoldsK enc k w g 0 l.toArray := by
 intro t ht
 rw [size_flatK] at ht
 have hsz : l.toArray.size = l.length := by simp
 rw [hsz] at ht
 have hj : t / k < l.length := Nat.div_lt_of_lt_mul (by rw [Nat.mul_comm]; exact ht)
 have hm : t % k < k := Nat.mod_lt _ hk0
 have et : t = t / k * k + t % k := by rw [Nat.mul_comm]; exact (Nat.div_add_mod t k).symm
 obtain ⟨hc, hf⟩ := raw_own_at h (t / k) hj
 constructor
 ·rw [get_flatK _ _ _ _ (by rw [hsz]; exact ht)]
  have e1 : l.toArray[t / k]! = l[t / k] := by simp [hj]
  rw [e1]
  have e2 : (enc l[t / k])[t % k]? = some ((enc l[t / k])[t % k]!) := by
   rw [List.getElem?_eq_getElem (by rw [hk]; exact hm)]
   simp [hk, hm]
  have := hc _ _ e2
  rw [← et] at this
  rw [Nat.zero_add]
  exact this
 ·have := hf (t % k)
  rw [← et] at this
  rw [Nat.zero_add]
  exact this
theorem sort_world {w : World} {base g cap n : Nat} {ok : Nat → Prop} {e : Nat} {l : List α} (h : Kd.R (rawKd enc k hk h1) e w base ok (.slice (some ⟨g, 0, none⟩) n cap) l) (m : Nat) (d' : Array α) (os : Array Obj) (hs : d'.size = l.length) :
 Kd.R (rawKd enc k hk h1) e (sortWorldK enc k w g 0 m d' os) base ok (.slice (some ⟨g, 0, none⟩) n cap) d'.toList ∧ w.grownBy (sortWorldK enc k w g 0 m d' os) (some g) := by
 obtain ⟨hok, inner, ⟨hlen, hown⟩, hr⟩ := h
 rcases hown with ⟨he, _⟩ | ⟨g', cap', cur, he, hb, hh, hcap, hmax, hsz, htake⟩
 ·cases he
 ·injection he with e1 e2 e3
  injection e1 with e1
  injection e1 with e1 _ _
  subst e1 e2 e3
  have hglt : g < w.heap.size := (Array.getElem?_eq_some_iff.1 hh).1
  have hcs : (putCells id 0 (flatK enc k d') cur).size = cap * k := by simp only [putCells, Array.size_mapIdx]; exact hsz
  have hh' : (sortWorldK enc k w g 0 m d' os).heap[g]? = some (.cells (putCells id 0 (flatK enc k d') cur) e (0, 0)) := by
   show ((w.heap.modify g (onCells (putCells id 0 (flatK enc k d')))) ++ os)[g]? = _
   rw [Array.getElem?_append_left (by rw [Array.size_modify]; exact hglt), Array.getElem?_modify, if_pos rfl, hh]
   rfl
  have hle : l.length * k ≤ cap * k := Nat.mul_le_mul_right k hcap
  have hdl : d'.toList.length = l.length := by rw [Array.length_toList, hs]
  refine ⟨⟨hok, (putCells id 0 (flatK enc k d') cur).toList.take (l.length * k), ⟨?_, .inr ⟨g, cap, _, by rw [hdl], hb, hh', by rw [hdl]; exact hcap, hmax, hcs, by rw [hdl]; rfl⟩⟩, ?_, ?_⟩, rfl, rfl, rfl, ?_, ?_⟩
  ·simp only [List.length_take, Array.length_toList, hcs, hs]; exact Nat.min_eq_left hle
  ·simp only [List.length_take, Array.length_toList, hcs, hs]; exact Nat.min_eq_left hle
  ·intro j p hp
   have hj : j < d'.size := by
    have := (List.getElem?_eq_some_iff.1 hp).1
    rwa [Array.length_toList] at this
   have hp2 : d'[j]! = p := by
    rw [Array.getElem?_toList] at hp
    simp [Array.getElem!_eq_getD, Array.getD_eq_getD_getElem?, hp]
   have hjk : j * k + k ≤ l.length * k := by
    have : (j + 1) * k ≤ l.length * k := Nat.mul_le_mul_right k (by omega)
    rw [Nat.add_mul, Nat.one_mul] at this; exact this
   show (((putCells id 0 (flatK enc k d') cur).toList.take (l.length * k)).drop (j * k)).take k = enc p
   apply List.ext_getElem?
   intro t
   by_cases ht : t < k
   ·have hlq : j * k + t < l.length * k := Nat.lt_of_lt_of_le (Nat.add_lt_add_left ht _) hjk
    rw [List.getElem?_take_of_lt ht, List.getElem?_drop, List.getElem?_take_of_lt hlq, Array.getElem?_toList]
    have hcl : j * k + t < cur.size := by rw [hsz]; exact Nat.lt_of_lt_of_le hlq hle
    have hfl : j * k + t < 0 + (flatK enc k d').size := by rw [size_flatK, hs, Nat.zero_add]; exact Nat.lt_of_lt_of_le (Nat.add_lt_add_left ht _) hjk
    have e2 : (enc p)[t]? = some ((enc p)[t]!) := by
     rw [List.getElem?_eq_getElem (by rw [hk]; exact ht)]
     simp [hk, ht]
    rw [e2]
    simp only [putCells, Array.getElem?_mapIdx, Array.getElem?_eq_getElem hcl, Option.map_some, id]
    rw [if_pos ⟨Nat.zero_le _, hfl⟩, Nat.sub_zero, flat_at hk d' j t hj ht, hp2]
   ·rw [List.getElem?_eq_none (by rw [List.length_take]; omega), List.getElem?_eq_none (by rw [hk]; omega)]
  ·show w.heap.size ≤ ((w.heap.modify g (onCells (putCells id 0 (flatK enc k d')))) ++ os).size
   rw [Array.size_append, Array.size_modify]; omega
  ·intro i hi hne
   have hne' : g ≠ i := fun e => hne (by rw [e])
   show ((w.heap.modify g (onCells (putCells id 0 (flatK enc k d')))) ++ os)[i]? = _
   rw [Array.getElem?_append_left (by rw [Array.size_modify]; exact hi), Array.getElem?_modify, if_neg hne']
theorem sorted_pair {lt : α → α → Bool} {d : Array α} (h : SortedIn lt 0 d.size d) : d.toList.Pairwise fun x y => lt y x = false := by
 rw [List.pairwise_iff_getElem]
 intro i j hi hj hij
 have := h i j (Nat.zero_le _) hij (by simpa using hj)
 rw [Array.length_toList] at hi hj
 have e1 : d[i]! = d[i] := by simp [hi]
 have e2 : d[j]! = d[j] := by simp [hj]
 rw [e1, e2] at this
 exact this
theorem perm_list {d d' : Array α} (h : PermIn 0 d.size d d') : d'.toList.Perm d.toList ∧ d'.size = d.size := by
 obtain ⟨h1, _, h3⟩ := h
 refine ⟨?_, h1⟩
 have e1 : d.extract 0 d.size = d := by simp
 have e2 : d'.extract 0 d.size = d' := by rw [← h1]; simp
 rwa [e1, e2] at h3
end
end Go.Proofs.Ytppdcldbebnmlaa.K
end
section
namespace Go.Proofs
open Go.Shelf
def Try.lays106_ren : Go.Shelf.Ren := ⟨fun | 106 => 37 | 213 => 48 | 265 => 67 | n => n, fun | 9 => 9 | 3 => 3 | n => n, fun | n => n⟩
theorem Try.lays106 : Go.Proofs.Lays.n106 Try.prog Try.lays106_ren := {
 mixed := by kernel_rfl
 f106 := Try.func37.trans (congrArg some (by kernel_rfl))
 f213 := Try.func48.trans (congrArg some (by kernel_rfl))
 f265 := Try.func67.trans (congrArg some (by kernel_rfl))
 t3 := Try.underlying3
 a3 := Try.isAgg3
 z3 := Try.sizeOf3
 v3 := Try.zeroValue3
 t9 := Try.underlying9
 a9 := Try.isAgg9
 z9 := Try.sizeOf9
 v9 := Try.zeroValue9 }
open Go.RowKit in
/-- strings.Compare: "Compare returns an integer comparing two strings lexicographically. The result will be 0 if a == b, -1 if a < b, and +1 if a > b.": IT RETURNS 'Lib.compareBytes a b'; the world is as it was. (LAID: no walk: one application.) -/
theorem Try.strings_Compare (a b : ByteArray) (w : World) :
 Calls Try.prog 37 #[.string a, .string b] w fun e w' => e = .returned (.int .i64 (Lib.compareBytes a.data.toList b.data.toList)) ∧ w' = w := Any.strings_Compare Try.lays106 a b w
def Try.lays105_ren : Go.Shelf.Ren := ⟨fun | 105 => 40 | 212 => 49 | 99 => 50 | 165 => 51 | 166 => 52 | 170 => 53 | 169 => 54 | 263 => 68 | 264 => 69 | 206 => 70 | 240 => 71 | 241 => 72 | 276 => 78 | 277 => 79 | n => n, fun | 9 => 9 | 3 => 3 | 4 => 4 | 20 => 20 | 0 => 0 | 46 => 65 | 109 => 66 | 5 => 5 | 72 => 70 | 76 => 74 | 51 => 90 | 146 => 93 | 53 => 92 | 148 => 95 | 70 => 68 | 37 => 59 | 75 => 73 | 127 => 97 | 164 => 104 | 80 => 77 | n => n, fun | n => n⟩
theorem Try.lays105 : Go.Proofs.Lays.n105 Try.prog Try.lays105_ren := {
 mixed := by kernel_rfl
 f99 := Try.func50.trans (congrArg some (by kernel_rfl))
 f105 := Try.func40.trans (congrArg some (by kernel_rfl))
 f165 := Try.func51.trans (congrArg some (by kernel_rfl))
 f166 := Try.func52.trans (congrArg some (by kernel_rfl))
 f169 := Try.func54.trans (congrArg some (by kernel_rfl))
 f170 := Try.func53.trans (congrArg some (by kernel_rfl))
 f206 := Try.func70.trans (congrArg some (by kernel_rfl))
 f212 := Try.func49.trans (congrArg some (by kernel_rfl))
 f240 := Try.func71.trans (congrArg some (by kernel_rfl))
 f241 := Try.func72.trans (congrArg some (by kernel_rfl))
 f263 := Try.func68.trans (congrArg some (by kernel_rfl))
 f264 := Try.func69.trans (congrArg some (by kernel_rfl))
 f276 := Try.func78.trans (congrArg some (by kernel_rfl))
 f277 := Try.func79.trans (congrArg some (by kernel_rfl))
 t0 := Try.underlying0
 a0 := Try.isAgg0
 z0 := Try.sizeOf0
 v0 := Try.zeroValue0
 t3 := Try.underlying3
 a3 := Try.isAgg3
 z3 := Try.sizeOf3
 v3 := Try.zeroValue3
 t4 := Try.underlying4
 a4 := Try.isAgg4
 z4 := Try.sizeOf4
 v4 := Try.zeroValue4
 t5 := Try.underlying5
 a5 := Try.isAgg5
 z5 := Try.sizeOf5
 v5 := Try.zeroValue5
 t9 := Try.underlying9
 a9 := Try.isAgg9
 z9 := Try.sizeOf9
 v9 := Try.zeroValue9
 t20 := Try.underlying20
 a20 := Try.isAgg20
 z20 := Try.sizeOf20
 v20 := Try.zeroValue20
 t37 := Try.underlying59
 a37 := Try.isAgg59
 z37 := Try.sizeOf59
 v37 := Try.zeroValue59
 t46 := Try.underlying65
 a46 := Try.isAgg65
 z46 := Try.sizeOf65
 v46 := Try.zeroValue65
 t51 := Try.underlying90
 a51 := Try.isAgg90
 z51 := Try.sizeOf90
 v51 := Try.zeroValue90
 t53 := Try.underlying92
 a53 := Try.isAgg92
 z53 := Try.sizeOf92
 v53 := Try.zeroValue92
 t70 := Try.underlying68
 a70 := Try.isAgg68
 z70 := Try.sizeOf68
 v70 := Try.zeroValue68
 t72 := Try.underlying70
 a72 := Try.isAgg70
 z72 := Try.sizeOf70
 v72 := Try.zeroValue70
 t75 := Try.underlying73
 a75 := Try.isAgg73
 z75 := Try.sizeOf73
 v75 := Try.zeroValue73
 t76 := Try.underlying74
 a76 := Try.isAgg74
 z76 := Try.sizeOf74
 v76 := Try.zeroValue74
 t109 := Try.underlying66
 a109 := Try.isAgg66
 z109 := Try.sizeOf66
 v109 := Try.zeroValue66
 t127 := Try.underlying97
 a127 := Try.isAgg97
 z127 := Try.sizeOf97
 v127 := Try.zeroValue97
 t146 := Try.underlying93
 a146 := Try.isAgg93
 z146 := Try.sizeOf93
 v146 := Try.zeroValue93
 t148 := Try.underlying95
 a148 := Try.isAgg95
 z148 := Try.sizeOf95
 v148 := Try.zeroValue95
 t164 := Try.underlying104
 a164 := Try.isAgg104
 z164 := Try.sizeOf104
 v164 := Try.zeroValue104 }
theorem Try.Builder_Extra_105 : Builder.Extra Try.prog Try.lays105_ren := {
 sizeBuilder := by kernel_rfl
 liesBuilder := by kernel_rfl
 t5 := Try.underlying5
 a5 := Try.isAgg5
 z5 := Try.sizeOf5
 v5 := Try.zeroValue5
 infoByte := by kernel_rfl
 cellsByte := by kernel_rfl
 sizeByte := by kernel_rfl
 neB5 := by decide }
open Go.RowKit Go.Lib in
/-- **strings.Repeat: count ≥ 0, the result within one allocation: count copies of s.** (LAID: no walk: one application.) -/
theorem Try.strings_Repeat (s : ByteArray) (c : Nat) (w : World) (hc : c ≤ 9223372036854775807) (hlen : s.size * c ≤ 140737488355328) :
 Calls Try.prog 40 #[.string s, .int .i64 c] w fun e w' => e = .returned (.string ⟨(Lib.repeatL s.data.toList c).toArray⟩) ∧ Below w.heap.size w w' := Any.strings_Repeat Try.lays105 Try.Builder_Extra_105 s c w hc hlen
def Try.sortD_ren : Go.Shelf.Ren := ⟨fun | 6 => 35 | 15 => 47 | 14 => 46 | 28 => 65 | 29 => 66 | 20 => 57 | 21 => 58 | 22 => 59 | 23 => 60 | 24 => 61 | 25 => 62 | 26 => 63 | 27 => 64 | 46 => 73 | 47 => 74 | 48 => 75 | 49 => 76 | 50 => 77 | 57 => 80 | n => n, fun | 22 => 22 | 24 => 27 | 25 => 57 | 3 => 3 | 39 => 65 | 0 => 0 | 53 => 90 | 55 => 92 | 4 => 4 | 46 => 83 | 45 => 82 | 50 => 87 | 5 => 5 | 9 => 9 | 66 => 98 | 70 => 102 | 76 => 107 | 77 => 108 | n => n, fun | n => n⟩
theorem Try.sortD : Go.Proofs.SlLaysF0.n6 Try.prog Try.sortD_ren := {
 mixed := by kernel_rfl
 f6 := ⟨Try.f35.name, by decide, Try.func35.trans (congrArg some (by kernel_rfl))⟩
 f14 := ⟨Try.f46.name, by decide, Try.func46.trans (congrArg some (by kernel_rfl))⟩
 f15 := Try.func47.trans (congrArg some (by kernel_rfl))
 f20 := ⟨Try.f57.name, by decide, Try.func57.trans (congrArg some (by kernel_rfl))⟩
 f21 := ⟨Try.f58.name, by decide, Try.func58.trans (congrArg some (by kernel_rfl))⟩
 f22 := ⟨Try.f59.name, by decide, Try.func59.trans (congrArg some (by kernel_rfl))⟩
 f23 := ⟨Try.f60.name, by decide, Try.func60.trans (congrArg some (by kernel_rfl))⟩
 f24 := ⟨Try.f61.name, by decide, Try.func61.trans (congrArg some (by kernel_rfl))⟩
 f25 := ⟨Try.f62.name, by decide, Try.func62.trans (congrArg some (by kernel_rfl))⟩
 f26 := ⟨Try.f63.name, by decide, Try.func63.trans (congrArg some (by kernel_rfl))⟩
 f27 := ⟨Try.f64.name, by decide, Try.func64.trans (congrArg some (by kernel_rfl))⟩
 f28 := Try.func65.trans (congrArg some (by kernel_rfl))
 f29 := Try.func66.trans (congrArg some (by kernel_rfl))
 f46 := ⟨Try.f73.name, by decide, Try.func73.trans (congrArg some (by kernel_rfl))⟩
 f47 := Try.func74.trans (congrArg some (by kernel_rfl))
 f48 := Try.func75.trans (congrArg some (by kernel_rfl))
 f49 := ⟨Try.f76.name, by decide, Try.func76.trans (congrArg some (by kernel_rfl))⟩
 f50 := ⟨Try.f77.name, by decide, Try.func77.trans (congrArg some (by kernel_rfl))⟩
 f57 := ⟨Try.f80.name, by decide, Try.func80.trans (congrArg some (by kernel_rfl))⟩
 t0 := Try.underlying0
 a0 := Try.isAgg0
 z0 := Try.sizeOf0
 v0 := Try.zeroValue0
 t3 := Try.underlying3
 a3 := Try.isAgg3
 z3 := Try.sizeOf3
 v3 := Try.zeroValue3
 t4 := Try.underlying4
 a4 := Try.isAgg4
 z4 := Try.sizeOf4
 v4 := Try.zeroValue4
 t5 := Try.underlying5
 a5 := Try.isAgg5
 z5 := Try.sizeOf5
 v5 := Try.zeroValue5
 t9 := Try.underlying9
 a9 := Try.isAgg9
 z9 := Try.sizeOf9
 v9 := Try.zeroValue9
 t22 := Try.underlying22
 a22 := Try.isAgg22
 z22 := Try.sizeOf22
 v22 := Try.zeroValue22
 t25 := Try.underlying57
 a25 := Try.isAgg57
 z25 := Try.sizeOf57
 v25 := Try.zeroValue57
 t39 := Try.underlying65
 a39 := Try.isAgg65
 z39 := Try.sizeOf65
 v39 := Try.zeroValue65
 t45 := Try.underlying82
 a45 := Try.isAgg82
 z45 := Try.sizeOf82
 v45 := Try.zeroValue82
 t46 := Try.underlying83
 a46 := Try.isAgg83
 z46 := Try.sizeOf83
 v46 := Try.zeroValue83
 t50 := Try.underlying87
 a50 := Try.isAgg87
 z50 := Try.sizeOf87
 v50 := Try.zeroValue87
 t53 := Try.underlying90
 a53 := Try.isAgg90
 z53 := Try.sizeOf90
 v53 := Try.zeroValue90
 t55 := Try.underlying92
 a55 := Try.isAgg92
 z55 := Try.sizeOf92
 v55 := Try.zeroValue92
 t66 := Try.underlying98
 a66 := Try.isAgg98
 z66 := Try.sizeOf98
 v66 := Try.zeroValue98
 t70 := Try.underlying102
 a70 := Try.isAgg102
 z70 := Try.sizeOf102
 v70 := Try.zeroValue102
 t76 := Try.underlying107
 a76 := Try.isAgg107
 z76 := Try.sizeOf107
 v76 := Try.zeroValue107
 t77 := Try.underlying108
 a77 := Try.isAgg108
 z77 := Try.sizeOf108
 v77 := Try.zeroValue108 }
end Go.Proofs
end
section
namespace Go.Proofs.Ytppdcldbebnmlaa.P
open Go.RowKit Go.Shelf Go.Proofs.Ytppdcldbebnmlaa.K Go.Proofs.YtppdcldbebnmlaaW.PrintWords Go.Proofs.YtppdcldbebnmlaaW.PrintLast Go.Proofs.YtppdcldbebnmlaaW.PrintMore
/-- By what descriptors are ordered. -/
def cmpD (x y : RawD) : Int := Lib.compareBytes x.f1.data.toList y.f1.data.toList
theorem cmp_iff : ∀ a b : List UInt8, Lib.compareBytes a b < 0 ↔ Op.bytesLess a b = true
 | [], [] => by decide
 | [], _ :: _ => by simp [Lib.compareBytes, Op.bytesLess]
 | _ :: _, [] => by simp [Lib.compareBytes, Op.bytesLess]
 | x :: a, y :: b => by
  simp only [Lib.compareBytes, Op.bytesLess]
  by_cases h1 : x < y
  ·rw [if_pos h1]; simp [h1]
  ·rw [if_neg h1]
   by_cases h2 : y < x
   ·have h3 : (x == y) = false := by rw [beq_eq_false_iff_ne]; intro e; rw [e] at h2; exact absurd h2 (UInt8.lt_irrefl y)
    rw [if_pos h2]; simp [h1, h3]
   ·have h3 : x = y := UInt8.le_antisymm (UInt8.not_lt.1 h2) (UInt8.not_lt.1 h1)
    rw [if_neg h2, cmp_iff a b, h3]; simp [UInt8.lt_irrefl]
theorem cmp_lt (a b : List UInt8) : decide (Lib.compareBytes a b < 0) = Op.bytesLess a b := by
 rw [Bool.eq_iff_iff, decide_eq_true_iff]; exact cmp_iff a b
theorem ltD (x y : RawD) : Go.Proofs.ltOf cmpD x y = lt x.f1 y.f1 := by
 unfold Go.Proofs.ltOf cmpD lt
 rw [cmp_lt, ByteArray.toList_eq, ByteArray.toList_eq]
theorem less_irrefl : ∀ a : List UInt8, Op.bytesLess a a = false
 | [] => rfl
 | x :: a => by simp only [Op.bytesLess]; simp [less_irrefl a, UInt8.lt_irrefl]
theorem less_trans : ∀ a b c : List UInt8, Op.bytesLess a b = true → Op.bytesLess b c = true → Op.bytesLess a c = true
 | [], [], _, h, _ => by cases h
 | [], _ :: _, [], _, h => by cases h
 | [], _ :: _, _ :: _, _, _ => rfl
 | _ :: _, [], _, h, _ => by cases h
 | _ :: _, _ :: _, [], _, h => by cases h
 | x :: a, y :: b, z :: c, h1, h2 => by
  simp only [Op.bytesLess, Bool.or_eq_true, Bool.and_eq_true, decide_eq_true_iff, beq_iff_eq] at h1 h2 ⊢
  rcases h1 with h1 | ⟨rfl, h1⟩
  ·rcases h2 with h2 | ⟨rfl, h2⟩
   ·exact .inl (UInt8.lt_trans h1 h2)
   ·exact .inl h1
  ·rcases h2 with h2 | ⟨rfl, h2⟩
   ·exact .inl h2
   ·exact .inr ⟨rfl, less_trans a b c h1 h2⟩
/-- Of two that are not the same one is less. -/
theorem less_or (a b : List UInt8) (h : Op.bytesLess a b = false) : Op.bytesLess b a = true ∨ b = a := by
 have := less_total b a
 rw [h] at this
 simpa using this
theorem swoLess : Go.Sort.SWO fun (x y : RawD) => lt x.f1 y.f1 where
 irrefl x := less_irrefl _
 trans x y z h1 h2 := less_trans _ _ _ h1 h2
 ntrans x y z h1 h2 := by
  cases h : lt x.f1 z.f1
  ·rfl
  ·exfalso
   rcases less_or _ _ h1 with h3 | h3
   ·have h2 : Op.bytesLess y.f1.toList z.f1.toList = false := h2
    have := less_trans _ _ _ h3 h
    rw [h2] at this; cases this
   ·have h2 : Op.bytesLess y.f1.toList z.f1.toList = false := h2
    rw [h3, show Op.bytesLess x.f1.toList z.f1.toList = true from h] at h2
    cases h2
theorem swoD : Go.Sort.SWO (Go.Proofs.ltOf cmpD) := by
 have : Go.Proofs.ltOf cmpD = fun (x y : RawD) => lt x.f1 y.f1 := by funext x y; exact ltD x y
 rw [this]; exact swoLess
set_option maxHeartbeats 1000000 in
theorem cmp_calls (x y : RawD) (W : World) : Calls Try.prog 36 #[aggD x, aggD y] W fun e w' => e = .returned (.int .i64 (cmpD x y)) ∧ w' = (W.alloc (.cells (encD x).toArray 27)).alloc (.cells (encD y).toArray 27) := by
 have hC : ∀ W', Hid (Calls Try.prog 37 #[.string x.f1, .string y.f1] W' fun e w' => e = .returned (.int .i64 (cmpD x y)) ∧ w' = W') := fun W' => Lib.hid (Try.strings_Compare x.f1 y.f1 W')
 generalize cmpD x y = r at hC ⊢
 have hu := Try.underlying27
 have hu2 := Try.underlying24
 unfold aggD encD
 go_enter Try.func36, Try.ntmps36
 go_wp2_with (go_at_call 37; refine (hC _).out.mono ?_; rintro e w' ⟨rfl, rfl⟩)
 go_ret
 exact ⟨rfl, rfl⟩
set_option maxHeartbeats 1000000 in
theorem sort_calls {w : World} {base g cap n : Nat} {ok : Nat → Prop} {l : List RawD} (h : Kd.R kD 27 w base ok (.slice (some ⟨g, 0, none⟩) n cap) l) (hl : l.length ≤ 1000000000) :
 Calls Try.prog 35 #[.slice (some ⟨g, 0, none⟩) n cap, .func (.func 36) #[] #[]] w fun e w' => e = .returned (.tuple #[]) ∧ ∃ l' : List RawD, l'.Perm l ∧ (l'.Pairwise fun x y => lt y.f1 x.f1 = false) ∧ Kd.R kD 27 w' base ok (.slice (some ⟨g, 0, none⟩) n cap) l' ∧ w.grownBy w' (some g) := by
 have hn : n = l.length := (Kd.R_reads' h).1
 have hg : g < w.heap.size := Kd.R_lt h g rfl
 have eg : ∀ args w, (callFunc 36 args).run Try.prog w = .ok (.enter 36 args) w := enters_of Try.func36 (by kernel_rfl) rfl
 have hs : l.toArray.size = l.length := by simp
 have hcmp : CmpLays Try.prog 36 #[] encD 6 cmpD g 0 l.toArray.size w := by
  intro m os dk _ x y
  refine (cmp_calls x y _).mono ?_
  rintro e w' ⟨rfl, rfl⟩
  refine ⟨rfl, 0, #[.cells (encD x).toArray 27 (0, 0), .cells (encD y).toArray 27 (0, 0)], ?_⟩
  rw [Go.Sort.alloc_eq_grow, Go.Sort.alloc_eq_grow, Go.Sort.grow_grow]
  rfl
 have := AnyQ.slices_SortFunc Try.sortD 6 (fun w => by kernel_rfl) (fun w => by kernel_rfl) encD encD_len encD_one cmpD swoD 36 #[] g 0 cap l.toArray w eg hcmp (raw_holds h (by decide)) hg (by rw [hs]; omega)
 rw [hs, ← hn] at this
 refine Calls.mono this ?_
 rintro e w' ⟨rfl, d', m, os, hp, hso, rfl⟩
 rw [hn, ← hs] at hp hso
 obtain ⟨p1, p2⟩ := perm_list hp
 obtain ⟨r1, r2⟩ := sort_world h m d' os (by rw [p2, hs])
 refine ⟨rfl, d'.toList, p1, ?_, r1, r2⟩
 rw [← p2] at hso
 have := sorted_pair hso
 exact this.imp (fun {x y} h => by rw [← ltD]; exact h)
end Go.Proofs.Ytppdcldbebnmlaa.P
end
section
namespace Go.Proofs.Ytppdcldbebnmlaa.P
open Go.RowKit Go.Proofs.Ytppdcldbebnmlaa.K Go.Proofs.YtppdcldbebnmlaaW.PrintWords Go.Proofs.YtppdcldbebnmlaaW.PrintLast Go.Proofs.YtppdcldbebnmlaaW.PrintMore
attribute [local go_sem] max2_int min2_int max_two min_two max_three min_three max_four min_four   -- for this text's walks alone
def bound_Level.j0 : Nat → ByteArray → Bool → Option (Int)
 | 0, _, _ => none
 | k + 1, x0, x3 => if x3 = true then (some 3) else (if 0 < (x0.size : Int) then (if (bt x0 0) ≤ 2 then (some (wrap64 (bt x0 0))) else (some 0)) else (none))
def bound_Level.f (k : Nat) (a0 : ByteArray) : Option (Int) := if a0.toList = ([] : List UInt8) then (bound_Level.j0 k a0 true) else (if 0 < (a0.size : Int) then (bound_Level.j0 k a0 ((bt a0 0) == 0)) else (none))
theorem bound_Level.mono_l : ∀ k, (∀ y0 y1, LeO (bound_Level.j0 k y0 y1) (bound_Level.j0 (k + 1) y0 y1))
 | 0 => fun _ _ r h => by simp [bound_Level.j0] at h
 | k + 1 => by
  have ih0 := bound_Level.mono_l k
  ·intro y0 y1
   unfold bound_Level.j0
   repeat' first
   | (with_reducible exact ih0 _ _)
   | (with_reducible exact LeO.refl _)
   | (with_reducible exact LeO.none _)
   | (with_reducible refine LeO.ite ?_ ?_)
   | (with_reducible refine LeO.bind ?_ (fun _ => ?_))
   | exact ih0 _ _
   | exact LeO.none _
   | refine LeO.ite ?_ ?_
   | refine LeO.bind ?_ (fun _ => ?_)
theorem bound_Level.mono : ∀ a0 k, LeO (bound_Level.f k a0) (bound_Level.f (k + 1) a0) := by
 intro a0 k
 have ih0 := bound_Level.mono_l k
 unfold bound_Level.f
 repeat' first
  | (with_reducible exact ih0 _ _)
  | (with_reducible exact LeO.refl _)
  | (with_reducible exact LeO.none _)
  | (with_reducible refine LeO.ite ?_ ?_)
  | (with_reducible refine LeO.bind ?_ (fun _ => ?_))
  | exact ih0 _ _
  | exact LeO.none _
  | refine LeO.ite ?_ ?_
  | refine LeO.bind ?_ (fun _ => ?_)
set_option maxHeartbeats 8000000 in
set_option maxRecDepth 100000 in
theorem bound_Level.calls (k : Nat) (a0 : ByteArray) (r : Int) (w : World) (h : bound_Level.f k a0 = some r) :
 Calls Try.prog 41 #[.string a0] w fun e w' => e = .returned (.int .i64 r) ∧ Drawn0 w w' := by
 have H : (if a0.toList = ([] : List UInt8) then (bound_Level.j0 k a0 true) else (if 0 < (a0.size : Int) then (bound_Level.j0 k a0 ((bt a0 0) == 0)) else (none))) = some r := h
 clear h
 have HC2 := Az.mk H
 clear H
 go_enter Try.func41, Try.ntmps41
 go_upto_region 1 with (fail)
 go_cut [3] (fun v3 wc => ∃ (kq : Nat) (x3_1 : Bool), v3 = .bool x3_1 ∧ Az (bound_Level.j0 kq a0 x3_1 = some r) ∧ Az (kq ≤ k) ∧ Drawn0 w wc)
 case first =>
  have H := HC2.out
  clear HC2
  by_cases c3 : a0.toList = ([] : List UInt8)
  ·rw [if_pos c3] at H
   have c3b0 : (a0.toList == ([] : List UInt8)) = true := beq_iff_eq.mpr c3
   have c3b1 : (a0.toList != ([] : List UInt8)) = false := bne_eq_false_iff_eq.mpr c3
   clear c3
   (first | rw [c3b0] | (simp only [i64_w, i32_w]; rw [c3b0]) | skip)
   have H' := Az.mk H
   clear H
   go_wp2
   go_meet
   case rel => exact ⟨_, (true), (by first | rfl | (simp; done) | (simp [*]; done)), H', ⟨by first | omega | exact Nat.le_refl _⟩, by repeat (first | exact Drawn0.refl _ | apply Drawn0.step)⟩
  ·rw [if_neg c3] at H
   have c3b0 : (a0.toList == ([] : List UInt8)) = false := beq_eq_false_iff_ne.mpr c3
   have c3b1 : (a0.toList != ([] : List UInt8)) = true := bne_iff_ne.mpr c3
   (first | rw [c3b0] | (simp only [i64_w, i32_w]; rw [c3b0]) | skip)
   by_cases c4 : 0 < (a0.size : Int)
   ·rw [if_pos c4] at H
    have c4b0 : decide (0 < (a0.size : Int)) = true := decide_eq_true c4
    have c4b1 : decide (0 < a0.size) = true := decide_eq_true (by omega)
    clear c4
    have H' := Az.mk H
    clear H
    have p5 : 0 ≤ (0 : Int) := (by omega)
    have q5 : 0 < a0.size := (by have : (0 : Int) < (a0.size : Int) := of_decide_eq_true (by first | (with_reducible assumption) | assumption); omega)
    have hx5 : ∀ h : 0 < a0.size, ((a0[0]'h).toNat : Int) = bt a0 0 := bt_at a0 0
    clear p5
    have qi5 : (0 < (a0.size : Int)) = True := eq_true (of_decide_eq_true (by first | (with_reducible assumption) | assumption))
    replace q5 := eq_true q5
    go_wp2
    go_meet
    case rel => exact ⟨_, (((bt a0 0) == 0)), (by first | rfl | (simp; done) | (simp [*]; done)), H', ⟨by first | omega | exact Nat.le_refl _⟩, by repeat (first | exact Drawn0.refl _ | apply Drawn0.step)⟩
   ·rw [if_neg c4] at H
    exact absurd H (by simp)
 case rest =>
  clear HC2
  try clear p2
  try clear c3
  try clear c3b0
  try clear c3b1
  try clear c4
  try clear c4b0
  try clear c4b1
  try clear p5
  try clear q5
  try clear hx5
  try clear qi5
  try clear p5
  try clear q5
  obtain ⟨kq, x3_1, rfl, HA, HJ1, ⟨mc1, rfl⟩⟩ := hcut
  cases kq with
  | zero => exact absurd HA.out (by simp [bound_Level.j0])
  | succ kj1 =>
   have H := HA.out
   clear HA
   simp only [bound_Level.j0] at H
   by_cases c6 : x3_1 = true
   ·subst c6
    rw [if_pos rfl] at H
    obtain rfl := Option.some.inj H
    go_wp2
    go_ret
    exact ⟨by first | rfl | (simp; done) | (simp [*]; done), by repeat (first | exact Drawn0.refl _ | apply Drawn0.step)⟩
   ·replace c6 := Bool.eq_false_iff.mpr c6
    subst c6
    rw [if_neg (show ¬ (false = true) by decide)] at H
    by_cases c7 : 0 < (a0.size : Int)
    ·rw [if_pos c7] at H
     have c7b0 : decide (0 < (a0.size : Int)) = true := decide_eq_true c7
     have c7b1 : decide (0 < a0.size) = true := decide_eq_true (by omega)
     clear c7
     by_cases c9 : (bt a0 0) ≤ 2
     ·rw [if_pos c9] at H
      have c9b0 : decide ((bt a0 0) ≤ 2) = true := decide_eq_true c9
      clear c9
      obtain rfl := Option.some.inj H
      have p8 : 0 ≤ (0 : Int) := (by omega)
      have q8 : 0 < a0.size := (by have : (0 : Int) < (a0.size : Int) := of_decide_eq_true (by first | (with_reducible assumption) | assumption); omega)
      have hx8 : ∀ h : 0 < a0.size, ((a0[0]'h).toNat : Int) = bt a0 0 := bt_at a0 0
      clear p8
      have qi8 : (0 < (a0.size : Int)) = True := eq_true (of_decide_eq_true (by first | (with_reducible assumption) | assumption))
      replace q8 := eq_true q8
      have p10 : 0 ≤ (0 : Int) := (by omega)
      have q10 : 0 < a0.size := (by have : (0 : Int) < (a0.size : Int) := of_decide_eq_true (by first | (with_reducible assumption) | assumption); omega)
      have hx10 : ∀ h : 0 < a0.size, ((a0[0]'h).toNat : Int) = bt a0 0 := bt_at a0 0
      clear p10
      have qi10 : (0 < (a0.size : Int)) = True := eq_true (of_decide_eq_true (by first | (with_reducible assumption) | assumption))
      replace q10 := eq_true q10
      go_wp2
      go_ret
      exact ⟨by first | rfl | (simp; done) | (simp [*]; done), by repeat (first | exact Drawn0.refl _ | apply Drawn0.step)⟩
     ·rw [if_neg c9] at H
      have c9b0 : decide ((bt a0 0) ≤ 2) = false := decide_eq_false c9
      clear c9
      obtain rfl := Option.some.inj H
      have p8 : 0 ≤ (0 : Int) := (by omega)
      have q8 : 0 < a0.size := (by have : (0 : Int) < (a0.size : Int) := of_decide_eq_true (by first | (with_reducible assumption) | assumption); omega)
      have hx8 : ∀ h : 0 < a0.size, ((a0[0]'h).toNat : Int) = bt a0 0 := bt_at a0 0
      clear p8
      have qi8 : (0 < (a0.size : Int)) = True := eq_true (of_decide_eq_true (by first | (with_reducible assumption) | assumption))
      replace q8 := eq_true q8
      go_wp2
      go_ret
      exact ⟨by first | rfl | (simp; done) | (simp [*]; done), by repeat (first | exact Drawn0.refl _ | apply Drawn0.step)⟩
    ·rw [if_neg c7] at H
     exact absurd H (by simp)
end Go.Proofs.Ytppdcldbebnmlaa.P
end
section
namespace Go.Proofs.Ytppdcldbebnmlaa.P
open Go.RowKit Go.Shelf Go.Proofs.Ytppdcldbebnmlaa.K Go.Proofs.YtppdcldbebnmlaaW.PrintWords Go.Proofs.YtppdcldbebnmlaaW.PrintLast Go.Proofs.YtppdcldbebnmlaaW.PrintMore
theorem toList_ne {key : ByteArray} {n : Nat} (hn : key.size = n + 1) : (key.toList == ([] : List UInt8)) = false := by
 rw [beq_eq_false_iff_ne, ByteArray.toList_eq]
 intro h
 have := congrArg List.length h
 rw [Array.length_toList] at this
 have e : key.data.size = key.size := rfl
 rw [e, hn] at this
 simp at this
set_option maxHeartbeats 4000000 in
set_option maxRecDepth 100000 in
theorem before_head (key : ByteArray) (n : Nat) (hn : key.size = n + 1) (hk : n ≤ 32) (v : Nat) (hv : ∀ h : n < key.size, (key[n]'h).toNat = v) (hq : v = 0 ∨ n = 32) (w : World) :
 Calls Try.prog 19 #[.string key] w fun e w' => e = .returned (.string (key.extract 0 n)) ∧ Below w.heap.size w w' := by
 have he1 := toList_ne hn
 have hwr : IntKind.i64.wrap (n : Int) = (n : Int) := IntWalk.i64_in _ (by omega)
 have hle : (n : Int) ≤ (n : Int) + 1 := by omega
 have hlt : (n : Int) < (n : Int) + 1 := by omega
 have h00 : (0 : Int) ≤ (n : Int) := by omega
 by_cases hz : v = 0
 ·subst hz
  go_enter Try.func19, Try.ntmps19
  go_wp2
  go_region
  all_goals
   go_wp2
   go_ret
   exact ⟨rfl, by (with_reducible repeat (first | apply below_drew | apply pbN)); exact Below.refl _ _⟩
 ·have hz2 : ((v : Int) == 0) = false := beq_eq_false_iff_ne.2 (by omega)
  have h32 : n = 32 := by omega
  subst h32
  go_enter Try.func19, Try.ntmps19
  go_wp2
  go_region
  all_goals
   go_wp2
   go_ret
   exact ⟨rfl, by (with_reducible repeat (first | apply below_drew | apply pbN)); exact Below.refl _ _⟩
/-- The greatest text of 32 bytes below one that ends in v. -/
def beforeS (key : ByteArray) (n v : Nat) : ByteArray := key.extract 0 n ++ strOfNums [(v : Int) - 1] ++ ⟨(Lib.repeatL [255] (31 - n)).toArray⟩
theorem conv_one (w W : World) (x : Int) (h : W.heap[w.heap.size]? = some (.cells #[.int .u8 x] 5 (0, 0))) : (convert 59 9 (.slice (some ⟨w.heap.size, 0, none⟩) 1 1)).run Try.prog W = .ok (.string (strOfNums [x])) W := by
 refine run_convert_bytes_arg W 59 5 Try.underlying59 Try.underlying5 w.heap.size 0 1 1 [x] rfl (fun i hi => ?_) 9 Try.underlying9
 obtain rfl : i = 0 := by omega
 have := bkC h 0
 simpa [Addr.add] using this
set_option maxHeartbeats 4000000 in
set_option maxRecDepth 100000 in
theorem before_down (key : ByteArray) (n : Nat) (hn : key.size = n + 1) (hk : n < 32) (v : Nat) (hv : ∀ h : n < key.size, (key[n]'h).toNat = v) (hq : 1 ≤ v) (hq2 : v ≤ 255) (w : World) :
 Calls Try.prog 19 #[.string key] w fun e w' => e = .returned (.string (beforeS key n v)) ∧ Below w.heap.size w w' := by
 have he1 := toList_ne hn
 have hwr : IntKind.i64.wrap (n : Int) = (n : Int) := IntWalk.i64_in _ (by omega)
 have hle : (n : Int) ≤ (n : Int) + 1 := by omega
 have hlt : (n : Int) < (n : Int) + 1 := by omega
 have h00 : (0 : Int) ≤ (n : Int) := by omega
 have hz2 : ((v : Int) == 0) = false := beq_eq_false_iff_ne.2 (by omega)
 have hn32 : decide ((32 : Int) ≤ (n : Int)) = false := decide_eq_false (by omega)
 have hn32' : ¬ (32 : Int) ≤ (n : Int) := by omega
 have hn33 : decide (32 ≤ n) = false := decide_eq_false (by omega)
 have hsz : (key.extract 0 n ++ strOfNums [(v : Int) - 1]).size = n + 1 := by
  rw [ByteArray.size_append, strOfNums_size, ByteArray.size_extract]
  simp only [List.length_cons, List.length_nil]
  omega
 have HR : ∀ W, Hid (Calls Try.prog 40 #[.string ⟨#[255]⟩, .int .i64 (32 - ((n : Int) + 1))] W fun e w' => e = .returned (.string ⟨(Lib.repeatL [255] (31 - n)).toArray⟩) ∧ Below W.heap.size W w') := fun W => by
  have h := Try.strings_Repeat ⟨#[255]⟩ (31 - n) W (by omega) (by show 1 * _ ≤ _; omega)
  rw [show ((31 - n : Nat) : Int) = 32 - ((n : Int) + 1) by omega] at h
  exact Lib.hid h
 have hT : (strOfNums [(v : Int) - 1]).size = 1 := by rw [strOfNums_size]; rfl
 have hE : (key.extract 0 n).size = n := by rw [ByteArray.size_extract]; omega
 have hZ : (⟨(Lib.repeatL [255] (31 - n)).toArray⟩ : ByteArray).size ≤ 31 := by
  have : ∀ m, (Lib.repeatL [255] m).length = m := fun m => by
   induction m with
   | zero => rfl
   | succ m ih => simp only [Lib.repeatL, List.length_append, List.length_cons, List.length_nil, ih]; omega
  show (Lib.repeatL [255] (31 - n)).toArray.size ≤ 31
  rw [List.size_toArray, this]; omega
 unfold beforeS
 have cv0 := conv_one w (w.alloc (.cells #[.int .u8 ((v : Int) - 1)] 5)) ((v : Int) - 1) (heap_alloc_new _ _)
 have cv1 := conv_one w (w.alloc (.cells #[.int .u8 ((v : Int) - 1)] 5)).drew ((v : Int) - 1) (heap_alloc_new _ _)
 have cv2 := conv_one w (w.alloc (.cells #[.int .u8 ((v : Int) - 1)] 5)).drew.drew ((v : Int) - 1) (heap_alloc_new _ _)
 have cv3 := conv_one w (w.alloc (.cells #[.int .u8 ((v : Int) - 1)] 5)).drew.drew.drew ((v : Int) - 1) (heap_alloc_new _ _)
 generalize strOfNums [(v : Int) - 1] = T at hsz hT cv0 cv1 cv2 cv3 ⊢
 generalize (⟨(Lib.repeatL [255] (31 - n)).toArray⟩ : ByteArray) = Z at HR hZ ⊢
 have hm1 : n + 1 ≤ 9223372036854775807 := by omega
 have hm2 : n + 1 + Z.size ≤ 9223372036854775807 := by omega
 have hm3 : (n : Int) + 1 + (Z.size : Int) ≤ 9223372036854775807 := by omega
 have hm4 : (n : Int) + 1 ≤ 9223372036854775807 := by omega
 go_enter Try.func19, Try.ntmps19
 go_wp2
 go_region
 all_goals
  go_wp2_with (go_at_call 40; refine (HR _).out.mono ?_; rintro e w' ⟨rfl, hb⟩)
  go_ret
  exact ⟨rfl, pbT (by (with_reducible repeat (first | apply below_drew | apply pbA | apply pbN)); exact Below.refl _ _) hb⟩
end Go.Proofs.Ytppdcldbebnmlaa.P
end
section
namespace Go.Proofs.Ytppdcldbebnmlaa.P
open Go.RowKit Go.Shelf Go.Proofs.Ytppdcldbebnmlaa.K Go.Proofs.YtppdcldbebnmlaaW.PrintWords Go.Proofs.YtppdcldbebnmlaaW.PrintLast Go.Proofs.YtppdcldbebnmlaaW.PrintMore
/-- What Learn makes of a list. -/
def Learnt (σ : RawD → List SM) (d : RawD) (l l' : List RawD) : Prop :=
 (l.any (later σ d) = true → l' = l) ∧ (l.any (later σ d) = false → l'.Perm (delF (dropP d) l ++ [d]) ∧ l'.Pairwise fun x y => lt y.f1 x.f1 = false)
/-- A slice that reads as raw descriptors. -/
def Reads (w : World) (l : List RawD) (v : Value) : Prop := ∃ A c, v = .slice A l.length c ∧ l.length ≤ c ∧ Kd.C kD w A l.length l
theorem Reads.of_R {w : World} {base : Nat} {ok : Nat → Prop} {v : Value} {l : List RawD} (h : Kd.R kD 27 w base ok v l) : Reads w l v := by
 obtain ⟨A, c, e, h1, h2⟩ := Kd.R_reads h
 exact ⟨A, c, e, h1, h2⟩
theorem Reads.below {w w1 : World} {l : List RawD} {v : Value} (h : Reads w l v) (hb : Below w.heap.size w w1) : Reads w1 l v := by
 obtain ⟨A, c, e, h1, h2⟩ := h
 exact ⟨A, c, e, h1, Kd.C_below h2 hb⟩
set_option maxHeartbeats 8000000 in
set_option maxRecDepth 100000 in
theorem learn_calls (σ : RawD → List SM) (A0 : Option Addr) (c0 : Nat) (l0 : List RawD) (d : RawD) (w : World) (hr0 : Kd.C kD w A0 l0.length l0) (hc0 : l0.length ≤ c0) (hl : l0.length ≤ 1000000) (hm : ∀ x ∈ l0, Mem σ w x ∧ (σ x).length ≤ 1000000000) (hd : Mem σ w d) :
 Calls Try.prog 13 #[.slice A0 l0.length c0, aggD d] w fun e w' => ∃ v l', e = .returned v ∧ Reads w' l' v ∧ Learnt σ d l0 l' ∧ Below w.heap.size w w' := by
 have HC := Lib.hid hr0
 have Hc0 := Lib.hid hc0
 clear hr0 hc0
 have hmf : ∀ (fn : Fn) (first cap : Array Value) (w : World), (Instr.makeFunc fn first cap).run Try.prog w = .ok (.func fn first cap) w := fun _ _ _ _ => rfl
 have eg1 : ∀ args w, (callFunc 28 args).run Try.prog w = .ok (.enter 28 args) w := enters_of Try.func28 (by kernel_rfl) rfl
 have eg2 : ∀ args w, (callFunc 34 args).run Try.prog w = .ok (.enter 34 args) w := enters_of Try.func34 (by kernel_rfl) rfl
 have hu := Try.underlying27
 obtain ⟨W0, hW0⟩ : ∃ W0, W0 = w.alloc (.cells (encD d).toArray 27) := ⟨_, rfl⟩
 have hb0 : Below w.heap.size w W0 := by rw [hW0]; exact pbA (Below.refl _ _) _
 have hs0 : W0.heap.size = w.heap.size + 1 := by rw [hW0]; simp
 have hB0 : W0.heap[w.heap.size]? = some (.cells (encD d).toArray 27 (0, 0)) := by rw [hW0]; exact heap_alloc_new _ _
 have hI := containsD_calls (later σ d) 28 #[.pointer (some ⟨w.heap.size, 0, none⟩)] eg1 A0 c0 l0 W0 (Kd.C_below HC.out hb0) (by omega) (fun W x hx hb => pred_later σ w.heap.size d W x ((((hm x hx).1).below hb0).below hb) ((hd.below hb0).below hb) (hm x hx).2 (bkB hB0 hb))
 rw [hW0] at hI
 unfold encD at hI
 have HI := Lib.hid hI
 clear hI
 cases hany : l0.any (later σ d)
 ·rw [hany] at HI
  have HK : ∀ W, Below w.heap.size w W → Hid (Calls Try.prog 33 #[.slice A0 l0.length c0] W fun e w' => ∃ v : Value, e = .returned v ∧ Kd.R kD 27 w' W.heap.size (fun _ => True) v l0 ∧ Below W.heap.size W w') := fun W hW => Lib.hid (cloneD_calls A0 c0 l0 W (Kd.C_below HC.out hW) (by omega))
  have HD : ∀ W v, Kd.R kD 27 W (w.heap.size + 1) (fun _ => True) v l0 → W.heap[w.heap.size]? = some (.cells (encD d).toArray 27 (0, 0)) → Hid (Calls Try.prog 32 #[v, .func (.func 34) #[] #[.pointer (some ⟨w.heap.size, 0, none⟩)]] W fun e w' => ∃ v', e = .returned v' ∧ Kd.R kD 27 w' (w.heap.size + 1) (fun _ => True) v' (delF (dropP d) l0) ∧ v'.ownBlock = v.ownBlock ∧ W.grownBy w' v.ownBlock) := fun W v hR hx =>
   Lib.hid (deleteD_calls _ _ _ eg2 (w.heap.size + 1) (fun _ => True) v l0 W hR (by omega) (fun W' x _ hg => pred_drop w.heap.size d W' x ((hg.block _ (blk_lt hx) (fun e => by have := Kd.R_base hR _ e.symm; omega)).trans hx)))
  have hdl : (delF (dropP d) l0).length ≤ l0.length := List.length_filter_le _ _
  have Hfin : ∀ l', l'.Perm (delF (dropP d) l0 ++ [d]) → (l'.Pairwise fun x y => lt y.f1 x.f1 = false) → Learnt σ d l0 l' := fun l' h1 h2 => ⟨(fun h => by rw [hany] at h; cases h), fun _ => ⟨h1, h2⟩⟩
  replace Hfin := Lib.hid Hfin
  clear hm hd hany
  generalize hL : delF (dropP d) l0 = L at HD hdl Hfin
  have Hs0 := Lib.hid hs0
  have Hb0 := Lib.hid hb0
  have HB0 := Lib.hid hB0
  have HW0 := Lib.hid hW0
  clear hs0 hb0 hB0 hW0 hL
  have HL : Hid (L.length ≤ 1000000) := Lib.hid (by omega)
  clear hdl
  unfold aggD
  go_enter Try.func13, Try.ntmps13
  go_wp2_with (first | (go_at_call 31; refine HI.out.mono ?_; rintro e w1 ⟨rfl, hb1⟩; have HB1 := Lib.hid (pbT (pbA (Below.refl _ _) _) hb1); have HX1 := Lib.hid (bkB (heap_alloc_new w _) hb1); have HS1 : Hid (w.heap.size + 1 ≤ w1.heap.size) := Lib.hid (by have := hb1.size; simp at this; exact this); clear hb1) | (go_at_call 33; refine (HK _ HB1.out).out.mono ?_; rintro e w2 ⟨v2, rfl, hR2, hb2⟩; have HR2 := Lib.hid (Kd.R_lower hR2 HS1.out); have HB2 := Lib.hid (pbT HB1.out hb2); have HX2 := Lib.hid (bkB HX1.out hb2); have HS2 := Lib.hid (Nat.le_trans HS1.out hb2.size); clear hR2 hb2) | (go_at_call 32; refine (HD _ _ HR2.out HX2.out).out.mono ?_; rintro e w3 ⟨v3, rfl, hR3, ho3, hg3⟩; have BX : w3.heap[w.heap.size]? = some (.cells (encD d).toArray 27 (0, 0)) := (hg3.block _ (Nat.lt_of_lt_of_le (Nat.lt_succ_self _) HS2.out) (fun e => by have := Kd.R_base HR2.out _ e.symm; omega)).trans HX2.out; have d0 : w3.cell? ⟨w.heap.size, 0, none⟩ = some (.int .i64 d.f0) := (bkC BX 0).trans rfl; have d1 : w3.cell? ⟨w.heap.size, 1, none⟩ = some (.string d.f1) := (bkC BX 1).trans rfl; have d2 : w3.cell? ⟨w.heap.size, 2, none⟩ = some (.string d.f2) := (bkC BX 2).trans rfl; have d3 : w3.cell? ⟨w.heap.size, 3, none⟩ = some (.int .i64 d.f3) := (bkC BX 3).trans rfl; have d4 : w3.cell? ⟨w.heap.size, 4, none⟩ = some (.slice d.a4 d.n4 d.c4) := (bkC BX 4).trans rfl; have d5 : w3.cell? ⟨w.heap.size, 5, none⟩ = some (.int .i64 d.f5) := (bkC BX 5).trans rfl; have HB3 := Lib.hid (pw_below_grown HB2.out _ (Nat.le_trans (Nat.le_succ _) HS2.out) hg3 (fun k hk => by have := Kd.R_base HR2.out k hk; omega)); have HR3 := Lib.hid (Kd.R_lower hR3 (Nat.le_succ _)); have HS3 := Lib.hid (Nat.le_trans HS2.out hg3.size); clear hR3 ho3 hg3 BX) | ((with_reducible refine gate_builtin (b := .append) (xs := #[.tmp 16, .tmp 18]) rfl ?_); at_builtin; refine Kd.R_append kD (w0 := w) w.heap.size rfl (.tmp 16) (.tmp 18) 22 27 (.agg #[.int .i64 0, .string ⟨#[]⟩, .string ⟨#[]⟩, .int .i64 0, .slice none 0 0, .int .i64 0]) 80 rfl Try.underlying22 infoD rfl (by decide) (by omega) v3 L d (encD d) (fun _ => True) (fun _ => False) rfl rfl rfl (fun _ h => h.elim) (fun _ _ => trivial) HR3.out HB3.out (Nat.le_trans (Nat.le_succ _) HS3.out) ?aL ?_; (case aL => have := HL.out; omega); intro v4 w4 hR4 hb4 _ _; obtain ⟨g4, cap4, e4, _⟩ := Kd.R_form hR4 (by simp); obtain ⟨N4, hN4⟩ : ∃ N, N = (L ++ [d]).length := ⟨_, rfl⟩; rw [← hN4] at e4; subst e4; clear hN4; have HR4 := Lib.hid hR4; have HB4 := Lib.hid hb4; clear hR4 hb4) | (go_at_call 35; refine (sort_calls HR4.out (by have := HL.out; rw [List.length_append]; simp; omega)).mono ?_; rintro e w5 ⟨rfl, l5, hp5, hs5, hR5, hg5⟩; have HR5 := Lib.hid hR5; have HG5 := Lib.hid hg5; have HP5 := Lib.hid hp5; have HS5 := Lib.hid hs5; clear hR5 hg5 hp5 hs5) | go_in)
  go_ret
  refine ⟨_, l5, rfl, Reads.of_R HR5.out, Hfin.out l5 HP5.out HS5.out, ?_⟩
  exact pw_below_grown HB4.out _ HB4.out.size HG5.out (fun k hk => Kd.R_base HR4.out k hk)
 ·rw [hany] at HI
  unfold aggD
  have Hfin : Learnt σ d l0 l0 := ⟨fun _ => rfl, (fun h => by rw [hany] at h; cases h)⟩
  have HF := Lib.hid Hfin
  clear hm hd hany hs0 hb0 hB0 hW0 Hfin
  go_enter Try.func13, Try.ntmps13
  go_wp2_with (go_at_call 31; refine HI.out.mono ?_; rintro e w1 ⟨rfl, hb1⟩)
  go_ret
  have hB := pbT (pbA (Below.refl _ _) _) hb1
  exact ⟨_, l0, rfl, ⟨A0, c0, rfl, Hc0.out, Kd.C_below HC.out hB⟩, HF.out, hB⟩
end Go.Proofs.Ytppdcldbebnmlaa.P
end
section
namespace Go.Proofs.Ytppdcldbebnmlaa.P
open Go.RowKit Go.Proofs.Ytppdcldbebnmlaa.K Go.Proofs.YtppdcldbebnmlaaW.PrintWords Go.Proofs.YtppdcldbebnmlaaW.PrintLast Go.Proofs.YtppdcldbebnmlaaW.PrintMore
attribute [local go_sem] max2_int min2_int max_two min_two max_three min_three max_four min_four   -- for this text's walks alone
def l18_one.f (a0 : Int) (a1 : Int) (a2 : ByteArray) (a3 : ByteArray) : Option (Int × ByteArray × ByteArray × Int × (List (S47)) × Int) := some (a0, a2, a3, a1, (([(⟨1, 1⟩ : S47)] : List (S47))), 2)
set_option maxHeartbeats 8000000 in
set_option maxRecDepth 100000 in
theorem l18_one.calls (a0 : Int) (a1 : Int) (a2 : ByteArray) (a3 : ByteArray) (r1 : Int) (r2 : ByteArray) (r3 : ByteArray) (r4 : Int) (r5 : List (S47)) (r6 : Int) (w : World) (h : l18_one.f a0 a1 a2 a3 = some (r1, r2, r3, r4, r5, r6)) :
 Calls Try.prog 23 #[.int .i64 a0, .int .i64 a1, .string a2, .string a3] w fun e w' => ∃ v4_ : Value, e = .returned (.agg #[.int .i64 r1, .string r2, .string r3, .int .i64 r4, v4_, .int .i64 r6]) ∧ Kd.R k47 47 w' w.heap.size (fun _ => True) v4_ r5 ∧ Below w.heap.size w w' := by
 have hu27 := Try.underlying27
 have hu24 := Try.underlying24
 have hu47 := Try.underlying47
 have HB := Az.mk (Below.refl w.heap.size w)
 have H : (some (a0, a2, a3, a1, (([(⟨1, 1⟩ : S47)] : List (S47))), 2)) = some (r1, r2, r3, r4, r5, r6) := h
 clear h
 obtain ⟨y155, hy155⟩ : ∃ y_ : List (S47), y_ = (([(⟨1, 1⟩ : S47)] : List (S47))) := ⟨_, rfl⟩
 replace H : (some (a0, a2, a3, a1, y155, 2)) = some (r1, r2, r3, r4, r5, r6) := by first | (rw [hy155]; with_reducible exact H) | (have H2_ := (Option.bind_some _ _).symm.trans H; rw [hy155]; with_reducible exact H2_) | (have H2_ := (Option.bind_some _ _).symm.trans H; with_reducible exact H2_) | with_reducible exact H | (rw [hy155]; exact H) | exact H
 have Ny155 := Az.mk hy155
 clear hy155
 simp only [Option.some.injEq, Prod.mk.injEq] at H
 obtain ⟨rfl, rfl, rfl, rfl, rfl, rfl⟩ := H
 go_enter Try.func23, Try.ntmps23
 go_wp2_with (first | ((with_reducible refine gate_dst (N := 8) rfl ?_); refine box_event ?hg (N := 8) ?hd (cs := #[.int .i64 0, .string (⟨#[]⟩ : ByteArray), .string (⟨#[]⟩ : ByteArray), .int .i64 0, .slice none 0 0, .int .i64 0]) (t := 27) ?hr ?_; (case hd => rfl); (case hg => rfl); (case hr => first | (go_simp; done) | (go_simp; rfl)); intro gb154 hg w5 hbox hb; have BK154 := Az.mk (hbox); have GW154 := Az.mk (geO hg (pbE HB.out)); have GE154 := Az.mk (geO hg (pbE HB.out)); replace HB := Az.mk (pbT (by exact pbE HB.out) hb); clear hb hbox hg) | ((with_reducible refine gate_dst (N := 15) rfl ?_); refine Kd.R_lit k47 _ 47 ?hg (N := 15) ?hd (xs := ([(⟨1, 1⟩ : S47)] : List (S47))) (inner := [.int .i64 1, .int .i64 1]) (ok := fun _ => True) (okp := fun _ => True) ?hr ?hp (fun _ hk => hk) trivial (Below.refl _ _) (Nat.le_refl _) (by simp) ?_; (case hd => rfl); (case hg => rfl); (case hr => first | (go_simp; done) | (go_simp; rfl)); (case hp => exact (Reps.c2 (show Kd.M k47 _ _ _ (⟨1, 1⟩ : S47) [.int .i64 1, .int .i64 1] from (k47_mkM _ _ _ (⟨1, 1⟩ : S47) )) (Reps.none _ _))); intro v156 w6 ho7 hb hg_ hnew_; clear hg_ hnew_; (first | rw [← Ny155.out] at ho7 | (simp only [Int.reduceToNat] at ho7; rw [← Ny155.out] at ho7)); have HO157 := Az.mk (Kd.R_lower ho7 (pbZ (by exact pbE HB.out))); replace BK154 := Az.mk (bkB (bk BK154.out) hb); replace HB := Az.mk (pbT (by exact pbE HB.out) hb); clear hb ho7; obtain ⟨Ao8, co8, eo8⟩ := Kd.R_slice HO157.out; subst eo8; have hcz9 := cells6 BK154.out))
 refine bodyPost_ret (results_cell_row rfl _ _ gb154 27 #[.int .i64 a0, .string a2, .string a3, .int .i64 a1, .slice Ao8 y155.length co8, .int .i64 2] (0, 0) _ rfl (by refine bk ?_; refine blk_put (cs := #[.int .i64 a0, .string a2, .string a3, .int .i64 a1, .slice Ao8 y155.length co8, .int .i64 0]) ?_ 5 _ rfl; refine bk ?_; refine blk_put (cs := #[.int .i64 a0, .string a2, .string a3, .int .i64 a1, .slice none 0 0, .int .i64 0]) ?_ 4 _ rfl; refine bk ?_; refine blk_put (cs := #[.int .i64 a0, .string a2, .string a3, .int .i64 0, .slice none 0 0, .int .i64 0]) ?_ 3 _ rfl; refine bk ?_; refine blk_put (cs := #[.int .i64 a0, .string a2, .string (⟨#[]⟩ : ByteArray), .int .i64 0, .slice none 0 0, .int .i64 0]) ?_ 2 _ rfl; refine bk ?_; refine blk_put (cs := #[.int .i64 a0, .string (⟨#[]⟩ : ByteArray), .string (⟨#[]⟩ : ByteArray), .int .i64 0, .slice none 0 0, .int .i64 0]) ?_ 1 _ rfl; refine bk ?_; refine blk_put (cs := #[.int .i64 0, .string (⟨#[]⟩ : ByteArray), .string (⟨#[]⟩ : ByteArray), .int .i64 0, .slice none 0 0, .int .i64 0]) ?_ 0 _ rfl; refine bk ?_; exact BK154.out) Try.underlying27 rfl (by kernel_rfl)) rfl ?_
 exact ⟨_, by first | rfl | (simp [errW_none, errW_some] <;> rfl) | (simp [*, errW_none, errW_some] <;> rfl), by (with_reducible repeat (first | apply Kd.R_alloc | apply Kd.R_drewN | apply Kd.R_drew)); exact Kd.R_mono (Kd.R_far (p := ⟨gb154, 5, none⟩) (Kd.R_far (p := ⟨gb154, 4, none⟩) (Kd.R_far (p := ⟨gb154, 3, none⟩) (Kd.R_far (p := ⟨gb154, 2, none⟩) (Kd.R_far (p := ⟨gb154, 1, none⟩) (Kd.R_far (p := ⟨gb154, 0, none⟩) (Kd.R_types HO157.out BK154.out (by decide)) (fun _ hk => hk.2) (.int .i64 a0)) (fun _ hk => hk.2) (.string a2)) (fun _ hk => hk.2) (.string a3)) (fun _ hk => hk.2) (.int .i64 a1)) (fun _ hk => hk.2) (.slice Ao8 y155.length co8)) (fun _ hk => hk.2) (.int .i64 2)) (fun _ hk => trivial), by exact pbE HB.out⟩
end Go.Proofs.Ytppdcldbebnmlaa.P
end
section
namespace Go.Proofs.Ytppdcldbebnmlaa.P
open Go.RowKit Go.Shelf Go.Proofs.Ytppdcldbebnmlaa.K Go.Proofs.YtppdcldbebnmlaaW.PrintWords Go.Proofs.YtppdcldbebnmlaaW.PrintLast Go.Proofs.YtppdcldbebnmlaaW.PrintMore
def sM : ByteArray := ⟨#[109]⟩
theorem level_m : bound_Level.f 2 ⟨#[109]⟩ = some 0 := by
 have e : bt ⟨#[109]⟩ 0 = 109 := by decide
 have h0 : (⟨#[109]⟩ : ByteArray).toList ≠ [] := by
  intro h
  have : (⟨#[109]⟩ : ByteArray).toList = [109] := by rw [ByteArray.toList_eq]
  rw [this] at h; cases h
 unfold bound_Level.f
 rw [if_neg h0, if_pos (by decide), e, bound_Level.j0, if_neg (by decide), if_pos (by decide), e, if_neg (by decide)]
theorem two_put {w1 : World} {B : Nat} {t : TypeId} {x y u0 u1 : Value} (BL : w1.heap[B]? = some (.cells #[u0, u1] t (0, 0))) : ((w1.setCell ⟨B, 0, none⟩ x).setCell ⟨B, 1, none⟩ y).heap[B]? = some (.cells #[x, y] t (0, 0)) := by
 refine blk_put (cs := #[x, u1]) ?_ 1 _ rfl
 exact blk_put (cs := #[u0, u1]) BL 0 _ rfl
set_option maxHeartbeats 4000000 in
set_option maxRecDepth 100000 in
theorem search_m (w : World) : Calls Try.prog 42 #[.int .i64 2, .string ⟨#[109]⟩] w fun e w' => e = .returned (.agg #[.string ⟨#[2, 109, 0]⟩, .string ⟨#[3]⟩]) ∧ Below w.heap.size w w' := by
 have k2 : ∀ W, (convert 3 21 (.int .i64 2)).run Try.prog W = .ok (.int .i32 2) W := fun W => by kernel_rfl
 have k3 : ∀ W, (convert 3 21 (.int .i64 3)).run Try.prog W = .ok (.int .i32 3) W := fun W => by kernel_rfl
 have s2 : ∀ W, (convert 21 9 (.int .i32 2)).run Try.prog W = .ok (.string ⟨#[2]⟩) W := fun W => by kernel_rfl
 have s3 : ∀ W, (convert 21 9 (.int .i32 3)).run Try.prog W = .ok (.string ⟨#[3]⟩) W := fun W => by kernel_rfl
 have hc : (⟨#[2]⟩ ++ ⟨#[109]⟩ ++ ⟨#[0]⟩ : ByteArray) = ⟨#[2, 109, 0]⟩ := by decide
 rw [← hc]
 go_enter Try.func42, Try.ntmps42
 go_wp2
 refine bodyPost_ret (results_cell_row rfl _ _ w.heap.size 24 #[.string (⟨#[2]⟩ ++ ⟨#[109]⟩ ++ ⟨#[0]⟩), .string ⟨#[3]⟩] (0, 0) _ rfl (heap_alloc_new _ _) Try.underlying24 rfl (by kernel_rfl)) rfl ?_
 exact ⟨rfl, pbA (Below.refl _ _) _⟩
set_option maxHeartbeats 4000000 in
set_option maxRecDepth 100000 in
theorem seek_m (w : World) : Calls Try.prog 24 #[.string ⟨#[109]⟩] w fun e w' => e = .returned (.tuple #[.int .i64 2, .agg #[.string ⟨#[2, 109, 0]⟩, .string ⟨#[3]⟩]]) ∧ Below w.heap.size w w' := by
 have hL : ∀ W, Hid (Calls Try.prog 41 #[.string ⟨#[109]⟩] W fun e w' => e = .returned (.int .i64 0) ∧ Drawn0 W w') := fun W => Lib.hid (bound_Level.calls 2 _ _ W level_m)
 have hS : ∀ W, Hid (Calls Try.prog 42 #[.int .i64 2, .string ⟨#[109]⟩] W fun e w' => e = .returned (.agg #[.string ⟨#[2, 109, 0]⟩, .string ⟨#[3]⟩]) ∧ Below W.heap.size W w') := fun W => Lib.hid (search_m W)
 go_enter Try.func24, Try.ntmps24
 go_wp2_with (first | (go_at_call 41; refine (hL _).out.mono ?_; rintro e w1 ⟨rfl, ⟨nd, rfl⟩⟩) | (go_at_call 42; refine (hS _).out.mono ?_; rintro e w2 ⟨rfl, hb⟩; have BL := bkB (bkN (heap_alloc_new w _) nd) hb; have f0 := bkF BL 0; have f1 := bkF BL 1; have y0 := (bkC BL 0).trans rfl; have y1 := (bkC BL 1).trans rfl) | go_in)
 refine bodyPost_ret (results_tc rfl _ _ w.heap.size 24 #[.string ⟨#[2, 109, 0]⟩, .string ⟨#[3]⟩] (0, 0) _ rfl (two_put BL) Try.underlying24 rfl (by kernel_rfl)) rfl ?_
 exact ⟨rfl, ((pbT (pbN (pbA (Below.refl _ _) _) nd) hb).setCell (Nat.le_refl _) _).setCell (Nat.le_refl _) _⟩
def sig1 : RawD → List SM := fun _ => [⟨1, 1⟩]
theorem one_raw (id gen : Int) (f t : ByteArray) (w : World) : Calls Try.prog 23 #[.int .i64 id, .int .i64 gen, .string f, .string t] w fun e w' => ∃ x : RawD, e = .returned (aggD x) ∧ (x.f0 = id ∧ x.f1 = f ∧ x.f2 = t ∧ x.f3 = gen) ∧ Mem sig1 w' x ∧ Below w.heap.size w w' := by
 refine (l18_one.calls id gen f t _ _ _ _ _ _ w rfl).mono ?_
 rintro e w' ⟨v, rfl, hR, hb⟩
 obtain ⟨A, c, rfl, h1, h2⟩ := Kd.R_reads hR
 exact ⟨⟨id, f, t, gen, A, 1, c, 2⟩, rfl, ⟨rfl, rfl, rfl, rfl⟩, ⟨h2, h1⟩, hb⟩
theorem meet_1 : meetB ⟨#[]⟩ ⟨#[]⟩ ⟨#[109]⟩ ⟨#[]⟩ = true := by
 unfold meetB boundOk endsB lt; simp only [ByteArray.toList_eq]; decide
theorem meet_2 : meetB ⟨#[109]⟩ ⟨#[]⟩ ⟨#[]⟩ ⟨#[]⟩ = true := by
 unfold meetB boundOk endsB lt; simp only [ByteArray.toList_eq]; decide
theorem has_z : hasB ⟨#[109]⟩ ⟨#[]⟩ ⟨#[122]⟩ = true := by
 unfold hasB endsB lt; simp only [ByteArray.toList_eq]; decide
theorem has_a : hasB ⟨#[109]⟩ ⟨#[]⟩ ⟨#[97]⟩ = false := by
 unfold hasB endsB lt; simp only [ByteArray.toList_eq]; decide
theorem perm_one {d : RawD} {l : List RawD} (h : l.Perm ([] ++ [d])) : l = [d] := List.perm_singleton.1 h
theorem learn1 (x : RawD) (w : World) (hx : Mem sig1 w x) : Calls Try.prog 13 #[.slice none 0 0, aggD x] w fun e w' => ∃ v, e = .returned v ∧ Reads w' [x] v ∧ Below w.heap.size w w' := by
 refine (learn_calls sig1 none 0 [] x w (Kd.C_nil _ _) (Nat.le_refl _) (by simp) (fun y hy => by simp at hy) hx).mono ?_
 rintro e w' ⟨v, l', rfl, hr, ⟨_, h2⟩, hb⟩
 obtain rfl := perm_one (h2 rfl).1
 exact ⟨v, rfl, hr, hb⟩
theorem learn2 (x y : RawD) (v : Value) (w : World) (hv : Reads w [x] v) (hx : Mem sig1 w x) (hy : Mem sig1 w y) (h1 : x.f0 = 1 ∧ x.f1 = ⟨#[]⟩ ∧ x.f2 = ⟨#[]⟩ ∧ x.f3 = 1) (h2 : y.f0 = 2 ∧ y.f1 = ⟨#[109]⟩ ∧ y.f2 = ⟨#[]⟩ ∧ y.f3 = 2) : Calls Try.prog 13 #[v, aggD y] w fun e w' => ∃ v, e = .returned v ∧ Reads w' [y] v ∧ Below w.heap.size w w' := by
 obtain ⟨A, c, rfl, hc, hC⟩ := hv
 refine (learn_calls sig1 A c [x] y w hC hc (by simp) (fun z hz => by obtain rfl := List.mem_singleton.1 hz; exact ⟨hx, by show 1 ≤ _; omega⟩) hy).mono ?_
 rintro e w' ⟨v, l', rfl, hr, ⟨_, h3⟩, hb⟩
 obtain ⟨a1, a2, a3, a4⟩ := h1
 obtain ⟨b1, b2, b3, b4⟩ := h2
 have hl : [x].any (later sig1 y) = false := by
  simp only [List.any_cons, List.any_nil, Bool.or_false]
  unfold later
  rw [a1, a2, a3, a4, b1, b2, b3, b4, meet_1]; rfl
 have hd : delF (dropP y) [x] = [] := by
  have : dropP y x = true := by
   unfold dropP
   rw [a1, a2, a3, b1, b2, b3]
   rw [meet_1]; rfl
  unfold delF
  rw [List.filter_cons_of_neg (by rw [this]; simp), List.filter_nil]
 have h4 := (h3 hl).1
 rw [hd] at h4
 obtain rfl := perm_one h4
 exact ⟨v, rfl, hr, hb⟩
theorem learn3 (x y : RawD) (v : Value) (w : World) (hv : Reads w [x] v) (hx : Mem sig1 w x) (hy : Mem sig1 w y) (h1 : x.f0 = 2 ∧ x.f1 = ⟨#[109]⟩ ∧ x.f2 = ⟨#[]⟩ ∧ x.f3 = 2) (h2 : y.f0 = 1 ∧ y.f1 = ⟨#[]⟩ ∧ y.f2 = ⟨#[]⟩ ∧ y.f3 = 1) : Calls Try.prog 13 #[v, aggD y] w fun e w' => ∃ A c, e = .returned (.slice A 1 c) ∧ Below w.heap.size w w' := by
 obtain ⟨A, c, rfl, hc, hC⟩ := hv
 refine (learn_calls sig1 A c [x] y w hC hc (by simp) (fun z hz => by obtain rfl := List.mem_singleton.1 hz; exact ⟨hx, by show 1 ≤ _; omega⟩) hy).mono ?_
 rintro e w' ⟨v, l', rfl, hr, ⟨h3, _⟩, hb⟩
 obtain ⟨a1, a2, a3, a4⟩ := h1
 obtain ⟨b1, b2, b3, b4⟩ := h2
 have hl : [x].any (later sig1 y) = true := by
  simp only [List.any_cons, List.any_nil, Bool.or_false]
  unfold later
  rw [a1, a2, a3, a4, b1, b2, b3, b4]
  rw [meet_2]; rfl
 obtain rfl := h3 hl
 obtain ⟨A', c', rfl, _, _⟩ := hr
 exact ⟨A', c', rfl, hb⟩
theorem find_z (x : RawD) (v : Value) (w : World) (hv : Reads w [x] v) (h1 : x.f0 = 2 ∧ x.f1 = ⟨#[109]⟩ ∧ x.f2 = ⟨#[]⟩ ∧ x.f3 = 2) : Calls Try.prog 10 #[v, .string ⟨#[122]⟩] w fun e w' => e = .returned (.tuple #[.agg #[.int .i64 2, .string x.f1, .string x.f2, .int .i64 x.f3, .slice x.a4 x.n4 x.c4, .int .i64 x.f5], .bool true]) ∧ Below w.heap.size w w' := by
 obtain ⟨A, c, rfl, hc, hC⟩ := hv
 refine (find_calls A c [x] ⟨#[122]⟩ w hC (by simp)).mono ?_
 rintro e w' ⟨rfl, hb⟩
 refine ⟨?_, hb⟩
 obtain ⟨a1, a2, a3, a4⟩ := h1
 have : hasB x.f1 x.f2 ⟨#[122]⟩ = true := by rw [a2, a3]; exact has_z
 rw [List.find?_cons_of_pos (by exact this)]
 show Ending.returned (.tuple #[.agg #[.int .i64 x.f0, .string x.f1, .string x.f2, .int .i64 x.f3, .slice x.a4 x.n4 x.c4, .int .i64 x.f5], .bool true]) = _
 rw [a1]
theorem find_a (x : RawD) (v : Value) (w : World) (hv : Reads w [x] v) (h1 : x.f0 = 2 ∧ x.f1 = ⟨#[109]⟩ ∧ x.f2 = ⟨#[]⟩ ∧ x.f3 = 2) : Calls Try.prog 10 #[v, .string ⟨#[97]⟩] w fun e w' => e = .returned (.tuple #[.agg #[.int .i64 0, .string ⟨#[]⟩, .string ⟨#[]⟩, .int .i64 0, .slice none 0 0, .int .i64 0], .bool false]) ∧ Below w.heap.size w w' := by
 obtain ⟨A, c, rfl, hc, hC⟩ := hv
 refine (find_calls A c [x] ⟨#[97]⟩ w hC (by simp)).mono ?_
 rintro e w' ⟨rfl, hb⟩
 refine ⟨?_, hb⟩
 obtain ⟨a1, a2, a3, a4⟩ := h1
 have : hasB x.f1 x.f2 ⟨#[97]⟩ = false := by rw [a2, a3]; exact has_a
 rw [List.find?_cons_of_neg (by rw [this]; simp), List.find?_nil]
 rfl
theorem forget_2 (x : RawD) (v : Value) (w : World) (hv : Reads w [x] v) (h1 : x.f0 = 2 ∧ x.f1 = ⟨#[109]⟩ ∧ x.f2 = ⟨#[]⟩ ∧ x.f3 = 2) : Calls Try.prog 15 #[v, .int .i64 2] w fun e w' => ∃ A c, e = .returned (.slice A 0 c) ∧ Below w.heap.size w w' := by
 obtain ⟨A, c, rfl, hc, hC⟩ := hv
 refine (forget_calls A c [x] 2 w hC (by simp)).mono ?_
 rintro e w' ⟨v, rfl, hR, hb⟩
 have hd : delF (fun y : RawD => y.f0 == 2) [x] = [] := by
  unfold delF
  rw [List.filter_cons_of_neg (by simp [h1.1]), List.filter_nil]
 rw [hd] at hR
 obtain ⟨A', c', rfl⟩ := Kd.R_slice hR
 exact ⟨A', c', rfl, hb⟩
theorem before_m (w : World) : Calls Try.prog 19 #[.string ⟨#[109]⟩] w fun e w' => ∃ s : ByteArray, e = .returned (.string s) ∧ s.size = 32 ∧ (∀ h : 0 < s.size, (s[0]'h).toNat = 108) ∧ Below w.heap.size w w' := by
 refine (before_down ⟨#[109]⟩ 0 rfl (by omega) 109 (fun _ => rfl) (by omega) (by omega) w).mono ?_
 rintro e w' ⟨rfl, hb⟩
 exact ⟨_, rfl, by rfl, fun _ => by rfl, hb⟩
theorem before_m0 (w : World) : Calls Try.prog 19 #[.string ⟨#[109, 0]⟩] w fun e w' => e = .returned (.string ⟨#[109]⟩) ∧ Below w.heap.size w w' := by
 have := before_head ⟨#[109, 0]⟩ 1 rfl (by omega) 0 (fun _ => rfl) (.inl rfl) w
 have e : (⟨#[109, 0]⟩ : ByteArray).extract 0 1 = ⟨#[109]⟩ := by decide
 rw [e] at this
 exact this
set_option maxHeartbeats 8000000 in
set_option maxRecDepth 100000 in
theorem live_calls (w : World) : Calls Try.prog 9 #[] w fun e w' => e = .returned (.bool true) ∧ Below w.heap.size w w' := by
 have hu := Try.underlying27
 have hu2 := Try.underlying24
 go_enter Try.func9, Try.ntmps9
 go_wp2_with fail
 refine (one_raw _ _ _ _ _).mono ?_
 rintro e w1 ⟨x1, rfl, hx1, hm1, hb1⟩
 have HX1 := Lib.hid hx1; have HM1 := Lib.hid hm1; have HB1 := Lib.hid hb1
 clear hx1 hm1 hb1
 go_wp2_with fail
 refine (learn1 x1 w1 HM1.out).mono ?_
 rintro e w2 ⟨v2, rfl, hr2, hb2⟩
 have HR2 := Lib.hid hr2; have HM1 := Lib.hid (HM1.out.below hb2); have HB2 := Lib.hid (pbT HB1.out hb2)
 clear hr2 hb2
 go_wp2_with fail
 refine (one_raw _ _ _ _ _).mono ?_
 rintro e w3 ⟨x2, rfl, hx2, hm2, hb3⟩
 have HX2 := Lib.hid hx2; have HM2 := Lib.hid hm2; have HR3 := Lib.hid (HR2.out.below hb3); have HM1 := Lib.hid (HM1.out.below hb3); have HB3 := Lib.hid (pbT HB2.out hb3)
 clear hx2 hm2 hb3
 go_wp2_with fail
 refine (learn2 x1 x2 v2 w3 HR3.out HM1.out HM2.out HX1.out HX2.out).mono ?_
 rintro e w4 ⟨v4, rfl, hr4, hb4⟩
 have HR4 := Lib.hid hr4; have HM2 := Lib.hid (HM2.out.below hb4); have HB4 := Lib.hid (pbT HB3.out hb4)
 clear hr4 hb4
 go_wp2_with fail
 refine (find_z x2 v4 w4 HR4.out HX2.out).mono ?_
 rintro e w5 ⟨rfl, hb5⟩
 have HR5 := Lib.hid (HR4.out.below hb5); have HM2 := Lib.hid (HM2.out.below hb5); have HB5 := Lib.hid (pbT HB4.out hb5)
 clear hb5
 go_wp2_with fail
 refine (find_a x2 v4 _ (HR5.out.below (pbA (Below.refl _ _) _)) HX2.out).mono ?_
 rintro e w6 ⟨rfl, hb6⟩
 have HD6 := Lib.hid (bkB (heap_alloc_new w5 _) hb6); have HR6 := Lib.hid ((HR5.out.below (pbA (Below.refl _ _) _)).below hb6); have HM2 := Lib.hid ((HM2.out.below (pbA (Below.refl _ _) _)).below hb6); have HB6 := Lib.hid (pbT (pbA HB5.out _) hb6)
 clear hb6
 go_wp2_with fail
 refine (seek_m _).mono ?_
 rintro e w7 ⟨rfl, hb7⟩
 have HD7 := Lib.hid (bkB (bkA HD6.out _) hb7); have HR7 := Lib.hid ((HR6.out.below (pbA (Below.refl _ _) _)).below hb7); have HM2 := Lib.hid ((HM2.out.below (pbA (Below.refl _ _) _)).below hb7); have HB7 := Lib.hid (pbT (pbA HB6.out _) hb7)
 clear hb7
 go_wp2_with fail
 refine (before_m _).mono ?_
 rintro e w8 ⟨s, rfl, hs1, hs2, hb8⟩
 have HD8 := bkB (bkA HD7.out _) hb8; have HE8 := Lib.hid (bkB (heap_alloc_new w7 _) hb8); have HR8 := Lib.hid ((HR7.out.below (pbA (Below.refl _ _) _)).below hb8); have HM2 := Lib.hid ((HM2.out.below (pbA (Below.refl _ _) _)).below hb8); have HB8 := Lib.hid (pbT (pbA HB7.out _) hb8)
 have d0 : w8.cell? ⟨w5.heap.size, 0, none⟩ = some (.int .i64 2) := (bkC HD8 0).trans rfl
 clear hb8 HD8
 have HS1 := Lib.hid hs1
 have HS2 := Lib.hid hs2
 clear hs1 hs2
 go_wp2_with fail
 refine (one_raw _ _ _ _ _).mono ?_
 rintro e w9 ⟨x3, rfl, hx3, hm3, hb9⟩
 have HX3 := Lib.hid hx3; have HM3 := Lib.hid hm3; have HR9 := Lib.hid (HR8.out.below hb9); have HM2 := Lib.hid (HM2.out.below hb9); have HB9 := Lib.hid (pbT HB8.out hb9); have HE9 := Lib.hid (bkB HE8.out hb9)
 clear hx3 hm3 hb9 d0
 go_wp2_with fail
 refine (learn3 x2 x3 v4 w9 HR9.out HM2.out HM3.out HX2.out HX3.out).mono ?_
 rintro e w10 ⟨A10, c10, rfl, hb10⟩
 have HR10 := Lib.hid (HR9.out.below hb10); have HB10 := Lib.hid (pbT HB9.out hb10); have HE10 := bkB HE9.out hb10
 have e0 : w10.cell? ⟨w7.heap.size, 0, none⟩ = some (.string ⟨#[2, 109, 0]⟩) := (bkC HE10 0).trans rfl
 have e1 : w10.cell? ⟨w7.heap.size, 1, none⟩ = some (.string ⟨#[3]⟩) := (bkC HE10 1).trans rfl
 clear hb10 HE10
 have hs1 := HS1.out
 have hs2 := HS2.out
 go_wp2_with fail
 refine (before_m0 _).mono ?_
 rintro e w11 ⟨rfl, hb11⟩
 have HR11 := Lib.hid (HR10.out.below hb11); have HB11 := Lib.hid (pbT HB10.out hb11)
 clear hb11 e0 e1 hs1 hs2
 go_wp2_with fail
 refine (forget_2 x2 v4 w11 HR11.out HX2.out).mono ?_
 rintro e w12 ⟨A12, c12, rfl, hb12⟩
 have HB12 := Lib.hid (pbT HB11.out hb12)
 clear hb12
 go_wp2
 go_ret
 exact ⟨rfl, HB12.out⟩
end Go.Proofs.Ytppdcldbebnmlaa.P
end
section
namespace Go.Proofs.Ytppdcldbebnmlaa.P
open Go.RowKit Go.Shelf Go.Proofs.Ytppdcldbebnmlaa.K Go.Proofs.YtppdcldbebnmlaaW.PrintWords Go.Proofs.YtppdcldbebnmlaaW.PrintLast Go.Proofs.YtppdcldbebnmlaaW.PrintMore
theorem less_same (h a b : List UInt8) : Op.bytesLess (h ++ a) (h ++ b) = Op.bytesLess a b := by
 induction h with
 | nil => rfl
 | cons x h ih =>
  show Op.bytesLess (x :: (h ++ a)) (x :: (h ++ b)) = _
  simp only [Op.bytesLess, ih, beq_self_eq_true, Bool.true_and]
  rw [decide_eq_false (UInt8.lt_irrefl x), Bool.false_or]
theorem less_cons {x y : UInt8} {a b : List UInt8} : Op.bytesLess (x :: a) (y :: b) = true ↔ x < y ∨ x = y ∧ Op.bytesLess a b = true := by
 simp only [Op.bytesLess, Bool.or_eq_true, Bool.and_eq_true, decide_eq_true_iff, beq_iff_eq]
/-- What lies between two texts that begin alike begins so. -/
theorem less_between : ∀ (h a b s : List UInt8), Op.bytesLess (h ++ a) s = true → Op.bytesLess s (h ++ b) = true → ∃ t, s = h ++ t
 | [], _, _, s, _, _ => ⟨s, rfl⟩
 | x :: h, a, b, [], h1, _ => by cases h1
 | x :: h, a, b, y :: s, h1, h2 => by
  rw [List.cons_append] at h1 h2
  rw [less_cons] at h1 h2
  have hxy : x = y ∧ Op.bytesLess (h ++ a) s = true ∧ Op.bytesLess s (h ++ b) = true := by
   rcases h1 with h1 | ⟨rfl, h1⟩
   ·rcases h2 with h2 | ⟨rfl, h2⟩
    ·exact absurd (UInt8.lt_trans h1 h2) (UInt8.lt_irrefl x)
    ·exact absurd h1 (UInt8.lt_irrefl _)
   ·rcases h2 with h2 | ⟨_, h2⟩
    ·exact absurd h2 (UInt8.lt_irrefl x)
    ·exact ⟨rfl, h1, h2⟩
  obtain ⟨rfl, g1, g2⟩ := hxy
  obtain ⟨t, rfl⟩ := less_between h a b s g1 g2
  exact ⟨t, rfl⟩
theorem less_max : ∀ (m : Nat) (t : List UInt8), t.length ≤ m → Op.bytesLess (Lib.repeatL [255] m) t = false
 | 0, t, h => by
  obtain rfl := List.eq_nil_of_length_eq_zero (Nat.le_zero.1 h)
  rfl
 | m + 1, [], _ => rfl
 | m + 1, y :: t, h => by
  show Op.bytesLess (255 :: Lib.repeatL [255] m) (y :: t) = false
  cases hq : Op.bytesLess (255 :: Lib.repeatL [255] m) (y :: t)
  ·rfl
  ·rw [less_cons] at hq
   rcases hq with hq | ⟨_, hq⟩
   ·rw [UInt8.lt_iff_toNat_lt] at hq
    have := y.toNat_lt
    have e : (255 : UInt8).toNat = 255 := rfl
    omega
   ·rw [less_max m t (by simpa using h)] at hq; cases hq
/-- What is asked of what lies just below a key. -/
def Under (key b : ByteArray) : Prop := lt b key = true ∧ b.size ≤ 32 ∧ ∀ s : ByteArray, s.size ≤ 32 → lt b s = true → lt s key = true → False
theorem key_split {key : ByteArray} {n : Nat} (hn : key.size = n + 1) : key.toList = (key.extract 0 n).toList ++ [key[n]'(by omega)] := by
 rw [ByteArray.toList_eq, ByteArray.toList_eq, ByteArray.data_extract]
 have hs : key.data.size = n + 1 := hn
 have : key.data = (key.data.extract 0 n).push (key.data[n]'(by omega)) := by
  apply Array.ext
  ·simp [hs]
  ·intro i h1 h2
   simp only [Array.getElem_push]
   split
   ·simp
   ·rename_i hlt
    have : i = n := by simp at hlt h2; omega
    subst this; rfl
 conv => lhs; rw [this]
 rw [Array.toList_push]
 rfl
theorem under_head {key : ByteArray} {n : Nat} (hn : key.size = n + 1) (hk : n ≤ 32) (hq : (key[n]'(by omega)).toNat = 0 ∨ n = 32) : Under key (key.extract 0 n) := by
 have hsp := key_split hn
 have hsz : (key.extract 0 n).size = n := by rw [ByteArray.size_extract]; omega
 refine ⟨?_, by omega, fun s hs h1 h2 => ?_⟩
 ·unfold lt
  rw [hsp]
  conv => lhs; arg 1; rw [← List.append_nil (key.extract 0 n).toList]
  rw [less_same]; rfl
 ·unfold lt at h1 h2
  rw [hsp] at h2
  rw [← List.append_nil (key.extract 0 n).toList] at h1
  obtain ⟨t, ht⟩ := less_between _ _ _ _ h1 h2
  rw [ht, less_same] at h1 h2
  rcases t with _ | ⟨y, t⟩
  ·cases h1
  ·rcases hq with hq | rfl
   ·rw [less_cons] at h2
    rcases h2 with h2 | ⟨_, h2⟩
    ·rw [UInt8.lt_iff_toNat_lt, hq] at h2; omega
    ·cases h : t <;> rw [h] at h2 <;> cases h2
   ·have := congrArg List.length ht
    rw [List.length_append, ByteArray.toList_eq, ByteArray.toList_eq, Array.length_toList, Array.length_toList] at this
    have e1 : s.data.size = s.size := rfl
    have e2 : (key.extract 0 32).data.size = (key.extract 0 32).size := rfl
    rw [e1, e2, hsz, List.length_cons] at this
    omega
theorem under_down {key : ByteArray} {n v : Nat} (hn : key.size = n + 1) (hk : n < 32) (hv : (key[n]'(by omega)).toNat = v) (hq : 1 ≤ v) (hq2 : v ≤ 255) : Under key (beforeS key n v) := by
 have hsp := key_split hn
 have hsz : (key.extract 0 n).size = n := by rw [ByteArray.size_extract]; omega
 have hc : (UInt8.ofNat (v - 1)).toNat = v - 1 := by simp; omega
 have hbl : (beforeS key n v).toList = (key.extract 0 n).toList ++ (UInt8.ofNat (v - 1) :: Lib.repeatL [255] (31 - n)) := by
  unfold beforeS
  rw [ByteArray.toList_eq, ByteArray.toList_eq, ByteArray.data_append, ByteArray.data_append, Array.toList_append, Array.toList_append]
  have e : (strOfNums [(v : Int) - 1]).data.toList = [UInt8.ofNat (v - 1)] := by
   rw [show (v : Int) - 1 = ((v - 1 : Nat) : Int) by omega]
   rfl
  rw [e]; simp
 have hlen : ∀ m, (Lib.repeatL [255] m).length = m := fun m => by
  induction m with
  | zero => rfl
  | succ m ih => simp only [Lib.repeatL, List.length_append, List.length_cons, List.length_nil, ih]; omega
 refine ⟨?_, ?_, fun s hs h1 h2 => ?_⟩
 ·unfold lt
  rw [hsp, hbl, less_same, less_cons]
  left
  rw [UInt8.lt_iff_toNat_lt, hc, hv]; omega
 ·have e : (beforeS key n v).size = (beforeS key n v).toList.length := by rw [ByteArray.toList_eq, Array.length_toList]; rfl
  have e2 : (key.extract 0 n).toList.length = n := by rw [ByteArray.toList_eq, Array.length_toList]; exact hsz
  rw [e, hbl, List.length_append, e2, List.length_cons, hlen]; omega
 ·unfold lt at h1 h2
  rw [hsp] at h2
  rw [hbl] at h1
  obtain ⟨t, ht⟩ := less_between _ _ _ _ h1 h2
  rw [ht, less_same] at h1 h2
  have hl := congrArg List.length ht
  have e1 : s.toList.length = s.size := by rw [ByteArray.toList_eq, Array.length_toList]; rfl
  have e2 : (key.extract 0 n).toList.length = n := by rw [ByteArray.toList_eq, Array.length_toList]; exact hsz
  rw [e1, List.length_append, e2] at hl
  rcases t with _ | ⟨y, t⟩
  ·cases h1
  ·rw [less_cons] at h1 h2
   have hy : y.toNat < v := by
    rcases h2 with h2 | ⟨_, h2⟩
    ·rw [UInt8.lt_iff_toNat_lt, hv] at h2; exact h2
    ·cases h : t <;> rw [h] at h2 <;> cases h2
   rcases h1 with h1 | ⟨_, h1⟩
   ·rw [UInt8.lt_iff_toNat_lt, hc] at h1; omega
   ·rw [less_max (31 - n) t (by rw [List.length_cons] at hl; omega)] at h1; cases h1
theorem before_any (key : ByteArray) (h0 : key.size ≠ 0) (h1 : key.size ≤ 33) (w : World) : Calls Try.prog 19 #[.string key] w fun e w' => ∃ b : ByteArray, e = .returned (.string b) ∧ Under key b ∧ Below w.heap.size w w' := by
 obtain ⟨n, hn⟩ : ∃ n, key.size = n + 1 := ⟨key.size - 1, by omega⟩
 have hb : (key[n]'(by omega)).toNat ≤ 255 := by have := (key[n]'(by omega)).toNat_lt; omega
 by_cases hq : (key[n]'(by omega)).toNat = 0 ∨ n = 32
 ·refine (before_head key n hn (by omega) (key[n]'(by omega)).toNat (fun _ => rfl) hq w).mono ?_
  rintro e w' ⟨rfl, hb⟩
  exact ⟨_, rfl, under_head hn (by omega) hq, hb⟩
 ·refine (before_down key n hn (by omega) (key[n]'(by omega)).toNat (fun _ => rfl) (by omega) hb w).mono ?_
  rintro e w' ⟨rfl, hb2⟩
  exact ⟨_, rfl, under_down hn (by omega) rfl (by omega) hb, hb2⟩
set_option maxHeartbeats 4000000 in
set_option maxRecDepth 100000 in
theorem below_calls (key s : ByteArray) (w : World) : Calls Try.prog 5 #[.string key, .string s] w fun e w' => e = .returned (.bool true) ∧ Below w.heap.size w w' := by
 have hL : ∀ W, Hid (Calls Try.prog 9 #[] W fun e w' => e = .returned (.bool true) ∧ Below W.heap.size W w') := fun W => Lib.hid (live_calls W)
 by_cases h0 : key.size = 0
 ·have e1 : key.toList = ([] : List UInt8) := by
   rw [ByteArray.toList_eq]
   exact List.eq_nil_of_length_eq_zero (by rw [Array.length_toList]; exact h0)
  clear h0
  go_enter Try.func5, Try.ntmps5
  go_wp2_with (go_at_call 9; refine (hL _).out.mono ?_; rintro e w1 ⟨rfl, hb⟩)
  go_ret
  exact ⟨rfl, hb⟩
 ·obtain ⟨n, hn⟩ : ∃ n, key.size = n + 1 := ⟨key.size - 1, by omega⟩
  have e1 := toList_ne hn
  clear hn
  by_cases h1 : key.size ≤ 33
  ·by_cases h2 : s.size ≤ 32
   ·have q1 : decide ((33 : Int) < (key.size : Int)) = false := decide_eq_false (by omega)
    have q2 : decide ((32 : Int) < (s.size : Int)) = false := decide_eq_false (by omega)
    have HB := Lib.hid (before_any key h0 h1 w)
    have H2 := Lib.hid h2
    clear h0 h1 h2
    go_enter Try.func5, Try.ntmps5
    go_wp2_with fail
    refine HB.out.mono ?_
    rintro e w1 ⟨b, rfl, ⟨u1, u2, u3⟩, hb⟩
    have g1 : Op.bytesLess b.toList key.toList = true := u1
    have g2 : decide ((32 : Int) < (b.size : Int)) = false := decide_eq_false (by omega)
    have hno := u3 s H2.out
    have HBw := Lib.hid hb
    clear u1 u2 u3 hb
    cases hs : Op.bytesLess b.toList s.toList
    ·clear hno
     go_wp2_with (go_at_call 9; refine (hL _).out.mono ?_; rintro e w2 ⟨rfl, hb2⟩)
     go_ret
     exact ⟨rfl, pbT HBw.out hb2⟩
    ·cases hk : Op.bytesLess s.toList key.toList
     ·clear hno
      go_wp2_with (go_at_call 9; refine (hL _).out.mono ?_; rintro e w2 ⟨rfl, hb2⟩)
      go_ret
      exact ⟨rfl, pbT HBw.out hb2⟩
     ·exact (hno hs hk).elim
   ·have q1 : decide ((33 : Int) < (key.size : Int)) = false := decide_eq_false (by omega)
    have q2 : decide ((32 : Int) < (s.size : Int)) = true := decide_eq_true (by omega)
    clear h0 h1 h2
    go_enter Try.func5, Try.ntmps5
    go_wp2_with (go_at_call 9; refine (hL _).out.mono ?_; rintro e w1 ⟨rfl, hb⟩)
    go_ret
    exact ⟨rfl, hb⟩
  ·have q1 : decide ((33 : Int) < (key.size : Int)) = true := decide_eq_true (by omega)
   clear h0 h1
   go_enter Try.func5, Try.ntmps5
   go_wp2_with (go_at_call 9; refine (hL _).out.mono ?_; rintro e w1 ⟨rfl, hb⟩)
   go_ret
   exact ⟨rfl, hb⟩
def l18_RouteBelow.f (a0 a1 : ByteArray) : Option Bool := some true
theorem l18_RouteBelow.calls (a0 a1 : ByteArray) (r : Bool) (w : World) (hr : r = true) (h : l18_RouteBelow.f a0 a1 = some r) :
 Calls Try.prog 5 #[.string a0, .string a1] w fun e w' => e = .returned (.bool r) ∧ Below w.heap.size w w' := by
 subst hr
 exact below_calls a0 a1 w
end Go.Proofs.Ytppdcldbebnmlaa.P
end
section
namespace Go.Proofs.Ytppdcldbebnmlaa.U
open Go.RowKit Go.Proofs.YtppdcldbebnmlaaW.PrintWords Go.Proofs.YtppdcldbebnmlaaW.PrintLast Go.Proofs.YtppdcldbebnmlaaW.PrintMore Go.Proofs.Ytppdcldbebnmlaa.P Go.Proofs.Ytppdcldbebnmlaa.K
theorem RouteBelow : ∀ (a0 : ByteArray), a0.size ≤ reachBytes → ∀ (a1 : ByteArray), a1.size ≤ reachBytes → l18_RouteBelow.f a0 a1 = some true := fun _ _ _ _ => rfl
end Go.Proofs.Ytppdcldbebnmlaa.U
end
