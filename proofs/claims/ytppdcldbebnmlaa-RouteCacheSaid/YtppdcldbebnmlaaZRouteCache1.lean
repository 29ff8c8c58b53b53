import Derived.Test.YtppdcldbebnmlaaZRouteCache0
import Derived.ArgAppend
import Derived.Below
import Derived.BigQuiet
import Derived.DataReads
import Derived.Deep.AppendLies
import Derived.Deep.CutBlock
import Derived.Deep.DeepCutAuto
import Derived.Deep.Draws
import Derived.Deep.LoopGhost
import Derived.Deep.OwnRows
import Derived.Deep.QuietTactic
import Derived.Deep.RegionHeld3
import Derived.KernelRfl
import Derived.Laws.BitsLemmas
import Derived.Laws.BytesArg
import Derived.Laws.IdiomCopy
import Derived.Laws.MakeOwn
import Derived.Laws.OwnMore
import Derived.Laws.Rows
import Derived.Laws.Slices
import Derived.Laws.Strings
import Derived.Lib.AppendStr
import Derived.Lib.ConvBytes
import Derived.Lib.Hide
import Derived.Lib.SliceRun
import Derived.Lib.Strings
import Derived.Maps.AppendAt
import Derived.OrdersHeld
import Derived.OwnWalk
import Derived.ProofKit
import Derived.RowKit
import Derived.RowKit3
import Derived.Shelf.Abstract
import Derived.SizedLaws
import Derived.Tactics
import Derived.WalkKit
import Derived.WideLaws
import GoSem.ClaimJoined
import Derived.Test.YtppdcldbebnmlaaProg
set_option linter.unusedVariables false
set_option linter.unusedSimpArgs false
set_option linter.unnecessarySimpa false
section
namespace Go.Proofs.Ytppdcldbebnmlaa.O
open Go Go.RowKit Go.Proofs.YtppdcldbebnmlaaW.PrintWords
/-- What is read as data of type t has cells of kind d, and is well formed and within the reach (ok). -/
def Opn {α : Type} (P : Program) (t : TypeId) (d : Kd α) (ok : α → Prop) : Prop :=
 ∀ (H : Type) (enc : TypeId × Value → H) (w : World) (base : Nat) (sp : Nat → Bool) (held : Bool) (fuel : Nat) (cs : List Value) (y : DataW H) (ps : List MemPlace),
  DataW.trod enc P w base sp held fuel t cs = some (y, ps) → (∀ n ∈ DataW.weights P t y, n ≤ reachBytes) → ∃ x, d.K w x cs ∧ ok x
variable {P : Program} {t : TypeId}
theorem Opn.bool (hu : P.underlying t = some .bool) : Opn P t Kd.bool (fun _ => True) := by
 intro H enc w base sp held fuel cs y ps h _
 cases fuel with
 | zero => simp [DataW.trod] at h
 | succ f =>
  unfold DataW.trod at h
  rw [hu] at h
  cases cs with
  | nil => simp at h
  | cons v l =>
   cases l with
   | cons _ _ => cases v <;> simp at h
   | nil => cases v <;> first | exact ⟨_, rfl, trivial⟩ | (simp at h)
theorem Opn.int {k : IntKind} (hu : P.underlying t = some (.int k)) : Opn P t (Kd.int k) (fun n => (Lit.int k n).wf = true) := by
 intro H enc w base sp held fuel cs y ps h _
 cases fuel with
 | zero => simp [DataW.trod] at h
 | succ f =>
  unfold DataW.trod at h
  rw [hu] at h
  cases cs with
  | nil => simp at h
  | cons v l =>
   cases l with
   | cons _ _ => cases v <;> simp at h
   | nil =>
    cases v
    case int k' n =>
     simp only at h
     split at h
     ·rename_i hc
      obtain ⟨rfl, hw⟩ := hc
      exact ⟨n, rfl, hw⟩
     ·exact absurd h (by simp)
    all_goals simp at h
theorem Opn.string (hu : P.underlying t = some .string) : Opn P t Kd.string (fun s => s.size ≤ reachBytes) := by
 intro H enc w base sp held fuel cs y ps h hw
 cases fuel with
 | zero => simp [DataW.trod] at h
 | succ f =>
  unfold DataW.trod at h
  rw [hu] at h
  cases cs with
  | nil => simp at h
  | cons v l =>
   cases l with
   | cons _ _ => cases v <;> simp at h
   | nil =>
    cases v
    case string s =>
     simp only at h
     split at h
     ·simp only [Option.some.injEq, Prod.mk.injEq] at h
      obtain ⟨rfl, _⟩ := h
      refine ⟨s, rfl, ?_⟩
      have := hw s.data.toList.length (by simp [DataW.weights])
      rw [← Lib.size_eq] at this
      exact this
     ·exact absurd h (by simp)
    all_goals simp at h
theorem weightsAll_mem {H : Type} {P : Program} {e : TypeId} : ∀ {l : List (DataW H)} {d : DataW H}, d ∈ l → ∀ n ∈ DataW.weights P e d, n ∈ DataW.weightsAll P e l
 | a :: l, d, hd, n, hn => by
  simp only [DataW.weightsAll, List.mem_append]
  rcases List.mem_cons.1 hd with rfl | hd
  ·exact .inl hn
  ·exact .inr (weightsAll_mem hd n hn)
theorem mapM_some {α β : Type} {f : α → Option β} : ∀ {l : List α} {r : List β}, l.mapM f = some r → r.length = l.length ∧ ∀ i (hi : i < l.length), ∃ b, r[i]? = some b ∧ f l[i] = some b
 | [], r, h => by simp at h; subst h; exact ⟨rfl, fun i hi => by simp at hi⟩
 | a :: l, r, h => by
  simp only [List.mapM_cons, Option.pure_def, Option.bind_eq_bind, Option.bind_eq_some_iff, Option.some.injEq] at h
  obtain ⟨b, hb, r', hr, rfl⟩ := h
  obtain ⟨h1, h2⟩ := mapM_some hr
  refine ⟨by simp [h1], fun i hi => ?_⟩
  cases i with
  | zero => exact ⟨b, rfl, hb⟩
  | succ i => exact h2 i (by simpa using hi)
theorem choose_list {α : Type} (n : Nat) (Q : Nat → α → Prop) (h : ∀ i, i < n → ∃ x, Q i x) : ∃ xs : List α, xs.length = n ∧ ∀ i x, xs[i]? = some x → Q i x := by
 induction n with
 | zero => exact ⟨[], rfl, fun i x hx => by simp at hx⟩
 | succ n ih =>
  obtain ⟨xs, h1, h2⟩ := ih (fun i hi => h i (by omega))
  obtain ⟨x, hx⟩ := h n (by omega)
  refine ⟨xs ++ [x], by simp [h1], fun i y hy => ?_⟩
  rcases Nat.lt_or_ge i n with hi | hi
  ·rw [List.getElem?_append_left (by omega)] at hy; exact h2 i y hy
  ·rw [List.getElem?_append_right (by omega)] at hy
   have : i - xs.length = 0 := by
    rcases Nat.eq_zero_or_pos (i - xs.length) with h0 | h0
    ·exact h0
    ·rw [List.getElem?_eq_none (by simp; omega)] at hy; simp at hy
   rw [this] at hy
   simp at hy
   subst hy
   rw [show i = n by omega]; exact hx
theorem add_add_ (a : Addr) (i j : Nat) : (a.add i).add j = a.add (i + j) := by
 unfold Addr.add
 by_cases hi : i = 0 <;> by_cases hj : j = 0 <;> simp [hi, hj, Nat.add_assoc]
theorem Opn.slice {α : Type} {e : TypeId} {d : Kd α} {ok : α → Prop} {B : Nat} (hu : P.underlying t = some (.slice e)) (hc : P.cellsOf e = d.sz) (hB : P.bytesOf e = B) (ho : Opn P e d ok) :
 Opn P t (Kd.slice e d) (fun xs => xs.length * B ≤ reachBytes ∧ xs.length ≤ maxLen ∧ ∀ x ∈ xs, ok x) := by
 intro H enc w base sp held fuel cs y ps h hw
 cases fuel with
 | zero => simp [DataW.trod] at h
 | succ f =>
  unfold DataW.trod at h
  rw [hu] at h
  cases cs with
  | nil => simp at h
  | cons v l =>
   cases l with
   | cons _ _ => cases v <;> simp at h
   | nil =>
    cases v
    case slice A n c =>
     cases A with
     | none =>
      have hz : n = 0 ∧ c = 0 := by
       cases n <;> cases c <;> simp at h ⊢
      obtain ⟨rfl, rfl⟩ := hz
      exact ⟨[], ⟨none, 0, rfl, Nat.le_refl _, Kd.C_nil _ _⟩, by simp [reachBytes], by simp, by simp⟩
     | some a =>
      simp only at h
      split at h
      ·rename_i hcnd
       obtain ⟨_, hle, hmx⟩ := hcnd
       rw [Option.bind_eq_some_iff] at h
       obtain ⟨elems, he, h⟩ := h
       rw [Option.map_eq_some_iff] at h
       obtain ⟨rest, hr, h⟩ := h
       simp only [Prod.mk.injEq] at h
       obtain ⟨rfl, _⟩ := h
       obtain ⟨hl, hi⟩ := mapM_some he
       rw [List.length_range] at hl
       have hwt : ∀ (i : Nat) (b : DataW H × List MemPlace), elems[i]? = some b → ∀ m ∈ DataW.weights P e b.1, m ≤ reachBytes := by
        intro i b hb m hm
        refine hw m ?_
        simp only [DataW.weights, hu, List.mem_cons, List.mem_append]
        exact .inr (.inl (weightsAll_mem (List.mem_map.2 ⟨b, List.mem_of_getElem? hb, rfl⟩) m hm))
       obtain ⟨xs, hxl, hxs⟩ := choose_list n (fun i x => (∃ cs, (w.cells? base (a.add (i * P.cellsOf e)) (P.cellsOf e)) = some cs ∧ d.K w x cs) ∧ ok x) (by
        intro i hin
        obtain ⟨b, hb, hf⟩ := hi i (by rw [List.length_range]; exact hin)
        rw [List.getElem_range, Option.bind_eq_some_iff] at hf
        obtain ⟨cs, h1, h2⟩ := hf
        obtain ⟨x, hx, hok⟩ := ho H enc w base sp held f cs b.1 b.2 h2 (hwt i b hb)
        exact ⟨x, ⟨cs, h1, hx⟩, hok⟩)
       subst hxl
       refine ⟨xs, ⟨some a, c, rfl, hle, rfl, ?_, ?_⟩, ?_, ?_, ?_⟩
       ·unfold maxLen at hmx; omega
       ·intro hpos
        refine ⟨a, rfl, fun j p hp => ?_⟩
        obtain ⟨⟨cs, h1, h2⟩, _⟩ := hxs j p hp
        refine ⟨cs, d.K_len h2, h2, fun i u hu2 => ?_⟩
        rw [hc] at h1
        obtain ⟨_, _, hcell⟩ := World.cells?_some h1
        have hlt := (List.getElem?_eq_some_iff.1 hu2).1
        rw [d.K_len h2] at hlt
        rw [← add_add_, hcell i hlt]
        exact hu2
       ·have := hw ((elems.length + rest.length) * P.bytesOf e) (by simp [DataW.weights, hu])
        rw [hB, hl] at this
        exact Nat.le_trans (Nat.mul_le_mul_right _ (by omega)) this
       ·omega
       ·intro x hx
        obtain ⟨i, hi2⟩ := List.getElem?_of_mem hx
        exact (hxs i x hi2).2
      ·exact absurd h (by simp)
    all_goals simp at h
def OpnF {α : Type} (P : Program) (d : Kd α) (ok : α → Prop) (fs : List Field) (off : Nat) : Prop :=
 ∀ (H : Type) (enc : TypeId × Value → H) (w : World) (base : Nat) (sp : Nat → Bool) (held : Bool) (fuel : Nat) (cs : List Value) (ys : List (DataW H × List MemPlace)),
  (fs.mapM fun f => DataW.trod enc P w base sp held fuel f.type ((cs.drop f.offset).take (P.cellsOf f.type))) = some ys → (∀ n ∈ DataW.weightsEach P (fs.map (·.type)) (ys.map (·.1)), n ≤ reachBytes) → ∃ x, d.K w x ((cs.drop off).take d.sz) ∧ ok x
theorem OpnF.one {α : Type} {d : Kd α} {ok : α → Prop} {f : Field} {off : Nat} (ho : f.offset = off) (hs : P.cellsOf f.type = d.sz) (h : Opn P f.type d ok) : OpnF P d ok [f] off := by
 intro H enc w base sp held fuel cs ys hm hw
 subst ho
 cases hy : DataW.trod enc P w base sp held fuel f.type ((cs.drop f.offset).take (P.cellsOf f.type)) with
 | none => simp [hy] at hm
 | some y =>
  simp [hy] at hm
  subst hm
  rw [hs] at hy
  exact h H enc w base sp held fuel _ y.1 y.2 hy (fun n hn => hw n (by simp [DataW.weightsEach]; exact hn))
theorem OpnF.cons {α β : Type} {d : Kd α} {d2 : Kd β} {ok : α → Prop} {ok2 : β → Prop} {f : Field} {fs : List Field} {off : Nat} (ho : f.offset = off) (hs : P.cellsOf f.type = d.sz) (h : Opn P f.type d ok) (h2 : OpnF P d2 ok2 fs (off + d.sz)) :
 OpnF P (Kd.pair d d2) (fun x => ok x.1 ∧ ok2 x.2) (f :: fs) off := by
 intro H enc w base sp held fuel cs ys hm hw
 subst ho
 cases hy : DataW.trod enc P w base sp held fuel f.type ((cs.drop f.offset).take (P.cellsOf f.type)) with
 | none => simp [hy] at hm
 | some y =>
  cases hz : (fs.mapM fun f => DataW.trod enc P w base sp held fuel f.type ((cs.drop f.offset).take (P.cellsOf f.type))) with
  | none => simp [hy, hz] at hm
  | some zs =>
   simp [hy, hz] at hm
   subst hm
   rw [hs] at hy
   obtain ⟨x, hx, hok⟩ := h H enc w base sp held fuel _ y.1 y.2 hy (fun n hn => hw n (by simp [DataW.weightsEach]; exact .inl hn))
   obtain ⟨x2, hx2, hok2⟩ := h2 H enc w base sp held fuel cs zs hz (fun n hn => hw n (by simp [DataW.weightsEach]; exact .inr (by simpa using hn)))
   refine ⟨(x, x2), ⟨_, _, ?_, hx, hx2⟩, hok, hok2⟩
   show (cs.drop f.offset).take (d.sz + d2.sz) = _
   rw [List.take_add, List.drop_drop]
theorem Opn.struct {α : Type} {d : Kd α} {ok : α → Prop} {fs : Array Field} (hu : P.underlying t = some (.struct fs)) (hs : P.cellsOf t = d.sz) (h : OpnF P d ok fs.toList 0) : Opn P t d ok := by
 intro H enc w base sp held fuel cs y ps hy hw
 cases fuel with
 | zero => simp [DataW.trod] at hy
 | succ f =>
  unfold DataW.trod at hy
  rw [hu] at hy
  simp only at hy
  split at hy
  ·rename_i hl
   rw [Option.map_eq_some_iff] at hy
   obtain ⟨ys, hm, he⟩ := hy
   simp only [Prod.mk.injEq] at he
   obtain ⟨rfl, _⟩ := he
   obtain ⟨x, hx, hok⟩ := h H enc w base sp held f cs ys hm (fun n hn => hw n (by simp only [DataW.weights, hu]; exact hn))
   rw [List.drop_zero, List.take_of_length_le (by omega)] at hx
   exact ⟨x, hx, hok⟩
  ·cases hy
theorem Opn.iso {α β : Type} {d : Kd α} {ok : α → Prop} {f : β → α} (g : α → β) (hg : ∀ x, f (g x) = x) (h : Opn P t d ok) : Opn P t (Kd.iso d f) (fun x => ok (f x)) := by
 intro H enc w base sp held fuel cs y ps hy hw
 obtain ⟨x, hx, hok⟩ := h H enc w base sp held fuel cs y ps hy hw
 exact ⟨g x, by show d.K w (f (g x)) cs; rw [hg]; exact hx, by simp only; rw [hg]; exact hok⟩
theorem Opn.imp {α : Type} {d : Kd α} {ok ok2 : α → Prop} (h : Opn P t d ok) (hi : ∀ x, ok x → ok2 x) : Opn P t d ok2 := by
 intro H enc w base sp held fuel cs y ps hy hw
 obtain ⟨x, hx, hok⟩ := h H enc w base sp held fuel cs y ps hy hw
 exact ⟨x, hx, hi x hok⟩
end Go.Proofs.Ytppdcldbebnmlaa.O
end
section
namespace Go.Proofs.Ytppdcldbebnmlaa.K
open Go
theorem less_total : ∀ (a b : List UInt8), (Op.bytesLess a b || a == b) = !Op.bytesLess b a
 | [], [] => rfl
 | [], _ :: _ => rfl
 | _ :: _, [] => rfl
 | x :: a, y :: b => by
  simp only [Op.bytesLess]
  have ih := less_total a b
  by_cases h1 : x < y
  ·have h2 : ¬ y < x := fun h => absurd (UInt8.lt_trans h1 h) (UInt8.lt_irrefl x)
   have h3 : (y == x) = false := by rw [beq_eq_false_iff_ne]; intro e; rw [e] at h1; exact absurd h1 (UInt8.lt_irrefl x)
   simp [h1, h2, h3]
  ·by_cases h2 : y < x
   ·have h3 : (x == y) = false := by rw [beq_eq_false_iff_ne]; intro e; rw [e] at h2; exact absurd h2 (UInt8.lt_irrefl y)
    have h4 : (x :: a == y :: b) = false := by rw [List.cons_beq_cons, h3]; rfl
    simp [h1, h2, h3, h4]
   ·have h3 : x = y := UInt8.le_antisymm (UInt8.not_lt.1 h2) (UInt8.not_lt.1 h1)
    subst h3
    rw [List.cons_beq_cons]
    simp only [beq_self_eq_true, Bool.true_and, decide_eq_false h1, Bool.false_or]
    exact ih
@[go_sem] theorem binOp_string_leq_ (t : TypeId) (a b : ByteArray) : binOp .leq t (.string a) (.string b) = pure (.bool (!Op.bytesLess b.toList a.toList)) := by
 rw [← less_total]; simp [binOp, Op.stringOp]
@[go_sem] theorem binOp_string_gtr_ (t : TypeId) (a b : ByteArray) : binOp .gtr t (.string a) (.string b) = pure (.bool (Op.bytesLess b.toList a.toList)) := by
 rw [← Bool.not_not (Op.bytesLess b.toList a.toList), ← less_total]; simp [binOp, Op.stringOp]
@[go_sem] theorem binOp_string_geq_ (t : TypeId) (a b : ByteArray) : binOp .geq t (.string a) (.string b) = pure (.bool (!Op.bytesLess a.toList b.toList)) := by simp [binOp, Op.stringOp]
end Go.Proofs.Ytppdcldbebnmlaa.K
end
section
namespace Go.Proofs.Ytppdcldbebnmlaa.P
open Go.RowKit Go.Proofs.Ytppdcldbebnmlaa.K Go.Proofs.YtppdcldbebnmlaaW.PrintWords Go.Proofs.YtppdcldbebnmlaaW.PrintLast Go.Proofs.YtppdcldbebnmlaaW.PrintMore
attribute [local go_sem] max2_int min2_int max_two min_two max_three min_three max_four min_four   -- for this text's walks alone
def errW : Option Int → Value
 | none => .nilIface
 | some c => .iface 0 (.int .i64 c)
theorem errW_none : errW none = .nilIface := rfl
theorem errW_some (c : Int) : errW (some c) = .iface 0 (.int .i64 c) := rfl
theorem info27 : (Try.prog.info? 27).map (fun i => (i.zero, i.size, i.bytes)) = some (some (.agg #[(.int .i64 0), (.string ⟨#[]⟩), (.string ⟨#[]⟩), (.int .i64 0), (.slice none 0 0), (.int .i64 0)]), 6, 80) := by kernel_rfl
theorem info47 : (Try.prog.info? 47).map (fun i => (i.zero, i.size, i.bytes)) = some (some (.agg #[(.int .i64 0), (.int .i64 0)]), 2, 16) := by kernel_rfl
structure S47 where
 f0 : Int
 f1 : Int
def z47 : S47 := ⟨(0 : Int), (0 : Int)⟩
def k47 : Kd S47 := Kd.iso (Kd.pair (Kd.int .i64) (Kd.int .i64)) (fun x : S47 => (x.f0, x.f1))
theorem k47_open {w : World} {x : S47} {cs : List Value} (h : k47.K w x cs) : cs = [.int .i64 x.f0, .int .i64 x.f1] := by
 obtain ⟨_, _, rfl, rfl, rfl⟩ := h
 exact rfl
theorem k47_openM {w : World} {base : Nat} {ok : Nat → Prop} {x : S47} {cs : List Value} (h : k47.M w base ok x cs) : cs = [.int .i64 x.f0, .int .i64 x.f1] := by
 obtain ⟨_, _, rfl, rfl, rfl⟩ := h
 exact rfl
theorem k47_mk (w : World) (x : S47)  : k47.K w x [.int .i64 x.f0, .int .i64 x.f1] := ⟨[.int .i64 x.f0], [.int .i64 x.f1], rfl, rfl, rfl⟩
theorem k47_mkM (w : World) (base : Nat) (ok : Nat → Prop) (x : S47)  : k47.M w base ok x [.int .i64 x.f0, .int .i64 x.f1] := ⟨[.int .i64 x.f0], [.int .i64 x.f1], rfl, rfl, rfl⟩
theorem k47_mkF (W : World) (ok : Nat → Prop) (x : S47) : Kd.FK k47 W ok x [.int .i64 x.f0, .int .i64 x.f1] := fun W2 _ => k47_mk W2 x
def rd_T47 (xs : List S47) (i : Int) : S47 := xs.getD i.toNat z47
theorem at_T47 {w : World} {A : Option Addr} {n : Nat} {xs : List S47} (h : Kd.C k47 w A n xs) (i : Int) (h0 : 0 ≤ i) (h1 : i < n) : ∃ ad , A = some ad ∧ w.cell? (ad.add (i.toNat * 2)) = some (.int .i64 (rd_T47 xs i).f0) ∧ w.cell? ⟨(ad.add (i.toNat * 2)).block, (ad.add (i.toNat * 2)).off + 1, none⟩ = some (.int .i64 (rd_T47 xs i).f1) := by
 obtain ⟨ad, c, e, _, hK, hc0⟩ := Kd.C_get h z47 i h0 h1
 have hc : ∀ j u, c[j]? = some u → w.cell? (ad.add (i.toNat * 2 + j)) = some u := hc0
 obtain rfl := k47_open hK
 exact ⟨ad, e, hc 0 _ rfl, by rw [← add_field _ _ 1 (by omega)]; exact hc 1 _ rfl⟩
structure S24 where
 f0 : ByteArray
 f1 : ByteArray
def z24 : S24 := ⟨(⟨#[]⟩ : ByteArray), (⟨#[]⟩ : ByteArray)⟩
def k24 : Kd S24 := Kd.iso (Kd.pair Kd.string Kd.string) (fun x : S24 => (x.f0, x.f1))
theorem k24_open {w : World} {x : S24} {cs : List Value} (h : k24.K w x cs) : cs = [.string x.f0, .string x.f1] := by
 obtain ⟨_, _, rfl, rfl, rfl⟩ := h
 exact rfl
theorem k24_openM {w : World} {base : Nat} {ok : Nat → Prop} {x : S24} {cs : List Value} (h : k24.M w base ok x cs) : cs = [.string x.f0, .string x.f1] := by
 obtain ⟨_, _, rfl, rfl, rfl⟩ := h
 exact rfl
theorem k24_mk (w : World) (x : S24)  : k24.K w x [.string x.f0, .string x.f1] := ⟨[.string x.f0], [.string x.f1], rfl, rfl, rfl⟩
theorem k24_mkM (w : World) (base : Nat) (ok : Nat → Prop) (x : S24)  : k24.M w base ok x [.string x.f0, .string x.f1] := ⟨[.string x.f0], [.string x.f1], rfl, rfl, rfl⟩
theorem k24_mkF (W : World) (ok : Nat → Prop) (x : S24) : Kd.FK k24 W ok x [.string x.f0, .string x.f1] := fun W2 _ => k24_mk W2 x
def rd_T24 (xs : List S24) (i : Int) : S24 := xs.getD i.toNat z24
theorem at_T24 {w : World} {A : Option Addr} {n : Nat} {xs : List S24} (h : Kd.C k24 w A n xs) (i : Int) (h0 : 0 ≤ i) (h1 : i < n) : ∃ ad , A = some ad ∧ w.cell? (ad.add (i.toNat * 2)) = some (.string (rd_T24 xs i).f0) ∧ w.cell? ⟨(ad.add (i.toNat * 2)).block, (ad.add (i.toNat * 2)).off + 1, none⟩ = some (.string (rd_T24 xs i).f1) := by
 obtain ⟨ad, c, e, _, hK, hc0⟩ := Kd.C_get h z24 i h0 h1
 have hc : ∀ j u, c[j]? = some u → w.cell? (ad.add (i.toNat * 2 + j)) = some u := hc0
 obtain rfl := k24_open hK
 exact ⟨ad, e, hc 0 _ rfl, by rw [← add_field _ _ 1 (by omega)]; exact hc 1 _ rfl⟩
def rd_L4 (xs : List (List S47)) (i : Int) : (List S47) := xs.getD i.toNat ([] : List S47)
theorem at_L4 {w : World} {A : Option Addr} {n : Nat} {xs : List (List S47)} (h : Kd.C (Kd.slice 47 k47) w A n xs) (i : Int) (h0 : 0 ≤ i) (h1 : i < n) : ∃ ad A0 c0, A = some ad ∧ w.cell? (ad.add i.toNat) = some (.slice A0 (rd_L4 xs i).length c0) ∧ (rd_L4 xs i).length ≤ c0 ∧ k47.C w A0 (rd_L4 xs i).length (rd_L4 xs i) := by
 obtain ⟨ad, c, e, _, hK, hc0⟩ := Kd.C_get h ([] : List S47) i h0 h1
 have hc : ∀ j u, c[j]? = some u → w.cell? (ad.add (i.toNat * 1 + j)) = some u := hc0
 obtain ⟨A0, c0, rfl, l0, g0⟩ := hK
 exact ⟨ad, A0, c0, e, by have hq := hc 0 _ rfl; rwa [Nat.mul_one, Nat.add_zero] at hq, l0, g0⟩
structure S27 where
 f0 : Int
 f1 : S24
 f2 : Int
 f3 : (List S47)
 f4 : Int
def z27 : S27 := ⟨(0 : Int), z24, (0 : Int), ([] : List S47), (0 : Int)⟩
def k27 : Kd S27 := Kd.iso (Kd.pair (Kd.int .i64) (Kd.pair k24 (Kd.pair (Kd.int .i64) (Kd.pair (Kd.slice 47 k47) (Kd.int .i64))))) (fun x : S27 => (x.f0, x.f1, x.f2, x.f3, x.f4))
theorem k27_open {w : World} {x : S27} {cs : List Value} (h : k27.K w x cs) : ∃ A4 c4, cs = [.int .i64 x.f0, .string x.f1.f0, .string x.f1.f1, .int .i64 x.f2, .slice A4 x.f3.length c4, .int .i64 x.f4] ∧ x.f3.length ≤ c4 ∧ k47.C w A4 x.f3.length x.f3 := by
 obtain ⟨_, _, rfl, rfl, ⟨_, _, rfl, s1, ⟨_, _, rfl, rfl, ⟨_, _, rfl, ⟨A4, c4, rfl, l4, g4⟩, rfl⟩⟩⟩⟩ := h
 obtain rfl := k24_open s1
 exact ⟨A4, c4, rfl, l4, g4⟩
theorem k27_openM {w : World} {base : Nat} {ok : Nat → Prop} {x : S27} {cs : List Value} (h : k27.M w base ok x cs) : ∃ v4, cs = [.int .i64 x.f0, .string x.f1.f0, .string x.f1.f1, .int .i64 x.f2, v4, .int .i64 x.f4] ∧ k47.R 47 w base ok v4 x.f3 := by
 obtain ⟨_, _, rfl, rfl, ⟨_, _, rfl, s1, ⟨_, _, rfl, rfl, ⟨_, _, rfl, ⟨v4, rfl, g4⟩, rfl⟩⟩⟩⟩ := h
 obtain rfl := k24_openM s1
 exact ⟨v4, rfl, g4⟩
theorem k27_mk (w : World) (x : S27) {A4 : Option Addr} {c4 : Nat} (l4 : x.f3.length ≤ c4) (g4 : k47.C w A4 x.f3.length x.f3) : k27.K w x [.int .i64 x.f0, .string x.f1.f0, .string x.f1.f1, .int .i64 x.f2, .slice A4 x.f3.length c4, .int .i64 x.f4] := ⟨[.int .i64 x.f0], [.string x.f1.f0, .string x.f1.f1, .int .i64 x.f2, .slice A4 x.f3.length c4, .int .i64 x.f4], rfl, rfl, ⟨[.string x.f1.f0, .string x.f1.f1], [.int .i64 x.f2, .slice A4 x.f3.length c4, .int .i64 x.f4], rfl, (k24_mk w x.f1 ), ⟨[.int .i64 x.f2], [.slice A4 x.f3.length c4, .int .i64 x.f4], rfl, rfl, ⟨[.slice A4 x.f3.length c4], [.int .i64 x.f4], rfl, ⟨A4, c4, rfl, l4, g4⟩, rfl⟩⟩⟩⟩
theorem k27_mkM (w : World) (base : Nat) (ok : Nat → Prop) (x : S27) {v4 : Value} (g4 : k47.R 47 w base ok v4 x.f3) : k27.M w base ok x [.int .i64 x.f0, .string x.f1.f0, .string x.f1.f1, .int .i64 x.f2, v4, .int .i64 x.f4] := ⟨[.int .i64 x.f0], [.string x.f1.f0, .string x.f1.f1, .int .i64 x.f2, v4, .int .i64 x.f4], rfl, rfl, ⟨[.string x.f1.f0, .string x.f1.f1], [.int .i64 x.f2, v4, .int .i64 x.f4], rfl, (k24_mkM w base ok x.f1 ), ⟨[.int .i64 x.f2], [v4, .int .i64 x.f4], rfl, rfl, ⟨[v4], [.int .i64 x.f4], rfl, ⟨v4, rfl, g4⟩, rfl⟩⟩⟩⟩
theorem k27_openF {W : World} {ok : Nat → Prop} {x : S27} {cs : List Value} (h : Kd.FK k27 W ok x cs) : ∃ A4 c4, cs = [.int .i64 x.f0, .string x.f1.f0, .string x.f1.f1, .int .i64 x.f2, .slice A4 x.f3.length c4, .int .i64 x.f4] ∧ x.f3.length ≤ c4 ∧ Kd.F k47 W ok A4 x.f3.length x.f3 := by
 obtain ⟨A4, c4, rfl, l4, _⟩ := k27_open (Kd.FK_now h)
 exact ⟨A4, c4, rfl, l4, (fun W' hW => by obtain ⟨A4_, c4_, he, l4_, g4_⟩ := k27_open (h W' hW); injection (Option.some.inj (show some (Value.slice A4 x.f3.length c4) = some (Value.slice A4_ x.f3.length c4_) from congrArg (fun l => l[4]?) he)) with ha_ _ _; rw [ha_]; exact g4_)⟩
theorem k27_mkF (W : World) (ok : Nat → Prop) (x : S27) {A4 : Option Addr} {c4 : Nat} (l4 : x.f3.length ≤ c4) (g4 : Kd.F k47 W ok A4 x.f3.length x.f3) : Kd.FK k27 W ok x [.int .i64 x.f0, .string x.f1.f0, .string x.f1.f1, .int .i64 x.f2, .slice A4 x.f3.length c4, .int .i64 x.f4] := fun W2 hW => k27_mk W2 x l4 (g4 W2 hW)
def rd_T27 (xs : List S27) (i : Int) : S27 := xs.getD i.toNat z27
theorem at_T27 {w : World} {A : Option Addr} {n : Nat} {xs : List S27} (h : Kd.C k27 w A n xs) (i : Int) (h0 : 0 ≤ i) (h1 : i < n) : ∃ ad A4 c4, A = some ad ∧ w.cell? (ad.add (i.toNat * 6)) = some (.int .i64 (rd_T27 xs i).f0) ∧ w.cell? ⟨(ad.add (i.toNat * 6)).block, (ad.add (i.toNat * 6)).off + 1, none⟩ = some (.string (rd_T27 xs i).f1.f0) ∧ w.cell? ⟨(ad.add (i.toNat * 6)).block, (ad.add (i.toNat * 6)).off + 2, none⟩ = some (.string (rd_T27 xs i).f1.f1) ∧ w.cell? ⟨(ad.add (i.toNat * 6)).block, (ad.add (i.toNat * 6)).off + 3, none⟩ = some (.int .i64 (rd_T27 xs i).f2) ∧ w.cell? ⟨(ad.add (i.toNat * 6)).block, (ad.add (i.toNat * 6)).off + 4, none⟩ = some (.slice A4 (rd_T27 xs i).f3.length c4) ∧ w.cell? ⟨(ad.add (i.toNat * 6)).block, (ad.add (i.toNat * 6)).off + 5, none⟩ = some (.int .i64 (rd_T27 xs i).f4) ∧ (rd_T27 xs i).f3.length ≤ c4 ∧ k47.C w A4 (rd_T27 xs i).f3.length (rd_T27 xs i).f3 := by
 obtain ⟨ad, c, e, _, hK, hc0⟩ := Kd.C_get h z27 i h0 h1
 have hc : ∀ j u, c[j]? = some u → w.cell? (ad.add (i.toNat * 6 + j)) = some u := hc0
 obtain ⟨A4, c4, rfl, l4, g4⟩ := k27_open hK
 exact ⟨ad, A4, c4, e, hc 0 _ rfl, by rw [← add_field _ _ 1 (by omega)]; exact hc 1 _ rfl, by rw [← add_field _ _ 2 (by omega)]; exact hc 2 _ rfl, by rw [← add_field _ _ 3 (by omega)]; exact hc 3 _ rfl, by rw [← add_field _ _ 4 (by omega)]; exact hc 4 _ rfl, by rw [← add_field _ _ 5 (by omega)]; exact hc 5 _ rfl, l4, g4⟩
end Go.Proofs.Ytppdcldbebnmlaa.P
end
section
namespace Go.Proofs.Ytppdcldbebnmlaa.K
open Go Go.RowKit Go.Proofs.YtppdcldbebnmlaaW.PrintWords Go.Proofs.YtppdcldbebnmlaaW.PrintLast Go.Proofs.YtppdcldbebnmlaaW.PrintMore
section
variable {α : Type}
/-- The kind of elements that are their own cells. -/
def rawKd (enc : α → List Value) (k : Nat) (hk : ∀ x, (enc x).length = k) (h1 : ∀ x, ∀ u ∈ enc x, u.oneCell' = true) : Kd α where
 sz := k
 E := []
 K := fun _ x cs => cs = enc x
 M := fun _ _ _ x cs => cs = enc x
 K_len := by rintro w x cs rfl; exact hk x
 K_one := by rintro w x cs rfl; exact h1 x
 K_below := fun _ h => h
 K_of_M := fun h => h
 M_mono := fun _ h => h
 M_bound := fun h => h
 M_move := fun _ h => h
 M_lower := fun _ h => h
theorem grow_then {a b c : World} {row : Option Nat} (h : a.grownBy b row) (k : b.grownBy c row) : a.grownBy c row := ⟨k.os.trans h.os, k.tape.trans h.tape, k.output.trans h.output, Nat.le_trans h.size k.size, fun i hi hr => (k.block i (Nat.lt_of_lt_of_le hi h.size) hr).trans (h.block i hi hr)⟩
theorem grow_below {a b c : World} {row : Option Nat} (h : a.grownBy b row) (k : Below b.heap.size b c) : a.grownBy c row := ⟨k.os.trans h.os, k.tape.trans h.tape, k.output.trans h.output, Nat.le_trans h.size k.size, fun i hi hr => (k.block i (Nat.lt_of_lt_of_le hi h.size)).trans (h.block i hi hr)⟩
/-- Where the first one stands of which something is so. -/
def idxZ (p : α → Bool) : List α → Nat → Int
 | [], _ => -1
 | m :: r, k => if p m = true then (k : Int) else idxZ p r (k + 1)
theorem idxZ_spec (p : α → Bool) : ∀ (l : List α) (k : Nat), (idxZ p l k = -1 ∧ ∀ x ∈ l, p x = false) ∨ ∃ (i : Nat) (h : i < l.length), idxZ p l k = ((k + i : Nat) : Int) ∧ p l[i] = true ∧ ∀ x ∈ l.take i, p x = false
 | [], k => .inl ⟨rfl, fun x hx => by simp at hx⟩
 | m :: r, k => by
  simp only [idxZ]
  by_cases hp : p m = true
  ·rw [if_pos hp]
   exact .inr ⟨0, by simp, by simp, hp, fun x hx => by simp at hx⟩
  ·have hp' : p m = false := by simpa using hp
   rw [if_neg hp]
   rcases idxZ_spec p r (k + 1) with ⟨h1, h2⟩ | ⟨i, h, h1, h2, h3⟩
   ·exact .inl ⟨h1, fun x hx => by
     rcases List.mem_cons.1 hx with rfl | hx
     ·exact hp'
     ·exact h2 x hx⟩
   ·refine .inr ⟨i + 1, by simp; omega, by rw [h1]; omega, h2, fun x hx => ?_⟩
    rw [List.take_succ_cons] at hx
    rcases List.mem_cons.1 hx with rfl | hx
    ·exact hp'
    ·exact h3 x hx
theorem idxZ_any (p : α → Bool) (l : List α) : decide (idxZ p l 0 ≥ 0) = l.any p := by
 rcases idxZ_spec p l 0 with ⟨h1, h2⟩ | ⟨i, h, h1, h2, _⟩
 ·rw [h1, Eq.comm, List.any_eq_false.2 (fun x hx => by rw [h2 x hx]; simp)]; rfl
 ·rw [h1, Eq.comm, List.any_eq_true.2 ⟨l[i], List.getElem_mem h, h2⟩, Eq.comm]
  exact decide_eq_true (by omega)
def delF (p : α → Bool) (l : List α) : List α := l.filter fun x => !p x
theorem delF_all {p : α → Bool} {l : List α} (h : ∀ x ∈ l, p x = false) : delF p l = l := List.filter_eq_self.2 (fun x hx => by rw [h x hx]; rfl)
theorem delF_snoc (p : α → Bool) {l : List α} {j : Nat} (h : j < l.length) : delF p (l.take (j + 1)) = delF p (l.take j) ++ (if p l[j] = true then [] else [l[j]]) := by
 unfold delF
 rw [List.take_succ_eq_append_getElem h, List.filter_append]
 congr 1
 cases hq : p l[j] <;> simp [hq]
/-- Between two rounds: the kept ones stand in front; from j on the row is as it was. -/
structure DelInv (p : α → Bool) (l : List α) (i j : Nat) (dk : List α) : Prop where
 lt : i < j
 len : dk.length = l.length
 done : dk.take i = delF p (l.take j)
 high : dk.drop j = l.drop j
theorem DelInv.start {p : α → Bool} {l : List α} {k : Nat} (h : k < l.length) (ht : p l[k] = true) (ha : ∀ x ∈ l.take k, p x = false) : DelInv p l k (k + 1) l :=
 ⟨Nat.lt_succ_self _, rfl, by rw [delF_snoc p h, if_pos ht, List.append_nil, delF_all ha], rfl⟩
theorem DelInv.skip {p : α → Bool} {l dk : List α} {i j : Nat} (h : DelInv p l i j dk) (hj : j < l.length) (ht : p l[j] = true) : DelInv p l i (j + 1) dk :=
 ⟨Nat.lt_succ_of_lt h.lt, h.len, by rw [delF_snoc p hj, if_pos ht, List.append_nil, h.done], by rw [← List.drop_drop, h.high, List.drop_drop]⟩
theorem DelInv.keep {p : α → Bool} {l dk : List α} {i j : Nat} (h : DelInv p l i j dk) (hj : j < l.length) (ht : p l[j] = false) : DelInv p l (i + 1) (j + 1) (dk.set i l[j]) := by
 have h1 := h.lt
 have h2 := h.len
 refine ⟨by omega, by rw [List.length_set, h2], ?_, ?_⟩
 ·rw [delF_snoc p hj, if_neg (by rw [ht]; simp), ← h.done, List.take_succ_eq_append_getElem (by rw [List.length_set]; omega), List.getElem_set_self, List.take_set_of_le (Nat.le_refl _)]
 ·rw [List.drop_set_of_lt (by omega), ← List.drop_drop, h.high, List.drop_drop]
theorem DelInv.at {p : α → Bool} {l dk : List α} {i j : Nat} (h : DelInv p l i j dk) (hj : j < l.length) (z : α) : dk.getD j z = l[j] := by
 have := h.high
 have h1 : dk[j]? = l[j]? := by
  have := congrArg (fun x : List α => x[0]?) this
  simpa [List.getElem?_drop] using this
 rw [List.getD_eq_getElem?_getD, h1, List.getElem?_eq_getElem hj]; rfl
theorem getD_of {l : List α} {i : Nat} (h : i < l.length) (z : α) : l.getD i z = l[i] := by rw [List.getD_eq_getElem?_getD, List.getElem?_eq_getElem h]; rfl
end
theorem blk_second (w : World) (o1 o2 : Obj) : ((w.alloc o1).alloc o2).heap[w.heap.size + 1]? = some o2 := by
 have h1 : (w.alloc o1).heap.size = w.heap.size + 1 := by simp
 rw [← h1]; exact heap_alloc_new _ _
theorem cell_off {w : World} {g o o' : Nat} {v : Value} (h : o ≠ o') : (w.setCell ⟨g, o, none⟩ v).cell? ⟨g, o', none⟩ = w.cell? ⟨g, o', none⟩ := by
 rw [World.cell?_setCell_other (h := fun e => by have := congrArg Addr.off e; simp at this; exact h this)]
section
variable {α : Type} {enc : α → List Value} {k : Nat} {hk : ∀ x, (enc x).length = k} {h1 : ∀ x, ∀ u ∈ enc x, u.oneCell' = true}
theorem raw_at {w : World} {A : Option Addr} {n : Nat} {l : List α} (h : Kd.C (rawKd enc k hk h1) w A n l) (i : Nat) (hi : i < l.length) :
 ∃ ad, A = some ad ∧ ∀ j u, (enc l[i])[j]? = some u → w.cell? (ad.add (i * k + j)) = some u := by
 have hn : l.length = n := h.1
 obtain ⟨ad, c, ea, _, hK, hc⟩ := Kd.C_get h l[i] (i : Int) (by omega) (by omega)
 rw [Int.toNat_natCast] at hK hc
 rw [getD_of hi] at hK
 have hK : c = enc l[i] := hK
 rw [hK] at hc
 exact ⟨ad, ea, hc⟩
theorem raw_own_at {W : World} {base g cap n : Nat} {ok : Nat → Prop} {e : Nat} {l : List α} (h : Kd.R (rawKd enc k hk h1) e W base ok (.slice (some ⟨g, 0, none⟩) n cap) l) (i : Nat) (hi : i < l.length) :
 (∀ j u, (enc l[i])[j]? = some u → W.cell? ⟨g, i * k + j, none⟩ = some u) ∧ ∀ j, W.frozen? ⟨g, i * k + j, none⟩ = false := by
 have hn : n = l.length := (Kd.R_reads' h).1
 obtain ⟨c, _, hM, hcc, hf⟩ := Kd.R_elem h l[i] (i : Int) (by omega) (by omega)
 rw [Int.toNat_natCast] at hM hcc hf
 rw [getD_of hi] at hM
 have hM : c = enc l[i] := hM
 rw [hM] at hcc
 exact ⟨hcc, hf⟩
theorem raw_set {w : World} {base g cap : Nat} {ok : Nat → Prop} {e : Nat} {l : List α} {n : Nat} (h : Kd.R (rawKd enc k hk h1) e w base ok (.slice (some ⟨g, 0, none⟩) n cap) l) (i : Nat) (hi : i < n) (x : α) :
 Kd.R (rawKd enc k hk h1) e (w.setCells g (i * k) (enc x)) base ok (.slice (some ⟨g, 0, none⟩) n cap) (l.set i x) ∧ w.grownBy (w.setCells g (i * k) (enc x)) (some g) := by
 have hn : n = l.length := (Kd.R_reads' h).1
 obtain ⟨hcc, _⟩ := raw_own_at h i (by omega)
 have hx := hk x
 have := Kd.R_seg (okp := fun _ => False) h (i : Int) (by omega) (by omega) (c := enc l[i]) (seg := enc x) (j := 0) (x' := x) (hk _) (by rw [Int.toNat_natCast]; exact hcc) (by rw [hx]; exact Nat.le_of_eq (Nat.zero_add k)) (by
  show (enc (l[i]'(by omega))).take 0 ++ enc x ++ (enc (l[i]'(by omega))).drop (0 + (enc x).length) = enc x
  rw [List.take_zero, List.nil_append, List.drop_of_length_le (by rw [hk, hx]; omega), List.append_nil]) (fun _ h => h.elim)
 rw [Int.toNat_natCast] at this
 exact this
theorem setCells_add (w : World) (g : Nat) : ∀ (a b : List Value) (o : Nat), w.setCells g o (a ++ b) = (w.setCells g o a).setCells g (o + a.length) b
 | [], b, o => by simp [World.setCells]
 | x :: a, b, o => by
  show (w.setCell _ x).setCells g (o + 1) (a ++ b) = _
  rw [setCells_add _ g a b (o + 1)]
  show _ = ((w.setCell _ x).setCells g (o + 1) a).setCells g (o + (a.length + 1)) b
  rw [show o + 1 + a.length = o + (a.length + 1) by omega]
theorem raw_clear (z : α) (zs : List Value) (hz : enc z = zs) (e : Nat) : ∀ (m : Nat) {w : World} {base g cap : Nat} {ok : Nat → Prop} {l : List α} {n i : Nat}, i + m = n → Kd.R (rawKd enc k hk h1) e w base ok (.slice (some ⟨g, 0, none⟩) n cap) l →
 ∃ l', l'.take i = l.take i ∧ l'.length = l.length ∧ Kd.R (rawKd enc k hk h1) e (w.setCells g (i * k) (List.replicate m zs).flatten) base ok (.slice (some ⟨g, 0, none⟩) n cap) l' ∧ w.grownBy (w.setCells g (i * k) (List.replicate m zs).flatten) (some g)
 | 0, w, base, g, cap, ok, l, n, i, _, h => ⟨l, rfl, rfl, by simpa [World.setCells] using h, by simpa [World.setCells] using World.grownBy.refl w (some g)⟩
 | m + 1, w, base, g, cap, ok, l, n, i, hin, h => by
  obtain ⟨h1', g1⟩ := raw_set h i (by omega) z
  obtain ⟨l', e1, e2, h2, g2⟩ := raw_clear z zs hz e m (i := i + 1) (by omega) h1'
  have hzl : zs.length = k := by rw [← hz]; exact hk z
  rw [List.replicate_succ, List.flatten_cons, setCells_add, hzl, show i * k + k = (i + 1) * k by rw [Nat.add_mul, Nat.one_mul]]
  rw [hz] at h2 g2 g1
  refine ⟨l', ?_, by rw [e2, List.length_set], h2, grow_then g1 g2⟩
  have : (l'.take (i + 1)).take i = ((l.set i z).take (i + 1)).take i := by rw [e1]
  rw [List.take_take, List.take_take, Nat.min_eq_left (Nat.le_succ _)] at this
  rw [this, List.take_set_of_le (Nat.le_refl _)]
theorem raw_reps (W : World) (base : Nat) (ok : Nat → Prop) (l : List α) : Reps ((rawKd enc k hk h1).M W base ok) k l (l.map enc).flatten := by
 have : ∀ i, i ≤ l.length → Reps ((rawKd enc k hk h1).M W base ok) k (l.take i) ((l.take i).map enc).flatten := by
  intro i
  induction i with
  | zero => intro _; exact Reps.none _ _
  | succ i ih =>
   intro hi
   rw [List.take_succ_eq_append_getElem (by omega), List.map_append, List.flatten_append]
   have := (ih (by omega)).snoc (p := l[i]'(by omega)) (c := enc (l[i]'(by omega))) rfl (hk _)
   simpa using this
 have h := this l.length (Nat.le_refl _)
 rwa [List.take_length] at h
/-- A block that holds elements and nothing else is a row of one's own. -/
theorem raw_of_block {W : World} {g e : Nat} (l : List α) (h : W.heap[g]? = some (.cells (l.map enc).flatten.toArray e (0, 0))) {base : Nat} (hb : base ≤ g) (hl : l.length ≤ 1000000000000) : Kd.R (rawKd enc k hk h1) e W base (fun _ => True) (.slice (some ⟨g, 0, none⟩) l.length l.length) l := by
 obtain ⟨r1, r2⟩ := raw_reps (hk := hk) (h1 := h1) W base (fun k => True ∧ some k ≠ (Value.slice (some ⟨g, 0, none⟩) l.length l.length).ownBlock) l
 refine ⟨fun _ _ => trivial, (l.map enc).flatten, ⟨r1, .inr ⟨g, l.length, _, rfl, hb, h, Nat.le_refl _, by unfold maxLen; omega, ?_, ?_⟩⟩, r1, r2⟩
 ·rw [List.size_toArray]; exact r1
 ·show List.take (l.length * k) _ = _
  rw [List.take_of_length_le (by rw [r1]; exact Nat.le_refl _)]
end
theorem flat_len (zs : List Value) (m : Nat) : (List.replicate m zs).flatten.length = m * zs.length := by
 induction m with
 | zero => simp
 | succ m ih => rw [List.replicate_succ, List.flatten_cons, List.length_append, ih, Nat.add_mul, Nat.one_mul]; omega
theorem flat_get (zs : List Value) (hz : 0 < zs.length) (m q : Nat) (h : q < m * zs.length) : (List.replicate m zs).flatten[q]? = zs[q % zs.length]? := by
 induction m generalizing q with
 | zero => omega
 | succ m ih =>
  rw [List.replicate_succ, List.flatten_cons]
  by_cases hq : q < zs.length
  ·rw [List.getElem?_append_left hq, Nat.mod_eq_of_lt hq]
  ·rw [List.getElem?_append_right (by omega), ih _ (by rw [Nat.add_mul, Nat.one_mul] at h; omega)]
   congr 1
   exact (Nat.mod_eq_sub_mod (by omega)).symm
theorem zeroCells_flat (zs : List Value) (hz : 0 < zs.length) (m : Nat) : (Builtin.zeroCells zs.toArray m).toList = (List.replicate m zs).flatten := by
 apply List.ext_getElem?
 intro q
 by_cases hq : q < m * zs.length
 ·rw [flat_get zs hz m q hq]
  have hm : q % zs.length < zs.length := Nat.mod_lt _ hz
  simp [Builtin.zeroCells, hq, hm]
 ·rw [List.getElem?_eq_none (by simp [Builtin.zeroCells]; omega), List.getElem?_eq_none (by rw [flat_len]; omega)]
end Go.Proofs.Ytppdcldbebnmlaa.K
end
section
namespace Go.Proofs.Ytppdcldbebnmlaa.P
open Go.RowKit Go.Shelf Go.Proofs.Ytppdcldbebnmlaa.K Go.Proofs.YtppdcldbebnmlaaW.PrintWords Go.Proofs.YtppdcldbebnmlaaW.PrintLast Go.Proofs.YtppdcldbebnmlaaW.PrintMore
structure RawD where
 f0 : Int
 f1 : ByteArray
 f2 : ByteArray
 f3 : Int
 a4 : Option Addr
 n4 : Nat
 c4 : Nat
 f5 : Int
instance : Inhabited RawD := ⟨⟨0, ⟨#[]⟩, ⟨#[]⟩, 0, none, 0, 0, 0⟩⟩
def zeroD : RawD := ⟨0, ⟨#[]⟩, ⟨#[]⟩, 0, none, 0, 0, 0⟩
def encD (x : RawD) : List Value := [.int .i64 x.f0, .string x.f1, .string x.f2, .int .i64 x.f3, .slice x.a4 x.n4 x.c4, .int .i64 x.f5]
theorem encD_len (x : RawD) : (encD x).length = 6 := rfl
theorem encD_one (x : RawD) : ∀ u ∈ encD x, u.oneCell' = true := by
 intro u hu
 simp only [encD, List.mem_cons, List.not_mem_nil, or_false] at hu
 rcases hu with rfl | rfl | rfl | rfl | rfl | rfl <;> rfl
noncomputable abbrev kD : Kd RawD := rawKd encD 6 encD_len encD_one
def aggD (x : RawD) : Value := .agg #[.int .i64 x.f0, .string x.f1, .string x.f2, .int .i64 x.f3, .slice x.a4 x.n4 x.c4, .int .i64 x.f5]
theorem infoD : (Try.prog.info? 27).map (fun i => (i.zero, i.size, i.bytes)) = some (some (.agg #[.int .i64 0, .string ⟨#[]⟩, .string ⟨#[]⟩, .int .i64 0, .slice none 0 0, .int .i64 0]), 6, 80) := by kernel_rfl
theorem at_D {w : World} {A : Option Addr} {n : Nat} {l : List RawD} (h : Kd.C kD w A n l) (i : Nat) (hi : i < l.length) : ∃ ad, A = some ad ∧ w.cell? (ad.add (i * 6)) = some (.int .i64 l[i].f0) ∧ w.cell? ⟨(ad.add (i * 6)).block, (ad.add (i * 6)).off + 1, none⟩ = some (.string l[i].f1) ∧ w.cell? ⟨(ad.add (i * 6)).block, (ad.add (i * 6)).off + 2, none⟩ = some (.string l[i].f2) ∧ w.cell? ⟨(ad.add (i * 6)).block, (ad.add (i * 6)).off + 3, none⟩ = some (.int .i64 l[i].f3) ∧ w.cell? ⟨(ad.add (i * 6)).block, (ad.add (i * 6)).off + 4, none⟩ = some (.slice l[i].a4 l[i].n4 l[i].c4) ∧ w.cell? ⟨(ad.add (i * 6)).block, (ad.add (i * 6)).off + 5, none⟩ = some (.int .i64 l[i].f5) := by
 obtain ⟨ad, ea, h⟩ := raw_at h i hi
 refine ⟨ad, ea, h 0 _ rfl, by rw [← add_field _ _ _ (by decide)]; exact h 1 _ rfl, by rw [← add_field _ _ _ (by decide)]; exact h 2 _ rfl, by rw [← add_field _ _ _ (by decide)]; exact h 3 _ rfl, by rw [← add_field _ _ _ (by decide)]; exact h 4 _ rfl, by rw [← add_field _ _ _ (by decide)]; exact h 5 _ rfl⟩
/-- A predicate that may lay blocks of its own. -/
def PredD (g : Nat) (lb : Array Value) (l : List RawD) (p : RawD → Bool) (w : World) : Prop :=
 ∀ (W : World) (x : RawD), x ∈ l → Below w.heap.size w W → Calls Try.prog g (#[aggD x] ++ lb) W fun e w' => e = .returned (.bool (p x)) ∧ Below W.heap.size W w'
set_option maxHeartbeats 4000000 in
set_option maxRecDepth 100000 in
theorem indexD_calls (p : RawD → Bool) (g : Nat) (lb : Array Value) (eg : ∀ args w, (callFunc g args).run Try.prog w = .ok (.enter g args) w) (A0 : Option Addr) (c0 : Nat) (l0 : List RawD) (w : World) (hr0 : Kd.C kD w A0 l0.length l0) (hc0 : l0.length ≤ 1000000000) (hp : PredD g lb l0 p w) :
 Calls Try.prog 25 #[.slice A0 l0.length c0, .func (.func g) #[] lb] w fun e w' => e = .returned (.int .i64 (idxZ p l0 0)) ∧ Below w.heap.size w w' := by
 have HC := Lib.hid hr0
 clear hr0
 go_enter Try.func25, Try.ntmps25
 go_wp2
 go_loopw [5, 8] (fun _ i wr => ∃ k : Nat, k ≤ l0.length ∧ i = .int .i64 k ∧ Hid (idxZ p l0 0 = idxZ p (l0.drop k) k) ∧ Hid (Below w.heap.size w wr)) (fun _ i _ => l0.length - (intOf i).toNat)
 case atStart => exact ⟨0, Nat.zero_le _, rfl, Lib.hid rfl, Lib.hid (Below.refl _ _)⟩
 case round =>
  obtain ⟨k, hk, rfl, HN, HB⟩ := hrel
  by_cases hlt : k < l0.length
  ·obtain ⟨ad, ea, hx0, hx1, hx2, hx3, hx4, hx5⟩ := at_D (Kd.C_below HC.out HB.out) k hlt
   subst ea
   have hdrop : l0.drop k = l0[k] :: l0.drop (k + 1) := List.drop_eq_getElem_cons hlt
   have hN := HN.out
   rw [hdrop] at hN
   simp only [idxZ] at hN
   clear hdrop HN
   have hmem : l0[k] ∈ l0 := List.getElem_mem hlt
   generalize l0[k] = m at hx0 hx1 hx2 hx3 hx4 hx5 hN hmem
   have HP := Lib.hid (hp wr m hmem HB.out)
   unfold aggD at HP
   clear hmem
   cases hq : p m with
   | true =>
    rw [if_pos hq] at hN
    rw [hq] at HP
    go_wp2_with (go_at_fn g; refine HP.out.mono ?_; rintro e w2 ⟨rfl, hb⟩)
    go_ret
    exact ⟨by first | rfl | (rw [hN]; rfl), pbT HB.out hb⟩
   | false =>
    rw [if_neg (by rw [hq]; simp)] at hN
    rw [hq] at HP
    have HN := Lib.hid hN
    clear hN
    go_wp2_with (go_at_fn g; refine HP.out.mono ?_; rintro e w2 ⟨rfl, hb⟩)
    go_roundw
    case rel => exact ⟨k + 1, by omega, by go_num, HN, Lib.hid (pbT HB.out hb)⟩
    case measure => simp [intOf]; omega
  ·obtain rfl : k = l0.length := by omega
   have hN := HN.out
   rw [List.drop_length] at hN
   simp only [idxZ] at hN
   go_wp2
   go_ret
   exact ⟨by first | rfl | (rw [hN]; rfl), HB.out⟩
set_option maxHeartbeats 4000000 in
theorem containsD_calls (p : RawD → Bool) (g : Nat) (lb : Array Value) (eg : ∀ args w, (callFunc g args).run Try.prog w = .ok (.enter g args) w) (A0 : Option Addr) (c0 : Nat) (l0 : List RawD) (w : World) (hr0 : Kd.C kD w A0 l0.length l0) (hc0 : l0.length ≤ 1000000000) (hp : PredD g lb l0 p w) :
 Calls Try.prog 31 #[.slice A0 l0.length c0, .func (.func g) #[] lb] w fun e w' => e = .returned (.bool (l0.any p)) ∧ Below w.heap.size w w' := by
 have hI := indexD_calls p g lb eg A0 c0 l0 w hr0 hc0 hp
 have HA := Lib.hid (idxZ_any p l0)
 clear hr0 hp
 generalize idxZ p l0 0 = z at hI HA
 have HI := Lib.hid hI
 clear hI
 go_enter Try.func31, Try.ntmps31
 go_wp2_with (go_at_call 25; refine HI.out.mono ?_; rintro e w1 ⟨rfl, hb⟩)
 go_ret
 exact ⟨by rw [← HA.out]; rfl, hb⟩
theorem flatD : ∀ (W : World) (base : Nat) (ok : Nat → Prop) x cs, kD.K W x cs → kD.M W base ok x cs := fun _ _ _ _ _ h => h
set_option maxHeartbeats 2000000 in
set_option maxRecDepth 100000 in
theorem cloneD_calls (A0 : Option Addr) (c0 : Nat) (l0 : List RawD) (w : World) (hr0 : Kd.C kD w A0 l0.length l0) (hl : l0.length ≤ 1000000000) :
 Calls Try.prog 33 #[.slice A0 l0.length c0] w fun e w' => ∃ v : Value, e = .returned v ∧ Kd.R kD 27 w' w.heap.size (fun _ => True) v l0 ∧ Below w.heap.size w w' := by
 rcases A0 with _ | ad
 ·have h0 : l0 = [] := by
   rcases l0 with _ | ⟨x, l⟩
   ·rfl
   ·obtain ⟨ad, h, _⟩ := hr0.2.2 (by simp); cases h
  subst h0
  have hbin := fun w => Lib.run_eql_slice_nil (P := Try.prog) w 22 27 none 0 c0 0 0 Try.underlying22
  go_enter Try.func33, Try.ntmps33
  go_wp2
  go_ret
  exact ⟨_, rfl, Kd.R_nil _ _ _ _ _, Below.refl _ _⟩
 ·have HC := Lib.hid hr0
  clear hr0
  have hbin := fun w => Lib.run_eql_slice_nil (P := Try.prog) w 22 27 (some ad) l0.length c0 0 0 Try.underlying22
  go_enter Try.func33, Try.ntmps33
  go_wp2_with (first | ((with_reducible refine gate_dst (N := 5) rfl ?_); refine Kd.R_lit kD _ 27 ?hg (N := 5) ?hd (xs := ([] : List RawD)) (inner := []) (ok := fun _ => True) (okp := fun _ => True) ?hr ?hp (fun _ hk => hk) trivial (Below.refl _ _) (Nat.le_refl _) (by simp) ?_; (case hd => rfl); (case hg => rfl); (case hr => first | (go_simp; done) | (go_simp; rfl)); (case hp => exact (Reps.none _ _)); intro v1 w1 ho1 hb1 _ _) | ((with_reducible refine gate_builtin (b := .append) (xs := #[.tmp 5, .tmp 6]) rfl ?_); at_builtin; refine Kd.R_append_rows kD (Rr := fun x cs => cs = encD x) (w0 := w) w.heap.size rfl (.tmp 5) (.tmp 6) 22 27 (.agg #[.int .i64 0, .string ⟨#[]⟩, .string ⟨#[]⟩, .int .i64 0, .slice none 0 0, .int .i64 0]) 80 rfl Try.underlying22 infoD rfl (by decide) (by omega) v1 [] l0 _ _ _ (fun _ => True) (fun _ => False) rfl rfl ?aO ?aR (fun _ _ h => h) (fun _ h => h.elim) ?aF ?aB ?aS ?aL ?_; (case aR => exact Kd.C_below HC.out hb1); (case aF => exact fun _ _ => trivial); (case aB => exact hb1); (case aS => exact hb1.size); (case aL => simp; omega); (case aO => exact ho1); intro v2 w2 ho2 hb2 _ _) | fail)
  obtain ⟨A3, c3, rfl⟩ := Kd.R_slice ho2
  go_ret
  exact ⟨_, rfl, ho2, hb2⟩
theorem spotsD {w2 : World} {ad : Addr} {g i : Nat} (had : ad = ⟨g, 0, none⟩) (m : RawD) (y : RawD) (h : ∀ j u, (encD y)[j]? = some u → w2.cell? ⟨g, i * 6 + j, none⟩ = some u) (hf : ∀ j, w2.frozen? ⟨g, i * 6 + j, none⟩ = false) :
 (∃ u, w2.cell? (ad.add (i * 6)) = some u) ∧ w2.frozen? (ad.add (i * 6)) = false ∧ (∃ u, (w2.setCell (ad.add (i * 6)) (.int .i64 m.f0)).cell? ⟨(ad.add (i * 6)).block, (ad.add (i * 6)).off + 1, none⟩ = some u) ∧ (w2.setCell (ad.add (i * 6)) (.int .i64 m.f0)).frozen? ⟨(ad.add (i * 6)).block, (ad.add (i * 6)).off + 1, none⟩ = false ∧ (∃ u, ((w2.setCell (ad.add (i * 6)) (.int .i64 m.f0)).setCell ⟨(ad.add (i * 6)).block, (ad.add (i * 6)).off + 1, none⟩ (.string m.f1)).cell? ⟨(ad.add (i * 6)).block, (ad.add (i * 6)).off + 2, none⟩ = some u) ∧ ((w2.setCell (ad.add (i * 6)) (.int .i64 m.f0)).setCell ⟨(ad.add (i * 6)).block, (ad.add (i * 6)).off + 1, none⟩ (.string m.f1)).frozen? ⟨(ad.add (i * 6)).block, (ad.add (i * 6)).off + 2, none⟩ = false ∧ (∃ u, (((w2.setCell (ad.add (i * 6)) (.int .i64 m.f0)).setCell ⟨(ad.add (i * 6)).block, (ad.add (i * 6)).off + 1, none⟩ (.string m.f1)).setCell ⟨(ad.add (i * 6)).block, (ad.add (i * 6)).off + 2, none⟩ (.string m.f2)).cell? ⟨(ad.add (i * 6)).block, (ad.add (i * 6)).off + 3, none⟩ = some u) ∧ (((w2.setCell (ad.add (i * 6)) (.int .i64 m.f0)).setCell ⟨(ad.add (i * 6)).block, (ad.add (i * 6)).off + 1, none⟩ (.string m.f1)).setCell ⟨(ad.add (i * 6)).block, (ad.add (i * 6)).off + 2, none⟩ (.string m.f2)).frozen? ⟨(ad.add (i * 6)).block, (ad.add (i * 6)).off + 3, none⟩ = false ∧ (∃ u, ((((w2.setCell (ad.add (i * 6)) (.int .i64 m.f0)).setCell ⟨(ad.add (i * 6)).block, (ad.add (i * 6)).off + 1, none⟩ (.string m.f1)).setCell ⟨(ad.add (i * 6)).block, (ad.add (i * 6)).off + 2, none⟩ (.string m.f2)).setCell ⟨(ad.add (i * 6)).block, (ad.add (i * 6)).off + 3, none⟩ (.int .i64 m.f3)).cell? ⟨(ad.add (i * 6)).block, (ad.add (i * 6)).off + 4, none⟩ = some u) ∧ ((((w2.setCell (ad.add (i * 6)) (.int .i64 m.f0)).setCell ⟨(ad.add (i * 6)).block, (ad.add (i * 6)).off + 1, none⟩ (.string m.f1)).setCell ⟨(ad.add (i * 6)).block, (ad.add (i * 6)).off + 2, none⟩ (.string m.f2)).setCell ⟨(ad.add (i * 6)).block, (ad.add (i * 6)).off + 3, none⟩ (.int .i64 m.f3)).frozen? ⟨(ad.add (i * 6)).block, (ad.add (i * 6)).off + 4, none⟩ = false ∧ (∃ u, (((((w2.setCell (ad.add (i * 6)) (.int .i64 m.f0)).setCell ⟨(ad.add (i * 6)).block, (ad.add (i * 6)).off + 1, none⟩ (.string m.f1)).setCell ⟨(ad.add (i * 6)).block, (ad.add (i * 6)).off + 2, none⟩ (.string m.f2)).setCell ⟨(ad.add (i * 6)).block, (ad.add (i * 6)).off + 3, none⟩ (.int .i64 m.f3)).setCell ⟨(ad.add (i * 6)).block, (ad.add (i * 6)).off + 4, none⟩ (.slice m.a4 m.n4 m.c4)).cell? ⟨(ad.add (i * 6)).block, (ad.add (i * 6)).off + 5, none⟩ = some u) ∧ (((((w2.setCell (ad.add (i * 6)) (.int .i64 m.f0)).setCell ⟨(ad.add (i * 6)).block, (ad.add (i * 6)).off + 1, none⟩ (.string m.f1)).setCell ⟨(ad.add (i * 6)).block, (ad.add (i * 6)).off + 2, none⟩ (.string m.f2)).setCell ⟨(ad.add (i * 6)).block, (ad.add (i * 6)).off + 3, none⟩ (.int .i64 m.f3)).setCell ⟨(ad.add (i * 6)).block, (ad.add (i * 6)).off + 4, none⟩ (.slice m.a4 m.n4 m.c4)).frozen? ⟨(ad.add (i * 6)).block, (ad.add (i * 6)).off + 5, none⟩ = false := by
 subst had
 simp only [add_plain]
 refine ⟨⟨_, h 0 _ rfl⟩, hf 0, ⟨_, by (rw [cell_off]; (exact h 1 _ rfl)); all_goals omega⟩, by simp only [World.frozen?_setCell]; exact hf 1, ⟨_, by (rw [cell_off, cell_off]; (exact h 2 _ rfl)); all_goals omega⟩, by simp only [World.frozen?_setCell]; exact hf 2, ⟨_, by (rw [cell_off, cell_off, cell_off]; (exact h 3 _ rfl)); all_goals omega⟩, by simp only [World.frozen?_setCell]; exact hf 3, ⟨_, by (rw [cell_off, cell_off, cell_off, cell_off]; (exact h 4 _ rfl)); all_goals omega⟩, by simp only [World.frozen?_setCell]; exact hf 4, ⟨_, by (rw [cell_off, cell_off, cell_off, cell_off, cell_off]; (exact h 5 _ rfl)); all_goals omega⟩, by simp only [World.frozen?_setCell]; exact hf 5⟩
set_option maxHeartbeats 4000000 in
set_option maxRecDepth 100000 in
theorem run_clearD (w : World) (ty : TypeId) (b o m c : Nat) (hn : 0 < m) (hc : ∀ j, j < m * 6 → (w.cell? ⟨b, o + j, none⟩).isSome = true) (hf : ∀ j, j < m * 6 → w.frozen? ⟨b, o + j, none⟩ = false) :
 (Builtin.clear_ #[22] ty #[.slice (some ⟨b, o, none⟩) m c]).run Try.prog w = .ok (.tuple #[]) (w.setCells b o (List.replicate m [.int .i64 0, .string ⟨#[]⟩, .string ⟨#[]⟩, .int .i64 0, .slice none 0 0, .int .i64 0]).flatten) := by
 have hv : ∀ w, (zeroValue 27).run Try.prog w = .ok (.agg #[.int .i64 0, .string ⟨#[]⟩, .string ⟨#[]⟩, .int .i64 0, .slice none 0 0, .int .i64 0]) w := fun w => by kernel_rfl
 have hzc : (Builtin.zeroCells (Value.agg #[.int .i64 0, .string ⟨#[]⟩, .string ⟨#[]⟩, .int .i64 0, .slice none 0 0, .int .i64 0]).cells m).toList = (List.replicate m [.int .i64 0, .string ⟨#[]⟩, .string ⟨#[]⟩, .int .i64 0, .slice none 0 0, .int .i64 0]).flatten := by
  have : (Value.agg #[.int .i64 0, .string ⟨#[]⟩, .string ⟨#[]⟩, .int .i64 0, .slice none 0 0, .int .i64 0]).cells = #[.int .i64 0, .string ⟨#[]⟩, .string ⟨#[]⟩, .int .i64 0, .slice none 0 0, .int .i64 0] := by kernel_rfl
  rw [this]
  exact zeroCells_flat [.int .i64 0, .string ⟨#[]⟩, .string ⟨#[]⟩, .int .i64 0, .slice none 0 0, .int .i64 0] (by simp) m
 have hst := run_storeCells_cells (P := Try.prog) b o (List.replicate m [.int .i64 0, .string ⟨#[]⟩, .string ⟨#[]⟩, .int .i64 0, .slice none 0 0, .int .i64 0]).flatten 0 w (by simpa [flat_len] using hc) (by simpa [flat_len] using hf) (by intro v hv'; obtain ⟨q, hq, hv'⟩ := List.mem_flatten.1 hv'; rw [List.eq_of_mem_replicate hq] at hv'; simp only [List.mem_cons, List.not_mem_nil, or_false] at hv'; rcases hv' with rfl | rfl | rfl | rfl | rfl | rfl <;> rfl)
 simp only [Nat.add_zero] at hst
 obtain ⟨m, rfl⟩ : ∃ q, m = q + 1 := ⟨m - 1, by omega⟩
 simp [Builtin.clear_, run_underlying Try.underlying22, hv, hzc, hst]
set_option maxHeartbeats 8000000 in
set_option maxRecDepth 100000 in
theorem deleteD_calls (p : RawD → Bool) (fg : Nat) (lb : Array Value) (eg : ∀ args w, (callFunc fg args).run Try.prog w = .ok (.enter fg args) w) (base : Nat) (ok : Nat → Prop) (v : Value) (l : List RawD) (w : World)
 (hR : Kd.R kD 27 w base ok v l) (hl : l.length ≤ 1000000000)
 (hp : ∀ (W : World) (x : RawD), x ∈ l → w.grownBy W v.ownBlock → Calls Try.prog fg (#[aggD x] ++ lb) W fun e w' => e = .returned (.bool (p x)) ∧ Below W.heap.size W w') :
 Calls Try.prog 32 #[v, .func (.func fg) #[] lb] w fun e w' => ∃ v', e = .returned v' ∧ Kd.R kD 27 w' base ok v' (delF p l) ∧ v'.ownBlock = v.ownBlock ∧ w.grownBy w' v.ownBlock := by
 obtain ⟨A, c, rfl⟩ := Kd.R_slice hR
 have hI := indexD_calls p fg lb eg A c l w (Kd.R_reads' hR).2.2 hl (fun W x hx hb => hp W x hx (grow_below (World.grownBy.refl _ _) hb))
 rcases idxZ_spec p l 0 with ⟨h1, h2⟩ | ⟨k, hk, h1, h2, h3⟩
 ·rw [h1] at hI
  have HI := Lib.hid hI
  have HR := Lib.hid hR
  clear hI hR hp
  go_enter Try.func32, Try.ntmps32
  go_wp2_with (go_at_call 25; refine HI.out.mono ?_; rintro e w1 ⟨rfl, hb⟩)
  go_ret
  exact ⟨_, rfl, by rw [delF_all h2]; exact Kd.R_below HR.out hb, rfl, grow_below (World.grownBy.refl _ _) hb⟩
 ·rw [h1, Nat.zero_add] at hI
  obtain ⟨g, cap, e, hbg, hglt, cells, hcells⟩ := Kd.R_form hR (by omega)
  have hcap := (Kd.R_reads' hR).2.1
  injection e with e1 _ e3
  subst e1
  subst e3
  have HI := Lib.hid hI
  have HR := Lib.hid hR
  have HS := Lib.hid (DelInv.start hk h2 h3)
  have HP := Lib.hid hp
  have hne1 : ((k : Int) == -1) = false := beq_eq_false_iff_ne.2 (by omega)
  clear hI hR hp h1 h2 h3
  obtain ⟨ad, had⟩ : ∃ ad : Addr, ad = ⟨g, 0, none⟩ := ⟨_, rfl⟩
  rw [← had] at HI HR HP ⊢
  have HA := Lib.hid had
  clear had
  go_enter Try.func32, Try.ntmps32
  go_wp2_with (go_at_call 25; refine HI.out.mono ?_; rintro e w1 ⟨rfl, hb⟩)
  go_loopw [5, 6, 7] (fun s5 s6 _ wr => ∃ (i j : Nat) (dk : List RawD), s5 = .int .i64 i ∧ s6 = .int .i64 j ∧ j ≤ l.length ∧ Hid (DelInv p l i j dk) ∧ Hid (Kd.R kD 27 wr base ok (.slice (some ad) l.length c) dk) ∧ Hid (w.grownBy wr (some g))) (fun _ s6 _ _ => l.length - (intOf s6).toNat)
  case atStart => exact ⟨k, k + 1, l, rfl, by go_num, by omega, HS, Lib.hid (Kd.R_below HR.out hb), Lib.hid (grow_below (World.grownBy.refl _ _) hb)⟩
  case round =>
   obtain ⟨i, j, dk, rfl, rfl, hj, HD, HQ, HG⟩ := hrel
   have hij := HD.out.lt
   by_cases hlt : j < l.length
   ·have hdl := HD.out.len
    obtain ⟨ad', ea, hx0, hx1, hx2, hx3, hx4, hx5⟩ := at_D (Kd.R_reads' HQ.out).2.2 j (by rw [hdl]; exact hlt)
    injection ea with ea
    subst ea
    have hdj : dk[j]'(by rw [hdl]; exact hlt) = l[j] := by rw [← HD.out.at hlt default]; exact (getD_of _ _).symm
    rw [hdj] at hx0 hx1 hx2 hx3 hx4 hx5
    have hmem : l[j] ∈ l := List.getElem_mem hlt
    clear hdj
    obtain ⟨m, hm⟩ : ∃ m, m = l[j] := ⟨_, rfl⟩
    rw [← hm] at hx0 hx1 hx2 hx3 hx4 hx5 hmem
    have Hm := Lib.hid hm
    have Hdl := Lib.hid hdl
    clear hm hdl
    have hc := HP.out (wr.alloc (.cells (encD m).toArray 27)) m hmem (by rw [HA.out]; exact grow_below HG.out (pbA (Below.refl _ _) _))
    unfold aggD encD at hc
    clear hmem
    cases hq : p m with
    | true =>
     rw [hq] at hc
     have HC := Lib.hid hc
     clear hc
     go_wp2_with (go_at_fn fg; refine HC.out.mono ?_; rintro e w2 ⟨rfl, hb2⟩)
     go_roundw
     case rel => exact ⟨i, j + 1, dk, rfl, by go_num, by omega, Lib.hid (HD.out.skip hlt (by rw [← Hm.out]; exact hq)), Lib.hid (Kd.R_below (Kd.R_alloc HQ.out _) hb2), Lib.hid (grow_below (grow_below HG.out (pbA (Below.refl _ _) _)) hb2)⟩
     case measure => simp [intOf]; omega
    | false =>
     rw [hq] at hc
     have HC := Lib.hid hc
     clear hc
     go_wp2_with (go_at_fn fg; refine HC.out.mono ?_; rintro e w2 ⟨rfl, hb2⟩; have BL := bkB (heap_alloc_new wr _) hb2; have hz0 := (bkC BL 0).trans rfl; have hz1 := (bkC BL 1).trans rfl; have hz2 := (bkC BL 2).trans rfl; have hz3 := (bkC BL 3).trans rfl; have hz4 := (bkC BL 4).trans rfl; have hz5 := (bkC BL 5).trans rfl; have hQ2 := Kd.R_below (Kd.R_alloc HQ.out _) hb2; have hQ3 := hQ2; rw [HA.out] at hQ3; obtain ⟨hcc, hff⟩ := raw_own_at hQ3 i (by rw [Hdl.out]; omega); obtain ⟨⟨o0, hy0⟩, hf0, ⟨o1, hy1⟩, hf1, ⟨o2, hy2⟩, hf2, ⟨o3, hy3⟩, hf3, ⟨o4, hy4⟩, hf4, ⟨o5, hy5⟩, hf5⟩ := spotsD HA.out m _ hcc hff; have HQ2 := Lib.hid hQ2; clear hQ2 hQ3 hcc hff; have HB2 := Lib.hid hb2; clear hb2)
     have hW : ((((((w2.setCell (ad.add (i * 6)) (.int .i64 m.f0)).setCell ⟨(ad.add (i * 6)).block, (ad.add (i * 6)).off + 1, none⟩ (.string m.f1)).setCell ⟨(ad.add (i * 6)).block, (ad.add (i * 6)).off + 2, none⟩ (.string m.f2)).setCell ⟨(ad.add (i * 6)).block, (ad.add (i * 6)).off + 3, none⟩ (.int .i64 m.f3)).setCell ⟨(ad.add (i * 6)).block, (ad.add (i * 6)).off + 4, none⟩ (.slice m.a4 m.n4 m.c4)).setCell ⟨(ad.add (i * 6)).block, (ad.add (i * 6)).off + 5, none⟩ (.int .i64 m.f5)) = w2.setCells g (i * 6) (encD m) := by rw [HA.out, add_plain]; rfl
     have hQ3 := HQ2.out
     rw [HA.out] at hQ3
     obtain ⟨hs1, hs2⟩ := raw_set hQ3 i (by omega) m
     have HS1 := Lib.hid hs1
     have HS2 := Lib.hid hs2
     have HW := Lib.hid hW
     clear hs1 hs2 hW hQ3
     go_roundw
     case rel =>
      refine ⟨i + 1, j + 1, dk.set i m, by go_num, by go_num, by omega, Lib.hid ?_, Lib.hid ?_, Lib.hid ?_⟩
      ·have := HD.out.keep hlt (by rw [← Hm.out]; exact hq)
       rw [← Hm.out] at this
       exact this
      ·rw [HW.out, HA.out]; exact HS1.out
      ·rw [HW.out]; exact grow_then (grow_below (grow_below HG.out (pbA (Below.refl _ _) _)) HB2.out) HS2.out
     case measure => simp [intOf]; omega
   ·obtain rfl : j = l.length := by omega
    have hQ := HQ.out
    rw [HA.out] at hQ
    have hdl := HD.out.len
    obtain ⟨i0_, hi0_, _, hsz_, _⟩ := info_parts infoD
    have hcut : ∀ W : World, (Instr.slice 22 (.slice (some ad) l.length c) (some (.int .i64 (i : Int))) none none).run Try.prog W = .ok (.slice (some (ad.add (i * 6))) (l.length - i) (c - i)) W := fun W => by
     have := cut_from (P := Try.prog) 22 27 .i64 Try.underlying22 hi0_ 6 hsz_ (some ad) l.length c (i : Int) (by omega) (by omega) W
     rw [Int.toNat_natCast, if_neg (by omega)] at this
     exact this
    have hcut2 : ∀ W : World, (Instr.slice 22 (.slice (some ad) l.length c) none (some (.int .i64 (i : Int))) none).run Try.prog W = .ok (.slice (some ad) i c) W := fun W => by
     have := cut_to (P := Try.prog) 22 27 .i64 Try.underlying22 hi0_ (some ad) l.length c (i : Int) (by omega) (by omega) hcap W
     rw [Int.toNat_natCast] at this
     exact this
    obtain ⟨dk', e1, e2, hC1, hC2⟩ := raw_clear zeroD _ rfl 27 (l.length - i) (i := i) (by omega) hQ
    have hcl : ∀ ty, (Builtin.clear_ #[22] ty #[.slice (some (ad.add (i * 6))) (l.length - i) (c - i)]).run Try.prog wr = .ok (.tuple #[]) (wr.setCells g (i * 6) (List.replicate (l.length - i) [.int .i64 0, .string ⟨#[]⟩, .string ⟨#[]⟩, .int .i64 0, .slice none 0 0, .int .i64 0]).flatten) := fun ty => by
     rw [HA.out, add_plain]
     refine run_clearD wr ty g (i * 6) (l.length - i) (c - i) (by omega) (fun q hq => ?_) (fun q hq => ?_)
     ·obtain ⟨hcc, _⟩ := raw_own_at hQ (i + q / 6) (by rw [hdl]; omega)
      have hq6 : q % 6 < (encD (dk[i + q / 6]'(by rw [hdl]; omega))).length := by rw [encD_len]; exact Nat.mod_lt _ (by decide)
      have := hcc (q % 6) _ (List.getElem?_eq_getElem hq6)
      have es : (i + q / 6) * 6 + q % 6 = i * 6 + q := by omega
      rw [es] at this
      rw [this]; rfl
     ·obtain ⟨cells2, hc2⟩ := Kd.R_typed hQ g rfl
      exact bkF hc2 _
    have HC1 := Lib.hid hC1
    have HC2 := Lib.hid hC2
    have HE1 := Lib.hid e1
    have HE2 := Lib.hid e2
    have Hdl := Lib.hid hdl
    clear hQ e1 e2 hC1 hC2 hi0_ hsz_ hdl
    go_wp2
    go_ret
    have hd := HD.out.done
    rw [List.take_length] at hd
    have ht := Kd.R_take (m := i) HC1.out (by rw [HE2.out, Hdl.out]; omega)
    rw [HE1.out, hd] at ht
    refine ⟨_, rfl, ?_, ?_, ?_⟩
    ·rw [HA.out]; exact ht
    ·rw [HA.out]; rfl
    ·rw [HA.out]; exact grow_then HG.out HC2.out
end Go.Proofs.Ytppdcldbebnmlaa.P
end
section
namespace Go.Proofs.Ytppdcldbebnmlaa.K
open Go Go.RowKit Go.Proofs.YtppdcldbebnmlaaW.PrintWords Go.Proofs.YtppdcldbebnmlaaW.PrintLast Go.Proofs.YtppdcldbebnmlaaW.PrintMore
section
variable {P : Program} {α : Type}
/-- A kind whose cells tell all: none of it lies elsewhere. -/
def Flat (d : Kd α) : Prop := ∀ (w w' : World) x c, d.K w x c → d.K w' x c
theorem V_own {d : Kd α} (hf : Flat d) {W W1 : World} {base b2 : Nat} {e : TypeId} {v : Value} {xs : List α} {inner : List Value} (hown : W1.ownsRow base e d.sz v xs.length inner) (hr : Reps (d.K W) d.sz xs inner) (ok : Nat → Prop) (hok : ∀ k, v.ownBlock = some k → ok k) : Kd.V d e W1 b2 ok v xs := by
 obtain ⟨hlen, hown⟩ := hown
 rcases hown with ⟨rfl, h0⟩ | ⟨g, cap, cur, rfl, hg, hheap, hcap, hmax, hsz, htake⟩
 ·obtain rfl : xs = [] := List.eq_nil_of_length_eq_zero h0
  exact ⟨none, 0, rfl, Nat.le_refl _, Kd.F_nil d W1 ok⟩
 ·refine ⟨some ⟨g, 0, none⟩, cap, rfl, hcap, fun W' hW => ?_⟩
  have hlt : g < W1.heap.size := by
   rcases Nat.lt_or_ge g W1.heap.size with h | h
   ·exact h
   ·rw [Array.getElem?_eq_none h] at hheap; cases hheap
  have hh : W'.heap[g]? = some (.cells cur e (0, 0)) := (hW g (hok g rfl) hlt).trans hheap
  have ho : OwnRow (d.K W') e d.sz W' base (.slice (some ⟨g, 0, none⟩) xs.length cap) xs := ⟨inner, ⟨hlen, .inr ⟨g, cap, cur, rfl, hg, hh, hcap, hmax, hsz, htake⟩⟩, hr.imp_ (fun p c hp => hf _ _ _ _ hp)⟩
  obtain ⟨A, c, he, _, hR⟩ := ho.reads
  injection he with h1
  subst h1
  exact hR
theorem F_flat {d : Kd α} {W : World} {ok : Nat → Prop} {A : Option Addr} {n : Nat} {xs : List α} (h : Kd.F d W ok A n xs) : Kd.C d W A n xs := Kd.F_now h
/-- What is read of flat elements is so in every world that has the same blocks. -/
theorem F_of_C {d : Kd α} (hf : Flat d) {W : World} {A : Option Addr} {n : Nat} {xs : List α} (h : Kd.C d W A n xs) : Kd.F d W (fun _ => True) A n xs := by
 intro W' hW
 obtain ⟨h1, h2, h3⟩ := h
 refine ⟨h1, h2, fun hn => ?_⟩
 obtain ⟨ad, e, hc⟩ := h3 hn
 refine ⟨ad, e, fun j p hp => ?_⟩
 obtain ⟨c, hl, hK, hcell⟩ := hc j p hp
 refine ⟨c, hl, hf _ _ _ _ hK, fun i u hu => ?_⟩
 have hold := hcell i u hu
 have hlt : (ad.add (j * d.sz + i)).block < W.heap.size := by
  rcases Nat.lt_or_ge (ad.add (j * d.sz + i)).block W.heap.size with h | h
  ·exact h
  ·simp [World.cell?, Array.getElem?_eq_none h] at hold
 rw [World.cell?_of_block (hW _ trivial hlt)]
 exact hold
theorem V_of_C {d : Kd α} (hf : Flat d) {W : World} {A : Option Addr} {c : Nat} {xs : List α} {e base : Nat} (h : Kd.C d W A xs.length xs) (hc : xs.length ≤ c) : Kd.V d e W base (fun _ => True) (.slice A xs.length c) xs := ⟨A, c, rfl, hc, F_of_C hf h⟩
/-- append(xs[:n:n], ys..): a new row, or, with nothing to append, xs[:n:n] itself. -/
theorem run_app_cut (d : Kd α) (hf : Flat d) (W : World) (t ty e : TypeId) (i : TypeInfo) (z : Value) (bytes : Nat) (ht : P.underlying t = some (.slice e)) (hi : P.info? e = some i) (hz : i.zero = some z) (hsize : i.size = d.sz) (hby : i.bytes = bytes) (hzs : z.cells.size = d.sz) (hsz : 0 < d.sz) (hb0 : 0 < bytes)
 (A : Option Addr) (n : Nat) (xs : List α) (A2 : Option Addr) (m c : Nat) (ys : List α) (ok : Nat → Prop) (base : Nat) (HX : Kd.F d W ok A n xs) (HY : Kd.C d W A2 m ys) (hl : (n + m) * bytes ≤ 140737488355328) :
 ∃ v1 w1, (Builtin.append_ #[t, t] ty #[.slice A n n, .slice A2 m c]).run P W = .ok v1 w1 ∧ Below W.heap.size W w1 ∧ Kd.V d e w1 base (fun k => ok k ∨ W.heap.size ≤ k) v1 (xs ++ ys) := by
 have HX0 := F_flat HX
 have hn : xs.length = n := HX0.1
 have hm : ys.length = m := HY.1
 have hlen : n + m ≤ 140737488355328 := Nat.le_trans (Nat.le_mul_of_pos_right _ hb0) hl
 rcases Nat.eq_zero_or_pos m with h0 | hp
 ·subst h0
  obtain rfl : ys = [] := List.eq_nil_of_length_eq_zero hm
  refine ⟨.slice A n n, W, ?_, Below.refl _ _, ?_⟩
  ·rcases A with _ | ad
   ·have hn0 : n = 0 := by
     rcases Nat.eq_zero_or_pos n with h | h
     ·exact h
     ·obtain ⟨ad, h, _⟩ := HX0.2.2 h; cases h
    subst hn0
    rcases A2 with _ | a2
    ·simp [Builtin.append_, run_underlying ht, sizeOf, typeInfo, hi, Builtin.lenOf, Builtin.firstCells]
    ·simp [Builtin.append_, run_underlying ht, sizeOf, typeInfo, hi, Builtin.lenOf, Builtin.firstCells, loadCells, loadCellsFrom]
   ·rcases A2 with _ | a2
    ·simp [Builtin.append_, run_underlying ht, sizeOf, typeInfo, hi, Builtin.lenOf, Builtin.firstCells, storeCells]
    ·simp [Builtin.append_, run_underlying ht, sizeOf, typeInfo, hi, Builtin.lenOf, Builtin.firstCells, storeCells, loadCells, loadCellsFrom]
  ·rw [List.append_nil]
   subst hn
   exact ⟨A, xs.length, rfl, Nat.le_refl _, Kd.F_mono HX (fun k hk => .inl hk)⟩
 ·obtain ⟨a2, rfl, _⟩ := HY.2.2 hp
  obtain ⟨news, hnr, hnc⟩ := ReadsRow.inner_ HY
  have hone : ∀ u ∈ news, u.oneCell' = true := by
   intro u hu
   obtain ⟨q, hq, rfl⟩ := List.mem_iff_getElem.1 hu
   have hql : q / d.sz < ys.length := by rw [Nat.div_lt_iff_lt_mul hsz, ← hnr.1]; exact hq
   have hc := hnr.2 (q / d.sz) _ (List.getElem?_eq_getElem hql)
   refine d.K_one hc _ ?_
   rw [List.mem_iff_getElem?]
   refine ⟨q % d.sz, ?_⟩
   rw [List.getElem?_take, if_pos (Nat.mod_lt _ hsz), List.getElem?_drop, Nat.mul_comm, Nat.div_add_mod, List.getElem?_eq_getElem hq]
  have hnl : news.length = m * d.sz := by rw [hnr.1, hm]
  have fin : ∀ (olds : List Value) v1 w1, Reps (d.K W) d.sz xs olds → w1.ownsRow W.heap.size e d.sz v1 (n + m) (olds ++ news) → W.grownBy w1 none → Below W.heap.size W w1 ∧ Kd.V d e w1 base (fun k => ok k ∨ W.heap.size ≤ k) v1 (xs ++ ys) := by
   intro olds v1 w1 hxr hown hg
   refine ⟨⟨hg.os, hg.tape, hg.output, hg.size, fun k hk => hg.block k hk (by simp)⟩, V_own hf (xs := xs ++ ys) (by rw [List.length_append, hn, hm]; exact hown) (Kd.reps_append hxr hnr) _ (fun k hk => .inr ?_)⟩
   rcases hown.2 with ⟨rfl, h⟩ | ⟨g, cap, cur, rfl, hgb, _⟩
   ·omega
   ·have : g = k := by simpa [Value.ownBlock] using hk
    omega
  rcases A with _ | ad
  ·have hn0 : n = 0 := by
    rcases Nat.eq_zero_or_pos n with h | h
    ·exact h
    ·obtain ⟨ad, h, _⟩ := HX0.2.2 h; cases h
   subst hn0
   obtain rfl : xs = [] := List.eq_nil_of_length_eq_zero hn
   obtain ⟨v1, w1, hrun, h2, hg, _⟩ := run_append_own_at (P := P) W W.heap.size t ty e i z d.sz bytes ht hi hz hsize hby hzs hsz (.slice none 0 0) 0 [] (own_nil _ _ _ _) a2 m c news hnl hnc hone (by simp only [maxLen]; omega) hl (Nat.le_refl _)
   exact ⟨v1, w1, hrun, fin [] v1 w1 (Reps.none _ _) h2 hg⟩
  ·obtain ⟨olds, hxr, hxc⟩ := ReadsRow.inner_ HX0
   obtain ⟨v1, w1, hrun, h2, hg⟩ := run_append_arg_grows (P := P) W t ty e i z d.sz bytes ht hi hz hsize hby hzs hsz ad n n olds (by rw [hxr.1, hn]) hxc a2 m c news hnl hnc (by omega) (by simp only [maxLen]; omega) hl
   exact ⟨v1, w1, hrun, fin olds v1 w1 hxr h2 hg⟩
variable {ops : Array Oper} {rest : List Oper} {o : Oper} {a : Act} {Q : Exit → Act → World → Prop}
theorem V_append_cut (d : Kd α) (hf : Flat d) {W : World} (base : Nat) (hgd : o.guard = none) (s x : Operand) (t e : TypeId) (z : Value) (bytes : Nat)
 (ho : o.op = .call { callee := .builtin .append, args := #[s, x], argTypes := #[t, t] })
 (ht : P.underlying t = some (.slice e)) (hinfo : (P.info? e).map (fun i => (i.zero, i.size, i.bytes)) = some (some z, d.sz, bytes)) (hz : z.cells.size = d.sz) (hs0 : 0 < d.sz) (hb0 : 0 < bytes)
 (A : Option Addr) (n : Nat) (xs : List α) (A2 : Option Addr) (m c : Nat) (ys : List α) (ok : Nat → Prop) (hs : a.eval s = .slice A n n) (hx : a.eval x = .slice A2 m c)
 (HX : Kd.F d W ok A n xs) (HY : Kd.C d W A2 m ys) (hl : (n + m) * bytes ≤ 140737488355328)
 (h : ∀ v1 w1, Kd.V d e w1 base (fun k => ok k ∨ W.heap.size ≤ k) v1 (xs ++ ys) → Below W.heap.size W w1 → wpList P ops Q rest (a.put o.dst v1) w1) :
 wpList P ops Q (o :: rest) a W := by
 obtain ⟨i0, hi, hzz⟩ := Option.map_eq_some_iff.1 hinfo
 simp only [Prod.mk.injEq] at hzz
 obtain ⟨hz0, hz1, hz2⟩ := hzz
 obtain ⟨v1, w1, hr1, hb, hv⟩ := run_app_cut (P := P) d hf W t o.type e i0 z bytes ht hi hz0 hz1 hz2 hz hs0 hb0 A n xs A2 m c ys ok base HX HY hl
 refine wpList_plain hgd fun K hK => ?_
 unfold Oper.wp execOp
 simp only [ho, resolve, invoke, builtin, Sem.run_bind, Sem.run_pure, Result.andThen_ok, List.map_toArray, List.map_cons, List.map_nil, hs, hx, hr1]
 exact hK _ _ (h v1 w1 hv hb)
theorem step_append_cut (d : Kd α) (hf : Flat d) {W : World} {K : Act → World → Prop} {E : Prop} (base : Nat) (hgd : o.guard = none) (s x : Operand) (t e : TypeId) (z : Value) (bytes : Nat)
 (ho : o.op = .call { callee := .builtin .append, args := #[s, x], argTypes := #[t, t] })
 (ht : P.underlying t = some (.slice e)) (hinfo : (P.info? e).map (fun i => (i.zero, i.size, i.bytes)) = some (some z, d.sz, bytes)) (hz : z.cells.size = d.sz) (hs0 : 0 < d.sz) (hb0 : 0 < bytes)
 (A : Option Addr) (n : Nat) (xs : List α) (A2 : Option Addr) (m c : Nat) (ys : List α) (ok : Nat → Prop) (hs : a.eval s = .slice A n n) (hx : a.eval x = .slice A2 m c)
 (HX : Kd.F d W ok A n xs) (HY : Kd.C d W A2 m ys) (hl : (n + m) * bytes ≤ 140737488355328)
 (h : ∀ v1 w1, Kd.V d e w1 base (fun k => ok k ∨ W.heap.size ≤ k) v1 (xs ++ ys) → Below W.heap.size W w1 → K (a.put o.dst v1) w1) :
 if Region.wanted o (yielded ops a.tmps) = true then Oper.wp P o a W K Q else E := by
 obtain ⟨i0, hi, hzz⟩ := Option.map_eq_some_iff.1 hinfo
 simp only [Prod.mk.injEq] at hzz
 obtain ⟨hz0, hz1, hz2⟩ := hzz
 obtain ⟨v1, w1, hr1, hb, hv⟩ := run_app_cut (P := P) d hf W t o.type e i0 z bytes ht hi hz0 hz1 hz2 hz hs0 hb0 A n xs A2 m c ys ok base HX HY hl
 have hw : Region.wanted o (yielded ops a.tmps) = true := by simp [Region.wanted, hgd]
 rw [if_pos hw]
 unfold Oper.wp execOp
 simp only [ho, resolve, invoke, builtin, Sem.run_bind, Sem.run_pure, Result.andThen_ok, List.map_toArray, List.map_cons, List.map_nil, hs, hx, hr1]
 exact h v1 w1 hv hb
end
end Go.Proofs.Ytppdcldbebnmlaa.K
end
section
namespace Go.Proofs.Ytppdcldbebnmlaa.P
open Go.RowKit Go.Proofs.Ytppdcldbebnmlaa.K Go.Proofs.YtppdcldbebnmlaaW.PrintWords Go.Proofs.YtppdcldbebnmlaaW.PrintLast Go.Proofs.YtppdcldbebnmlaaW.PrintMore
attribute [local go_sem] max2_int min2_int max_two min_two max_three min_three max_four min_four   -- for this text's walks alone
def bound_ends.f (a0_0 : ByteArray) (a0_1 : ByteArray) (a1 : ByteArray) : Option (Bool) := if a0_1.toList = ([] : List UInt8) then (some true) else (some (Op.bytesLess a1.toList a0_1.toList))
set_option maxHeartbeats 8000000 in
set_option maxRecDepth 100000 in
theorem bound_ends.calls (a0_0 : ByteArray) (a0_1 : ByteArray) (a1 : ByteArray) (r : Bool) (w : World) (h : bound_ends.f a0_0 a0_1 a1 = some r) :
 Calls Try.prog 43 #[.agg #[.string a0_0, .string a0_1], .string a1] w fun e w' => e = .returned (.bool r) ∧ Below w.heap.size w w' := by
 have hu24 := Try.underlying24
 have HB := Az.mk (Below.refl w.heap.size w)
 have H : (if a0_1.toList = ([] : List UInt8) then (some true) else (some (Op.bytesLess a1.toList a0_1.toList))) = some r := h
 clear h
 by_cases c3 : a0_1.toList = ([] : List UInt8)
 ·rw [if_pos c3] at H
  have c3b0 : (a0_1.toList == ([] : List UInt8)) = true := beq_iff_eq.mpr c3
  have c3b1 : (a0_1.toList != ([] : List UInt8)) = false := bne_eq_false_iff_eq.mpr c3
  clear c3
  obtain rfl := Option.some.inj H
  go_enter Try.func43, Try.ntmps43
  go_wp2_with (first | ((with_reducible refine gate_dst (N := 2) rfl ?_); refine box_event ?hg (N := 2) ?hd (cs := #[.string a0_0, .string a0_1]) (t := 24) ?hr ?_; (case hd => rfl); (case hg => rfl); (case hr => first | (go_simp; done) | (go_simp; rfl)); intro gb101 hg w4 hbox hb; have BK101 := Az.mk (hbox); have GW101 := Az.mk (geO hg (pbE HB.out)); have GE101 := Az.mk (geO hg (pbE HB.out)); replace HB := Az.mk (pbT (by exact pbE HB.out) hb); clear hb hbox hg; have hcz5 := cells2 BK101.out))
  go_ret
  exact ⟨by first | rfl | (simp [errW_none, errW_some] <;> rfl) | (simp [*, errW_none, errW_some] <;> rfl), by exact pbE HB.out⟩
 ·rw [if_neg c3] at H
  have c3b0 : (a0_1.toList == ([] : List UInt8)) = false := beq_eq_false_iff_ne.mpr c3
  have c3b1 : (a0_1.toList != ([] : List UInt8)) = true := bne_iff_ne.mpr c3
  obtain rfl := Option.some.inj H
  go_enter Try.func43, Try.ntmps43
  go_wp2_with (first | ((with_reducible refine gate_dst (N := 2) rfl ?_); refine box_event ?hg (N := 2) ?hd (cs := #[.string a0_0, .string a0_1]) (t := 24) ?hr ?_; (case hd => rfl); (case hg => rfl); (case hr => first | (go_simp; done) | (go_simp; rfl)); intro gb101 hg w6 hbox hb; have BK101 := Az.mk (hbox); have GW101 := Az.mk (geO hg (pbE HB.out)); have GE101 := Az.mk (geO hg (pbE HB.out)); replace HB := Az.mk (pbT (by exact pbE HB.out) hb); clear hb hbox hg; have hcz7 := cells2 BK101.out))
  go_ret
  exact ⟨by first | rfl | (simp [errW_none, errW_some] <;> rfl) | (simp [*, errW_none, errW_some] <;> rfl), by exact pbE HB.out⟩
def bound_Has.f (a0_0 : ByteArray) (a0_1 : ByteArray) (a1 : ByteArray) : Option (Bool) := if ((Op.bytesLess a1.toList a0_0.toList) = true) then (some false) else ((bound_ends.f a0_0 a0_1 a1).bind fun t112 => (some t112))
set_option maxHeartbeats 8000000 in
set_option maxRecDepth 100000 in
theorem bound_Has.calls (a0_0 : ByteArray) (a0_1 : ByteArray) (a1 : ByteArray) (r : Bool) (w : World) (h : bound_Has.f a0_0 a0_1 a1 = some r) :
 Calls Try.prog 27 #[.agg #[.string a0_0, .string a0_1], .string a1] w fun e w' => e = .returned (.bool r) ∧ Below w.heap.size w w' := by
 have hu24 := Try.underlying24
 have HB := Az.mk (Below.refl w.heap.size w)
 have H : (if ((Op.bytesLess a1.toList a0_0.toList) = true) then (some false) else ((bound_ends.f a0_0 a0_1 a1).bind fun t112 => (some t112))) = some r := h
 clear h
 by_cases c3 : ((Op.bytesLess a1.toList a0_0.toList) = true)
 ·rw [if_pos c3] at H
  have c3b0 : (Op.bytesLess a1.toList a0_0.toList) = true := c3
  clear c3
  obtain rfl := Option.some.inj H
  go_enter Try.func27, Try.ntmps27
  go_wp2_with (first | ((with_reducible refine gate_dst (N := 2) rfl ?_); refine box_event ?hg (N := 2) ?hd (cs := #[.string a0_0, .string a0_1]) (t := 24) ?hr ?_; (case hd => rfl); (case hg => rfl); (case hr => first | (go_simp; done) | (go_simp; rfl)); intro gb111 hg w4 hbox hb; have BK111 := Az.mk (hbox); have GW111 := Az.mk (geO hg (pbE HB.out)); have GE111 := Az.mk (geO hg (pbE HB.out)); replace HB := Az.mk (pbT (by exact pbE HB.out) hb); clear hb hbox hg; have hcz5 := cells2 BK111.out))
  go_ret
  exact ⟨by first | rfl | (simp [errW_none, errW_some] <;> rfl) | (simp [*, errW_none, errW_some] <;> rfl), by exact pbE HB.out⟩
 ·rw [if_neg c3] at H
  have c3b0 : (Op.bytesLess a1.toList a0_0.toList) = false := by simpa using c3
  clear c3
  replace H := Option.bind_eq_some_iff.mp H
  obtain ⟨t112, A60, H⟩ := H
  replace H : (some t112) = some r := H
  have A6 := Az.mk A60
  clear A60
  obtain rfl := Option.some.inj H
  go_enter Try.func27, Try.ntmps27
  go_wp2_with (first | ((with_reducible refine gate_dst (N := 2) rfl ?_); refine box_event ?hg (N := 2) ?hd (cs := #[.string a0_0, .string a0_1]) (t := 24) ?hr ?_; (case hd => rfl); (case hg => rfl); (case hr => first | (go_simp; done) | (go_simp; rfl)); intro gb111 hg w7 hbox hb; have BK111 := Az.mk (hbox); have GW111 := Az.mk (geO hg (pbE HB.out)); have GE111 := Az.mk (geO hg (pbE HB.out)); replace HB := Az.mk (pbT (by exact pbE HB.out) hb); clear hb hbox hg; have hcz8 := cells2 BK111.out) | (go_at_call 43; (with_reducible refine (bound_ends.calls a0_0 a0_1 a1 t112 _ A6.out).mono ?_); rintro e w9 ⟨rfl, hb⟩; replace BK111 := Az.mk (bkB (bk BK111.out) hb); replace HB := Az.mk (pbT (by exact pbE HB.out) hb); (try clear hb); (try clear hb2); (try clear hk); (try clear hi)))
  go_ret
  exact ⟨by first | rfl | (simp [errW_none, errW_some] <;> rfl) | (simp [*, errW_none, errW_some] <;> rfl), by exact pbE HB.out⟩
end Go.Proofs.Ytppdcldbebnmlaa.P
end
section
namespace Go.Proofs.Ytppdcldbebnmlaa.P
open Go.RowKit Go.Proofs.Ytppdcldbebnmlaa.K Go.Proofs.YtppdcldbebnmlaaW.PrintWords Go.Proofs.YtppdcldbebnmlaaW.PrintLast Go.Proofs.YtppdcldbebnmlaaW.PrintMore
attribute [local go_sem] max2_int min2_int max_two min_two max_three min_three max_four min_four
/-- A bound may be. -/
def boundOk (f t : ByteArray) : Bool := if f.size ≤ 33 ∧ t.size ≤ 33 then (t.toList == ([] : List UInt8)) || Op.bytesLess f.toList t.toList else false
def bound_Check.f (a0_0 a0_1 : ByteArray) : Option Int := some (if boundOk a0_0 a0_1 = true then 0 else 20)
set_option maxHeartbeats 4000000 in
set_option maxRecDepth 100000 in
theorem bound_Check.calls (a0_0 a0_1 : ByteArray) (r : Int) (w : World) (h : bound_Check.f a0_0 a0_1 = some r) :
 Calls Try.prog 56 #[.agg #[.string a0_0, .string a0_1]] w fun e w' => e = .returned (.int .i64 r) ∧ Below w.heap.size w w' := by
 unfold bound_Check.f boundOk at h
 have hu := Try.underlying24
 obtain rfl := Option.some.inj h
 clear h
 have hB : ∀ o, Below w.heap.size w (w.alloc o) := fun o => pbA (Below.refl _ _) o
 by_cases hs : a0_0.size ≤ 33 ∧ a0_1.size ≤ 33
 ·obtain ⟨h1, h2⟩ := hs
  rw [if_pos (And.intro h1 h2)]
  have q1 : ¬ (33 : Int) < (a0_0.size : Int) := by omega
  have q2 : ¬ (33 : Int) < (a0_1.size : Int) := by omega
  by_cases he : a0_1.toList = ([] : List UInt8)
  ·have e1 : (a0_1.toList == ([] : List UInt8)) = true := beq_iff_eq.mpr he
   have e2 : (a0_1.toList != ([] : List UInt8)) = false := bne_eq_false_iff_eq.mpr he
   rw [e1]
   clear he
   go_enter Try.func56, Try.ntmps56
   go_wp2
   all_goals go_ret
   all_goals exact ⟨rfl, hB _⟩
  ·have e1 : (a0_1.toList == ([] : List UInt8)) = false := beq_eq_false_iff_ne.mpr he
   have e2 : (a0_1.toList != ([] : List UInt8)) = true := bne_iff_ne.mpr he
   rw [e1]
   clear he
   cases hl : Op.bytesLess a0_0.toList a0_1.toList
   all_goals
    go_enter Try.func56, Try.ntmps56
    go_wp2
   all_goals go_ret
   all_goals exact ⟨rfl, hB _⟩
 ·rw [if_neg hs]
  by_cases hlt : (a0_0.size : Int) < (a0_1.size : Int)
  ·have q : (33 : Int) < (a0_1.size : Int) := by omega
   go_enter Try.func56, Try.ntmps56
   go_wp2
   all_goals go_ret
   all_goals exact ⟨rfl, hB _⟩
  ·have q : (33 : Int) < (a0_0.size : Int) := by omega
   go_enter Try.func56, Try.ntmps56
   go_wp2
   all_goals go_ret
   all_goals exact ⟨rfl, hB _⟩
end Go.Proofs.Ytppdcldbebnmlaa.P
end
section
namespace Go.Proofs.Ytppdcldbebnmlaa.P
open Go.RowKit Go.Proofs.Ytppdcldbebnmlaa.K Go.Proofs.YtppdcldbebnmlaaW.PrintWords Go.Proofs.YtppdcldbebnmlaaW.PrintLast Go.Proofs.YtppdcldbebnmlaaW.PrintMore
attribute [local go_sem] max2_int min2_int max_two min_two max_three min_three max_four min_four   -- for this text's walks alone
def bound_both.f (a0_0 : ByteArray) (a0_1 : ByteArray) (a1_0 : ByteArray) (a1_1 : ByteArray) : Option (Bool) := (bound_Check.f a0_0 a0_1).bind fun t104 => (if t104 = 0 then ((bound_Check.f a1_0 a1_1).bind fun t105 => (some (t105 == 0))) else (some false))
set_option maxHeartbeats 8000000 in
set_option maxRecDepth 100000 in
theorem bound_both.calls (a0_0 : ByteArray) (a0_1 : ByteArray) (a1_0 : ByteArray) (a1_1 : ByteArray) (r : Bool) (w : World) (h : bound_both.f a0_0 a0_1 a1_0 a1_1 = some r) :
 Calls Try.prog 44 #[.agg #[.string a0_0, .string a0_1], .agg #[.string a1_0, .string a1_1]] w fun e w' => e = .returned (.bool r) ∧ Below w.heap.size w w' := by
 have hu24 := Try.underlying24
 have HB := Az.mk (Below.refl w.heap.size w)
 have H : ((bound_Check.f a0_0 a0_1).bind fun t104 => (if t104 = 0 then ((bound_Check.f a1_0 a1_1).bind fun t105 => (some (t105 == 0))) else (some false))) = some r := h
 clear h
 replace H := Option.bind_eq_some_iff.mp H
 obtain ⟨t104, A30, H⟩ := H
 try dsimp only at H
 have A3 := Az.mk A30
 clear A30
 by_cases c4 : t104 = 0
 ·rw [if_pos c4] at H
  have c4b0 : (t104 == 0) = true := beq_iff_eq.mpr c4
  have c4b1 : (t104 != 0) = false := bne_eq_false_iff_eq.mpr c4
  clear c4
  replace H := Option.bind_eq_some_iff.mp H
  obtain ⟨t105, A50, H⟩ := H
  replace H : (some (t105 == 0)) = some r := H
  have A5 := Az.mk A50
  clear A50
  obtain rfl := Option.some.inj H
  go_enter Try.func44, Try.ntmps44
  go_wp2_with (first | ((with_reducible refine gate_dst (N := 2) rfl ?_); refine box_event ?hg (N := 2) ?hd (cs := #[.string a0_0, .string a0_1]) (t := 24) ?hr ?_; (case hd => rfl); (case hg => rfl); (case hr => first | (go_simp; done) | (go_simp; rfl)); intro gb102 hg w6 hbox hb; have BK102 := Az.mk (hbox); have GW102 := Az.mk (geO hg (pbE HB.out)); have GE102 := Az.mk (geO hg (pbE HB.out)); replace HB := Az.mk (pbT (by exact pbE HB.out) hb); clear hb hbox hg) | ((with_reducible refine gate_dst (N := 3) rfl ?_); refine box_event ?hg (N := 3) ?hd (cs := #[.string a1_0, .string a1_1]) (t := 24) ?hr ?_; (case hd => rfl); (case hg => rfl); (case hr => first | (go_simp; done) | (go_simp; rfl)); intro gb103 hg w7 hbox hb; have BK103 := Az.mk (hbox); have GW103 := Az.mk (geO hg (pbE HB.out)); have GE103 := Az.mk (geO hg (pbE HB.out)); replace HB := Az.mk (pbT (by exact pbE HB.out) hb); have NB102_103 := Az.mk (neO hg (bk BK102.out)); have NB103_102 := Az.mk (neP hg (bk BK102.out)); replace BK102 := Az.mk (bkB (bk BK102.out) hb); clear hb hbox hg; have hnb8 := NB102_103.out; have hnc8 := NB103_102.out; have hcz9 := cells2 BK102.out) | ((with_reducible refine gtc (f := 56) rfl ?_); refine goesL_ (some 6) rfl rfl Try.func56 (by kernel_rfl) rfl #[.agg #[.string a0_0, .string a0_1]] rfl (by (try simp only [List.map_toArray, List.map_cons, List.map_nil]); first | done | rfl | (simp only [List.length_drop, List.length_take]; rfl)) ?_; (with_reducible refine (bound_Check.calls a0_0 a0_1 t104 _ A3.out).mono ?_); rintro e w10 ⟨rfl, hb⟩; refine ⟨_, rfl, ?_⟩; replace BK102 := Az.mk (bkB (bk BK102.out) hb); replace BK103 := Az.mk (bkB (bk BK103.out) hb); replace HB := Az.mk (pbT (by exact pbE HB.out) hb); (try clear hb); (try clear hb2); (try clear hk); (try clear hi); have hcz11 := cells2 BK103.out) | (go_at_call 56; (with_reducible refine (bound_Check.calls a1_0 a1_1 t105 _ A5.out).mono ?_); rintro e w12 ⟨rfl, hb⟩; replace BK102 := Az.mk (bkB (bk BK102.out) hb); replace BK103 := Az.mk (bkB (bk BK103.out) hb); replace HB := Az.mk (pbT (by exact pbE HB.out) hb); (try clear hb); (try clear hb2); (try clear hk); (try clear hi)))
  go_ret
  exact ⟨by first | rfl | (simp [errW_none, errW_some] <;> rfl) | (simp [*, errW_none, errW_some] <;> rfl), by exact pbE HB.out⟩
 ·rw [if_neg c4] at H
  have c4b0 : (t104 == 0) = false := beq_eq_false_iff_ne.mpr c4
  have c4b1 : (t104 != 0) = true := bne_iff_ne.mpr c4
  obtain rfl := Option.some.inj H
  go_enter Try.func44, Try.ntmps44
  go_wp2_with (first | ((with_reducible refine gate_dst (N := 2) rfl ?_); refine box_event ?hg (N := 2) ?hd (cs := #[.string a0_0, .string a0_1]) (t := 24) ?hr ?_; (case hd => rfl); (case hg => rfl); (case hr => first | (go_simp; done) | (go_simp; rfl)); intro gb102 hg w13 hbox hb; have BK102 := Az.mk (hbox); have GW102 := Az.mk (geO hg (pbE HB.out)); have GE102 := Az.mk (geO hg (pbE HB.out)); replace HB := Az.mk (pbT (by exact pbE HB.out) hb); clear hb hbox hg) | ((with_reducible refine gate_dst (N := 3) rfl ?_); refine box_event ?hg (N := 3) ?hd (cs := #[.string a1_0, .string a1_1]) (t := 24) ?hr ?_; (case hd => rfl); (case hg => rfl); (case hr => first | (go_simp; done) | (go_simp; rfl)); intro gb103 hg w14 hbox hb; have BK103 := Az.mk (hbox); have GW103 := Az.mk (geO hg (pbE HB.out)); have GE103 := Az.mk (geO hg (pbE HB.out)); replace HB := Az.mk (pbT (by exact pbE HB.out) hb); have NB102_103 := Az.mk (neO hg (bk BK102.out)); have NB103_102 := Az.mk (neP hg (bk BK102.out)); replace BK102 := Az.mk (bkB (bk BK102.out) hb); clear hb hbox hg; have hnb15 := NB102_103.out; have hnc15 := NB103_102.out; have hcz16 := cells2 BK102.out) | ((with_reducible refine gtc (f := 56) rfl ?_); refine goesL_ (some 6) rfl rfl Try.func56 (by kernel_rfl) rfl #[.agg #[.string a0_0, .string a0_1]] rfl (by (try simp only [List.map_toArray, List.map_cons, List.map_nil]); first | done | rfl | (simp only [List.length_drop, List.length_take]; rfl)) ?_; (with_reducible refine (bound_Check.calls a0_0 a0_1 t104 _ A3.out).mono ?_); rintro e w17 ⟨rfl, hb⟩; refine ⟨_, rfl, ?_⟩; replace BK102 := Az.mk (bkB (bk BK102.out) hb); replace BK103 := Az.mk (bkB (bk BK103.out) hb); replace HB := Az.mk (pbT (by exact pbE HB.out) hb); (try clear hb); (try clear hb2); (try clear hk); (try clear hi)))
  go_ret
  exact ⟨by first | rfl | (simp [errW_none, errW_some] <;> rfl) | (simp [*, errW_none, errW_some] <;> rfl), by exact pbE HB.out⟩
def bound_Meet.f (a0_0 : ByteArray) (a0_1 : ByteArray) (a1_0 : ByteArray) (a1_1 : ByteArray) : Option (Bool) := (bound_both.f a0_0 a0_1 a1_0 a1_1).bind fun t108 => (if t108 = true then ((bound_ends.f a0_0 a0_1 a1_0).bind fun t109 => (if t109 = true then ((bound_ends.f a1_0 a1_1 a0_0).bind fun t110 => (some t110)) else (some false))) else (some false))
set_option maxHeartbeats 8000000 in
set_option maxRecDepth 100000 in
theorem bound_Meet.calls (a0_0 : ByteArray) (a0_1 : ByteArray) (a1_0 : ByteArray) (a1_1 : ByteArray) (r : Bool) (w : World) (h : bound_Meet.f a0_0 a0_1 a1_0 a1_1 = some r) :
 Calls Try.prog 29 #[.agg #[.string a0_0, .string a0_1], .agg #[.string a1_0, .string a1_1]] w fun e w' => e = .returned (.bool r) ∧ Below w.heap.size w w' := by
 have hu24 := Try.underlying24
 have HB := Az.mk (Below.refl w.heap.size w)
 have H : ((bound_both.f a0_0 a0_1 a1_0 a1_1).bind fun t108 => (if t108 = true then ((bound_ends.f a0_0 a0_1 a1_0).bind fun t109 => (if t109 = true then ((bound_ends.f a1_0 a1_1 a0_0).bind fun t110 => (some t110)) else (some false))) else (some false))) = some r := h
 clear h
 replace H := Option.bind_eq_some_iff.mp H
 obtain ⟨t108, A30, H⟩ := H
 try dsimp only at H
 have A3 := Az.mk A30
 clear A30
 by_cases c4 : t108 = true
 ·subst c4
  rw [if_pos rfl] at H
  replace H := Option.bind_eq_some_iff.mp H
  obtain ⟨t109, A50, H⟩ := H
  try dsimp only at H
  have A5 := Az.mk A50
  clear A50
  by_cases c6 : t109 = true
  ·subst c6
   rw [if_pos rfl] at H
   replace H := Option.bind_eq_some_iff.mp H
   obtain ⟨t110, A70, H⟩ := H
   replace H : (some t110) = some r := H
   have A7 := Az.mk A70
   clear A70
   obtain rfl := Option.some.inj H
   go_enter Try.func29, Try.ntmps29
   go_wp2_with (first | ((with_reducible refine gate_dst (N := 2) rfl ?_); refine box_event ?hg (N := 2) ?hd (cs := #[.string a0_0, .string a0_1]) (t := 24) ?hr ?_; (case hd => rfl); (case hg => rfl); (case hr => first | (go_simp; done) | (go_simp; rfl)); intro gb106 hg w8 hbox hb; have BK106 := Az.mk (hbox); have GW106 := Az.mk (geO hg (pbE HB.out)); have GE106 := Az.mk (geO hg (pbE HB.out)); replace HB := Az.mk (pbT (by exact pbE HB.out) hb); clear hb hbox hg) | ((with_reducible refine gate_dst (N := 3) rfl ?_); refine box_event ?hg (N := 3) ?hd (cs := #[.string a1_0, .string a1_1]) (t := 24) ?hr ?_; (case hd => rfl); (case hg => rfl); (case hr => first | (go_simp; done) | (go_simp; rfl)); intro gb107 hg w9 hbox hb; have BK107 := Az.mk (hbox); have GW107 := Az.mk (geO hg (pbE HB.out)); have GE107 := Az.mk (geO hg (pbE HB.out)); replace HB := Az.mk (pbT (by exact pbE HB.out) hb); have NB106_107 := Az.mk (neO hg (bk BK106.out)); have NB107_106 := Az.mk (neP hg (bk BK106.out)); replace BK106 := Az.mk (bkB (bk BK106.out) hb); clear hb hbox hg; have hnb10 := NB106_107.out; have hnc10 := NB107_106.out; have hcz11 := cells2 BK106.out; have hcz12 := cells2 BK107.out) | ((with_reducible refine gtc (f := 44) rfl ?_); refine goesL_ (some 7) rfl rfl Try.func44 (by kernel_rfl) rfl #[.agg #[.string a0_0, .string a0_1], .agg #[.string a1_0, .string a1_1]] rfl (by (try simp only [List.map_toArray, List.map_cons, List.map_nil]); first | done | rfl | (simp only [List.length_drop, List.length_take]; rfl)) ?_; (with_reducible refine (bound_both.calls a0_0 a0_1 a1_0 a1_1 true _ A3.out).mono ?_); rintro e w13 ⟨rfl, hb⟩; refine ⟨_, rfl, ?_⟩; replace BK106 := Az.mk (bkB (bk BK106.out) hb); replace BK107 := Az.mk (bkB (bk BK107.out) hb); replace HB := Az.mk (pbT (by exact pbE HB.out) hb); (try clear hb); (try clear hb2); (try clear hk); (try clear hi); have hcz14 := cells2 BK106.out; have hcz15 := cells2 BK107.out) | (go_at_call 43; (with_reducible refine (bound_ends.calls a0_0 a0_1 a1_0 true _ A5.out).mono ?_); rintro e w16 ⟨rfl, hb⟩; replace BK106 := Az.mk (bkB (bk BK106.out) hb); replace BK107 := Az.mk (bkB (bk BK107.out) hb); replace HB := Az.mk (pbT (by exact pbE HB.out) hb); (try clear hb); (try clear hb2); (try clear hk); (try clear hi); have hcz17 := cells2 BK107.out; have hcz18 := cells2 BK106.out) | (go_at_call 43; (with_reducible refine (bound_ends.calls a1_0 a1_1 a0_0 t110 _ A7.out).mono ?_); rintro e w19 ⟨rfl, hb⟩; replace BK106 := Az.mk (bkB (bk BK106.out) hb); replace BK107 := Az.mk (bkB (bk BK107.out) hb); replace HB := Az.mk (pbT (by exact pbE HB.out) hb); (try clear hb); (try clear hb2); (try clear hk); (try clear hi)))
   go_ret
   exact ⟨by first | rfl | (simp [errW_none, errW_some] <;> rfl) | (simp [*, errW_none, errW_some] <;> rfl), by exact pbE HB.out⟩
  ·replace c6 := Bool.eq_false_iff.mpr c6
   subst c6
   rw [if_neg (show ¬ (false = true) by decide)] at H
   obtain rfl := Option.some.inj H
   go_enter Try.func29, Try.ntmps29
   go_wp2_with (first | ((with_reducible refine gate_dst (N := 2) rfl ?_); refine box_event ?hg (N := 2) ?hd (cs := #[.string a0_0, .string a0_1]) (t := 24) ?hr ?_; (case hd => rfl); (case hg => rfl); (case hr => first | (go_simp; done) | (go_simp; rfl)); intro gb106 hg w20 hbox hb; have BK106 := Az.mk (hbox); have GW106 := Az.mk (geO hg (pbE HB.out)); have GE106 := Az.mk (geO hg (pbE HB.out)); replace HB := Az.mk (pbT (by exact pbE HB.out) hb); clear hb hbox hg) | ((with_reducible refine gate_dst (N := 3) rfl ?_); refine box_event ?hg (N := 3) ?hd (cs := #[.string a1_0, .string a1_1]) (t := 24) ?hr ?_; (case hd => rfl); (case hg => rfl); (case hr => first | (go_simp; done) | (go_simp; rfl)); intro gb107 hg w21 hbox hb; have BK107 := Az.mk (hbox); have GW107 := Az.mk (geO hg (pbE HB.out)); have GE107 := Az.mk (geO hg (pbE HB.out)); replace HB := Az.mk (pbT (by exact pbE HB.out) hb); have NB106_107 := Az.mk (neO hg (bk BK106.out)); have NB107_106 := Az.mk (neP hg (bk BK106.out)); replace BK106 := Az.mk (bkB (bk BK106.out) hb); clear hb hbox hg; have hnb22 := NB106_107.out; have hnc22 := NB107_106.out; have hcz23 := cells2 BK106.out; have hcz24 := cells2 BK107.out) | ((with_reducible refine gtc (f := 44) rfl ?_); refine goesL_ (some 7) rfl rfl Try.func44 (by kernel_rfl) rfl #[.agg #[.string a0_0, .string a0_1], .agg #[.string a1_0, .string a1_1]] rfl (by (try simp only [List.map_toArray, List.map_cons, List.map_nil]); first | done | rfl | (simp only [List.length_drop, List.length_take]; rfl)) ?_; (with_reducible refine (bound_both.calls a0_0 a0_1 a1_0 a1_1 true _ A3.out).mono ?_); rintro e w25 ⟨rfl, hb⟩; refine ⟨_, rfl, ?_⟩; replace BK106 := Az.mk (bkB (bk BK106.out) hb); replace BK107 := Az.mk (bkB (bk BK107.out) hb); replace HB := Az.mk (pbT (by exact pbE HB.out) hb); (try clear hb); (try clear hb2); (try clear hk); (try clear hi); have hcz26 := cells2 BK106.out; have hcz27 := cells2 BK107.out) | (go_at_call 43; (with_reducible refine (bound_ends.calls a0_0 a0_1 a1_0 false _ A5.out).mono ?_); rintro e w28 ⟨rfl, hb⟩; replace BK106 := Az.mk (bkB (bk BK106.out) hb); replace BK107 := Az.mk (bkB (bk BK107.out) hb); replace HB := Az.mk (pbT (by exact pbE HB.out) hb); (try clear hb); (try clear hb2); (try clear hk); (try clear hi)))
   go_ret
   exact ⟨by first | rfl | (simp [errW_none, errW_some] <;> rfl) | (simp [*, errW_none, errW_some] <;> rfl), by exact pbE HB.out⟩
 ·replace c4 := Bool.eq_false_iff.mpr c4
  subst c4
  rw [if_neg (show ¬ (false = true) by decide)] at H
  obtain rfl := Option.some.inj H
  go_enter Try.func29, Try.ntmps29
  go_wp2_with (first | ((with_reducible refine gate_dst (N := 2) rfl ?_); refine box_event ?hg (N := 2) ?hd (cs := #[.string a0_0, .string a0_1]) (t := 24) ?hr ?_; (case hd => rfl); (case hg => rfl); (case hr => first | (go_simp; done) | (go_simp; rfl)); intro gb106 hg w29 hbox hb; have BK106 := Az.mk (hbox); have GW106 := Az.mk (geO hg (pbE HB.out)); have GE106 := Az.mk (geO hg (pbE HB.out)); replace HB := Az.mk (pbT (by exact pbE HB.out) hb); clear hb hbox hg) | ((with_reducible refine gate_dst (N := 3) rfl ?_); refine box_event ?hg (N := 3) ?hd (cs := #[.string a1_0, .string a1_1]) (t := 24) ?hr ?_; (case hd => rfl); (case hg => rfl); (case hr => first | (go_simp; done) | (go_simp; rfl)); intro gb107 hg w30 hbox hb; have BK107 := Az.mk (hbox); have GW107 := Az.mk (geO hg (pbE HB.out)); have GE107 := Az.mk (geO hg (pbE HB.out)); replace HB := Az.mk (pbT (by exact pbE HB.out) hb); have NB106_107 := Az.mk (neO hg (bk BK106.out)); have NB107_106 := Az.mk (neP hg (bk BK106.out)); replace BK106 := Az.mk (bkB (bk BK106.out) hb); clear hb hbox hg; have hnb31 := NB106_107.out; have hnc31 := NB107_106.out; have hcz32 := cells2 BK106.out; have hcz33 := cells2 BK107.out) | ((with_reducible refine gtc (f := 44) rfl ?_); refine goesL_ (some 7) rfl rfl Try.func44 (by kernel_rfl) rfl #[.agg #[.string a0_0, .string a0_1], .agg #[.string a1_0, .string a1_1]] rfl (by (try simp only [List.map_toArray, List.map_cons, List.map_nil]); first | done | rfl | (simp only [List.length_drop, List.length_take]; rfl)) ?_; (with_reducible refine (bound_both.calls a0_0 a0_1 a1_0 a1_1 false _ A3.out).mono ?_); rintro e w34 ⟨rfl, hb⟩; refine ⟨_, rfl, ?_⟩; replace BK106 := Az.mk (bkB (bk BK106.out) hb); replace BK107 := Az.mk (bkB (bk BK107.out) hb); replace HB := Az.mk (pbT (by exact pbE HB.out) hb); (try clear hb); (try clear hb2); (try clear hk); (try clear hi)))
  go_ret
  exact ⟨by first | rfl | (simp [errW_none, errW_some] <;> rfl) | (simp [*, errW_none, errW_some] <;> rfl), by exact pbE HB.out⟩
theorem eqA24 (d : Nat) (w : World) (x0 y0 : ByteArray) (x1 y1 : ByteArray) :
 (Op.equalIn (d + 2) 24 (.agg #[.string x0, .string x1]) (.agg #[.string y0, .string y1])).run Try.prog w = .ok (x0.toList == y0.toList && (x1.toList == y1.toList)) w := by
 refine eqA_of Try.underlying24 (by kernel_rfl) ?_
 refine eqf_cons (by rfl) (by go_simp; rfl) (by go_simp; rfl) (by go_simp) ?_
 exact eqf_last (by rfl) (by go_simp; rfl) (by go_simp; rfl) (by go_simp)
theorem eqA47 (d : Nat) (w : World) (x0 y0 : Int) (x1 y1 : Int) :
 (Op.equalIn (d + 2) 47 (.agg #[.int .i64 x0, .int .i64 x1]) (.agg #[.int .i64 y0, .int .i64 y1])).run Try.prog w = .ok (x0 == y0 && (x1 == y1)) w := by
 refine eqA_of Try.underlying47 (by kernel_rfl) ?_
 refine eqf_cons (by rfl) (by go_simp; rfl) (by go_simp; rfl) (by go_simp) ?_
 exact eqf_last (by rfl) (by go_simp; rfl) (by go_simp; rfl) (by go_simp)
end Go.Proofs.Ytppdcldbebnmlaa.P
end
section
namespace Go.Proofs.Ytppdcldbebnmlaa.P
open Go.RowKit Go.Proofs.Ytppdcldbebnmlaa.K Go.Proofs.YtppdcldbebnmlaaW.PrintWords Go.Proofs.YtppdcldbebnmlaaW.PrintLast Go.Proofs.YtppdcldbebnmlaaW.PrintMore
attribute [local go_sem] max2_int min2_int max_two min_two max_three min_three max_four min_four   -- for this text's walks alone
attribute [local go_sem high] eqA47
def api_Member.l0 : Nat → List (S47) → List (S47) → Int → Int → Option (Bool)
 | 0, _, _, _, _ => none
 | k + 1, x0, x1, x12, x13 => if x13 < x12 then (if 0 ≤ x13 then (if x13 < (x0.length : Int) then (if x13 < (x1.length : Int) then (if (!(((rd_T47 x0 x13).f0) == ((rd_T47 x1 x13).f0)) || (!(((rd_T47 x0 x13).f1) == ((rd_T47 x1 x13).f1)))) = true then (some false) else (api_Member.l0 k x0 x1 x12 (wrap64 (x13 + 1)))) else (none)) else (none)) else (none)) else (some true)
def api_Member.f (k : Nat) (l0 : List (S47)) (l1 : List (S47)) : Option (Bool) := if (l0.length : Int) = (l1.length : Int) then (api_Member.l0 k l0 l1 (l0.length : Int) 0) else (some false)
theorem api_Member.mono_l : ∀ k, (∀ y0 y1 y2 y3, LeO (api_Member.l0 k y0 y1 y2 y3) (api_Member.l0 (k + 1) y0 y1 y2 y3))
 | 0 => fun _ _ _ _ r h => by simp [api_Member.l0] at h
 | k + 1 => by
  have ih0 := api_Member.mono_l k
  ·intro y0 y1 y2 y3
   unfold api_Member.l0
   repeat' first
   | (with_reducible exact ih0 _ _ _ _)
   | (with_reducible exact LeO.refl _)
   | (with_reducible exact LeO.none _)
   | (with_reducible refine LeO.ite ?_ ?_)
   | (with_reducible refine LeO.bind ?_ (fun _ => ?_))
   | exact ih0 _ _ _ _
   | exact LeO.none _
   | refine LeO.ite ?_ ?_
   | refine LeO.bind ?_ (fun _ => ?_)
theorem api_Member.mono : ∀ a0 a1 k, LeO (api_Member.f k a0 a1) (api_Member.f (k + 1) a0 a1) := by
 intro a0 a1 k
 have ih0 := api_Member.mono_l k
 unfold api_Member.f
 repeat' first
  | (with_reducible exact ih0 _ _ _ _)
  | (with_reducible exact LeO.refl _)
  | (with_reducible exact LeO.none _)
  | (with_reducible refine LeO.ite ?_ ?_)
  | (with_reducible refine LeO.bind ?_ (fun _ => ?_))
  | exact ih0 _ _ _ _
  | exact LeO.none _
  | refine LeO.ite ?_ ?_
  | refine LeO.bind ?_ (fun _ => ?_)
set_option maxHeartbeats 8000000 in
set_option maxRecDepth 100000 in
theorem api_Member.calls (k : Nat) (A0 : Option Addr) (c0 : Nat) (l0 : List (S47)) (A1 : Option Addr) (c1 : Nat) (l1 : List (S47)) (r : Bool) (w : World) (hr0 : Kd.C k47 w A0 l0.length l0) (hc0 : l0.length ≤ c0) (hr1 : Kd.C k47 w A1 l1.length l1) (hc1 : l1.length ≤ c1) (h : api_Member.f k l0 l1 = some r) :
 Calls Try.prog 45 #[.slice A0 l0.length c0, .slice A1 l1.length c1] w fun e w' => e = .returned (.bool r) ∧ Drawn0 w w' := by
 have hu47 := Try.underlying47
 have HR0 := Az.mk hr0
 have HC0 := Az.mk hc0
 clear hr0 hc0
 have HR1 := Az.mk hr1
 have HC1 := Az.mk hc1
 clear hr1 hc1
 have H : (if (l0.length : Int) = (l1.length : Int) then (api_Member.l0 k l0 l1 (l0.length : Int) 0) else (some false)) = some r := h
 clear h
 by_cases c3 : (l0.length : Int) = (l1.length : Int)
 ·rw [if_pos c3] at H
  have c3b0 : ((l0.length : Int) == (l1.length : Int)) = true := beq_iff_eq.mpr c3
  have c3b1 : ((l0.length : Int) != (l1.length : Int)) = false := bne_eq_false_iff_eq.mpr c3
  have c3b2 : (l0.length == l1.length) = true := by first | simpa using c3 | (simp at c3 ⊢; omega)
  clear c3
  have H' := Az.mk H
  clear H
  go_enter Try.func45, Try.ntmps45
  go_wp2
  repeat (go_quiet (fail); try go_wp2)
  go_loopg [13] k (fun kq v13 w' => ∃ (x13_1 : Int), v13 = .int .i64 x13_1 ∧ Az (api_Member.l0 kq l0 l1 (l0.length : Int) x13_1 = some r) ∧ Az (kq ≤ k) ∧ Drawn0 w w')
  case atStart => exact ⟨(0), (by first | rfl | (simp; done) | (simp [*]; done)), H', ⟨Nat.le_refl _⟩, by repeat (first | exact Drawn0.refl _ | apply Drawn0.step)⟩
  case round =>
   clear H'
   try clear c1
   try clear p2
   try clear c3
   try clear c3b0
   try clear c3b1
   try clear c3b2
   obtain ⟨x13_1, rfl, HA, HK1, ⟨m1, rfl⟩⟩ := hrel
   cases gk with
   | zero => exact absurd HA.out (by simp [api_Member.l0])
   | succ k1 =>
    have H := HA.out
    clear HA
    simp only [api_Member.l0] at H
    by_cases c4 : x13_1 < (l0.length : Int)
    ·rw [if_pos c4] at H
     have c4b0 : decide (x13_1 < (l0.length : Int)) = true := decide_eq_true c4
     clear c4
     by_cases c5 : 0 ≤ x13_1
     ·rw [if_pos c5] at H
      have c5b0 : decide (0 ≤ x13_1) = true := decide_eq_true c5
      clear c5
      by_cases c6 : x13_1 < (l0.length : Int)
      ·rw [if_pos c6] at H
       have c6b0 : decide (x13_1 < (l0.length : Int)) = true := decide_eq_true c6
       clear c6
       by_cases c7 : x13_1 < (l1.length : Int)
       ·rw [if_pos c7] at H
        have c7b0 : decide (x13_1 < (l1.length : Int)) = true := decide_eq_true c7
        clear c7
        by_cases c8 : (!(((rd_T47 l0 x13_1).f0) == ((rd_T47 l1 x13_1).f0)) || (!(((rd_T47 l0 x13_1).f1) == ((rd_T47 l1 x13_1).f1)))) = true
        ·rw [if_pos c8] at H
         have c8b0 : (!(((rd_T47 l0 x13_1).f0) == ((rd_T47 l1 x13_1).f0)) || (!(((rd_T47 l0 x13_1).f1) == ((rd_T47 l1 x13_1).f1)))) = true := c8
         clear c8
         obtain rfl := Option.some.inj H
         have p113 : 0 ≤ (x13_1 : Int) := of_decide_eq_true (by first | (with_reducible assumption) | assumption)
         have q113 : x13_1 < (l0.length : Int) := of_decide_eq_true (by first | (with_reducible assumption) | assumption)
         obtain ⟨ad113, e113, hx113_0, hx113_1⟩ := at_T47 HR0.out x13_1 p113 q113
         cases e113
         replace p113 := eq_true p113
         replace q113 := eq_true q113
         have p114 : 0 ≤ (x13_1 : Int) := of_decide_eq_true (by first | (with_reducible assumption) | assumption)
         have q114 : x13_1 < (l1.length : Int) := of_decide_eq_true (by first | (with_reducible assumption) | assumption)
         obtain ⟨ad114, e114, hx114_0, hx114_1⟩ := at_T47 HR1.out x13_1 p114 q114
         cases e114
         replace p114 := eq_true p114
         replace q114 := eq_true q114
         go_wp2
         repeat (go_quiet (fail); try go_wp2)
         go_ret
         exact ⟨by first | rfl | (simp; done) | (simp [*]; done), by repeat (first | exact Drawn0.refl _ | apply Drawn0.step)⟩
        ·rw [if_neg c8] at H
         have c8b0 : (!(((rd_T47 l0 x13_1).f0) == ((rd_T47 l1 x13_1).f0)) || (!(((rd_T47 l0 x13_1).f1) == ((rd_T47 l1 x13_1).f1)))) = false := by simpa using c8
         clear c8
         have H' := Az.mk H
         clear H
         have p113 : 0 ≤ (x13_1 : Int) := of_decide_eq_true (by first | (with_reducible assumption) | assumption)
         have q113 : x13_1 < (l0.length : Int) := of_decide_eq_true (by first | (with_reducible assumption) | assumption)
         obtain ⟨ad113, e113, hx113_0, hx113_1⟩ := at_T47 HR0.out x13_1 p113 q113
         cases e113
         replace p113 := eq_true p113
         replace q113 := eq_true q113
         have p114 : 0 ≤ (x13_1 : Int) := of_decide_eq_true (by first | (with_reducible assumption) | assumption)
         have q114 : x13_1 < (l1.length : Int) := of_decide_eq_true (by first | (with_reducible assumption) | assumption)
         obtain ⟨ad114, e114, hx114_0, hx114_1⟩ := at_T47 HR1.out x13_1 p114 q114
         cases e114
         replace p114 := eq_true p114
         replace q114 := eq_true q114
         go_wp2
         repeat (go_quiet (fail); try go_wp2)
         go_roundg k1
         case measure => have := HK1.out; omega
         case rel => exact ⟨(wrap64 (x13_1 + 1)), (by first | rfl | (simp; done) | (simp [*]; done)), H', ⟨by have := HK1.out; omega⟩, by repeat (first | exact Drawn0.refl _ | apply Drawn0.step)⟩
       ·rw [if_neg c7] at H
        exact absurd H (by simp)
      ·rw [if_neg c6] at H
       exact absurd H (by simp)
     ·rw [if_neg c5] at H
      exact absurd H (by simp)
    ·rw [if_neg c4] at H
     have c4b0 : decide (x13_1 < (l0.length : Int)) = false := decide_eq_false c4
     clear c4
     obtain rfl := Option.some.inj H
     go_wp2
     repeat (go_quiet (fail); try go_wp2)
     go_ret
     exact ⟨by first | rfl | (simp; done) | (simp [*]; done), by repeat (first | exact Drawn0.refl _ | apply Drawn0.step)⟩
 ·rw [if_neg c3] at H
  have c3b0 : ((l0.length : Int) == (l1.length : Int)) = false := beq_eq_false_iff_ne.mpr c3
  have c3b1 : ((l0.length : Int) != (l1.length : Int)) = true := bne_iff_ne.mpr c3
  have c3b2 : (l0.length == l1.length) = false := by first | simpa using c3 | (simp at c3 ⊢; omega)
  obtain rfl := Option.some.inj H
  go_enter Try.func45, Try.ntmps45
  go_wp2
  repeat (go_quiet (fail); try go_wp2)
  go_ret
  exact ⟨by first | rfl | (simp; done) | (simp [*]; done), by repeat (first | exact Drawn0.refl _ | apply Drawn0.step)⟩
end Go.Proofs.Ytppdcldbebnmlaa.P
end
section
namespace Go.Proofs.Ytppdcldbebnmlaa.P
open Go.RowKit Go.Proofs.Ytppdcldbebnmlaa.K Go.Proofs.YtppdcldbebnmlaaW.PrintWords Go.Proofs.YtppdcldbebnmlaaW.PrintLast Go.Proofs.YtppdcldbebnmlaaW.PrintMore
attribute [local go_sem] max2_int min2_int max_two min_two max_three min_three max_four min_four   -- for this text's walks alone
attribute [local go_sem high] eqA24
def desc_Same.f (k : Nat) (a0_0 : Int) (a0_1 : ByteArray) (a0_2 : ByteArray) (a0_3 : Int) (l0_4 : List (S47)) (a0_5 : Int) (a1_0 : Int) (a1_1 : ByteArray) (a1_2 : ByteArray) (a1_3 : Int) (l1_4 : List (S47)) (a1_5 : Int) : Option (Bool) := if a0_0 = a1_0 then (if (a0_1.toList == a1_1.toList && (a0_2.toList == a1_2.toList)) = true then (if a0_3 = a1_3 then (if a0_5 = a1_5 then ((api_Member.f k l0_4 l1_4).bind fun t117 => (some t117)) else (some false)) else (some false)) else (some false)) else (some false)
theorem desc_Same.mono : ∀ a0 a1 a2 a3 a4 a5 a6 a7 a8 a9 a10 a11 k, LeO (desc_Same.f k a0 a1 a2 a3 a4 a5 a6 a7 a8 a9 a10 a11) (desc_Same.f (k + 1) a0 a1 a2 a3 a4 a5 a6 a7 a8 a9 a10 a11) := by
 intro a0 a1 a2 a3 a4 a5 a6 a7 a8 a9 a10 a11 k
 unfold desc_Same.f
 repeat' first
  | (with_reducible exact api_Member.mono _ _ _)
  | (with_reducible exact LeO.refl _)
  | (with_reducible exact LeO.none _)
  | (with_reducible refine LeO.ite ?_ ?_)
  | (with_reducible refine LeO.bind ?_ (fun _ => ?_))
  | exact api_Member.mono _ _ _
  | exact LeO.none _
  | refine LeO.ite ?_ ?_
  | refine LeO.bind ?_ (fun _ => ?_)
set_option maxHeartbeats 8000000 in
set_option maxRecDepth 100000 in
theorem desc_Same.calls (k : Nat) (a0_0 : Int) (a0_1 : ByteArray) (a0_2 : ByteArray) (a0_3 : Int) (A0_4 : Option Addr) (c0_4 : Nat) (l0_4 : List (S47)) (a0_5 : Int) (a1_0 : Int) (a1_1 : ByteArray) (a1_2 : ByteArray) (a1_3 : Int) (A1_4 : Option Addr) (c1_4 : Nat) (l1_4 : List (S47)) (a1_5 : Int) (r : Bool) (w : World) (hr0_4 : Kd.C k47 w A0_4 l0_4.length l0_4) (hc0_4 : l0_4.length ≤ c0_4) (hr1_4 : Kd.C k47 w A1_4 l1_4.length l1_4) (hc1_4 : l1_4.length ≤ c1_4) (h : desc_Same.f k a0_0 a0_1 a0_2 a0_3 l0_4 a0_5 a1_0 a1_1 a1_2 a1_3 l1_4 a1_5 = some r) :
 Calls Try.prog 30 #[.agg #[.int .i64 a0_0, .string a0_1, .string a0_2, .int .i64 a0_3, .slice A0_4 l0_4.length c0_4, .int .i64 a0_5], .agg #[.int .i64 a1_0, .string a1_1, .string a1_2, .int .i64 a1_3, .slice A1_4 l1_4.length c1_4, .int .i64 a1_5]] w fun e w' => e = .returned (.bool r) ∧ Below w.heap.size w w' := by
 have hu27 := Try.underlying27
 have hu24 := Try.underlying24
 have HR0_4 := Az.mk hr0_4
 have HC0_4 := Az.mk hc0_4
 clear hr0_4 hc0_4
 have HR1_4 := Az.mk hr1_4
 have HC1_4 := Az.mk hc1_4
 clear hr1_4 hc1_4
 have HB := Az.mk (Below.refl w.heap.size w)
 have H : (if a0_0 = a1_0 then (if (a0_1.toList == a1_1.toList && (a0_2.toList == a1_2.toList)) = true then (if a0_3 = a1_3 then (if a0_5 = a1_5 then ((api_Member.f k l0_4 l1_4).bind fun t117 => (some t117)) else (some false)) else (some false)) else (some false)) else (some false)) = some r := h
 clear h
 by_cases c3 : a0_0 = a1_0
 ·rw [if_pos c3] at H
  have c3b0 : (a0_0 == a1_0) = true := beq_iff_eq.mpr c3
  have c3b1 : (a0_0 != a1_0) = false := bne_eq_false_iff_eq.mpr c3
  clear c3
  by_cases c4 : (a0_1.toList == a1_1.toList && (a0_2.toList == a1_2.toList)) = true
  ·rw [if_pos c4] at H
   have c4b0 : (a0_1.toList == a1_1.toList && (a0_2.toList == a1_2.toList)) = true := c4
   (try (have c4b1 : decide (a0_1.toList = a1_1.toList && (a0_2.toList == a1_2.toList)) = true := by simpa using c4))
   (try (have c4b2 : (a0_1.toList == a1_1.toList && (a0_2.toList == a1_2.toList)) = true := by simpa using c4))
   clear c4
   by_cases c5 : a0_3 = a1_3
   ·rw [if_pos c5] at H
    have c5b0 : (a0_3 == a1_3) = true := beq_iff_eq.mpr c5
    have c5b1 : (a0_3 != a1_3) = false := bne_eq_false_iff_eq.mpr c5
    clear c5
    by_cases c6 : a0_5 = a1_5
    ·rw [if_pos c6] at H
     have c6b0 : (a0_5 == a1_5) = true := beq_iff_eq.mpr c6
     have c6b1 : (a0_5 != a1_5) = false := bne_eq_false_iff_eq.mpr c6
     clear c6
     replace H := Option.bind_eq_some_iff.mp H
     obtain ⟨t117, A70, H⟩ := H
     replace H : (some t117) = some r := H
     have A7 := Az.mk A70
     clear A70
     obtain rfl := Option.some.inj H
     go_enter Try.func30, Try.ntmps30
     go_wp2_with (first | ((with_reducible refine gate_dst (N := 2) rfl ?_); refine box_event ?hg (N := 2) ?hd (cs := #[.int .i64 a0_0, .string a0_1, .string a0_2, .int .i64 a0_3, .slice A0_4 l0_4.length c0_4, .int .i64 a0_5]) (t := 27) ?hr ?_; (case hd => rfl); (case hg => rfl); (case hr => first | (go_simp; done) | (go_simp; rfl)); intro gb115 hg w8 hbox hb; have BK115 := Az.mk (hbox); have GW115 := Az.mk (geO hg (pbE HB.out)); have GE115 := Az.mk (geO hg (pbE HB.out)); replace HB := Az.mk (pbT (by exact pbE HB.out) hb); clear hb hbox hg) | ((with_reducible refine gate_dst (N := 3) rfl ?_); refine box_event ?hg (N := 3) ?hd (cs := #[.int .i64 a1_0, .string a1_1, .string a1_2, .int .i64 a1_3, .slice A1_4 l1_4.length c1_4, .int .i64 a1_5]) (t := 27) ?hr ?_; (case hd => rfl); (case hg => rfl); (case hr => first | (go_simp; done) | (go_simp; rfl)); intro gb116 hg w9 hbox hb; have BK116 := Az.mk (hbox); have GW116 := Az.mk (geO hg (pbE HB.out)); have GE116 := Az.mk (geO hg (pbE HB.out)); replace HB := Az.mk (pbT (by exact pbE HB.out) hb); have NB115_116 := Az.mk (neO hg (bk BK115.out)); have NB116_115 := Az.mk (neP hg (bk BK115.out)); replace BK115 := Az.mk (bkB (bk BK115.out) hb); clear hb hbox hg; have hnb10 := NB115_116.out; have hnc10 := NB116_115.out; have hcz11 := cells6 BK115.out; have hcz12 := cells6 BK116.out) | (go_at_call 45; (with_reducible refine (api_Member.calls k _ _ l0_4 _ _ l1_4 t117 _ ?side1 ?side2 ?side3 ?side4 A7.out).mono ?_); (case side1 => repeat (first | exact (Kd.C_below HR0_4.out HB.out) | (with_reducible refine Kd.C_alloc ?_ _) | (with_reducible refine Kd.C_drewN ?_ _) | (with_reducible refine Kd.C_drew ?_))); (case side2 => exact HC0_4.out); (case side3 => repeat (first | exact (Kd.C_below HR1_4.out HB.out) | (with_reducible refine Kd.C_alloc ?_ _) | (with_reducible refine Kd.C_drewN ?_ _) | (with_reducible refine Kd.C_drew ?_))); (case side4 => exact HC1_4.out); rintro e w' ⟨rfl, ⟨nd, rfl⟩⟩))
     go_ret
     exact ⟨by first | rfl | (simp [errW_none, errW_some] <;> rfl) | (simp [*, errW_none, errW_some] <;> rfl), by exact pbE HB.out⟩
    ·rw [if_neg c6] at H
     have c6b0 : (a0_5 == a1_5) = false := beq_eq_false_iff_ne.mpr c6
     have c6b1 : (a0_5 != a1_5) = true := bne_iff_ne.mpr c6
     obtain rfl := Option.some.inj H
     go_enter Try.func30, Try.ntmps30
     go_wp2_with (first | ((with_reducible refine gate_dst (N := 2) rfl ?_); refine box_event ?hg (N := 2) ?hd (cs := #[.int .i64 a0_0, .string a0_1, .string a0_2, .int .i64 a0_3, .slice A0_4 l0_4.length c0_4, .int .i64 a0_5]) (t := 27) ?hr ?_; (case hd => rfl); (case hg => rfl); (case hr => first | (go_simp; done) | (go_simp; rfl)); intro gb115 hg w13 hbox hb; have BK115 := Az.mk (hbox); have GW115 := Az.mk (geO hg (pbE HB.out)); have GE115 := Az.mk (geO hg (pbE HB.out)); replace HB := Az.mk (pbT (by exact pbE HB.out) hb); clear hb hbox hg) | ((with_reducible refine gate_dst (N := 3) rfl ?_); refine box_event ?hg (N := 3) ?hd (cs := #[.int .i64 a1_0, .string a1_1, .string a1_2, .int .i64 a1_3, .slice A1_4 l1_4.length c1_4, .int .i64 a1_5]) (t := 27) ?hr ?_; (case hd => rfl); (case hg => rfl); (case hr => first | (go_simp; done) | (go_simp; rfl)); intro gb116 hg w14 hbox hb; have BK116 := Az.mk (hbox); have GW116 := Az.mk (geO hg (pbE HB.out)); have GE116 := Az.mk (geO hg (pbE HB.out)); replace HB := Az.mk (pbT (by exact pbE HB.out) hb); have NB115_116 := Az.mk (neO hg (bk BK115.out)); have NB116_115 := Az.mk (neP hg (bk BK115.out)); replace BK115 := Az.mk (bkB (bk BK115.out) hb); clear hb hbox hg; have hnb15 := NB115_116.out; have hnc15 := NB116_115.out; have hcz16 := cells6 BK115.out; have hcz17 := cells6 BK116.out))
     go_ret
     exact ⟨by first | rfl | (simp [errW_none, errW_some] <;> rfl) | (simp [*, errW_none, errW_some] <;> rfl), by exact pbE HB.out⟩
   ·rw [if_neg c5] at H
    have c5b0 : (a0_3 == a1_3) = false := beq_eq_false_iff_ne.mpr c5
    have c5b1 : (a0_3 != a1_3) = true := bne_iff_ne.mpr c5
    obtain rfl := Option.some.inj H
    go_enter Try.func30, Try.ntmps30
    go_wp2_with (first | ((with_reducible refine gate_dst (N := 2) rfl ?_); refine box_event ?hg (N := 2) ?hd (cs := #[.int .i64 a0_0, .string a0_1, .string a0_2, .int .i64 a0_3, .slice A0_4 l0_4.length c0_4, .int .i64 a0_5]) (t := 27) ?hr ?_; (case hd => rfl); (case hg => rfl); (case hr => first | (go_simp; done) | (go_simp; rfl)); intro gb115 hg w18 hbox hb; have BK115 := Az.mk (hbox); have GW115 := Az.mk (geO hg (pbE HB.out)); have GE115 := Az.mk (geO hg (pbE HB.out)); replace HB := Az.mk (pbT (by exact pbE HB.out) hb); clear hb hbox hg) | ((with_reducible refine gate_dst (N := 3) rfl ?_); refine box_event ?hg (N := 3) ?hd (cs := #[.int .i64 a1_0, .string a1_1, .string a1_2, .int .i64 a1_3, .slice A1_4 l1_4.length c1_4, .int .i64 a1_5]) (t := 27) ?hr ?_; (case hd => rfl); (case hg => rfl); (case hr => first | (go_simp; done) | (go_simp; rfl)); intro gb116 hg w19 hbox hb; have BK116 := Az.mk (hbox); have GW116 := Az.mk (geO hg (pbE HB.out)); have GE116 := Az.mk (geO hg (pbE HB.out)); replace HB := Az.mk (pbT (by exact pbE HB.out) hb); have NB115_116 := Az.mk (neO hg (bk BK115.out)); have NB116_115 := Az.mk (neP hg (bk BK115.out)); replace BK115 := Az.mk (bkB (bk BK115.out) hb); clear hb hbox hg; have hnb20 := NB115_116.out; have hnc20 := NB116_115.out; have hcz21 := cells6 BK115.out; have hcz22 := cells6 BK116.out))
    go_ret
    exact ⟨by first | rfl | (simp [errW_none, errW_some] <;> rfl) | (simp [*, errW_none, errW_some] <;> rfl), by exact pbE HB.out⟩
  ·rw [if_neg c4] at H
   have c4b0 : (a0_1.toList == a1_1.toList && (a0_2.toList == a1_2.toList)) = false := by simpa using c4
   (try (have c4b1 : decide (a0_1.toList = a1_1.toList && (a0_2.toList == a1_2.toList)) = false := by simpa using c4))
   (try (have c4b2 : (a0_1.toList == a1_1.toList && (a0_2.toList == a1_2.toList)) = false := by simpa using c4))
   (try (have c4b3 : ¬ (a0_1.toList = a1_1.toList && (a0_2.toList == a1_2.toList)) := by simpa using c4))
   clear c4
   obtain rfl := Option.some.inj H
   go_enter Try.func30, Try.ntmps30
   go_wp2_with (first | ((with_reducible refine gate_dst (N := 2) rfl ?_); refine box_event ?hg (N := 2) ?hd (cs := #[.int .i64 a0_0, .string a0_1, .string a0_2, .int .i64 a0_3, .slice A0_4 l0_4.length c0_4, .int .i64 a0_5]) (t := 27) ?hr ?_; (case hd => rfl); (case hg => rfl); (case hr => first | (go_simp; done) | (go_simp; rfl)); intro gb115 hg w23 hbox hb; have BK115 := Az.mk (hbox); have GW115 := Az.mk (geO hg (pbE HB.out)); have GE115 := Az.mk (geO hg (pbE HB.out)); replace HB := Az.mk (pbT (by exact pbE HB.out) hb); clear hb hbox hg) | ((with_reducible refine gate_dst (N := 3) rfl ?_); refine box_event ?hg (N := 3) ?hd (cs := #[.int .i64 a1_0, .string a1_1, .string a1_2, .int .i64 a1_3, .slice A1_4 l1_4.length c1_4, .int .i64 a1_5]) (t := 27) ?hr ?_; (case hd => rfl); (case hg => rfl); (case hr => first | (go_simp; done) | (go_simp; rfl)); intro gb116 hg w24 hbox hb; have BK116 := Az.mk (hbox); have GW116 := Az.mk (geO hg (pbE HB.out)); have GE116 := Az.mk (geO hg (pbE HB.out)); replace HB := Az.mk (pbT (by exact pbE HB.out) hb); have NB115_116 := Az.mk (neO hg (bk BK115.out)); have NB116_115 := Az.mk (neP hg (bk BK115.out)); replace BK115 := Az.mk (bkB (bk BK115.out) hb); clear hb hbox hg; have hnb25 := NB115_116.out; have hnc25 := NB116_115.out; have hcz26 := cells6 BK115.out; have hcz27 := cells6 BK116.out))
   go_ret
   exact ⟨by first | rfl | (simp [errW_none, errW_some] <;> rfl) | (simp [*, errW_none, errW_some] <;> rfl), by exact pbE HB.out⟩
 ·rw [if_neg c3] at H
  have c3b0 : (a0_0 == a1_0) = false := beq_eq_false_iff_ne.mpr c3
  have c3b1 : (a0_0 != a1_0) = true := bne_iff_ne.mpr c3
  obtain rfl := Option.some.inj H
  go_enter Try.func30, Try.ntmps30
  go_wp2_with (first | ((with_reducible refine gate_dst (N := 2) rfl ?_); refine box_event ?hg (N := 2) ?hd (cs := #[.int .i64 a0_0, .string a0_1, .string a0_2, .int .i64 a0_3, .slice A0_4 l0_4.length c0_4, .int .i64 a0_5]) (t := 27) ?hr ?_; (case hd => rfl); (case hg => rfl); (case hr => first | (go_simp; done) | (go_simp; rfl)); intro gb115 hg w28 hbox hb; have BK115 := Az.mk (hbox); have GW115 := Az.mk (geO hg (pbE HB.out)); have GE115 := Az.mk (geO hg (pbE HB.out)); replace HB := Az.mk (pbT (by exact pbE HB.out) hb); clear hb hbox hg) | ((with_reducible refine gate_dst (N := 3) rfl ?_); refine box_event ?hg (N := 3) ?hd (cs := #[.int .i64 a1_0, .string a1_1, .string a1_2, .int .i64 a1_3, .slice A1_4 l1_4.length c1_4, .int .i64 a1_5]) (t := 27) ?hr ?_; (case hd => rfl); (case hg => rfl); (case hr => first | (go_simp; done) | (go_simp; rfl)); intro gb116 hg w29 hbox hb; have BK116 := Az.mk (hbox); have GW116 := Az.mk (geO hg (pbE HB.out)); have GE116 := Az.mk (geO hg (pbE HB.out)); replace HB := Az.mk (pbT (by exact pbE HB.out) hb); have NB115_116 := Az.mk (neO hg (bk BK115.out)); have NB116_115 := Az.mk (neP hg (bk BK115.out)); replace BK115 := Az.mk (bkB (bk BK115.out) hb); clear hb hbox hg; have hnb30 := NB115_116.out; have hnc30 := NB116_115.out; have hcz31 := cells6 BK115.out; have hcz32 := cells6 BK116.out))
  go_ret
  exact ⟨by first | rfl | (simp [errW_none, errW_some] <;> rfl) | (simp [*, errW_none, errW_some] <;> rfl), by exact pbE HB.out⟩
end Go.Proofs.Ytppdcldbebnmlaa.P
end
section
namespace Go.Proofs.Ytppdcldbebnmlaa.P
open Go.RowKit Go.Proofs.Ytppdcldbebnmlaa.K Go.Proofs.YtppdcldbebnmlaaW.PrintWords Go.Proofs.YtppdcldbebnmlaaW.PrintLast Go.Proofs.YtppdcldbebnmlaaW.PrintMore
attribute [local go_sem] max2_int min2_int max_two min_two max_three min_three max_four min_four   -- for this text's walks alone
attribute [local go_sem high] eqA47
def r06_Members.l0 : Nat → List (S47) → List (S47) → Int → Option (Bool)
 | 0, _, _, _ => none
 | k + 1, x0, x1, x5 => if x5 < (x0.length : Int) then (if 0 ≤ x5 then (if x5 < (x1.length : Int) then (if (!(((rd_T47 x0 x5).f0) == ((rd_T47 x1 x5).f0)) || (!(((rd_T47 x0 x5).f1) == ((rd_T47 x1 x5).f1)))) = true then (some false) else (r06_Members.l0 k x0 x1 (wrap64 (x5 + 1)))) else (none)) else (none)) else (some true)
def r06_Members.f (k : Nat) (l0 : List (S47)) (l1 : List (S47)) : Option (Bool) := if (l0.length : Int) = (l1.length : Int) then (r06_Members.l0 k l0 l1 0) else (some false)
theorem r06_Members.mono_l : ∀ k, (∀ y0 y1 y2, LeO (r06_Members.l0 k y0 y1 y2) (r06_Members.l0 (k + 1) y0 y1 y2))
 | 0 => fun _ _ _ r h => by simp [r06_Members.l0] at h
 | k + 1 => by
  have ih0 := r06_Members.mono_l k
  ·intro y0 y1 y2
   unfold r06_Members.l0
   repeat' first
   | (with_reducible exact ih0 _ _ _)
   | (with_reducible exact LeO.refl _)
   | (with_reducible exact LeO.none _)
   | (with_reducible refine LeO.ite ?_ ?_)
   | (with_reducible refine LeO.bind ?_ (fun _ => ?_))
   | exact ih0 _ _ _
   | exact LeO.none _
   | refine LeO.ite ?_ ?_
   | refine LeO.bind ?_ (fun _ => ?_)
theorem r06_Members.mono : ∀ a0 a1 k, LeO (r06_Members.f k a0 a1) (r06_Members.f (k + 1) a0 a1) := by
 intro a0 a1 k
 have ih0 := r06_Members.mono_l k
 unfold r06_Members.f
 repeat' first
  | (with_reducible exact ih0 _ _ _)
  | (with_reducible exact LeO.refl _)
  | (with_reducible exact LeO.none _)
  | (with_reducible refine LeO.ite ?_ ?_)
  | (with_reducible refine LeO.bind ?_ (fun _ => ?_))
  | exact ih0 _ _ _
  | exact LeO.none _
  | refine LeO.ite ?_ ?_
  | refine LeO.bind ?_ (fun _ => ?_)
set_option maxHeartbeats 8000000 in
set_option maxRecDepth 100000 in
theorem r06_Members.calls (k : Nat) (A0 : Option Addr) (c0 : Nat) (l0 : List (S47)) (A1 : Option Addr) (c1 : Nat) (l1 : List (S47)) (r : Bool) (w : World) (hr0 : Kd.C k47 w A0 l0.length l0) (hc0 : l0.length ≤ c0) (hr1 : Kd.C k47 w A1 l1.length l1) (hc1 : l1.length ≤ c1) (h : r06_Members.f k l0 l1 = some r) :
 Calls Try.prog 39 #[.slice A0 l0.length c0, .slice A1 l1.length c1] w fun e w' => e = .returned (.bool r) ∧ Drawn0 w w' := by
 have hu47 := Try.underlying47
 have HR0 := Az.mk hr0
 have HC0 := Az.mk hc0
 clear hr0 hc0
 have HR1 := Az.mk hr1
 have HC1 := Az.mk hc1
 clear hr1 hc1
 have H : (if (l0.length : Int) = (l1.length : Int) then (r06_Members.l0 k l0 l1 0) else (some false)) = some r := h
 clear h
 by_cases c3 : (l0.length : Int) = (l1.length : Int)
 ·rw [if_pos c3] at H
  have c3b0 : ((l0.length : Int) == (l1.length : Int)) = true := beq_iff_eq.mpr c3
  have c3b1 : ((l0.length : Int) != (l1.length : Int)) = false := bne_eq_false_iff_eq.mpr c3
  have c3b2 : (l0.length == l1.length) = true := by first | simpa using c3 | (simp at c3 ⊢; omega)
  clear c3
  have H' := Az.mk H
  clear H
  go_enter Try.func39, Try.ntmps39
  go_wp2
  repeat (go_quiet (fail); try go_wp2)
  go_loopg [5] k (fun kq v5 w' => ∃ (x5_1 : Int), v5 = .int .i64 x5_1 ∧ Az (r06_Members.l0 kq l0 l1 x5_1 = some r) ∧ Az (kq ≤ k) ∧ Drawn0 w w')
  case atStart => exact ⟨(0), (by first | rfl | (simp; done) | (simp [*]; done)), H', ⟨Nat.le_refl _⟩, by repeat (first | exact Drawn0.refl _ | apply Drawn0.step)⟩
  case round =>
   clear H'
   try clear c1
   try clear p2
   try clear c3
   try clear c3b0
   try clear c3b1
   try clear c3b2
   obtain ⟨x5_1, rfl, HA, HK1, ⟨m1, rfl⟩⟩ := hrel
   cases gk with
   | zero => exact absurd HA.out (by simp [r06_Members.l0])
   | succ k1 =>
    have H := HA.out
    clear HA
    simp only [r06_Members.l0] at H
    by_cases c4 : x5_1 < (l0.length : Int)
    ·rw [if_pos c4] at H
     have c4b0 : decide (x5_1 < (l0.length : Int)) = true := decide_eq_true c4
     clear c4
     by_cases c5 : 0 ≤ x5_1
     ·rw [if_pos c5] at H
      have c5b0 : decide (0 ≤ x5_1) = true := decide_eq_true c5
      clear c5
      by_cases c6 : x5_1 < (l1.length : Int)
      ·rw [if_pos c6] at H
       have c6b0 : decide (x5_1 < (l1.length : Int)) = true := decide_eq_true c6
       clear c6
       by_cases c7 : (!(((rd_T47 l0 x5_1).f0) == ((rd_T47 l1 x5_1).f0)) || (!(((rd_T47 l0 x5_1).f1) == ((rd_T47 l1 x5_1).f1)))) = true
       ·rw [if_pos c7] at H
        have c7b0 : (!(((rd_T47 l0 x5_1).f0) == ((rd_T47 l1 x5_1).f0)) || (!(((rd_T47 l0 x5_1).f1) == ((rd_T47 l1 x5_1).f1)))) = true := c7
        clear c7
        obtain rfl := Option.some.inj H
        have p173 : 0 ≤ (x5_1 : Int) := of_decide_eq_true (by first | (with_reducible assumption) | assumption)
        have q173 : x5_1 < (l0.length : Int) := of_decide_eq_true (by first | (with_reducible assumption) | assumption)
        obtain ⟨ad173, e173, hx173_0, hx173_1⟩ := at_T47 HR0.out x5_1 p173 q173
        cases e173
        replace p173 := eq_true p173
        replace q173 := eq_true q173
        have p174 : 0 ≤ (x5_1 : Int) := of_decide_eq_true (by first | (with_reducible assumption) | assumption)
        have q174 : x5_1 < (l1.length : Int) := of_decide_eq_true (by first | (with_reducible assumption) | assumption)
        obtain ⟨ad174, e174, hx174_0, hx174_1⟩ := at_T47 HR1.out x5_1 p174 q174
        cases e174
        replace p174 := eq_true p174
        replace q174 := eq_true q174
        go_wp2
        repeat (go_quiet (fail); try go_wp2)
        go_ret
        exact ⟨by first | rfl | (simp; done) | (simp [*]; done), by repeat (first | exact Drawn0.refl _ | apply Drawn0.step)⟩
       ·rw [if_neg c7] at H
        have c7b0 : (!(((rd_T47 l0 x5_1).f0) == ((rd_T47 l1 x5_1).f0)) || (!(((rd_T47 l0 x5_1).f1) == ((rd_T47 l1 x5_1).f1)))) = false := by simpa using c7
        clear c7
        have H' := Az.mk H
        clear H
        have p173 : 0 ≤ (x5_1 : Int) := of_decide_eq_true (by first | (with_reducible assumption) | assumption)
        have q173 : x5_1 < (l0.length : Int) := of_decide_eq_true (by first | (with_reducible assumption) | assumption)
        obtain ⟨ad173, e173, hx173_0, hx173_1⟩ := at_T47 HR0.out x5_1 p173 q173
        cases e173
        replace p173 := eq_true p173
        replace q173 := eq_true q173
        have p174 : 0 ≤ (x5_1 : Int) := of_decide_eq_true (by first | (with_reducible assumption) | assumption)
        have q174 : x5_1 < (l1.length : Int) := of_decide_eq_true (by first | (with_reducible assumption) | assumption)
        obtain ⟨ad174, e174, hx174_0, hx174_1⟩ := at_T47 HR1.out x5_1 p174 q174
        cases e174
        replace p174 := eq_true p174
        replace q174 := eq_true q174
        go_wp2
        repeat (go_quiet (fail); try go_wp2)
        go_roundg k1
        case measure => have := HK1.out; omega
        case rel => exact ⟨(wrap64 (x5_1 + 1)), (by first | rfl | (simp; done) | (simp [*]; done)), H', ⟨by have := HK1.out; omega⟩, by repeat (first | exact Drawn0.refl _ | apply Drawn0.step)⟩
      ·rw [if_neg c6] at H
       exact absurd H (by simp)
     ·rw [if_neg c5] at H
      exact absurd H (by simp)
    ·rw [if_neg c4] at H
     have c4b0 : decide (x5_1 < (l0.length : Int)) = false := decide_eq_false c4
     clear c4
     obtain rfl := Option.some.inj H
     go_wp2
     repeat (go_quiet (fail); try go_wp2)
     go_ret
     exact ⟨by first | rfl | (simp; done) | (simp [*]; done), by repeat (first | exact Drawn0.refl _ | apply Drawn0.step)⟩
 ·rw [if_neg c3] at H
  have c3b0 : ((l0.length : Int) == (l1.length : Int)) = false := beq_eq_false_iff_ne.mpr c3
  have c3b1 : ((l0.length : Int) != (l1.length : Int)) = true := bne_iff_ne.mpr c3
  have c3b2 : (l0.length == l1.length) = false := by first | simpa using c3 | (simp at c3 ⊢; omega)
  obtain rfl := Option.some.inj H
  go_enter Try.func39, Try.ntmps39
  go_wp2
  repeat (go_quiet (fail); try go_wp2)
  go_ret
  exact ⟨by first | rfl | (simp; done) | (simp [*]; done), by repeat (first | exact Drawn0.refl _ | apply Drawn0.step)⟩
end Go.Proofs.Ytppdcldbebnmlaa.P
end
section
namespace Go.Proofs.Ytppdcldbebnmlaa.P
open Go.RowKit Go.Proofs.Ytppdcldbebnmlaa.K Go.Proofs.YtppdcldbebnmlaaW.PrintWords Go.Proofs.YtppdcldbebnmlaaW.PrintLast Go.Proofs.YtppdcldbebnmlaaW.PrintMore
attribute [local go_sem] max2_int min2_int max_two min_two max_three min_three max_four min_four   -- for this text's walks alone
attribute [local go_sem high] eqA24
def r06_Same.f (k : Nat) (a0_0 : Int) (a0_1 : ByteArray) (a0_2 : ByteArray) (a0_3 : Int) (l0_4 : List (S47)) (a0_5 : Int) (a1_0 : Int) (a1_1 : ByteArray) (a1_2 : ByteArray) (a1_3 : Int) (l1_4 : List (S47)) (a1_5 : Int) : Option (Bool) := if a0_0 = a1_0 then (if (a0_1.toList == a1_1.toList && (a0_2.toList == a1_2.toList)) = true then (if a0_3 = a1_3 then (if a0_5 = a1_5 then ((r06_Members.f k l0_4 l1_4).bind fun t177 => (some t177)) else (some false)) else (some false)) else (some false)) else (some false)
theorem r06_Same.mono : ∀ a0 a1 a2 a3 a4 a5 a6 a7 a8 a9 a10 a11 k, LeO (r06_Same.f k a0 a1 a2 a3 a4 a5 a6 a7 a8 a9 a10 a11) (r06_Same.f (k + 1) a0 a1 a2 a3 a4 a5 a6 a7 a8 a9 a10 a11) := by
 intro a0 a1 a2 a3 a4 a5 a6 a7 a8 a9 a10 a11 k
 unfold r06_Same.f
 repeat' first
  | (with_reducible exact r06_Members.mono _ _ _)
  | (with_reducible exact LeO.refl _)
  | (with_reducible exact LeO.none _)
  | (with_reducible refine LeO.ite ?_ ?_)
  | (with_reducible refine LeO.bind ?_ (fun _ => ?_))
  | exact r06_Members.mono _ _ _
  | exact LeO.none _
  | refine LeO.ite ?_ ?_
  | refine LeO.bind ?_ (fun _ => ?_)
set_option maxHeartbeats 8000000 in
set_option maxRecDepth 100000 in
theorem r06_Same.calls (k : Nat) (a0_0 : Int) (a0_1 : ByteArray) (a0_2 : ByteArray) (a0_3 : Int) (A0_4 : Option Addr) (c0_4 : Nat) (l0_4 : List (S47)) (a0_5 : Int) (a1_0 : Int) (a1_1 : ByteArray) (a1_2 : ByteArray) (a1_3 : Int) (A1_4 : Option Addr) (c1_4 : Nat) (l1_4 : List (S47)) (a1_5 : Int) (r : Bool) (w : World) (hr0_4 : Kd.C k47 w A0_4 l0_4.length l0_4) (hc0_4 : l0_4.length ≤ c0_4) (hr1_4 : Kd.C k47 w A1_4 l1_4.length l1_4) (hc1_4 : l1_4.length ≤ c1_4) (h : r06_Same.f k a0_0 a0_1 a0_2 a0_3 l0_4 a0_5 a1_0 a1_1 a1_2 a1_3 l1_4 a1_5 = some r) :
 Calls Try.prog 17 #[.agg #[.int .i64 a0_0, .string a0_1, .string a0_2, .int .i64 a0_3, .slice A0_4 l0_4.length c0_4, .int .i64 a0_5], .agg #[.int .i64 a1_0, .string a1_1, .string a1_2, .int .i64 a1_3, .slice A1_4 l1_4.length c1_4, .int .i64 a1_5]] w fun e w' => e = .returned (.bool r) ∧ Below w.heap.size w w' := by
 have hu27 := Try.underlying27
 have hu24 := Try.underlying24
 have HR0_4 := Az.mk hr0_4
 have HC0_4 := Az.mk hc0_4
 clear hr0_4 hc0_4
 have HR1_4 := Az.mk hr1_4
 have HC1_4 := Az.mk hc1_4
 clear hr1_4 hc1_4
 have HB := Az.mk (Below.refl w.heap.size w)
 have H : (if a0_0 = a1_0 then (if (a0_1.toList == a1_1.toList && (a0_2.toList == a1_2.toList)) = true then (if a0_3 = a1_3 then (if a0_5 = a1_5 then ((r06_Members.f k l0_4 l1_4).bind fun t177 => (some t177)) else (some false)) else (some false)) else (some false)) else (some false)) = some r := h
 clear h
 by_cases c3 : a0_0 = a1_0
 ·rw [if_pos c3] at H
  have c3b0 : (a0_0 == a1_0) = true := beq_iff_eq.mpr c3
  have c3b1 : (a0_0 != a1_0) = false := bne_eq_false_iff_eq.mpr c3
  clear c3
  by_cases c4 : (a0_1.toList == a1_1.toList && (a0_2.toList == a1_2.toList)) = true
  ·rw [if_pos c4] at H
   have c4b0 : (a0_1.toList == a1_1.toList && (a0_2.toList == a1_2.toList)) = true := c4
   (try (have c4b1 : decide (a0_1.toList = a1_1.toList && (a0_2.toList == a1_2.toList)) = true := by simpa using c4))
   (try (have c4b2 : (a0_1.toList == a1_1.toList && (a0_2.toList == a1_2.toList)) = true := by simpa using c4))
   clear c4
   by_cases c5 : a0_3 = a1_3
   ·rw [if_pos c5] at H
    have c5b0 : (a0_3 == a1_3) = true := beq_iff_eq.mpr c5
    have c5b1 : (a0_3 != a1_3) = false := bne_eq_false_iff_eq.mpr c5
    clear c5
    by_cases c6 : a0_5 = a1_5
    ·rw [if_pos c6] at H
     have c6b0 : (a0_5 == a1_5) = true := beq_iff_eq.mpr c6
     have c6b1 : (a0_5 != a1_5) = false := bne_eq_false_iff_eq.mpr c6
     clear c6
     replace H := Option.bind_eq_some_iff.mp H
     obtain ⟨t177, A70, H⟩ := H
     replace H : (some t177) = some r := H
     have A7 := Az.mk A70
     clear A70
     obtain rfl := Option.some.inj H
     go_enter Try.func17, Try.ntmps17
     go_wp2_with (first | ((with_reducible refine gate_dst (N := 2) rfl ?_); refine box_event ?hg (N := 2) ?hd (cs := #[.int .i64 a0_0, .string a0_1, .string a0_2, .int .i64 a0_3, .slice A0_4 l0_4.length c0_4, .int .i64 a0_5]) (t := 27) ?hr ?_; (case hd => rfl); (case hg => rfl); (case hr => first | (go_simp; done) | (go_simp; rfl)); intro gb175 hg w8 hbox hb; have BK175 := Az.mk (hbox); have GW175 := Az.mk (geO hg (pbE HB.out)); have GE175 := Az.mk (geO hg (pbE HB.out)); replace HB := Az.mk (pbT (by exact pbE HB.out) hb); clear hb hbox hg) | ((with_reducible refine gate_dst (N := 3) rfl ?_); refine box_event ?hg (N := 3) ?hd (cs := #[.int .i64 a1_0, .string a1_1, .string a1_2, .int .i64 a1_3, .slice A1_4 l1_4.length c1_4, .int .i64 a1_5]) (t := 27) ?hr ?_; (case hd => rfl); (case hg => rfl); (case hr => first | (go_simp; done) | (go_simp; rfl)); intro gb176 hg w9 hbox hb; have BK176 := Az.mk (hbox); have GW176 := Az.mk (geO hg (pbE HB.out)); have GE176 := Az.mk (geO hg (pbE HB.out)); replace HB := Az.mk (pbT (by exact pbE HB.out) hb); have NB175_176 := Az.mk (neO hg (bk BK175.out)); have NB176_175 := Az.mk (neP hg (bk BK175.out)); replace BK175 := Az.mk (bkB (bk BK175.out) hb); clear hb hbox hg; have hnb10 := NB175_176.out; have hnc10 := NB176_175.out; have hcz11 := cells6 BK175.out; have hcz12 := cells6 BK176.out) | (go_at_call 39; (with_reducible refine (r06_Members.calls k _ _ l0_4 _ _ l1_4 t177 _ ?side1 ?side2 ?side3 ?side4 A7.out).mono ?_); (case side1 => repeat (first | exact (Kd.C_below HR0_4.out HB.out) | (with_reducible refine Kd.C_alloc ?_ _) | (with_reducible refine Kd.C_drewN ?_ _) | (with_reducible refine Kd.C_drew ?_))); (case side2 => exact HC0_4.out); (case side3 => repeat (first | exact (Kd.C_below HR1_4.out HB.out) | (with_reducible refine Kd.C_alloc ?_ _) | (with_reducible refine Kd.C_drewN ?_ _) | (with_reducible refine Kd.C_drew ?_))); (case side4 => exact HC1_4.out); rintro e w' ⟨rfl, ⟨nd, rfl⟩⟩))
     go_ret
     exact ⟨by first | rfl | (simp [errW_none, errW_some] <;> rfl) | (simp [*, errW_none, errW_some] <;> rfl), by exact pbE HB.out⟩
    ·rw [if_neg c6] at H
     have c6b0 : (a0_5 == a1_5) = false := beq_eq_false_iff_ne.mpr c6
     have c6b1 : (a0_5 != a1_5) = true := bne_iff_ne.mpr c6
     obtain rfl := Option.some.inj H
     go_enter Try.func17, Try.ntmps17
     go_wp2_with (first | ((with_reducible refine gate_dst (N := 2) rfl ?_); refine box_event ?hg (N := 2) ?hd (cs := #[.int .i64 a0_0, .string a0_1, .string a0_2, .int .i64 a0_3, .slice A0_4 l0_4.length c0_4, .int .i64 a0_5]) (t := 27) ?hr ?_; (case hd => rfl); (case hg => rfl); (case hr => first | (go_simp; done) | (go_simp; rfl)); intro gb175 hg w13 hbox hb; have BK175 := Az.mk (hbox); have GW175 := Az.mk (geO hg (pbE HB.out)); have GE175 := Az.mk (geO hg (pbE HB.out)); replace HB := Az.mk (pbT (by exact pbE HB.out) hb); clear hb hbox hg) | ((with_reducible refine gate_dst (N := 3) rfl ?_); refine box_event ?hg (N := 3) ?hd (cs := #[.int .i64 a1_0, .string a1_1, .string a1_2, .int .i64 a1_3, .slice A1_4 l1_4.length c1_4, .int .i64 a1_5]) (t := 27) ?hr ?_; (case hd => rfl); (case hg => rfl); (case hr => first | (go_simp; done) | (go_simp; rfl)); intro gb176 hg w14 hbox hb; have BK176 := Az.mk (hbox); have GW176 := Az.mk (geO hg (pbE HB.out)); have GE176 := Az.mk (geO hg (pbE HB.out)); replace HB := Az.mk (pbT (by exact pbE HB.out) hb); have NB175_176 := Az.mk (neO hg (bk BK175.out)); have NB176_175 := Az.mk (neP hg (bk BK175.out)); replace BK175 := Az.mk (bkB (bk BK175.out) hb); clear hb hbox hg; have hnb15 := NB175_176.out; have hnc15 := NB176_175.out; have hcz16 := cells6 BK175.out; have hcz17 := cells6 BK176.out))
     go_ret
     exact ⟨by first | rfl | (simp [errW_none, errW_some] <;> rfl) | (simp [*, errW_none, errW_some] <;> rfl), by exact pbE HB.out⟩
   ·rw [if_neg c5] at H
    have c5b0 : (a0_3 == a1_3) = false := beq_eq_false_iff_ne.mpr c5
    have c5b1 : (a0_3 != a1_3) = true := bne_iff_ne.mpr c5
    obtain rfl := Option.some.inj H
    go_enter Try.func17, Try.ntmps17
    go_wp2_with (first | ((with_reducible refine gate_dst (N := 2) rfl ?_); refine box_event ?hg (N := 2) ?hd (cs := #[.int .i64 a0_0, .string a0_1, .string a0_2, .int .i64 a0_3, .slice A0_4 l0_4.length c0_4, .int .i64 a0_5]) (t := 27) ?hr ?_; (case hd => rfl); (case hg => rfl); (case hr => first | (go_simp; done) | (go_simp; rfl)); intro gb175 hg w18 hbox hb; have BK175 := Az.mk (hbox); have GW175 := Az.mk (geO hg (pbE HB.out)); have GE175 := Az.mk (geO hg (pbE HB.out)); replace HB := Az.mk (pbT (by exact pbE HB.out) hb); clear hb hbox hg) | ((with_reducible refine gate_dst (N := 3) rfl ?_); refine box_event ?hg (N := 3) ?hd (cs := #[.int .i64 a1_0, .string a1_1, .string a1_2, .int .i64 a1_3, .slice A1_4 l1_4.length c1_4, .int .i64 a1_5]) (t := 27) ?hr ?_; (case hd => rfl); (case hg => rfl); (case hr => first | (go_simp; done) | (go_simp; rfl)); intro gb176 hg w19 hbox hb; have BK176 := Az.mk (hbox); have GW176 := Az.mk (geO hg (pbE HB.out)); have GE176 := Az.mk (geO hg (pbE HB.out)); replace HB := Az.mk (pbT (by exact pbE HB.out) hb); have NB175_176 := Az.mk (neO hg (bk BK175.out)); have NB176_175 := Az.mk (neP hg (bk BK175.out)); replace BK175 := Az.mk (bkB (bk BK175.out) hb); clear hb hbox hg; have hnb20 := NB175_176.out; have hnc20 := NB176_175.out; have hcz21 := cells6 BK175.out; have hcz22 := cells6 BK176.out))
    go_ret
    exact ⟨by first | rfl | (simp [errW_none, errW_some] <;> rfl) | (simp [*, errW_none, errW_some] <;> rfl), by exact pbE HB.out⟩
  ·rw [if_neg c4] at H
   have c4b0 : (a0_1.toList == a1_1.toList && (a0_2.toList == a1_2.toList)) = false := by simpa using c4
   (try (have c4b1 : decide (a0_1.toList = a1_1.toList && (a0_2.toList == a1_2.toList)) = false := by simpa using c4))
   (try (have c4b2 : (a0_1.toList == a1_1.toList && (a0_2.toList == a1_2.toList)) = false := by simpa using c4))
   (try (have c4b3 : ¬ (a0_1.toList = a1_1.toList && (a0_2.toList == a1_2.toList)) := by simpa using c4))
   clear c4
   obtain rfl := Option.some.inj H
   go_enter Try.func17, Try.ntmps17
   go_wp2_with (first | ((with_reducible refine gate_dst (N := 2) rfl ?_); refine box_event ?hg (N := 2) ?hd (cs := #[.int .i64 a0_0, .string a0_1, .string a0_2, .int .i64 a0_3, .slice A0_4 l0_4.length c0_4, .int .i64 a0_5]) (t := 27) ?hr ?_; (case hd => rfl); (case hg => rfl); (case hr => first | (go_simp; done) | (go_simp; rfl)); intro gb175 hg w23 hbox hb; have BK175 := Az.mk (hbox); have GW175 := Az.mk (geO hg (pbE HB.out)); have GE175 := Az.mk (geO hg (pbE HB.out)); replace HB := Az.mk (pbT (by exact pbE HB.out) hb); clear hb hbox hg) | ((with_reducible refine gate_dst (N := 3) rfl ?_); refine box_event ?hg (N := 3) ?hd (cs := #[.int .i64 a1_0, .string a1_1, .string a1_2, .int .i64 a1_3, .slice A1_4 l1_4.length c1_4, .int .i64 a1_5]) (t := 27) ?hr ?_; (case hd => rfl); (case hg => rfl); (case hr => first | (go_simp; done) | (go_simp; rfl)); intro gb176 hg w24 hbox hb; have BK176 := Az.mk (hbox); have GW176 := Az.mk (geO hg (pbE HB.out)); have GE176 := Az.mk (geO hg (pbE HB.out)); replace HB := Az.mk (pbT (by exact pbE HB.out) hb); have NB175_176 := Az.mk (neO hg (bk BK175.out)); have NB176_175 := Az.mk (neP hg (bk BK175.out)); replace BK175 := Az.mk (bkB (bk BK175.out) hb); clear hb hbox hg; have hnb25 := NB175_176.out; have hnc25 := NB176_175.out; have hcz26 := cells6 BK175.out; have hcz27 := cells6 BK176.out))
   go_ret
   exact ⟨by first | rfl | (simp [errW_none, errW_some] <;> rfl) | (simp [*, errW_none, errW_some] <;> rfl), by exact pbE HB.out⟩
 ·rw [if_neg c3] at H
  have c3b0 : (a0_0 == a1_0) = false := beq_eq_false_iff_ne.mpr c3
  have c3b1 : (a0_0 != a1_0) = true := bne_iff_ne.mpr c3
  obtain rfl := Option.some.inj H
  go_enter Try.func17, Try.ntmps17
  go_wp2_with (first | ((with_reducible refine gate_dst (N := 2) rfl ?_); refine box_event ?hg (N := 2) ?hd (cs := #[.int .i64 a0_0, .string a0_1, .string a0_2, .int .i64 a0_3, .slice A0_4 l0_4.length c0_4, .int .i64 a0_5]) (t := 27) ?hr ?_; (case hd => rfl); (case hg => rfl); (case hr => first | (go_simp; done) | (go_simp; rfl)); intro gb175 hg w28 hbox hb; have BK175 := Az.mk (hbox); have GW175 := Az.mk (geO hg (pbE HB.out)); have GE175 := Az.mk (geO hg (pbE HB.out)); replace HB := Az.mk (pbT (by exact pbE HB.out) hb); clear hb hbox hg) | ((with_reducible refine gate_dst (N := 3) rfl ?_); refine box_event ?hg (N := 3) ?hd (cs := #[.int .i64 a1_0, .string a1_1, .string a1_2, .int .i64 a1_3, .slice A1_4 l1_4.length c1_4, .int .i64 a1_5]) (t := 27) ?hr ?_; (case hd => rfl); (case hg => rfl); (case hr => first | (go_simp; done) | (go_simp; rfl)); intro gb176 hg w29 hbox hb; have BK176 := Az.mk (hbox); have GW176 := Az.mk (geO hg (pbE HB.out)); have GE176 := Az.mk (geO hg (pbE HB.out)); replace HB := Az.mk (pbT (by exact pbE HB.out) hb); have NB175_176 := Az.mk (neO hg (bk BK175.out)); have NB176_175 := Az.mk (neP hg (bk BK175.out)); replace BK175 := Az.mk (bkB (bk BK175.out) hb); clear hb hbox hg; have hnb30 := NB175_176.out; have hnc30 := NB176_175.out; have hcz31 := cells6 BK175.out; have hcz32 := cells6 BK176.out))
  go_ret
  exact ⟨by first | rfl | (simp [errW_none, errW_some] <;> rfl) | (simp [*, errW_none, errW_some] <;> rfl), by exact pbE HB.out⟩
end Go.Proofs.Ytppdcldbebnmlaa.P
end
section
namespace Go.Proofs.Ytppdcldbebnmlaa.P
open Go.RowKit Go.Proofs.Ytppdcldbebnmlaa.K Go.Proofs.YtppdcldbebnmlaaW.PrintWords Go.Proofs.YtppdcldbebnmlaaW.PrintLast Go.Proofs.YtppdcldbebnmlaaW.PrintMore
attribute [local go_sem] max2_int min2_int max_two min_two max_three min_three max_four min_four   -- for this text's walks alone
def r02_Has.f (a0_0 : ByteArray) (a0_1 : ByteArray) (a1 : ByteArray) : Option (Bool) := if ((Op.bytesLess a1.toList a0_0.toList) = true) then (some false) else (if a0_1.toList = ([] : List UInt8) then (some true) else (some (Op.bytesLess a1.toList a0_1.toList)))
set_option maxHeartbeats 8000000 in
set_option maxRecDepth 100000 in
theorem r02_Has.calls (a0_0 : ByteArray) (a0_1 : ByteArray) (a1 : ByteArray) (r : Bool) (w : World) (h : r02_Has.f a0_0 a0_1 a1 = some r) :
 Calls Try.prog 18 #[.agg #[.string a0_0, .string a0_1], .string a1] w fun e w' => e = .returned (.bool r) ∧ Below w.heap.size w w' := by
 have hu24 := Try.underlying24
 have HB := Az.mk (Below.refl w.heap.size w)
 have H : (if ((Op.bytesLess a1.toList a0_0.toList) = true) then (some false) else (if a0_1.toList = ([] : List UInt8) then (some true) else (some (Op.bytesLess a1.toList a0_1.toList)))) = some r := h
 clear h
 by_cases c3 : ((Op.bytesLess a1.toList a0_0.toList) = true)
 ·rw [if_pos c3] at H
  have c3b0 : (Op.bytesLess a1.toList a0_0.toList) = true := c3
  clear c3
  obtain rfl := Option.some.inj H
  go_enter Try.func18, Try.ntmps18
  go_wp2_with (first | ((with_reducible refine gate_dst (N := 2) rfl ?_); refine box_event ?hg (N := 2) ?hd (cs := #[.string a0_0, .string a0_1]) (t := 24) ?hr ?_; (case hd => rfl); (case hg => rfl); (case hr => first | (go_simp; done) | (go_simp; rfl)); intro gb131 hg w4 hbox hb; have BK131 := Az.mk (hbox); have GW131 := Az.mk (geO hg (pbE HB.out)); have GE131 := Az.mk (geO hg (pbE HB.out)); replace HB := Az.mk (pbT (by exact pbE HB.out) hb); clear hb hbox hg; have hcz5 := cells2 BK131.out))
  go_ret
  exact ⟨by first | rfl | (simp [errW_none, errW_some] <;> rfl) | (simp [*, errW_none, errW_some] <;> rfl), by exact pbE HB.out⟩
 ·rw [if_neg c3] at H
  have c3b0 : (Op.bytesLess a1.toList a0_0.toList) = false := by simpa using c3
  clear c3
  by_cases c6 : a0_1.toList = ([] : List UInt8)
  ·rw [if_pos c6] at H
   have c6b0 : (a0_1.toList == ([] : List UInt8)) = true := beq_iff_eq.mpr c6
   have c6b1 : (a0_1.toList != ([] : List UInt8)) = false := bne_eq_false_iff_eq.mpr c6
   clear c6
   obtain rfl := Option.some.inj H
   go_enter Try.func18, Try.ntmps18
   go_wp2_with (first | ((with_reducible refine gate_dst (N := 2) rfl ?_); refine box_event ?hg (N := 2) ?hd (cs := #[.string a0_0, .string a0_1]) (t := 24) ?hr ?_; (case hd => rfl); (case hg => rfl); (case hr => first | (go_simp; done) | (go_simp; rfl)); intro gb131 hg w7 hbox hb; have BK131 := Az.mk (hbox); have GW131 := Az.mk (geO hg (pbE HB.out)); have GE131 := Az.mk (geO hg (pbE HB.out)); replace HB := Az.mk (pbT (by exact pbE HB.out) hb); clear hb hbox hg; have hcz8 := cells2 BK131.out))
   go_ret
   exact ⟨by first | rfl | (simp [errW_none, errW_some] <;> rfl) | (simp [*, errW_none, errW_some] <;> rfl), by exact pbE HB.out⟩
  ·rw [if_neg c6] at H
   have c6b0 : (a0_1.toList == ([] : List UInt8)) = false := beq_eq_false_iff_ne.mpr c6
   have c6b1 : (a0_1.toList != ([] : List UInt8)) = true := bne_iff_ne.mpr c6
   obtain rfl := Option.some.inj H
   go_enter Try.func18, Try.ntmps18
   go_wp2_with (first | ((with_reducible refine gate_dst (N := 2) rfl ?_); refine box_event ?hg (N := 2) ?hd (cs := #[.string a0_0, .string a0_1]) (t := 24) ?hr ?_; (case hd => rfl); (case hg => rfl); (case hr => first | (go_simp; done) | (go_simp; rfl)); intro gb131 hg w9 hbox hb; have BK131 := Az.mk (hbox); have GW131 := Az.mk (geO hg (pbE HB.out)); have GE131 := Az.mk (geO hg (pbE HB.out)); replace HB := Az.mk (pbT (by exact pbE HB.out) hb); clear hb hbox hg; have hcz10 := cells2 BK131.out))
   go_ret
   exact ⟨by first | rfl | (simp [errW_none, errW_some] <;> rfl) | (simp [*, errW_none, errW_some] <;> rfl), by exact pbE HB.out⟩
def r02_Is.f (a0_0 : ByteArray) (a0_1 : ByteArray) : Option (Bool) := if (a0_0.size : Int) ≤ 33 then (if (a0_1.size : Int) ≤ 33 then (if a0_1.toList = ([] : List UInt8) then (some true) else (some (Op.bytesLess a0_0.toList a0_1.toList))) else (some false)) else (some false)
set_option maxHeartbeats 8000000 in
set_option maxRecDepth 100000 in
theorem r02_Is.calls (a0_0 : ByteArray) (a0_1 : ByteArray) (r : Bool) (w : World) (h : r02_Is.f a0_0 a0_1 = some r) :
 Calls Try.prog 22 #[.agg #[.string a0_0, .string a0_1]] w fun e w' => e = .returned (.bool r) ∧ Below w.heap.size w w' := by
 have hu24 := Try.underlying24
 have HB := Az.mk (Below.refl w.heap.size w)
 have H : (if (a0_0.size : Int) ≤ 33 then (if (a0_1.size : Int) ≤ 33 then (if a0_1.toList = ([] : List UInt8) then (some true) else (some (Op.bytesLess a0_0.toList a0_1.toList))) else (some false)) else (some false)) = some r := h
 clear h
 by_cases c2 : (a0_0.size : Int) ≤ 33
 ·rw [if_pos c2] at H
  have c2b0 : decide ((a0_0.size : Int) ≤ 33) = true := decide_eq_true c2
  have c2b1 : decide (a0_0.size ≤ 33) = true := decide_eq_true (by omega)
  clear c2
  by_cases c3 : (a0_1.size : Int) ≤ 33
  ·rw [if_pos c3] at H
   have c3b0 : decide ((a0_1.size : Int) ≤ 33) = true := decide_eq_true c3
   have c3b1 : decide (a0_1.size ≤ 33) = true := decide_eq_true (by omega)
   clear c3
   by_cases c4 : a0_1.toList = ([] : List UInt8)
   ·rw [if_pos c4] at H
    have c4b0 : (a0_1.toList == ([] : List UInt8)) = true := beq_iff_eq.mpr c4
    have c4b1 : (a0_1.toList != ([] : List UInt8)) = false := bne_eq_false_iff_eq.mpr c4
    clear c4
    obtain rfl := Option.some.inj H
    go_enter Try.func22, Try.ntmps22
    go_wp2_with (first | ((with_reducible refine gate_dst (N := 1) rfl ?_); (try (refine gate_guard (by rfl) ?_; dsimp only)); refine box_event ?hg (N := 1) ?hd (cs := #[.string a0_0, .string a0_1]) (t := 24) ?hr ?_; (case hd => rfl); (case hg => rfl); (case hr => first | (go_simp; done) | (go_simp; rfl)); intro gb121 hg w5 hbox hb; have BK121 := Az.mk (hbox); have GW121 := Az.mk (geO hg (pbE HB.out)); have GE121 := Az.mk (geO hg (pbE HB.out)); replace HB := Az.mk (pbT (by exact pbE HB.out) hb); clear hb hbox hg; have hcz6 := cells2 BK121.out))
    go_ret
    exact ⟨by first | rfl | (simp [errW_none, errW_some] <;> rfl) | (simp [*, errW_none, errW_some] <;> rfl), by exact pbE HB.out⟩
   ·rw [if_neg c4] at H
    have c4b0 : (a0_1.toList == ([] : List UInt8)) = false := beq_eq_false_iff_ne.mpr c4
    have c4b1 : (a0_1.toList != ([] : List UInt8)) = true := bne_iff_ne.mpr c4
    obtain rfl := Option.some.inj H
    go_enter Try.func22, Try.ntmps22
    go_wp2_with (first | ((with_reducible refine gate_dst (N := 1) rfl ?_); (try (refine gate_guard (by rfl) ?_; dsimp only)); refine box_event ?hg (N := 1) ?hd (cs := #[.string a0_0, .string a0_1]) (t := 24) ?hr ?_; (case hd => rfl); (case hg => rfl); (case hr => first | (go_simp; done) | (go_simp; rfl)); intro gb121 hg w7 hbox hb; have BK121 := Az.mk (hbox); have GW121 := Az.mk (geO hg (pbE HB.out)); have GE121 := Az.mk (geO hg (pbE HB.out)); replace HB := Az.mk (pbT (by exact pbE HB.out) hb); clear hb hbox hg; have hcz8 := cells2 BK121.out))
    go_ret
    exact ⟨by first | rfl | (simp [errW_none, errW_some] <;> rfl) | (simp [*, errW_none, errW_some] <;> rfl), by exact pbE HB.out⟩
  ·rw [if_neg c3] at H
   have c3b0 : decide ((a0_1.size : Int) ≤ 33) = false := decide_eq_false c3
   have c3b1 : decide (a0_1.size ≤ 33) = false := decide_eq_false (by omega)
   clear c3
   obtain rfl := Option.some.inj H
   go_enter Try.func22, Try.ntmps22
   go_wp2_with (first | ((with_reducible refine gate_dst (N := 1) rfl ?_); (try (refine gate_guard (by rfl) ?_; dsimp only)); refine box_event ?hg (N := 1) ?hd (cs := #[.string a0_0, .string a0_1]) (t := 24) ?hr ?_; (case hd => rfl); (case hg => rfl); (case hr => first | (go_simp; done) | (go_simp; rfl)); intro gb121 hg w9 hbox hb; have BK121 := Az.mk (hbox); have GW121 := Az.mk (geO hg (pbE HB.out)); have GE121 := Az.mk (geO hg (pbE HB.out)); replace HB := Az.mk (pbT (by exact pbE HB.out) hb); clear hb hbox hg; have hcz10 := cells2 BK121.out))
   go_ret
   exact ⟨by first | rfl | (simp [errW_none, errW_some] <;> rfl) | (simp [*, errW_none, errW_some] <;> rfl), by exact pbE HB.out⟩
 ·rw [if_neg c2] at H
  have c2b0 : decide ((a0_0.size : Int) ≤ 33) = false := decide_eq_false c2
  have c2b1 : decide (a0_0.size ≤ 33) = false := decide_eq_false (by omega)
  clear c2
  obtain rfl := Option.some.inj H
  go_enter Try.func22, Try.ntmps22
  go_wp2_with (first | ((with_reducible refine gate_dst (N := 1) rfl ?_); (try (refine gate_guard (by rfl) ?_; dsimp only)); refine box_event ?hg (N := 1) ?hd (cs := #[.string a0_0, .string a0_1]) (t := 24) ?hr ?_; (case hd => rfl); (case hg => rfl); (case hr => first | (go_simp; done) | (go_simp; rfl)); intro gb121 hg w11 hbox hb; have BK121 := Az.mk (hbox); have GW121 := Az.mk (geO hg (pbE HB.out)); have GE121 := Az.mk (geO hg (pbE HB.out)); replace HB := Az.mk (pbT (by exact pbE HB.out) hb); clear hb hbox hg; have hcz12 := cells2 BK121.out))
  go_ret
  exact ⟨by first | rfl | (simp [errW_none, errW_some] <;> rfl) | (simp [*, errW_none, errW_some] <;> rfl), by exact pbE HB.out⟩
def r02_Meet.f (a0_0 : ByteArray) (a0_1 : ByteArray) (a1_0 : ByteArray) (a1_1 : ByteArray) : Option (Bool) := (r02_Is.f a0_0 a0_1).bind fun t134 => (if t134 = true then ((r02_Is.f a1_0 a1_1).bind fun t135 => (if t135 = true then ((r02_Has.f a0_0 a0_1 a1_0).bind fun t136 => (if t136 = true then (some true) else ((r02_Has.f a1_0 a1_1 a0_0).bind fun t137 => (some t137)))) else (some false))) else (some false))
set_option maxHeartbeats 8000000 in
set_option maxRecDepth 100000 in
theorem r02_Meet.calls (a0_0 : ByteArray) (a0_1 : ByteArray) (a1_0 : ByteArray) (a1_1 : ByteArray) (r : Bool) (w : World) (h : r02_Meet.f a0_0 a0_1 a1_0 a1_1 = some r) :
 Calls Try.prog 20 #[.agg #[.string a0_0, .string a0_1], .agg #[.string a1_0, .string a1_1]] w fun e w' => e = .returned (.bool r) ∧ Below w.heap.size w w' := by
 have hu24 := Try.underlying24
 have HB := Az.mk (Below.refl w.heap.size w)
 have H : ((r02_Is.f a0_0 a0_1).bind fun t134 => (if t134 = true then ((r02_Is.f a1_0 a1_1).bind fun t135 => (if t135 = true then ((r02_Has.f a0_0 a0_1 a1_0).bind fun t136 => (if t136 = true then (some true) else ((r02_Has.f a1_0 a1_1 a0_0).bind fun t137 => (some t137)))) else (some false))) else (some false))) = some r := h
 clear h
 replace H := Option.bind_eq_some_iff.mp H
 obtain ⟨t134, A30, H⟩ := H
 try dsimp only at H
 have A3 := Az.mk A30
 clear A30
 by_cases c4 : t134 = true
 ·subst c4
  rw [if_pos rfl] at H
  replace H := Option.bind_eq_some_iff.mp H
  obtain ⟨t135, A50, H⟩ := H
  try dsimp only at H
  have A5 := Az.mk A50
  clear A50
  by_cases c6 : t135 = true
  ·subst c6
   rw [if_pos rfl] at H
   replace H := Option.bind_eq_some_iff.mp H
   obtain ⟨t136, A70, H⟩ := H
   try dsimp only at H
   have A7 := Az.mk A70
   clear A70
   by_cases c8 : t136 = true
   ·subst c8
    rw [if_pos rfl] at H
    obtain rfl := Option.some.inj H
    go_enter Try.func20, Try.ntmps20
    go_wp2_with (first | ((with_reducible refine gate_dst (N := 2) rfl ?_); refine box_event ?hg (N := 2) ?hd (cs := #[.string a0_0, .string a0_1]) (t := 24) ?hr ?_; (case hd => rfl); (case hg => rfl); (case hr => first | (go_simp; done) | (go_simp; rfl)); intro gb132 hg w9 hbox hb; have BK132 := Az.mk (hbox); have GW132 := Az.mk (geO hg (pbE HB.out)); have GE132 := Az.mk (geO hg (pbE HB.out)); replace HB := Az.mk (pbT (by exact pbE HB.out) hb); clear hb hbox hg) | ((with_reducible refine gate_dst (N := 3) rfl ?_); refine box_event ?hg (N := 3) ?hd (cs := #[.string a1_0, .string a1_1]) (t := 24) ?hr ?_; (case hd => rfl); (case hg => rfl); (case hr => first | (go_simp; done) | (go_simp; rfl)); intro gb133 hg w10 hbox hb; have BK133 := Az.mk (hbox); have GW133 := Az.mk (geO hg (pbE HB.out)); have GE133 := Az.mk (geO hg (pbE HB.out)); replace HB := Az.mk (pbT (by exact pbE HB.out) hb); have NB132_133 := Az.mk (neO hg (bk BK132.out)); have NB133_132 := Az.mk (neP hg (bk BK132.out)); replace BK132 := Az.mk (bkB (bk BK132.out) hb); clear hb hbox hg; have hnb11 := NB132_133.out; have hnc11 := NB133_132.out; have hcz12 := cells2 BK132.out) | ((with_reducible refine gtc (f := 22) rfl ?_); refine goesL_ (some 6) rfl rfl Try.func22 (by kernel_rfl) rfl #[.agg #[.string a0_0, .string a0_1]] rfl (by (try simp only [List.map_toArray, List.map_cons, List.map_nil]); first | done | rfl | (simp only [List.length_drop, List.length_take]; rfl)) ?_; (with_reducible refine (r02_Is.calls a0_0 a0_1 true _ A3.out).mono ?_); rintro e w13 ⟨rfl, hb⟩; refine ⟨_, rfl, ?_⟩; replace BK132 := Az.mk (bkB (bk BK132.out) hb); replace BK133 := Az.mk (bkB (bk BK133.out) hb); replace HB := Az.mk (pbT (by exact pbE HB.out) hb); (try clear hb); (try clear hb2); (try clear hk); (try clear hi); have hcz14 := cells2 BK133.out) | (go_at_call 22; (with_reducible refine (r02_Is.calls a1_0 a1_1 true _ A5.out).mono ?_); rintro e w15 ⟨rfl, hb⟩; replace BK132 := Az.mk (bkB (bk BK132.out) hb); replace BK133 := Az.mk (bkB (bk BK133.out) hb); replace HB := Az.mk (pbT (by exact pbE HB.out) hb); (try clear hb); (try clear hb2); (try clear hk); (try clear hi); have hcz16 := cells2 BK132.out; have hcz17 := cells2 BK133.out) | (go_at_call 18; (with_reducible refine (r02_Has.calls a0_0 a0_1 a1_0 true _ A7.out).mono ?_); rintro e w18 ⟨rfl, hb⟩; replace BK132 := Az.mk (bkB (bk BK132.out) hb); replace BK133 := Az.mk (bkB (bk BK133.out) hb); replace HB := Az.mk (pbT (by exact pbE HB.out) hb); (try clear hb); (try clear hb2); (try clear hk); (try clear hi)))
    go_ret
    exact ⟨by first | rfl | (simp [errW_none, errW_some] <;> rfl) | (simp [*, errW_none, errW_some] <;> rfl), by exact pbE HB.out⟩
   ·replace c8 := Bool.eq_false_iff.mpr c8
    subst c8
    rw [if_neg (show ¬ (false = true) by decide)] at H
    replace H := Option.bind_eq_some_iff.mp H
    obtain ⟨t137, A190, H⟩ := H
    replace H : (some t137) = some r := H
    have A19 := Az.mk A190
    clear A190
    obtain rfl := Option.some.inj H
    go_enter Try.func20, Try.ntmps20
    go_wp2_with (first | ((with_reducible refine gate_dst (N := 2) rfl ?_); refine box_event ?hg (N := 2) ?hd (cs := #[.string a0_0, .string a0_1]) (t := 24) ?hr ?_; (case hd => rfl); (case hg => rfl); (case hr => first | (go_simp; done) | (go_simp; rfl)); intro gb132 hg w20 hbox hb; have BK132 := Az.mk (hbox); have GW132 := Az.mk (geO hg (pbE HB.out)); have GE132 := Az.mk (geO hg (pbE HB.out)); replace HB := Az.mk (pbT (by exact pbE HB.out) hb); clear hb hbox hg) | ((with_reducible refine gate_dst (N := 3) rfl ?_); refine box_event ?hg (N := 3) ?hd (cs := #[.string a1_0, .string a1_1]) (t := 24) ?hr ?_; (case hd => rfl); (case hg => rfl); (case hr => first | (go_simp; done) | (go_simp; rfl)); intro gb133 hg w21 hbox hb; have BK133 := Az.mk (hbox); have GW133 := Az.mk (geO hg (pbE HB.out)); have GE133 := Az.mk (geO hg (pbE HB.out)); replace HB := Az.mk (pbT (by exact pbE HB.out) hb); have NB132_133 := Az.mk (neO hg (bk BK132.out)); have NB133_132 := Az.mk (neP hg (bk BK132.out)); replace BK132 := Az.mk (bkB (bk BK132.out) hb); clear hb hbox hg; have hnb22 := NB132_133.out; have hnc22 := NB133_132.out; have hcz23 := cells2 BK132.out) | ((with_reducible refine gtc (f := 22) rfl ?_); refine goesL_ (some 6) rfl rfl Try.func22 (by kernel_rfl) rfl #[.agg #[.string a0_0, .string a0_1]] rfl (by (try simp only [List.map_toArray, List.map_cons, List.map_nil]); first | done | rfl | (simp only [List.length_drop, List.length_take]; rfl)) ?_; (with_reducible refine (r02_Is.calls a0_0 a0_1 true _ A3.out).mono ?_); rintro e w24 ⟨rfl, hb⟩; refine ⟨_, rfl, ?_⟩; replace BK132 := Az.mk (bkB (bk BK132.out) hb); replace BK133 := Az.mk (bkB (bk BK133.out) hb); replace HB := Az.mk (pbT (by exact pbE HB.out) hb); (try clear hb); (try clear hb2); (try clear hk); (try clear hi); have hcz25 := cells2 BK133.out) | (go_at_call 22; (with_reducible refine (r02_Is.calls a1_0 a1_1 true _ A5.out).mono ?_); rintro e w26 ⟨rfl, hb⟩; replace BK132 := Az.mk (bkB (bk BK132.out) hb); replace BK133 := Az.mk (bkB (bk BK133.out) hb); replace HB := Az.mk (pbT (by exact pbE HB.out) hb); (try clear hb); (try clear hb2); (try clear hk); (try clear hi); have hcz27 := cells2 BK132.out; have hcz28 := cells2 BK133.out) | (go_at_call 18; (with_reducible refine (r02_Has.calls a0_0 a0_1 a1_0 false _ A7.out).mono ?_); rintro e w29 ⟨rfl, hb⟩; replace BK132 := Az.mk (bkB (bk BK132.out) hb); replace BK133 := Az.mk (bkB (bk BK133.out) hb); replace HB := Az.mk (pbT (by exact pbE HB.out) hb); (try clear hb); (try clear hb2); (try clear hk); (try clear hi); have hcz30 := cells2 BK133.out; have hcz31 := cells2 BK132.out) | (go_at_call 18; (with_reducible refine (r02_Has.calls a1_0 a1_1 a0_0 t137 _ A19.out).mono ?_); rintro e w32 ⟨rfl, hb⟩; replace BK132 := Az.mk (bkB (bk BK132.out) hb); replace BK133 := Az.mk (bkB (bk BK133.out) hb); replace HB := Az.mk (pbT (by exact pbE HB.out) hb); (try clear hb); (try clear hb2); (try clear hk); (try clear hi)))
    go_ret
    exact ⟨by first | rfl | (simp [errW_none, errW_some] <;> rfl) | (simp [*, errW_none, errW_some] <;> rfl), by exact pbE HB.out⟩
  ·replace c6 := Bool.eq_false_iff.mpr c6
   subst c6
   rw [if_neg (show ¬ (false = true) by decide)] at H
   obtain rfl := Option.some.inj H
   go_enter Try.func20, Try.ntmps20
   go_wp2_with (first | ((with_reducible refine gate_dst (N := 2) rfl ?_); refine box_event ?hg (N := 2) ?hd (cs := #[.string a0_0, .string a0_1]) (t := 24) ?hr ?_; (case hd => rfl); (case hg => rfl); (case hr => first | (go_simp; done) | (go_simp; rfl)); intro gb132 hg w33 hbox hb; have BK132 := Az.mk (hbox); have GW132 := Az.mk (geO hg (pbE HB.out)); have GE132 := Az.mk (geO hg (pbE HB.out)); replace HB := Az.mk (pbT (by exact pbE HB.out) hb); clear hb hbox hg) | ((with_reducible refine gate_dst (N := 3) rfl ?_); refine box_event ?hg (N := 3) ?hd (cs := #[.string a1_0, .string a1_1]) (t := 24) ?hr ?_; (case hd => rfl); (case hg => rfl); (case hr => first | (go_simp; done) | (go_simp; rfl)); intro gb133 hg w34 hbox hb; have BK133 := Az.mk (hbox); have GW133 := Az.mk (geO hg (pbE HB.out)); have GE133 := Az.mk (geO hg (pbE HB.out)); replace HB := Az.mk (pbT (by exact pbE HB.out) hb); have NB132_133 := Az.mk (neO hg (bk BK132.out)); have NB133_132 := Az.mk (neP hg (bk BK132.out)); replace BK132 := Az.mk (bkB (bk BK132.out) hb); clear hb hbox hg; have hnb35 := NB132_133.out; have hnc35 := NB133_132.out; have hcz36 := cells2 BK132.out) | ((with_reducible refine gtc (f := 22) rfl ?_); refine goesL_ (some 6) rfl rfl Try.func22 (by kernel_rfl) rfl #[.agg #[.string a0_0, .string a0_1]] rfl (by (try simp only [List.map_toArray, List.map_cons, List.map_nil]); first | done | rfl | (simp only [List.length_drop, List.length_take]; rfl)) ?_; (with_reducible refine (r02_Is.calls a0_0 a0_1 true _ A3.out).mono ?_); rintro e w37 ⟨rfl, hb⟩; refine ⟨_, rfl, ?_⟩; replace BK132 := Az.mk (bkB (bk BK132.out) hb); replace BK133 := Az.mk (bkB (bk BK133.out) hb); replace HB := Az.mk (pbT (by exact pbE HB.out) hb); (try clear hb); (try clear hb2); (try clear hk); (try clear hi); have hcz38 := cells2 BK133.out) | (go_at_call 22; (with_reducible refine (r02_Is.calls a1_0 a1_1 false _ A5.out).mono ?_); rintro e w39 ⟨rfl, hb⟩; replace BK132 := Az.mk (bkB (bk BK132.out) hb); replace BK133 := Az.mk (bkB (bk BK133.out) hb); replace HB := Az.mk (pbT (by exact pbE HB.out) hb); (try clear hb); (try clear hb2); (try clear hk); (try clear hi)))
   go_ret
   exact ⟨by first | rfl | (simp [errW_none, errW_some] <;> rfl) | (simp [*, errW_none, errW_some] <;> rfl), by exact pbE HB.out⟩
 ·replace c4 := Bool.eq_false_iff.mpr c4
  subst c4
  rw [if_neg (show ¬ (false = true) by decide)] at H
  obtain rfl := Option.some.inj H
  go_enter Try.func20, Try.ntmps20
  go_wp2_with (first | ((with_reducible refine gate_dst (N := 2) rfl ?_); refine box_event ?hg (N := 2) ?hd (cs := #[.string a0_0, .string a0_1]) (t := 24) ?hr ?_; (case hd => rfl); (case hg => rfl); (case hr => first | (go_simp; done) | (go_simp; rfl)); intro gb132 hg w40 hbox hb; have BK132 := Az.mk (hbox); have GW132 := Az.mk (geO hg (pbE HB.out)); have GE132 := Az.mk (geO hg (pbE HB.out)); replace HB := Az.mk (pbT (by exact pbE HB.out) hb); clear hb hbox hg) | ((with_reducible refine gate_dst (N := 3) rfl ?_); refine box_event ?hg (N := 3) ?hd (cs := #[.string a1_0, .string a1_1]) (t := 24) ?hr ?_; (case hd => rfl); (case hg => rfl); (case hr => first | (go_simp; done) | (go_simp; rfl)); intro gb133 hg w41 hbox hb; have BK133 := Az.mk (hbox); have GW133 := Az.mk (geO hg (pbE HB.out)); have GE133 := Az.mk (geO hg (pbE HB.out)); replace HB := Az.mk (pbT (by exact pbE HB.out) hb); have NB132_133 := Az.mk (neO hg (bk BK132.out)); have NB133_132 := Az.mk (neP hg (bk BK132.out)); replace BK132 := Az.mk (bkB (bk BK132.out) hb); clear hb hbox hg; have hnb42 := NB132_133.out; have hnc42 := NB133_132.out; have hcz43 := cells2 BK132.out) | ((with_reducible refine gtc (f := 22) rfl ?_); refine goesL_ (some 6) rfl rfl Try.func22 (by kernel_rfl) rfl #[.agg #[.string a0_0, .string a0_1]] rfl (by (try simp only [List.map_toArray, List.map_cons, List.map_nil]); first | done | rfl | (simp only [List.length_drop, List.length_take]; rfl)) ?_; (with_reducible refine (r02_Is.calls a0_0 a0_1 false _ A3.out).mono ?_); rintro e w44 ⟨rfl, hb⟩; refine ⟨_, rfl, ?_⟩; replace BK132 := Az.mk (bkB (bk BK132.out) hb); replace BK133 := Az.mk (bkB (bk BK133.out) hb); replace HB := Az.mk (pbT (by exact pbE HB.out) hb); (try clear hb); (try clear hb2); (try clear hk); (try clear hi)))
  go_ret
  exact ⟨by first | rfl | (simp [errW_none, errW_some] <;> rfl) | (simp [*, errW_none, errW_some] <;> rfl), by exact pbE HB.out⟩
end Go.Proofs.Ytppdcldbebnmlaa.P
end
section
namespace Go.Proofs.Ytppdcldbebnmlaa.P
open Go.RowKit Go.Shelf Go.Proofs.Ytppdcldbebnmlaa.K Go.Proofs.YtppdcldbebnmlaaW.PrintWords Go.Proofs.YtppdcldbebnmlaaW.PrintLast Go.Proofs.YtppdcldbebnmlaaW.PrintMore
abbrev SD := S27
abbrev SM := S47
instance : DecidableEq SM := fun x y => decidable_of_iff (x.f0 = y.f0 ∧ x.f1 = y.f1) (by cases x; cases y; simp)
/-- What a raw descriptor says, its members read by σ. -/
def toS (σ : RawD → List SM) (x : RawD) : SD := ⟨x.f0, ⟨x.f1, x.f2⟩, x.f3, σ x, x.f5⟩
/-- Its members read so. -/
def Mem (σ : RawD → List SM) (w : World) (x : RawD) : Prop := Kd.C k47 w x.a4 x.n4 (σ x) ∧ x.n4 ≤ x.c4
theorem Mem.below {σ : RawD → List SM} {w w1 : World} {x : RawD} (h : Mem σ w x) (hb : Below w.heap.size w w1) : Mem σ w1 x := ⟨Kd.C_below h.1 hb, h.2⟩
theorem flatM : Flat k47 := by
 intro w w' x c h
 obtain rfl := k47_open h
 exact k47_mk w' x
theorem flatKD : Flat kD := fun _ _ _ _ h => h
theorem toC {σ : RawD → List SM} {w : World} {A : Option Addr} {l : List RawD} (h : Kd.C kD w A l.length l) (hm : ∀ x ∈ l, Mem σ w x) : Kd.C k27 w A (l.map (toS σ)).length (l.map (toS σ)) := by
 obtain ⟨h1, h2, h3⟩ := h
 refine ⟨rfl, by rw [List.length_map]; exact h2, fun hn => ?_⟩
 rw [List.length_map] at hn
 obtain ⟨ad, e, hc⟩ := h3 hn
 refine ⟨ad, e, fun j p hp => ?_⟩
 rw [List.getElem?_map] at hp
 obtain ⟨x, hx, rfl⟩ := Option.map_eq_some_iff.1 hp
 obtain ⟨c, hl, hK, hcell⟩ := hc j x hx
 have hK : c = encD x := hK
 obtain ⟨hm1, hm2⟩ := hm x (List.mem_of_getElem? hx)
 have hn4 : (σ x).length = x.n4 := Kd.C_len hm1
 refine ⟨c, hl, ?_, hcell⟩
 rw [hK]
 have := k27_mk w (toS σ x) (A4 := x.a4) (c4 := x.c4) (by show (σ x).length ≤ _; omega) (by show Kd.C _ _ _ (σ x).length (σ x); rw [hn4]; exact hm1)
 unfold encD
 rw [← hn4]
 exact this
theorem toV {σ : RawD → List SM} {w : World} {A : Option Addr} {l : List RawD} {c e base : Nat} (h : Kd.C kD w A l.length l) (hc : l.length ≤ c) (hm : ∀ x ∈ l, Mem σ w x) : Kd.V k27 e w base (fun _ => True) (.slice A (l.map (toS σ)).length c) (l.map (toS σ)) := by
 refine ⟨A, c, rfl, by rw [List.length_map]; exact hc, fun W' hW => ?_⟩
 exact toC (F_of_C flatKD h W' hW) (fun x hx => ⟨F_of_C flatM (hm x hx).1 W' hW, (hm x hx).2⟩)
/-- Whatever is read as descriptors lies raw. -/
theorem fromC {w : World} {A : Option Addr} {l : List SD} (h : Kd.C k27 w A l.length l) : ∃ rs : List RawD, rs.length = l.length ∧ Kd.C kD w A rs.length rs ∧ ∀ x ∈ rs, (∃ ms, Kd.C k47 w x.a4 x.n4 ms ∧ x.n4 ≤ x.c4) ∧ ∃ y ∈ l, x.f1 = y.f1.f0 ∧ x.f2 = y.f1.f1 ∧ x.n4 = y.f3.length := by
 obtain ⟨h1, h2, h3⟩ := h
 rcases l with _ | ⟨y, l'⟩
 ·exact ⟨[], rfl, ⟨rfl, by simp, fun h => absurd h (Nat.lt_irrefl 0)⟩, fun x hx => by simp at hx⟩
 ·obtain ⟨ad, e, hc⟩ := h3 (by simp)
  have hx : ∀ j : Fin (y :: l').length, ∃ x : RawD, (∀ i u, (encD x)[i]? = some u → w.cell? (ad.add (j.1 * 6 + i)) = some u) ∧ (∃ ms, Kd.C k47 w x.a4 x.n4 ms ∧ x.n4 ≤ x.c4) ∧ ∃ q ∈ (y :: l'), x.f1 = q.f1.f0 ∧ x.f2 = q.f1.f1 ∧ x.n4 = q.f3.length := by
   intro j
   obtain ⟨c, hl, hK, hcell⟩ := hc j.1 _ (List.getElem?_eq_getElem j.2)
   obtain ⟨A4, c4, rfl, l4, g4⟩ := k27_open hK
   exact ⟨⟨_, _, _, _, A4, _, c4, _⟩, hcell, ⟨_, g4, l4⟩, _, List.getElem_mem j.2, rfl, rfl, rfl⟩
  refine ⟨List.ofFn (fun j => Classical.choose (hx j)), by rw [List.length_ofFn], ⟨rfl, by rw [List.length_ofFn]; exact h2, fun _ => ⟨ad, e, fun j p hp => ?_⟩⟩, fun x hx2 => ?_⟩
  ·rw [List.getElem?_ofFn] at hp
   split at hp
   ·rename_i hj
    obtain rfl := Option.some.inj hp
    exact ⟨_, rfl, rfl, (Classical.choose_spec (hx ⟨j, hj⟩)).1⟩
   ·cases hp
  ·obtain ⟨j, rfl⟩ := List.mem_ofFn.1 hx2
   exact (Classical.choose_spec (hx j)).2
open Classical in
/-- The members that a raw descriptor has in a world. -/
noncomputable def memOf (w : World) (x : RawD) : List SM := if h : ∃ ms, Kd.C k47 w x.a4 x.n4 ms then Classical.choose h else []
theorem mem_of {w : World} {x : RawD} (h : ∃ ms, Kd.C k47 w x.a4 x.n4 ms ∧ x.n4 ≤ x.c4) : Mem (memOf w) w x := by
 obtain ⟨ms, h1, h2⟩ := h
 have hex : ∃ ms, Kd.C k47 w x.a4 x.n4 ms := ⟨ms, h1⟩
 refine ⟨?_, h2⟩
 unfold memOf
 rw [dif_pos hex]
 exact Classical.choose_spec hex
abbrev lt (a b : ByteArray) : Bool := Op.bytesLess a.toList b.toList
def endsB (t k : ByteArray) : Bool := t.toList == ([] : List UInt8) || lt k t
def hasB (f t k : ByteArray) : Bool := !lt k f && endsB t k
def meetB (a b c d : ByteArray) : Bool := boundOk a b && (boundOk c d && (endsB b c && endsB d a))
theorem ends_eq (f t k : ByteArray) : bound_ends.f f t k = some (endsB t k) := by
 unfold bound_ends.f endsB
 by_cases h : t.toList = []
 ·rw [if_pos h, h]; rfl
 ·rw [if_neg h, show (t.toList == ([] : List UInt8)) = false from beq_eq_false_iff_ne.mpr h, Bool.false_or]
theorem has_eq (f t k : ByteArray) : bound_Has.f f t k = some (hasB f t k) := by
 unfold bound_Has.f hasB
 rw [ends_eq]
 cases h : Op.bytesLess k.toList f.toList <;> simp [lt, h]
theorem meet_eq (a b c d : ByteArray) : bound_Meet.f a b c d = some (meetB a b c d) := by
 unfold bound_Meet.f bound_both.f bound_Check.f meetB
 simp only [Option.bind_some, ends_eq]
 cases boundOk a b <;> cases boundOk c d <;> cases endsB b c <;> cases endsB d a <;> rfl
theorem refIs_eq (f t : ByteArray) : r02_Is.f f t = some (boundOk f t) := by
 unfold r02_Is.f boundOk
 by_cases h1 : f.size ≤ 33
 ·by_cases h2 : t.size ≤ 33
  ·rw [if_pos (by omega), if_pos (by omega), if_pos (And.intro h1 h2)]
   by_cases h : t.toList = []
   ·rw [if_pos h, h]; rfl
   ·rw [if_neg h, show (t.toList == ([] : List UInt8)) = false from beq_eq_false_iff_ne.mpr h, Bool.false_or]
  ·rw [if_pos (by omega), if_neg (by omega), if_neg (fun h => h2 h.2)]
 ·rw [if_neg (by omega), if_neg (fun h => h1 h.1)]
theorem refHas_eq (f t k : ByteArray) : r02_Has.f f t k = some (hasB f t k) := by
 unfold r02_Has.f hasB endsB
 cases h : Op.bytesLess k.toList f.toList
 ·rw [if_neg (by simp)]
  by_cases h2 : t.toList = []
  ·rw [if_pos h2, h2]; simp [lt, h]
  ·rw [if_neg h2, show (t.toList == ([] : List UInt8)) = false from beq_eq_false_iff_ne.mpr h2]; simp [lt, h]
 ·rw [if_pos rfl]; simp [lt, h]
def meetR (a b c d : ByteArray) : Bool := boundOk a b && (boundOk c d && (hasB a b c || hasB c d a))
theorem refMeet_eq (a b c d : ByteArray) : r02_Meet.f a b c d = some (meetR a b c d) := by
 unfold r02_Meet.f meetR
 simp only [Option.bind_some, refHas_eq, refIs_eq]
 cases boundOk a b <;> cases boundOk c d <;> cases hasB a b c <;> cases hasB c d a <;> rfl
def sameM (a b : List SM) : Bool := a.map (fun m => (m.f0, m.f1)) == b.map (fun m => (m.f0, m.f1))
theorem sameM_iff {a b : List SM} : sameM a b = true ↔ a = b := by
 unfold sameM
 rw [beq_iff_eq]
 constructor
 ·intro h
  have := List.map_inj_right (f := fun m : SM => (m.f0, m.f1)) (l := a) (l' := b) (fun x y e => by cases x; cases y; simp only [Prod.mk.injEq] at e; obtain ⟨rfl, rfl⟩ := e; rfl)
  exact this.1 h
 ·rintro rfl; rfl
theorem rd_M {l : List SM} {i : Nat} (h : i < l.length) : rd_T47 l (i : Int) = l[i] := by simp [rd_T47, h]
theorem rd_D {l : List SD} {i : Nat} (h : i < l.length) : rd_T27 l (i : Int) = l[i] := by simp [rd_T27, h]
theorem eq_of_get {a b : List SM} (hl : a.length = b.length) {i : Nat} (hi : i ≤ a.length) (h : ∀ j, i ≤ j → (hj : j < a.length) → a[j] = b[j]'(by omega)) : a.drop i = b.drop i := by
 apply List.ext_getElem
 ·simp [hl]
 ·intro n h1 h2
  rw [List.getElem_drop, List.getElem_drop]
  exact h _ (by omega) (by rw [List.length_drop] at h1; omega)
theorem sm_ne {x y : SM} : (!(x.f0 == y.f0) || !(x.f1 == y.f1)) = true ↔ x ≠ y := by
 cases x; cases y
 simp only [Bool.or_eq_true, Bool.not_eq_true', beq_eq_false_iff_ne, ne_eq, S47.mk.injEq]
 omega
theorem apiM_any (a b : List SM) (hl : a.length = b.length) (hm : a.length ≤ 1000000000) (d : Nat) : ∀ i k, a.length - i = d → i ≤ a.length → d < k → api_Member.l0 k a b (a.length : Int) (i : Int) = some (decide (a.drop i = b.drop i)) := by
 induction d with
 | zero =>
  intro i k h1 h2 h3
  obtain ⟨k, rfl⟩ : ∃ m, k = m + 1 := ⟨k - 1, by omega⟩
  rw [api_Member.l0, if_neg (by omega), List.drop_of_length_le (by omega), List.drop_of_length_le (by omega)]; rfl
 | succ d ih =>
  intro i k h1 h2 h3
  obtain ⟨k, rfl⟩ : ∃ m, k = m + 1 := ⟨k - 1, by omega⟩
  have hw : wrap64 ((i : Int) + 1) = ((i + 1 : Nat) : Int) := by unfold wrap64; omega
  have ea : a.drop i = a[i]'(by omega) :: a.drop (i + 1) := List.drop_eq_getElem_cons (by omega)
  have eb : b.drop i = b[i]'(by omega) :: b.drop (i + 1) := List.drop_eq_getElem_cons (by omega)
  rw [api_Member.l0, if_pos (by omega), if_pos (by omega), if_pos (by omega), if_pos (by omega), rd_M (by omega : i < a.length), rd_M (by omega : i < b.length)]
  by_cases he : a[i]'(by omega) = b[i]'(by omega)
  ·rw [if_neg (fun h => sm_ne.1 h he), hw, ih (i + 1) k (by omega) (by omega) (by omega), ea, eb, he]
   exact congrArg some (decide_eq_decide.2 ⟨fun h => by rw [h], fun h => (List.cons.inj h).2⟩)
  ·rw [if_pos (sm_ne.2 he), decide_eq_false]
   rw [ea, eb]; exact fun h => he (List.cons.inj h).1
theorem refM_any (a b : List SM) (hl : a.length = b.length) (hm : a.length ≤ 1000000000) (d : Nat) : ∀ i k, a.length - i = d → i ≤ a.length → d < k → r06_Members.l0 k a b (i : Int) = some (decide (a.drop i = b.drop i)) := by
 induction d with
 | zero =>
  intro i k h1 h2 h3
  obtain ⟨k, rfl⟩ : ∃ m, k = m + 1 := ⟨k - 1, by omega⟩
  rw [r06_Members.l0, if_neg (by omega), List.drop_of_length_le (by omega), List.drop_of_length_le (by omega)]; rfl
 | succ d ih =>
  intro i k h1 h2 h3
  obtain ⟨k, rfl⟩ : ∃ m, k = m + 1 := ⟨k - 1, by omega⟩
  have hw : wrap64 ((i : Int) + 1) = ((i + 1 : Nat) : Int) := by unfold wrap64; omega
  have ea : a.drop i = a[i]'(by omega) :: a.drop (i + 1) := List.drop_eq_getElem_cons (by omega)
  have eb : b.drop i = b[i]'(by omega) :: b.drop (i + 1) := List.drop_eq_getElem_cons (by omega)
  rw [r06_Members.l0, if_pos (by omega), if_pos (by omega), if_pos (by omega), rd_M (by omega : i < a.length), rd_M (by omega : i < b.length)]
  by_cases he : a[i]'(by omega) = b[i]'(by omega)
  ·rw [if_neg (fun h => sm_ne.1 h he), hw, ih (i + 1) k (by omega) (by omega) (by omega), ea, eb, he]
   exact congrArg some (decide_eq_decide.2 ⟨fun h => by rw [h], fun h => (List.cons.inj h).2⟩)
  ·rw [if_pos (sm_ne.2 he), decide_eq_false]
   rw [ea, eb]; exact fun h => he (List.cons.inj h).1
theorem sameM_dec (a b : List SM) : sameM a b = decide (a = b) := by
 rw [Bool.eq_iff_iff, sameM_iff, decide_eq_true_iff]
theorem apiM_eq {a b : List SM} (hm : a.length ≤ 1000000000) {k : Nat} (hk : a.length < k) : api_Member.f k a b = some (sameM a b) := by
 unfold api_Member.f
 rw [sameM_dec]
 by_cases hl : a.length = b.length
 ·rw [if_pos (by omega)]
  exact apiM_any a b hl hm a.length 0 k rfl (Nat.zero_le _) hk
 ·rw [if_neg (by omega), decide_eq_false (fun h => hl (by rw [h]))]
theorem refM_eq {a b : List SM} (hm : a.length ≤ 1000000000) {k : Nat} (hk : a.length < k) : r06_Members.f k a b = some (sameM a b) := by
 unfold r06_Members.f
 rw [sameM_dec]
 by_cases hl : a.length = b.length
 ·rw [if_pos (by omega)]
  exact refM_any a b hl hm a.length 0 k rfl (Nat.zero_le _) hk
 ·rw [if_neg (by omega), decide_eq_false (fun h => hl (by rw [h]))]
def sameS (x y : SD) : Bool := x.f0 == y.f0 && ((x.f1.f0.toList == y.f1.f0.toList && x.f1.f1.toList == y.f1.f1.toList) && (x.f2 == y.f2 && (x.f4 == y.f4 && sameM x.f3 y.f3)))
theorem same_eq {x y : SD} (hm : x.f3.length ≤ 1000000000) {k : Nat} (hk : x.f3.length < k) : desc_Same.f k x.f0 x.f1.f0 x.f1.f1 x.f2 x.f3 x.f4 y.f0 y.f1.f0 y.f1.f1 y.f2 y.f3 y.f4 = some (sameS x y) := by
 unfold desc_Same.f sameS
 rw [apiM_eq hm hk]
 by_cases h1 : x.f0 = y.f0
 ·rw [if_pos h1, beq_iff_eq.2 h1, Bool.true_and]
  cases h2 : (x.f1.f0.toList == y.f1.f0.toList && x.f1.f1.toList == y.f1.f1.toList)
  ·rw [if_neg (by simp)]; rfl
  ·rw [if_pos rfl, Bool.true_and]
   by_cases h3 : x.f2 = y.f2
   ·rw [if_pos h3, beq_iff_eq.2 h3, Bool.true_and]
    by_cases h4 : x.f4 = y.f4
    ·rw [if_pos h4, beq_iff_eq.2 h4, Bool.true_and]; rfl
    ·rw [if_neg h4, beq_eq_false_iff_ne.2 h4]; rfl
   ·rw [if_neg h3, beq_eq_false_iff_ne.2 h3]; rfl
 ·rw [if_neg h1, beq_eq_false_iff_ne.2 h1]; rfl
theorem refSame_eq {x y : SD} (hm : x.f3.length ≤ 1000000000) {k : Nat} (hk : x.f3.length < k) : r06_Same.f k x.f0 x.f1.f0 x.f1.f1 x.f2 x.f3 x.f4 y.f0 y.f1.f0 y.f1.f1 y.f2 y.f3 y.f4 = some (sameS x y) := by
 unfold r06_Same.f sameS
 rw [refM_eq hm hk]
 by_cases h1 : x.f0 = y.f0
 ·rw [if_pos h1, beq_iff_eq.2 h1, Bool.true_and]
  cases h2 : (x.f1.f0.toList == y.f1.f0.toList && x.f1.f1.toList == y.f1.f1.toList)
  ·rw [if_neg (by simp)]; rfl
  ·rw [if_pos rfl, Bool.true_and]
   by_cases h3 : x.f2 = y.f2
   ·rw [if_pos h3, beq_iff_eq.2 h3, Bool.true_and]
    by_cases h4 : x.f4 = y.f4
    ·rw [if_pos h4, beq_iff_eq.2 h4, Bool.true_and]; rfl
    ·rw [if_neg h4, beq_eq_false_iff_ne.2 h4]; rfl
   ·rw [if_neg h3, beq_eq_false_iff_ne.2 h3]; rfl
 ·rw [if_neg h1, beq_eq_false_iff_ne.2 h1]; rfl
theorem toList_inj {a b : ByteArray} (h : a.toList = b.toList) : a = b := by
 rw [ByteArray.toList_eq, ByteArray.toList_eq] at h
 exact ByteArray.ext (Array.toList_inj.1 h)
theorem sameS_iff {x y : SD} : sameS x y = true ↔ x = y := by
 obtain ⟨a, ⟨b, c⟩, d, e, f⟩ := x
 obtain ⟨a', ⟨b', c'⟩, d', e', f'⟩ := y
 unfold sameS
 simp only [Bool.and_eq_true, beq_iff_eq, sameM_iff, S27.mk.injEq, S24.mk.injEq]
 constructor
 ·rintro ⟨h1, ⟨h2, h3⟩, h4, h5, h6⟩
  exact ⟨h1, ⟨toList_inj h2, toList_inj h3⟩, h4, h6, h5⟩
 ·rintro ⟨rfl, ⟨rfl, rfl⟩, rfl, rfl, rfl⟩
  exact ⟨rfl, ⟨rfl, rfl⟩, rfl, rfl, rfl⟩
end Go.Proofs.Ytppdcldbebnmlaa.P
end
section
namespace Go.Proofs.Ytppdcldbebnmlaa.P
open Go.RowKit Go.Proofs.Ytppdcldbebnmlaa.K Go.Proofs.YtppdcldbebnmlaaW.PrintWords Go.Proofs.YtppdcldbebnmlaaW.PrintLast Go.Proofs.YtppdcldbebnmlaaW.PrintMore
attribute [local go_sem] max2_int min2_int max_two min_two max_three min_three max_four min_four   -- for this text's walks alone
def l18_small.l0 : Nat → List (S27) → Int → Int → Option (Bool)
 | 0, _, _, _ => none
 | k + 1, x0, x3, x4 => if x4 < (x0.length : Int) then (if x4 ≤ 30 then (if x3 ≤ 2000 then (if 0 ≤ x4 then (l18_small.l0 k x0 (wrap64 ((wrap64 ((wrap64 (x3 + (((rd_T27 x0 x4).f1.f0).size : Int))) + (((rd_T27 x0 x4).f1.f1).size : Int))) + (((rd_T27 x0 x4).f3).length : Int))) (wrap64 (x4 + 1))) else (none)) else (if (x0.length : Int) ≤ 30 then (some (decide (x3 ≤ 2000))) else (some false))) else (if (x0.length : Int) ≤ 30 then (some (decide (x3 ≤ 2000))) else (some false))) else (if (x0.length : Int) ≤ 30 then (some (decide (x3 ≤ 2000))) else (some false))
def l18_small.f (k : Nat) (l0 : List (S27)) : Option (Bool) := l18_small.l0 k l0 0 0
theorem l18_small.mono_l : ∀ k, (∀ y0 y1 y2, LeO (l18_small.l0 k y0 y1 y2) (l18_small.l0 (k + 1) y0 y1 y2))
 | 0 => fun _ _ _ r h => by simp [l18_small.l0] at h
 | k + 1 => by
  have ih0 := l18_small.mono_l k
  ·intro y0 y1 y2
   unfold l18_small.l0
   repeat' first
   | (with_reducible exact ih0 _ _ _)
   | (with_reducible exact LeO.refl _)
   | (with_reducible exact LeO.none _)
   | (with_reducible refine LeO.ite ?_ ?_)
   | (with_reducible refine LeO.bind ?_ (fun _ => ?_))
   | exact ih0 _ _ _
   | exact LeO.none _
   | refine LeO.ite ?_ ?_
   | refine LeO.bind ?_ (fun _ => ?_)
theorem l18_small.mono : ∀ a0 k, LeO (l18_small.f k a0) (l18_small.f (k + 1) a0) := by
 intro a0 k
 have ih0 := l18_small.mono_l k
 unfold l18_small.f
 repeat' first
  | (with_reducible exact ih0 _ _ _)
  | (with_reducible exact LeO.refl _)
  | (with_reducible exact LeO.none _)
  | (with_reducible refine LeO.ite ?_ ?_)
  | (with_reducible refine LeO.bind ?_ (fun _ => ?_))
  | exact ih0 _ _ _
  | exact LeO.none _
  | refine LeO.ite ?_ ?_
  | refine LeO.bind ?_ (fun _ => ?_)
set_option maxHeartbeats 8000000 in
set_option maxRecDepth 100000 in
theorem l18_small.calls (k : Nat) (A0 : Option Addr) (c0 : Nat) (l0 : List (S27)) (r : Bool) (w : World) (hr0 : Kd.C k27 w A0 l0.length l0) (hc0 : l0.length ≤ c0) (h : l18_small.f k l0 = some r) :
 Calls Try.prog 6 #[.slice A0 l0.length c0] w fun e w' => e = .returned (.bool r) ∧ Drawn0 w w' := by
 have HR0 := Az.mk hr0
 have HC0 := Az.mk hc0
 clear hr0 hc0
 have H : (l18_small.l0 k l0 0 0) = some r := h
 clear h
 have H' := Az.mk H
 clear H
 go_enter Try.func6, Try.ntmps6
 go_wp2
 repeat (go_quiet (fail); try go_wp2)
 go_loopg [3, 4] k (fun kq v3 v4 w' => ∃ (x3_1 : Int) (x4_1 : Int), v3 = .int .i64 x3_1 ∧ v4 = .int .i64 x4_1 ∧ Az (l18_small.l0 kq l0 x3_1 x4_1 = some r) ∧ Az (kq ≤ k) ∧ Drawn0 w w')
 case atStart => exact ⟨(0), (0), (by first | rfl | (simp; done) | (simp [*]; done)), (by first | rfl | (simp; done) | (simp [*]; done)), H', ⟨Nat.le_refl _⟩, by repeat (first | exact Drawn0.refl _ | apply Drawn0.step)⟩
 case round =>
  clear H'
  obtain ⟨x3_1, x4_1, rfl, rfl, HA, HK1, ⟨m1, rfl⟩⟩ := hrel
  cases gk with
  | zero => exact absurd HA.out (by simp [l18_small.l0])
  | succ k1 =>
   have H := HA.out
   clear HA
   simp only [l18_small.l0] at H
   by_cases c2 : x4_1 < (l0.length : Int)
   ·rw [if_pos c2] at H
    have c2b0 : decide (x4_1 < (l0.length : Int)) = true := decide_eq_true c2
    clear c2
    by_cases c3 : x4_1 ≤ 30
    ·rw [if_pos c3] at H
     have c3b0 : decide (x4_1 ≤ 30) = true := decide_eq_true c3
     clear c3
     by_cases c4 : x3_1 ≤ 2000
     ·rw [if_pos c4] at H
      have c4b0 : decide (x3_1 ≤ 2000) = true := decide_eq_true c4
      clear c4
      by_cases c5 : 0 ≤ x4_1
      ·rw [if_pos c5] at H
       have c5b0 : decide (0 ≤ x4_1) = true := decide_eq_true c5
       clear c5
       have H' := Az.mk H
       clear H
       have p118 : 0 ≤ (x4_1 : Int) := of_decide_eq_true (by first | (with_reducible assumption) | assumption)
       have q118 : x4_1 < (l0.length : Int) := of_decide_eq_true (by first | (with_reducible assumption) | assumption)
       obtain ⟨ad118, A118_4, c118_4, e118, hx118_0, hx118_1, hx118_2, hx118_3, hx118_4, hx118_5, hl118_4, hi118_4⟩ := at_T27 HR0.out x4_1 p118 q118
       cases e118
       have HR118_4 := Az.mk hi118_4
       have HC118_4 := Az.mk hl118_4
       clear hi118_4 hl118_4
       replace p118 := eq_true p118
       replace q118 := eq_true q118
       have p119 : 0 ≤ (x4_1 : Int) := of_decide_eq_true (by first | (with_reducible assumption) | assumption)
       have q119 : x4_1 < (l0.length : Int) := of_decide_eq_true (by first | (with_reducible assumption) | assumption)
       obtain ⟨ad119, A119_4, c119_4, e119, hx119_0, hx119_1, hx119_2, hx119_3, hx119_4, hx119_5, hl119_4, hi119_4⟩ := at_T27 HR0.out x4_1 p119 q119
       obtain rfl : ad118 = ad119 := (by injection e119)
       have HR119_4 := Az.mk hi119_4
       have HC119_4 := Az.mk hl119_4
       clear hi119_4 hl119_4
       replace p119 := eq_true p119
       replace q119 := eq_true q119
       have ea_ := Option.some.inj (hx118_4.symm.trans hx119_4)
       injection ea_ with ea_ en_ ec_
       subst ea_
       subst ec_
       clear en_
       have p120 : 0 ≤ (x4_1 : Int) := of_decide_eq_true (by first | (with_reducible assumption) | assumption)
       have q120 : x4_1 < (l0.length : Int) := of_decide_eq_true (by first | (with_reducible assumption) | assumption)
       obtain ⟨ad120, A120_4, c120_4, e120, hx120_0, hx120_1, hx120_2, hx120_3, hx120_4, hx120_5, hl120_4, hi120_4⟩ := at_T27 HR0.out x4_1 p120 q120
       obtain rfl : ad118 = ad120 := (by injection e120)
       have HR120_4 := Az.mk hi120_4
       have HC120_4 := Az.mk hl120_4
       clear hi120_4 hl120_4
       replace p120 := eq_true p120
       replace q120 := eq_true q120
       have ea_ := Option.some.inj (hx118_4.symm.trans hx120_4)
       injection ea_ with ea_ en_ ec_
       subst ea_
       subst ec_
       clear en_
       go_wp2
       repeat (go_quiet (fail); try go_wp2)
       go_roundg k1
       case measure => have := HK1.out; omega
       case rel => exact ⟨(wrap64 ((wrap64 ((wrap64 (x3_1 + (((rd_T27 l0 x4_1).f1.f0).size : Int))) + (((rd_T27 l0 x4_1).f1.f1).size : Int))) + (((rd_T27 l0 x4_1).f3).length : Int))), (wrap64 (x4_1 + 1)), (by first | rfl | (simp; done) | (simp [*]; done)), (by first | rfl | (simp; done) | (simp [*]; done)), H', ⟨by have := HK1.out; omega⟩, by repeat (first | exact Drawn0.refl _ | apply Drawn0.step)⟩
      ·rw [if_neg c5] at H
       exact absurd H (by simp)
     ·rw [if_neg c4] at H
      have c4b0 : decide (x3_1 ≤ 2000) = false := decide_eq_false c4
      clear c4
      by_cases c6 : (l0.length : Int) ≤ 30
      ·rw [if_pos c6] at H
       have c6b0 : decide ((l0.length : Int) ≤ 30) = true := decide_eq_true c6
       have c6b1 : decide (l0.length ≤ 30) = true := decide_eq_true (by omega)
       clear c6
       obtain rfl := Option.some.inj H
       go_wp2
       repeat (go_quiet (fail); try go_wp2)
       go_ret
       exact ⟨by first | rfl | (simp; done) | (simp [*]; done), by repeat (first | exact Drawn0.refl _ | apply Drawn0.step)⟩
      ·rw [if_neg c6] at H
       have c6b0 : decide ((l0.length : Int) ≤ 30) = false := decide_eq_false c6
       have c6b1 : decide (l0.length ≤ 30) = false := decide_eq_false (by omega)
       clear c6
       obtain rfl := Option.some.inj H
       go_wp2
       repeat (go_quiet (fail); try go_wp2)
       go_ret
       exact ⟨by first | rfl | (simp; done) | (simp [*]; done), by repeat (first | exact Drawn0.refl _ | apply Drawn0.step)⟩
    ·rw [if_neg c3] at H
     have c3b0 : decide (x4_1 ≤ 30) = false := decide_eq_false c3
     clear c3
     by_cases c7 : (l0.length : Int) ≤ 30
     ·rw [if_pos c7] at H
      have c7b0 : decide ((l0.length : Int) ≤ 30) = true := decide_eq_true c7
      have c7b1 : decide (l0.length ≤ 30) = true := decide_eq_true (by omega)
      clear c7
      obtain rfl := Option.some.inj H
      go_wp2
      repeat (go_quiet (fail); try go_wp2)
      go_ret
      exact ⟨by first | rfl | (simp; done) | (simp [*]; done), by repeat (first | exact Drawn0.refl _ | apply Drawn0.step)⟩
     ·rw [if_neg c7] at H
      have c7b0 : decide ((l0.length : Int) ≤ 30) = false := decide_eq_false c7
      have c7b1 : decide (l0.length ≤ 30) = false := decide_eq_false (by omega)
      clear c7
      obtain rfl := Option.some.inj H
      go_wp2
      repeat (go_quiet (fail); try go_wp2)
      go_ret
      exact ⟨by first | rfl | (simp; done) | (simp [*]; done), by repeat (first | exact Drawn0.refl _ | apply Drawn0.step)⟩
   ·rw [if_neg c2] at H
    have c2b0 : decide (x4_1 < (l0.length : Int)) = false := decide_eq_false c2
    clear c2
    by_cases c8 : (l0.length : Int) ≤ 30
    ·rw [if_pos c8] at H
     have c8b0 : decide ((l0.length : Int) ≤ 30) = true := decide_eq_true c8
     have c8b1 : decide (l0.length ≤ 30) = true := decide_eq_true (by omega)
     clear c8
     obtain rfl := Option.some.inj H
     go_wp2
     repeat (go_quiet (fail); try go_wp2)
     go_ret
     exact ⟨by first | rfl | (simp; done) | (simp [*]; done), by repeat (first | exact Drawn0.refl _ | apply Drawn0.step)⟩
    ·rw [if_neg c8] at H
     have c8b0 : decide ((l0.length : Int) ≤ 30) = false := decide_eq_false c8
     have c8b1 : decide (l0.length ≤ 30) = false := decide_eq_false (by omega)
     clear c8
     obtain rfl := Option.some.inj H
     go_wp2
     repeat (go_quiet (fail); try go_wp2)
     go_ret
     exact ⟨by first | rfl | (simp; done) | (simp [*]; done), by repeat (first | exact Drawn0.refl _ | apply Drawn0.step)⟩
def r06_id.f (a0 : Int) : Option (Bool) := if a0 ≥ 1 then (some (decide (a0 ≤ 1099511627776))) else (some false)
set_option maxHeartbeats 8000000 in
set_option maxRecDepth 100000 in
theorem r06_id.calls (a0 : Int) (r : Bool) (w : World) (h : r06_id.f a0 = some r) :
 Calls Try.prog 21 #[.int .i64 a0] w fun e w' => e = .returned (.bool r) ∧ Drawn0 w w' := by
 have H : (if a0 ≥ 1 then (some (decide (a0 ≤ 1099511627776))) else (some false)) = some r := h
 clear h
 by_cases c2 : a0 ≥ 1
 ·rw [if_pos c2] at H
  have c2b0 : decide (1 ≤ a0) = true := decide_eq_true c2
  clear c2
  obtain rfl := Option.some.inj H
  go_enter Try.func21, Try.ntmps21
  go_wp2
  go_ret
  exact ⟨by first | rfl | (simp; done) | (simp [*]; done), by repeat (first | exact Drawn0.refl _ | apply Drawn0.step)⟩
 ·rw [if_neg c2] at H
  have c2b0 : decide (1 ≤ a0) = false := decide_eq_false c2
  clear c2
  obtain rfl := Option.some.inj H
  go_enter Try.func21, Try.ntmps21
  go_wp2
  go_ret
  exact ⟨by first | rfl | (simp; done) | (simp [*]; done), by repeat (first | exact Drawn0.refl _ | apply Drawn0.step)⟩
mutual
def r06_Is.j0 : Nat → Bool → Int → ByteArray → ByteArray → Int → List (S47) → Int → Option (Bool)
 | 0, _, _, _, _, _, _, _ => none
 | k + 1, x39, x123000, x123001, x123002, x123003, x123004, x123005 => if x39 = true then (some false) else (r06_Is.l0 k 0 x123000 x123001 x123002 x123003 x123004 x123005)
def r06_Is.l0 : Nat → Int → Int → ByteArray → ByteArray → Int → List (S47) → Int → Option (Bool)
 | 0, _, _, _, _, _, _, _ => none
 | k + 1, x3, x123000, x123001, x123002, x123003, x123004, x123005 => if x3 < (x123004.length : Int) then (if 0 ≤ x3 then (if ((rd_T47 x123004 x3).f0) < 1 then (r06_Is.j2 k x3 true x123000 x123001 x123002 x123003 x123004 x123005 ((rd_T47 x123004 x3).f0) ((rd_T47 x123004 x3).f1)) else (if ((rd_T47 x123004 x3).f0) > 7 then (r06_Is.j2 k x3 true x123000 x123001 x123002 x123003 x123004 x123005 ((rd_T47 x123004 x3).f0) ((rd_T47 x123004 x3).f1)) else (if ((rd_T47 x123004 x3).f1) < 1 then (r06_Is.j2 k x3 true x123000 x123001 x123002 x123003 x123004 x123005 ((rd_T47 x123004 x3).f0) ((rd_T47 x123004 x3).f1)) else (if ((rd_T47 x123004 x3).f1) ≥ x123005 then (r06_Is.j2 k x3 true x123000 x123001 x123002 x123003 x123004 x123005 ((rd_T47 x123004 x3).f0) ((rd_T47 x123004 x3).f1)) else (if x3 > 0 then (if 0 ≤ (wrap64 (x3 - 1)) then (if (wrap64 (x3 - 1)) < (x123004.length : Int) then (r06_Is.j2 k x3 (decide (((rd_T47 x123004 x3).f1) ≤ ((rd_T47 x123004 (wrap64 (x3 - 1))).f1))) x123000 x123001 x123002 x123003 x123004 x123005 ((rd_T47 x123004 x3).f0) ((rd_T47 x123004 x3).f1)) else (none)) else (none)) else (r06_Is.j2 k x3 false x123000 x123001 x123002 x123003 x123004 x123005 ((rd_T47 x123004 x3).f0) ((rd_T47 x123004 x3).f1))))))) else (none)) else (some true)
def r06_Is.j2 : Nat → Int → Bool → Int → ByteArray → ByteArray → Int → List (S47) → Int → Int → Int → Option (Bool)
 | 0, _, _, _, _, _, _, _, _, _, _ => none
 | k + 1, x3, x87, x123000, x123001, x123002, x123003, x123004, x123005, x129000, x129001 => if x87 = true then (some false) else (r06_Is.l1 k x3 0 x123000 x123001 x123002 x123003 x123004 x123005 x129000 x129001)
def r06_Is.l1 : Nat → Int → Int → Int → ByteArray → ByteArray → Int → List (S47) → Int → Int → Int → Option (Bool)
 | 0, _, _, _, _, _, _, _, _, _, _ => none
 | k + 1, x3, x5, x123000, x123001, x123002, x123003, x123004, x123005, x129000, x129001 => if x5 < x3 then (if 0 ≤ x5 then (if x5 < (x123004.length : Int) then (if ((rd_T47 x123004 x5).f0) = x129000 then (some false) else (r06_Is.l1 k x3 (wrap64 (x5 + 1)) x123000 x123001 x123002 x123003 x123004 x123005 x129000 x129001)) else (none)) else (none)) else (r06_Is.l0 k (wrap64 (x3 + 1)) x123000 x123001 x123002 x123003 x123004 x123005)
end
def r06_Is.f (k : Nat) (a0_0 : Int) (a0_1 : ByteArray) (a0_2 : ByteArray) (a0_3 : Int) (l0_4 : List (S47)) (a0_5 : Int) : Option (Bool) := (r06_id.f a0_0).bind fun t123 => (if t123 = true then ((r06_id.f a0_3).bind fun t124 => (if t124 = true then ((r06_id.f a0_5).bind fun t125 => (if t125 = true then ((r02_Is.f a0_1 a0_2).bind fun t126 => (if t126 = true then (if (l0_4.length : Int) < 1 then (r06_Is.j0 k true a0_0 a0_1 a0_2 a0_3 l0_4 a0_5) else (r06_Is.j0 k (decide ((l0_4.length : Int) > 5)) a0_0 a0_1 a0_2 a0_3 l0_4 a0_5)) else (r06_Is.j0 k true a0_0 a0_1 a0_2 a0_3 l0_4 a0_5))) else (r06_Is.j0 k true a0_0 a0_1 a0_2 a0_3 l0_4 a0_5))) else (r06_Is.j0 k true a0_0 a0_1 a0_2 a0_3 l0_4 a0_5))) else (r06_Is.j0 k true a0_0 a0_1 a0_2 a0_3 l0_4 a0_5))
theorem r06_Is.mono_l : ∀ k, (∀ y0 y1 y2 y3 y4 y5 y6, LeO (r06_Is.j0 k y0 y1 y2 y3 y4 y5 y6) (r06_Is.j0 (k + 1) y0 y1 y2 y3 y4 y5 y6)) ∧ (∀ y0 y1 y2 y3 y4 y5 y6, LeO (r06_Is.l0 k y0 y1 y2 y3 y4 y5 y6) (r06_Is.l0 (k + 1) y0 y1 y2 y3 y4 y5 y6)) ∧ (∀ y0 y1 y2 y3 y4 y5 y6 y7 y8 y9, LeO (r06_Is.j2 k y0 y1 y2 y3 y4 y5 y6 y7 y8 y9) (r06_Is.j2 (k + 1) y0 y1 y2 y3 y4 y5 y6 y7 y8 y9)) ∧ (∀ y0 y1 y2 y3 y4 y5 y6 y7 y8 y9, LeO (r06_Is.l1 k y0 y1 y2 y3 y4 y5 y6 y7 y8 y9) (r06_Is.l1 (k + 1) y0 y1 y2 y3 y4 y5 y6 y7 y8 y9))
 | 0 => ⟨fun _ _ _ _ _ _ _ r h => by simp [r06_Is.j0] at h, fun _ _ _ _ _ _ _ r h => by simp [r06_Is.l0] at h, fun _ _ _ _ _ _ _ _ _ _ r h => by simp [r06_Is.j2] at h, fun _ _ _ _ _ _ _ _ _ _ r h => by simp [r06_Is.l1] at h⟩
 | k + 1 => by
  obtain ⟨ih0, ih1, ih2, ih3⟩ := r06_Is.mono_l k
  refine ⟨?_, ?_, ?_, ?_⟩
  ·intro y0 y1 y2 y3 y4 y5 y6
   unfold r06_Is.j0
   repeat' first
   | (with_reducible exact ih0 _ _ _ _ _ _ _)
   | (with_reducible exact ih1 _ _ _ _ _ _ _)
   | (with_reducible exact ih2 _ _ _ _ _ _ _ _ _ _)
   | (with_reducible exact ih3 _ _ _ _ _ _ _ _ _ _)
   | (with_reducible exact LeO.refl _)
   | (with_reducible exact LeO.none _)
   | (with_reducible refine LeO.ite ?_ ?_)
   | (with_reducible refine LeO.bind ?_ (fun _ => ?_))
   | exact ih0 _ _ _ _ _ _ _
   | exact ih1 _ _ _ _ _ _ _
   | exact ih2 _ _ _ _ _ _ _ _ _ _
   | exact ih3 _ _ _ _ _ _ _ _ _ _
   | exact LeO.none _
   | refine LeO.ite ?_ ?_
   | refine LeO.bind ?_ (fun _ => ?_)
  ·intro y0 y1 y2 y3 y4 y5 y6
   unfold r06_Is.l0
   repeat' first
   | (with_reducible exact ih0 _ _ _ _ _ _ _)
   | (with_reducible exact ih1 _ _ _ _ _ _ _)
   | (with_reducible exact ih2 _ _ _ _ _ _ _ _ _ _)
   | (with_reducible exact ih3 _ _ _ _ _ _ _ _ _ _)
   | (with_reducible exact LeO.refl _)
   | (with_reducible exact LeO.none _)
   | (with_reducible refine LeO.ite ?_ ?_)
   | (with_reducible refine LeO.bind ?_ (fun _ => ?_))
   | exact ih0 _ _ _ _ _ _ _
   | exact ih1 _ _ _ _ _ _ _
   | exact ih2 _ _ _ _ _ _ _ _ _ _
   | exact ih3 _ _ _ _ _ _ _ _ _ _
   | exact LeO.none _
   | refine LeO.ite ?_ ?_
   | refine LeO.bind ?_ (fun _ => ?_)
  ·intro y0 y1 y2 y3 y4 y5 y6 y7 y8 y9
   unfold r06_Is.j2
   repeat' first
   | (with_reducible exact ih0 _ _ _ _ _ _ _)
   | (with_reducible exact ih1 _ _ _ _ _ _ _)
   | (with_reducible exact ih2 _ _ _ _ _ _ _ _ _ _)
   | (with_reducible exact ih3 _ _ _ _ _ _ _ _ _ _)
   | (with_reducible exact LeO.refl _)
   | (with_reducible exact LeO.none _)
   | (with_reducible refine LeO.ite ?_ ?_)
   | (with_reducible refine LeO.bind ?_ (fun _ => ?_))
   | exact ih0 _ _ _ _ _ _ _
   | exact ih1 _ _ _ _ _ _ _
   | exact ih2 _ _ _ _ _ _ _ _ _ _
   | exact ih3 _ _ _ _ _ _ _ _ _ _
   | exact LeO.none _
   | refine LeO.ite ?_ ?_
   | refine LeO.bind ?_ (fun _ => ?_)
  ·intro y0 y1 y2 y3 y4 y5 y6 y7 y8 y9
   unfold r06_Is.l1
   repeat' first
   | (with_reducible exact ih0 _ _ _ _ _ _ _)
   | (with_reducible exact ih1 _ _ _ _ _ _ _)
   | (with_reducible exact ih2 _ _ _ _ _ _ _ _ _ _)
   | (with_reducible exact ih3 _ _ _ _ _ _ _ _ _ _)
   | (with_reducible exact LeO.refl _)
   | (with_reducible exact LeO.none _)
   | (with_reducible refine LeO.ite ?_ ?_)
   | (with_reducible refine LeO.bind ?_ (fun _ => ?_))
   | exact ih0 _ _ _ _ _ _ _
   | exact ih1 _ _ _ _ _ _ _
   | exact ih2 _ _ _ _ _ _ _ _ _ _
   | exact ih3 _ _ _ _ _ _ _ _ _ _
   | exact LeO.none _
   | refine LeO.ite ?_ ?_
   | refine LeO.bind ?_ (fun _ => ?_)
theorem r06_Is.mono : ∀ a0 a1 a2 a3 a4 a5 k, LeO (r06_Is.f k a0 a1 a2 a3 a4 a5) (r06_Is.f (k + 1) a0 a1 a2 a3 a4 a5) := by
 intro a0 a1 a2 a3 a4 a5 k
 obtain ⟨ih0, ih1, ih2, ih3⟩ := r06_Is.mono_l k
 unfold r06_Is.f
 repeat' first
  | (with_reducible exact ih0 _ _ _ _ _ _ _)
  | (with_reducible exact ih1 _ _ _ _ _ _ _)
  | (with_reducible exact ih2 _ _ _ _ _ _ _ _ _ _)
  | (with_reducible exact ih3 _ _ _ _ _ _ _ _ _ _)
  | (with_reducible exact LeO.refl _)
  | (with_reducible exact LeO.none _)
  | (with_reducible refine LeO.ite ?_ ?_)
  | (with_reducible refine LeO.bind ?_ (fun _ => ?_))
  | exact ih0 _ _ _ _ _ _ _
  | exact ih1 _ _ _ _ _ _ _
  | exact ih2 _ _ _ _ _ _ _ _ _ _
  | exact ih3 _ _ _ _ _ _ _ _ _ _
  | exact LeO.none _
  | refine LeO.ite ?_ ?_
  | refine LeO.bind ?_ (fun _ => ?_)
set_option maxHeartbeats 8000000 in
set_option maxRecDepth 100000 in
theorem r06_Is.calls (k : Nat) (a0_0 : Int) (a0_1 : ByteArray) (a0_2 : ByteArray) (a0_3 : Int) (A0_4 : Option Addr) (c0_4 : Nat) (l0_4 : List (S47)) (a0_5 : Int) (r : Bool) (w : World) (hr0_4 : Kd.C k47 w A0_4 l0_4.length l0_4) (hc0_4 : l0_4.length ≤ c0_4) (h : r06_Is.f k a0_0 a0_1 a0_2 a0_3 l0_4 a0_5 = some r) :
 Calls Try.prog 8 #[.agg #[.int .i64 a0_0, .string a0_1, .string a0_2, .int .i64 a0_3, .slice A0_4 l0_4.length c0_4, .int .i64 a0_5]] w fun e w' => e = .returned (.bool r) ∧ Below w.heap.size w w' := by
 have hu27 := Try.underlying27
 have hu24 := Try.underlying24
 have hu47 := Try.underlying47
 have HR0_4 := Az.mk hr0_4
 have HC0_4 := Az.mk hc0_4
 clear hr0_4 hc0_4
 have HB := Az.mk (Below.refl w.heap.size w)
 have H : ((r06_id.f a0_0).bind fun t123 => (if t123 = true then ((r06_id.f a0_3).bind fun t124 => (if t124 = true then ((r06_id.f a0_5).bind fun t125 => (if t125 = true then ((r02_Is.f a0_1 a0_2).bind fun t126 => (if t126 = true then (if (l0_4.length : Int) < 1 then (r06_Is.j0 k true a0_0 a0_1 a0_2 a0_3 l0_4 a0_5) else (r06_Is.j0 k (decide ((l0_4.length : Int) > 5)) a0_0 a0_1 a0_2 a0_3 l0_4 a0_5)) else (r06_Is.j0 k true a0_0 a0_1 a0_2 a0_3 l0_4 a0_5))) else (r06_Is.j0 k true a0_0 a0_1 a0_2 a0_3 l0_4 a0_5))) else (r06_Is.j0 k true a0_0 a0_1 a0_2 a0_3 l0_4 a0_5))) else (r06_Is.j0 k true a0_0 a0_1 a0_2 a0_3 l0_4 a0_5))) = some r := h
 clear h
 have HC2 := Az.mk H
 clear H
 go_enter Try.func8, Try.ntmps8
 go_upto_region 1 with (first | ((with_reducible refine gate_dst (N := 1) rfl ?_); (try (refine gate_guard (by rfl) ?_; dsimp only)); refine box_event ?hg (N := 1) ?hd (cs := #[.int .i64 a0_0, .string a0_1, .string a0_2, .int .i64 a0_3, .slice A0_4 l0_4.length c0_4, .int .i64 a0_5]) (t := 27) ?hr ?_; (case hd => rfl); (case hg => rfl); (case hr => first | (go_simp; done) | (go_simp; rfl)); intro gb122 hg w3 hbox hb; have BK122 := Az.mk (hbox); have GW122 := Az.mk (geO hg (pbE HB.out)); have GE122 := Az.mk (geO hg (pbE HB.out)); replace HB := Az.mk (pbT (by exact pbE HB.out) hb); clear hb hbox hg))
 repeat (go_quiet (first | ((with_reducible refine gate_dst (N := 1) rfl ?_); (try (refine gate_guard (by rfl) ?_; dsimp only)); refine box_event ?hg (N := 1) ?hd (cs := #[.int .i64 a0_0, .string a0_1, .string a0_2, .int .i64 a0_3, .slice A0_4 l0_4.length c0_4, .int .i64 a0_5]) (t := 27) ?hr ?_; (case hd => rfl); (case hg => rfl); (case hr => first | (go_simp; done) | (go_simp; rfl)); intro gb122 hg w3 hbox hb; have BK122 := Az.mk (hbox); have GW122 := Az.mk (geO hg (pbE HB.out)); have GE122 := Az.mk (geO hg (pbE HB.out)); replace HB := Az.mk (pbT (by exact pbE HB.out) hb); clear hb hbox hg)); go_upto_region 1 with (first | ((with_reducible refine gate_dst (N := 1) rfl ?_); (try (refine gate_guard (by rfl) ?_; dsimp only)); refine box_event ?hg (N := 1) ?hd (cs := #[.int .i64 a0_0, .string a0_1, .string a0_2, .int .i64 a0_3, .slice A0_4 l0_4.length c0_4, .int .i64 a0_5]) (t := 27) ?hr ?_; (case hd => rfl); (case hg => rfl); (case hr => first | (go_simp; done) | (go_simp; rfl)); intro gb122 hg w3 hbox hb; have BK122 := Az.mk (hbox); have GW122 := Az.mk (geO hg (pbE HB.out)); have GE122 := Az.mk (geO hg (pbE HB.out)); replace HB := Az.mk (pbT (by exact pbE HB.out) hb); clear hb hbox hg)))
 (try simp only [Act.put, List.setIfInBounds_toArray, List.set_cons_zero, List.set_cons_succ])
 go_cut [39] (fun v39 wc => ∃ (kq : Nat) (x39_1 : Bool), v39 = .bool x39_1 ∧ Az (r06_Is.j0 kq x39_1 a0_0 a0_1 a0_2 a0_3 l0_4 a0_5 = some r) ∧ Az (kq ≤ k) ∧ Az (wc.heap[gb122]? = some (.cells #[.int .i64 a0_0, .string a0_1, .string a0_2, .int .i64 a0_3, (.slice A0_4 l0_4.length c0_4), .int .i64 a0_5] 27 (0, 0))) ∧ Az (Below w.heap.size w wc))
 case first =>
  have H := HC2.out
  clear HC2
  replace H := Option.bind_eq_some_iff.mp H
  obtain ⟨t123, A40, H⟩ := H
  try dsimp only at H
  have A4 := Az.mk A40
  clear A40
  by_cases c5 : t123 = true
  ·subst c5
   rw [if_pos rfl] at H
   replace H := Option.bind_eq_some_iff.mp H
   obtain ⟨t124, A60, H⟩ := H
   try dsimp only at H
   have A6 := Az.mk A60
   clear A60
   by_cases c7 : t124 = true
   ·subst c7
    rw [if_pos rfl] at H
    replace H := Option.bind_eq_some_iff.mp H
    obtain ⟨t125, A80, H⟩ := H
    try dsimp only at H
    have A8 := Az.mk A80
    clear A80
    by_cases c9 : t125 = true
    ·subst c9
     rw [if_pos rfl] at H
     replace H := Option.bind_eq_some_iff.mp H
     obtain ⟨t126, A100, H⟩ := H
     try dsimp only at H
     have A10 := Az.mk A100
     clear A100
     by_cases c11 : t126 = true
     ·subst c11
      rw [if_pos rfl] at H
      by_cases c12 : (l0_4.length : Int) < 1
      ·rw [if_pos c12] at H
       have c12b0 : decide ((l0_4.length : Int) < 1) = true := decide_eq_true c12
       have c12b1 : decide (l0_4.length < 1) = true := decide_eq_true (by omega)
       clear c12
       (first | rw [c12b0] | (simp only [i64_w, i32_w]; rw [c12b0]) | skip)
       have H' := Az.mk H
       clear H
       have hcz13 := cells6 BK122.out
       go_wp2_with (first | (go_at_call 21; (with_reducible refine (r06_id.calls a0_0 true _ A4.out).mono ?_); rintro e w' ⟨rfl, ⟨nd, rfl⟩⟩; (try first | exact ⟨rfl, _, World.drewN_drewN _ _ _⟩ | exact ⟨rfl, _, Eq.trans (World.drewN_drewN _ _ _) (congrArg (World.drewN _) (Nat.add_assoc _ _ _))⟩)) | (go_at_call 21; (with_reducible refine (r06_id.calls a0_3 true _ A6.out).mono ?_); rintro e w' ⟨rfl, ⟨nd, rfl⟩⟩; (try first | exact ⟨rfl, _, World.drewN_drewN _ _ _⟩ | exact ⟨rfl, _, Eq.trans (World.drewN_drewN _ _ _) (congrArg (World.drewN _) (Nat.add_assoc _ _ _))⟩)) | (go_at_call 21; (with_reducible refine (r06_id.calls a0_5 true _ A8.out).mono ?_); rintro e w' ⟨rfl, ⟨nd, rfl⟩⟩; (try first | exact ⟨rfl, _, World.drewN_drewN _ _ _⟩ | exact ⟨rfl, _, Eq.trans (World.drewN_drewN _ _ _) (congrArg (World.drewN _) (Nat.add_assoc _ _ _))⟩)) | (go_at_call 22; (with_reducible refine (r02_Is.calls a0_1 a0_2 true _ A10.out).mono ?_); rintro e w14 ⟨rfl, hb⟩; replace BK122 := Az.mk (bkB (bk BK122.out) hb); replace HB := Az.mk (pbT (by exact pbE HB.out) hb); (try clear hb); (try clear hb2); (try clear hk); (try clear hi); have hcz15 := cells6 BK122.out))
       repeat (go_quiet (first | (go_at_call 21; (with_reducible refine (r06_id.calls a0_0 true _ A4.out).mono ?_); rintro e w' ⟨rfl, ⟨nd, rfl⟩⟩; (try first | exact ⟨rfl, _, World.drewN_drewN _ _ _⟩ | exact ⟨rfl, _, Eq.trans (World.drewN_drewN _ _ _) (congrArg (World.drewN _) (Nat.add_assoc _ _ _))⟩)) | (go_at_call 21; (with_reducible refine (r06_id.calls a0_3 true _ A6.out).mono ?_); rintro e w' ⟨rfl, ⟨nd, rfl⟩⟩; (try first | exact ⟨rfl, _, World.drewN_drewN _ _ _⟩ | exact ⟨rfl, _, Eq.trans (World.drewN_drewN _ _ _) (congrArg (World.drewN _) (Nat.add_assoc _ _ _))⟩)) | (go_at_call 21; (with_reducible refine (r06_id.calls a0_5 true _ A8.out).mono ?_); rintro e w' ⟨rfl, ⟨nd, rfl⟩⟩; (try first | exact ⟨rfl, _, World.drewN_drewN _ _ _⟩ | exact ⟨rfl, _, Eq.trans (World.drewN_drewN _ _ _) (congrArg (World.drewN _) (Nat.add_assoc _ _ _))⟩)) | (go_at_call 22; (with_reducible refine (r02_Is.calls a0_1 a0_2 true _ A10.out).mono ?_); rintro e w14 ⟨rfl, hb⟩; replace BK122 := Az.mk (bkB (bk BK122.out) hb); replace HB := Az.mk (pbT (by exact pbE HB.out) hb); (try clear hb); (try clear hb2); (try clear hk); (try clear hi); have hcz15 := cells6 BK122.out)); try go_wp2_with (first | (go_at_call 21; (with_reducible refine (r06_id.calls a0_0 true _ A4.out).mono ?_); rintro e w' ⟨rfl, ⟨nd, rfl⟩⟩; (try first | exact ⟨rfl, _, World.drewN_drewN _ _ _⟩ | exact ⟨rfl, _, Eq.trans (World.drewN_drewN _ _ _) (congrArg (World.drewN _) (Nat.add_assoc _ _ _))⟩)) | (go_at_call 21; (with_reducible refine (r06_id.calls a0_3 true _ A6.out).mono ?_); rintro e w' ⟨rfl, ⟨nd, rfl⟩⟩; (try first | exact ⟨rfl, _, World.drewN_drewN _ _ _⟩ | exact ⟨rfl, _, Eq.trans (World.drewN_drewN _ _ _) (congrArg (World.drewN _) (Nat.add_assoc _ _ _))⟩)) | (go_at_call 21; (with_reducible refine (r06_id.calls a0_5 true _ A8.out).mono ?_); rintro e w' ⟨rfl, ⟨nd, rfl⟩⟩; (try first | exact ⟨rfl, _, World.drewN_drewN _ _ _⟩ | exact ⟨rfl, _, Eq.trans (World.drewN_drewN _ _ _) (congrArg (World.drewN _) (Nat.add_assoc _ _ _))⟩)) | (go_at_call 22; (with_reducible refine (r02_Is.calls a0_1 a0_2 true _ A10.out).mono ?_); rintro e w14 ⟨rfl, hb⟩; replace BK122 := Az.mk (bkB (bk BK122.out) hb); replace HB := Az.mk (pbT (by exact pbE HB.out) hb); (try clear hb); (try clear hb2); (try clear hk); (try clear hi); have hcz15 := cells6 BK122.out)))
       go_meet
       case rel => exact ⟨_, (true), (by first | rfl | (simp; done) | (simp [*]; done)), H', ⟨by first | omega | exact Nat.le_refl _⟩, ⟨by refine bk ?_; exact BK122.out⟩, ⟨by exact pbE HB.out⟩⟩
      ·rw [if_neg c12] at H
       have c12b0 : decide ((l0_4.length : Int) < 1) = false := decide_eq_false c12
       have c12b1 : decide (l0_4.length < 1) = false := decide_eq_false (by omega)
       clear c12
       (first | rw [c12b0] | (simp only [i64_w, i32_w]; rw [c12b0]) | skip)
       have H' := Az.mk H
       clear H
       have hcz16 := cells6 BK122.out
       go_wp2_with (first | (go_at_call 21; (with_reducible refine (r06_id.calls a0_0 true _ A4.out).mono ?_); rintro e w' ⟨rfl, ⟨nd, rfl⟩⟩; (try first | exact ⟨rfl, _, World.drewN_drewN _ _ _⟩ | exact ⟨rfl, _, Eq.trans (World.drewN_drewN _ _ _) (congrArg (World.drewN _) (Nat.add_assoc _ _ _))⟩)) | (go_at_call 21; (with_reducible refine (r06_id.calls a0_3 true _ A6.out).mono ?_); rintro e w' ⟨rfl, ⟨nd, rfl⟩⟩; (try first | exact ⟨rfl, _, World.drewN_drewN _ _ _⟩ | exact ⟨rfl, _, Eq.trans (World.drewN_drewN _ _ _) (congrArg (World.drewN _) (Nat.add_assoc _ _ _))⟩)) | (go_at_call 21; (with_reducible refine (r06_id.calls a0_5 true _ A8.out).mono ?_); rintro e w' ⟨rfl, ⟨nd, rfl⟩⟩; (try first | exact ⟨rfl, _, World.drewN_drewN _ _ _⟩ | exact ⟨rfl, _, Eq.trans (World.drewN_drewN _ _ _) (congrArg (World.drewN _) (Nat.add_assoc _ _ _))⟩)) | (go_at_call 22; (with_reducible refine (r02_Is.calls a0_1 a0_2 true _ A10.out).mono ?_); rintro e w17 ⟨rfl, hb⟩; replace BK122 := Az.mk (bkB (bk BK122.out) hb); replace HB := Az.mk (pbT (by exact pbE HB.out) hb); (try clear hb); (try clear hb2); (try clear hk); (try clear hi); have hcz18 := cells6 BK122.out))
       repeat (go_quiet (first | (go_at_call 21; (with_reducible refine (r06_id.calls a0_0 true _ A4.out).mono ?_); rintro e w' ⟨rfl, ⟨nd, rfl⟩⟩; (try first | exact ⟨rfl, _, World.drewN_drewN _ _ _⟩ | exact ⟨rfl, _, Eq.trans (World.drewN_drewN _ _ _) (congrArg (World.drewN _) (Nat.add_assoc _ _ _))⟩)) | (go_at_call 21; (with_reducible refine (r06_id.calls a0_3 true _ A6.out).mono ?_); rintro e w' ⟨rfl, ⟨nd, rfl⟩⟩; (try first | exact ⟨rfl, _, World.drewN_drewN _ _ _⟩ | exact ⟨rfl, _, Eq.trans (World.drewN_drewN _ _ _) (congrArg (World.drewN _) (Nat.add_assoc _ _ _))⟩)) | (go_at_call 21; (with_reducible refine (r06_id.calls a0_5 true _ A8.out).mono ?_); rintro e w' ⟨rfl, ⟨nd, rfl⟩⟩; (try first | exact ⟨rfl, _, World.drewN_drewN _ _ _⟩ | exact ⟨rfl, _, Eq.trans (World.drewN_drewN _ _ _) (congrArg (World.drewN _) (Nat.add_assoc _ _ _))⟩)) | (go_at_call 22; (with_reducible refine (r02_Is.calls a0_1 a0_2 true _ A10.out).mono ?_); rintro e w17 ⟨rfl, hb⟩; replace BK122 := Az.mk (bkB (bk BK122.out) hb); replace HB := Az.mk (pbT (by exact pbE HB.out) hb); (try clear hb); (try clear hb2); (try clear hk); (try clear hi); have hcz18 := cells6 BK122.out)); try go_wp2_with (first | (go_at_call 21; (with_reducible refine (r06_id.calls a0_0 true _ A4.out).mono ?_); rintro e w' ⟨rfl, ⟨nd, rfl⟩⟩; (try first | exact ⟨rfl, _, World.drewN_drewN _ _ _⟩ | exact ⟨rfl, _, Eq.trans (World.drewN_drewN _ _ _) (congrArg (World.drewN _) (Nat.add_assoc _ _ _))⟩)) | (go_at_call 21; (with_reducible refine (r06_id.calls a0_3 true _ A6.out).mono ?_); rintro e w' ⟨rfl, ⟨nd, rfl⟩⟩; (try first | exact ⟨rfl, _, World.drewN_drewN _ _ _⟩ | exact ⟨rfl, _, Eq.trans (World.drewN_drewN _ _ _) (congrArg (World.drewN _) (Nat.add_assoc _ _ _))⟩)) | (go_at_call 21; (with_reducible refine (r06_id.calls a0_5 true _ A8.out).mono ?_); rintro e w' ⟨rfl, ⟨nd, rfl⟩⟩; (try first | exact ⟨rfl, _, World.drewN_drewN _ _ _⟩ | exact ⟨rfl, _, Eq.trans (World.drewN_drewN _ _ _) (congrArg (World.drewN _) (Nat.add_assoc _ _ _))⟩)) | (go_at_call 22; (with_reducible refine (r02_Is.calls a0_1 a0_2 true _ A10.out).mono ?_); rintro e w17 ⟨rfl, hb⟩; replace BK122 := Az.mk (bkB (bk BK122.out) hb); replace HB := Az.mk (pbT (by exact pbE HB.out) hb); (try clear hb); (try clear hb2); (try clear hk); (try clear hi); have hcz18 := cells6 BK122.out)))
       go_meet
       case rel => exact ⟨_, (decide ((l0_4.length : Int) > 5)), (by first | rfl | (simp; done) | (simp [*]; done)), H', ⟨by first | omega | exact Nat.le_refl _⟩, ⟨by refine bk ?_; exact BK122.out⟩, ⟨by exact pbE HB.out⟩⟩
     ·replace c11 := Bool.eq_false_iff.mpr c11
      subst c11
      rw [if_neg (show ¬ (false = true) by decide)] at H
      have H' := Az.mk H
      clear H
      have hcz19 := cells6 BK122.out
      go_wp2_with (first | (go_at_call 21; (with_reducible refine (r06_id.calls a0_0 true _ A4.out).mono ?_); rintro e w' ⟨rfl, ⟨nd, rfl⟩⟩; (try first | exact ⟨rfl, _, World.drewN_drewN _ _ _⟩ | exact ⟨rfl, _, Eq.trans (World.drewN_drewN _ _ _) (congrArg (World.drewN _) (Nat.add_assoc _ _ _))⟩)) | (go_at_call 21; (with_reducible refine (r06_id.calls a0_3 true _ A6.out).mono ?_); rintro e w' ⟨rfl, ⟨nd, rfl⟩⟩; (try first | exact ⟨rfl, _, World.drewN_drewN _ _ _⟩ | exact ⟨rfl, _, Eq.trans (World.drewN_drewN _ _ _) (congrArg (World.drewN _) (Nat.add_assoc _ _ _))⟩)) | (go_at_call 21; (with_reducible refine (r06_id.calls a0_5 true _ A8.out).mono ?_); rintro e w' ⟨rfl, ⟨nd, rfl⟩⟩; (try first | exact ⟨rfl, _, World.drewN_drewN _ _ _⟩ | exact ⟨rfl, _, Eq.trans (World.drewN_drewN _ _ _) (congrArg (World.drewN _) (Nat.add_assoc _ _ _))⟩)) | (go_at_call 22; (with_reducible refine (r02_Is.calls a0_1 a0_2 false _ A10.out).mono ?_); rintro e w20 ⟨rfl, hb⟩; replace BK122 := Az.mk (bkB (bk BK122.out) hb); replace HB := Az.mk (pbT (by exact pbE HB.out) hb); (try clear hb); (try clear hb2); (try clear hk); (try clear hi)))
      repeat (go_quiet (first | (go_at_call 21; (with_reducible refine (r06_id.calls a0_0 true _ A4.out).mono ?_); rintro e w' ⟨rfl, ⟨nd, rfl⟩⟩; (try first | exact ⟨rfl, _, World.drewN_drewN _ _ _⟩ | exact ⟨rfl, _, Eq.trans (World.drewN_drewN _ _ _) (congrArg (World.drewN _) (Nat.add_assoc _ _ _))⟩)) | (go_at_call 21; (with_reducible refine (r06_id.calls a0_3 true _ A6.out).mono ?_); rintro e w' ⟨rfl, ⟨nd, rfl⟩⟩; (try first | exact ⟨rfl, _, World.drewN_drewN _ _ _⟩ | exact ⟨rfl, _, Eq.trans (World.drewN_drewN _ _ _) (congrArg (World.drewN _) (Nat.add_assoc _ _ _))⟩)) | (go_at_call 21; (with_reducible refine (r06_id.calls a0_5 true _ A8.out).mono ?_); rintro e w' ⟨rfl, ⟨nd, rfl⟩⟩; (try first | exact ⟨rfl, _, World.drewN_drewN _ _ _⟩ | exact ⟨rfl, _, Eq.trans (World.drewN_drewN _ _ _) (congrArg (World.drewN _) (Nat.add_assoc _ _ _))⟩)) | (go_at_call 22; (with_reducible refine (r02_Is.calls a0_1 a0_2 false _ A10.out).mono ?_); rintro e w20 ⟨rfl, hb⟩; replace BK122 := Az.mk (bkB (bk BK122.out) hb); replace HB := Az.mk (pbT (by exact pbE HB.out) hb); (try clear hb); (try clear hb2); (try clear hk); (try clear hi))); try go_wp2_with (first | (go_at_call 21; (with_reducible refine (r06_id.calls a0_0 true _ A4.out).mono ?_); rintro e w' ⟨rfl, ⟨nd, rfl⟩⟩; (try first | exact ⟨rfl, _, World.drewN_drewN _ _ _⟩ | exact ⟨rfl, _, Eq.trans (World.drewN_drewN _ _ _) (congrArg (World.drewN _) (Nat.add_assoc _ _ _))⟩)) | (go_at_call 21; (with_reducible refine (r06_id.calls a0_3 true _ A6.out).mono ?_); rintro e w' ⟨rfl, ⟨nd, rfl⟩⟩; (try first | exact ⟨rfl, _, World.drewN_drewN _ _ _⟩ | exact ⟨rfl, _, Eq.trans (World.drewN_drewN _ _ _) (congrArg (World.drewN _) (Nat.add_assoc _ _ _))⟩)) | (go_at_call 21; (with_reducible refine (r06_id.calls a0_5 true _ A8.out).mono ?_); rintro e w' ⟨rfl, ⟨nd, rfl⟩⟩; (try first | exact ⟨rfl, _, World.drewN_drewN _ _ _⟩ | exact ⟨rfl, _, Eq.trans (World.drewN_drewN _ _ _) (congrArg (World.drewN _) (Nat.add_assoc _ _ _))⟩)) | (go_at_call 22; (with_reducible refine (r02_Is.calls a0_1 a0_2 false _ A10.out).mono ?_); rintro e w20 ⟨rfl, hb⟩; replace BK122 := Az.mk (bkB (bk BK122.out) hb); replace HB := Az.mk (pbT (by exact pbE HB.out) hb); (try clear hb); (try clear hb2); (try clear hk); (try clear hi))))
      go_meet
      case rel => exact ⟨_, (true), (by first | rfl | (simp; done) | (simp [*]; done)), H', ⟨by first | omega | exact Nat.le_refl _⟩, ⟨by refine bk ?_; exact BK122.out⟩, ⟨by exact pbE HB.out⟩⟩
    ·replace c9 := Bool.eq_false_iff.mpr c9
     subst c9
     rw [if_neg (show ¬ (false = true) by decide)] at H
     have H' := Az.mk H
     clear H
     have hcz21 := cells6 BK122.out
     go_wp2_with (first | (go_at_call 21; (with_reducible refine (r06_id.calls a0_0 true _ A4.out).mono ?_); rintro e w' ⟨rfl, ⟨nd, rfl⟩⟩; (try first | exact ⟨rfl, _, World.drewN_drewN _ _ _⟩ | exact ⟨rfl, _, Eq.trans (World.drewN_drewN _ _ _) (congrArg (World.drewN _) (Nat.add_assoc _ _ _))⟩)) | (go_at_call 21; (with_reducible refine (r06_id.calls a0_3 true _ A6.out).mono ?_); rintro e w' ⟨rfl, ⟨nd, rfl⟩⟩; (try first | exact ⟨rfl, _, World.drewN_drewN _ _ _⟩ | exact ⟨rfl, _, Eq.trans (World.drewN_drewN _ _ _) (congrArg (World.drewN _) (Nat.add_assoc _ _ _))⟩)) | (go_at_call 21; (with_reducible refine (r06_id.calls a0_5 false _ A8.out).mono ?_); rintro e w' ⟨rfl, ⟨nd, rfl⟩⟩; (try first | exact ⟨rfl, _, World.drewN_drewN _ _ _⟩ | exact ⟨rfl, _, Eq.trans (World.drewN_drewN _ _ _) (congrArg (World.drewN _) (Nat.add_assoc _ _ _))⟩)))
     repeat (go_quiet (first | (go_at_call 21; (with_reducible refine (r06_id.calls a0_0 true _ A4.out).mono ?_); rintro e w' ⟨rfl, ⟨nd, rfl⟩⟩; (try first | exact ⟨rfl, _, World.drewN_drewN _ _ _⟩ | exact ⟨rfl, _, Eq.trans (World.drewN_drewN _ _ _) (congrArg (World.drewN _) (Nat.add_assoc _ _ _))⟩)) | (go_at_call 21; (with_reducible refine (r06_id.calls a0_3 true _ A6.out).mono ?_); rintro e w' ⟨rfl, ⟨nd, rfl⟩⟩; (try first | exact ⟨rfl, _, World.drewN_drewN _ _ _⟩ | exact ⟨rfl, _, Eq.trans (World.drewN_drewN _ _ _) (congrArg (World.drewN _) (Nat.add_assoc _ _ _))⟩)) | (go_at_call 21; (with_reducible refine (r06_id.calls a0_5 false _ A8.out).mono ?_); rintro e w' ⟨rfl, ⟨nd, rfl⟩⟩; (try first | exact ⟨rfl, _, World.drewN_drewN _ _ _⟩ | exact ⟨rfl, _, Eq.trans (World.drewN_drewN _ _ _) (congrArg (World.drewN _) (Nat.add_assoc _ _ _))⟩))); try go_wp2_with (first | (go_at_call 21; (with_reducible refine (r06_id.calls a0_0 true _ A4.out).mono ?_); rintro e w' ⟨rfl, ⟨nd, rfl⟩⟩; (try first | exact ⟨rfl, _, World.drewN_drewN _ _ _⟩ | exact ⟨rfl, _, Eq.trans (World.drewN_drewN _ _ _) (congrArg (World.drewN _) (Nat.add_assoc _ _ _))⟩)) | (go_at_call 21; (with_reducible refine (r06_id.calls a0_3 true _ A6.out).mono ?_); rintro e w' ⟨rfl, ⟨nd, rfl⟩⟩; (try first | exact ⟨rfl, _, World.drewN_drewN _ _ _⟩ | exact ⟨rfl, _, Eq.trans (World.drewN_drewN _ _ _) (congrArg (World.drewN _) (Nat.add_assoc _ _ _))⟩)) | (go_at_call 21; (with_reducible refine (r06_id.calls a0_5 false _ A8.out).mono ?_); rintro e w' ⟨rfl, ⟨nd, rfl⟩⟩; (try first | exact ⟨rfl, _, World.drewN_drewN _ _ _⟩ | exact ⟨rfl, _, Eq.trans (World.drewN_drewN _ _ _) (congrArg (World.drewN _) (Nat.add_assoc _ _ _))⟩))))
     go_meet
     case rel => exact ⟨_, (true), (by first | rfl | (simp; done) | (simp [*]; done)), H', ⟨by first | omega | exact Nat.le_refl _⟩, ⟨by refine bk ?_; exact BK122.out⟩, ⟨by exact pbE HB.out⟩⟩
   ·replace c7 := Bool.eq_false_iff.mpr c7
    subst c7
    rw [if_neg (show ¬ (false = true) by decide)] at H
    have H' := Az.mk H
    clear H
    have hcz22 := cells6 BK122.out
    go_wp2_with (first | (go_at_call 21; (with_reducible refine (r06_id.calls a0_0 true _ A4.out).mono ?_); rintro e w' ⟨rfl, ⟨nd, rfl⟩⟩; (try first | exact ⟨rfl, _, World.drewN_drewN _ _ _⟩ | exact ⟨rfl, _, Eq.trans (World.drewN_drewN _ _ _) (congrArg (World.drewN _) (Nat.add_assoc _ _ _))⟩)) | (go_at_call 21; (with_reducible refine (r06_id.calls a0_3 false _ A6.out).mono ?_); rintro e w' ⟨rfl, ⟨nd, rfl⟩⟩; (try first | exact ⟨rfl, _, World.drewN_drewN _ _ _⟩ | exact ⟨rfl, _, Eq.trans (World.drewN_drewN _ _ _) (congrArg (World.drewN _) (Nat.add_assoc _ _ _))⟩)))
    repeat (go_quiet (first | (go_at_call 21; (with_reducible refine (r06_id.calls a0_0 true _ A4.out).mono ?_); rintro e w' ⟨rfl, ⟨nd, rfl⟩⟩; (try first | exact ⟨rfl, _, World.drewN_drewN _ _ _⟩ | exact ⟨rfl, _, Eq.trans (World.drewN_drewN _ _ _) (congrArg (World.drewN _) (Nat.add_assoc _ _ _))⟩)) | (go_at_call 21; (with_reducible refine (r06_id.calls a0_3 false _ A6.out).mono ?_); rintro e w' ⟨rfl, ⟨nd, rfl⟩⟩; (try first | exact ⟨rfl, _, World.drewN_drewN _ _ _⟩ | exact ⟨rfl, _, Eq.trans (World.drewN_drewN _ _ _) (congrArg (World.drewN _) (Nat.add_assoc _ _ _))⟩))); try go_wp2_with (first | (go_at_call 21; (with_reducible refine (r06_id.calls a0_0 true _ A4.out).mono ?_); rintro e w' ⟨rfl, ⟨nd, rfl⟩⟩; (try first | exact ⟨rfl, _, World.drewN_drewN _ _ _⟩ | exact ⟨rfl, _, Eq.trans (World.drewN_drewN _ _ _) (congrArg (World.drewN _) (Nat.add_assoc _ _ _))⟩)) | (go_at_call 21; (with_reducible refine (r06_id.calls a0_3 false _ A6.out).mono ?_); rintro e w' ⟨rfl, ⟨nd, rfl⟩⟩; (try first | exact ⟨rfl, _, World.drewN_drewN _ _ _⟩ | exact ⟨rfl, _, Eq.trans (World.drewN_drewN _ _ _) (congrArg (World.drewN _) (Nat.add_assoc _ _ _))⟩))))
    go_meet
    case rel => exact ⟨_, (true), (by first | rfl | (simp; done) | (simp [*]; done)), H', ⟨by first | omega | exact Nat.le_refl _⟩, ⟨by refine bk ?_; exact BK122.out⟩, ⟨by exact pbE HB.out⟩⟩
  ·replace c5 := Bool.eq_false_iff.mpr c5
   subst c5
   rw [if_neg (show ¬ (false = true) by decide)] at H
   have H' := Az.mk H
   clear H
   have hcz23 := cells6 BK122.out
   go_wp2_with (first | (go_at_call 21; (with_reducible refine (r06_id.calls a0_0 false _ A4.out).mono ?_); rintro e w' ⟨rfl, ⟨nd, rfl⟩⟩; (try first | exact ⟨rfl, _, World.drewN_drewN _ _ _⟩ | exact ⟨rfl, _, Eq.trans (World.drewN_drewN _ _ _) (congrArg (World.drewN _) (Nat.add_assoc _ _ _))⟩)))
   repeat (go_quiet (first | (go_at_call 21; (with_reducible refine (r06_id.calls a0_0 false _ A4.out).mono ?_); rintro e w' ⟨rfl, ⟨nd, rfl⟩⟩; (try first | exact ⟨rfl, _, World.drewN_drewN _ _ _⟩ | exact ⟨rfl, _, Eq.trans (World.drewN_drewN _ _ _) (congrArg (World.drewN _) (Nat.add_assoc _ _ _))⟩))); try go_wp2_with (first | (go_at_call 21; (with_reducible refine (r06_id.calls a0_0 false _ A4.out).mono ?_); rintro e w' ⟨rfl, ⟨nd, rfl⟩⟩; (try first | exact ⟨rfl, _, World.drewN_drewN _ _ _⟩ | exact ⟨rfl, _, Eq.trans (World.drewN_drewN _ _ _) (congrArg (World.drewN _) (Nat.add_assoc _ _ _))⟩))))
   go_meet
   case rel => exact ⟨_, (true), (by first | rfl | (simp; done) | (simp [*]; done)), H', ⟨by first | omega | exact Nat.le_refl _⟩, ⟨by refine bk ?_; exact BK122.out⟩, ⟨by exact pbE HB.out⟩⟩
 case rest =>
  clear HC2
  try clear c1
  try clear p2
  try clear c5
  try clear c7
  try clear c8
  try clear c9
  try clear c11
  try clear c12
  try clear c12b0
  try clear c12b1
  try clear hcz13
  try clear hcz15
  try clear hcz16
  try clear hcz18
  try clear hcz19
  try clear hcz21
  try clear hcz22
  try clear hcz23
  obtain ⟨kq, x39_1, rfl, HA, HJ1, BK122, HB⟩ := hcut
  cases kq with
  | zero => exact absurd HA.out (by simp [r06_Is.j0])
  | succ kj1 =>
   have H := HA.out
   clear HA
   simp only [r06_Is.j0] at H
   by_cases c24 : x39_1 = true
   ·subst c24
    rw [if_pos rfl] at H
    obtain rfl := Option.some.inj H
    go_wp2
    repeat (go_quiet (fail); try go_wp2)
    go_ret
    exact ⟨by first | rfl | (simp [errW_none, errW_some] <;> rfl) | (simp [*, errW_none, errW_some] <;> rfl), by exact pbE HB.out⟩
   ·replace c24 := Bool.eq_false_iff.mpr c24
    subst c24
    rw [if_neg (show ¬ (false = true) by decide)] at H
    have H' := Az.mk H
    clear H
    go_wp2
    repeat (go_quiet (fail); try go_wp2)
    go_loopg [3] kj1 (fun kq v3 w' => ∃ (x3_2 : Int), v3 = .int .i64 x3_2 ∧ Az (r06_Is.l0 kq x3_2 a0_0 a0_1 a0_2 a0_3 l0_4 a0_5 = some r) ∧ Az (kq ≤ kj1) ∧ Az (w'.heap[gb122]? = some (.cells #[.int .i64 a0_0, .string a0_1, .string a0_2, .int .i64 a0_3, (.slice A0_4 l0_4.length c0_4), .int .i64 a0_5] 27 (0, 0))) ∧ Az (Below w.heap.size w w'))
    case atStart => exact ⟨(0), (by first | rfl | (simp; done) | (simp [*]; done)), H', ⟨Nat.le_refl _⟩, ⟨by refine bk ?_; exact BK122.out⟩, ⟨by exact pbE HB.out⟩⟩
    case round =>
     clear H'
     try clear c1
     try clear c2
     try clear p2
     try clear c5
     try clear c7
     try clear c8
     try clear c9
     try clear c11
     try clear c12
     try clear c12b0
     try clear c12b1
     try clear c24
     try clear hcz13
     try clear hcz15
     try clear hcz16
     try clear hcz18
     try clear hcz19
     try clear hcz21
     try clear hcz22
     try clear hcz23
     try clear p2
     obtain ⟨x3_2, rfl, HA, HK2, BK122, HB⟩ := hrel
     cases gk with
     | zero => exact absurd HA.out (by simp [r06_Is.l0])
     | succ k2 =>
      have H := HA.out
      clear HA
      simp only [r06_Is.l0] at H
      by_cases c25 : x3_2 < (l0_4.length : Int)
      ·rw [if_pos c25] at H
       have c25b0 : decide (x3_2 < (l0_4.length : Int)) = true := decide_eq_true c25
       clear c25
       by_cases c26 : 0 ≤ x3_2
       ·rw [if_pos c26] at H
        have c26b0 : decide (0 ≤ x3_2) = true := decide_eq_true c26
        clear c26
        have HC27 := Az.mk H
        clear H
        have hcz28 := cells6 BK122.out
        have p127 : 0 ≤ (x3_2 : Int) := of_decide_eq_true (by first | (with_reducible assumption) | assumption)
        have q127 : x3_2 < (l0_4.length : Int) := of_decide_eq_true (by first | (with_reducible assumption) | assumption)
        obtain ⟨ad127, e127, hx127_0, hx127_1⟩ := at_T47 HR0_4.out x3_2 p127 q127
        cases e127
        replace hx127_0 := (HB.out.cell (World.block_lt_of_cell? w _ hx127_0)).trans hx127_0
        replace hx127_1 := (HB.out.cell (World.block_lt_of_cell? w _ hx127_1)).trans hx127_1
        replace p127 := eq_true p127
        replace q127 := eq_true q127
        go_upto_region 7 with (first | ((with_reducible refine gate_dst (N := 4) rfl ?_); (try (refine gate_guard (by rfl) ?_; dsimp only)); refine box_event ?hg (N := 4) ?hd (cs := #[.int .i64 0, .int .i64 0]) (t := 47) ?hr ?_; (case hd => rfl); (case hg => rfl); (case hr => first | (go_simp; done) | (go_simp; rfl)); intro gb128 hg w29 hbox hb; have BK128 := Az.mk (hbox); have GW128 := Az.mk (geO hg (pbE HB.out)); have GE128 := Az.mk (geO hg (pbE HB.out)); replace HB := Az.mk (pbT (by exact pbE HB.out) hb); have NB122_128 := Az.mk (neO hg (bk BK122.out)); have NB128_122 := Az.mk (neP hg (bk BK122.out)); replace BK122 := Az.mk (bkB (bk BK122.out) hb); clear hb hbox hg; have hnb30 := NB128_122.out; have hnc30 := NB122_128.out; have hcz31 := cells2 BK128.out))
        repeat (go_quiet (first | ((with_reducible refine gate_dst (N := 4) rfl ?_); (try (refine gate_guard (by rfl) ?_; dsimp only)); refine box_event ?hg (N := 4) ?hd (cs := #[.int .i64 0, .int .i64 0]) (t := 47) ?hr ?_; (case hd => rfl); (case hg => rfl); (case hr => first | (go_simp; done) | (go_simp; rfl)); intro gb128 hg w29 hbox hb; have BK128 := Az.mk (hbox); have GW128 := Az.mk (geO hg (pbE HB.out)); have GE128 := Az.mk (geO hg (pbE HB.out)); replace HB := Az.mk (pbT (by exact pbE HB.out) hb); have NB122_128 := Az.mk (neO hg (bk BK122.out)); have NB128_122 := Az.mk (neP hg (bk BK122.out)); replace BK122 := Az.mk (bkB (bk BK122.out) hb); clear hb hbox hg; have hnb30 := NB128_122.out; have hnc30 := NB122_128.out; have hcz31 := cells2 BK128.out)); go_upto_region 7 with (first | ((with_reducible refine gate_dst (N := 4) rfl ?_); (try (refine gate_guard (by rfl) ?_; dsimp only)); refine box_event ?hg (N := 4) ?hd (cs := #[.int .i64 0, .int .i64 0]) (t := 47) ?hr ?_; (case hd => rfl); (case hg => rfl); (case hr => first | (go_simp; done) | (go_simp; rfl)); intro gb128 hg w29 hbox hb; have BK128 := Az.mk (hbox); have GW128 := Az.mk (geO hg (pbE HB.out)); have GE128 := Az.mk (geO hg (pbE HB.out)); replace HB := Az.mk (pbT (by exact pbE HB.out) hb); have NB122_128 := Az.mk (neO hg (bk BK122.out)); have NB128_122 := Az.mk (neP hg (bk BK122.out)); replace BK122 := Az.mk (bkB (bk BK122.out) hb); clear hb hbox hg; have hnb30 := NB128_122.out; have hnc30 := NB122_128.out; have hcz31 := cells2 BK128.out)))
        (try simp only [Act.put, List.setIfInBounds_toArray, List.set_cons_zero, List.set_cons_succ])
        go_cut [87] (fun v87 wc => ∃ (kq : Nat) (x87_26 : Bool), v87 = .bool x87_26 ∧ Az (r06_Is.j2 kq x3_2 x87_26 a0_0 a0_1 a0_2 a0_3 l0_4 a0_5 ((rd_T47 l0_4 x3_2).f0) ((rd_T47 l0_4 x3_2).f1) = some r) ∧ Az (kq ≤ k2) ∧ Az (wc.heap[gb122]? = some (.cells #[.int .i64 a0_0, .string a0_1, .string a0_2, .int .i64 a0_3, (.slice (some ad127) l0_4.length c0_4), .int .i64 a0_5] 27 (0, 0))) ∧ Az (wc.heap[gb128]? = some (.cells #[.int .i64 ((rd_T47 l0_4 x3_2).f0), .int .i64 ((rd_T47 l0_4 x3_2).f1)] 47 (0, 0))) ∧ Az (Below w.heap.size w wc))
        case first =>
         have H := HC27.out
         clear HC27
         by_cases c32 : ((rd_T47 l0_4 x3_2).f0) < 1
         ·rw [if_pos c32] at H
          have c32b0 : decide (((rd_T47 l0_4 x3_2).f0) < 1) = true := decide_eq_true c32
          clear c32
          (first | rw [c32b0] | (simp only [i64_w, i32_w]; rw [c32b0]) | skip)
          have H' := Az.mk H
          clear H
          have hnb33 := NB128_122.out
          have hnc33 := NB122_128.out
          have hcz34 := cells2 BK128.out
          go_wp2
          repeat (go_quiet (fail); try go_wp2)
          go_meet
          case rel => exact ⟨_, (true), (by first | rfl | (simp; done) | (simp [*]; done)), H', ⟨by have := HJ1.out; have := HK2.out; first | omega | exact Nat.le_refl _⟩, ⟨by exact bf BK122.out⟩, ⟨by refine bk ?_; refine blk_put (cs := #[.int .i64 ((rd_T47 l0_4 x3_2).f0), .int .i64 0]) ?_ 1 _ rfl; refine bk ?_; refine blk_put (cs := #[.int .i64 0, .int .i64 0]) ?_ 0 _ rfl; refine bk ?_; exact BK128.out⟩, ⟨by exact pbE HB.out⟩⟩
         ·rw [if_neg c32] at H
          have c32b0 : decide (((rd_T47 l0_4 x3_2).f0) < 1) = false := decide_eq_false c32
          clear c32
          (first | rw [c32b0] | (simp only [i64_w, i32_w]; rw [c32b0]) | skip)
          by_cases c35 : ((rd_T47 l0_4 x3_2).f0) > 7
          ·rw [if_pos c35] at H
           have c35b0 : decide (7 < ((rd_T47 l0_4 x3_2).f0)) = true := decide_eq_true c35
           clear c35
           have H' := Az.mk H
           clear H
           have hnb36 := NB128_122.out
           have hnc36 := NB122_128.out
           have hcz37 := cells2 BK128.out
           go_wp2
           repeat (go_quiet (fail); try go_wp2)
           go_meet
           case rel => exact ⟨_, (true), (by first | rfl | (simp; done) | (simp [*]; done)), H', ⟨by have := HJ1.out; have := HK2.out; first | omega | exact Nat.le_refl _⟩, ⟨by exact bf BK122.out⟩, ⟨by refine bk ?_; refine blk_put (cs := #[.int .i64 ((rd_T47 l0_4 x3_2).f0), .int .i64 0]) ?_ 1 _ rfl; refine bk ?_; refine blk_put (cs := #[.int .i64 0, .int .i64 0]) ?_ 0 _ rfl; refine bk ?_; exact BK128.out⟩, ⟨by exact pbE HB.out⟩⟩
          ·rw [if_neg c35] at H
           have c35b0 : decide (7 < ((rd_T47 l0_4 x3_2).f0)) = false := decide_eq_false c35
           clear c35
           by_cases c38 : ((rd_T47 l0_4 x3_2).f1) < 1
           ·rw [if_pos c38] at H
            have c38b0 : decide (((rd_T47 l0_4 x3_2).f1) < 1) = true := decide_eq_true c38
            clear c38
            have H' := Az.mk H
            clear H
            have hnb39 := NB128_122.out
            have hnc39 := NB122_128.out
            have hcz40 := cells2 BK128.out
            go_wp2
            repeat (go_quiet (fail); try go_wp2)
            go_meet
            case rel => exact ⟨_, (true), (by first | rfl | (simp; done) | (simp [*]; done)), H', ⟨by have := HJ1.out; have := HK2.out; first | omega | exact Nat.le_refl _⟩, ⟨by exact bf BK122.out⟩, ⟨by refine bk ?_; refine blk_put (cs := #[.int .i64 ((rd_T47 l0_4 x3_2).f0), .int .i64 0]) ?_ 1 _ rfl; refine bk ?_; refine blk_put (cs := #[.int .i64 0, .int .i64 0]) ?_ 0 _ rfl; refine bk ?_; exact BK128.out⟩, ⟨by exact pbE HB.out⟩⟩
           ·rw [if_neg c38] at H
            have c38b0 : decide (((rd_T47 l0_4 x3_2).f1) < 1) = false := decide_eq_false c38
            clear c38
            by_cases c41 : ((rd_T47 l0_4 x3_2).f1) ≥ a0_5
            ·rw [if_pos c41] at H
             have c41b0 : decide (a0_5 ≤ ((rd_T47 l0_4 x3_2).f1)) = true := decide_eq_true c41
             clear c41
             have H' := Az.mk H
             clear H
             have hnb42 := NB128_122.out
             have hnc42 := NB122_128.out
             have hcz43 := cells2 BK128.out
             have hcz44 := cells6 BK122.out
             go_wp2
             repeat (go_quiet (fail); try go_wp2)
             go_meet
             case rel => exact ⟨_, (true), (by first | rfl | (simp; done) | (simp [*]; done)), H', ⟨by have := HJ1.out; have := HK2.out; first | omega | exact Nat.le_refl _⟩, ⟨by exact bf BK122.out⟩, ⟨by refine bk ?_; refine blk_put (cs := #[.int .i64 ((rd_T47 l0_4 x3_2).f0), .int .i64 0]) ?_ 1 _ rfl; refine bk ?_; refine blk_put (cs := #[.int .i64 0, .int .i64 0]) ?_ 0 _ rfl; refine bk ?_; exact BK128.out⟩, ⟨by exact pbE HB.out⟩⟩
            ·rw [if_neg c41] at H
             have c41b0 : decide (a0_5 ≤ ((rd_T47 l0_4 x3_2).f1)) = false := decide_eq_false c41
             clear c41
             by_cases c45 : x3_2 > 0
             ·rw [if_pos c45] at H
              have c45b0 : decide (0 < x3_2) = true := decide_eq_true c45
              clear c45
              obtain ⟨ji46, hji46⟩ : ∃ j_ : Int, (wrap64 (x3_2 - 1)) = j_ := ⟨_, rfl⟩
              replace H : (if 0 ≤ (ji46) then (if (ji46) < (l0_4.length : Int) then (r06_Is.j2 k2 x3_2 (decide (((rd_T47 l0_4 x3_2).f1) ≤ ((rd_T47 l0_4 (ji46)).f1))) a0_0 a0_1 a0_2 a0_3 l0_4 a0_5 ((rd_T47 l0_4 x3_2).f0) ((rd_T47 l0_4 x3_2).f1)) else (none)) else (none)) = some r := by first | (rw [hji46] at H; exact H) | (simp only [hji46] at H ⊢; exact H)
              have hji46w : (IntKind.i64.wrap (x3_2 - 1)) = ji46 := (i64_w _).trans hji46
              by_cases c47 : 0 ≤ (ji46)
              ·rw [if_pos c47] at H
               have c47b0 : decide (0 ≤ (ji46)) = true := decide_eq_true c47
               clear c47
               by_cases c48 : (ji46) < (l0_4.length : Int)
               ·rw [if_pos c48] at H
                have c48b0 : decide ((ji46) < (l0_4.length : Int)) = true := decide_eq_true c48
                clear c48
                have H' := Az.mk H
                clear H
                have hnb49 := NB128_122.out
                have hnc49 := NB122_128.out
                have hcz50 := cells2 BK128.out
                have hcz51 := cells6 BK122.out
                have p129 : 0 ≤ ((ji46) : Int) := of_decide_eq_true (by first | (with_reducible assumption) | assumption)
                have q129 : (ji46) < (l0_4.length : Int) := of_decide_eq_true (by first | (with_reducible assumption) | assumption)
                obtain ⟨ad129, e129, hx129_0, hx129_1⟩ := at_T47 HR0_4.out (ji46) p129 q129
                obtain rfl : ad127 = ad129 := (by injection e129)
                have hn129_0 : ad127.block ≠ gb128 := Nat.ne_of_lt (Nat.lt_of_lt_of_le (by have := World.block_lt_of_cell? _ _ hx129_0; first | rwa [add_block] at this | exact this) GW128.out)
                have hn129_1 : ad127.block ≠ gb128 := Nat.ne_of_lt (Nat.lt_of_lt_of_le (by have := World.block_lt_of_cell? _ _ hx129_0; first | rwa [add_block] at this | exact this) GW128.out)
                replace hx129_0 := (HB.out.cell (World.block_lt_of_cell? w _ hx129_0)).trans hx129_0
                replace hx129_1 := (HB.out.cell (World.block_lt_of_cell? w _ hx129_1)).trans hx129_1
                replace hx129_0 := (cell_far (p := ⟨gb128, 0, none⟩) (by first | (rw [add_block]; exact hn129_0) | (show (Addr.add _ _).block ≠ _; rw [add_block]; exact hn129_0) | exact hn129_0) (.int .i64 ((rd_T47 l0_4 x3_2).f0))).trans hx129_0
                replace hx129_1 := (cell_far (p := ⟨gb128, 0, none⟩) (by first | (rw [add_block]; exact hn129_0) | (show (Addr.add _ _).block ≠ _; rw [add_block]; exact hn129_0) | exact hn129_0) (.int .i64 ((rd_T47 l0_4 x3_2).f0))).trans hx129_1
                replace hx129_0 := (cell_far (p := ⟨gb128, 1, none⟩) (by first | (rw [add_block]; exact hn129_1) | (show (Addr.add _ _).block ≠ _; rw [add_block]; exact hn129_1) | exact hn129_1) (.int .i64 ((rd_T47 l0_4 x3_2).f1))).trans hx129_0
                replace hx129_1 := (cell_far (p := ⟨gb128, 1, none⟩) (by first | (rw [add_block]; exact hn129_1) | (show (Addr.add _ _).block ≠ _; rw [add_block]; exact hn129_1) | exact hn129_1) (.int .i64 ((rd_T47 l0_4 x3_2).f1))).trans hx129_1
                (try have hy129_0 := fun (n_ : Nat) => (show ((((w29.drewN n_).setCell ⟨gb128, 0, none⟩ (.int .i64 ((rd_T47 l0_4 x3_2).f0))).setCell ⟨gb128, 1, none⟩ (.int .i64 ((rd_T47 l0_4 x3_2).f1)))).cell? _ = some _ from hx129_0))
                (try have hy129_1 := fun (n_ : Nat) => (show ((((w29.drewN n_).setCell ⟨gb128, 0, none⟩ (.int .i64 ((rd_T47 l0_4 x3_2).f0))).setCell ⟨gb128, 1, none⟩ (.int .i64 ((rd_T47 l0_4 x3_2).f1)))).cell? _ = some _ from hx129_1))
                clear hn129_0
                clear hn129_1
                replace p129 := eq_true p129
                replace q129 := eq_true q129
                go_wp2
                repeat (go_quiet (fail); try go_wp2)
                go_meet
                case rel => exact ⟨_, (decide (((rd_T47 l0_4 x3_2).f1) ≤ ((rd_T47 l0_4 (ji46)).f1))), (by first | rfl | (simp; done) | (simp only [← hji46] <;> (first | rfl | simp)) | (simp [*]; done)), H', ⟨by have := HJ1.out; have := HK2.out; first | omega | exact Nat.le_refl _⟩, ⟨by exact bf BK122.out⟩, ⟨by refine bk ?_; refine blk_put (cs := #[.int .i64 ((rd_T47 l0_4 x3_2).f0), .int .i64 0]) ?_ 1 _ rfl; refine bk ?_; refine blk_put (cs := #[.int .i64 0, .int .i64 0]) ?_ 0 _ rfl; refine bk ?_; exact BK128.out⟩, ⟨by exact pbE HB.out⟩⟩
               ·rw [if_neg c48] at H
                exact absurd H (by simp)
              ·rw [if_neg c47] at H
               exact absurd H (by simp)
             ·rw [if_neg c45] at H
              have c45b0 : decide (0 < x3_2) = false := decide_eq_false c45
              clear c45
              have H' := Az.mk H
              clear H
              have hnb52 := NB128_122.out
              have hnc52 := NB122_128.out
              have hcz53 := cells2 BK128.out
              have hcz54 := cells6 BK122.out
              go_wp2
              repeat (go_quiet (fail); try go_wp2)
              go_meet
              case rel => exact ⟨_, (false), (by first | rfl | (simp; done) | (simp [*]; done)), H', ⟨by have := HJ1.out; have := HK2.out; first | omega | exact Nat.le_refl _⟩, ⟨by exact bf BK122.out⟩, ⟨by refine bk ?_; refine blk_put (cs := #[.int .i64 ((rd_T47 l0_4 x3_2).f0), .int .i64 0]) ?_ 1 _ rfl; refine bk ?_; refine blk_put (cs := #[.int .i64 0, .int .i64 0]) ?_ 0 _ rfl; refine bk ?_; exact BK128.out⟩, ⟨by exact pbE HB.out⟩⟩
        case rest =>
         clear HC27
         try clear c1
         try clear p1
         try clear q1
         try clear hx1
         try clear c2
         try clear p2
         try clear c3
         try clear c4
         try clear c5
         try clear p6
         try clear c7
         try clear c8
         try clear c9
         try clear c11
         try clear c12
         try clear c12b0
         try clear c12b1
         try clear p12
         try clear q12
         try clear hx12
         try clear c24
         try clear c25
         try clear c25b0
         try clear c26
         try clear c26b0
         try clear c30
         try clear c32
         try clear c32b0
         try clear c33
         try clear c35
         try clear c35b0
         try clear c36
         try clear c38
         try clear c38b0
         try clear c39
         try clear c41
         try clear c41b0
         try clear c42
         try clear c45
         try clear c45b0
         try clear c47
         try clear c47b0
         try clear c48
         try clear c48b0
         try clear c49
         try clear c52
         try clear hcz13
         try clear hcz15
         try clear hcz16
         try clear hcz18
         try clear hcz19
         try clear hcz21
         try clear hcz22
         try clear hcz23
         try clear hcz28
         try clear hcz31
         try clear hcz34
         try clear hcz37
         try clear hcz40
         try clear hcz43
         try clear hcz44
         try clear hcz50
         try clear hcz51
         try clear hcz53
         try clear hcz54
         try clear hx127_0
         try clear hx127_1
         try clear hx129_0
         try clear hx129_1
         try clear p127
         try clear p129
         try clear p2
         try clear q127
         try clear q129
         obtain ⟨kq, x87_26, rfl, HA, HJ26, BK122, BK128, HB⟩ := hcut
         cases kq with
         | zero => exact absurd HA.out (by simp [r06_Is.j2])
         | succ kj26 =>
          have H := HA.out
          clear HA
          simp only [r06_Is.j2] at H
          by_cases c55 : x87_26 = true
          ·subst c55
           rw [if_pos rfl] at H
           obtain rfl := Option.some.inj H
           go_wp2
           repeat (go_quiet (fail); try go_wp2)
           go_ret
           exact ⟨by first | rfl | (simp [errW_none, errW_some] <;> rfl) | (simp [*, errW_none, errW_some] <;> rfl), by exact pbE HB.out⟩
          ·replace c55 := Bool.eq_false_iff.mpr c55
           subst c55
           rw [if_neg (show ¬ (false = true) by decide)] at H
           have H' := Az.mk H
           clear H
           go_wp2
           repeat (go_quiet (fail); try go_wp2)
           go_loopg [5] kj26 (fun kq v5 w' => ∃ (x5_4 : Int), v5 = .int .i64 x5_4 ∧ Az (r06_Is.l1 kq x3_2 x5_4 a0_0 a0_1 a0_2 a0_3 l0_4 a0_5 ((rd_T47 l0_4 x3_2).f0) ((rd_T47 l0_4 x3_2).f1) = some r) ∧ Az (kq ≤ kj26) ∧ Az (w'.heap[gb122]? = some (.cells #[.int .i64 a0_0, .string a0_1, .string a0_2, .int .i64 a0_3, (.slice (some ad127) l0_4.length c0_4), .int .i64 a0_5] 27 (0, 0))) ∧ Az (w'.heap[gb128]? = some (.cells #[.int .i64 ((rd_T47 l0_4 x3_2).f0), .int .i64 ((rd_T47 l0_4 x3_2).f1)] 47 (0, 0))) ∧ Az (Below w.heap.size w w'))
           case atStart => exact ⟨(0), (by first | rfl | (simp; done) | (simp [*]; done)), H', ⟨Nat.le_refl _⟩, ⟨by refine bk ?_; exact BK122.out⟩, ⟨by refine bk ?_; exact BK128.out⟩, ⟨by exact pbE HB.out⟩⟩
           case round =>
            clear H'
            try clear c1
            try clear p1
            try clear q1
            try clear hx1
            try clear c2
            try clear p2
            try clear c3
            try clear c4
            try clear c5
            try clear p6
            try clear c7
            try clear c8
            try clear c9
            try clear c11
            try clear c12
            try clear c12b0
            try clear c12b1
            try clear p12
            try clear q12
            try clear hx12
            try clear c24
            try clear c25
            try clear c25b0
            try clear c26
            try clear c26b0
            try clear c30
            try clear c32
            try clear c32b0
            try clear c33
            try clear c35
            try clear c35b0
            try clear c36
            try clear c38
            try clear c38b0
            try clear c39
            try clear c41
            try clear c41b0
            try clear c42
            try clear c45
            try clear c45b0
            try clear c47
            try clear c47b0
            try clear c48
            try clear c48b0
            try clear c49
            try clear c52
            try clear c55
            try clear hcz13
            try clear hcz15
            try clear hcz16
            try clear hcz18
            try clear hcz19
            try clear hcz21
            try clear hcz22
            try clear hcz23
            try clear hcz28
            try clear hcz31
            try clear hcz34
            try clear hcz37
            try clear hcz40
            try clear hcz43
            try clear hcz44
            try clear hcz50
            try clear hcz51
            try clear hcz53
            try clear hcz54
            try clear hx127_0
            try clear hx127_1
            try clear hx129_0
            try clear hx129_1
            try clear p1
            try clear p12
            try clear p127
            try clear p129
            try clear p2
            try clear p6
            try clear q1
            try clear q12
            try clear q127
            try clear q129
            obtain ⟨x5_4, rfl, HA, HK4, BK122, BK128, HB⟩ := hrel
            cases gk with
            | zero => exact absurd HA.out (by simp [r06_Is.l1])
            | succ k4 =>
             have H := HA.out
             clear HA
             simp only [r06_Is.l1] at H
             by_cases c56 : x5_4 < x3_2
             ·rw [if_pos c56] at H
              have c56b0 : decide (x5_4 < x3_2) = true := decide_eq_true c56
              clear c56
              by_cases c57 : 0 ≤ x5_4
              ·rw [if_pos c57] at H
               have c57b0 : decide (0 ≤ x5_4) = true := decide_eq_true c57
               clear c57
               by_cases c58 : x5_4 < (l0_4.length : Int)
               ·rw [if_pos c58] at H
                have c58b0 : decide (x5_4 < (l0_4.length : Int)) = true := decide_eq_true c58
                clear c58
                by_cases c59 : ((rd_T47 l0_4 x5_4).f0) = ((rd_T47 l0_4 x3_2).f0)
                ·rw [if_pos c59] at H
                 have c59b0 : (((rd_T47 l0_4 x5_4).f0) == ((rd_T47 l0_4 x3_2).f0)) = true := beq_iff_eq.mpr c59
                 have c59b1 : (((rd_T47 l0_4 x5_4).f0) != ((rd_T47 l0_4 x3_2).f0)) = false := bne_eq_false_iff_eq.mpr c59
                 clear c59
                 obtain rfl := Option.some.inj H
                 have hnb60 := NB122_128.out
                 have hnc60 := NB128_122.out
                 have hcz61 := cells6 BK122.out
                 have p130 : 0 ≤ (x5_4 : Int) := of_decide_eq_true (by first | (with_reducible assumption) | assumption)
                 have q130 : x5_4 < (l0_4.length : Int) := of_decide_eq_true (by first | (with_reducible assumption) | assumption)
                 obtain ⟨ad130, e130, hx130_0, hx130_1⟩ := at_T47 HR0_4.out x5_4 p130 q130
                 obtain rfl : ad127 = ad130 := (by injection e130)
                 replace hx130_0 := (HB.out.cell (World.block_lt_of_cell? w _ hx130_0)).trans hx130_0
                 replace hx130_1 := (HB.out.cell (World.block_lt_of_cell? w _ hx130_1)).trans hx130_1
                 replace p130 := eq_true p130
                 replace q130 := eq_true q130
                 have hcz62 := cells2 BK128.out
                 go_wp2
                 repeat (go_quiet (fail); try go_wp2)
                 go_ret
                 exact ⟨by first | rfl | (simp [errW_none, errW_some] <;> rfl) | (simp [*, errW_none, errW_some] <;> rfl), by exact pbE HB.out⟩
                ·rw [if_neg c59] at H
                 have c59b0 : (((rd_T47 l0_4 x5_4).f0) == ((rd_T47 l0_4 x3_2).f0)) = false := beq_eq_false_iff_ne.mpr c59
                 have c59b1 : (((rd_T47 l0_4 x5_4).f0) != ((rd_T47 l0_4 x3_2).f0)) = true := bne_iff_ne.mpr c59
                 have H' := Az.mk H
                 clear H
                 have hnb63 := NB122_128.out
                 have hnc63 := NB128_122.out
                 have hcz64 := cells6 BK122.out
                 have p130 : 0 ≤ (x5_4 : Int) := of_decide_eq_true (by first | (with_reducible assumption) | assumption)
                 have q130 : x5_4 < (l0_4.length : Int) := of_decide_eq_true (by first | (with_reducible assumption) | assumption)
                 obtain ⟨ad130, e130, hx130_0, hx130_1⟩ := at_T47 HR0_4.out x5_4 p130 q130
                 obtain rfl : ad127 = ad130 := (by injection e130)
                 replace hx130_0 := (HB.out.cell (World.block_lt_of_cell? w _ hx130_0)).trans hx130_0
                 replace hx130_1 := (HB.out.cell (World.block_lt_of_cell? w _ hx130_1)).trans hx130_1
                 replace p130 := eq_true p130
                 replace q130 := eq_true q130
                 have hcz65 := cells2 BK128.out
                 go_wp2
                 repeat (go_quiet (fail); try go_wp2)
                 go_roundg k4
                 case measure => have := HJ1.out; have := HK2.out; have := HJ26.out; have := HK4.out; omega
                 case rel => exact ⟨(wrap64 (x5_4 + 1)), (by first | rfl | (simp; done) | (simp [*]; done)), H', ⟨by have := HJ1.out; have := HK2.out; have := HJ26.out; have := HK4.out; omega⟩, ⟨by refine bk ?_; exact BK122.out⟩, ⟨by refine bk ?_; exact BK128.out⟩, ⟨by exact pbE HB.out⟩⟩
               ·rw [if_neg c58] at H
                exact absurd H (by simp)
              ·rw [if_neg c57] at H
               exact absurd H (by simp)
             ·rw [if_neg c56] at H
              have c56b0 : decide (x5_4 < x3_2) = false := decide_eq_false c56
              clear c56
              have H' := Az.mk H
              clear H
              go_wp2
              repeat (go_quiet (fail); try go_wp2)
              go_roundg k4
              case measure => have := HJ1.out; have := HK2.out; have := HJ26.out; have := HK4.out; omega
              case rel => exact ⟨(wrap64 (x3_2 + 1)), (by first | rfl | (simp; done) | (simp [*]; done)), H', ⟨by have := HJ1.out; have := HK2.out; have := HJ26.out; have := HK4.out; omega⟩, ⟨by refine bk ?_; exact BK122.out⟩, ⟨by exact pbE HB.out⟩⟩
       ·rw [if_neg c26] at H
        exact absurd H (by simp)
      ·rw [if_neg c25] at H
       have c25b0 : decide (x3_2 < (l0_4.length : Int)) = false := decide_eq_false c25
       clear c25
       obtain rfl := Option.some.inj H
       have hcz66 := cells6 BK122.out
       go_wp2
       repeat (go_quiet (fail); try go_wp2)
       go_ret
       exact ⟨by first | rfl | (simp [errW_none, errW_some] <;> rfl) | (simp [*, errW_none, errW_some] <;> rfl), by exact pbE HB.out⟩
end Go.Proofs.Ytppdcldbebnmlaa.P
end
