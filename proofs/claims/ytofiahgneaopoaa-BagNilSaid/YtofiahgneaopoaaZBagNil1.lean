import Derived.Test.YtofiahgneaopoaaZBagNil0
import Derived.ArgAppend
import Derived.Below
import Derived.BigQuiet
import Derived.ChangeOld
import Derived.DataReads
import Derived.Deep.AppendLies
import Derived.Deep.CutBlock
import Derived.Deep.DeepCutAuto
import Derived.Deep.DrawnRows
import Derived.Deep.Draws
import Derived.Deep.LoopGhost
import Derived.Deep.OwnRows
import Derived.Deep.QuietTactic
import Derived.Deep.RegionHeld3
import Derived.KernelRfl
import Derived.Laws.BitsLemmas
import Derived.Laws.BytesArg
import Derived.Laws.IdiomCopy
import Derived.Laws.MakeOwn
import Derived.Laws.OwnMore
import Derived.Laws.Rows
import Derived.Laws.Slices
import Derived.Lib.AppendStr
import Derived.Lib.ConvBytes
import Derived.Lib.Hide
import Derived.Lib.Strings
import Derived.Maps.AppendAt
import Derived.Maps.OwnSet
import Derived.OpenShut
import Derived.OrdersHeld
import Derived.OwnWalk
import Derived.ProofKit
import Derived.RowKit
import Derived.RowKit3
import Derived.ShutString
import Derived.SizedLaws
import Derived.Tactics
import Derived.WalkKit
import Derived.WideLaws
import GoSem.ClaimJoined
import Derived.Test.YtofiahgneaopoaaProg
import Derived.Test.YtofiahgneaopoaaRows
set_option linter.unusedVariables false
set_option linter.unusedSimpArgs false
set_option linter.unnecessarySimpa false
section
namespace Go.Proofs.Ytofiahgneaopoaa.O
open Go Go.RowKit Go.Proofs.YtofiahgneaopoaaW.PrintWords
/-- What is read as data of type t has cells of kind d, and is well formed and within the reach (ok). -/
def Opn {α : Type} (P : Program) (t : TypeId) (d : Kd α) (ok : α → Prop) : Prop :=
 ∀ (H : Type) (enc : TypeId × Value → H) (w : World) (base : Nat) (sp : Nat → Bool) (held : Bool) (fuel : Nat) (cs : List Value) (y : DataW H) (ps : List MemPlace),
  DataW.trod enc P w base sp held fuel t cs = some (y, ps) → (∀ n ∈ DataW.weights P t y, n ≤ reachBytes) → ∃ x, d.K w x cs ∧ ok x
variable {P : Program} {t : TypeId}
theorem Opn.bool (hu : P.underlying t = some .bool) : Opn P t Kd.bool (fun _ => True) := by
 intro H enc w base sp held fuel cs y ps h _
 cases fuel with
 | zero => simp [DataW.trod] at h
 | succ f =>
  unfold DataW.trod at h
  rw [hu] at h
  cases cs with
  | nil => simp at h
  | cons v l =>
   cases l with
   | cons _ _ => cases v <;> simp at h
   | nil => cases v <;> first | exact ⟨_, rfl, trivial⟩ | (simp at h)
theorem Opn.int {k : IntKind} (hu : P.underlying t = some (.int k)) : Opn P t (Kd.int k) (fun n => (Lit.int k n).wf = true) := by
 intro H enc w base sp held fuel cs y ps h _
 cases fuel with
 | zero => simp [DataW.trod] at h
 | succ f =>
  unfold DataW.trod at h
  rw [hu] at h
  cases cs with
  | nil => simp at h
  | cons v l =>
   cases l with
   | cons _ _ => cases v <;> simp at h
   | nil =>
    cases v
    case int k' n =>
     simp only at h
     split at h
     ·rename_i hc
      obtain ⟨rfl, hw⟩ := hc
      exact ⟨n, rfl, hw⟩
     ·exact absurd h (by simp)
    all_goals simp at h
theorem Opn.string (hu : P.underlying t = some .string) : Opn P t Kd.string (fun s => s.size ≤ reachBytes) := by
 intro H enc w base sp held fuel cs y ps h hw
 cases fuel with
 | zero => simp [DataW.trod] at h
 | succ f =>
  unfold DataW.trod at h
  rw [hu] at h
  cases cs with
  | nil => simp at h
  | cons v l =>
   cases l with
   | cons _ _ => cases v <;> simp at h
   | nil =>
    cases v
    case string s =>
     simp only at h
     split at h
     ·simp only [Option.some.injEq, Prod.mk.injEq] at h
      obtain ⟨rfl, _⟩ := h
      refine ⟨s, rfl, ?_⟩
      have := hw s.data.toList.length (by simp [DataW.weights])
      rw [← Lib.size_eq] at this
      exact this
     ·exact absurd h (by simp)
    all_goals simp at h
theorem weightsAll_mem {H : Type} {P : Program} {e : TypeId} : ∀ {l : List (DataW H)} {d : DataW H}, d ∈ l → ∀ n ∈ DataW.weights P e d, n ∈ DataW.weightsAll P e l
 | a :: l, d, hd, n, hn => by
  simp only [DataW.weightsAll, List.mem_append]
  rcases List.mem_cons.1 hd with rfl | hd
  ·exact .inl hn
  ·exact .inr (weightsAll_mem hd n hn)
theorem mapM_some {α β : Type} {f : α → Option β} : ∀ {l : List α} {r : List β}, l.mapM f = some r → r.length = l.length ∧ ∀ i (hi : i < l.length), ∃ b, r[i]? = some b ∧ f l[i] = some b
 | [], r, h => by simp at h; subst h; exact ⟨rfl, fun i hi => by simp at hi⟩
 | a :: l, r, h => by
  simp only [List.mapM_cons, Option.pure_def, Option.bind_eq_bind, Option.bind_eq_some_iff, Option.some.injEq] at h
  obtain ⟨b, hb, r', hr, rfl⟩ := h
  obtain ⟨h1, h2⟩ := mapM_some hr
  refine ⟨by simp [h1], fun i hi => ?_⟩
  cases i with
  | zero => exact ⟨b, rfl, hb⟩
  | succ i => exact h2 i (by simpa using hi)
theorem choose_list {α : Type} (n : Nat) (Q : Nat → α → Prop) (h : ∀ i, i < n → ∃ x, Q i x) : ∃ xs : List α, xs.length = n ∧ ∀ i x, xs[i]? = some x → Q i x := by
 induction n with
 | zero => exact ⟨[], rfl, fun i x hx => by simp at hx⟩
 | succ n ih =>
  obtain ⟨xs, h1, h2⟩ := ih (fun i hi => h i (by omega))
  obtain ⟨x, hx⟩ := h n (by omega)
  refine ⟨xs ++ [x], by simp [h1], fun i y hy => ?_⟩
  rcases Nat.lt_or_ge i n with hi | hi
  ·rw [List.getElem?_append_left (by omega)] at hy; exact h2 i y hy
  ·rw [List.getElem?_append_right (by omega)] at hy
   have : i - xs.length = 0 := by
    rcases Nat.eq_zero_or_pos (i - xs.length) with h0 | h0
    ·exact h0
    ·rw [List.getElem?_eq_none (by simp; omega)] at hy; simp at hy
   rw [this] at hy
   simp at hy
   subst hy
   rw [show i = n by omega]; exact hx
theorem add_add_ (a : Addr) (i j : Nat) : (a.add i).add j = a.add (i + j) := by
 unfold Addr.add
 by_cases hi : i = 0 <;> by_cases hj : j = 0 <;> simp [hi, hj, Nat.add_assoc]
theorem Opn.slice {α : Type} {e : TypeId} {d : Kd α} {ok : α → Prop} {B : Nat} (hu : P.underlying t = some (.slice e)) (hc : P.cellsOf e = d.sz) (hB : P.bytesOf e = B) (ho : Opn P e d ok) :
 Opn P t (Kd.slice e d) (fun xs => xs.length * B ≤ reachBytes ∧ xs.length ≤ maxLen ∧ ∀ x ∈ xs, ok x) := by
 intro H enc w base sp held fuel cs y ps h hw
 cases fuel with
 | zero => simp [DataW.trod] at h
 | succ f =>
  unfold DataW.trod at h
  rw [hu] at h
  cases cs with
  | nil => simp at h
  | cons v l =>
   cases l with
   | cons _ _ => cases v <;> simp at h
   | nil =>
    cases v
    case slice A n c =>
     cases A with
     | none =>
      have hz : n = 0 ∧ c = 0 := by
       cases n <;> cases c <;> simp at h ⊢
      obtain ⟨rfl, rfl⟩ := hz
      exact ⟨[], ⟨none, 0, rfl, Nat.le_refl _, Kd.C_nil _ _⟩, by simp [reachBytes], by simp, by simp⟩
     | some a =>
      simp only at h
      split at h
      ·rename_i hcnd
       obtain ⟨_, hle, hmx⟩ := hcnd
       rw [Option.bind_eq_some_iff] at h
       obtain ⟨elems, he, h⟩ := h
       rw [Option.map_eq_some_iff] at h
       obtain ⟨rest, hr, h⟩ := h
       simp only [Prod.mk.injEq] at h
       obtain ⟨rfl, _⟩ := h
       obtain ⟨hl, hi⟩ := mapM_some he
       rw [List.length_range] at hl
       have hwt : ∀ (i : Nat) (b : DataW H × List MemPlace), elems[i]? = some b → ∀ m ∈ DataW.weights P e b.1, m ≤ reachBytes := by
        intro i b hb m hm
        refine hw m ?_
        simp only [DataW.weights, hu, List.mem_cons, List.mem_append]
        exact .inr (.inl (weightsAll_mem (List.mem_map.2 ⟨b, List.mem_of_getElem? hb, rfl⟩) m hm))
       obtain ⟨xs, hxl, hxs⟩ := choose_list n (fun i x => (∃ cs, (w.cells? base (a.add (i * P.cellsOf e)) (P.cellsOf e)) = some cs ∧ d.K w x cs) ∧ ok x) (by
        intro i hin
        obtain ⟨b, hb, hf⟩ := hi i (by rw [List.length_range]; exact hin)
        rw [List.getElem_range, Option.bind_eq_some_iff] at hf
        obtain ⟨cs, h1, h2⟩ := hf
        obtain ⟨x, hx, hok⟩ := ho H enc w base sp held f cs b.1 b.2 h2 (hwt i b hb)
        exact ⟨x, ⟨cs, h1, hx⟩, hok⟩)
       subst hxl
       refine ⟨xs, ⟨some a, c, rfl, hle, rfl, ?_, ?_⟩, ?_, ?_, ?_⟩
       ·unfold maxLen at hmx; omega
       ·intro hpos
        refine ⟨a, rfl, fun j p hp => ?_⟩
        obtain ⟨⟨cs, h1, h2⟩, _⟩ := hxs j p hp
        refine ⟨cs, d.K_len h2, h2, fun i u hu2 => ?_⟩
        rw [hc] at h1
        obtain ⟨_, _, hcell⟩ := World.cells?_some h1
        have hlt := (List.getElem?_eq_some_iff.1 hu2).1
        rw [d.K_len h2] at hlt
        rw [← add_add_, hcell i hlt]
        exact hu2
       ·have := hw ((elems.length + rest.length) * P.bytesOf e) (by simp [DataW.weights, hu])
        rw [hB, hl] at this
        exact Nat.le_trans (Nat.mul_le_mul_right _ (by omega)) this
       ·omega
       ·intro x hx
        obtain ⟨i, hi2⟩ := List.getElem?_of_mem hx
        exact (hxs i x hi2).2
      ·exact absurd h (by simp)
    all_goals simp at h
def OpnF {α : Type} (P : Program) (d : Kd α) (ok : α → Prop) (fs : List Field) (off : Nat) : Prop :=
 ∀ (H : Type) (enc : TypeId × Value → H) (w : World) (base : Nat) (sp : Nat → Bool) (held : Bool) (fuel : Nat) (cs : List Value) (ys : List (DataW H × List MemPlace)),
  (fs.mapM fun f => DataW.trod enc P w base sp held fuel f.type ((cs.drop f.offset).take (P.cellsOf f.type))) = some ys → (∀ n ∈ DataW.weightsEach P (fs.map (·.type)) (ys.map (·.1)), n ≤ reachBytes) → ∃ x, d.K w x ((cs.drop off).take d.sz) ∧ ok x
theorem OpnF.one {α : Type} {d : Kd α} {ok : α → Prop} {f : Field} {off : Nat} (ho : f.offset = off) (hs : P.cellsOf f.type = d.sz) (h : Opn P f.type d ok) : OpnF P d ok [f] off := by
 intro H enc w base sp held fuel cs ys hm hw
 subst ho
 cases hy : DataW.trod enc P w base sp held fuel f.type ((cs.drop f.offset).take (P.cellsOf f.type)) with
 | none => simp [hy] at hm
 | some y =>
  simp [hy] at hm
  subst hm
  rw [hs] at hy
  exact h H enc w base sp held fuel _ y.1 y.2 hy (fun n hn => hw n (by simp [DataW.weightsEach]; exact hn))
theorem OpnF.cons {α β : Type} {d : Kd α} {d2 : Kd β} {ok : α → Prop} {ok2 : β → Prop} {f : Field} {fs : List Field} {off : Nat} (ho : f.offset = off) (hs : P.cellsOf f.type = d.sz) (h : Opn P f.type d ok) (h2 : OpnF P d2 ok2 fs (off + d.sz)) :
 OpnF P (Kd.pair d d2) (fun x => ok x.1 ∧ ok2 x.2) (f :: fs) off := by
 intro H enc w base sp held fuel cs ys hm hw
 subst ho
 cases hy : DataW.trod enc P w base sp held fuel f.type ((cs.drop f.offset).take (P.cellsOf f.type)) with
 | none => simp [hy] at hm
 | some y =>
  cases hz : (fs.mapM fun f => DataW.trod enc P w base sp held fuel f.type ((cs.drop f.offset).take (P.cellsOf f.type))) with
  | none => simp [hy, hz] at hm
  | some zs =>
   simp [hy, hz] at hm
   subst hm
   rw [hs] at hy
   obtain ⟨x, hx, hok⟩ := h H enc w base sp held fuel _ y.1 y.2 hy (fun n hn => hw n (by simp [DataW.weightsEach]; exact .inl hn))
   obtain ⟨x2, hx2, hok2⟩ := h2 H enc w base sp held fuel cs zs hz (fun n hn => hw n (by simp [DataW.weightsEach]; exact .inr (by simpa using hn)))
   refine ⟨(x, x2), ⟨_, _, ?_, hx, hx2⟩, hok, hok2⟩
   show (cs.drop f.offset).take (d.sz + d2.sz) = _
   rw [List.take_add, List.drop_drop]
theorem Opn.struct {α : Type} {d : Kd α} {ok : α → Prop} {fs : Array Field} (hu : P.underlying t = some (.struct fs)) (hs : P.cellsOf t = d.sz) (h : OpnF P d ok fs.toList 0) : Opn P t d ok := by
 intro H enc w base sp held fuel cs y ps hy hw
 cases fuel with
 | zero => simp [DataW.trod] at hy
 | succ f =>
  unfold DataW.trod at hy
  rw [hu] at hy
  simp only at hy
  split at hy
  ·rename_i hl
   rw [Option.map_eq_some_iff] at hy
   obtain ⟨ys, hm, he⟩ := hy
   simp only [Prod.mk.injEq] at he
   obtain ⟨rfl, _⟩ := he
   obtain ⟨x, hx, hok⟩ := h H enc w base sp held f cs ys hm (fun n hn => hw n (by simp only [DataW.weights, hu]; exact hn))
   rw [List.drop_zero, List.take_of_length_le (by omega)] at hx
   exact ⟨x, hx, hok⟩
  ·cases hy
theorem Opn.iso {α β : Type} {d : Kd α} {ok : α → Prop} {f : β → α} (g : α → β) (hg : ∀ x, f (g x) = x) (h : Opn P t d ok) : Opn P t (Kd.iso d f) (fun x => ok (f x)) := by
 intro H enc w base sp held fuel cs y ps hy hw
 obtain ⟨x, hx, hok⟩ := h H enc w base sp held fuel cs y ps hy hw
 exact ⟨g x, by show d.K w (f (g x)) cs; rw [hg]; exact hx, by simp only; rw [hg]; exact hok⟩
theorem Opn.imp {α : Type} {d : Kd α} {ok ok2 : α → Prop} (h : Opn P t d ok) (hi : ∀ x, ok x → ok2 x) : Opn P t d ok2 := by
 intro H enc w base sp held fuel cs y ps hy hw
 obtain ⟨x, hx, hok⟩ := h H enc w base sp held fuel cs y ps hy hw
 exact ⟨x, hx, hi x hok⟩
end Go.Proofs.Ytofiahgneaopoaa.O
end
section
namespace Go.Proofs.Ytofiahgneaopoaa.P
open Go.RowKit Go.Proofs.YtofiahgneaopoaaW.PrintWords Go.Proofs.YtofiahgneaopoaaW.PrintLast Go.Proofs.YtofiahgneaopoaaW.PrintMore
attribute [local go_sem] max2_int min2_int max_two min_two max_three min_three max_four min_four   -- for this text's walks alone
def errW : Option Int → Value
 | none => .nilIface
 | some c => .iface 0 (.int .i64 c)
theorem errW_none : errW none = .nilIface := rfl
theorem errW_some (c : Int) : errW (some c) = .iface 0 (.int .i64 c) := rfl
structure S30 where
 f0 : Int
 f1 : Int
 f2 : Int
 f3 : ByteArray
 f4 : Int
 f5 : Bool
 f6 : Int
def z30 : S30 := ⟨(0 : Int), (0 : Int), (0 : Int), (⟨#[]⟩ : ByteArray), (0 : Int), false, (0 : Int)⟩
def k30 : Kd S30 := Kd.iso (Kd.pair (Kd.int .i64) (Kd.pair (Kd.int .i64) (Kd.pair (Kd.int .i64) (Kd.pair Kd.string (Kd.pair (Kd.int .i64) (Kd.pair Kd.bool (Kd.int .u8))))))) (fun x : S30 => (x.f0, x.f1, x.f2, x.f3, x.f4, x.f5, x.f6))
theorem k30_open {w : World} {x : S30} {cs : List Value} (h : k30.K w x cs) : cs = [.int .i64 x.f0, .int .i64 x.f1, .int .i64 x.f2, .string x.f3, .int .i64 x.f4, .bool x.f5, .int .u8 x.f6] := by
 obtain ⟨_, _, rfl, rfl, ⟨_, _, rfl, rfl, ⟨_, _, rfl, rfl, ⟨_, _, rfl, rfl, ⟨_, _, rfl, rfl, ⟨_, _, rfl, rfl, rfl⟩⟩⟩⟩⟩⟩ := h
 exact rfl
theorem k30_openM {w : World} {base : Nat} {ok : Nat → Prop} {x : S30} {cs : List Value} (h : k30.M w base ok x cs) : cs = [.int .i64 x.f0, .int .i64 x.f1, .int .i64 x.f2, .string x.f3, .int .i64 x.f4, .bool x.f5, .int .u8 x.f6] := by
 obtain ⟨_, _, rfl, rfl, ⟨_, _, rfl, rfl, ⟨_, _, rfl, rfl, ⟨_, _, rfl, rfl, ⟨_, _, rfl, rfl, ⟨_, _, rfl, rfl, rfl⟩⟩⟩⟩⟩⟩ := h
 exact rfl
theorem k30_mk (w : World) (x : S30)  : k30.K w x [.int .i64 x.f0, .int .i64 x.f1, .int .i64 x.f2, .string x.f3, .int .i64 x.f4, .bool x.f5, .int .u8 x.f6] := ⟨[.int .i64 x.f0], [.int .i64 x.f1, .int .i64 x.f2, .string x.f3, .int .i64 x.f4, .bool x.f5, .int .u8 x.f6], rfl, rfl, ⟨[.int .i64 x.f1], [.int .i64 x.f2, .string x.f3, .int .i64 x.f4, .bool x.f5, .int .u8 x.f6], rfl, rfl, ⟨[.int .i64 x.f2], [.string x.f3, .int .i64 x.f4, .bool x.f5, .int .u8 x.f6], rfl, rfl, ⟨[.string x.f3], [.int .i64 x.f4, .bool x.f5, .int .u8 x.f6], rfl, rfl, ⟨[.int .i64 x.f4], [.bool x.f5, .int .u8 x.f6], rfl, rfl, ⟨[.bool x.f5], [.int .u8 x.f6], rfl, rfl, rfl⟩⟩⟩⟩⟩⟩
theorem k30_mkM (w : World) (base : Nat) (ok : Nat → Prop) (x : S30)  : k30.M w base ok x [.int .i64 x.f0, .int .i64 x.f1, .int .i64 x.f2, .string x.f3, .int .i64 x.f4, .bool x.f5, .int .u8 x.f6] := ⟨[.int .i64 x.f0], [.int .i64 x.f1, .int .i64 x.f2, .string x.f3, .int .i64 x.f4, .bool x.f5, .int .u8 x.f6], rfl, rfl, ⟨[.int .i64 x.f1], [.int .i64 x.f2, .string x.f3, .int .i64 x.f4, .bool x.f5, .int .u8 x.f6], rfl, rfl, ⟨[.int .i64 x.f2], [.string x.f3, .int .i64 x.f4, .bool x.f5, .int .u8 x.f6], rfl, rfl, ⟨[.string x.f3], [.int .i64 x.f4, .bool x.f5, .int .u8 x.f6], rfl, rfl, ⟨[.int .i64 x.f4], [.bool x.f5, .int .u8 x.f6], rfl, rfl, ⟨[.bool x.f5], [.int .u8 x.f6], rfl, rfl, rfl⟩⟩⟩⟩⟩⟩
def rd_T30 (xs : List S30) (i : Int) : S30 := xs.getD i.toNat z30
theorem at_T30 {w : World} {A : Option Addr} {n : Nat} {xs : List S30} (h : Kd.C k30 w A n xs) (i : Int) (h0 : 0 ≤ i) (h1 : i < n) : ∃ ad , A = some ad ∧ w.cell? (ad.add (i.toNat * 7)) = some (.int .i64 (rd_T30 xs i).f0) ∧ w.cell? ⟨(ad.add (i.toNat * 7)).block, (ad.add (i.toNat * 7)).off + 1, none⟩ = some (.int .i64 (rd_T30 xs i).f1) ∧ w.cell? ⟨(ad.add (i.toNat * 7)).block, (ad.add (i.toNat * 7)).off + 2, none⟩ = some (.int .i64 (rd_T30 xs i).f2) ∧ w.cell? ⟨(ad.add (i.toNat * 7)).block, (ad.add (i.toNat * 7)).off + 3, none⟩ = some (.string (rd_T30 xs i).f3) ∧ w.cell? ⟨(ad.add (i.toNat * 7)).block, (ad.add (i.toNat * 7)).off + 4, none⟩ = some (.int .i64 (rd_T30 xs i).f4) ∧ w.cell? ⟨(ad.add (i.toNat * 7)).block, (ad.add (i.toNat * 7)).off + 5, none⟩ = some (.bool (rd_T30 xs i).f5) ∧ w.cell? ⟨(ad.add (i.toNat * 7)).block, (ad.add (i.toNat * 7)).off + 6, none⟩ = some (.int .u8 (rd_T30 xs i).f6) := by
 obtain ⟨ad, c, e, _, hK, hc0⟩ := Kd.C_get h z30 i h0 h1
 have hc : ∀ j u, c[j]? = some u → w.cell? (ad.add (i.toNat * 7 + j)) = some u := hc0
 obtain rfl := k30_open hK
 exact ⟨ad, e, hc 0 _ rfl, by rw [← add_field _ _ 1 (by omega)]; exact hc 1 _ rfl, by rw [← add_field _ _ 2 (by omega)]; exact hc 2 _ rfl, by rw [← add_field _ _ 3 (by omega)]; exact hc 3 _ rfl, by rw [← add_field _ _ 4 (by omega)]; exact hc 4 _ rfl, by rw [← add_field _ _ 5 (by omega)]; exact hc 5 _ rfl, by rw [← add_field _ _ 6 (by omega)]; exact hc 6 _ rfl⟩
end Go.Proofs.Ytofiahgneaopoaa.P
end
section
namespace Go.Proofs.Ytofiahgneaopoaa.K
open Go.RowKit Go Go.Maps Go.ChangeMaps
abbrev Lts := Int → Option (ByteArray × Bool)
def putL (D : Lts) (n : Int) (x : ByteArray × Bool) : Lts := fun k => if k = n then some x else D k
def delL (D : Lts) (n : Int) : Lts := fun k => if k = n then none else D k
def lv (x : ByteArray × Bool) : Value := .agg #[.string x.1, .bool x.2]
/-- The block is a map of so many letters. -/
def MapIs (w : World) (m : Nat) (D : Lts) (cnt : Nat) : Prop :=
 ∃ es c, w.heap[m]? = some (.map es c) ∧ es.size = cnt ∧ (es.toList.map (·.key)).Nodup ∧ (∀ e ∈ es.toList, ∃ k x, e.key = .int .i64 k ∧ (Lit.int .i64 k).wf = true ∧ e.val = lv x ∧ D k = some x) ∧ ∀ k x, D k = some x → ∃ e ∈ es.toList, e.key = .int .i64 k
/-- All but one block is as it was. -/
structure One (m : Nat) (w w1 : World) : Prop where
 os : w1.os = w.os
 tape : w1.tape = w.tape
 output : w1.output = w.output
 size : w1.heap.size = w.heap.size
 block : ∀ k, k ≠ m → w1.heap[k]? = w.heap[k]?
theorem lawK : Keyed Try.prog 2 := int_keyed Try.underlying2
theorem keyK {n : Int} (h : (Lit.int .i64 n).wf = true) : keyOf Try.prog 2 (.int .i64 n) = some (.int .i64 n) := keyOf_int_mk Try.underlying2 h
theorem one_set {w : World} {m : Nat} (o : Obj) : One m w (setBlock w m o) :=
 ⟨rfl, rfl, rfl, by simp [setBlock], fun k hk => by simp only [setBlock]; rw [Array.getElem?_setIfInBounds_ne hk.symm]⟩
section
variable {w : World} {m : Nat} {D : Lts} {cnt : Nat}
theorem MapIs.find (h : MapIs w m D cnt) {n : Int} (hn : (Lit.int .i64 n).wf = true) :
 ∃ es c, w.heap[m]? = some (.map es c) ∧ es.size = cnt ∧ (es.toList.map (·.key)).Nodup ∧ (∀ e ∈ es.toList, ∃ k x, e.key = .int .i64 k ∧ (Lit.int .i64 k).wf = true ∧ e.val = lv x ∧ D k = some x) ∧ (∀ k x, D k = some x → ∃ e ∈ es.toList, e.key = .int .i64 k) ∧
  (((Instr.findKey 2 (.int .i64 n) es.toList).run Try.prog w = .ok none w ∧ D n = none ∧ ∀ e ∈ es.toList, e.key ≠ .int .i64 n) ∨
   ∃ j e x, (Instr.findKey 2 (.int .i64 n) es.toList).run Try.prog w = .ok (some (j, e.val)) w ∧ D n = some x ∧ e.val = lv x ∧ es.toList[j]? = some e ∧ e.key = .int .i64 n) := by
 obtain ⟨es, c, h1, h2, h3, h4, h5⟩ := h
 refine ⟨es, c, h1, h2, h3, h4, h5, ?_⟩
 rcases lawK.find w (keyK hn) es.toList (fun e he => by obtain ⟨k, x, hk, hw, _⟩ := h4 e he; exact ⟨_, by rw [hk]; exact keyK hw⟩) with ⟨a1, a2⟩ | ⟨j, e, a1, a2, a3⟩
 ·refine .inl ⟨a1, ?_, a2⟩
  cases hD : D n with
  | none => rfl
  | some x => obtain ⟨e, he, hk⟩ := h5 n x hD; exact absurd hk (a2 e he)
 ·obtain ⟨k, x, hk, hw, hv, hD⟩ := h4 e (List.mem_of_getElem? a2)
  rw [a3] at hk
  injection hk with _ hk
  subst hk
  exact .inr ⟨j, e, x, a1, hD, hv, a2, a3⟩
theorem MapIs.look (h : MapIs w m D cnt) {n : Int} (hn : (Lit.int .i64 n).wf = true) :
 (Instr.lookup 46 (.map (some m)) (.int .i64 n) true).run Try.prog w = .ok (.tuple #[lv ((D n).getD (⟨#[]⟩, false)), .bool (D n).isSome]) w := by
 obtain ⟨es, c, h1, _, _, _, _, h6⟩ := h.find hn
 have hz : (zeroValue 53).run Try.prog w = .ok (lv (⟨#[]⟩, false)) w := by kernel_rfl
 rcases h6 with ⟨a1, a2, _⟩ | ⟨j, e, x, a1, a2, a3, _, _⟩
 ·rw [a2]
  simp [Instr.lookup, run_underlying Try.underlying46, MapKept.run_getObj_map h1, lawK.check w _ (keyK hn), a1, hz, Result.andThen]
 ·rw [a2]
  simp [Instr.lookup, run_underlying Try.underlying46, MapKept.run_getObj_map h1, lawK.check w _ (keyK hn), a1, a3, Result.andThen]
theorem MapIs.len (h : MapIs w m D cnt) (ty : TypeId) : (Builtin.len_ #[46] ty #[.map (some m)]).run Try.prog w = .ok (.int .i64 (cnt : Int)) w := by
 obtain ⟨es, c, h1, h2, _⟩ := h
 simp [Builtin.len_, run_underlying Try.underlying46, MapKept.run_getObj_map h1, goInt, Result.andThen, h2]
theorem MapIs.put_new (h : MapIs w m D cnt) {n : Int} (hn : (Lit.int .i64 n).wf = true) (hD : D n = none) (x : ByteArray × Bool) :
 ∃ w1, (Instr.mapUpdate 46 (.map (some m)) (.int .i64 n) (lv x)).run Try.prog w = .ok () w1 ∧ MapIs w1 m (putL D n x) (cnt + 1) ∧ One m w w1 := by
 obtain ⟨es, c, h1, h2, h3, h4, h5, h6⟩ := h.find hn
 rcases h6 with ⟨a1, a2, a4⟩ | ⟨j, e, x, a1, a2, a3, _, _⟩
 ·refine ⟨setBlock w m (.map (es.push ⟨.int .i64 n, lv x, c⟩) (c + 1)), ?_, ⟨_, _, heap_setBlock_same h1 _, by simp [h2], ?_, ?_, ?_⟩, one_set _⟩
  ·simp [Instr.mapUpdate, run_underlying Try.underlying46, MapKept.run_getObj_map h1, lawK.check w false (keyK hn), a1, MapKept.run_setObj_map _ h1, Result.andThen, setBlock]
  ·rw [Array.toList_push, List.map_append, List.nodup_append]
   refine ⟨h3, by simp, fun a ha b hb => ?_⟩
   obtain ⟨e, he, rfl⟩ := List.mem_map.1 ha
   simp only [List.map_cons, List.map_nil, List.mem_singleton] at hb
   rw [hb]
   exact a4 e he
  ·intro e he
   rw [Array.toList_push] at he
   rcases List.mem_append.1 he with he2 | he2
   ·obtain ⟨k, y, b1, b2, b3, b4⟩ := h4 e he2
    refine ⟨k, y, b1, b2, b3, ?_⟩
    unfold putL
    rw [if_neg (fun hk => a4 e he2 (by rw [b1, hk]))]; exact b4
   ·rw [List.mem_singleton.1 he2]
    exact ⟨n, x, rfl, hn, rfl, by unfold putL; rw [if_pos rfl]⟩
  ·intro k y hk
   rw [Array.toList_push]
   unfold putL at hk
   by_cases c1 : k = n
   ·exact ⟨_, List.mem_append_right _ (List.mem_singleton.2 rfl), by rw [c1]⟩
   ·rw [if_neg c1] at hk
    obtain ⟨e, he, hk⟩ := h5 k y hk
    exact ⟨e, List.mem_append_left _ he, hk⟩
 ·rw [hD] at a2; cases a2
theorem MapIs.put_old (h : MapIs w m D cnt) {n : Int} (hn : (Lit.int .i64 n).wf = true) (hD : (D n).isSome = true) (x : ByteArray × Bool) :
 ∃ w1, (Instr.mapUpdate 46 (.map (some m)) (.int .i64 n) (lv x)).run Try.prog w = .ok () w1 ∧ MapIs w1 m (putL D n x) cnt ∧ One m w w1 := by
 obtain ⟨es, c, h1, h2, h3, h4, h5, h6⟩ := h.find hn
 rcases h6 with ⟨a1, a2, a4⟩ | ⟨j, e, y, a1, a2, a3, a4, a5⟩
 ·rw [a2] at hD; cases hD
 ·have hj : j < es.toList.length := (List.getElem?_eq_some_iff.1 a4).1
  have he0 : es.toList[j] = e := (List.getElem?_eq_some_iff.1 a4).2
  have hmod : (es.modify j fun e => { e with key := .int .i64 n, val := lv x }).toList = es.toList.modify j (fun e => { e with key := .int .i64 n, val := lv x }) := by simp
  have hkeys : (es.toList.modify j (fun e : MapEntry => { e with key := .int .i64 n, val := lv x })).map (·.key) = es.toList.map (·.key) := by
   apply List.ext_getElem?
   intro i
   rw [List.getElem?_map, List.getElem?_modify, List.getElem?_map]
   cases hi : es.toList[i]? with
   | none => rfl
   | some e1 =>
    by_cases c1 : j = i
    ·subst c1; rw [a4] at hi; injection hi with hi; subst hi; simp [a5]
    ·simp [c1]
  have hes : (es[j]?.map (·.key)).getD (.int .i64 n) = .int .i64 n := by
   rw [← Array.getElem?_toList, a4]; exact a5
  have hes2 : ((Option.map (fun x => x.key) es[j]?).getD (Value.int IntKind.i64 n)) = Value.int IntKind.i64 n := hes
  refine ⟨setBlock w m (.map (es.modify j fun e => { e with key := .int .i64 n, val := lv x }) c), ?_, ⟨_, _, heap_setBlock_same h1 _, by simp [h2], ?_, ?_, ?_⟩, one_set _⟩
  ·simp [Instr.mapUpdate, run_underlying Try.underlying46, MapKept.run_getObj_map h1, lawK.check w false (keyK hn), a1, hes2, lawK.stays w (keyK hn), MapKept.run_setObj_map _ h1, Result.andThen, setBlock]
  ·rw [hmod, hkeys]; exact h3
  ·intro e1 he1
   rw [hmod] at he1
   obtain ⟨i, hi⟩ := List.mem_iff_getElem?.1 he1
   rw [List.getElem?_modify] at hi
   cases hi0 : es.toList[i]? with
   | none => rw [hi0] at hi; cases hi
   | some e2 =>
    rw [hi0] at hi
    by_cases c1 : j = i
    ·subst c1
     rw [a4] at hi0
     injection hi0 with hi0
     subst hi0
     simp only [if_true, Option.map_eq_map, Option.map_some, Option.some.injEq] at hi
     subst hi
     exact ⟨n, x, rfl, hn, rfl, by unfold putL; rw [if_pos rfl]⟩
    ·simp only [if_neg c1, Option.map_eq_map, Option.map_some, id_eq, Option.some.injEq] at hi
     subst hi
     obtain ⟨k, y2, b1, b2, b3, b4⟩ := h4 e2 (List.mem_of_getElem? hi0)
     refine ⟨k, y2, b1, b2, b3, ?_⟩
     unfold putL
     rw [if_neg (fun hk => ?_)]
     ·exact b4
     ·subst hk
      refine c1 ?_
      have hi1 : i < es.toList.length := (List.getElem?_eq_some_iff.1 hi0).1
      refine (List.getElem_inj (h₀ := by simpa using hj) (h₁ := by simpa using hi1) h3).1 ?_
      rw [List.getElem_map, List.getElem_map, he0, (List.getElem?_eq_some_iff.1 hi0).2, a5, b1]
  ·intro k y2 hk
   rw [hmod]
   have : ∃ e ∈ es.toList, e.key = .int .i64 k := by
    unfold putL at hk
    by_cases c1 : k = n
    ·exact ⟨e, List.mem_of_getElem? a4, by rw [c1]; exact a5⟩
    ·rw [if_neg c1] at hk; exact h5 k y2 hk
   obtain ⟨e1, he1, hk1⟩ := this
   have : e1.key ∈ (es.toList.modify j (fun e : MapEntry => { e with key := .int .i64 n, val := lv x })).map (·.key) := by rw [hkeys]; exact List.mem_map.2 ⟨e1, he1, rfl⟩
   obtain ⟨e3, he3, hk3⟩ := List.mem_map.1 this
   exact ⟨e3, he3, hk3.trans hk1⟩
theorem MapIs.drop (h : MapIs w m D cnt) {n : Int} (hn : (Lit.int .i64 n).wf = true) (hD : (D n).isSome = true) (ty : TypeId) :
 ∃ w1, (Builtin.delete_ #[46, 2] ty #[.map (some m), .int .i64 n]).run Try.prog w = .ok (.tuple #[]) w1 ∧ MapIs w1 m (delL D n) (cnt - 1) ∧ One m w w1 ∧ 1 ≤ cnt := by
 obtain ⟨es, c, h1, h2, h3, h4, h5, h6⟩ := h.find hn
 rcases h6 with ⟨a1, a2, a4⟩ | ⟨j, e, y, a1, a2, a3, a4, a5⟩
 ·rw [a2] at hD; cases hD
 ·have hj : j < es.toList.length := (List.getElem?_eq_some_iff.1 a4).1
  have hjs : j < es.size := by simpa using hj
  have he0 : es.toList[j] = e := (List.getElem?_eq_some_iff.1 a4).2
  have hsub : (es.eraseIdxIfInBounds j).toList = es.toList.eraseIdx j := by
   unfold Array.eraseIdxIfInBounds
   rw [dif_pos hjs]
   simp
  have hkeys : (es.toList.eraseIdx j).map (·.key) = (es.toList.map (·.key)).eraseIdx j := map_eraseIdx _ _ _
  have hnot : Value.int .i64 n ∉ (es.toList.map (·.key)).eraseIdx j := by
   intro hm
   obtain ⟨i, hij, hi⟩ := List.mem_eraseIdx_iff_getElem?.1 hm
   rw [List.getElem?_map] at hi
   cases hi0 : es.toList[i]? with
   | none => rw [hi0] at hi; cases hi
   | some e2 =>
    rw [hi0] at hi
    have hi1 : i < es.toList.length := (List.getElem?_eq_some_iff.1 hi0).1
    have hk2 : e2.key = .int .i64 n := by injection hi
    refine hij ((List.getElem_inj (h₀ := by simpa using hi1) (h₁ := by simpa using hj) h3).1 ?_)
    rw [List.getElem_map, List.getElem_map, he0, (List.getElem?_eq_some_iff.1 hi0).2, a5, hk2]
  have hsz : (es.eraseIdxIfInBounds j).size = cnt - 1 := by
   rw [← Array.length_toList, hsub, List.length_eraseIdx, if_pos hj, Array.length_toList, h2]
  refine ⟨setBlock w m (.map (es.eraseIdxIfInBounds j) c), ?_, ⟨_, _, heap_setBlock_same h1 _, hsz, ?_, ?_, ?_⟩, one_set _, by omega⟩
  ·simp [Builtin.delete_, run_underlying Try.underlying46, MapKept.run_getObj_map h1, lawK.check w _ (keyK hn), a1, MapKept.run_setObj_map _ h1, Result.andThen, setBlock]
  ·rw [hsub, hkeys]; exact h3.sublist (List.eraseIdx_sublist _ _)
  ·intro e1 he1
   rw [hsub] at he1
   obtain ⟨k, y2, b1, b2, b3, b4⟩ := h4 e1 ((List.eraseIdx_sublist _ _).subset he1)
   refine ⟨k, y2, b1, b2, b3, ?_⟩
   unfold delL
   rw [if_neg (fun hk => ?_)]
   ·exact b4
   ·subst hk
    refine hnot ?_
    rw [← hkeys]
    exact List.mem_map.2 ⟨e1, he1, b1⟩
  ·intro k y2 hk
   rw [hsub]
   unfold delL at hk
   by_cases c1 : k = n
   ·rw [if_pos c1] at hk; cases hk
   ·rw [if_neg c1] at hk
    obtain ⟨e1, he1, hk1⟩ := h5 k y2 hk
    obtain ⟨i, hi⟩ := List.mem_iff_getElem?.1 he1
    refine ⟨e1, List.mem_eraseIdx_iff_getElem?.2 ⟨i, fun hij => ?_, hi⟩, hk1⟩
    subst hij
    rw [a4] at hi
    injection hi with hi
    subst hi
    rw [a5] at hk1
    injection hk1 with _ hk1
    exact c1 hk1.symm
theorem MapIs.keep (h : MapIs w m D cnt) {w1 : World} (hb : w1.heap[m]? = w.heap[m]?) : MapIs w1 m D cnt := by
 obtain ⟨es, c, h1, h⟩ := h
 exact ⟨es, c, hb.trans h1, h⟩
end
end Go.Proofs.Ytofiahgneaopoaa.K
end
section
namespace Go.Proofs.Ytofiahgneaopoaa.P
open Go.RowKit Go.Proofs.YtofiahgneaopoaaW.PrintWords Go.Proofs.YtofiahgneaopoaaW.PrintLast Go.Proofs.YtofiahgneaopoaaW.PrintMore
attribute [local go_sem] max2_int min2_int max_two min_two max_three min_three max_four min_four   -- for this text's walks alone
def bag_isPlace.f (a0 : Int) : Option (Bool) := if a0 ≥ 0 then (some (decide (a0 ≤ 7))) else (some false)
set_option maxHeartbeats 8000000 in
set_option maxRecDepth 100000 in
theorem bag_isPlace.calls (a0 : Int) (r : Bool) (w : World) (h : bag_isPlace.f a0 = some r) :
 Calls Try.prog 20 #[.int .i64 a0] w fun e w' => e = .returned (.bool r) ∧ Drawn0 w w' := by
 have H : (if a0 ≥ 0 then (some (decide (a0 ≤ 7))) else (some false)) = some r := h
 clear h
 by_cases c2 : a0 ≥ 0
 ·rw [if_pos c2] at H
  have c2b0 : decide (0 ≤ a0) = true := decide_eq_true c2
  clear c2
  obtain rfl := Option.some.inj H
  go_enter Try.func20, Try.ntmps20
  go_wp2
  go_ret
  exact ⟨by first | rfl | (simp; done) | (simp [*]; done), by repeat (first | exact Drawn0.refl _ | apply Drawn0.step)⟩
 ·rw [if_neg c2] at H
  have c2b0 : decide (0 ≤ a0) = false := decide_eq_false c2
  clear c2
  obtain rfl := Option.some.inj H
  go_enter Try.func20, Try.ntmps20
  go_wp2
  go_ret
  exact ⟨by first | rfl | (simp; done) | (simp [*]; done), by repeat (first | exact Drawn0.refl _ | apply Drawn0.step)⟩
end Go.Proofs.Ytofiahgneaopoaa.P
end
section
namespace Go.Proofs.Ytofiahgneaopoaa.P
open Go.RowKit Go Go.Proofs.Ytofiahgneaopoaa.K Go.Proofs.YtofiahgneaopoaaW.PrintWords Go.Proofs.YtofiahgneaopoaaW.PrintLast Go.Proofs.YtofiahgneaopoaaW.PrintMore
def pc (p : Nat → Bool) : List Value := (List.range 64).map fun i => .bool (p i)
def bagCells (m : Nat) (last : Int) (p : Nat → Bool) : Array Value := (.map (some m) :: .int .i64 last :: pc p).toArray
theorem bc_p (m : Nat) (last : Int) (p : Nat → Bool) {i : Nat} (h : i < 64) : (bagCells m last p)[2 + i]? = some (.bool (p i)) := by
 simp [bagCells, pc, show 2 + i = i + 1 + 1 by omega, h]
theorem bc_size (m : Nat) (last : Int) (p : Nat → Bool) : (bagCells m last p).size = 66 := by simp [bagCells, pc]
theorem bc_last (m : Nat) (last v : Int) (p : Nat → Bool) : (bagCells m last p).setIfInBounds 1 (.int .i64 v) = bagCells m v p := by simp [bagCells]
theorem bc_put (m : Nat) (last : Int) (p : Nat → Bool) (i : Nat) (b : Bool) : (bagCells m last p).setIfInBounds (2 + i) (.bool b) = bagCells m last (fun k => if k = i then b else p k) := by
 unfold bagCells
 rw [List.setIfInBounds_toArray, show 2 + i = i + 1 + 1 by omega, List.set_cons_succ, List.set_cons_succ]
 congr 3
 apply List.ext_getElem?
 intro j
 unfold pc
 rw [List.getElem?_set, List.getElem?_map, List.getElem?_map]
 by_cases h : i = j
 ·subst h
  by_cases h2 : i < 64
  ·simp [h2]
  ·simp [h2]
 ·rw [if_neg h]
  by_cases h2 : j < 64
  ·simp [h2, Ne.symm h]
  ·simp [h2]
/-- The bag in memory: its block, its map's block. -/
structure Rep (w : World) (g m : Nat) (D : Lts) (cnt : Nat) (last : Int) (p : Nat → Bool) : Prop where
 bag : w.heap[g]? = some (.cells (bagCells m last p) 50 (0, 0))
 map : MapIs w m D cnt
/-- All but the bag's two blocks, of what there was, is as it was. -/
structure Two (g m : Nat) (w w1 : World) : Prop where
 os : w1.os = w.os
 tape : w1.tape = w.tape
 output : w1.output = w.output
 size : w.heap.size ≤ w1.heap.size
 block : ∀ k, k < w.heap.size → k ≠ g → k ≠ m → w1.heap[k]? = w.heap[k]?
def isP (a : Int) : Bool := decide (0 ≤ a ∧ a ≤ 7)
theorem place_calls (a : Int) (w : World) : Calls Try.prog 20 #[.int .i64 a] w fun e w' => e = .returned (.bool (isP a)) ∧ Drawn0 w w' := by
 refine bag_isPlace.calls a _ w ?_
 unfold bag_isPlace.f isP
 by_cases h : a ≥ 0
 ·rw [if_pos h]; exact congrArg some (decide_eq_decide.2 (by omega))
 ·rw [if_neg h, decide_eq_false (by omega)]
section
variable {w w1 : World} {g m : Nat} {D : Lts} {cnt : Nat} {last : Int} {p : Nat → Bool}
theorem Rep.ne (h : Rep w g m D cnt last p) : g ≠ m := by
 rintro rfl
 obtain ⟨es, c, h1, _⟩ := h.map
 rw [h.bag] at h1; cases h1
theorem Rep.keep (h : Rep w g m D cnt last p) (h1 : w1.heap[g]? = w.heap[g]?) (h2 : w1.heap[m]? = w.heap[m]?) : Rep w1 g m D cnt last p := ⟨h1.trans h.bag, h.map.keep h2⟩
theorem Rep.lt (h : Rep w g m D cnt last p) : g < w.heap.size := blk_lt h.bag
theorem Rep.ltm (h : Rep w g m D cnt last p) : m < w.heap.size := by
 obtain ⟨es, c, h1, _⟩ := h.map
 exact (Array.getElem?_eq_some_iff.1 h1).1
theorem Rep.below (h : Rep w g m D cnt last p) (hb : Below w.heap.size w w1) : Rep w1 g m D cnt last p := h.keep (hb.block _ h.lt) (hb.block _ h.ltm)
theorem Rep.two (h : Two g m w w1) {B : Nat} (h1 : B ≤ g) (h2 : B ≤ m) (h3 : g < w.heap.size) : Below B w w1 := ⟨h.os, h.tape, h.output, h.size, fun k hk => h.block k (by omega) (by omega) (by omega)⟩
theorem Two.refl (w : World) : Two g m w w := ⟨rfl, rfl, rfl, Nat.le_refl _, fun _ _ _ _ => rfl⟩
theorem Two.trans {w2 : World} (h : Two g m w w1) (h2 : Two g m w1 w2) : Two g m w w2 := ⟨h2.os.trans h.os, h2.tape.trans h.tape, h2.output.trans h.output, Nat.le_trans h.size h2.size, fun k a b c => (h2.block k (Nat.lt_of_lt_of_le a h.size) b c).trans (h.block k a b c)⟩
theorem Two.of_below (h : Below w.heap.size w w1) : Two g m w w1 := ⟨h.os, h.tape, h.output, h.size, fun k a _ _ => h.block k a⟩
theorem Two.of_one (h : One m w w1) : Two g m w w1 := ⟨h.os, h.tape, h.output, Nat.le_of_eq h.size.symm, fun k _ _ c => h.block k c⟩
theorem Two.set (w : World) (j : Nat) (v : Value) : Two g m w (w.setCell ⟨g, j, none⟩ v) := by
 have hb : Below g w (w.setCell ⟨g, j, none⟩ v) := Below.setCell (Below.refl g w) (Nat.le_refl g) v
 exact ⟨hb.os, hb.tape, hb.output, hb.size, fun k _ b _ => Below.heap_setCell w ⟨g, j, none⟩ v k b⟩
theorem Two.drew (w : World) : Two g m w w.drew := of_below (Below.refl _ _).drew
end
/-- Are two parted? -/
def pt (p : Nat → Bool) (x y : Int) : Bool := isP x && (isP y && p (8 * x.toNat + y.toNat))
set_option maxHeartbeats 4000000 in
theorem parted_calls {w : World} {g m : Nat} {D : Lts} {cnt : Nat} {last : Int} {p : Nat → Bool} (h : Rep w g m D cnt last p) (x y : Int) :
 Calls Try.prog 10 #[.pointer (some ⟨g, 0, none⟩), .int .i64 x, .int .i64 y] w fun e w' => e = .returned (.bool (pt p x y)) ∧ Below w.heap.size w w' := by
 unfold pt
 cases hx : isP x
 ·go_enter Try.func10, Try.ntmps10
  go_wp2_with (first | (go_at_call 20; refine (place_calls _ _).mono ?_; rintro e w' ⟨rfl, ⟨nd, rfl⟩⟩; rw [hx]) | go_in)
  go_ret
  exact ⟨rfl, pbN (Below.refl _ _) _⟩
 ·cases hy : isP y
  ·go_enter Try.func10, Try.ntmps10
   go_wp2_with (first | (go_at_call 20; refine (place_calls _ _).mono ?_; rintro e w' ⟨rfl, ⟨nd, rfl⟩⟩; first | rw [hx] | rw [hy]) | go_in)
   go_ret
   exact ⟨rfl, pbN (Below.refl _ _) _⟩
  ·obtain ⟨h1, h2⟩ := of_decide_eq_true hx
   obtain ⟨h3, h4⟩ := of_decide_eq_true hy
   obtain ⟨i, rfl⟩ : ∃ i : Nat, x = (i : Int) := ⟨x.toNat, by omega⟩
   obtain ⟨j, rfl⟩ : ∃ j : Nat, y = (j : Int) := ⟨y.toNat, by omega⟩
   have hc : w.cell? ⟨g, 2 + i * 8 + j, none⟩ = some (.bool (p (8 * i + j))) := by
    rw [show 2 + i * 8 + j = 2 + (8 * i + j) by omega]
    exact (bkC h.bag _).trans (bc_p m last p (by omega))
   go_enter Try.func10, Try.ntmps10
   go_wp2_with (first | (go_at_call 20; refine (place_calls _ _).mono ?_; rintro e w' ⟨rfl, ⟨nd, rfl⟩⟩; first | rw [hx] | rw [hy]) | go_in)
   go_ret
   refine ⟨by simp, pbN (Below.refl _ _) _⟩
def Z66 : Array Value := (.map none :: .int .i64 0 :: pc fun _ => false).toArray
theorem z66 (m : Nat) : Z66.setIfInBounds 0 (.map (some m)) = bagCells m 0 (fun _ => false) := by simp [Z66, bagCells]
set_option maxHeartbeats 4000000 in
theorem new_calls (w : World) : Calls Try.prog 8 #[] w fun e w' => ∃ g m, e = .returned (.pointer (some ⟨g, 0, none⟩)) ∧ w.heap.size ≤ g ∧ w.heap.size ≤ m ∧ Rep w' g m (fun _ => none) 0 0 (fun _ => false) ∧ Below w.heap.size w w' := by
 have hmm := @run_makeMap Try.prog
 have hz : ∀ w, (zeroValue 50).run Try.prog w = .ok (.agg Z66) w := fun w => by kernel_rfl
 have hne : (Z66 = #[]) = False := by unfold Z66; simp
 go_enter Try.func8, Try.ntmps8
 go_wp2
 go_ret
 refine ⟨w.heap.size + 1, w.heap.size, rfl, Nat.le_succ _, Nat.le_refl _, ⟨?_, ?_⟩, pbA (pbA (Below.refl _ _) _) _⟩
 ·rw [← z66, ← World.size_alloc w (.map #[] 0)]; exact heap_alloc_new _ _
 ·refine ⟨#[], 0, ?_, rfl, by simp, by simp, fun k x hk => by cases hk⟩
  rw [Below.heap_alloc _ _ _ (by simp)]
  exact heap_alloc_new _ _
set_option maxHeartbeats 4000000 in
theorem add_calls {w : World} {g m : Nat} {D : Lts} {cnt : Nat} {last : Int} {p : Nat → Bool} (h : Rep w g m D cnt last p) (hD : D (wrap64 (last + 1)) = none) (x : ByteArray × Bool) :
 Calls Try.prog 19 #[.pointer (some ⟨g, 0, none⟩), lv x] w fun e w' => e = .returned (.int .i64 (wrap64 (last + 1))) ∧ Rep w' g m (putL D (wrap64 (last + 1)) x) (cnt + 1) (wrap64 (last + 1)) p ∧ Two g m w w' := by
 unfold lv
 have hne := h.ne
 have c0 : w.cell? ⟨g, 0, none⟩ = some (.map (some m)) := (bkC h.bag 0).trans rfl
 have c1 : w.cell? ⟨g, 1, none⟩ = some (.int .i64 last) := (bkC h.bag 1).trans rfl
 have f1 := bkF h.bag 1
 have hlt := h.lt
 go_enter Try.func19, Try.ntmps19
 go_wp2
 obtain ⟨W, hW⟩ : ∃ W, W = ((w.setCell ⟨g, 1, none⟩ (.int .i64 (wrap64 (last + 1)))).alloc (.cells #[.string x.1, .bool x.2] 53)) := ⟨_, rfl⟩
 rw [← hW]
 have hB : W.heap[g]? = some (.cells (bagCells m (wrap64 (last + 1)) p) 50 (0, 0)) := by
  rw [hW, ← bc_last m last]; exact bkA (blk_put h.bag 1 _ rfl) _
 have hX : W.heap[w.heap.size]? = some (.cells #[.string x.1, .bool x.2] 53 (0, 0)) := by
  have : (w.setCell ⟨g, 1, none⟩ (.int .i64 (wrap64 (last + 1)))).heap.size = w.heap.size := by simp
  rw [hW, ← this]; exact heap_alloc_new _ _
 have hm0 : W.heap[m]? = w.heap[m]? := by
  rw [hW, Below.heap_alloc _ _ _ (by simp; exact h.ltm)]
  exact Below.heap_setCell _ _ _ _ hne.symm
 have hT : Two g m w W := by
  rw [hW]
  exact Two.trans (Two.set w 1 _) (Two.of_below (pbA (Below.refl _ _) _))
 have hM : MapIs W.drew m D cnt := h.map.keep hm0
 clear c0 c1 f1 hW
 obtain ⟨w1, hup, hM1, hO⟩ := hM.put_new (n := wrap64 (last + 1)) (wrap64_wf _) hD x
 unfold lv at hup
 replace hB := bkD hB
 replace hX := bkD hX
 replace hT := hT.trans (Two.drew W)
 have c0 : W.drew.cell? ⟨g, 0, none⟩ = some (.map (some m)) := (bkC hB 0).trans rfl
 have c1 : W.drew.cell? ⟨g, 1, none⟩ = some (.int .i64 (wrap64 (last + 1))) := (bkC hB 1).trans rfl
 have d0 : W.drew.cell? ⟨w.heap.size, 0, none⟩ = some (.string x.1) := (bkC hX 0).trans rfl
 have d1 : W.drew.cell? ⟨w.heap.size, 1, none⟩ = some (.bool x.2) := (bkC hX 1).trans rfl
 have d0' : W.cell? ⟨w.heap.size, 0, none⟩ = some (.string x.1) := d0
 have d1' : W.cell? ⟨w.heap.size, 1, none⟩ = some (.bool x.2) := d1
 have c0' : W.cell? ⟨g, 0, none⟩ = some (.map (some m)) := c0
 have c1' : W.cell? ⟨g, 1, none⟩ = some (.int .i64 (wrap64 (last + 1))) := c1
 have hB1 := (hO.block g hne).trans hB
 have e1 : w1.cell? ⟨g, 1, none⟩ = some (.int .i64 (wrap64 (last + 1))) := (bkC hB1 1).trans rfl
 go_region
 go_wp2
 go_ret
 refine ⟨rfl, ⟨?_, hM1⟩, ?_⟩
 ·exact hB1
 ·exact hT.trans (Two.of_one hO)
theorem cut_rep {w : World} {g m : Nat} {D : Lts} {cnt : Nat} {last : Int} {p : Nat → Bool} (h : Rep w g m D cnt last p) {i j : Nat} (hi : i < 8) (hj : j < 8) (on : Bool) (n : Nat) :
 Rep (((w.drewN n).setCell ⟨g, 2 + i * 8 + j, none⟩ (.bool on)).setCell ⟨g, 2 + j * 8 + i, none⟩ (.bool on)) g m D cnt last (fun k => if k = 8 * i + j ∨ k = 8 * j + i then on else p k) ∧ Two g m w (((w.drewN n).setCell ⟨g, 2 + i * 8 + j, none⟩ (.bool on)).setCell ⟨g, 2 + j * 8 + i, none⟩ (.bool on)) := by
 refine ⟨⟨?_, h.map.keep ?_⟩, ?_⟩
 ·have b1 := blk_put (blk_put (bkN h.bag n) (2 + i * 8 + j) (.bool on) rfl) (2 + j * 8 + i) (.bool on) rfl
  rw [show 2 + i * 8 + j = 2 + (8 * i + j) by omega, show 2 + j * 8 + i = 2 + (8 * j + i) by omega] at b1 ⊢
  rw [bc_put, bc_put] at b1
  rw [b1]
  congr 3
  funext k
  by_cases c1 : k = 8 * j + i
  ·simp [c1]
  ·by_cases c2 : k = 8 * i + j
   ·simp [c2]
   ·simp [c1, c2]
 ·rw [Below.heap_setCell _ _ _ _ h.ne.symm, Below.heap_setCell _ _ _ _ h.ne.symm]; rfl
 ·exact (Two.of_below (pbN (Below.refl _ _) n)).trans ((Two.set _ _ _).trans (Two.set _ _ _))
set_option maxHeartbeats 4000000 in
theorem cut_calls {w : World} {g m : Nat} {D : Lts} {cnt : Nat} {last : Int} {p : Nat → Bool} (h : Rep w g m D cnt last p) (i j : Nat) (hi : i < 8) (hj : j < 8) (hij : i ≠ j) (on : Bool) :
 Calls Try.prog 11 #[.pointer (some ⟨g, 0, none⟩), .int .i64 (i : Int), .int .i64 (j : Int), .bool on] w fun e w' => e = .returned (.tuple #[]) ∧ Rep w' g m D cnt last (fun k => if k = 8 * i + j ∨ k = 8 * j + i then on else p k) ∧ Two g m w w' := by
 have hx : isP (i : Int) = true := decide_eq_true (by omega)
 have hy : isP (j : Int) = true := decide_eq_true (by omega)
 have c1 : w.cell? ⟨g, 2 + i * 8 + j, none⟩ = some (.bool (p (8 * i + j))) := by
  rw [show 2 + i * 8 + j = 2 + (8 * i + j) by omega]
  exact (bkC h.bag _).trans (bc_p m last p (by omega))
 have c2 : w.cell? ⟨g, 2 + j * 8 + i, none⟩ = some (.bool (p (8 * j + i))) := by
  rw [show 2 + j * 8 + i = 2 + (8 * j + i) by omega]
  exact (bkC h.bag _).trans (bc_p m last p (by omega))
 have f1 := bkF h.bag (2 + i * 8 + j)
 have f2 := bkF h.bag (2 + j * 8 + i)
 have hij2 : ¬ ((i : Int) = (j : Int)) := by omega
 go_enter Try.func11, Try.ntmps11
 go_wp2_with (first | (go_at_call 20; refine (place_calls _ _).mono ?_; rintro e w' ⟨rfl, ⟨nd, rfl⟩⟩; first | rw [hx] | rw [hy]) | go_in)
 go_region
 refine bodyPost_end (v := .tuple #[]) (results_list (rs := []) rfl (by simp) .nil) rfl ?_
 exact ⟨rfl, cut_rep h hi hj on _⟩
theorem find_res {tmps : Array Value} {w : World} {u0 u1 : Value} (b : Nat) (h4 : tmps.getD 4 undef = .pointer (some ⟨b, 0, none⟩)) (B1 : w.heap[b]? = some (.cells #[u0, u1] 53 (0, 0))) :
 (results Try.f21 tmps).run Try.prog w = .ok (.tuple #[.agg #[u0, u1], tmps.getD 5 undef]) w :=
 results_list (rs := [.cell 4 53, .tmp 5]) rfl (by simp) (.cell b 53 #[u0, u1] (0, 0) _ h4 B1 Try.underlying53 rfl (by kernel_rfl) (.tmp .nil))
def errF (D : Lts) (n : Int) : Int := if (D n).isSome = true then 0 else 2
def letF (D : Lts) (n : Int) : ByteArray × Bool := (D n).getD (⟨#[]⟩, false)
set_option maxHeartbeats 4000000 in
theorem find_calls {w : World} {g m : Nat} {D : Lts} {cnt : Nat} {last : Int} {p : Nat → Bool} (h : Rep w g m D cnt last p) {n : Int} (hn : (Lit.int .i64 n).wf = true) :
 Calls Try.prog 21 #[.pointer (some ⟨g, 0, none⟩), .int .i64 n] w fun e w' => e = .returned (.tuple #[lv (letF D n), .int .i64 (errF D n)]) ∧ Below w.heap.size w w' := by
 have hlt := h.lt
 have c0 : w.cell? ⟨g, 0, none⟩ = some (.map (some m)) := (bkC h.bag 0).trans rfl
 have hM : MapIs (w.alloc (.cells #[.string ⟨#[]⟩, .bool false] 53)) m D cnt := h.map.keep (Below.heap_alloc _ _ _ h.ltm)
 have hlk := hM.look hn
 have HB : Below w.heap.size w (w.alloc (.cells #[.string ⟨#[]⟩, .bool false] 53)) := pbA (Below.refl _ _) _
 unfold errF letF
 cases hD : D n with
 | none =>
  rw [hD] at hlk
  unfold lv at hlk ⊢
  simp only [Option.getD_none, Option.isSome_none] at hlk ⊢
  go_enter Try.func21, Try.ntmps21
  go_wp2
  refine bodyPost_ret (find_res w.heap.size rfl (bkA (heap_alloc_new _ _) _)) rfl ⟨rfl, pbA (pbA (Below.refl _ _) _) _⟩
 | some x =>
  rw [hD] at hlk
  unfold lv at hlk ⊢
  simp only [Option.getD_some, Option.isSome_some] at hlk ⊢
  go_enter Try.func21, Try.ntmps21
  go_wp2
  refine bodyPost_ret (find_res w.heap.size rfl (bkA (heap_alloc_new _ _) _)) rfl ⟨rfl, pbA (pbA (Below.refl _ _) _) _⟩
set_option maxHeartbeats 4000000 in
theorem cut_none {w : World} {g : Nat} (x y : Int) (hxy : x = y ∨ isP x = false ∨ isP y = false) (on : Bool) :
 Calls Try.prog 11 #[.pointer (some ⟨g, 0, none⟩), .int .i64 x, .int .i64 y, .bool on] w fun e w' => e = .returned (.tuple #[]) ∧ Below w.heap.size w w' := by
 by_cases hx : x = y
 ·subst hx
  go_enter Try.func11, Try.ntmps11
  go_wp2
  refine bodyPost_end (v := .tuple #[]) (results_list (rs := []) rfl (by simp) .nil) rfl ?_
  exact ⟨rfl, Below.refl _ _⟩
 ·cases h1 : isP x
  ·go_enter Try.func11, Try.ntmps11
   go_wp2_with (first | (go_at_call 20; refine (place_calls _ _).mono ?_; rintro e w' ⟨rfl, ⟨nd, rfl⟩⟩; rw [h1]) | go_in)
   refine bodyPost_end (v := .tuple #[]) (results_list (rs := []) rfl (by simp) .nil) rfl ?_
   exact ⟨rfl, pbN (Below.refl _ _) _⟩
  ·have h2 : isP y = false := by
    rcases hxy with h | h | h
    ·exact absurd h hx
    ·rw [h] at h1; cases h1
    ·exact h
   go_enter Try.func11, Try.ntmps11
   go_wp2_with (first | (go_at_call 20; refine (place_calls _ _).mono ?_; rintro e w' ⟨rfl, ⟨nd, rfl⟩⟩; first | rw [h1] | rw [h2]) | go_in)
   refine bodyPost_end (v := .tuple #[]) (results_list (rs := []) rfl (by simp) .nil) rfl ?_
   exact ⟨rfl, pbN (Below.refl _ _) _⟩
set_option maxHeartbeats 4000000 in
theorem len_calls {w : World} {g m : Nat} {D : Lts} {cnt : Nat} {last : Int} {p : Nat → Bool} (h : Rep w g m D cnt last p) :
 Calls Try.prog 18 #[.pointer (some ⟨g, 0, none⟩)] w fun e w' => e = .returned (.int .i64 (cnt : Int)) ∧ Below w.heap.size w w' := by
 have c0 : w.cell? ⟨g, 0, none⟩ = some (.map (some m)) := (bkC h.bag 0).trans rfl
 have hl := h.map.len 3
 go_enter Try.func18, Try.ntmps18
 go_wp2
 go_ret
 exact ⟨rfl, Below.refl _ _⟩
set_option maxHeartbeats 4000000 in
theorem send_calls {w : World} {g m : Nat} {D : Lts} {cnt : Nat} {last : Int} {p : Nat → Bool} (h : Rep w g m D cnt last p) (x y : Int) (s : ByteArray) (hD : D (wrap64 (last + 1)) = none) (hc : pt p x y = false) (hcnt : cnt < 3000) :
 Calls Try.prog 9 #[.pointer (some ⟨g, 0, none⟩), .int .i64 x, .int .i64 y, .string s] w fun e w' => e = .returned (.int .i64 (wrap64 (last + 1))) ∧ Rep w' g m (putL D (wrap64 (last + 1)) (s, false)) (cnt + 1) (wrap64 (last + 1)) p ∧ Two g m w w' := by
 have hcn : ((cnt : Int) ≥ 3000) = False := eq_false (by omega)
 have hcd : decide ((3000 : Int) ≤ (cnt : Int)) = false := decide_eq_false (by omega)
 go_enter Try.func9, Try.ntmps9
 go_wp2_with (first | (go_at_call 10; refine (parted_calls h x y).mono ?_; rintro e w1 ⟨rfl, hb⟩; rw [hc]; have h1 := h.below hb; have c0 : w1.cell? ⟨g, 0, none⟩ = some (.map (some m)) := (bkC h1.bag 0).trans rfl; have hl := h1.map.len 3) | (go_at_call 19; refine (add_calls h1 hD (s, false)).mono ?_; rintro e w2 ⟨rfl, h2, ht⟩) | go_in)
 go_ret
 exact ⟨rfl, h2, (Two.of_below hb).trans ht⟩
set_option maxHeartbeats 4000000 in
theorem send_none {w : World} {g m : Nat} {D : Lts} {cnt : Nat} {last : Int} {p : Nat → Bool} (h : Rep w g m D cnt last p) (x y : Int) (s : ByteArray) (hc : pt p x y = true ∨ 3000 ≤ cnt) :
 Calls Try.prog 9 #[.pointer (some ⟨g, 0, none⟩), .int .i64 x, .int .i64 y, .string s] w fun e w' => e = .returned (.int .i64 0) ∧ Below w.heap.size w w' := by
 cases hp : pt p x y
 ·have hcd : decide ((3000 : Int) ≤ (cnt : Int)) = true := decide_eq_true (by
   rcases hc with h | h
   ·rw [h] at hp; cases hp
   ·omega)
  go_enter Try.func9, Try.ntmps9
  go_wp2_with (first | (go_at_call 10; refine (parted_calls h x y).mono ?_; rintro e w1 ⟨rfl, hb⟩; rw [hp]; have h1 := h.below hb; have c0 : w1.cell? ⟨g, 0, none⟩ = some (.map (some m)) := (bkC h1.bag 0).trans rfl; have hl := h1.map.len 3) | go_in)
  go_ret
  exact ⟨rfl, hb⟩
 ·go_enter Try.func9, Try.ntmps9
  go_wp2_with (first | (go_at_call 10; refine (parted_calls h x y).mono ?_; rintro e w1 ⟨rfl, hb⟩; rw [hp]) | go_in)
  go_ret
  exact ⟨rfl, hb⟩
set_option maxHeartbeats 4000000 in
theorem take_none {w : World} {g m : Nat} {D : Lts} {cnt : Nat} {last : Int} {p : Nat → Bool} (h : Rep w g m D cnt last p) {n : Int} (hn : (Lit.int .i64 n).wf = true) (hD : D n = none) :
 Calls Try.prog 12 #[.pointer (some ⟨g, 0, none⟩), .int .i64 n] w fun e w' => e = .returned (.tuple #[.string ⟨#[]⟩, .int .i64 2]) ∧ Below w.heap.size w w' := by
 have hF := find_calls h hn
 unfold errF letF at hF
 rw [hD] at hF
 unfold lv at hF
 simp only [Option.getD_none, Option.isSome_none] at hF
 go_enter Try.func12, Try.ntmps12
 go_wp2_with (first | (go_at_call 21; refine hF.mono ?_; rintro e w1 ⟨rfl, hb⟩) | go_in)
 refine bodyPost_ret (results_list (rs := [.tmp 4, .tmp 5]) rfl (by simp) (.tmp (.tmp .nil))) rfl ?_
 exact ⟨rfl, pbA hb _⟩
set_option maxHeartbeats 4000000 in
theorem take_calls {w : World} {g m : Nat} {D : Lts} {cnt : Nat} {last : Int} {p : Nat → Bool} (h : Rep w g m D cnt last p) {n : Int} (hn : (Lit.int .i64 n).wf = true) {x : ByteArray × Bool} (hD : D n = some x) :
 Calls Try.prog 12 #[.pointer (some ⟨g, 0, none⟩), .int .i64 n] w fun e w' => e = .returned (.tuple #[.string x.1, .int .i64 0]) ∧ Rep w' g m (delL D n) (cnt - 1) last p ∧ Two g m w w' ∧ 1 ≤ cnt := by
 have hF := find_calls h hn
 have hne := h.ne
 unfold errF letF at hF
 rw [hD] at hF
 unfold lv at hF
 simp only [Option.getD_some, Option.isSome_some, if_true] at hF
 go_enter Try.func12, Try.ntmps12
 go_wp2_with (first | (go_at_call 21; refine hF.mono ?_; rintro e w1 ⟨rfl, hb⟩; have h1 := h.below hb; have c0 : w1.cell? ⟨g, 0, none⟩ = some (.map (some m)) := (bkC h1.bag 0).trans rfl; have hlt1 := h1.lt; have h2 : Rep (w1.alloc (.cells #[.string x.1, .bool x.2] 53)) g m D cnt last p := h1.below (pbA (Below.refl _ _) _); obtain ⟨w3, hdel, hM3, hO, hc1⟩ := h2.map.drop hn (by rw [hD]; rfl) 0; have hX : w3.heap[w1.heap.size]? = some (.cells #[.string x.1, .bool x.2] 53 (0, 0)) := (hO.block _ (Nat.ne_of_gt h1.ltm)).trans (heap_alloc_new _ _); have d0 : w3.cell? ⟨w1.heap.size, 0, none⟩ = some (.string x.1) := (bkC hX 0).trans rfl) | go_in)
 refine bodyPost_ret (results_list (rs := [.tmp 4, .tmp 5]) rfl (by simp) (.tmp (.tmp .nil))) rfl ?_
 exact ⟨rfl, ⟨(hO.block g hne).trans h2.bag, hM3⟩, (Two.of_below (pbA hb _)).trans (Two.of_one hO), hc1⟩
set_option maxHeartbeats 4000000 in
theorem double_none {w : World} {g m : Nat} {D : Lts} {cnt : Nat} {last : Int} {p : Nat → Bool} (h : Rep w g m D cnt last p) {n : Int} (hn : (Lit.int .i64 n).wf = true) (hD : D n = none) :
 Calls Try.prog 15 #[.pointer (some ⟨g, 0, none⟩), .int .i64 n] w fun e w' => e = .returned (.tuple #[.int .i64 0, .int .i64 2]) ∧ Below w.heap.size w w' := by
 have hF := find_calls h hn
 unfold errF letF at hF
 rw [hD] at hF
 unfold lv at hF
 simp only [Option.getD_none, Option.isSome_none] at hF
 go_enter Try.func15, Try.ntmps15
 go_wp2_with (first | (go_at_call 21; refine hF.mono ?_; rintro e w1 ⟨rfl, hb⟩) | go_in)
 refine bodyPost_ret (results_list (rs := [.tmp 4, .tmp 5]) rfl (by simp) (.tmp (.tmp .nil))) rfl ?_
 exact ⟨rfl, pbA hb _⟩
set_option maxHeartbeats 4000000 in
theorem double_full {w : World} {g m : Nat} {D : Lts} {cnt : Nat} {last : Int} {p : Nat → Bool} (h : Rep w g m D cnt last p) {n : Int} (hn : (Lit.int .i64 n).wf = true) {x : ByteArray × Bool} (hD : D n = some x) (hc : 3000 ≤ cnt) :
 Calls Try.prog 15 #[.pointer (some ⟨g, 0, none⟩), .int .i64 n] w fun e w' => e = .returned (.tuple #[.int .i64 0, .int .i64 5]) ∧ Below w.heap.size w w' := by
 have hF := find_calls h hn
 have hcd : decide ((3000 : Int) ≤ (cnt : Int)) = true := decide_eq_true (by omega)
 unfold errF letF at hF
 rw [hD] at hF
 unfold lv at hF
 simp only [Option.getD_some, Option.isSome_some, if_true] at hF
 go_enter Try.func15, Try.ntmps15
 go_wp2_with (first | (go_at_call 21; refine hF.mono ?_; rintro e w1 ⟨rfl, hb⟩; have h1 := h.below hb; have c0 : w1.cell? ⟨g, 0, none⟩ = some (.map (some m)) := (bkC h1.bag 0).trans rfl; have hlt1 := h1.lt; have h2 : Rep (w1.alloc (.cells #[.string x.1, .bool x.2] 53)) g m D cnt last p := h1.below (pbA (Below.refl _ _) _); have hl := h2.map.len 3) | go_in)
 refine bodyPost_ret (results_list (rs := [.tmp 4, .tmp 5]) rfl (by simp) (.tmp (.tmp .nil))) rfl ?_
 exact ⟨rfl, pbA hb _⟩
set_option maxHeartbeats 4000000 in
theorem double_calls {w : World} {g m : Nat} {D : Lts} {cnt : Nat} {last : Int} {p : Nat → Bool} (h : Rep w g m D cnt last p) {n : Int} (hn : (Lit.int .i64 n).wf = true) {x : ByteArray × Bool} (hD : D n = some x) (hc : cnt < 3000) (hL : D (wrap64 (last + 1)) = none) :
 Calls Try.prog 15 #[.pointer (some ⟨g, 0, none⟩), .int .i64 n] w fun e w' => e = .returned (.tuple #[.int .i64 (wrap64 (last + 1)), .int .i64 0]) ∧ Rep w' g m (putL D (wrap64 (last + 1)) x) (cnt + 1) (wrap64 (last + 1)) p ∧ Two g m w w' := by
 have hF := find_calls h hn
 have hcd : decide ((3000 : Int) ≤ (cnt : Int)) = false := decide_eq_false (by omega)
 unfold errF letF at hF
 rw [hD] at hF
 unfold lv at hF
 simp only [Option.getD_some, Option.isSome_some, if_true] at hF
 go_enter Try.func15, Try.ntmps15
 go_wp2_with (first | (go_at_call 21; refine hF.mono ?_; rintro e w1 ⟨rfl, hb⟩; have h1 := h.below hb; have c0 : w1.cell? ⟨g, 0, none⟩ = some (.map (some m)) := (bkC h1.bag 0).trans rfl; have hlt1 := h1.lt; have h2 : Rep (w1.alloc (.cells #[.string x.1, .bool x.2] 53)) g m D cnt last p := h1.below (pbA (Below.refl _ _) _); have hl := h2.map.len 3) | (go_at_call 19; refine (add_calls h2 hL x).mono ?_; rintro e w3 ⟨rfl, h3, ht⟩) | go_in)
 refine bodyPost_ret (results_list (rs := [.tmp 4, .tmp 5]) rfl (by simp) (.tmp (.tmp .nil))) rfl ?_
 exact ⟨rfl, h3, (Two.of_below (pbA hb _)).trans ht⟩
end Go.Proofs.Ytofiahgneaopoaa.P
end
section
namespace Go.Proofs.Ytofiahgneaopoaa.P
open Go.RowKit Go Go.Proofs.Ytofiahgneaopoaa.K Go.Proofs.YtofiahgneaopoaaW.PrintWords Go.Proofs.YtofiahgneaopoaaW.PrintLast Go.Proofs.YtofiahgneaopoaaW.PrintMore
set_option maxHeartbeats 4000000 in
theorem spoil_none {w : World} {g m : Nat} {D : Lts} {cnt : Nat} {last : Int} {p : Nat → Bool} (h : Rep w g m D cnt last p) {n : Int} (hn : (Lit.int .i64 n).wf = true) (hD : D n = none) (a b : Int) :
 Calls Try.prog 16 #[.pointer (some ⟨g, 0, none⟩), .int .i64 n, .int .i64 a, .int .u8 b] w fun e w' => e = .returned (.int .i64 2) ∧ Below w.heap.size w w' := by
 have hF := find_calls h hn
 unfold errF letF at hF
 rw [hD] at hF
 unfold lv at hF
 simp only [Option.getD_none, Option.isSome_none] at hF
 go_enter Try.func16, Try.ntmps16
 go_wp2_with (first | (go_at_call 21; refine hF.mono ?_; rintro e w1 ⟨rfl, hb⟩) | go_in)
 go_ret
 exact ⟨rfl, pbA hb _⟩
set_option maxHeartbeats 4000000 in
theorem spoil_there {w : World} {g m : Nat} {D : Lts} {cnt : Nat} {last : Int} {p : Nat → Bool} (h : Rep w g m D cnt last p) {n : Int} (hn : (Lit.int .i64 n).wf = true) {s : ByteArray} (hD : D n = some (s, true)) (a b : Int) :
 Calls Try.prog 16 #[.pointer (some ⟨g, 0, none⟩), .int .i64 n, .int .i64 a, .int .u8 b] w fun e w' => e = .returned (.int .i64 8) ∧ Below w.heap.size w w' := by
 have hF := find_calls h hn
 unfold errF letF at hF
 rw [hD] at hF
 unfold lv at hF
 simp only [Option.getD_some, Option.isSome_some, if_true] at hF
 go_enter Try.func16, Try.ntmps16
 go_wp2_with (first | (go_at_call 21; refine hF.mono ?_; rintro e w1 ⟨rfl, hb⟩) | go_in)
 go_ret
 exact ⟨rfl, pbA hb _⟩
set_option maxHeartbeats 4000000 in
theorem spoil_out {w : World} {g m : Nat} {D : Lts} {cnt : Nat} {last : Int} {p : Nat → Bool} (h : Rep w g m D cnt last p) {n : Int} (hn : (Lit.int .i64 n).wf = true) {s : ByteArray} (hD : D n = some (s, false)) (a b : Int) (ha : a < 0 ∨ (s.size : Int) ≤ a) :
 Calls Try.prog 16 #[.pointer (some ⟨g, 0, none⟩), .int .i64 n, .int .i64 a, .int .u8 b] w fun e w' => e = .returned (.int .i64 2) ∧ Below w.heap.size w w' := by
 have hF := find_calls h hn
 unfold errF letF at hF
 rw [hD] at hF
 unfold lv at hF
 simp only [Option.getD_some, Option.isSome_some, if_true] at hF
 by_cases c : a < 0
 ·have c1 : decide (a < 0) = true := decide_eq_true c
  go_enter Try.func16, Try.ntmps16
  go_wp2_with (first | (go_at_call 21; refine hF.mono ?_; rintro e w1 ⟨rfl, hb⟩) | go_in)
  go_ret
  exact ⟨rfl, pbA hb _⟩
 ·have c1 : decide (a < 0) = false := decide_eq_false c
  have c2 : decide ((s.size : Int) ≤ a) = true := decide_eq_true (by omega)
  go_enter Try.func16, Try.ntmps16
  go_wp2_with (first | (go_at_call 21; refine hF.mono ?_; rintro e w1 ⟨rfl, hb⟩) | go_in)
  go_ret
  exact ⟨rfl, pbA hb _⟩
theorem to_bytes (W : World) (s : ByteArray) : ∃ W2 cap, (convert 9 57 (.string s)).run Try.prog W = .ok (.slice (some ⟨W.heap.size, 0, none⟩) s.size cap) W2 ∧ Below W.heap.size W W2 ∧ (∀ j, j < s.size → W2.cell? ⟨W.heap.size, j, none⟩ = some (.int .u8 (s.data.toList.getD j 0).toNat) ∧ W2.frozen? ⟨W.heap.size, j, none⟩ = false) ∧ W2.heap.size = W.heap.size + 1 := by
 refine ⟨_, _, Lib.run_convert_string_bytes W 9 57 5 s Try.underlying9 Try.underlying57 Try.underlying5, ?_, fun j hj => ⟨Lib.bytesWorld_cell W _ s j hj, ?_⟩, Lib.bytesWorld_size W _ s⟩
 ·exact ⟨rfl, rfl, rfl, by rw [Lib.bytesWorld_size]; omega, fun k hk => Lib.bytesWorld_at_old W _ s k hk⟩
 ·have hsz : s.size ≤ (Lib.bytesCells W 5 s).size := by
   unfold Lib.bytesCells
   rw [Array.size_append, Array.size_map]; exact Nat.le_add_right _ _
  simp [World.frozen?, Lib.bytesWorld_at_new]
  omega
/-- A text in which one byte is another one. -/
def spoilt (s : ByteArray) (a : Nat) (v : Int) : ByteArray := strOfNums ((s.data.toList.map fun c => (c.toNat : Int)).set a v)
set_option maxHeartbeats 4000000 in
theorem spoil_calls {w : World} {g m : Nat} {D : Lts} {cnt : Nat} {last : Int} {p : Nat → Bool} (h : Rep w g m D cnt last p) {n : Int} (hn : (Lit.int .i64 n).wf = true) {s : ByteArray} (hD : D n = some (s, false)) (a : Nat) (b : Int) (ha : a < s.size) :
 Calls Try.prog 16 #[.pointer (some ⟨g, 0, none⟩), .int .i64 n, .int .i64 (a : Int), .int .u8 b] w fun e w' => e = .returned (.int .i64 0) ∧ (∃ v, Rep w' g m (putL D n (spoilt s a v, true)) cnt last p) ∧ Two g m w w' := by
 have hF := find_calls h hn
 have hne := h.ne
 unfold errF letF at hF
 rw [hD] at hF
 unfold lv at hF
 simp only [Option.getD_some, Option.isSome_some, if_true] at hF
 have c1 : decide ((a : Int) < 0) = false := decide_eq_false (by omega)
 have c2 : decide ((s.size : Int) ≤ (a : Int)) = false := decide_eq_false (by omega)
 go_enter Try.func16, Try.ntmps16
 go_wp2_with (first | (go_at_call 21; refine hF.mono ?_; rintro e w1 ⟨rfl, hb⟩; have h1 := h.below hb; have h2 : Rep (w1.alloc (.cells #[.string s, .bool false] 53)) g m D cnt last p := h1.below (pbA (Below.refl _ _) _); obtain ⟨W2, cap, hcv, hbw, hrow, hsz2⟩ := to_bytes (w1.alloc (.cells #[.string s, .bool false] 53)) s; simp only [World.size_alloc] at hcv hrow; have hr0 := (hrow a ha).1; have hf0 := (hrow a ha).2; have hX : W2.heap[w1.heap.size]? = some (.cells #[.string s, .bool false] 53 (0, 0)) := (hbw.block _ (by simp)).trans (heap_alloc_new _ _)) | go_in)
 generalize bits BinOp.xor IntKind.u8 (↑s.data[a].toNat) b = v
 obtain ⟨W, hW⟩ : ∃ W, W = W2.setCell ⟨w1.heap.size + 1, a, none⟩ (.int .u8 v) := ⟨_, rfl⟩
 rw [← hW]
 have hlt2 := h2.lt
 have hltm2 := h2.ltm
 simp only [World.size_alloc] at hlt2 hltm2 hbw hsz2
 have hne1 : g ≠ w1.heap.size + 1 := by omega
 have hnm1 : m ≠ w1.heap.size + 1 := by omega
 have hr2 : Rep W2 g m D cnt last p := h2.keep (hbw.block _ hlt2) (hbw.block _ hltm2)
 have hR : Rep W.drew g m D cnt last p := by
  rw [hW]
  exact hr2.keep (Below.heap_setCell _ _ _ _ hne1) (Below.heap_setCell _ _ _ _ hnm1)
 have hT : Two g m w W.drew := by
  rw [hW]
  refine (Two.of_below ?_).trans (Two.drew _)
  have e1 := pbZ hb
  have hb2 : Below w.heap.size w W2 := (pbA hb _).trans (hbw.mono (by omega))
  exact hb2.setCell (p := ⟨w1.heap.size + 1, a, none⟩) (by simp only; omega) _
 have hlen : ((s.data.toList.map fun c => (c.toNat : Int)).set a v).length = s.size := by rw [List.length_set, List.length_map, ← Lib.size_eq]
 have hcells : ∀ i, i < s.size → W.drew.cell? ⟨w1.heap.size + 1, 0 + i, none⟩ = some (.int .u8 (((s.data.toList.map fun c => (c.toNat : Int)).set a v).getD i 0)) := by
  intro i hi
  rw [Nat.zero_add, hW]
  by_cases c : i = a
  ·subst c
   have : (W2.setCell ⟨w1.heap.size + 1, i, none⟩ (.int .u8 v)).cell? ⟨w1.heap.size + 1, i, none⟩ = some (.int .u8 v) := World.cell?_setCell_same _ _ _ hr0
   refine Eq.trans this ?_
   rw [List.getD_eq_getElem?_getD, List.getElem?_set_self (by rw [List.length_map, ← Lib.size_eq]; exact hi)]; rfl
  ·have h3 : (W2.setCell ⟨w1.heap.size + 1, a, none⟩ (.int .u8 v)).cell? ⟨w1.heap.size + 1, i, none⟩ = W2.cell? ⟨w1.heap.size + 1, i, none⟩ := World.cell?_setCell_other _ _ _ _ (by simp [Ne.symm c])
   refine Eq.trans h3 ((hrow i hi).1.trans ?_)
   rw [List.getD_eq_getElem?_getD, List.getD_eq_getElem?_getD, List.getElem?_set_ne (Ne.symm c), List.getElem?_map]
   have : i < s.data.toList.length := by rw [← Lib.size_eq]; exact hi
   rw [List.getElem?_eq_getElem this]; rfl
 have hcv2 := run_convert_bytes_arg W.drew 57 5 Try.underlying57 Try.underlying5 (w1.heap.size + 1) 0 s.size cap _ hlen hcells 9 Try.underlying9
 obtain ⟨w3, hup, hM3, hO⟩ := hR.map.put_old hn (by rw [hD]; rfl) (spoilt s a v, true)
 unfold lv at hup
 unfold spoilt at hup
 have c0 : W.drew.cell? ⟨g, 0, none⟩ = some (.map (some m)) := (bkC hR.bag 0).trans rfl
 have c0' : W.cell? ⟨g, 0, none⟩ = some (.map (some m)) := c0
 clear hW hcells hr0 hf0 hrow
 go_region
 go_wp2
 go_ret
 exact ⟨rfl, ⟨v, (hO.block g hne).trans hR.bag, hM3⟩, hT.trans (Two.of_one hO)⟩
end Go.Proofs.Ytofiahgneaopoaa.P
end
section
namespace Go.Proofs.Ytofiahgneaopoaa.P
open Go.RowKit Go.Proofs.YtofiahgneaopoaaW.PrintWords Go.Proofs.YtofiahgneaopoaaW.PrintLast Go.Proofs.YtofiahgneaopoaaW.PrintMore
attribute [local go_sem] max2_int min2_int max_two min_two max_three min_three max_four min_four   -- for this text's walks alone
def l17_num.f (a0 : Int) : Option (Int) := some a0
set_option maxHeartbeats 8000000 in
set_option maxRecDepth 100000 in
theorem l17_num.calls (a0 : Int) (r : Int) (w : World) (h : l17_num.f a0 = some r) :
 Calls Try.prog 13 #[.int .i64 a0] w fun e w' => e = .returned (.int .i64 r) ∧ Drawn0 w w' := by
 have H : (some a0) = some r := h
 clear h
 obtain rfl := Option.some.inj H
 go_enter Try.func13, Try.ntmps13
 go_wp2
 go_ret
 exact ⟨by first | rfl | (simp; done) | (simp [*]; done), by repeat (first | exact Drawn0.refl _ | apply Drawn0.step)⟩
end Go.Proofs.Ytofiahgneaopoaa.P
end
section
namespace Go.Proofs.Ytofiahgneaopoaa.P
open Go.RowKit Go Go.Proofs.Ytofiahgneaopoaa.K Go.Proofs.YtofiahgneaopoaaW.PrintWords Go.Proofs.YtofiahgneaopoaaW.PrintLast Go.Proofs.YtofiahgneaopoaaW.PrintMore
theorem num_calls (a : Int) (w : World) : Calls Try.prog 13 #[.int .i64 a] w fun e w' => e = .returned (.int .i64 a) ∧ Drawn0 w w' := l17_num.calls a a w rfl
structure St (B : Nat) (w0 w : World) (g m : Nat) (D : Lts) (cnt : Nat) (last : Int) (p : Nat → Bool) : Prop where
 rep : Rep w g m D cnt last p
 below : Below B w0 w
 hg : B ≤ g
 hm : B ≤ m
section
variable {B : Nat} {w0 w : World} {g m : Nat} {D : Lts} {cnt : Nat} {last : Int} {p : Nat → Bool}
theorem St.drewN (h : St B w0 w g m D cnt last p) (n : Nat) : St B w0 (w.drewN n) g m D cnt last p := ⟨h.rep.keep rfl rfl, pbN h.below n, h.hg, h.hm⟩
theorem St.step {w1 : World} (h : St B w0 w g m D cnt last p) (hb : Below w.heap.size w w1) : St B w0 w1 g m D cnt last p := ⟨h.rep.below hb, h.below.trans (hb.mono (Nat.le_of_lt (Nat.lt_of_le_of_lt h.hg h.rep.lt))), h.hg, h.hm⟩
theorem St.two {w1 : World} (h : St B w0 w g m D cnt last p) {D1 : Lts} {cnt1 : Nat} {last1 : Int} {p1 : Nat → Bool} (hr : Rep w1 g m D1 cnt1 last1 p1) (ht : Two g m w w1) : St B w0 w1 g m D1 cnt1 last1 p1 :=
 ⟨hr, h.below.trans (Rep.two ht h.hg h.hm h.rep.lt), h.hg, h.hm⟩
theorem st_new (HB : Below w0.heap.size w0 w) : Calls Try.prog 8 #[] w fun e w' => ∃ g m, e = .returned (.pointer (some ⟨g, 0, none⟩)) ∧ St w0.heap.size w0 w' g m (fun _ => none) 0 0 (fun _ => false) := by
 refine (new_calls w).mono ?_
 rintro e w' ⟨g, m, rfl, hg, hm, hr, hb⟩
 exact ⟨g, m, rfl, hr, pbT HB hb, Nat.le_trans (pbZ HB) hg, Nat.le_trans (pbZ HB) hm⟩
theorem st_parted (h : St B w0 w g m D cnt last p) (x y : Int) : Calls Try.prog 10 #[.pointer (some ⟨g, 0, none⟩), .int .i64 x, .int .i64 y] w fun e w' => e = .returned (.bool (pt p x y)) ∧ St B w0 w' g m D cnt last p := by
 refine (parted_calls h.rep x y).mono ?_
 rintro e w' ⟨rfl, hb⟩
 exact ⟨rfl, h.step hb⟩
theorem st_len (h : St B w0 w g m D cnt last p) : Calls Try.prog 18 #[.pointer (some ⟨g, 0, none⟩)] w fun e w' => e = .returned (.int .i64 (cnt : Int)) ∧ St B w0 w' g m D cnt last p := by
 refine (len_calls h.rep).mono ?_
 rintro e w' ⟨rfl, hb⟩
 exact ⟨rfl, h.step hb⟩
/-- Whom a Cut parts, or not any more. -/
def cutP (p : Nat → Bool) (x y : Int) (on : Bool) : Nat → Bool := if x ≠ y ∧ isP x = true ∧ isP y = true then fun k => if k = 8 * x.toNat + y.toNat ∨ k = 8 * y.toNat + x.toNat then on else p k else p
theorem st_cut (h : St B w0 w g m D cnt last p) (x y : Int) (on : Bool) : Calls Try.prog 11 #[.pointer (some ⟨g, 0, none⟩), .int .i64 x, .int .i64 y, .bool on] w fun e w' => e = .returned (.tuple #[]) ∧ St B w0 w' g m D cnt last (cutP p x y on) := by
 unfold cutP
 by_cases hc : x ≠ y ∧ isP x = true ∧ isP y = true
 ·rw [if_pos hc]
  obtain ⟨h0, h1, h2⟩ := hc
  obtain ⟨a1, a2⟩ := of_decide_eq_true h1
  obtain ⟨a3, a4⟩ := of_decide_eq_true h2
  obtain ⟨i, rfl⟩ : ∃ i : Nat, x = (i : Int) := ⟨x.toNat, by omega⟩
  obtain ⟨j, rfl⟩ : ∃ j : Nat, y = (j : Int) := ⟨y.toNat, by omega⟩
  refine (cut_calls h.rep i j (by omega) (by omega) (by omega) on).mono ?_
  rintro e w' ⟨rfl, hr, ht⟩
  exact ⟨rfl, h.two hr ht⟩
 ·rw [if_neg hc]
  refine (cut_none (g := g) x y ?_ on).mono ?_
  ·by_cases h0 : x = y
   ·exact .inl h0
   ·cases h1 : isP x
    ·exact .inr (.inl rfl)
    ·cases h2 : isP y
     ·exact .inr (.inr rfl)
     ·exact absurd ⟨h0, h1, h2⟩ hc
  ·rintro e w' ⟨rfl, hb⟩
   exact ⟨rfl, h.step hb⟩
theorem wrap_last (h0 : 0 ≤ last) (h1 : last ≤ 1000000) : wrap64 (last + 1) = last + 1 := by unfold wrap64; omega
theorem st_send (h : St B w0 w g m D cnt last p) (x y : Int) (s : ByteArray) (h0 : 0 ≤ last) (h1 : last ≤ 1000000) (hD : D (last + 1) = none) (hc : pt p x y = false) (hcnt : cnt < 3000) :
 Calls Try.prog 9 #[.pointer (some ⟨g, 0, none⟩), .int .i64 x, .int .i64 y, .string s] w fun e w' => e = .returned (.int .i64 (last + 1)) ∧ St B w0 w' g m (putL D (last + 1) (s, false)) (cnt + 1) (last + 1) p := by
 have e1 := wrap_last h0 h1
 have := send_calls h.rep x y s (by rw [e1]; exact hD) hc hcnt
 rw [e1] at this
 refine this.mono ?_
 rintro e w' ⟨rfl, hr, ht⟩
 exact ⟨rfl, h.two hr ht⟩
theorem st_send_none (h : St B w0 w g m D cnt last p) (x y : Int) (s : ByteArray) (hc : pt p x y = true ∨ 3000 ≤ cnt) :
 Calls Try.prog 9 #[.pointer (some ⟨g, 0, none⟩), .int .i64 x, .int .i64 y, .string s] w fun e w' => e = .returned (.int .i64 0) ∧ St B w0 w' g m D cnt last p := by
 refine (send_none h.rep x y s hc).mono ?_
 rintro e w' ⟨rfl, hb⟩
 exact ⟨rfl, h.step hb⟩
theorem st_take (h : St B w0 w g m D cnt last p) {n : Int} (hn : (Lit.int .i64 n).wf = true) {x : ByteArray × Bool} (hD : D n = some x) :
 Calls Try.prog 12 #[.pointer (some ⟨g, 0, none⟩), .int .i64 n] w fun e w' => e = .returned (.tuple #[.string x.1, .int .i64 0]) ∧ St B w0 w' g m (delL D n) (cnt - 1) last p ∧ 1 ≤ cnt := by
 refine (take_calls h.rep hn hD).mono ?_
 rintro e w' ⟨rfl, hr, ht, hc⟩
 exact ⟨rfl, h.two hr ht, hc⟩
theorem st_take_none (h : St B w0 w g m D cnt last p) {n : Int} (hn : (Lit.int .i64 n).wf = true) (hD : D n = none) :
 Calls Try.prog 12 #[.pointer (some ⟨g, 0, none⟩), .int .i64 n] w fun e w' => e = .returned (.tuple #[.string ⟨#[]⟩, .int .i64 2]) ∧ St B w0 w' g m D cnt last p := by
 refine (take_none h.rep hn hD).mono ?_
 rintro e w' ⟨rfl, hb⟩
 exact ⟨rfl, h.step hb⟩
theorem st_double (h : St B w0 w g m D cnt last p) {n : Int} (hn : (Lit.int .i64 n).wf = true) {x : ByteArray × Bool} (hD : D n = some x) (hc : cnt < 3000) (h0 : 0 ≤ last) (h1 : last ≤ 1000000) (hL : D (last + 1) = none) :
 Calls Try.prog 15 #[.pointer (some ⟨g, 0, none⟩), .int .i64 n] w fun e w' => e = .returned (.tuple #[.int .i64 (last + 1), .int .i64 0]) ∧ St B w0 w' g m (putL D (last + 1) x) (cnt + 1) (last + 1) p := by
 have e1 := wrap_last h0 h1
 have := double_calls h.rep hn hD hc (by rw [e1]; exact hL)
 rw [e1] at this
 refine this.mono ?_
 rintro e w' ⟨rfl, hr, ht⟩
 exact ⟨rfl, h.two hr ht⟩
theorem st_double_none (h : St B w0 w g m D cnt last p) {n : Int} (hn : (Lit.int .i64 n).wf = true) (hD : D n = none) :
 Calls Try.prog 15 #[.pointer (some ⟨g, 0, none⟩), .int .i64 n] w fun e w' => e = .returned (.tuple #[.int .i64 0, .int .i64 2]) ∧ St B w0 w' g m D cnt last p := by
 refine (double_none h.rep hn hD).mono ?_
 rintro e w' ⟨rfl, hb⟩
 exact ⟨rfl, h.step hb⟩
theorem st_double_full (h : St B w0 w g m D cnt last p) {n : Int} (hn : (Lit.int .i64 n).wf = true) {x : ByteArray × Bool} (hD : D n = some x) (hc : 3000 ≤ cnt) :
 Calls Try.prog 15 #[.pointer (some ⟨g, 0, none⟩), .int .i64 n] w fun e w' => e = .returned (.tuple #[.int .i64 0, .int .i64 5]) ∧ St B w0 w' g m D cnt last p := by
 refine (double_full h.rep hn hD hc).mono ?_
 rintro e w' ⟨rfl, hb⟩
 exact ⟨rfl, h.step hb⟩
theorem st_spoil (h : St B w0 w g m D cnt last p) {n : Int} (hn : (Lit.int .i64 n).wf = true) {s : ByteArray} (hD : D n = some (s, false)) (a b : Int) (ha : 0 ≤ a) (ha2 : a < (s.size : Int)) :
 Calls Try.prog 16 #[.pointer (some ⟨g, 0, none⟩), .int .i64 n, .int .i64 a, .int .u8 b] w fun e w' => e = .returned (.int .i64 0) ∧ ∃ v, St B w0 w' g m (putL D n (spoilt s a.toNat v, true)) cnt last p := by
 obtain ⟨i, rfl⟩ : ∃ i : Nat, a = (i : Int) := ⟨a.toNat, by omega⟩
 refine (spoil_calls h.rep hn hD i b (by omega)).mono ?_
 rintro e w' ⟨rfl, ⟨v, hr⟩, ht⟩
 exact ⟨rfl, v, h.two hr ht⟩
theorem st_spoil_there (h : St B w0 w g m D cnt last p) {n : Int} (hn : (Lit.int .i64 n).wf = true) {s : ByteArray} (hD : D n = some (s, true)) (a b : Int) :
 Calls Try.prog 16 #[.pointer (some ⟨g, 0, none⟩), .int .i64 n, .int .i64 a, .int .u8 b] w fun e w' => e = .returned (.int .i64 8) ∧ St B w0 w' g m D cnt last p := by
 refine (spoil_there h.rep hn hD a b).mono ?_
 rintro e w' ⟨rfl, hb⟩
 exact ⟨rfl, h.step hb⟩
/-- What a Spoil leaves: nothing has turned, or a letter that was whole has one byte that is another one. -/
theorem st_spoil_any (h : St B w0 w g m D cnt last p) {n : Int} (hn : (Lit.int .i64 n).wf = true) (a b : Int) :
 Calls Try.prog 16 #[.pointer (some ⟨g, 0, none⟩), .int .i64 n, .int .i64 a, .int .u8 b] w fun e w' => ∃ r : Int, e = .returned (.int .i64 r) ∧ ∃ D1, St B w0 w' g m D1 cnt last p ∧ (D1 = D ∨ ∃ s i v, i < s.size ∧ D n = some (s, false) ∧ D1 = putL D n (spoilt s i v, true)) := by
 cases hD : D n with
 | none =>
  refine (spoil_none h.rep hn hD a b).mono ?_
  rintro e w' ⟨rfl, hb⟩
  exact ⟨_, rfl, D, h.step hb, .inl rfl⟩
 | some x =>
  obtain ⟨s, c⟩ := x
  cases c
  ·by_cases hx : a < 0 ∨ (s.size : Int) ≤ a
   ·refine (spoil_out h.rep hn hD a b hx).mono ?_
    rintro e w' ⟨rfl, hb⟩
    exact ⟨_, rfl, D, h.step hb, .inl rfl⟩
   ·refine (st_spoil h hn hD a b (by omega) (by omega)).mono ?_
    rintro e w' ⟨rfl, v, hs⟩
    exact ⟨_, rfl, _, hs, .inr ⟨s, a.toNat, v, by omega, rfl, rfl⟩⟩
  ·refine (spoil_there h.rep hn hD a b).mono ?_
   rintro e w' ⟨rfl, hb⟩
   exact ⟨_, rfl, D, h.step hb, .inl rfl⟩
end
set_option maxHeartbeats 8000000 in
set_option maxRecDepth 100000 in
theorem live_calls (w : World) : Calls Try.prog 7 #[] w fun e w' => e = .returned (.bool true) ∧ Below w.heap.size w w' := by
 go_enter Try.func7, Try.ntmps7
 go_wp2_with (first
  | (go_at_call 8; refine (st_new (Below.refl _ _)).mono ?_; rintro e w1 ⟨g, m, rfl, HS⟩)
  | (go_at_call 9; refine (st_send HS _ _ _ (by decide) (by decide) rfl rfl (by decide)).mono ?_; clear HS; rintro e w' ⟨rfl, HS⟩)
  | (go_at_call 9; refine (st_send_none (by first | exact HS | exact HS.drewN _) _ _ _ (.inl rfl)).mono ?_; clear HS; rintro e w' ⟨rfl, HS⟩)
  | (go_at_call 15; refine (st_double HS (by decide) rfl (by decide) (by decide) (by decide) rfl).mono ?_; clear HS; rintro e w' ⟨rfl, HS⟩)
  | (go_at_call 12; refine (st_take HS (by decide) rfl).mono ?_; clear HS; rintro e w' ⟨rfl, HS, hc⟩; clear hc)
  | (go_at_call 12; refine (st_take_none HS (by decide) rfl).mono ?_; clear HS; rintro e w' ⟨rfl, HS⟩)
  | (go_at_call 11; refine (st_cut HS _ _ _).mono ?_; clear HS; rintro e w' ⟨rfl, HS⟩)
  | (go_at_call 13; refine (num_calls _ _).mono ?_; rintro e w' ⟨rfl, ⟨nd, rfl⟩⟩)
  | (go_at_call 18; refine (st_len (by first | exact HS | exact HS.drewN _)).mono ?_; clear HS; rintro e w' ⟨rfl, HS⟩)
  | (go_at_call 10; refine (st_parted (by first | exact HS | exact HS.drewN _) _ _).mono ?_; clear HS; rintro e w' ⟨rfl, HS⟩)
  | (go_at_call 16; refine (st_spoil (by first | exact HS | exact HS.drewN _) (by decide) rfl _ _ (by decide) (by decide)).mono ?_; clear HS; rintro e w' ⟨rfl, v, HS⟩)
  | (go_at_call 16; refine (st_spoil_there (by first | exact HS | exact HS.drewN _) (by decide) rfl _ _).mono ?_; clear HS; rintro e w' ⟨rfl, HS⟩)
  | go_in)
 go_ret
 exact ⟨rfl, (HS.drewN _).below⟩
theorem parted_nil (w : World) (x y : Int) : Calls Try.prog 10 #[.pointer none, .int .i64 x, .int .i64 y] w fun e w' => e = .returned (.bool false) ∧ Below w.heap.size w w' := by
 go_enter Try.func10, Try.ntmps10
 go_wp2
 go_ret
 exact ⟨rfl, Below.refl _ _⟩
theorem send_nil (w : World) (x y : Int) (s : ByteArray) : Calls Try.prog 9 #[.pointer none, .int .i64 x, .int .i64 y, .string s] w fun e w' => e = .returned (.int .i64 0) ∧ Below w.heap.size w w' := by
 go_enter Try.func9, Try.ntmps9
 go_wp2
 go_ret
 exact ⟨rfl, Below.refl _ _⟩
theorem len_nil (w : World)  : Calls Try.prog 18 #[.pointer none] w fun e w' => e = .returned (.int .i64 0) ∧ Below w.heap.size w w' := by
 go_enter Try.func18, Try.ntmps18
 go_wp2
 go_ret
 exact ⟨rfl, Below.refl _ _⟩
theorem cut_nil (w : World) (x y : Int) (on : Bool) : Calls Try.prog 11 #[.pointer none, .int .i64 x, .int .i64 y, .bool on] w fun e w' => e = .returned (.tuple #[]) ∧ Below w.heap.size w w' := by
 go_enter Try.func11, Try.ntmps11
 go_wp2
 refine bodyPost_end (v := .tuple #[]) (results_list (rs := []) rfl (by simp) .nil) rfl ?_
 exact ⟨rfl, Below.refl _ _⟩
theorem numbers_nil (w : World) : Calls Try.prog 17 #[.pointer none] w fun e w' => e = .returned (.slice none 0 0) ∧ Below w.heap.size w w' := by
 go_enter Try.func17, Try.ntmps17
 go_wp2
 go_ret
 exact ⟨rfl, Below.refl _ _⟩
theorem find_nil (w : World) (n : Int) : Calls Try.prog 21 #[.pointer none, .int .i64 n] w fun e w' => e = .returned (.tuple #[.agg #[.string ⟨#[]⟩, .bool false], .int .i64 7]) ∧ Below w.heap.size w w' := by
 go_enter Try.func21, Try.ntmps21
 go_wp2
 refine bodyPost_ret (find_res w.heap.size rfl (heap_alloc_new _ _)) rfl ⟨rfl, pbA (Below.refl _ _) _⟩
theorem take_nil (w : World) (n : Int) : Calls Try.prog 12 #[.pointer none, .int .i64 n] w fun e w' => e = .returned (.tuple #[.string ⟨#[]⟩, .int .i64 7]) ∧ Below w.heap.size w w' := by
 go_enter Try.func12, Try.ntmps12
 go_wp2_with (first | (go_at_call 21; refine (find_nil _ _).mono ?_; rintro e w1 ⟨rfl, hb⟩) | go_in)
 refine bodyPost_ret (results_list (rs := [.tmp 4, .tmp 5]) rfl (by simp) (.tmp (.tmp .nil))) rfl ?_
 exact ⟨rfl, pbA hb _⟩
theorem double_nil (w : World) (n : Int) : Calls Try.prog 15 #[.pointer none, .int .i64 n] w fun e w' => e = .returned (.tuple #[.int .i64 0, .int .i64 7]) ∧ Below w.heap.size w w' := by
 go_enter Try.func15, Try.ntmps15
 go_wp2_with (first | (go_at_call 21; refine (find_nil _ _).mono ?_; rintro e w1 ⟨rfl, hb⟩) | go_in)
 refine bodyPost_ret (results_list (rs := [.tmp 4, .tmp 5]) rfl (by simp) (.tmp (.tmp .nil))) rfl ?_
 exact ⟨rfl, pbA hb _⟩
theorem spoil_nil (w : World) (n a b : Int) : Calls Try.prog 16 #[.pointer none, .int .i64 n, .int .i64 a, .int .u8 b] w fun e w' => e = .returned (.int .i64 7) ∧ Below w.heap.size w w' := by
 go_enter Try.func16, Try.ntmps16
 go_wp2_with (first | (go_at_call 21; refine (find_nil _ _).mono ?_; rintro e w1 ⟨rfl, hb⟩) | go_in)
 go_ret
 exact ⟨rfl, pbA hb _⟩
end Go.Proofs.Ytofiahgneaopoaa.P
end
section
namespace Go.Proofs.Ytofiahgneaopoaa.P
open Go.RowKit Go Go.Proofs.Ytofiahgneaopoaa.K Go.Proofs.YtofiahgneaopoaaW.PrintWords Go.Proofs.YtofiahgneaopoaaW.PrintLast Go.Proofs.YtofiahgneaopoaaW.PrintMore
/-- The first k letters, all alike. -/
def Dk (s : ByteArray) (k : Nat) : Lts := fun n => if 1 ≤ n ∧ n ≤ (k : Int) then some (s, false) else none
theorem dk_put (s : ByteArray) (k : Nat) : putL (Dk s k) ((k : Int) + 1) (s, false) = Dk s (k + 1) := by
 funext n
 unfold putL Dk
 by_cases h : n = (k : Int) + 1
 ·rw [if_pos h, if_pos (by omega)]
 ·rw [if_neg h]
  by_cases h2 : 1 ≤ n ∧ n ≤ (k : Int)
  ·rw [if_pos h2, if_pos (by omega)]
  ·rw [if_neg h2, if_neg (by omega)]
theorem dk_zero (s : ByteArray) : Dk s 0 = fun _ => none := by
 funext n; unfold Dk; rw [if_neg (by omega)]
theorem pt_false (a b : Int) : pt (fun _ => false) a b = false := by unfold pt; simp
set_option maxHeartbeats 8000000 in
set_option maxRecDepth 100000 in
theorem nil_calls (n : Int) (s : ByteArray) (w : World) (hn : (Lit.int .i64 n).wf = true) : Calls Try.prog 5 #[.int .i64 n, .string s] w fun e w' => e = .returned (.bool true) ∧ Below w.heap.size w w' := by
 by_cases hs : (s.size : Int) > 100
 ·have e1 : decide (100 < (s.size : Int)) = true := decide_eq_true hs
  go_enter Try.func5, Try.ntmps5
  go_wp2_with (first | (go_at_call 7; refine (live_calls _).mono ?_; rintro e w' ⟨rfl, hb⟩) | go_in)
  go_ret
  exact ⟨rfl, hb⟩
 ·have e1 : decide (100 < (s.size : Int)) = false := decide_eq_false hs
  have HB := Below.refl w.heap.size w
  go_enter Try.func5, Try.ntmps5
  go_wp2_with (first
   | (go_at_call 11; refine (cut_nil _ _ _ _).mono ?_; rintro e w' ⟨rfl, hb⟩; replace HB := pbT (by first | exact HB | exact pbN HB _) hb; clear hb)
   | (go_at_call 12; refine (take_nil _ _).mono ?_; rintro e w' ⟨rfl, hb⟩; replace HB := pbT (by first | exact HB | exact pbN HB _) hb; clear hb)
   | (go_at_call 15; refine (double_nil _ _).mono ?_; rintro e w' ⟨rfl, hb⟩; replace HB := pbT (by first | exact HB | exact pbN HB _) hb; clear hb)
   | (go_at_call 9; refine (send_nil _ _ _ _).mono ?_; rintro e w' ⟨rfl, hb⟩; replace HB := pbT (by first | exact HB | exact pbN HB _) hb; clear hb)
   | (go_at_call 16; refine (spoil_nil _ _ _ _).mono ?_; rintro e w' ⟨rfl, hb⟩; replace HB := pbT (by first | exact HB | exact pbN HB _) hb; clear hb)
   | (go_at_call 17; refine (numbers_nil _).mono ?_; rintro e w' ⟨rfl, hb⟩; replace HB := pbT (by first | exact HB | exact pbN HB _) hb; clear hb)
   | (go_at_call 18; refine (len_nil _).mono ?_; rintro e w' ⟨rfl, hb⟩; replace HB := pbT (by first | exact HB | exact pbN HB _) hb; clear hb)
   | (go_at_call 10; refine (parted_nil _ _ _).mono ?_; rintro e w' ⟨rfl, hb⟩; replace HB := pbT (by first | exact HB | exact pbN HB _) hb; clear hb)
   | (go_at_call 13; refine (num_calls _ _).mono ?_; rintro e w' ⟨rfl, ⟨nd, rfl⟩⟩)
   | (go_at_call 8; refine (st_new HB).mono ?_; rintro e w1 ⟨g, m, rfl, HS⟩)
   | go_in)
  go_loopw [11] (fun i wr => ∃ k : Nat, k ≤ 3000 ∧ i = .int .i64 k ∧ St w.heap.size w wr g m (Dk s k) k k (fun _ => false)) (fun i _ => 3000 - (intOf i).toNat)
  case atStart => exact ⟨0, by omega, rfl, by rw [dk_zero]; exact HS⟩
  case round =>
   obtain ⟨k, hk, rfl, HK⟩ := hrel
   have hw : wrap64 ((k : Int) + 1) = ((k + 1 : Nat) : Int) := by unfold wrap64; omega
   by_cases c : k < 3000
   ·have c1 : decide ((k : Int) < 3000) = true := decide_eq_true (by omega)
    have hnone : Dk s k ((k : Int) + 1) = none := by unfold Dk; rw [if_neg (by omega)]
    go_wp2_with (first
     | (go_at_call 9; refine (st_send HK _ _ _ (by omega) (by omega) hnone (pt_false _ _) (by omega)).mono ?_; rintro e w' ⟨rfl, HK2⟩; rw [dk_put] at HK2)
     | go_in)
    go_roundw
    case rel => exact ⟨k + 1, by omega, by go_num, by have := HK2; rwa [show ((k : Int) + 1) = ((k + 1 : Nat) : Int) from rfl] at this⟩
    case measure => simp [intOf]; omega
   ·obtain rfl : k = 3000 := by omega
    have hone : Dk s 3000 1 = some (s, false) := by unfold Dk; rw [if_pos (by omega)]
    go_wp2_with (first
     | (go_at_call 15; refine (st_double_full HK (by decide) hone (by decide)).mono ?_; clear HK; rintro e w' ⟨rfl, HK⟩)
     | (go_at_call 9; refine (st_send_none HK _ _ _ (.inr (by decide))).mono ?_; clear HK; rintro e w' ⟨rfl, HK⟩)
     | (go_at_call 13; refine (num_calls _ _).mono ?_; rintro e w' ⟨rfl, ⟨nd, rfl⟩⟩)
     | (go_at_call 18; refine (st_len (by first | exact HK | exact HK.drewN _)).mono ?_; clear HK; rintro e w' ⟨rfl, HK⟩)
     | (go_at_call 7; refine (live_calls _).mono ?_; rintro e w' ⟨rfl, hb⟩; replace HK := HK.step hb; clear hb)
     | go_in)
    go_ret
    exact ⟨rfl, HK.below⟩
def l17_BagNil.f (a0 : Int) (a1 : ByteArray) : Option Bool := if (Lit.int .i64 a0).wf = true then some true else none
theorem l17_BagNil.calls (a0 : Int) (a1 : ByteArray) (r : Bool) (w : World) (hr : r = true) (h : l17_BagNil.f a0 a1 = some r) :
 Calls Try.prog 5 #[.int .i64 a0, .string a1] w fun e w' => e = .returned (.bool r) ∧ Below w.heap.size w w' := by
 subst hr
 unfold l17_BagNil.f at h
 split at h
 ·rename_i hn; exact nil_calls a0 a1 w hn
 ·cases h
end Go.Proofs.Ytofiahgneaopoaa.P
end
section
namespace Go.Proofs.Ytofiahgneaopoaa.U
open Go.RowKit Go.Proofs.YtofiahgneaopoaaW.PrintWords Go.Proofs.YtofiahgneaopoaaW.PrintLast Go.Proofs.YtofiahgneaopoaaW.PrintMore Go.Proofs.Ytofiahgneaopoaa.P Go.Proofs.Ytofiahgneaopoaa.K
theorem BagNil : ∀ (a0 : Int), (Lit.int .i64 a0).wf = true → ∀ (a1 : ByteArray), a1.size ≤ reachBytes → l17_BagNil.f a0 a1 = some true := fun a0 h _ _ => by unfold l17_BagNil.f; rw [if_pos h]
end Go.Proofs.Ytofiahgneaopoaa.U
end
section
namespace Go.Proofs.Ytofiahgneaopoaa.bagNil
open Go.ChangeShapes Go.WideShapes Go.ChangeAt Go.RowKit Go.Proofs.Ytofiahgneaopoaa.K
open Go.ChangeMaps (open_string shut_string)
open Go.RowKit Go.Proofs.YtofiahgneaopoaaW.PrintWords Go.Proofs.YtofiahgneaopoaaW.PrintLast Go.Proofs.YtofiahgneaopoaaW.PrintMore Go.Proofs.Ytofiahgneaopoaa.P Go.Proofs.Ytofiahgneaopoaa.K
theorem own : ownKnob Try.prog.godebug = none := by kernel_rfl
theorem laidOut : laidOutB Try.prog = true := by kernel_rfl
set_option maxRecDepth 100000 in
theorem contract (H : Type) (enc : TypeId × Value → H) (W : World) (base : Nat) (args : Array Value) (ds gs : List (DataW H)) (before : List MemPlace)
 (hval0 : ∀ (j : Nat) t v, Try.f5.params[j]? = some t → args[j]? = some v → Value.okWide Try.prog W .any base t v)
 (hW : DataW.Whole enc Try.prog Try.f5.params.toList Rows.bagNilSpec.vars false W args.toList ds gs before)
 (hsz0 : (DataW.weightsEach Try.prog (Try.f5.params.toList ++ Rows.bagNilSpec.plain.varTypes Try.prog) (ds ++ gs)).all (· ≤ reachBytes) = true) :
 Calls Try.prog 5 args W fun e W' => ∃ v, e = .returned v ∧ Rows.bagNilSpec.post enc Try.prog Try.f5 false true false false W args v W' := by
 have hsz : (DataW.weightsEach Try.prog (Try.f5.params.toList ++ Rows.bagNilSpec.plain.varTypes Try.prog) (ds ++ gs)).all (· ≤ reachBytes) = true := hsz0
 have hval : ∀ (j : Nat) t v, Try.f5.params[j]? = some t → args[j]? = some v → Value.okWide Try.prog W .any base t v := hval0
 have hW' := hW
 obtain ⟨p, q, hA0, hV, rfl, hfz, hnd⟩ := hW
 have hA : DataW.TrodAll enc Try.prog W 0 (fun _ => true) true Try.f5.params.toList args.toList ds p := hA0
 rw [Try.params5] at hA hval hsz
 obtain ⟨v0, vs0, d0, ds0, p0, q0, hargs, rfl, rfl, h0, r0⟩ := trodAll_cons hA
 obtain ⟨v1, vs1, d1, ds1, p1, q1, rfl, rfl, rfl, h1, r1⟩ := trodAll_cons r0
 obtain ⟨rfl, rfl, rfl⟩ := trodAll_nil r1
 obtain rfl : args = #[v0, v1] := by cases args; simp_all
 obtain ⟨rfl, rfl⟩ := trodVars_none hV
 have k0 := h0
 have lt0 : ∀ x ∈ p0, x.block < W.heap.size := by obtain ⟨m, hm⟩ := k0; exact DataW.trod_lt m _ _ _ hm
 have wt0 : ∀ n ∈ DataW.weights Try.prog 2 d0, n ≤ reachBytes := fun n hn => of_decide_eq_true (List.all_eq_true.1 hsz n (DataW.weights_mem_each (j := 0) rfl rfl n hn))
 obtain ⟨a0, rfl, rfl, rfl, w0⟩ := open_int Try.underlying2 (hval 0 2 v0 rfl rfl) h0
 have k1 := h1
 have lt1 : ∀ x ∈ p1, x.block < W.heap.size := by obtain ⟨m, hm⟩ := k1; exact DataW.trod_lt m _ _ _ hm
 have wt1 : ∀ n ∈ DataW.weights Try.prog 9 d1, n ≤ reachBytes := fun n hn => of_decide_eq_true (List.all_eq_true.1 hsz n (DataW.weights_mem_each (j := 1) rfl rfl n hn))
 obtain ⟨a1, rfl, rfl, rfl, y1⟩ := open_string Try.underlying9 (hval 1 9 v1 rfl rfl) h1
 have w1 : a1.size ≤ reachBytes := by have := wt1 a1.data.toList.length (by simp [DataW.weights]); rw [← Lib.size_eq] at this; exact this
 have hp := U.BagNil a0 w0 a1 w1
 refine (l17_BagNil.calls (r := true) (w := W) (hr := rfl)  (h := hp)).mono ?_
 rintro e W' ⟨rfl, bel0⟩
 have bel : Below W.heap.size W W' := by first | exact bel0 | exact bel0.below
 exact ⟨_, rfl, _, _, _, [], _, [], hW', trodAll_mk1 (shut_bool Try.underlying4 _), (trodAll_cons_mk (Below.trod laidOut (by kernel_rfl) (of_decide_eq_true (by kernel_rfl)) k0 bel lt0) (trodAll_cons_mk (Below.trod laidOut (by kernel_rfl) (of_decide_eq_true (by kernel_rfl)) k1 bel lt1) trodAll_mk0)), rfl, bel.frame _, fun h => by cases h⟩
set_option maxRecDepth 100000 in
theorem lifted (os : Os) (started : os.Started) (H : Type) (enc : TypeId × Value → H) :
 ReturnsInHanded {} Try.checked os 5 .any (Rows.bagNilSpec.pre6 enc Try.prog Try.f5 Rows.bagNilRow.domain false) (Rows.bagNilSpec.post enc Try.prog Try.f5 false true false false) := by
 refine returnsInHanded_of_change_sized (C := Try.checked) own started (by kernel_rfl) Try.func5
  (ChangeSpec.witness6 (enc := enc) (C := Try.checked) false ⟨#[], #[.int .i64 0, .string ByteArray.empty], []⟩ 8 (by kernel_rfl) (by kernel_rfl) (by kernel_rfl) (by kernel_rfl)) ?_
 intro W base args ds gs before hval hW _ hsz _
 exact contract H enc W base args ds gs before hval hW hsz
theorem said : Rows.BagNilSaid :=
 OpenClaim.holds_of_wide 5 Try.f5 rfl rfl rfl rfl rfl rfl rfl ⟨rfl, rfl, rfl, rfl, rfl⟩ rfl rfl rfl rfl rfl (by kernel_rfl) Try.func5 (by kernel_rfl)
  (of_decide_eq_true (by kernel_rfl)) (by unfold Func.isWrapper; first | (rw [if_pos (by decide +kernel)]; kernel_rfl) | (rw [if_neg (by decide +kernel)]; exact ⟨rfl, rfl⟩))
  (fun os started H enc _ => lifted os started H enc)
#print axioms said
end Go.Proofs.Ytofiahgneaopoaa.bagNil
namespace Go.Proofs.Ytofiahgneaopoaa
theorem bagNil_holds : Rows.BagNilSaid := bagNil.said
end Go.Proofs.Ytofiahgneaopoaa
end
