import Derived.Test.YtofiahgneaopoaaZBagOnce0
import Derived.ArgAppend
import Derived.Below
import Derived.BigQuiet
import Derived.ChangeOld
import Derived.DataReads
import Derived.Deep.AppendLies
import Derived.Deep.CutBlock
import Derived.Deep.DeepCutAuto
import Derived.Deep.DrawnRows
import Derived.Deep.Draws
import Derived.Deep.LoopGhost
import Derived.Deep.OwnRows
import Derived.Deep.QuietTactic
import Derived.Deep.RegionHeld3
import Derived.KernelRfl
import Derived.Laws.BitsLemmas
import Derived.Laws.BytesArg
import Derived.Laws.IdiomCopy
import Derived.Laws.MakeOwn
import Derived.Laws.OwnMore
import Derived.Laws.Rows
import Derived.Laws.Slices
import Derived.Lib.AppendStr
import Derived.Lib.ConvBytes
import Derived.Lib.Hide
import Derived.Lib.Strings
import Derived.Maps.AppendAt
import Derived.Maps.OwnSet
import Derived.OpenShut
import Derived.OrdersHeld
import Derived.OwnWalk
import Derived.ProofKit
import Derived.RowKit
import Derived.RowKit3
import Derived.ShutString
import Derived.SizedLaws
import Derived.Tactics
import Derived.WalkKit
import Derived.WideLaws
import GoSem.ClaimJoined
import Derived.Test.YtofiahgneaopoaaProg
import Derived.Test.YtofiahgneaopoaaRows
set_option linter.unusedVariables false
set_option linter.unusedSimpArgs false
set_option linter.unnecessarySimpa false
section
namespace Go.Proofs.Ytofiahgneaopoaa.O
open Go Go.RowKit Go.Proofs.YtofiahgneaopoaaW.PrintWords
/-- What is read as data of type t has cells of kind d, and is well formed and within the reach (ok). -/
def Opn {α : Type} (P : Program) (t : TypeId) (d : Kd α) (ok : α → Prop) : Prop :=
 ∀ (H : Type) (enc : TypeId × Value → H) (w : World) (base : Nat) (sp : Nat → Bool) (held : Bool) (fuel : Nat) (cs : List Value) (y : DataW H) (ps : List MemPlace),
  DataW.trod enc P w base sp held fuel t cs = some (y, ps) → (∀ n ∈ DataW.weights P t y, n ≤ reachBytes) → ∃ x, d.K w x cs ∧ ok x
variable {P : Program} {t : TypeId}
theorem Opn.bool (hu : P.underlying t = some .bool) : Opn P t Kd.bool (fun _ => True) := by
 intro H enc w base sp held fuel cs y ps h _
 cases fuel with
 | zero => simp [DataW.trod] at h
 | succ f =>
  unfold DataW.trod at h
  rw [hu] at h
  cases cs with
  | nil => simp at h
  | cons v l =>
   cases l with
   | cons _ _ => cases v <;> simp at h
   | nil => cases v <;> first | exact ⟨_, rfl, trivial⟩ | (simp at h)
theorem Opn.int {k : IntKind} (hu : P.underlying t = some (.int k)) : Opn P t (Kd.int k) (fun n => (Lit.int k n).wf = true) := by
 intro H enc w base sp held fuel cs y ps h _
 cases fuel with
 | zero => simp [DataW.trod] at h
 | succ f =>
  unfold DataW.trod at h
  rw [hu] at h
  cases cs with
  | nil => simp at h
  | cons v l =>
   cases l with
   | cons _ _ => cases v <;> simp at h
   | nil =>
    cases v
    case int k' n =>
     simp only at h
     split at h
     ·rename_i hc
      obtain ⟨rfl, hw⟩ := hc
      exact ⟨n, rfl, hw⟩
     ·exact absurd h (by simp)
    all_goals simp at h
theorem Opn.string (hu : P.underlying t = some .string) : Opn P t Kd.string (fun s => s.size ≤ reachBytes) := by
 intro H enc w base sp held fuel cs y ps h hw
 cases fuel with
 | zero => simp [DataW.trod] at h
 | succ f =>
  unfold DataW.trod at h
  rw [hu] at h
  cases cs with
  | nil => simp at h
  | cons v l =>
   cases l with
   | cons _ _ => cases v <;> simp at h
   | nil =>
    cases v
    case string s =>
     simp only at h
     split at h
     ·simp only [Option.some.injEq, Prod.mk.injEq] at h
      obtain ⟨rfl, _⟩ := h
      refine ⟨s, rfl, ?_⟩
      have := hw s.data.toList.length (by simp [DataW.weights])
      rw [← Lib.size_eq] at this
      exact this
     ·exact absurd h (by simp)
    all_goals simp at h
theorem weightsAll_mem {H : Type} {P : Program} {e : TypeId} : ∀ {l : List (DataW H)} {d : DataW H}, d ∈ l → ∀ n ∈ DataW.weights P e d, n ∈ DataW.weightsAll P e l
 | a :: l, d, hd, n, hn => by
  simp only [DataW.weightsAll, List.mem_append]
  rcases List.mem_cons.1 hd with rfl | hd
  ·exact .inl hn
  ·exact .inr (weightsAll_mem hd n hn)
theorem mapM_some {α β : Type} {f : α → Option β} : ∀ {l : List α} {r : List β}, l.mapM f = some r → r.length = l.length ∧ ∀ i (hi : i < l.length), ∃ b, r[i]? = some b ∧ f l[i] = some b
 | [], r, h => by simp at h; subst h; exact ⟨rfl, fun i hi => by simp at hi⟩
 | a :: l, r, h => by
  simp only [List.mapM_cons, Option.pure_def, Option.bind_eq_bind, Option.bind_eq_some_iff, Option.some.injEq] at h
  obtain ⟨b, hb, r', hr, rfl⟩ := h
  obtain ⟨h1, h2⟩ := mapM_some hr
  refine ⟨by simp [h1], fun i hi => ?_⟩
  cases i with
  | zero => exact ⟨b, rfl, hb⟩
  | succ i => exact h2 i (by simpa using hi)
theorem choose_list {α : Type} (n : Nat) (Q : Nat → α → Prop) (h : ∀ i, i < n → ∃ x, Q i x) : ∃ xs : List α, xs.length = n ∧ ∀ i x, xs[i]? = some x → Q i x := by
 induction n with
 | zero => exact ⟨[], rfl, fun i x hx => by simp at hx⟩
 | succ n ih =>
  obtain ⟨xs, h1, h2⟩ := ih (fun i hi => h i (by omega))
  obtain ⟨x, hx⟩ := h n (by omega)
  refine ⟨xs ++ [x], by simp [h1], fun i y hy => ?_⟩
  rcases Nat.lt_or_ge i n with hi | hi
  ·rw [List.getElem?_append_left (by omega)] at hy; exact h2 i y hy
  ·rw [List.getElem?_append_right (by omega)] at hy
   have : i - xs.length = 0 := by
    rcases Nat.eq_zero_or_pos (i - xs.length) with h0 | h0
    ·exact h0
    ·rw [List.getElem?_eq_none (by simp; omega)] at hy; simp at hy
   rw [this] at hy
   simp at hy
   subst hy
   rw [show i = n by omega]; exact hx
theorem add_add_ (a : Addr) (i j : Nat) : (a.add i).add j = a.add (i + j) := by
 unfold Addr.add
 by_cases hi : i = 0 <;> by_cases hj : j = 0 <;> simp [hi, hj, Nat.add_assoc]
theorem Opn.slice {α : Type} {e : TypeId} {d : Kd α} {ok : α → Prop} {B : Nat} (hu : P.underlying t = some (.slice e)) (hc : P.cellsOf e = d.sz) (hB : P.bytesOf e = B) (ho : Opn P e d ok) :
 Opn P t (Kd.slice e d) (fun xs => xs.length * B ≤ reachBytes ∧ xs.length ≤ maxLen ∧ ∀ x ∈ xs, ok x) := by
 intro H enc w base sp held fuel cs y ps h hw
 cases fuel with
 | zero => simp [DataW.trod] at h
 | succ f =>
  unfold DataW.trod at h
  rw [hu] at h
  cases cs with
  | nil => simp at h
  | cons v l =>
   cases l with
   | cons _ _ => cases v <;> simp at h
   | nil =>
    cases v
    case slice A n c =>
     cases A with
     | none =>
      have hz : n = 0 ∧ c = 0 := by
       cases n <;> cases c <;> simp at h ⊢
      obtain ⟨rfl, rfl⟩ := hz
      exact ⟨[], ⟨none, 0, rfl, Nat.le_refl _, Kd.C_nil _ _⟩, by simp [reachBytes], by simp, by simp⟩
     | some a =>
      simp only at h
      split at h
      ·rename_i hcnd
       obtain ⟨_, hle, hmx⟩ := hcnd
       rw [Option.bind_eq_some_iff] at h
       obtain ⟨elems, he, h⟩ := h
       rw [Option.map_eq_some_iff] at h
       obtain ⟨rest, hr, h⟩ := h
       simp only [Prod.mk.injEq] at h
       obtain ⟨rfl, _⟩ := h
       obtain ⟨hl, hi⟩ := mapM_some he
       rw [List.length_range] at hl
       have hwt : ∀ (i : Nat) (b : DataW H × List MemPlace), elems[i]? = some b → ∀ m ∈ DataW.weights P e b.1, m ≤ reachBytes := by
        intro i b hb m hm
        refine hw m ?_
        simp only [DataW.weights, hu, List.mem_cons, List.mem_append]
        exact .inr (.inl (weightsAll_mem (List.mem_map.2 ⟨b, List.mem_of_getElem? hb, rfl⟩) m hm))
       obtain ⟨xs, hxl, hxs⟩ := choose_list n (fun i x => (∃ cs, (w.cells? base (a.add (i * P.cellsOf e)) (P.cellsOf e)) = some cs ∧ d.K w x cs) ∧ ok x) (by
        intro i hin
        obtain ⟨b, hb, hf⟩ := hi i (by rw [List.length_range]; exact hin)
        rw [List.getElem_range, Option.bind_eq_some_iff] at hf
        obtain ⟨cs, h1, h2⟩ := hf
        obtain ⟨x, hx, hok⟩ := ho H enc w base sp held f cs b.1 b.2 h2 (hwt i b hb)
        exact ⟨x, ⟨cs, h1, hx⟩, hok⟩)
       subst hxl
       refine ⟨xs, ⟨some a, c, rfl, hle, rfl, ?_, ?_⟩, ?_, ?_, ?_⟩
       ·unfold maxLen at hmx; omega
       ·intro hpos
        refine ⟨a, rfl, fun j p hp => ?_⟩
        obtain ⟨⟨cs, h1, h2⟩, _⟩ := hxs j p hp
        refine ⟨cs, d.K_len h2, h2, fun i u hu2 => ?_⟩
        rw [hc] at h1
        obtain ⟨_, _, hcell⟩ := World.cells?_some h1
        have hlt := (List.getElem?_eq_some_iff.1 hu2).1
        rw [d.K_len h2] at hlt
        rw [← add_add_, hcell i hlt]
        exact hu2
       ·have := hw ((elems.length + rest.length) * P.bytesOf e) (by simp [DataW.weights, hu])
        rw [hB, hl] at this
        exact Nat.le_trans (Nat.mul_le_mul_right _ (by omega)) this
       ·omega
       ·intro x hx
        obtain ⟨i, hi2⟩ := List.getElem?_of_mem hx
        exact (hxs i x hi2).2
      ·exact absurd h (by simp)
    all_goals simp at h
def OpnF {α : Type} (P : Program) (d : Kd α) (ok : α → Prop) (fs : List Field) (off : Nat) : Prop :=
 ∀ (H : Type) (enc : TypeId × Value → H) (w : World) (base : Nat) (sp : Nat → Bool) (held : Bool) (fuel : Nat) (cs : List Value) (ys : List (DataW H × List MemPlace)),
  (fs.mapM fun f => DataW.trod enc P w base sp held fuel f.type ((cs.drop f.offset).take (P.cellsOf f.type))) = some ys → (∀ n ∈ DataW.weightsEach P (fs.map (·.type)) (ys.map (·.1)), n ≤ reachBytes) → ∃ x, d.K w x ((cs.drop off).take d.sz) ∧ ok x
theorem OpnF.one {α : Type} {d : Kd α} {ok : α → Prop} {f : Field} {off : Nat} (ho : f.offset = off) (hs : P.cellsOf f.type = d.sz) (h : Opn P f.type d ok) : OpnF P d ok [f] off := by
 intro H enc w base sp held fuel cs ys hm hw
 subst ho
 cases hy : DataW.trod enc P w base sp held fuel f.type ((cs.drop f.offset).take (P.cellsOf f.type)) with
 | none => simp [hy] at hm
 | some y =>
  simp [hy] at hm
  subst hm
  rw [hs] at hy
  exact h H enc w base sp held fuel _ y.1 y.2 hy (fun n hn => hw n (by simp [DataW.weightsEach]; exact hn))
theorem OpnF.cons {α β : Type} {d : Kd α} {d2 : Kd β} {ok : α → Prop} {ok2 : β → Prop} {f : Field} {fs : List Field} {off : Nat} (ho : f.offset = off) (hs : P.cellsOf f.type = d.sz) (h : Opn P f.type d ok) (h2 : OpnF P d2 ok2 fs (off + d.sz)) :
 OpnF P (Kd.pair d d2) (fun x => ok x.1 ∧ ok2 x.2) (f :: fs) off := by
 intro H enc w base sp held fuel cs ys hm hw
 subst ho
 cases hy : DataW.trod enc P w base sp held fuel f.type ((cs.drop f.offset).take (P.cellsOf f.type)) with
 | none => simp [hy] at hm
 | some y =>
  cases hz : (fs.mapM fun f => DataW.trod enc P w base sp held fuel f.type ((cs.drop f.offset).take (P.cellsOf f.type))) with
  | none => simp [hy, hz] at hm
  | some zs =>
   simp [hy, hz] at hm
   subst hm
   rw [hs] at hy
   obtain ⟨x, hx, hok⟩ := h H enc w base sp held fuel _ y.1 y.2 hy (fun n hn => hw n (by simp [DataW.weightsEach]; exact .inl hn))
   obtain ⟨x2, hx2, hok2⟩ := h2 H enc w base sp held fuel cs zs hz (fun n hn => hw n (by simp [DataW.weightsEach]; exact .inr (by simpa using hn)))
   refine ⟨(x, x2), ⟨_, _, ?_, hx, hx2⟩, hok, hok2⟩
   show (cs.drop f.offset).take (d.sz + d2.sz) = _
   rw [List.take_add, List.drop_drop]
theorem Opn.struct {α : Type} {d : Kd α} {ok : α → Prop} {fs : Array Field} (hu : P.underlying t = some (.struct fs)) (hs : P.cellsOf t = d.sz) (h : OpnF P d ok fs.toList 0) : Opn P t d ok := by
 intro H enc w base sp held fuel cs y ps hy hw
 cases fuel with
 | zero => simp [DataW.trod] at hy
 | succ f =>
  unfold DataW.trod at hy
  rw [hu] at hy
  simp only at hy
  split at hy
  ·rename_i hl
   rw [Option.map_eq_some_iff] at hy
   obtain ⟨ys, hm, he⟩ := hy
   simp only [Prod.mk.injEq] at he
   obtain ⟨rfl, _⟩ := he
   obtain ⟨x, hx, hok⟩ := h H enc w base sp held f cs ys hm (fun n hn => hw n (by simp only [DataW.weights, hu]; exact hn))
   rw [List.drop_zero, List.take_of_length_le (by omega)] at hx
   exact ⟨x, hx, hok⟩
  ·cases hy
theorem Opn.iso {α β : Type} {d : Kd α} {ok : α → Prop} {f : β → α} (g : α → β) (hg : ∀ x, f (g x) = x) (h : Opn P t d ok) : Opn P t (Kd.iso d f) (fun x => ok (f x)) := by
 intro H enc w base sp held fuel cs y ps hy hw
 obtain ⟨x, hx, hok⟩ := h H enc w base sp held fuel cs y ps hy hw
 exact ⟨g x, by show d.K w (f (g x)) cs; rw [hg]; exact hx, by simp only; rw [hg]; exact hok⟩
theorem Opn.imp {α : Type} {d : Kd α} {ok ok2 : α → Prop} (h : Opn P t d ok) (hi : ∀ x, ok x → ok2 x) : Opn P t d ok2 := by
 intro H enc w base sp held fuel cs y ps hy hw
 obtain ⟨x, hx, hok⟩ := h H enc w base sp held fuel cs y ps hy hw
 exact ⟨x, hx, hi x hok⟩
end Go.Proofs.Ytofiahgneaopoaa.O
end
section
namespace Go.Proofs.Ytofiahgneaopoaa.P
open Go.RowKit Go.Proofs.YtofiahgneaopoaaW.PrintWords Go.Proofs.YtofiahgneaopoaaW.PrintLast Go.Proofs.YtofiahgneaopoaaW.PrintMore
attribute [local go_sem] max2_int min2_int max_two min_two max_three min_three max_four min_four   -- for this text's walks alone
def errW : Option Int → Value
 | none => .nilIface
 | some c => .iface 0 (.int .i64 c)
theorem errW_none : errW none = .nilIface := rfl
theorem errW_some (c : Int) : errW (some c) = .iface 0 (.int .i64 c) := rfl
structure S30 where
 f0 : Int
 f1 : Int
 f2 : Int
 f3 : ByteArray
 f4 : Int
 f5 : Bool
 f6 : Int
def z30 : S30 := ⟨(0 : Int), (0 : Int), (0 : Int), (⟨#[]⟩ : ByteArray), (0 : Int), false, (0 : Int)⟩
def k30 : Kd S30 := Kd.iso (Kd.pair (Kd.int .i64) (Kd.pair (Kd.int .i64) (Kd.pair (Kd.int .i64) (Kd.pair Kd.string (Kd.pair (Kd.int .i64) (Kd.pair Kd.bool (Kd.int .u8))))))) (fun x : S30 => (x.f0, x.f1, x.f2, x.f3, x.f4, x.f5, x.f6))
theorem k30_open {w : World} {x : S30} {cs : List Value} (h : k30.K w x cs) : cs = [.int .i64 x.f0, .int .i64 x.f1, .int .i64 x.f2, .string x.f3, .int .i64 x.f4, .bool x.f5, .int .u8 x.f6] := by
 obtain ⟨_, _, rfl, rfl, ⟨_, _, rfl, rfl, ⟨_, _, rfl, rfl, ⟨_, _, rfl, rfl, ⟨_, _, rfl, rfl, ⟨_, _, rfl, rfl, rfl⟩⟩⟩⟩⟩⟩ := h
 exact rfl
theorem k30_openM {w : World} {base : Nat} {ok : Nat → Prop} {x : S30} {cs : List Value} (h : k30.M w base ok x cs) : cs = [.int .i64 x.f0, .int .i64 x.f1, .int .i64 x.f2, .string x.f3, .int .i64 x.f4, .bool x.f5, .int .u8 x.f6] := by
 obtain ⟨_, _, rfl, rfl, ⟨_, _, rfl, rfl, ⟨_, _, rfl, rfl, ⟨_, _, rfl, rfl, ⟨_, _, rfl, rfl, ⟨_, _, rfl, rfl, rfl⟩⟩⟩⟩⟩⟩ := h
 exact rfl
theorem k30_mk (w : World) (x : S30)  : k30.K w x [.int .i64 x.f0, .int .i64 x.f1, .int .i64 x.f2, .string x.f3, .int .i64 x.f4, .bool x.f5, .int .u8 x.f6] := ⟨[.int .i64 x.f0], [.int .i64 x.f1, .int .i64 x.f2, .string x.f3, .int .i64 x.f4, .bool x.f5, .int .u8 x.f6], rfl, rfl, ⟨[.int .i64 x.f1], [.int .i64 x.f2, .string x.f3, .int .i64 x.f4, .bool x.f5, .int .u8 x.f6], rfl, rfl, ⟨[.int .i64 x.f2], [.string x.f3, .int .i64 x.f4, .bool x.f5, .int .u8 x.f6], rfl, rfl, ⟨[.string x.f3], [.int .i64 x.f4, .bool x.f5, .int .u8 x.f6], rfl, rfl, ⟨[.int .i64 x.f4], [.bool x.f5, .int .u8 x.f6], rfl, rfl, ⟨[.bool x.f5], [.int .u8 x.f6], rfl, rfl, rfl⟩⟩⟩⟩⟩⟩
theorem k30_mkM (w : World) (base : Nat) (ok : Nat → Prop) (x : S30)  : k30.M w base ok x [.int .i64 x.f0, .int .i64 x.f1, .int .i64 x.f2, .string x.f3, .int .i64 x.f4, .bool x.f5, .int .u8 x.f6] := ⟨[.int .i64 x.f0], [.int .i64 x.f1, .int .i64 x.f2, .string x.f3, .int .i64 x.f4, .bool x.f5, .int .u8 x.f6], rfl, rfl, ⟨[.int .i64 x.f1], [.int .i64 x.f2, .string x.f3, .int .i64 x.f4, .bool x.f5, .int .u8 x.f6], rfl, rfl, ⟨[.int .i64 x.f2], [.string x.f3, .int .i64 x.f4, .bool x.f5, .int .u8 x.f6], rfl, rfl, ⟨[.string x.f3], [.int .i64 x.f4, .bool x.f5, .int .u8 x.f6], rfl, rfl, ⟨[.int .i64 x.f4], [.bool x.f5, .int .u8 x.f6], rfl, rfl, ⟨[.bool x.f5], [.int .u8 x.f6], rfl, rfl, rfl⟩⟩⟩⟩⟩⟩
def rd_T30 (xs : List S30) (i : Int) : S30 := xs.getD i.toNat z30
theorem at_T30 {w : World} {A : Option Addr} {n : Nat} {xs : List S30} (h : Kd.C k30 w A n xs) (i : Int) (h0 : 0 ≤ i) (h1 : i < n) : ∃ ad , A = some ad ∧ w.cell? (ad.add (i.toNat * 7)) = some (.int .i64 (rd_T30 xs i).f0) ∧ w.cell? ⟨(ad.add (i.toNat * 7)).block, (ad.add (i.toNat * 7)).off + 1, none⟩ = some (.int .i64 (rd_T30 xs i).f1) ∧ w.cell? ⟨(ad.add (i.toNat * 7)).block, (ad.add (i.toNat * 7)).off + 2, none⟩ = some (.int .i64 (rd_T30 xs i).f2) ∧ w.cell? ⟨(ad.add (i.toNat * 7)).block, (ad.add (i.toNat * 7)).off + 3, none⟩ = some (.string (rd_T30 xs i).f3) ∧ w.cell? ⟨(ad.add (i.toNat * 7)).block, (ad.add (i.toNat * 7)).off + 4, none⟩ = some (.int .i64 (rd_T30 xs i).f4) ∧ w.cell? ⟨(ad.add (i.toNat * 7)).block, (ad.add (i.toNat * 7)).off + 5, none⟩ = some (.bool (rd_T30 xs i).f5) ∧ w.cell? ⟨(ad.add (i.toNat * 7)).block, (ad.add (i.toNat * 7)).off + 6, none⟩ = some (.int .u8 (rd_T30 xs i).f6) := by
 obtain ⟨ad, c, e, _, hK, hc0⟩ := Kd.C_get h z30 i h0 h1
 have hc : ∀ j u, c[j]? = some u → w.cell? (ad.add (i.toNat * 7 + j)) = some u := hc0
 obtain rfl := k30_open hK
 exact ⟨ad, e, hc 0 _ rfl, by rw [← add_field _ _ 1 (by omega)]; exact hc 1 _ rfl, by rw [← add_field _ _ 2 (by omega)]; exact hc 2 _ rfl, by rw [← add_field _ _ 3 (by omega)]; exact hc 3 _ rfl, by rw [← add_field _ _ 4 (by omega)]; exact hc 4 _ rfl, by rw [← add_field _ _ 5 (by omega)]; exact hc 5 _ rfl, by rw [← add_field _ _ 6 (by omega)]; exact hc 6 _ rfl⟩
end Go.Proofs.Ytofiahgneaopoaa.P
end
section
namespace Go.Proofs.Ytofiahgneaopoaa.K
open Go.RowKit Go Go.Maps Go.ChangeMaps
abbrev Lts := Int → Option (ByteArray × Bool)
def putL (D : Lts) (n : Int) (x : ByteArray × Bool) : Lts := fun k => if k = n then some x else D k
def delL (D : Lts) (n : Int) : Lts := fun k => if k = n then none else D k
def lv (x : ByteArray × Bool) : Value := .agg #[.string x.1, .bool x.2]
/-- The block is a map of so many letters. -/
def MapIs (w : World) (m : Nat) (D : Lts) (cnt : Nat) : Prop :=
 ∃ es c, w.heap[m]? = some (.map es c) ∧ es.size = cnt ∧ (es.toList.map (·.key)).Nodup ∧ (∀ e ∈ es.toList, ∃ k x, e.key = .int .i64 k ∧ (Lit.int .i64 k).wf = true ∧ e.val = lv x ∧ D k = some x) ∧ ∀ k x, D k = some x → ∃ e ∈ es.toList, e.key = .int .i64 k
/-- All but one block is as it was. -/
structure One (m : Nat) (w w1 : World) : Prop where
 os : w1.os = w.os
 tape : w1.tape = w.tape
 output : w1.output = w.output
 size : w1.heap.size = w.heap.size
 block : ∀ k, k ≠ m → w1.heap[k]? = w.heap[k]?
theorem lawK : Keyed Try.prog 2 := int_keyed Try.underlying2
theorem keyK {n : Int} (h : (Lit.int .i64 n).wf = true) : keyOf Try.prog 2 (.int .i64 n) = some (.int .i64 n) := keyOf_int_mk Try.underlying2 h
theorem one_set {w : World} {m : Nat} (o : Obj) : One m w (setBlock w m o) :=
 ⟨rfl, rfl, rfl, by simp [setBlock], fun k hk => by simp only [setBlock]; rw [Array.getElem?_setIfInBounds_ne hk.symm]⟩
section
variable {w : World} {m : Nat} {D : Lts} {cnt : Nat}
theorem MapIs.find (h : MapIs w m D cnt) {n : Int} (hn : (Lit.int .i64 n).wf = true) :
 ∃ es c, w.heap[m]? = some (.map es c) ∧ es.size = cnt ∧ (es.toList.map (·.key)).Nodup ∧ (∀ e ∈ es.toList, ∃ k x, e.key = .int .i64 k ∧ (Lit.int .i64 k).wf = true ∧ e.val = lv x ∧ D k = some x) ∧ (∀ k x, D k = some x → ∃ e ∈ es.toList, e.key = .int .i64 k) ∧
  (((Instr.findKey 2 (.int .i64 n) es.toList).run Try.prog w = .ok none w ∧ D n = none ∧ ∀ e ∈ es.toList, e.key ≠ .int .i64 n) ∨
   ∃ j e x, (Instr.findKey 2 (.int .i64 n) es.toList).run Try.prog w = .ok (some (j, e.val)) w ∧ D n = some x ∧ e.val = lv x ∧ es.toList[j]? = some e ∧ e.key = .int .i64 n) := by
 obtain ⟨es, c, h1, h2, h3, h4, h5⟩ := h
 refine ⟨es, c, h1, h2, h3, h4, h5, ?_⟩
 rcases lawK.find w (keyK hn) es.toList (fun e he => by obtain ⟨k, x, hk, hw, _⟩ := h4 e he; exact ⟨_, by rw [hk]; exact keyK hw⟩) with ⟨a1, a2⟩ | ⟨j, e, a1, a2, a3⟩
 ·refine .inl ⟨a1, ?_, a2⟩
  cases hD : D n with
  | none => rfl
  | some x => obtain ⟨e, he, hk⟩ := h5 n x hD; exact absurd hk (a2 e he)
 ·obtain ⟨k, x, hk, hw, hv, hD⟩ := h4 e (List.mem_of_getElem? a2)
  rw [a3] at hk
  injection hk with _ hk
  subst hk
  exact .inr ⟨j, e, x, a1, hD, hv, a2, a3⟩
theorem MapIs.look (h : MapIs w m D cnt) {n : Int} (hn : (Lit.int .i64 n).wf = true) :
 (Instr.lookup 46 (.map (some m)) (.int .i64 n) true).run Try.prog w = .ok (.tuple #[lv ((D n).getD (⟨#[]⟩, false)), .bool (D n).isSome]) w := by
 obtain ⟨es, c, h1, _, _, _, _, h6⟩ := h.find hn
 have hz : (zeroValue 53).run Try.prog w = .ok (lv (⟨#[]⟩, false)) w := by kernel_rfl
 rcases h6 with ⟨a1, a2, _⟩ | ⟨j, e, x, a1, a2, a3, _, _⟩
 ·rw [a2]
  simp [Instr.lookup, run_underlying Try.underlying46, MapKept.run_getObj_map h1, lawK.check w _ (keyK hn), a1, hz, Result.andThen]
 ·rw [a2]
  simp [Instr.lookup, run_underlying Try.underlying46, MapKept.run_getObj_map h1, lawK.check w _ (keyK hn), a1, a3, Result.andThen]
theorem MapIs.len (h : MapIs w m D cnt) (ty : TypeId) : (Builtin.len_ #[46] ty #[.map (some m)]).run Try.prog w = .ok (.int .i64 (cnt : Int)) w := by
 obtain ⟨es, c, h1, h2, _⟩ := h
 simp [Builtin.len_, run_underlying Try.underlying46, MapKept.run_getObj_map h1, goInt, Result.andThen, h2]
theorem MapIs.put_new (h : MapIs w m D cnt) {n : Int} (hn : (Lit.int .i64 n).wf = true) (hD : D n = none) (x : ByteArray × Bool) :
 ∃ w1, (Instr.mapUpdate 46 (.map (some m)) (.int .i64 n) (lv x)).run Try.prog w = .ok () w1 ∧ MapIs w1 m (putL D n x) (cnt + 1) ∧ One m w w1 := by
 obtain ⟨es, c, h1, h2, h3, h4, h5, h6⟩ := h.find hn
 rcases h6 with ⟨a1, a2, a4⟩ | ⟨j, e, x, a1, a2, a3, _, _⟩
 ·refine ⟨setBlock w m (.map (es.push ⟨.int .i64 n, lv x, c⟩) (c + 1)), ?_, ⟨_, _, heap_setBlock_same h1 _, by simp [h2], ?_, ?_, ?_⟩, one_set _⟩
  ·simp [Instr.mapUpdate, run_underlying Try.underlying46, MapKept.run_getObj_map h1, lawK.check w false (keyK hn), a1, MapKept.run_setObj_map _ h1, Result.andThen, setBlock]
  ·rw [Array.toList_push, List.map_append, List.nodup_append]
   refine ⟨h3, by simp, fun a ha b hb => ?_⟩
   obtain ⟨e, he, rfl⟩ := List.mem_map.1 ha
   simp only [List.map_cons, List.map_nil, List.mem_singleton] at hb
   rw [hb]
   exact a4 e he
  ·intro e he
   rw [Array.toList_push] at he
   rcases List.mem_append.1 he with he2 | he2
   ·obtain ⟨k, y, b1, b2, b3, b4⟩ := h4 e he2
    refine ⟨k, y, b1, b2, b3, ?_⟩
    unfold putL
    rw [if_neg (fun hk => a4 e he2 (by rw [b1, hk]))]; exact b4
   ·rw [List.mem_singleton.1 he2]
    exact ⟨n, x, rfl, hn, rfl, by unfold putL; rw [if_pos rfl]⟩
  ·intro k y hk
   rw [Array.toList_push]
   unfold putL at hk
   by_cases c1 : k = n
   ·exact ⟨_, List.mem_append_right _ (List.mem_singleton.2 rfl), by rw [c1]⟩
   ·rw [if_neg c1] at hk
    obtain ⟨e, he, hk⟩ := h5 k y hk
    exact ⟨e, List.mem_append_left _ he, hk⟩
 ·rw [hD] at a2; cases a2
theorem MapIs.put_old (h : MapIs w m D cnt) {n : Int} (hn : (Lit.int .i64 n).wf = true) (hD : (D n).isSome = true) (x : ByteArray × Bool) :
 ∃ w1, (Instr.mapUpdate 46 (.map (some m)) (.int .i64 n) (lv x)).run Try.prog w = .ok () w1 ∧ MapIs w1 m (putL D n x) cnt ∧ One m w w1 := by
 obtain ⟨es, c, h1, h2, h3, h4, h5, h6⟩ := h.find hn
 rcases h6 with ⟨a1, a2, a4⟩ | ⟨j, e, y, a1, a2, a3, a4, a5⟩
 ·rw [a2] at hD; cases hD
 ·have hj : j < es.toList.length := (List.getElem?_eq_some_iff.1 a4).1
  have he0 : es.toList[j] = e := (List.getElem?_eq_some_iff.1 a4).2
  have hmod : (es.modify j fun e => { e with key := .int .i64 n, val := lv x }).toList = es.toList.modify j (fun e => { e with key := .int .i64 n, val := lv x }) := by simp
  have hkeys : (es.toList.modify j (fun e : MapEntry => { e with key := .int .i64 n, val := lv x })).map (·.key) = es.toList.map (·.key) := by
   apply List.ext_getElem?
   intro i
   rw [List.getElem?_map, List.getElem?_modify, List.getElem?_map]
   cases hi : es.toList[i]? with
   | none => rfl
   | some e1 =>
    by_cases c1 : j = i
    ·subst c1; rw [a4] at hi; injection hi with hi; subst hi; simp [a5]
    ·simp [c1]
  have hes : (es[j]?.map (·.key)).getD (.int .i64 n) = .int .i64 n := by
   rw [← Array.getElem?_toList, a4]; exact a5
  have hes2 : ((Option.map (fun x => x.key) es[j]?).getD (Value.int IntKind.i64 n)) = Value.int IntKind.i64 n := hes
  refine ⟨setBlock w m (.map (es.modify j fun e => { e with key := .int .i64 n, val := lv x }) c), ?_, ⟨_, _, heap_setBlock_same h1 _, by simp [h2], ?_, ?_, ?_⟩, one_set _⟩
  ·simp [Instr.mapUpdate, run_underlying Try.underlying46, MapKept.run_getObj_map h1, lawK.check w false (keyK hn), a1, hes2, lawK.stays w (keyK hn), MapKept.run_setObj_map _ h1, Result.andThen, setBlock]
  ·rw [hmod, hkeys]; exact h3
  ·intro e1 he1
   rw [hmod] at he1
   obtain ⟨i, hi⟩ := List.mem_iff_getElem?.1 he1
   rw [List.getElem?_modify] at hi
   cases hi0 : es.toList[i]? with
   | none => rw [hi0] at hi; cases hi
   | some e2 =>
    rw [hi0] at hi
    by_cases c1 : j = i
    ·subst c1
     rw [a4] at hi0
     injection hi0 with hi0
     subst hi0
     simp only [if_true, Option.map_eq_map, Option.map_some, Option.some.injEq] at hi
     subst hi
     exact ⟨n, x, rfl, hn, rfl, by unfold putL; rw [if_pos rfl]⟩
    ·simp only [if_neg c1, Option.map_eq_map, Option.map_some, id_eq, Option.some.injEq] at hi
     subst hi
     obtain ⟨k, y2, b1, b2, b3, b4⟩ := h4 e2 (List.mem_of_getElem? hi0)
     refine ⟨k, y2, b1, b2, b3, ?_⟩
     unfold putL
     rw [if_neg (fun hk => ?_)]
     ·exact b4
     ·subst hk
      refine c1 ?_
      have hi1 : i < es.toList.length := (List.getElem?_eq_some_iff.1 hi0).1
      refine (List.getElem_inj (h₀ := by simpa using hj) (h₁ := by simpa using hi1) h3).1 ?_
      rw [List.getElem_map, List.getElem_map, he0, (List.getElem?_eq_some_iff.1 hi0).2, a5, b1]
  ·intro k y2 hk
   rw [hmod]
   have : ∃ e ∈ es.toList, e.key = .int .i64 k := by
    unfold putL at hk
    by_cases c1 : k = n
    ·exact ⟨e, List.mem_of_getElem? a4, by rw [c1]; exact a5⟩
    ·rw [if_neg c1] at hk; exact h5 k y2 hk
   obtain ⟨e1, he1, hk1⟩ := this
   have : e1.key ∈ (es.toList.modify j (fun e : MapEntry => { e with key := .int .i64 n, val := lv x })).map (·.key) := by rw [hkeys]; exact List.mem_map.2 ⟨e1, he1, rfl⟩
   obtain ⟨e3, he3, hk3⟩ := List.mem_map.1 this
   exact ⟨e3, he3, hk3.trans hk1⟩
theorem MapIs.drop (h : MapIs w m D cnt) {n : Int} (hn : (Lit.int .i64 n).wf = true) (hD : (D n).isSome = true) (ty : TypeId) :
 ∃ w1, (Builtin.delete_ #[46, 2] ty #[.map (some m), .int .i64 n]).run Try.prog w = .ok (.tuple #[]) w1 ∧ MapIs w1 m (delL D n) (cnt - 1) ∧ One m w w1 ∧ 1 ≤ cnt := by
 obtain ⟨es, c, h1, h2, h3, h4, h5, h6⟩ := h.find hn
 rcases h6 with ⟨a1, a2, a4⟩ | ⟨j, e, y, a1, a2, a3, a4, a5⟩
 ·rw [a2] at hD; cases hD
 ·have hj : j < es.toList.length := (List.getElem?_eq_some_iff.1 a4).1
  have hjs : j < es.size := by simpa using hj
  have he0 : es.toList[j] = e := (List.getElem?_eq_some_iff.1 a4).2
  have hsub : (es.eraseIdxIfInBounds j).toList = es.toList.eraseIdx j := by
   unfold Array.eraseIdxIfInBounds
   rw [dif_pos hjs]
   simp
  have hkeys : (es.toList.eraseIdx j).map (·.key) = (es.toList.map (·.key)).eraseIdx j := map_eraseIdx _ _ _
  have hnot : Value.int .i64 n ∉ (es.toList.map (·.key)).eraseIdx j := by
   intro hm
   obtain ⟨i, hij, hi⟩ := List.mem_eraseIdx_iff_getElem?.1 hm
   rw [List.getElem?_map] at hi
   cases hi0 : es.toList[i]? with
   | none => rw [hi0] at hi; cases hi
   | some e2 =>
    rw [hi0] at hi
    have hi1 : i < es.toList.length := (List.getElem?_eq_some_iff.1 hi0).1
    have hk2 : e2.key = .int .i64 n := by injection hi
    refine hij ((List.getElem_inj (h₀ := by simpa using hi1) (h₁ := by simpa using hj) h3).1 ?_)
    rw [List.getElem_map, List.getElem_map, he0, (List.getElem?_eq_some_iff.1 hi0).2, a5, hk2]
  have hsz : (es.eraseIdxIfInBounds j).size = cnt - 1 := by
   rw [← Array.length_toList, hsub, List.length_eraseIdx, if_pos hj, Array.length_toList, h2]
  refine ⟨setBlock w m (.map (es.eraseIdxIfInBounds j) c), ?_, ⟨_, _, heap_setBlock_same h1 _, hsz, ?_, ?_, ?_⟩, one_set _, by omega⟩
  ·simp [Builtin.delete_, run_underlying Try.underlying46, MapKept.run_getObj_map h1, lawK.check w _ (keyK hn), a1, MapKept.run_setObj_map _ h1, Result.andThen, setBlock]
  ·rw [hsub, hkeys]; exact h3.sublist (List.eraseIdx_sublist _ _)
  ·intro e1 he1
   rw [hsub] at he1
   obtain ⟨k, y2, b1, b2, b3, b4⟩ := h4 e1 ((List.eraseIdx_sublist _ _).subset he1)
   refine ⟨k, y2, b1, b2, b3, ?_⟩
   unfold delL
   rw [if_neg (fun hk => ?_)]
   ·exact b4
   ·subst hk
    refine hnot ?_
    rw [← hkeys]
    exact List.mem_map.2 ⟨e1, he1, b1⟩
  ·intro k y2 hk
   rw [hsub]
   unfold delL at hk
   by_cases c1 : k = n
   ·rw [if_pos c1] at hk; cases hk
   ·rw [if_neg c1] at hk
    obtain ⟨e1, he1, hk1⟩ := h5 k y2 hk
    obtain ⟨i, hi⟩ := List.mem_iff_getElem?.1 he1
    refine ⟨e1, List.mem_eraseIdx_iff_getElem?.2 ⟨i, fun hij => ?_, hi⟩, hk1⟩
    subst hij
    rw [a4] at hi
    injection hi with hi
    subst hi
    rw [a5] at hk1
    injection hk1 with _ hk1
    exact c1 hk1.symm
theorem MapIs.keep (h : MapIs w m D cnt) {w1 : World} (hb : w1.heap[m]? = w.heap[m]?) : MapIs w1 m D cnt := by
 obtain ⟨es, c, h1, h⟩ := h
 exact ⟨es, c, hb.trans h1, h⟩
end
end Go.Proofs.Ytofiahgneaopoaa.K
end
section
namespace Go.Proofs.Ytofiahgneaopoaa.P
open Go.RowKit Go.Proofs.YtofiahgneaopoaaW.PrintWords Go.Proofs.YtofiahgneaopoaaW.PrintLast Go.Proofs.YtofiahgneaopoaaW.PrintMore
attribute [local go_sem] max2_int min2_int max_two min_two max_three min_three max_four min_four   -- for this text's walks alone
def bag_isPlace.f (a0 : Int) : Option (Bool) := if a0 ≥ 0 then (some (decide (a0 ≤ 7))) else (some false)
set_option maxHeartbeats 8000000 in
set_option maxRecDepth 100000 in
theorem bag_isPlace.calls (a0 : Int) (r : Bool) (w : World) (h : bag_isPlace.f a0 = some r) :
 Calls Try.prog 20 #[.int .i64 a0] w fun e w' => e = .returned (.bool r) ∧ Drawn0 w w' := by
 have H : (if a0 ≥ 0 then (some (decide (a0 ≤ 7))) else (some false)) = some r := h
 clear h
 by_cases c2 : a0 ≥ 0
 ·rw [if_pos c2] at H
  have c2b0 : decide (0 ≤ a0) = true := decide_eq_true c2
  clear c2
  obtain rfl := Option.some.inj H
  go_enter Try.func20, Try.ntmps20
  go_wp2
  go_ret
  exact ⟨by first | rfl | (simp; done) | (simp [*]; done), by repeat (first | exact Drawn0.refl _ | apply Drawn0.step)⟩
 ·rw [if_neg c2] at H
  have c2b0 : decide (0 ≤ a0) = false := decide_eq_false c2
  clear c2
  obtain rfl := Option.some.inj H
  go_enter Try.func20, Try.ntmps20
  go_wp2
  go_ret
  exact ⟨by first | rfl | (simp; done) | (simp [*]; done), by repeat (first | exact Drawn0.refl _ | apply Drawn0.step)⟩
end Go.Proofs.Ytofiahgneaopoaa.P
end
section
namespace Go.Proofs.Ytofiahgneaopoaa.P
open Go.RowKit Go Go.Proofs.Ytofiahgneaopoaa.K Go.Proofs.YtofiahgneaopoaaW.PrintWords Go.Proofs.YtofiahgneaopoaaW.PrintLast Go.Proofs.YtofiahgneaopoaaW.PrintMore
def pc (p : Nat → Bool) : List Value := (List.range 64).map fun i => .bool (p i)
def bagCells (m : Nat) (last : Int) (p : Nat → Bool) : Array Value := (.map (some m) :: .int .i64 last :: pc p).toArray
theorem bc_p (m : Nat) (last : Int) (p : Nat → Bool) {i : Nat} (h : i < 64) : (bagCells m last p)[2 + i]? = some (.bool (p i)) := by
 simp [bagCells, pc, show 2 + i = i + 1 + 1 by omega, h]
theorem bc_size (m : Nat) (last : Int) (p : Nat → Bool) : (bagCells m last p).size = 66 := by simp [bagCells, pc]
theorem bc_last (m : Nat) (last v : Int) (p : Nat → Bool) : (bagCells m last p).setIfInBounds 1 (.int .i64 v) = bagCells m v p := by simp [bagCells]
theorem bc_put (m : Nat) (last : Int) (p : Nat → Bool) (i : Nat) (b : Bool) : (bagCells m last p).setIfInBounds (2 + i) (.bool b) = bagCells m last (fun k => if k = i then b else p k) := by
 unfold bagCells
 rw [List.setIfInBounds_toArray, show 2 + i = i + 1 + 1 by omega, List.set_cons_succ, List.set_cons_succ]
 congr 3
 apply List.ext_getElem?
 intro j
 unfold pc
 rw [List.getElem?_set, List.getElem?_map, List.getElem?_map]
 by_cases h : i = j
 ·subst h
  by_cases h2 : i < 64
  ·simp [h2]
  ·simp [h2]
 ·rw [if_neg h]
  by_cases h2 : j < 64
  ·simp [h2, Ne.symm h]
  ·simp [h2]
/-- The bag in memory: its block, its map's block. -/
structure Rep (w : World) (g m : Nat) (D : Lts) (cnt : Nat) (last : Int) (p : Nat → Bool) : Prop where
 bag : w.heap[g]? = some (.cells (bagCells m last p) 50 (0, 0))
 map : MapIs w m D cnt
/-- All but the bag's two blocks, of what there was, is as it was. -/
structure Two (g m : Nat) (w w1 : World) : Prop where
 os : w1.os = w.os
 tape : w1.tape = w.tape
 output : w1.output = w.output
 size : w.heap.size ≤ w1.heap.size
 block : ∀ k, k < w.heap.size → k ≠ g → k ≠ m → w1.heap[k]? = w.heap[k]?
def isP (a : Int) : Bool := decide (0 ≤ a ∧ a ≤ 7)
theorem place_calls (a : Int) (w : World) : Calls Try.prog 20 #[.int .i64 a] w fun e w' => e = .returned (.bool (isP a)) ∧ Drawn0 w w' := by
 refine bag_isPlace.calls a _ w ?_
 unfold bag_isPlace.f isP
 by_cases h : a ≥ 0
 ·rw [if_pos h]; exact congrArg some (decide_eq_decide.2 (by omega))
 ·rw [if_neg h, decide_eq_false (by omega)]
section
variable {w w1 : World} {g m : Nat} {D : Lts} {cnt : Nat} {last : Int} {p : Nat → Bool}
theorem Rep.ne (h : Rep w g m D cnt last p) : g ≠ m := by
 rintro rfl
 obtain ⟨es, c, h1, _⟩ := h.map
 rw [h.bag] at h1; cases h1
theorem Rep.keep (h : Rep w g m D cnt last p) (h1 : w1.heap[g]? = w.heap[g]?) (h2 : w1.heap[m]? = w.heap[m]?) : Rep w1 g m D cnt last p := ⟨h1.trans h.bag, h.map.keep h2⟩
theorem Rep.lt (h : Rep w g m D cnt last p) : g < w.heap.size := blk_lt h.bag
theorem Rep.ltm (h : Rep w g m D cnt last p) : m < w.heap.size := by
 obtain ⟨es, c, h1, _⟩ := h.map
 exact (Array.getElem?_eq_some_iff.1 h1).1
theorem Rep.below (h : Rep w g m D cnt last p) (hb : Below w.heap.size w w1) : Rep w1 g m D cnt last p := h.keep (hb.block _ h.lt) (hb.block _ h.ltm)
theorem Rep.two (h : Two g m w w1) {B : Nat} (h1 : B ≤ g) (h2 : B ≤ m) (h3 : g < w.heap.size) : Below B w w1 := ⟨h.os, h.tape, h.output, h.size, fun k hk => h.block k (by omega) (by omega) (by omega)⟩
theorem Two.refl (w : World) : Two g m w w := ⟨rfl, rfl, rfl, Nat.le_refl _, fun _ _ _ _ => rfl⟩
theorem Two.trans {w2 : World} (h : Two g m w w1) (h2 : Two g m w1 w2) : Two g m w w2 := ⟨h2.os.trans h.os, h2.tape.trans h.tape, h2.output.trans h.output, Nat.le_trans h.size h2.size, fun k a b c => (h2.block k (Nat.lt_of_lt_of_le a h.size) b c).trans (h.block k a b c)⟩
theorem Two.of_below (h : Below w.heap.size w w1) : Two g m w w1 := ⟨h.os, h.tape, h.output, h.size, fun k a _ _ => h.block k a⟩
theorem Two.of_one (h : One m w w1) : Two g m w w1 := ⟨h.os, h.tape, h.output, Nat.le_of_eq h.size.symm, fun k _ _ c => h.block k c⟩
theorem Two.set (w : World) (j : Nat) (v : Value) : Two g m w (w.setCell ⟨g, j, none⟩ v) := by
 have hb : Below g w (w.setCell ⟨g, j, none⟩ v) := Below.setCell (Below.refl g w) (Nat.le_refl g) v
 exact ⟨hb.os, hb.tape, hb.output, hb.size, fun k _ b _ => Below.heap_setCell w ⟨g, j, none⟩ v k b⟩
theorem Two.drew (w : World) : Two g m w w.drew := of_below (Below.refl _ _).drew
end
/-- Are two parted? -/
def pt (p : Nat → Bool) (x y : Int) : Bool := isP x && (isP y && p (8 * x.toNat + y.toNat))
set_option maxHeartbeats 4000000 in
theorem parted_calls {w : World} {g m : Nat} {D : Lts} {cnt : Nat} {last : Int} {p : Nat → Bool} (h : Rep w g m D cnt last p) (x y : Int) :
 Calls Try.prog 10 #[.pointer (some ⟨g, 0, none⟩), .int .i64 x, .int .i64 y] w fun e w' => e = .returned (.bool (pt p x y)) ∧ Below w.heap.size w w' := by
 unfold pt
 cases hx : isP x
 ·go_enter Try.func10, Try.ntmps10
  go_wp2_with (first | (go_at_call 20; refine (place_calls _ _).mono ?_; rintro e w' ⟨rfl, ⟨nd, rfl⟩⟩; rw [hx]) | go_in)
  go_ret
  exact ⟨rfl, pbN (Below.refl _ _) _⟩
 ·cases hy : isP y
  ·go_enter Try.func10, Try.ntmps10
   go_wp2_with (first | (go_at_call 20; refine (place_calls _ _).mono ?_; rintro e w' ⟨rfl, ⟨nd, rfl⟩⟩; first | rw [hx] | rw [hy]) | go_in)
   go_ret
   exact ⟨rfl, pbN (Below.refl _ _) _⟩
  ·obtain ⟨h1, h2⟩ := of_decide_eq_true hx
   obtain ⟨h3, h4⟩ := of_decide_eq_true hy
   obtain ⟨i, rfl⟩ : ∃ i : Nat, x = (i : Int) := ⟨x.toNat, by omega⟩
   obtain ⟨j, rfl⟩ : ∃ j : Nat, y = (j : Int) := ⟨y.toNat, by omega⟩
   have hc : w.cell? ⟨g, 2 + i * 8 + j, none⟩ = some (.bool (p (8 * i + j))) := by
    rw [show 2 + i * 8 + j = 2 + (8 * i + j) by omega]
    exact (bkC h.bag _).trans (bc_p m last p (by omega))
   go_enter Try.func10, Try.ntmps10
   go_wp2_with (first | (go_at_call 20; refine (place_calls _ _).mono ?_; rintro e w' ⟨rfl, ⟨nd, rfl⟩⟩; first | rw [hx] | rw [hy]) | go_in)
   go_ret
   refine ⟨by simp, pbN (Below.refl _ _) _⟩
def Z66 : Array Value := (.map none :: .int .i64 0 :: pc fun _ => false).toArray
theorem z66 (m : Nat) : Z66.setIfInBounds 0 (.map (some m)) = bagCells m 0 (fun _ => false) := by simp [Z66, bagCells]
set_option maxHeartbeats 4000000 in
theorem new_calls (w : World) : Calls Try.prog 8 #[] w fun e w' => ∃ g m, e = .returned (.pointer (some ⟨g, 0, none⟩)) ∧ w.heap.size ≤ g ∧ w.heap.size ≤ m ∧ Rep w' g m (fun _ => none) 0 0 (fun _ => false) ∧ Below w.heap.size w w' := by
 have hmm := @run_makeMap Try.prog
 have hz : ∀ w, (zeroValue 50).run Try.prog w = .ok (.agg Z66) w := fun w => by kernel_rfl
 have hne : (Z66 = #[]) = False := by unfold Z66; simp
 go_enter Try.func8, Try.ntmps8
 go_wp2
 go_ret
 refine ⟨w.heap.size + 1, w.heap.size, rfl, Nat.le_succ _, Nat.le_refl _, ⟨?_, ?_⟩, pbA (pbA (Below.refl _ _) _) _⟩
 ·rw [← z66, ← World.size_alloc w (.map #[] 0)]; exact heap_alloc_new _ _
 ·refine ⟨#[], 0, ?_, rfl, by simp, by simp, fun k x hk => by cases hk⟩
  rw [Below.heap_alloc _ _ _ (by simp)]
  exact heap_alloc_new _ _
set_option maxHeartbeats 4000000 in
theorem add_calls {w : World} {g m : Nat} {D : Lts} {cnt : Nat} {last : Int} {p : Nat → Bool} (h : Rep w g m D cnt last p) (hD : D (wrap64 (last + 1)) = none) (x : ByteArray × Bool) :
 Calls Try.prog 19 #[.pointer (some ⟨g, 0, none⟩), lv x] w fun e w' => e = .returned (.int .i64 (wrap64 (last + 1))) ∧ Rep w' g m (putL D (wrap64 (last + 1)) x) (cnt + 1) (wrap64 (last + 1)) p ∧ Two g m w w' := by
 unfold lv
 have hne := h.ne
 have c0 : w.cell? ⟨g, 0, none⟩ = some (.map (some m)) := (bkC h.bag 0).trans rfl
 have c1 : w.cell? ⟨g, 1, none⟩ = some (.int .i64 last) := (bkC h.bag 1).trans rfl
 have f1 := bkF h.bag 1
 have hlt := h.lt
 go_enter Try.func19, Try.ntmps19
 go_wp2
 obtain ⟨W, hW⟩ : ∃ W, W = ((w.setCell ⟨g, 1, none⟩ (.int .i64 (wrap64 (last + 1)))).alloc (.cells #[.string x.1, .bool x.2] 53)) := ⟨_, rfl⟩
 rw [← hW]
 have hB : W.heap[g]? = some (.cells (bagCells m (wrap64 (last + 1)) p) 50 (0, 0)) := by
  rw [hW, ← bc_last m last]; exact bkA (blk_put h.bag 1 _ rfl) _
 have hX : W.heap[w.heap.size]? = some (.cells #[.string x.1, .bool x.2] 53 (0, 0)) := by
  have : (w.setCell ⟨g, 1, none⟩ (.int .i64 (wrap64 (last + 1)))).heap.size = w.heap.size := by simp
  rw [hW, ← this]; exact heap_alloc_new _ _
 have hm0 : W.heap[m]? = w.heap[m]? := by
  rw [hW, Below.heap_alloc _ _ _ (by simp; exact h.ltm)]
  exact Below.heap_setCell _ _ _ _ hne.symm
 have hT : Two g m w W := by
  rw [hW]
  exact Two.trans (Two.set w 1 _) (Two.of_below (pbA (Below.refl _ _) _))
 have hM : MapIs W.drew m D cnt := h.map.keep hm0
 clear c0 c1 f1 hW
 obtain ⟨w1, hup, hM1, hO⟩ := hM.put_new (n := wrap64 (last + 1)) (wrap64_wf _) hD x
 unfold lv at hup
 replace hB := bkD hB
 replace hX := bkD hX
 replace hT := hT.trans (Two.drew W)
 have c0 : W.drew.cell? ⟨g, 0, none⟩ = some (.map (some m)) := (bkC hB 0).trans rfl
 have c1 : W.drew.cell? ⟨g, 1, none⟩ = some (.int .i64 (wrap64 (last + 1))) := (bkC hB 1).trans rfl
 have d0 : W.drew.cell? ⟨w.heap.size, 0, none⟩ = some (.string x.1) := (bkC hX 0).trans rfl
 have d1 : W.drew.cell? ⟨w.heap.size, 1, none⟩ = some (.bool x.2) := (bkC hX 1).trans rfl
 have d0' : W.cell? ⟨w.heap.size, 0, none⟩ = some (.string x.1) := d0
 have d1' : W.cell? ⟨w.heap.size, 1, none⟩ = some (.bool x.2) := d1
 have c0' : W.cell? ⟨g, 0, none⟩ = some (.map (some m)) := c0
 have c1' : W.cell? ⟨g, 1, none⟩ = some (.int .i64 (wrap64 (last + 1))) := c1
 have hB1 := (hO.block g hne).trans hB
 have e1 : w1.cell? ⟨g, 1, none⟩ = some (.int .i64 (wrap64 (last + 1))) := (bkC hB1 1).trans rfl
 go_region
 go_wp2
 go_ret
 refine ⟨rfl, ⟨?_, hM1⟩, ?_⟩
 ·exact hB1
 ·exact hT.trans (Two.of_one hO)
theorem cut_rep {w : World} {g m : Nat} {D : Lts} {cnt : Nat} {last : Int} {p : Nat → Bool} (h : Rep w g m D cnt last p) {i j : Nat} (hi : i < 8) (hj : j < 8) (on : Bool) (n : Nat) :
 Rep (((w.drewN n).setCell ⟨g, 2 + i * 8 + j, none⟩ (.bool on)).setCell ⟨g, 2 + j * 8 + i, none⟩ (.bool on)) g m D cnt last (fun k => if k = 8 * i + j ∨ k = 8 * j + i then on else p k) ∧ Two g m w (((w.drewN n).setCell ⟨g, 2 + i * 8 + j, none⟩ (.bool on)).setCell ⟨g, 2 + j * 8 + i, none⟩ (.bool on)) := by
 refine ⟨⟨?_, h.map.keep ?_⟩, ?_⟩
 ·have b1 := blk_put (blk_put (bkN h.bag n) (2 + i * 8 + j) (.bool on) rfl) (2 + j * 8 + i) (.bool on) rfl
  rw [show 2 + i * 8 + j = 2 + (8 * i + j) by omega, show 2 + j * 8 + i = 2 + (8 * j + i) by omega] at b1 ⊢
  rw [bc_put, bc_put] at b1
  rw [b1]
  congr 3
  funext k
  by_cases c1 : k = 8 * j + i
  ·simp [c1]
  ·by_cases c2 : k = 8 * i + j
   ·simp [c2]
   ·simp [c1, c2]
 ·rw [Below.heap_setCell _ _ _ _ h.ne.symm, Below.heap_setCell _ _ _ _ h.ne.symm]; rfl
 ·exact (Two.of_below (pbN (Below.refl _ _) n)).trans ((Two.set _ _ _).trans (Two.set _ _ _))
set_option maxHeartbeats 4000000 in
theorem cut_calls {w : World} {g m : Nat} {D : Lts} {cnt : Nat} {last : Int} {p : Nat → Bool} (h : Rep w g m D cnt last p) (i j : Nat) (hi : i < 8) (hj : j < 8) (hij : i ≠ j) (on : Bool) :
 Calls Try.prog 11 #[.pointer (some ⟨g, 0, none⟩), .int .i64 (i : Int), .int .i64 (j : Int), .bool on] w fun e w' => e = .returned (.tuple #[]) ∧ Rep w' g m D cnt last (fun k => if k = 8 * i + j ∨ k = 8 * j + i then on else p k) ∧ Two g m w w' := by
 have hx : isP (i : Int) = true := decide_eq_true (by omega)
 have hy : isP (j : Int) = true := decide_eq_true (by omega)
 have c1 : w.cell? ⟨g, 2 + i * 8 + j, none⟩ = some (.bool (p (8 * i + j))) := by
  rw [show 2 + i * 8 + j = 2 + (8 * i + j) by omega]
  exact (bkC h.bag _).trans (bc_p m last p (by omega))
 have c2 : w.cell? ⟨g, 2 + j * 8 + i, none⟩ = some (.bool (p (8 * j + i))) := by
  rw [show 2 + j * 8 + i = 2 + (8 * j + i) by omega]
  exact (bkC h.bag _).trans (bc_p m last p (by omega))
 have f1 := bkF h.bag (2 + i * 8 + j)
 have f2 := bkF h.bag (2 + j * 8 + i)
 have hij2 : ¬ ((i : Int) = (j : Int)) := by omega
 go_enter Try.func11, Try.ntmps11
 go_wp2_with (first | (go_at_call 20; refine (place_calls _ _).mono ?_; rintro e w' ⟨rfl, ⟨nd, rfl⟩⟩; first | rw [hx] | rw [hy]) | go_in)
 go_region
 refine bodyPost_end (v := .tuple #[]) (results_list (rs := []) rfl (by simp) .nil) rfl ?_
 exact ⟨rfl, cut_rep h hi hj on _⟩
theorem find_res {tmps : Array Value} {w : World} {u0 u1 : Value} (b : Nat) (h4 : tmps.getD 4 undef = .pointer (some ⟨b, 0, none⟩)) (B1 : w.heap[b]? = some (.cells #[u0, u1] 53 (0, 0))) :
 (results Try.f21 tmps).run Try.prog w = .ok (.tuple #[.agg #[u0, u1], tmps.getD 5 undef]) w :=
 results_list (rs := [.cell 4 53, .tmp 5]) rfl (by simp) (.cell b 53 #[u0, u1] (0, 0) _ h4 B1 Try.underlying53 rfl (by kernel_rfl) (.tmp .nil))
def errF (D : Lts) (n : Int) : Int := if (D n).isSome = true then 0 else 2
def letF (D : Lts) (n : Int) : ByteArray × Bool := (D n).getD (⟨#[]⟩, false)
set_option maxHeartbeats 4000000 in
theorem find_calls {w : World} {g m : Nat} {D : Lts} {cnt : Nat} {last : Int} {p : Nat → Bool} (h : Rep w g m D cnt last p) {n : Int} (hn : (Lit.int .i64 n).wf = true) :
 Calls Try.prog 21 #[.pointer (some ⟨g, 0, none⟩), .int .i64 n] w fun e w' => e = .returned (.tuple #[lv (letF D n), .int .i64 (errF D n)]) ∧ Below w.heap.size w w' := by
 have hlt := h.lt
 have c0 : w.cell? ⟨g, 0, none⟩ = some (.map (some m)) := (bkC h.bag 0).trans rfl
 have hM : MapIs (w.alloc (.cells #[.string ⟨#[]⟩, .bool false] 53)) m D cnt := h.map.keep (Below.heap_alloc _ _ _ h.ltm)
 have hlk := hM.look hn
 have HB : Below w.heap.size w (w.alloc (.cells #[.string ⟨#[]⟩, .bool false] 53)) := pbA (Below.refl _ _) _
 unfold errF letF
 cases hD : D n with
 | none =>
  rw [hD] at hlk
  unfold lv at hlk ⊢
  simp only [Option.getD_none, Option.isSome_none] at hlk ⊢
  go_enter Try.func21, Try.ntmps21
  go_wp2
  refine bodyPost_ret (find_res w.heap.size rfl (bkA (heap_alloc_new _ _) _)) rfl ⟨rfl, pbA (pbA (Below.refl _ _) _) _⟩
 | some x =>
  rw [hD] at hlk
  unfold lv at hlk ⊢
  simp only [Option.getD_some, Option.isSome_some] at hlk ⊢
  go_enter Try.func21, Try.ntmps21
  go_wp2
  refine bodyPost_ret (find_res w.heap.size rfl (bkA (heap_alloc_new _ _) _)) rfl ⟨rfl, pbA (pbA (Below.refl _ _) _) _⟩
set_option maxHeartbeats 4000000 in
theorem cut_none {w : World} {g : Nat} (x y : Int) (hxy : x = y ∨ isP x = false ∨ isP y = false) (on : Bool) :
 Calls Try.prog 11 #[.pointer (some ⟨g, 0, none⟩), .int .i64 x, .int .i64 y, .bool on] w fun e w' => e = .returned (.tuple #[]) ∧ Below w.heap.size w w' := by
 by_cases hx : x = y
 ·subst hx
  go_enter Try.func11, Try.ntmps11
  go_wp2
  refine bodyPost_end (v := .tuple #[]) (results_list (rs := []) rfl (by simp) .nil) rfl ?_
  exact ⟨rfl, Below.refl _ _⟩
 ·cases h1 : isP x
  ·go_enter Try.func11, Try.ntmps11
   go_wp2_with (first | (go_at_call 20; refine (place_calls _ _).mono ?_; rintro e w' ⟨rfl, ⟨nd, rfl⟩⟩; rw [h1]) | go_in)
   refine bodyPost_end (v := .tuple #[]) (results_list (rs := []) rfl (by simp) .nil) rfl ?_
   exact ⟨rfl, pbN (Below.refl _ _) _⟩
  ·have h2 : isP y = false := by
    rcases hxy with h | h | h
    ·exact absurd h hx
    ·rw [h] at h1; cases h1
    ·exact h
   go_enter Try.func11, Try.ntmps11
   go_wp2_with (first | (go_at_call 20; refine (place_calls _ _).mono ?_; rintro e w' ⟨rfl, ⟨nd, rfl⟩⟩; first | rw [h1] | rw [h2]) | go_in)
   refine bodyPost_end (v := .tuple #[]) (results_list (rs := []) rfl (by simp) .nil) rfl ?_
   exact ⟨rfl, pbN (Below.refl _ _) _⟩
set_option maxHeartbeats 4000000 in
theorem len_calls {w : World} {g m : Nat} {D : Lts} {cnt : Nat} {last : Int} {p : Nat → Bool} (h : Rep w g m D cnt last p) :
 Calls Try.prog 18 #[.pointer (some ⟨g, 0, none⟩)] w fun e w' => e = .returned (.int .i64 (cnt : Int)) ∧ Below w.heap.size w w' := by
 have c0 : w.cell? ⟨g, 0, none⟩ = some (.map (some m)) := (bkC h.bag 0).trans rfl
 have hl := h.map.len 3
 go_enter Try.func18, Try.ntmps18
 go_wp2
 go_ret
 exact ⟨rfl, Below.refl _ _⟩
set_option maxHeartbeats 4000000 in
theorem send_calls {w : World} {g m : Nat} {D : Lts} {cnt : Nat} {last : Int} {p : Nat → Bool} (h : Rep w g m D cnt last p) (x y : Int) (s : ByteArray) (hD : D (wrap64 (last + 1)) = none) (hc : pt p x y = false) (hcnt : cnt < 3000) :
 Calls Try.prog 9 #[.pointer (some ⟨g, 0, none⟩), .int .i64 x, .int .i64 y, .string s] w fun e w' => e = .returned (.int .i64 (wrap64 (last + 1))) ∧ Rep w' g m (putL D (wrap64 (last + 1)) (s, false)) (cnt + 1) (wrap64 (last + 1)) p ∧ Two g m w w' := by
 have hcn : ((cnt : Int) ≥ 3000) = False := eq_false (by omega)
 have hcd : decide ((3000 : Int) ≤ (cnt : Int)) = false := decide_eq_false (by omega)
 go_enter Try.func9, Try.ntmps9
 go_wp2_with (first | (go_at_call 10; refine (parted_calls h x y).mono ?_; rintro e w1 ⟨rfl, hb⟩; rw [hc]; have h1 := h.below hb; have c0 : w1.cell? ⟨g, 0, none⟩ = some (.map (some m)) := (bkC h1.bag 0).trans rfl; have hl := h1.map.len 3) | (go_at_call 19; refine (add_calls h1 hD (s, false)).mono ?_; rintro e w2 ⟨rfl, h2, ht⟩) | go_in)
 go_ret
 exact ⟨rfl, h2, (Two.of_below hb).trans ht⟩
set_option maxHeartbeats 4000000 in
theorem send_none {w : World} {g m : Nat} {D : Lts} {cnt : Nat} {last : Int} {p : Nat → Bool} (h : Rep w g m D cnt last p) (x y : Int) (s : ByteArray) (hc : pt p x y = true ∨ 3000 ≤ cnt) :
 Calls Try.prog 9 #[.pointer (some ⟨g, 0, none⟩), .int .i64 x, .int .i64 y, .string s] w fun e w' => e = .returned (.int .i64 0) ∧ Below w.heap.size w w' := by
 cases hp : pt p x y
 ·have hcd : decide ((3000 : Int) ≤ (cnt : Int)) = true := decide_eq_true (by
   rcases hc with h | h
   ·rw [h] at hp; cases hp
   ·omega)
  go_enter Try.func9, Try.ntmps9
  go_wp2_with (first | (go_at_call 10; refine (parted_calls h x y).mono ?_; rintro e w1 ⟨rfl, hb⟩; rw [hp]; have h1 := h.below hb; have c0 : w1.cell? ⟨g, 0, none⟩ = some (.map (some m)) := (bkC h1.bag 0).trans rfl; have hl := h1.map.len 3) | go_in)
  go_ret
  exact ⟨rfl, hb⟩
 ·go_enter Try.func9, Try.ntmps9
  go_wp2_with (first | (go_at_call 10; refine (parted_calls h x y).mono ?_; rintro e w1 ⟨rfl, hb⟩; rw [hp]) | go_in)
  go_ret
  exact ⟨rfl, hb⟩
set_option maxHeartbeats 4000000 in
theorem take_none {w : World} {g m : Nat} {D : Lts} {cnt : Nat} {last : Int} {p : Nat → Bool} (h : Rep w g m D cnt last p) {n : Int} (hn : (Lit.int .i64 n).wf = true) (hD : D n = none) :
 Calls Try.prog 12 #[.pointer (some ⟨g, 0, none⟩), .int .i64 n] w fun e w' => e = .returned (.tuple #[.string ⟨#[]⟩, .int .i64 2]) ∧ Below w.heap.size w w' := by
 have hF := find_calls h hn
 unfold errF letF at hF
 rw [hD] at hF
 unfold lv at hF
 simp only [Option.getD_none, Option.isSome_none] at hF
 go_enter Try.func12, Try.ntmps12
 go_wp2_with (first | (go_at_call 21; refine hF.mono ?_; rintro e w1 ⟨rfl, hb⟩) | go_in)
 refine bodyPost_ret (results_list (rs := [.tmp 4, .tmp 5]) rfl (by simp) (.tmp (.tmp .nil))) rfl ?_
 exact ⟨rfl, pbA hb _⟩
set_option maxHeartbeats 4000000 in
theorem take_calls {w : World} {g m : Nat} {D : Lts} {cnt : Nat} {last : Int} {p : Nat → Bool} (h : Rep w g m D cnt last p) {n : Int} (hn : (Lit.int .i64 n).wf = true) {x : ByteArray × Bool} (hD : D n = some x) :
 Calls Try.prog 12 #[.pointer (some ⟨g, 0, none⟩), .int .i64 n] w fun e w' => e = .returned (.tuple #[.string x.1, .int .i64 0]) ∧ Rep w' g m (delL D n) (cnt - 1) last p ∧ Two g m w w' ∧ 1 ≤ cnt := by
 have hF := find_calls h hn
 have hne := h.ne
 unfold errF letF at hF
 rw [hD] at hF
 unfold lv at hF
 simp only [Option.getD_some, Option.isSome_some, if_true] at hF
 go_enter Try.func12, Try.ntmps12
 go_wp2_with (first | (go_at_call 21; refine hF.mono ?_; rintro e w1 ⟨rfl, hb⟩; have h1 := h.below hb; have c0 : w1.cell? ⟨g, 0, none⟩ = some (.map (some m)) := (bkC h1.bag 0).trans rfl; have hlt1 := h1.lt; have h2 : Rep (w1.alloc (.cells #[.string x.1, .bool x.2] 53)) g m D cnt last p := h1.below (pbA (Below.refl _ _) _); obtain ⟨w3, hdel, hM3, hO, hc1⟩ := h2.map.drop hn (by rw [hD]; rfl) 0; have hX : w3.heap[w1.heap.size]? = some (.cells #[.string x.1, .bool x.2] 53 (0, 0)) := (hO.block _ (Nat.ne_of_gt h1.ltm)).trans (heap_alloc_new _ _); have d0 : w3.cell? ⟨w1.heap.size, 0, none⟩ = some (.string x.1) := (bkC hX 0).trans rfl) | go_in)
 refine bodyPost_ret (results_list (rs := [.tmp 4, .tmp 5]) rfl (by simp) (.tmp (.tmp .nil))) rfl ?_
 exact ⟨rfl, ⟨(hO.block g hne).trans h2.bag, hM3⟩, (Two.of_below (pbA hb _)).trans (Two.of_one hO), hc1⟩
set_option maxHeartbeats 4000000 in
theorem double_none {w : World} {g m : Nat} {D : Lts} {cnt : Nat} {last : Int} {p : Nat → Bool} (h : Rep w g m D cnt last p) {n : Int} (hn : (Lit.int .i64 n).wf = true) (hD : D n = none) :
 Calls Try.prog 15 #[.pointer (some ⟨g, 0, none⟩), .int .i64 n] w fun e w' => e = .returned (.tuple #[.int .i64 0, .int .i64 2]) ∧ Below w.heap.size w w' := by
 have hF := find_calls h hn
 unfold errF letF at hF
 rw [hD] at hF
 unfold lv at hF
 simp only [Option.getD_none, Option.isSome_none] at hF
 go_enter Try.func15, Try.ntmps15
 go_wp2_with (first | (go_at_call 21; refine hF.mono ?_; rintro e w1 ⟨rfl, hb⟩) | go_in)
 refine bodyPost_ret (results_list (rs := [.tmp 4, .tmp 5]) rfl (by simp) (.tmp (.tmp .nil))) rfl ?_
 exact ⟨rfl, pbA hb _⟩
set_option maxHeartbeats 4000000 in
theorem double_full {w : World} {g m : Nat} {D : Lts} {cnt : Nat} {last : Int} {p : Nat → Bool} (h : Rep w g m D cnt last p) {n : Int} (hn : (Lit.int .i64 n).wf = true) {x : ByteArray × Bool} (hD : D n = some x) (hc : 3000 ≤ cnt) :
 Calls Try.prog 15 #[.pointer (some ⟨g, 0, none⟩), .int .i64 n] w fun e w' => e = .returned (.tuple #[.int .i64 0, .int .i64 5]) ∧ Below w.heap.size w w' := by
 have hF := find_calls h hn
 have hcd : decide ((3000 : Int) ≤ (cnt : Int)) = true := decide_eq_true (by omega)
 unfold errF letF at hF
 rw [hD] at hF
 unfold lv at hF
 simp only [Option.getD_some, Option.isSome_some, if_true] at hF
 go_enter Try.func15, Try.ntmps15
 go_wp2_with (first | (go_at_call 21; refine hF.mono ?_; rintro e w1 ⟨rfl, hb⟩; have h1 := h.below hb; have c0 : w1.cell? ⟨g, 0, none⟩ = some (.map (some m)) := (bkC h1.bag 0).trans rfl; have hlt1 := h1.lt; have h2 : Rep (w1.alloc (.cells #[.string x.1, .bool x.2] 53)) g m D cnt last p := h1.below (pbA (Below.refl _ _) _); have hl := h2.map.len 3) | go_in)
 refine bodyPost_ret (results_list (rs := [.tmp 4, .tmp 5]) rfl (by simp) (.tmp (.tmp .nil))) rfl ?_
 exact ⟨rfl, pbA hb _⟩
set_option maxHeartbeats 4000000 in
theorem double_calls {w : World} {g m : Nat} {D : Lts} {cnt : Nat} {last : Int} {p : Nat → Bool} (h : Rep w g m D cnt last p) {n : Int} (hn : (Lit.int .i64 n).wf = true) {x : ByteArray × Bool} (hD : D n = some x) (hc : cnt < 3000) (hL : D (wrap64 (last + 1)) = none) :
 Calls Try.prog 15 #[.pointer (some ⟨g, 0, none⟩), .int .i64 n] w fun e w' => e = .returned (.tuple #[.int .i64 (wrap64 (last + 1)), .int .i64 0]) ∧ Rep w' g m (putL D (wrap64 (last + 1)) x) (cnt + 1) (wrap64 (last + 1)) p ∧ Two g m w w' := by
 have hF := find_calls h hn
 have hcd : decide ((3000 : Int) ≤ (cnt : Int)) = false := decide_eq_false (by omega)
 unfold errF letF at hF
 rw [hD] at hF
 unfold lv at hF
 simp only [Option.getD_some, Option.isSome_some, if_true] at hF
 go_enter Try.func15, Try.ntmps15
 go_wp2_with (first | (go_at_call 21; refine hF.mono ?_; rintro e w1 ⟨rfl, hb⟩; have h1 := h.below hb; have c0 : w1.cell? ⟨g, 0, none⟩ = some (.map (some m)) := (bkC h1.bag 0).trans rfl; have hlt1 := h1.lt; have h2 : Rep (w1.alloc (.cells #[.string x.1, .bool x.2] 53)) g m D cnt last p := h1.below (pbA (Below.refl _ _) _); have hl := h2.map.len 3) | (go_at_call 19; refine (add_calls h2 hL x).mono ?_; rintro e w3 ⟨rfl, h3, ht⟩) | go_in)
 refine bodyPost_ret (results_list (rs := [.tmp 4, .tmp 5]) rfl (by simp) (.tmp (.tmp .nil))) rfl ?_
 exact ⟨rfl, h3, (Two.of_below (pbA hb _)).trans ht⟩
end Go.Proofs.Ytofiahgneaopoaa.P
end
section
namespace Go.Proofs.Ytofiahgneaopoaa.P
open Go.RowKit Go Go.Proofs.Ytofiahgneaopoaa.K Go.Proofs.YtofiahgneaopoaaW.PrintWords Go.Proofs.YtofiahgneaopoaaW.PrintLast Go.Proofs.YtofiahgneaopoaaW.PrintMore
set_option maxHeartbeats 4000000 in
theorem spoil_none {w : World} {g m : Nat} {D : Lts} {cnt : Nat} {last : Int} {p : Nat → Bool} (h : Rep w g m D cnt last p) {n : Int} (hn : (Lit.int .i64 n).wf = true) (hD : D n = none) (a b : Int) :
 Calls Try.prog 16 #[.pointer (some ⟨g, 0, none⟩), .int .i64 n, .int .i64 a, .int .u8 b] w fun e w' => e = .returned (.int .i64 2) ∧ Below w.heap.size w w' := by
 have hF := find_calls h hn
 unfold errF letF at hF
 rw [hD] at hF
 unfold lv at hF
 simp only [Option.getD_none, Option.isSome_none] at hF
 go_enter Try.func16, Try.ntmps16
 go_wp2_with (first | (go_at_call 21; refine hF.mono ?_; rintro e w1 ⟨rfl, hb⟩) | go_in)
 go_ret
 exact ⟨rfl, pbA hb _⟩
set_option maxHeartbeats 4000000 in
theorem spoil_there {w : World} {g m : Nat} {D : Lts} {cnt : Nat} {last : Int} {p : Nat → Bool} (h : Rep w g m D cnt last p) {n : Int} (hn : (Lit.int .i64 n).wf = true) {s : ByteArray} (hD : D n = some (s, true)) (a b : Int) :
 Calls Try.prog 16 #[.pointer (some ⟨g, 0, none⟩), .int .i64 n, .int .i64 a, .int .u8 b] w fun e w' => e = .returned (.int .i64 8) ∧ Below w.heap.size w w' := by
 have hF := find_calls h hn
 unfold errF letF at hF
 rw [hD] at hF
 unfold lv at hF
 simp only [Option.getD_some, Option.isSome_some, if_true] at hF
 go_enter Try.func16, Try.ntmps16
 go_wp2_with (first | (go_at_call 21; refine hF.mono ?_; rintro e w1 ⟨rfl, hb⟩) | go_in)
 go_ret
 exact ⟨rfl, pbA hb _⟩
set_option maxHeartbeats 4000000 in
theorem spoil_out {w : World} {g m : Nat} {D : Lts} {cnt : Nat} {last : Int} {p : Nat → Bool} (h : Rep w g m D cnt last p) {n : Int} (hn : (Lit.int .i64 n).wf = true) {s : ByteArray} (hD : D n = some (s, false)) (a b : Int) (ha : a < 0 ∨ (s.size : Int) ≤ a) :
 Calls Try.prog 16 #[.pointer (some ⟨g, 0, none⟩), .int .i64 n, .int .i64 a, .int .u8 b] w fun e w' => e = .returned (.int .i64 2) ∧ Below w.heap.size w w' := by
 have hF := find_calls h hn
 unfold errF letF at hF
 rw [hD] at hF
 unfold lv at hF
 simp only [Option.getD_some, Option.isSome_some, if_true] at hF
 by_cases c : a < 0
 ·have c1 : decide (a < 0) = true := decide_eq_true c
  go_enter Try.func16, Try.ntmps16
  go_wp2_with (first | (go_at_call 21; refine hF.mono ?_; rintro e w1 ⟨rfl, hb⟩) | go_in)
  go_ret
  exact ⟨rfl, pbA hb _⟩
 ·have c1 : decide (a < 0) = false := decide_eq_false c
  have c2 : decide ((s.size : Int) ≤ a) = true := decide_eq_true (by omega)
  go_enter Try.func16, Try.ntmps16
  go_wp2_with (first | (go_at_call 21; refine hF.mono ?_; rintro e w1 ⟨rfl, hb⟩) | go_in)
  go_ret
  exact ⟨rfl, pbA hb _⟩
theorem to_bytes (W : World) (s : ByteArray) : ∃ W2 cap, (convert 9 57 (.string s)).run Try.prog W = .ok (.slice (some ⟨W.heap.size, 0, none⟩) s.size cap) W2 ∧ Below W.heap.size W W2 ∧ (∀ j, j < s.size → W2.cell? ⟨W.heap.size, j, none⟩ = some (.int .u8 (s.data.toList.getD j 0).toNat) ∧ W2.frozen? ⟨W.heap.size, j, none⟩ = false) ∧ W2.heap.size = W.heap.size + 1 := by
 refine ⟨_, _, Lib.run_convert_string_bytes W 9 57 5 s Try.underlying9 Try.underlying57 Try.underlying5, ?_, fun j hj => ⟨Lib.bytesWorld_cell W _ s j hj, ?_⟩, Lib.bytesWorld_size W _ s⟩
 ·exact ⟨rfl, rfl, rfl, by rw [Lib.bytesWorld_size]; omega, fun k hk => Lib.bytesWorld_at_old W _ s k hk⟩
 ·have hsz : s.size ≤ (Lib.bytesCells W 5 s).size := by
   unfold Lib.bytesCells
   rw [Array.size_append, Array.size_map]; exact Nat.le_add_right _ _
  simp [World.frozen?, Lib.bytesWorld_at_new]
  omega
/-- A text in which one byte is another one. -/
def spoilt (s : ByteArray) (a : Nat) (v : Int) : ByteArray := strOfNums ((s.data.toList.map fun c => (c.toNat : Int)).set a v)
set_option maxHeartbeats 4000000 in
theorem spoil_calls {w : World} {g m : Nat} {D : Lts} {cnt : Nat} {last : Int} {p : Nat → Bool} (h : Rep w g m D cnt last p) {n : Int} (hn : (Lit.int .i64 n).wf = true) {s : ByteArray} (hD : D n = some (s, false)) (a : Nat) (b : Int) (ha : a < s.size) :
 Calls Try.prog 16 #[.pointer (some ⟨g, 0, none⟩), .int .i64 n, .int .i64 (a : Int), .int .u8 b] w fun e w' => e = .returned (.int .i64 0) ∧ (∃ v, Rep w' g m (putL D n (spoilt s a v, true)) cnt last p) ∧ Two g m w w' := by
 have hF := find_calls h hn
 have hne := h.ne
 unfold errF letF at hF
 rw [hD] at hF
 unfold lv at hF
 simp only [Option.getD_some, Option.isSome_some, if_true] at hF
 have c1 : decide ((a : Int) < 0) = false := decide_eq_false (by omega)
 have c2 : decide ((s.size : Int) ≤ (a : Int)) = false := decide_eq_false (by omega)
 go_enter Try.func16, Try.ntmps16
 go_wp2_with (first | (go_at_call 21; refine hF.mono ?_; rintro e w1 ⟨rfl, hb⟩; have h1 := h.below hb; have h2 : Rep (w1.alloc (.cells #[.string s, .bool false] 53)) g m D cnt last p := h1.below (pbA (Below.refl _ _) _); obtain ⟨W2, cap, hcv, hbw, hrow, hsz2⟩ := to_bytes (w1.alloc (.cells #[.string s, .bool false] 53)) s; simp only [World.size_alloc] at hcv hrow; have hr0 := (hrow a ha).1; have hf0 := (hrow a ha).2; have hX : W2.heap[w1.heap.size]? = some (.cells #[.string s, .bool false] 53 (0, 0)) := (hbw.block _ (by simp)).trans (heap_alloc_new _ _)) | go_in)
 generalize bits BinOp.xor IntKind.u8 (↑s.data[a].toNat) b = v
 obtain ⟨W, hW⟩ : ∃ W, W = W2.setCell ⟨w1.heap.size + 1, a, none⟩ (.int .u8 v) := ⟨_, rfl⟩
 rw [← hW]
 have hlt2 := h2.lt
 have hltm2 := h2.ltm
 simp only [World.size_alloc] at hlt2 hltm2 hbw hsz2
 have hne1 : g ≠ w1.heap.size + 1 := by omega
 have hnm1 : m ≠ w1.heap.size + 1 := by omega
 have hr2 : Rep W2 g m D cnt last p := h2.keep (hbw.block _ hlt2) (hbw.block _ hltm2)
 have hR : Rep W.drew g m D cnt last p := by
  rw [hW]
  exact hr2.keep (Below.heap_setCell _ _ _ _ hne1) (Below.heap_setCell _ _ _ _ hnm1)
 have hT : Two g m w W.drew := by
  rw [hW]
  refine (Two.of_below ?_).trans (Two.drew _)
  have e1 := pbZ hb
  have hb2 : Below w.heap.size w W2 := (pbA hb _).trans (hbw.mono (by omega))
  exact hb2.setCell (p := ⟨w1.heap.size + 1, a, none⟩) (by simp only; omega) _
 have hlen : ((s.data.toList.map fun c => (c.toNat : Int)).set a v).length = s.size := by rw [List.length_set, List.length_map, ← Lib.size_eq]
 have hcells : ∀ i, i < s.size → W.drew.cell? ⟨w1.heap.size + 1, 0 + i, none⟩ = some (.int .u8 (((s.data.toList.map fun c => (c.toNat : Int)).set a v).getD i 0)) := by
  intro i hi
  rw [Nat.zero_add, hW]
  by_cases c : i = a
  ·subst c
   have : (W2.setCell ⟨w1.heap.size + 1, i, none⟩ (.int .u8 v)).cell? ⟨w1.heap.size + 1, i, none⟩ = some (.int .u8 v) := World.cell?_setCell_same _ _ _ hr0
   refine Eq.trans this ?_
   rw [List.getD_eq_getElem?_getD, List.getElem?_set_self (by rw [List.length_map, ← Lib.size_eq]; exact hi)]; rfl
  ·have h3 : (W2.setCell ⟨w1.heap.size + 1, a, none⟩ (.int .u8 v)).cell? ⟨w1.heap.size + 1, i, none⟩ = W2.cell? ⟨w1.heap.size + 1, i, none⟩ := World.cell?_setCell_other _ _ _ _ (by simp [Ne.symm c])
   refine Eq.trans h3 ((hrow i hi).1.trans ?_)
   rw [List.getD_eq_getElem?_getD, List.getD_eq_getElem?_getD, List.getElem?_set_ne (Ne.symm c), List.getElem?_map]
   have : i < s.data.toList.length := by rw [← Lib.size_eq]; exact hi
   rw [List.getElem?_eq_getElem this]; rfl
 have hcv2 := run_convert_bytes_arg W.drew 57 5 Try.underlying57 Try.underlying5 (w1.heap.size + 1) 0 s.size cap _ hlen hcells 9 Try.underlying9
 obtain ⟨w3, hup, hM3, hO⟩ := hR.map.put_old hn (by rw [hD]; rfl) (spoilt s a v, true)
 unfold lv at hup
 unfold spoilt at hup
 have c0 : W.drew.cell? ⟨g, 0, none⟩ = some (.map (some m)) := (bkC hR.bag 0).trans rfl
 have c0' : W.cell? ⟨g, 0, none⟩ = some (.map (some m)) := c0
 clear hW hcells hr0 hf0 hrow
 go_region
 go_wp2
 go_ret
 exact ⟨rfl, ⟨v, (hO.block g hne).trans hR.bag, hM3⟩, hT.trans (Two.of_one hO)⟩
end Go.Proofs.Ytofiahgneaopoaa.P
end
section
namespace Go.Proofs.Ytofiahgneaopoaa.P
open Go.RowKit Go.Proofs.YtofiahgneaopoaaW.PrintWords Go.Proofs.YtofiahgneaopoaaW.PrintLast Go.Proofs.YtofiahgneaopoaaW.PrintMore
attribute [local go_sem] max2_int min2_int max_two min_two max_three min_three max_four min_four   -- for this text's walks alone
def l17_num.f (a0 : Int) : Option (Int) := some a0
set_option maxHeartbeats 8000000 in
set_option maxRecDepth 100000 in
theorem l17_num.calls (a0 : Int) (r : Int) (w : World) (h : l17_num.f a0 = some r) :
 Calls Try.prog 13 #[.int .i64 a0] w fun e w' => e = .returned (.int .i64 r) ∧ Drawn0 w w' := by
 have H : (some a0) = some r := h
 clear h
 obtain rfl := Option.some.inj H
 go_enter Try.func13, Try.ntmps13
 go_wp2
 go_ret
 exact ⟨by first | rfl | (simp; done) | (simp [*]; done), by repeat (first | exact Drawn0.refl _ | apply Drawn0.step)⟩
end Go.Proofs.Ytofiahgneaopoaa.P
end
section
namespace Go.Proofs.Ytofiahgneaopoaa.P
open Go.RowKit Go Go.Proofs.Ytofiahgneaopoaa.K Go.Proofs.YtofiahgneaopoaaW.PrintWords Go.Proofs.YtofiahgneaopoaaW.PrintLast Go.Proofs.YtofiahgneaopoaaW.PrintMore
theorem num_calls (a : Int) (w : World) : Calls Try.prog 13 #[.int .i64 a] w fun e w' => e = .returned (.int .i64 a) ∧ Drawn0 w w' := l17_num.calls a a w rfl
structure St (B : Nat) (w0 w : World) (g m : Nat) (D : Lts) (cnt : Nat) (last : Int) (p : Nat → Bool) : Prop where
 rep : Rep w g m D cnt last p
 below : Below B w0 w
 hg : B ≤ g
 hm : B ≤ m
section
variable {B : Nat} {w0 w : World} {g m : Nat} {D : Lts} {cnt : Nat} {last : Int} {p : Nat → Bool}
theorem St.drewN (h : St B w0 w g m D cnt last p) (n : Nat) : St B w0 (w.drewN n) g m D cnt last p := ⟨h.rep.keep rfl rfl, pbN h.below n, h.hg, h.hm⟩
theorem St.step {w1 : World} (h : St B w0 w g m D cnt last p) (hb : Below w.heap.size w w1) : St B w0 w1 g m D cnt last p := ⟨h.rep.below hb, h.below.trans (hb.mono (Nat.le_of_lt (Nat.lt_of_le_of_lt h.hg h.rep.lt))), h.hg, h.hm⟩
theorem St.two {w1 : World} (h : St B w0 w g m D cnt last p) {D1 : Lts} {cnt1 : Nat} {last1 : Int} {p1 : Nat → Bool} (hr : Rep w1 g m D1 cnt1 last1 p1) (ht : Two g m w w1) : St B w0 w1 g m D1 cnt1 last1 p1 :=
 ⟨hr, h.below.trans (Rep.two ht h.hg h.hm h.rep.lt), h.hg, h.hm⟩
theorem st_new (HB : Below w0.heap.size w0 w) : Calls Try.prog 8 #[] w fun e w' => ∃ g m, e = .returned (.pointer (some ⟨g, 0, none⟩)) ∧ St w0.heap.size w0 w' g m (fun _ => none) 0 0 (fun _ => false) := by
 refine (new_calls w).mono ?_
 rintro e w' ⟨g, m, rfl, hg, hm, hr, hb⟩
 exact ⟨g, m, rfl, hr, pbT HB hb, Nat.le_trans (pbZ HB) hg, Nat.le_trans (pbZ HB) hm⟩
theorem st_parted (h : St B w0 w g m D cnt last p) (x y : Int) : Calls Try.prog 10 #[.pointer (some ⟨g, 0, none⟩), .int .i64 x, .int .i64 y] w fun e w' => e = .returned (.bool (pt p x y)) ∧ St B w0 w' g m D cnt last p := by
 refine (parted_calls h.rep x y).mono ?_
 rintro e w' ⟨rfl, hb⟩
 exact ⟨rfl, h.step hb⟩
theorem st_len (h : St B w0 w g m D cnt last p) : Calls Try.prog 18 #[.pointer (some ⟨g, 0, none⟩)] w fun e w' => e = .returned (.int .i64 (cnt : Int)) ∧ St B w0 w' g m D cnt last p := by
 refine (len_calls h.rep).mono ?_
 rintro e w' ⟨rfl, hb⟩
 exact ⟨rfl, h.step hb⟩
/-- Whom a Cut parts, or not any more. -/
def cutP (p : Nat → Bool) (x y : Int) (on : Bool) : Nat → Bool := if x ≠ y ∧ isP x = true ∧ isP y = true then fun k => if k = 8 * x.toNat + y.toNat ∨ k = 8 * y.toNat + x.toNat then on else p k else p
theorem st_cut (h : St B w0 w g m D cnt last p) (x y : Int) (on : Bool) : Calls Try.prog 11 #[.pointer (some ⟨g, 0, none⟩), .int .i64 x, .int .i64 y, .bool on] w fun e w' => e = .returned (.tuple #[]) ∧ St B w0 w' g m D cnt last (cutP p x y on) := by
 unfold cutP
 by_cases hc : x ≠ y ∧ isP x = true ∧ isP y = true
 ·rw [if_pos hc]
  obtain ⟨h0, h1, h2⟩ := hc
  obtain ⟨a1, a2⟩ := of_decide_eq_true h1
  obtain ⟨a3, a4⟩ := of_decide_eq_true h2
  obtain ⟨i, rfl⟩ : ∃ i : Nat, x = (i : Int) := ⟨x.toNat, by omega⟩
  obtain ⟨j, rfl⟩ : ∃ j : Nat, y = (j : Int) := ⟨y.toNat, by omega⟩
  refine (cut_calls h.rep i j (by omega) (by omega) (by omega) on).mono ?_
  rintro e w' ⟨rfl, hr, ht⟩
  exact ⟨rfl, h.two hr ht⟩
 ·rw [if_neg hc]
  refine (cut_none (g := g) x y ?_ on).mono ?_
  ·by_cases h0 : x = y
   ·exact .inl h0
   ·cases h1 : isP x
    ·exact .inr (.inl rfl)
    ·cases h2 : isP y
     ·exact .inr (.inr rfl)
     ·exact absurd ⟨h0, h1, h2⟩ hc
  ·rintro e w' ⟨rfl, hb⟩
   exact ⟨rfl, h.step hb⟩
theorem wrap_last (h0 : 0 ≤ last) (h1 : last ≤ 1000000) : wrap64 (last + 1) = last + 1 := by unfold wrap64; omega
theorem st_send (h : St B w0 w g m D cnt last p) (x y : Int) (s : ByteArray) (h0 : 0 ≤ last) (h1 : last ≤ 1000000) (hD : D (last + 1) = none) (hc : pt p x y = false) (hcnt : cnt < 3000) :
 Calls Try.prog 9 #[.pointer (some ⟨g, 0, none⟩), .int .i64 x, .int .i64 y, .string s] w fun e w' => e = .returned (.int .i64 (last + 1)) ∧ St B w0 w' g m (putL D (last + 1) (s, false)) (cnt + 1) (last + 1) p := by
 have e1 := wrap_last h0 h1
 have := send_calls h.rep x y s (by rw [e1]; exact hD) hc hcnt
 rw [e1] at this
 refine this.mono ?_
 rintro e w' ⟨rfl, hr, ht⟩
 exact ⟨rfl, h.two hr ht⟩
theorem st_send_none (h : St B w0 w g m D cnt last p) (x y : Int) (s : ByteArray) (hc : pt p x y = true ∨ 3000 ≤ cnt) :
 Calls Try.prog 9 #[.pointer (some ⟨g, 0, none⟩), .int .i64 x, .int .i64 y, .string s] w fun e w' => e = .returned (.int .i64 0) ∧ St B w0 w' g m D cnt last p := by
 refine (send_none h.rep x y s hc).mono ?_
 rintro e w' ⟨rfl, hb⟩
 exact ⟨rfl, h.step hb⟩
theorem st_take (h : St B w0 w g m D cnt last p) {n : Int} (hn : (Lit.int .i64 n).wf = true) {x : ByteArray × Bool} (hD : D n = some x) :
 Calls Try.prog 12 #[.pointer (some ⟨g, 0, none⟩), .int .i64 n] w fun e w' => e = .returned (.tuple #[.string x.1, .int .i64 0]) ∧ St B w0 w' g m (delL D n) (cnt - 1) last p ∧ 1 ≤ cnt := by
 refine (take_calls h.rep hn hD).mono ?_
 rintro e w' ⟨rfl, hr, ht, hc⟩
 exact ⟨rfl, h.two hr ht, hc⟩
theorem st_take_none (h : St B w0 w g m D cnt last p) {n : Int} (hn : (Lit.int .i64 n).wf = true) (hD : D n = none) :
 Calls Try.prog 12 #[.pointer (some ⟨g, 0, none⟩), .int .i64 n] w fun e w' => e = .returned (.tuple #[.string ⟨#[]⟩, .int .i64 2]) ∧ St B w0 w' g m D cnt last p := by
 refine (take_none h.rep hn hD).mono ?_
 rintro e w' ⟨rfl, hb⟩
 exact ⟨rfl, h.step hb⟩
theorem st_double (h : St B w0 w g m D cnt last p) {n : Int} (hn : (Lit.int .i64 n).wf = true) {x : ByteArray × Bool} (hD : D n = some x) (hc : cnt < 3000) (h0 : 0 ≤ last) (h1 : last ≤ 1000000) (hL : D (last + 1) = none) :
 Calls Try.prog 15 #[.pointer (some ⟨g, 0, none⟩), .int .i64 n] w fun e w' => e = .returned (.tuple #[.int .i64 (last + 1), .int .i64 0]) ∧ St B w0 w' g m (putL D (last + 1) x) (cnt + 1) (last + 1) p := by
 have e1 := wrap_last h0 h1
 have := double_calls h.rep hn hD hc (by rw [e1]; exact hL)
 rw [e1] at this
 refine this.mono ?_
 rintro e w' ⟨rfl, hr, ht⟩
 exact ⟨rfl, h.two hr ht⟩
theorem st_double_none (h : St B w0 w g m D cnt last p) {n : Int} (hn : (Lit.int .i64 n).wf = true) (hD : D n = none) :
 Calls Try.prog 15 #[.pointer (some ⟨g, 0, none⟩), .int .i64 n] w fun e w' => e = .returned (.tuple #[.int .i64 0, .int .i64 2]) ∧ St B w0 w' g m D cnt last p := by
 refine (double_none h.rep hn hD).mono ?_
 rintro e w' ⟨rfl, hb⟩
 exact ⟨rfl, h.step hb⟩
theorem st_double_full (h : St B w0 w g m D cnt last p) {n : Int} (hn : (Lit.int .i64 n).wf = true) {x : ByteArray × Bool} (hD : D n = some x) (hc : 3000 ≤ cnt) :
 Calls Try.prog 15 #[.pointer (some ⟨g, 0, none⟩), .int .i64 n] w fun e w' => e = .returned (.tuple #[.int .i64 0, .int .i64 5]) ∧ St B w0 w' g m D cnt last p := by
 refine (double_full h.rep hn hD hc).mono ?_
 rintro e w' ⟨rfl, hb⟩
 exact ⟨rfl, h.step hb⟩
theorem st_spoil (h : St B w0 w g m D cnt last p) {n : Int} (hn : (Lit.int .i64 n).wf = true) {s : ByteArray} (hD : D n = some (s, false)) (a b : Int) (ha : 0 ≤ a) (ha2 : a < (s.size : Int)) :
 Calls Try.prog 16 #[.pointer (some ⟨g, 0, none⟩), .int .i64 n, .int .i64 a, .int .u8 b] w fun e w' => e = .returned (.int .i64 0) ∧ ∃ v, St B w0 w' g m (putL D n (spoilt s a.toNat v, true)) cnt last p := by
 obtain ⟨i, rfl⟩ : ∃ i : Nat, a = (i : Int) := ⟨a.toNat, by omega⟩
 refine (spoil_calls h.rep hn hD i b (by omega)).mono ?_
 rintro e w' ⟨rfl, ⟨v, hr⟩, ht⟩
 exact ⟨rfl, v, h.two hr ht⟩
theorem st_spoil_there (h : St B w0 w g m D cnt last p) {n : Int} (hn : (Lit.int .i64 n).wf = true) {s : ByteArray} (hD : D n = some (s, true)) (a b : Int) :
 Calls Try.prog 16 #[.pointer (some ⟨g, 0, none⟩), .int .i64 n, .int .i64 a, .int .u8 b] w fun e w' => e = .returned (.int .i64 8) ∧ St B w0 w' g m D cnt last p := by
 refine (spoil_there h.rep hn hD a b).mono ?_
 rintro e w' ⟨rfl, hb⟩
 exact ⟨rfl, h.step hb⟩
/-- What a Spoil leaves: nothing has turned, or a letter that was whole has one byte that is another one. -/
theorem st_spoil_any (h : St B w0 w g m D cnt last p) {n : Int} (hn : (Lit.int .i64 n).wf = true) (a b : Int) :
 Calls Try.prog 16 #[.pointer (some ⟨g, 0, none⟩), .int .i64 n, .int .i64 a, .int .u8 b] w fun e w' => ∃ r : Int, e = .returned (.int .i64 r) ∧ ∃ D1, St B w0 w' g m D1 cnt last p ∧ (D1 = D ∨ ∃ s i v, i < s.size ∧ D n = some (s, false) ∧ D1 = putL D n (spoilt s i v, true)) := by
 cases hD : D n with
 | none =>
  refine (spoil_none h.rep hn hD a b).mono ?_
  rintro e w' ⟨rfl, hb⟩
  exact ⟨_, rfl, D, h.step hb, .inl rfl⟩
 | some x =>
  obtain ⟨s, c⟩ := x
  cases c
  ·by_cases hx : a < 0 ∨ (s.size : Int) ≤ a
   ·refine (spoil_out h.rep hn hD a b hx).mono ?_
    rintro e w' ⟨rfl, hb⟩
    exact ⟨_, rfl, D, h.step hb, .inl rfl⟩
   ·refine (st_spoil h hn hD a b (by omega) (by omega)).mono ?_
    rintro e w' ⟨rfl, v, hs⟩
    exact ⟨_, rfl, _, hs, .inr ⟨s, a.toNat, v, by omega, rfl, rfl⟩⟩
  ·refine (spoil_there h.rep hn hD a b).mono ?_
   rintro e w' ⟨rfl, hb⟩
   exact ⟨_, rfl, D, h.step hb, .inl rfl⟩
end
set_option maxHeartbeats 8000000 in
set_option maxRecDepth 100000 in
theorem live_calls (w : World) : Calls Try.prog 7 #[] w fun e w' => e = .returned (.bool true) ∧ Below w.heap.size w w' := by
 go_enter Try.func7, Try.ntmps7
 go_wp2_with (first
  | (go_at_call 8; refine (st_new (Below.refl _ _)).mono ?_; rintro e w1 ⟨g, m, rfl, HS⟩)
  | (go_at_call 9; refine (st_send HS _ _ _ (by decide) (by decide) rfl rfl (by decide)).mono ?_; clear HS; rintro e w' ⟨rfl, HS⟩)
  | (go_at_call 9; refine (st_send_none (by first | exact HS | exact HS.drewN _) _ _ _ (.inl rfl)).mono ?_; clear HS; rintro e w' ⟨rfl, HS⟩)
  | (go_at_call 15; refine (st_double HS (by decide) rfl (by decide) (by decide) (by decide) rfl).mono ?_; clear HS; rintro e w' ⟨rfl, HS⟩)
  | (go_at_call 12; refine (st_take HS (by decide) rfl).mono ?_; clear HS; rintro e w' ⟨rfl, HS, hc⟩; clear hc)
  | (go_at_call 12; refine (st_take_none HS (by decide) rfl).mono ?_; clear HS; rintro e w' ⟨rfl, HS⟩)
  | (go_at_call 11; refine (st_cut HS _ _ _).mono ?_; clear HS; rintro e w' ⟨rfl, HS⟩)
  | (go_at_call 13; refine (num_calls _ _).mono ?_; rintro e w' ⟨rfl, ⟨nd, rfl⟩⟩)
  | (go_at_call 18; refine (st_len (by first | exact HS | exact HS.drewN _)).mono ?_; clear HS; rintro e w' ⟨rfl, HS⟩)
  | (go_at_call 10; refine (st_parted (by first | exact HS | exact HS.drewN _) _ _).mono ?_; clear HS; rintro e w' ⟨rfl, HS⟩)
  | (go_at_call 16; refine (st_spoil (by first | exact HS | exact HS.drewN _) (by decide) rfl _ _ (by decide) (by decide)).mono ?_; clear HS; rintro e w' ⟨rfl, v, HS⟩)
  | (go_at_call 16; refine (st_spoil_there (by first | exact HS | exact HS.drewN _) (by decide) rfl _ _).mono ?_; clear HS; rintro e w' ⟨rfl, HS⟩)
  | go_in)
 go_ret
 exact ⟨rfl, (HS.drewN _).below⟩
theorem parted_nil (w : World) (x y : Int) : Calls Try.prog 10 #[.pointer none, .int .i64 x, .int .i64 y] w fun e w' => e = .returned (.bool false) ∧ Below w.heap.size w w' := by
 go_enter Try.func10, Try.ntmps10
 go_wp2
 go_ret
 exact ⟨rfl, Below.refl _ _⟩
theorem send_nil (w : World) (x y : Int) (s : ByteArray) : Calls Try.prog 9 #[.pointer none, .int .i64 x, .int .i64 y, .string s] w fun e w' => e = .returned (.int .i64 0) ∧ Below w.heap.size w w' := by
 go_enter Try.func9, Try.ntmps9
 go_wp2
 go_ret
 exact ⟨rfl, Below.refl _ _⟩
theorem len_nil (w : World)  : Calls Try.prog 18 #[.pointer none] w fun e w' => e = .returned (.int .i64 0) ∧ Below w.heap.size w w' := by
 go_enter Try.func18, Try.ntmps18
 go_wp2
 go_ret
 exact ⟨rfl, Below.refl _ _⟩
theorem cut_nil (w : World) (x y : Int) (on : Bool) : Calls Try.prog 11 #[.pointer none, .int .i64 x, .int .i64 y, .bool on] w fun e w' => e = .returned (.tuple #[]) ∧ Below w.heap.size w w' := by
 go_enter Try.func11, Try.ntmps11
 go_wp2
 refine bodyPost_end (v := .tuple #[]) (results_list (rs := []) rfl (by simp) .nil) rfl ?_
 exact ⟨rfl, Below.refl _ _⟩
theorem numbers_nil (w : World) : Calls Try.prog 17 #[.pointer none] w fun e w' => e = .returned (.slice none 0 0) ∧ Below w.heap.size w w' := by
 go_enter Try.func17, Try.ntmps17
 go_wp2
 go_ret
 exact ⟨rfl, Below.refl _ _⟩
theorem find_nil (w : World) (n : Int) : Calls Try.prog 21 #[.pointer none, .int .i64 n] w fun e w' => e = .returned (.tuple #[.agg #[.string ⟨#[]⟩, .bool false], .int .i64 7]) ∧ Below w.heap.size w w' := by
 go_enter Try.func21, Try.ntmps21
 go_wp2
 refine bodyPost_ret (find_res w.heap.size rfl (heap_alloc_new _ _)) rfl ⟨rfl, pbA (Below.refl _ _) _⟩
theorem take_nil (w : World) (n : Int) : Calls Try.prog 12 #[.pointer none, .int .i64 n] w fun e w' => e = .returned (.tuple #[.string ⟨#[]⟩, .int .i64 7]) ∧ Below w.heap.size w w' := by
 go_enter Try.func12, Try.ntmps12
 go_wp2_with (first | (go_at_call 21; refine (find_nil _ _).mono ?_; rintro e w1 ⟨rfl, hb⟩) | go_in)
 refine bodyPost_ret (results_list (rs := [.tmp 4, .tmp 5]) rfl (by simp) (.tmp (.tmp .nil))) rfl ?_
 exact ⟨rfl, pbA hb _⟩
theorem double_nil (w : World) (n : Int) : Calls Try.prog 15 #[.pointer none, .int .i64 n] w fun e w' => e = .returned (.tuple #[.int .i64 0, .int .i64 7]) ∧ Below w.heap.size w w' := by
 go_enter Try.func15, Try.ntmps15
 go_wp2_with (first | (go_at_call 21; refine (find_nil _ _).mono ?_; rintro e w1 ⟨rfl, hb⟩) | go_in)
 refine bodyPost_ret (results_list (rs := [.tmp 4, .tmp 5]) rfl (by simp) (.tmp (.tmp .nil))) rfl ?_
 exact ⟨rfl, pbA hb _⟩
theorem spoil_nil (w : World) (n a b : Int) : Calls Try.prog 16 #[.pointer none, .int .i64 n, .int .i64 a, .int .u8 b] w fun e w' => e = .returned (.int .i64 7) ∧ Below w.heap.size w w' := by
 go_enter Try.func16, Try.ntmps16
 go_wp2_with (first | (go_at_call 21; refine (find_nil _ _).mono ?_; rintro e w1 ⟨rfl, hb⟩) | go_in)
 go_ret
 exact ⟨rfl, pbA hb _⟩
end Go.Proofs.Ytofiahgneaopoaa.P
end
section
namespace Go.Proofs.Ytofiahgneaopoaa.P
open Go.RowKit Go.Proofs.YtofiahgneaopoaaW.PrintWords Go.Proofs.YtofiahgneaopoaaW.PrintLast Go.Proofs.YtofiahgneaopoaaW.PrintMore
attribute [local go_sem] max2_int min2_int max_two min_two max_three min_three max_four min_four   -- for this text's walks alone
def l17_near.l0 : Nat → ByteArray → ByteArray → Int → Int → Option (Bool)
 | 0, _, _, _, _ => none
 | k + 1, x0, x1, x5, x6 => if x6 < (x0.size : Int) then (if 0 ≤ x6 then (if x6 < (x1.size : Int) then (if (bt x0 x6) = (bt x1 x6) then (l17_near.l0 k x0 x1 x5 (wrap64 (x6 + 1))) else (l17_near.l0 k x0 x1 (wrap64 (x5 + 1)) (wrap64 (x6 + 1)))) else (none)) else (none)) else (some (decide (x5 ≤ 1)))
def l17_near.f (k : Nat) (a0 : ByteArray) (a1 : ByteArray) : Option (Bool) := if (a0.size : Int) = (a1.size : Int) then (l17_near.l0 k a0 a1 0 0) else (some false)
theorem l17_near.mono_l : ∀ k, (∀ y0 y1 y2 y3, LeO (l17_near.l0 k y0 y1 y2 y3) (l17_near.l0 (k + 1) y0 y1 y2 y3))
 | 0 => fun _ _ _ _ r h => by simp [l17_near.l0] at h
 | k + 1 => by
  have ih0 := l17_near.mono_l k
  ·intro y0 y1 y2 y3
   unfold l17_near.l0
   repeat' first
   | (with_reducible exact ih0 _ _ _ _)
   | (with_reducible exact LeO.refl _)
   | (with_reducible exact LeO.none _)
   | (with_reducible refine LeO.ite ?_ ?_)
   | (with_reducible refine LeO.bind ?_ (fun _ => ?_))
   | exact ih0 _ _ _ _
   | exact LeO.none _
   | refine LeO.ite ?_ ?_
   | refine LeO.bind ?_ (fun _ => ?_)
theorem l17_near.mono : ∀ a0 a1 k, LeO (l17_near.f k a0 a1) (l17_near.f (k + 1) a0 a1) := by
 intro a0 a1 k
 have ih0 := l17_near.mono_l k
 unfold l17_near.f
 repeat' first
  | (with_reducible exact ih0 _ _ _ _)
  | (with_reducible exact LeO.refl _)
  | (with_reducible exact LeO.none _)
  | (with_reducible refine LeO.ite ?_ ?_)
  | (with_reducible refine LeO.bind ?_ (fun _ => ?_))
  | exact ih0 _ _ _ _
  | exact LeO.none _
  | refine LeO.ite ?_ ?_
  | refine LeO.bind ?_ (fun _ => ?_)
set_option maxHeartbeats 8000000 in
set_option maxRecDepth 100000 in
theorem l17_near.calls (k : Nat) (a0 : ByteArray) (a1 : ByteArray) (r : Bool) (w : World) (h : l17_near.f k a0 a1 = some r) :
 Calls Try.prog 14 #[.string a0, .string a1] w fun e w' => e = .returned (.bool r) ∧ Drawn0 w w' := by
 have H : (if (a0.size : Int) = (a1.size : Int) then (l17_near.l0 k a0 a1 0 0) else (some false)) = some r := h
 clear h
 by_cases c3 : (a0.size : Int) = (a1.size : Int)
 ·rw [if_pos c3] at H
  have c3b0 : ((a0.size : Int) == (a1.size : Int)) = true := beq_iff_eq.mpr c3
  have c3b1 : ((a0.size : Int) != (a1.size : Int)) = false := bne_eq_false_iff_eq.mpr c3
  have c3b2 : (a0.size == a1.size) = true := by first | simpa using c3 | (simp at c3 ⊢; omega)
  clear c3
  have H' := Az.mk H
  clear H
  go_enter Try.func14, Try.ntmps14
  go_wp2
  repeat (go_quiet (fail); try go_wp2)
  go_loopg [5, 6] k (fun kq v5 v6 w' => ∃ (x5_1 : Int) (x6_1 : Int), v5 = .int .i64 x5_1 ∧ v6 = .int .i64 x6_1 ∧ Az (l17_near.l0 kq a0 a1 x5_1 x6_1 = some r) ∧ Az (kq ≤ k) ∧ Drawn0 w w')
  case atStart => exact ⟨(0), (0), (by first | rfl | (simp; done) | (simp [*]; done)), (by first | rfl | (simp; done) | (simp [*]; done)), H', ⟨Nat.le_refl _⟩, by repeat (first | exact Drawn0.refl _ | apply Drawn0.step)⟩
  case round =>
   clear H'
   try clear c1
   try clear p2
   try clear c3
   try clear c3b0
   try clear c3b1
   try clear c3b2
   obtain ⟨x5_1, x6_1, rfl, rfl, HA, HK1, ⟨m1, rfl⟩⟩ := hrel
   cases gk with
   | zero => exact absurd HA.out (by simp [l17_near.l0])
   | succ k1 =>
    have H := HA.out
    clear HA
    simp only [l17_near.l0] at H
    by_cases c4 : x6_1 < (a0.size : Int)
    ·rw [if_pos c4] at H
     have c4b0 : decide (x6_1 < (a0.size : Int)) = true := decide_eq_true c4
     clear c4
     by_cases c5 : 0 ≤ x6_1
     ·rw [if_pos c5] at H
      have c5b0 : decide (0 ≤ x6_1) = true := decide_eq_true c5
      clear c5
      by_cases c7 : x6_1 < (a1.size : Int)
      ·rw [if_pos c7] at H
       have c7b0 : decide (x6_1 < (a1.size : Int)) = true := decide_eq_true c7
       clear c7
       by_cases c9 : (bt a0 x6_1) = (bt a1 x6_1)
       ·rw [if_pos c9] at H
        have c9b0 : ((bt a0 x6_1) == (bt a1 x6_1)) = true := beq_iff_eq.mpr c9
        have c9b1 : ((bt a0 x6_1) != (bt a1 x6_1)) = false := bne_eq_false_iff_eq.mpr c9
        clear c9
        have H' := Az.mk H
        clear H
        have p6 : 0 ≤ (x6_1 : Int) := of_decide_eq_true (by first | (with_reducible assumption) | assumption)
        have q6 : x6_1 < (a0.size : Int) := of_decide_eq_true (by first | (with_reducible assumption) | assumption)
        have hx6 := bt_at a0 x6_1
        replace p6 := eq_true p6
        replace q6 := eq_true q6
        have p8 : 0 ≤ (x6_1 : Int) := of_decide_eq_true (by first | (with_reducible assumption) | assumption)
        have q8 : x6_1 < (a1.size : Int) := of_decide_eq_true (by first | (with_reducible assumption) | assumption)
        have hx8 := bt_at a1 x6_1
        replace p8 := eq_true p8
        replace q8 := eq_true q8
        go_wp2
        repeat (go_quiet (fail); try go_wp2)
        go_roundg k1
        case measure => have := HK1.out; omega
        case rel => exact ⟨(x5_1), (wrap64 (x6_1 + 1)), (by first | rfl | (simp; done) | (simp [*]; done)), (by first | rfl | (simp; done) | (simp [*]; done)), H', ⟨by have := HK1.out; omega⟩, by repeat (first | exact Drawn0.refl _ | apply Drawn0.step)⟩
       ·rw [if_neg c9] at H
        have c9b0 : ((bt a0 x6_1) == (bt a1 x6_1)) = false := beq_eq_false_iff_ne.mpr c9
        have c9b1 : ((bt a0 x6_1) != (bt a1 x6_1)) = true := bne_iff_ne.mpr c9
        have H' := Az.mk H
        clear H
        have p6 : 0 ≤ (x6_1 : Int) := of_decide_eq_true (by first | (with_reducible assumption) | assumption)
        have q6 : x6_1 < (a0.size : Int) := of_decide_eq_true (by first | (with_reducible assumption) | assumption)
        have hx6 := bt_at a0 x6_1
        replace p6 := eq_true p6
        replace q6 := eq_true q6
        have p8 : 0 ≤ (x6_1 : Int) := of_decide_eq_true (by first | (with_reducible assumption) | assumption)
        have q8 : x6_1 < (a1.size : Int) := of_decide_eq_true (by first | (with_reducible assumption) | assumption)
        have hx8 := bt_at a1 x6_1
        replace p8 := eq_true p8
        replace q8 := eq_true q8
        go_wp2
        repeat (go_quiet (fail); try go_wp2)
        go_roundg k1
        case measure => have := HK1.out; omega
        case rel => exact ⟨(wrap64 (x5_1 + 1)), (wrap64 (x6_1 + 1)), (by first | rfl | (simp; done) | (simp [*]; done)), (by first | rfl | (simp; done) | (simp [*]; done)), H', ⟨by have := HK1.out; omega⟩, by repeat (first | exact Drawn0.refl _ | apply Drawn0.step)⟩
      ·rw [if_neg c7] at H
       exact absurd H (by simp)
     ·rw [if_neg c5] at H
      exact absurd H (by simp)
    ·rw [if_neg c4] at H
     have c4b0 : decide (x6_1 < (a0.size : Int)) = false := decide_eq_false c4
     clear c4
     obtain rfl := Option.some.inj H
     go_wp2
     repeat (go_quiet (fail); try go_wp2)
     go_ret
     exact ⟨by first | rfl | (simp; done) | (simp [*]; done), by repeat (first | exact Drawn0.refl _ | apply Drawn0.step)⟩
 ·rw [if_neg c3] at H
  have c3b0 : ((a0.size : Int) == (a1.size : Int)) = false := beq_eq_false_iff_ne.mpr c3
  have c3b1 : ((a0.size : Int) != (a1.size : Int)) = true := bne_iff_ne.mpr c3
  have c3b2 : (a0.size == a1.size) = false := by first | simpa using c3 | (simp at c3 ⊢; omega)
  obtain rfl := Option.some.inj H
  go_enter Try.func14, Try.ntmps14
  go_wp2
  repeat (go_quiet (fail); try go_wp2)
  go_ret
  exact ⟨by first | rfl | (simp; done) | (simp [*]; done), by repeat (first | exact Drawn0.refl _ | apply Drawn0.step)⟩
def l17_small.l0 : Nat → List (S30) → Int → Int → Option (Bool)
 | 0, _, _, _ => none
 | k + 1, x0, x3, x4 => if x4 < (x0.length : Int) then (if x4 ≤ 60 then (if x3 ≤ 20000 then (if 0 ≤ x4 then (l17_small.l0 k x0 (wrap64 (x3 + (((rd_T30 x0 x4).f3).size : Int))) (wrap64 (x4 + 1))) else (none)) else (if (x0.length : Int) ≤ 60 then (some (decide (x3 ≤ 20000))) else (some false))) else (if (x0.length : Int) ≤ 60 then (some (decide (x3 ≤ 20000))) else (some false))) else (if (x0.length : Int) ≤ 60 then (some (decide (x3 ≤ 20000))) else (some false))
def l17_small.f (k : Nat) (l0 : List (S30)) : Option (Bool) := l17_small.l0 k l0 0 0
theorem l17_small.mono_l : ∀ k, (∀ y0 y1 y2, LeO (l17_small.l0 k y0 y1 y2) (l17_small.l0 (k + 1) y0 y1 y2))
 | 0 => fun _ _ _ r h => by simp [l17_small.l0] at h
 | k + 1 => by
  have ih0 := l17_small.mono_l k
  ·intro y0 y1 y2
   unfold l17_small.l0
   repeat' first
   | (with_reducible exact ih0 _ _ _)
   | (with_reducible exact LeO.refl _)
   | (with_reducible exact LeO.none _)
   | (with_reducible refine LeO.ite ?_ ?_)
   | (with_reducible refine LeO.bind ?_ (fun _ => ?_))
   | exact ih0 _ _ _
   | exact LeO.none _
   | refine LeO.ite ?_ ?_
   | refine LeO.bind ?_ (fun _ => ?_)
theorem l17_small.mono : ∀ a0 k, LeO (l17_small.f k a0) (l17_small.f (k + 1) a0) := by
 intro a0 k
 have ih0 := l17_small.mono_l k
 unfold l17_small.f
 repeat' first
  | (with_reducible exact ih0 _ _ _)
  | (with_reducible exact LeO.refl _)
  | (with_reducible exact LeO.none _)
  | (with_reducible refine LeO.ite ?_ ?_)
  | (with_reducible refine LeO.bind ?_ (fun _ => ?_))
  | exact ih0 _ _ _
  | exact LeO.none _
  | refine LeO.ite ?_ ?_
  | refine LeO.bind ?_ (fun _ => ?_)
set_option maxHeartbeats 8000000 in
set_option maxRecDepth 100000 in
theorem l17_small.calls (k : Nat) (A0 : Option Addr) (c0 : Nat) (l0 : List (S30)) (r : Bool) (w : World) (hr0 : Kd.C k30 w A0 l0.length l0) (hc0 : l0.length ≤ c0) (h : l17_small.f k l0 = some r) :
 Calls Try.prog 6 #[.slice A0 l0.length c0] w fun e w' => e = .returned (.bool r) ∧ Drawn0 w w' := by
 have HR0 := Az.mk hr0
 have HC0 := Az.mk hc0
 clear hr0 hc0
 have H : (l17_small.l0 k l0 0 0) = some r := h
 clear h
 have H' := Az.mk H
 clear H
 go_enter Try.func6, Try.ntmps6
 go_wp2
 go_loopg [3, 4] k (fun kq v3 v4 w' => ∃ (x3_1 : Int) (x4_1 : Int), v3 = .int .i64 x3_1 ∧ v4 = .int .i64 x4_1 ∧ Az (l17_small.l0 kq l0 x3_1 x4_1 = some r) ∧ Az (kq ≤ k) ∧ Drawn0 w w')
 case atStart => exact ⟨(0), (0), (by first | rfl | (simp; done) | (simp [*]; done)), (by first | rfl | (simp; done) | (simp [*]; done)), H', ⟨Nat.le_refl _⟩, by repeat (first | exact Drawn0.refl _ | apply Drawn0.step)⟩
 case round =>
  clear H'
  obtain ⟨x3_1, x4_1, rfl, rfl, HA, HK1, ⟨m1, rfl⟩⟩ := hrel
  cases gk with
  | zero => exact absurd HA.out (by simp [l17_small.l0])
  | succ k1 =>
   have H := HA.out
   clear HA
   simp only [l17_small.l0] at H
   by_cases c2 : x4_1 < (l0.length : Int)
   ·rw [if_pos c2] at H
    have c2b0 : decide (x4_1 < (l0.length : Int)) = true := decide_eq_true c2
    clear c2
    by_cases c3 : x4_1 ≤ 60
    ·rw [if_pos c3] at H
     have c3b0 : decide (x4_1 ≤ 60) = true := decide_eq_true c3
     clear c3
     by_cases c4 : x3_1 ≤ 20000
     ·rw [if_pos c4] at H
      have c4b0 : decide (x3_1 ≤ 20000) = true := decide_eq_true c4
      clear c4
      by_cases c5 : 0 ≤ x4_1
      ·rw [if_pos c5] at H
       have c5b0 : decide (0 ≤ x4_1) = true := decide_eq_true c5
       clear c5
       have H' := Az.mk H
       clear H
       have p101 : 0 ≤ (x4_1 : Int) := of_decide_eq_true (by first | (with_reducible assumption) | assumption)
       have q101 : x4_1 < (l0.length : Int) := of_decide_eq_true (by first | (with_reducible assumption) | assumption)
       obtain ⟨ad101, e101, hx101_0, hx101_1, hx101_2, hx101_3, hx101_4, hx101_5, hx101_6⟩ := at_T30 HR0.out x4_1 p101 q101
       cases e101
       replace p101 := eq_true p101
       replace q101 := eq_true q101
       go_wp2
       go_roundg k1
       case measure => have := HK1.out; omega
       case rel => exact ⟨(wrap64 (x3_1 + (((rd_T30 l0 x4_1).f3).size : Int))), (wrap64 (x4_1 + 1)), (by first | rfl | (simp; done) | (simp [*]; done)), (by first | rfl | (simp; done) | (simp [*]; done)), H', ⟨by have := HK1.out; omega⟩, by repeat (first | exact Drawn0.refl _ | apply Drawn0.step)⟩
      ·rw [if_neg c5] at H
       exact absurd H (by simp)
     ·rw [if_neg c4] at H
      have c4b0 : decide (x3_1 ≤ 20000) = false := decide_eq_false c4
      clear c4
      by_cases c6 : (l0.length : Int) ≤ 60
      ·rw [if_pos c6] at H
       have c6b0 : decide ((l0.length : Int) ≤ 60) = true := decide_eq_true c6
       have c6b1 : decide (l0.length ≤ 60) = true := decide_eq_true (by omega)
       clear c6
       obtain rfl := Option.some.inj H
       go_wp2
       go_ret
       exact ⟨by first | rfl | (simp; done) | (simp [*]; done), by repeat (first | exact Drawn0.refl _ | apply Drawn0.step)⟩
      ·rw [if_neg c6] at H
       have c6b0 : decide ((l0.length : Int) ≤ 60) = false := decide_eq_false c6
       have c6b1 : decide (l0.length ≤ 60) = false := decide_eq_false (by omega)
       clear c6
       obtain rfl := Option.some.inj H
       go_wp2
       go_ret
       exact ⟨by first | rfl | (simp; done) | (simp [*]; done), by repeat (first | exact Drawn0.refl _ | apply Drawn0.step)⟩
    ·rw [if_neg c3] at H
     have c3b0 : decide (x4_1 ≤ 60) = false := decide_eq_false c3
     clear c3
     by_cases c7 : (l0.length : Int) ≤ 60
     ·rw [if_pos c7] at H
      have c7b0 : decide ((l0.length : Int) ≤ 60) = true := decide_eq_true c7
      have c7b1 : decide (l0.length ≤ 60) = true := decide_eq_true (by omega)
      clear c7
      obtain rfl := Option.some.inj H
      go_wp2
      go_ret
      exact ⟨by first | rfl | (simp; done) | (simp [*]; done), by repeat (first | exact Drawn0.refl _ | apply Drawn0.step)⟩
     ·rw [if_neg c7] at H
      have c7b0 : decide ((l0.length : Int) ≤ 60) = false := decide_eq_false c7
      have c7b1 : decide (l0.length ≤ 60) = false := decide_eq_false (by omega)
      clear c7
      obtain rfl := Option.some.inj H
      go_wp2
      go_ret
      exact ⟨by first | rfl | (simp; done) | (simp [*]; done), by repeat (first | exact Drawn0.refl _ | apply Drawn0.step)⟩
   ·rw [if_neg c2] at H
    have c2b0 : decide (x4_1 < (l0.length : Int)) = false := decide_eq_false c2
    clear c2
    by_cases c8 : (l0.length : Int) ≤ 60
    ·rw [if_pos c8] at H
     have c8b0 : decide ((l0.length : Int) ≤ 60) = true := decide_eq_true c8
     have c8b1 : decide (l0.length ≤ 60) = true := decide_eq_true (by omega)
     clear c8
     obtain rfl := Option.some.inj H
     go_wp2
     go_ret
     exact ⟨by first | rfl | (simp; done) | (simp [*]; done), by repeat (first | exact Drawn0.refl _ | apply Drawn0.step)⟩
    ·rw [if_neg c8] at H
     have c8b0 : decide ((l0.length : Int) ≤ 60) = false := decide_eq_false c8
     have c8b1 : decide (l0.length ≤ 60) = false := decide_eq_false (by omega)
     clear c8
     obtain rfl := Option.some.inj H
     go_wp2
     go_ret
     exact ⟨by first | rfl | (simp; done) | (simp [*]; done), by repeat (first | exact Drawn0.refl _ | apply Drawn0.step)⟩
end Go.Proofs.Ytofiahgneaopoaa.P
end
section
namespace Go.Proofs.Ytofiahgneaopoaa.P
open Go.RowKit Go Go.Proofs.Ytofiahgneaopoaa.K Go.Proofs.YtofiahgneaopoaaW.PrintWords Go.Proofs.YtofiahgneaopoaaW.PrintLast Go.Proofs.YtofiahgneaopoaaW.PrintMore
theorem small_any (l : List S30) (d : Nat) : ∀ (i : Nat) (z : Int), 62 - i ≤ d → i ≤ 61 → ∃ k b, l17_small.l0 k l z (i : Int) = some b ∧ (b = true → l.length ≤ 60) := by
 induction d with
 | zero => intro i z h1 h2; omega
 | succ d ih =>
  intro i z h1 h2
  have hfin : ∃ b, (if (l.length : Int) ≤ 60 then (some (decide (z ≤ 20000))) else (some false)) = some b ∧ (b = true → l.length ≤ 60) := by
   by_cases c : (l.length : Int) ≤ 60
   ·rw [if_pos c]; exact ⟨_, rfl, fun _ => by omega⟩
   ·rw [if_neg c]; exact ⟨_, rfl, fun h => by cases h⟩
  by_cases c1 : (i : Int) < (l.length : Int)
  ·by_cases c2 : (i : Int) ≤ 60
   ·by_cases c3 : z ≤ 20000
    ·have hw : wrap64 ((i : Int) + 1) = ((i + 1 : Nat) : Int) := by unfold wrap64; omega
     obtain ⟨k, b, hk, hb⟩ := ih (i + 1) (wrap64 (z + (((rd_T30 l (i : Int)).f3).size : Int))) (by omega) (by omega)
     refine ⟨k + 1, b, ?_, hb⟩
     rw [l17_small.l0, if_pos c1, if_pos c2, if_pos c3, if_pos (by omega), hw]; exact hk
    ·obtain ⟨b, h, hb⟩ := hfin
     exact ⟨1, b, by rw [l17_small.l0, if_pos c1, if_pos c2, if_neg c3]; exact h, hb⟩
   ·obtain ⟨b, h, hb⟩ := hfin
    exact ⟨1, b, by rw [l17_small.l0, if_pos c1, if_neg c2]; exact h, hb⟩
  ·obtain ⟨b, h, hb⟩ := hfin
   exact ⟨1, b, by rw [l17_small.l0, if_neg c1]; exact h, hb⟩
theorem small_once (l : List S30) : ∃ k b, l17_small.f k l = some b ∧ (b = true → l.length ≤ 60) := small_any l 62 0 0 (by omega) (by omega)
def dif (t u : ByteArray) : Nat → Nat → Nat
 | 0, _ => 0
 | d + 1, i => (if bt t (i : Int) = bt u (i : Int) then 0 else 1) + dif t u d (i + 1)
theorem dif_le (t u : ByteArray) : ∀ (d i : Nat), dif t u d i ≤ d
 | 0, _ => Nat.le_refl _
 | d + 1, i => by
  have := dif_le t u d (i + 1)
  simp only [dif]
  split <;> omega
theorem near_any (t u : ByteArray) (hs : t.size = u.size) (hm : t.size ≤ 4611686018427387904) (d : Nat) : ∀ (i c : Nat), t.size - i = d → i ≤ t.size → c ≤ i → ∃ k, l17_near.l0 k t u (c : Int) (i : Int) = some (decide (c + dif t u d i ≤ 1)) := by
 induction d with
 | zero =>
  intro i c hd hi hc
  refine ⟨1, ?_⟩
  rw [l17_near.l0, if_neg (by omega)]
  exact congrArg some (decide_eq_decide.2 (by simp only [dif]; omega))
 | succ d ih =>
  intro i c hd hi hc
  have hw : wrap64 ((i : Int) + 1) = ((i + 1 : Nat) : Int) := by unfold wrap64; omega
  have hw2 : wrap64 ((c : Int) + 1) = ((c + 1 : Nat) : Int) := by unfold wrap64; omega
  by_cases h : bt t (i : Int) = bt u (i : Int)
  ·obtain ⟨k, hk⟩ := ih (i + 1) c (by omega) (by omega) (by omega)
   refine ⟨k + 1, ?_⟩
   rw [l17_near.l0, if_pos (by omega), if_pos (by omega), if_pos (by omega), if_pos h, hw, hk]
   simp only [dif, if_pos h, Nat.zero_add]
  ·obtain ⟨k, hk⟩ := ih (i + 1) (c + 1) (by omega) (by omega) (by omega)
   refine ⟨k + 1, ?_⟩
   rw [l17_near.l0, if_pos (by omega), if_pos (by omega), if_pos (by omega), if_neg h, hw, hw2, hk]
   exact congrArg some (decide_eq_decide.2 (by simp only [dif, if_neg h]; omega))
def nearB (t u : ByteArray) : Bool := decide (t.size = u.size ∧ dif t u t.size 0 ≤ 1)
theorem near_once (t u : ByteArray) (hm : t.size ≤ 4611686018427387904) : ∃ k, l17_near.f k t u = some (nearB t u) := by
 unfold l17_near.f nearB
 by_cases hs : t.size = u.size
 ·obtain ⟨k, hk⟩ := near_any t u hs hm t.size 0 0 (by omega) (by omega) (by omega)
  refine ⟨k, ?_⟩
  rw [if_pos (by omega)]
  refine Eq.trans hk (congrArg some (decide_eq_decide.2 ?_))
  constructor
  ·intro h; exact ⟨hs, by omega⟩
  ·intro h; have := h.2; omega
 ·refine ⟨0, ?_⟩
  rw [if_neg (by omega), decide_eq_false (fun h => hs h.1)]
theorem dif_same (t : ByteArray) : ∀ (d i : Nat), dif t t d i = 0
 | 0, _ => rfl
 | d + 1, i => by simp only [dif, if_true, dif_same t d (i + 1)]
theorem near_same (t : ByteArray) : nearB t t = true := decide_eq_true ⟨rfl, by rw [dif_same]; omega⟩
theorem dif_one (t u : ByteArray) (a : Nat) (h : ∀ j, j ≠ a → bt t (j : Int) = bt u (j : Int)) : ∀ (d i : Nat), dif t u d i ≤ (if i ≤ a then 1 else 0)
 | 0, _ => Nat.zero_le _
 | d + 1, i => by
  have ih := dif_one t u a h d (i + 1)
  simp only [dif]
  by_cases c : i = a
  ·rw [if_neg (show ¬ i + 1 ≤ a by omega)] at ih
   rw [if_pos (show i ≤ a by omega)]
   split <;> omega
  ·rw [if_pos (h i c)]
   by_cases c2 : i ≤ a
   ·rw [if_pos c2]
    rw [if_pos (show i + 1 ≤ a by omega)] at ih
    omega
   ·rw [if_neg c2]
    rw [if_neg (show ¬ i + 1 ≤ a by omega)] at ih
    omega
theorem spoilt_size (s : ByteArray) (a : Nat) (v : Int) : (spoilt s a v).size = s.size := by
 unfold spoilt
 rw [strOfNums_size, List.length_set, List.length_map, ← Lib.size_eq]
theorem bt_get (s : ByteArray) (j : Nat) : bt s (j : Int) = ((s.data.toList[j]?).map (fun c => (c.toNat : Int))).getD 0 := by
 unfold bt
 by_cases h : j < s.size
 ·have h2 : j < s.data.toList.length := by rw [← Lib.size_eq]; exact h
  rw [dif_pos (by simpa using h), List.getElem?_eq_getElem h2]
  rfl
 ·have h2 : s.data.toList.length ≤ j := by rw [← Lib.size_eq]; omega
  rw [dif_neg (by simpa using h), List.getElem?_eq_none h2]; rfl
theorem near_spoilt (s : ByteArray) (a : Nat) (v : Int) : nearB (spoilt s a v) s = true := by
 refine decide_eq_true ⟨spoilt_size s a v, ?_⟩
 refine Nat.le_trans (dif_one _ _ a (fun j hj => ?_) _ _) (by split <;> omega)
 rw [bt_get, bt_get]
 unfold spoilt
 rw [strOfNums_data, List.getElem?_map, List.getElem?_set_ne (Ne.symm hj), List.getElem?_map]
 cases s.data.toList[j]? with
 | none => rfl
 | some c => simp
/-- Of each letter on its way: its number, and that what it says was sent, but for one byte. -/
def Fit1 (D : Lts) (last : Int) (SL : List ByteArray) (TL : List Int) : Prop :=
 ∀ n x, D n = some x → 1 ≤ n ∧ n ≤ last ∧ n ∉ TL ∧ ∃ u ∈ SL, (x.2 = false → x.1 = u) ∧ nearB x.1 u = true
theorem fit_none (SL : List ByteArray) (TL : List Int) : Fit1 (fun _ => none) 0 SL TL := fun n x h => by cases h
theorem fit_next {D : Lts} {last : Int} {SL : List ByteArray} {TL : List Int} (h : Fit1 D last SL TL) (h0 : 0 ≤ last) (ht : ∀ t ∈ TL, t ≤ last) (s : ByteArray) : D (last + 1) = none ∧ Fit1 (putL D (last + 1) (s, false)) (last + 1) (SL ++ [s]) TL ∧ Fit1 D last (SL ++ [s]) TL := by
 refine ⟨?_, ?_, ?_⟩
 ·cases hD : D (last + 1) with
  | none => rfl
  | some x => have := (h _ _ hD).2.1; omega
 ·intro n x hx
  unfold putL at hx
  split at hx
  ·rename_i hn
   injection hx with hx
   subst hx
   subst hn
   exact ⟨by omega, by omega, fun hm => by have := ht _ hm; omega, s, by simp, fun _ => rfl, near_same s⟩
  ·obtain ⟨a, b, c, u, hu, e⟩ := h n x hx
   exact ⟨a, by omega, c, u, List.mem_append_left _ hu, e⟩
 ·intro n x hx
  obtain ⟨a, b, c, u, hu, e⟩ := h n x hx
  exact ⟨a, b, c, u, List.mem_append_left _ hu, e⟩
theorem fit_double {D : Lts} {last : Int} {SL : List ByteArray} {TL : List Int} (h : Fit1 D last SL TL) (h0 : 0 ≤ last) (ht : ∀ t ∈ TL, t ≤ last) {n : Int} {x : ByteArray × Bool} (hn : D n = some x) : D (last + 1) = none ∧ Fit1 (putL D (last + 1) x) (last + 1) SL TL := by
 refine ⟨?_, ?_⟩
 ·cases hD : D (last + 1) with
  | none => rfl
  | some x => have := (h _ _ hD).2.1; omega
 ·intro q y hy
  unfold putL at hy
  split at hy
  ·rename_i hq
   injection hy with hy
   subst hy
   subst hq
   obtain ⟨a, b, c, u, hu, e⟩ := h n x hn
   exact ⟨by omega, by omega, fun hm => by have := ht _ hm; omega, u, hu, e⟩
  ·obtain ⟨a, b, c, u, hu, e⟩ := h q y hy
   exact ⟨a, by omega, c, u, hu, e⟩
theorem fit_take {D : Lts} {last : Int} {SL : List ByteArray} {TL : List Int} (h : Fit1 D last SL TL) (n : Int) : Fit1 (delL D n) last SL (TL ++ [n]) := by
 intro q y hy
 unfold delL at hy
 split at hy
 ·cases hy
 ·rename_i hq
  obtain ⟨a, b, c, u, hu, e⟩ := h q y hy
  refine ⟨a, b, fun hm => ?_, u, hu, e⟩
  rcases List.mem_append.1 hm with hm | hm
  ·exact c hm
  ·exact hq (List.mem_singleton.1 hm)
theorem fit_spoil {D : Lts} {last : Int} {SL : List ByteArray} {TL : List Int} (h : Fit1 D last SL TL) {n : Int} {s : ByteArray} (hn : D n = some (s, false)) (a : Nat) (v : Int) : Fit1 (putL D n (spoilt s a v, true)) last SL TL := by
 intro q y hy
 unfold putL at hy
 split at hy
 ·rename_i hq
  injection hy with hy
  subst hy
  subst hq
  obtain ⟨x1, x2, x3, u, hu, e1, e2⟩ := h q _ hn
  have e3 := e1 rfl
  simp only at e3
  subst e3
  exact ⟨x1, x2, x3, s, hu, (fun h => by cases h), near_spoilt s a v⟩
 ·exact h q y hy
structure Sg (w0 w : World) (g m : Nat) (D : Lts) (cnt : Nat) (last : Int) (p : Nat → Bool) (vs : Value) (SL : List ByteArray) (vt : Value) (TL : List Int) : Prop where
 st : St w0.heap.size w0 w g m D cnt last p
 sent : Kd.string.R 9 w w0.heap.size (fun k => k ≠ g ∧ k ≠ m) vs SL
 taken : (Kd.int .i64).R 2 w w0.heap.size (fun k => k ≠ g ∧ k ≠ m) vt TL
section
variable {w0 w w1 : World} {g m : Nat} {D : Lts} {cnt : Nat} {last : Int} {p : Nat → Bool} {vs : Value} {SL : List ByteArray} {vt : Value} {TL : List Int}
theorem Sg.two (h : Sg w0 w g m D cnt last p vs SL vt TL) {D1 : Lts} {cnt1 : Nat} {last1 : Int} {p1 : Nat → Bool} (hr : Rep w1 g m D1 cnt1 last1 p1) (ht : Two g m w w1) : Sg w0 w1 g m D1 cnt1 last1 p1 vs SL vt TL :=
 ⟨h.st.two hr ht, Kd.R_step h.sent (fun k hk hl => ht.block k hl hk.1 hk.2), Kd.R_step h.taken (fun k hk hl => ht.block k hl hk.1 hk.2)⟩
theorem Sg.step (h : Sg w0 w g m D cnt last p vs SL vt TL) (hb : Below w.heap.size w w1) : Sg w0 w1 g m D cnt last p vs SL vt TL := h.two (h.st.rep.below hb) (Two.of_below hb)
theorem Sg.drewN (h : Sg w0 w g m D cnt last p vs SL vt TL) (n : Nat) : Sg w0 (w.drewN n) g m D cnt last p vs SL vt TL := h.step (pbN (Below.refl _ _) n)
theorem Sg.alloc (h : Sg w0 w g m D cnt last p vs SL vt TL) (o : Obj) : Sg w0 (w.alloc o) g m D cnt last p vs SL vt TL := h.step (pbA (Below.refl _ _) _)
theorem own_cells {α : Type} {d : Kd α} {e : Nat} {base : Nat} {ok : Nat → Prop} {v : Value} {xs : List α} (h : d.R e w base ok v xs) {k : Nat} (hk : v.ownBlock = some k) : ∃ cells, w.heap[k]? = some (.cells cells e (0, 0)) := by
 obtain ⟨inner, ho⟩ := Kd.R_own h
 exact own_typed ho k hk
/-- A text is put behind what was sent. -/
theorem Sg.sent_more (h : Sg w0 w g m D cnt last p vs SL vt TL) {v1 : Value} {s : ByteArray} (ho : Kd.string.R 9 w1 w0.heap.size (fun k => k ≠ g ∧ k ≠ m) v1 (SL ++ [s])) (hb : Below w0.heap.size w0 w1) (hg : w.grownBy w1 vs.ownBlock) : Sg w0 w1 g m D cnt last p v1 (SL ++ [s]) vt TL := by
 have ng : some g ≠ vs.ownBlock := fun e => (h.sent.1 g e.symm).1 rfl
 have nm : some m ≠ vs.ownBlock := fun e => (h.sent.1 m e.symm).2 rfl
 refine ⟨⟨h.st.rep.keep (hg.block g h.st.rep.lt ng) (hg.block m h.st.rep.ltm nm), hb, h.st.hg, h.st.hm⟩, ho, ?_⟩
 refine Kd.R_mono (Kd.R_step (Kd.R_mono (Kd.R_bound h.taken) (ok' := fun k => (k ≠ g ∧ k ≠ m) ∧ some k ≠ vs.ownBlock) (fun k hk => ⟨hk.1, fun e => ?_⟩)) (fun k hk hl => hg.block k hl hk.2)) (fun k hk => hk.1)
 obtain ⟨_, _, _, q, hq, cells, hc⟩ := hk
 obtain ⟨cells2, hc2⟩ := own_cells h.sent e.symm
 rw [hc] at hc2
 injection hc2 with hc2
 injection hc2 with _ hc2
 have : q = 2 := by simpa [Kd.int, Kd.scalar] using hq
 rw [this] at hc2
 exact absurd hc2 (by decide)
theorem Sg.taken_more (h : Sg w0 w g m D cnt last p vs SL vt TL) {v1 : Value} {n : Int} (ho : (Kd.int .i64).R 2 w1 w0.heap.size (fun k => k ≠ g ∧ k ≠ m) v1 (TL ++ [n])) (hb : Below w0.heap.size w0 w1) (hg : w.grownBy w1 vt.ownBlock) : Sg w0 w1 g m D cnt last p vs SL v1 (TL ++ [n]) := by
 have ng : some g ≠ vt.ownBlock := fun e => (h.taken.1 g e.symm).1 rfl
 have nm : some m ≠ vt.ownBlock := fun e => (h.taken.1 m e.symm).2 rfl
 refine ⟨⟨h.st.rep.keep (hg.block g h.st.rep.lt ng) (hg.block m h.st.rep.ltm nm), hb, h.st.hg, h.st.hm⟩, ?_, ho⟩
 refine Kd.R_mono (Kd.R_step (Kd.R_mono (Kd.R_bound h.sent) (ok' := fun k => (k ≠ g ∧ k ≠ m) ∧ some k ≠ vt.ownBlock) (fun k hk => ⟨hk.1, fun e => ?_⟩)) (fun k hk hl => hg.block k hl hk.2)) (fun k hk => hk.1)
 obtain ⟨_, _, _, q, hq, cells, hc⟩ := hk
 obtain ⟨cells2, hc2⟩ := own_cells h.taken e.symm
 rw [hc] at hc2
 injection hc2 with hc2
 injection hc2 with _ hc2
 have : q = 9 := by simpa [Kd.string, Kd.scalar] using hq
 rw [this] at hc2
 exact absurd hc2 (by decide)
theorem sg_send (h : Sg w0 w g m D cnt last p vs SL vt TL) (x y : Int) (s : ByteArray) (h0 : 0 ≤ last) (h1 : last ≤ 1000000) (hD : D (last + 1) = none) (hc : pt p x y = false) (hcnt : cnt < 3000) :
 Calls Try.prog 9 #[.pointer (some ⟨g, 0, none⟩), .int .i64 x, .int .i64 y, .string s] w fun e w' => e = .returned (.int .i64 (last + 1)) ∧ Sg w0 w' g m (putL D (last + 1) (s, false)) (cnt + 1) (last + 1) p vs SL vt TL ∧ Two g m w w' := by
 have e1 := wrap_last h0 h1
 have := send_calls h.st.rep x y s (by rw [e1]; exact hD) hc hcnt
 rw [e1] at this
 exact this.mono fun e w' ⟨a, hr, ht⟩ => ⟨a, h.two hr ht, ht⟩
theorem sg_send_none (h : Sg w0 w g m D cnt last p vs SL vt TL) (x y : Int) (s : ByteArray) (hc : pt p x y = true) :
 Calls Try.prog 9 #[.pointer (some ⟨g, 0, none⟩), .int .i64 x, .int .i64 y, .string s] w fun e w' => e = .returned (.int .i64 0) ∧ Sg w0 w' g m D cnt last p vs SL vt TL ∧ Two g m w w' :=
 (send_none h.st.rep x y s (.inl hc)).mono fun e w' ⟨a, hb⟩ => ⟨a, h.step hb, Two.of_below hb⟩
theorem sg_parted (h : Sg w0 w g m D cnt last p vs SL vt TL) (x y : Int) :
 Calls Try.prog 10 #[.pointer (some ⟨g, 0, none⟩), .int .i64 x, .int .i64 y] w fun e w' => e = .returned (.bool (pt p x y)) ∧ Sg w0 w' g m D cnt last p vs SL vt TL ∧ Two g m w w' :=
 (parted_calls h.st.rep x y).mono fun e w' ⟨a, hb⟩ => ⟨a, h.step hb, Two.of_below hb⟩
theorem sg_cut (h : Sg w0 w g m D cnt last p vs SL vt TL) (x y : Int) (on : Bool) :
 Calls Try.prog 11 #[.pointer (some ⟨g, 0, none⟩), .int .i64 x, .int .i64 y, .bool on] w fun e w' => e = .returned (.tuple #[]) ∧ Two g m w w' ∧ ∃ p1, Sg w0 w' g m D cnt last p1 vs SL vt TL := by
 by_cases hc : x ≠ y ∧ isP x = true ∧ isP y = true
 ·obtain ⟨h0, h1, h2⟩ := hc
  obtain ⟨a1, a2⟩ := of_decide_eq_true h1
  obtain ⟨a3, a4⟩ := of_decide_eq_true h2
  obtain ⟨i, rfl⟩ : ∃ i : Nat, x = (i : Int) := ⟨x.toNat, by omega⟩
  obtain ⟨j, rfl⟩ : ∃ j : Nat, y = (j : Int) := ⟨y.toNat, by omega⟩
  exact (cut_calls h.st.rep i j (by omega) (by omega) (by omega) on).mono fun e w' ⟨a, hr, ht⟩ => ⟨a, ht, _, h.two hr ht⟩
 ·refine (cut_none (g := g) x y ?_ on).mono fun e w' ⟨a, hb⟩ => ⟨a, Two.of_below hb, _, h.step hb⟩
  by_cases h0 : x = y
  ·exact .inl h0
  ·cases h1 : isP x
   ·exact .inr (.inl rfl)
   ·cases h2 : isP y
    ·exact .inr (.inr rfl)
    ·exact absurd ⟨h0, h1, h2⟩ hc
theorem sg_take (h : Sg w0 w g m D cnt last p vs SL vt TL) {n : Int} (hn : (Lit.int .i64 n).wf = true) {x : ByteArray × Bool} (hD : D n = some x) :
 Calls Try.prog 12 #[.pointer (some ⟨g, 0, none⟩), .int .i64 n] w fun e w' => e = .returned (.tuple #[.string x.1, .int .i64 0]) ∧ Sg w0 w' g m (delL D n) (cnt - 1) last p vs SL vt TL ∧ Two g m w w' :=
 (take_calls h.st.rep hn hD).mono fun e w' ⟨a, hr, ht, _⟩ => ⟨a, h.two hr ht, ht⟩
theorem sg_take_none (h : Sg w0 w g m D cnt last p vs SL vt TL) {n : Int} (hn : (Lit.int .i64 n).wf = true) (hD : D n = none) :
 Calls Try.prog 12 #[.pointer (some ⟨g, 0, none⟩), .int .i64 n] w fun e w' => e = .returned (.tuple #[.string ⟨#[]⟩, .int .i64 2]) ∧ Sg w0 w' g m D cnt last p vs SL vt TL ∧ Two g m w w' :=
 (take_none h.st.rep hn hD).mono fun e w' ⟨a, hb⟩ => ⟨a, h.step hb, Two.of_below hb⟩
theorem sg_double (h : Sg w0 w g m D cnt last p vs SL vt TL) {n : Int} (hn : (Lit.int .i64 n).wf = true) {x : ByteArray × Bool} (hD : D n = some x) (hc : cnt < 3000) (h0 : 0 ≤ last) (h1 : last ≤ 1000000) (hL : D (last + 1) = none) :
 Calls Try.prog 15 #[.pointer (some ⟨g, 0, none⟩), .int .i64 n] w fun e w' => e = .returned (.tuple #[.int .i64 (last + 1), .int .i64 0]) ∧ Sg w0 w' g m (putL D (last + 1) x) (cnt + 1) (last + 1) p vs SL vt TL ∧ Two g m w w' := by
 have e1 := wrap_last h0 h1
 have := double_calls h.st.rep hn hD hc (by rw [e1]; exact hL)
 rw [e1] at this
 exact this.mono fun e w' ⟨a, hr, ht⟩ => ⟨a, h.two hr ht, ht⟩
theorem sg_double_none (h : Sg w0 w g m D cnt last p vs SL vt TL) {n : Int} (hn : (Lit.int .i64 n).wf = true) (hD : D n = none) :
 Calls Try.prog 15 #[.pointer (some ⟨g, 0, none⟩), .int .i64 n] w fun e w' => e = .returned (.tuple #[.int .i64 0, .int .i64 2]) ∧ Sg w0 w' g m D cnt last p vs SL vt TL ∧ Two g m w w' :=
 (double_none h.st.rep hn hD).mono fun e w' ⟨a, hb⟩ => ⟨a, h.step hb, Two.of_below hb⟩
theorem sg_spoil (h : Sg w0 w g m D cnt last p vs SL vt TL) {n : Int} (hn : (Lit.int .i64 n).wf = true) (a b : Int) (hF : Fit1 D last SL TL) :
 Calls Try.prog 16 #[.pointer (some ⟨g, 0, none⟩), .int .i64 n, .int .i64 a, .int .u8 b] w fun e w' => ∃ r : Int, e = .returned (.int .i64 r) ∧ Two g m w w' ∧ ∃ D1, Sg w0 w' g m D1 cnt last p vs SL vt TL ∧ Fit1 D1 last SL TL := by
 cases hD : D n with
 | none => exact (spoil_none h.st.rep hn hD a b).mono fun e w' ⟨x, hb⟩ => ⟨_, x, Two.of_below hb, D, h.step hb, hF⟩
 | some x =>
  obtain ⟨s, c⟩ := x
  cases c
  ·by_cases hx : a < 0 ∨ (s.size : Int) ≤ a
   ·exact (spoil_out h.st.rep hn hD a b hx).mono fun e w' ⟨x, hb⟩ => ⟨_, x, Two.of_below hb, D, h.step hb, hF⟩
   ·obtain ⟨i, rfl⟩ : ∃ i : Nat, a = (i : Int) := ⟨a.toNat, by omega⟩
    exact (spoil_calls h.st.rep hn hD i b (by omega)).mono fun e w' ⟨x, ⟨v, hr⟩, ht⟩ => ⟨_, x, ht, _, h.two hr ht, fit_spoil hF hD i v⟩
  ·exact (spoil_there h.st.rep hn hD a b).mono fun e w' ⟨x, hb⟩ => ⟨_, x, Two.of_below hb, D, h.step hb, hF⟩
end
end Go.Proofs.Ytofiahgneaopoaa.P
end
section
namespace Go.Proofs.Ytofiahgneaopoaa.P
open Go.RowKit Go Go.Proofs.Ytofiahgneaopoaa.K Go.Proofs.YtofiahgneaopoaaW.PrintWords Go.Proofs.YtofiahgneaopoaaW.PrintLast Go.Proofs.YtofiahgneaopoaaW.PrintMore
attribute [local go_sem] max2_int
def Inv (i : Nat) (D : Lts) (cnt : Nat) (last : Int) (SL : List ByteArray) (TL : List Int) : Prop :=
 cnt ≤ i ∧ 0 ≤ last ∧ last ≤ (i : Int) ∧ SL.length ≤ i ∧ TL.length ≤ i ∧ (∀ t ∈ TL, t ≤ last) ∧ (∀ u ∈ SL, u.size ≤ reachBytes) ∧ Fit1 D last SL TL
theorem infoS : (Try.prog.info? 9).map (fun i => (i.zero, i.size, i.bytes)) = some (some (.string ⟨#[]⟩), 1, 16) := by kernel_rfl
theorem infoI : (Try.prog.info? 2).map (fun i => (i.zero, i.size, i.bytes)) = some (some (.int .i64 0), 1, 8) := by kernel_rfl
theorem wrap_succ {k : Nat} (h : k ≤ 1000000) : wrap64 ((k : Int) + 1) = ((k + 1 : Nat) : Int) := by unfold wrap64; omega
theorem Inv.next {i : Nat} {D : Lts} {cnt : Nat} {last : Int} {SL : List ByteArray} {TL : List Int} (h : Inv i D cnt last SL TL) : Inv (i + 1) D cnt last SL TL := by
 obtain ⟨a, b, c, d, e, f⟩ := h
 exact ⟨by omega, b, by omega, by omega, by omega, f⟩
theorem Inv.fit {i : Nat} {D : Lts} {cnt : Nat} {last : Int} {SL : List ByteArray} {TL : List Int} (h : Inv i D cnt last SL TL) {D1 : Lts} (hF : Fit1 D1 last SL TL) : Inv i D1 cnt last SL TL := by
 obtain ⟨a, b, c, d, e, f, g, _⟩ := h
 exact ⟨a, b, c, d, e, f, g, hF⟩
theorem Inv.full {i : Nat} {D : Lts} {cnt : Nat} {last : Int} {SL : List ByteArray} {TL : List Int} (h : Inv i D cnt last SL TL) : Fit1 D last SL TL := h.2.2.2.2.2.2.2
theorem Inv.send {i : Nat} {D : Lts} {cnt : Nat} {last : Int} {SL : List ByteArray} {TL : List Int} (h : Inv i D cnt last SL TL) {s : ByteArray} (hs : s.size ≤ reachBytes) : Inv (i + 1) (putL D (last + 1) (s, false)) (cnt + 1) (last + 1) (SL ++ [s]) TL := by
 obtain ⟨a, b, c, d, e, f, g, hF⟩ := h
 refine ⟨by omega, by omega, by omega, by simp; omega, by omega, fun t ht => by have := f t ht; omega, fun u hu => ?_, (fit_next hF b f s).2.1⟩
 rcases List.mem_append.1 hu with hu | hu
 ·exact g u hu
 ·rw [List.mem_singleton.1 hu]; exact hs
theorem Inv.send0 {i : Nat} {D : Lts} {cnt : Nat} {last : Int} {SL : List ByteArray} {TL : List Int} (h : Inv i D cnt last SL TL) {s : ByteArray} (hs : s.size ≤ reachBytes) : Inv (i + 1) D cnt last (SL ++ [s]) TL := by
 obtain ⟨a, b, c, d, e, f, g, hF⟩ := h
 refine ⟨by omega, by omega, by omega, by simp; omega, by omega, f, fun u hu => ?_, (fit_next hF b f s).2.2⟩
 rcases List.mem_append.1 hu with hu | hu
 ·exact g u hu
 ·rw [List.mem_singleton.1 hu]; exact hs
theorem Inv.double {i : Nat} {D : Lts} {cnt : Nat} {last : Int} {SL : List ByteArray} {TL : List Int} (h : Inv i D cnt last SL TL) {n : Int} {x : ByteArray × Bool} (hn : D n = some x) : Inv (i + 1) (putL D (last + 1) x) (cnt + 1) (last + 1) SL TL := by
 obtain ⟨a, b, c, d, e, f, g, hF⟩ := h
 exact ⟨by omega, by omega, by omega, by omega, by omega, fun t ht => by have := f t ht; omega, g, (fit_double hF b f hn).2⟩
theorem Inv.take {i : Nat} {D : Lts} {cnt : Nat} {last : Int} {SL : List ByteArray} {TL : List Int} (h : Inv i D cnt last SL TL) {n : Int} {x : ByteArray × Bool} (hn : D n = some x) : Inv (i + 1) (delL D n) (cnt - 1) last SL (TL ++ [n]) := by
 obtain ⟨a, b, c, d, e, f, g, hF⟩ := h
 refine ⟨by omega, by omega, by omega, by omega, by simp; omega, fun t ht => ?_, g, fit_take hF n⟩
 rcases List.mem_append.1 ht with ht | ht
 ·exact f t ht
 ·rw [List.mem_singleton.1 ht]; exact (hF n x hn).2.1
set_option maxHeartbeats 16000000 in
set_option maxRecDepth 100000 in
theorem once_calls (A0 : Option Addr) (c0 : Nat) (l0 : List S30) (w : World) (hr0 : Kd.C k30 w A0 l0.length l0) (hc0 : l0.length ≤ c0) (hok : ∀ x ∈ l0, (Lit.int .i64 x.f4).wf = true ∧ x.f3.size ≤ reachBytes) :
 Calls Try.prog 3 #[.slice A0 l0.length c0] w fun e w' => e = .returned (.bool true) ∧ Below w.heap.size w w' := by
 obtain ⟨k, b, hk, hb⟩ := small_once l0
 cases b
 ·go_enter Try.func3, Try.ntmps3
  go_wp2_with (first
   | (go_at_call 6; refine (l17_small.calls k A0 c0 l0 false _ hr0 hc0 hk).mono ?_; rintro e w' ⟨rfl, ⟨nd, rfl⟩⟩)
   | (go_at_call 7; refine (live_calls _).mono ?_; rintro e w' ⟨rfl, hb1⟩)
   | go_in)
  go_ret
  exact ⟨rfl, pbT (pbN (Below.refl _ _) _) hb1⟩
 ·have hl := hb rfl
  clear hb
  go_enter Try.func3, Try.ntmps3
  go_wp2_with (first
   | (go_at_call 6; refine (l17_small.calls k A0 c0 l0 true _ hr0 hc0 hk).mono ?_; rintro e w' ⟨rfl, ⟨nd, rfl⟩⟩)
   | (go_at_call 8; refine (st_new (pbN (Below.refl _ _) _)).mono ?_; rintro e w1 ⟨g, m, rfl, HS⟩)
   | go_in)
  clear hk
  go_loopw [4, 5, 6, 7] (fun vs vt vl vi wr => ∃ (i : Nat) (D : Lts) (cnt : Nat) (last : Int) (p : Nat → Bool) (SL : List ByteArray) (TL : List Int), i ≤ l0.length ∧ vi = .int .i64 i ∧ vl = .int .i64 last ∧ Inv i D cnt last SL TL ∧ Sg w wr g m D cnt last p vs SL vt TL) (fun _ _ _ vi _ => l0.length - (intOf vi).toNat)
  case atStart =>
   exact ⟨0, fun _ => none, 0, 0, fun _ => false, [], [], Nat.zero_le _, rfl, rfl, ⟨by omega, by omega, by omega, by simp, by simp, by simp, by simp, fit_none _ _⟩, HS, Kd.R_nil _ _ _ _ _, Kd.R_nil _ _ _ _ _⟩
  case round =>
   obtain ⟨i, D, cnt, last, p, SL, TL, hi, rfl, rfl, hI, HG⟩ := hrel
   clear HS
   have hw : wrap64 ((i : Int) + 1) = ((i + 1 : Nat) : Int) := by unfold wrap64; omega
   by_cases c : i < l0.length
   ·have c1 : decide ((i : Int) < (l0.length : Int)) = true := decide_eq_true (by omega)
    obtain ⟨ad, rfl, x0, x1, x2, x3, x4, x5, x6⟩ := at_T30 (Kd.C_below hr0 HG.st.below) (i : Int) (by omega) (by omega)
    obtain ⟨hwf, hsz⟩ := hok (rd_T30 l0 (i : Int)) (by simp [rd_T30, c])
    rw [Int.toNat_natCast] at x0 x1 x2 x3 x4 x5 x6
    generalize rd_T30 l0 (i : Int) = a at x0 x1 x2 x3 x4 x5 x6 hwf hsz
    obtain ⟨a0, a1, a2, a3, a4, a5, a6⟩ := a
    simp only at x0 x1 x2 x3 x4 x5 x6 hwf hsz
    have hBK : (wr.alloc (.cells #[.int .i64 a0, .int .i64 a1, .int .i64 a2, .string a3, .int .i64 a4, .bool a5, .int .u8 a6] 30)).heap[wr.heap.size]? = some (.cells #[.int .i64 a0, .int .i64 a1, .int .i64 a2, .string a3, .int .i64 a4, .bool a5, .int .u8 a6] 30 (0, 0)) := heap_alloc_new _ _
    have hNg : wr.heap.size ≠ g := Nat.ne_of_gt HG.st.rep.lt
    have hNm : wr.heap.size ≠ m := Nat.ne_of_gt HG.st.rep.ltm
    have h0 : 0 ≤ last := hI.2.1
    have hli : last ≤ (i : Int) := hI.2.2.1
    have hcn : cnt ≤ i := hI.1
    have hSLl : SL.length ≤ i := hI.2.2.2.1
    have hTLl : TL.length ≤ i := hI.2.2.2.2.1
    have hmeas : l0.length - (intOf (Value.int IntKind.i64 ((i : Int) + 1))).toNat < l0.length - (intOf (Value.int IntKind.i64 (i : Int))).toNat := by simp only [intOf]; omega
    have hlast : (if last < 0 then (0 : Int) else last) = last := if_neg (by omega)
    have hHA := HG.alloc (.cells #[.int .i64 a0, .int .i64 a1, .int .i64 a2, .string a3, .int .i64 a4, .bool a5, .int .u8 a6] 30)
    by_cases k1 : a0 = 1
    ·subst k1
     go_wp2_with (first
      | (go_at_call 11; refine (sg_cut hHA _ _ _).mono ?_; rintro e w' ⟨rfl, ht, p1, HG1⟩)
      | go_in)
     exact ⟨⟨i + 1, D, cnt, last, p1, SL, TL, by omega, rfl, rfl, hI.next, HG1⟩, hmeas⟩
    ·by_cases k4 : a0 = 4
     ·subst k4
      go_wp2_with (first
       | (go_at_call 16; refine (sg_spoil hHA hwf _ _ hI.full).mono ?_; rintro e w' ⟨r, rfl, ht, D1, HG1, hF1⟩)
       | go_in)
      exact ⟨⟨i + 1, D1, cnt, last, p, SL, TL, by omega, rfl, rfl, (hI.fit hF1).next, HG1⟩, hmeas⟩
     ·by_cases k3 : a0 = 3
      ·subst k3
       cases hD : D a4 with
       | none =>
        go_wp2_with (first
         | (go_at_call 15; refine (sg_double_none hHA hwf hD).mono ?_; rintro e w' ⟨rfl, HG1, ht⟩)
         | go_in)
        exact ⟨⟨i + 1, D, cnt, last, p, SL, TL, by omega, rfl, rfl, hI.next, HG1⟩, hmeas⟩
       | some x =>
        have hwl : wrap64 (last + 1) = last + 1 := wrap_last h0 (by omega)
        have e1 : (last + 1 == 0) = false := by rw [beq_eq_false_iff_ne]; omega
        have e2 : (last + 1 != 0) = true := by rw [bne_iff_ne]; omega
        have e3 : (if last < last + 1 then last + 1 else last) = last + 1 := if_pos (by omega)
        go_wp2_with (first
         | (go_at_call 15; refine (sg_double hHA hwf hD (by omega) h0 (by omega) (fit_double hI.full h0 hI.2.2.2.2.2.1 hD).1).mono ?_; rintro e w' ⟨rfl, HG1, ht⟩)
         | go_in)
        exact ⟨⟨i + 1, _, _, _, p, SL, TL, by omega, rfl, rfl, hI.double hD, HG1⟩, hmeas⟩
      ·by_cases k0 : a0 = 0
       ·subst k0
        cases hp : pt p a1 a2
        ·have hwl : wrap64 (last + 1) = last + 1 := wrap_last h0 (by omega)
         have e1 : (last + 1 == 0) = false := by rw [beq_eq_false_iff_ne]; omega
         have e2 : (last + 1 != 0) = true := by rw [bne_iff_ne]; omega
         have e3 : (if last < last + 1 then last + 1 else last) = last + 1 := if_pos (by omega)
         have hnone := (fit_next hI.full h0 hI.2.2.2.2.2.1 a3).1
         go_wp2_with (first
          | (go_at_call 9; refine (sg_send hHA _ _ _ h0 (by omega) hnone hp (by omega)).mono ?_; rintro e w' ⟨rfl, HG1, ht⟩; have BK1 := (ht.block _ (blk_lt hBK) hNg hNm).trans hBK; have y0 : w'.cell? ⟨wr.heap.size, 0, none⟩ = some (.int .i64 0) := (bkC BK1 0).trans rfl; have y1 : w'.cell? ⟨wr.heap.size, 1, none⟩ = some (.int .i64 a1) := (bkC BK1 1).trans rfl; have y2 : w'.cell? ⟨wr.heap.size, 2, none⟩ = some (.int .i64 a2) := (bkC BK1 2).trans rfl; have y3 : w'.cell? ⟨wr.heap.size, 3, none⟩ = some (.string a3) := (bkC BK1 3).trans rfl; have y4 : w'.cell? ⟨wr.heap.size, 4, none⟩ = some (.int .i64 a4) := (bkC BK1 4).trans rfl; have y5 : w'.cell? ⟨wr.heap.size, 5, none⟩ = some (.bool a5) := (bkC BK1 5).trans rfl; have y6 : w'.cell? ⟨wr.heap.size, 6, none⟩ = some (.int .u8 a6) := (bkC BK1 6).trans rfl)
          | ((with_reducible refine gate_builtin (b := .append) (xs := #[.tmp 44, .tmp 47]) rfl ?_); (try (refine gate_guard (by rfl) ?_; dsimp only)); at_builtin; refine Kd.R_append Kd.string (w0 := w) w.heap.size rfl (.tmp 44) (.tmp 47) 27 9 (.string ⟨#[]⟩) 16 rfl Try.underlying27 infoS rfl (by decide) (by omega) _ SL a3 [.string a3] (fun k => k ≠ g ∧ k ≠ m) (fun _ => False) rfl rfl ?aP (fun _ hk => hk.elim) ?aF ?aO ?aB ?aS ?aL ?_; (case aP => exact rfl); (case aF => exact (fun k hk => ⟨by have := HG1.st.rep.lt; omega, by have := HG1.st.rep.ltm; omega⟩)); (case aO => exact HG1.sent); (case aB => exact HG1.st.below); (case aS => exact pbZ HG1.st.below); (case aL => omega); intro v1 w2 ho hb hg hat; have HG2 := HG1.sent_more ho hb hg; have BK2 := (hg.block _ (blk_lt BK1) (Kd.R_ne HG1.sent BK1 (by decide))).trans BK1; have z0 : w2.cell? ⟨wr.heap.size, 0, none⟩ = some (.int .i64 0) := (bkC BK2 0).trans rfl; have z1 : w2.cell? ⟨wr.heap.size, 1, none⟩ = some (.int .i64 a1) := (bkC BK2 1).trans rfl; have z2 : w2.cell? ⟨wr.heap.size, 2, none⟩ = some (.int .i64 a2) := (bkC BK2 2).trans rfl; have z3 : w2.cell? ⟨wr.heap.size, 3, none⟩ = some (.string a3) := (bkC BK2 3).trans rfl; have z4 : w2.cell? ⟨wr.heap.size, 4, none⟩ = some (.int .i64 a4) := (bkC BK2 4).trans rfl; have z5 : w2.cell? ⟨wr.heap.size, 5, none⟩ = some (.bool a5) := (bkC BK2 5).trans rfl; have z6 : w2.cell? ⟨wr.heap.size, 6, none⟩ = some (.int .u8 a6) := (bkC BK2 6).trans rfl)
          | (go_at_call 10; refine (sg_parted HG2 _ _).mono ?_; rintro e w' ⟨rfl, HG3, ht3⟩; rw [hp])
          | go_in)
         exact ⟨⟨i + 1, _, _, _, p, _, TL, by omega, rfl, rfl, hI.send hsz, HG3⟩, hmeas⟩
        ·go_wp2_with (first
          | (go_at_call 9; refine (sg_send_none hHA _ _ _ hp).mono ?_; rintro e w' ⟨rfl, HG1, ht⟩; have BK1 := (ht.block _ (blk_lt hBK) hNg hNm).trans hBK; have y0 : w'.cell? ⟨wr.heap.size, 0, none⟩ = some (.int .i64 0) := (bkC BK1 0).trans rfl; have y1 : w'.cell? ⟨wr.heap.size, 1, none⟩ = some (.int .i64 a1) := (bkC BK1 1).trans rfl; have y2 : w'.cell? ⟨wr.heap.size, 2, none⟩ = some (.int .i64 a2) := (bkC BK1 2).trans rfl; have y3 : w'.cell? ⟨wr.heap.size, 3, none⟩ = some (.string a3) := (bkC BK1 3).trans rfl; have y4 : w'.cell? ⟨wr.heap.size, 4, none⟩ = some (.int .i64 a4) := (bkC BK1 4).trans rfl; have y5 : w'.cell? ⟨wr.heap.size, 5, none⟩ = some (.bool a5) := (bkC BK1 5).trans rfl; have y6 : w'.cell? ⟨wr.heap.size, 6, none⟩ = some (.int .u8 a6) := (bkC BK1 6).trans rfl)
          | ((with_reducible refine gate_builtin (b := .append) (xs := #[.tmp 44, .tmp 47]) rfl ?_); (try (refine gate_guard (by rfl) ?_; dsimp only)); at_builtin; refine Kd.R_append Kd.string (w0 := w) w.heap.size rfl (.tmp 44) (.tmp 47) 27 9 (.string ⟨#[]⟩) 16 rfl Try.underlying27 infoS rfl (by decide) (by omega) _ SL a3 [.string a3] (fun k => k ≠ g ∧ k ≠ m) (fun _ => False) rfl rfl ?aP (fun _ hk => hk.elim) ?aF ?aO ?aB ?aS ?aL ?_; (case aP => exact rfl); (case aF => exact (fun k hk => ⟨by have := HG1.st.rep.lt; omega, by have := HG1.st.rep.ltm; omega⟩)); (case aO => exact HG1.sent); (case aB => exact HG1.st.below); (case aS => exact pbZ HG1.st.below); (case aL => omega); intro v1 w2 ho hb hg hat; have HG2 := HG1.sent_more ho hb hg; have BK2 := (hg.block _ (blk_lt BK1) (Kd.R_ne HG1.sent BK1 (by decide))).trans BK1; have z0 : w2.cell? ⟨wr.heap.size, 0, none⟩ = some (.int .i64 0) := (bkC BK2 0).trans rfl; have z1 : w2.cell? ⟨wr.heap.size, 1, none⟩ = some (.int .i64 a1) := (bkC BK2 1).trans rfl; have z2 : w2.cell? ⟨wr.heap.size, 2, none⟩ = some (.int .i64 a2) := (bkC BK2 2).trans rfl; have z3 : w2.cell? ⟨wr.heap.size, 3, none⟩ = some (.string a3) := (bkC BK2 3).trans rfl; have z4 : w2.cell? ⟨wr.heap.size, 4, none⟩ = some (.int .i64 a4) := (bkC BK2 4).trans rfl; have z5 : w2.cell? ⟨wr.heap.size, 5, none⟩ = some (.bool a5) := (bkC BK2 5).trans rfl; have z6 : w2.cell? ⟨wr.heap.size, 6, none⟩ = some (.int .u8 a6) := (bkC BK2 6).trans rfl)
          | (go_at_call 10; refine (sg_parted HG2 _ _).mono ?_; rintro e w' ⟨rfl, HG3, ht3⟩; rw [hp])
          | go_in)
         exact ⟨⟨i + 1, _, _, _, p, _, TL, by omega, rfl, rfl, hI.send0 hsz, HG3⟩, hmeas⟩
       ·by_cases k2 : a0 = 2
        ·subst k2
         cases hD : D a4 with
         | none =>
          go_wp2_with (first
           | (go_at_call 12; refine (sg_take_none hHA hwf hD).mono ?_; rintro e w' ⟨rfl, HG1, ht⟩)
           | (go_at_call 13; refine (num_calls _ _).mono ?_; rintro e w' ⟨rfl, ⟨nd2, rfl⟩⟩)
           | go_in)
          exact ⟨⟨i + 1, D, cnt, last, p, SL, TL, by omega, rfl, rfl, hI.next, HG1.drewN _⟩, hmeas⟩
         | some x =>
          obtain ⟨As, cs, hvs⟩ := Kd.R_slice HG.sent
          subst hvs
          obtain ⟨At, ct, hvt⟩ := Kd.R_slice HG.taken
          subst hvt
          go_wp2_with (first
           | (go_at_call 12; refine (sg_take hHA hwf hD).mono ?_; rintro e w' ⟨rfl, HG1, ht⟩; have BK1 := (ht.block _ (blk_lt hBK) hNg hNm).trans hBK)
           | (go_at_call 13; refine (num_calls _ _).mono ?_; rintro e w' ⟨rfl, ⟨nd2, rfl⟩⟩)
           | go_in)
          replace hw := Lib.hid hw
          obtain ⟨x5_, x6_, x7_, u, hu, _, hnu⟩ := hI.full a4 x hD
          have hxs : x.1.size ≤ 4611686018427387904 := by
           have e1 := (of_decide_eq_true hnu).1
           have e2 := hI.2.2.2.2.2.2.1 u hu
           unfold reachBytes at e2
           omega
          obtain ⟨ju, hju⟩ := List.mem_iff_getElem?.1 hu
          have hjl : ju < SL.length := (List.getElem?_eq_some_iff.1 hju).1
          have hHB := HG1.drewN nd2
          have hBB : (w'.drewN nd2).heap[wr.heap.size]? = some (.cells #[.int .i64 2, .int .i64 a1, .int .i64 a2, .string a3, .int .i64 a4, .bool a5, .int .u8 a6] 30 (0, 0)) := BK1
          have hin : i + 1 ≤ l0.length := c
          have hSL60 : SL.length ≤ 60 := by omega
          have hTL60 : TL.length ≤ 60 := by omega
          clear HG HG1 hHA hBK hNg hNm x0 x1 x2 x3 x4 x5 x6 ht BK1
          generalize wr.heap.size = NB at hBB
          go_loopw [12, 13] (fun fv kv w2 => ∃ (kk : Nat) (fb : Bool), kk ≤ SL.length ∧ kv = .int .i64 kk ∧ fv = .bool fb ∧ (ju < kk → fb = true) ∧ Sg w w2 g m (delL D a4) (cnt - 1) last p (.slice As SL.length cs) SL (.slice At TL.length ct) TL ∧ w2.heap[NB]? = some (.cells #[.int .i64 2, .int .i64 a1, .int .i64 a2, .string a3, .int .i64 a4, .bool a5, .int .u8 a6] 30 (0, 0))) (fun _ kv _ => SL.length - (intOf kv).toNat)
          case atStart => exact ⟨0, false, Nat.zero_le _, rfl, rfl, fun h => absurd h (by omega), hHB, hBB⟩
          case round =>
           obtain ⟨kk, fb, hkk, rfl, rfl, hfb, HL, BL⟩ := hrel
           clear hHB hBB
           by_cases ck : kk < SL.length
           ·have ck1 : decide ((kk : Int) < (SL.length : Int)) = true := decide_eq_true (by omega)
            obtain ⟨ad2, e2, y⟩ := Kd.at_string (Kd.R_reads' HL.sent).2.2 (kk : Int) (by omega) (by omega)
            subst e2
            rw [Int.toNat_natCast] at y
            have hmeas2 : SL.length - (intOf (Value.int IntKind.i64 ((kk : Int) + 1))).toNat < SL.length - (intOf (Value.int IntKind.i64 (kk : Int))).toNat := by simp only [intOf]; omega
            have hnx : kk + 1 ≤ SL.length := ck
            have hwk := wrap_succ (k := kk) (by omega)
            replace hwk := Lib.hid hwk
            cases fb
            ·obtain ⟨K, hK⟩ := near_once x.1 (rdOf ByteArray.empty SL (kk : Int)) hxs
             have hnew : ju < kk + 1 → nearB x.1 (rdOf ByteArray.empty SL (kk : Int)) = true := fun hj => by
              by_cases hj2 : ju < kk
              ·have := hfb hj2; cases this
              ·have : ju = kk := by omega
               subst this
               have e3 : rdOf ByteArray.empty SL (ju : Int) = u := by
                unfold rdOf
                rw [Int.toNat_natCast, List.getD_eq_getElem?_getD, hju]; rfl
               rw [e3]; exact hnu
             generalize rdOf ByteArray.empty SL (kk : Int) = q at y hK hnew
             replace hwk := hwk.out
             clear hok hr0 hc0 hl hi hcn hSLl hTLl hli h0 hlast hwf hsz c c1 hI hD x5_ x6_ x7_ hu hnu hju hjl hxs hfb hin hSL60 hTL60 hkk ck hw hmeas
             go_wp2_with (first
              | (go_at_call 14; refine (l17_near.calls K _ _ _ _ hK).mono ?_; rintro e w3 ⟨rfl, ⟨nd3, rfl⟩⟩)
              | go_in)
             first | exact ⟨⟨kk + 1, _, hnx, rfl, rfl, hnew, HL.drewN _, BL⟩, hmeas2⟩ | (rw [hwk]; exact ⟨⟨kk + 1, _, hnx, rfl, rfl, hnew, HL.drewN _, BL⟩, hmeas2⟩) | (simp only [hwk]; exact ⟨⟨kk + 1, _, hnx, rfl, rfl, hnew, HL.drewN _, BL⟩, hmeas2⟩)
            ·replace hwk := hwk.out
             clear hok hr0 hc0 hl hi hcn hSLl hTLl hli h0 hlast hwf hsz c c1 hI hD x5_ x6_ x7_ hu hnu hju hjl hxs hfb hin hSL60 hTL60 hkk ck hw hmeas
             go_wp2
             first | exact ⟨⟨kk + 1, true, hnx, rfl, rfl, fun _ => rfl, HL, BL⟩, hmeas2⟩ | (rw [hwk]; exact ⟨⟨kk + 1, true, hnx, rfl, rfl, fun _ => rfl, HL, BL⟩, hmeas2⟩) | (simp only [hwk]; exact ⟨⟨kk + 1, true, hnx, rfl, rfl, fun _ => rfl, HL, BL⟩, hmeas2⟩)
           ·have ck1 : decide ((kk : Int) < (SL.length : Int)) = false := decide_eq_false (by omega)
            obtain rfl : fb = true := hfb (by omega)
            go_wp2
            clear hfb
            go_loopw [12, 14] (fun fv kv w2 => ∃ (kk : Nat), kk ≤ TL.length ∧ kv = .int .i64 kk ∧ fv = .bool true ∧ Sg w w2 g m (delL D a4) (cnt - 1) last p (.slice As SL.length cs) SL (.slice At TL.length ct) TL ∧ w2.heap[NB]? = some (.cells #[.int .i64 2, .int .i64 a1, .int .i64 a2, .string a3, .int .i64 a4, .bool a5, .int .u8 a6] 30 (0, 0))) (fun _ kv _ => TL.length - (intOf kv).toNat)
            case atStart => exact ⟨0, Nat.zero_le _, rfl, rfl, HL, BL⟩
            case round =>
             clear HL BL
             obtain ⟨k5, hk5, rfl, rfl, HL, BL⟩ := hrel
             have b4 : wr.cell? ⟨NB, 4, none⟩ = some (.int .i64 a4) := (bkC BL 4).trans rfl
             by_cases ck5 : k5 < TL.length
             ·have ck2 : decide ((k5 : Int) < (TL.length : Int)) = true := decide_eq_true (by omega)
              obtain ⟨ad5, e5, y5⟩ := Kd.at_int (Kd.R_reads' HL.taken).2.2 (k5 : Int) (by omega) (by omega)
              subst e5
              rw [Int.toNat_natCast] at y5
              have hmem : rd TL (k5 : Int) ∈ TL := by
               unfold rd
               rw [Int.toNat_natCast, List.getD_eq_getElem?_getD, List.getElem?_eq_getElem ck5]
               exact List.getElem_mem ck5
              have hmeas5 : TL.length - (intOf (Value.int IntKind.i64 ((k5 : Int) + 1))).toNat < TL.length - (intOf (Value.int IntKind.i64 (k5 : Int))).toNat := by simp only [intOf]; omega
              have hnx5 : k5 + 1 ≤ TL.length := ck5
              have hwk5 := wrap_succ (k := k5) (by omega)
              generalize rd TL (k5 : Int) = t5 at y5 hmem
              have hne5 : (t5 != a4) = true := bne_iff_ne.2 (fun h => x7_ (h ▸ hmem))
              have hne6 : ¬ (t5 = a4) := fun h => x7_ (h ▸ hmem)
              clear hok hr0 hc0 hl hi hcn hSLl hTLl hli h0 hlast hwf hsz c c1 hI hD x5_ x6_ x7_ hu hnu hju hjl hxs hin hSL60 hTL60 hk5 ck5 hw hmeas hmem hkk ck ck1
              go_wp2
              go_region
              go_wp2
              have HL2 := HL.step (pb1 (Below.refl _ _))
              first | exact ⟨⟨k5 + 1, hnx5, rfl, rfl, HL2, BL⟩, hmeas5⟩ | (rw [hwk5]; exact ⟨⟨k5 + 1, hnx5, rfl, rfl, HL2, BL⟩, hmeas5⟩) | (simp only [hwk5]; exact ⟨⟨k5 + 1, hnx5, rfl, rfl, HL2, BL⟩, hmeas5⟩)
             ·have ck2 : decide ((k5 : Int) < (TL.length : Int)) = false := decide_eq_false (by omega)
              have hTLb : (TL.length + 1) * 8 ≤ 140737488355328 := by omega
              have hI2 := hI.take hD
              replace hw := hw.out
              clear hok hr0 hc0 hcn hSLl hTLl hwf hsz hI hD x5_ x6_ x7_ hu hnu hju hjl hxs hSL60 hTL60 hk5 hkk ck ck1
              go_wp2_with (first
               | ((with_reducible refine gate_builtin (b := .append) (xs := #[.tmp 127, .tmp 130]) rfl ?_); (try (refine gate_guard (by rfl) ?_; dsimp only)); at_builtin; refine Kd.R_append (Kd.int .i64) (w0 := w) w.heap.size rfl (.tmp 127) (.tmp 130) 28 2 (.int .i64 0) 8 rfl Try.underlying28 infoI rfl (by decide) (by decide) _ TL a4 [.int .i64 a4] (fun k => k ≠ g ∧ k ≠ m) (fun _ => False) rfl rfl ?aP (fun _ hk => hk.elim) ?aF ?aO ?aB ?aS ?aL ?_; (case aP => exact rfl); (case aF => exact (fun k hk => ⟨fun e => Nat.not_le.2 HL.st.rep.lt (e ▸ hk), fun e => Nat.not_le.2 HL.st.rep.ltm (e ▸ hk)⟩)); (case aO => exact HL.taken); (case aB => exact HL.st.below); (case aS => exact pbZ HL.st.below); (case aL => exact hTLb); intro v1 w2 ho hb hg hat; have HG2 := HL.taken_more ho hb hg)
               | go_in)
              first | exact ⟨⟨i + 1, _, _, _, p, SL, _, hin, rfl, rfl, hI2, HG2⟩, hmeas⟩ | (rw [hw]; exact ⟨⟨i + 1, _, _, _, p, SL, _, hin, rfl, rfl, hI2, HG2⟩, hmeas⟩) | (simp only [hw]; exact ⟨⟨i + 1, _, _, _, p, SL, _, hin, rfl, rfl, hI2, HG2⟩, hmeas⟩)
        ·have q0 : (a0 == 0) = false := beq_eq_false_iff_ne.2 k0
         have q1 : (a0 == 1) = false := beq_eq_false_iff_ne.2 k1
         have q2 : (a0 == 2) = false := beq_eq_false_iff_ne.2 k2
         have q3 : (a0 == 3) = false := beq_eq_false_iff_ne.2 k3
         have q4 : (a0 == 4) = false := beq_eq_false_iff_ne.2 k4
         go_wp2
         exact ⟨⟨i + 1, D, cnt, last, p, SL, TL, by omega, rfl, rfl, hI.next, hHA⟩, hmeas⟩
   ·have c1 : decide ((i : Int) < (l0.length : Int)) = false := decide_eq_false (by omega)
    go_wp2_with (first
     | (go_at_call 7; refine (live_calls _).mono ?_; rintro e w' ⟨rfl, hb1⟩)
     | go_in)
    go_ret
    exact ⟨rfl, (HG.step hb1).st.below⟩
noncomputable def l17_BagOnce.f (l0 : List S30) : Option Bool := @ite _ (∀ x ∈ l0, (Lit.int .i64 x.f4).wf = true ∧ x.f3.size ≤ reachBytes) (Classical.propDecidable _) (some true) none
theorem l17_BagOnce.calls (A0 : Option Addr) (c0 : Nat) (l0 : List (S30)) (r : Bool) (w : World) (hr0 : Kd.C k30 w A0 l0.length l0) (hc0 : l0.length ≤ c0) (hr : r = true) (h : l17_BagOnce.f l0 = some r) :
 Calls Try.prog 3 #[.slice A0 l0.length c0] w fun e w' => e = .returned (.bool r) ∧ Below w.heap.size w w' := by
 subst hr
 unfold l17_BagOnce.f at h
 split at h
 ·rename_i hok; exact once_calls A0 c0 l0 w hr0 hc0 hok
 ·cases h
end Go.Proofs.Ytofiahgneaopoaa.P
end
section
namespace Go.Proofs.Ytofiahgneaopoaa.U
open Go.RowKit Go.Proofs.YtofiahgneaopoaaW.PrintWords Go.Proofs.YtofiahgneaopoaaW.PrintLast Go.Proofs.YtofiahgneaopoaaW.PrintMore Go.Proofs.Ytofiahgneaopoaa.P Go.Proofs.Ytofiahgneaopoaa.K
theorem BagOnce : ∀ (l0 : List S30), (l0.length * 56 ≤ reachBytes ∧ l0.length ≤ maxLen ∧ ∀ x ∈ l0, ((Lit.int .i64 x.f0).wf = true ∧ (Lit.int .i64 x.f1).wf = true ∧ (Lit.int .i64 x.f2).wf = true ∧ x.f3.size ≤ reachBytes ∧ (Lit.int .i64 x.f4).wf = true ∧ True ∧ (Lit.int .u8 x.f6).wf = true)) → l17_BagOnce.f l0 = some true := fun l0 ⟨_, _, h⟩ => by
 unfold l17_BagOnce.f
 exact @if_pos _ (Classical.propDecidable _) (fun x hx => ⟨(h x hx).2.2.2.2.1, (h x hx).2.2.2.1⟩) _ _ _
end Go.Proofs.Ytofiahgneaopoaa.U
end
section
namespace Go.Proofs.Ytofiahgneaopoaa.bagOnce
open Go.ChangeShapes Go.WideShapes Go.ChangeAt Go.RowKit Go.Proofs.Ytofiahgneaopoaa.K
open Go.ChangeMaps (open_string shut_string)
open Go.RowKit Go.Proofs.YtofiahgneaopoaaW.PrintWords Go.Proofs.YtofiahgneaopoaaW.PrintLast Go.Proofs.YtofiahgneaopoaaW.PrintMore Go.Proofs.Ytofiahgneaopoaa.P Go.Proofs.Ytofiahgneaopoaa.K
theorem own : ownKnob Try.prog.godebug = none := by kernel_rfl
theorem laidOut : laidOutB Try.prog = true := by kernel_rfl
set_option maxRecDepth 100000 in
theorem opn30 : O.Opn Try.prog 30 P.k30 (fun x => ((Lit.int .i64 x.f0).wf = true ∧ (Lit.int .i64 x.f1).wf = true ∧ (Lit.int .i64 x.f2).wf = true ∧ x.f3.size ≤ reachBytes ∧ (Lit.int .i64 x.f4).wf = true ∧ True ∧ (Lit.int .u8 x.f6).wf = true)) := O.Opn.iso (fun y => ⟨y.1, y.2.1, y.2.2.1, y.2.2.2.1, y.2.2.2.2.1, y.2.2.2.2.2.1, y.2.2.2.2.2.2⟩) (fun _ => rfl) (O.Opn.struct Try.underlying30 (by kernel_rfl) (O.OpnF.cons rfl (by kernel_rfl) (O.Opn.int Try.underlying3) (O.OpnF.cons rfl (by kernel_rfl) (O.Opn.int Try.underlying3) (O.OpnF.cons rfl (by kernel_rfl) (O.Opn.int Try.underlying3) (O.OpnF.cons rfl (by kernel_rfl) (O.Opn.string Try.underlying9) (O.OpnF.cons rfl (by kernel_rfl) (O.Opn.int Try.underlying2) (O.OpnF.cons rfl (by kernel_rfl) (O.Opn.bool Try.underlying4) (O.OpnF.one rfl (by kernel_rfl) (O.Opn.int Try.underlying5)))))))))
set_option maxRecDepth 100000 in
theorem contract (H : Type) (enc : TypeId × Value → H) (W : World) (base : Nat) (args : Array Value) (ds gs : List (DataW H)) (before : List MemPlace)
 (hval0 : ∀ (j : Nat) t v, Try.f3.params[j]? = some t → args[j]? = some v → Value.okWide Try.prog W .any base t v)
 (hW : DataW.Whole enc Try.prog Try.f3.params.toList Rows.bagOnceSpec.vars false W args.toList ds gs before)
 (hsz0 : (DataW.weightsEach Try.prog (Try.f3.params.toList ++ Rows.bagOnceSpec.plain.varTypes Try.prog) (ds ++ gs)).all (· ≤ reachBytes) = true) :
 Calls Try.prog 3 args W fun e W' => ∃ v, e = .returned v ∧ Rows.bagOnceSpec.post enc Try.prog Try.f3 false true false false W args v W' := by
 have hsz : (DataW.weightsEach Try.prog (Try.f3.params.toList ++ Rows.bagOnceSpec.plain.varTypes Try.prog) (ds ++ gs)).all (· ≤ reachBytes) = true := hsz0
 have hval : ∀ (j : Nat) t v, Try.f3.params[j]? = some t → args[j]? = some v → Value.okWide Try.prog W .any base t v := hval0
 have hW' := hW
 obtain ⟨p, q, hA0, hV, rfl, hfz, hnd⟩ := hW
 have hA : DataW.TrodAll enc Try.prog W 0 (fun _ => true) true Try.f3.params.toList args.toList ds p := hA0
 rw [Try.params3] at hA hval hsz
 obtain ⟨v0, vs0, d0, ds0, p0, q0, hargs, rfl, rfl, h0, r0⟩ := trodAll_cons hA
 obtain ⟨rfl, rfl, rfl⟩ := trodAll_nil r0
 obtain rfl : args = #[v0] := by cases args; simp_all
 obtain ⟨rfl, rfl⟩ := trodVars_none hV
 have k0 := h0
 have lt0 : ∀ x ∈ p0, x.block < W.heap.size := by obtain ⟨m, hm⟩ := k0; exact DataW.trod_lt m _ _ _ hm
 have wt0 : ∀ n ∈ DataW.weights Try.prog 22 d0, n ≤ reachBytes := fun n hn => of_decide_eq_true (List.all_eq_true.1 hsz n (DataW.weights_mem_each (j := 0) rfl rfl n hn))
 obtain ⟨a0, len0, cap0, rfl⟩ := okWide_slice Try.underlying22 (hval 0 22 v0 rfl rfl)
 obtain ⟨fu0, hf0⟩ := h0
 obtain ⟨l0, ⟨A0, c0, hcs0, hc0, hr0⟩, hok0⟩ := (O.Opn.slice Try.underlying22 (by kernel_rfl) (by kernel_rfl) opn30) H enc W _ _ _ _ _ _ _ hf0 wt0
 simp [Value.cells] at hcs0
 obtain ⟨rfl, rfl, rfl⟩ := hcs0
 have hp := U.BagOnce l0 hok0
 refine (l17_BagOnce.calls (r := true) (w := W) (hr := rfl) (hr0 := hr0) (hc0 := hc0) (h := hp)).mono ?_
 rintro e W' ⟨rfl, bel0⟩
 have bel : Below W.heap.size W W' := by first | exact bel0 | exact bel0.below
 exact ⟨_, rfl, _, _, _, [], _, [], hW', trodAll_mk1 (shut_bool Try.underlying4 _), (trodAll_cons_mk (Below.trod laidOut (by kernel_rfl) (of_decide_eq_true (by kernel_rfl)) k0 bel lt0) trodAll_mk0), rfl, bel.frame _, fun h => by cases h⟩
set_option maxRecDepth 100000 in
theorem lifted (os : Os) (started : os.Started) (H : Type) (enc : TypeId × Value → H) :
 ReturnsInHanded {} Try.checked os 3 .any (Rows.bagOnceSpec.pre6 enc Try.prog Try.f3 Rows.bagOnceRow.domain false) (Rows.bagOnceSpec.post enc Try.prog Try.f3 false true false false) := by
 refine returnsInHanded_of_change_sized (C := Try.checked) own started (by kernel_rfl) Try.func3
  (ChangeSpec.witness6 (enc := enc) (C := Try.checked) false ⟨#[], #[.slice none 0 0], []⟩ 8 (by kernel_rfl) (by kernel_rfl) (by kernel_rfl) (by kernel_rfl)) ?_
 intro W base args ds gs before hval hW _ hsz _
 exact contract H enc W base args ds gs before hval hW hsz
theorem said : Rows.BagOnceSaid :=
 OpenClaim.holds_of_wide 3 Try.f3 rfl rfl rfl rfl rfl rfl rfl ⟨rfl, rfl, rfl, rfl, rfl⟩ rfl rfl rfl rfl rfl (by kernel_rfl) Try.func3 (by kernel_rfl)
  (of_decide_eq_true (by kernel_rfl)) (by unfold Func.isWrapper; first | (rw [if_pos (by decide +kernel)]; kernel_rfl) | (rw [if_neg (by decide +kernel)]; exact ⟨rfl, rfl⟩))
  (fun os started H enc _ => lifted os started H enc)
#print axioms said
end Go.Proofs.Ytofiahgneaopoaa.bagOnce
namespace Go.Proofs.Ytofiahgneaopoaa
theorem bagOnce_holds : Rows.BagOnceSaid := bagOnce.said
end Go.Proofs.Ytofiahgneaopoaa
end
