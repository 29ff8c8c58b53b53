/- Arguments laid open: what can be read as data of a type is told by the printed texts' kinds, and its sizes are bounded. Of no program. -/
import Derived.Test.YthijgcnmbfhjjaaDoorWWords
import Derived.ProofKit
import Derived.SizedLaws
import Derived.DataReads
import Derived.Lib.Strings
import GoSem.ClaimJoined
namespace Go.Proofs.YthijgcnmbfhjjaaDoor.O
open Go Go.RowKit Go.Proofs.YthijgcnmbfhjjaaDoorW.PrintWords
set_option linter.unusedVariables false

/-- What is read as data of type t has cells of kind d, and is well formed and within the reach (ok). -/
def Opn {α : Type} (P : Program) (t : TypeId) (d : Kd α) (ok : α → Prop) : Prop :=
  ∀ (H : Type) (enc : TypeId × Value → H) (w : World) (base : Nat) (sp : Nat → Bool) (held : Bool) (fuel : Nat) (cs : List Value) (y : DataW H) (ps : List MemPlace),
    DataW.trod enc P w base sp held fuel t cs = some (y, ps) → (∀ n ∈ DataW.weights P t y, n ≤ reachBytes) → ∃ x, d.K w x cs ∧ ok x
variable {P : Program} {t : TypeId}
theorem Opn.bool (hu : P.underlying t = some .bool) : Opn P t Kd.bool (fun _ => True) := by
  intro H enc w base sp held fuel cs y ps h _
  cases fuel with
  | zero => simp [DataW.trod] at h
  | succ f =>
    unfold DataW.trod at h
    rw [hu] at h
    cases cs with
    | nil => simp at h
    | cons v l =>
      cases l with
      | cons _ _ => cases v <;> simp at h
      | nil => cases v <;> first | exact ⟨_, rfl, trivial⟩ | (simp at h)
theorem Opn.int {k : IntKind} (hu : P.underlying t = some (.int k)) : Opn P t (Kd.int k) (fun n => (Lit.int k n).wf = true) := by
  intro H enc w base sp held fuel cs y ps h _
  cases fuel with
  | zero => simp [DataW.trod] at h
  | succ f =>
    unfold DataW.trod at h
    rw [hu] at h
    cases cs with
    | nil => simp at h
    | cons v l =>
      cases l with
      | cons _ _ => cases v <;> simp at h
      | nil =>
        cases v
        case int k' n =>
          simp only at h
          split at h
          · rename_i hc
            obtain ⟨rfl, hw⟩ := hc
            exact ⟨n, rfl, hw⟩
          · exact absurd h (by simp)
        all_goals simp at h
theorem Opn.string (hu : P.underlying t = some .string) : Opn P t Kd.string (fun s => s.size ≤ reachBytes) := by
  intro H enc w base sp held fuel cs y ps h hw
  cases fuel with
  | zero => simp [DataW.trod] at h
  | succ f =>
    unfold DataW.trod at h
    rw [hu] at h
    cases cs with
    | nil => simp at h
    | cons v l =>
      cases l with
      | cons _ _ => cases v <;> simp at h
      | nil =>
        cases v
        case string s =>
          simp only at h
          split at h
          · simp only [Option.some.injEq, Prod.mk.injEq] at h
            obtain ⟨rfl, _⟩ := h
            refine ⟨s, rfl, ?_⟩
            have := hw s.data.toList.length (by simp [DataW.weights])
            rw [← Lib.size_eq] at this
            exact this
          · exact absurd h (by simp)
        all_goals simp at h
theorem weightsAll_mem {H : Type} {P : Program} {e : TypeId} : ∀ {l : List (DataW H)} {d : DataW H}, d ∈ l → ∀ n ∈ DataW.weights P e d, n ∈ DataW.weightsAll P e l
  | a :: l, d, hd, n, hn => by
    simp only [DataW.weightsAll, List.mem_append]
    rcases List.mem_cons.1 hd with rfl | hd
    · exact .inl hn
    · exact .inr (weightsAll_mem hd n hn)
theorem mapM_some {α β : Type} {f : α → Option β} : ∀ {l : List α} {r : List β}, l.mapM f = some r → r.length = l.length ∧ ∀ i (hi : i < l.length), ∃ b, r[i]? = some b ∧ f l[i] = some b
  | [], r, h => by simp at h; subst h; exact ⟨rfl, fun i hi => by simp at hi⟩
  | a :: l, r, h => by
    simp only [List.mapM_cons, Option.pure_def, Option.bind_eq_bind, Option.bind_eq_some_iff, Option.some.injEq] at h
    obtain ⟨b, hb, r', hr, rfl⟩ := h
    obtain ⟨h1, h2⟩ := mapM_some hr
    refine ⟨by simp [h1], fun i hi => ?_⟩
    cases i with
    | zero => exact ⟨b, rfl, hb⟩
    | succ i => exact h2 i (by simpa using hi)
theorem choose_list {α : Type} (n : Nat) (Q : Nat → α → Prop) (h : ∀ i, i < n → ∃ x, Q i x) : ∃ xs : List α, xs.length = n ∧ ∀ i x, xs[i]? = some x → Q i x := by
  induction n with
  | zero => exact ⟨[], rfl, fun i x hx => by simp at hx⟩
  | succ n ih =>
    obtain ⟨xs, h1, h2⟩ := ih (fun i hi => h i (by omega))
    obtain ⟨x, hx⟩ := h n (by omega)
    refine ⟨xs ++ [x], by simp [h1], fun i y hy => ?_⟩
    rcases Nat.lt_or_ge i n with hi | hi
    · rw [List.getElem?_append_left (by omega)] at hy; exact h2 i y hy
    · rw [List.getElem?_append_right (by omega)] at hy
      have : i - xs.length = 0 := by
        rcases Nat.eq_zero_or_pos (i - xs.length) with h0 | h0
        · exact h0
        · rw [List.getElem?_eq_none (by simp; omega)] at hy; simp at hy
      rw [this] at hy
      simp at hy
      subst hy
      rw [show i = n by omega]; exact hx
theorem add_add_ (a : Addr) (i j : Nat) : (a.add i).add j = a.add (i + j) := by
  unfold Addr.add
  by_cases hi : i = 0 <;> by_cases hj : j = 0 <;> simp [hi, hj, Nat.add_assoc]
theorem Opn.slice {α : Type} {e : TypeId} {d : Kd α} {ok : α → Prop} {B : Nat} (hu : P.underlying t = some (.slice e)) (hc : P.cellsOf e = d.sz) (hB : P.bytesOf e = B) (ho : Opn P e d ok) :
    Opn P t (Kd.slice e d) (fun xs => xs.length * B ≤ reachBytes ∧ xs.length ≤ maxLen ∧ ∀ x ∈ xs, ok x) := by
  intro H enc w base sp held fuel cs y ps h hw
  cases fuel with
  | zero => simp [DataW.trod] at h
  | succ f =>
    unfold DataW.trod at h
    rw [hu] at h
    cases cs with
    | nil => simp at h
    | cons v l =>
      cases l with
      | cons _ _ => cases v <;> simp at h
      | nil =>
        cases v
        case slice A n c =>
          cases A with
          | none =>
            have hz : n = 0 ∧ c = 0 := by
              cases n <;> cases c <;> simp at h ⊢
            obtain ⟨rfl, rfl⟩ := hz
            exact ⟨[], ⟨none, 0, rfl, Nat.le_refl _, Kd.C_nil _ _⟩, by simp [reachBytes], by simp, by simp⟩
          | some a =>
            simp only at h
            split at h
            · rename_i hcnd
              obtain ⟨_, hle, hmx⟩ := hcnd
              rw [Option.bind_eq_some_iff] at h
              obtain ⟨elems, he, h⟩ := h
              rw [Option.map_eq_some_iff] at h
              obtain ⟨rest, hr, h⟩ := h
              simp only [Prod.mk.injEq] at h
              obtain ⟨rfl, _⟩ := h
              obtain ⟨hl, hi⟩ := mapM_some he
              rw [List.length_range] at hl
              have hwt : ∀ (i : Nat) (b : DataW H × List MemPlace), elems[i]? = some b → ∀ m ∈ DataW.weights P e b.1, m ≤ reachBytes := by
                intro i b hb m hm
                refine hw m ?_
                simp only [DataW.weights, hu, List.mem_cons, List.mem_append]
                exact .inr (.inl (weightsAll_mem (List.mem_map.2 ⟨b, List.mem_of_getElem? hb, rfl⟩) m hm))
              obtain ⟨xs, hxl, hxs⟩ := choose_list n (fun i x => (∃ cs, (w.cells? base (a.add (i * P.cellsOf e)) (P.cellsOf e)) = some cs ∧ d.K w x cs) ∧ ok x) (by
                intro i hin
                obtain ⟨b, hb, hf⟩ := hi i (by rw [List.length_range]; exact hin)
                rw [List.getElem_range, Option.bind_eq_some_iff] at hf
                obtain ⟨cs, h1, h2⟩ := hf
                obtain ⟨x, hx, hok⟩ := ho H enc w base sp held f cs b.1 b.2 h2 (hwt i b hb)
                exact ⟨x, ⟨cs, h1, hx⟩, hok⟩)
              subst hxl
              refine ⟨xs, ⟨some a, c, rfl, hle, rfl, ?_, ?_⟩, ?_, ?_, ?_⟩
              · unfold maxLen at hmx; omega
              · intro hpos
                refine ⟨a, rfl, fun j p hp => ?_⟩
                obtain ⟨⟨cs, h1, h2⟩, _⟩ := hxs j p hp
                refine ⟨cs, d.K_len h2, h2, fun i u hu2 => ?_⟩
                rw [hc] at h1
                obtain ⟨_, _, hcell⟩ := World.cells?_some h1
                have hlt := (List.getElem?_eq_some_iff.1 hu2).1
                rw [d.K_len h2] at hlt
                rw [← add_add_, hcell i hlt]
                exact hu2
              · have := hw ((elems.length + rest.length) * P.bytesOf e) (by simp [DataW.weights, hu])
                rw [hB, hl] at this
                exact Nat.le_trans (Nat.mul_le_mul_right _ (by omega)) this
              · omega
              · intro x hx
                obtain ⟨i, hi2⟩ := List.getElem?_of_mem hx
                exact (hxs i x hi2).2
            · exact absurd h (by simp)
        all_goals simp at h
end Go.Proofs.YthijgcnmbfhjjaaDoor.O
