import Derived.Test.YtjfhcijjjadhbaaDoorZDescUnlike1
import Derived.Deep.RegionHeld3
import Derived.Lib.Hide
import Derived.LoopIn
import Derived.LoopNIn
import Derived.OwnWalkIn
import Derived.RangeFuncBox
import Derived.RangeFuncLeaves
import Derived.Shelf.Abstract
import Derived.Shelf.RegionOpen
import Derived.TacticsInMore
import Derived.WalkKit
set_option linter.unusedVariables false
set_option linter.unusedSimpArgs false
set_option linter.unnecessarySimpa false
section
/- slices.Chunk over numbers, two at a time: what its closure yields. -/
namespace Go.Proofs.YtjfhcijjjadhbaaDoor.P
open Go.RowKit Go.Shelf Go.Proofs.YtjfhcijjjadhbaaDoor.K Go.Proofs.YtjfhcijjjadhbaaDoorW.PrintWords Go.Proofs.YtjfhcijjjadhbaaDoorW.PrintLast Go.Proofs.YtjfhcijjjadhbaaDoorW.PrintMore
attribute [local go_sem] Oper.semAt_some
/-- Two numbers after two numbers. -/
def pairsOf : List Int → List S60
  | a :: b :: r => ⟨a, b⟩ :: pairsOf r
  | _ => []
def slices_Chunk_int64_int64.f (l : List Int) (n : Int) : Option (List S60) := if n = 2 ∧ 3 ≤ l.length ∧ l.length ≤ 1000000000 ∧ (l.length - 3) % 2 = 0 then some (pairsOf (l.drop 3)) else none
/-- The two boxes keep what they hold. -/
def BoxKeep (B : Nat) (W W' : World) : Prop := W'.heap[B]? = W.heap[B]? ∧ W'.heap[B + 1]? = W.heap[B + 1]?
theorem BoxKeep.trans {B : Nat} {X Y Z : World} (h : BoxKeep B X Y) (k : BoxKeep B Y Z) : BoxKeep B X Z := ⟨k.1.trans h.1, k.2.trans h.2⟩
theorem nth_range (N k : Nat) (h : k < N) : ((List.finRange N).take k) ++ [⟨k, h⟩] = (List.finRange N).take (k + 1) := by
  rw [List.take_succ_eq_append_getElem (by simpa using h)]
  simp
set_option maxHeartbeats 8000000 in
set_option maxRecDepth 100000 in
theorem chunk_stops (m : Nat) (hm : 1 ≤ m) (B : Nat) (A : Option Addr) (N c : Nat) (hN : N ≤ 1000000000) (hc : 2 * N ≤ c) (hA : 0 < N → ∃ ad, A = some ad) (w : World) (hB : B + 1 < w.heap.size)
    (h1 : w.heap[B]? = some (.cells #[.slice A (2 * N) c] 83 (0, 0))) (h2 : w.heap[B + 1]? = some (.cells #[.int .i64 2] 3 (0, 0))) :
    SeqStopsK Fence.wide m Tryd.prog 71 #[.pointer (some ⟨B, 0, none⟩), .pointer (some ⟨B + 1, 0, none⟩)] (fun i : Fin N => #[.slice (A.map (·.add (2 * i.1))) 2 2]) (BoxKeep B) (fun xs => xs = List.finRange N) (fun _ => True) N w := by
  intro l J Jx W hW hJa _ hY h0
  have b1 : W.heap[B]? = some (.cells #[.slice A (2 * N) c] 83 (0, 0)) := (hW.block B (by omega)).trans h1
  have b2 : W.heap[B + 1]? = some (.cells #[.int .i64 2] 3 (0, 0)) := (hW.block (B + 1) (by omega)).trans h2
  show CallsIn Fence.wide m Tryd.prog 71 #[.func (.yield l) #[] #[], .pointer (some ⟨B, 0, none⟩), .pointer (some ⟨B + 1, 0, none⟩)] W _
  refine callsIn_of_wp Tryd.func71 rfl trivial ?_ rfl
  simp only [Tryd.ntmps71, List.size_toArray, List.length_cons, List.length_nil, Nat.reduceAdd, Nat.reduceSub, Array.replicate_succ, Array.replicate_zero, List.push_toArray, List.append_toArray, List.nil_append, List.cons_append]
  gi_wp2
  gi_loopw [4] (fun i wr => ∃ k : Nat, k ≤ N ∧ i = .int .i64 ((2 * k : Nat) : Int) ∧ J ((List.finRange N).take k) wr ∧ BoxKeep B W wr) (fun i _ => 2 * N - (intOf i).toNat)
  case atStart => exact ⟨0, Nat.zero_le _, rfl, by simpa using h0, rfl, rfl⟩
  case round =>
    obtain ⟨k, hk, rfl, hJ, hkp⟩ := hrel
    have x0 := (bkC (hkp.1.trans b1) 0).trans rfl
    have y0 := (bkC (hkp.2.trans b2) 0).trans rfl
    by_cases hlt : k < N
    · obtain ⟨ad, rfl⟩ := hA (by omega)
      have hJd : J ((List.finRange N).take k) wr.drew := hJa _ _ _ none hJ ⟨rfl, rfl, rfl, Nat.le_refl _, fun _ _ _ => rfl⟩ (fun r e => by cases e)
      obtain ⟨fn, tmps, assign, body, hy, hR⟩ := hY _ ⟨k, hlt⟩ wr.drew hJd (by simp; omega)
      simp only [Option.map_some] at hy
      have m1 : min 2 (((2 * N - 2 * k : Nat)) : Int) = 2 := by omega
      have m2 : (2 * (k : Int) + 2).toNat - 2 * k = 2 := by omega
      have m3 : (0 : Int) ≤ 2 * (k : Int) + 2 := by omega
      have m4 : 2 * (k : Int) + 2 ≤ 2 * (N : Int) := by omega
      have m5 : 2 * (k : Int) + 2 ≤ (c : Int) := by omega
      have z0 : wr.drew.cell? ⟨B + 1, 0, none⟩ = some (.int .i64 2) := y0
      have q1 : ((2 * k : Nat) : Int) < ((2 * N : Nat) : Int) := by omega
      have p0 : (0 : Int) ≤ 2 * (k : Int) := by omega
      have p1 : 2 * (k : Int) ≤ 2 * (N : Int) := by omega
      have p2 : 2 * (k : Int) ≤ (c : Int) := by omega
      have p3 : ¬ c = 2 * k := by omega
      gi_wp2
      gi_region
      gi_wp2
      refine hR.mono ?_
      rintro e W3 (⟨rfl, hJ3, hk3⟩ | ⟨rfl, hJx3⟩)
      · have c0 := (bkC (hk3.2.trans ((hkp.2.trans b2 : wr.drew.heap[B + 1]? = _))) 0).trans rfl
        gi_wp2
        go_roundw
        case rel => exact ⟨k + 1, by omega, by go_num, by rw [← nth_range N k hlt]; exact hJ3, hkp.trans hk3⟩
        case measure => simp [intOf]; omega
      · gi_wp2
        refine bodyPost_ret (results_none rfl _ _ _) rfl ?_
        exact ⟨⟨_, rfl⟩, .inr ⟨_, trivial, hJx3⟩⟩
    · obtain rfl : k = N := by omega
      have q1 : ¬ ((2 * k : Nat) : Int) < ((2 * k : Nat) : Int) := by omega
      gi_wp2
      go_end0
      rw [List.take_of_length_le (by simp)] at hJ
      exact ⟨⟨_, rfl⟩, by first | exact .inl hJ | exact .inl ⟨_, rfl, hJ⟩⟩
end Go.Proofs.YtjfhcijjjadhbaaDoor.P
end
section
/- desc.Parse: its range over slices.Chunk. -/
namespace Go.Proofs.YtjfhcijjjadhbaaDoor.P
open Go.RowKit Go.Shelf Go.Proofs.YtjfhcijjjadhbaaDoor.K Go.Proofs.YtjfhcijjjadhbaaDoorW.PrintWords Go.Proofs.YtjfhcijjjadhbaaDoorW.PrintLast Go.Proofs.YtjfhcijjjadhbaaDoorW.PrintMore
attribute [local go_sem] Oper.semAt_some
/-- The first range over a function in a code: its assignment and its body. -/
def findRange : Code → Option (Code × Code)
  | .rangeFunc _ _ a b => some (a, b)
  | .seq x y => match findRange x with
    | some r => some r
    | none => findRange y
  | .block _ c => findRange c
  | .cond _ x y => match findRange x with
    | some r => some r
    | none => findRange y
  | _ => none
def pairAt (ns : List Int) (i : Nat) : S60 := ⟨ns.getD (2 * i) 0, ns.getD (2 * i + 1) 0⟩
theorem pairs_range : ∀ (N : Nat) (ns : List Int), ns.length = 2 * N → (List.range N).map (pairAt ns) = pairsOf ns
  | 0, ns, h => by
    have : ns = [] := List.eq_nil_of_length_eq_zero (by omega)
    subst this; rfl
  | N + 1, a :: b :: r, h => by
    rw [List.range_succ_eq_map, List.map_cons, List.map_map]
    show _ :: _ = (⟨a, b⟩ : S60) :: pairsOf r
    rw [← pairs_range N r (by simp at h; omega)]
    congr 1
  | N + 1, [], h => by simp at h
  | N + 1, [a], h => by simp at h; omega
/-- What lay ahead lies, but for one block. -/
structure BelowBut (B g : Nat) (w w' : World) : Prop where
  os : w'.os = w.os
  tape : w'.tape = w.tape
  output : w'.output = w.output
  size : w.heap.size ≤ w'.heap.size
  block : ∀ k, k < B → k ≠ g → w'.heap[k]? = w.heap[k]?
theorem BelowBut.then {B g : Nat} {w W W2 : World} (h : BelowBut B g w W) (k : Below B W W2) : BelowBut B g w W2 := ⟨k.os.trans h.os, k.tape.trans h.tape, k.output.trans h.output, Nat.le_trans h.size k.size, fun i hi hg => (k.block i hi).trans (h.block i hi hg)⟩
theorem BelowBut.set {B g : Nat} {w W : World} (h : BelowBut B g w W) (j : Nat) (u : Value) : BelowBut B g w (W.setCell ⟨g, j, none⟩ u) := ⟨h.os, h.tape, h.output, by simpa using h.size, fun i hi hg => (Below.heap_setCell W ⟨g, j, none⟩ u i hg).trans (h.block i hi hg)⟩
theorem BelowBut.grown {B g : Nat} {w W W2 : World} {row : Option Nat} (h : BelowBut B g w W) (k : W.grownBy W2 row) (hs : B ≤ W.heap.size) (hr : ∀ r, row = some r → B ≤ r) : BelowBut B g w W2 :=
  ⟨k.os.trans h.os, k.tape.trans h.tape, k.output.trans h.output, Nat.le_trans h.size k.size, fun i hi hg => (k.block i (by omega) (fun e => by have := hr i e.symm; omega)).trans (h.block i hi hg)⟩
theorem World.setCell_size_ (w : World) (a : Addr) (v : Value) : (w.setCell a v).heap.size = w.heap.size := by simp
theorem set_back {W : World} {b : Nat} {t : TypeId} {v0 v1 v2 v3 v5 u v : Value} (hv : W.heap[b]? = some (.cells #[v0, v1, v2, v3, v, v5] t (0, 0))) : (W.setCell ⟨b, 4, none⟩ u).setCell ⟨b, 4, none⟩ v = W := by
  have hh : ((W.setCell ⟨b, 4, none⟩ u).setCell ⟨b, 4, none⟩ v).heap = W.heap := by
    apply Array.ext_getElem?
    intro k
    by_cases e : k = b
    · subst e
      exact (blk_put (blk_put hv 4 u rfl) 4 v rfl).trans hv.symm
    · exact (Below.heap_setCell _ ⟨b, 4, none⟩ _ k e).trans (Below.heap_setCell W ⟨b, 4, none⟩ _ k e)
  show { W with heap := ((W.setCell ⟨b, 4, none⟩ u).setCell ⟨b, 4, none⟩ v).heap } = W
  rw [hh]
theorem cell_set6 {W : World} {g : Nat} {a : Addr} {x : Value} (h : a.block ≠ g) (hc : W.cell? a = some x) (v0 v1 v2 v3 v4 v5 : Value) : ((((((W.setCell ⟨g, 0, none⟩ v0).setCell ⟨g, 1, none⟩ v1).setCell ⟨g, 2, none⟩ v2).setCell ⟨g, 3, none⟩ v3).setCell ⟨g, 4, none⟩ v4).setCell ⟨g, 5, none⟩ v5).cell? a = some x :=
  (cell_far (p := ⟨g, 5, none⟩) h _).trans ((cell_far (p := ⟨g, 4, none⟩) h _).trans ((cell_far (p := ⟨g, 3, none⟩) h _).trans ((cell_far (p := ⟨g, 2, none⟩) h _).trans ((cell_far (p := ⟨g, 1, none⟩) h _).trans ((cell_far (p := ⟨g, 0, none⟩) h _).trans hc)))))
def noDefer (o : Oper) : Bool := match o.op with
  | .defer _ => false
  | _ => true
theorem df_of {ops : Array Oper} (h : ops.all noDefer = true) : ∀ (i : Nat) (o : Oper), ops[i]? = some o → ∀ c, o.op ≠ .defer c := by
  intro i o ho c e
  rw [Array.all_eq_true] at h
  obtain ⟨hi, rfl⟩ := Array.getElem?_eq_some_iff.1 ho
  have := h i hi
  simp [noDefer, e] at this
theorem chunk_open {l : List Int} {n : Int} {r : List S60} (h : slices_Chunk_int64_int64.f l n = some r) : ∃ N, l.length = 3 + 2 * N ∧ N ≤ 1000000000 ∧ r = pairsOf (l.drop 3) := by
  unfold slices_Chunk_int64_int64.f at h
  split at h
  · rename_i hc
    exact ⟨(l.length - 3) / 2, by omega, by omega, (Option.some.inj h).symm⟩
  · cases h
/-- What the body must achieve: it returns, with whatever marks among its deferred calls. -/
def bodyPostN (P : Program) (fn : Func) (R : Ending → World → Prop) : Exit → Act → World → Prop
  | .normal, a, w | .ret, a, w => LeavesInM Fence.wide 5 P fn a.tmps R a.defers .returning w
  | _, _, _ => False
theorem enterM {P : Program} {f : FuncId} {fn : Func} {c : Code} {args : Array Value} {w : World} {R : Ending → World → Prop} (hf : P.funcs[f]? = some fn) (hb : fn.body = some c)
    (h : c.wp P (bodyPostN P fn R) { tmps := args ++ Array.replicate (fn.ntmps - args.size) undef, defers := [] } w) : Calls P f args w R := by
  refine (callsIn_wide (n := 5)).1 (callsIn_of_wp_marks hf hb trivial (wpIn_wide.2 ?_))
  intro b k cs
  obtain ⟨e, a', w', hq, harr⟩ := h b k cs
  refine ⟨e, a', w', ?_, harr⟩
  cases e with
  | normal => exact hq
  | ret => exact hq
  | panic c => exact hq.elim
  | exit i => exact hq.elim
  | goto l => exact hq.elim
  | outgrown => exact hq.elim
theorem bodyPost_retM {P : Program} {fn : Func} {R : Ending → World → Prop} {a : Act} {w : World} {v : Value} (hr : (results fn a.tmps).run P w = .ok v w) (hd : a.defers = []) (hR : R (.returned v) w) : bodyPostN P fn R .ret a w := by
  show LeavesInM _ _ _ _ _ _ a.defers _ _
  rw [hd]
  exact ⟨v, hr, hR⟩
theorem bodyPost_retD {P : Program} {fn : Func} {R : Ending → World → Prop} {a : Act} {w : World} {v : Value} {X : Nat} (hd : a.defers = [{ target := .collected X, args := #[] }]) (hX : w.heap[X]? = some (.deferred (some [])))
    (hr : (results fn a.tmps).run P (w.putObj X (.deferred none)) = .ok v (w.putObj X (.deferred none))) (hR : R (.returned v) (w.putObj X (.deferred none))) : bodyPostN P fn R .ret a w := by
  show LeavesInM _ _ _ _ _ _ a.defers _ _
  rw [hd]
  exact ⟨by simp, Or.inl ⟨X, _, rfl, run_takeDeferred hX, v, hr, hR⟩⟩
theorem below_put {w W : World} {X : Nat} {o : Obj} (h : Below w.heap.size w W) (hX : w.heap.size ≤ X) : Below w.heap.size w (W.putObj X o) :=
  ⟨h.os, h.tape, h.output, by simpa using h.size, fun k hk => (World.putObj_heap_other (by omega)).trans (h.block k hk)⟩
theorem C60_cell {W W1 : World} {A : Option Addr} {n : Nat} {xs : List S60} (h : Kd.C k60 W A n xs) (hc : ∀ a v, W.cell? a = some v → W1.cell? a = some v) : Kd.C k60 W1 A n xs := by
  refine ⟨h.1, h.2.1, fun hn => ?_⟩
  obtain ⟨ad, e, hr⟩ := h.2.2 hn
  refine ⟨ad, e, fun j p hp => ?_⟩
  obtain ⟨c, hl, hK, hcell⟩ := hr j p hp
  refine ⟨c, hl, ?_, fun i u hu => hc _ _ (hcell i u hu)⟩
  obtain ⟨_, _, rfl, rfl, rfl⟩ := hK
  exact ⟨_, _, rfl, rfl, rfl⟩
theorem V60_put {W : World} {e base X : Nat} {ok : Nat → Prop} {v : Value} {xs : List S60} {o1 : Option (List Deferred)} (h : Kd.V k60 e W base ok v xs) (hX : W.heap[X]? = some (.deferred o1)) (o2 : Option (List Deferred)) :
    Kd.V k60 e (W.putObj X (.deferred o2)) base ok v xs := by
  have hlt := blk_lt hX
  refine Kd.V_map h (fun A hf W' hW => ?_)
  by_cases hk : ok X
  · have hWX : W'.heap[X]? = some (.deferred o2) := (hW X hk (by simpa using hlt)).trans (World.putObj_heap_same hlt)
    have hlt' := blk_lt hWX
    refine C60_cell (W := W'.putObj X (.deferred o1)) (hf _ (fun k hk2 hl2 => ?_)) (fun a v hv => ?_)
    · by_cases e : k = X
      · subst e
        exact (World.putObj_heap_same hlt').trans hX.symm
      · exact (World.putObj_heap_other e).trans ((hW k hk2 (by simpa using hl2)).trans (World.putObj_heap_other e))
    · by_cases e : a.block = X
      · simp only [World.cell?, e, World.putObj_heap_same hlt'] at hv
        cases hv
      · simp only [World.cell?, World.putObj_heap_other e] at hv ⊢
        exact hv
  · refine hf _ (fun k hk2 hl2 => ?_)
    have e : k ≠ X := fun e => hk (e ▸ hk2)
    exact (hW k hk2 (by simpa using hl2)).trans (World.putObj_heap_other e)
def W0 (w0 : World) (A : Option Addr) (N c : Nat) : World := (w0.alloc (.cells #[.slice A (2 * N) c] 83)).alloc (.cells #[.int .i64 2] 3)
theorem W0_size (w0 : World) (A : Option Addr) (N c : Nat) : (W0 w0 A N c).heap.size = w0.heap.size + 2 := by simp [W0]
/-- Between two rounds. -/
def RI (w0 w1 : World) (b2 : Nat) (v0 v1 v2 v3 v5 : Value) (ns : List Int) {N : Nat} (pre : List (Fin N)) (W : World) : Prop :=
  ∃ v, W.heap[b2]? = some (.cells #[v0, v1, v2, v3, v, v5] 26 (0, 0)) ∧ BelowBut (w0.heap.size + 2) b2 w1 W ∧ Kd.R k60 60 W (w0.heap.size + 2) (fun _ => True) v (pre.map (fun i => pairAt ns i.1))
theorem RI_own (w0 w1 : World) (b2 : Nat) (v0 v1 v2 v3 v5 : Value) (ns : List Int) {N : Nat} (hb2 : b2 < w0.heap.size) (h1 : w0.heap.size + 2 ≤ w1.heap.size) : OwnFrom (w0.heap.size + 2) (RI (N := N) w0 w1 b2 v0 v1 v2 v3 v5 ns) := by
  rintro pre W W' row ⟨v, hb, hB, hR⟩ hg hr
  refine ⟨v, (hg.block b2 (blk_lt hb) (fun e => ?_)).trans hb, hB.grown hg (Nat.le_trans h1 hB.size) (fun r e => (hr r e).1), ?_⟩
  · have := (hr b2 e.symm).1
    omega
  · refine Kd.R_mono (Kd.R_step (Kd.R_bound hR) (fun k hk hlt => hg.block k hlt (fun e => ?_))) (fun _ _ => trivial)
    obtain ⟨_, o, ho, hnc⟩ := hr k e.symm
    obtain ⟨_, _, _, q, _, cells, hc⟩ := hk
    rw [hc] at ho
    cases ho
    cases hnc
set_option maxHeartbeats 16000000 in
set_option maxRecDepth 100000 in
theorem parse_range {as_ bd : Code} (hcode : (Tryd.f21.body.bind findRange) = some (as_, bd)) (t0 t1 t3 t4 t5 t6 t7 t8 t9 t10 t11 t12 t13 t14 t15 t16 t17 t18 t19 t20 t21 t22 t23 t24 t25 t26 t27 t28 t29 t30 t31 t32 t33 t34 t35 t36 t37 t38 t39 t40 t41 t42 t43 t44 t45 t46 t47 t48 t49 t50 t51 t52 t53 t54 t55 t56 t57 t58 t59 t61 t62 t63 t64 t65 t66 t67 t68 t69 t70 t71 t72 t73 t74 t75 t76 t77 t78 t79 t80 t81 t82 : Value) (Q : Exit → Act → World → Prop) (w0 : World) (b2 : Nat) (v0 v1 v2 v3 v5 : Value) (A : Option Addr) (N c : Nat) (ns : List Int)
    (BK : w0.heap[b2]? = some (.cells #[v0, v1, v2, v3, .slice none 0 0, v5] 26 (0, 0))) (hF : Kd.F (Kd.int .i64) w0 (fun k => k < w0.heap.size ∧ k ≠ b2) A (2 * N) ns) (hN : N ≤ 1000000000) (hc : 2 * N ≤ c)
    (hK : ∀ (X : Nat) (W V : World) (v : Value), W = V.setCell ⟨b2, 4, none⟩ v → Below w0.heap.size w0 V → Kd.R k60 60 V (w0.heap.size + 2) (fun _ => True) v (pairsOf ns) → w0.heap.size ≤ X → V.heap[X]? = some (.deferred (some [])) → Q .normal { tmps := #[t0, t1, .pointer (some ⟨b2, 0, none⟩), t3, t4, t5, t6, t7, t8, t9, t10, t11, t12, t13, t14, t15, t16, t17, t18, t19, t20, t21, t22, t23, t24, t25, t26, t27, t28, t29, t30, t31, t32, t33, t34, t35, t36, t37, t38, t39, t40, t41, t42, t43, t44, t45, t46, t47, t48, t49, t50, t51, t52, t53, t54, t55, t56, t57, t58, t59, .func (.func 71) #[] #[.pointer (some ⟨w0.heap.size, 0, none⟩), .pointer (some ⟨w0.heap.size + 1, 0, none⟩)], t61, t62, t63, t64, t65, t66, t67, t68, t69, t70, t71, t72, t73, t74, t75, t76, t77, t78, t79, t80, t81, t82], defers := [{ target := .collected X, args := #[] }] } W) :
    (Code.rangeFunc (.tmp 60) #[61] as_ bd).wp Tryd.prog Q { tmps := #[t0, t1, .pointer (some ⟨b2, 0, none⟩), t3, t4, t5, t6, t7, t8, t9, t10, t11, t12, t13, t14, t15, t16, t17, t18, t19, t20, t21, t22, t23, t24, t25, t26, t27, t28, t29, t30, t31, t32, t33, t34, t35, t36, t37, t38, t39, t40, t41, t42, t43, t44, t45, t46, t47, t48, t49, t50, t51, t52, t53, t54, t55, t56, t57, t58, t59, .func (.func 71) #[] #[.pointer (some ⟨w0.heap.size, 0, none⟩), .pointer (some ⟨w0.heap.size + 1, 0, none⟩)], t61, t62, t63, t64, t65, t66, t67, t68, t69, t70, t71, t72, t73, t74, t75, t76, t77, t78, t79, t80, t81, t82], defers := [] } (W0 w0 A N c) := by
  simp only [Tryd.f21, Option.bind_some, findRange, Option.some.injEq, Prod.mk.injEq] at hcode
  obtain ⟨rfl, rfl⟩ := hcode
  have hb2 := blk_lt BK
  have hlen := Kd.F_len hF
  have hsz := W0_size w0 A N c
  have e1 : (W0 w0 A N c).heap[w0.heap.size]? = some (.cells #[.slice A (2 * N) c] 83 (0, 0)) := bkA (heap_alloc_new _ _) _
  have e2 : (W0 w0 A N c).heap[w0.heap.size + 1]? = some (.cells #[.int .i64 2] 3 (0, 0)) := by
    have : (w0.alloc (.cells #[.slice A (2 * N) c] 83)).heap.size = w0.heap.size + 1 := by simp
    unfold W0
    rw [← this]
    exact heap_alloc_new _ _
  have hb0 : Below w0.heap.size w0 (W0 w0 A N c) := pbA (pbA (Below.refl _ _) _) _
  have hA : 0 < N → ∃ ad, A = some ad := fun h => by
    obtain ⟨ad, e, _⟩ := Kd.at_int (Kd.F_now hF) 0 (by omega) (by omega)
    exact ⟨ad, e⟩
  refine (wpIn_wide (n := 5)).1 ?_
  refine wpIn_rangeFunc_ownG (F := Fence.wide) (n := 5) rfl (by decide) (gf := 71) (lb := #[.pointer (some ⟨w0.heap.size, 0, none⟩), .pointer (some ⟨w0.heap.size + 1, 0, none⟩)]) rfl trivial (enters_of Tryd.func71 (by kernel_rfl) rfl) (chunk_stops 4 (by decide) w0.heap.size A N c hN hc hA (W0 w0 A N c) (by omega) e1 e2) (fun h k => h.trans k) (fun W l o o' hl ho hnc hnw => ?hkb) (Below.refl _ _) (fun _ => rfl) (RI w0 (W0 w0 A N c) b2 v0 v1 v2 v3 v5 ns) (fun _ _ _ => False) (hsz ▸ RI_own w0 _ b2 v0 v1 v2 v3 v5 ns hb2 (Nat.le_of_eq hsz.symm)) (fun _ _ _ _ _ h _ _ => h) ?h0 ?a1 ?assign ?body ?done ?stop
  case assign =>
    intro l x W K hk
    gi_wp2
    exact hk
  case hkb =>
    rw [hsz] at hl
    exact ⟨World.putObj_heap_other (by omega), World.putObj_heap_other (by omega)⟩
  case h0 => exact ⟨_, bkA (bkA BK _) _, ⟨rfl, rfl, rfl, Nat.le_refl _, fun _ _ _ => rfl⟩, Kd.R_nil _ _ _ _ _⟩
  case body =>
    rintro l pre x W ⟨v, hv, hB, hR⟩ hlt
    obtain ⟨i, hi⟩ := x
    obtain ⟨ad, rfl⟩ := hA (by omega)
    have hsz2 : w0.heap.size + 2 ≤ W.heap.size := by have := hB.size; omega
    have hC : Kd.C (Kd.int .i64) W (some ad) (2 * N) ns := Kd.F_now (Kd.F_step hF (fun k hk _ => (hB.block k (by omega) hk.2).trans (hb0.block k hk.1)))
    obtain ⟨a2, ea, g0⟩ := Kd.at_int hC ((2 * i : Nat) : Int) (by omega) (by omega)
    cases ea
    obtain ⟨a3, ea, g1⟩ := Kd.at_int hC ((2 * i + 1 : Nat) : Int) (by omega) (by omega)
    cases ea
    rw [Int.toNat_natCast] at g0 g1
    have g2 : W.cell? ⟨(ad.add (2 * i)).block, (ad.add (2 * i)).off + 1, none⟩ = some (.int .i64 (rd ns ((2 * i + 1 : Nat) : Int))) := by rw [← add_field _ _ 1 (by omega)]; exact g1
    refine wpIn_block ?_
    simp only [Option.map_some]
    refine startIn_ (m := 13) (S := fun w' => w'.cell? ⟨b2, 4, none⟩ = some v ∧ w'.cell? (ad.add (2 * i)) = some (.int .i64 (rd ns ((2 * i : Nat) : Int))) ∧ w'.cell? ⟨(ad.add (2 * i)).block, (ad.add (2 * i)).off + 1, none⟩ = some (.int .i64 (rd ns ((2 * i + 1 : Nat) : Int)))) (ds := [10, 12]) #[false, false, false, false, false, false, false, false, false, false, false, false, false] (by kernel_rfl) ?lo ?df rfl rfl ⟨(bkC hv 4).trans rfl, g0, g2⟩ (fun hHeld => ?_)
    case lo => rintro ⟨a, w, h⟩; exact h
    case df => exact df_of (by kernel_rfl)
    have hvD : W.drew.heap[b2]? = some (.cells #[v0, v1, v2, v3, v, v5] 26 (0, 0)) := hv
    have hBD : BelowBut (w0.heap.size + 2) b2 (W0 w0 (some ad) N c) W.drew := ⟨hB.os, hB.tape, hB.output, hB.size, hB.block⟩
    have hRD := Kd.R_drew hR
    have hszD : w0.heap.size + 2 ≤ W.drew.heap.size := hsz2
    have hKD : KeepsOthers W W.drew := KeepsOthers.drew W
    have hxD : BoxKeep w0.heap.size W W.drew := ⟨rfl, rfl⟩
    generalize W.drew = Wd at hHeld hvD hBD hRD hszD hKD hxD ⊢
    refine pure_ (i := 0) (N := some 62) (v := ?_) (a' := ?_) #[true, false, false, false, false, false, false, false, false, false, false, false, false] rfl rfl (by kernel_rfl) (fun _ _ _ h => h) (Or.inl ⟨by rfl, ?_⟩) ?_ ?_
    rotate_left
    · intro w'
      go_simp
      with_reducible rfl
    rotate_left
    · simp only [Act.put, List.setIfInBounds_toArray, List.set_cons_zero, List.set_cons_succ, i64_w, i32_w]
      rfl
    refine pure_ (i := 2) (N := some 64) (v := ?_) (a' := ?_) #[true, false, true, false, false, false, false, false, false, false, false, false, false] rfl rfl (by kernel_rfl) (fun _ _ _ h => h) (Or.inl ⟨by rfl, ?_⟩) ?_ ?_
    rotate_left
    · intro w'
      go_simp
      with_reducible rfl
    rotate_left
    · simp only [Act.put, List.setIfInBounds_toArray, List.set_cons_zero, List.set_cons_succ, i64_w, i32_w]
      rfl
    refine pure_ (i := 3) (N := some 65) (v := ?_) (a' := ?_) #[true, false, true, true, false, false, false, false, false, false, false, false, false] rfl rfl (by kernel_rfl) (fun _ _ _ h => h) (Or.inl ⟨by rfl, ?_⟩) ?_ ?_
    rotate_left
    · intro w'
      go_simp
      with_reducible rfl
    rotate_left
    · simp only [Act.put, List.setIfInBounds_toArray, List.set_cons_zero, List.set_cons_succ, i64_w, i32_w]
      rfl
    refine pure_ (i := 5) (N := some 67) (v := ?_) (a' := ?_) #[true, false, true, true, false, true, false, false, false, false, false, false, false] rfl rfl (by kernel_rfl) (fun _ _ _ h => h) (Or.inl ⟨by rfl, ?_⟩) ?_ ?_
    rotate_left
    · intro w'
      go_simp
      with_reducible rfl
    rotate_left
    · simp only [Act.put, List.setIfInBounds_toArray, List.set_cons_zero, List.set_cons_succ, i64_w, i32_w]
      rfl
    refine pure_ (i := 6) (N := some 68) (v := ?_) (a' := ?_) #[true, false, true, true, false, true, true, false, false, false, false, false, false] rfl rfl (by kernel_rfl) (fun _ _ _ h => h) (Or.inl ⟨by rfl, ?_⟩) ?_ ?_
    rotate_left
    · intro w'
      go_simp
      with_reducible rfl
    rotate_left
    · simp only [Act.put, List.setIfInBounds_toArray, List.set_cons_zero, List.set_cons_succ, i64_w, i32_w]
      rfl
    refine take_ (i := 1) (N := some 63) (v := ?_) (a' := ?_) #[true, true, true, true, false, true, true, false, false, false, false, false, false] rfl rfl (by kernel_rfl) (fun _ _ _ h => h) (Or.inl ⟨by rfl, ?_⟩) hHeld ?_ ?_
    rotate_left
    · rintro w' ⟨s0, s1, s2⟩
      go_simp
      with_reducible rfl
    rotate_left
    · simp only [Act.put, List.setIfInBounds_toArray, List.set_cons_zero, List.set_cons_succ, i64_w, i32_w]
      rfl
    refine take_ (i := 4) (N := some 66) (v := ?_) (a' := ?_) #[true, true, true, true, true, true, true, false, false, false, false, false, false] rfl rfl (by kernel_rfl) (fun _ _ _ h => h) (Or.inl ⟨by rfl, ?_⟩) hHeld ?_ ?_
    rotate_left
    · rintro w' ⟨s0, s1, s2⟩
      go_simp
      with_reducible rfl
    rotate_left
    · simp only [Act.put, List.setIfInBounds_toArray, List.set_cons_zero, List.set_cons_succ, i64_w, i32_w]
      rfl
    refine take_ (i := 7) (N := some 69) (v := ?_) (a' := ?_) #[true, true, true, true, true, true, true, true, false, false, false, false, false] rfl rfl (by kernel_rfl) (fun _ _ _ h => h) (Or.inl ⟨by rfl, ?_⟩) hHeld ?_ ?_
    rotate_left
    · rintro w' ⟨s0, s1, s2⟩
      go_simp
      with_reducible rfl
    rotate_left
    · simp only [Act.put, List.setIfInBounds_toArray, List.set_cons_zero, List.set_cons_succ, i64_w, i32_w]
      rfl
    refine pure_ (i := 8) (N := some 70) (v := ?_) (a' := ?_) #[true, true, true, true, true, true, true, true, true, false, false, false, false] rfl rfl (by kernel_rfl) (fun _ _ _ h => h) (Or.inl ⟨by rfl, ?_⟩) ?_ ?_
    rotate_left
    · intro w'
      go_simp
      with_reducible rfl
    rotate_left
    · simp only [Act.put, List.setIfInBounds_toArray, List.set_cons_zero, List.set_cons_succ, i64_w, i32_w]
      rfl
    refine one_ (i := 9) (N := some 71) #[true, true, true, true, true, true, true, true, true, true, false, false, false] rfl rfl (by kernel_rfl) (by decide) (fun K hK => ?_)
    refine value_ (w1 := ?_) (v := ?_) (by rfl) rfl ?_ ?_
    rotate_left 2
    · go_simp
      constructor
      · rfl
      · rfl
    have e0 : ((2 * i : Nat) : Int) = 2 * (i : Int) := by omega
    have e1_ : ((2 * i + 1 : Nat) : Int) = 2 * (i : Int) + 1 := by omega
    refine hK.out _ _ ⟨(bkC (bkA hvD _) 4).trans rfl, (World.cell?_alloc_lt _ _ _ (World.block_lt_of_cell? _ _ hHeld.2.1)).trans hHeld.2.1, (World.cell?_alloc_lt _ _ _ (World.block_lt_of_cell? _ _ hHeld.2.2)).trans hHeld.2.2⟩ (fun hHeld => ?_)
    clear hK K
    refine norm_ (a' := ?_) ?_ ?_
    rotate_left
    · show Act.put _ (some 71) _ = _
      simp only [Act.put, List.setIfInBounds_toArray, List.set_cons_zero, List.set_cons_succ, i64_w, i32_w]
      rfl
    refine last_ (i := 10) (N := some 72) #[true, true, true, true, true, true, true, true, true, true, true, false, false] rfl rfl (by kernel_rfl) (by decide) (fun K hK => ?_)
    refine Kd.R_append_step k60 (w0 := Wd) (w0.heap.size + 2) (by rfl) (.tmp 63) (.tmp 71) 24 60 (.agg #[(.int .i64 0), (.int .i64 0)]) 16 rfl Tryd.underlying24 info60 rfl (by decide) (by omega) v (pre.map (fun i => pairAt ns i.1)) (⟨rd ns (2 * (i : Int)), rd ns (2 * (i : Int) + 1)⟩ : S60) [.int .i64 (rd ns (2 * (i : Int))), .int .i64 (rd ns (2 * (i : Int) + 1))] (fun _ => True) (fun _ => False) rfl rfl ?aP (fun _ hk => hk.elim) ?aF ?aO ?aB ?aS ?aL ?_
    case aP => exact k60_mkM _ _ _ (⟨rd ns (2 * (i : Int)), rd ns (2 * (i : Int) + 1)⟩ : S60)
    case aF => exact fun _ _ => trivial
    case aO => exact hRD
    case aB => exact Below.refl _ _
    case aS => exact hszD
    case aL => rw [List.length_map]; omega
    intro v2 w2 ho hb hg hat
    obtain ⟨Ao, co, rfl⟩ := Kd.R_slice ho
    have hv2 : w2.heap[b2]? = some (.cells #[v0, v1, v2, v3, v, v5] 26 (0, 0)) := (hb.block b2 (by omega)).trans hvD
    refine hK.out _ _ ?_
    clear hK K
    refine norm_ (a' := ?_) ?_ ?_
    rotate_left
    · show Act.put _ (some 72) _ = _
      simp only [Act.put, List.setIfInBounds_toArray, List.set_cons_zero, List.set_cons_succ, i64_w, i32_w]
      rfl
    refine pure_ (i := 11) (N := some 73) (v := ?_) (a' := ?_) #[true, true, true, true, true, true, true, true, true, true, true, true, false] rfl rfl (by kernel_rfl) (fun _ _ _ h => h) (Or.inl ⟨by rfl, ?_⟩) ?_ ?_
    rotate_left
    · intro w'
      go_simp
      with_reducible rfl
    rotate_left
    · simp only [Act.put, List.setIfInBounds_toArray, List.set_cons_zero, List.set_cons_succ, i64_w, i32_w]
      rfl
    refine last_ (i := 12) (N := none) #[true, true, true, true, true, true, true, true, true, true, true, true, true] rfl rfl (by kernel_rfl) (by decide) (fun K hK => ?_)
    have hs2 := (bkC hv2 4).trans rfl
    have hf2 := bkF hv2 4
    refine skip_ (w1 := ?_) (by rfl) rfl ?_ ?_
    rotate_left
    · go_simp
      rfl
    refine hK.out _ _ ?_
    clear hK K
    refine done_ (by kernel_rfl) ?_
    have hKO : KeepsOthers Wd w2 := KeepsOthers.of_grownBy hg (fun j o hj ho2 => by
      obtain ⟨_, _, _, q, _, cells, hcc⟩ := (Kd.R_bound hRD).1 j hj
      rw [hcc] at ho2
      cases ho2
      rfl)
    have hp : pairAt ns i = ⟨rd ns (2 * (i : Int)), rd ns (2 * (i : Int) + 1)⟩ := by
      unfold pairAt rd
      rw [show (2 * (i : Int)).toNat = 2 * i by omega, show (2 * (i : Int) + 1).toNat = 2 * i + 1 by omega]
    have hbk : ∀ k u, k < w0.heap.size + 2 → k ≠ b2 → (w2.setCell ⟨b2, 4, none⟩ u).heap[k]? = Wd.heap[k]? := fun k u h1 h2 => (Below.heap_setCell w2 ⟨b2, 4, none⟩ u k h2).trans (hb.block k h1)
    refine ⟨((hKD.trans hKO).trans (KeepsOthers.setCell _ _ _)).from _, hxD.trans ⟨hbk _ _ (by omega) (by omega), hbk _ _ (by omega) (by omega)⟩, _, blk_put hv2 4 _ rfl, (hBD.then hb).set 4 _, ?_⟩
    rw [List.map_append, List.map_singleton, hp]
    have hq := Kd.R_set ho hv2 (by decide) 4 (.slice Ao (pre.length + 1) co)
    simp only [List.length_append, List.length_map, List.length_singleton] at hq
    exact hq
  case done =>
    rintro X xs W hX rfl ⟨v, hv, hB, hR⟩ hdef
    rw [hsz] at hX
    refine hK X W (W.setCell ⟨b2, 4, none⟩ (.slice none 0 0)) v (set_back hv).symm ⟨hB.os, hB.tape, hB.output, ?_, ?_⟩ ?_ (by omega) ((Below.heap_setCell W ⟨b2, 4, none⟩ _ X (by simp only; omega)).trans hdef)
    · have := hB.size
      rw [hsz] at this
      simp only [World.setCell_size_]
      omega
    · intro k hk
      by_cases e : k = b2
      · subst e
        exact (blk_put hv 4 _ rfl).trans BK.symm
      · exact (Below.heap_setCell W ⟨b2, 4, none⟩ _ k e).trans ((hB.block k (by omega) e).trans (hb0.block k hk))
    · have hm : (List.finRange N).map (fun i => pairAt ns i.1) = pairsOf ns := by
        rw [← pairs_range N ns hlen]
        apply List.ext_getElem
        · simp
        · intro j h1 h2
          simp
      rw [← hm]
      exact Kd.R_set hR hv (by decide) 4 _
  case stop => exact fun _ _ _ _ _ _ h _ => h.elim
end Go.Proofs.YtjfhcijjjadhbaaDoor.P
end
section
-- Written by a program of this session (wip/tools/pr.py), over the kit's printer; functions named in the texts imported below are given by hand.
namespace Go.Proofs.YtjfhcijjjadhbaaDoor.P
open Go.RowKit Go.Proofs.YtjfhcijjjadhbaaDoor.K Go.Proofs.YtjfhcijjjadhbaaDoorW.PrintWords Go.Proofs.YtjfhcijjjadhbaaDoorW.PrintLast Go.Proofs.YtjfhcijjjadhbaaDoorW.PrintMore
attribute [local go_sem] max2_int min2_int max_two min_two max_three min_three max_four min_four   -- for this text's walks alone
/-! ### desc_Parse: function 21 -/
mutual
def desc_Parse.j0 : Nat → ByteArray → List ByteArray → Bool → Option (Int × ByteArray × ByteArray × Int × (List (S60)) × Int × Int)
  | 0, _, _, _ => none
  | k + 1, x0, x4, x19 => if x19 = true then (some (0, (⟨#[]⟩ : ByteArray), (⟨#[]⟩ : ByteArray), 0, ([] : List (S60)), 0, 60)) else (if 0 < (x4.length : Int) then ((some (([rdOf ByteArray.empty x4 0] : List ByteArray) : List ByteArray)).bind fun y186 => (if 3 ≤ (x4.length : Int) then ((some (x4.drop 3 : List ByteArray)).bind fun y189 => (if y186.length + y189.length < 8796093022208 then ((desc_numbers.f k (y186 ++ y189)).bind fun bt196 => (if bt196.2 = true then (desc_Parse.j1 k x0 x4 bt196.1 (((bt196.1.length : Int) % 2) == 0)) else (desc_Parse.j1 k x0 x4 bt196.1 true))) else (none))) else (none))) else (none))
def desc_Parse.j1 : Nat → ByteArray → List ByteArray → List Int → Bool → Option (Int × ByteArray × ByteArray × Int × (List (S60)) × Int × Int)
  | 0, _, _, _, _ => none
  | k + 1, x0, x4, x5, x39 => if x39 = true then (some (0, (⟨#[]⟩ : ByteArray), (⟨#[]⟩ : ByteArray), 0, ([] : List (S60)), 0, 60)) else (if 0 < (x5.length : Int) then (if 1 < (x4.length : Int) then (if 2 < (x4.length : Int) then (if 1 < (x5.length : Int) then (if 2 < (x5.length : Int) then ((slices_Chunk_int64_int64.f x5 2).bind fun t205 => ((desc_Put.f k (rd x5 0) (rdOf ByteArray.empty x4 1) (rdOf ByteArray.empty x4 2) (rd x5 1) t205 (rd x5 2)).bind fun t208 => (if t208.toList = x0.toList then ((desc_right.f (rd x5 0) (rdOf ByteArray.empty x4 1) (rdOf ByteArray.empty x4 2) (rd x5 1) t205 (rd x5 2)).bind fun bt209 => (some (bt209.1, bt209.2.1, bt209.2.2.1, bt209.2.2.2.1, bt209.2.2.2.2.1, bt209.2.2.2.2.2.1, bt209.2.2.2.2.2.2))) else (some (0, (⟨#[]⟩ : ByteArray), (⟨#[]⟩ : ByteArray), 0, ([] : List (S60)), 0, 60))))) else (none)) else (none)) else (none)) else (none)) else (none))
end
def desc_Parse.f (k : Nat) (a0 : ByteArray) : Option (Int × ByteArray × ByteArray × Int × (List (S60)) × Int × Int) := (knot_Untie.f k a0).bind fun bt181 => (if bt181.2 = 0 then (desc_Parse.j0 k a0 bt181.1 (decide ((bt181.1.length : Int) < 5))) else (desc_Parse.j0 k a0 bt181.1 true))
theorem desc_Parse.mono_l : ∀ k, (∀ y0 y1 y2, LeO (desc_Parse.j0 k y0 y1 y2) (desc_Parse.j0 (k + 1) y0 y1 y2)) ∧ (∀ y0 y1 y2 y3, LeO (desc_Parse.j1 k y0 y1 y2 y3) (desc_Parse.j1 (k + 1) y0 y1 y2 y3))
  | 0 => ⟨fun _ _ _ r h => by simp [desc_Parse.j0] at h, fun _ _ _ _ r h => by simp [desc_Parse.j1] at h⟩
  | k + 1 => by
    obtain ⟨ih0, ih1⟩ := desc_Parse.mono_l k
    refine ⟨?_, ?_⟩
    · intro y0 y1 y2
      unfold desc_Parse.j0
      repeat' first
      | (with_reducible exact ih0 _ _ _)
      | (with_reducible exact ih1 _ _ _ _)
      | (with_reducible exact desc_Put.mono _ _ _ _ _ _ _)
      | (with_reducible exact desc_numbers.mono _ _)
      | (with_reducible exact knot_Untie.mono _ _)
      | (with_reducible exact LeO.refl _)
      | (with_reducible exact LeO.none _)
      | (with_reducible refine LeO.ite ?_ ?_)
      | (with_reducible refine LeO.bind ?_ (fun _ => ?_))
      | exact ih0 _ _ _
      | exact ih1 _ _ _ _
      | exact desc_Put.mono _ _ _ _ _ _ _
      | exact desc_numbers.mono _ _
      | exact knot_Untie.mono _ _
      | exact LeO.none _
      | refine LeO.ite ?_ ?_
      | refine LeO.bind ?_ (fun _ => ?_)
    · intro y0 y1 y2 y3
      unfold desc_Parse.j1
      repeat' first
      | (with_reducible exact ih0 _ _ _)
      | (with_reducible exact ih1 _ _ _ _)
      | (with_reducible exact desc_Put.mono _ _ _ _ _ _ _)
      | (with_reducible exact desc_numbers.mono _ _)
      | (with_reducible exact knot_Untie.mono _ _)
      | (with_reducible exact LeO.refl _)
      | (with_reducible exact LeO.none _)
      | (with_reducible refine LeO.ite ?_ ?_)
      | (with_reducible refine LeO.bind ?_ (fun _ => ?_))
      | exact ih0 _ _ _
      | exact ih1 _ _ _ _
      | exact desc_Put.mono _ _ _ _ _ _ _
      | exact desc_numbers.mono _ _
      | exact knot_Untie.mono _ _
      | exact LeO.none _
      | refine LeO.ite ?_ ?_
      | refine LeO.bind ?_ (fun _ => ?_)
theorem desc_Parse.mono : ∀ a0 k, LeO (desc_Parse.f k a0) (desc_Parse.f (k + 1) a0) := by
  intro a0 k
  obtain ⟨ih0, ih1⟩ := desc_Parse.mono_l k
  unfold desc_Parse.f
  repeat' first
      | (with_reducible exact ih0 _ _ _)
      | (with_reducible exact ih1 _ _ _ _)
      | (with_reducible exact desc_Put.mono _ _ _ _ _ _ _)
      | (with_reducible exact desc_numbers.mono _ _)
      | (with_reducible exact knot_Untie.mono _ _)
      | (with_reducible exact LeO.refl _)
      | (with_reducible exact LeO.none _)
      | (with_reducible refine LeO.ite ?_ ?_)
      | (with_reducible refine LeO.bind ?_ (fun _ => ?_))
      | exact ih0 _ _ _
      | exact ih1 _ _ _ _
      | exact desc_Put.mono _ _ _ _ _ _ _
      | exact desc_numbers.mono _ _
      | exact knot_Untie.mono _ _
      | exact LeO.none _
      | refine LeO.ite ?_ ?_
      | refine LeO.bind ?_ (fun _ => ?_)
def desc_Parse.T4 : Bool × List (List Nat × List Nat) := (true, [([], []), ([0], [0]), ([1], [1]), ([2], [2]), ([], []), ([4], [4]), ([3, 5], [3, 5]), ([6, 6], [6]), ([7], [7]), ([8], [8]), ([8], [8]), ([9, 7, 0, 1, 2, 3, 4, 5, 6, 7, 8, 9], [9]), ([10, 11, 0, 1, 2, 3, 4, 5, 6, 7, 8, 9, 10, 11], [10])])
def desc_Parse.B4 : List Nat := [0, 1, 3, 7, 0, 16, 63, 127, 255, 511, 511, 1023, 4095]
theorem desc_Parse.tab4 : rtab .any (opsOf Tryd.f21 4) = desc_Parse.T4 := by kernel_rfl
theorem desc_Parse.bits4 : waitsOk desc_Parse.T4.2 desc_Parse.B4 = true := by kernel_rfl
def desc_Parse.T7 : Bool × List (List Nat × List Nat) := (true, [([], []), ([0], [0]), ([1], [1]), ([], []), ([3], [3]), ([4], [4]), ([], []), ([6], [6]), ([7], [7]), ([5, 8], [5, 8]), ([], []), ([10], [10]), ([11], [11]), ([], []), ([13], [13]), ([14], [14]), ([2, 9, 12, 15], [2, 9, 12, 15]), ([16, 0, 1, 2, 3, 4, 5, 6, 7, 8, 9, 10, 11, 12, 13, 14, 15, 16], [16])])
def desc_Parse.B7 : List Nat := [0, 1, 3, 0, 8, 24, 0, 64, 192, 504, 0, 1024, 3072, 0, 8192, 24576, 65535, 131071]
theorem desc_Parse.tab7 : rtab .any (opsOf Tryd.f21 7) = desc_Parse.T7 := by kernel_rfl
theorem desc_Parse.bits7 : waitsOk desc_Parse.T7.2 desc_Parse.B7 = true := by kernel_rfl
set_option maxHeartbeats 8000000 in
set_option maxRecDepth 100000 in
theorem desc_Parse.calls (k : Nat) (a0 : ByteArray) (r1 : Int) (r2 : ByteArray) (r3 : ByteArray) (r4 : Int) (r5 : List (S60)) (r6 : Int) (r7 : Int) (w : World) (hG : TheG w) (h : desc_Parse.f k a0 = some (r1, r2, r3, r4, r5, r6, r7)) :
    Calls Tryd.prog 21 #[.string a0] w fun e w' => ∃ v4_ : Value, e = .returned (.tuple #[.agg #[.int .i64 r1, .string r2, .string r3, .int .i64 r4, v4_, .int .i64 r6], .int .i64 r7]) ∧ Kd.V k60 60 w' w.heap.size (fun k_ => (w.heap.size ≤ k_)) v4_ r5 ∧ Below w.heap.size w w' := by
  have hu26 := Tryd.underlying26
  have hu23 := Tryd.underlying23
  have HB := Az.mk (Below.refl w.heap.size w)
  have H : ((knot_Untie.f k a0).bind fun bt181 => (if bt181.2 = 0 then (desc_Parse.j0 k a0 bt181.1 (decide ((bt181.1.length : Int) < 5))) else (desc_Parse.j0 k a0 bt181.1 true))) = some (r1, r2, r3, r4, r5, r6, r7) := h
  clear h
  replace H := Option.bind_eq_some_iff.mp H
  obtain ⟨⟨t181, t182⟩, A20, H⟩ := H
  replace H : (if t182 = 0 then (desc_Parse.j0 k a0 t181 (decide ((t181.length : Int) < 5))) else (desc_Parse.j0 k a0 t181 true)) = some (r1, r2, r3, r4, r5, r6, r7) := H
  have A2 := Az.mk A20
  clear A20
  have HC3 := Az.mk H
  clear H
  let hbp_ := bodyPost Tryd.prog Tryd.f21
  refine enterM Tryd.func21 rfl ?_
  simp only [Tryd.ntmps21, List.size_toArray, List.length_cons, List.length_nil, Nat.reduceAdd, Nat.reduceSub, Array.replicate_succ, Array.replicate_zero, List.push_toArray, List.append_toArray, List.nil_append, List.cons_append]
  go_upto_region 2 with (first | ((with_reducible refine gate_dst (N := 2) rfl ?_); (try (refine gate_guard (by rfl) ?_; dsimp only)); refine box_event ?hg (N := 2) ?hd (cs := #[.int .i64 0, .string (⟨#[]⟩ : ByteArray), .string (⟨#[]⟩ : ByteArray), .int .i64 0, .slice none 0 0, .int .i64 0]) (t := 26) ?hr ?_; (case hd => rfl); (case hg => rfl); (case hr => first | (go_simp; done) | (go_simp; rfl)); intro gb180 hg w4 hbox hb; have n0_ := Az.mk (pbT (by exact pbE HB.out) hb); have n1_ := Az.mk (hbox); have n2_ := Az.mk ((by rw [hg]; exact (pbZ (by exact pbE HB.out)) : w.heap.size ≤ gb180)); have n3_ := Az.mk ((by rw [hg]; exact (pbZ (by exact pbE HB.out)) : w.heap.size ≤ gb180)); clear HB; have HB := n0_; have BK180 := n1_; have GW180 := n2_; have GE180 := n3_; clear n0_ n1_ n2_ n3_; clear hb hbox hg) | ((with_reducible refine gtc (f := 43) rfl ?_); refine goesL_ (some 10) rfl rfl Tryd.func43 (by kernel_rfl) rfl #[.string a0] rfl (by (try simp only [List.map_toArray, List.map_cons, List.map_nil]); first | done | rfl | (simp only [List.length_drop, List.length_take]; rfl)) ?_; (with_reducible refine (knot_Untie.calls k a0 t181 t182 _ ?side1 A2.out).mono ?_); (case side1 => exact hG.below (by exact pbE HB.out)); rintro e w5 ⟨v183, rfl, ho0, hb⟩; refine ⟨_, rfl, ?_⟩; have n0_ := Az.mk (Kd.R_lower (Kd.R_newM (M := fun k_ => (w.heap.size ≤ k_)) ho0 (pbZ (by exact pbE HB.out)) (fun k_ h_ => h_)) (pbZ (by exact pbE HB.out))); have n1_ := Az.mk (bkB (g := gb180) (o := .cells #[.int .i64 0, .string (⟨#[]⟩ : ByteArray), .string (⟨#[]⟩ : ByteArray), .int .i64 0, .slice none 0 0, .int .i64 0] 26 (0, 0)) (bk BK180.out) hb); have n2_ := Az.mk (pbT (by exact pbE HB.out) hb); clear BK180; clear HB; have HO184 := n0_; have BK180 := n1_; have HB := n2_; clear n0_ n1_ n2_; (try clear hb); (try clear hb2); (try clear hk); (try clear hi); (try clear ho0)))
  (try simp only [Act.put, List.setIfInBounds_toArray, List.set_cons_zero, List.set_cons_succ])
  go_cut [19] (fun v19 wc => ∃ (kq : Nat) (x19_2 : Bool), v19 = .bool x19_2 ∧ Az (desc_Parse.j0 kq a0 t181 x19_2 = some (r1, r2, r3, r4, r5, r6, r7)) ∧ Az (kq ≤ k) ∧ Az (Kd.R Kd.string 9 wc w.heap.size (fun k_ => (w.heap.size ≤ k_)) v183 t181) ∧ Az (wc.heap[gb180]? = some (.cells #[.int .i64 0, .string (⟨#[]⟩ : ByteArray), .string (⟨#[]⟩ : ByteArray), .int .i64 0, (.slice none 0 0), .int .i64 0] 26 (0, 0))) ∧ Az (Below w.heap.size w wc))
  case first =>
    have H := HC3.out
    clear HC3
    by_cases c6 : t182 = 0
    · rw [if_pos c6] at H
      have c6b0 : (t182 == 0) = true := beq_iff_eq.mpr c6
      have c6b1 : (t182 != 0) = false := bne_eq_false_iff_eq.mpr c6
      clear c6
      (first | rw [c6b0] | (simp only [i64_w, i32_w]; rw [c6b0]) | skip)
      have H' := Az.mk H
      clear H
      obtain ⟨Ao7, co7, eo7⟩ := Kd.R_slice HO184.out
      subst eo7
      go_wp2
      go_meet
      case rel => exact ⟨_, (decide ((t181.length : Int) < 5)), (by first | rfl | (simp; done) | (simp [*]; done)), H', ⟨by first | omega | exact Nat.le_refl _⟩, ⟨by (with_reducible repeat (first | apply Kd.R_alloc | apply Kd.R_drewN | apply Kd.R_drew)); exact Kd.R_mono HO184.out (fun _ hk => hk.1)⟩, ⟨by refine bk ?_; exact BK180.out⟩, ⟨by exact pbE HB.out⟩⟩
    · rw [if_neg c6] at H
      have c6b0 : (t182 == 0) = false := beq_eq_false_iff_ne.mpr c6
      have c6b1 : (t182 != 0) = true := bne_iff_ne.mpr c6
      (first | rw [c6b0] | (simp only [i64_w, i32_w]; rw [c6b0]) | skip)
      have H' := Az.mk H
      clear H
      go_wp2
      go_meet
      case rel => exact ⟨_, (true), (by first | rfl | (simp; done) | (simp [*]; done)), H', ⟨by first | omega | exact Nat.le_refl _⟩, ⟨by (with_reducible repeat (first | apply Kd.R_alloc | apply Kd.R_drewN | apply Kd.R_drew)); exact Kd.R_mono HO184.out (fun _ hk => hk.1)⟩, ⟨by refine bk ?_; exact BK180.out⟩, ⟨by exact pbE HB.out⟩⟩
  case rest =>
    clear HC3
    try clear c2
    try clear p2
    try clear c4
    try clear c6
    try clear c6b0
    try clear c6b1
    obtain ⟨kq, x19_2, rfl, HA, HJ2, HO_4, BK180, HB⟩ := hcut
    cases kq with
    | zero => exact absurd HA.out (by simp [desc_Parse.j0])
    | succ kj2 =>
      have H := HA.out
      clear HA
      simp only [desc_Parse.j0] at H
      by_cases c8 : x19_2 = true
      · subst c8
        have H1 : (some (0, (⟨#[]⟩ : ByteArray), (⟨#[]⟩ : ByteArray), 0, ([] : List (S60)), 0, 60)) = some (r1, r2, r3, r4, r5, r6, r7) := by rw [if_pos rfl] at H; exact H
        clear H
        have H := H1
        clear H1
        simp only [Option.some.injEq, Prod.mk.injEq] at H
        obtain ⟨rfl, rfl, rfl, rfl, rfl, rfl, rfl⟩ := H
        have hcz9_0 : wc.cell? ⟨gb180, 0, none⟩ = some (.int .i64 0) := (bkC BK180.out 0).trans rfl
        have hcz9_1 : wc.cell? ⟨gb180, 1, none⟩ = some (.string (⟨#[]⟩ : ByteArray)) := (bkC BK180.out 1).trans rfl
        have hcz9_2 : wc.cell? ⟨gb180, 2, none⟩ = some (.string (⟨#[]⟩ : ByteArray)) := (bkC BK180.out 2).trans rfl
        have hcz9_3 : wc.cell? ⟨gb180, 3, none⟩ = some (.int .i64 0) := (bkC BK180.out 3).trans rfl
        have hcz9_4 : wc.cell? ⟨gb180, 4, none⟩ = some (.slice none 0 0) := (bkC BK180.out 4).trans rfl
        have hcz9_5 : wc.cell? ⟨gb180, 5, none⟩ = some (.int .i64 0) := (bkC BK180.out 5).trans rfl
        have hfz9_0 := bkF BK180.out 0
        have hfz9_1 := bkF BK180.out 1
        have hfz9_2 := bkF BK180.out 2
        have hfz9_3 := bkF BK180.out 3
        have hfz9_4 := bkF BK180.out 4
        have hfz9_5 := bkF BK180.out 5
        go_wp2
        refine bodyPost_retM (results_ct rfl _ _ gb180 26 #[.int .i64 0, .string (⟨#[]⟩ : ByteArray), .string (⟨#[]⟩ : ByteArray), .int .i64 0, .slice none 0 0, .int .i64 0] (0, 0) _ rfl (by refine bk ?_; refine blk_put (cs := #[.int .i64 0, .string (⟨#[]⟩ : ByteArray), .string (⟨#[]⟩ : ByteArray), .int .i64 0, .slice none 0 0, .int .i64 0]) ?_ 5 _ rfl; refine bk ?_; refine blk_put (cs := #[.int .i64 0, .string (⟨#[]⟩ : ByteArray), .string (⟨#[]⟩ : ByteArray), .int .i64 0, .slice none 0 0, .int .i64 0]) ?_ 4 _ rfl; refine bk ?_; refine blk_put (cs := #[.int .i64 0, .string (⟨#[]⟩ : ByteArray), .string (⟨#[]⟩ : ByteArray), .int .i64 0, .slice none 0 0, .int .i64 0]) ?_ 3 _ rfl; refine bk ?_; refine blk_put (cs := #[.int .i64 0, .string (⟨#[]⟩ : ByteArray), .string (⟨#[]⟩ : ByteArray), .int .i64 0, .slice none 0 0, .int .i64 0]) ?_ 2 _ rfl; refine bk ?_; refine blk_put (cs := #[.int .i64 0, .string (⟨#[]⟩ : ByteArray), .string (⟨#[]⟩ : ByteArray), .int .i64 0, .slice none 0 0, .int .i64 0]) ?_ 1 _ rfl; refine bk ?_; refine blk_put (cs := #[.int .i64 0, .string (⟨#[]⟩ : ByteArray), .string (⟨#[]⟩ : ByteArray), .int .i64 0, .slice none 0 0, .int .i64 0]) ?_ 0 _ rfl; refine bk ?_; exact BK180.out) Tryd.underlying26 rfl (by kernel_rfl)) rfl ?_
        exact ⟨_, by first | rfl | (simp [errW_none, errW_some] <;> rfl) | (simp [*, errW_none, errW_some] <;> rfl), Kd.V_nil _ _ _ _ _, by exact pbE HB.out⟩
      · replace c8 := Bool.eq_false_iff.mpr c8
        subst c8
        have H1 : (if 0 < (t181.length : Int) then ((some (([rdOf ByteArray.empty t181 0] : List ByteArray) : List ByteArray)).bind fun y186 => (if 3 ≤ (t181.length : Int) then ((some (t181.drop 3 : List ByteArray)).bind fun y189 => (if y186.length + y189.length < 8796093022208 then ((desc_numbers.f kj2 (y186 ++ y189)).bind fun bt196 => (if bt196.2 = true then (desc_Parse.j1 kj2 a0 t181 bt196.1 (((bt196.1.length : Int) % 2) == 0)) else (desc_Parse.j1 kj2 a0 t181 bt196.1 true))) else (none))) else (none))) else (none)) = some (r1, r2, r3, r4, r5, r6, r7) := by rw [if_neg (show ¬ (false = true) by decide)] at H; exact H
        clear H
        have H := H1
        clear H1
        by_cases c10 : 0 < (t181.length : Int)
        · rw [if_pos c10] at H
          have c10b0 : decide (0 < (t181.length : Int)) = true := decide_eq_true c10
          have c10b1 : decide (0 < t181.length) = true := decide_eq_true (by omega)
          clear c10
          obtain ⟨y186, hy186⟩ : ∃ y_ : List ByteArray, y_ = (([rdOf ByteArray.empty t181 0] : List ByteArray)) := ⟨_, rfl⟩
          replace H : (if 3 ≤ (t181.length : Int) then ((some (t181.drop 3 : List ByteArray)).bind fun y189 => (if y186.length + y189.length < 8796093022208 then ((desc_numbers.f kj2 (y186 ++ y189)).bind fun bt196 => (if bt196.2 = true then (desc_Parse.j1 kj2 a0 t181 bt196.1 (((bt196.1.length : Int) % 2) == 0)) else (desc_Parse.j1 kj2 a0 t181 bt196.1 true))) else (none))) else (none)) = some (r1, r2, r3, r4, r5, r6, r7) := by first | (rw [hy186]; with_reducible exact H) | (have H2_ := (Option.bind_some _ _).symm.trans H; rw [hy186]; with_reducible exact H2_) | (have H2_ := (Option.bind_some _ _).symm.trans H; with_reducible exact H2_) | with_reducible exact H | (rw [hy186]; exact H) | exact H
          have Ny186 := Az.mk hy186
          clear hy186
          by_cases c11 : 3 ≤ (t181.length : Int)
          · rw [if_pos c11] at H
            have c11b0 := eq_true c11
            have c11b1 : decide (3 ≤ (t181.length : Int)) = true := decide_eq_true c11
            clear c11
            obtain ⟨y189, hy189⟩ : ∃ y_ : List ByteArray, y_ = (t181.drop 3) := ⟨_, rfl⟩
            replace H : (if y186.length + y189.length < 8796093022208 then ((desc_numbers.f kj2 (y186 ++ y189)).bind fun bt196 => (if bt196.2 = true then (desc_Parse.j1 kj2 a0 t181 bt196.1 (((bt196.1.length : Int) % 2) == 0)) else (desc_Parse.j1 kj2 a0 t181 bt196.1 true))) else (none)) = some (r1, r2, r3, r4, r5, r6, r7) := by first | (rw [hy189]; with_reducible exact H) | (have H2_ := (Option.bind_some _ _).symm.trans H; rw [hy189]; with_reducible exact H2_) | (have H2_ := (Option.bind_some _ _).symm.trans H; with_reducible exact H2_) | with_reducible exact H | (rw [hy189]; exact H) | exact H
            have Ny189 := Az.mk hy189
            clear hy189
            by_cases c12 : y186.length + y189.length < 8796093022208
            · rw [if_pos c12] at H
              have LMc12 := Az.mk c12
              clear c12
              obtain ⟨y193, hy193⟩ : ∃ y_ : List ByteArray, y_ = (y186 ++ y189) := ⟨_, rfl⟩
              replace H : ((desc_numbers.f kj2 y193).bind fun bt196 => (if bt196.2 = true then (desc_Parse.j1 kj2 a0 t181 bt196.1 (((bt196.1.length : Int) % 2) == 0)) else (desc_Parse.j1 kj2 a0 t181 bt196.1 true))) = some (r1, r2, r3, r4, r5, r6, r7) := by first | (rw [hy193]; with_reducible exact H) | (have H2_ := (Option.bind_some _ _).symm.trans H; rw [hy193]; with_reducible exact H2_) | (have H2_ := (Option.bind_some _ _).symm.trans H; with_reducible exact H2_) | with_reducible exact H | (rw [hy193]; exact H) | exact H
              have Ny193 := Az.mk hy193
              clear hy193
              replace H := Option.bind_eq_some_iff.mp H
              obtain ⟨⟨t196, t197⟩, A130, H⟩ := H
              replace H : (if t197 = true then (desc_Parse.j1 kj2 a0 t181 t196 (((t196.length : Int) % 2) == 0)) else (desc_Parse.j1 kj2 a0 t181 t196 true)) = some (r1, r2, r3, r4, r5, r6, r7) := H
              have A13 := Az.mk A130
              clear A130
              have HC14 := Az.mk H
              clear H
              try go_wp2
              have n0_ := Az.mk (Kd.R_drew HO_4.out)
              have n1_ := Az.mk (bkD BK180.out)
              have n2_ := Az.mk (pb1 HB.out)
              clear HO_4
              clear BK180
              clear HB
              have HO_4 := n0_
              have BK180 := n1_
              have HB := n2_
              clear n0_ n1_ n2_
              obtain ⟨Ao16, co16, eo16⟩ := Kd.R_slice HO_4.out
              (first | subst eo16 | (injection eo16 with f1_ f2_ f3_; have f4_ := f1_.symm; have f5_ := f3_.symm; clear f1_ f2_ f3_; subst f4_; subst f5_))
              have p185 : 0 ≤ (0 : Int) := (by omega)
              have q185 : 0 < (t181.length : Int) := of_decide_eq_true (by first | (with_reducible assumption) | assumption)
              obtain ⟨ad185, e185, hx185_0⟩ := Kd.at_string (Kd.R_reads' HO_4.out).2.2 0 p185 q185
              cases e185
              have qi185 : (0 < t181.length) = True := eq_true (by omega)
              (try rw [show ((0 : Int)).toNat = 0 from rfl] at hx185_0)
              (try rw [Addr.add_zero'] at hx185_0)
              replace p185 := eq_true p185
              replace q185 := eq_true q185
              have q17 : (3 : Int) ≤ ((t181.length : Int) : Int) := of_decide_eq_true (by first | (with_reducible assumption) | assumption)
              obtain ⟨i017, hi017, _, hsz17, _⟩ := info_parts info9
              have hroom17 : t181.length ≤ co16 := (Kd.R_reads' HO_4.out).2.1
              have hC17 : Kd.C Kd.string _ (some ad185) t181.length t181 := (Kd.R_reads' HO_4.out).2.2
              have hcut17 := cut_from (P := Tryd.prog) 79 9 .i64 Tryd.underlying79 hi017 1 hsz17 (some ad185) t181.length co16 3 (by omega) q17
              have hr17 := Kd.C_drop (m := (3 : Int).toNat) (c := co16) hC17 (by omega) hroom17
              obtain ⟨A17, hA17⟩ : ∃ A1, A1 = (if co16 = (3 : Int).toNat then (some ad185) else ((some ad185) : Option Addr).map (·.add ((3 : Int).toNat * 1))) := ⟨_, rfl⟩
              obtain ⟨c17, hc17⟩ : ∃ c1, c1 = co16 - (3 : Int).toNat := ⟨_, rfl⟩
              have hy17 : y189.length = t181.length - (3 : Int).toNat := (by rw [Ny189.out, List.length_drop] <;> omega)
              rw [show (t181).drop (3 : Int).toNat = y189 from Ny189.out.symm] at hr17
              replace hr17 : Kd.C Kd.string _ A17 y189.length y189 := (by rw [hA17]; exact hr17)
              rw [← hy17, ← hA17, ← hc17] at hcut17
              have HR192 := Az.mk hr17
              have HC192 := Az.mk (show y189.length ≤ c17 from by rw [hy17, hc17]; exact Nat.sub_le_sub_right hroom17 _)
              clear hr17 hC17 hroom17 hi017 hsz17 hc17
              have KY17 := Az.mk hy17
              have KA17 := Az.mk hA17
              clear hy17 hA17
              have KL17 := Az.mk (show 3 ≤ t181.length from by omega)
              replace q17 := eq_true q17
              refine start_ (n := 13) (S := fun w' => w'.cell? ad185 = some (.string (rdOf ByteArray.empty t181 0))) (ds := [6]) #[false, false, false, false, false, false, false, false, false, false, false, false, false] (by kernel_rfl) rfl rfl (hx185_0) (fun hHeld => ?_); refine with_tabW desc_Parse.tab4 desc_Parse.bits4 (fun HT_ HW_ => ?_)
              generalize wc.drew = w15 at HO_4 BK180 HB HR192 hx185_0 hHeld ⊢
              refine pure_ (i := 0) (N := some 22) (v := ?_) (a' := ?_) #[true, false, false, false, false, false, false, false, false, false, false, false, false] rfl rfl (any_of HT_.out (by kernel_rfl)) (fun _ _ _ h => h) (Or.inl ⟨by rfl, ?_⟩) ?_ ?_
              rotate_left
              · intro w'
                go_simp
                with_reducible rfl
              rotate_left
              · simp only [Act.put, List.setIfInBounds_toArray, List.set_cons_zero, List.set_cons_succ, i64_w, i32_w]
                rfl
              refine pure_ (i := 1) (N := some 23) (v := ?_) (a' := ?_) #[true, true, false, false, false, false, false, false, false, false, false, false, false] rfl rfl (any_of HT_.out (by kernel_rfl)) (fun _ _ _ h => h) (Or.inl ⟨by rfl, ?_⟩) ?_ ?_
              rotate_left
              · intro w'
                go_simp
                with_reducible rfl
              rotate_left
              · simp only [Act.put, List.setIfInBounds_toArray, List.set_cons_zero, List.set_cons_succ, i64_w, i32_w]
                rfl
              refine pure_ (i := 4) (N := some 26) (v := ?_) (a' := ?_) #[true, true, false, false, true, false, false, false, false, false, false, false, false] rfl rfl (any_of HT_.out (by kernel_rfl)) (fun _ _ _ h => h) (Or.inl ⟨by rfl, ?_⟩) ?_ ?_
              rotate_left
              · intro w'
                go_simp
                with_reducible rfl
              rotate_left
              · simp only [Act.put, List.setIfInBounds_toArray, List.set_cons_zero, List.set_cons_succ, i64_w, i32_w]
                rfl
              refine pure_ (i := 5) (N := some 27) (v := ?_) (a' := ?_) #[true, true, false, false, true, true, false, false, false, false, false, false, false] rfl rfl (any_of HT_.out (by kernel_rfl)) (fun _ _ _ h => h) (Or.inl ⟨by rfl, ?_⟩) ?_ ?_
              rotate_left
              · intro w'
                go_simp
                with_reducible rfl
              rotate_left
              · simp only [Act.put, List.setIfInBounds_toArray, List.set_cons_zero, List.set_cons_succ, i64_w, i32_w]
                rfl
              refine take_ (i := 2) (N := some 24) (v := ?_) (a' := ?_) #[true, true, true, false, true, true, false, false, false, false, false, false, false] rfl rfl (take_ofW HT_.out HW_.out (by kernel_rfl)) (fun _ _ _ h => h) (Or.inl ⟨by rfl, ?_⟩) hHeld ?_ ?_
              rotate_left
              · intro w' s0
                go_simp
                with_reducible rfl
              rotate_left
              · simp only [Act.put, List.setIfInBounds_toArray, List.set_cons_zero, List.set_cons_succ, i64_w, i32_w]
                rfl
              refine one_ (i := 3) (N := some 25) #[true, true, true, true, true, true, false, false, false, false, false, false, false] rfl rfl (one_of HT_.out (by kernel_rfl)) (by decide) (fun K hK => ?_)
              refine Kd.R_lit_step Kd.string _ 9 ?hg (N := 25) ?hd (xs := ([rdOf ByteArray.empty t181 0] : List ByteArray)) (inner := [.string (rdOf ByteArray.empty t181 0)]) (ok := fun _ => True) (okp := fun _ => True) ?hr ?hp (fun _ hk => hk) trivial (Below.refl _ _) (Nat.le_refl _) (by simp) ?_; (case hd => rfl); (case hg => rfl); (case hr => first | (go_simp; done) | (go_simp; rfl)); (case hp => exact (Reps.one (show Kd.M Kd.string _ _ _ (rdOf ByteArray.empty t181 0) [.string (rdOf ByteArray.empty t181 0)] from rfl) (Reps.none _ _)))
              intro v187 w18 ho19 hb hg_ hnew_
              have HS0_ := (hb.cell (World.block_lt_of_cell? _ _ (hHeld))).trans (hHeld)
              clear hg_ hnew_
              (first | rw [← Ny186.out] at ho19 | (simp only [Int.reduceToNat] at ho19; rw [← Ny186.out] at ho19))
              have n0_ := Az.mk (Kd.R_elder' (Kd.R_ext HO_4.out) (Kd.R_base ho19) hb)
              have n1_ := Az.mk (Kd.R_lower (Kd.R_new' (Kd.R_newM (M := fun k_ => (w.heap.size ≤ k_)) ho19 (pbZ (by exact pbE HB.out)) (fun k_ h_ => h_)) (Kd.R_lt (Kd.R_ext HO_4.out))) (pbZ (by exact pbE HB.out)))
              have n2_ := Az.mk (bkB (g := gb180) (o := .cells #[.int .i64 0, .string (⟨#[]⟩ : ByteArray), .string (⟨#[]⟩ : ByteArray), .int .i64 0, .slice none 0 0, .int .i64 0] 26 (0, 0)) (bk BK180.out) hb)
              have n3_ := Az.mk (Kd.C_below (by repeat (first | (with_reducible exact HR192.out) | (with_reducible refine Kd.C_alloc ?_ _) | (with_reducible refine Kd.C_drewN ?_ _) | (with_reducible refine Kd.C_drew ?_) | exact HR192.out)) hb)
              have n4_ := Az.mk (pbT (by exact pbE HB.out) hb)
              clear HO_4
              clear BK180
              clear HR192
              clear HB
              have HO_4 := n0_
              have HO188 := n1_
              have BK180 := n2_
              have HR192 := n3_
              have HB := n4_
              clear n0_ n1_ n2_ n3_ n4_
              clear hb ho19
              refine hK.out _ _ (HS0_) (fun hHeld => ?_)
              clear hK K
              refine norm_ (a' := ?_) ?_ ?_
              rotate_left
              · show Act.put _ (some 25) _ = _
                simp only [Act.put, List.setIfInBounds_toArray, List.set_cons_zero, List.set_cons_succ, i64_w, i32_w]
                rfl
              refine last_ (i := 6) (N := some 28) #[true, true, true, true, true, true, true, false, false, false, false, false, false] rfl rfl (one_of HT_.out (by kernel_rfl)) (by decide) (fun K hK => ?_)
              refine Kd.R_append_rows_step Kd.string (w0 := w) w.heap.size (by rfl) (.tmp 25) (.tmp 27) 79 9 (.string ⟨#[]⟩) 16 rfl Tryd.underlying79 info9 rfl (by decide) (by omega) v187 y186 y189 _ _ _ (fun k_ => (w.heap.size ≤ k_) ∧ some k_ ≠ (.slice (some ad185) t181.length co16 : Value).ownBlock) (fun _ => False) rfl rfl ?aO ?aR (fun _ _ h => h) (fun _ h => h.elim) ?aF ?aB ?aS ?aL ?_
              (case aR => repeat (first | exact (by repeat (first | (with_reducible exact HR192.out) | (with_reducible refine Kd.C_alloc ?_ _) | (with_reducible refine Kd.C_drewN ?_ _) | (with_reducible refine Kd.C_drew ?_) | exact HR192.out)) | (with_reducible refine Kd.C_alloc ?_ _) | (with_reducible refine Kd.C_drewN ?_ _) | (with_reducible refine Kd.C_drew ?_)))
              (case aB => exact (by exact pbE HB.out))
              (case aF => exact (fun k_ hk => ⟨(Nat.le_trans (pbZ (by exact pbE HB.out)) hk), Kd.fresh' (Kd.R_lt (Kd.R_ext HO_4.out)) k_ hk⟩))
              (case aO => exact (by (with_reducible repeat (first | apply Kd.R_alloc | apply Kd.R_drewN | apply Kd.R_drew)); exact Kd.R_mono HO188.out (fun _ hk => ⟨hk.1.1, hk.2⟩)))
              (case aS => exact (pbZ (by exact pbE HB.out)))
              (case aL => have := LMc12.out; omega)
              intro v194 w20 ho hb hg hat
              rw [← Ny193.out] at ho
              have n0_ := Az.mk (Kd.R_after (ok := (fun k_ => (w.heap.size ≤ k_))) (Kd.R_ext HO_4.out) hg hat)
              have n1_ := Az.mk (blk_grown (g := gb180) (o := .cells #[.int .i64 0, .string (⟨#[]⟩ : ByteArray), .string (⟨#[]⟩ : ByteArray), .int .i64 0, .slice none 0 0, .int .i64 0] 26 (0, 0)) (bk BK180.out) hg (Kd.R_ne HO188.out BK180.out (by decide)))
              have n2_ := Az.mk (hb)
              have n3_ := Az.mk ((show Kd.C Kd.string w20 A17 y189.length y189 from by rw [Ny189.out, KA17.out]; exact Kd.C_drop (m := 3) (c := co16) ((Kd.R_reads' (Kd.R_after (ok := (fun k_ => (w.heap.size ≤ k_))) (Kd.R_ext HO_4.out) hg hat)).2.2) KL17.out ((Kd.R_reads' (Kd.R_after (ok := (fun k_ => (w.heap.size ≤ k_))) (Kd.R_ext HO_4.out) hg hat)).2.1)))
              have n4_ := Az.mk (ho)
              clear HO_4
              clear BK180
              clear HB
              clear HR192
              clear HO188
              have HO_4 := n0_
              have BK180 := n1_
              have HB := n2_
              have HR192 := n3_
              have HO195 := n4_
              clear n0_ n1_ n2_ n3_ n4_
              clear ho hb hg hat
              obtain ⟨Ao21, co21, eo21⟩ := Kd.R_slice HO195.out
              (first | subst eo21 | (injection eo21 with f1_ f2_ f3_; have f4_ := f1_.symm; have f5_ := f3_.symm; clear f1_ f2_ f3_; subst f4_; subst f5_))
              refine hK.out _ _ ?_
              clear hK K
              refine norm_ (a' := ?_) ?_ ?_
              rotate_left
              · show Act.put _ (some 28) _ = _
                simp only [Act.put, List.setIfInBounds_toArray, List.set_cons_zero, List.set_cons_succ, i64_w, i32_w]
                rfl
              have hHeld : w20.cell? ad185 = some (.string (rdOf ByteArray.empty t181 0)) := by
                obtain ⟨adq, eq_, hxq⟩ := Kd.at_string (Kd.R_reads' HO_4.out).2.2 0 (by omega) (of_eq_true q185)
                cases eq_
                simpa [Addr.add] using hxq
              refine one_ (i := 7) (N := some 29) #[true, true, true, true, true, true, true, true, false, false, false, false, false] rfl rfl (one_of HT_.out (by kernel_rfl)) (by decide) (fun K hK => ?_)
              refine goes_ Tryd.func44 (by kernel_rfl) rfl #[.slice Ao21 y193.length co21] (by rfl) rfl rfl (by (try simp only [List.map_toArray, List.map_cons, List.map_nil]); first | done | rfl | (simp only [List.length_drop, List.length_take]; rfl)) ?_
              with_reducible refine (desc_numbers.calls kj2 _ _ y193 t196 t197 _ ?side1 ?side2 ?side3 A13.out).mono ?_
              (case side1 => exact hG.below (by exact pbE HB.out))
              (case side2 => exact Kd.C_ext (Kd.R_reads' HO195.out).2.2)
              (case side3 => exact (Kd.R_reads' HO195.out).2.1)
              rintro e w22 ⟨v198, rfl, ho0, hb⟩
              have HS0_ := (hb.cell (World.block_lt_of_cell? _ _ (hHeld))).trans (hHeld)
              refine ⟨_, rfl, ?_⟩
              have n0_ := Az.mk (Kd.R_below (Kd.R_ext HO_4.out) hb)
              have n1_ := Az.mk (Kd.R_below (Kd.R_ext HO195.out) hb)
              have n2_ := Az.mk (Kd.R_lower (Kd.R_newM (M := fun k_ => (w.heap.size ≤ k_)) ho0 (pbZ (by exact pbE HB.out)) (fun k_ h_ => h_)) (pbZ (by exact pbE HB.out)))
              have n3_ := Az.mk (bkB (g := gb180) (o := .cells #[.int .i64 0, .string (⟨#[]⟩ : ByteArray), .string (⟨#[]⟩ : ByteArray), .int .i64 0, .slice none 0 0, .int .i64 0] 26 (0, 0)) (bk BK180.out) hb)
              have n4_ := Az.mk (Kd.C_below (by repeat (first | (with_reducible exact HR192.out) | (with_reducible refine Kd.C_alloc ?_ _) | (with_reducible refine Kd.C_drewN ?_ _) | (with_reducible refine Kd.C_drew ?_) | exact HR192.out)) hb)
              have n5_ := Az.mk (pbT (by exact pbE HB.out) hb)
              clear HO_4
              clear HO195
              clear BK180
              clear HR192
              clear HB
              have HO_4 := n0_
              have HO195 := n1_
              have HO199 := n2_
              have BK180 := n3_
              have HR192 := n4_
              have HB := n5_
              clear n0_ n1_ n2_ n3_ n4_ n5_
              (try clear hb)
              (try clear hb2)
              (try clear hk)
              (try clear hi)
              (try clear ho0)
              refine hK.out _ _ (HS0_) (fun hHeld => ?_)
              clear hK K
              refine norm_ (a' := ?_) ?_ ?_
              rotate_left
              · show Act.put _ (some 29) _ = _
                simp only [Act.put, List.setIfInBounds_toArray, List.set_cons_zero, List.set_cons_succ, i64_w, i32_w]
                rfl
              refine pure_ (i := 8) (N := some 21) (v := ?_) (a' := ?_) #[true, true, true, true, true, true, true, true, true, false, false, false, false] rfl rfl (any_of HT_.out (by kernel_rfl)) (fun _ _ _ h => h) (Or.inl ⟨by rfl, ?_⟩) ?_ ?_
              rotate_left
              · intro w'
                go_simp
                with_reducible rfl
              rotate_left
              · simp only [Act.put, List.setIfInBounds_toArray, List.set_cons_zero, List.set_cons_succ, i64_w, i32_w]
                rfl
              refine pure_ (i := 9) (N := some 30) (v := ?_) (a' := ?_) #[true, true, true, true, true, true, true, true, true, true, false, false, false] rfl rfl (any_of HT_.out (by kernel_rfl)) (fun _ _ _ h => h) (Or.inl ⟨by rfl, ?_⟩) ?_ ?_
              rotate_left
              · intro w'
                go_simp
                with_reducible rfl
              rotate_left
              · simp only [Act.put, List.setIfInBounds_toArray, List.set_cons_zero, List.set_cons_succ, i64_w, i32_w]
                rfl
              refine pure_ (i := 10) (N := some 31) (v := ?_) (a' := ?_) #[true, true, true, true, true, true, true, true, true, true, true, false, false] rfl rfl (any_of HT_.out (by kernel_rfl)) (fun _ _ _ h => h) (Or.inl ⟨by rfl, ?_⟩) ?_ ?_
              rotate_left
              · intro w'
                go_simp
                with_reducible rfl
              rotate_left
              · simp only [Act.put, List.setIfInBounds_toArray, List.set_cons_zero, List.set_cons_succ, i64_w, i32_w]
                rfl
              refine pure_ (i := 11) (N := some 5) (v := ?_) (a' := ?_) #[true, true, true, true, true, true, true, true, true, true, true, true, false] rfl rfl (any_of HT_.out (by kernel_rfl)) (fun _ _ _ h => h) (Or.inl ⟨by rfl, ?_⟩) ?_ ?_
              rotate_left
              · intro w'
                go_simp
                with_reducible rfl
              rotate_left
              · simp only [Act.put, List.setIfInBounds_toArray, List.set_cons_zero, List.set_cons_succ, i64_w, i32_w]
                rfl
              refine pure_ (i := 12) (N := some 6) (v := ?_) (a' := ?_) #[true, true, true, true, true, true, true, true, true, true, true, true, true] rfl rfl (any_of HT_.out (by kernel_rfl)) (fun _ _ _ h => h) (Or.inl ⟨by rfl, ?_⟩) ?_ ?_
              rotate_left
              · intro w'
                go_simp
                with_reducible rfl
              rotate_left
              · simp only [Act.put, List.setIfInBounds_toArray, List.set_cons_zero, List.set_cons_succ, i64_w, i32_w]
                rfl
              refine done_ (done_of HT_.out (by kernel_rfl)) ?_
              go_upto_region 5 with (fail)
              go_cut [39] (fun v39 wc => ∃ (kq : Nat) (x39_13 : Bool), v39 = .bool x39_13 ∧ Az (desc_Parse.j1 kq a0 t181 t196 x39_13 = some (r1, r2, r3, r4, r5, r6, r7)) ∧ Az (kq ≤ kj2) ∧ Az (Kd.R Kd.string 9 wc w.heap.size (fun k_ => (w.heap.size ≤ k_)) (.slice (some ad185) t181.length co16) t181) ∧ Az (Kd.R (Kd.int .i64) 2 wc w.heap.size (fun k_ => (w.heap.size ≤ k_)) v198 t196) ∧ Az (wc.heap[gb180]? = some (.cells #[.int .i64 0, .string (⟨#[]⟩ : ByteArray), .string (⟨#[]⟩ : ByteArray), .int .i64 0, (.slice none 0 0), .int .i64 0] 26 (0, 0))) ∧ Az (Kd.C Kd.string wc A17 y189.length y189) ∧ Az (Below w.heap.size w wc))
              case first =>
                have H := HC14.out
                clear HC14
                by_cases c23 : t197 = true
                · subst c23
                  have H1 : (desc_Parse.j1 kj2 a0 t181 t196 (((t196.length : Int) % 2) == 0)) = some (r1, r2, r3, r4, r5, r6, r7) := by rw [if_pos rfl] at H; exact H
                  clear H
                  have H := H1
                  clear H1
                  have H' := Az.mk H
                  clear H
                  obtain ⟨Ao24, co24, eo24⟩ := Kd.R_slice HO199.out
                  subst eo24
                  go_wp2
                  go_meet
                  case rel => exact ⟨_, ((((t196.length : Int) % 2) == 0)), (by first | rfl | (simp; done) | (simp [*]; done)), H', ⟨by have := HJ2.out; first | omega | exact Nat.le_refl _⟩, ⟨by (with_reducible repeat (first | apply Kd.R_alloc | apply Kd.R_drewN | apply Kd.R_drew)); exact Kd.R_mono HO_4.out (fun _ hk => hk.1)⟩, ⟨by (with_reducible repeat (first | apply Kd.R_alloc | apply Kd.R_drewN | apply Kd.R_drew)); exact Kd.R_mono HO199.out (fun _ hk => hk.1)⟩, ⟨by refine bk ?_; exact BK180.out⟩, ⟨by repeat (first | (with_reducible exact HR192.out) | (with_reducible refine Kd.C_alloc ?_ _) | (with_reducible refine Kd.C_drewN ?_ _) | (with_reducible refine Kd.C_drew ?_) | exact HR192.out)⟩, ⟨by exact pbE HB.out⟩⟩
                · replace c23 := Bool.eq_false_iff.mpr c23
                  subst c23
                  have H1 : (desc_Parse.j1 kj2 a0 t181 t196 true) = some (r1, r2, r3, r4, r5, r6, r7) := by rw [if_neg (show ¬ (false = true) by decide)] at H; exact H
                  clear H
                  have H := H1
                  clear H1
                  have H' := Az.mk H
                  clear H
                  go_wp2
                  go_meet
                  case rel => exact ⟨_, (true), (by first | rfl | (simp; done) | (simp [*]; done)), H', ⟨by have := HJ2.out; first | omega | exact Nat.le_refl _⟩, ⟨by (with_reducible repeat (first | apply Kd.R_alloc | apply Kd.R_drewN | apply Kd.R_drew)); exact Kd.R_mono HO_4.out (fun _ hk => hk.1)⟩, ⟨by (with_reducible repeat (first | apply Kd.R_alloc | apply Kd.R_drewN | apply Kd.R_drew)); exact Kd.R_mono HO199.out (fun _ hk => hk.1)⟩, ⟨by refine bk ?_; exact BK180.out⟩, ⟨by repeat (first | (with_reducible exact HR192.out) | (with_reducible refine Kd.C_alloc ?_ _) | (with_reducible refine Kd.C_drewN ?_ _) | (with_reducible refine Kd.C_drew ?_) | exact HR192.out)⟩, ⟨by exact pbE HB.out⟩⟩
              case rest =>
                clear HC14
                try clear c1
                try clear p1
                try clear q1
                try clear hx1
                try clear qi1
                try clear c2
                try clear p2
                try clear c4
                try clear c6
                try clear c6b0
                try clear c6b1
                try clear c8
                try clear c10
                try clear c10b0
                try clear c10b1
                try clear c11
                try clear c11b0
                try clear c11b1
                try clear c12
                try clear c17
                try clear q17
                try clear p18
                try clear q18
                try clear hx18
                try clear qi18
                try clear c21
                try clear c23
                try clear hcz9_0
                try clear hcz9_1
                try clear hcz9_2
                try clear hcz9_3
                try clear hcz9_4
                try clear hcz9_5
                try clear hfz9_0
                try clear hfz9_1
                try clear hfz9_2
                try clear hfz9_3
                try clear hfz9_4
                try clear hfz9_5
                try clear hx185_0
                try clear p185
                try clear p2
                try clear q17
                try clear q185
                obtain ⟨kq, x39_13, rfl, HA, HJ13, HO_4, HO_5, BK180, HR192, HB⟩ := hcut
                cases kq with
                | zero => exact absurd HA.out (by simp [desc_Parse.j1])
                | succ kj13 =>
                  have H := HA.out
                  clear HA
                  simp only [desc_Parse.j1] at H
                  by_cases c25 : x39_13 = true
                  · subst c25
                    have H1 : (some (0, (⟨#[]⟩ : ByteArray), (⟨#[]⟩ : ByteArray), 0, ([] : List (S60)), 0, 60)) = some (r1, r2, r3, r4, r5, r6, r7) := by rw [if_pos rfl] at H; exact H
                    clear H
                    have H := H1
                    clear H1
                    simp only [Option.some.injEq, Prod.mk.injEq] at H
                    obtain ⟨rfl, rfl, rfl, rfl, rfl, rfl, rfl⟩ := H
                    have hcz26_0 : wc.cell? ⟨gb180, 0, none⟩ = some (.int .i64 0) := (bkC BK180.out 0).trans rfl
                    have hcz26_1 : wc.cell? ⟨gb180, 1, none⟩ = some (.string (⟨#[]⟩ : ByteArray)) := (bkC BK180.out 1).trans rfl
                    have hcz26_2 : wc.cell? ⟨gb180, 2, none⟩ = some (.string (⟨#[]⟩ : ByteArray)) := (bkC BK180.out 2).trans rfl
                    have hcz26_3 : wc.cell? ⟨gb180, 3, none⟩ = some (.int .i64 0) := (bkC BK180.out 3).trans rfl
                    have hcz26_4 : wc.cell? ⟨gb180, 4, none⟩ = some (.slice none 0 0) := (bkC BK180.out 4).trans rfl
                    have hcz26_5 : wc.cell? ⟨gb180, 5, none⟩ = some (.int .i64 0) := (bkC BK180.out 5).trans rfl
                    have hfz26_0 := bkF BK180.out 0
                    have hfz26_1 := bkF BK180.out 1
                    have hfz26_2 := bkF BK180.out 2
                    have hfz26_3 := bkF BK180.out 3
                    have hfz26_4 := bkF BK180.out 4
                    have hfz26_5 := bkF BK180.out 5
                    go_wp2
                    refine bodyPost_retM (results_ct rfl _ _ gb180 26 #[.int .i64 0, .string (⟨#[]⟩ : ByteArray), .string (⟨#[]⟩ : ByteArray), .int .i64 0, .slice none 0 0, .int .i64 0] (0, 0) _ rfl (by refine bk ?_; refine blk_put (cs := #[.int .i64 0, .string (⟨#[]⟩ : ByteArray), .string (⟨#[]⟩ : ByteArray), .int .i64 0, .slice none 0 0, .int .i64 0]) ?_ 5 _ rfl; refine bk ?_; refine blk_put (cs := #[.int .i64 0, .string (⟨#[]⟩ : ByteArray), .string (⟨#[]⟩ : ByteArray), .int .i64 0, .slice none 0 0, .int .i64 0]) ?_ 4 _ rfl; refine bk ?_; refine blk_put (cs := #[.int .i64 0, .string (⟨#[]⟩ : ByteArray), .string (⟨#[]⟩ : ByteArray), .int .i64 0, .slice none 0 0, .int .i64 0]) ?_ 3 _ rfl; refine bk ?_; refine blk_put (cs := #[.int .i64 0, .string (⟨#[]⟩ : ByteArray), .string (⟨#[]⟩ : ByteArray), .int .i64 0, .slice none 0 0, .int .i64 0]) ?_ 2 _ rfl; refine bk ?_; refine blk_put (cs := #[.int .i64 0, .string (⟨#[]⟩ : ByteArray), .string (⟨#[]⟩ : ByteArray), .int .i64 0, .slice none 0 0, .int .i64 0]) ?_ 1 _ rfl; refine bk ?_; refine blk_put (cs := #[.int .i64 0, .string (⟨#[]⟩ : ByteArray), .string (⟨#[]⟩ : ByteArray), .int .i64 0, .slice none 0 0, .int .i64 0]) ?_ 0 _ rfl; refine bk ?_; exact BK180.out) Tryd.underlying26 rfl (by kernel_rfl)) rfl ?_
                    exact ⟨_, by first | rfl | (simp [errW_none, errW_some] <;> rfl) | (simp [*, errW_none, errW_some] <;> rfl), Kd.V_nil _ _ _ _ _, by exact pbE HB.out⟩
                  · replace c25 := Bool.eq_false_iff.mpr c25
                    subst c25
                    have H1 : (if 0 < (t196.length : Int) then (if 1 < (t181.length : Int) then (if 2 < (t181.length : Int) then (if 1 < (t196.length : Int) then (if 2 < (t196.length : Int) then ((slices_Chunk_int64_int64.f t196 2).bind fun t205 => ((desc_Put.f kj13 (rd t196 0) (rdOf ByteArray.empty t181 1) (rdOf ByteArray.empty t181 2) (rd t196 1) t205 (rd t196 2)).bind fun t208 => (if t208.toList = a0.toList then ((desc_right.f (rd t196 0) (rdOf ByteArray.empty t181 1) (rdOf ByteArray.empty t181 2) (rd t196 1) t205 (rd t196 2)).bind fun bt209 => (some (bt209.1, bt209.2.1, bt209.2.2.1, bt209.2.2.2.1, bt209.2.2.2.2.1, bt209.2.2.2.2.2.1, bt209.2.2.2.2.2.2))) else (some (0, (⟨#[]⟩ : ByteArray), (⟨#[]⟩ : ByteArray), 0, ([] : List (S60)), 0, 60))))) else (none)) else (none)) else (none)) else (none)) else (none)) = some (r1, r2, r3, r4, r5, r6, r7) := by rw [if_neg (show ¬ (false = true) by decide)] at H; exact H
                    clear H
                    have H := H1
                    clear H1
                    by_cases c27 : 0 < (t196.length : Int)
                    · rw [if_pos c27] at H
                      have c27b0 : decide (0 < (t196.length : Int)) = true := decide_eq_true c27
                      have c27b1 : decide (0 < t196.length) = true := decide_eq_true (by omega)
                      clear c27
                      by_cases c28 : 1 < (t181.length : Int)
                      · rw [if_pos c28] at H
                        have c28b0 : decide (1 < (t181.length : Int)) = true := decide_eq_true c28
                        have c28b1 : decide (1 < t181.length) = true := decide_eq_true (by omega)
                        clear c28
                        by_cases c29 : 2 < (t181.length : Int)
                        · rw [if_pos c29] at H
                          have c29b0 : decide (2 < (t181.length : Int)) = true := decide_eq_true c29
                          have c29b1 : decide (2 < t181.length) = true := decide_eq_true (by omega)
                          clear c29
                          by_cases c30 : 1 < (t196.length : Int)
                          · rw [if_pos c30] at H
                            have c30b0 : decide (1 < (t196.length : Int)) = true := decide_eq_true c30
                            have c30b1 : decide (1 < t196.length) = true := decide_eq_true (by omega)
                            clear c30
                            by_cases c31 : 2 < (t196.length : Int)
                            · rw [if_pos c31] at H
                              have c31b0 : decide (2 < (t196.length : Int)) = true := decide_eq_true c31
                              have c31b1 : decide (2 < t196.length) = true := decide_eq_true (by omega)
                              clear c31
                              replace H := Option.bind_eq_some_iff.mp H
                              obtain ⟨t205, A320, H⟩ := H
                              replace H : ((desc_Put.f kj13 (rd t196 0) (rdOf ByteArray.empty t181 1) (rdOf ByteArray.empty t181 2) (rd t196 1) t205 (rd t196 2)).bind fun t208 => (if t208.toList = a0.toList then ((desc_right.f (rd t196 0) (rdOf ByteArray.empty t181 1) (rdOf ByteArray.empty t181 2) (rd t196 1) t205 (rd t196 2)).bind fun bt209 => (some (bt209.1, bt209.2.1, bt209.2.2.1, bt209.2.2.2.1, bt209.2.2.2.2.1, bt209.2.2.2.2.2.1, bt209.2.2.2.2.2.2))) else (some (0, (⟨#[]⟩ : ByteArray), (⟨#[]⟩ : ByteArray), 0, ([] : List (S60)), 0, 60)))) = some (r1, r2, r3, r4, r5, r6, r7) := H
                              have A32 := Az.mk A320
                              clear A320
                              replace H := Option.bind_eq_some_iff.mp H
                              obtain ⟨t208, A330, H⟩ := H
                              replace H : (if t208.toList = a0.toList then ((desc_right.f (rd t196 0) (rdOf ByteArray.empty t181 1) (rdOf ByteArray.empty t181 2) (rd t196 1) t205 (rd t196 2)).bind fun bt209 => (some (bt209.1, bt209.2.1, bt209.2.2.1, bt209.2.2.2.1, bt209.2.2.2.2.1, bt209.2.2.2.2.2.1, bt209.2.2.2.2.2.2))) else (some (0, (⟨#[]⟩ : ByteArray), (⟨#[]⟩ : ByteArray), 0, ([] : List (S60)), 0, 60))) = some (r1, r2, r3, r4, r5, r6, r7) := H
                              have A33 := Az.mk A330
                              clear A330
                              by_cases c34 : t208.toList = a0.toList
                              · rw [if_pos c34] at H
                                have c34b0 : (t208.toList == a0.toList) = true := beq_iff_eq.mpr c34
                                have c34b1 : (t208.toList != a0.toList) = false := bne_eq_false_iff_eq.mpr c34
                                clear c34
                                replace H := Option.bind_eq_some_iff.mp H
                                obtain ⟨⟨t209, t210, t211, t212, t213, t216, t217⟩, A350, H⟩ := H
                                replace H : (some (t209, t210, t211, t212, t213, t216, t217)) = some (r1, r2, r3, r4, r5, r6, r7) := H
                                have A35 := Az.mk A350
                                clear A350
                                simp only [Option.some.injEq, Prod.mk.injEq] at H
                                obtain ⟨rfl, rfl, rfl, rfl, rfl, rfl, rfl⟩ := H
                                try go_wp2
                                have n0_ := Az.mk (Kd.R_drew HO_4.out)
                                have n1_ := Az.mk (Kd.R_drew HO_5.out)
                                have n2_ := Az.mk (bkD BK180.out)
                                have n3_ := Az.mk (Kd.C_drew HR192.out)
                                have n4_ := Az.mk (pb1 HB.out)
                                clear HO_4
                                clear HO_5
                                clear BK180
                                clear HR192
                                clear HB
                                have HO_4 := n0_
                                have HO_5 := n1_
                                have BK180 := n2_
                                have HR192 := n3_
                                have HB := n4_
                                clear n0_ n1_ n2_ n3_ n4_
                                obtain ⟨Ao37, co37, eo37⟩ := Kd.R_slice HO_5.out
                                (first | subst eo37 | (injection eo37 with f1_ f2_ f3_; have f4_ := f1_.symm; have f5_ := f3_.symm; clear f1_ f2_ f3_; subst f4_; subst f5_))
                                have p200 : 0 ≤ (0 : Int) := (by omega)
                                have q200 : 0 < (t196.length : Int) := of_decide_eq_true (by first | (with_reducible assumption) | assumption)
                                obtain ⟨ad200, e200, hx200_0⟩ := Kd.at_int (Kd.R_reads' HO_5.out).2.2 0 p200 q200
                                cases e200
                                have qi200 : (0 < t196.length) = True := eq_true (by omega)
                                (try rw [show ((0 : Int)).toNat = 0 from rfl] at hx200_0)
                                (try rw [Addr.add_zero'] at hx200_0)
                                replace p200 := eq_true p200
                                replace q200 := eq_true q200
                                have p201 : 0 ≤ (1 : Int) := (by omega)
                                have q201 : 1 < (t181.length : Int) := of_decide_eq_true (by first | (with_reducible assumption) | assumption)
                                obtain ⟨ad201, e201, hx201_0⟩ := Kd.at_string (Kd.R_reads' HO_4.out).2.2 1 p201 q201
                                obtain rfl : ad185 = ad201 := (by injection e201)
                                (try simp only [show (1 : Int).toNat = 1 from rfl, Nat.reduceMul, Nat.reduceEqDiff, Go.Addr.add, ↓reduceIte] at hx201_0)
                                have qi201 : (1 < t181.length) = True := eq_true (by omega)
                                (try rw [show ((1 : Int)).toNat = 1 from rfl] at hx201_0)
                                replace p201 := eq_true p201
                                replace q201 := eq_true q201
                                have p202 : 0 ≤ (2 : Int) := (by omega)
                                have q202 : 2 < (t181.length : Int) := of_decide_eq_true (by first | (with_reducible assumption) | assumption)
                                obtain ⟨ad202, e202, hx202_0⟩ := Kd.at_string (Kd.R_reads' HO_4.out).2.2 2 p202 q202
                                obtain rfl : ad185 = ad202 := (by injection e202)
                                (try simp only [show (2 : Int).toNat = 2 from rfl, Nat.reduceMul, Nat.reduceEqDiff, Go.Addr.add, ↓reduceIte] at hx202_0)
                                have qi202 : (2 < t181.length) = True := eq_true (by omega)
                                (try rw [show ((2 : Int)).toNat = 2 from rfl] at hx202_0)
                                replace p202 := eq_true p202
                                replace q202 := eq_true q202
                                have p203 : 0 ≤ (1 : Int) := (by omega)
                                have q203 : 1 < (t196.length : Int) := of_decide_eq_true (by first | (with_reducible assumption) | assumption)
                                obtain ⟨ad203, e203, hx203_0⟩ := Kd.at_int (Kd.R_reads' HO_5.out).2.2 1 p203 q203
                                obtain rfl : ad200 = ad203 := (by injection e203)
                                (try simp only [show (1 : Int).toNat = 1 from rfl, Nat.reduceMul, Nat.reduceEqDiff, Go.Addr.add, ↓reduceIte] at hx203_0)
                                have qi203 : (1 < t196.length) = True := eq_true (by omega)
                                (try rw [show ((1 : Int)).toNat = 1 from rfl] at hx203_0)
                                replace p203 := eq_true p203
                                replace q203 := eq_true q203
                                have p204 : 0 ≤ (2 : Int) := (by omega)
                                have q204 : 2 < (t196.length : Int) := of_decide_eq_true (by first | (with_reducible assumption) | assumption)
                                obtain ⟨ad204, e204, hx204_0⟩ := Kd.at_int (Kd.R_reads' HO_5.out).2.2 2 p204 q204
                                obtain rfl : ad200 = ad204 := (by injection e204)
                                (try simp only [show (2 : Int).toNat = 2 from rfl, Nat.reduceMul, Nat.reduceEqDiff, Go.Addr.add, ↓reduceIte] at hx204_0)
                                have qi204 : (2 < t196.length) = True := eq_true (by omega)
                                (try rw [show ((2 : Int)).toNat = 2 from rfl] at hx204_0)
                                replace p204 := eq_true p204
                                replace q204 := eq_true q204
                                refine start_ (n := 18) (S := fun w' => w'.cell? ad200 = some (.int .i64 (rd t196 0)) ∧ w'.cell? ⟨ad185.block, ad185.off + 1, none⟩ = some (.string (rdOf ByteArray.empty t181 1)) ∧ w'.cell? ⟨ad185.block, ad185.off + 2, none⟩ = some (.string (rdOf ByteArray.empty t181 2)) ∧ w'.cell? ⟨ad200.block, ad200.off + 1, none⟩ = some (.int .i64 (rd t196 1)) ∧ w'.cell? ⟨ad200.block, ad200.off + 2, none⟩ = some (.int .i64 (rd t196 2))) (ds := []) #[false, false, false, false, false, false, false, false, false, false, false, false, false, false, false, false, false, false] (by kernel_rfl) rfl rfl ⟨hx200_0, hx201_0, hx202_0, hx203_0, hx204_0⟩ (fun hHeld => ?_); refine with_tabW desc_Parse.tab7 desc_Parse.bits7 (fun HT_ HW_ => ?_)
                                generalize wc.drew = w36 at HO_4 HO_5 BK180 HR192 HB hx200_0 hx201_0 hx202_0 hx203_0 hx204_0 hHeld ⊢
                                refine pure_ (i := 0) (N := some 41) (v := ?_) (a' := ?_) #[true, false, false, false, false, false, false, false, false, false, false, false, false, false, false, false, false, false] rfl rfl (any_of HT_.out (by kernel_rfl)) (fun _ _ _ h => h) (Or.inl ⟨by rfl, ?_⟩) ?_ ?_
                                rotate_left
                                · intro w'
                                  go_simp
                                  with_reducible rfl
                                rotate_left
                                · simp only [Act.put, List.setIfInBounds_toArray, List.set_cons_zero, List.set_cons_succ, i64_w, i32_w]
                                  rfl
                                refine pure_ (i := 1) (N := some 42) (v := ?_) (a' := ?_) #[true, true, false, false, false, false, false, false, false, false, false, false, false, false, false, false, false, false] rfl rfl (any_of HT_.out (by kernel_rfl)) (fun _ _ _ h => h) (Or.inl ⟨by rfl, ?_⟩) ?_ ?_
                                rotate_left
                                · intro w'
                                  go_simp
                                  with_reducible rfl
                                rotate_left
                                · simp only [Act.put, List.setIfInBounds_toArray, List.set_cons_zero, List.set_cons_succ, i64_w, i32_w]
                                  rfl
                                refine pure_ (i := 3) (N := some 44) (v := ?_) (a' := ?_) #[true, true, false, true, false, false, false, false, false, false, false, false, false, false, false, false, false, false] rfl rfl (any_of HT_.out (by kernel_rfl)) (fun _ _ _ h => h) (Or.inl ⟨by rfl, ?_⟩) ?_ ?_
                                rotate_left
                                · intro w'
                                  go_simp
                                  with_reducible rfl
                                rotate_left
                                · simp only [Act.put, List.setIfInBounds_toArray, List.set_cons_zero, List.set_cons_succ, i64_w, i32_w]
                                  rfl
                                refine pure_ (i := 4) (N := some 45) (v := ?_) (a' := ?_) #[true, true, false, true, true, false, false, false, false, false, false, false, false, false, false, false, false, false] rfl rfl (any_of HT_.out (by kernel_rfl)) (fun _ _ _ h => h) (Or.inl ⟨by rfl, ?_⟩) ?_ ?_
                                rotate_left
                                · intro w'
                                  go_simp
                                  with_reducible rfl
                                rotate_left
                                · simp only [Act.put, List.setIfInBounds_toArray, List.set_cons_zero, List.set_cons_succ, i64_w, i32_w]
                                  rfl
                                refine pure_ (i := 6) (N := some 47) (v := ?_) (a' := ?_) #[true, true, false, true, true, false, true, false, false, false, false, false, false, false, false, false, false, false] rfl rfl (any_of HT_.out (by kernel_rfl)) (fun _ _ _ h => h) (Or.inl ⟨by rfl, ?_⟩) ?_ ?_
                                rotate_left
                                · intro w'
                                  go_simp
                                  with_reducible rfl
                                rotate_left
                                · simp only [Act.put, List.setIfInBounds_toArray, List.set_cons_zero, List.set_cons_succ, i64_w, i32_w]
                                  rfl
                                refine pure_ (i := 7) (N := some 48) (v := ?_) (a' := ?_) #[true, true, false, true, true, false, true, true, false, false, false, false, false, false, false, false, false, false] rfl rfl (any_of HT_.out (by kernel_rfl)) (fun _ _ _ h => h) (Or.inl ⟨by rfl, ?_⟩) ?_ ?_
                                rotate_left
                                · intro w'
                                  go_simp
                                  with_reducible rfl
                                rotate_left
                                · simp only [Act.put, List.setIfInBounds_toArray, List.set_cons_zero, List.set_cons_succ, i64_w, i32_w]
                                  rfl
                                refine pure_ (i := 10) (N := some 51) (v := ?_) (a' := ?_) #[true, true, false, true, true, false, true, true, false, false, true, false, false, false, false, false, false, false] rfl rfl (any_of HT_.out (by kernel_rfl)) (fun _ _ _ h => h) (Or.inl ⟨by rfl, ?_⟩) ?_ ?_
                                rotate_left
                                · intro w'
                                  go_simp
                                  with_reducible rfl
                                rotate_left
                                · simp only [Act.put, List.setIfInBounds_toArray, List.set_cons_zero, List.set_cons_succ, i64_w, i32_w]
                                  rfl
                                refine pure_ (i := 11) (N := some 52) (v := ?_) (a' := ?_) #[true, true, false, true, true, false, true, true, false, false, true, true, false, false, false, false, false, false] rfl rfl (any_of HT_.out (by kernel_rfl)) (fun _ _ _ h => h) (Or.inl ⟨by rfl, ?_⟩) ?_ ?_
                                rotate_left
                                · intro w'
                                  go_simp
                                  with_reducible rfl
                                rotate_left
                                · simp only [Act.put, List.setIfInBounds_toArray, List.set_cons_zero, List.set_cons_succ, i64_w, i32_w]
                                  rfl
                                refine pure_ (i := 13) (N := some 54) (v := ?_) (a' := ?_) #[true, true, false, true, true, false, true, true, false, false, true, true, false, true, false, false, false, false] rfl rfl (any_of HT_.out (by kernel_rfl)) (fun _ _ _ h => h) (Or.inl ⟨by rfl, ?_⟩) ?_ ?_
                                rotate_left
                                · intro w'
                                  go_simp
                                  with_reducible rfl
                                rotate_left
                                · simp only [Act.put, List.setIfInBounds_toArray, List.set_cons_zero, List.set_cons_succ, i64_w, i32_w]
                                  rfl
                                refine pure_ (i := 14) (N := some 55) (v := ?_) (a' := ?_) #[true, true, false, true, true, false, true, true, false, false, true, true, false, true, true, false, false, false] rfl rfl (any_of HT_.out (by kernel_rfl)) (fun _ _ _ h => h) (Or.inl ⟨by rfl, ?_⟩) ?_ ?_
                                rotate_left
                                · intro w'
                                  go_simp
                                  with_reducible rfl
                                rotate_left
                                · simp only [Act.put, List.setIfInBounds_toArray, List.set_cons_zero, List.set_cons_succ, i64_w, i32_w]
                                  rfl
                                refine take_ (i := 2) (N := some 43) (v := ?_) (a' := ?_) #[true, true, true, true, true, false, true, true, false, false, true, true, false, true, true, false, false, false] rfl rfl (take_ofW HT_.out HW_.out (by kernel_rfl)) (fun _ _ _ h => h) (Or.inl ⟨by rfl, ?_⟩) hHeld ?_ ?_
                                rotate_left
                                · rintro w' ⟨s0, s1, s2, s3, s4⟩
                                  go_simp
                                  with_reducible rfl
                                rotate_left
                                · simp only [Act.put, List.setIfInBounds_toArray, List.set_cons_zero, List.set_cons_succ, i64_w, i32_w]
                                  rfl
                                refine take_ (i := 5) (N := some 46) (v := ?_) (a' := ?_) #[true, true, true, true, true, true, true, true, false, false, true, true, false, true, true, false, false, false] rfl rfl (take_ofW HT_.out HW_.out (by kernel_rfl)) (fun _ _ _ h => h) (Or.inl ⟨by rfl, ?_⟩) hHeld ?_ ?_
                                rotate_left
                                · rintro w' ⟨s0, s1, s2, s3, s4⟩
                                  go_simp
                                  with_reducible rfl
                                rotate_left
                                · simp only [Act.put, List.setIfInBounds_toArray, List.set_cons_zero, List.set_cons_succ, i64_w, i32_w]
                                  rfl
                                refine take_ (i := 8) (N := some 49) (v := ?_) (a' := ?_) #[true, true, true, true, true, true, true, true, true, false, true, true, false, true, true, false, false, false] rfl rfl (take_ofW HT_.out HW_.out (by kernel_rfl)) (fun _ _ _ h => h) (Or.inl ⟨by rfl, ?_⟩) hHeld ?_ ?_
                                rotate_left
                                · rintro w' ⟨s0, s1, s2, s3, s4⟩
                                  go_simp
                                  with_reducible rfl
                                rotate_left
                                · simp only [Act.put, List.setIfInBounds_toArray, List.set_cons_zero, List.set_cons_succ, i64_w, i32_w]
                                  rfl
                                refine pure_ (i := 9) (N := some 50) (v := ?_) (a' := ?_) #[true, true, true, true, true, true, true, true, true, true, true, true, false, true, true, false, false, false] rfl rfl (any_of HT_.out (by kernel_rfl)) (fun _ _ _ h => h) (Or.inl ⟨by rfl, ?_⟩) ?_ ?_
                                rotate_left
                                · intro w'
                                  go_simp
                                  with_reducible rfl
                                rotate_left
                                · simp only [Act.put, List.setIfInBounds_toArray, List.set_cons_zero, List.set_cons_succ, i64_w, i32_w]
                                  rfl
                                refine take_ (i := 12) (N := some 53) (v := ?_) (a' := ?_) #[true, true, true, true, true, true, true, true, true, true, true, true, true, true, true, false, false, false] rfl rfl (take_ofW HT_.out HW_.out (by kernel_rfl)) (fun _ _ _ h => h) (Or.inl ⟨by rfl, ?_⟩) hHeld ?_ ?_
                                rotate_left
                                · rintro w' ⟨s0, s1, s2, s3, s4⟩
                                  go_simp
                                  with_reducible rfl
                                rotate_left
                                · simp only [Act.put, List.setIfInBounds_toArray, List.set_cons_zero, List.set_cons_succ, i64_w, i32_w]
                                  rfl
                                refine take_ (i := 15) (N := some 56) (v := ?_) (a' := ?_) #[true, true, true, true, true, true, true, true, true, true, true, true, true, true, true, true, false, false] rfl rfl (take_ofW HT_.out HW_.out (by kernel_rfl)) (fun _ _ _ h => h) (Or.inl ⟨by rfl, ?_⟩) hHeld ?_ ?_
                                rotate_left
                                · rintro w' ⟨s0, s1, s2, s3, s4⟩
                                  go_simp
                                  with_reducible rfl
                                rotate_left
                                · simp only [Act.put, List.setIfInBounds_toArray, List.set_cons_zero, List.set_cons_succ, i64_w, i32_w]
                                  rfl
                                refine pure_ (i := 16) (N := some 57) (v := ?_) (a' := ?_) #[true, true, true, true, true, true, true, true, true, true, true, true, true, true, true, true, true, false] rfl rfl (any_of HT_.out (by kernel_rfl)) (fun _ _ _ h => h) (Or.inl ⟨by rfl, ?_⟩) ?_ ?_
                                rotate_left
                                · intro w'
                                  go_simp
                                  with_reducible rfl
                                rotate_left
                                · simp only [Act.put, List.setIfInBounds_toArray, List.set_cons_zero, List.set_cons_succ, i64_w, i32_w]
                                  rfl
                                refine one_ (i := 17) (N := none) #[true, true, true, true, true, true, true, true, true, true, true, true, true, true, true, true, true, true] rfl rfl (one_of HT_.out (by kernel_rfl)) (by decide) (fun K hK => ?_)
                                have hs38 : w36.cell? ⟨gb180, 0, none⟩ = some (.int .i64 0) := (bkC BK180.out 0).trans rfl
                                have hfs38 := bkF BK180.out 0
                                have hs39 : w36.cell? ⟨gb180, 1, none⟩ = some (.string (⟨#[]⟩ : ByteArray)) := (bkC BK180.out 1).trans rfl
                                have hfs39 := bkF BK180.out 1
                                have hs40 : w36.cell? ⟨gb180, 2, none⟩ = some (.string (⟨#[]⟩ : ByteArray)) := (bkC BK180.out 2).trans rfl
                                have hfs40 := bkF BK180.out 2
                                have hs41 : w36.cell? ⟨gb180, 3, none⟩ = some (.int .i64 0) := (bkC BK180.out 3).trans rfl
                                have hfs41 := bkF BK180.out 3
                                have hs42 : w36.cell? ⟨gb180, 4, none⟩ = some (.slice none 0 0) := (bkC BK180.out 4).trans rfl
                                have hfs42 := bkF BK180.out 4
                                have hs43 : w36.cell? ⟨gb180, 5, none⟩ = some (.int .i64 0) := (bkC BK180.out 5).trans rfl
                                have hfs43 := bkF BK180.out 5
                                refine skip_ (w1 := ?_) (by rfl) rfl ?_ ?_
                                rotate_left
                                · go_simp
                                  rfl
                                have neHO_4_ := Kd.own_blk (Kd.R_ne HO_4.out BK180.out (by decide))
                                have neHO_5_ := Kd.own_blk (Kd.R_ne HO_5.out BK180.out (by decide))
                                have qq0_ := cell_set6 (g := gb180) (a := ad200) neHO_5_ hHeld.1 (.int .i64 (rd t196 0)) (.string (rdOf ByteArray.empty t181 1)) (.string (rdOf ByteArray.empty t181 2)) (.int .i64 (rd t196 1)) (.slice none 0 0) (.int .i64 (rd t196 2))
                                have qq1_ := cell_set6 (g := gb180) (a := ⟨ad185.block, ad185.off + 1, none⟩) neHO_4_ hHeld.2.1 (.int .i64 (rd t196 0)) (.string (rdOf ByteArray.empty t181 1)) (.string (rdOf ByteArray.empty t181 2)) (.int .i64 (rd t196 1)) (.slice none 0 0) (.int .i64 (rd t196 2))
                                have qq2_ := cell_set6 (g := gb180) (a := ⟨ad185.block, ad185.off + 2, none⟩) neHO_4_ hHeld.2.2.1 (.int .i64 (rd t196 0)) (.string (rdOf ByteArray.empty t181 1)) (.string (rdOf ByteArray.empty t181 2)) (.int .i64 (rd t196 1)) (.slice none 0 0) (.int .i64 (rd t196 2))
                                have qq3_ := cell_set6 (g := gb180) (a := ⟨ad200.block, ad200.off + 1, none⟩) neHO_5_ hHeld.2.2.2.1 (.int .i64 (rd t196 0)) (.string (rdOf ByteArray.empty t181 1)) (.string (rdOf ByteArray.empty t181 2)) (.int .i64 (rd t196 1)) (.slice none 0 0) (.int .i64 (rd t196 2))
                                have qq4_ := cell_set6 (g := gb180) (a := ⟨ad200.block, ad200.off + 2, none⟩) neHO_5_ hHeld.2.2.2.2 (.int .i64 (rd t196 0)) (.string (rdOf ByteArray.empty t181 1)) (.string (rdOf ByteArray.empty t181 2)) (.int .i64 (rd t196 1)) (.slice none 0 0) (.int .i64 (rd t196 2))
                                refine hK.out _ _ ⟨qq0_, qq1_, qq2_, qq3_, qq4_⟩ ?_
                                intro hHeld
                                clear hK K
                                refine done_ (done_of HT_.out (by kernel_rfl)) ?_
                                skip
                                have n0_ : Az (Kd.R Kd.string 9 ((((((w36.setCell ⟨gb180, 0, none⟩ (.int .i64 (rd t196 0))).setCell ⟨gb180, 1, none⟩ (.string (rdOf ByteArray.empty t181 1))).setCell ⟨gb180, 2, none⟩ (.string (rdOf ByteArray.empty t181 2))).setCell ⟨gb180, 3, none⟩ (.int .i64 (rd t196 1))).setCell ⟨gb180, 4, none⟩ (.slice none 0 0)).setCell ⟨gb180, 5, none⟩ (.int .i64 (rd t196 2))) w.heap.size (fun k_ => (w.heap.size ≤ k_)) (.slice (some ad185) t181.length co16) t181) := ⟨by (with_reducible repeat (first | apply Kd.R_alloc | apply Kd.R_drewN | apply Kd.R_drew)); exact Kd.R_mono (Kd.R_far (p := ⟨gb180, 5, none⟩) (Kd.R_far (p := ⟨gb180, 4, none⟩) (Kd.R_far (p := ⟨gb180, 3, none⟩) (Kd.R_far (p := ⟨gb180, 2, none⟩) (Kd.R_far (p := ⟨gb180, 1, none⟩) (Kd.R_far (p := ⟨gb180, 0, none⟩) (Kd.R_types HO_4.out BK180.out (by decide)) (fun _ hk => hk.2) (.int .i64 (rd t196 0))) (fun _ hk => hk.2) (.string (rdOf ByteArray.empty t181 1))) (fun _ hk => hk.2) (.string (rdOf ByteArray.empty t181 2))) (fun _ hk => hk.2) (.int .i64 (rd t196 1))) (fun _ hk => hk.2) (.slice none 0 0)) (fun _ hk => hk.2) (.int .i64 (rd t196 2))) (fun _ hk => hk.1)⟩
                                have n1_ : Az (Kd.R (Kd.int .i64) 2 ((((((w36.setCell ⟨gb180, 0, none⟩ (.int .i64 (rd t196 0))).setCell ⟨gb180, 1, none⟩ (.string (rdOf ByteArray.empty t181 1))).setCell ⟨gb180, 2, none⟩ (.string (rdOf ByteArray.empty t181 2))).setCell ⟨gb180, 3, none⟩ (.int .i64 (rd t196 1))).setCell ⟨gb180, 4, none⟩ (.slice none 0 0)).setCell ⟨gb180, 5, none⟩ (.int .i64 (rd t196 2))) w.heap.size (fun k_ => (w.heap.size ≤ k_)) (.slice (some ad200) t196.length co37) t196) := ⟨by (with_reducible repeat (first | apply Kd.R_alloc | apply Kd.R_drewN | apply Kd.R_drew)); exact Kd.R_mono (Kd.R_far (p := ⟨gb180, 5, none⟩) (Kd.R_far (p := ⟨gb180, 4, none⟩) (Kd.R_far (p := ⟨gb180, 3, none⟩) (Kd.R_far (p := ⟨gb180, 2, none⟩) (Kd.R_far (p := ⟨gb180, 1, none⟩) (Kd.R_far (p := ⟨gb180, 0, none⟩) (Kd.R_types HO_5.out BK180.out (by decide)) (fun _ hk => hk.2) (.int .i64 (rd t196 0))) (fun _ hk => hk.2) (.string (rdOf ByteArray.empty t181 1))) (fun _ hk => hk.2) (.string (rdOf ByteArray.empty t181 2))) (fun _ hk => hk.2) (.int .i64 (rd t196 1))) (fun _ hk => hk.2) (.slice none 0 0)) (fun _ hk => hk.2) (.int .i64 (rd t196 2))) (fun _ hk => hk.1)⟩
                                have n2_ : Az (((((((w36.setCell ⟨gb180, 0, none⟩ (.int .i64 (rd t196 0))).setCell ⟨gb180, 1, none⟩ (.string (rdOf ByteArray.empty t181 1))).setCell ⟨gb180, 2, none⟩ (.string (rdOf ByteArray.empty t181 2))).setCell ⟨gb180, 3, none⟩ (.int .i64 (rd t196 1))).setCell ⟨gb180, 4, none⟩ (.slice none 0 0)).setCell ⟨gb180, 5, none⟩ (.int .i64 (rd t196 2))).heap[gb180]? = some (.cells #[.int .i64 (rd t196 0), .string (rdOf ByteArray.empty t181 1), .string (rdOf ByteArray.empty t181 2), .int .i64 (rd t196 1), .slice none 0 0, .int .i64 (rd t196 2)] 26 (0, 0))) := ⟨by refine bk ?_; refine blk_put (cs := #[.int .i64 (rd t196 0), .string (rdOf ByteArray.empty t181 1), .string (rdOf ByteArray.empty t181 2), .int .i64 (rd t196 1), .slice none 0 0, .int .i64 0]) ?_ 5 _ rfl; refine bk ?_; refine blk_put (cs := #[.int .i64 (rd t196 0), .string (rdOf ByteArray.empty t181 1), .string (rdOf ByteArray.empty t181 2), .int .i64 (rd t196 1), .slice none 0 0, .int .i64 0]) ?_ 4 _ rfl; refine bk ?_; refine blk_put (cs := #[.int .i64 (rd t196 0), .string (rdOf ByteArray.empty t181 1), .string (rdOf ByteArray.empty t181 2), .int .i64 0, .slice none 0 0, .int .i64 0]) ?_ 3 _ rfl; refine bk ?_; refine blk_put (cs := #[.int .i64 (rd t196 0), .string (rdOf ByteArray.empty t181 1), .string (⟨#[]⟩ : ByteArray), .int .i64 0, .slice none 0 0, .int .i64 0]) ?_ 2 _ rfl; refine bk ?_; refine blk_put (cs := #[.int .i64 (rd t196 0), .string (⟨#[]⟩ : ByteArray), .string (⟨#[]⟩ : ByteArray), .int .i64 0, .slice none 0 0, .int .i64 0]) ?_ 1 _ rfl; refine bk ?_; refine blk_put (cs := #[.int .i64 0, .string (⟨#[]⟩ : ByteArray), .string (⟨#[]⟩ : ByteArray), .int .i64 0, .slice none 0 0, .int .i64 0]) ?_ 0 _ rfl; refine bk ?_; exact BK180.out⟩
                                have n3_ : Az (Below w.heap.size w ((((((w36.setCell ⟨gb180, 0, none⟩ (.int .i64 (rd t196 0))).setCell ⟨gb180, 1, none⟩ (.string (rdOf ByteArray.empty t181 1))).setCell ⟨gb180, 2, none⟩ (.string (rdOf ByteArray.empty t181 2))).setCell ⟨gb180, 3, none⟩ (.int .i64 (rd t196 1))).setCell ⟨gb180, 4, none⟩ (.slice none 0 0)).setCell ⟨gb180, 5, none⟩ (.int .i64 (rd t196 2)))) := ⟨by exact pbE HB.out⟩
                                (try clear HO_4)
                                (try clear HO_5)
                                (try clear BK180)
                                (try clear HB)
                                generalize ((((((w36.setCell ⟨gb180, 0, none⟩ (.int .i64 (rd t196 0))).setCell ⟨gb180, 1, none⟩ (.string (rdOf ByteArray.empty t181 1))).setCell ⟨gb180, 2, none⟩ (.string (rdOf ByteArray.empty t181 2))).setCell ⟨gb180, 3, none⟩ (.int .i64 (rd t196 1))).setCell ⟨gb180, 4, none⟩ (.slice none 0 0)).setCell ⟨gb180, 5, none⟩ (.int .i64 (rd t196 2))) = w44 at n0_ n1_ n2_ n3_ ⊢
                                have HO_4 := n0_
                                have HO_5 := n1_
                                have BK180 := n2_
                                have HB := n3_
                                clear n0_ n1_ n2_ n3_
                                obtain ⟨N_, hlN, hN9, hT⟩ := chunk_open A32.out
                                have hmf : ∀ (fn : Fn) (first cap : Array Value) (w : World), (Instr.makeFunc fn first cap).run Tryd.prog w = .ok (.func fn first cap) w := fun _ _ _ _ => rfl
                                have hcl_ := (Kd.R_reads' HO_5.out).2.1
                                have hF3 := Kd.F_cut (m := 3) (Kd.R_F (Kd.R_types HO_5.out BK180.out (by decide))) (by omega) hcl_
                                rw [show (t196.drop 3).length = 2 * N_ by rw [List.length_drop]; omega] at hF3
                                have hi3 : (3 : Int) ≤ (t196.length : Int) := by omega
                                have hc3 : (3 : Int) ≤ (co37 : Int) := by omega
                                have hlN2 : t196.length - 3 = 2 * N_ := by omega
                                obtain ⟨i0_, hi0_, _, hsz_, _⟩ := info_parts info2
                                have hcut_ := cut_from (P := Tryd.prog) 83 2 .i64 Tryd.underlying83 hi0_ 1 hsz_ (some ad200) t196.length co37 3 (by omega) hi3
                                rw [show ((3 : Int).toNat) = 3 from rfl, hlN2] at hcut_
                                replace hF3 : Kd.F (Kd.int .i64) w44 (fun k => k < w44.heap.size ∧ k ≠ gb180) (if co37 = 3 then some ad200 else some { block := ad200.block, off := ad200.off + 3 }) (2 * N_) (t196.drop 3) := Kd.F_mono (Kd.F_bound hF3) (fun k h => ⟨h.2, h.1.2⟩)
                                have hcc_ : 2 * N_ ≤ co37 - 3 := by omega
                                have hNb_ : N_ ≤ 1000000000 := by omega
                                clear hi0_ hsz_ hlN2 hc3 hi3 hcl_
                                with_reducible unfold Exit.then
                                simp only []
                                apply_assumption
                                repeat (first | (go_big_may; go_in) | go_values | go_skip | go_guarded | go_step | go_upon | go_back)
                                refine parse_range (hcode := ?side) (BK := BK180.out) (hF := hF3) (hN := hNb_) (hc := hcc_) (hK := ?_)
                                case side => kernel_rfl
                                intro X_ W_ w46 v206 hW_ hb ho0' hX_ HX_
                                subst hW_
                                have ho0 := Kd.R_lower ho0' (Nat.le_add_right w44.heap.size 2)
                                rw [← hT] at ho0
                                clear ho0' hT hF3 hcc_ hNb_ hN9 hlN
                                have GX_ : w.heap.size ≤ X_ := Nat.le_trans (pbZ HB.out) hX_
                                have GXg_ : X_ ≠ gb180 := (by
                                  rintro rfl
                                  have h_ := (bkB BK180.out hb).symm.trans HX_
                                  cases h_)
                                clear hX_
                                have n0_ := Az.mk (Kd.R_below (Kd.R_ext HO_4.out) hb)
                                have n1_ := Az.mk (Kd.R_below (Kd.R_ext HO_5.out) hb)
                                have n2_ := Az.mk (Kd.R_lower (Kd.R_newM (M := fun k_ => (w.heap.size ≤ k_)) (Kd.R_mono (ok' := fun k_ => True) ho0 (fun _ hk_ => trivial)) (pbZ (by exact pbE HB.out)) (fun k_ h_ => h_)) (pbZ (by exact pbE HB.out)))
                                have n3_ := Az.mk (bkB (g := gb180) (o := .cells #[.int .i64 (rd t196 0), .string (rdOf ByteArray.empty t181 1), .string (rdOf ByteArray.empty t181 2), .int .i64 (rd t196 1), .slice none 0 0, .int .i64 (rd t196 2)] 26 (0, 0)) (bk BK180.out) hb)
                                have n4_ := Az.mk (pbT (by exact pbE HB.out) hb)
                                clear HO_4
                                clear HO_5
                                clear BK180
                                clear HB
                                have HO_4 := n0_
                                have HO_5 := n1_
                                have HO207 := n2_
                                have BK180 := n3_
                                have HB := n4_
                                clear n0_ n1_ n2_ n3_ n4_
                                (try clear hb)
                                (try clear hb2)
                                (try clear hk)
                                (try clear hi)
                                (try clear ho0)
                                obtain ⟨Ao47, co47, eo47⟩ := Kd.R_slice HO207.out
                                (first | subst eo47 | (injection eo47 with f1_ f2_ f3_; have f4_ := f1_.symm; have f5_ := f3_.symm; clear f1_ f2_ f3_; subst f4_; subst f5_))
                                simp only [Exit.inBlock, Exit.then]
                                apply_assumption
                                have hcz49_0 : w46.cell? ⟨gb180, 0, none⟩ = some (.int .i64 (rd t196 0)) := (bkC BK180.out 0).trans rfl
                                have hcz49_1 : w46.cell? ⟨gb180, 1, none⟩ = some (.string (rdOf ByteArray.empty t181 1)) := (bkC BK180.out 1).trans rfl
                                have hcz49_2 : w46.cell? ⟨gb180, 2, none⟩ = some (.string (rdOf ByteArray.empty t181 2)) := (bkC BK180.out 2).trans rfl
                                have hcz49_3 : w46.cell? ⟨gb180, 3, none⟩ = some (.int .i64 (rd t196 1)) := (bkC BK180.out 3).trans rfl
                                have hcz49_4 : w46.cell? ⟨gb180, 4, none⟩ = some (.slice none 0 0) := (bkC BK180.out 4).trans rfl
                                have hcz49_5 : w46.cell? ⟨gb180, 5, none⟩ = some (.int .i64 (rd t196 2)) := (bkC BK180.out 5).trans rfl
                                have hfz49_0 := bkF BK180.out 0
                                have hfz49_1 := bkF BK180.out 1
                                have hfz49_2 := bkF BK180.out 2
                                have hfz49_3 := bkF BK180.out 3
                                have hfz49_4 := bkF BK180.out 4
                                have hfz49_5 := bkF BK180.out 5
                                repeat (first | (go_big_may; (first | ((with_reducible refine gtc (f := 19) rfl ?_); refine goesL_ (some 75) rfl rfl Tryd.func19 (by kernel_rfl) rfl #[.agg #[.int .i64 (rd t196 0), .string (rdOf ByteArray.empty t181 1), .string (rdOf ByteArray.empty t181 2), .int .i64 (rd t196 1), .slice Ao47 t205.length co47, .int .i64 (rd t196 2)]] rfl (by (try simp only [List.map_toArray, List.map_cons, List.map_nil]); first | done | rfl | (simp only [List.length_drop, List.length_take]; rfl)) ?_; (with_reducible refine (desc_Put.calls kj13 (rd t196 0) (rdOf ByteArray.empty t181 1) (rdOf ByteArray.empty t181 2) (rd t196 1) _ _ t205 (rd t196 2) t208 _ ?side1 ?side2 ?side3 A33.out).mono ?_); (case side1 => exact hG.below (by exact pbE HB.out)); (case side2 => refine (Kd.R_reads' (e := 60) (base := w.heap.size) (ok := fun k_ => ((w.heap.size ≤ k_) ∧ True)) (n := t205.length) (c := co47) ?_).2.2; exact (by (with_reducible repeat (first | apply Kd.R_alloc | apply Kd.R_drewN | apply Kd.R_drew)); exact (Kd.R_mono (Kd.R_far (p := ⟨gb180, 4, none⟩) (Kd.R_types HO207.out BK180.out (by decide)) (fun _ hk => hk.2) (.slice Ao47 t205.length co47)) (fun _ h_ => h_.1)))); (case side3 => exact (Kd.R_reads' HO207.out).2.1); rintro e w50 ⟨rfl, hb⟩; have HX_ := bkB (g := X_) (o := .deferred (some [])) (by repeat (first | (with_reducible exact HX_) | with_reducible refine (Below.heap_setCell _ ⟨gb180, _, none⟩ _ X_ GXg_).trans ?_)) hb; refine ⟨_, rfl, ?_⟩; have n0_ := Az.mk (Kd.R_below (by (with_reducible repeat (first | apply Kd.R_alloc | apply Kd.R_drewN | apply Kd.R_drew)); exact (Kd.R_mono (Kd.R_far (p := ⟨gb180, 4, none⟩) (Kd.R_types HO_4.out BK180.out (by decide)) (fun _ hk => hk.2) (.slice Ao47 t205.length co47)) (fun _ h_ => h_.1))) hb); have n1_ := Az.mk (Kd.R_below (by (with_reducible repeat (first | apply Kd.R_alloc | apply Kd.R_drewN | apply Kd.R_drew)); exact (Kd.R_mono (Kd.R_far (p := ⟨gb180, 4, none⟩) (Kd.R_types HO_5.out BK180.out (by decide)) (fun _ hk => hk.2) (.slice Ao47 t205.length co47)) (fun _ h_ => h_.1))) hb); have n2_ := Az.mk (Kd.R_below (by (with_reducible repeat (first | apply Kd.R_alloc | apply Kd.R_drewN | apply Kd.R_drew)); exact (Kd.R_mono (Kd.R_far (p := ⟨gb180, 4, none⟩) (Kd.R_types HO207.out BK180.out (by decide)) (fun _ hk => hk.2) (.slice Ao47 t205.length co47)) (fun _ h_ => h_.1))) hb); have n3_ := Az.mk (bkB (g := gb180) (o := .cells #[.int .i64 (rd t196 0), .string (rdOf ByteArray.empty t181 1), .string (rdOf ByteArray.empty t181 2), .int .i64 (rd t196 1), .slice Ao47 t205.length co47, .int .i64 (rd t196 2)] 26 (0, 0)) (by refine bk ?_; refine blk_put (cs := #[.int .i64 (rd t196 0), .string (rdOf ByteArray.empty t181 1), .string (rdOf ByteArray.empty t181 2), .int .i64 (rd t196 1), .slice none 0 0, .int .i64 (rd t196 2)]) ?_ 4 _ rfl; refine bk ?_; exact BK180.out) hb); have n4_ := Az.mk (pbT (by exact pbE HB.out) hb); clear HO_4; clear HO_5; clear HO207; clear BK180; clear HB; have HO_4 := n0_; have HO_5 := n1_; have HO207 := n2_; have BK180 := n3_; have HB := n4_; clear n0_ n1_ n2_ n3_ n4_; (try clear hb); (try clear hb2); (try clear hk); (try clear hi); have hcz51_0 : w50.cell? ⟨gb180, 0, none⟩ = some (.int .i64 (rd t196 0)) := (bkC BK180.out 0).trans rfl; have hcz51_1 : w50.cell? ⟨gb180, 1, none⟩ = some (.string (rdOf ByteArray.empty t181 1)) := (bkC BK180.out 1).trans rfl; have hcz51_2 : w50.cell? ⟨gb180, 2, none⟩ = some (.string (rdOf ByteArray.empty t181 2)) := (bkC BK180.out 2).trans rfl; have hcz51_3 : w50.cell? ⟨gb180, 3, none⟩ = some (.int .i64 (rd t196 1)) := (bkC BK180.out 3).trans rfl; have hcz51_4 : w50.cell? ⟨gb180, 4, none⟩ = some (.slice Ao47 t205.length co47) := (bkC BK180.out 4).trans rfl; have hcz51_5 : w50.cell? ⟨gb180, 5, none⟩ = some (.int .i64 (rd t196 2)) := (bkC BK180.out 5).trans rfl; have hfz51_0 := bkF BK180.out 0; have hfz51_1 := bkF BK180.out 1; have hfz51_2 := bkF BK180.out 2; have hfz51_3 := bkF BK180.out 3; have hfz51_4 := bkF BK180.out 4; have hfz51_5 := bkF BK180.out 5) | ((with_reducible refine gtc (f := 37) rfl ?_); refine goesL_ (some 80) rfl rfl Tryd.func37 (by kernel_rfl) rfl #[.agg #[.int .i64 (rd t196 0), .string (rdOf ByteArray.empty t181 1), .string (rdOf ByteArray.empty t181 2), .int .i64 (rd t196 1), .slice Ao47 t205.length co47, .int .i64 (rd t196 2)]] rfl (by (try simp only [List.map_toArray, List.map_cons, List.map_nil]); first | done | rfl | (simp only [List.length_drop, List.length_take]; rfl)) ?_; (with_reducible refine (desc_right.calls (rd t196 0) (rdOf ByteArray.empty t181 1) (rdOf ByteArray.empty t181 2) (rd t196 1) (fun k_ => some k_ = (.slice Ao47 t205.length co47 : Value).ownBlock) _ _ t205 (rd t196 2) t209 t210 t211 t212 t213 t216 t217 _ ?side1 ?side2 A35.out).mono ?_); (case side1 => exact hG.below (by exact pbE HB.out)); (case side2 => exact Kd.R_V (Kd.R_tight rfl (Kd.R_types (Kd.R_apart' (Kd.R_apart' (HO207.out) (Kd.R_typed HO_4.out) (by decide)) (Kd.R_typed HO_5.out) (by decide)) BK180.out (by decide)))); rintro e w52 ⟨v214, rfl, ho0, hb⟩; have HX_ := bkB (g := X_) (o := .deferred (some [])) (by repeat (first | (with_reducible exact HX_) | with_reducible refine (Below.heap_setCell _ ⟨gb180, _, none⟩ _ X_ GXg_).trans ?_)) hb; refine ⟨_, rfl, ?_⟩; have n0_ := Az.mk (Kd.R_below (Kd.R_ext HO_4.out) hb); have n1_ := Az.mk (Kd.R_below (Kd.R_ext HO_5.out) hb); have n2_ := Az.mk (Kd.R_below (Kd.R_ext HO207.out) hb); have n3_ := Az.mk (Kd.V_lower (Kd.V_mono (ok' := fun k_ => (w.heap.size ≤ k_) ∧ some k_ ≠ (.slice (some ad185) t181.length co16 : Value).ownBlock ∧ some k_ ≠ (.slice (some ad200) t196.length co37 : Value).ownBlock ∧ k_ ≠ gb180) ho0 (fun k_ hk_ => ⟨Or.elim hk_ (fun hs_ => ((Kd.R_types (Kd.R_apart' (Kd.R_apart' (HO207.out) (Kd.R_typed HO_4.out) (by decide)) (Kd.R_typed HO_5.out) (by decide)) BK180.out (by decide)).1 k_ hs_.symm).1.1.1.1) (fun hn_ => (Nat.le_trans (pbZ (by exact pbE HB.out)) hn_)), Or.elim hk_ (fun hs_ => ((Kd.R_types (Kd.R_apart' (Kd.R_apart' (HO207.out) (Kd.R_typed HO_4.out) (by decide)) (Kd.R_typed HO_5.out) (by decide)) BK180.out (by decide)).1 k_ hs_.symm).1.1.2) (fun hn_ => (Kd.fresh' (Kd.R_lt (Kd.R_ext HO_4.out)) k_ hn_)), Or.elim hk_ (fun hs_ => ((Kd.R_types (Kd.R_apart' (Kd.R_apart' (HO207.out) (Kd.R_typed HO_4.out) (by decide)) (Kd.R_typed HO_5.out) (by decide)) BK180.out (by decide)).1 k_ hs_.symm).1.2) (fun hn_ => (Kd.fresh' (Kd.R_lt (Kd.R_ext HO_5.out)) k_ hn_)), Or.elim hk_ (fun hs_ => ((Kd.R_types (Kd.R_apart' (Kd.R_apart' (HO207.out) (Kd.R_typed HO_4.out) (by decide)) (Kd.R_typed HO_5.out) (by decide)) BK180.out (by decide)).1 k_ hs_.symm).2) (fun hn_ => (Kd.freshB (g := gb180) (o := .cells #[.int .i64 (rd t196 0), .string (rdOf ByteArray.empty t181 1), .string (rdOf ByteArray.empty t181 2), .int .i64 (rd t196 1), .slice Ao47 t205.length co47, .int .i64 (rd t196 2)] 26 (0, 0)) (bk BK180.out) k_ hn_))⟩)) (pbZ (by exact pbE HB.out))); have n4_ := Az.mk (bkB (g := gb180) (o := .cells #[.int .i64 (rd t196 0), .string (rdOf ByteArray.empty t181 1), .string (rdOf ByteArray.empty t181 2), .int .i64 (rd t196 1), .slice Ao47 t205.length co47, .int .i64 (rd t196 2)] 26 (0, 0)) (bk BK180.out) hb); have n5_ := Az.mk (pbT (by exact pbE HB.out) hb); clear HO_4; clear HO_5; clear HO207; clear BK180; clear HB; have HO_4 := n0_; have HO_5 := n1_; have HO207 := n2_; have HO215 := n3_; have BK180 := n4_; have HB := n5_; clear n0_ n1_ n2_ n3_ n4_ n5_; (try clear hb); (try clear hb2); (try clear hk); (try clear hi); (try clear ho0); have hcz53_0 : w52.cell? ⟨gb180, 0, none⟩ = some (.int .i64 (rd t196 0)) := (bkC BK180.out 0).trans rfl; have hcz53_1 : w52.cell? ⟨gb180, 1, none⟩ = some (.string (rdOf ByteArray.empty t181 1)) := (bkC BK180.out 1).trans rfl; have hcz53_2 : w52.cell? ⟨gb180, 2, none⟩ = some (.string (rdOf ByteArray.empty t181 2)) := (bkC BK180.out 2).trans rfl; have hcz53_3 : w52.cell? ⟨gb180, 3, none⟩ = some (.int .i64 (rd t196 1)) := (bkC BK180.out 3).trans rfl; have hcz53_4 : w52.cell? ⟨gb180, 4, none⟩ = some (.slice Ao47 t205.length co47) := (bkC BK180.out 4).trans rfl; have hcz53_5 : w52.cell? ⟨gb180, 5, none⟩ = some (.int .i64 (rd t196 2)) := (bkC BK180.out 5).trans rfl; have hfz53_0 := bkF BK180.out 0; have hfz53_1 := bkF BK180.out 1; have hfz53_2 := bkF BK180.out 2; have hfz53_3 := bkF BK180.out 3; have hfz53_4 := bkF BK180.out 4; have hfz53_5 := bkF BK180.out 5; obtain ⟨Ao54, co54, eo54⟩ := Kd.V_slice HO215.out; subst eo54))) | go_values | go_skip | go_guarded | go_step | go_upon | go_back)
                                apply bodyPost_retD (X := X_)
                                case hd => rfl
                                case hX => exact (by repeat (first | (with_reducible exact HX_) | with_reducible refine (Below.heap_setCell _ ⟨gb180, _, none⟩ _ X_ GXg_).trans ?_))
                                case hr => refine results_ct rfl _ _ gb180 26 #[.int .i64 t209, .string t210, .string t211, .int .i64 t212, .slice Ao54 t213.length co54, .int .i64 t216] (0, 0) _ rfl ?_ Tryd.underlying26 rfl (by kernel_rfl); refine (World.putObj_heap_other GXg_.symm).trans ?_; exact (by refine bk ?_; refine blk_put (cs := #[.int .i64 t209, .string t210, .string t211, .int .i64 t212, .slice Ao54 t213.length co54, .int .i64 (rd t196 2)]) ?_ 5 _ rfl; refine bk ?_; refine blk_put (cs := #[.int .i64 t209, .string t210, .string t211, .int .i64 t212, .slice Ao47 t205.length co47, .int .i64 (rd t196 2)]) ?_ 4 _ rfl; refine bk ?_; refine blk_put (cs := #[.int .i64 t209, .string t210, .string t211, .int .i64 (rd t196 1), .slice Ao47 t205.length co47, .int .i64 (rd t196 2)]) ?_ 3 _ rfl; refine bk ?_; refine blk_put (cs := #[.int .i64 t209, .string t210, .string (rdOf ByteArray.empty t181 2), .int .i64 (rd t196 1), .slice Ao47 t205.length co47, .int .i64 (rd t196 2)]) ?_ 2 _ rfl; refine bk ?_; refine blk_put (cs := #[.int .i64 t209, .string (rdOf ByteArray.empty t181 1), .string (rdOf ByteArray.empty t181 2), .int .i64 (rd t196 1), .slice Ao47 t205.length co47, .int .i64 (rd t196 2)]) ?_ 1 _ rfl; refine bk ?_; refine blk_put (cs := #[.int .i64 (rd t196 0), .string (rdOf ByteArray.empty t181 1), .string (rdOf ByteArray.empty t181 2), .int .i64 (rd t196 1), .slice Ao47 t205.length co47, .int .i64 (rd t196 2)]) ?_ 0 _ rfl; refine bk ?_; exact BK180.out)
                                exact ⟨_, by first | rfl | (simp [errW_none, errW_some] <;> rfl) | (simp [*, errW_none, errW_some] <;> rfl), V60_put (by (with_reducible repeat (first | apply Kd.V_alloc | apply Kd.V_drewN | apply Kd.V_drew)); exact Kd.V_mono (Kd.V_far (p := ⟨gb180, 5, none⟩) (Kd.V_far (p := ⟨gb180, 4, none⟩) (Kd.V_far (p := ⟨gb180, 3, none⟩) (Kd.V_far (p := ⟨gb180, 2, none⟩) (Kd.V_far (p := ⟨gb180, 1, none⟩) (Kd.V_far (p := ⟨gb180, 0, none⟩) (Kd.V_mono HO215.out (fun k_ hk => (⟨hk, hk.2.2.2⟩ : _ ∧ k_ ≠ gb180))) (fun _ hk => hk.2) (.int .i64 t209)) (fun _ hk => hk.2) (.string t210)) (fun _ hk => hk.2) (.string t211)) (fun _ hk => hk.2) (.int .i64 t212)) (fun _ hk => hk.2) (.slice Ao54 t213.length co54)) (fun _ hk => hk.2) (.int .i64 t216)) (fun _ hk => hk.1.1)) (by repeat (first | (with_reducible exact HX_) | with_reducible refine (Below.heap_setCell _ ⟨gb180, _, none⟩ _ X_ GXg_).trans ?_)) _, below_put (by exact pbE HB.out) GX_⟩
                              · rw [if_neg c34] at H
                                have c34b0 : (t208.toList == a0.toList) = false := beq_eq_false_iff_ne.mpr c34
                                have c34b1 : (t208.toList != a0.toList) = true := bne_iff_ne.mpr c34
                                simp only [Option.some.injEq, Prod.mk.injEq] at H
                                obtain ⟨rfl, rfl, rfl, rfl, rfl, rfl, rfl⟩ := H
                                try go_wp2
                                have n0_ := Az.mk (Kd.R_drew HO_4.out)
                                have n1_ := Az.mk (Kd.R_drew HO_5.out)
                                have n2_ := Az.mk (bkD BK180.out)
                                have n3_ := Az.mk (Kd.C_drew HR192.out)
                                have n4_ := Az.mk (pb1 HB.out)
                                clear HO_4
                                clear HO_5
                                clear BK180
                                clear HR192
                                clear HB
                                have HO_4 := n0_
                                have HO_5 := n1_
                                have BK180 := n2_
                                have HR192 := n3_
                                have HB := n4_
                                clear n0_ n1_ n2_ n3_ n4_
                                obtain ⟨Ao56, co56, eo56⟩ := Kd.R_slice HO_5.out
                                (first | subst eo56 | (injection eo56 with f1_ f2_ f3_; have f4_ := f1_.symm; have f5_ := f3_.symm; clear f1_ f2_ f3_; subst f4_; subst f5_))
                                have p200 : 0 ≤ (0 : Int) := (by omega)
                                have q200 : 0 < (t196.length : Int) := of_decide_eq_true (by first | (with_reducible assumption) | assumption)
                                obtain ⟨ad200, e200, hx200_0⟩ := Kd.at_int (Kd.R_reads' HO_5.out).2.2 0 p200 q200
                                cases e200
                                have qi200 : (0 < t196.length) = True := eq_true (by omega)
                                (try rw [show ((0 : Int)).toNat = 0 from rfl] at hx200_0)
                                (try rw [Addr.add_zero'] at hx200_0)
                                replace p200 := eq_true p200
                                replace q200 := eq_true q200
                                have p201 : 0 ≤ (1 : Int) := (by omega)
                                have q201 : 1 < (t181.length : Int) := of_decide_eq_true (by first | (with_reducible assumption) | assumption)
                                obtain ⟨ad201, e201, hx201_0⟩ := Kd.at_string (Kd.R_reads' HO_4.out).2.2 1 p201 q201
                                obtain rfl : ad185 = ad201 := (by injection e201)
                                (try simp only [show (1 : Int).toNat = 1 from rfl, Nat.reduceMul, Nat.reduceEqDiff, Go.Addr.add, ↓reduceIte] at hx201_0)
                                have qi201 : (1 < t181.length) = True := eq_true (by omega)
                                (try rw [show ((1 : Int)).toNat = 1 from rfl] at hx201_0)
                                replace p201 := eq_true p201
                                replace q201 := eq_true q201
                                have p202 : 0 ≤ (2 : Int) := (by omega)
                                have q202 : 2 < (t181.length : Int) := of_decide_eq_true (by first | (with_reducible assumption) | assumption)
                                obtain ⟨ad202, e202, hx202_0⟩ := Kd.at_string (Kd.R_reads' HO_4.out).2.2 2 p202 q202
                                obtain rfl : ad185 = ad202 := (by injection e202)
                                (try simp only [show (2 : Int).toNat = 2 from rfl, Nat.reduceMul, Nat.reduceEqDiff, Go.Addr.add, ↓reduceIte] at hx202_0)
                                have qi202 : (2 < t181.length) = True := eq_true (by omega)
                                (try rw [show ((2 : Int)).toNat = 2 from rfl] at hx202_0)
                                replace p202 := eq_true p202
                                replace q202 := eq_true q202
                                have p203 : 0 ≤ (1 : Int) := (by omega)
                                have q203 : 1 < (t196.length : Int) := of_decide_eq_true (by first | (with_reducible assumption) | assumption)
                                obtain ⟨ad203, e203, hx203_0⟩ := Kd.at_int (Kd.R_reads' HO_5.out).2.2 1 p203 q203
                                obtain rfl : ad200 = ad203 := (by injection e203)
                                (try simp only [show (1 : Int).toNat = 1 from rfl, Nat.reduceMul, Nat.reduceEqDiff, Go.Addr.add, ↓reduceIte] at hx203_0)
                                have qi203 : (1 < t196.length) = True := eq_true (by omega)
                                (try rw [show ((1 : Int)).toNat = 1 from rfl] at hx203_0)
                                replace p203 := eq_true p203
                                replace q203 := eq_true q203
                                have p204 : 0 ≤ (2 : Int) := (by omega)
                                have q204 : 2 < (t196.length : Int) := of_decide_eq_true (by first | (with_reducible assumption) | assumption)
                                obtain ⟨ad204, e204, hx204_0⟩ := Kd.at_int (Kd.R_reads' HO_5.out).2.2 2 p204 q204
                                obtain rfl : ad200 = ad204 := (by injection e204)
                                (try simp only [show (2 : Int).toNat = 2 from rfl, Nat.reduceMul, Nat.reduceEqDiff, Go.Addr.add, ↓reduceIte] at hx204_0)
                                have qi204 : (2 < t196.length) = True := eq_true (by omega)
                                (try rw [show ((2 : Int)).toNat = 2 from rfl] at hx204_0)
                                replace p204 := eq_true p204
                                replace q204 := eq_true q204
                                refine start_ (n := 18) (S := fun w' => w'.cell? ad200 = some (.int .i64 (rd t196 0)) ∧ w'.cell? ⟨ad185.block, ad185.off + 1, none⟩ = some (.string (rdOf ByteArray.empty t181 1)) ∧ w'.cell? ⟨ad185.block, ad185.off + 2, none⟩ = some (.string (rdOf ByteArray.empty t181 2)) ∧ w'.cell? ⟨ad200.block, ad200.off + 1, none⟩ = some (.int .i64 (rd t196 1)) ∧ w'.cell? ⟨ad200.block, ad200.off + 2, none⟩ = some (.int .i64 (rd t196 2))) (ds := []) #[false, false, false, false, false, false, false, false, false, false, false, false, false, false, false, false, false, false] (by kernel_rfl) rfl rfl ⟨hx200_0, hx201_0, hx202_0, hx203_0, hx204_0⟩ (fun hHeld => ?_); refine with_tabW desc_Parse.tab7 desc_Parse.bits7 (fun HT_ HW_ => ?_)
                                generalize wc.drew = w55 at HO_4 HO_5 BK180 HR192 HB hx200_0 hx201_0 hx202_0 hx203_0 hx204_0 hHeld ⊢
                                refine pure_ (i := 0) (N := some 41) (v := ?_) (a' := ?_) #[true, false, false, false, false, false, false, false, false, false, false, false, false, false, false, false, false, false] rfl rfl (any_of HT_.out (by kernel_rfl)) (fun _ _ _ h => h) (Or.inl ⟨by rfl, ?_⟩) ?_ ?_
                                rotate_left
                                · intro w'
                                  go_simp
                                  with_reducible rfl
                                rotate_left
                                · simp only [Act.put, List.setIfInBounds_toArray, List.set_cons_zero, List.set_cons_succ, i64_w, i32_w]
                                  rfl
                                refine pure_ (i := 1) (N := some 42) (v := ?_) (a' := ?_) #[true, true, false, false, false, false, false, false, false, false, false, false, false, false, false, false, false, false] rfl rfl (any_of HT_.out (by kernel_rfl)) (fun _ _ _ h => h) (Or.inl ⟨by rfl, ?_⟩) ?_ ?_
                                rotate_left
                                · intro w'
                                  go_simp
                                  with_reducible rfl
                                rotate_left
                                · simp only [Act.put, List.setIfInBounds_toArray, List.set_cons_zero, List.set_cons_succ, i64_w, i32_w]
                                  rfl
                                refine pure_ (i := 3) (N := some 44) (v := ?_) (a' := ?_) #[true, true, false, true, false, false, false, false, false, false, false, false, false, false, false, false, false, false] rfl rfl (any_of HT_.out (by kernel_rfl)) (fun _ _ _ h => h) (Or.inl ⟨by rfl, ?_⟩) ?_ ?_
                                rotate_left
                                · intro w'
                                  go_simp
                                  with_reducible rfl
                                rotate_left
                                · simp only [Act.put, List.setIfInBounds_toArray, List.set_cons_zero, List.set_cons_succ, i64_w, i32_w]
                                  rfl
                                refine pure_ (i := 4) (N := some 45) (v := ?_) (a' := ?_) #[true, true, false, true, true, false, false, false, false, false, false, false, false, false, false, false, false, false] rfl rfl (any_of HT_.out (by kernel_rfl)) (fun _ _ _ h => h) (Or.inl ⟨by rfl, ?_⟩) ?_ ?_
                                rotate_left
                                · intro w'
                                  go_simp
                                  with_reducible rfl
                                rotate_left
                                · simp only [Act.put, List.setIfInBounds_toArray, List.set_cons_zero, List.set_cons_succ, i64_w, i32_w]
                                  rfl
                                refine pure_ (i := 6) (N := some 47) (v := ?_) (a' := ?_) #[true, true, false, true, true, false, true, false, false, false, false, false, false, false, false, false, false, false] rfl rfl (any_of HT_.out (by kernel_rfl)) (fun _ _ _ h => h) (Or.inl ⟨by rfl, ?_⟩) ?_ ?_
                                rotate_left
                                · intro w'
                                  go_simp
                                  with_reducible rfl
                                rotate_left
                                · simp only [Act.put, List.setIfInBounds_toArray, List.set_cons_zero, List.set_cons_succ, i64_w, i32_w]
                                  rfl
                                refine pure_ (i := 7) (N := some 48) (v := ?_) (a' := ?_) #[true, true, false, true, true, false, true, true, false, false, false, false, false, false, false, false, false, false] rfl rfl (any_of HT_.out (by kernel_rfl)) (fun _ _ _ h => h) (Or.inl ⟨by rfl, ?_⟩) ?_ ?_
                                rotate_left
                                · intro w'
                                  go_simp
                                  with_reducible rfl
                                rotate_left
                                · simp only [Act.put, List.setIfInBounds_toArray, List.set_cons_zero, List.set_cons_succ, i64_w, i32_w]
                                  rfl
                                refine pure_ (i := 10) (N := some 51) (v := ?_) (a' := ?_) #[true, true, false, true, true, false, true, true, false, false, true, false, false, false, false, false, false, false] rfl rfl (any_of HT_.out (by kernel_rfl)) (fun _ _ _ h => h) (Or.inl ⟨by rfl, ?_⟩) ?_ ?_
                                rotate_left
                                · intro w'
                                  go_simp
                                  with_reducible rfl
                                rotate_left
                                · simp only [Act.put, List.setIfInBounds_toArray, List.set_cons_zero, List.set_cons_succ, i64_w, i32_w]
                                  rfl
                                refine pure_ (i := 11) (N := some 52) (v := ?_) (a' := ?_) #[true, true, false, true, true, false, true, true, false, false, true, true, false, false, false, false, false, false] rfl rfl (any_of HT_.out (by kernel_rfl)) (fun _ _ _ h => h) (Or.inl ⟨by rfl, ?_⟩) ?_ ?_
                                rotate_left
                                · intro w'
                                  go_simp
                                  with_reducible rfl
                                rotate_left
                                · simp only [Act.put, List.setIfInBounds_toArray, List.set_cons_zero, List.set_cons_succ, i64_w, i32_w]
                                  rfl
                                refine pure_ (i := 13) (N := some 54) (v := ?_) (a' := ?_) #[true, true, false, true, true, false, true, true, false, false, true, true, false, true, false, false, false, false] rfl rfl (any_of HT_.out (by kernel_rfl)) (fun _ _ _ h => h) (Or.inl ⟨by rfl, ?_⟩) ?_ ?_
                                rotate_left
                                · intro w'
                                  go_simp
                                  with_reducible rfl
                                rotate_left
                                · simp only [Act.put, List.setIfInBounds_toArray, List.set_cons_zero, List.set_cons_succ, i64_w, i32_w]
                                  rfl
                                refine pure_ (i := 14) (N := some 55) (v := ?_) (a' := ?_) #[true, true, false, true, true, false, true, true, false, false, true, true, false, true, true, false, false, false] rfl rfl (any_of HT_.out (by kernel_rfl)) (fun _ _ _ h => h) (Or.inl ⟨by rfl, ?_⟩) ?_ ?_
                                rotate_left
                                · intro w'
                                  go_simp
                                  with_reducible rfl
                                rotate_left
                                · simp only [Act.put, List.setIfInBounds_toArray, List.set_cons_zero, List.set_cons_succ, i64_w, i32_w]
                                  rfl
                                refine take_ (i := 2) (N := some 43) (v := ?_) (a' := ?_) #[true, true, true, true, true, false, true, true, false, false, true, true, false, true, true, false, false, false] rfl rfl (take_ofW HT_.out HW_.out (by kernel_rfl)) (fun _ _ _ h => h) (Or.inl ⟨by rfl, ?_⟩) hHeld ?_ ?_
                                rotate_left
                                · rintro w' ⟨s0, s1, s2, s3, s4⟩
                                  go_simp
                                  with_reducible rfl
                                rotate_left
                                · simp only [Act.put, List.setIfInBounds_toArray, List.set_cons_zero, List.set_cons_succ, i64_w, i32_w]
                                  rfl
                                refine take_ (i := 5) (N := some 46) (v := ?_) (a' := ?_) #[true, true, true, true, true, true, true, true, false, false, true, true, false, true, true, false, false, false] rfl rfl (take_ofW HT_.out HW_.out (by kernel_rfl)) (fun _ _ _ h => h) (Or.inl ⟨by rfl, ?_⟩) hHeld ?_ ?_
                                rotate_left
                                · rintro w' ⟨s0, s1, s2, s3, s4⟩
                                  go_simp
                                  with_reducible rfl
                                rotate_left
                                · simp only [Act.put, List.setIfInBounds_toArray, List.set_cons_zero, List.set_cons_succ, i64_w, i32_w]
                                  rfl
                                refine take_ (i := 8) (N := some 49) (v := ?_) (a' := ?_) #[true, true, true, true, true, true, true, true, true, false, true, true, false, true, true, false, false, false] rfl rfl (take_ofW HT_.out HW_.out (by kernel_rfl)) (fun _ _ _ h => h) (Or.inl ⟨by rfl, ?_⟩) hHeld ?_ ?_
                                rotate_left
                                · rintro w' ⟨s0, s1, s2, s3, s4⟩
                                  go_simp
                                  with_reducible rfl
                                rotate_left
                                · simp only [Act.put, List.setIfInBounds_toArray, List.set_cons_zero, List.set_cons_succ, i64_w, i32_w]
                                  rfl
                                refine pure_ (i := 9) (N := some 50) (v := ?_) (a' := ?_) #[true, true, true, true, true, true, true, true, true, true, true, true, false, true, true, false, false, false] rfl rfl (any_of HT_.out (by kernel_rfl)) (fun _ _ _ h => h) (Or.inl ⟨by rfl, ?_⟩) ?_ ?_
                                rotate_left
                                · intro w'
                                  go_simp
                                  with_reducible rfl
                                rotate_left
                                · simp only [Act.put, List.setIfInBounds_toArray, List.set_cons_zero, List.set_cons_succ, i64_w, i32_w]
                                  rfl
                                refine take_ (i := 12) (N := some 53) (v := ?_) (a' := ?_) #[true, true, true, true, true, true, true, true, true, true, true, true, true, true, true, false, false, false] rfl rfl (take_ofW HT_.out HW_.out (by kernel_rfl)) (fun _ _ _ h => h) (Or.inl ⟨by rfl, ?_⟩) hHeld ?_ ?_
                                rotate_left
                                · rintro w' ⟨s0, s1, s2, s3, s4⟩
                                  go_simp
                                  with_reducible rfl
                                rotate_left
                                · simp only [Act.put, List.setIfInBounds_toArray, List.set_cons_zero, List.set_cons_succ, i64_w, i32_w]
                                  rfl
                                refine take_ (i := 15) (N := some 56) (v := ?_) (a' := ?_) #[true, true, true, true, true, true, true, true, true, true, true, true, true, true, true, true, false, false] rfl rfl (take_ofW HT_.out HW_.out (by kernel_rfl)) (fun _ _ _ h => h) (Or.inl ⟨by rfl, ?_⟩) hHeld ?_ ?_
                                rotate_left
                                · rintro w' ⟨s0, s1, s2, s3, s4⟩
                                  go_simp
                                  with_reducible rfl
                                rotate_left
                                · simp only [Act.put, List.setIfInBounds_toArray, List.set_cons_zero, List.set_cons_succ, i64_w, i32_w]
                                  rfl
                                refine pure_ (i := 16) (N := some 57) (v := ?_) (a' := ?_) #[true, true, true, true, true, true, true, true, true, true, true, true, true, true, true, true, true, false] rfl rfl (any_of HT_.out (by kernel_rfl)) (fun _ _ _ h => h) (Or.inl ⟨by rfl, ?_⟩) ?_ ?_
                                rotate_left
                                · intro w'
                                  go_simp
                                  with_reducible rfl
                                rotate_left
                                · simp only [Act.put, List.setIfInBounds_toArray, List.set_cons_zero, List.set_cons_succ, i64_w, i32_w]
                                  rfl
                                refine one_ (i := 17) (N := none) #[true, true, true, true, true, true, true, true, true, true, true, true, true, true, true, true, true, true] rfl rfl (one_of HT_.out (by kernel_rfl)) (by decide) (fun K hK => ?_)
                                have hs57 : w55.cell? ⟨gb180, 0, none⟩ = some (.int .i64 0) := (bkC BK180.out 0).trans rfl
                                have hfs57 := bkF BK180.out 0
                                have hs58 : w55.cell? ⟨gb180, 1, none⟩ = some (.string (⟨#[]⟩ : ByteArray)) := (bkC BK180.out 1).trans rfl
                                have hfs58 := bkF BK180.out 1
                                have hs59 : w55.cell? ⟨gb180, 2, none⟩ = some (.string (⟨#[]⟩ : ByteArray)) := (bkC BK180.out 2).trans rfl
                                have hfs59 := bkF BK180.out 2
                                have hs60 : w55.cell? ⟨gb180, 3, none⟩ = some (.int .i64 0) := (bkC BK180.out 3).trans rfl
                                have hfs60 := bkF BK180.out 3
                                have hs61 : w55.cell? ⟨gb180, 4, none⟩ = some (.slice none 0 0) := (bkC BK180.out 4).trans rfl
                                have hfs61 := bkF BK180.out 4
                                have hs62 : w55.cell? ⟨gb180, 5, none⟩ = some (.int .i64 0) := (bkC BK180.out 5).trans rfl
                                have hfs62 := bkF BK180.out 5
                                refine skip_ (w1 := ?_) (by rfl) rfl ?_ ?_
                                rotate_left
                                · go_simp
                                  rfl
                                have neHO_4_ := Kd.own_blk (Kd.R_ne HO_4.out BK180.out (by decide))
                                have neHO_5_ := Kd.own_blk (Kd.R_ne HO_5.out BK180.out (by decide))
                                have qq0_ := cell_set6 (g := gb180) (a := ad200) neHO_5_ hHeld.1 (.int .i64 (rd t196 0)) (.string (rdOf ByteArray.empty t181 1)) (.string (rdOf ByteArray.empty t181 2)) (.int .i64 (rd t196 1)) (.slice none 0 0) (.int .i64 (rd t196 2))
                                have qq1_ := cell_set6 (g := gb180) (a := ⟨ad185.block, ad185.off + 1, none⟩) neHO_4_ hHeld.2.1 (.int .i64 (rd t196 0)) (.string (rdOf ByteArray.empty t181 1)) (.string (rdOf ByteArray.empty t181 2)) (.int .i64 (rd t196 1)) (.slice none 0 0) (.int .i64 (rd t196 2))
                                have qq2_ := cell_set6 (g := gb180) (a := ⟨ad185.block, ad185.off + 2, none⟩) neHO_4_ hHeld.2.2.1 (.int .i64 (rd t196 0)) (.string (rdOf ByteArray.empty t181 1)) (.string (rdOf ByteArray.empty t181 2)) (.int .i64 (rd t196 1)) (.slice none 0 0) (.int .i64 (rd t196 2))
                                have qq3_ := cell_set6 (g := gb180) (a := ⟨ad200.block, ad200.off + 1, none⟩) neHO_5_ hHeld.2.2.2.1 (.int .i64 (rd t196 0)) (.string (rdOf ByteArray.empty t181 1)) (.string (rdOf ByteArray.empty t181 2)) (.int .i64 (rd t196 1)) (.slice none 0 0) (.int .i64 (rd t196 2))
                                have qq4_ := cell_set6 (g := gb180) (a := ⟨ad200.block, ad200.off + 2, none⟩) neHO_5_ hHeld.2.2.2.2 (.int .i64 (rd t196 0)) (.string (rdOf ByteArray.empty t181 1)) (.string (rdOf ByteArray.empty t181 2)) (.int .i64 (rd t196 1)) (.slice none 0 0) (.int .i64 (rd t196 2))
                                refine hK.out _ _ ⟨qq0_, qq1_, qq2_, qq3_, qq4_⟩ ?_
                                intro hHeld
                                clear hK K
                                refine done_ (done_of HT_.out (by kernel_rfl)) ?_
                                skip
                                have n0_ : Az (Kd.R Kd.string 9 ((((((w55.setCell ⟨gb180, 0, none⟩ (.int .i64 (rd t196 0))).setCell ⟨gb180, 1, none⟩ (.string (rdOf ByteArray.empty t181 1))).setCell ⟨gb180, 2, none⟩ (.string (rdOf ByteArray.empty t181 2))).setCell ⟨gb180, 3, none⟩ (.int .i64 (rd t196 1))).setCell ⟨gb180, 4, none⟩ (.slice none 0 0)).setCell ⟨gb180, 5, none⟩ (.int .i64 (rd t196 2))) w.heap.size (fun k_ => (w.heap.size ≤ k_)) (.slice (some ad185) t181.length co16) t181) := ⟨by (with_reducible repeat (first | apply Kd.R_alloc | apply Kd.R_drewN | apply Kd.R_drew)); exact Kd.R_mono (Kd.R_far (p := ⟨gb180, 5, none⟩) (Kd.R_far (p := ⟨gb180, 4, none⟩) (Kd.R_far (p := ⟨gb180, 3, none⟩) (Kd.R_far (p := ⟨gb180, 2, none⟩) (Kd.R_far (p := ⟨gb180, 1, none⟩) (Kd.R_far (p := ⟨gb180, 0, none⟩) (Kd.R_types HO_4.out BK180.out (by decide)) (fun _ hk => hk.2) (.int .i64 (rd t196 0))) (fun _ hk => hk.2) (.string (rdOf ByteArray.empty t181 1))) (fun _ hk => hk.2) (.string (rdOf ByteArray.empty t181 2))) (fun _ hk => hk.2) (.int .i64 (rd t196 1))) (fun _ hk => hk.2) (.slice none 0 0)) (fun _ hk => hk.2) (.int .i64 (rd t196 2))) (fun _ hk => hk.1)⟩
                                have n1_ : Az (Kd.R (Kd.int .i64) 2 ((((((w55.setCell ⟨gb180, 0, none⟩ (.int .i64 (rd t196 0))).setCell ⟨gb180, 1, none⟩ (.string (rdOf ByteArray.empty t181 1))).setCell ⟨gb180, 2, none⟩ (.string (rdOf ByteArray.empty t181 2))).setCell ⟨gb180, 3, none⟩ (.int .i64 (rd t196 1))).setCell ⟨gb180, 4, none⟩ (.slice none 0 0)).setCell ⟨gb180, 5, none⟩ (.int .i64 (rd t196 2))) w.heap.size (fun k_ => (w.heap.size ≤ k_)) (.slice (some ad200) t196.length co56) t196) := ⟨by (with_reducible repeat (first | apply Kd.R_alloc | apply Kd.R_drewN | apply Kd.R_drew)); exact Kd.R_mono (Kd.R_far (p := ⟨gb180, 5, none⟩) (Kd.R_far (p := ⟨gb180, 4, none⟩) (Kd.R_far (p := ⟨gb180, 3, none⟩) (Kd.R_far (p := ⟨gb180, 2, none⟩) (Kd.R_far (p := ⟨gb180, 1, none⟩) (Kd.R_far (p := ⟨gb180, 0, none⟩) (Kd.R_types HO_5.out BK180.out (by decide)) (fun _ hk => hk.2) (.int .i64 (rd t196 0))) (fun _ hk => hk.2) (.string (rdOf ByteArray.empty t181 1))) (fun _ hk => hk.2) (.string (rdOf ByteArray.empty t181 2))) (fun _ hk => hk.2) (.int .i64 (rd t196 1))) (fun _ hk => hk.2) (.slice none 0 0)) (fun _ hk => hk.2) (.int .i64 (rd t196 2))) (fun _ hk => hk.1)⟩
                                have n2_ : Az (((((((w55.setCell ⟨gb180, 0, none⟩ (.int .i64 (rd t196 0))).setCell ⟨gb180, 1, none⟩ (.string (rdOf ByteArray.empty t181 1))).setCell ⟨gb180, 2, none⟩ (.string (rdOf ByteArray.empty t181 2))).setCell ⟨gb180, 3, none⟩ (.int .i64 (rd t196 1))).setCell ⟨gb180, 4, none⟩ (.slice none 0 0)).setCell ⟨gb180, 5, none⟩ (.int .i64 (rd t196 2))).heap[gb180]? = some (.cells #[.int .i64 (rd t196 0), .string (rdOf ByteArray.empty t181 1), .string (rdOf ByteArray.empty t181 2), .int .i64 (rd t196 1), .slice none 0 0, .int .i64 (rd t196 2)] 26 (0, 0))) := ⟨by refine bk ?_; refine blk_put (cs := #[.int .i64 (rd t196 0), .string (rdOf ByteArray.empty t181 1), .string (rdOf ByteArray.empty t181 2), .int .i64 (rd t196 1), .slice none 0 0, .int .i64 0]) ?_ 5 _ rfl; refine bk ?_; refine blk_put (cs := #[.int .i64 (rd t196 0), .string (rdOf ByteArray.empty t181 1), .string (rdOf ByteArray.empty t181 2), .int .i64 (rd t196 1), .slice none 0 0, .int .i64 0]) ?_ 4 _ rfl; refine bk ?_; refine blk_put (cs := #[.int .i64 (rd t196 0), .string (rdOf ByteArray.empty t181 1), .string (rdOf ByteArray.empty t181 2), .int .i64 0, .slice none 0 0, .int .i64 0]) ?_ 3 _ rfl; refine bk ?_; refine blk_put (cs := #[.int .i64 (rd t196 0), .string (rdOf ByteArray.empty t181 1), .string (⟨#[]⟩ : ByteArray), .int .i64 0, .slice none 0 0, .int .i64 0]) ?_ 2 _ rfl; refine bk ?_; refine blk_put (cs := #[.int .i64 (rd t196 0), .string (⟨#[]⟩ : ByteArray), .string (⟨#[]⟩ : ByteArray), .int .i64 0, .slice none 0 0, .int .i64 0]) ?_ 1 _ rfl; refine bk ?_; refine blk_put (cs := #[.int .i64 0, .string (⟨#[]⟩ : ByteArray), .string (⟨#[]⟩ : ByteArray), .int .i64 0, .slice none 0 0, .int .i64 0]) ?_ 0 _ rfl; refine bk ?_; exact BK180.out⟩
                                have n3_ : Az (Below w.heap.size w ((((((w55.setCell ⟨gb180, 0, none⟩ (.int .i64 (rd t196 0))).setCell ⟨gb180, 1, none⟩ (.string (rdOf ByteArray.empty t181 1))).setCell ⟨gb180, 2, none⟩ (.string (rdOf ByteArray.empty t181 2))).setCell ⟨gb180, 3, none⟩ (.int .i64 (rd t196 1))).setCell ⟨gb180, 4, none⟩ (.slice none 0 0)).setCell ⟨gb180, 5, none⟩ (.int .i64 (rd t196 2)))) := ⟨by exact pbE HB.out⟩
                                (try clear HO_4)
                                (try clear HO_5)
                                (try clear BK180)
                                (try clear HB)
                                generalize ((((((w55.setCell ⟨gb180, 0, none⟩ (.int .i64 (rd t196 0))).setCell ⟨gb180, 1, none⟩ (.string (rdOf ByteArray.empty t181 1))).setCell ⟨gb180, 2, none⟩ (.string (rdOf ByteArray.empty t181 2))).setCell ⟨gb180, 3, none⟩ (.int .i64 (rd t196 1))).setCell ⟨gb180, 4, none⟩ (.slice none 0 0)).setCell ⟨gb180, 5, none⟩ (.int .i64 (rd t196 2))) = w63 at n0_ n1_ n2_ n3_ ⊢
                                have HO_4 := n0_
                                have HO_5 := n1_
                                have BK180 := n2_
                                have HB := n3_
                                clear n0_ n1_ n2_ n3_
                                obtain ⟨N_, hlN, hN9, hT⟩ := chunk_open A32.out
                                have hmf : ∀ (fn : Fn) (first cap : Array Value) (w : World), (Instr.makeFunc fn first cap).run Tryd.prog w = .ok (.func fn first cap) w := fun _ _ _ _ => rfl
                                have hcl_ := (Kd.R_reads' HO_5.out).2.1
                                have hF3 := Kd.F_cut (m := 3) (Kd.R_F (Kd.R_types HO_5.out BK180.out (by decide))) (by omega) hcl_
                                rw [show (t196.drop 3).length = 2 * N_ by rw [List.length_drop]; omega] at hF3
                                have hi3 : (3 : Int) ≤ (t196.length : Int) := by omega
                                have hc3 : (3 : Int) ≤ (co56 : Int) := by omega
                                have hlN2 : t196.length - 3 = 2 * N_ := by omega
                                obtain ⟨i0_, hi0_, _, hsz_, _⟩ := info_parts info2
                                have hcut_ := cut_from (P := Tryd.prog) 83 2 .i64 Tryd.underlying83 hi0_ 1 hsz_ (some ad200) t196.length co56 3 (by omega) hi3
                                rw [show ((3 : Int).toNat) = 3 from rfl, hlN2] at hcut_
                                replace hF3 : Kd.F (Kd.int .i64) w63 (fun k => k < w63.heap.size ∧ k ≠ gb180) (if co56 = 3 then some ad200 else some { block := ad200.block, off := ad200.off + 3 }) (2 * N_) (t196.drop 3) := Kd.F_mono (Kd.F_bound hF3) (fun k h => ⟨h.2, h.1.2⟩)
                                have hcc_ : 2 * N_ ≤ co56 - 3 := by omega
                                have hNb_ : N_ ≤ 1000000000 := by omega
                                clear hi0_ hsz_ hlN2 hc3 hi3 hcl_
                                with_reducible unfold Exit.then
                                simp only []
                                apply_assumption
                                repeat (first | (go_big_may; go_in) | go_values | go_skip | go_guarded | go_step | go_upon | go_back)
                                refine parse_range (hcode := ?side) (BK := BK180.out) (hF := hF3) (hN := hNb_) (hc := hcc_) (hK := ?_)
                                case side => kernel_rfl
                                intro X_ W_ w65 v206 hW_ hb ho0' hX_ HX_
                                subst hW_
                                have ho0 := Kd.R_lower ho0' (Nat.le_add_right w63.heap.size 2)
                                rw [← hT] at ho0
                                clear ho0' hT hF3 hcc_ hNb_ hN9 hlN
                                have GX_ : w.heap.size ≤ X_ := Nat.le_trans (pbZ HB.out) hX_
                                have GXg_ : X_ ≠ gb180 := (by
                                  rintro rfl
                                  have h_ := (bkB BK180.out hb).symm.trans HX_
                                  cases h_)
                                clear hX_
                                have n0_ := Az.mk (Kd.R_below (Kd.R_ext HO_4.out) hb)
                                have n1_ := Az.mk (Kd.R_below (Kd.R_ext HO_5.out) hb)
                                have n2_ := Az.mk (Kd.R_lower (Kd.R_newM (M := fun k_ => (w.heap.size ≤ k_)) (Kd.R_mono (ok' := fun k_ => True) ho0 (fun _ hk_ => trivial)) (pbZ (by exact pbE HB.out)) (fun k_ h_ => h_)) (pbZ (by exact pbE HB.out)))
                                have n3_ := Az.mk (bkB (g := gb180) (o := .cells #[.int .i64 (rd t196 0), .string (rdOf ByteArray.empty t181 1), .string (rdOf ByteArray.empty t181 2), .int .i64 (rd t196 1), .slice none 0 0, .int .i64 (rd t196 2)] 26 (0, 0)) (bk BK180.out) hb)
                                have n4_ := Az.mk (pbT (by exact pbE HB.out) hb)
                                clear HO_4
                                clear HO_5
                                clear BK180
                                clear HB
                                have HO_4 := n0_
                                have HO_5 := n1_
                                have HO207 := n2_
                                have BK180 := n3_
                                have HB := n4_
                                clear n0_ n1_ n2_ n3_ n4_
                                (try clear hb)
                                (try clear hb2)
                                (try clear hk)
                                (try clear hi)
                                (try clear ho0)
                                obtain ⟨Ao66, co66, eo66⟩ := Kd.R_slice HO207.out
                                (first | subst eo66 | (injection eo66 with f1_ f2_ f3_; have f4_ := f1_.symm; have f5_ := f3_.symm; clear f1_ f2_ f3_; subst f4_; subst f5_))
                                simp only [Exit.inBlock, Exit.then]
                                apply_assumption
                                have hcz68_0 : w65.cell? ⟨gb180, 0, none⟩ = some (.int .i64 (rd t196 0)) := (bkC BK180.out 0).trans rfl
                                have hcz68_1 : w65.cell? ⟨gb180, 1, none⟩ = some (.string (rdOf ByteArray.empty t181 1)) := (bkC BK180.out 1).trans rfl
                                have hcz68_2 : w65.cell? ⟨gb180, 2, none⟩ = some (.string (rdOf ByteArray.empty t181 2)) := (bkC BK180.out 2).trans rfl
                                have hcz68_3 : w65.cell? ⟨gb180, 3, none⟩ = some (.int .i64 (rd t196 1)) := (bkC BK180.out 3).trans rfl
                                have hcz68_4 : w65.cell? ⟨gb180, 4, none⟩ = some (.slice none 0 0) := (bkC BK180.out 4).trans rfl
                                have hcz68_5 : w65.cell? ⟨gb180, 5, none⟩ = some (.int .i64 (rd t196 2)) := (bkC BK180.out 5).trans rfl
                                have hfz68_0 := bkF BK180.out 0
                                have hfz68_1 := bkF BK180.out 1
                                have hfz68_2 := bkF BK180.out 2
                                have hfz68_3 := bkF BK180.out 3
                                have hfz68_4 := bkF BK180.out 4
                                have hfz68_5 := bkF BK180.out 5
                                repeat (first | (go_big_may; (first | ((with_reducible refine gtc (f := 19) rfl ?_); refine goesL_ (some 75) rfl rfl Tryd.func19 (by kernel_rfl) rfl #[.agg #[.int .i64 (rd t196 0), .string (rdOf ByteArray.empty t181 1), .string (rdOf ByteArray.empty t181 2), .int .i64 (rd t196 1), .slice Ao66 t205.length co66, .int .i64 (rd t196 2)]] rfl (by (try simp only [List.map_toArray, List.map_cons, List.map_nil]); first | done | rfl | (simp only [List.length_drop, List.length_take]; rfl)) ?_; (with_reducible refine (desc_Put.calls kj13 (rd t196 0) (rdOf ByteArray.empty t181 1) (rdOf ByteArray.empty t181 2) (rd t196 1) _ _ t205 (rd t196 2) t208 _ ?side1 ?side2 ?side3 A33.out).mono ?_); (case side1 => exact hG.below (by exact pbE HB.out)); (case side2 => refine (Kd.R_reads' (e := 60) (base := w.heap.size) (ok := fun k_ => ((w.heap.size ≤ k_) ∧ True)) (n := t205.length) (c := co66) ?_).2.2; exact (by (with_reducible repeat (first | apply Kd.R_alloc | apply Kd.R_drewN | apply Kd.R_drew)); exact (Kd.R_mono (Kd.R_far (p := ⟨gb180, 4, none⟩) (Kd.R_types HO207.out BK180.out (by decide)) (fun _ hk => hk.2) (.slice Ao66 t205.length co66)) (fun _ h_ => h_.1)))); (case side3 => exact (Kd.R_reads' HO207.out).2.1); rintro e w69 ⟨rfl, hb⟩; have HX_ := bkB (g := X_) (o := .deferred (some [])) (by repeat (first | (with_reducible exact HX_) | with_reducible refine (Below.heap_setCell _ ⟨gb180, _, none⟩ _ X_ GXg_).trans ?_)) hb; refine ⟨_, rfl, ?_⟩; have n0_ := Az.mk (Kd.R_below (by (with_reducible repeat (first | apply Kd.R_alloc | apply Kd.R_drewN | apply Kd.R_drew)); exact (Kd.R_mono (Kd.R_far (p := ⟨gb180, 4, none⟩) (Kd.R_types HO_4.out BK180.out (by decide)) (fun _ hk => hk.2) (.slice Ao66 t205.length co66)) (fun _ h_ => h_.1))) hb); have n1_ := Az.mk (Kd.R_below (by (with_reducible repeat (first | apply Kd.R_alloc | apply Kd.R_drewN | apply Kd.R_drew)); exact (Kd.R_mono (Kd.R_far (p := ⟨gb180, 4, none⟩) (Kd.R_types HO_5.out BK180.out (by decide)) (fun _ hk => hk.2) (.slice Ao66 t205.length co66)) (fun _ h_ => h_.1))) hb); have n2_ := Az.mk (Kd.R_below (by (with_reducible repeat (first | apply Kd.R_alloc | apply Kd.R_drewN | apply Kd.R_drew)); exact (Kd.R_mono (Kd.R_far (p := ⟨gb180, 4, none⟩) (Kd.R_types HO207.out BK180.out (by decide)) (fun _ hk => hk.2) (.slice Ao66 t205.length co66)) (fun _ h_ => h_.1))) hb); have n3_ := Az.mk (bkB (g := gb180) (o := .cells #[.int .i64 (rd t196 0), .string (rdOf ByteArray.empty t181 1), .string (rdOf ByteArray.empty t181 2), .int .i64 (rd t196 1), .slice Ao66 t205.length co66, .int .i64 (rd t196 2)] 26 (0, 0)) (by refine bk ?_; refine blk_put (cs := #[.int .i64 (rd t196 0), .string (rdOf ByteArray.empty t181 1), .string (rdOf ByteArray.empty t181 2), .int .i64 (rd t196 1), .slice none 0 0, .int .i64 (rd t196 2)]) ?_ 4 _ rfl; refine bk ?_; exact BK180.out) hb); have n4_ := Az.mk (pbT (by exact pbE HB.out) hb); clear HO_4; clear HO_5; clear HO207; clear BK180; clear HB; have HO_4 := n0_; have HO_5 := n1_; have HO207 := n2_; have BK180 := n3_; have HB := n4_; clear n0_ n1_ n2_ n3_ n4_; (try clear hb); (try clear hb2); (try clear hk); (try clear hi); have hcz70_0 : w69.cell? ⟨gb180, 0, none⟩ = some (.int .i64 (rd t196 0)) := (bkC BK180.out 0).trans rfl; have hcz70_1 : w69.cell? ⟨gb180, 1, none⟩ = some (.string (rdOf ByteArray.empty t181 1)) := (bkC BK180.out 1).trans rfl; have hcz70_2 : w69.cell? ⟨gb180, 2, none⟩ = some (.string (rdOf ByteArray.empty t181 2)) := (bkC BK180.out 2).trans rfl; have hcz70_3 : w69.cell? ⟨gb180, 3, none⟩ = some (.int .i64 (rd t196 1)) := (bkC BK180.out 3).trans rfl; have hcz70_4 : w69.cell? ⟨gb180, 4, none⟩ = some (.slice Ao66 t205.length co66) := (bkC BK180.out 4).trans rfl; have hcz70_5 : w69.cell? ⟨gb180, 5, none⟩ = some (.int .i64 (rd t196 2)) := (bkC BK180.out 5).trans rfl; have hfz70_0 := bkF BK180.out 0; have hfz70_1 := bkF BK180.out 1; have hfz70_2 := bkF BK180.out 2; have hfz70_3 := bkF BK180.out 3; have hfz70_4 := bkF BK180.out 4; have hfz70_5 := bkF BK180.out 5))) | go_values | go_skip | go_guarded | go_step | go_upon | go_back)
                                apply bodyPost_retD (X := X_)
                                case hd => rfl
                                case hX => exact (by repeat (first | (with_reducible exact HX_) | with_reducible refine (Below.heap_setCell _ ⟨gb180, _, none⟩ _ X_ GXg_).trans ?_))
                                case hr => refine results_ct rfl _ _ gb180 26 #[.int .i64 0, .string (⟨#[]⟩ : ByteArray), .string (⟨#[]⟩ : ByteArray), .int .i64 0, .slice none 0 0, .int .i64 0] (0, 0) _ rfl ?_ Tryd.underlying26 rfl (by kernel_rfl); refine (World.putObj_heap_other GXg_.symm).trans ?_; exact (by refine bk ?_; refine blk_put (cs := #[.int .i64 0, .string (⟨#[]⟩ : ByteArray), .string (⟨#[]⟩ : ByteArray), .int .i64 0, .slice none 0 0, .int .i64 (rd t196 2)]) ?_ 5 _ rfl; refine bk ?_; refine blk_put (cs := #[.int .i64 0, .string (⟨#[]⟩ : ByteArray), .string (⟨#[]⟩ : ByteArray), .int .i64 0, .slice Ao66 t205.length co66, .int .i64 (rd t196 2)]) ?_ 4 _ rfl; refine bk ?_; refine blk_put (cs := #[.int .i64 0, .string (⟨#[]⟩ : ByteArray), .string (⟨#[]⟩ : ByteArray), .int .i64 (rd t196 1), .slice Ao66 t205.length co66, .int .i64 (rd t196 2)]) ?_ 3 _ rfl; refine bk ?_; refine blk_put (cs := #[.int .i64 0, .string (⟨#[]⟩ : ByteArray), .string (rdOf ByteArray.empty t181 2), .int .i64 (rd t196 1), .slice Ao66 t205.length co66, .int .i64 (rd t196 2)]) ?_ 2 _ rfl; refine bk ?_; refine blk_put (cs := #[.int .i64 0, .string (rdOf ByteArray.empty t181 1), .string (rdOf ByteArray.empty t181 2), .int .i64 (rd t196 1), .slice Ao66 t205.length co66, .int .i64 (rd t196 2)]) ?_ 1 _ rfl; refine bk ?_; refine blk_put (cs := #[.int .i64 (rd t196 0), .string (rdOf ByteArray.empty t181 1), .string (rdOf ByteArray.empty t181 2), .int .i64 (rd t196 1), .slice Ao66 t205.length co66, .int .i64 (rd t196 2)]) ?_ 0 _ rfl; refine bk ?_; exact BK180.out)
                                exact ⟨_, by first | rfl | (simp [errW_none, errW_some] <;> rfl) | (simp [*, errW_none, errW_some] <;> rfl), Kd.V_nil _ _ _ _ _, below_put (by exact pbE HB.out) GX_⟩
                            · rw [if_neg c31] at H
                              exact absurd H (by simp)
                          · rw [if_neg c30] at H
                            exact absurd H (by simp)
                        · rw [if_neg c29] at H
                          exact absurd H (by simp)
                      · rw [if_neg c28] at H
                        exact absurd H (by simp)
                    · rw [if_neg c27] at H
                      exact absurd H (by simp)
            · rw [if_neg c12] at H
              exact absurd H (by simp)
          · rw [if_neg c11] at H
            exact absurd H (by simp)
        · rw [if_neg c10] at H
          exact absurd H (by simp)
end Go.Proofs.YtjfhcijjjadhbaaDoor.P
end
section
-- Written by a program of this session (wip/tools/pr.py), over the kit's printer; functions named in the texts imported below are given by hand.
namespace Go.Proofs.YtjfhcijjjadhbaaDoor.P
open Go.RowKit Go.Proofs.YtjfhcijjjadhbaaDoor.K Go.Proofs.YtjfhcijjjadhbaaDoorW.PrintWords Go.Proofs.YtjfhcijjjadhbaaDoorW.PrintLast Go.Proofs.YtjfhcijjjadhbaaDoorW.PrintMore
attribute [local go_sem] max2_int min2_int max_two min_two max_three min_three max_four min_four   -- for this text's walks alone
theorem eqA23 (d : Nat) (w : World) (x0 y0 : ByteArray) (x1 y1 : ByteArray) :
    (Op.equalIn (d + 2) 23 (.agg #[.string x0, .string x1]) (.agg #[.string y0, .string y1])).run Tryd.prog w = .ok (x0.toList == y0.toList && (x1.toList == y1.toList)) w := by
  refine eqA_of Tryd.underlying23 (by kernel_rfl) ?_
  refine eqf_cons (by rfl) (by go_simp; rfl) (by go_simp; rfl) (by go_simp) ?_
  exact eqf_last (by rfl) (by go_simp; rfl) (by go_simp; rfl) (by go_simp)
end Go.Proofs.YtjfhcijjjadhbaaDoor.P
end
section
-- Written by a program of this session (wip/tools/pr.py), over the kit's printer; functions named in the texts imported below are given by hand.
namespace Go.Proofs.YtjfhcijjjadhbaaDoor.P
open Go.RowKit Go.Proofs.YtjfhcijjjadhbaaDoor.K Go.Proofs.YtjfhcijjjadhbaaDoorW.PrintWords Go.Proofs.YtjfhcijjjadhbaaDoorW.PrintLast Go.Proofs.YtjfhcijjjadhbaaDoorW.PrintMore
attribute [local go_sem] max2_int min2_int max_two min_two max_three min_three max_four min_four   -- for this text's walks alone
theorem eqA60 (d : Nat) (w : World) (x0 y0 : Int) (x1 y1 : Int) :
    (Op.equalIn (d + 2) 60 (.agg #[.int .i64 x0, .int .i64 x1]) (.agg #[.int .i64 y0, .int .i64 y1])).run Tryd.prog w = .ok (x0 == y0 && (x1 == y1)) w := by
  refine eqA_of Tryd.underlying60 (by kernel_rfl) ?_
  refine eqf_cons (by rfl) (by go_simp; rfl) (by go_simp; rfl) (by go_simp) ?_
  exact eqf_last (by rfl) (by go_simp; rfl) (by go_simp; rfl) (by go_simp)
end Go.Proofs.YtjfhcijjjadhbaaDoor.P
end
section
-- Written by a program of this session (wip/tools/pr.py), over the kit's printer; functions named in the texts imported below are given by hand.
namespace Go.Proofs.YtjfhcijjjadhbaaDoor.P
open Go.RowKit Go.Proofs.YtjfhcijjjadhbaaDoor.K Go.Proofs.YtjfhcijjjadhbaaDoorW.PrintWords Go.Proofs.YtjfhcijjjadhbaaDoorW.PrintLast Go.Proofs.YtjfhcijjjadhbaaDoorW.PrintMore
attribute [local go_sem] max2_int min2_int max_two min_two max_three min_three max_four min_four   -- for this text's walks alone
attribute [local go_sem high] eqA60
/-! ### api_Member_42: function 42 -/
def api_Member_42.l0 : Nat → List (S60) → List (S60) → Int → Int → Option (Bool)
  | 0, _, _, _, _ => none
  | k + 1, x0, x1, x12, x13 => if x13 < x12 then (if 0 ≤ x13 then (if x13 < (x0.length : Int) then (if x13 < (x1.length : Int) then (if (!(((rd_T60 x0 x13).f0) == ((rd_T60 x1 x13).f0)) || (!(((rd_T60 x0 x13).f1) == ((rd_T60 x1 x13).f1)))) = true then (some false) else (api_Member_42.l0 k x0 x1 x12 (wrap64 (x13 + 1)))) else (none)) else (none)) else (none)) else (some true)
def api_Member_42.f (k : Nat) (l0 : List (S60)) (l1 : List (S60)) : Option (Bool) := if (l0.length : Int) = (l1.length : Int) then (api_Member_42.l0 k l0 l1 (l0.length : Int) 0) else (some false)
theorem api_Member_42.mono_l : ∀ k, (∀ y0 y1 y2 y3, LeO (api_Member_42.l0 k y0 y1 y2 y3) (api_Member_42.l0 (k + 1) y0 y1 y2 y3))
  | 0 => fun _ _ _ _ r h => by simp [api_Member_42.l0] at h
  | k + 1 => by
    have ih0 := api_Member_42.mono_l k
    · intro y0 y1 y2 y3
      unfold api_Member_42.l0
      repeat' first
      | (with_reducible exact ih0 _ _ _ _)
      | (with_reducible exact LeO.refl _)
      | (with_reducible exact LeO.none _)
      | (with_reducible refine LeO.ite ?_ ?_)
      | (with_reducible refine LeO.bind ?_ (fun _ => ?_))
      | exact ih0 _ _ _ _
      | exact LeO.none _
      | refine LeO.ite ?_ ?_
      | refine LeO.bind ?_ (fun _ => ?_)
theorem api_Member_42.mono : ∀ a0 a1 k, LeO (api_Member_42.f k a0 a1) (api_Member_42.f (k + 1) a0 a1) := by
  intro a0 a1 k
  have ih0 := api_Member_42.mono_l k
  unfold api_Member_42.f
  repeat' first
      | (with_reducible exact ih0 _ _ _ _)
      | (with_reducible exact LeO.refl _)
      | (with_reducible exact LeO.none _)
      | (with_reducible refine LeO.ite ?_ ?_)
      | (with_reducible refine LeO.bind ?_ (fun _ => ?_))
      | exact ih0 _ _ _ _
      | exact LeO.none _
      | refine LeO.ite ?_ ?_
      | refine LeO.bind ?_ (fun _ => ?_)
set_option maxHeartbeats 8000000 in
set_option maxRecDepth 100000 in
theorem api_Member_42.calls (k : Nat) (A0 : Option Addr) (c0 : Nat) (l0 : List (S60)) (A1 : Option Addr) (c1 : Nat) (l1 : List (S60)) (r : Bool) (w : World) (hG : TheG w) (hr0 : Kd.C k60 w A0 l0.length l0) (hc0 : l0.length ≤ c0) (hr1 : Kd.C k60 w A1 l1.length l1) (hc1 : l1.length ≤ c1) (h : api_Member_42.f k l0 l1 = some r) :
    Calls Tryd.prog 42 #[.slice A0 l0.length c0, .slice A1 l1.length c1] w fun e w' => e = .returned (.bool r) ∧ Drawn0 w w' := by
  have hu60 := Tryd.underlying60
  have HR0 := Az.mk hr0
  have HC0 := Az.mk hc0
  clear hr0 hc0
  have HR1 := Az.mk hr1
  have HC1 := Az.mk hc1
  clear hr1 hc1
  have H : (if (l0.length : Int) = (l1.length : Int) then (api_Member_42.l0 k l0 l1 (l0.length : Int) 0) else (some false)) = some r := h
  clear h
  by_cases c3 : (l0.length : Int) = (l1.length : Int)
  · rw [if_pos c3] at H
    have c3b0 : ((l0.length : Int) == (l1.length : Int)) = true := beq_iff_eq.mpr c3
    have c3b1 : ((l0.length : Int) != (l1.length : Int)) = false := bne_eq_false_iff_eq.mpr c3
    have c3b2 : (l0.length == l1.length) = true := by first | simpa using c3 | (simp at c3 ⊢; omega)
    clear c3
    have H' := Az.mk H
    clear H
    go_enter Tryd.func42, Tryd.ntmps42
    go_wp2
    repeat (go_quiet (fail); try go_wp2)
    go_loopg [13] k (fun kq v13 w' => ∃ (x13_1 : Int), v13 = .int .i64 x13_1 ∧ Az (api_Member_42.l0 kq l0 l1 (l0.length : Int) x13_1 = some r) ∧ Az (kq ≤ k) ∧ Drawn0 w w')
    case atStart => exact ⟨(0), (by first | rfl | (simp; done) | (simp [*]; done)), H', ⟨Nat.le_refl _⟩, by repeat (first | exact Drawn0.refl _ | apply Drawn0.step)⟩
    case round =>
      clear H'
      try clear c1
      try clear p2
      try clear c3
      try clear c3b0
      try clear c3b1
      try clear c3b2
      obtain ⟨x13_1, rfl, HA, HK1, ⟨m1, rfl⟩⟩ := hrel
      cases gk with
      | zero => exact absurd HA.out (by simp [api_Member_42.l0])
      | succ k1 =>
        have H := HA.out
        clear HA
        simp only [api_Member_42.l0] at H
        by_cases c4 : x13_1 < (l0.length : Int)
        · rw [if_pos c4] at H
          have c4b0 : decide (x13_1 < (l0.length : Int)) = true := decide_eq_true c4
          clear c4
          by_cases c5 : 0 ≤ x13_1
          · rw [if_pos c5] at H
            have c5b0 : decide (0 ≤ x13_1) = true := decide_eq_true c5
            clear c5
            by_cases c6 : x13_1 < (l0.length : Int)
            · rw [if_pos c6] at H
              have c6b0 : decide (x13_1 < (l0.length : Int)) = true := decide_eq_true c6
              clear c6
              by_cases c7 : x13_1 < (l1.length : Int)
              · rw [if_pos c7] at H
                have c7b0 : decide (x13_1 < (l1.length : Int)) = true := decide_eq_true c7
                clear c7
                by_cases c8 : (!(((rd_T60 l0 x13_1).f0) == ((rd_T60 l1 x13_1).f0)) || (!(((rd_T60 l0 x13_1).f1) == ((rd_T60 l1 x13_1).f1)))) = true
                · rw [if_pos c8] at H
                  have c8b0 : (!(((rd_T60 l0 x13_1).f0) == ((rd_T60 l1 x13_1).f0)) || (!(((rd_T60 l0 x13_1).f1) == ((rd_T60 l1 x13_1).f1)))) = true := c8
                  clear c8
                  obtain rfl := Option.some.inj H
                  have p479 : 0 ≤ (x13_1 : Int) := of_decide_eq_true (by first | (with_reducible assumption) | assumption)
                  have q479 : x13_1 < (l0.length : Int) := of_decide_eq_true (by first | (with_reducible assumption) | assumption)
                  obtain ⟨ad479, e479, hx479_0, hx479_1⟩ := at_T60 HR0.out x13_1 p479 q479
                  cases e479
                  replace p479 := eq_true p479
                  replace q479 := eq_true q479
                  have p480 : 0 ≤ (x13_1 : Int) := of_decide_eq_true (by first | (with_reducible assumption) | assumption)
                  have q480 : x13_1 < (l1.length : Int) := of_decide_eq_true (by first | (with_reducible assumption) | assumption)
                  obtain ⟨ad480, e480, hx480_0, hx480_1⟩ := at_T60 HR1.out x13_1 p480 q480
                  cases e480
                  replace p480 := eq_true p480
                  replace q480 := eq_true q480
                  go_wp2
                  repeat (go_quiet (fail); try go_wp2)
                  go_ret
                  exact ⟨by first | rfl | (simp; done) | (simp [*]; done), by repeat (first | exact Drawn0.refl _ | apply Drawn0.step)⟩
                · rw [if_neg c8] at H
                  have c8b0 : (!(((rd_T60 l0 x13_1).f0) == ((rd_T60 l1 x13_1).f0)) || (!(((rd_T60 l0 x13_1).f1) == ((rd_T60 l1 x13_1).f1)))) = false := by simpa using c8
                  clear c8
                  have H' := Az.mk H
                  clear H
                  have p479 : 0 ≤ (x13_1 : Int) := of_decide_eq_true (by first | (with_reducible assumption) | assumption)
                  have q479 : x13_1 < (l0.length : Int) := of_decide_eq_true (by first | (with_reducible assumption) | assumption)
                  obtain ⟨ad479, e479, hx479_0, hx479_1⟩ := at_T60 HR0.out x13_1 p479 q479
                  cases e479
                  replace p479 := eq_true p479
                  replace q479 := eq_true q479
                  have p480 : 0 ≤ (x13_1 : Int) := of_decide_eq_true (by first | (with_reducible assumption) | assumption)
                  have q480 : x13_1 < (l1.length : Int) := of_decide_eq_true (by first | (with_reducible assumption) | assumption)
                  obtain ⟨ad480, e480, hx480_0, hx480_1⟩ := at_T60 HR1.out x13_1 p480 q480
                  cases e480
                  replace p480 := eq_true p480
                  replace q480 := eq_true q480
                  go_wp2
                  repeat (go_quiet (fail); try go_wp2)
                  go_roundg k1
                  case measure => have := HK1.out; omega
                  case rel => exact ⟨(wrap64 (x13_1 + 1)), (by first | rfl | (simp; done) | (simp [*]; done)), H', ⟨by have := HK1.out; omega⟩, by repeat (first | exact Drawn0.refl _ | apply Drawn0.step)⟩
              · rw [if_neg c7] at H
                exact absurd H (by simp)
            · rw [if_neg c6] at H
              exact absurd H (by simp)
          · rw [if_neg c5] at H
            exact absurd H (by simp)
        · rw [if_neg c4] at H
          have c4b0 : decide (x13_1 < (l0.length : Int)) = false := decide_eq_false c4
          clear c4
          obtain rfl := Option.some.inj H
          go_wp2
          repeat (go_quiet (fail); try go_wp2)
          go_ret
          exact ⟨by first | rfl | (simp; done) | (simp [*]; done), by repeat (first | exact Drawn0.refl _ | apply Drawn0.step)⟩
  · rw [if_neg c3] at H
    have c3b0 : ((l0.length : Int) == (l1.length : Int)) = false := beq_eq_false_iff_ne.mpr c3
    have c3b1 : ((l0.length : Int) != (l1.length : Int)) = true := bne_iff_ne.mpr c3
    have c3b2 : (l0.length == l1.length) = false := by first | simpa using c3 | (simp at c3 ⊢; omega)
    obtain rfl := Option.some.inj H
    go_enter Tryd.func42, Tryd.ntmps42
    go_wp2
    repeat (go_quiet (fail); try go_wp2)
    go_ret
    exact ⟨by first | rfl | (simp; done) | (simp [*]; done), by repeat (first | exact Drawn0.refl _ | apply Drawn0.step)⟩
end Go.Proofs.YtjfhcijjjadhbaaDoor.P
end
section
-- Written by a program of this session (wip/tools/pr.py), over the kit's printer; functions named in the texts imported below are given by hand.
namespace Go.Proofs.YtjfhcijjjadhbaaDoor.P
open Go.RowKit Go.Proofs.YtjfhcijjjadhbaaDoor.K Go.Proofs.YtjfhcijjjadhbaaDoorW.PrintWords Go.Proofs.YtjfhcijjjadhbaaDoorW.PrintLast Go.Proofs.YtjfhcijjjadhbaaDoorW.PrintMore
attribute [local go_sem] max2_int min2_int max_two min_two max_three min_three max_four min_four   -- for this text's walks alone
attribute [local go_sem high] eqA23
/-! ### desc_Same: function 20 -/
def desc_Same.f (k : Nat) (a0_0 : Int) (a0_1 : ByteArray) (a0_2 : ByteArray) (a0_3 : Int) (l0_4 : List (S60)) (a0_5 : Int) (a1_0 : Int) (a1_1 : ByteArray) (a1_2 : ByteArray) (a1_3 : Int) (l1_4 : List (S60)) (a1_5 : Int) : Option (Bool) := if a0_0 = a1_0 then (if (a0_1.toList == a1_1.toList && (a0_2.toList == a1_2.toList)) = true then (if a0_3 = a1_3 then (if a0_5 = a1_5 then ((api_Member_42.f k l0_4 l1_4).bind fun t483 => (some t483)) else (some false)) else (some false)) else (some false)) else (some false)
theorem desc_Same.mono : ∀ a0 a1 a2 a3 a4 a5 a6 a7 a8 a9 a10 a11 k, LeO (desc_Same.f k a0 a1 a2 a3 a4 a5 a6 a7 a8 a9 a10 a11) (desc_Same.f (k + 1) a0 a1 a2 a3 a4 a5 a6 a7 a8 a9 a10 a11) := by
  intro a0 a1 a2 a3 a4 a5 a6 a7 a8 a9 a10 a11 k
  unfold desc_Same.f
  repeat' first
      | (with_reducible exact api_Member_42.mono _ _ _)
      | (with_reducible exact LeO.refl _)
      | (with_reducible exact LeO.none _)
      | (with_reducible refine LeO.ite ?_ ?_)
      | (with_reducible refine LeO.bind ?_ (fun _ => ?_))
      | exact api_Member_42.mono _ _ _
      | exact LeO.none _
      | refine LeO.ite ?_ ?_
      | refine LeO.bind ?_ (fun _ => ?_)
set_option maxHeartbeats 8000000 in
set_option maxRecDepth 100000 in
theorem desc_Same.calls (k : Nat) (a0_0 : Int) (a0_1 : ByteArray) (a0_2 : ByteArray) (a0_3 : Int) (A0_4 : Option Addr) (c0_4 : Nat) (l0_4 : List (S60)) (a0_5 : Int) (a1_0 : Int) (a1_1 : ByteArray) (a1_2 : ByteArray) (a1_3 : Int) (A1_4 : Option Addr) (c1_4 : Nat) (l1_4 : List (S60)) (a1_5 : Int) (r : Bool) (w : World) (hG : TheG w) (hr0_4 : Kd.C k60 w A0_4 l0_4.length l0_4) (hc0_4 : l0_4.length ≤ c0_4) (hr1_4 : Kd.C k60 w A1_4 l1_4.length l1_4) (hc1_4 : l1_4.length ≤ c1_4) (h : desc_Same.f k a0_0 a0_1 a0_2 a0_3 l0_4 a0_5 a1_0 a1_1 a1_2 a1_3 l1_4 a1_5 = some r) :
    Calls Tryd.prog 20 #[.agg #[.int .i64 a0_0, .string a0_1, .string a0_2, .int .i64 a0_3, .slice A0_4 l0_4.length c0_4, .int .i64 a0_5], .agg #[.int .i64 a1_0, .string a1_1, .string a1_2, .int .i64 a1_3, .slice A1_4 l1_4.length c1_4, .int .i64 a1_5]] w fun e w' => e = .returned (.bool r) ∧ Below w.heap.size w w' := by
  have hu26 := Tryd.underlying26
  have hu23 := Tryd.underlying23
  have HR0_4 := Az.mk hr0_4
  have HC0_4 := Az.mk hc0_4
  clear hr0_4 hc0_4
  have HR1_4 := Az.mk hr1_4
  have HC1_4 := Az.mk hc1_4
  clear hr1_4 hc1_4
  have HB := Az.mk (Below.refl w.heap.size w)
  have H : (if a0_0 = a1_0 then (if (a0_1.toList == a1_1.toList && (a0_2.toList == a1_2.toList)) = true then (if a0_3 = a1_3 then (if a0_5 = a1_5 then ((api_Member_42.f k l0_4 l1_4).bind fun t483 => (some t483)) else (some false)) else (some false)) else (some false)) else (some false)) = some r := h
  clear h
  by_cases c3 : a0_0 = a1_0
  · rw [if_pos c3] at H
    have c3b0 : (a0_0 == a1_0) = true := beq_iff_eq.mpr c3
    have c3b1 : (a0_0 != a1_0) = false := bne_eq_false_iff_eq.mpr c3
    clear c3
    by_cases c4 : (a0_1.toList == a1_1.toList && (a0_2.toList == a1_2.toList)) = true
    · rw [if_pos c4] at H
      have c4b0 : (a0_1.toList == a1_1.toList && (a0_2.toList == a1_2.toList)) = true := c4
      (try (have c4b1 : decide (a0_1.toList = a1_1.toList && (a0_2.toList == a1_2.toList)) = true := by simpa using c4))
      (try (have c4b2 : (a0_1.toList == a1_1.toList && (a0_2.toList == a1_2.toList)) = true := by simpa using c4))
      clear c4
      by_cases c5 : a0_3 = a1_3
      · rw [if_pos c5] at H
        have c5b0 : (a0_3 == a1_3) = true := beq_iff_eq.mpr c5
        have c5b1 : (a0_3 != a1_3) = false := bne_eq_false_iff_eq.mpr c5
        clear c5
        by_cases c6 : a0_5 = a1_5
        · rw [if_pos c6] at H
          have c6b0 : (a0_5 == a1_5) = true := beq_iff_eq.mpr c6
          have c6b1 : (a0_5 != a1_5) = false := bne_eq_false_iff_eq.mpr c6
          clear c6
          replace H := Option.bind_eq_some_iff.mp H
          obtain ⟨t483, A70, H⟩ := H
          replace H : (some t483) = some r := H
          have A7 := Az.mk A70
          clear A70
          obtain rfl := Option.some.inj H
          go_enter Tryd.func20, Tryd.ntmps20
          go_wp2_with (first | ((with_reducible refine gate_dst (N := 2) rfl ?_); refine box_event ?hg (N := 2) ?hd (cs := #[.int .i64 a0_0, .string a0_1, .string a0_2, .int .i64 a0_3, .slice A0_4 l0_4.length c0_4, .int .i64 a0_5]) (t := 26) ?hr ?_; (case hd => rfl); (case hg => rfl); (case hr => first | (go_simp; done) | (go_simp; rfl)); intro gb481 hg w8 hbox hb; have n0_ := Az.mk (pbT (by exact pbE HB.out) hb); have n1_ := Az.mk (hbox); have n2_ := Az.mk ((by rw [hg]; exact (pbZ (by exact pbE HB.out)) : w.heap.size ≤ gb481)); have n3_ := Az.mk ((by rw [hg]; exact (pbZ (by exact pbE HB.out)) : w.heap.size ≤ gb481)); clear HB; have HB := n0_; have BK481 := n1_; have GW481 := n2_; have GE481 := n3_; clear n0_ n1_ n2_ n3_; clear hb hbox hg) | ((with_reducible refine gate_dst (N := 3) rfl ?_); refine box_event ?hg (N := 3) ?hd (cs := #[.int .i64 a1_0, .string a1_1, .string a1_2, .int .i64 a1_3, .slice A1_4 l1_4.length c1_4, .int .i64 a1_5]) (t := 26) ?hr ?_; (case hd => rfl); (case hg => rfl); (case hr => first | (go_simp; done) | (go_simp; rfl)); intro gb482 hg w9 hbox hb; have n0_ := Az.mk (bkB (g := gb481) (o := .cells #[.int .i64 a0_0, .string a0_1, .string a0_2, .int .i64 a0_3, .slice A0_4 l0_4.length c0_4, .int .i64 a0_5] 26 (0, 0)) (bk BK481.out) hb); have n1_ := Az.mk (pbT (by exact pbE HB.out) hb); have n2_ := Az.mk (hbox); have n3_ := Az.mk ((by rw [hg]; exact (pbZ (by exact pbE HB.out)) : w.heap.size ≤ gb482)); have n4_ := Az.mk ((by rw [hg]; exact (pbZ (by exact pbE HB.out)) : w.heap.size ≤ gb482)); have n5_ := Az.mk ((by rw [hg]; exact Nat.ne_of_lt (blk_lt (g := gb481) (o := .cells #[.int .i64 a0_0, .string a0_1, .string a0_2, .int .i64 a0_3, .slice A0_4 l0_4.length c0_4, .int .i64 a0_5] 26 (0, 0)) (bk BK481.out)) : gb481 ≠ gb482)); have n6_ := Az.mk ((by rw [hg]; exact Nat.ne_of_gt (blk_lt (g := gb481) (o := .cells #[.int .i64 a0_0, .string a0_1, .string a0_2, .int .i64 a0_3, .slice A0_4 l0_4.length c0_4, .int .i64 a0_5] 26 (0, 0)) (bk BK481.out)) : gb482 ≠ gb481)); clear BK481; clear HB; have BK481 := n0_; have HB := n1_; have BK482 := n2_; have GW482 := n3_; have GE482 := n4_; have NB481_482 := n5_; have NB482_481 := n6_; clear n0_ n1_ n2_ n3_ n4_ n5_ n6_; clear hb hbox hg; have hnb10 := NB481_482.out; have hnc10 := NB482_481.out; have hcz11_0 : w9.cell? ⟨gb481, 0, none⟩ = some (.int .i64 a0_0) := (bkC BK481.out 0).trans rfl; have hcz11_1 : w9.cell? ⟨gb481, 1, none⟩ = some (.string a0_1) := (bkC BK481.out 1).trans rfl; have hcz11_2 : w9.cell? ⟨gb481, 2, none⟩ = some (.string a0_2) := (bkC BK481.out 2).trans rfl; have hcz11_3 : w9.cell? ⟨gb481, 3, none⟩ = some (.int .i64 a0_3) := (bkC BK481.out 3).trans rfl; have hcz11_4 : w9.cell? ⟨gb481, 4, none⟩ = some (.slice A0_4 l0_4.length c0_4) := (bkC BK481.out 4).trans rfl; have hcz11_5 : w9.cell? ⟨gb481, 5, none⟩ = some (.int .i64 a0_5) := (bkC BK481.out 5).trans rfl; have hfz11_0 := bkF BK481.out 0; have hfz11_1 := bkF BK481.out 1; have hfz11_2 := bkF BK481.out 2; have hfz11_3 := bkF BK481.out 3; have hfz11_4 := bkF BK481.out 4; have hfz11_5 := bkF BK481.out 5; have hcz12_0 : w9.cell? ⟨gb482, 0, none⟩ = some (.int .i64 a1_0) := (bkC BK482.out 0).trans rfl; have hcz12_1 : w9.cell? ⟨gb482, 1, none⟩ = some (.string a1_1) := (bkC BK482.out 1).trans rfl; have hcz12_2 : w9.cell? ⟨gb482, 2, none⟩ = some (.string a1_2) := (bkC BK482.out 2).trans rfl; have hcz12_3 : w9.cell? ⟨gb482, 3, none⟩ = some (.int .i64 a1_3) := (bkC BK482.out 3).trans rfl; have hcz12_4 : w9.cell? ⟨gb482, 4, none⟩ = some (.slice A1_4 l1_4.length c1_4) := (bkC BK482.out 4).trans rfl; have hcz12_5 : w9.cell? ⟨gb482, 5, none⟩ = some (.int .i64 a1_5) := (bkC BK482.out 5).trans rfl; have hfz12_0 := bkF BK482.out 0; have hfz12_1 := bkF BK482.out 1; have hfz12_2 := bkF BK482.out 2; have hfz12_3 := bkF BK482.out 3; have hfz12_4 := bkF BK482.out 4; have hfz12_5 := bkF BK482.out 5) | (go_at_call 42; (with_reducible refine (api_Member_42.calls k _ _ l0_4 _ _ l1_4 t483 _ ?side1 ?side2 ?side3 ?side4 ?side5 A7.out).mono ?_); (case side1 => exact hG.below (by exact pbE HB.out)); (case side2 => repeat (first | exact (Kd.C_below HR0_4.out HB.out) | (with_reducible refine Kd.C_alloc ?_ _) | (with_reducible refine Kd.C_drewN ?_ _) | (with_reducible refine Kd.C_drew ?_))); (case side3 => exact HC0_4.out); (case side4 => repeat (first | exact (Kd.C_below HR1_4.out HB.out) | (with_reducible refine Kd.C_alloc ?_ _) | (with_reducible refine Kd.C_drewN ?_ _) | (with_reducible refine Kd.C_drew ?_))); (case side5 => exact HC1_4.out); rintro e w' ⟨rfl, ⟨nd, rfl⟩⟩))
          go_ret
          exact ⟨by first | rfl | (simp [errW_none, errW_some] <;> rfl) | (simp [*, errW_none, errW_some] <;> rfl), by exact pbE HB.out⟩
        · rw [if_neg c6] at H
          have c6b0 : (a0_5 == a1_5) = false := beq_eq_false_iff_ne.mpr c6
          have c6b1 : (a0_5 != a1_5) = true := bne_iff_ne.mpr c6
          obtain rfl := Option.some.inj H
          go_enter Tryd.func20, Tryd.ntmps20
          go_wp2_with (first | ((with_reducible refine gate_dst (N := 2) rfl ?_); refine box_event ?hg (N := 2) ?hd (cs := #[.int .i64 a0_0, .string a0_1, .string a0_2, .int .i64 a0_3, .slice A0_4 l0_4.length c0_4, .int .i64 a0_5]) (t := 26) ?hr ?_; (case hd => rfl); (case hg => rfl); (case hr => first | (go_simp; done) | (go_simp; rfl)); intro gb481 hg w13 hbox hb; have n0_ := Az.mk (pbT (by exact pbE HB.out) hb); have n1_ := Az.mk (hbox); have n2_ := Az.mk ((by rw [hg]; exact (pbZ (by exact pbE HB.out)) : w.heap.size ≤ gb481)); have n3_ := Az.mk ((by rw [hg]; exact (pbZ (by exact pbE HB.out)) : w.heap.size ≤ gb481)); clear HB; have HB := n0_; have BK481 := n1_; have GW481 := n2_; have GE481 := n3_; clear n0_ n1_ n2_ n3_; clear hb hbox hg) | ((with_reducible refine gate_dst (N := 3) rfl ?_); refine box_event ?hg (N := 3) ?hd (cs := #[.int .i64 a1_0, .string a1_1, .string a1_2, .int .i64 a1_3, .slice A1_4 l1_4.length c1_4, .int .i64 a1_5]) (t := 26) ?hr ?_; (case hd => rfl); (case hg => rfl); (case hr => first | (go_simp; done) | (go_simp; rfl)); intro gb482 hg w14 hbox hb; have n0_ := Az.mk (bkB (g := gb481) (o := .cells #[.int .i64 a0_0, .string a0_1, .string a0_2, .int .i64 a0_3, .slice A0_4 l0_4.length c0_4, .int .i64 a0_5] 26 (0, 0)) (bk BK481.out) hb); have n1_ := Az.mk (pbT (by exact pbE HB.out) hb); have n2_ := Az.mk (hbox); have n3_ := Az.mk ((by rw [hg]; exact (pbZ (by exact pbE HB.out)) : w.heap.size ≤ gb482)); have n4_ := Az.mk ((by rw [hg]; exact (pbZ (by exact pbE HB.out)) : w.heap.size ≤ gb482)); have n5_ := Az.mk ((by rw [hg]; exact Nat.ne_of_lt (blk_lt (g := gb481) (o := .cells #[.int .i64 a0_0, .string a0_1, .string a0_2, .int .i64 a0_3, .slice A0_4 l0_4.length c0_4, .int .i64 a0_5] 26 (0, 0)) (bk BK481.out)) : gb481 ≠ gb482)); have n6_ := Az.mk ((by rw [hg]; exact Nat.ne_of_gt (blk_lt (g := gb481) (o := .cells #[.int .i64 a0_0, .string a0_1, .string a0_2, .int .i64 a0_3, .slice A0_4 l0_4.length c0_4, .int .i64 a0_5] 26 (0, 0)) (bk BK481.out)) : gb482 ≠ gb481)); clear BK481; clear HB; have BK481 := n0_; have HB := n1_; have BK482 := n2_; have GW482 := n3_; have GE482 := n4_; have NB481_482 := n5_; have NB482_481 := n6_; clear n0_ n1_ n2_ n3_ n4_ n5_ n6_; clear hb hbox hg; have hnb15 := NB481_482.out; have hnc15 := NB482_481.out; have hcz16_0 : w14.cell? ⟨gb481, 0, none⟩ = some (.int .i64 a0_0) := (bkC BK481.out 0).trans rfl; have hcz16_1 : w14.cell? ⟨gb481, 1, none⟩ = some (.string a0_1) := (bkC BK481.out 1).trans rfl; have hcz16_2 : w14.cell? ⟨gb481, 2, none⟩ = some (.string a0_2) := (bkC BK481.out 2).trans rfl; have hcz16_3 : w14.cell? ⟨gb481, 3, none⟩ = some (.int .i64 a0_3) := (bkC BK481.out 3).trans rfl; have hcz16_4 : w14.cell? ⟨gb481, 4, none⟩ = some (.slice A0_4 l0_4.length c0_4) := (bkC BK481.out 4).trans rfl; have hcz16_5 : w14.cell? ⟨gb481, 5, none⟩ = some (.int .i64 a0_5) := (bkC BK481.out 5).trans rfl; have hfz16_0 := bkF BK481.out 0; have hfz16_1 := bkF BK481.out 1; have hfz16_2 := bkF BK481.out 2; have hfz16_3 := bkF BK481.out 3; have hfz16_4 := bkF BK481.out 4; have hfz16_5 := bkF BK481.out 5; have hcz17_0 : w14.cell? ⟨gb482, 0, none⟩ = some (.int .i64 a1_0) := (bkC BK482.out 0).trans rfl; have hcz17_1 : w14.cell? ⟨gb482, 1, none⟩ = some (.string a1_1) := (bkC BK482.out 1).trans rfl; have hcz17_2 : w14.cell? ⟨gb482, 2, none⟩ = some (.string a1_2) := (bkC BK482.out 2).trans rfl; have hcz17_3 : w14.cell? ⟨gb482, 3, none⟩ = some (.int .i64 a1_3) := (bkC BK482.out 3).trans rfl; have hcz17_4 : w14.cell? ⟨gb482, 4, none⟩ = some (.slice A1_4 l1_4.length c1_4) := (bkC BK482.out 4).trans rfl; have hcz17_5 : w14.cell? ⟨gb482, 5, none⟩ = some (.int .i64 a1_5) := (bkC BK482.out 5).trans rfl; have hfz17_0 := bkF BK482.out 0; have hfz17_1 := bkF BK482.out 1; have hfz17_2 := bkF BK482.out 2; have hfz17_3 := bkF BK482.out 3; have hfz17_4 := bkF BK482.out 4; have hfz17_5 := bkF BK482.out 5))
          go_ret
          exact ⟨by first | rfl | (simp [errW_none, errW_some] <;> rfl) | (simp [*, errW_none, errW_some] <;> rfl), by exact pbE HB.out⟩
      · rw [if_neg c5] at H
        have c5b0 : (a0_3 == a1_3) = false := beq_eq_false_iff_ne.mpr c5
        have c5b1 : (a0_3 != a1_3) = true := bne_iff_ne.mpr c5
        obtain rfl := Option.some.inj H
        go_enter Tryd.func20, Tryd.ntmps20
        go_wp2_with (first | ((with_reducible refine gate_dst (N := 2) rfl ?_); refine box_event ?hg (N := 2) ?hd (cs := #[.int .i64 a0_0, .string a0_1, .string a0_2, .int .i64 a0_3, .slice A0_4 l0_4.length c0_4, .int .i64 a0_5]) (t := 26) ?hr ?_; (case hd => rfl); (case hg => rfl); (case hr => first | (go_simp; done) | (go_simp; rfl)); intro gb481 hg w18 hbox hb; have n0_ := Az.mk (pbT (by exact pbE HB.out) hb); have n1_ := Az.mk (hbox); have n2_ := Az.mk ((by rw [hg]; exact (pbZ (by exact pbE HB.out)) : w.heap.size ≤ gb481)); have n3_ := Az.mk ((by rw [hg]; exact (pbZ (by exact pbE HB.out)) : w.heap.size ≤ gb481)); clear HB; have HB := n0_; have BK481 := n1_; have GW481 := n2_; have GE481 := n3_; clear n0_ n1_ n2_ n3_; clear hb hbox hg) | ((with_reducible refine gate_dst (N := 3) rfl ?_); refine box_event ?hg (N := 3) ?hd (cs := #[.int .i64 a1_0, .string a1_1, .string a1_2, .int .i64 a1_3, .slice A1_4 l1_4.length c1_4, .int .i64 a1_5]) (t := 26) ?hr ?_; (case hd => rfl); (case hg => rfl); (case hr => first | (go_simp; done) | (go_simp; rfl)); intro gb482 hg w19 hbox hb; have n0_ := Az.mk (bkB (g := gb481) (o := .cells #[.int .i64 a0_0, .string a0_1, .string a0_2, .int .i64 a0_3, .slice A0_4 l0_4.length c0_4, .int .i64 a0_5] 26 (0, 0)) (bk BK481.out) hb); have n1_ := Az.mk (pbT (by exact pbE HB.out) hb); have n2_ := Az.mk (hbox); have n3_ := Az.mk ((by rw [hg]; exact (pbZ (by exact pbE HB.out)) : w.heap.size ≤ gb482)); have n4_ := Az.mk ((by rw [hg]; exact (pbZ (by exact pbE HB.out)) : w.heap.size ≤ gb482)); have n5_ := Az.mk ((by rw [hg]; exact Nat.ne_of_lt (blk_lt (g := gb481) (o := .cells #[.int .i64 a0_0, .string a0_1, .string a0_2, .int .i64 a0_3, .slice A0_4 l0_4.length c0_4, .int .i64 a0_5] 26 (0, 0)) (bk BK481.out)) : gb481 ≠ gb482)); have n6_ := Az.mk ((by rw [hg]; exact Nat.ne_of_gt (blk_lt (g := gb481) (o := .cells #[.int .i64 a0_0, .string a0_1, .string a0_2, .int .i64 a0_3, .slice A0_4 l0_4.length c0_4, .int .i64 a0_5] 26 (0, 0)) (bk BK481.out)) : gb482 ≠ gb481)); clear BK481; clear HB; have BK481 := n0_; have HB := n1_; have BK482 := n2_; have GW482 := n3_; have GE482 := n4_; have NB481_482 := n5_; have NB482_481 := n6_; clear n0_ n1_ n2_ n3_ n4_ n5_ n6_; clear hb hbox hg; have hnb20 := NB481_482.out; have hnc20 := NB482_481.out; have hcz21_0 : w19.cell? ⟨gb481, 0, none⟩ = some (.int .i64 a0_0) := (bkC BK481.out 0).trans rfl; have hcz21_1 : w19.cell? ⟨gb481, 1, none⟩ = some (.string a0_1) := (bkC BK481.out 1).trans rfl; have hcz21_2 : w19.cell? ⟨gb481, 2, none⟩ = some (.string a0_2) := (bkC BK481.out 2).trans rfl; have hcz21_3 : w19.cell? ⟨gb481, 3, none⟩ = some (.int .i64 a0_3) := (bkC BK481.out 3).trans rfl; have hcz21_4 : w19.cell? ⟨gb481, 4, none⟩ = some (.slice A0_4 l0_4.length c0_4) := (bkC BK481.out 4).trans rfl; have hcz21_5 : w19.cell? ⟨gb481, 5, none⟩ = some (.int .i64 a0_5) := (bkC BK481.out 5).trans rfl; have hfz21_0 := bkF BK481.out 0; have hfz21_1 := bkF BK481.out 1; have hfz21_2 := bkF BK481.out 2; have hfz21_3 := bkF BK481.out 3; have hfz21_4 := bkF BK481.out 4; have hfz21_5 := bkF BK481.out 5; have hcz22_0 : w19.cell? ⟨gb482, 0, none⟩ = some (.int .i64 a1_0) := (bkC BK482.out 0).trans rfl; have hcz22_1 : w19.cell? ⟨gb482, 1, none⟩ = some (.string a1_1) := (bkC BK482.out 1).trans rfl; have hcz22_2 : w19.cell? ⟨gb482, 2, none⟩ = some (.string a1_2) := (bkC BK482.out 2).trans rfl; have hcz22_3 : w19.cell? ⟨gb482, 3, none⟩ = some (.int .i64 a1_3) := (bkC BK482.out 3).trans rfl; have hcz22_4 : w19.cell? ⟨gb482, 4, none⟩ = some (.slice A1_4 l1_4.length c1_4) := (bkC BK482.out 4).trans rfl; have hcz22_5 : w19.cell? ⟨gb482, 5, none⟩ = some (.int .i64 a1_5) := (bkC BK482.out 5).trans rfl; have hfz22_0 := bkF BK482.out 0; have hfz22_1 := bkF BK482.out 1; have hfz22_2 := bkF BK482.out 2; have hfz22_3 := bkF BK482.out 3; have hfz22_4 := bkF BK482.out 4; have hfz22_5 := bkF BK482.out 5))
        go_ret
        exact ⟨by first | rfl | (simp [errW_none, errW_some] <;> rfl) | (simp [*, errW_none, errW_some] <;> rfl), by exact pbE HB.out⟩
    · rw [if_neg c4] at H
      have c4b0 : (a0_1.toList == a1_1.toList && (a0_2.toList == a1_2.toList)) = false := by simpa using c4
      (try (have c4b1 : decide (a0_1.toList = a1_1.toList && (a0_2.toList == a1_2.toList)) = false := by simpa using c4))
      (try (have c4b2 : (a0_1.toList == a1_1.toList && (a0_2.toList == a1_2.toList)) = false := by simpa using c4))
      (try (have c4b3 : ¬ (a0_1.toList = a1_1.toList && (a0_2.toList == a1_2.toList)) := by simpa using c4))
      clear c4
      obtain rfl := Option.some.inj H
      go_enter Tryd.func20, Tryd.ntmps20
      go_wp2_with (first | ((with_reducible refine gate_dst (N := 2) rfl ?_); refine box_event ?hg (N := 2) ?hd (cs := #[.int .i64 a0_0, .string a0_1, .string a0_2, .int .i64 a0_3, .slice A0_4 l0_4.length c0_4, .int .i64 a0_5]) (t := 26) ?hr ?_; (case hd => rfl); (case hg => rfl); (case hr => first | (go_simp; done) | (go_simp; rfl)); intro gb481 hg w23 hbox hb; have n0_ := Az.mk (pbT (by exact pbE HB.out) hb); have n1_ := Az.mk (hbox); have n2_ := Az.mk ((by rw [hg]; exact (pbZ (by exact pbE HB.out)) : w.heap.size ≤ gb481)); have n3_ := Az.mk ((by rw [hg]; exact (pbZ (by exact pbE HB.out)) : w.heap.size ≤ gb481)); clear HB; have HB := n0_; have BK481 := n1_; have GW481 := n2_; have GE481 := n3_; clear n0_ n1_ n2_ n3_; clear hb hbox hg) | ((with_reducible refine gate_dst (N := 3) rfl ?_); refine box_event ?hg (N := 3) ?hd (cs := #[.int .i64 a1_0, .string a1_1, .string a1_2, .int .i64 a1_3, .slice A1_4 l1_4.length c1_4, .int .i64 a1_5]) (t := 26) ?hr ?_; (case hd => rfl); (case hg => rfl); (case hr => first | (go_simp; done) | (go_simp; rfl)); intro gb482 hg w24 hbox hb; have n0_ := Az.mk (bkB (g := gb481) (o := .cells #[.int .i64 a0_0, .string a0_1, .string a0_2, .int .i64 a0_3, .slice A0_4 l0_4.length c0_4, .int .i64 a0_5] 26 (0, 0)) (bk BK481.out) hb); have n1_ := Az.mk (pbT (by exact pbE HB.out) hb); have n2_ := Az.mk (hbox); have n3_ := Az.mk ((by rw [hg]; exact (pbZ (by exact pbE HB.out)) : w.heap.size ≤ gb482)); have n4_ := Az.mk ((by rw [hg]; exact (pbZ (by exact pbE HB.out)) : w.heap.size ≤ gb482)); have n5_ := Az.mk ((by rw [hg]; exact Nat.ne_of_lt (blk_lt (g := gb481) (o := .cells #[.int .i64 a0_0, .string a0_1, .string a0_2, .int .i64 a0_3, .slice A0_4 l0_4.length c0_4, .int .i64 a0_5] 26 (0, 0)) (bk BK481.out)) : gb481 ≠ gb482)); have n6_ := Az.mk ((by rw [hg]; exact Nat.ne_of_gt (blk_lt (g := gb481) (o := .cells #[.int .i64 a0_0, .string a0_1, .string a0_2, .int .i64 a0_3, .slice A0_4 l0_4.length c0_4, .int .i64 a0_5] 26 (0, 0)) (bk BK481.out)) : gb482 ≠ gb481)); clear BK481; clear HB; have BK481 := n0_; have HB := n1_; have BK482 := n2_; have GW482 := n3_; have GE482 := n4_; have NB481_482 := n5_; have NB482_481 := n6_; clear n0_ n1_ n2_ n3_ n4_ n5_ n6_; clear hb hbox hg; have hnb25 := NB481_482.out; have hnc25 := NB482_481.out; have hcz26_0 : w24.cell? ⟨gb481, 0, none⟩ = some (.int .i64 a0_0) := (bkC BK481.out 0).trans rfl; have hcz26_1 : w24.cell? ⟨gb481, 1, none⟩ = some (.string a0_1) := (bkC BK481.out 1).trans rfl; have hcz26_2 : w24.cell? ⟨gb481, 2, none⟩ = some (.string a0_2) := (bkC BK481.out 2).trans rfl; have hcz26_3 : w24.cell? ⟨gb481, 3, none⟩ = some (.int .i64 a0_3) := (bkC BK481.out 3).trans rfl; have hcz26_4 : w24.cell? ⟨gb481, 4, none⟩ = some (.slice A0_4 l0_4.length c0_4) := (bkC BK481.out 4).trans rfl; have hcz26_5 : w24.cell? ⟨gb481, 5, none⟩ = some (.int .i64 a0_5) := (bkC BK481.out 5).trans rfl; have hfz26_0 := bkF BK481.out 0; have hfz26_1 := bkF BK481.out 1; have hfz26_2 := bkF BK481.out 2; have hfz26_3 := bkF BK481.out 3; have hfz26_4 := bkF BK481.out 4; have hfz26_5 := bkF BK481.out 5; have hcz27_0 : w24.cell? ⟨gb482, 0, none⟩ = some (.int .i64 a1_0) := (bkC BK482.out 0).trans rfl; have hcz27_1 : w24.cell? ⟨gb482, 1, none⟩ = some (.string a1_1) := (bkC BK482.out 1).trans rfl; have hcz27_2 : w24.cell? ⟨gb482, 2, none⟩ = some (.string a1_2) := (bkC BK482.out 2).trans rfl; have hcz27_3 : w24.cell? ⟨gb482, 3, none⟩ = some (.int .i64 a1_3) := (bkC BK482.out 3).trans rfl; have hcz27_4 : w24.cell? ⟨gb482, 4, none⟩ = some (.slice A1_4 l1_4.length c1_4) := (bkC BK482.out 4).trans rfl; have hcz27_5 : w24.cell? ⟨gb482, 5, none⟩ = some (.int .i64 a1_5) := (bkC BK482.out 5).trans rfl; have hfz27_0 := bkF BK482.out 0; have hfz27_1 := bkF BK482.out 1; have hfz27_2 := bkF BK482.out 2; have hfz27_3 := bkF BK482.out 3; have hfz27_4 := bkF BK482.out 4; have hfz27_5 := bkF BK482.out 5))
      go_ret
      exact ⟨by first | rfl | (simp [errW_none, errW_some] <;> rfl) | (simp [*, errW_none, errW_some] <;> rfl), by exact pbE HB.out⟩
  · rw [if_neg c3] at H
    have c3b0 : (a0_0 == a1_0) = false := beq_eq_false_iff_ne.mpr c3
    have c3b1 : (a0_0 != a1_0) = true := bne_iff_ne.mpr c3
    obtain rfl := Option.some.inj H
    go_enter Tryd.func20, Tryd.ntmps20
    go_wp2_with (first | ((with_reducible refine gate_dst (N := 2) rfl ?_); refine box_event ?hg (N := 2) ?hd (cs := #[.int .i64 a0_0, .string a0_1, .string a0_2, .int .i64 a0_3, .slice A0_4 l0_4.length c0_4, .int .i64 a0_5]) (t := 26) ?hr ?_; (case hd => rfl); (case hg => rfl); (case hr => first | (go_simp; done) | (go_simp; rfl)); intro gb481 hg w28 hbox hb; have n0_ := Az.mk (pbT (by exact pbE HB.out) hb); have n1_ := Az.mk (hbox); have n2_ := Az.mk ((by rw [hg]; exact (pbZ (by exact pbE HB.out)) : w.heap.size ≤ gb481)); have n3_ := Az.mk ((by rw [hg]; exact (pbZ (by exact pbE HB.out)) : w.heap.size ≤ gb481)); clear HB; have HB := n0_; have BK481 := n1_; have GW481 := n2_; have GE481 := n3_; clear n0_ n1_ n2_ n3_; clear hb hbox hg) | ((with_reducible refine gate_dst (N := 3) rfl ?_); refine box_event ?hg (N := 3) ?hd (cs := #[.int .i64 a1_0, .string a1_1, .string a1_2, .int .i64 a1_3, .slice A1_4 l1_4.length c1_4, .int .i64 a1_5]) (t := 26) ?hr ?_; (case hd => rfl); (case hg => rfl); (case hr => first | (go_simp; done) | (go_simp; rfl)); intro gb482 hg w29 hbox hb; have n0_ := Az.mk (bkB (g := gb481) (o := .cells #[.int .i64 a0_0, .string a0_1, .string a0_2, .int .i64 a0_3, .slice A0_4 l0_4.length c0_4, .int .i64 a0_5] 26 (0, 0)) (bk BK481.out) hb); have n1_ := Az.mk (pbT (by exact pbE HB.out) hb); have n2_ := Az.mk (hbox); have n3_ := Az.mk ((by rw [hg]; exact (pbZ (by exact pbE HB.out)) : w.heap.size ≤ gb482)); have n4_ := Az.mk ((by rw [hg]; exact (pbZ (by exact pbE HB.out)) : w.heap.size ≤ gb482)); have n5_ := Az.mk ((by rw [hg]; exact Nat.ne_of_lt (blk_lt (g := gb481) (o := .cells #[.int .i64 a0_0, .string a0_1, .string a0_2, .int .i64 a0_3, .slice A0_4 l0_4.length c0_4, .int .i64 a0_5] 26 (0, 0)) (bk BK481.out)) : gb481 ≠ gb482)); have n6_ := Az.mk ((by rw [hg]; exact Nat.ne_of_gt (blk_lt (g := gb481) (o := .cells #[.int .i64 a0_0, .string a0_1, .string a0_2, .int .i64 a0_3, .slice A0_4 l0_4.length c0_4, .int .i64 a0_5] 26 (0, 0)) (bk BK481.out)) : gb482 ≠ gb481)); clear BK481; clear HB; have BK481 := n0_; have HB := n1_; have BK482 := n2_; have GW482 := n3_; have GE482 := n4_; have NB481_482 := n5_; have NB482_481 := n6_; clear n0_ n1_ n2_ n3_ n4_ n5_ n6_; clear hb hbox hg; have hnb30 := NB481_482.out; have hnc30 := NB482_481.out; have hcz31_0 : w29.cell? ⟨gb481, 0, none⟩ = some (.int .i64 a0_0) := (bkC BK481.out 0).trans rfl; have hcz31_1 : w29.cell? ⟨gb481, 1, none⟩ = some (.string a0_1) := (bkC BK481.out 1).trans rfl; have hcz31_2 : w29.cell? ⟨gb481, 2, none⟩ = some (.string a0_2) := (bkC BK481.out 2).trans rfl; have hcz31_3 : w29.cell? ⟨gb481, 3, none⟩ = some (.int .i64 a0_3) := (bkC BK481.out 3).trans rfl; have hcz31_4 : w29.cell? ⟨gb481, 4, none⟩ = some (.slice A0_4 l0_4.length c0_4) := (bkC BK481.out 4).trans rfl; have hcz31_5 : w29.cell? ⟨gb481, 5, none⟩ = some (.int .i64 a0_5) := (bkC BK481.out 5).trans rfl; have hfz31_0 := bkF BK481.out 0; have hfz31_1 := bkF BK481.out 1; have hfz31_2 := bkF BK481.out 2; have hfz31_3 := bkF BK481.out 3; have hfz31_4 := bkF BK481.out 4; have hfz31_5 := bkF BK481.out 5; have hcz32_0 : w29.cell? ⟨gb482, 0, none⟩ = some (.int .i64 a1_0) := (bkC BK482.out 0).trans rfl; have hcz32_1 : w29.cell? ⟨gb482, 1, none⟩ = some (.string a1_1) := (bkC BK482.out 1).trans rfl; have hcz32_2 : w29.cell? ⟨gb482, 2, none⟩ = some (.string a1_2) := (bkC BK482.out 2).trans rfl; have hcz32_3 : w29.cell? ⟨gb482, 3, none⟩ = some (.int .i64 a1_3) := (bkC BK482.out 3).trans rfl; have hcz32_4 : w29.cell? ⟨gb482, 4, none⟩ = some (.slice A1_4 l1_4.length c1_4) := (bkC BK482.out 4).trans rfl; have hcz32_5 : w29.cell? ⟨gb482, 5, none⟩ = some (.int .i64 a1_5) := (bkC BK482.out 5).trans rfl; have hfz32_0 := bkF BK482.out 0; have hfz32_1 := bkF BK482.out 1; have hfz32_2 := bkF BK482.out 2; have hfz32_3 := bkF BK482.out 3; have hfz32_4 := bkF BK482.out 4; have hfz32_5 := bkF BK482.out 5))
    go_ret
    exact ⟨by first | rfl | (simp [errW_none, errW_some] <;> rfl) | (simp [*, errW_none, errW_some] <;> rfl), by exact pbE HB.out⟩
end Go.Proofs.YtjfhcijjjadhbaaDoor.P
end
section
-- Written by a program of this session (wip/tools/pr.py), over the kit's printer; functions named in the texts imported below are given by hand.
namespace Go.Proofs.YtjfhcijjjadhbaaDoor.P
open Go.RowKit Go.Proofs.YtjfhcijjjadhbaaDoor.K Go.Proofs.YtjfhcijjjadhbaaDoorW.PrintWords Go.Proofs.YtjfhcijjjadhbaaDoorW.PrintLast Go.Proofs.YtjfhcijjjadhbaaDoorW.PrintMore
attribute [local go_sem] max2_int min2_int max_two min_two max_three min_three max_four min_four   -- for this text's walks alone
/-! ### l06_small: function 9 -/
def l06_small.f (a0_0 : Int) (a0_1 : ByteArray) (a0_2 : ByteArray) (a0_3 : Int) (l0_4 : List (S60)) (a0_5 : Int) : Option (Bool) := if (l0_4.length : Int) ≤ 30 then (if (a0_1.size : Int) ≤ 2000 then (some (decide ((a0_2.size : Int) ≤ 2000))) else (some false)) else (some false)
set_option maxHeartbeats 8000000 in
set_option maxRecDepth 100000 in
theorem l06_small.calls (a0_0 : Int) (a0_1 : ByteArray) (a0_2 : ByteArray) (a0_3 : Int) (A0_4 : Option Addr) (c0_4 : Nat) (l0_4 : List (S60)) (a0_5 : Int) (r : Bool) (w : World) (hG : TheG w) (hr0_4 : Kd.C k60 w A0_4 l0_4.length l0_4) (hc0_4 : l0_4.length ≤ c0_4) (h : l06_small.f a0_0 a0_1 a0_2 a0_3 l0_4 a0_5 = some r) :
    Calls Tryd.prog 9 #[.agg #[.int .i64 a0_0, .string a0_1, .string a0_2, .int .i64 a0_3, .slice A0_4 l0_4.length c0_4, .int .i64 a0_5]] w fun e w' => e = .returned (.bool r) ∧ Below w.heap.size w w' := by
  have hu26 := Tryd.underlying26
  have HR0_4 := Az.mk hr0_4
  have HC0_4 := Az.mk hc0_4
  clear hr0_4 hc0_4
  have HB := Az.mk (Below.refl w.heap.size w)
  have H : (if (l0_4.length : Int) ≤ 30 then (if (a0_1.size : Int) ≤ 2000 then (some (decide ((a0_2.size : Int) ≤ 2000))) else (some false)) else (some false)) = some r := h
  clear h
  by_cases c2 : (l0_4.length : Int) ≤ 30
  · rw [if_pos c2] at H
    have c2b0 : decide ((l0_4.length : Int) ≤ 30) = true := decide_eq_true c2
    have c2b1 : decide (l0_4.length ≤ 30) = true := decide_eq_true (by omega)
    clear c2
    by_cases c3 : (a0_1.size : Int) ≤ 2000
    · rw [if_pos c3] at H
      have c3b0 : decide ((a0_1.size : Int) ≤ 2000) = true := decide_eq_true c3
      have c3b1 : decide (a0_1.size ≤ 2000) = true := decide_eq_true (by omega)
      clear c3
      obtain rfl := Option.some.inj H
      go_enter Tryd.func9, Tryd.ntmps9
      go_wp2_with (first | ((with_reducible refine gate_dst (N := 1) rfl ?_); (try (refine gate_guard (by rfl) ?_; dsimp only)); refine box_event ?hg (N := 1) ?hd (cs := #[.int .i64 a0_0, .string a0_1, .string a0_2, .int .i64 a0_3, .slice A0_4 l0_4.length c0_4, .int .i64 a0_5]) (t := 26) ?hr ?_; (case hd => rfl); (case hg => rfl); (case hr => first | (go_simp; done) | (go_simp; rfl)); intro gb101 hg w4 hbox hb; have n0_ := Az.mk (pbT (by exact pbE HB.out) hb); have n1_ := Az.mk (hbox); have n2_ := Az.mk ((by rw [hg]; exact (pbZ (by exact pbE HB.out)) : w.heap.size ≤ gb101)); have n3_ := Az.mk ((by rw [hg]; exact (pbZ (by exact pbE HB.out)) : w.heap.size ≤ gb101)); clear HB; have HB := n0_; have BK101 := n1_; have GW101 := n2_; have GE101 := n3_; clear n0_ n1_ n2_ n3_; clear hb hbox hg; have hcz5_0 : w4.cell? ⟨gb101, 0, none⟩ = some (.int .i64 a0_0) := (bkC BK101.out 0).trans rfl; have hcz5_1 : w4.cell? ⟨gb101, 1, none⟩ = some (.string a0_1) := (bkC BK101.out 1).trans rfl; have hcz5_2 : w4.cell? ⟨gb101, 2, none⟩ = some (.string a0_2) := (bkC BK101.out 2).trans rfl; have hcz5_3 : w4.cell? ⟨gb101, 3, none⟩ = some (.int .i64 a0_3) := (bkC BK101.out 3).trans rfl; have hcz5_4 : w4.cell? ⟨gb101, 4, none⟩ = some (.slice A0_4 l0_4.length c0_4) := (bkC BK101.out 4).trans rfl; have hcz5_5 : w4.cell? ⟨gb101, 5, none⟩ = some (.int .i64 a0_5) := (bkC BK101.out 5).trans rfl; have hfz5_0 := bkF BK101.out 0; have hfz5_1 := bkF BK101.out 1; have hfz5_2 := bkF BK101.out 2; have hfz5_3 := bkF BK101.out 3; have hfz5_4 := bkF BK101.out 4; have hfz5_5 := bkF BK101.out 5))
      go_ret
      exact ⟨by first | rfl | (simp [errW_none, errW_some] <;> rfl) | (simp [*, errW_none, errW_some] <;> rfl), by exact pbE HB.out⟩
    · rw [if_neg c3] at H
      have c3b0 : decide ((a0_1.size : Int) ≤ 2000) = false := decide_eq_false c3
      have c3b1 : decide (a0_1.size ≤ 2000) = false := decide_eq_false (by omega)
      clear c3
      obtain rfl := Option.some.inj H
      go_enter Tryd.func9, Tryd.ntmps9
      go_wp2_with (first | ((with_reducible refine gate_dst (N := 1) rfl ?_); (try (refine gate_guard (by rfl) ?_; dsimp only)); refine box_event ?hg (N := 1) ?hd (cs := #[.int .i64 a0_0, .string a0_1, .string a0_2, .int .i64 a0_3, .slice A0_4 l0_4.length c0_4, .int .i64 a0_5]) (t := 26) ?hr ?_; (case hd => rfl); (case hg => rfl); (case hr => first | (go_simp; done) | (go_simp; rfl)); intro gb101 hg w6 hbox hb; have n0_ := Az.mk (pbT (by exact pbE HB.out) hb); have n1_ := Az.mk (hbox); have n2_ := Az.mk ((by rw [hg]; exact (pbZ (by exact pbE HB.out)) : w.heap.size ≤ gb101)); have n3_ := Az.mk ((by rw [hg]; exact (pbZ (by exact pbE HB.out)) : w.heap.size ≤ gb101)); clear HB; have HB := n0_; have BK101 := n1_; have GW101 := n2_; have GE101 := n3_; clear n0_ n1_ n2_ n3_; clear hb hbox hg; have hcz7_0 : w6.cell? ⟨gb101, 0, none⟩ = some (.int .i64 a0_0) := (bkC BK101.out 0).trans rfl; have hcz7_1 : w6.cell? ⟨gb101, 1, none⟩ = some (.string a0_1) := (bkC BK101.out 1).trans rfl; have hcz7_2 : w6.cell? ⟨gb101, 2, none⟩ = some (.string a0_2) := (bkC BK101.out 2).trans rfl; have hcz7_3 : w6.cell? ⟨gb101, 3, none⟩ = some (.int .i64 a0_3) := (bkC BK101.out 3).trans rfl; have hcz7_4 : w6.cell? ⟨gb101, 4, none⟩ = some (.slice A0_4 l0_4.length c0_4) := (bkC BK101.out 4).trans rfl; have hcz7_5 : w6.cell? ⟨gb101, 5, none⟩ = some (.int .i64 a0_5) := (bkC BK101.out 5).trans rfl; have hfz7_0 := bkF BK101.out 0; have hfz7_1 := bkF BK101.out 1; have hfz7_2 := bkF BK101.out 2; have hfz7_3 := bkF BK101.out 3; have hfz7_4 := bkF BK101.out 4; have hfz7_5 := bkF BK101.out 5))
      go_ret
      exact ⟨by first | rfl | (simp [errW_none, errW_some] <;> rfl) | (simp [*, errW_none, errW_some] <;> rfl), by exact pbE HB.out⟩
  · rw [if_neg c2] at H
    have c2b0 : decide ((l0_4.length : Int) ≤ 30) = false := decide_eq_false c2
    have c2b1 : decide (l0_4.length ≤ 30) = false := decide_eq_false (by omega)
    clear c2
    obtain rfl := Option.some.inj H
    go_enter Tryd.func9, Tryd.ntmps9
    go_wp2_with (first | ((with_reducible refine gate_dst (N := 1) rfl ?_); (try (refine gate_guard (by rfl) ?_; dsimp only)); refine box_event ?hg (N := 1) ?hd (cs := #[.int .i64 a0_0, .string a0_1, .string a0_2, .int .i64 a0_3, .slice A0_4 l0_4.length c0_4, .int .i64 a0_5]) (t := 26) ?hr ?_; (case hd => rfl); (case hg => rfl); (case hr => first | (go_simp; done) | (go_simp; rfl)); intro gb101 hg w8 hbox hb; have n0_ := Az.mk (pbT (by exact pbE HB.out) hb); have n1_ := Az.mk (hbox); have n2_ := Az.mk ((by rw [hg]; exact (pbZ (by exact pbE HB.out)) : w.heap.size ≤ gb101)); have n3_ := Az.mk ((by rw [hg]; exact (pbZ (by exact pbE HB.out)) : w.heap.size ≤ gb101)); clear HB; have HB := n0_; have BK101 := n1_; have GW101 := n2_; have GE101 := n3_; clear n0_ n1_ n2_ n3_; clear hb hbox hg; have hcz9_0 : w8.cell? ⟨gb101, 0, none⟩ = some (.int .i64 a0_0) := (bkC BK101.out 0).trans rfl; have hcz9_1 : w8.cell? ⟨gb101, 1, none⟩ = some (.string a0_1) := (bkC BK101.out 1).trans rfl; have hcz9_2 : w8.cell? ⟨gb101, 2, none⟩ = some (.string a0_2) := (bkC BK101.out 2).trans rfl; have hcz9_3 : w8.cell? ⟨gb101, 3, none⟩ = some (.int .i64 a0_3) := (bkC BK101.out 3).trans rfl; have hcz9_4 : w8.cell? ⟨gb101, 4, none⟩ = some (.slice A0_4 l0_4.length c0_4) := (bkC BK101.out 4).trans rfl; have hcz9_5 : w8.cell? ⟨gb101, 5, none⟩ = some (.int .i64 a0_5) := (bkC BK101.out 5).trans rfl; have hfz9_0 := bkF BK101.out 0; have hfz9_1 := bkF BK101.out 1; have hfz9_2 := bkF BK101.out 2; have hfz9_3 := bkF BK101.out 3; have hfz9_4 := bkF BK101.out 4; have hfz9_5 := bkF BK101.out 5))
    go_ret
    exact ⟨by first | rfl | (simp [errW_none, errW_some] <;> rfl) | (simp [*, errW_none, errW_some] <;> rfl), by exact pbE HB.out⟩
end Go.Proofs.YtjfhcijjjadhbaaDoor.P
end
section
-- Written by a program of this session (wip/tools/pr.py), over the kit's printer; functions named in the texts imported below are given by hand.
namespace Go.Proofs.YtjfhcijjjadhbaaDoor.P
open Go.RowKit Go.Proofs.YtjfhcijjjadhbaaDoor.K Go.Proofs.YtjfhcijjjadhbaaDoorW.PrintWords Go.Proofs.YtjfhcijjjadhbaaDoorW.PrintLast Go.Proofs.YtjfhcijjjadhbaaDoorW.PrintMore
attribute [local go_sem] max2_int min2_int max_two min_two max_three min_three max_four min_four   -- for this text's walks alone
/-! ### l06_num: function 17 -/
def l06_num.f (a0 : Int) : Option (Int) := some a0
set_option maxHeartbeats 8000000 in
set_option maxRecDepth 100000 in
theorem l06_num.calls (a0 : Int) (r : Int) (w : World) (hG : TheG w) (h : l06_num.f a0 = some r) :
    Calls Tryd.prog 17 #[.int .i64 a0] w fun e w' => e = .returned (.int .i64 r) ∧ Drawn0 w w' := by
  have H : (some a0) = some r := h
  clear h
  obtain rfl := Option.some.inj H
  go_enter Tryd.func17, Tryd.ntmps17
  go_wp2
  go_ret
  exact ⟨by first | rfl | (simp; done) | (simp [*]; done), by repeat (first | exact Drawn0.refl _ | apply Drawn0.step)⟩
end Go.Proofs.YtjfhcijjjadhbaaDoor.P
end
section
/- desc: Check, Put, numbers, Parse, Same: told plainly. -/
namespace Go.Proofs.YtjfhcijjjadhbaaDoor.V
open Go.RowKit Go.Proofs.YtjfhcijjjadhbaaDoorW.PrintWords Go.Proofs.YtjfhcijjjadhbaaDoorW.PrintLast Go.Proofs.YtjfhcijjjadhbaaDoorW.PrintMore Go.Proofs.YtjfhcijjjadhbaaDoor.P Go.Proofs.YtjfhcijjjadhbaaDoor.K Go.Proofs.YtjfhcijjjadhbaaDoor.A
/-! ### Check -/
def okId (n : Int) : Bool := decide (1 ≤ n ∧ n ≤ 1099511627776)
def okM (l : List S60) (nx : Int) : Bool := if l.length = 0 ∨ 5 < l.length then false else isMem nx 0 (fun _ => false) l
def okD (id : Int) (fr tu : ByteArray) (gen : Int) (l : List S60) (nx : Int) : Bool := okId id && (okId gen && (okId nx && (boundOk fr tu && okM l nx)))
theorem isId_eq (n : Int) : desc_isId.f n = some (okId n) := by
  unfold desc_isId.f okId
  split
  · rename_i h
    congr 1
    exact decide_eq_decide.2 (by omega)
  · rename_i h
    rw [decide_eq_false (by omega)]
theorem members_eq (l : List S60) (nx : Int) : desc_isMembers.f l nx = some (okM l nx) := by
  unfold desc_isMembers.f okM; split <;> rfl
theorem check_eq (id : Int) (fr tu : ByteArray) (gen : Int) (l : List S60) (nx : Int) : desc_Check.f id fr tu gen l nx = some (if okD id fr tu gen l nx = true then 0 else 60) := by
  unfold desc_Check.f okD bound_Check.f
  simp only [isId_eq, members_eq, Option.bind_some]
  cases okId id <;> cases okId gen <;> cases okId nx <;> cases boundOk fr tu <;> cases okM l nx <;> rfl
abbrev DR := Int × ByteArray × ByteArray × Int × (List S60) × Int × Int
def badD : DR := (0, (⟨#[]⟩ : ByteArray), (⟨#[]⟩ : ByteArray), 0, ([] : List S60), 0, 60)
def rightR (id : Int) (fr tu : ByteArray) (gen : Int) (l : List S60) (nx : Int) : DR := if okD id fr tu gen l nx = true then (id, fr, tu, gen, l, nx, 0) else badD
theorem right_eq (id : Int) (fr tu : ByteArray) (gen : Int) (l : List S60) (nx : Int) : desc_right.f id fr tu gen l nx = some (rightR id fr tu gen l nx) := by
  unfold desc_right.f rightR
  rw [check_eq, Option.bind_some]
  cases okD id fr tu gen l nx <;> rfl
/-! ### Put -/
def flatM (l : List S60) : List Int := l.flatMap fun m => [m.f0, m.f1]
def putM (l : List S60) : List ByteArray := l.flatMap fun m => [B (Lib.itoa m.f0), B (Lib.itoa m.f1)]
def putD (id : Int) (fr tu : ByteArray) (gen : Int) (l : List S60) (nx : Int) : List ByteArray := [B (Lib.itoa id), fr, tu, B (Lib.itoa gen), B (Lib.itoa nx)] ++ putM l
def isM (l : List S60) : Prop := ∀ m ∈ l, isI m.f0 ∧ isI m.f1
theorem rd_lt {l : List S60} {i : Nat} (h : i < l.length) : rd_T60 l (i : Int) = l[i] := by simp [rd_T60, h]
theorem putM_length (l : List S60) : (putM l).length = 2 * l.length := by
  induction l with
  | nil => rfl
  | cons e l ih => simp only [putM, List.flatMap_cons, List.length_append, List.length_cons, List.length_nil] at ih ⊢; omega
theorem flatM_length (l : List S60) : (flatM l).length = 2 * l.length := by
  induction l with
  | nil => rfl
  | cons e l ih => simp only [flatM, List.flatMap_cons, List.length_append, List.length_cons, List.length_nil] at ih ⊢; omega
theorem putD_length (id : Int) (fr tu : ByteArray) (gen : Int) (l : List S60) (nx : Int) : (putD id fr tu gen l nx).length = 5 + 2 * l.length := by
  unfold putD; rw [List.length_append, putM_length]; rfl
theorem datas_putM (l : List S60) : datas (putM l) = (flatM l).map Lib.itoa := by
  induction l with
  | nil => rfl
  | cons e l ih =>
    show (B (Lib.itoa e.f0)).data.toList :: (B (Lib.itoa e.f1)).data.toList :: datas (putM l) = Lib.itoa e.f0 :: Lib.itoa e.f1 :: (flatM l).map Lib.itoa
    rw [B_data, B_data, ih]
theorem datas_putD (id : Int) (fr tu : ByteArray) (gen : Int) (l : List S60) (nx : Int) : datas (putD id fr tu gen l nx) = Lib.itoa id :: fr.data.toList :: tu.data.toList :: (gen :: nx :: flatM l).map Lib.itoa := by
  show (B (Lib.itoa id)).data.toList :: fr.data.toList :: tu.data.toList :: (B (Lib.itoa gen)).data.toList :: (B (Lib.itoa nx)).data.toList :: datas (putM l) = _
  rw [B_data, B_data, B_data, datas_putM]; rfl
theorem put_ev {id : Int} {fr tu : ByteArray} {gen : Int} {l : List S60} {nx : Int} (hm : l.length ≤ 1000000000) (hi : isI id) (hg : isI gen) (hn : isI nx) (he : isM l) (ht : (tieD (datas (putD id fr tu gen l nx))).length ≤ 140737488355328) :
    Ev (fun k => desc_Put.f k id fr tu gen l nx) (B (tieD (datas (putD id fr tu gen l nx)))) := by
  simp only [desc_Put.f, num_eq hi, num_eq hg, num_eq hn, Option.bind_some]
  have := Ev.upto (F := fun k (s : List ByteArray) i => desc_Put.l0 k s l (l.length : Int) i) (n := l.length) (G := fun s i => B (tieD (datas (s ++ putM (l.drop i))))) (I := fun s i => s.length ≤ 5 + 2 * i ∧ (tieD (datas (s ++ putM (l.drop i)))).length ≤ 140737488355328)
    (by
      intro s i hi hI ih
      have hdrop : l.drop i = l[i] :: l.drop (i + 1) := List.drop_eq_getElem_cons hi
      have hl : s.length + 2 < 8796093022208 := by omega
      simp only [desc_Put.l0, if_pos (lt_cast hi), if_pos (nn i), wrap_nat (n := i) (by omega), rd_lt hi, num_eq (he _ (List.getElem_mem hi)).1, num_eq (he _ (List.getElem_mem hi)).2, Option.bind_some, List.length_cons, List.length_nil, Nat.zero_add, Nat.reduceAdd, if_pos hl]
      have e : s ++ putM (l.drop i) = (s ++ [B (Lib.itoa l[i].f0), B (Lib.itoa l[i].f1)]) ++ putM (l.drop (i + 1)) := by rw [hdrop, List.append_assoc]; rfl
      rw [e]
      refine ih _ ⟨by simp; omega, ?_⟩
      rw [← e]; exact hI.2)
    (by
      intro s hI
      have h2 := hI.2
      rw [List.drop_length] at h2 ⊢
      have e : s ++ putM [] = s := by simp [putM]
      rw [e] at h2 ⊢
      simp only [desc_Put.l0, if_neg (Int.lt_irrefl _), ktie h2, Option.bind_some]
      exact Ev.now _) 0 (Nat.zero_le _) [B (Lib.itoa id), fr, tu, B (Lib.itoa gen), B (Lib.itoa nx)] ⟨by simp, by rw [List.drop_zero]; exact ht⟩
  exact this
/-! ### numbers -/
def nums : List (List UInt8) → Option (List Int)
  | [] => some []
  | a :: r => match pz a with | some n => (nums r).map (n :: ·) | none => none
theorem nums_some : ∀ {ss : List (List UInt8)} {ns : List Int}, nums ss = some ns → ss = ns.map Lib.itoa ∧ ∀ n ∈ ns, isI n
  | [], ns, h => by
    injection h with h
    subst h
    exact ⟨rfl, fun n hn => by simp at hn⟩
  | a :: r, ns, h => by
    unfold nums at h
    cases hp : pz a with
    | none => rw [hp] at h; cases h
    | some n =>
      rw [hp] at h
      simp only [Option.map_eq_some_iff] at h
      obtain ⟨m, hm, rfl⟩ := h
      obtain ⟨e, hi⟩ := nums_some hm
      refine ⟨by rw [List.map_cons, ← e, ← pz_some hp], fun x hx => ?_⟩
      rcases List.mem_cons.1 hx with rfl | hx
      · exact pz_isI hp
      · exact hi x hx
theorem nums_itoa : ∀ {ns : List Int}, (∀ n ∈ ns, isI n) → nums (ns.map Lib.itoa) = some ns
  | [], _ => rfl
  | n :: r, h => by
    rw [List.map_cons]
    unfold nums
    rw [pz_itoa (h n (by simp)), nums_itoa (fun x hx => h x (by simp [hx]))]
    rfl
theorem rd_B {ss : List (List UInt8)} {i : Nat} {x : List UInt8} (h : ss[i]? = some x) : rdOf ByteArray.empty (ss.map B) (i : Int) = B x := by
  simp [rdOf, h]
theorem intB (x : List UInt8) (h : x.length ≤ 1048576) : knot_Int.f (B x) = some (intA (pz x)) := by
  rw [int_eq (by rw [B_size]; omega), B_data]; rfl
theorem numbers_ev (ss : List (List UInt8)) (hs : ∀ x ∈ ss, x.length ≤ 1048576) (hn : ss.length ≤ 100000) : Ev (fun k => desc_numbers.f k (ss.map B)) (match nums ss with | some ns => (ns, true) | none => (([] : List Int), false)) := by
  have := Ev.upto (F := fun k (s : List Int) i => desc_numbers.l0 k s (ss.map B) (ss.length : Int) i) (n := ss.length) (G := fun s i => match nums (ss.drop i) with | some ns => (s ++ ns, true) | none => (([] : List Int), false)) (I := fun s i => s.length ≤ i)
    (by
      intro s i hi hI ih
      have hdrop : ss.drop i = ss[i] :: ss.drop (i + 1) := List.drop_eq_getElem_cons hi
      have hl : s.length < 17592186044416 := by omega
      have hr := rd_B (List.getElem?_eq_getElem hi)
      have hI' := intB _ (hs _ (List.getElem_mem hi))
      have hi' : (i : Int) < ((ss.map B).length : Int) := by rw [List.length_map]; omega
      simp only [desc_numbers.l0, if_pos (lt_cast hi), if_pos (nn i), if_pos hi', wrap_nat (n := i) (by omega), hr, hI', Option.bind_some, hdrop, nums]
      cases hp : pz ss[i] with
      | none => exact Ev.ite (fun h => absurd h (by decide)) (fun _ => Ev.now _)
      | some m =>
        simp only [intA]
        refine Ev.ite (fun _ => ?_) (fun h => absurd trivial h)
        simp only [if_pos hl]
        have := ih (s ++ [m]) (by simp; omega)
        cases hq : nums (ss.drop (i + 1)) with
        | none => rw [hq] at this; exact this
        | some r =>
          rw [hq] at this
          simp only [List.append_assoc, List.cons_append, List.nil_append] at this
          exact this)
    (by
      intro s hI
      rw [List.drop_length]
      simp only [desc_numbers.l0, if_neg (Int.lt_irrefl _), nums, List.append_nil]
      exact Ev.now _) 0 (Nat.zero_le _) [] (Nat.zero_le _)
  have e : ((ss.map B).length : Int) = (ss.length : Int) := by rw [List.length_map]
  simp only [desc_numbers.f, e]
  simp only [List.drop_zero, List.nil_append] at this
  exact this
/-! ### Parse -/
theorem pairs_flat : ∀ (q : List Int), q.length % 2 = 0 → flatM (pairsOf q) = q
  | [], _ => rfl
  | [_], h => by simp at h
  | a :: b :: r, h => by
    show a :: b :: flatM (pairsOf r) = _
    rw [pairs_flat r (by simp at h; omega)]
theorem flat_pairs : ∀ (l : List S60), pairsOf (flatM l) = l
  | [] => rfl
  | m :: r => by
    show (⟨m.f0, m.f1⟩ : S60) :: pairsOf (flatM r) = _
    rw [flat_pairs r]
theorem pairs_length (q : List Int) (h : q.length % 2 = 0) : 2 * (pairsOf q).length = q.length := by
  rw [← flatM_length, pairs_flat q h]
theorem pairs_isM {q : List Int} (h : q.length % 2 = 0) (hi : ∀ n ∈ q, isI n) : isM (pairsOf q) := by
  intro m hm
  have := pairs_flat q h
  have h0 : m.f0 ∈ flatM (pairsOf q) := List.mem_flatMap.2 ⟨m, hm, by simp⟩
  have h1 : m.f1 ∈ flatM (pairsOf q) := List.mem_flatMap.2 ⟨m, hm, by simp⟩
  rw [this] at h0 h1
  exact ⟨hi _ h0, hi _ h1⟩
def parseN (f t : List UInt8) : Option (List Int) → DR
  | some (id :: gen :: nx :: q) => if q.length % 2 = 1 then badD else rightR id (B f) (B t) gen (pairsOf q) nx
  | _ => badD
def parseL : List (List UInt8) → DR
  | a :: f :: t :: r => if r.length < 2 then badD else parseN f t (nums (a :: r))
  | _ => badD
def parseR (s : ByteArray) : DR := match untieL s.data.toList with | some ss => parseL ss | none => badD
theorem j1_bad (s : ByteArray) (l : List ByteArray) (n : List Int) : Ev (fun k => desc_Parse.j1 k s l n true) badD := by
  refine Ev.shift ?_
  simp only [desc_Parse.j1, if_true]
  exact Ev.now _
theorem j0_bad (s : ByteArray) (l : List ByteArray) : Ev (fun k => desc_Parse.j0 k s l true) badD := by
  refine Ev.shift ?_
  simp only [desc_Parse.j0, if_true]
  exact Ev.now _
theorem parse_ev (s : ByteArray) : Ev (fun k => desc_Parse.f k s) (parseR s) := by
  refine Ev.bind (untie_ev s) ?_
  unfold untieR parseR
  cases hu : untieL s.data.toList with
  | none => exact Ev.ite (fun h => absurd h (by decide)) (fun _ => j0_bad _ _)
  | some ss =>
    obtain ⟨h1, h2, h3⟩ := untieL_some hu
    have hs : ∀ x ∈ ss, x.length ≤ 1048576 := by
      intro x hx
      have := tie_mem hx
      rw [← h1] at this
      omega
    simp only [List.length_map]
    refine Ev.ite (fun _ => ?_) (fun h => absurd trivial h)
    by_cases h5 : (ss.length : Int) < 5
    · rw [decide_eq_true h5]
      have e : parseL ss = badD := by
        rcases ss with _ | ⟨a, _ | ⟨f, _ | ⟨t, r⟩⟩⟩
        · rfl
        · rfl
        · rfl
        · simp only [List.length_cons] at h5
          simp only [parseL]
          rw [if_pos (by omega)]
      simp only [e]
      exact j0_bad _ _
    · rw [decide_eq_false h5]
      obtain ⟨a, f, t, r, rfl⟩ : ∃ a f t r, ss = a :: f :: t :: r := by
        rcases ss with _ | ⟨a, _ | ⟨f, _ | ⟨t, r⟩⟩⟩
        · simp at h5
        · simp at h5
        · simp at h5
        · exact ⟨_, _, _, _, rfl⟩
      have hr2 : ¬ r.length < 2 := by simp only [List.length_cons] at h5; omega
      have hrn : r.length ≤ 4093 := by simp only [List.length_cons] at h2; omega
      simp only [parseL, if_neg hr2]
      refine Ev.shift ?_
      have c1 : (0 : Int) < (((a :: f :: t :: r).map B).length : Int) := by rw [List.length_map]; simp only [List.length_cons]; omega
      have c2 : (3 : Int) ≤ (((a :: f :: t :: r).map B).length : Int) := by rw [List.length_map]; simp only [List.length_cons]; omega
      have c3 : [rdOf ByteArray.empty ((a :: f :: t :: r).map B) 0].length + (((a :: f :: t :: r).map B).drop 3).length < 8796093022208 := by
        rw [List.length_drop, List.length_map]; simp only [List.length_cons, List.length_nil]; omega
      have e0 : [rdOf ByteArray.empty ((a :: f :: t :: r).map B) 0] ++ ((a :: f :: t :: r).map B).drop 3 = (a :: r).map B := rfl
      simp only [desc_Parse.j0, Bool.false_eq_true, if_false, if_pos c1, if_pos c2, Option.bind_some, if_pos c3, e0]
      refine Ev.bind (numbers_ev (a :: r) (fun x hx => hs x ?_) (by simp only [List.length_cons]; omega)) ?_
      · rcases List.mem_cons.1 hx with rfl | hx
        · simp
        · simp [hx]
      cases hq : nums (a :: r) with
      | none => exact Ev.ite (fun h => absurd h (by simp)) (fun _ => j1_bad _ _ _)
      | some ns =>
        refine Ev.ite (fun _ => ?_) (fun h => absurd rfl h)
        obtain ⟨en, hin⟩ := nums_some hq
        have hl : ns.length = r.length + 1 := by have := congrArg List.length en; simp only [List.length_cons, List.length_map] at this; omega
        obtain ⟨id, gen, nx, q, rfl⟩ : ∃ id gen nx q, ns = id :: gen :: nx :: q := by
          rcases ns with _ | ⟨id, _ | ⟨gen, _ | ⟨nx, q⟩⟩⟩
          · simp at hl
          · simp only [List.length_cons, List.length_nil] at hl; omega
          · simp only [List.length_cons, List.length_nil] at hl; omega
          · exact ⟨_, _, _, _, rfl⟩
        simp only [parseN]
        simp only [List.length_cons] at hl
        by_cases ho : q.length % 2 = 1
        · have e : ((((id :: gen :: nx :: q).length : Int) % 2) == 0) = true := by rw [beq_iff_eq]; simp only [List.length_cons]; omega
          rw [if_pos ho]
          simp only [e]
          exact j1_bad _ _ _
        · have e : ((((id :: gen :: nx :: q).length : Int) % 2) == 0) = false := by rw [beq_eq_false_iff_ne]; simp only [List.length_cons]; omega
          have hev : q.length % 2 = 0 := by omega
          rw [if_neg ho]
          simp only [e]
          refine Ev.shift ?_
          have d1 : (0 : Int) < ((id :: gen :: nx :: q).length : Int) := by simp only [List.length_cons]; omega
          have d2 : (1 : Int) < (((a :: f :: t :: r).map B).length : Int) := by omega
          have d3 : (2 : Int) < (((a :: f :: t :: r).map B).length : Int) := by omega
          have d4 : (1 : Int) < ((id :: gen :: nx :: q).length : Int) := by simp only [List.length_cons]; omega
          have d5 : (2 : Int) < ((id :: gen :: nx :: q).length : Int) := by simp only [List.length_cons]; omega
          have hc : slices_Chunk_int64_int64.f (id :: gen :: nx :: q) 2 = some (pairsOf q) := by
            unfold slices_Chunk_int64_int64.f
            rw [if_pos ⟨rfl, by simp only [List.length_cons]; omega, by simp only [List.length_cons]; omega, by simp only [List.length_cons]; omega⟩]
            rfl
          have g0 : rd (id :: gen :: nx :: q) 0 = id := rfl
          have g1 : rd (id :: gen :: nx :: q) 1 = gen := rfl
          have g2 : rd (id :: gen :: nx :: q) 2 = nx := rfl
          have g3 : rdOf ByteArray.empty ((a :: f :: t :: r).map B) 1 = B f := rfl
          have g4 : rdOf ByteArray.empty ((a :: f :: t :: r).map B) 2 = B t := rfl
          have hd : datas (putD id (B f) (B t) gen (pairsOf q) nx) = a :: f :: t :: r := by
            rw [datas_putD, B_data, B_data, pairs_flat q hev]
            simp only [List.map_cons, List.cons.injEq] at en ⊢
            exact ⟨en.1.symm, trivial, trivial, en.2.symm⟩
          have hM := pairs_isM hev (fun n hn => hin n (by simp [hn]))
          have hpl := pairs_length q hev
          simp only [desc_Parse.j1, Bool.false_eq_true, if_false, if_pos d1, if_pos d2, if_pos d3, if_pos d4, if_pos d5, hc, Option.bind_some, g0, g1, g2, g3, g4]
          refine Ev.bind (put_ev (by omega) (hin id (by simp)) (hin gen (by simp)) (hin nx (by simp)) hM (by rw [hd, ← h1]; omega)) ?_
          rw [hd]
          refine Ev.ite (fun _ => ?_) (fun h => absurd (by rw [B_toList, ← h1, Lib.toList_data]) h)
          rw [right_eq, Option.bind_some]
          exact Ev.now _
/-! ### Same -/
instance : DecidableEq S60 := fun a b => decidable_of_iff (a.f0 = b.f0 ∧ a.f1 = b.f1) ⟨fun h => by cases a; cases b; simp at h; rw [h.1, h.2], fun h => by rw [h]; exact ⟨rfl, rfl⟩⟩
theorem M_ext {a b : S60} (h0 : a.f0 = b.f0) (h1 : a.f1 = b.f1) : a = b := by cases a; cases b; simp at h0 h1; rw [h0, h1]
theorem equal_ev (a b : List S60) (hm : a.length ≤ 9223372036854775000) : Ev (fun k => api_Member_42.f k a b) (decide (a = b)) := by
  refine Ev.ite (fun h => ?_) (fun h => ?_)
  · have hl : a.length = b.length := by omega
    have := Ev.upto (F := fun k (_ : Unit) i => api_Member_42.l0 k a b (a.length : Int) i) (n := a.length) (G := fun _ i => decide (a.drop i = b.drop i)) (I := fun _ _ => True)
      (by
        intro _ i hi _ ih
        have hi2 : i < b.length := by omega
        have hd1 : a.drop i = a[i] :: a.drop (i + 1) := List.drop_eq_getElem_cons hi
        have hd2 : b.drop i = b[i] :: b.drop (i + 1) := List.drop_eq_getElem_cons hi2
        simp only [api_Member_42.l0, if_pos (lt_cast hi), if_pos (nn i), if_pos (lt_cast hi2), rd_lt hi, rd_lt hi2, hd1, hd2, wrap_nat (n := i) (by omega)]
        refine Ev.ite (fun h => ?_) (fun h => ?_)
        · rw [decide_eq_false (fun e => ?_)]
          · exact Ev.now _
          · injection e with e1 _
            rw [e1] at h
            simp at h
        · have e1 : a[i] = b[i] := by
            simp only [Bool.or_eq_true, Bool.not_eq_true', beq_eq_false_iff_ne, not_or, ne_eq, Classical.not_not] at h
            exact M_ext h.1 h.2
          rw [show decide (a[i] :: a.drop (i + 1) = b[i] :: b.drop (i + 1)) = decide (a.drop (i + 1) = b.drop (i + 1)) from decide_eq_decide.2 ⟨fun h => by injection h, fun h => by rw [e1, h]⟩]
          exact ih () trivial)
      (by
        intro _ _
        have e : decide (a.drop a.length = b.drop a.length) = true := decide_eq_true (by rw [List.drop_length, hl, List.drop_length])
        rw [e]
        simp only [api_Member_42.l0, if_neg (Int.lt_irrefl _)]
        exact Ev.now _) 0 (Nat.zero_le _) () trivial
    exact this
  · rw [decide_eq_false (fun e => h (by rw [e]))]; exact Ev.now _
theorem same_ev {id : Int} {fr tu : ByteArray} {gen : Int} {l : List S60} {nx id2 : Int} {fr2 to2 : ByteArray} {gen2 : Int} {l2 : List S60} {nx2 : Int} (hm : l.length ≤ 9223372036854775000) :
    Ev (fun k => desc_Same.f k id fr tu gen l nx id2 fr2 to2 gen2 l2 nx2) (decide (id = id2 ∧ fr = fr2 ∧ tu = to2 ∧ gen = gen2 ∧ nx = nx2 ∧ l = l2)) := by
  refine Ev.ite (fun h1 => Ev.ite (fun h2 => Ev.ite (fun h3 => Ev.ite (fun h4 => Ev.bind (equal_ev l l2 hm) ?_) (fun h4 => ?_)) (fun h3 => ?_)) (fun h2 => ?_)) (fun h1 => ?_)
  · simp only [Bool.and_eq_true, beq_iff_eq, toList_inj] at h2
    rw [show decide (id = id2 ∧ fr = fr2 ∧ tu = to2 ∧ gen = gen2 ∧ nx = nx2 ∧ l = l2) = decide (l = l2) from decide_eq_decide.2 ⟨fun h => h.2.2.2.2.2, fun h => ⟨h1, h2.1, h2.2, h3, h4, h⟩⟩]
    exact Ev.now _
  · rw [decide_eq_false (fun e => h4 e.2.2.2.2.1)]; exact Ev.now _
  · rw [decide_eq_false (fun e => h3 e.2.2.2.1)]; exact Ev.now _
  · rw [decide_eq_false (fun e => h2 (by rw [e.2.1, e.2.2.1]; simp))]; exact Ev.now _
  · rw [decide_eq_false (fun e => h1 e.1)]; exact Ev.now _
def smallD (fr tu : ByteArray) (l : List S60) : Bool := decide (l.length ≤ 30 ∧ fr.size ≤ 2000 ∧ tu.size ≤ 2000)
theorem small_eq (id : Int) (fr tu : ByteArray) (gen : Int) (l : List S60) (nx : Int) : l06_small.f id fr tu gen l nx = some (smallD fr tu l) := by
  unfold l06_small.f smallD
  by_cases h1 : (l.length : Int) ≤ 30
  · by_cases h2 : (fr.size : Int) ≤ 2000
    · rw [if_pos h1, if_pos h2]; congr 1; exact decide_eq_decide.2 (by omega)
    · rw [if_pos h1, if_neg h2, decide_eq_false (by omega)]
  · rw [if_neg h1, decide_eq_false (by omega)]
/-! ### there and back -/
theorem total_le {K : Nat} : ∀ {l : List ByteArray}, (∀ x ∈ l, x.size ≤ K) → total l ≤ K * l.length
  | [], _ => Nat.zero_le _
  | a :: r, h => by
    have h1 := h a (by simp)
    have h2 := total_le (fun x hx => h x (by simp [hx]) : ∀ x ∈ r, x.size ≤ K)
    have : total (a :: r) = a.size + total r := rfl
    rw [this, List.length_cons, Nat.mul_add, Nat.mul_one]
    omega
theorem put_mem {id : Int} {fr tu : ByteArray} {gen : Int} {l : List S60} {nx : Int} (hi : isI id) (hg : isI gen) (hn : isI nx) (he : isM l) {K : Nat} (h20 : 20 ≤ K) (hf : fr.size ≤ K) (ht : tu.size ≤ K) : ∀ x ∈ putD id fr tu gen l nx, x.size ≤ K := by
  intro x hx
  have hB : ∀ {n : Int}, isI n → (B (Lib.itoa n)).size ≤ K := fun h => by rw [B_size]; exact Nat.le_trans (itoa_le20 h) h20
  simp only [putD, List.mem_append, List.mem_cons, List.not_mem_nil, or_false, putM, List.mem_flatMap] at hx
  rcases hx with (rfl | rfl | rfl | rfl | rfl) | ⟨m, hm, rfl | rfl⟩
  · exact hB hi
  · exact hf
  · exact ht
  · exact hB hg
  · exact hB hn
  · exact hB (he m hm).1
  · exact hB (he m hm).2
theorem put_len {id : Int} {fr tu : ByteArray} {gen : Int} {l : List S60} {nx : Int} (hi : isI id) (hg : isI gen) (hn : isI nx) (he : isM l) (hs : smallD fr tu l = true) : (tieD (datas (putD id fr tu gen l nx))).length ≤ 200000 := by
  have hs := of_decide_eq_true hs
  have hreach : reachBytes = 140737488351232 := rfl
  have hm := put_mem hi hg hn he (K := 2000) (by omega) hs.2.1 hs.2.2
  have h1 := tie_total (putD id fr tu gen l nx) (fun x hx => Nat.le_trans (hm x hx) (by omega))
  have h2 := total_le hm
  rw [putD_length] at h1 h2
  omega
theorem putD_inj {id : Int} {fr tu : ByteArray} {gen : Int} {l : List S60} {nx id2 : Int} {fr2 to2 : ByteArray} {gen2 : Int} {l2 : List S60} {nx2 : Int} (hi : isI id) (hg : isI gen) (hn : isI nx) (he : isM l) (hi2 : isI id2) (hg2 : isI gen2) (hn2 : isI nx2) (he2 : isM l2)
    (h : datas (putD id fr tu gen l nx) = datas (putD id2 fr2 to2 gen2 l2 nx2)) : id = id2 ∧ fr = fr2 ∧ tu = to2 ∧ gen = gen2 ∧ nx = nx2 ∧ l = l2 := by
  rw [datas_putD, datas_putD] at h
  injection h with e1 h
  injection h with e2 h
  injection h with e3 h
  have hF : ∀ {l : List S60}, isM l → ∀ n ∈ flatM l, isI n := by
    intro l he n hn
    obtain ⟨m, hm, hx⟩ := List.mem_flatMap.1 hn
    simp only [List.mem_cons, List.not_mem_nil, or_false] at hx
    rcases hx with rfl | rfl
    · exact (he m hm).1
    · exact (he m hm).2
  have ha : nums ((gen :: nx :: flatM l).map Lib.itoa) = some (gen :: nx :: flatM l) := nums_itoa (by
    intro n hx
    rcases List.mem_cons.1 hx with rfl | hx
    · exact hg
    rcases List.mem_cons.1 hx with rfl | hx
    · exact hn
    exact hF he n hx)
  have hb : nums ((gen2 :: nx2 :: flatM l2).map Lib.itoa) = some (gen2 :: nx2 :: flatM l2) := nums_itoa (by
    intro n hx
    rcases List.mem_cons.1 hx with rfl | hx
    · exact hg2
    rcases List.mem_cons.1 hx with rfl | hx
    · exact hn2
    exact hF he2 n hx)
  rw [h, hb] at ha
  injection ha with ha
  injection ha with f1 ha
  injection ha with f2 ha
  refine ⟨itoa_inj hi hi2 e1, ext_data e2, ext_data e3, f1.symm, f2.symm, ?_⟩
  rw [← flat_pairs l, ← flat_pairs l2, ha]
theorem flat_isI {l : List S60} (he : isM l) : ∀ n ∈ flatM l, isI n := by
  intro n hn
  obtain ⟨m, hm, hx⟩ := List.mem_flatMap.1 hn
  simp only [List.mem_cons, List.not_mem_nil, or_false] at hx
  rcases hx with rfl | rfl
  · exact (he m hm).1
  · exact (he m hm).2
theorem parse_put {id : Int} {fr tu : ByteArray} {gen : Int} {l : List S60} {nx : Int} (hi : isI id) (hg : isI gen) (hn : isI nx) (he : isM l) (hm : l.length ≤ 2000) (ht : (tieD (datas (putD id fr tu gen l nx))).length ≤ 1048576) :
    parseR (B (tieD (datas (putD id fr tu gen l nx)))) = rightR id fr tu gen l nx := by
  have hlen : (datas (putD id fr tu gen l nx)).length ≤ 4096 := by unfold datas; rw [List.length_map, putD_length]; omega
  unfold parseR
  rw [B_data, untieL_tie _ hlen ht, datas_putD]
  simp only [parseL]
  have hnum : nums ((id :: gen :: nx :: flatM l).map Lib.itoa) = some (id :: gen :: nx :: flatM l) := nums_itoa (by
    intro n hx
    rcases List.mem_cons.1 hx with rfl | hx
    · exact hi
    rcases List.mem_cons.1 hx with rfl | hx
    · exact hg
    rcases List.mem_cons.1 hx with rfl | hx
    · exact hn
    exact flat_isI he n hx)
  rw [if_neg (by simp only [List.length_map, List.length_cons]; omega), ← List.map_cons, hnum]
  simp only [parseN]
  rw [if_neg (by rw [flatM_length]; omega), flat_pairs, B_of, B_of]
/-- A knot that begins another one's text has fewer strands. -/
theorem tie_prefix : ∀ {a b : List (List UInt8)} {r : List UInt8}, r ≠ [] → (tieD b).length ≤ 1048576 → tieD a ++ r = tieD b → a.length < b.length
  | [], [], r, hr, _, h => absurd h hr
  | [], _ :: _, _, _, _, _ => by simp
  | x :: a, [], r, hr, _, h => by
    have := congrArg List.length h
    rw [tie_cons, List.append_assoc, List.length_append, strand_length] at this
    simp [tieD] at this
  | x :: a, y :: b, r, hr, hb, h => by
    rw [tie_cons, tie_cons, List.append_assoc] at h
    rw [tie_cons, List.length_append] at hb
    have hl := congrArg List.length h
    simp only [List.length_append] at hl
    have hx := firstL_strand x (tieD a ++ r) (by omega)
    have hy := firstL_strand y (tieD b) (by omega)
    rw [h, hy] at hx
    injection hx with hx
    injection hx with e1 e2
    have := tie_prefix hr (by omega) e2.symm
    simp only [List.length_cons]
    omega
theorem okD_len {id : Int} {fr tu : ByteArray} {gen : Int} {l : List S60} {nx : Int} (h : okD id fr tu gen l nx = true) : 1 ≤ l.length ∧ l.length ≤ 5 := by
  unfold okD at h
  simp only [Bool.and_eq_true] at h
  have h5 := h.2.2.2.2
  unfold okM at h5
  split at h5
  · cases h5
  · omega
theorem parse_err (s : ByteArray) : (parseR s).2.2.2.2.2.2 = 60 ∨ ∃ ss, untieL s.data.toList = some ss ∧ 7 ≤ ss.length := by
  unfold parseR
  cases hu : untieL s.data.toList with
  | none => exact .inl rfl
  | some ss =>
    by_cases h7 : 7 ≤ ss.length
    · exact .inr ⟨ss, rfl, h7⟩
    · left
      simp only
      rcases ss with _ | ⟨a, _ | ⟨f, _ | ⟨t, r⟩⟩⟩
      · rfl
      · rfl
      · rfl
      · simp only [parseL]
        split
        · rfl
        · cases hq : nums (a :: r) with
          | none => rfl
          | some ns =>
            obtain ⟨en, _⟩ := nums_some hq
            have hl := congrArg List.length en
            simp only [List.length_cons, List.length_map] at hl h7
            rcases ns with _ | ⟨id, _ | ⟨gen, _ | ⟨nx, q⟩⟩⟩
            · rfl
            · rfl
            · rfl
            · simp only [parseN]
              simp only [List.length_cons] at hl
              split
              · rfl
              · rename_i ho
                unfold rightR
                rw [if_neg]
                · rfl
                · intro hok
                  have h1 := (okD_len hok).1
                  have h2 := pairs_length q (by omega)
                  omega
theorem parse_cut {id : Int} {fr tu : ByteArray} {gen : Int} {l : List S60} {nx : Int} (hm : l.length ≤ 1) (ht : (tieD (datas (putD id fr tu gen l nx))).length ≤ 1048576) (n : Nat) (hn : n < (tieD (datas (putD id fr tu gen l nx))).length) :
    (parseR ((B (tieD (datas (putD id fr tu gen l nx)))).extract 0 n)).2.2.2.2.2.2 = 60 := by
  rcases parse_err ((B (tieD (datas (putD id fr tu gen l nx)))).extract 0 n) with h | ⟨ss, hss, h7⟩
  · exact h
  · exfalso
    rw [take_data, B_data] at hss
    obtain ⟨h1, _, _⟩ := untieL_some hss
    have h2 := tie_prefix (a := ss) (b := datas (putD id fr tu gen l nx)) (r := (tieD (datas (putD id fr tu gen l nx))).drop n) (fun e => by
      have := congrArg List.length e
      rw [List.length_drop] at this
      simp only [List.length_nil] at this
      omega) ht (by rw [← h1, List.take_append_drop])
    unfold datas at h2
    rw [List.length_map, putD_length] at h2
    omega
end Go.Proofs.YtjfhcijjjadhbaaDoor.V
end
section
-- Written by a program of this session (wip/tools/pr.py), over the kit's printer; functions named in the texts imported below are given by hand.
namespace Go.Proofs.YtjfhcijjjadhbaaDoor.P
open Go.RowKit Go.Proofs.YtjfhcijjjadhbaaDoor.K Go.Proofs.YtjfhcijjjadhbaaDoorW.PrintWords Go.Proofs.YtjfhcijjjadhbaaDoorW.PrintLast Go.Proofs.YtjfhcijjjadhbaaDoorW.PrintMore
attribute [local go_sem] max2_int min2_int max_two min_two max_three min_three max_four min_four   -- for this text's walks alone
/-! ### bound_both: function 73 -/
def bound_both.f (a0_0 : ByteArray) (a0_1 : ByteArray) (a1_0 : ByteArray) (a1_1 : ByteArray) : Option (Bool) := (bound_Check.f a0_0 a0_1).bind fun t110 => (if t110 = 0 then ((bound_Check.f a1_0 a1_1).bind fun t111 => (some (t111 == 0))) else (some false))
set_option maxHeartbeats 8000000 in
set_option maxRecDepth 100000 in
theorem bound_both.calls (a0_0 : ByteArray) (a0_1 : ByteArray) (a1_0 : ByteArray) (a1_1 : ByteArray) (r : Bool) (w : World) (hG : TheG w) (h : bound_both.f a0_0 a0_1 a1_0 a1_1 = some r) :
    Calls Tryd.prog 73 #[.agg #[.string a0_0, .string a0_1], .agg #[.string a1_0, .string a1_1]] w fun e w' => e = .returned (.bool r) ∧ Below w.heap.size w w' := by
  have hu23 := Tryd.underlying23
  have HB := Az.mk (Below.refl w.heap.size w)
  have H : ((bound_Check.f a0_0 a0_1).bind fun t110 => (if t110 = 0 then ((bound_Check.f a1_0 a1_1).bind fun t111 => (some (t111 == 0))) else (some false))) = some r := h
  clear h
  replace H := Option.bind_eq_some_iff.mp H
  obtain ⟨t110, A30, H⟩ := H
  replace H : (if t110 = 0 then ((bound_Check.f a1_0 a1_1).bind fun t111 => (some (t111 == 0))) else (some false)) = some r := H
  have A3 := Az.mk A30
  clear A30
  by_cases c4 : t110 = 0
  · rw [if_pos c4] at H
    have c4b0 : (t110 == 0) = true := beq_iff_eq.mpr c4
    have c4b1 : (t110 != 0) = false := bne_eq_false_iff_eq.mpr c4
    clear c4
    replace H := Option.bind_eq_some_iff.mp H
    obtain ⟨t111, A50, H⟩ := H
    replace H : (some (t111 == 0)) = some r := H
    have A5 := Az.mk A50
    clear A50
    obtain rfl := Option.some.inj H
    go_enter Tryd.func73, Tryd.ntmps73
    go_wp2_with (first | ((with_reducible refine gate_dst (N := 2) rfl ?_); refine box_event ?hg (N := 2) ?hd (cs := #[.string a0_0, .string a0_1]) (t := 23) ?hr ?_; (case hd => rfl); (case hg => rfl); (case hr => first | (go_simp; done) | (go_simp; rfl)); intro gb108 hg w6 hbox hb; have n0_ := Az.mk (pbT (by exact pbE HB.out) hb); have n1_ := Az.mk (hbox); have n2_ := Az.mk ((by rw [hg]; exact (pbZ (by exact pbE HB.out)) : w.heap.size ≤ gb108)); have n3_ := Az.mk ((by rw [hg]; exact (pbZ (by exact pbE HB.out)) : w.heap.size ≤ gb108)); clear HB; have HB := n0_; have BK108 := n1_; have GW108 := n2_; have GE108 := n3_; clear n0_ n1_ n2_ n3_; clear hb hbox hg) | ((with_reducible refine gate_dst (N := 3) rfl ?_); refine box_event ?hg (N := 3) ?hd (cs := #[.string a1_0, .string a1_1]) (t := 23) ?hr ?_; (case hd => rfl); (case hg => rfl); (case hr => first | (go_simp; done) | (go_simp; rfl)); intro gb109 hg w7 hbox hb; have n0_ := Az.mk (bkB (g := gb108) (o := .cells #[.string a0_0, .string a0_1] 23 (0, 0)) (bk BK108.out) hb); have n1_ := Az.mk (pbT (by exact pbE HB.out) hb); have n2_ := Az.mk (hbox); have n3_ := Az.mk ((by rw [hg]; exact (pbZ (by exact pbE HB.out)) : w.heap.size ≤ gb109)); have n4_ := Az.mk ((by rw [hg]; exact (pbZ (by exact pbE HB.out)) : w.heap.size ≤ gb109)); have n5_ := Az.mk ((by rw [hg]; exact Nat.ne_of_lt (blk_lt (g := gb108) (o := .cells #[.string a0_0, .string a0_1] 23 (0, 0)) (bk BK108.out)) : gb108 ≠ gb109)); have n6_ := Az.mk ((by rw [hg]; exact Nat.ne_of_gt (blk_lt (g := gb108) (o := .cells #[.string a0_0, .string a0_1] 23 (0, 0)) (bk BK108.out)) : gb109 ≠ gb108)); clear BK108; clear HB; have BK108 := n0_; have HB := n1_; have BK109 := n2_; have GW109 := n3_; have GE109 := n4_; have NB108_109 := n5_; have NB109_108 := n6_; clear n0_ n1_ n2_ n3_ n4_ n5_ n6_; clear hb hbox hg; have hnb8 := NB108_109.out; have hnc8 := NB109_108.out; have hcz9_0 : w7.cell? ⟨gb108, 0, none⟩ = some (.string a0_0) := (bkC BK108.out 0).trans rfl; have hcz9_1 : w7.cell? ⟨gb108, 1, none⟩ = some (.string a0_1) := (bkC BK108.out 1).trans rfl; have hfz9_0 := bkF BK108.out 0; have hfz9_1 := bkF BK108.out 1) | ((with_reducible refine gtc (f := 47) rfl ?_); refine goesL_ (some 6) rfl rfl Tryd.func47 (by kernel_rfl) rfl #[.agg #[.string a0_0, .string a0_1]] rfl (by (try simp only [List.map_toArray, List.map_cons, List.map_nil]); first | done | rfl | (simp only [List.length_drop, List.length_take]; rfl)) ?_; (with_reducible refine (bound_Check.calls a0_0 a0_1 t110 _ ?side1 A3.out).mono ?_); (case side1 => exact hG.below (by exact pbE HB.out)); rintro e w10 ⟨rfl, hb⟩; refine ⟨_, rfl, ?_⟩; have n0_ := Az.mk (bkB (g := gb108) (o := .cells #[.string a0_0, .string a0_1] 23 (0, 0)) (bk BK108.out) hb); have n1_ := Az.mk (bkB (g := gb109) (o := .cells #[.string a1_0, .string a1_1] 23 (0, 0)) (bk BK109.out) hb); have n2_ := Az.mk (pbT (by exact pbE HB.out) hb); clear BK108; clear BK109; clear HB; have BK108 := n0_; have BK109 := n1_; have HB := n2_; clear n0_ n1_ n2_; (try clear hb); (try clear hb2); (try clear hk); (try clear hi); have hcz11_0 : w10.cell? ⟨gb109, 0, none⟩ = some (.string a1_0) := (bkC BK109.out 0).trans rfl; have hcz11_1 : w10.cell? ⟨gb109, 1, none⟩ = some (.string a1_1) := (bkC BK109.out 1).trans rfl; have hfz11_0 := bkF BK109.out 0; have hfz11_1 := bkF BK109.out 1) | (go_at_call 47; (with_reducible refine (bound_Check.calls a1_0 a1_1 t111 _ ?side1 A5.out).mono ?_); (case side1 => exact hG.below (by exact pbE HB.out)); rintro e w12 ⟨rfl, hb⟩; have n0_ := Az.mk (bkB (g := gb108) (o := .cells #[.string a0_0, .string a0_1] 23 (0, 0)) (bk BK108.out) hb); have n1_ := Az.mk (bkB (g := gb109) (o := .cells #[.string a1_0, .string a1_1] 23 (0, 0)) (bk BK109.out) hb); have n2_ := Az.mk (pbT (by exact pbE HB.out) hb); clear BK108; clear BK109; clear HB; have BK108 := n0_; have BK109 := n1_; have HB := n2_; clear n0_ n1_ n2_; (try clear hb); (try clear hb2); (try clear hk); (try clear hi)))
    go_ret
    exact ⟨by first | rfl | (simp [errW_none, errW_some] <;> rfl) | (simp [*, errW_none, errW_some] <;> rfl), by exact pbE HB.out⟩
  · rw [if_neg c4] at H
    have c4b0 : (t110 == 0) = false := beq_eq_false_iff_ne.mpr c4
    have c4b1 : (t110 != 0) = true := bne_iff_ne.mpr c4
    obtain rfl := Option.some.inj H
    go_enter Tryd.func73, Tryd.ntmps73
    go_wp2_with (first | ((with_reducible refine gate_dst (N := 2) rfl ?_); refine box_event ?hg (N := 2) ?hd (cs := #[.string a0_0, .string a0_1]) (t := 23) ?hr ?_; (case hd => rfl); (case hg => rfl); (case hr => first | (go_simp; done) | (go_simp; rfl)); intro gb108 hg w13 hbox hb; have n0_ := Az.mk (pbT (by exact pbE HB.out) hb); have n1_ := Az.mk (hbox); have n2_ := Az.mk ((by rw [hg]; exact (pbZ (by exact pbE HB.out)) : w.heap.size ≤ gb108)); have n3_ := Az.mk ((by rw [hg]; exact (pbZ (by exact pbE HB.out)) : w.heap.size ≤ gb108)); clear HB; have HB := n0_; have BK108 := n1_; have GW108 := n2_; have GE108 := n3_; clear n0_ n1_ n2_ n3_; clear hb hbox hg) | ((with_reducible refine gate_dst (N := 3) rfl ?_); refine box_event ?hg (N := 3) ?hd (cs := #[.string a1_0, .string a1_1]) (t := 23) ?hr ?_; (case hd => rfl); (case hg => rfl); (case hr => first | (go_simp; done) | (go_simp; rfl)); intro gb109 hg w14 hbox hb; have n0_ := Az.mk (bkB (g := gb108) (o := .cells #[.string a0_0, .string a0_1] 23 (0, 0)) (bk BK108.out) hb); have n1_ := Az.mk (pbT (by exact pbE HB.out) hb); have n2_ := Az.mk (hbox); have n3_ := Az.mk ((by rw [hg]; exact (pbZ (by exact pbE HB.out)) : w.heap.size ≤ gb109)); have n4_ := Az.mk ((by rw [hg]; exact (pbZ (by exact pbE HB.out)) : w.heap.size ≤ gb109)); have n5_ := Az.mk ((by rw [hg]; exact Nat.ne_of_lt (blk_lt (g := gb108) (o := .cells #[.string a0_0, .string a0_1] 23 (0, 0)) (bk BK108.out)) : gb108 ≠ gb109)); have n6_ := Az.mk ((by rw [hg]; exact Nat.ne_of_gt (blk_lt (g := gb108) (o := .cells #[.string a0_0, .string a0_1] 23 (0, 0)) (bk BK108.out)) : gb109 ≠ gb108)); clear BK108; clear HB; have BK108 := n0_; have HB := n1_; have BK109 := n2_; have GW109 := n3_; have GE109 := n4_; have NB108_109 := n5_; have NB109_108 := n6_; clear n0_ n1_ n2_ n3_ n4_ n5_ n6_; clear hb hbox hg; have hnb15 := NB108_109.out; have hnc15 := NB109_108.out; have hcz16_0 : w14.cell? ⟨gb108, 0, none⟩ = some (.string a0_0) := (bkC BK108.out 0).trans rfl; have hcz16_1 : w14.cell? ⟨gb108, 1, none⟩ = some (.string a0_1) := (bkC BK108.out 1).trans rfl; have hfz16_0 := bkF BK108.out 0; have hfz16_1 := bkF BK108.out 1) | ((with_reducible refine gtc (f := 47) rfl ?_); refine goesL_ (some 6) rfl rfl Tryd.func47 (by kernel_rfl) rfl #[.agg #[.string a0_0, .string a0_1]] rfl (by (try simp only [List.map_toArray, List.map_cons, List.map_nil]); first | done | rfl | (simp only [List.length_drop, List.length_take]; rfl)) ?_; (with_reducible refine (bound_Check.calls a0_0 a0_1 t110 _ ?side1 A3.out).mono ?_); (case side1 => exact hG.below (by exact pbE HB.out)); rintro e w17 ⟨rfl, hb⟩; refine ⟨_, rfl, ?_⟩; have n0_ := Az.mk (bkB (g := gb108) (o := .cells #[.string a0_0, .string a0_1] 23 (0, 0)) (bk BK108.out) hb); have n1_ := Az.mk (bkB (g := gb109) (o := .cells #[.string a1_0, .string a1_1] 23 (0, 0)) (bk BK109.out) hb); have n2_ := Az.mk (pbT (by exact pbE HB.out) hb); clear BK108; clear BK109; clear HB; have BK108 := n0_; have BK109 := n1_; have HB := n2_; clear n0_ n1_ n2_; (try clear hb); (try clear hb2); (try clear hk); (try clear hi)))
    go_ret
    exact ⟨by first | rfl | (simp [errW_none, errW_some] <;> rfl) | (simp [*, errW_none, errW_some] <;> rfl), by exact pbE HB.out⟩
end Go.Proofs.YtjfhcijjjadhbaaDoor.P
end
section
-- Written by a program of this session (wip/tools/pr.py), over the kit's printer; functions named in the texts imported below are given by hand.
namespace Go.Proofs.YtjfhcijjjadhbaaDoor.P
open Go.RowKit Go.Proofs.YtjfhcijjjadhbaaDoor.K Go.Proofs.YtjfhcijjjadhbaaDoorW.PrintWords Go.Proofs.YtjfhcijjjadhbaaDoorW.PrintLast Go.Proofs.YtjfhcijjjadhbaaDoorW.PrintMore
attribute [local go_sem] max2_int min2_int max_two min_two max_three min_three max_four min_four   -- for this text's walks alone
/-! ### bound_Next: function 63 -/
def bound_Next.f (a0_0 : ByteArray) (a0_1 : ByteArray) (a1_0 : ByteArray) (a1_1 : ByteArray) : Option (Bool) := (bound_both.f a0_0 a0_1 a1_0 a1_1).bind fun t114 => (if t114 = true then (if a0_1.toList = ([] : List UInt8) then (some false) else (some (a0_1.toList == a1_0.toList))) else (some false))
set_option maxHeartbeats 8000000 in
set_option maxRecDepth 100000 in
theorem bound_Next.calls (a0_0 : ByteArray) (a0_1 : ByteArray) (a1_0 : ByteArray) (a1_1 : ByteArray) (r : Bool) (w : World) (hG : TheG w) (h : bound_Next.f a0_0 a0_1 a1_0 a1_1 = some r) :
    Calls Tryd.prog 63 #[.agg #[.string a0_0, .string a0_1], .agg #[.string a1_0, .string a1_1]] w fun e w' => e = .returned (.bool r) ∧ Below w.heap.size w w' := by
  have hu23 := Tryd.underlying23
  have HB := Az.mk (Below.refl w.heap.size w)
  have H : ((bound_both.f a0_0 a0_1 a1_0 a1_1).bind fun t114 => (if t114 = true then (if a0_1.toList = ([] : List UInt8) then (some false) else (some (a0_1.toList == a1_0.toList))) else (some false))) = some r := h
  clear h
  replace H := Option.bind_eq_some_iff.mp H
  obtain ⟨t114, A30, H⟩ := H
  replace H : (if t114 = true then (if a0_1.toList = ([] : List UInt8) then (some false) else (some (a0_1.toList == a1_0.toList))) else (some false)) = some r := H
  have A3 := Az.mk A30
  clear A30
  by_cases c4 : t114 = true
  · subst c4
    have H1 : (if a0_1.toList = ([] : List UInt8) then (some false) else (some (a0_1.toList == a1_0.toList))) = some r := by rw [if_pos rfl] at H; exact H
    clear H
    have H := H1
    clear H1
    by_cases c5 : a0_1.toList = ([] : List UInt8)
    · rw [if_pos c5] at H
      have c5b0 : (a0_1.toList == ([] : List UInt8)) = true := beq_iff_eq.mpr c5
      have c5b1 : (a0_1.toList != ([] : List UInt8)) = false := bne_eq_false_iff_eq.mpr c5
      clear c5
      obtain rfl := Option.some.inj H
      go_enter Tryd.func63, Tryd.ntmps63
      go_wp2_with (first | ((with_reducible refine gate_dst (N := 2) rfl ?_); refine box_event ?hg (N := 2) ?hd (cs := #[.string a0_0, .string a0_1]) (t := 23) ?hr ?_; (case hd => rfl); (case hg => rfl); (case hr => first | (go_simp; done) | (go_simp; rfl)); intro gb112 hg w6 hbox hb; have n0_ := Az.mk (pbT (by exact pbE HB.out) hb); have n1_ := Az.mk (hbox); have n2_ := Az.mk ((by rw [hg]; exact (pbZ (by exact pbE HB.out)) : w.heap.size ≤ gb112)); have n3_ := Az.mk ((by rw [hg]; exact (pbZ (by exact pbE HB.out)) : w.heap.size ≤ gb112)); clear HB; have HB := n0_; have BK112 := n1_; have GW112 := n2_; have GE112 := n3_; clear n0_ n1_ n2_ n3_; clear hb hbox hg) | ((with_reducible refine gate_dst (N := 3) rfl ?_); refine box_event ?hg (N := 3) ?hd (cs := #[.string a1_0, .string a1_1]) (t := 23) ?hr ?_; (case hd => rfl); (case hg => rfl); (case hr => first | (go_simp; done) | (go_simp; rfl)); intro gb113 hg w7 hbox hb; have n0_ := Az.mk (bkB (g := gb112) (o := .cells #[.string a0_0, .string a0_1] 23 (0, 0)) (bk BK112.out) hb); have n1_ := Az.mk (pbT (by exact pbE HB.out) hb); have n2_ := Az.mk (hbox); have n3_ := Az.mk ((by rw [hg]; exact (pbZ (by exact pbE HB.out)) : w.heap.size ≤ gb113)); have n4_ := Az.mk ((by rw [hg]; exact (pbZ (by exact pbE HB.out)) : w.heap.size ≤ gb113)); have n5_ := Az.mk ((by rw [hg]; exact Nat.ne_of_lt (blk_lt (g := gb112) (o := .cells #[.string a0_0, .string a0_1] 23 (0, 0)) (bk BK112.out)) : gb112 ≠ gb113)); have n6_ := Az.mk ((by rw [hg]; exact Nat.ne_of_gt (blk_lt (g := gb112) (o := .cells #[.string a0_0, .string a0_1] 23 (0, 0)) (bk BK112.out)) : gb113 ≠ gb112)); clear BK112; clear HB; have BK112 := n0_; have HB := n1_; have BK113 := n2_; have GW113 := n3_; have GE113 := n4_; have NB112_113 := n5_; have NB113_112 := n6_; clear n0_ n1_ n2_ n3_ n4_ n5_ n6_; clear hb hbox hg; have hnb8 := NB112_113.out; have hnc8 := NB113_112.out; have hcz9_0 : w7.cell? ⟨gb112, 0, none⟩ = some (.string a0_0) := (bkC BK112.out 0).trans rfl; have hcz9_1 : w7.cell? ⟨gb112, 1, none⟩ = some (.string a0_1) := (bkC BK112.out 1).trans rfl; have hfz9_0 := bkF BK112.out 0; have hfz9_1 := bkF BK112.out 1; have hcz10_0 : w7.cell? ⟨gb113, 0, none⟩ = some (.string a1_0) := (bkC BK113.out 0).trans rfl; have hcz10_1 : w7.cell? ⟨gb113, 1, none⟩ = some (.string a1_1) := (bkC BK113.out 1).trans rfl; have hfz10_0 := bkF BK113.out 0; have hfz10_1 := bkF BK113.out 1) | ((with_reducible refine gtc (f := 73) rfl ?_); refine goesL_ (some 7) rfl rfl Tryd.func73 (by kernel_rfl) rfl #[.agg #[.string a0_0, .string a0_1], .agg #[.string a1_0, .string a1_1]] rfl (by (try simp only [List.map_toArray, List.map_cons, List.map_nil]); first | done | rfl | (simp only [List.length_drop, List.length_take]; rfl)) ?_; (with_reducible refine (bound_both.calls a0_0 a0_1 a1_0 a1_1 true _ ?side1 A3.out).mono ?_); (case side1 => exact hG.below (by exact pbE HB.out)); rintro e w11 ⟨rfl, hb⟩; refine ⟨_, rfl, ?_⟩; have n0_ := Az.mk (bkB (g := gb112) (o := .cells #[.string a0_0, .string a0_1] 23 (0, 0)) (bk BK112.out) hb); have n1_ := Az.mk (bkB (g := gb113) (o := .cells #[.string a1_0, .string a1_1] 23 (0, 0)) (bk BK113.out) hb); have n2_ := Az.mk (pbT (by exact pbE HB.out) hb); clear BK112; clear BK113; clear HB; have BK112 := n0_; have BK113 := n1_; have HB := n2_; clear n0_ n1_ n2_; (try clear hb); (try clear hb2); (try clear hk); (try clear hi); have hcz12_0 : w11.cell? ⟨gb112, 0, none⟩ = some (.string a0_0) := (bkC BK112.out 0).trans rfl; have hcz12_1 : w11.cell? ⟨gb112, 1, none⟩ = some (.string a0_1) := (bkC BK112.out 1).trans rfl; have hfz12_0 := bkF BK112.out 0; have hfz12_1 := bkF BK112.out 1))
      go_ret
      exact ⟨by first | rfl | (simp [errW_none, errW_some] <;> rfl) | (simp [*, errW_none, errW_some] <;> rfl), by exact pbE HB.out⟩
    · rw [if_neg c5] at H
      have c5b0 : (a0_1.toList == ([] : List UInt8)) = false := beq_eq_false_iff_ne.mpr c5
      have c5b1 : (a0_1.toList != ([] : List UInt8)) = true := bne_iff_ne.mpr c5
      obtain rfl := Option.some.inj H
      go_enter Tryd.func63, Tryd.ntmps63
      go_wp2_with (first | ((with_reducible refine gate_dst (N := 2) rfl ?_); refine box_event ?hg (N := 2) ?hd (cs := #[.string a0_0, .string a0_1]) (t := 23) ?hr ?_; (case hd => rfl); (case hg => rfl); (case hr => first | (go_simp; done) | (go_simp; rfl)); intro gb112 hg w13 hbox hb; have n0_ := Az.mk (pbT (by exact pbE HB.out) hb); have n1_ := Az.mk (hbox); have n2_ := Az.mk ((by rw [hg]; exact (pbZ (by exact pbE HB.out)) : w.heap.size ≤ gb112)); have n3_ := Az.mk ((by rw [hg]; exact (pbZ (by exact pbE HB.out)) : w.heap.size ≤ gb112)); clear HB; have HB := n0_; have BK112 := n1_; have GW112 := n2_; have GE112 := n3_; clear n0_ n1_ n2_ n3_; clear hb hbox hg) | ((with_reducible refine gate_dst (N := 3) rfl ?_); refine box_event ?hg (N := 3) ?hd (cs := #[.string a1_0, .string a1_1]) (t := 23) ?hr ?_; (case hd => rfl); (case hg => rfl); (case hr => first | (go_simp; done) | (go_simp; rfl)); intro gb113 hg w14 hbox hb; have n0_ := Az.mk (bkB (g := gb112) (o := .cells #[.string a0_0, .string a0_1] 23 (0, 0)) (bk BK112.out) hb); have n1_ := Az.mk (pbT (by exact pbE HB.out) hb); have n2_ := Az.mk (hbox); have n3_ := Az.mk ((by rw [hg]; exact (pbZ (by exact pbE HB.out)) : w.heap.size ≤ gb113)); have n4_ := Az.mk ((by rw [hg]; exact (pbZ (by exact pbE HB.out)) : w.heap.size ≤ gb113)); have n5_ := Az.mk ((by rw [hg]; exact Nat.ne_of_lt (blk_lt (g := gb112) (o := .cells #[.string a0_0, .string a0_1] 23 (0, 0)) (bk BK112.out)) : gb112 ≠ gb113)); have n6_ := Az.mk ((by rw [hg]; exact Nat.ne_of_gt (blk_lt (g := gb112) (o := .cells #[.string a0_0, .string a0_1] 23 (0, 0)) (bk BK112.out)) : gb113 ≠ gb112)); clear BK112; clear HB; have BK112 := n0_; have HB := n1_; have BK113 := n2_; have GW113 := n3_; have GE113 := n4_; have NB112_113 := n5_; have NB113_112 := n6_; clear n0_ n1_ n2_ n3_ n4_ n5_ n6_; clear hb hbox hg; have hnb15 := NB112_113.out; have hnc15 := NB113_112.out; have hcz16_0 : w14.cell? ⟨gb112, 0, none⟩ = some (.string a0_0) := (bkC BK112.out 0).trans rfl; have hcz16_1 : w14.cell? ⟨gb112, 1, none⟩ = some (.string a0_1) := (bkC BK112.out 1).trans rfl; have hfz16_0 := bkF BK112.out 0; have hfz16_1 := bkF BK112.out 1; have hcz17_0 : w14.cell? ⟨gb113, 0, none⟩ = some (.string a1_0) := (bkC BK113.out 0).trans rfl; have hcz17_1 : w14.cell? ⟨gb113, 1, none⟩ = some (.string a1_1) := (bkC BK113.out 1).trans rfl; have hfz17_0 := bkF BK113.out 0; have hfz17_1 := bkF BK113.out 1) | ((with_reducible refine gtc (f := 73) rfl ?_); refine goesL_ (some 7) rfl rfl Tryd.func73 (by kernel_rfl) rfl #[.agg #[.string a0_0, .string a0_1], .agg #[.string a1_0, .string a1_1]] rfl (by (try simp only [List.map_toArray, List.map_cons, List.map_nil]); first | done | rfl | (simp only [List.length_drop, List.length_take]; rfl)) ?_; (with_reducible refine (bound_both.calls a0_0 a0_1 a1_0 a1_1 true _ ?side1 A3.out).mono ?_); (case side1 => exact hG.below (by exact pbE HB.out)); rintro e w18 ⟨rfl, hb⟩; refine ⟨_, rfl, ?_⟩; have n0_ := Az.mk (bkB (g := gb112) (o := .cells #[.string a0_0, .string a0_1] 23 (0, 0)) (bk BK112.out) hb); have n1_ := Az.mk (bkB (g := gb113) (o := .cells #[.string a1_0, .string a1_1] 23 (0, 0)) (bk BK113.out) hb); have n2_ := Az.mk (pbT (by exact pbE HB.out) hb); clear BK112; clear BK113; clear HB; have BK112 := n0_; have BK113 := n1_; have HB := n2_; clear n0_ n1_ n2_; (try clear hb); (try clear hb2); (try clear hk); (try clear hi); have hcz19_0 : w18.cell? ⟨gb112, 0, none⟩ = some (.string a0_0) := (bkC BK112.out 0).trans rfl; have hcz19_1 : w18.cell? ⟨gb112, 1, none⟩ = some (.string a0_1) := (bkC BK112.out 1).trans rfl; have hfz19_0 := bkF BK112.out 0; have hfz19_1 := bkF BK112.out 1; have hcz20_0 : w18.cell? ⟨gb113, 0, none⟩ = some (.string a1_0) := (bkC BK113.out 0).trans rfl; have hcz20_1 : w18.cell? ⟨gb113, 1, none⟩ = some (.string a1_1) := (bkC BK113.out 1).trans rfl; have hfz20_0 := bkF BK113.out 0; have hfz20_1 := bkF BK113.out 1))
      go_ret
      exact ⟨by first | rfl | (simp [errW_none, errW_some] <;> rfl) | (simp [*, errW_none, errW_some] <;> rfl), by exact pbE HB.out⟩
  · replace c4 := Bool.eq_false_iff.mpr c4
    subst c4
    have H1 : (some false) = some r := by rw [if_neg (show ¬ (false = true) by decide)] at H; exact H
    clear H
    have H := H1
    clear H1
    obtain rfl := Option.some.inj H
    go_enter Tryd.func63, Tryd.ntmps63
    go_wp2_with (first | ((with_reducible refine gate_dst (N := 2) rfl ?_); refine box_event ?hg (N := 2) ?hd (cs := #[.string a0_0, .string a0_1]) (t := 23) ?hr ?_; (case hd => rfl); (case hg => rfl); (case hr => first | (go_simp; done) | (go_simp; rfl)); intro gb112 hg w21 hbox hb; have n0_ := Az.mk (pbT (by exact pbE HB.out) hb); have n1_ := Az.mk (hbox); have n2_ := Az.mk ((by rw [hg]; exact (pbZ (by exact pbE HB.out)) : w.heap.size ≤ gb112)); have n3_ := Az.mk ((by rw [hg]; exact (pbZ (by exact pbE HB.out)) : w.heap.size ≤ gb112)); clear HB; have HB := n0_; have BK112 := n1_; have GW112 := n2_; have GE112 := n3_; clear n0_ n1_ n2_ n3_; clear hb hbox hg) | ((with_reducible refine gate_dst (N := 3) rfl ?_); refine box_event ?hg (N := 3) ?hd (cs := #[.string a1_0, .string a1_1]) (t := 23) ?hr ?_; (case hd => rfl); (case hg => rfl); (case hr => first | (go_simp; done) | (go_simp; rfl)); intro gb113 hg w22 hbox hb; have n0_ := Az.mk (bkB (g := gb112) (o := .cells #[.string a0_0, .string a0_1] 23 (0, 0)) (bk BK112.out) hb); have n1_ := Az.mk (pbT (by exact pbE HB.out) hb); have n2_ := Az.mk (hbox); have n3_ := Az.mk ((by rw [hg]; exact (pbZ (by exact pbE HB.out)) : w.heap.size ≤ gb113)); have n4_ := Az.mk ((by rw [hg]; exact (pbZ (by exact pbE HB.out)) : w.heap.size ≤ gb113)); have n5_ := Az.mk ((by rw [hg]; exact Nat.ne_of_lt (blk_lt (g := gb112) (o := .cells #[.string a0_0, .string a0_1] 23 (0, 0)) (bk BK112.out)) : gb112 ≠ gb113)); have n6_ := Az.mk ((by rw [hg]; exact Nat.ne_of_gt (blk_lt (g := gb112) (o := .cells #[.string a0_0, .string a0_1] 23 (0, 0)) (bk BK112.out)) : gb113 ≠ gb112)); clear BK112; clear HB; have BK112 := n0_; have HB := n1_; have BK113 := n2_; have GW113 := n3_; have GE113 := n4_; have NB112_113 := n5_; have NB113_112 := n6_; clear n0_ n1_ n2_ n3_ n4_ n5_ n6_; clear hb hbox hg; have hnb23 := NB112_113.out; have hnc23 := NB113_112.out; have hcz24_0 : w22.cell? ⟨gb112, 0, none⟩ = some (.string a0_0) := (bkC BK112.out 0).trans rfl; have hcz24_1 : w22.cell? ⟨gb112, 1, none⟩ = some (.string a0_1) := (bkC BK112.out 1).trans rfl; have hfz24_0 := bkF BK112.out 0; have hfz24_1 := bkF BK112.out 1; have hcz25_0 : w22.cell? ⟨gb113, 0, none⟩ = some (.string a1_0) := (bkC BK113.out 0).trans rfl; have hcz25_1 : w22.cell? ⟨gb113, 1, none⟩ = some (.string a1_1) := (bkC BK113.out 1).trans rfl; have hfz25_0 := bkF BK113.out 0; have hfz25_1 := bkF BK113.out 1) | ((with_reducible refine gtc (f := 73) rfl ?_); refine goesL_ (some 7) rfl rfl Tryd.func73 (by kernel_rfl) rfl #[.agg #[.string a0_0, .string a0_1], .agg #[.string a1_0, .string a1_1]] rfl (by (try simp only [List.map_toArray, List.map_cons, List.map_nil]); first | done | rfl | (simp only [List.length_drop, List.length_take]; rfl)) ?_; (with_reducible refine (bound_both.calls a0_0 a0_1 a1_0 a1_1 false _ ?side1 A3.out).mono ?_); (case side1 => exact hG.below (by exact pbE HB.out)); rintro e w26 ⟨rfl, hb⟩; refine ⟨_, rfl, ?_⟩; have n0_ := Az.mk (bkB (g := gb112) (o := .cells #[.string a0_0, .string a0_1] 23 (0, 0)) (bk BK112.out) hb); have n1_ := Az.mk (bkB (g := gb113) (o := .cells #[.string a1_0, .string a1_1] 23 (0, 0)) (bk BK113.out) hb); have n2_ := Az.mk (pbT (by exact pbE HB.out) hb); clear BK112; clear BK113; clear HB; have BK112 := n0_; have BK113 := n1_; have HB := n2_; clear n0_ n1_ n2_; (try clear hb); (try clear hb2); (try clear hk); (try clear hi)))
    go_ret
    exact ⟨by first | rfl | (simp [errW_none, errW_some] <;> rfl) | (simp [*, errW_none, errW_some] <;> rfl), by exact pbE HB.out⟩
end Go.Proofs.YtjfhcijjjadhbaaDoor.P
end
