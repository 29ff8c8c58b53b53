import Derived.Test.YtjfhcijjjadhbaaDoorZDescQuorums0
import Derived.Test.YtjfhcijjjadhbaaDoorZDescQuorums1
import Derived.ArgAppend
import Derived.Deep.DrawnRows
import Derived.Deep.RegionHeld3
import Derived.Lib.Hide
import Derived.Lib.SliceRun
import Derived.Maps.AppendAt
import Derived.OwnWalk
import Derived.Shelf.Abstract
set_option linter.unusedVariables false
set_option linter.unusedSimpArgs false
set_option linter.unnecessarySimpa false
section
/- Rows of flat elements: what an append onto a full slice (xs[:n:n]) leaves. -/
namespace Go.Proofs.YtjfhcijjjadhbaaDoor.K
open Go Go.RowKit Go.Proofs.YtjfhcijjjadhbaaDoorW.PrintWords Go.Proofs.YtjfhcijjjadhbaaDoorW.PrintLast Go.Proofs.YtjfhcijjjadhbaaDoorW.PrintMore
section
variable {P : Program} {α : Type}
/-- A kind whose cells tell all: none of it lies elsewhere. -/
def Flat (d : Kd α) : Prop := ∀ (w w' : World) x c, d.K w x c → d.K w' x c
theorem V_own {d : Kd α} (hf : Flat d) {W W1 : World} {base b2 : Nat} {e : TypeId} {v : Value} {xs : List α} {inner : List Value} (hown : W1.ownsRow base e d.sz v xs.length inner) (hr : Reps (d.K W) d.sz xs inner) (ok : Nat → Prop) (hok : ∀ k, v.ownBlock = some k → ok k) : Kd.V d e W1 b2 ok v xs := by
  obtain ⟨hlen, hown⟩ := hown
  rcases hown with ⟨rfl, h0⟩ | ⟨g, cap, cur, rfl, hg, hheap, hcap, hmax, hsz, htake⟩
  · obtain rfl : xs = [] := List.eq_nil_of_length_eq_zero h0
    exact ⟨none, 0, rfl, Nat.le_refl _, Kd.F_nil d W1 ok⟩
  · refine ⟨some ⟨g, 0, none⟩, cap, rfl, hcap, fun W' hW => ?_⟩
    have hlt : g < W1.heap.size := by
      rcases Nat.lt_or_ge g W1.heap.size with h | h
      · exact h
      · rw [Array.getElem?_eq_none h] at hheap; cases hheap
    have hh : W'.heap[g]? = some (.cells cur e (0, 0)) := (hW g (hok g rfl) hlt).trans hheap
    have ho : OwnRow (d.K W') e d.sz W' base (.slice (some ⟨g, 0, none⟩) xs.length cap) xs := ⟨inner, ⟨hlen, .inr ⟨g, cap, cur, rfl, hg, hh, hcap, hmax, hsz, htake⟩⟩, hr.imp_ (fun p c hp => hf _ _ _ _ hp)⟩
    obtain ⟨A, c, he, _, hR⟩ := ho.reads
    injection he with h1
    subst h1
    exact hR
theorem F_flat {d : Kd α} {W : World} {ok : Nat → Prop} {A : Option Addr} {n : Nat} {xs : List α} (h : Kd.F d W ok A n xs) : Kd.C d W A n xs := Kd.F_now h
/-- What is read of flat elements is so in every world that has the same blocks. -/
theorem F_of_C {d : Kd α} (hf : Flat d) {W : World} {A : Option Addr} {n : Nat} {xs : List α} (h : Kd.C d W A n xs) : Kd.F d W (fun _ => True) A n xs := by
  intro W' hW
  obtain ⟨h1, h2, h3⟩ := h
  refine ⟨h1, h2, fun hn => ?_⟩
  obtain ⟨ad, e, hc⟩ := h3 hn
  refine ⟨ad, e, fun j p hp => ?_⟩
  obtain ⟨c, hl, hK, hcell⟩ := hc j p hp
  refine ⟨c, hl, hf _ _ _ _ hK, fun i u hu => ?_⟩
  have hold := hcell i u hu
  have hlt : (ad.add (j * d.sz + i)).block < W.heap.size := by
    rcases Nat.lt_or_ge (ad.add (j * d.sz + i)).block W.heap.size with h | h
    · exact h
    · simp [World.cell?, Array.getElem?_eq_none h] at hold
  rw [World.cell?_of_block (hW _ trivial hlt)]
  exact hold
theorem V_of_C {d : Kd α} (hf : Flat d) {W : World} {A : Option Addr} {c : Nat} {xs : List α} {e base : Nat} (h : Kd.C d W A xs.length xs) (hc : xs.length ≤ c) : Kd.V d e W base (fun _ => True) (.slice A xs.length c) xs := ⟨A, c, rfl, hc, F_of_C hf h⟩
/-- append(xs[:n:n], ys..): a new row, or, with nothing to append, xs[:n:n] itself. -/
theorem run_app_cut (d : Kd α) (hf : Flat d) (W : World) (t ty e : TypeId) (i : TypeInfo) (z : Value) (bytes : Nat) (ht : P.underlying t = some (.slice e)) (hi : P.info? e = some i) (hz : i.zero = some z) (hsize : i.size = d.sz) (hby : i.bytes = bytes) (hzs : z.cells.size = d.sz) (hsz : 0 < d.sz) (hb0 : 0 < bytes)
    (A : Option Addr) (n : Nat) (xs : List α) (A2 : Option Addr) (m c : Nat) (ys : List α) (ok : Nat → Prop) (base : Nat) (HX : Kd.F d W ok A n xs) (HY : Kd.C d W A2 m ys) (hl : (n + m) * bytes ≤ 140737488355328) :
    ∃ v1 w1, (Builtin.append_ #[t, t] ty #[.slice A n n, .slice A2 m c]).run P W = .ok v1 w1 ∧ Below W.heap.size W w1 ∧ Kd.V d e w1 base (fun k => ok k ∨ W.heap.size ≤ k) v1 (xs ++ ys) := by
  have HX0 := F_flat HX
  have hn : xs.length = n := HX0.1
  have hm : ys.length = m := HY.1
  have hlen : n + m ≤ 140737488355328 := Nat.le_trans (Nat.le_mul_of_pos_right _ hb0) hl
  rcases Nat.eq_zero_or_pos m with h0 | hp
  · subst h0
    obtain rfl : ys = [] := List.eq_nil_of_length_eq_zero hm
    refine ⟨.slice A n n, W, ?_, Below.refl _ _, ?_⟩
    · rcases A with _ | ad
      · have hn0 : n = 0 := by
          rcases Nat.eq_zero_or_pos n with h | h
          · exact h
          · obtain ⟨ad, h, _⟩ := HX0.2.2 h; cases h
        subst hn0
        rcases A2 with _ | a2
        · simp [Builtin.append_, run_underlying ht, sizeOf, typeInfo, hi, Builtin.lenOf, Builtin.firstCells]
        · simp [Builtin.append_, run_underlying ht, sizeOf, typeInfo, hi, Builtin.lenOf, Builtin.firstCells, loadCells, loadCellsFrom]
      · rcases A2 with _ | a2
        · simp [Builtin.append_, run_underlying ht, sizeOf, typeInfo, hi, Builtin.lenOf, Builtin.firstCells, storeCells]
        · simp [Builtin.append_, run_underlying ht, sizeOf, typeInfo, hi, Builtin.lenOf, Builtin.firstCells, storeCells, loadCells, loadCellsFrom]
    · rw [List.append_nil]
      subst hn
      exact ⟨A, xs.length, rfl, Nat.le_refl _, Kd.F_mono HX (fun k hk => .inl hk)⟩
  · obtain ⟨a2, rfl, _⟩ := HY.2.2 hp
    obtain ⟨news, hnr, hnc⟩ := ReadsRow.inner_ HY
    have hone : ∀ u ∈ news, u.oneCell' = true := by
      intro u hu
      obtain ⟨q, hq, rfl⟩ := List.mem_iff_getElem.1 hu
      have hql : q / d.sz < ys.length := by rw [Nat.div_lt_iff_lt_mul hsz, ← hnr.1]; exact hq
      have hc := hnr.2 (q / d.sz) _ (List.getElem?_eq_getElem hql)
      refine d.K_one hc _ ?_
      rw [List.mem_iff_getElem?]
      refine ⟨q % d.sz, ?_⟩
      rw [List.getElem?_take, if_pos (Nat.mod_lt _ hsz), List.getElem?_drop, Nat.mul_comm, Nat.div_add_mod, List.getElem?_eq_getElem hq]
    have hnl : news.length = m * d.sz := by rw [hnr.1, hm]
    have fin : ∀ (olds : List Value) v1 w1, Reps (d.K W) d.sz xs olds → w1.ownsRow W.heap.size e d.sz v1 (n + m) (olds ++ news) → W.grownBy w1 none → Below W.heap.size W w1 ∧ Kd.V d e w1 base (fun k => ok k ∨ W.heap.size ≤ k) v1 (xs ++ ys) := by
      intro olds v1 w1 hxr hown hg
      refine ⟨⟨hg.os, hg.tape, hg.output, hg.size, fun k hk => hg.block k hk (by simp)⟩, V_own hf (xs := xs ++ ys) (by rw [List.length_append, hn, hm]; exact hown) (Kd.reps_append hxr hnr) _ (fun k hk => .inr ?_)⟩
      rcases hown.2 with ⟨rfl, h⟩ | ⟨g, cap, cur, rfl, hgb, _⟩
      · omega
      · have : g = k := by simpa [Value.ownBlock] using hk
        omega
    rcases A with _ | ad
    · have hn0 : n = 0 := by
        rcases Nat.eq_zero_or_pos n with h | h
        · exact h
        · obtain ⟨ad, h, _⟩ := HX0.2.2 h; cases h
      subst hn0
      obtain rfl : xs = [] := List.eq_nil_of_length_eq_zero hn
      obtain ⟨v1, w1, hrun, h2, hg, _⟩ := run_append_own_at (P := P) W W.heap.size t ty e i z d.sz bytes ht hi hz hsize hby hzs hsz (.slice none 0 0) 0 [] (own_nil _ _ _ _) a2 m c news hnl hnc hone (by simp only [maxLen]; omega) hl (Nat.le_refl _)
      exact ⟨v1, w1, hrun, fin [] v1 w1 (Reps.none _ _) h2 hg⟩
    · obtain ⟨olds, hxr, hxc⟩ := ReadsRow.inner_ HX0
      obtain ⟨v1, w1, hrun, h2, hg⟩ := run_append_arg_grows (P := P) W t ty e i z d.sz bytes ht hi hz hsize hby hzs hsz ad n n olds (by rw [hxr.1, hn]) hxc a2 m c news hnl hnc (by omega) (by simp only [maxLen]; omega) hl
      exact ⟨v1, w1, hrun, fin olds v1 w1 hxr h2 hg⟩
variable {ops : Array Oper} {rest : List Oper} {o : Oper} {a : Act} {Q : Exit → Act → World → Prop}
theorem V_append_cut (d : Kd α) (hf : Flat d) {W : World} (base : Nat) (hgd : o.guard = none) (s x : Operand) (t e : TypeId) (z : Value) (bytes : Nat)
    (ho : o.op = .call { callee := .builtin .append, args := #[s, x], argTypes := #[t, t] })
    (ht : P.underlying t = some (.slice e)) (hinfo : (P.info? e).map (fun i => (i.zero, i.size, i.bytes)) = some (some z, d.sz, bytes)) (hz : z.cells.size = d.sz) (hs0 : 0 < d.sz) (hb0 : 0 < bytes)
    (A : Option Addr) (n : Nat) (xs : List α) (A2 : Option Addr) (m c : Nat) (ys : List α) (ok : Nat → Prop) (hs : a.eval s = .slice A n n) (hx : a.eval x = .slice A2 m c)
    (HX : Kd.F d W ok A n xs) (HY : Kd.C d W A2 m ys) (hl : (n + m) * bytes ≤ 140737488355328)
    (h : ∀ v1 w1, Kd.V d e w1 base (fun k => ok k ∨ W.heap.size ≤ k) v1 (xs ++ ys) → Below W.heap.size W w1 → wpList P ops Q rest (a.put o.dst v1) w1) :
    wpList P ops Q (o :: rest) a W := by
  obtain ⟨i0, hi, hzz⟩ := Option.map_eq_some_iff.1 hinfo
  simp only [Prod.mk.injEq] at hzz
  obtain ⟨hz0, hz1, hz2⟩ := hzz
  obtain ⟨v1, w1, hr1, hb, hv⟩ := run_app_cut (P := P) d hf W t o.type e i0 z bytes ht hi hz0 hz1 hz2 hz hs0 hb0 A n xs A2 m c ys ok base HX HY hl
  refine wpList_plain hgd fun K hK => ?_
  unfold Oper.wp execOp
  simp only [ho, resolve, invoke, builtin, Sem.run_bind, Sem.run_pure, Result.andThen_ok, List.map_toArray, List.map_cons, List.map_nil, hs, hx, hr1]
  exact hK _ _ (h v1 w1 hv hb)
theorem step_append_cut (d : Kd α) (hf : Flat d) {W : World} {K : Act → World → Prop} {E : Prop} (base : Nat) (hgd : o.guard = none) (s x : Operand) (t e : TypeId) (z : Value) (bytes : Nat)
    (ho : o.op = .call { callee := .builtin .append, args := #[s, x], argTypes := #[t, t] })
    (ht : P.underlying t = some (.slice e)) (hinfo : (P.info? e).map (fun i => (i.zero, i.size, i.bytes)) = some (some z, d.sz, bytes)) (hz : z.cells.size = d.sz) (hs0 : 0 < d.sz) (hb0 : 0 < bytes)
    (A : Option Addr) (n : Nat) (xs : List α) (A2 : Option Addr) (m c : Nat) (ys : List α) (ok : Nat → Prop) (hs : a.eval s = .slice A n n) (hx : a.eval x = .slice A2 m c)
    (HX : Kd.F d W ok A n xs) (HY : Kd.C d W A2 m ys) (hl : (n + m) * bytes ≤ 140737488355328)
    (h : ∀ v1 w1, Kd.V d e w1 base (fun k => ok k ∨ W.heap.size ≤ k) v1 (xs ++ ys) → Below W.heap.size W w1 → K (a.put o.dst v1) w1) :
    if Region.wanted o (yielded ops a.tmps) = true then Oper.wp P o a W K Q else E := by
  obtain ⟨i0, hi, hzz⟩ := Option.map_eq_some_iff.1 hinfo
  simp only [Prod.mk.injEq] at hzz
  obtain ⟨hz0, hz1, hz2⟩ := hzz
  obtain ⟨v1, w1, hr1, hb, hv⟩ := run_app_cut (P := P) d hf W t o.type e i0 z bytes ht hi hz0 hz1 hz2 hz hs0 hb0 A n xs A2 m c ys ok base HX HY hl
  have hw : Region.wanted o (yielded ops a.tmps) = true := by simp [Region.wanted, hgd]
  rw [if_pos hw]
  unfold Oper.wp execOp
  simp only [ho, resolve, invoke, builtin, Sem.run_bind, Sem.run_pure, Result.andThen_ok, List.map_toArray, List.map_cons, List.map_nil, hs, hx, hr1]
  exact h v1 w1 hv hb
end
end Go.Proofs.YtjfhcijjjadhbaaDoor.K
end
section
/- slices.Clone of members: by hand. -/
namespace Go.Proofs.YtjfhcijjjadhbaaDoor.P
open Go.RowKit Go.Proofs.YtjfhcijjjadhbaaDoor.K Go.Proofs.YtjfhcijjjadhbaaDoorW.PrintWords Go.Proofs.YtjfhcijjjadhbaaDoorW.PrintLast Go.Proofs.YtjfhcijjjadhbaaDoorW.PrintMore
def api_Member_33.f (l0 : List S60) : Option (List S60) := if l0.length < 8796093022208 then some l0 else none
set_option maxHeartbeats 2000000 in
set_option maxRecDepth 100000 in
theorem api_Member_33.calls (A0 : Option Addr) (c0 : Nat) (l0 : List S60) (r : List S60) (w : World) (hG : TheG w) (hr0 : Kd.C k60 w A0 l0.length l0) (hc0 : l0.length ≤ c0) (h : api_Member_33.f l0 = some r) :
    Calls Tryd.prog 33 #[.slice A0 l0.length c0] w fun e w' => ∃ v : Value, e = .returned v ∧ Kd.R k60 60 w' w.heap.size (fun _ => True) v r ∧ Below w.heap.size w w' := by
  unfold api_Member_33.f at h
  split at h
  case isFalse => exact absurd h (by simp)
  case isTrue hl =>
  obtain rfl := Option.some.inj h
  clear h
  rcases A0 with _ | ad
  · have h0 : l0 = [] := by
      rcases l0 with _ | ⟨x, l⟩
      · rfl
      · obtain ⟨ad, h, _⟩ := hr0.2.2 (by simp); cases h
    subst h0
    have hbin := fun w => Lib.run_eql_slice_nil (P := Tryd.prog) w 24 60 none 0 c0 0 0 Tryd.underlying24
    go_enter Tryd.func33, Tryd.ntmps33
    go_wp2
    go_ret
    exact ⟨_, rfl, Kd.R_nil _ _ _ _ _, Below.refl _ _⟩
  · have HC := Lib.hid hr0
    clear hr0
    have hbin := fun w => Lib.run_eql_slice_nil (P := Tryd.prog) w 24 60 (some ad) l0.length c0 0 0 Tryd.underlying24
    go_enter Tryd.func33, Tryd.ntmps33
    go_wp2_with (first | ((with_reducible refine gate_dst (N := 5) rfl ?_); refine Kd.R_lit k60 _ 60 ?hg (N := 5) ?hd (xs := ([] : List (S60))) (inner := []) (ok := fun _ => True) (okp := fun _ => True) ?hr ?hp (fun _ hk => hk) trivial (Below.refl _ _) (Nat.le_refl _) (by simp) ?_; (case hd => rfl); (case hg => rfl); (case hr => first | (go_simp; done) | (go_simp; rfl)); (case hp => exact (Reps.none _ _)); intro v1 w1 ho1 hb1 _ _) | ((with_reducible refine gate_builtin (b := .append) (xs := #[.tmp 5, .tmp 6]) rfl ?_); at_builtin; refine Kd.R_append_rows k60 (w0 := w) w.heap.size rfl (.tmp 5) (.tmp 6) 24 60 (.agg #[(.int .i64 0), (.int .i64 0)]) 16 rfl Tryd.underlying24 info60 rfl (by decide) (by omega) v1 [] l0 _ _ _ (fun _ => True) (fun _ => False) rfl rfl ?aO ?aR (fun _ _ h => h) (fun _ h => h.elim) ?aF ?aB ?aS ?aL ?_; (case aR => exact Kd.C_below HC.out hb1); (case aF => exact fun _ _ => trivial); (case aB => exact hb1); (case aS => exact hb1.size); (case aL => simp; omega); (case aO => exact ho1); intro v2 w2 ho2 hb2 _ _) | fail)
    obtain ⟨A3, c3, rfl⟩ := Kd.R_slice ho2
    go_ret
    exact ⟨_, rfl, ho2, hb2⟩
theorem flat60 : Flat k60 := by
  intro w w' x c h
  obtain rfl := k60_open h
  exact k60_mk w' x
end Go.Proofs.YtjfhcijjjadhbaaDoor.P
end
section
/- slices.IndexFunc over members, desc.find, On, Has: by hand. -/
namespace Go.Proofs.YtjfhcijjjadhbaaDoor.P
open Go.RowKit Go.Shelf Go.Proofs.YtjfhcijjjadhbaaDoor.K Go.Proofs.YtjfhcijjjadhbaaDoorW.PrintWords Go.Proofs.YtjfhcijjjadhbaaDoorW.PrintLast Go.Proofs.YtjfhcijjjadhbaaDoorW.PrintMore
def aggM (m : S60) : Value := .agg #[.int .i64 m.f0, .int .i64 m.f1]
theorem two_old {w w2 : World} {c1 c2 : Array Value} {t t2 : TypeId} (hb : Below ((w.alloc (.cells c1 t)).alloc (.cells c2 t2)).heap.size ((w.alloc (.cells c1 t)).alloc (.cells c2 t2)) w2) (_ _ : Unit) : w2.heap[w.heap.size]? = some (.cells c1 t (0, 0)) := by
  have h1 : (w.alloc (.cells c1 t)).heap.size = w.heap.size + 1 := by simp
  have h2 : ((w.alloc (.cells c1 t)).alloc (.cells c2 t2)).heap.size = w.heap.size + 2 := by simp
  rw [hb.block w.heap.size (by omega), heap_alloc_old _ _ (by omega)]
  exact heap_alloc_new w _
theorem two_new {w w2 : World} {c1 c2 : Array Value} {t t2 : TypeId} (hb : Below ((w.alloc (.cells c1 t)).alloc (.cells c2 t2)).heap.size ((w.alloc (.cells c1 t)).alloc (.cells c2 t2)) w2) (_ _ : Unit) : w2.heap[w.heap.size + 1]? = some (.cells c2 t2 (0, 0)) := by
  have h1 : (w.alloc (.cells c1 t)).heap.size = w.heap.size + 1 := by simp
  have h2 : ((w.alloc (.cells c1 t)).alloc (.cells c2 t2)).heap.size = w.heap.size + 2 := by simp
  rw [hb.block (w.heap.size + 1) (by omega), ← h1]
  exact heap_alloc_new _ _
theorem three_new {w w2 : World} {c1 c2 c3 : Array Value} {t t2 t3 : TypeId} (hb : Below (((w.alloc (.cells c1 t)).alloc (.cells c2 t2)).alloc (.cells c3 t3)).heap.size (((w.alloc (.cells c1 t)).alloc (.cells c2 t2)).alloc (.cells c3 t3)) w2) (_ _ : Unit) : w2.heap[w.heap.size + 2]? = some (.cells c3 t3 (0, 0)) := by
  have h1 : ((w.alloc (.cells c1 t)).alloc (.cells c2 t2)).heap.size = w.heap.size + 2 := by simp
  have h2 : (((w.alloc (.cells c1 t)).alloc (.cells c2 t2)).alloc (.cells c3 t3)).heap.size = w.heap.size + 3 := by simp
  rw [hb.block (w.heap.size + 2) (by omega), ← h1]
  exact heap_alloc_new _ _
theorem put2 {w1 : World} {B : Nat} {t : TypeId} {x y : Value} (BL : w1.heap[B]? = some (.cells #[.int .i64 0, .int .i64 0] t (0, 0))) : ((w1.setCell ⟨B, 0, none⟩ x).setCell ⟨B, 1, none⟩ y).heap[B]? = some (.cells #[x, y] t (0, 0)) := by
  refine blk_put (cs := #[x, .int .i64 0]) ?_ 1 _ rfl
  exact blk_put (cs := #[.int .i64 0, .int .i64 0]) BL 0 _ rfl
theorem three_old {w w2 : World} {c1 c2 c3 : Array Value} {t t2 t3 : TypeId} (hb : Below (((w.alloc (.cells c1 t)).alloc (.cells c2 t2)).alloc (.cells c3 t3)).heap.size (((w.alloc (.cells c1 t)).alloc (.cells c2 t2)).alloc (.cells c3 t3)) w2) (_ _ : Unit) : w2.heap[w.heap.size]? = some (.cells c1 t (0, 0)) := bkB (bkA (bkA (heap_alloc_new w _) _) _) hb
theorem three_mid2 {w w2 : World} {c1 c2 c3 : Array Value} {t t2 t3 : TypeId} (hb : Below (((w.alloc (.cells c1 t)).alloc (.cells c2 t2)).alloc (.cells c3 t3)).heap.size (((w.alloc (.cells c1 t)).alloc (.cells c2 t2)).alloc (.cells c3 t3)) w2) (_ _ : Unit) : w2.heap[w.heap.size + 1]? = some (.cells c2 t2 (0, 0)) := by
  have h1 : (w.alloc (.cells c1 t)).heap.size = w.heap.size + 1 := by simp
  refine bkB (bkA ?_ _) hb
  rw [← h1]
  exact heap_alloc_new _ _
theorem three_mid (w : World) (c1 c2 c3 : Array Value) (t t2 t3 : TypeId) : (((w.alloc (.cells c1 t)).alloc (.cells c2 t2)).alloc (.cells c3 t3)).heap[w.heap.size + 1]? = some (.cells c2 t2 (0, 0)) := by
  have h1 : (w.alloc (.cells c1 t)).heap.size = w.heap.size + 1 := by simp
  refine bkA ?_ _
  rw [← h1]
  exact heap_alloc_new _ _
/-- A predicate that may lay blocks of its own. -/
def PredM (g : Nat) (lb : Array Value) (p : S60 → Bool) (w : World) : Prop :=
  ∀ (W : World) (x : S60), Below w.heap.size w W → Calls Tryd.prog g (#[aggM x] ++ lb) W fun e w' => e = .returned (.bool (p x)) ∧ Below W.heap.size W w'
def idxZ (p : S60 → Bool) : List S60 → Nat → Int
  | [], _ => -1
  | m :: r, k => if p m = true then (k : Int) else idxZ p r (k + 1)
theorem idxZ_cases (p : S60 → Bool) : ∀ (l : List S60) (k : Nat), (idxZ p l k = -1 ∧ l.find? p = none) ∨ ∃ (i : Nat) (h : i < l.length), idxZ p l k = ((k + i : Nat) : Int) ∧ l.find? p = some l[i]
  | [], k => .inl ⟨rfl, rfl⟩
  | m :: r, k => by
    simp only [idxZ]
    by_cases hp : p m = true
    · rw [if_pos hp]
      exact .inr ⟨0, by simp, by simp, by simp [List.find?_cons, hp]⟩
    · have hp' : p m = false := by simpa using hp
      rw [if_neg hp]
      rcases idxZ_cases p r (k + 1) with ⟨h1, h2⟩ | ⟨i, h, h1, h2⟩
      · exact .inl ⟨h1, by simp [List.find?_cons, hp', h2]⟩
      · exact .inr ⟨i + 1, by simp; omega, by rw [h1]; omega, by simp [List.find?_cons, hp', h2]⟩
set_option maxHeartbeats 4000000 in
set_option maxRecDepth 100000 in
theorem indexM_calls (p : S60 → Bool) (g : Nat) (lb : Array Value) (eg : ∀ args w, (callFunc g args).run Tryd.prog w = .ok (.enter g args) w) (A0 : Option Addr) (c0 : Nat) (l0 : List (S60)) (w : World) (hr0 : Kd.C k60 w A0 l0.length l0) (hc0 : l0.length ≤ 1000000000) (hp : PredM g lb p w) :
    Calls Tryd.prog 72 #[.slice A0 l0.length c0, .func (.func g) #[] lb] w fun e w' => e = .returned (.int .i64 (idxZ p l0 0)) ∧ Below w.heap.size w w' := by
  have HC := Lib.hid hr0
  clear hr0
  go_enter Tryd.func72, Tryd.ntmps72
  go_wp2
  go_loopw [5, 8] (fun _ i wr => ∃ k : Nat, k ≤ l0.length ∧ i = .int .i64 k ∧ Hid (idxZ p l0 0 = idxZ p (l0.drop k) k) ∧ Hid (Below w.heap.size w wr)) (fun _ i _ => l0.length - (intOf i).toNat)
  case atStart => exact ⟨0, Nat.zero_le _, rfl, Lib.hid rfl, Lib.hid (Below.refl _ _)⟩
  case round =>
    obtain ⟨k, hk, rfl, HN, HB⟩ := hrel
    by_cases hlt : k < l0.length
    · have hk0 : (0 : Int) ≤ (k : Int) := by omega
      have hk1 : (k : Int) < (l0.length : Int) := by omega
      obtain ⟨ad, ea, hx0, hx1⟩ := at_T60 (Kd.C_below HC.out HB.out) (k : Int) hk0 hk1
      subst ea
      rw [Int.toNat_natCast] at hx0 hx1
      have hdrop : l0.drop k = l0[k] :: l0.drop (k + 1) := List.drop_eq_getElem_cons hlt
      have hrd : rd_T60 l0 (k : Int) = l0[k] := by simp [rd_T60, hlt]
      have hN := HN.out
      rw [hdrop, ← hrd] at hN
      simp only [idxZ] at hN
      clear hdrop hrd HN
      generalize rd_T60 l0 (k : Int) = m at hx0 hx1 hN
      have HP := Lib.hid (hp wr m HB.out)
      cases hq : p m with
      | true =>
        rw [if_pos hq] at hN
        rw [hq] at HP
        go_wp2_with (go_at_fn g; refine HP.out.mono ?_; rintro e w2 ⟨rfl, hb⟩)
        go_ret
        exact ⟨by first | rfl | (rw [hN]; rfl), pbT HB.out hb⟩
      | false =>
        rw [if_neg (by rw [hq]; simp)] at hN
        rw [hq] at HP
        have HN := Lib.hid hN
        clear hN
        go_wp2_with (go_at_fn g; refine HP.out.mono ?_; rintro e w2 ⟨rfl, hb⟩)
        go_roundw
        case rel => exact ⟨k + 1, by omega, by go_num, HN, Lib.hid (pbT HB.out hb)⟩
        case measure => simp [intOf]; omega
    · obtain rfl : k = l0.length := by omega
      have hN := HN.out
      rw [List.drop_length] at hN
      simp only [idxZ] at hN
      go_wp2
      go_ret
      exact ⟨by first | rfl | (rw [hN]; rfl), HB.out⟩
set_option maxHeartbeats 4000000 in
set_option maxRecDepth 100000 in
theorem findM_calls (p : S60 → Bool) (g : Nat) (lb : Array Value) (eg : ∀ args w, (callFunc g args).run Tryd.prog w = .ok (.enter g args) w) (a0_0 : Int) (a0_1 a0_2 : ByteArray) (a0_3 : Int) (A0_4 : Option Addr) (c0_4 : Nat) (l0_4 : List (S60)) (a0_5 : Int) (w : World) (hr0 : Kd.C k60 w A0_4 l0_4.length l0_4) (hl : l0_4.length ≤ c0_4) (hc0 : l0_4.length ≤ 1000000000) (hp : PredM g lb p w) :
    Calls Tryd.prog 54 #[.agg #[.int .i64 a0_0, .string a0_1, .string a0_2, .int .i64 a0_3, .slice A0_4 l0_4.length c0_4, .int .i64 a0_5], .func (.func g) #[] lb] w fun e w' => e = .returned (.tuple (match l0_4.find? p with | some m => #[aggM m, .bool true] | none => #[.agg #[.int .i64 0, .int .i64 0], .bool false])) ∧ Below w.heap.size w w' := by
  have HC := Lib.hid hr0
  clear hr0
  have hu := Tryd.underlying26
  have hu2 := Tryd.underlying60
  have HI : ∀ W, Below w.heap.size w W → Hid (Calls Tryd.prog 72 #[.slice A0_4 l0_4.length c0_4, .func (.func g) #[] lb] W fun e w' => e = .returned (.int .i64 (idxZ p l0_4 0)) ∧ Below W.heap.size W w') := fun W hW =>
    Lib.hid (indexM_calls p g lb eg A0_4 c0_4 l0_4 W (Kd.C_below HC.out hW) hc0 (fun W' x hb => hp W' x (hW.trans (hb.mono hW.size))))
  clear hp
  rcases idxZ_cases p l0_4 0 with ⟨h1, h2⟩ | ⟨i, hi, h1, h2⟩
  · rw [h2]
    rw [h1] at HI
    go_enter Tryd.func54, Tryd.ntmps54
    go_wp2_with (first | (go_at_call 72; refine (HI _ (pbA (pbA (Below.refl _ _) _) _)).out.mono ?_; rintro e w1 ⟨rfl, hb⟩; have BK := two_old hb () (); have BL := two_new hb () (); have f0 := bkF BL 0; have f1 := bkF BL 1; have y0 := (bkC BL 0).trans rfl; have y1 := (bkC BL 1).trans rfl) | fail)
    refine bodyPost_ret (results_ct rfl _ _ (w.heap.size + 1) 60 #[.int .i64 0, .int .i64 0] (0, 0) _ rfl (put2 BL) hu2 rfl (by kernel_rfl)) rfl ?_
    exact ⟨rfl, ((pbT (pbA (pbA (Below.refl _ _) _) _) hb).setCell (Nat.le_succ _) _).setCell (Nat.le_succ _) _⟩
  · rw [h2]
    rw [h1, Nat.zero_add] at HI
    have q0 : (0 : Int) ≤ (i : Int) := by omega
    have q1 : (i : Int) < (l0_4.length : Int) := by omega
    have hrd : rd_T60 l0_4 (i : Int) = l0_4[i] := by simp [rd_T60, hi]
    have HE : ∀ W, Below w.heap.size w W → ∃ ad, A0_4 = some ad ∧ W.cell? (ad.add (i * 2)) = some (.int .i64 l0_4[i].f0) ∧ W.cell? ⟨(ad.add (i * 2)).block, (ad.add (i * 2)).off + 1, none⟩ = some (.int .i64 l0_4[i].f1) := by
      intro W hW
      obtain ⟨ad, ea, e0, e1⟩ := at_T60 (Kd.C_below HC.out hW) (i : Int) q0 q1
      rw [Int.toNat_natCast, hrd] at e0 e1
      exact ⟨ad, ea, e0, e1⟩
    obtain ⟨ad, rfl, _⟩ := HE w (Below.refl _ _)
    clear h1 h2 hrd
    generalize l0_4[i] = m at HE
    go_enter Tryd.func54, Tryd.ntmps54
    go_wp2_with (first | (go_at_call 72; refine (HI _ (pbA (pbA (Below.refl _ _) _) _)).out.mono ?_; rintro e w1 ⟨rfl, hb⟩; have BK := two_old hb () (); have BL := two_new hb () (); have z3 := (bkC BK 4).trans rfl; have f0 := bkF BL 0; have f1 := bkF BL 1; have y0 := (bkC BL 0).trans rfl; have y1 := (bkC BL 1).trans rfl; have HB := Lib.hid (pbT (pbA (pbA (Below.refl _ _) _) _) hb); obtain ⟨ad', ea, e0, e1⟩ := HE _ HB.out; injection ea with ea; subst ea) | fail)
    refine bodyPost_ret (results_ct rfl _ _ (w.heap.size + 1) 60 #[.int .i64 m.f0, .int .i64 m.f1] (0, 0) _ rfl (put2 BL) hu2 rfl (by kernel_rfl)) rfl ?_
    exact ⟨rfl, (HB.out.setCell (Nat.le_succ _) _).setCell (Nat.le_succ _) _⟩
/-! ### On, Has -/
def desc_On.f (a0_0 : Int) (a0_1 a0_2 : ByteArray) (a0_3 : Int) (l0_4 : List S60) (a0_5 a1 : Int) : Option (Int × Int × Bool) := if l0_4.length ≤ 1000000000 then some (match l0_4.find? (fun m => m.f0 == a1) with | some m => (m.f0, m.f1, true) | none => (0, 0, false)) else none
def desc_Has.f (a0_0 : Int) (a0_1 a0_2 : ByteArray) (a0_3 : Int) (l0_4 : List S60) (a0_5 a1 : Int) : Option (Int × Int × Bool) := if l0_4.length ≤ 1000000000 then some (match l0_4.find? (fun m => m.f1 == a1) with | some m => (m.f0, m.f1, true) | none => (0, 0, false)) else none
theorem pred_On (B : Nat) (n : Int) (w : World) (hB : B < w.heap.size) (hc : w.cell? ⟨B, 0, none⟩ = some (.int .i64 n)) : PredM 56 #[.pointer (some ⟨B, 0, none⟩)] (fun m => m.f0 == n) w := by
  intro W x hb
  have hc : W.cell? ⟨B, 0, none⟩ = some (.int .i64 n) := (hb.cell (p := ⟨B, 0, none⟩) hB).trans hc
  have hBW : B < W.heap.size := Nat.lt_of_lt_of_le hB hb.size
  show Calls Tryd.prog 56 #[.agg #[.int .i64 x.f0, .int .i64 x.f1], .pointer (some ⟨B, 0, none⟩)] W _
  go_enter Tryd.func56, Tryd.ntmps56
  go_wp2
  all_goals go_ret
  all_goals exact ⟨by first | rfl | (simp; done), pbA (Below.refl _ _) _⟩
set_option maxHeartbeats 4000000 in
set_option maxRecDepth 100000 in
theorem desc_On.calls (a0_0 : Int) (a0_1 : ByteArray) (a0_2 : ByteArray) (a0_3 : Int) (A0_4 : Option Addr) (c0_4 : Nat) (l0_4 : List (S60)) (a0_5 : Int) (a1 : Int) (r1 : Int) (r2 : Int) (r3 : Bool) (w : World) (hG : TheG w) (hr0_4 : Kd.C k60 w A0_4 l0_4.length l0_4) (hc0_4 : l0_4.length ≤ c0_4) (h : desc_On.f a0_0 a0_1 a0_2 a0_3 l0_4 a0_5 a1 = some (r1, r2, r3)) :
    Calls Tryd.prog 30 #[.agg #[.int .i64 a0_0, .string a0_1, .string a0_2, .int .i64 a0_3, .slice A0_4 l0_4.length c0_4, .int .i64 a0_5], .int .i64 a1] w fun e w' => e = .returned (.tuple #[.agg #[.int .i64 r1, .int .i64 r2], .bool r3]) ∧ Below w.heap.size w w' := by
  unfold desc_On.f at h
  split at h
  case isFalse => exact absurd h (by simp)
  case isTrue hl =>
  have h := Option.some.inj h
  have hu := Tryd.underlying26
  have hu2 := Tryd.underlying60
  have hmf : ∀ (fn : Fn) (first cap : Array Value) (w : World), (Instr.makeFunc fn first cap).run Tryd.prog w = .ok (.func fn first cap) w := fun _ _ _ _ => rfl
  have eg : ∀ args w, (callFunc 56 args).run Tryd.prog w = .ok (.enter 56 args) w := enters_of Tryd.func56 (by kernel_rfl) rfl
  have HC := Lib.hid hr0_4
  clear hr0_4
  have HF : ∀ W B, Below w.heap.size w W → B < W.heap.size → W.cell? ⟨B, 0, none⟩ = some (.int .i64 a1) → Hid (Calls Tryd.prog 54 #[.agg #[.int .i64 a0_0, .string a0_1, .string a0_2, .int .i64 a0_3, .slice A0_4 l0_4.length c0_4, .int .i64 a0_5], .func (.func 56) #[] #[.pointer (some ⟨B, 0, none⟩)]] W fun e w' => e = .returned (.tuple #[.agg #[.int .i64 r1, .int .i64 r2], .bool r3]) ∧ Below W.heap.size W w') := by
    intro W B hW hB hcl
    refine Lib.hid ((findM_calls (fun m => m.f0 == a1) 56 #[.pointer (some ⟨B, 0, none⟩)] eg a0_0 a0_1 a0_2 a0_3 A0_4 c0_4 l0_4 a0_5 W (Kd.C_below HC.out hW) hc0_4 hl (pred_On B a1 W hB hcl)).mono ?_)
    rintro e w' ⟨he, hb⟩
    refine ⟨?_, hb⟩
    rw [he]
    cases hq : l0_4.find? (fun m => m.f0 == a1) with
    | none => rw [hq] at h; simp only [Prod.mk.injEq] at h; obtain ⟨rfl, rfl, rfl⟩ := h; rfl
    | some m => rw [hq] at h; simp only [Prod.mk.injEq] at h; obtain ⟨rfl, rfl, rfl⟩ := h; rfl
  clear h eg
  go_enter Tryd.func30, Tryd.ntmps30
  go_wp2_with (first | (go_at_call 54; refine (HF _ (w.heap.size + 1) (pbA (pbA (pbA (Below.refl _ _) _) _) _) (by simp) ((bkC (three_mid _ _ _ _ _ _ _) 0).trans rfl)).out.mono ?_; rintro e w1 ⟨rfl, hb⟩; have BL := three_new hb () (); have f0 := bkF BL 0; have f1 := bkF BL 1; have y0 := (bkC BL 0).trans rfl; have y1 := (bkC BL 1).trans rfl) | fail)
  refine bodyPost_ret (results_ct rfl _ _ (w.heap.size + 2) 60 #[.int .i64 r1, .int .i64 r2] (0, 0) _ rfl (put2 BL) hu2 rfl (by kernel_rfl)) rfl ?_
  exact ⟨rfl, ((pbT (pbA (pbA (pbA (Below.refl _ _) _) _) _) hb).setCell (Nat.le_add_right _ 2) _).setCell (Nat.le_add_right _ 2) _⟩
theorem pred_Has (B : Nat) (n : Int) (w : World) (hB : B < w.heap.size) (hc : w.cell? ⟨B, 0, none⟩ = some (.int .i64 n)) : PredM 55 #[.pointer (some ⟨B, 0, none⟩)] (fun m => m.f1 == n) w := by
  intro W x hb
  have hc : W.cell? ⟨B, 0, none⟩ = some (.int .i64 n) := (hb.cell (p := ⟨B, 0, none⟩) hB).trans hc
  have hBW : B < W.heap.size := Nat.lt_of_lt_of_le hB hb.size
  show Calls Tryd.prog 55 #[.agg #[.int .i64 x.f0, .int .i64 x.f1], .pointer (some ⟨B, 0, none⟩)] W _
  go_enter Tryd.func55, Tryd.ntmps55
  go_wp2
  all_goals go_ret
  all_goals exact ⟨by first | rfl | (simp; done), pbA (Below.refl _ _) _⟩
set_option maxHeartbeats 4000000 in
set_option maxRecDepth 100000 in
theorem desc_Has.calls (a0_0 : Int) (a0_1 : ByteArray) (a0_2 : ByteArray) (a0_3 : Int) (A0_4 : Option Addr) (c0_4 : Nat) (l0_4 : List (S60)) (a0_5 : Int) (a1 : Int) (r1 : Int) (r2 : Int) (r3 : Bool) (w : World) (hG : TheG w) (hr0_4 : Kd.C k60 w A0_4 l0_4.length l0_4) (hc0_4 : l0_4.length ≤ c0_4) (h : desc_Has.f a0_0 a0_1 a0_2 a0_3 l0_4 a0_5 a1 = some (r1, r2, r3)) :
    Calls Tryd.prog 29 #[.agg #[.int .i64 a0_0, .string a0_1, .string a0_2, .int .i64 a0_3, .slice A0_4 l0_4.length c0_4, .int .i64 a0_5], .int .i64 a1] w fun e w' => e = .returned (.tuple #[.agg #[.int .i64 r1, .int .i64 r2], .bool r3]) ∧ Below w.heap.size w w' := by
  unfold desc_Has.f at h
  split at h
  case isFalse => exact absurd h (by simp)
  case isTrue hl =>
  have h := Option.some.inj h
  have hu := Tryd.underlying26
  have hu2 := Tryd.underlying60
  have hmf : ∀ (fn : Fn) (first cap : Array Value) (w : World), (Instr.makeFunc fn first cap).run Tryd.prog w = .ok (.func fn first cap) w := fun _ _ _ _ => rfl
  have eg : ∀ args w, (callFunc 55 args).run Tryd.prog w = .ok (.enter 55 args) w := enters_of Tryd.func55 (by kernel_rfl) rfl
  have HC := Lib.hid hr0_4
  clear hr0_4
  have HF : ∀ W B, Below w.heap.size w W → B < W.heap.size → W.cell? ⟨B, 0, none⟩ = some (.int .i64 a1) → Hid (Calls Tryd.prog 54 #[.agg #[.int .i64 a0_0, .string a0_1, .string a0_2, .int .i64 a0_3, .slice A0_4 l0_4.length c0_4, .int .i64 a0_5], .func (.func 55) #[] #[.pointer (some ⟨B, 0, none⟩)]] W fun e w' => e = .returned (.tuple #[.agg #[.int .i64 r1, .int .i64 r2], .bool r3]) ∧ Below W.heap.size W w') := by
    intro W B hW hB hcl
    refine Lib.hid ((findM_calls (fun m => m.f1 == a1) 55 #[.pointer (some ⟨B, 0, none⟩)] eg a0_0 a0_1 a0_2 a0_3 A0_4 c0_4 l0_4 a0_5 W (Kd.C_below HC.out hW) hc0_4 hl (pred_Has B a1 W hB hcl)).mono ?_)
    rintro e w' ⟨he, hb⟩
    refine ⟨?_, hb⟩
    rw [he]
    cases hq : l0_4.find? (fun m => m.f1 == a1) with
    | none => rw [hq] at h; simp only [Prod.mk.injEq] at h; obtain ⟨rfl, rfl, rfl⟩ := h; rfl
    | some m => rw [hq] at h; simp only [Prod.mk.injEq] at h; obtain ⟨rfl, rfl, rfl⟩ := h; rfl
  clear h eg
  go_enter Tryd.func29, Tryd.ntmps29
  go_wp2_with (first | (go_at_call 54; refine (HF _ (w.heap.size + 1) (pbA (pbA (pbA (Below.refl _ _) _) _) _) (by simp) ((bkC (three_mid _ _ _ _ _ _ _) 0).trans rfl)).out.mono ?_; rintro e w1 ⟨rfl, hb⟩; have BL := three_new hb () (); have f0 := bkF BL 0; have f1 := bkF BL 1; have y0 := (bkC BL 0).trans rfl; have y1 := (bkC BL 1).trans rfl) | fail)
  refine bodyPost_ret (results_ct rfl _ _ (w.heap.size + 2) 60 #[.int .i64 r1, .int .i64 r2] (0, 0) _ rfl (put2 BL) hu2 rfl (by kernel_rfl)) rfl ?_
  exact ⟨rfl, ((pbT (pbA (pbA (pbA (Below.refl _ _) _) _) _) hb).setCell (Nat.le_add_right _ 2) _).setCell (Nat.le_add_right _ 2) _⟩
end Go.Proofs.YtjfhcijjjadhbaaDoor.P
end
section
-- Written by a program of this session (wip/tools/pr.py), over the kit's printer; functions named in the texts imported below are given by hand.
namespace Go.Proofs.YtjfhcijjjadhbaaDoor.P
open Go.RowKit Go.Proofs.YtjfhcijjjadhbaaDoor.K Go.Proofs.YtjfhcijjjadhbaaDoorW.PrintWords Go.Proofs.YtjfhcijjjadhbaaDoorW.PrintLast Go.Proofs.YtjfhcijjjadhbaaDoorW.PrintMore
attribute [local go_sem] max2_int min2_int max_two min_two max_three min_three max_four min_four   -- for this text's walks alone
/-! ### desc_Add: function 25 -/
def desc_Add.f (a0_0 : Int) (a0_1 : ByteArray) (a0_2 : ByteArray) (a0_3 : Int) (l0_4 : List (S60)) (a0_5 : Int) (a1 : Int) : Option (Int × ByteArray × ByteArray × Int × (List (S60)) × Int × Int) := (desc_On.f a0_0 a0_1 a0_2 a0_3 l0_4 a0_5 a1).bind fun bt235 => ((desc_Check.f a0_0 a0_1 a0_2 a0_3 l0_4 a0_5).bind fun t239 => (if t239 = 0 then ((desc_isNode.f a1).bind fun t240 => (if t240 = true then (if bt235.2.2 = true then (some (0, (⟨#[]⟩ : ByteArray), (⟨#[]⟩ : ByteArray), 0, ([] : List (S60)), 0, 8)) else (if (l0_4.length : Int) ≥ 5 then (some (0, (⟨#[]⟩ : ByteArray), (⟨#[]⟩ : ByteArray), 0, ([] : List (S60)), 0, 6)) else ((api_Member_33.f l0_4).bind fun t241 => ((some (([(⟨a1, a0_5⟩ : S60)] : List (S60)) : List (S60))).bind fun y244 => (if t241.length + y244.length < 8796093022208 then ((desc_right.f a0_0 a0_1 a0_2 (wrap64 (a0_3 + 1)) (t241 ++ y244) (wrap64 (a0_5 + 1))).bind fun bt250 => (some (bt250.1, bt250.2.1, bt250.2.2.1, bt250.2.2.2.1, bt250.2.2.2.2.1, bt250.2.2.2.2.2.1, bt250.2.2.2.2.2.2))) else (none)))))) else (some (0, (⟨#[]⟩ : ByteArray), (⟨#[]⟩ : ByteArray), 0, ([] : List (S60)), 0, 2)))) else (some (0, (⟨#[]⟩ : ByteArray), (⟨#[]⟩ : ByteArray), 0, ([] : List (S60)), 0, 60))))
def desc_Add.T10 : Bool × List (List Nat × List Nat) := (true, [([], []), ([0], [0]), ([1], [1]), ([], []), ([], []), ([4], [4]), ([3, 5], [3, 5]), ([6], [6]), ([2, 7, 2], [2, 7]), ([0, 1, 2, 3, 4, 5, 6, 7, 8], []), ([9, 8, 8, 0, 1, 2, 3, 4, 5, 6, 7, 8], [8, 9])])
def desc_Add.B10 : List Nat := [0, 1, 3, 0, 0, 16, 56, 120, 255, 511, 1023]
theorem desc_Add.tab10 : rtab .any (opsOf Tryd.f25 10) = desc_Add.T10 := by kernel_rfl
theorem desc_Add.bits10 : waitsOk desc_Add.T10.2 desc_Add.B10 = true := by kernel_rfl
set_option maxHeartbeats 8000000 in
set_option maxRecDepth 100000 in
theorem desc_Add.calls (a0_0 : Int) (a0_1 : ByteArray) (a0_2 : ByteArray) (a0_3 : Int) (A0_4 : Option Addr) (c0_4 : Nat) (l0_4 : List (S60)) (a0_5 : Int) (a1 : Int) (r1 : Int) (r2 : ByteArray) (r3 : ByteArray) (r4 : Int) (r5 : List (S60)) (r6 : Int) (r7 : Int) (w : World) (hG : TheG w) (hr0_4 : Kd.C k60 w A0_4 l0_4.length l0_4) (hc0_4 : l0_4.length ≤ c0_4) (h : desc_Add.f a0_0 a0_1 a0_2 a0_3 l0_4 a0_5 a1 = some (r1, r2, r3, r4, r5, r6, r7)) :
    Calls Tryd.prog 25 #[.agg #[.int .i64 a0_0, .string a0_1, .string a0_2, .int .i64 a0_3, .slice A0_4 l0_4.length c0_4, .int .i64 a0_5], .int .i64 a1] w fun e w' => ∃ v4_ : Value, e = .returned (.tuple #[.agg #[.int .i64 r1, .string r2, .string r3, .int .i64 r4, v4_, .int .i64 r6], .int .i64 r7]) ∧ Kd.V k60 60 w' w.heap.size (fun k_ => (w.heap.size ≤ k_)) v4_ r5 ∧ Below w.heap.size w w' := by
  have hu26 := Tryd.underlying26
  have hu60 := Tryd.underlying60
  have HR0_4 := Az.mk hr0_4
  have HC0_4 := Az.mk hc0_4
  clear hr0_4 hc0_4
  have HB := Az.mk (Below.refl w.heap.size w)
  have H : ((desc_On.f a0_0 a0_1 a0_2 a0_3 l0_4 a0_5 a1).bind fun bt235 => ((desc_Check.f a0_0 a0_1 a0_2 a0_3 l0_4 a0_5).bind fun t239 => (if t239 = 0 then ((desc_isNode.f a1).bind fun t240 => (if t240 = true then (if bt235.2.2 = true then (some (0, (⟨#[]⟩ : ByteArray), (⟨#[]⟩ : ByteArray), 0, ([] : List (S60)), 0, 8)) else (if (l0_4.length : Int) ≥ 5 then (some (0, (⟨#[]⟩ : ByteArray), (⟨#[]⟩ : ByteArray), 0, ([] : List (S60)), 0, 6)) else ((api_Member_33.f l0_4).bind fun t241 => ((some (([(⟨a1, a0_5⟩ : S60)] : List (S60)) : List (S60))).bind fun y244 => (if t241.length + y244.length < 8796093022208 then ((desc_right.f a0_0 a0_1 a0_2 (wrap64 (a0_3 + 1)) (t241 ++ y244) (wrap64 (a0_5 + 1))).bind fun bt250 => (some (bt250.1, bt250.2.1, bt250.2.2.1, bt250.2.2.2.1, bt250.2.2.2.2.1, bt250.2.2.2.2.2.1, bt250.2.2.2.2.2.2))) else (none)))))) else (some (0, (⟨#[]⟩ : ByteArray), (⟨#[]⟩ : ByteArray), 0, ([] : List (S60)), 0, 2)))) else (some (0, (⟨#[]⟩ : ByteArray), (⟨#[]⟩ : ByteArray), 0, ([] : List (S60)), 0, 60))))) = some (r1, r2, r3, r4, r5, r6, r7) := h
  clear h
  replace H := Option.bind_eq_some_iff.mp H
  obtain ⟨⟨t235, t236, t237⟩, A30, H⟩ := H
  replace H : ((desc_Check.f a0_0 a0_1 a0_2 a0_3 l0_4 a0_5).bind fun t239 => (if t239 = 0 then ((desc_isNode.f a1).bind fun t240 => (if t240 = true then (if t237 = true then (some (0, (⟨#[]⟩ : ByteArray), (⟨#[]⟩ : ByteArray), 0, ([] : List (S60)), 0, 8)) else (if (l0_4.length : Int) ≥ 5 then (some (0, (⟨#[]⟩ : ByteArray), (⟨#[]⟩ : ByteArray), 0, ([] : List (S60)), 0, 6)) else ((api_Member_33.f l0_4).bind fun t241 => ((some (([(⟨a1, a0_5⟩ : S60)] : List (S60)) : List (S60))).bind fun y244 => (if t241.length + y244.length < 8796093022208 then ((desc_right.f a0_0 a0_1 a0_2 (wrap64 (a0_3 + 1)) (t241 ++ y244) (wrap64 (a0_5 + 1))).bind fun bt250 => (some (bt250.1, bt250.2.1, bt250.2.2.1, bt250.2.2.2.1, bt250.2.2.2.2.1, bt250.2.2.2.2.2.1, bt250.2.2.2.2.2.2))) else (none)))))) else (some (0, (⟨#[]⟩ : ByteArray), (⟨#[]⟩ : ByteArray), 0, ([] : List (S60)), 0, 2)))) else (some (0, (⟨#[]⟩ : ByteArray), (⟨#[]⟩ : ByteArray), 0, ([] : List (S60)), 0, 60)))) = some (r1, r2, r3, r4, r5, r6, r7) := H
  have A3 := Az.mk A30
  clear A30
  replace H := Option.bind_eq_some_iff.mp H
  obtain ⟨t239, A40, H⟩ := H
  replace H : (if t239 = 0 then ((desc_isNode.f a1).bind fun t240 => (if t240 = true then (if t237 = true then (some (0, (⟨#[]⟩ : ByteArray), (⟨#[]⟩ : ByteArray), 0, ([] : List (S60)), 0, 8)) else (if (l0_4.length : Int) ≥ 5 then (some (0, (⟨#[]⟩ : ByteArray), (⟨#[]⟩ : ByteArray), 0, ([] : List (S60)), 0, 6)) else ((api_Member_33.f l0_4).bind fun t241 => ((some (([(⟨a1, a0_5⟩ : S60)] : List (S60)) : List (S60))).bind fun y244 => (if t241.length + y244.length < 8796093022208 then ((desc_right.f a0_0 a0_1 a0_2 (wrap64 (a0_3 + 1)) (t241 ++ y244) (wrap64 (a0_5 + 1))).bind fun bt250 => (some (bt250.1, bt250.2.1, bt250.2.2.1, bt250.2.2.2.1, bt250.2.2.2.2.1, bt250.2.2.2.2.2.1, bt250.2.2.2.2.2.2))) else (none)))))) else (some (0, (⟨#[]⟩ : ByteArray), (⟨#[]⟩ : ByteArray), 0, ([] : List (S60)), 0, 2)))) else (some (0, (⟨#[]⟩ : ByteArray), (⟨#[]⟩ : ByteArray), 0, ([] : List (S60)), 0, 60))) = some (r1, r2, r3, r4, r5, r6, r7) := H
  have A4 := Az.mk A40
  clear A40
  by_cases c5 : t239 = 0
  · rw [if_pos c5] at H
    have c5b0 : (t239 == 0) = true := beq_iff_eq.mpr c5
    have c5b1 : (t239 != 0) = false := bne_eq_false_iff_eq.mpr c5
    clear c5
    replace H := Option.bind_eq_some_iff.mp H
    obtain ⟨t240, A60, H⟩ := H
    replace H : (if t240 = true then (if t237 = true then (some (0, (⟨#[]⟩ : ByteArray), (⟨#[]⟩ : ByteArray), 0, ([] : List (S60)), 0, 8)) else (if (l0_4.length : Int) ≥ 5 then (some (0, (⟨#[]⟩ : ByteArray), (⟨#[]⟩ : ByteArray), 0, ([] : List (S60)), 0, 6)) else ((api_Member_33.f l0_4).bind fun t241 => ((some (([(⟨a1, a0_5⟩ : S60)] : List (S60)) : List (S60))).bind fun y244 => (if t241.length + y244.length < 8796093022208 then ((desc_right.f a0_0 a0_1 a0_2 (wrap64 (a0_3 + 1)) (t241 ++ y244) (wrap64 (a0_5 + 1))).bind fun bt250 => (some (bt250.1, bt250.2.1, bt250.2.2.1, bt250.2.2.2.1, bt250.2.2.2.2.1, bt250.2.2.2.2.2.1, bt250.2.2.2.2.2.2))) else (none)))))) else (some (0, (⟨#[]⟩ : ByteArray), (⟨#[]⟩ : ByteArray), 0, ([] : List (S60)), 0, 2))) = some (r1, r2, r3, r4, r5, r6, r7) := H
    have A6 := Az.mk A60
    clear A60
    by_cases c7 : t240 = true
    · subst c7
      have H1 : (if t237 = true then (some (0, (⟨#[]⟩ : ByteArray), (⟨#[]⟩ : ByteArray), 0, ([] : List (S60)), 0, 8)) else (if (l0_4.length : Int) ≥ 5 then (some (0, (⟨#[]⟩ : ByteArray), (⟨#[]⟩ : ByteArray), 0, ([] : List (S60)), 0, 6)) else ((api_Member_33.f l0_4).bind fun t241 => ((some (([(⟨a1, a0_5⟩ : S60)] : List (S60)) : List (S60))).bind fun y244 => (if t241.length + y244.length < 8796093022208 then ((desc_right.f a0_0 a0_1 a0_2 (wrap64 (a0_3 + 1)) (t241 ++ y244) (wrap64 (a0_5 + 1))).bind fun bt250 => (some (bt250.1, bt250.2.1, bt250.2.2.1, bt250.2.2.2.1, bt250.2.2.2.2.1, bt250.2.2.2.2.2.1, bt250.2.2.2.2.2.2))) else (none)))))) = some (r1, r2, r3, r4, r5, r6, r7) := by rw [if_pos rfl] at H; exact H
      clear H
      have H := H1
      clear H1
      by_cases c8 : t237 = true
      · subst c8
        have H1 : (some (0, (⟨#[]⟩ : ByteArray), (⟨#[]⟩ : ByteArray), 0, ([] : List (S60)), 0, 8)) = some (r1, r2, r3, r4, r5, r6, r7) := by rw [if_pos rfl] at H; exact H
        clear H
        have H := H1
        clear H1
        simp only [Option.some.injEq, Prod.mk.injEq] at H
        obtain ⟨rfl, rfl, rfl, rfl, rfl, rfl, rfl⟩ := H
        go_enter Tryd.func25, Tryd.ntmps25
        go_wp2_with (first | ((with_reducible refine gate_dst (N := 2) rfl ?_); refine box_event ?hg (N := 2) ?hd (cs := #[.int .i64 a0_0, .string a0_1, .string a0_2, .int .i64 a0_3, .slice A0_4 l0_4.length c0_4, .int .i64 a0_5]) (t := 26) ?hr ?_; (case hd => rfl); (case hg => rfl); (case hr => first | (go_simp; done) | (go_simp; rfl)); intro gb233 hg w9 hbox hb; have n0_ := Az.mk (pbT (by repeat (first | (with_reducible first | exact HB.out | apply pbA | apply pbN | apply pb1) | exact HB.out)) hb); have n1_ := Az.mk (hbox); have n2_ := Az.mk ((by rw [hg]; exact (pbZ (by repeat (first | (with_reducible first | exact HB.out | apply pbA | apply pbN | apply pb1) | exact HB.out))) : w.heap.size ≤ gb233)); have n3_ := Az.mk ((by rw [hg]; exact (pbZ (by repeat (first | (with_reducible first | exact HB.out | apply pbA | apply pbN | apply pb1) | exact HB.out))) : w.heap.size ≤ gb233)); clear HB; have HB := n0_; have BK233 := n1_; have GW233 := n2_; have GE233 := n3_; clear n0_ n1_ n2_ n3_; clear hb hbox hg) | ((with_reducible refine gate_dst (N := 4) rfl ?_); refine box_event ?hg (N := 4) ?hd (cs := #[.int .i64 0, .string (⟨#[]⟩ : ByteArray), .string (⟨#[]⟩ : ByteArray), .int .i64 0, .slice none 0 0, .int .i64 0]) (t := 26) ?hr ?_; (case hd => rfl); (case hg => rfl); (case hr => first | (go_simp; done) | (go_simp; rfl)); intro gb234 hg w10 hbox hb; have n0_ := Az.mk (bkB (g := gb233) (o := .cells #[.int .i64 a0_0, .string a0_1, .string a0_2, .int .i64 a0_3, .slice A0_4 l0_4.length c0_4, .int .i64 a0_5] 26 (0, 0)) (by (with_reducible repeat (first | refine bkN ?_ _ | refine bkD ?_ | refine bkA ?_ _)); exact BK233.out) hb); have n1_ := Az.mk (pbT (by repeat (first | (with_reducible first | exact HB.out | apply pbA | apply pbN | apply pb1 | refine pbS ?_ GE233.out) | exact HB.out)) hb); have n2_ := Az.mk (hbox); have n3_ := Az.mk ((by rw [hg]; exact (pbZ (by repeat (first | (with_reducible first | exact HB.out | apply pbA | apply pbN | apply pb1 | refine pbS ?_ GE233.out) | exact HB.out))) : w.heap.size ≤ gb234)); have n4_ := Az.mk ((by rw [hg]; exact (pbZ (by repeat (first | (with_reducible first | exact HB.out | apply pbA | apply pbN | apply pb1 | refine pbS ?_ GE233.out) | exact HB.out))) : w.heap.size ≤ gb234)); have n5_ := Az.mk ((by rw [hg]; exact Nat.ne_of_lt (blk_lt (g := gb233) (o := .cells #[.int .i64 a0_0, .string a0_1, .string a0_2, .int .i64 a0_3, .slice A0_4 l0_4.length c0_4, .int .i64 a0_5] 26 (0, 0)) (by (with_reducible repeat (first | refine bkN ?_ _ | refine bkD ?_ | refine bkA ?_ _)); exact BK233.out)) : gb233 ≠ gb234)); have n6_ := Az.mk ((by rw [hg]; exact Nat.ne_of_gt (blk_lt (g := gb233) (o := .cells #[.int .i64 a0_0, .string a0_1, .string a0_2, .int .i64 a0_3, .slice A0_4 l0_4.length c0_4, .int .i64 a0_5] 26 (0, 0)) (by (with_reducible repeat (first | refine bkN ?_ _ | refine bkD ?_ | refine bkA ?_ _)); exact BK233.out)) : gb234 ≠ gb233)); clear BK233; clear HB; have BK233 := n0_; have HB := n1_; have BK234 := n2_; have GW234 := n3_; have GE234 := n4_; have NB233_234 := n5_; have NB234_233 := n6_; clear n0_ n1_ n2_ n3_ n4_ n5_ n6_; clear hb hbox hg; have hnb11 := NB233_234.out; have hnc11 := NB234_233.out; have hcz12_0 : w10.cell? ⟨gb233, 0, none⟩ = some (.int .i64 a0_0) := (bkC BK233.out 0).trans rfl; have hcz12_1 : w10.cell? ⟨gb233, 1, none⟩ = some (.string a0_1) := (bkC BK233.out 1).trans rfl; have hcz12_2 : w10.cell? ⟨gb233, 2, none⟩ = some (.string a0_2) := (bkC BK233.out 2).trans rfl; have hcz12_3 : w10.cell? ⟨gb233, 3, none⟩ = some (.int .i64 a0_3) := (bkC BK233.out 3).trans rfl; have hcz12_4 : w10.cell? ⟨gb233, 4, none⟩ = some (.slice A0_4 l0_4.length c0_4) := (bkC BK233.out 4).trans rfl; have hcz12_5 : w10.cell? ⟨gb233, 5, none⟩ = some (.int .i64 a0_5) := (bkC BK233.out 5).trans rfl; have hfz12_0 := bkF BK233.out 0; have hfz12_1 := bkF BK233.out 1; have hfz12_2 := bkF BK233.out 2; have hfz12_3 := bkF BK233.out 3; have hfz12_4 := bkF BK233.out 4; have hfz12_5 := bkF BK233.out 5) | ((with_reducible refine gtc (f := 30) rfl ?_); refine goesL_ (some 11) rfl rfl Tryd.func30 (by kernel_rfl) rfl #[.agg #[.int .i64 a0_0, .string a0_1, .string a0_2, .int .i64 a0_3, .slice A0_4 l0_4.length c0_4, .int .i64 a0_5], .int .i64 a1] rfl (by (try simp only [List.map_toArray, List.map_cons, List.map_nil]); first | done | rfl | (simp only [List.length_drop, List.length_take]; rfl)) ?_; (with_reducible refine (desc_On.calls a0_0 a0_1 a0_2 a0_3 _ _ l0_4 a0_5 a1 t235 t236 true _ ?side1 ?side2 ?side3 A3.out).mono ?_); (case side1 => exact hG.below (by repeat (first | (with_reducible first | exact HB.out | apply pbA | apply pbN | apply pb1 | refine pbS ?_ GE233.out | refine pbS ?_ GE234.out) | exact HB.out))); (case side2 => repeat (first | exact (Kd.C_below HR0_4.out HB.out) | (with_reducible refine Kd.C_alloc ?_ _) | (with_reducible refine Kd.C_drewN ?_ _) | (with_reducible refine Kd.C_drew ?_))); (case side3 => exact HC0_4.out); rintro e w13 ⟨rfl, hb⟩; refine ⟨_, rfl, ?_⟩; have n0_ := Az.mk (bkB (g := gb233) (o := .cells #[.int .i64 a0_0, .string a0_1, .string a0_2, .int .i64 a0_3, .slice A0_4 l0_4.length c0_4, .int .i64 a0_5] 26 (0, 0)) (by (with_reducible repeat (first | refine bkN ?_ _ | refine bkD ?_ | refine bkA ?_ _)); exact BK233.out) hb); have n1_ := Az.mk (bkB (g := gb234) (o := .cells #[.int .i64 0, .string (⟨#[]⟩ : ByteArray), .string (⟨#[]⟩ : ByteArray), .int .i64 0, .slice none 0 0, .int .i64 0] 26 (0, 0)) (by (with_reducible repeat (first | refine bkN ?_ _ | refine bkD ?_ | refine bkA ?_ _)); exact BK234.out) hb); have n2_ := Az.mk (pbT (by repeat (first | (with_reducible first | exact HB.out | apply pbA | apply pbN | apply pb1 | refine pbS ?_ GE233.out | refine pbS ?_ GE234.out) | exact HB.out)) hb); clear BK233; clear BK234; clear HB; have BK233 := n0_; have BK234 := n1_; have HB := n2_; clear n0_ n1_ n2_; (try clear hb); (try clear hb2); (try clear hk); (try clear hi)) | ((with_reducible refine gate_dst (N := 6) rfl ?_); refine box_event ?hg (N := 6) ?hd (cs := #[.int .i64 0, .int .i64 0]) (t := 60) ?hr ?_; (case hd => rfl); (case hg => rfl); (case hr => first | (go_simp; done) | (go_simp; rfl)); intro gb238 hg w14 hbox hb; have n0_ := Az.mk (bkB (g := gb233) (o := .cells #[.int .i64 a0_0, .string a0_1, .string a0_2, .int .i64 a0_3, .slice A0_4 l0_4.length c0_4, .int .i64 a0_5] 26 (0, 0)) (by (with_reducible repeat (first | refine bkN ?_ _ | refine bkD ?_ | refine bkA ?_ _)); exact BK233.out) hb); have n1_ := Az.mk (bkB (g := gb234) (o := .cells #[.int .i64 0, .string (⟨#[]⟩ : ByteArray), .string (⟨#[]⟩ : ByteArray), .int .i64 0, .slice none 0 0, .int .i64 0] 26 (0, 0)) (by (with_reducible repeat (first | refine bkN ?_ _ | refine bkD ?_ | refine bkA ?_ _)); exact BK234.out) hb); have n2_ := Az.mk (pbT (by repeat (first | (with_reducible first | exact HB.out | apply pbA | apply pbN | apply pb1 | refine pbS ?_ GE233.out | refine pbS ?_ GE234.out) | exact HB.out)) hb); have n3_ := Az.mk (hbox); have n4_ := Az.mk ((by rw [hg]; exact (pbZ (by repeat (first | (with_reducible first | exact HB.out | apply pbA | apply pbN | apply pb1 | refine pbS ?_ GE233.out | refine pbS ?_ GE234.out) | exact HB.out))) : w.heap.size ≤ gb238)); have n5_ := Az.mk ((by rw [hg]; exact (pbZ (by repeat (first | (with_reducible first | exact HB.out | apply pbA | apply pbN | apply pb1 | refine pbS ?_ GE233.out | refine pbS ?_ GE234.out) | exact HB.out))) : w.heap.size ≤ gb238)); have n6_ := Az.mk ((by rw [hg]; exact Nat.ne_of_lt (blk_lt (g := gb233) (o := .cells #[.int .i64 a0_0, .string a0_1, .string a0_2, .int .i64 a0_3, .slice A0_4 l0_4.length c0_4, .int .i64 a0_5] 26 (0, 0)) (by (with_reducible repeat (first | refine bkN ?_ _ | refine bkD ?_ | refine bkA ?_ _)); exact BK233.out)) : gb233 ≠ gb238)); have n7_ := Az.mk ((by rw [hg]; exact Nat.ne_of_gt (blk_lt (g := gb233) (o := .cells #[.int .i64 a0_0, .string a0_1, .string a0_2, .int .i64 a0_3, .slice A0_4 l0_4.length c0_4, .int .i64 a0_5] 26 (0, 0)) (by (with_reducible repeat (first | refine bkN ?_ _ | refine bkD ?_ | refine bkA ?_ _)); exact BK233.out)) : gb238 ≠ gb233)); have n8_ := Az.mk ((by rw [hg]; exact Nat.ne_of_lt (blk_lt (g := gb234) (o := .cells #[.int .i64 0, .string (⟨#[]⟩ : ByteArray), .string (⟨#[]⟩ : ByteArray), .int .i64 0, .slice none 0 0, .int .i64 0] 26 (0, 0)) (by (with_reducible repeat (first | refine bkN ?_ _ | refine bkD ?_ | refine bkA ?_ _)); exact BK234.out)) : gb234 ≠ gb238)); have n9_ := Az.mk ((by rw [hg]; exact Nat.ne_of_gt (blk_lt (g := gb234) (o := .cells #[.int .i64 0, .string (⟨#[]⟩ : ByteArray), .string (⟨#[]⟩ : ByteArray), .int .i64 0, .slice none 0 0, .int .i64 0] 26 (0, 0)) (by (with_reducible repeat (first | refine bkN ?_ _ | refine bkD ?_ | refine bkA ?_ _)); exact BK234.out)) : gb238 ≠ gb234)); clear BK233; clear BK234; clear HB; have BK233 := n0_; have BK234 := n1_; have HB := n2_; have BK238 := n3_; have GW238 := n4_; have GE238 := n5_; have NB233_238 := n6_; have NB238_233 := n7_; have NB234_238 := n8_; have NB238_234 := n9_; clear n0_ n1_ n2_ n3_ n4_ n5_ n6_ n7_ n8_ n9_; clear hb hbox hg; have hnb15 := NB238_233.out; have hnc15 := NB233_238.out; have hnb16 := NB238_234.out; have hnc16 := NB234_238.out; have hcz17_0 : w14.cell? ⟨gb238, 0, none⟩ = some (.int .i64 0) := (bkC BK238.out 0).trans rfl; have hcz17_1 : w14.cell? ⟨gb238, 1, none⟩ = some (.int .i64 0) := (bkC BK238.out 1).trans rfl; have hfz17_0 := bkF BK238.out 0; have hfz17_1 := bkF BK238.out 1; have hcz18_0 : w14.cell? ⟨gb233, 0, none⟩ = some (.int .i64 a0_0) := (bkC BK233.out 0).trans rfl; have hcz18_1 : w14.cell? ⟨gb233, 1, none⟩ = some (.string a0_1) := (bkC BK233.out 1).trans rfl; have hcz18_2 : w14.cell? ⟨gb233, 2, none⟩ = some (.string a0_2) := (bkC BK233.out 2).trans rfl; have hcz18_3 : w14.cell? ⟨gb233, 3, none⟩ = some (.int .i64 a0_3) := (bkC BK233.out 3).trans rfl; have hcz18_4 : w14.cell? ⟨gb233, 4, none⟩ = some (.slice A0_4 l0_4.length c0_4) := (bkC BK233.out 4).trans rfl; have hcz18_5 : w14.cell? ⟨gb233, 5, none⟩ = some (.int .i64 a0_5) := (bkC BK233.out 5).trans rfl; have hfz18_0 := bkF BK233.out 0; have hfz18_1 := bkF BK233.out 1; have hfz18_2 := bkF BK233.out 2; have hfz18_3 := bkF BK233.out 3; have hfz18_4 := bkF BK233.out 4; have hfz18_5 := bkF BK233.out 5) | ((with_reducible refine gtc (f := 22) rfl ?_); refine goesL_ (some 16) rfl rfl Tryd.func22 (by kernel_rfl) rfl #[.agg #[.int .i64 a0_0, .string a0_1, .string a0_2, .int .i64 a0_3, .slice A0_4 l0_4.length c0_4, .int .i64 a0_5]] rfl (by (try simp only [List.map_toArray, List.map_cons, List.map_nil]); first | done | rfl | (simp only [List.length_drop, List.length_take]; rfl)) ?_; (with_reducible refine (desc_Check.calls a0_0 a0_1 a0_2 a0_3 _ _ l0_4 a0_5 t239 _ ?side1 ?side2 ?side3 A4.out).mono ?_); (case side1 => exact hG.below (by repeat (first | (with_reducible first | exact HB.out | apply pbA | apply pbN | apply pb1 | refine pbS ?_ GE233.out | refine pbS ?_ GE234.out | refine pbS ?_ GE238.out) | exact HB.out))); (case side2 => exact Kd.C_below HR0_4.out (by repeat (first | (with_reducible first | exact HB.out | apply pbA | apply pbN | apply pb1 | refine pbS ?_ GE233.out | refine pbS ?_ GE234.out | refine pbS ?_ GE238.out) | exact HB.out))); (case side3 => exact HC0_4.out); rintro e w19 ⟨rfl, hb⟩; refine ⟨_, rfl, ?_⟩; have n0_ := Az.mk (bkB (g := gb233) (o := .cells #[.int .i64 a0_0, .string a0_1, .string a0_2, .int .i64 a0_3, .slice A0_4 l0_4.length c0_4, .int .i64 a0_5] 26 (0, 0)) (by (with_reducible repeat (first | refine bkN ?_ _ | refine bkD ?_ | refine bkA ?_ _)); refine blk_far ?_ NB233_238.out _; (with_reducible repeat (first | refine bkN ?_ _ | refine bkD ?_ | refine bkA ?_ _)); refine blk_far ?_ NB233_238.out _; (with_reducible repeat (first | refine bkN ?_ _ | refine bkD ?_ | refine bkA ?_ _)); exact BK233.out) hb); have n1_ := Az.mk (bkB (g := gb234) (o := .cells #[.int .i64 0, .string (⟨#[]⟩ : ByteArray), .string (⟨#[]⟩ : ByteArray), .int .i64 0, .slice none 0 0, .int .i64 0] 26 (0, 0)) (by (with_reducible repeat (first | refine bkN ?_ _ | refine bkD ?_ | refine bkA ?_ _)); refine blk_far ?_ NB234_238.out _; (with_reducible repeat (first | refine bkN ?_ _ | refine bkD ?_ | refine bkA ?_ _)); refine blk_far ?_ NB234_238.out _; (with_reducible repeat (first | refine bkN ?_ _ | refine bkD ?_ | refine bkA ?_ _)); exact BK234.out) hb); have n2_ := Az.mk (bkB (g := gb238) (o := .cells #[.int .i64 t235, .int .i64 t236] 60 (0, 0)) (by (with_reducible repeat (first | refine bkN ?_ _ | refine bkD ?_ | refine bkA ?_ _)); refine blk_put (cs := #[.int .i64 t235, .int .i64 0]) ?_ 1 _ rfl; (with_reducible repeat (first | refine bkN ?_ _ | refine bkD ?_ | refine bkA ?_ _)); refine blk_put (cs := #[.int .i64 0, .int .i64 0]) ?_ 0 _ rfl; (with_reducible repeat (first | refine bkN ?_ _ | refine bkD ?_ | refine bkA ?_ _)); exact BK238.out) hb); have n3_ := Az.mk (pbT (by repeat (first | (with_reducible first | exact HB.out | apply pbA | apply pbN | apply pb1 | refine pbS ?_ GE233.out | refine pbS ?_ GE234.out | refine pbS ?_ GE238.out) | exact HB.out)) hb); clear BK233; clear BK234; clear BK238; clear HB; have BK233 := n0_; have BK234 := n1_; have BK238 := n2_; have HB := n3_; clear n0_ n1_ n2_ n3_; (try clear hb); (try clear hb2); (try clear hk); (try clear hi)) | ((with_reducible refine gtc (f := 49) rfl ?_); refine goesL_ (some 21) rfl rfl Tryd.func49 (by kernel_rfl) rfl #[.int .i64 a1] rfl (by (try simp only [List.map_toArray, List.map_cons, List.map_nil]); first | done | rfl | (simp only [List.length_drop, List.length_take]; rfl)) ?_; (with_reducible refine (desc_isNode.calls a1 true _ ?side1 A6.out).mono ?_); (case side1 => exact hG.below (by repeat (first | (with_reducible first | exact HB.out | apply pbA | apply pbN | apply pb1 | refine pbS ?_ GE233.out | refine pbS ?_ GE234.out | refine pbS ?_ GE238.out) | exact HB.out))); rintro e w' ⟨rfl, ⟨nd, rfl⟩⟩; refine ⟨_, rfl, ?_⟩; (try (rw [drewN_self w19]; generalize hq_ : World.drewN w19 _ = w19; have n0_ : Az (w19.heap[gb233]? = some (.cells #[.int .i64 a0_0, .string a0_1, .string a0_2, .int .i64 a0_3, .slice A0_4 l0_4.length c0_4, .int .i64 a0_5] 26 (0, 0))) := ⟨by rw [← hq_]; exact (by (with_reducible repeat (first | refine bkN ?_ _ | refine bkD ?_ | refine bkA ?_ _)); exact BK233.out)⟩; have n1_ : Az (w19.heap[gb234]? = some (.cells #[.int .i64 0, .string (⟨#[]⟩ : ByteArray), .string (⟨#[]⟩ : ByteArray), .int .i64 0, .slice none 0 0, .int .i64 0] 26 (0, 0))) := ⟨by rw [← hq_]; exact (by (with_reducible repeat (first | refine bkN ?_ _ | refine bkD ?_ | refine bkA ?_ _)); exact BK234.out)⟩; have n2_ : Az (w19.heap[gb238]? = some (.cells #[.int .i64 t235, .int .i64 t236] 60 (0, 0))) := ⟨by rw [← hq_]; exact (by (with_reducible repeat (first | refine bkN ?_ _ | refine bkD ?_ | refine bkA ?_ _)); exact BK238.out)⟩; have n3_ : Az (Below w.heap.size w w19) := ⟨by rw [← hq_]; exact (by repeat (first | (with_reducible first | exact HB.out | apply pbA | apply pbN | apply pb1 | refine pbS ?_ GE233.out | refine pbS ?_ GE234.out | refine pbS ?_ GE238.out) | exact HB.out))⟩; clear BK233 BK234 BK238 HB hq_; have BK233 := n0_; have BK234 := n1_; have BK238 := n2_; have HB := n3_; clear n0_ n1_ n2_ n3_)); have hcz20_0 : w19.cell? ⟨gb234, 0, none⟩ = some (.int .i64 0) := (bkC BK234.out 0).trans rfl; have hcz20_1 : w19.cell? ⟨gb234, 1, none⟩ = some (.string (⟨#[]⟩ : ByteArray)) := (bkC BK234.out 1).trans rfl; have hcz20_2 : w19.cell? ⟨gb234, 2, none⟩ = some (.string (⟨#[]⟩ : ByteArray)) := (bkC BK234.out 2).trans rfl; have hcz20_3 : w19.cell? ⟨gb234, 3, none⟩ = some (.int .i64 0) := (bkC BK234.out 3).trans rfl; have hcz20_4 : w19.cell? ⟨gb234, 4, none⟩ = some (.slice none 0 0) := (bkC BK234.out 4).trans rfl; have hcz20_5 : w19.cell? ⟨gb234, 5, none⟩ = some (.int .i64 0) := (bkC BK234.out 5).trans rfl; have hfz20_0 := bkF BK234.out 0; have hfz20_1 := bkF BK234.out 1; have hfz20_2 := bkF BK234.out 2; have hfz20_3 := bkF BK234.out 3; have hfz20_4 := bkF BK234.out 4; have hfz20_5 := bkF BK234.out 5))
        refine bodyPost_ret (results_ct rfl _ _ gb234 26 #[.int .i64 0, .string (⟨#[]⟩ : ByteArray), .string (⟨#[]⟩ : ByteArray), .int .i64 0, .slice none 0 0, .int .i64 0] (0, 0) _ rfl (by (with_reducible repeat (first | refine bkN ?_ _ | refine bkD ?_ | refine bkA ?_ _)); refine blk_put (cs := #[.int .i64 0, .string (⟨#[]⟩ : ByteArray), .string (⟨#[]⟩ : ByteArray), .int .i64 0, .slice none 0 0, .int .i64 0]) ?_ 5 _ rfl; (with_reducible repeat (first | refine bkN ?_ _ | refine bkD ?_ | refine bkA ?_ _)); refine blk_put (cs := #[.int .i64 0, .string (⟨#[]⟩ : ByteArray), .string (⟨#[]⟩ : ByteArray), .int .i64 0, .slice none 0 0, .int .i64 0]) ?_ 4 _ rfl; (with_reducible repeat (first | refine bkN ?_ _ | refine bkD ?_ | refine bkA ?_ _)); refine blk_put (cs := #[.int .i64 0, .string (⟨#[]⟩ : ByteArray), .string (⟨#[]⟩ : ByteArray), .int .i64 0, .slice none 0 0, .int .i64 0]) ?_ 3 _ rfl; (with_reducible repeat (first | refine bkN ?_ _ | refine bkD ?_ | refine bkA ?_ _)); refine blk_put (cs := #[.int .i64 0, .string (⟨#[]⟩ : ByteArray), .string (⟨#[]⟩ : ByteArray), .int .i64 0, .slice none 0 0, .int .i64 0]) ?_ 2 _ rfl; (with_reducible repeat (first | refine bkN ?_ _ | refine bkD ?_ | refine bkA ?_ _)); refine blk_put (cs := #[.int .i64 0, .string (⟨#[]⟩ : ByteArray), .string (⟨#[]⟩ : ByteArray), .int .i64 0, .slice none 0 0, .int .i64 0]) ?_ 1 _ rfl; (with_reducible repeat (first | refine bkN ?_ _ | refine bkD ?_ | refine bkA ?_ _)); refine blk_put (cs := #[.int .i64 0, .string (⟨#[]⟩ : ByteArray), .string (⟨#[]⟩ : ByteArray), .int .i64 0, .slice none 0 0, .int .i64 0]) ?_ 0 _ rfl; (with_reducible repeat (first | refine bkN ?_ _ | refine bkD ?_ | refine bkA ?_ _)); exact BK234.out) Tryd.underlying26 rfl (by kernel_rfl)) rfl ?_
        exact ⟨_, by first | rfl | (simp [errW_none, errW_some] <;> rfl) | (simp [*, errW_none, errW_some] <;> rfl), Kd.V_nil _ _ _ _ _, by repeat (first | (with_reducible first | exact HB.out | apply pbA | apply pbN | apply pb1 | refine pbS ?_ GE233.out | refine pbS ?_ GE234.out | refine pbS ?_ GE238.out) | exact HB.out)⟩
      · replace c8 := Bool.eq_false_iff.mpr c8
        subst c8
        have H1 : (if (l0_4.length : Int) ≥ 5 then (some (0, (⟨#[]⟩ : ByteArray), (⟨#[]⟩ : ByteArray), 0, ([] : List (S60)), 0, 6)) else ((api_Member_33.f l0_4).bind fun t241 => ((some (([(⟨a1, a0_5⟩ : S60)] : List (S60)) : List (S60))).bind fun y244 => (if t241.length + y244.length < 8796093022208 then ((desc_right.f a0_0 a0_1 a0_2 (wrap64 (a0_3 + 1)) (t241 ++ y244) (wrap64 (a0_5 + 1))).bind fun bt250 => (some (bt250.1, bt250.2.1, bt250.2.2.1, bt250.2.2.2.1, bt250.2.2.2.2.1, bt250.2.2.2.2.2.1, bt250.2.2.2.2.2.2))) else (none))))) = some (r1, r2, r3, r4, r5, r6, r7) := by rw [if_neg (show ¬ (false = true) by decide)] at H; exact H
        clear H
        have H := H1
        clear H1
        by_cases c21 : (l0_4.length : Int) ≥ 5
        · rw [if_pos c21] at H
          have c21b0 : decide (5 ≤ (l0_4.length : Int)) = true := decide_eq_true c21
          have c21b1 : decide (5 ≤ l0_4.length) = true := decide_eq_true (by omega)
          clear c21
          simp only [Option.some.injEq, Prod.mk.injEq] at H
          obtain ⟨rfl, rfl, rfl, rfl, rfl, rfl, rfl⟩ := H
          go_enter Tryd.func25, Tryd.ntmps25
          go_wp2_with (first | ((with_reducible refine gate_dst (N := 2) rfl ?_); refine box_event ?hg (N := 2) ?hd (cs := #[.int .i64 a0_0, .string a0_1, .string a0_2, .int .i64 a0_3, .slice A0_4 l0_4.length c0_4, .int .i64 a0_5]) (t := 26) ?hr ?_; (case hd => rfl); (case hg => rfl); (case hr => first | (go_simp; done) | (go_simp; rfl)); intro gb233 hg w22 hbox hb; have n0_ := Az.mk (pbT (by repeat (first | (with_reducible first | exact HB.out | apply pbA | apply pbN | apply pb1) | exact HB.out)) hb); have n1_ := Az.mk (hbox); have n2_ := Az.mk ((by rw [hg]; exact (pbZ (by repeat (first | (with_reducible first | exact HB.out | apply pbA | apply pbN | apply pb1) | exact HB.out))) : w.heap.size ≤ gb233)); have n3_ := Az.mk ((by rw [hg]; exact (pbZ (by repeat (first | (with_reducible first | exact HB.out | apply pbA | apply pbN | apply pb1) | exact HB.out))) : w.heap.size ≤ gb233)); clear HB; have HB := n0_; have BK233 := n1_; have GW233 := n2_; have GE233 := n3_; clear n0_ n1_ n2_ n3_; clear hb hbox hg) | ((with_reducible refine gate_dst (N := 4) rfl ?_); refine box_event ?hg (N := 4) ?hd (cs := #[.int .i64 0, .string (⟨#[]⟩ : ByteArray), .string (⟨#[]⟩ : ByteArray), .int .i64 0, .slice none 0 0, .int .i64 0]) (t := 26) ?hr ?_; (case hd => rfl); (case hg => rfl); (case hr => first | (go_simp; done) | (go_simp; rfl)); intro gb234 hg w23 hbox hb; have n0_ := Az.mk (bkB (g := gb233) (o := .cells #[.int .i64 a0_0, .string a0_1, .string a0_2, .int .i64 a0_3, .slice A0_4 l0_4.length c0_4, .int .i64 a0_5] 26 (0, 0)) (by (with_reducible repeat (first | refine bkN ?_ _ | refine bkD ?_ | refine bkA ?_ _)); exact BK233.out) hb); have n1_ := Az.mk (pbT (by repeat (first | (with_reducible first | exact HB.out | apply pbA | apply pbN | apply pb1 | refine pbS ?_ GE233.out) | exact HB.out)) hb); have n2_ := Az.mk (hbox); have n3_ := Az.mk ((by rw [hg]; exact (pbZ (by repeat (first | (with_reducible first | exact HB.out | apply pbA | apply pbN | apply pb1 | refine pbS ?_ GE233.out) | exact HB.out))) : w.heap.size ≤ gb234)); have n4_ := Az.mk ((by rw [hg]; exact (pbZ (by repeat (first | (with_reducible first | exact HB.out | apply pbA | apply pbN | apply pb1 | refine pbS ?_ GE233.out) | exact HB.out))) : w.heap.size ≤ gb234)); have n5_ := Az.mk ((by rw [hg]; exact Nat.ne_of_lt (blk_lt (g := gb233) (o := .cells #[.int .i64 a0_0, .string a0_1, .string a0_2, .int .i64 a0_3, .slice A0_4 l0_4.length c0_4, .int .i64 a0_5] 26 (0, 0)) (by (with_reducible repeat (first | refine bkN ?_ _ | refine bkD ?_ | refine bkA ?_ _)); exact BK233.out)) : gb233 ≠ gb234)); have n6_ := Az.mk ((by rw [hg]; exact Nat.ne_of_gt (blk_lt (g := gb233) (o := .cells #[.int .i64 a0_0, .string a0_1, .string a0_2, .int .i64 a0_3, .slice A0_4 l0_4.length c0_4, .int .i64 a0_5] 26 (0, 0)) (by (with_reducible repeat (first | refine bkN ?_ _ | refine bkD ?_ | refine bkA ?_ _)); exact BK233.out)) : gb234 ≠ gb233)); clear BK233; clear HB; have BK233 := n0_; have HB := n1_; have BK234 := n2_; have GW234 := n3_; have GE234 := n4_; have NB233_234 := n5_; have NB234_233 := n6_; clear n0_ n1_ n2_ n3_ n4_ n5_ n6_; clear hb hbox hg; have hnb24 := NB233_234.out; have hnc24 := NB234_233.out; have hcz25_0 : w23.cell? ⟨gb233, 0, none⟩ = some (.int .i64 a0_0) := (bkC BK233.out 0).trans rfl; have hcz25_1 : w23.cell? ⟨gb233, 1, none⟩ = some (.string a0_1) := (bkC BK233.out 1).trans rfl; have hcz25_2 : w23.cell? ⟨gb233, 2, none⟩ = some (.string a0_2) := (bkC BK233.out 2).trans rfl; have hcz25_3 : w23.cell? ⟨gb233, 3, none⟩ = some (.int .i64 a0_3) := (bkC BK233.out 3).trans rfl; have hcz25_4 : w23.cell? ⟨gb233, 4, none⟩ = some (.slice A0_4 l0_4.length c0_4) := (bkC BK233.out 4).trans rfl; have hcz25_5 : w23.cell? ⟨gb233, 5, none⟩ = some (.int .i64 a0_5) := (bkC BK233.out 5).trans rfl; have hfz25_0 := bkF BK233.out 0; have hfz25_1 := bkF BK233.out 1; have hfz25_2 := bkF BK233.out 2; have hfz25_3 := bkF BK233.out 3; have hfz25_4 := bkF BK233.out 4; have hfz25_5 := bkF BK233.out 5) | ((with_reducible refine gtc (f := 30) rfl ?_); refine goesL_ (some 11) rfl rfl Tryd.func30 (by kernel_rfl) rfl #[.agg #[.int .i64 a0_0, .string a0_1, .string a0_2, .int .i64 a0_3, .slice A0_4 l0_4.length c0_4, .int .i64 a0_5], .int .i64 a1] rfl (by (try simp only [List.map_toArray, List.map_cons, List.map_nil]); first | done | rfl | (simp only [List.length_drop, List.length_take]; rfl)) ?_; (with_reducible refine (desc_On.calls a0_0 a0_1 a0_2 a0_3 _ _ l0_4 a0_5 a1 t235 t236 false _ ?side1 ?side2 ?side3 A3.out).mono ?_); (case side1 => exact hG.below (by repeat (first | (with_reducible first | exact HB.out | apply pbA | apply pbN | apply pb1 | refine pbS ?_ GE233.out | refine pbS ?_ GE234.out) | exact HB.out))); (case side2 => repeat (first | exact (Kd.C_below HR0_4.out HB.out) | (with_reducible refine Kd.C_alloc ?_ _) | (with_reducible refine Kd.C_drewN ?_ _) | (with_reducible refine Kd.C_drew ?_))); (case side3 => exact HC0_4.out); rintro e w26 ⟨rfl, hb⟩; refine ⟨_, rfl, ?_⟩; have n0_ := Az.mk (bkB (g := gb233) (o := .cells #[.int .i64 a0_0, .string a0_1, .string a0_2, .int .i64 a0_3, .slice A0_4 l0_4.length c0_4, .int .i64 a0_5] 26 (0, 0)) (by (with_reducible repeat (first | refine bkN ?_ _ | refine bkD ?_ | refine bkA ?_ _)); exact BK233.out) hb); have n1_ := Az.mk (bkB (g := gb234) (o := .cells #[.int .i64 0, .string (⟨#[]⟩ : ByteArray), .string (⟨#[]⟩ : ByteArray), .int .i64 0, .slice none 0 0, .int .i64 0] 26 (0, 0)) (by (with_reducible repeat (first | refine bkN ?_ _ | refine bkD ?_ | refine bkA ?_ _)); exact BK234.out) hb); have n2_ := Az.mk (pbT (by repeat (first | (with_reducible first | exact HB.out | apply pbA | apply pbN | apply pb1 | refine pbS ?_ GE233.out | refine pbS ?_ GE234.out) | exact HB.out)) hb); clear BK233; clear BK234; clear HB; have BK233 := n0_; have BK234 := n1_; have HB := n2_; clear n0_ n1_ n2_; (try clear hb); (try clear hb2); (try clear hk); (try clear hi)) | ((with_reducible refine gate_dst (N := 6) rfl ?_); refine box_event ?hg (N := 6) ?hd (cs := #[.int .i64 0, .int .i64 0]) (t := 60) ?hr ?_; (case hd => rfl); (case hg => rfl); (case hr => first | (go_simp; done) | (go_simp; rfl)); intro gb238 hg w27 hbox hb; have n0_ := Az.mk (bkB (g := gb233) (o := .cells #[.int .i64 a0_0, .string a0_1, .string a0_2, .int .i64 a0_3, .slice A0_4 l0_4.length c0_4, .int .i64 a0_5] 26 (0, 0)) (by (with_reducible repeat (first | refine bkN ?_ _ | refine bkD ?_ | refine bkA ?_ _)); exact BK233.out) hb); have n1_ := Az.mk (bkB (g := gb234) (o := .cells #[.int .i64 0, .string (⟨#[]⟩ : ByteArray), .string (⟨#[]⟩ : ByteArray), .int .i64 0, .slice none 0 0, .int .i64 0] 26 (0, 0)) (by (with_reducible repeat (first | refine bkN ?_ _ | refine bkD ?_ | refine bkA ?_ _)); exact BK234.out) hb); have n2_ := Az.mk (pbT (by repeat (first | (with_reducible first | exact HB.out | apply pbA | apply pbN | apply pb1 | refine pbS ?_ GE233.out | refine pbS ?_ GE234.out) | exact HB.out)) hb); have n3_ := Az.mk (hbox); have n4_ := Az.mk ((by rw [hg]; exact (pbZ (by repeat (first | (with_reducible first | exact HB.out | apply pbA | apply pbN | apply pb1 | refine pbS ?_ GE233.out | refine pbS ?_ GE234.out) | exact HB.out))) : w.heap.size ≤ gb238)); have n5_ := Az.mk ((by rw [hg]; exact (pbZ (by repeat (first | (with_reducible first | exact HB.out | apply pbA | apply pbN | apply pb1 | refine pbS ?_ GE233.out | refine pbS ?_ GE234.out) | exact HB.out))) : w.heap.size ≤ gb238)); have n6_ := Az.mk ((by rw [hg]; exact Nat.ne_of_lt (blk_lt (g := gb233) (o := .cells #[.int .i64 a0_0, .string a0_1, .string a0_2, .int .i64 a0_3, .slice A0_4 l0_4.length c0_4, .int .i64 a0_5] 26 (0, 0)) (by (with_reducible repeat (first | refine bkN ?_ _ | refine bkD ?_ | refine bkA ?_ _)); exact BK233.out)) : gb233 ≠ gb238)); have n7_ := Az.mk ((by rw [hg]; exact Nat.ne_of_gt (blk_lt (g := gb233) (o := .cells #[.int .i64 a0_0, .string a0_1, .string a0_2, .int .i64 a0_3, .slice A0_4 l0_4.length c0_4, .int .i64 a0_5] 26 (0, 0)) (by (with_reducible repeat (first | refine bkN ?_ _ | refine bkD ?_ | refine bkA ?_ _)); exact BK233.out)) : gb238 ≠ gb233)); have n8_ := Az.mk ((by rw [hg]; exact Nat.ne_of_lt (blk_lt (g := gb234) (o := .cells #[.int .i64 0, .string (⟨#[]⟩ : ByteArray), .string (⟨#[]⟩ : ByteArray), .int .i64 0, .slice none 0 0, .int .i64 0] 26 (0, 0)) (by (with_reducible repeat (first | refine bkN ?_ _ | refine bkD ?_ | refine bkA ?_ _)); exact BK234.out)) : gb234 ≠ gb238)); have n9_ := Az.mk ((by rw [hg]; exact Nat.ne_of_gt (blk_lt (g := gb234) (o := .cells #[.int .i64 0, .string (⟨#[]⟩ : ByteArray), .string (⟨#[]⟩ : ByteArray), .int .i64 0, .slice none 0 0, .int .i64 0] 26 (0, 0)) (by (with_reducible repeat (first | refine bkN ?_ _ | refine bkD ?_ | refine bkA ?_ _)); exact BK234.out)) : gb238 ≠ gb234)); clear BK233; clear BK234; clear HB; have BK233 := n0_; have BK234 := n1_; have HB := n2_; have BK238 := n3_; have GW238 := n4_; have GE238 := n5_; have NB233_238 := n6_; have NB238_233 := n7_; have NB234_238 := n8_; have NB238_234 := n9_; clear n0_ n1_ n2_ n3_ n4_ n5_ n6_ n7_ n8_ n9_; clear hb hbox hg; have hnb28 := NB238_233.out; have hnc28 := NB233_238.out; have hnb29 := NB238_234.out; have hnc29 := NB234_238.out; have hcz30_0 : w27.cell? ⟨gb238, 0, none⟩ = some (.int .i64 0) := (bkC BK238.out 0).trans rfl; have hcz30_1 : w27.cell? ⟨gb238, 1, none⟩ = some (.int .i64 0) := (bkC BK238.out 1).trans rfl; have hfz30_0 := bkF BK238.out 0; have hfz30_1 := bkF BK238.out 1; have hcz31_0 : w27.cell? ⟨gb233, 0, none⟩ = some (.int .i64 a0_0) := (bkC BK233.out 0).trans rfl; have hcz31_1 : w27.cell? ⟨gb233, 1, none⟩ = some (.string a0_1) := (bkC BK233.out 1).trans rfl; have hcz31_2 : w27.cell? ⟨gb233, 2, none⟩ = some (.string a0_2) := (bkC BK233.out 2).trans rfl; have hcz31_3 : w27.cell? ⟨gb233, 3, none⟩ = some (.int .i64 a0_3) := (bkC BK233.out 3).trans rfl; have hcz31_4 : w27.cell? ⟨gb233, 4, none⟩ = some (.slice A0_4 l0_4.length c0_4) := (bkC BK233.out 4).trans rfl; have hcz31_5 : w27.cell? ⟨gb233, 5, none⟩ = some (.int .i64 a0_5) := (bkC BK233.out 5).trans rfl; have hfz31_0 := bkF BK233.out 0; have hfz31_1 := bkF BK233.out 1; have hfz31_2 := bkF BK233.out 2; have hfz31_3 := bkF BK233.out 3; have hfz31_4 := bkF BK233.out 4; have hfz31_5 := bkF BK233.out 5) | ((with_reducible refine gtc (f := 22) rfl ?_); refine goesL_ (some 16) rfl rfl Tryd.func22 (by kernel_rfl) rfl #[.agg #[.int .i64 a0_0, .string a0_1, .string a0_2, .int .i64 a0_3, .slice A0_4 l0_4.length c0_4, .int .i64 a0_5]] rfl (by (try simp only [List.map_toArray, List.map_cons, List.map_nil]); first | done | rfl | (simp only [List.length_drop, List.length_take]; rfl)) ?_; (with_reducible refine (desc_Check.calls a0_0 a0_1 a0_2 a0_3 _ _ l0_4 a0_5 t239 _ ?side1 ?side2 ?side3 A4.out).mono ?_); (case side1 => exact hG.below (by repeat (first | (with_reducible first | exact HB.out | apply pbA | apply pbN | apply pb1 | refine pbS ?_ GE233.out | refine pbS ?_ GE234.out | refine pbS ?_ GE238.out) | exact HB.out))); (case side2 => exact Kd.C_below HR0_4.out (by repeat (first | (with_reducible first | exact HB.out | apply pbA | apply pbN | apply pb1 | refine pbS ?_ GE233.out | refine pbS ?_ GE234.out | refine pbS ?_ GE238.out) | exact HB.out))); (case side3 => exact HC0_4.out); rintro e w32 ⟨rfl, hb⟩; refine ⟨_, rfl, ?_⟩; have n0_ := Az.mk (bkB (g := gb233) (o := .cells #[.int .i64 a0_0, .string a0_1, .string a0_2, .int .i64 a0_3, .slice A0_4 l0_4.length c0_4, .int .i64 a0_5] 26 (0, 0)) (by (with_reducible repeat (first | refine bkN ?_ _ | refine bkD ?_ | refine bkA ?_ _)); refine blk_far ?_ NB233_238.out _; (with_reducible repeat (first | refine bkN ?_ _ | refine bkD ?_ | refine bkA ?_ _)); refine blk_far ?_ NB233_238.out _; (with_reducible repeat (first | refine bkN ?_ _ | refine bkD ?_ | refine bkA ?_ _)); exact BK233.out) hb); have n1_ := Az.mk (bkB (g := gb234) (o := .cells #[.int .i64 0, .string (⟨#[]⟩ : ByteArray), .string (⟨#[]⟩ : ByteArray), .int .i64 0, .slice none 0 0, .int .i64 0] 26 (0, 0)) (by (with_reducible repeat (first | refine bkN ?_ _ | refine bkD ?_ | refine bkA ?_ _)); refine blk_far ?_ NB234_238.out _; (with_reducible repeat (first | refine bkN ?_ _ | refine bkD ?_ | refine bkA ?_ _)); refine blk_far ?_ NB234_238.out _; (with_reducible repeat (first | refine bkN ?_ _ | refine bkD ?_ | refine bkA ?_ _)); exact BK234.out) hb); have n2_ := Az.mk (bkB (g := gb238) (o := .cells #[.int .i64 t235, .int .i64 t236] 60 (0, 0)) (by (with_reducible repeat (first | refine bkN ?_ _ | refine bkD ?_ | refine bkA ?_ _)); refine blk_put (cs := #[.int .i64 t235, .int .i64 0]) ?_ 1 _ rfl; (with_reducible repeat (first | refine bkN ?_ _ | refine bkD ?_ | refine bkA ?_ _)); refine blk_put (cs := #[.int .i64 0, .int .i64 0]) ?_ 0 _ rfl; (with_reducible repeat (first | refine bkN ?_ _ | refine bkD ?_ | refine bkA ?_ _)); exact BK238.out) hb); have n3_ := Az.mk (pbT (by repeat (first | (with_reducible first | exact HB.out | apply pbA | apply pbN | apply pb1 | refine pbS ?_ GE233.out | refine pbS ?_ GE234.out | refine pbS ?_ GE238.out) | exact HB.out)) hb); clear BK233; clear BK234; clear BK238; clear HB; have BK233 := n0_; have BK234 := n1_; have BK238 := n2_; have HB := n3_; clear n0_ n1_ n2_ n3_; (try clear hb); (try clear hb2); (try clear hk); (try clear hi)) | ((with_reducible refine gtc (f := 49) rfl ?_); refine goesL_ (some 21) rfl rfl Tryd.func49 (by kernel_rfl) rfl #[.int .i64 a1] rfl (by (try simp only [List.map_toArray, List.map_cons, List.map_nil]); first | done | rfl | (simp only [List.length_drop, List.length_take]; rfl)) ?_; (with_reducible refine (desc_isNode.calls a1 true _ ?side1 A6.out).mono ?_); (case side1 => exact hG.below (by repeat (first | (with_reducible first | exact HB.out | apply pbA | apply pbN | apply pb1 | refine pbS ?_ GE233.out | refine pbS ?_ GE234.out | refine pbS ?_ GE238.out) | exact HB.out))); rintro e w' ⟨rfl, ⟨nd, rfl⟩⟩; refine ⟨_, rfl, ?_⟩; (try (rw [drewN_self w32]; generalize hq_ : World.drewN w32 _ = w32; have n0_ : Az (w32.heap[gb233]? = some (.cells #[.int .i64 a0_0, .string a0_1, .string a0_2, .int .i64 a0_3, .slice A0_4 l0_4.length c0_4, .int .i64 a0_5] 26 (0, 0))) := ⟨by rw [← hq_]; exact (by (with_reducible repeat (first | refine bkN ?_ _ | refine bkD ?_ | refine bkA ?_ _)); exact BK233.out)⟩; have n1_ : Az (w32.heap[gb234]? = some (.cells #[.int .i64 0, .string (⟨#[]⟩ : ByteArray), .string (⟨#[]⟩ : ByteArray), .int .i64 0, .slice none 0 0, .int .i64 0] 26 (0, 0))) := ⟨by rw [← hq_]; exact (by (with_reducible repeat (first | refine bkN ?_ _ | refine bkD ?_ | refine bkA ?_ _)); exact BK234.out)⟩; have n2_ : Az (w32.heap[gb238]? = some (.cells #[.int .i64 t235, .int .i64 t236] 60 (0, 0))) := ⟨by rw [← hq_]; exact (by (with_reducible repeat (first | refine bkN ?_ _ | refine bkD ?_ | refine bkA ?_ _)); exact BK238.out)⟩; have n3_ : Az (Below w.heap.size w w32) := ⟨by rw [← hq_]; exact (by repeat (first | (with_reducible first | exact HB.out | apply pbA | apply pbN | apply pb1 | refine pbS ?_ GE233.out | refine pbS ?_ GE234.out | refine pbS ?_ GE238.out) | exact HB.out))⟩; clear BK233 BK234 BK238 HB hq_; have BK233 := n0_; have BK234 := n1_; have BK238 := n2_; have HB := n3_; clear n0_ n1_ n2_ n3_)); have hcz33_0 : w32.cell? ⟨gb233, 0, none⟩ = some (.int .i64 a0_0) := (bkC BK233.out 0).trans rfl; have hcz33_1 : w32.cell? ⟨gb233, 1, none⟩ = some (.string a0_1) := (bkC BK233.out 1).trans rfl; have hcz33_2 : w32.cell? ⟨gb233, 2, none⟩ = some (.string a0_2) := (bkC BK233.out 2).trans rfl; have hcz33_3 : w32.cell? ⟨gb233, 3, none⟩ = some (.int .i64 a0_3) := (bkC BK233.out 3).trans rfl; have hcz33_4 : w32.cell? ⟨gb233, 4, none⟩ = some (.slice A0_4 l0_4.length c0_4) := (bkC BK233.out 4).trans rfl; have hcz33_5 : w32.cell? ⟨gb233, 5, none⟩ = some (.int .i64 a0_5) := (bkC BK233.out 5).trans rfl; have hfz33_0 := bkF BK233.out 0; have hfz33_1 := bkF BK233.out 1; have hfz33_2 := bkF BK233.out 2; have hfz33_3 := bkF BK233.out 3; have hfz33_4 := bkF BK233.out 4; have hfz33_5 := bkF BK233.out 5; have hcz34_0 : w32.cell? ⟨gb234, 0, none⟩ = some (.int .i64 0) := (bkC BK234.out 0).trans rfl; have hcz34_1 : w32.cell? ⟨gb234, 1, none⟩ = some (.string (⟨#[]⟩ : ByteArray)) := (bkC BK234.out 1).trans rfl; have hcz34_2 : w32.cell? ⟨gb234, 2, none⟩ = some (.string (⟨#[]⟩ : ByteArray)) := (bkC BK234.out 2).trans rfl; have hcz34_3 : w32.cell? ⟨gb234, 3, none⟩ = some (.int .i64 0) := (bkC BK234.out 3).trans rfl; have hcz34_4 : w32.cell? ⟨gb234, 4, none⟩ = some (.slice none 0 0) := (bkC BK234.out 4).trans rfl; have hcz34_5 : w32.cell? ⟨gb234, 5, none⟩ = some (.int .i64 0) := (bkC BK234.out 5).trans rfl; have hfz34_0 := bkF BK234.out 0; have hfz34_1 := bkF BK234.out 1; have hfz34_2 := bkF BK234.out 2; have hfz34_3 := bkF BK234.out 3; have hfz34_4 := bkF BK234.out 4; have hfz34_5 := bkF BK234.out 5))
          refine bodyPost_ret (results_ct rfl _ _ gb234 26 #[.int .i64 0, .string (⟨#[]⟩ : ByteArray), .string (⟨#[]⟩ : ByteArray), .int .i64 0, .slice none 0 0, .int .i64 0] (0, 0) _ rfl (by (with_reducible repeat (first | refine bkN ?_ _ | refine bkD ?_ | refine bkA ?_ _)); refine blk_put (cs := #[.int .i64 0, .string (⟨#[]⟩ : ByteArray), .string (⟨#[]⟩ : ByteArray), .int .i64 0, .slice none 0 0, .int .i64 0]) ?_ 5 _ rfl; (with_reducible repeat (first | refine bkN ?_ _ | refine bkD ?_ | refine bkA ?_ _)); refine blk_put (cs := #[.int .i64 0, .string (⟨#[]⟩ : ByteArray), .string (⟨#[]⟩ : ByteArray), .int .i64 0, .slice none 0 0, .int .i64 0]) ?_ 4 _ rfl; (with_reducible repeat (first | refine bkN ?_ _ | refine bkD ?_ | refine bkA ?_ _)); refine blk_put (cs := #[.int .i64 0, .string (⟨#[]⟩ : ByteArray), .string (⟨#[]⟩ : ByteArray), .int .i64 0, .slice none 0 0, .int .i64 0]) ?_ 3 _ rfl; (with_reducible repeat (first | refine bkN ?_ _ | refine bkD ?_ | refine bkA ?_ _)); refine blk_put (cs := #[.int .i64 0, .string (⟨#[]⟩ : ByteArray), .string (⟨#[]⟩ : ByteArray), .int .i64 0, .slice none 0 0, .int .i64 0]) ?_ 2 _ rfl; (with_reducible repeat (first | refine bkN ?_ _ | refine bkD ?_ | refine bkA ?_ _)); refine blk_put (cs := #[.int .i64 0, .string (⟨#[]⟩ : ByteArray), .string (⟨#[]⟩ : ByteArray), .int .i64 0, .slice none 0 0, .int .i64 0]) ?_ 1 _ rfl; (with_reducible repeat (first | refine bkN ?_ _ | refine bkD ?_ | refine bkA ?_ _)); refine blk_put (cs := #[.int .i64 0, .string (⟨#[]⟩ : ByteArray), .string (⟨#[]⟩ : ByteArray), .int .i64 0, .slice none 0 0, .int .i64 0]) ?_ 0 _ rfl; (with_reducible repeat (first | refine bkN ?_ _ | refine bkD ?_ | refine bkA ?_ _)); exact BK234.out) Tryd.underlying26 rfl (by kernel_rfl)) rfl ?_
          exact ⟨_, by first | rfl | (simp [errW_none, errW_some] <;> rfl) | (simp [*, errW_none, errW_some] <;> rfl), Kd.V_nil _ _ _ _ _, by repeat (first | (with_reducible first | exact HB.out | apply pbA | apply pbN | apply pb1 | refine pbS ?_ GE233.out | refine pbS ?_ GE234.out | refine pbS ?_ GE238.out) | exact HB.out)⟩
        · rw [if_neg c21] at H
          have c21b0 : decide (5 ≤ (l0_4.length : Int)) = false := decide_eq_false c21
          have c21b1 : decide (5 ≤ l0_4.length) = false := decide_eq_false (by omega)
          clear c21
          replace H := Option.bind_eq_some_iff.mp H
          obtain ⟨t241, A350, H⟩ := H
          replace H : ((some (([(⟨a1, a0_5⟩ : S60)] : List (S60)) : List (S60))).bind fun y244 => (if t241.length + y244.length < 8796093022208 then ((desc_right.f a0_0 a0_1 a0_2 (wrap64 (a0_3 + 1)) (t241 ++ y244) (wrap64 (a0_5 + 1))).bind fun bt250 => (some (bt250.1, bt250.2.1, bt250.2.2.1, bt250.2.2.2.1, bt250.2.2.2.2.1, bt250.2.2.2.2.2.1, bt250.2.2.2.2.2.2))) else (none))) = some (r1, r2, r3, r4, r5, r6, r7) := H
          have A35 := Az.mk A350
          clear A350
          obtain ⟨y244, hy244⟩ : ∃ y_ : List (S60), y_ = (([(⟨a1, a0_5⟩ : S60)] : List (S60))) := ⟨_, rfl⟩
          replace H : (if t241.length + y244.length < 8796093022208 then ((desc_right.f a0_0 a0_1 a0_2 (wrap64 (a0_3 + 1)) (t241 ++ y244) (wrap64 (a0_5 + 1))).bind fun bt250 => (some (bt250.1, bt250.2.1, bt250.2.2.1, bt250.2.2.2.1, bt250.2.2.2.2.1, bt250.2.2.2.2.2.1, bt250.2.2.2.2.2.2))) else (none)) = some (r1, r2, r3, r4, r5, r6, r7) := by first | (rw [hy244]; with_reducible exact H) | (have H2_ := (Option.bind_some _ _).symm.trans H; rw [hy244]; with_reducible exact H2_) | (have H2_ := (Option.bind_some _ _).symm.trans H; with_reducible exact H2_) | with_reducible exact H | (rw [hy244]; exact H) | exact H
          have Ny244 := Az.mk hy244
          clear hy244
          by_cases c36 : t241.length + y244.length < 8796093022208
          · rw [if_pos c36] at H
            have LMc36 := Az.mk c36
            clear c36
            obtain ⟨y247, hy247⟩ : ∃ y_ : List (S60), y_ = (t241 ++ y244) := ⟨_, rfl⟩
            replace H : ((desc_right.f a0_0 a0_1 a0_2 (wrap64 (a0_3 + 1)) y247 (wrap64 (a0_5 + 1))).bind fun bt250 => (some (bt250.1, bt250.2.1, bt250.2.2.1, bt250.2.2.2.1, bt250.2.2.2.2.1, bt250.2.2.2.2.2.1, bt250.2.2.2.2.2.2))) = some (r1, r2, r3, r4, r5, r6, r7) := by first | (rw [hy247]; with_reducible exact H) | (have H2_ := (Option.bind_some _ _).symm.trans H; rw [hy247]; with_reducible exact H2_) | (have H2_ := (Option.bind_some _ _).symm.trans H; with_reducible exact H2_) | with_reducible exact H | (rw [hy247]; exact H) | exact H
            have Ny247 := Az.mk hy247
            clear hy247
            replace H := Option.bind_eq_some_iff.mp H
            obtain ⟨⟨t250, t251, t252, t253, t254, t257, t258⟩, A370, H⟩ := H
            replace H : (some (t250, t251, t252, t253, t254, t257, t258)) = some (r1, r2, r3, r4, r5, r6, r7) := H
            have A37 := Az.mk A370
            clear A370
            simp only [Option.some.injEq, Prod.mk.injEq] at H
            obtain ⟨rfl, rfl, rfl, rfl, rfl, rfl, rfl⟩ := H
            go_enter Tryd.func25, Tryd.ntmps25
            try go_wp2_with (first | ((with_reducible refine gate_dst (N := 2) rfl ?_); refine box_event ?hg (N := 2) ?hd (cs := #[.int .i64 a0_0, .string a0_1, .string a0_2, .int .i64 a0_3, .slice A0_4 l0_4.length c0_4, .int .i64 a0_5]) (t := 26) ?hr ?_; (case hd => rfl); (case hg => rfl); (case hr => first | (go_simp; done) | (go_simp; rfl)); intro gb233 hg w38 hbox hb; have n0_ := Az.mk (pbT (by repeat (first | (with_reducible first | exact HB.out | apply pbA | apply pbN | apply pb1) | exact HB.out)) hb); have n1_ := Az.mk (hbox); have n2_ := Az.mk ((by rw [hg]; exact (pbZ (by repeat (first | (with_reducible first | exact HB.out | apply pbA | apply pbN | apply pb1) | exact HB.out))) : w.heap.size ≤ gb233)); have n3_ := Az.mk ((by rw [hg]; exact (pbZ (by repeat (first | (with_reducible first | exact HB.out | apply pbA | apply pbN | apply pb1) | exact HB.out))) : w.heap.size ≤ gb233)); clear HB; have HB := n0_; have BK233 := n1_; have GW233 := n2_; have GE233 := n3_; clear n0_ n1_ n2_ n3_; clear hb hbox hg) | ((with_reducible refine gate_dst (N := 4) rfl ?_); refine box_event ?hg (N := 4) ?hd (cs := #[.int .i64 0, .string (⟨#[]⟩ : ByteArray), .string (⟨#[]⟩ : ByteArray), .int .i64 0, .slice none 0 0, .int .i64 0]) (t := 26) ?hr ?_; (case hd => rfl); (case hg => rfl); (case hr => first | (go_simp; done) | (go_simp; rfl)); intro gb234 hg w39 hbox hb; have n0_ := Az.mk (bkB (g := gb233) (o := .cells #[.int .i64 a0_0, .string a0_1, .string a0_2, .int .i64 a0_3, .slice A0_4 l0_4.length c0_4, .int .i64 a0_5] 26 (0, 0)) (by (with_reducible repeat (first | refine bkN ?_ _ | refine bkD ?_ | refine bkA ?_ _)); exact BK233.out) hb); have n1_ := Az.mk (pbT (by repeat (first | (with_reducible first | exact HB.out | apply pbA | apply pbN | apply pb1 | refine pbS ?_ GE233.out) | exact HB.out)) hb); have n2_ := Az.mk (hbox); have n3_ := Az.mk ((by rw [hg]; exact (pbZ (by repeat (first | (with_reducible first | exact HB.out | apply pbA | apply pbN | apply pb1 | refine pbS ?_ GE233.out) | exact HB.out))) : w.heap.size ≤ gb234)); have n4_ := Az.mk ((by rw [hg]; exact (pbZ (by repeat (first | (with_reducible first | exact HB.out | apply pbA | apply pbN | apply pb1 | refine pbS ?_ GE233.out) | exact HB.out))) : w.heap.size ≤ gb234)); have n5_ := Az.mk ((by rw [hg]; exact Nat.ne_of_lt (blk_lt (g := gb233) (o := .cells #[.int .i64 a0_0, .string a0_1, .string a0_2, .int .i64 a0_3, .slice A0_4 l0_4.length c0_4, .int .i64 a0_5] 26 (0, 0)) (by (with_reducible repeat (first | refine bkN ?_ _ | refine bkD ?_ | refine bkA ?_ _)); exact BK233.out)) : gb233 ≠ gb234)); have n6_ := Az.mk ((by rw [hg]; exact Nat.ne_of_gt (blk_lt (g := gb233) (o := .cells #[.int .i64 a0_0, .string a0_1, .string a0_2, .int .i64 a0_3, .slice A0_4 l0_4.length c0_4, .int .i64 a0_5] 26 (0, 0)) (by (with_reducible repeat (first | refine bkN ?_ _ | refine bkD ?_ | refine bkA ?_ _)); exact BK233.out)) : gb234 ≠ gb233)); clear BK233; clear HB; have BK233 := n0_; have HB := n1_; have BK234 := n2_; have GW234 := n3_; have GE234 := n4_; have NB233_234 := n5_; have NB234_233 := n6_; clear n0_ n1_ n2_ n3_ n4_ n5_ n6_; clear hb hbox hg; have hnb40 := NB233_234.out; have hnc40 := NB234_233.out; have hcz41_0 : w39.cell? ⟨gb233, 0, none⟩ = some (.int .i64 a0_0) := (bkC BK233.out 0).trans rfl; have hcz41_1 : w39.cell? ⟨gb233, 1, none⟩ = some (.string a0_1) := (bkC BK233.out 1).trans rfl; have hcz41_2 : w39.cell? ⟨gb233, 2, none⟩ = some (.string a0_2) := (bkC BK233.out 2).trans rfl; have hcz41_3 : w39.cell? ⟨gb233, 3, none⟩ = some (.int .i64 a0_3) := (bkC BK233.out 3).trans rfl; have hcz41_4 : w39.cell? ⟨gb233, 4, none⟩ = some (.slice A0_4 l0_4.length c0_4) := (bkC BK233.out 4).trans rfl; have hcz41_5 : w39.cell? ⟨gb233, 5, none⟩ = some (.int .i64 a0_5) := (bkC BK233.out 5).trans rfl; have hfz41_0 := bkF BK233.out 0; have hfz41_1 := bkF BK233.out 1; have hfz41_2 := bkF BK233.out 2; have hfz41_3 := bkF BK233.out 3; have hfz41_4 := bkF BK233.out 4; have hfz41_5 := bkF BK233.out 5) | ((with_reducible refine gtc (f := 30) rfl ?_); refine goesL_ (some 11) rfl rfl Tryd.func30 (by kernel_rfl) rfl #[.agg #[.int .i64 a0_0, .string a0_1, .string a0_2, .int .i64 a0_3, .slice A0_4 l0_4.length c0_4, .int .i64 a0_5], .int .i64 a1] rfl (by (try simp only [List.map_toArray, List.map_cons, List.map_nil]); first | done | rfl | (simp only [List.length_drop, List.length_take]; rfl)) ?_; (with_reducible refine (desc_On.calls a0_0 a0_1 a0_2 a0_3 _ _ l0_4 a0_5 a1 t235 t236 false _ ?side1 ?side2 ?side3 A3.out).mono ?_); (case side1 => exact hG.below (by repeat (first | (with_reducible first | exact HB.out | apply pbA | apply pbN | apply pb1 | refine pbS ?_ GE233.out | refine pbS ?_ GE234.out) | exact HB.out))); (case side2 => repeat (first | exact (Kd.C_below HR0_4.out HB.out) | (with_reducible refine Kd.C_alloc ?_ _) | (with_reducible refine Kd.C_drewN ?_ _) | (with_reducible refine Kd.C_drew ?_))); (case side3 => exact HC0_4.out); rintro e w42 ⟨rfl, hb⟩; refine ⟨_, rfl, ?_⟩; have n0_ := Az.mk (bkB (g := gb233) (o := .cells #[.int .i64 a0_0, .string a0_1, .string a0_2, .int .i64 a0_3, .slice A0_4 l0_4.length c0_4, .int .i64 a0_5] 26 (0, 0)) (by (with_reducible repeat (first | refine bkN ?_ _ | refine bkD ?_ | refine bkA ?_ _)); exact BK233.out) hb); have n1_ := Az.mk (bkB (g := gb234) (o := .cells #[.int .i64 0, .string (⟨#[]⟩ : ByteArray), .string (⟨#[]⟩ : ByteArray), .int .i64 0, .slice none 0 0, .int .i64 0] 26 (0, 0)) (by (with_reducible repeat (first | refine bkN ?_ _ | refine bkD ?_ | refine bkA ?_ _)); exact BK234.out) hb); have n2_ := Az.mk (pbT (by repeat (first | (with_reducible first | exact HB.out | apply pbA | apply pbN | apply pb1 | refine pbS ?_ GE233.out | refine pbS ?_ GE234.out) | exact HB.out)) hb); clear BK233; clear BK234; clear HB; have BK233 := n0_; have BK234 := n1_; have HB := n2_; clear n0_ n1_ n2_; (try clear hb); (try clear hb2); (try clear hk); (try clear hi)) | ((with_reducible refine gate_dst (N := 6) rfl ?_); refine box_event ?hg (N := 6) ?hd (cs := #[.int .i64 0, .int .i64 0]) (t := 60) ?hr ?_; (case hd => rfl); (case hg => rfl); (case hr => first | (go_simp; done) | (go_simp; rfl)); intro gb238 hg w43 hbox hb; have n0_ := Az.mk (bkB (g := gb233) (o := .cells #[.int .i64 a0_0, .string a0_1, .string a0_2, .int .i64 a0_3, .slice A0_4 l0_4.length c0_4, .int .i64 a0_5] 26 (0, 0)) (by (with_reducible repeat (first | refine bkN ?_ _ | refine bkD ?_ | refine bkA ?_ _)); exact BK233.out) hb); have n1_ := Az.mk (bkB (g := gb234) (o := .cells #[.int .i64 0, .string (⟨#[]⟩ : ByteArray), .string (⟨#[]⟩ : ByteArray), .int .i64 0, .slice none 0 0, .int .i64 0] 26 (0, 0)) (by (with_reducible repeat (first | refine bkN ?_ _ | refine bkD ?_ | refine bkA ?_ _)); exact BK234.out) hb); have n2_ := Az.mk (pbT (by repeat (first | (with_reducible first | exact HB.out | apply pbA | apply pbN | apply pb1 | refine pbS ?_ GE233.out | refine pbS ?_ GE234.out) | exact HB.out)) hb); have n3_ := Az.mk (hbox); have n4_ := Az.mk ((by rw [hg]; exact (pbZ (by repeat (first | (with_reducible first | exact HB.out | apply pbA | apply pbN | apply pb1 | refine pbS ?_ GE233.out | refine pbS ?_ GE234.out) | exact HB.out))) : w.heap.size ≤ gb238)); have n5_ := Az.mk ((by rw [hg]; exact (pbZ (by repeat (first | (with_reducible first | exact HB.out | apply pbA | apply pbN | apply pb1 | refine pbS ?_ GE233.out | refine pbS ?_ GE234.out) | exact HB.out))) : w.heap.size ≤ gb238)); have n6_ := Az.mk ((by rw [hg]; exact Nat.ne_of_lt (blk_lt (g := gb233) (o := .cells #[.int .i64 a0_0, .string a0_1, .string a0_2, .int .i64 a0_3, .slice A0_4 l0_4.length c0_4, .int .i64 a0_5] 26 (0, 0)) (by (with_reducible repeat (first | refine bkN ?_ _ | refine bkD ?_ | refine bkA ?_ _)); exact BK233.out)) : gb233 ≠ gb238)); have n7_ := Az.mk ((by rw [hg]; exact Nat.ne_of_gt (blk_lt (g := gb233) (o := .cells #[.int .i64 a0_0, .string a0_1, .string a0_2, .int .i64 a0_3, .slice A0_4 l0_4.length c0_4, .int .i64 a0_5] 26 (0, 0)) (by (with_reducible repeat (first | refine bkN ?_ _ | refine bkD ?_ | refine bkA ?_ _)); exact BK233.out)) : gb238 ≠ gb233)); have n8_ := Az.mk ((by rw [hg]; exact Nat.ne_of_lt (blk_lt (g := gb234) (o := .cells #[.int .i64 0, .string (⟨#[]⟩ : ByteArray), .string (⟨#[]⟩ : ByteArray), .int .i64 0, .slice none 0 0, .int .i64 0] 26 (0, 0)) (by (with_reducible repeat (first | refine bkN ?_ _ | refine bkD ?_ | refine bkA ?_ _)); exact BK234.out)) : gb234 ≠ gb238)); have n9_ := Az.mk ((by rw [hg]; exact Nat.ne_of_gt (blk_lt (g := gb234) (o := .cells #[.int .i64 0, .string (⟨#[]⟩ : ByteArray), .string (⟨#[]⟩ : ByteArray), .int .i64 0, .slice none 0 0, .int .i64 0] 26 (0, 0)) (by (with_reducible repeat (first | refine bkN ?_ _ | refine bkD ?_ | refine bkA ?_ _)); exact BK234.out)) : gb238 ≠ gb234)); clear BK233; clear BK234; clear HB; have BK233 := n0_; have BK234 := n1_; have HB := n2_; have BK238 := n3_; have GW238 := n4_; have GE238 := n5_; have NB233_238 := n6_; have NB238_233 := n7_; have NB234_238 := n8_; have NB238_234 := n9_; clear n0_ n1_ n2_ n3_ n4_ n5_ n6_ n7_ n8_ n9_; clear hb hbox hg; have hnb44 := NB238_233.out; have hnc44 := NB233_238.out; have hnb45 := NB238_234.out; have hnc45 := NB234_238.out; have hcz46_0 : w43.cell? ⟨gb238, 0, none⟩ = some (.int .i64 0) := (bkC BK238.out 0).trans rfl; have hcz46_1 : w43.cell? ⟨gb238, 1, none⟩ = some (.int .i64 0) := (bkC BK238.out 1).trans rfl; have hfz46_0 := bkF BK238.out 0; have hfz46_1 := bkF BK238.out 1; have hcz47_0 : w43.cell? ⟨gb233, 0, none⟩ = some (.int .i64 a0_0) := (bkC BK233.out 0).trans rfl; have hcz47_1 : w43.cell? ⟨gb233, 1, none⟩ = some (.string a0_1) := (bkC BK233.out 1).trans rfl; have hcz47_2 : w43.cell? ⟨gb233, 2, none⟩ = some (.string a0_2) := (bkC BK233.out 2).trans rfl; have hcz47_3 : w43.cell? ⟨gb233, 3, none⟩ = some (.int .i64 a0_3) := (bkC BK233.out 3).trans rfl; have hcz47_4 : w43.cell? ⟨gb233, 4, none⟩ = some (.slice A0_4 l0_4.length c0_4) := (bkC BK233.out 4).trans rfl; have hcz47_5 : w43.cell? ⟨gb233, 5, none⟩ = some (.int .i64 a0_5) := (bkC BK233.out 5).trans rfl; have hfz47_0 := bkF BK233.out 0; have hfz47_1 := bkF BK233.out 1; have hfz47_2 := bkF BK233.out 2; have hfz47_3 := bkF BK233.out 3; have hfz47_4 := bkF BK233.out 4; have hfz47_5 := bkF BK233.out 5) | ((with_reducible refine gtc (f := 22) rfl ?_); refine goesL_ (some 16) rfl rfl Tryd.func22 (by kernel_rfl) rfl #[.agg #[.int .i64 a0_0, .string a0_1, .string a0_2, .int .i64 a0_3, .slice A0_4 l0_4.length c0_4, .int .i64 a0_5]] rfl (by (try simp only [List.map_toArray, List.map_cons, List.map_nil]); first | done | rfl | (simp only [List.length_drop, List.length_take]; rfl)) ?_; (with_reducible refine (desc_Check.calls a0_0 a0_1 a0_2 a0_3 _ _ l0_4 a0_5 t239 _ ?side1 ?side2 ?side3 A4.out).mono ?_); (case side1 => exact hG.below (by repeat (first | (with_reducible first | exact HB.out | apply pbA | apply pbN | apply pb1 | refine pbS ?_ GE233.out | refine pbS ?_ GE234.out | refine pbS ?_ GE238.out) | exact HB.out))); (case side2 => exact Kd.C_below HR0_4.out (by repeat (first | (with_reducible first | exact HB.out | apply pbA | apply pbN | apply pb1 | refine pbS ?_ GE233.out | refine pbS ?_ GE234.out | refine pbS ?_ GE238.out) | exact HB.out))); (case side3 => exact HC0_4.out); rintro e w48 ⟨rfl, hb⟩; refine ⟨_, rfl, ?_⟩; have n0_ := Az.mk (bkB (g := gb233) (o := .cells #[.int .i64 a0_0, .string a0_1, .string a0_2, .int .i64 a0_3, .slice A0_4 l0_4.length c0_4, .int .i64 a0_5] 26 (0, 0)) (by (with_reducible repeat (first | refine bkN ?_ _ | refine bkD ?_ | refine bkA ?_ _)); refine blk_far ?_ NB233_238.out _; (with_reducible repeat (first | refine bkN ?_ _ | refine bkD ?_ | refine bkA ?_ _)); refine blk_far ?_ NB233_238.out _; (with_reducible repeat (first | refine bkN ?_ _ | refine bkD ?_ | refine bkA ?_ _)); exact BK233.out) hb); have n1_ := Az.mk (bkB (g := gb234) (o := .cells #[.int .i64 0, .string (⟨#[]⟩ : ByteArray), .string (⟨#[]⟩ : ByteArray), .int .i64 0, .slice none 0 0, .int .i64 0] 26 (0, 0)) (by (with_reducible repeat (first | refine bkN ?_ _ | refine bkD ?_ | refine bkA ?_ _)); refine blk_far ?_ NB234_238.out _; (with_reducible repeat (first | refine bkN ?_ _ | refine bkD ?_ | refine bkA ?_ _)); refine blk_far ?_ NB234_238.out _; (with_reducible repeat (first | refine bkN ?_ _ | refine bkD ?_ | refine bkA ?_ _)); exact BK234.out) hb); have n2_ := Az.mk (bkB (g := gb238) (o := .cells #[.int .i64 t235, .int .i64 t236] 60 (0, 0)) (by (with_reducible repeat (first | refine bkN ?_ _ | refine bkD ?_ | refine bkA ?_ _)); refine blk_put (cs := #[.int .i64 t235, .int .i64 0]) ?_ 1 _ rfl; (with_reducible repeat (first | refine bkN ?_ _ | refine bkD ?_ | refine bkA ?_ _)); refine blk_put (cs := #[.int .i64 0, .int .i64 0]) ?_ 0 _ rfl; (with_reducible repeat (first | refine bkN ?_ _ | refine bkD ?_ | refine bkA ?_ _)); exact BK238.out) hb); have n3_ := Az.mk (pbT (by repeat (first | (with_reducible first | exact HB.out | apply pbA | apply pbN | apply pb1 | refine pbS ?_ GE233.out | refine pbS ?_ GE234.out | refine pbS ?_ GE238.out) | exact HB.out)) hb); clear BK233; clear BK234; clear BK238; clear HB; have BK233 := n0_; have BK234 := n1_; have BK238 := n2_; have HB := n3_; clear n0_ n1_ n2_ n3_; (try clear hb); (try clear hb2); (try clear hk); (try clear hi)) | ((with_reducible refine gtc (f := 49) rfl ?_); refine goesL_ (some 21) rfl rfl Tryd.func49 (by kernel_rfl) rfl #[.int .i64 a1] rfl (by (try simp only [List.map_toArray, List.map_cons, List.map_nil]); first | done | rfl | (simp only [List.length_drop, List.length_take]; rfl)) ?_; (with_reducible refine (desc_isNode.calls a1 true _ ?side1 A6.out).mono ?_); (case side1 => exact hG.below (by repeat (first | (with_reducible first | exact HB.out | apply pbA | apply pbN | apply pb1 | refine pbS ?_ GE233.out | refine pbS ?_ GE234.out | refine pbS ?_ GE238.out) | exact HB.out))); rintro e w' ⟨rfl, ⟨nd, rfl⟩⟩; refine ⟨_, rfl, ?_⟩; (try (rw [drewN_self w48]; generalize hq_ : World.drewN w48 _ = w48; have n0_ : Az (w48.heap[gb233]? = some (.cells #[.int .i64 a0_0, .string a0_1, .string a0_2, .int .i64 a0_3, .slice A0_4 l0_4.length c0_4, .int .i64 a0_5] 26 (0, 0))) := ⟨by rw [← hq_]; exact (by (with_reducible repeat (first | refine bkN ?_ _ | refine bkD ?_ | refine bkA ?_ _)); exact BK233.out)⟩; have n1_ : Az (w48.heap[gb234]? = some (.cells #[.int .i64 0, .string (⟨#[]⟩ : ByteArray), .string (⟨#[]⟩ : ByteArray), .int .i64 0, .slice none 0 0, .int .i64 0] 26 (0, 0))) := ⟨by rw [← hq_]; exact (by (with_reducible repeat (first | refine bkN ?_ _ | refine bkD ?_ | refine bkA ?_ _)); exact BK234.out)⟩; have n2_ : Az (w48.heap[gb238]? = some (.cells #[.int .i64 t235, .int .i64 t236] 60 (0, 0))) := ⟨by rw [← hq_]; exact (by (with_reducible repeat (first | refine bkN ?_ _ | refine bkD ?_ | refine bkA ?_ _)); exact BK238.out)⟩; have n3_ : Az (Below w.heap.size w w48) := ⟨by rw [← hq_]; exact (by repeat (first | (with_reducible first | exact HB.out | apply pbA | apply pbN | apply pb1 | refine pbS ?_ GE233.out | refine pbS ?_ GE234.out | refine pbS ?_ GE238.out) | exact HB.out))⟩; clear BK233 BK234 BK238 HB hq_; have BK233 := n0_; have BK234 := n1_; have BK238 := n2_; have HB := n3_; clear n0_ n1_ n2_ n3_)); have hcz49_0 : w48.cell? ⟨gb233, 0, none⟩ = some (.int .i64 a0_0) := (bkC BK233.out 0).trans rfl; have hcz49_1 : w48.cell? ⟨gb233, 1, none⟩ = some (.string a0_1) := (bkC BK233.out 1).trans rfl; have hcz49_2 : w48.cell? ⟨gb233, 2, none⟩ = some (.string a0_2) := (bkC BK233.out 2).trans rfl; have hcz49_3 : w48.cell? ⟨gb233, 3, none⟩ = some (.int .i64 a0_3) := (bkC BK233.out 3).trans rfl; have hcz49_4 : w48.cell? ⟨gb233, 4, none⟩ = some (.slice A0_4 l0_4.length c0_4) := (bkC BK233.out 4).trans rfl; have hcz49_5 : w48.cell? ⟨gb233, 5, none⟩ = some (.int .i64 a0_5) := (bkC BK233.out 5).trans rfl; have hfz49_0 := bkF BK233.out 0; have hfz49_1 := bkF BK233.out 1; have hfz49_2 := bkF BK233.out 2; have hfz49_3 := bkF BK233.out 3; have hfz49_4 := bkF BK233.out 4; have hfz49_5 := bkF BK233.out 5))
            have n0_ := Az.mk (bkD BK233.out)
            have n1_ := Az.mk (bkD BK234.out)
            have n2_ := Az.mk (bkD BK238.out)
            have n3_ := Az.mk (pb1 HB.out)
            clear BK233
            clear BK234
            clear BK238
            clear HB
            have BK233 := n0_
            have BK234 := n1_
            have BK238 := n2_
            have HB := n3_
            clear n0_ n1_ n2_ n3_
            refine start_ (n := 11) (S := fun w' => w'.cell? ⟨gb233, 0, none⟩ = some (.int .i64 a0_0) ∧ w'.cell? ⟨gb233, 1, none⟩ = some (.string a0_1) ∧ w'.cell? ⟨gb233, 2, none⟩ = some (.string a0_2) ∧ w'.cell? ⟨gb233, 3, none⟩ = some (.int .i64 a0_3) ∧ w'.cell? ⟨gb233, 4, none⟩ = some (.slice A0_4 l0_4.length c0_4) ∧ w'.cell? ⟨gb233, 5, none⟩ = some (.int .i64 a0_5)) (ds := [10]) #[false, false, false, false, false, false, false, false, false, false, false] (by kernel_rfl) rfl rfl ⟨(bkC BK233.out 0).trans rfl, (bkC BK233.out 1).trans rfl, (bkC BK233.out 2).trans rfl, (bkC BK233.out 3).trans rfl, (bkC BK233.out 4).trans rfl, (bkC BK233.out 5).trans rfl⟩ (fun hHeld => ?_); refine with_tabW desc_Add.tab10 desc_Add.bits10 (fun HT_ HW_ => ?_)
            generalize w48.drew = w50 at BK233 BK234 BK238 HB hHeld ⊢
            refine pure_ (i := 0) (N := some 33) (v := ?_) (a' := ?_) #[true, false, false, false, false, false, false, false, false, false, false] rfl rfl (any_of HT_.out (by kernel_rfl)) (fun _ _ _ h => h) (Or.inl ⟨by rfl, ?_⟩) ?_ ?_
            rotate_left
            · intro w'
              go_simp
              with_reducible rfl
            rotate_left
            · simp only [Act.put, List.setIfInBounds_toArray, List.set_cons_zero, List.set_cons_succ, i64_w, i32_w]
              rfl
            refine pure_ (i := 3) (N := some 36) (v := ?_) (a' := ?_) #[true, false, false, true, false, false, false, false, false, false, false] rfl rfl (any_of HT_.out (by kernel_rfl)) (fun _ _ _ h => h) (Or.inl ⟨by rfl, ?_⟩) ?_ ?_
            rotate_left
            · intro w'
              go_simp
              with_reducible rfl
            rotate_left
            · simp only [Act.put, List.setIfInBounds_toArray, List.set_cons_zero, List.set_cons_succ, i64_w, i32_w]
              rfl
            refine pure_ (i := 4) (N := some 37) (v := ?_) (a' := ?_) #[true, false, false, true, true, false, false, false, false, false, false] rfl rfl (any_of HT_.out (by kernel_rfl)) (fun _ _ _ h => h) (Or.inl ⟨by rfl, ?_⟩) ?_ ?_
            rotate_left
            · intro w'
              go_simp
              with_reducible rfl
            rotate_left
            · simp only [Act.put, List.setIfInBounds_toArray, List.set_cons_zero, List.set_cons_succ, i64_w, i32_w]
              rfl
            refine take_ (i := 1) (N := some 34) (v := ?_) (a' := ?_) #[true, true, false, true, true, false, false, false, false, false, false] rfl rfl (take_ofW HT_.out HW_.out (by kernel_rfl)) (fun _ _ _ h => h) (Or.inl ⟨by rfl, ?_⟩) hHeld ?_ ?_
            rotate_left
            · rintro w' ⟨s0, s1, s2, s3, s4, s5⟩
              go_simp
              with_reducible rfl
            rotate_left
            · simp only [Act.put, List.setIfInBounds_toArray, List.set_cons_zero, List.set_cons_succ, i64_w, i32_w]
              rfl
            refine take_ (i := 5) (N := some 38) (v := ?_) (a' := ?_) #[true, true, false, true, true, true, false, false, false, false, false] rfl rfl (take_ofW HT_.out HW_.out (by kernel_rfl)) (fun _ _ _ h => h) (Or.inl ⟨by rfl, ?_⟩) hHeld ?_ ?_
            rotate_left
            · rintro w' ⟨s0, s1, s2, s3, s4, s5⟩
              go_simp
              with_reducible rfl
            rotate_left
            · simp only [Act.put, List.setIfInBounds_toArray, List.set_cons_zero, List.set_cons_succ, i64_w, i32_w]
              rfl
            refine pure_ (i := 6) (N := some 39) (v := ?_) (a' := ?_) #[true, true, false, true, true, true, true, false, false, false, false] rfl rfl (any_of HT_.out (by kernel_rfl)) (fun _ _ _ h => h) (Or.inl ⟨by rfl, ?_⟩) ?_ ?_
            rotate_left
            · intro w'
              go_simp
              with_reducible rfl
            rotate_left
            · simp only [Act.put, List.setIfInBounds_toArray, List.set_cons_zero, List.set_cons_succ, i64_w, i32_w]
              rfl
            refine join_ (σ := Value × Value) 3 #[true, true, true, true, true, true, true, true, false, false, false] (fun s_ => [(35, s_.1), (40, s_.2)]) (fun s_ w' => (w'.cell? ⟨gb233, 0, none⟩ = some (.int .i64 a0_0) ∧ w'.cell? ⟨gb233, 1, none⟩ = some (.string a0_1) ∧ w'.cell? ⟨gb233, 2, none⟩ = some (.string a0_2) ∧ w'.cell? ⟨gb233, 3, none⟩ = some (.int .i64 a0_3) ∧ w'.cell? ⟨gb233, 4, none⟩ = some (.slice A0_4 l0_4.length c0_4) ∧ w'.cell? ⟨gb233, 5, none⟩ = some (.int .i64 a0_5)) ∧ (Kd.R k60 60 w' w.heap.size (fun k_ => (w.heap.size ≤ k_) ∧ some k_ ≠ (s_.2 : Value).ownBlock ∧ k_ ≠ gb238) s_.1 t241) ∧ (Kd.R k60 60 w' w.heap.size (fun k_ => (w.heap.size ≤ k_) ∧ some k_ ≠ (s_.1 : Value).ownBlock ∧ k_ ≠ gb238) s_.2 y244) ∧ (w'.heap[gb233]? = some (.cells #[.int .i64 a0_0, .string a0_1, .string a0_2, .int .i64 a0_3, .slice A0_4 l0_4.length c0_4, .int .i64 a0_5] 26 (0, 0))) ∧ (w'.heap[gb234]? = some (.cells #[.int .i64 0, .string (⟨#[]⟩ : ByteArray), .string (⟨#[]⟩ : ByteArray), .int .i64 0, .slice none 0 0, .int .i64 0] 26 (0, 0))) ∧ (w'.heap[gb238]? = some (.cells #[.int .i64 t235, .int .i64 t236] 60 (0, 0))) ∧ (Below w.heap.size w w')) ?_ ?_
            rotate_left
            · intro hCont
              refine two_ (i := 2) (j := 7) (Ni := some 35) (Nj := some 40) #[true, true, true, true, true, true, true, false, false, false, false] #[true, true, false, true, true, true, true, true, false, false, false] rfl rfl rfl rfl (two_of HT_.out (by kernel_rfl)) (by decide) (by decide) (fun K hK => ?_) (fun K hK => ?_)
              · skip
                refine goes_ Tryd.func33 (by kernel_rfl) rfl #[.slice A0_4 l0_4.length c0_4] (by rfl) rfl rfl (by (try simp only [List.map_toArray, List.map_cons, List.map_nil]); first | done | rfl | (simp only [List.length_drop, List.length_take]; rfl)) ?_
                with_reducible refine (api_Member_33.calls _ _ l0_4 t241 _ ?side1 ?side2 ?side3 A35.out).mono ?_
                (case side1 => exact hG.below (by repeat (first | (with_reducible first | exact HB.out | apply pbA | apply pbN | apply pb1 | refine pbS ?_ GE233.out | refine pbS ?_ GE234.out | refine pbS ?_ GE238.out) | exact HB.out)))
                (case side2 => repeat (first | exact (Kd.C_below HR0_4.out HB.out) | (with_reducible refine Kd.C_alloc ?_ _) | (with_reducible refine Kd.C_drewN ?_ _) | (with_reducible refine Kd.C_drew ?_)))
                (case side3 => exact HC0_4.out)
                rintro e w51 ⟨v242, rfl, ho0, hb⟩
                refine ⟨_, rfl, ?_⟩
                have n0_ := Az.mk (Kd.R_lower (Kd.R_newB (Kd.R_newM (M := fun k_ => (w.heap.size ≤ k_)) (Kd.R_mono (ok' := fun k_ => True) ho0 (fun _ hk_ => trivial)) (pbZ (by repeat (first | (with_reducible first | exact HB.out | apply pbA | apply pbN | apply pb1 | refine pbS ?_ GE233.out | refine pbS ?_ GE234.out | refine pbS ?_ GE238.out) | exact HB.out))) (fun k_ h_ => h_)) (g := gb238) (o := .cells #[.int .i64 t235, .int .i64 t236] 60 (0, 0)) (by (with_reducible repeat (first | refine bkN ?_ _ | refine bkD ?_ | refine bkA ?_ _)); exact BK238.out)) (pbZ (by repeat (first | (with_reducible first | exact HB.out | apply pbA | apply pbN | apply pb1 | refine pbS ?_ GE233.out | refine pbS ?_ GE234.out | refine pbS ?_ GE238.out) | exact HB.out))))
                have n1_ := Az.mk (bkB (g := gb233) (o := .cells #[.int .i64 a0_0, .string a0_1, .string a0_2, .int .i64 a0_3, .slice A0_4 l0_4.length c0_4, .int .i64 a0_5] 26 (0, 0)) (by (with_reducible repeat (first | refine bkN ?_ _ | refine bkD ?_ | refine bkA ?_ _)); exact BK233.out) hb)
                have n2_ := Az.mk (bkB (g := gb234) (o := .cells #[.int .i64 0, .string (⟨#[]⟩ : ByteArray), .string (⟨#[]⟩ : ByteArray), .int .i64 0, .slice none 0 0, .int .i64 0] 26 (0, 0)) (by (with_reducible repeat (first | refine bkN ?_ _ | refine bkD ?_ | refine bkA ?_ _)); exact BK234.out) hb)
                have n3_ := Az.mk (bkB (g := gb238) (o := .cells #[.int .i64 t235, .int .i64 t236] 60 (0, 0)) (by (with_reducible repeat (first | refine bkN ?_ _ | refine bkD ?_ | refine bkA ?_ _)); exact BK238.out) hb)
                have n4_ := Az.mk (pbT (by repeat (first | (with_reducible first | exact HB.out | apply pbA | apply pbN | apply pb1 | refine pbS ?_ GE233.out | refine pbS ?_ GE234.out | refine pbS ?_ GE238.out) | exact HB.out)) hb)
                clear BK233
                clear BK234
                clear BK238
                clear HB
                have HO243 := n0_
                have BK233 := n1_
                have BK234 := n2_
                have BK238 := n3_
                have HB := n4_
                clear n0_ n1_ n2_ n3_ n4_
                (try clear hb)
                (try clear hb2)
                (try clear hk)
                (try clear hi)
                (try clear ho0)
                refine hK.out _ _ ⟨(bkC BK233.out 0).trans rfl, (bkC BK233.out 1).trans rfl, (bkC BK233.out 2).trans rfl, (bkC BK233.out 3).trans rfl, (bkC BK233.out 4).trans rfl, (bkC BK233.out 5).trans rfl⟩ (fun hHeld => ?_)
                clear hK K
                refine norm_ (a' := ?_) ?_ ?_
                rotate_left
                · show Act.put _ (some 35) _ = _
                  simp only [Act.put, List.setIfInBounds_toArray, List.set_cons_zero, List.set_cons_succ, i64_w, i32_w]
                  rfl
                refine one_ (i := 7) (N := some 40) #[true, true, true, true, true, true, true, true, false, false, false] rfl rfl (one_of HT_.out (by kernel_rfl)) (by decide) (fun K hK => ?_)
                refine Kd.R_lit_step k60 _ 60 ?hg (N := 40) ?hd (xs := ([(⟨a1, a0_5⟩ : S60)] : List (S60))) (inner := [.int .i64 a1, .int .i64 a0_5]) (ok := fun _ => True) (okp := fun _ => True) ?hr ?hp (fun _ hk => hk) trivial (Below.refl _ _) (Nat.le_refl _) (by simp) ?_; (case hd => rfl); (case hg => rfl); (case hr => first | (go_simp; done) | (go_simp; rfl)); (case hp => exact (Reps.c2 (show Kd.M k60 _ _ _ (⟨a1, a0_5⟩ : S60) [.int .i64 a1, .int .i64 a0_5] from (k60_mkM _ _ _ (⟨a1, a0_5⟩ : S60) )) (Reps.none _ _)))
                intro v245 w52 ho53 hb hg_ hnew_
                clear hg_ hnew_
                (first | rw [← Ny244.out] at ho53 | (simp only [Int.reduceToNat] at ho53; rw [← Ny244.out] at ho53))
                have n0_ := Az.mk (Kd.R_elder' (by (with_reducible repeat (first | apply Kd.R_alloc | apply Kd.R_drewN | apply Kd.R_drew)); exact HO243.out) (Kd.R_base ho53) hb)
                have n1_ := Az.mk (Kd.R_lower (Kd.R_newB (Kd.R_new' (Kd.R_newM (M := fun k_ => (w.heap.size ≤ k_)) ho53 (pbZ (by repeat (first | (with_reducible first | exact HB.out | apply pbA | apply pbN | apply pb1 | refine pbS ?_ GE233.out | refine pbS ?_ GE234.out | refine pbS ?_ GE238.out) | exact HB.out))) (fun k_ h_ => h_)) (Kd.R_lt (by (with_reducible repeat (first | apply Kd.R_alloc | apply Kd.R_drewN | apply Kd.R_drew)); exact HO243.out))) (g := gb238) (o := .cells #[.int .i64 t235, .int .i64 t236] 60 (0, 0)) (by (with_reducible repeat (first | refine bkN ?_ _ | refine bkD ?_ | refine bkA ?_ _)); exact BK238.out)) (pbZ (by repeat (first | (with_reducible first | exact HB.out | apply pbA | apply pbN | apply pb1 | refine pbS ?_ GE233.out | refine pbS ?_ GE234.out | refine pbS ?_ GE238.out) | exact HB.out))))
                have n2_ := Az.mk (bkB (g := gb233) (o := .cells #[.int .i64 a0_0, .string a0_1, .string a0_2, .int .i64 a0_3, .slice A0_4 l0_4.length c0_4, .int .i64 a0_5] 26 (0, 0)) (by (with_reducible repeat (first | refine bkN ?_ _ | refine bkD ?_ | refine bkA ?_ _)); exact BK233.out) hb)
                have n3_ := Az.mk (bkB (g := gb234) (o := .cells #[.int .i64 0, .string (⟨#[]⟩ : ByteArray), .string (⟨#[]⟩ : ByteArray), .int .i64 0, .slice none 0 0, .int .i64 0] 26 (0, 0)) (by (with_reducible repeat (first | refine bkN ?_ _ | refine bkD ?_ | refine bkA ?_ _)); exact BK234.out) hb)
                have n4_ := Az.mk (bkB (g := gb238) (o := .cells #[.int .i64 t235, .int .i64 t236] 60 (0, 0)) (by (with_reducible repeat (first | refine bkN ?_ _ | refine bkD ?_ | refine bkA ?_ _)); exact BK238.out) hb)
                have n5_ := Az.mk (pbT (by repeat (first | (with_reducible first | exact HB.out | apply pbA | apply pbN | apply pb1 | refine pbS ?_ GE233.out | refine pbS ?_ GE234.out | refine pbS ?_ GE238.out) | exact HB.out)) hb)
                clear HO243
                clear BK233
                clear BK234
                clear BK238
                clear HB
                have HO243 := n0_
                have HO246 := n1_
                have BK233 := n2_
                have BK234 := n3_
                have BK238 := n4_
                have HB := n5_
                clear n0_ n1_ n2_ n3_ n4_ n5_
                clear hb ho53
                refine hK.out _ _ ⟨(bkC BK233.out 0).trans rfl, (bkC BK233.out 1).trans rfl, (bkC BK233.out 2).trans rfl, (bkC BK233.out 3).trans rfl, (bkC BK233.out 4).trans rfl, (bkC BK233.out 5).trans rfl⟩ (fun hHeld => ?_)
                clear hK K
                refine norm_ (a' := ?_) ?_ ?_
                rotate_left
                · show Act.put _ (some 40) _ = _
                  simp only [Act.put, List.setIfInBounds_toArray, List.set_cons_zero, List.set_cons_succ, i64_w, i32_w]
                  rfl
                exact norm_ (by simp only [putAll, Act.put, List.setIfInBounds_toArray, List.set_cons_zero, List.set_cons_succ]) (hCont (v242, v245) _ ⟨hHeld, (by (with_reducible repeat (first | apply Kd.R_alloc | apply Kd.R_drewN | apply Kd.R_drew)); exact Kd.R_mono HO243.out (fun _ hk => ⟨hk.1.1.1, ⟨hk.2, hk.1.2⟩⟩)), (by (with_reducible repeat (first | apply Kd.R_alloc | apply Kd.R_drewN | apply Kd.R_drew)); exact Kd.R_mono HO246.out (fun _ hk => ⟨hk.1.1.1, ⟨hk.1.2, hk.2⟩⟩)), (by (with_reducible repeat (first | refine bkN ?_ _ | refine bkD ?_ | refine bkA ?_ _)); exact BK233.out), (by (with_reducible repeat (first | refine bkN ?_ _ | refine bkD ?_ | refine bkA ?_ _)); exact BK234.out), (by (with_reducible repeat (first | refine bkN ?_ _ | refine bkD ?_ | refine bkA ?_ _)); exact BK238.out), (by repeat (first | (with_reducible first | exact HB.out | apply pbA | apply pbN | apply pb1 | refine pbS ?_ GE233.out | refine pbS ?_ GE234.out | refine pbS ?_ GE238.out) | exact HB.out))⟩)
              · skip
                refine Kd.R_lit_step k60 _ 60 ?hg (N := 40) ?hd (xs := ([(⟨a1, a0_5⟩ : S60)] : List (S60))) (inner := [.int .i64 a1, .int .i64 a0_5]) (ok := fun _ => True) (okp := fun _ => True) ?hr ?hp (fun _ hk => hk) trivial (Below.refl _ _) (Nat.le_refl _) (by simp) ?_; (case hd => rfl); (case hg => rfl); (case hr => first | (go_simp; done) | (go_simp; rfl)); (case hp => exact (Reps.c2 (show Kd.M k60 _ _ _ (⟨a1, a0_5⟩ : S60) [.int .i64 a1, .int .i64 a0_5] from (k60_mkM _ _ _ (⟨a1, a0_5⟩ : S60) )) (Reps.none _ _)))
                intro v245 w51 ho52 hb hg_ hnew_
                clear hg_ hnew_
                (first | rw [← Ny244.out] at ho52 | (simp only [Int.reduceToNat] at ho52; rw [← Ny244.out] at ho52))
                have n0_ := Az.mk (Kd.R_lower (Kd.R_newB (Kd.R_newM (M := fun k_ => (w.heap.size ≤ k_)) ho52 (pbZ (by repeat (first | (with_reducible first | exact HB.out | apply pbA | apply pbN | apply pb1 | refine pbS ?_ GE233.out | refine pbS ?_ GE234.out | refine pbS ?_ GE238.out) | exact HB.out))) (fun k_ h_ => h_)) (g := gb238) (o := .cells #[.int .i64 t235, .int .i64 t236] 60 (0, 0)) (by (with_reducible repeat (first | refine bkN ?_ _ | refine bkD ?_ | refine bkA ?_ _)); exact BK238.out)) (pbZ (by repeat (first | (with_reducible first | exact HB.out | apply pbA | apply pbN | apply pb1 | refine pbS ?_ GE233.out | refine pbS ?_ GE234.out | refine pbS ?_ GE238.out) | exact HB.out))))
                have n1_ := Az.mk (bkB (g := gb233) (o := .cells #[.int .i64 a0_0, .string a0_1, .string a0_2, .int .i64 a0_3, .slice A0_4 l0_4.length c0_4, .int .i64 a0_5] 26 (0, 0)) (by (with_reducible repeat (first | refine bkN ?_ _ | refine bkD ?_ | refine bkA ?_ _)); exact BK233.out) hb)
                have n2_ := Az.mk (bkB (g := gb234) (o := .cells #[.int .i64 0, .string (⟨#[]⟩ : ByteArray), .string (⟨#[]⟩ : ByteArray), .int .i64 0, .slice none 0 0, .int .i64 0] 26 (0, 0)) (by (with_reducible repeat (first | refine bkN ?_ _ | refine bkD ?_ | refine bkA ?_ _)); exact BK234.out) hb)
                have n3_ := Az.mk (bkB (g := gb238) (o := .cells #[.int .i64 t235, .int .i64 t236] 60 (0, 0)) (by (with_reducible repeat (first | refine bkN ?_ _ | refine bkD ?_ | refine bkA ?_ _)); exact BK238.out) hb)
                have n4_ := Az.mk (pbT (by repeat (first | (with_reducible first | exact HB.out | apply pbA | apply pbN | apply pb1 | refine pbS ?_ GE233.out | refine pbS ?_ GE234.out | refine pbS ?_ GE238.out) | exact HB.out)) hb)
                clear BK233
                clear BK234
                clear BK238
                clear HB
                have HO246 := n0_
                have BK233 := n1_
                have BK234 := n2_
                have BK238 := n3_
                have HB := n4_
                clear n0_ n1_ n2_ n3_ n4_
                clear hb ho52
                refine hK.out _ _ ⟨(bkC BK233.out 0).trans rfl, (bkC BK233.out 1).trans rfl, (bkC BK233.out 2).trans rfl, (bkC BK233.out 3).trans rfl, (bkC BK233.out 4).trans rfl, (bkC BK233.out 5).trans rfl⟩ (fun hHeld => ?_)
                clear hK K
                refine norm_ (a' := ?_) ?_ ?_
                rotate_left
                · show Act.put _ (some 40) _ = _
                  simp only [Act.put, List.setIfInBounds_toArray, List.set_cons_zero, List.set_cons_succ, i64_w, i32_w]
                  rfl
                refine one_ (i := 2) (N := some 35) #[true, true, true, true, true, true, true, true, false, false, false] rfl rfl (one_of HT_.out (by kernel_rfl)) (by decide) (fun K hK => ?_)
                refine goes_ Tryd.func33 (by kernel_rfl) rfl #[.slice A0_4 l0_4.length c0_4] (by rfl) rfl rfl (by (try simp only [List.map_toArray, List.map_cons, List.map_nil]); first | done | rfl | (simp only [List.length_drop, List.length_take]; rfl)) ?_
                with_reducible refine (api_Member_33.calls _ _ l0_4 t241 _ ?side1 ?side2 ?side3 A35.out).mono ?_
                (case side1 => exact hG.below (by repeat (first | (with_reducible first | exact HB.out | apply pbA | apply pbN | apply pb1 | refine pbS ?_ GE233.out | refine pbS ?_ GE234.out | refine pbS ?_ GE238.out) | exact HB.out)))
                (case side2 => repeat (first | exact (Kd.C_below HR0_4.out HB.out) | (with_reducible refine Kd.C_alloc ?_ _) | (with_reducible refine Kd.C_drewN ?_ _) | (with_reducible refine Kd.C_drew ?_)))
                (case side3 => exact HC0_4.out)
                rintro e w53 ⟨v242, rfl, ho0, hb⟩
                refine ⟨_, rfl, ?_⟩
                have n0_ := Az.mk (Kd.R_elder' (by (with_reducible repeat (first | apply Kd.R_alloc | apply Kd.R_drewN | apply Kd.R_drew)); exact HO246.out) (Kd.R_base ho0) hb)
                have n1_ := Az.mk (Kd.R_lower (Kd.R_newB (Kd.R_new' (Kd.R_newM (M := fun k_ => (w.heap.size ≤ k_)) (Kd.R_mono (ok' := fun k_ => True) ho0 (fun _ hk_ => trivial)) (pbZ (by repeat (first | (with_reducible first | exact HB.out | apply pbA | apply pbN | apply pb1 | refine pbS ?_ GE233.out | refine pbS ?_ GE234.out | refine pbS ?_ GE238.out) | exact HB.out))) (fun k_ h_ => h_)) (Kd.R_lt (by (with_reducible repeat (first | apply Kd.R_alloc | apply Kd.R_drewN | apply Kd.R_drew)); exact HO246.out))) (g := gb238) (o := .cells #[.int .i64 t235, .int .i64 t236] 60 (0, 0)) (by (with_reducible repeat (first | refine bkN ?_ _ | refine bkD ?_ | refine bkA ?_ _)); exact BK238.out)) (pbZ (by repeat (first | (with_reducible first | exact HB.out | apply pbA | apply pbN | apply pb1 | refine pbS ?_ GE233.out | refine pbS ?_ GE234.out | refine pbS ?_ GE238.out) | exact HB.out))))
                have n2_ := Az.mk (bkB (g := gb233) (o := .cells #[.int .i64 a0_0, .string a0_1, .string a0_2, .int .i64 a0_3, .slice A0_4 l0_4.length c0_4, .int .i64 a0_5] 26 (0, 0)) (by (with_reducible repeat (first | refine bkN ?_ _ | refine bkD ?_ | refine bkA ?_ _)); exact BK233.out) hb)
                have n3_ := Az.mk (bkB (g := gb234) (o := .cells #[.int .i64 0, .string (⟨#[]⟩ : ByteArray), .string (⟨#[]⟩ : ByteArray), .int .i64 0, .slice none 0 0, .int .i64 0] 26 (0, 0)) (by (with_reducible repeat (first | refine bkN ?_ _ | refine bkD ?_ | refine bkA ?_ _)); exact BK234.out) hb)
                have n4_ := Az.mk (bkB (g := gb238) (o := .cells #[.int .i64 t235, .int .i64 t236] 60 (0, 0)) (by (with_reducible repeat (first | refine bkN ?_ _ | refine bkD ?_ | refine bkA ?_ _)); exact BK238.out) hb)
                have n5_ := Az.mk (pbT (by repeat (first | (with_reducible first | exact HB.out | apply pbA | apply pbN | apply pb1 | refine pbS ?_ GE233.out | refine pbS ?_ GE234.out | refine pbS ?_ GE238.out) | exact HB.out)) hb)
                clear HO246
                clear BK233
                clear BK234
                clear BK238
                clear HB
                have HO246 := n0_
                have HO243 := n1_
                have BK233 := n2_
                have BK234 := n3_
                have BK238 := n4_
                have HB := n5_
                clear n0_ n1_ n2_ n3_ n4_ n5_
                (try clear hb)
                (try clear hb2)
                (try clear hk)
                (try clear hi)
                (try clear ho0)
                refine hK.out _ _ ⟨(bkC BK233.out 0).trans rfl, (bkC BK233.out 1).trans rfl, (bkC BK233.out 2).trans rfl, (bkC BK233.out 3).trans rfl, (bkC BK233.out 4).trans rfl, (bkC BK233.out 5).trans rfl⟩ (fun hHeld => ?_)
                clear hK K
                refine norm_ (a' := ?_) ?_ ?_
                rotate_left
                · show Act.put _ (some 35) _ = _
                  simp only [Act.put, List.setIfInBounds_toArray, List.set_cons_zero, List.set_cons_succ, i64_w, i32_w]
                  rfl
                exact norm_ (by simp only [putAll, Act.put, List.setIfInBounds_toArray, List.set_cons_zero, List.set_cons_succ]) (hCont (v242, v245) _ ⟨hHeld, (by (with_reducible repeat (first | apply Kd.R_alloc | apply Kd.R_drewN | apply Kd.R_drew)); exact Kd.R_mono HO243.out (fun _ hk => ⟨hk.1.1.1, ⟨hk.1.2, hk.2⟩⟩)), (by (with_reducible repeat (first | apply Kd.R_alloc | apply Kd.R_drewN | apply Kd.R_drew)); exact Kd.R_mono HO246.out (fun _ hk => ⟨hk.1.1.1, ⟨hk.2, hk.1.2⟩⟩)), (by (with_reducible repeat (first | refine bkN ?_ _ | refine bkD ?_ | refine bkA ?_ _)); exact BK233.out), (by (with_reducible repeat (first | refine bkN ?_ _ | refine bkD ?_ | refine bkA ?_ _)); exact BK234.out), (by (with_reducible repeat (first | refine bkN ?_ _ | refine bkD ?_ | refine bkA ?_ _)); exact BK238.out), (by repeat (first | (with_reducible first | exact HB.out | apply pbA | apply pbN | apply pb1 | refine pbS ?_ GE233.out | refine pbS ?_ GE234.out | refine pbS ?_ GE238.out) | exact HB.out))⟩)
            rintro ⟨v242, v245⟩ w54 ⟨hS_, h0_, h1_, h2_, h3_, h4_, h5_⟩
            have n0_ : Az (Kd.R k60 60 w54 w.heap.size (fun k_ => (w.heap.size ≤ k_) ∧ some k_ ≠ (v245 : Value).ownBlock ∧ k_ ≠ gb238) v242 t241) := ⟨h0_⟩
            have n1_ : Az (Kd.R k60 60 w54 w.heap.size (fun k_ => (w.heap.size ≤ k_) ∧ some k_ ≠ (v242 : Value).ownBlock ∧ k_ ≠ gb238) v245 y244) := ⟨h1_⟩
            have n2_ : Az (w54.heap[gb233]? = some (.cells #[.int .i64 a0_0, .string a0_1, .string a0_2, .int .i64 a0_3, .slice A0_4 l0_4.length c0_4, .int .i64 a0_5] 26 (0, 0))) := ⟨h2_⟩
            have n3_ : Az (w54.heap[gb234]? = some (.cells #[.int .i64 0, .string (⟨#[]⟩ : ByteArray), .string (⟨#[]⟩ : ByteArray), .int .i64 0, .slice none 0 0, .int .i64 0] 26 (0, 0))) := ⟨h3_⟩
            have n4_ : Az (w54.heap[gb238]? = some (.cells #[.int .i64 t235, .int .i64 t236] 60 (0, 0))) := ⟨h4_⟩
            have n5_ : Az (Below w.heap.size w w54) := ⟨h5_⟩
            clear BK233
            clear BK234
            clear BK238
            clear HB
            clear h0_ h1_ h2_ h3_ h4_ h5_
            have HO243 := n0_
            have HO246 := n1_
            have BK233 := n2_
            have BK234 := n3_
            have BK238 := n4_
            have HB := n5_
            clear n0_ n1_ n2_ n3_ n4_ n5_
            have hHeld : w54.cell? ⟨gb233, 0, none⟩ = some (.int .i64 a0_0) ∧ w54.cell? ⟨gb233, 1, none⟩ = some (.string a0_1) ∧ w54.cell? ⟨gb233, 2, none⟩ = some (.string a0_2) ∧ w54.cell? ⟨gb233, 3, none⟩ = some (.int .i64 a0_3) ∧ w54.cell? ⟨gb233, 4, none⟩ = some (.slice A0_4 l0_4.length c0_4) ∧ w54.cell? ⟨gb233, 5, none⟩ = some (.int .i64 a0_5) := hS_
            obtain ⟨Ao56, co56, eo56⟩ := Kd.R_slice HO246.out
            (first | subst eo56 | (injection eo56 with f1_ f2_ f3_; have f4_ := f1_.symm; have f5_ := f3_.symm; clear f1_ f2_ f3_; subst f4_; subst f5_))
            refine norm_ (a' := ?_) ?_ ?_
            rotate_left
            · simp only [putAll, Act.put, List.setIfInBounds_toArray, List.set_cons_zero, List.set_cons_succ]
              rfl
            refine one_ (i := 8) (N := some 41) #[true, true, true, true, true, true, true, true, true, false, false] rfl rfl (one_of HT_.out (by kernel_rfl)) (by decide) (fun K hK => ?_)
            refine Kd.R_append_rows_step k60 (w0 := w) w.heap.size (by rfl) (.tmp 35) (.tmp 40) 24 60 (.agg #[(.int .i64 0), (.int .i64 0)]) 16 rfl Tryd.underlying24 info60 rfl (by decide) (by omega) v242 t241 y244 _ _ _ (fun k_ => (w.heap.size ≤ k_) ∧ some k_ ≠ (.slice Ao56 y244.length co56 : Value).ownBlock ∧ k_ ≠ gb238) (fun _ => False) rfl rfl ?aO ?aR (fun _ _ h => h) (fun _ h => h.elim) ?aF ?aB ?aS ?aL ?_
            (case aR => repeat (first | exact (Kd.R_reads' HO246.out).2.2 | (with_reducible refine Kd.C_alloc ?_ _) | (with_reducible refine Kd.C_drewN ?_ _) | (with_reducible refine Kd.C_drew ?_)))
            (case aB => exact (by repeat (first | (with_reducible first | exact HB.out | apply pbA | apply pbN | apply pb1 | refine pbS ?_ GE233.out | refine pbS ?_ GE234.out | refine pbS ?_ GE238.out) | exact HB.out)))
            (case aF => exact (fun k_ hk => ⟨(Nat.le_trans (pbZ (by repeat (first | (with_reducible first | exact HB.out | apply pbA | apply pbN | apply pb1 | refine pbS ?_ GE233.out | refine pbS ?_ GE234.out | refine pbS ?_ GE238.out) | exact HB.out))) hk), Kd.fresh' (Kd.R_lt (by (with_reducible repeat (first | apply Kd.R_alloc | apply Kd.R_drewN | apply Kd.R_drew)); exact HO246.out)) k_ hk, Kd.freshB (g := gb238) (o := .cells #[.int .i64 t235, .int .i64 t236] 60 (0, 0)) (by (with_reducible repeat (first | refine bkN ?_ _ | refine bkD ?_ | refine bkA ?_ _)); exact BK238.out) k_ hk⟩))
            (case aO => exact (by (with_reducible repeat (first | apply Kd.R_alloc | apply Kd.R_drewN | apply Kd.R_drew)); exact HO243.out))
            (case aS => exact (pbZ (by repeat (first | (with_reducible first | exact HB.out | apply pbA | apply pbN | apply pb1 | refine pbS ?_ GE233.out | refine pbS ?_ GE234.out | refine pbS ?_ GE238.out) | exact HB.out))))
            (case aL => have := LMc36.out; omega)
            intro v248 w55 ho hb hg hat
            rw [← Ny247.out] at ho
            have n0_ := Az.mk (blk_grown (g := gb233) (o := .cells #[.int .i64 a0_0, .string a0_1, .string a0_2, .int .i64 a0_3, .slice A0_4 l0_4.length c0_4, .int .i64 a0_5] 26 (0, 0)) (by (with_reducible repeat (first | refine bkN ?_ _ | refine bkD ?_ | refine bkA ?_ _)); exact BK233.out) hg (Kd.R_ne HO243.out BK233.out (by decide)))
            have n1_ := Az.mk (blk_grown (g := gb234) (o := .cells #[.int .i64 0, .string (⟨#[]⟩ : ByteArray), .string (⟨#[]⟩ : ByteArray), .int .i64 0, .slice none 0 0, .int .i64 0] 26 (0, 0)) (by (with_reducible repeat (first | refine bkN ?_ _ | refine bkD ?_ | refine bkA ?_ _)); exact BK234.out) hg (Kd.R_ne HO243.out BK234.out (by decide)))
            have n2_ := Az.mk (blk_grown (g := gb238) (o := .cells #[.int .i64 t235, .int .i64 t236] 60 (0, 0)) (by (with_reducible repeat (first | refine bkN ?_ _ | refine bkD ?_ | refine bkA ?_ _)); exact BK238.out) hg (Kd.R_away HO243.out (fun _ hk => hk.2.2)))
            have n3_ := Az.mk (Kd.R_after (ok := (fun k_ => (w.heap.size ≤ k_) ∧ k_ ≠ gb238)) (by (with_reducible repeat (first | apply Kd.R_alloc | apply Kd.R_drewN | apply Kd.R_drew)); exact Kd.R_mono HO246.out (fun _ hk => ⟨⟨hk.1, hk.2.2⟩, hk.2.1⟩)) hg hat)
            have n4_ := Az.mk (hb)
            have n5_ := Az.mk (ho)
            clear BK233
            clear BK234
            clear BK238
            clear HO246
            clear HB
            clear HO243
            have BK233 := n0_
            have BK234 := n1_
            have BK238 := n2_
            have HO246 := n3_
            have HB := n4_
            have HO249 := n5_
            clear n0_ n1_ n2_ n3_ n4_ n5_
            clear ho hb hg hat
            obtain ⟨Ao57, co57, eo57⟩ := Kd.R_slice HO249.out
            (first | subst eo57 | (injection eo57 with f1_ f2_ f3_; have f4_ := f1_.symm; have f5_ := f3_.symm; clear f1_ f2_ f3_; subst f4_; subst f5_))
            refine hK.out _ _ ⟨(bkC BK233.out 0).trans rfl, (bkC BK233.out 1).trans rfl, (bkC BK233.out 2).trans rfl, (bkC BK233.out 3).trans rfl, (bkC BK233.out 4).trans rfl, (bkC BK233.out 5).trans rfl⟩ (fun hHeld => ?_)
            clear hK K
            refine norm_ (a' := ?_) ?_ ?_
            rotate_left
            · show Act.put _ (some 41) _ = _
              simp only [Act.put, List.setIfInBounds_toArray, List.set_cons_zero, List.set_cons_succ, i64_w, i32_w]
              rfl
            refine pure_ (i := 9) (N := some 42) (v := ?_) (a' := ?_) #[true, true, true, true, true, true, true, true, true, true, false] rfl rfl (any_of HT_.out (by kernel_rfl)) (fun _ _ _ h => h) (Or.inl ⟨by rfl, ?_⟩) ?_ ?_
            rotate_left
            · intro w'
              go_simp
              with_reducible rfl
            rotate_left
            · simp only [Act.put, List.setIfInBounds_toArray, List.set_cons_zero, List.set_cons_succ, i64_w, i32_w]
              rfl
            refine last_ (i := 10) (N := none) #[true, true, true, true, true, true, true, true, true, true, true] rfl rfl (one_of HT_.out (by kernel_rfl)) (by decide) (fun K hK => ?_)
            have hs58 : w55.cell? ⟨gb233, 4, none⟩ = some (.slice A0_4 l0_4.length c0_4) := (bkC BK233.out 4).trans rfl
            have hfs58 := bkF BK233.out 4
            have hns58_1 := NB234_233.out
            have hns58_2 := NB238_233.out
            have hms58_1 := NB233_234.out
            have hms58_2 := NB233_238.out
            refine skip_ (w1 := ?_) (by rfl) rfl ?_ ?_
            rotate_left
            · go_simp
              rfl
            refine hK.out _ _ ?_
            clear hK K
            refine done_ (done_of HT_.out (by kernel_rfl)) ?_
            have n0_ : Az (Kd.R k60 60 (w55.setCell ⟨gb233, 4, none⟩ (.slice Ao57 y247.length co57)) w.heap.size (fun k_ => (w.heap.size ≤ k_) ∧ some k_ ≠ (.slice Ao57 y247.length co57 : Value).ownBlock ∧ k_ ≠ gb238) (.slice Ao56 y244.length co56) y244) := ⟨by (with_reducible repeat (first | apply Kd.R_alloc | apply Kd.R_drewN | apply Kd.R_drew)); exact Kd.R_mono (Kd.R_far (p := ⟨gb233, 4, none⟩) (Kd.R_types HO246.out BK233.out (by decide)) (fun _ hk => hk.2) (.slice Ao57 y247.length co57)) (fun _ hk => ⟨hk.1.1.1, ⟨hk.1.2, hk.1.1.2⟩⟩)⟩
            have n1_ : Az (Kd.R k60 60 (w55.setCell ⟨gb233, 4, none⟩ (.slice Ao57 y247.length co57)) w.heap.size (fun k_ => (w.heap.size ≤ k_) ∧ some k_ ≠ (.slice Ao56 y244.length co56 : Value).ownBlock ∧ k_ ≠ gb238) (.slice Ao57 y247.length co57) y247) := ⟨by (with_reducible repeat (first | apply Kd.R_alloc | apply Kd.R_drewN | apply Kd.R_drew)); exact Kd.R_mono (Kd.R_far (p := ⟨gb233, 4, none⟩) (Kd.R_types HO249.out BK233.out (by decide)) (fun _ hk => hk.2) (.slice Ao57 y247.length co57)) (fun _ hk => ⟨hk.1.1, ⟨hk.1.2.1, hk.1.2.2⟩⟩)⟩
            have n2_ : Az ((w55.setCell ⟨gb233, 4, none⟩ (.slice Ao57 y247.length co57)).heap[gb233]? = some (.cells #[.int .i64 a0_0, .string a0_1, .string a0_2, .int .i64 a0_3, .slice Ao57 y247.length co57, .int .i64 a0_5] 26 (0, 0))) := ⟨by (with_reducible repeat (first | refine bkN ?_ _ | refine bkD ?_ | refine bkA ?_ _)); refine blk_put (cs := #[.int .i64 a0_0, .string a0_1, .string a0_2, .int .i64 a0_3, .slice A0_4 l0_4.length c0_4, .int .i64 a0_5]) ?_ 4 _ rfl; (with_reducible repeat (first | refine bkN ?_ _ | refine bkD ?_ | refine bkA ?_ _)); exact BK233.out⟩
            have n3_ : Az ((w55.setCell ⟨gb233, 4, none⟩ (.slice Ao57 y247.length co57)).heap[gb234]? = some (.cells #[.int .i64 0, .string (⟨#[]⟩ : ByteArray), .string (⟨#[]⟩ : ByteArray), .int .i64 0, .slice none 0 0, .int .i64 0] 26 (0, 0))) := ⟨by (with_reducible repeat (first | refine bkN ?_ _ | refine bkD ?_ | refine bkA ?_ _)); refine blk_far ?_ NB234_233.out _; (with_reducible repeat (first | refine bkN ?_ _ | refine bkD ?_ | refine bkA ?_ _)); exact BK234.out⟩
            have n4_ : Az ((w55.setCell ⟨gb233, 4, none⟩ (.slice Ao57 y247.length co57)).heap[gb238]? = some (.cells #[.int .i64 t235, .int .i64 t236] 60 (0, 0))) := ⟨by (with_reducible repeat (first | refine bkN ?_ _ | refine bkD ?_ | refine bkA ?_ _)); refine blk_far ?_ NB238_233.out _; (with_reducible repeat (first | refine bkN ?_ _ | refine bkD ?_ | refine bkA ?_ _)); exact BK238.out⟩
            have n5_ : Az (Below w.heap.size w (w55.setCell ⟨gb233, 4, none⟩ (.slice Ao57 y247.length co57))) := ⟨by repeat (first | (with_reducible first | exact HB.out | apply pbA | apply pbN | apply pb1 | refine pbS ?_ GE233.out | refine pbS ?_ GE234.out | refine pbS ?_ GE238.out) | exact HB.out)⟩
            (try clear HO246)
            (try clear HO249)
            (try clear BK233)
            (try clear BK234)
            (try clear BK238)
            (try clear HB)
            generalize (w55.setCell ⟨gb233, 4, none⟩ (.slice Ao57 y247.length co57)) = w59 at n0_ n1_ n2_ n3_ n4_ n5_ ⊢
            have HO246 := n0_
            have HO249 := n1_
            have BK233 := n2_
            have BK234 := n3_
            have BK238 := n4_
            have HB := n5_
            clear n0_ n1_ n2_ n3_ n4_ n5_
            have hcz60_0 : w59.cell? ⟨gb233, 0, none⟩ = some (.int .i64 a0_0) := (bkC BK233.out 0).trans rfl
            have hcz60_1 : w59.cell? ⟨gb233, 1, none⟩ = some (.string a0_1) := (bkC BK233.out 1).trans rfl
            have hcz60_2 : w59.cell? ⟨gb233, 2, none⟩ = some (.string a0_2) := (bkC BK233.out 2).trans rfl
            have hcz60_3 : w59.cell? ⟨gb233, 3, none⟩ = some (.int .i64 a0_3) := (bkC BK233.out 3).trans rfl
            have hcz60_4 : w59.cell? ⟨gb233, 4, none⟩ = some (.slice Ao57 y247.length co57) := (bkC BK233.out 4).trans rfl
            have hcz60_5 : w59.cell? ⟨gb233, 5, none⟩ = some (.int .i64 a0_5) := (bkC BK233.out 5).trans rfl
            have hfz60_0 := bkF BK233.out 0
            have hfz60_1 := bkF BK233.out 1
            have hfz60_2 := bkF BK233.out 2
            have hfz60_3 := bkF BK233.out 3
            have hfz60_4 := bkF BK233.out 4
            have hfz60_5 := bkF BK233.out 5
            try go_wp2_with (first | ((with_reducible refine gate_store (t := 2) (p := 46) rfl ?_); refine store_event (t := 2) (p := 46) (v := ?vo_w61) (w1 := (w59.setCell ⟨gb233, 5, none⟩ (.int .i64 (wrap64 (a0_5 + 1))))) ?hg ?ho ?hn ?hr ?_; (case ho => rfl); (case hg => rfl); (case hn => rfl); (case hr => first | (go_simp; done) | (go_simp; rfl)); intro w61 hw; have n0_ : Az (Kd.R k60 60 w61 w.heap.size (fun k_ => (w.heap.size ≤ k_) ∧ some k_ ≠ (.slice Ao57 y247.length co57 : Value).ownBlock ∧ k_ ≠ gb238) (.slice Ao56 y244.length co56) y244) := ⟨(by rw [hw]; exact (by (with_reducible repeat (first | apply Kd.R_alloc | apply Kd.R_drewN | apply Kd.R_drew)); exact Kd.R_mono (Kd.R_far (p := ⟨gb233, 5, none⟩) (Kd.R_types HO246.out BK233.out (by decide)) (fun _ hk => hk.2) (.int .i64 (wrap64 (a0_5 + 1)))) (fun _ hk => ⟨hk.1.1, ⟨hk.1.2.1, hk.1.2.2⟩⟩)))⟩; have n1_ : Az (Kd.R k60 60 w61 w.heap.size (fun k_ => (w.heap.size ≤ k_) ∧ some k_ ≠ (.slice Ao56 y244.length co56 : Value).ownBlock ∧ k_ ≠ gb238) (.slice Ao57 y247.length co57) y247) := ⟨(by rw [hw]; exact (by (with_reducible repeat (first | apply Kd.R_alloc | apply Kd.R_drewN | apply Kd.R_drew)); exact Kd.R_mono (Kd.R_far (p := ⟨gb233, 5, none⟩) (Kd.R_types HO249.out BK233.out (by decide)) (fun _ hk => hk.2) (.int .i64 (wrap64 (a0_5 + 1)))) (fun _ hk => ⟨hk.1.1, ⟨hk.1.2.1, hk.1.2.2⟩⟩)))⟩; have n2_ : Az (w61.heap[gb233]? = some (.cells #[.int .i64 a0_0, .string a0_1, .string a0_2, .int .i64 a0_3, .slice Ao57 y247.length co57, .int .i64 (wrap64 (a0_5 + 1))] 26 (0, 0))) := ⟨(by rw [hw]; exact (by (with_reducible repeat (first | refine bkN ?_ _ | refine bkD ?_ | refine bkA ?_ _)); refine blk_put (cs := #[.int .i64 a0_0, .string a0_1, .string a0_2, .int .i64 a0_3, .slice Ao57 y247.length co57, .int .i64 a0_5]) ?_ 5 _ rfl; (with_reducible repeat (first | refine bkN ?_ _ | refine bkD ?_ | refine bkA ?_ _)); exact BK233.out))⟩; have n3_ : Az (w61.heap[gb234]? = some (.cells #[.int .i64 0, .string (⟨#[]⟩ : ByteArray), .string (⟨#[]⟩ : ByteArray), .int .i64 0, .slice none 0 0, .int .i64 0] 26 (0, 0))) := ⟨(by rw [hw]; exact (by (with_reducible repeat (first | refine bkN ?_ _ | refine bkD ?_ | refine bkA ?_ _)); refine blk_far ?_ NB234_233.out _; (with_reducible repeat (first | refine bkN ?_ _ | refine bkD ?_ | refine bkA ?_ _)); exact BK234.out))⟩; have n4_ : Az (w61.heap[gb238]? = some (.cells #[.int .i64 t235, .int .i64 t236] 60 (0, 0))) := ⟨(by rw [hw]; exact (by (with_reducible repeat (first | refine bkN ?_ _ | refine bkD ?_ | refine bkA ?_ _)); refine blk_far ?_ NB238_233.out _; (with_reducible repeat (first | refine bkN ?_ _ | refine bkD ?_ | refine bkA ?_ _)); exact BK238.out))⟩; have n5_ : Az (Below w.heap.size w w61) := ⟨(by rw [hw]; exact (by repeat (first | (with_reducible first | exact HB.out | apply pbA | apply pbN | apply pb1 | refine pbS ?_ GE233.out | refine pbS ?_ GE234.out | refine pbS ?_ GE238.out) | exact HB.out)))⟩; clear hw; clear HO246; clear HO249; clear BK233; clear BK234; clear BK238; clear HB; have HO246 := n0_; have HO249 := n1_; have BK233 := n2_; have BK234 := n3_; have BK238 := n4_; have HB := n5_; clear n0_ n1_ n2_ n3_ n4_ n5_; have hcz62_0 : w61.cell? ⟨gb233, 0, none⟩ = some (.int .i64 a0_0) := (bkC BK233.out 0).trans rfl; have hcz62_1 : w61.cell? ⟨gb233, 1, none⟩ = some (.string a0_1) := (bkC BK233.out 1).trans rfl; have hcz62_2 : w61.cell? ⟨gb233, 2, none⟩ = some (.string a0_2) := (bkC BK233.out 2).trans rfl; have hcz62_3 : w61.cell? ⟨gb233, 3, none⟩ = some (.int .i64 a0_3) := (bkC BK233.out 3).trans rfl; have hcz62_4 : w61.cell? ⟨gb233, 4, none⟩ = some (.slice Ao57 y247.length co57) := (bkC BK233.out 4).trans rfl; have hcz62_5 : w61.cell? ⟨gb233, 5, none⟩ = some (.int .i64 (wrap64 (a0_5 + 1))) := (bkC BK233.out 5).trans rfl; have hfz62_0 := bkF BK233.out 0; have hfz62_1 := bkF BK233.out 1; have hfz62_2 := bkF BK233.out 2; have hfz62_3 := bkF BK233.out 3; have hfz62_4 := bkF BK233.out 4; have hfz62_5 := bkF BK233.out 5) | ((with_reducible refine gate_store (t := 2) (p := 50) rfl ?_); refine store_event (t := 2) (p := 50) (v := ?vo_w63) (w1 := (w61.setCell ⟨gb233, 3, none⟩ (.int .i64 (wrap64 (a0_3 + 1))))) ?hg ?ho ?hn ?hr ?_; (case ho => rfl); (case hg => rfl); (case hn => rfl); (case hr => first | (go_simp; done) | (go_simp; rfl)); intro w63 hw; have n0_ : Az (Kd.R k60 60 w63 w.heap.size (fun k_ => (w.heap.size ≤ k_) ∧ some k_ ≠ (.slice Ao57 y247.length co57 : Value).ownBlock ∧ k_ ≠ gb238) (.slice Ao56 y244.length co56) y244) := ⟨(by rw [hw]; exact (by (with_reducible repeat (first | apply Kd.R_alloc | apply Kd.R_drewN | apply Kd.R_drew)); exact Kd.R_mono (Kd.R_far (p := ⟨gb233, 3, none⟩) (Kd.R_types HO246.out BK233.out (by decide)) (fun _ hk => hk.2) (.int .i64 (wrap64 (a0_3 + 1)))) (fun _ hk => ⟨hk.1.1, ⟨hk.1.2.1, hk.1.2.2⟩⟩)))⟩; have n1_ : Az (Kd.R k60 60 w63 w.heap.size (fun k_ => (w.heap.size ≤ k_) ∧ some k_ ≠ (.slice Ao56 y244.length co56 : Value).ownBlock ∧ k_ ≠ gb238) (.slice Ao57 y247.length co57) y247) := ⟨(by rw [hw]; exact (by (with_reducible repeat (first | apply Kd.R_alloc | apply Kd.R_drewN | apply Kd.R_drew)); exact Kd.R_mono (Kd.R_far (p := ⟨gb233, 3, none⟩) (Kd.R_types HO249.out BK233.out (by decide)) (fun _ hk => hk.2) (.int .i64 (wrap64 (a0_3 + 1)))) (fun _ hk => ⟨hk.1.1, ⟨hk.1.2.1, hk.1.2.2⟩⟩)))⟩; have n2_ : Az (w63.heap[gb233]? = some (.cells #[.int .i64 a0_0, .string a0_1, .string a0_2, .int .i64 (wrap64 (a0_3 + 1)), .slice Ao57 y247.length co57, .int .i64 (wrap64 (a0_5 + 1))] 26 (0, 0))) := ⟨(by rw [hw]; exact (by (with_reducible repeat (first | refine bkN ?_ _ | refine bkD ?_ | refine bkA ?_ _)); refine blk_put (cs := #[.int .i64 a0_0, .string a0_1, .string a0_2, .int .i64 a0_3, .slice Ao57 y247.length co57, .int .i64 (wrap64 (a0_5 + 1))]) ?_ 3 _ rfl; (with_reducible repeat (first | refine bkN ?_ _ | refine bkD ?_ | refine bkA ?_ _)); exact BK233.out))⟩; have n3_ : Az (w63.heap[gb234]? = some (.cells #[.int .i64 0, .string (⟨#[]⟩ : ByteArray), .string (⟨#[]⟩ : ByteArray), .int .i64 0, .slice none 0 0, .int .i64 0] 26 (0, 0))) := ⟨(by rw [hw]; exact (by (with_reducible repeat (first | refine bkN ?_ _ | refine bkD ?_ | refine bkA ?_ _)); refine blk_far ?_ NB234_233.out _; (with_reducible repeat (first | refine bkN ?_ _ | refine bkD ?_ | refine bkA ?_ _)); exact BK234.out))⟩; have n4_ : Az (w63.heap[gb238]? = some (.cells #[.int .i64 t235, .int .i64 t236] 60 (0, 0))) := ⟨(by rw [hw]; exact (by (with_reducible repeat (first | refine bkN ?_ _ | refine bkD ?_ | refine bkA ?_ _)); refine blk_far ?_ NB238_233.out _; (with_reducible repeat (first | refine bkN ?_ _ | refine bkD ?_ | refine bkA ?_ _)); exact BK238.out))⟩; have n5_ : Az (Below w.heap.size w w63) := ⟨(by rw [hw]; exact (by repeat (first | (with_reducible first | exact HB.out | apply pbA | apply pbN | apply pb1 | refine pbS ?_ GE233.out | refine pbS ?_ GE234.out | refine pbS ?_ GE238.out) | exact HB.out)))⟩; clear hw; clear HO246; clear HO249; clear BK233; clear BK234; clear BK238; clear HB; have HO246 := n0_; have HO249 := n1_; have BK233 := n2_; have BK234 := n3_; have BK238 := n4_; have HB := n5_; clear n0_ n1_ n2_ n3_ n4_ n5_; have hcz64_0 : w63.cell? ⟨gb233, 0, none⟩ = some (.int .i64 a0_0) := (bkC BK233.out 0).trans rfl; have hcz64_1 : w63.cell? ⟨gb233, 1, none⟩ = some (.string a0_1) := (bkC BK233.out 1).trans rfl; have hcz64_2 : w63.cell? ⟨gb233, 2, none⟩ = some (.string a0_2) := (bkC BK233.out 2).trans rfl; have hcz64_3 : w63.cell? ⟨gb233, 3, none⟩ = some (.int .i64 (wrap64 (a0_3 + 1))) := (bkC BK233.out 3).trans rfl; have hcz64_4 : w63.cell? ⟨gb233, 4, none⟩ = some (.slice Ao57 y247.length co57) := (bkC BK233.out 4).trans rfl; have hcz64_5 : w63.cell? ⟨gb233, 5, none⟩ = some (.int .i64 (wrap64 (a0_5 + 1))) := (bkC BK233.out 5).trans rfl; have hfz64_0 := bkF BK233.out 0; have hfz64_1 := bkF BK233.out 1; have hfz64_2 := bkF BK233.out 2; have hfz64_3 := bkF BK233.out 3; have hfz64_4 := bkF BK233.out 4; have hfz64_5 := bkF BK233.out 5) | ((with_reducible refine gtc (f := 37) rfl ?_); refine goesL_ (some 52) rfl rfl Tryd.func37 (by kernel_rfl) rfl #[.agg #[.int .i64 a0_0, .string a0_1, .string a0_2, .int .i64 (wrap64 (a0_3 + 1)), .slice Ao57 y247.length co57, .int .i64 (wrap64 (a0_5 + 1))]] rfl (by (try simp only [List.map_toArray, List.map_cons, List.map_nil]); first | done | rfl | (simp only [List.length_drop, List.length_take]; rfl)) ?_; (with_reducible refine (desc_right.calls a0_0 a0_1 a0_2 (wrap64 (a0_3 + 1)) (fun k_ => some k_ = (.slice Ao57 y247.length co57 : Value).ownBlock) _ _ y247 (wrap64 (a0_5 + 1)) t250 t251 t252 t253 t254 t257 t258 _ ?side1 ?side2 A37.out).mono ?_); (case side1 => exact hG.below (by repeat (first | (with_reducible first | exact HB.out | apply pbA | apply pbN | apply pb1 | refine pbS ?_ GE233.out | refine pbS ?_ GE234.out | refine pbS ?_ GE238.out) | exact HB.out))); (case side2 => exact Kd.R_V (Kd.R_tight rfl (Kd.R_types (Kd.R_types (HO249.out) BK233.out (by decide)) BK234.out (by decide)))); rintro e w65 ⟨v255, rfl, ho0, hb⟩; refine ⟨_, rfl, ?_⟩; have n0_ := Az.mk (Kd.R_below (by (with_reducible repeat (first | apply Kd.R_alloc | apply Kd.R_drewN | apply Kd.R_drew)); exact HO246.out) hb); have n1_ := Az.mk (Kd.R_below (by (with_reducible repeat (first | apply Kd.R_alloc | apply Kd.R_drewN | apply Kd.R_drew)); exact HO249.out) hb); have n2_ := Az.mk (Kd.V_lower (Kd.V_mono (ok' := fun k_ => (w.heap.size ≤ k_) ∧ some k_ ≠ (.slice Ao56 y244.length co56 : Value).ownBlock ∧ k_ ≠ gb233 ∧ k_ ≠ gb234 ∧ k_ ≠ gb238) ho0 (fun k_ hk_ => ⟨Or.elim hk_ (fun hs_ => ((Kd.R_types (Kd.R_types (HO249.out) BK233.out (by decide)) BK234.out (by decide)).1 k_ hs_.symm).1.1.1) (fun hn_ => (Nat.le_trans (pbZ (by repeat (first | (with_reducible first | exact HB.out | apply pbA | apply pbN | apply pb1 | refine pbS ?_ GE233.out | refine pbS ?_ GE234.out | refine pbS ?_ GE238.out) | exact HB.out))) hn_)), Or.elim hk_ (fun hs_ => ((Kd.R_types (Kd.R_types (HO249.out) BK233.out (by decide)) BK234.out (by decide)).1 k_ hs_.symm).1.1.2.1) (fun hn_ => (Kd.fresh' (Kd.R_lt (by (with_reducible repeat (first | apply Kd.R_alloc | apply Kd.R_drewN | apply Kd.R_drew)); exact HO246.out)) k_ hn_)), Or.elim hk_ (fun hs_ => ((Kd.R_types (Kd.R_types (HO249.out) BK233.out (by decide)) BK234.out (by decide)).1 k_ hs_.symm).1.2) (fun hn_ => (Kd.freshB (g := gb233) (o := .cells #[.int .i64 a0_0, .string a0_1, .string a0_2, .int .i64 (wrap64 (a0_3 + 1)), .slice Ao57 y247.length co57, .int .i64 (wrap64 (a0_5 + 1))] 26 (0, 0)) (by (with_reducible repeat (first | refine bkN ?_ _ | refine bkD ?_ | refine bkA ?_ _)); exact BK233.out) k_ hn_)), Or.elim hk_ (fun hs_ => ((Kd.R_types (Kd.R_types (HO249.out) BK233.out (by decide)) BK234.out (by decide)).1 k_ hs_.symm).2) (fun hn_ => (Kd.freshB (g := gb234) (o := .cells #[.int .i64 0, .string (⟨#[]⟩ : ByteArray), .string (⟨#[]⟩ : ByteArray), .int .i64 0, .slice none 0 0, .int .i64 0] 26 (0, 0)) (by (with_reducible repeat (first | refine bkN ?_ _ | refine bkD ?_ | refine bkA ?_ _)); exact BK234.out) k_ hn_)), Or.elim hk_ (fun hs_ => ((Kd.R_types (Kd.R_types (HO249.out) BK233.out (by decide)) BK234.out (by decide)).1 k_ hs_.symm).1.1.2.2) (fun hn_ => (Kd.freshB (g := gb238) (o := .cells #[.int .i64 t235, .int .i64 t236] 60 (0, 0)) (by (with_reducible repeat (first | refine bkN ?_ _ | refine bkD ?_ | refine bkA ?_ _)); exact BK238.out) k_ hn_))⟩)) (pbZ (by repeat (first | (with_reducible first | exact HB.out | apply pbA | apply pbN | apply pb1 | refine pbS ?_ GE233.out | refine pbS ?_ GE234.out | refine pbS ?_ GE238.out) | exact HB.out)))); have n3_ := Az.mk (bkB (g := gb233) (o := .cells #[.int .i64 a0_0, .string a0_1, .string a0_2, .int .i64 (wrap64 (a0_3 + 1)), .slice Ao57 y247.length co57, .int .i64 (wrap64 (a0_5 + 1))] 26 (0, 0)) (by (with_reducible repeat (first | refine bkN ?_ _ | refine bkD ?_ | refine bkA ?_ _)); exact BK233.out) hb); have n4_ := Az.mk (bkB (g := gb234) (o := .cells #[.int .i64 0, .string (⟨#[]⟩ : ByteArray), .string (⟨#[]⟩ : ByteArray), .int .i64 0, .slice none 0 0, .int .i64 0] 26 (0, 0)) (by (with_reducible repeat (first | refine bkN ?_ _ | refine bkD ?_ | refine bkA ?_ _)); exact BK234.out) hb); have n5_ := Az.mk (bkB (g := gb238) (o := .cells #[.int .i64 t235, .int .i64 t236] 60 (0, 0)) (by (with_reducible repeat (first | refine bkN ?_ _ | refine bkD ?_ | refine bkA ?_ _)); exact BK238.out) hb); have n6_ := Az.mk (pbT (by repeat (first | (with_reducible first | exact HB.out | apply pbA | apply pbN | apply pb1 | refine pbS ?_ GE233.out | refine pbS ?_ GE234.out | refine pbS ?_ GE238.out) | exact HB.out)) hb); clear HO246; clear HO249; clear BK233; clear BK234; clear BK238; clear HB; have HO246 := n0_; have HO249 := n1_; have HO256 := n2_; have BK233 := n3_; have BK234 := n4_; have BK238 := n5_; have HB := n6_; clear n0_ n1_ n2_ n3_ n4_ n5_ n6_; (try clear hb); (try clear hb2); (try clear hk); (try clear hi); (try clear ho0); have hcz66_0 : w65.cell? ⟨gb234, 0, none⟩ = some (.int .i64 0) := (bkC BK234.out 0).trans rfl; have hcz66_1 : w65.cell? ⟨gb234, 1, none⟩ = some (.string (⟨#[]⟩ : ByteArray)) := (bkC BK234.out 1).trans rfl; have hcz66_2 : w65.cell? ⟨gb234, 2, none⟩ = some (.string (⟨#[]⟩ : ByteArray)) := (bkC BK234.out 2).trans rfl; have hcz66_3 : w65.cell? ⟨gb234, 3, none⟩ = some (.int .i64 0) := (bkC BK234.out 3).trans rfl; have hcz66_4 : w65.cell? ⟨gb234, 4, none⟩ = some (.slice none 0 0) := (bkC BK234.out 4).trans rfl; have hcz66_5 : w65.cell? ⟨gb234, 5, none⟩ = some (.int .i64 0) := (bkC BK234.out 5).trans rfl; have hfz66_0 := bkF BK234.out 0; have hfz66_1 := bkF BK234.out 1; have hfz66_2 := bkF BK234.out 2; have hfz66_3 := bkF BK234.out 3; have hfz66_4 := bkF BK234.out 4; have hfz66_5 := bkF BK234.out 5; obtain ⟨Ao67, co67, eo67⟩ := Kd.V_slice HO256.out; subst eo67))
            refine bodyPost_ret (results_ct rfl _ _ gb234 26 #[.int .i64 t250, .string t251, .string t252, .int .i64 t253, .slice Ao67 t254.length co67, .int .i64 t257] (0, 0) _ rfl (by (with_reducible repeat (first | refine bkN ?_ _ | refine bkD ?_ | refine bkA ?_ _)); refine blk_put (cs := #[.int .i64 t250, .string t251, .string t252, .int .i64 t253, .slice Ao67 t254.length co67, .int .i64 0]) ?_ 5 _ rfl; (with_reducible repeat (first | refine bkN ?_ _ | refine bkD ?_ | refine bkA ?_ _)); refine blk_put (cs := #[.int .i64 t250, .string t251, .string t252, .int .i64 t253, .slice none 0 0, .int .i64 0]) ?_ 4 _ rfl; (with_reducible repeat (first | refine bkN ?_ _ | refine bkD ?_ | refine bkA ?_ _)); refine blk_put (cs := #[.int .i64 t250, .string t251, .string t252, .int .i64 0, .slice none 0 0, .int .i64 0]) ?_ 3 _ rfl; (with_reducible repeat (first | refine bkN ?_ _ | refine bkD ?_ | refine bkA ?_ _)); refine blk_put (cs := #[.int .i64 t250, .string t251, .string (⟨#[]⟩ : ByteArray), .int .i64 0, .slice none 0 0, .int .i64 0]) ?_ 2 _ rfl; (with_reducible repeat (first | refine bkN ?_ _ | refine bkD ?_ | refine bkA ?_ _)); refine blk_put (cs := #[.int .i64 t250, .string (⟨#[]⟩ : ByteArray), .string (⟨#[]⟩ : ByteArray), .int .i64 0, .slice none 0 0, .int .i64 0]) ?_ 1 _ rfl; (with_reducible repeat (first | refine bkN ?_ _ | refine bkD ?_ | refine bkA ?_ _)); refine blk_put (cs := #[.int .i64 0, .string (⟨#[]⟩ : ByteArray), .string (⟨#[]⟩ : ByteArray), .int .i64 0, .slice none 0 0, .int .i64 0]) ?_ 0 _ rfl; (with_reducible repeat (first | refine bkN ?_ _ | refine bkD ?_ | refine bkA ?_ _)); exact BK234.out) Tryd.underlying26 rfl (by kernel_rfl)) rfl ?_
            exact ⟨_, by first | rfl | (simp [errW_none, errW_some] <;> rfl) | (simp [*, errW_none, errW_some] <;> rfl), by (with_reducible repeat (first | apply Kd.V_alloc | apply Kd.V_drewN | apply Kd.V_drew)); exact Kd.V_mono (Kd.V_far (p := ⟨gb234, 5, none⟩) (Kd.V_far (p := ⟨gb234, 4, none⟩) (Kd.V_far (p := ⟨gb234, 3, none⟩) (Kd.V_far (p := ⟨gb234, 2, none⟩) (Kd.V_far (p := ⟨gb234, 1, none⟩) (Kd.V_far (p := ⟨gb234, 0, none⟩) (Kd.V_mono HO256.out (fun k_ hk => (⟨hk, hk.2.2.2.1⟩ : _ ∧ k_ ≠ gb234))) (fun _ hk => hk.2) (.int .i64 t250)) (fun _ hk => hk.2) (.string t251)) (fun _ hk => hk.2) (.string t252)) (fun _ hk => hk.2) (.int .i64 t253)) (fun _ hk => hk.2) (.slice Ao67 t254.length co67)) (fun _ hk => hk.2) (.int .i64 t257)) (fun _ hk => hk.1.1), by repeat (first | (with_reducible first | exact HB.out | apply pbA | apply pbN | apply pb1 | refine pbS ?_ GE233.out | refine pbS ?_ GE234.out | refine pbS ?_ GE238.out) | exact HB.out)⟩
          · rw [if_neg c36] at H
            exact absurd H (by simp)
    · replace c7 := Bool.eq_false_iff.mpr c7
      subst c7
      have H1 : (some (0, (⟨#[]⟩ : ByteArray), (⟨#[]⟩ : ByteArray), 0, ([] : List (S60)), 0, 2)) = some (r1, r2, r3, r4, r5, r6, r7) := by rw [if_neg (show ¬ (false = true) by decide)] at H; exact H
      clear H
      have H := H1
      clear H1
      simp only [Option.some.injEq, Prod.mk.injEq] at H
      obtain ⟨rfl, rfl, rfl, rfl, rfl, rfl, rfl⟩ := H
      go_enter Tryd.func25, Tryd.ntmps25
      go_wp2_with (first | ((with_reducible refine gate_dst (N := 2) rfl ?_); refine box_event ?hg (N := 2) ?hd (cs := #[.int .i64 a0_0, .string a0_1, .string a0_2, .int .i64 a0_3, .slice A0_4 l0_4.length c0_4, .int .i64 a0_5]) (t := 26) ?hr ?_; (case hd => rfl); (case hg => rfl); (case hr => first | (go_simp; done) | (go_simp; rfl)); intro gb233 hg w68 hbox hb; have n0_ := Az.mk (pbT (by repeat (first | (with_reducible first | exact HB.out | apply pbA | apply pbN | apply pb1) | exact HB.out)) hb); have n1_ := Az.mk (hbox); have n2_ := Az.mk ((by rw [hg]; exact (pbZ (by repeat (first | (with_reducible first | exact HB.out | apply pbA | apply pbN | apply pb1) | exact HB.out))) : w.heap.size ≤ gb233)); have n3_ := Az.mk ((by rw [hg]; exact (pbZ (by repeat (first | (with_reducible first | exact HB.out | apply pbA | apply pbN | apply pb1) | exact HB.out))) : w.heap.size ≤ gb233)); clear HB; have HB := n0_; have BK233 := n1_; have GW233 := n2_; have GE233 := n3_; clear n0_ n1_ n2_ n3_; clear hb hbox hg) | ((with_reducible refine gate_dst (N := 4) rfl ?_); refine box_event ?hg (N := 4) ?hd (cs := #[.int .i64 0, .string (⟨#[]⟩ : ByteArray), .string (⟨#[]⟩ : ByteArray), .int .i64 0, .slice none 0 0, .int .i64 0]) (t := 26) ?hr ?_; (case hd => rfl); (case hg => rfl); (case hr => first | (go_simp; done) | (go_simp; rfl)); intro gb234 hg w69 hbox hb; have n0_ := Az.mk (bkB (g := gb233) (o := .cells #[.int .i64 a0_0, .string a0_1, .string a0_2, .int .i64 a0_3, .slice A0_4 l0_4.length c0_4, .int .i64 a0_5] 26 (0, 0)) (by (with_reducible repeat (first | refine bkN ?_ _ | refine bkD ?_ | refine bkA ?_ _)); exact BK233.out) hb); have n1_ := Az.mk (pbT (by repeat (first | (with_reducible first | exact HB.out | apply pbA | apply pbN | apply pb1 | refine pbS ?_ GE233.out) | exact HB.out)) hb); have n2_ := Az.mk (hbox); have n3_ := Az.mk ((by rw [hg]; exact (pbZ (by repeat (first | (with_reducible first | exact HB.out | apply pbA | apply pbN | apply pb1 | refine pbS ?_ GE233.out) | exact HB.out))) : w.heap.size ≤ gb234)); have n4_ := Az.mk ((by rw [hg]; exact (pbZ (by repeat (first | (with_reducible first | exact HB.out | apply pbA | apply pbN | apply pb1 | refine pbS ?_ GE233.out) | exact HB.out))) : w.heap.size ≤ gb234)); have n5_ := Az.mk ((by rw [hg]; exact Nat.ne_of_lt (blk_lt (g := gb233) (o := .cells #[.int .i64 a0_0, .string a0_1, .string a0_2, .int .i64 a0_3, .slice A0_4 l0_4.length c0_4, .int .i64 a0_5] 26 (0, 0)) (by (with_reducible repeat (first | refine bkN ?_ _ | refine bkD ?_ | refine bkA ?_ _)); exact BK233.out)) : gb233 ≠ gb234)); have n6_ := Az.mk ((by rw [hg]; exact Nat.ne_of_gt (blk_lt (g := gb233) (o := .cells #[.int .i64 a0_0, .string a0_1, .string a0_2, .int .i64 a0_3, .slice A0_4 l0_4.length c0_4, .int .i64 a0_5] 26 (0, 0)) (by (with_reducible repeat (first | refine bkN ?_ _ | refine bkD ?_ | refine bkA ?_ _)); exact BK233.out)) : gb234 ≠ gb233)); clear BK233; clear HB; have BK233 := n0_; have HB := n1_; have BK234 := n2_; have GW234 := n3_; have GE234 := n4_; have NB233_234 := n5_; have NB234_233 := n6_; clear n0_ n1_ n2_ n3_ n4_ n5_ n6_; clear hb hbox hg; have hnb70 := NB233_234.out; have hnc70 := NB234_233.out; have hcz71_0 : w69.cell? ⟨gb233, 0, none⟩ = some (.int .i64 a0_0) := (bkC BK233.out 0).trans rfl; have hcz71_1 : w69.cell? ⟨gb233, 1, none⟩ = some (.string a0_1) := (bkC BK233.out 1).trans rfl; have hcz71_2 : w69.cell? ⟨gb233, 2, none⟩ = some (.string a0_2) := (bkC BK233.out 2).trans rfl; have hcz71_3 : w69.cell? ⟨gb233, 3, none⟩ = some (.int .i64 a0_3) := (bkC BK233.out 3).trans rfl; have hcz71_4 : w69.cell? ⟨gb233, 4, none⟩ = some (.slice A0_4 l0_4.length c0_4) := (bkC BK233.out 4).trans rfl; have hcz71_5 : w69.cell? ⟨gb233, 5, none⟩ = some (.int .i64 a0_5) := (bkC BK233.out 5).trans rfl; have hfz71_0 := bkF BK233.out 0; have hfz71_1 := bkF BK233.out 1; have hfz71_2 := bkF BK233.out 2; have hfz71_3 := bkF BK233.out 3; have hfz71_4 := bkF BK233.out 4; have hfz71_5 := bkF BK233.out 5) | ((with_reducible refine gtc (f := 30) rfl ?_); refine goesL_ (some 11) rfl rfl Tryd.func30 (by kernel_rfl) rfl #[.agg #[.int .i64 a0_0, .string a0_1, .string a0_2, .int .i64 a0_3, .slice A0_4 l0_4.length c0_4, .int .i64 a0_5], .int .i64 a1] rfl (by (try simp only [List.map_toArray, List.map_cons, List.map_nil]); first | done | rfl | (simp only [List.length_drop, List.length_take]; rfl)) ?_; (with_reducible refine (desc_On.calls a0_0 a0_1 a0_2 a0_3 _ _ l0_4 a0_5 a1 t235 t236 t237 _ ?side1 ?side2 ?side3 A3.out).mono ?_); (case side1 => exact hG.below (by repeat (first | (with_reducible first | exact HB.out | apply pbA | apply pbN | apply pb1 | refine pbS ?_ GE233.out | refine pbS ?_ GE234.out) | exact HB.out))); (case side2 => repeat (first | exact (Kd.C_below HR0_4.out HB.out) | (with_reducible refine Kd.C_alloc ?_ _) | (with_reducible refine Kd.C_drewN ?_ _) | (with_reducible refine Kd.C_drew ?_))); (case side3 => exact HC0_4.out); rintro e w72 ⟨rfl, hb⟩; refine ⟨_, rfl, ?_⟩; have n0_ := Az.mk (bkB (g := gb233) (o := .cells #[.int .i64 a0_0, .string a0_1, .string a0_2, .int .i64 a0_3, .slice A0_4 l0_4.length c0_4, .int .i64 a0_5] 26 (0, 0)) (by (with_reducible repeat (first | refine bkN ?_ _ | refine bkD ?_ | refine bkA ?_ _)); exact BK233.out) hb); have n1_ := Az.mk (bkB (g := gb234) (o := .cells #[.int .i64 0, .string (⟨#[]⟩ : ByteArray), .string (⟨#[]⟩ : ByteArray), .int .i64 0, .slice none 0 0, .int .i64 0] 26 (0, 0)) (by (with_reducible repeat (first | refine bkN ?_ _ | refine bkD ?_ | refine bkA ?_ _)); exact BK234.out) hb); have n2_ := Az.mk (pbT (by repeat (first | (with_reducible first | exact HB.out | apply pbA | apply pbN | apply pb1 | refine pbS ?_ GE233.out | refine pbS ?_ GE234.out) | exact HB.out)) hb); clear BK233; clear BK234; clear HB; have BK233 := n0_; have BK234 := n1_; have HB := n2_; clear n0_ n1_ n2_; (try clear hb); (try clear hb2); (try clear hk); (try clear hi)) | ((with_reducible refine gate_dst (N := 6) rfl ?_); refine box_event ?hg (N := 6) ?hd (cs := #[.int .i64 0, .int .i64 0]) (t := 60) ?hr ?_; (case hd => rfl); (case hg => rfl); (case hr => first | (go_simp; done) | (go_simp; rfl)); intro gb238 hg w73 hbox hb; have n0_ := Az.mk (bkB (g := gb233) (o := .cells #[.int .i64 a0_0, .string a0_1, .string a0_2, .int .i64 a0_3, .slice A0_4 l0_4.length c0_4, .int .i64 a0_5] 26 (0, 0)) (by (with_reducible repeat (first | refine bkN ?_ _ | refine bkD ?_ | refine bkA ?_ _)); exact BK233.out) hb); have n1_ := Az.mk (bkB (g := gb234) (o := .cells #[.int .i64 0, .string (⟨#[]⟩ : ByteArray), .string (⟨#[]⟩ : ByteArray), .int .i64 0, .slice none 0 0, .int .i64 0] 26 (0, 0)) (by (with_reducible repeat (first | refine bkN ?_ _ | refine bkD ?_ | refine bkA ?_ _)); exact BK234.out) hb); have n2_ := Az.mk (pbT (by repeat (first | (with_reducible first | exact HB.out | apply pbA | apply pbN | apply pb1 | refine pbS ?_ GE233.out | refine pbS ?_ GE234.out) | exact HB.out)) hb); have n3_ := Az.mk (hbox); have n4_ := Az.mk ((by rw [hg]; exact (pbZ (by repeat (first | (with_reducible first | exact HB.out | apply pbA | apply pbN | apply pb1 | refine pbS ?_ GE233.out | refine pbS ?_ GE234.out) | exact HB.out))) : w.heap.size ≤ gb238)); have n5_ := Az.mk ((by rw [hg]; exact (pbZ (by repeat (first | (with_reducible first | exact HB.out | apply pbA | apply pbN | apply pb1 | refine pbS ?_ GE233.out | refine pbS ?_ GE234.out) | exact HB.out))) : w.heap.size ≤ gb238)); have n6_ := Az.mk ((by rw [hg]; exact Nat.ne_of_lt (blk_lt (g := gb233) (o := .cells #[.int .i64 a0_0, .string a0_1, .string a0_2, .int .i64 a0_3, .slice A0_4 l0_4.length c0_4, .int .i64 a0_5] 26 (0, 0)) (by (with_reducible repeat (first | refine bkN ?_ _ | refine bkD ?_ | refine bkA ?_ _)); exact BK233.out)) : gb233 ≠ gb238)); have n7_ := Az.mk ((by rw [hg]; exact Nat.ne_of_gt (blk_lt (g := gb233) (o := .cells #[.int .i64 a0_0, .string a0_1, .string a0_2, .int .i64 a0_3, .slice A0_4 l0_4.length c0_4, .int .i64 a0_5] 26 (0, 0)) (by (with_reducible repeat (first | refine bkN ?_ _ | refine bkD ?_ | refine bkA ?_ _)); exact BK233.out)) : gb238 ≠ gb233)); have n8_ := Az.mk ((by rw [hg]; exact Nat.ne_of_lt (blk_lt (g := gb234) (o := .cells #[.int .i64 0, .string (⟨#[]⟩ : ByteArray), .string (⟨#[]⟩ : ByteArray), .int .i64 0, .slice none 0 0, .int .i64 0] 26 (0, 0)) (by (with_reducible repeat (first | refine bkN ?_ _ | refine bkD ?_ | refine bkA ?_ _)); exact BK234.out)) : gb234 ≠ gb238)); have n9_ := Az.mk ((by rw [hg]; exact Nat.ne_of_gt (blk_lt (g := gb234) (o := .cells #[.int .i64 0, .string (⟨#[]⟩ : ByteArray), .string (⟨#[]⟩ : ByteArray), .int .i64 0, .slice none 0 0, .int .i64 0] 26 (0, 0)) (by (with_reducible repeat (first | refine bkN ?_ _ | refine bkD ?_ | refine bkA ?_ _)); exact BK234.out)) : gb238 ≠ gb234)); clear BK233; clear BK234; clear HB; have BK233 := n0_; have BK234 := n1_; have HB := n2_; have BK238 := n3_; have GW238 := n4_; have GE238 := n5_; have NB233_238 := n6_; have NB238_233 := n7_; have NB234_238 := n8_; have NB238_234 := n9_; clear n0_ n1_ n2_ n3_ n4_ n5_ n6_ n7_ n8_ n9_; clear hb hbox hg; have hnb74 := NB238_233.out; have hnc74 := NB233_238.out; have hnb75 := NB238_234.out; have hnc75 := NB234_238.out; have hcz76_0 : w73.cell? ⟨gb238, 0, none⟩ = some (.int .i64 0) := (bkC BK238.out 0).trans rfl; have hcz76_1 : w73.cell? ⟨gb238, 1, none⟩ = some (.int .i64 0) := (bkC BK238.out 1).trans rfl; have hfz76_0 := bkF BK238.out 0; have hfz76_1 := bkF BK238.out 1; have hcz77_0 : w73.cell? ⟨gb233, 0, none⟩ = some (.int .i64 a0_0) := (bkC BK233.out 0).trans rfl; have hcz77_1 : w73.cell? ⟨gb233, 1, none⟩ = some (.string a0_1) := (bkC BK233.out 1).trans rfl; have hcz77_2 : w73.cell? ⟨gb233, 2, none⟩ = some (.string a0_2) := (bkC BK233.out 2).trans rfl; have hcz77_3 : w73.cell? ⟨gb233, 3, none⟩ = some (.int .i64 a0_3) := (bkC BK233.out 3).trans rfl; have hcz77_4 : w73.cell? ⟨gb233, 4, none⟩ = some (.slice A0_4 l0_4.length c0_4) := (bkC BK233.out 4).trans rfl; have hcz77_5 : w73.cell? ⟨gb233, 5, none⟩ = some (.int .i64 a0_5) := (bkC BK233.out 5).trans rfl; have hfz77_0 := bkF BK233.out 0; have hfz77_1 := bkF BK233.out 1; have hfz77_2 := bkF BK233.out 2; have hfz77_3 := bkF BK233.out 3; have hfz77_4 := bkF BK233.out 4; have hfz77_5 := bkF BK233.out 5) | ((with_reducible refine gtc (f := 22) rfl ?_); refine goesL_ (some 16) rfl rfl Tryd.func22 (by kernel_rfl) rfl #[.agg #[.int .i64 a0_0, .string a0_1, .string a0_2, .int .i64 a0_3, .slice A0_4 l0_4.length c0_4, .int .i64 a0_5]] rfl (by (try simp only [List.map_toArray, List.map_cons, List.map_nil]); first | done | rfl | (simp only [List.length_drop, List.length_take]; rfl)) ?_; (with_reducible refine (desc_Check.calls a0_0 a0_1 a0_2 a0_3 _ _ l0_4 a0_5 t239 _ ?side1 ?side2 ?side3 A4.out).mono ?_); (case side1 => exact hG.below (by repeat (first | (with_reducible first | exact HB.out | apply pbA | apply pbN | apply pb1 | refine pbS ?_ GE233.out | refine pbS ?_ GE234.out | refine pbS ?_ GE238.out) | exact HB.out))); (case side2 => exact Kd.C_below HR0_4.out (by repeat (first | (with_reducible first | exact HB.out | apply pbA | apply pbN | apply pb1 | refine pbS ?_ GE233.out | refine pbS ?_ GE234.out | refine pbS ?_ GE238.out) | exact HB.out))); (case side3 => exact HC0_4.out); rintro e w78 ⟨rfl, hb⟩; refine ⟨_, rfl, ?_⟩; have n0_ := Az.mk (bkB (g := gb233) (o := .cells #[.int .i64 a0_0, .string a0_1, .string a0_2, .int .i64 a0_3, .slice A0_4 l0_4.length c0_4, .int .i64 a0_5] 26 (0, 0)) (by (with_reducible repeat (first | refine bkN ?_ _ | refine bkD ?_ | refine bkA ?_ _)); refine blk_far ?_ NB233_238.out _; (with_reducible repeat (first | refine bkN ?_ _ | refine bkD ?_ | refine bkA ?_ _)); refine blk_far ?_ NB233_238.out _; (with_reducible repeat (first | refine bkN ?_ _ | refine bkD ?_ | refine bkA ?_ _)); exact BK233.out) hb); have n1_ := Az.mk (bkB (g := gb234) (o := .cells #[.int .i64 0, .string (⟨#[]⟩ : ByteArray), .string (⟨#[]⟩ : ByteArray), .int .i64 0, .slice none 0 0, .int .i64 0] 26 (0, 0)) (by (with_reducible repeat (first | refine bkN ?_ _ | refine bkD ?_ | refine bkA ?_ _)); refine blk_far ?_ NB234_238.out _; (with_reducible repeat (first | refine bkN ?_ _ | refine bkD ?_ | refine bkA ?_ _)); refine blk_far ?_ NB234_238.out _; (with_reducible repeat (first | refine bkN ?_ _ | refine bkD ?_ | refine bkA ?_ _)); exact BK234.out) hb); have n2_ := Az.mk (bkB (g := gb238) (o := .cells #[.int .i64 t235, .int .i64 t236] 60 (0, 0)) (by (with_reducible repeat (first | refine bkN ?_ _ | refine bkD ?_ | refine bkA ?_ _)); refine blk_put (cs := #[.int .i64 t235, .int .i64 0]) ?_ 1 _ rfl; (with_reducible repeat (first | refine bkN ?_ _ | refine bkD ?_ | refine bkA ?_ _)); refine blk_put (cs := #[.int .i64 0, .int .i64 0]) ?_ 0 _ rfl; (with_reducible repeat (first | refine bkN ?_ _ | refine bkD ?_ | refine bkA ?_ _)); exact BK238.out) hb); have n3_ := Az.mk (pbT (by repeat (first | (with_reducible first | exact HB.out | apply pbA | apply pbN | apply pb1 | refine pbS ?_ GE233.out | refine pbS ?_ GE234.out | refine pbS ?_ GE238.out) | exact HB.out)) hb); clear BK233; clear BK234; clear BK238; clear HB; have BK233 := n0_; have BK234 := n1_; have BK238 := n2_; have HB := n3_; clear n0_ n1_ n2_ n3_; (try clear hb); (try clear hb2); (try clear hk); (try clear hi)) | ((with_reducible refine gtc (f := 49) rfl ?_); refine goesL_ (some 21) rfl rfl Tryd.func49 (by kernel_rfl) rfl #[.int .i64 a1] rfl (by (try simp only [List.map_toArray, List.map_cons, List.map_nil]); first | done | rfl | (simp only [List.length_drop, List.length_take]; rfl)) ?_; (with_reducible refine (desc_isNode.calls a1 false _ ?side1 A6.out).mono ?_); (case side1 => exact hG.below (by repeat (first | (with_reducible first | exact HB.out | apply pbA | apply pbN | apply pb1 | refine pbS ?_ GE233.out | refine pbS ?_ GE234.out | refine pbS ?_ GE238.out) | exact HB.out))); rintro e w' ⟨rfl, ⟨nd, rfl⟩⟩; refine ⟨_, rfl, ?_⟩; (try (rw [drewN_self w78]; generalize hq_ : World.drewN w78 _ = w78; have n0_ : Az (w78.heap[gb233]? = some (.cells #[.int .i64 a0_0, .string a0_1, .string a0_2, .int .i64 a0_3, .slice A0_4 l0_4.length c0_4, .int .i64 a0_5] 26 (0, 0))) := ⟨by rw [← hq_]; exact (by (with_reducible repeat (first | refine bkN ?_ _ | refine bkD ?_ | refine bkA ?_ _)); exact BK233.out)⟩; have n1_ : Az (w78.heap[gb234]? = some (.cells #[.int .i64 0, .string (⟨#[]⟩ : ByteArray), .string (⟨#[]⟩ : ByteArray), .int .i64 0, .slice none 0 0, .int .i64 0] 26 (0, 0))) := ⟨by rw [← hq_]; exact (by (with_reducible repeat (first | refine bkN ?_ _ | refine bkD ?_ | refine bkA ?_ _)); exact BK234.out)⟩; have n2_ : Az (w78.heap[gb238]? = some (.cells #[.int .i64 t235, .int .i64 t236] 60 (0, 0))) := ⟨by rw [← hq_]; exact (by (with_reducible repeat (first | refine bkN ?_ _ | refine bkD ?_ | refine bkA ?_ _)); exact BK238.out)⟩; have n3_ : Az (Below w.heap.size w w78) := ⟨by rw [← hq_]; exact (by repeat (first | (with_reducible first | exact HB.out | apply pbA | apply pbN | apply pb1 | refine pbS ?_ GE233.out | refine pbS ?_ GE234.out | refine pbS ?_ GE238.out) | exact HB.out))⟩; clear BK233 BK234 BK238 HB hq_; have BK233 := n0_; have BK234 := n1_; have BK238 := n2_; have HB := n3_; clear n0_ n1_ n2_ n3_)); have hcz79_0 : w78.cell? ⟨gb234, 0, none⟩ = some (.int .i64 0) := (bkC BK234.out 0).trans rfl; have hcz79_1 : w78.cell? ⟨gb234, 1, none⟩ = some (.string (⟨#[]⟩ : ByteArray)) := (bkC BK234.out 1).trans rfl; have hcz79_2 : w78.cell? ⟨gb234, 2, none⟩ = some (.string (⟨#[]⟩ : ByteArray)) := (bkC BK234.out 2).trans rfl; have hcz79_3 : w78.cell? ⟨gb234, 3, none⟩ = some (.int .i64 0) := (bkC BK234.out 3).trans rfl; have hcz79_4 : w78.cell? ⟨gb234, 4, none⟩ = some (.slice none 0 0) := (bkC BK234.out 4).trans rfl; have hcz79_5 : w78.cell? ⟨gb234, 5, none⟩ = some (.int .i64 0) := (bkC BK234.out 5).trans rfl; have hfz79_0 := bkF BK234.out 0; have hfz79_1 := bkF BK234.out 1; have hfz79_2 := bkF BK234.out 2; have hfz79_3 := bkF BK234.out 3; have hfz79_4 := bkF BK234.out 4; have hfz79_5 := bkF BK234.out 5))
      refine bodyPost_ret (results_ct rfl _ _ gb234 26 #[.int .i64 0, .string (⟨#[]⟩ : ByteArray), .string (⟨#[]⟩ : ByteArray), .int .i64 0, .slice none 0 0, .int .i64 0] (0, 0) _ rfl (by (with_reducible repeat (first | refine bkN ?_ _ | refine bkD ?_ | refine bkA ?_ _)); refine blk_put (cs := #[.int .i64 0, .string (⟨#[]⟩ : ByteArray), .string (⟨#[]⟩ : ByteArray), .int .i64 0, .slice none 0 0, .int .i64 0]) ?_ 5 _ rfl; (with_reducible repeat (first | refine bkN ?_ _ | refine bkD ?_ | refine bkA ?_ _)); refine blk_put (cs := #[.int .i64 0, .string (⟨#[]⟩ : ByteArray), .string (⟨#[]⟩ : ByteArray), .int .i64 0, .slice none 0 0, .int .i64 0]) ?_ 4 _ rfl; (with_reducible repeat (first | refine bkN ?_ _ | refine bkD ?_ | refine bkA ?_ _)); refine blk_put (cs := #[.int .i64 0, .string (⟨#[]⟩ : ByteArray), .string (⟨#[]⟩ : ByteArray), .int .i64 0, .slice none 0 0, .int .i64 0]) ?_ 3 _ rfl; (with_reducible repeat (first | refine bkN ?_ _ | refine bkD ?_ | refine bkA ?_ _)); refine blk_put (cs := #[.int .i64 0, .string (⟨#[]⟩ : ByteArray), .string (⟨#[]⟩ : ByteArray), .int .i64 0, .slice none 0 0, .int .i64 0]) ?_ 2 _ rfl; (with_reducible repeat (first | refine bkN ?_ _ | refine bkD ?_ | refine bkA ?_ _)); refine blk_put (cs := #[.int .i64 0, .string (⟨#[]⟩ : ByteArray), .string (⟨#[]⟩ : ByteArray), .int .i64 0, .slice none 0 0, .int .i64 0]) ?_ 1 _ rfl; (with_reducible repeat (first | refine bkN ?_ _ | refine bkD ?_ | refine bkA ?_ _)); refine blk_put (cs := #[.int .i64 0, .string (⟨#[]⟩ : ByteArray), .string (⟨#[]⟩ : ByteArray), .int .i64 0, .slice none 0 0, .int .i64 0]) ?_ 0 _ rfl; (with_reducible repeat (first | refine bkN ?_ _ | refine bkD ?_ | refine bkA ?_ _)); exact BK234.out) Tryd.underlying26 rfl (by kernel_rfl)) rfl ?_
      exact ⟨_, by first | rfl | (simp [errW_none, errW_some] <;> rfl) | (simp [*, errW_none, errW_some] <;> rfl), Kd.V_nil _ _ _ _ _, by repeat (first | (with_reducible first | exact HB.out | apply pbA | apply pbN | apply pb1 | refine pbS ?_ GE233.out | refine pbS ?_ GE234.out | refine pbS ?_ GE238.out) | exact HB.out)⟩
  · rw [if_neg c5] at H
    have c5b0 : (t239 == 0) = false := beq_eq_false_iff_ne.mpr c5
    have c5b1 : (t239 != 0) = true := bne_iff_ne.mpr c5
    simp only [Option.some.injEq, Prod.mk.injEq] at H
    obtain ⟨rfl, rfl, rfl, rfl, rfl, rfl, rfl⟩ := H
    go_enter Tryd.func25, Tryd.ntmps25
    go_wp2_with (first | ((with_reducible refine gate_dst (N := 2) rfl ?_); refine box_event ?hg (N := 2) ?hd (cs := #[.int .i64 a0_0, .string a0_1, .string a0_2, .int .i64 a0_3, .slice A0_4 l0_4.length c0_4, .int .i64 a0_5]) (t := 26) ?hr ?_; (case hd => rfl); (case hg => rfl); (case hr => first | (go_simp; done) | (go_simp; rfl)); intro gb233 hg w80 hbox hb; have n0_ := Az.mk (pbT (by repeat (first | (with_reducible first | exact HB.out | apply pbA | apply pbN | apply pb1) | exact HB.out)) hb); have n1_ := Az.mk (hbox); have n2_ := Az.mk ((by rw [hg]; exact (pbZ (by repeat (first | (with_reducible first | exact HB.out | apply pbA | apply pbN | apply pb1) | exact HB.out))) : w.heap.size ≤ gb233)); have n3_ := Az.mk ((by rw [hg]; exact (pbZ (by repeat (first | (with_reducible first | exact HB.out | apply pbA | apply pbN | apply pb1) | exact HB.out))) : w.heap.size ≤ gb233)); clear HB; have HB := n0_; have BK233 := n1_; have GW233 := n2_; have GE233 := n3_; clear n0_ n1_ n2_ n3_; clear hb hbox hg) | ((with_reducible refine gate_dst (N := 4) rfl ?_); refine box_event ?hg (N := 4) ?hd (cs := #[.int .i64 0, .string (⟨#[]⟩ : ByteArray), .string (⟨#[]⟩ : ByteArray), .int .i64 0, .slice none 0 0, .int .i64 0]) (t := 26) ?hr ?_; (case hd => rfl); (case hg => rfl); (case hr => first | (go_simp; done) | (go_simp; rfl)); intro gb234 hg w81 hbox hb; have n0_ := Az.mk (bkB (g := gb233) (o := .cells #[.int .i64 a0_0, .string a0_1, .string a0_2, .int .i64 a0_3, .slice A0_4 l0_4.length c0_4, .int .i64 a0_5] 26 (0, 0)) (by (with_reducible repeat (first | refine bkN ?_ _ | refine bkD ?_ | refine bkA ?_ _)); exact BK233.out) hb); have n1_ := Az.mk (pbT (by repeat (first | (with_reducible first | exact HB.out | apply pbA | apply pbN | apply pb1 | refine pbS ?_ GE233.out) | exact HB.out)) hb); have n2_ := Az.mk (hbox); have n3_ := Az.mk ((by rw [hg]; exact (pbZ (by repeat (first | (with_reducible first | exact HB.out | apply pbA | apply pbN | apply pb1 | refine pbS ?_ GE233.out) | exact HB.out))) : w.heap.size ≤ gb234)); have n4_ := Az.mk ((by rw [hg]; exact (pbZ (by repeat (first | (with_reducible first | exact HB.out | apply pbA | apply pbN | apply pb1 | refine pbS ?_ GE233.out) | exact HB.out))) : w.heap.size ≤ gb234)); have n5_ := Az.mk ((by rw [hg]; exact Nat.ne_of_lt (blk_lt (g := gb233) (o := .cells #[.int .i64 a0_0, .string a0_1, .string a0_2, .int .i64 a0_3, .slice A0_4 l0_4.length c0_4, .int .i64 a0_5] 26 (0, 0)) (by (with_reducible repeat (first | refine bkN ?_ _ | refine bkD ?_ | refine bkA ?_ _)); exact BK233.out)) : gb233 ≠ gb234)); have n6_ := Az.mk ((by rw [hg]; exact Nat.ne_of_gt (blk_lt (g := gb233) (o := .cells #[.int .i64 a0_0, .string a0_1, .string a0_2, .int .i64 a0_3, .slice A0_4 l0_4.length c0_4, .int .i64 a0_5] 26 (0, 0)) (by (with_reducible repeat (first | refine bkN ?_ _ | refine bkD ?_ | refine bkA ?_ _)); exact BK233.out)) : gb234 ≠ gb233)); clear BK233; clear HB; have BK233 := n0_; have HB := n1_; have BK234 := n2_; have GW234 := n3_; have GE234 := n4_; have NB233_234 := n5_; have NB234_233 := n6_; clear n0_ n1_ n2_ n3_ n4_ n5_ n6_; clear hb hbox hg; have hnb82 := NB233_234.out; have hnc82 := NB234_233.out; have hcz83_0 : w81.cell? ⟨gb233, 0, none⟩ = some (.int .i64 a0_0) := (bkC BK233.out 0).trans rfl; have hcz83_1 : w81.cell? ⟨gb233, 1, none⟩ = some (.string a0_1) := (bkC BK233.out 1).trans rfl; have hcz83_2 : w81.cell? ⟨gb233, 2, none⟩ = some (.string a0_2) := (bkC BK233.out 2).trans rfl; have hcz83_3 : w81.cell? ⟨gb233, 3, none⟩ = some (.int .i64 a0_3) := (bkC BK233.out 3).trans rfl; have hcz83_4 : w81.cell? ⟨gb233, 4, none⟩ = some (.slice A0_4 l0_4.length c0_4) := (bkC BK233.out 4).trans rfl; have hcz83_5 : w81.cell? ⟨gb233, 5, none⟩ = some (.int .i64 a0_5) := (bkC BK233.out 5).trans rfl; have hfz83_0 := bkF BK233.out 0; have hfz83_1 := bkF BK233.out 1; have hfz83_2 := bkF BK233.out 2; have hfz83_3 := bkF BK233.out 3; have hfz83_4 := bkF BK233.out 4; have hfz83_5 := bkF BK233.out 5) | ((with_reducible refine gtc (f := 30) rfl ?_); refine goesL_ (some 11) rfl rfl Tryd.func30 (by kernel_rfl) rfl #[.agg #[.int .i64 a0_0, .string a0_1, .string a0_2, .int .i64 a0_3, .slice A0_4 l0_4.length c0_4, .int .i64 a0_5], .int .i64 a1] rfl (by (try simp only [List.map_toArray, List.map_cons, List.map_nil]); first | done | rfl | (simp only [List.length_drop, List.length_take]; rfl)) ?_; (with_reducible refine (desc_On.calls a0_0 a0_1 a0_2 a0_3 _ _ l0_4 a0_5 a1 t235 t236 t237 _ ?side1 ?side2 ?side3 A3.out).mono ?_); (case side1 => exact hG.below (by repeat (first | (with_reducible first | exact HB.out | apply pbA | apply pbN | apply pb1 | refine pbS ?_ GE233.out | refine pbS ?_ GE234.out) | exact HB.out))); (case side2 => repeat (first | exact (Kd.C_below HR0_4.out HB.out) | (with_reducible refine Kd.C_alloc ?_ _) | (with_reducible refine Kd.C_drewN ?_ _) | (with_reducible refine Kd.C_drew ?_))); (case side3 => exact HC0_4.out); rintro e w84 ⟨rfl, hb⟩; refine ⟨_, rfl, ?_⟩; have n0_ := Az.mk (bkB (g := gb233) (o := .cells #[.int .i64 a0_0, .string a0_1, .string a0_2, .int .i64 a0_3, .slice A0_4 l0_4.length c0_4, .int .i64 a0_5] 26 (0, 0)) (by (with_reducible repeat (first | refine bkN ?_ _ | refine bkD ?_ | refine bkA ?_ _)); exact BK233.out) hb); have n1_ := Az.mk (bkB (g := gb234) (o := .cells #[.int .i64 0, .string (⟨#[]⟩ : ByteArray), .string (⟨#[]⟩ : ByteArray), .int .i64 0, .slice none 0 0, .int .i64 0] 26 (0, 0)) (by (with_reducible repeat (first | refine bkN ?_ _ | refine bkD ?_ | refine bkA ?_ _)); exact BK234.out) hb); have n2_ := Az.mk (pbT (by repeat (first | (with_reducible first | exact HB.out | apply pbA | apply pbN | apply pb1 | refine pbS ?_ GE233.out | refine pbS ?_ GE234.out) | exact HB.out)) hb); clear BK233; clear BK234; clear HB; have BK233 := n0_; have BK234 := n1_; have HB := n2_; clear n0_ n1_ n2_; (try clear hb); (try clear hb2); (try clear hk); (try clear hi)) | ((with_reducible refine gate_dst (N := 6) rfl ?_); refine box_event ?hg (N := 6) ?hd (cs := #[.int .i64 0, .int .i64 0]) (t := 60) ?hr ?_; (case hd => rfl); (case hg => rfl); (case hr => first | (go_simp; done) | (go_simp; rfl)); intro gb238 hg w85 hbox hb; have n0_ := Az.mk (bkB (g := gb233) (o := .cells #[.int .i64 a0_0, .string a0_1, .string a0_2, .int .i64 a0_3, .slice A0_4 l0_4.length c0_4, .int .i64 a0_5] 26 (0, 0)) (by (with_reducible repeat (first | refine bkN ?_ _ | refine bkD ?_ | refine bkA ?_ _)); exact BK233.out) hb); have n1_ := Az.mk (bkB (g := gb234) (o := .cells #[.int .i64 0, .string (⟨#[]⟩ : ByteArray), .string (⟨#[]⟩ : ByteArray), .int .i64 0, .slice none 0 0, .int .i64 0] 26 (0, 0)) (by (with_reducible repeat (first | refine bkN ?_ _ | refine bkD ?_ | refine bkA ?_ _)); exact BK234.out) hb); have n2_ := Az.mk (pbT (by repeat (first | (with_reducible first | exact HB.out | apply pbA | apply pbN | apply pb1 | refine pbS ?_ GE233.out | refine pbS ?_ GE234.out) | exact HB.out)) hb); have n3_ := Az.mk (hbox); have n4_ := Az.mk ((by rw [hg]; exact (pbZ (by repeat (first | (with_reducible first | exact HB.out | apply pbA | apply pbN | apply pb1 | refine pbS ?_ GE233.out | refine pbS ?_ GE234.out) | exact HB.out))) : w.heap.size ≤ gb238)); have n5_ := Az.mk ((by rw [hg]; exact (pbZ (by repeat (first | (with_reducible first | exact HB.out | apply pbA | apply pbN | apply pb1 | refine pbS ?_ GE233.out | refine pbS ?_ GE234.out) | exact HB.out))) : w.heap.size ≤ gb238)); have n6_ := Az.mk ((by rw [hg]; exact Nat.ne_of_lt (blk_lt (g := gb233) (o := .cells #[.int .i64 a0_0, .string a0_1, .string a0_2, .int .i64 a0_3, .slice A0_4 l0_4.length c0_4, .int .i64 a0_5] 26 (0, 0)) (by (with_reducible repeat (first | refine bkN ?_ _ | refine bkD ?_ | refine bkA ?_ _)); exact BK233.out)) : gb233 ≠ gb238)); have n7_ := Az.mk ((by rw [hg]; exact Nat.ne_of_gt (blk_lt (g := gb233) (o := .cells #[.int .i64 a0_0, .string a0_1, .string a0_2, .int .i64 a0_3, .slice A0_4 l0_4.length c0_4, .int .i64 a0_5] 26 (0, 0)) (by (with_reducible repeat (first | refine bkN ?_ _ | refine bkD ?_ | refine bkA ?_ _)); exact BK233.out)) : gb238 ≠ gb233)); have n8_ := Az.mk ((by rw [hg]; exact Nat.ne_of_lt (blk_lt (g := gb234) (o := .cells #[.int .i64 0, .string (⟨#[]⟩ : ByteArray), .string (⟨#[]⟩ : ByteArray), .int .i64 0, .slice none 0 0, .int .i64 0] 26 (0, 0)) (by (with_reducible repeat (first | refine bkN ?_ _ | refine bkD ?_ | refine bkA ?_ _)); exact BK234.out)) : gb234 ≠ gb238)); have n9_ := Az.mk ((by rw [hg]; exact Nat.ne_of_gt (blk_lt (g := gb234) (o := .cells #[.int .i64 0, .string (⟨#[]⟩ : ByteArray), .string (⟨#[]⟩ : ByteArray), .int .i64 0, .slice none 0 0, .int .i64 0] 26 (0, 0)) (by (with_reducible repeat (first | refine bkN ?_ _ | refine bkD ?_ | refine bkA ?_ _)); exact BK234.out)) : gb238 ≠ gb234)); clear BK233; clear BK234; clear HB; have BK233 := n0_; have BK234 := n1_; have HB := n2_; have BK238 := n3_; have GW238 := n4_; have GE238 := n5_; have NB233_238 := n6_; have NB238_233 := n7_; have NB234_238 := n8_; have NB238_234 := n9_; clear n0_ n1_ n2_ n3_ n4_ n5_ n6_ n7_ n8_ n9_; clear hb hbox hg; have hnb86 := NB238_233.out; have hnc86 := NB233_238.out; have hnb87 := NB238_234.out; have hnc87 := NB234_238.out; have hcz88_0 : w85.cell? ⟨gb238, 0, none⟩ = some (.int .i64 0) := (bkC BK238.out 0).trans rfl; have hcz88_1 : w85.cell? ⟨gb238, 1, none⟩ = some (.int .i64 0) := (bkC BK238.out 1).trans rfl; have hfz88_0 := bkF BK238.out 0; have hfz88_1 := bkF BK238.out 1; have hcz89_0 : w85.cell? ⟨gb233, 0, none⟩ = some (.int .i64 a0_0) := (bkC BK233.out 0).trans rfl; have hcz89_1 : w85.cell? ⟨gb233, 1, none⟩ = some (.string a0_1) := (bkC BK233.out 1).trans rfl; have hcz89_2 : w85.cell? ⟨gb233, 2, none⟩ = some (.string a0_2) := (bkC BK233.out 2).trans rfl; have hcz89_3 : w85.cell? ⟨gb233, 3, none⟩ = some (.int .i64 a0_3) := (bkC BK233.out 3).trans rfl; have hcz89_4 : w85.cell? ⟨gb233, 4, none⟩ = some (.slice A0_4 l0_4.length c0_4) := (bkC BK233.out 4).trans rfl; have hcz89_5 : w85.cell? ⟨gb233, 5, none⟩ = some (.int .i64 a0_5) := (bkC BK233.out 5).trans rfl; have hfz89_0 := bkF BK233.out 0; have hfz89_1 := bkF BK233.out 1; have hfz89_2 := bkF BK233.out 2; have hfz89_3 := bkF BK233.out 3; have hfz89_4 := bkF BK233.out 4; have hfz89_5 := bkF BK233.out 5) | ((with_reducible refine gtc (f := 22) rfl ?_); refine goesL_ (some 16) rfl rfl Tryd.func22 (by kernel_rfl) rfl #[.agg #[.int .i64 a0_0, .string a0_1, .string a0_2, .int .i64 a0_3, .slice A0_4 l0_4.length c0_4, .int .i64 a0_5]] rfl (by (try simp only [List.map_toArray, List.map_cons, List.map_nil]); first | done | rfl | (simp only [List.length_drop, List.length_take]; rfl)) ?_; (with_reducible refine (desc_Check.calls a0_0 a0_1 a0_2 a0_3 _ _ l0_4 a0_5 t239 _ ?side1 ?side2 ?side3 A4.out).mono ?_); (case side1 => exact hG.below (by repeat (first | (with_reducible first | exact HB.out | apply pbA | apply pbN | apply pb1 | refine pbS ?_ GE233.out | refine pbS ?_ GE234.out | refine pbS ?_ GE238.out) | exact HB.out))); (case side2 => exact Kd.C_below HR0_4.out (by repeat (first | (with_reducible first | exact HB.out | apply pbA | apply pbN | apply pb1 | refine pbS ?_ GE233.out | refine pbS ?_ GE234.out | refine pbS ?_ GE238.out) | exact HB.out))); (case side3 => exact HC0_4.out); rintro e w90 ⟨rfl, hb⟩; refine ⟨_, rfl, ?_⟩; have n0_ := Az.mk (bkB (g := gb233) (o := .cells #[.int .i64 a0_0, .string a0_1, .string a0_2, .int .i64 a0_3, .slice A0_4 l0_4.length c0_4, .int .i64 a0_5] 26 (0, 0)) (by (with_reducible repeat (first | refine bkN ?_ _ | refine bkD ?_ | refine bkA ?_ _)); refine blk_far ?_ NB233_238.out _; (with_reducible repeat (first | refine bkN ?_ _ | refine bkD ?_ | refine bkA ?_ _)); refine blk_far ?_ NB233_238.out _; (with_reducible repeat (first | refine bkN ?_ _ | refine bkD ?_ | refine bkA ?_ _)); exact BK233.out) hb); have n1_ := Az.mk (bkB (g := gb234) (o := .cells #[.int .i64 0, .string (⟨#[]⟩ : ByteArray), .string (⟨#[]⟩ : ByteArray), .int .i64 0, .slice none 0 0, .int .i64 0] 26 (0, 0)) (by (with_reducible repeat (first | refine bkN ?_ _ | refine bkD ?_ | refine bkA ?_ _)); refine blk_far ?_ NB234_238.out _; (with_reducible repeat (first | refine bkN ?_ _ | refine bkD ?_ | refine bkA ?_ _)); refine blk_far ?_ NB234_238.out _; (with_reducible repeat (first | refine bkN ?_ _ | refine bkD ?_ | refine bkA ?_ _)); exact BK234.out) hb); have n2_ := Az.mk (bkB (g := gb238) (o := .cells #[.int .i64 t235, .int .i64 t236] 60 (0, 0)) (by (with_reducible repeat (first | refine bkN ?_ _ | refine bkD ?_ | refine bkA ?_ _)); refine blk_put (cs := #[.int .i64 t235, .int .i64 0]) ?_ 1 _ rfl; (with_reducible repeat (first | refine bkN ?_ _ | refine bkD ?_ | refine bkA ?_ _)); refine blk_put (cs := #[.int .i64 0, .int .i64 0]) ?_ 0 _ rfl; (with_reducible repeat (first | refine bkN ?_ _ | refine bkD ?_ | refine bkA ?_ _)); exact BK238.out) hb); have n3_ := Az.mk (pbT (by repeat (first | (with_reducible first | exact HB.out | apply pbA | apply pbN | apply pb1 | refine pbS ?_ GE233.out | refine pbS ?_ GE234.out | refine pbS ?_ GE238.out) | exact HB.out)) hb); clear BK233; clear BK234; clear BK238; clear HB; have BK233 := n0_; have BK234 := n1_; have BK238 := n2_; have HB := n3_; clear n0_ n1_ n2_ n3_; (try clear hb); (try clear hb2); (try clear hk); (try clear hi); have hcz91_0 : w90.cell? ⟨gb234, 0, none⟩ = some (.int .i64 0) := (bkC BK234.out 0).trans rfl; have hcz91_1 : w90.cell? ⟨gb234, 1, none⟩ = some (.string (⟨#[]⟩ : ByteArray)) := (bkC BK234.out 1).trans rfl; have hcz91_2 : w90.cell? ⟨gb234, 2, none⟩ = some (.string (⟨#[]⟩ : ByteArray)) := (bkC BK234.out 2).trans rfl; have hcz91_3 : w90.cell? ⟨gb234, 3, none⟩ = some (.int .i64 0) := (bkC BK234.out 3).trans rfl; have hcz91_4 : w90.cell? ⟨gb234, 4, none⟩ = some (.slice none 0 0) := (bkC BK234.out 4).trans rfl; have hcz91_5 : w90.cell? ⟨gb234, 5, none⟩ = some (.int .i64 0) := (bkC BK234.out 5).trans rfl; have hfz91_0 := bkF BK234.out 0; have hfz91_1 := bkF BK234.out 1; have hfz91_2 := bkF BK234.out 2; have hfz91_3 := bkF BK234.out 3; have hfz91_4 := bkF BK234.out 4; have hfz91_5 := bkF BK234.out 5))
    refine bodyPost_ret (results_ct rfl _ _ gb234 26 #[.int .i64 0, .string (⟨#[]⟩ : ByteArray), .string (⟨#[]⟩ : ByteArray), .int .i64 0, .slice none 0 0, .int .i64 0] (0, 0) _ rfl (by (with_reducible repeat (first | refine bkN ?_ _ | refine bkD ?_ | refine bkA ?_ _)); refine blk_put (cs := #[.int .i64 0, .string (⟨#[]⟩ : ByteArray), .string (⟨#[]⟩ : ByteArray), .int .i64 0, .slice none 0 0, .int .i64 0]) ?_ 5 _ rfl; (with_reducible repeat (first | refine bkN ?_ _ | refine bkD ?_ | refine bkA ?_ _)); refine blk_put (cs := #[.int .i64 0, .string (⟨#[]⟩ : ByteArray), .string (⟨#[]⟩ : ByteArray), .int .i64 0, .slice none 0 0, .int .i64 0]) ?_ 4 _ rfl; (with_reducible repeat (first | refine bkN ?_ _ | refine bkD ?_ | refine bkA ?_ _)); refine blk_put (cs := #[.int .i64 0, .string (⟨#[]⟩ : ByteArray), .string (⟨#[]⟩ : ByteArray), .int .i64 0, .slice none 0 0, .int .i64 0]) ?_ 3 _ rfl; (with_reducible repeat (first | refine bkN ?_ _ | refine bkD ?_ | refine bkA ?_ _)); refine blk_put (cs := #[.int .i64 0, .string (⟨#[]⟩ : ByteArray), .string (⟨#[]⟩ : ByteArray), .int .i64 0, .slice none 0 0, .int .i64 0]) ?_ 2 _ rfl; (with_reducible repeat (first | refine bkN ?_ _ | refine bkD ?_ | refine bkA ?_ _)); refine blk_put (cs := #[.int .i64 0, .string (⟨#[]⟩ : ByteArray), .string (⟨#[]⟩ : ByteArray), .int .i64 0, .slice none 0 0, .int .i64 0]) ?_ 1 _ rfl; (with_reducible repeat (first | refine bkN ?_ _ | refine bkD ?_ | refine bkA ?_ _)); refine blk_put (cs := #[.int .i64 0, .string (⟨#[]⟩ : ByteArray), .string (⟨#[]⟩ : ByteArray), .int .i64 0, .slice none 0 0, .int .i64 0]) ?_ 0 _ rfl; (with_reducible repeat (first | refine bkN ?_ _ | refine bkD ?_ | refine bkA ?_ _)); exact BK234.out) Tryd.underlying26 rfl (by kernel_rfl)) rfl ?_
    exact ⟨_, by first | rfl | (simp [errW_none, errW_some] <;> rfl) | (simp [*, errW_none, errW_some] <;> rfl), Kd.V_nil _ _ _ _ _, by repeat (first | (with_reducible first | exact HB.out | apply pbA | apply pbN | apply pb1 | refine pbS ?_ GE233.out | refine pbS ?_ GE234.out | refine pbS ?_ GE238.out) | exact HB.out)⟩
end Go.Proofs.YtjfhcijjjadhbaaDoor.P
end
section
/- bound.Cut: by hand. -/
namespace Go.Proofs.YtjfhcijjjadhbaaDoor.P
open Go.RowKit Go.Proofs.YtjfhcijjjadhbaaDoor.K Go.Proofs.YtjfhcijjjadhbaaDoorW.PrintWords Go.Proofs.YtjfhcijjjadhbaaDoorW.PrintLast Go.Proofs.YtjfhcijjjadhbaaDoorW.PrintMore
attribute [local go_sem ↓] Go.wp_at_zero Go.wp_at_succ
/-- Where a bound may be cut. -/
def cutOk (f t k : ByteArray) : Bool := boundOk f t && (!(k.toList == ([] : List UInt8)) && decide (k.size ≤ 32)) && Op.bytesLess f.toList k.toList && (t.toList == ([] : List UInt8) || Op.bytesLess k.toList t.toList)
def bound_Cut.f (a0_0 a0_1 a1 : ByteArray) : Option (ByteArray × ByteArray × ByteArray × ByteArray × Int) :=
  if cutOk a0_0 a0_1 a1 = true then some (a0_0, a1, a1, a0_1, 0) else some (⟨#[]⟩, ⟨#[]⟩, ⟨#[]⟩, ⟨#[]⟩, 20)
theorem put2s {w1 : World} {B : Nat} {t : TypeId} {x y : Value} (BL : w1.heap[B]? = some (.cells #[.string ⟨#[]⟩, .string ⟨#[]⟩] t (0, 0))) : ((w1.setCell ⟨B, 0, none⟩ x).setCell ⟨B, 1, none⟩ y).heap[B]? = some (.cells #[x, y] t (0, 0)) := by
  refine blk_put (cs := #[x, .string ⟨#[]⟩]) ?_ 1 _ rfl
  exact blk_put (cs := #[.string ⟨#[]⟩, .string ⟨#[]⟩]) BL 0 _ rfl
set_option maxHeartbeats 8000000 in
set_option maxRecDepth 100000 in
theorem bound_Cut.calls (a0_0 a0_1 a1 : ByteArray) (r1 r2 r3 r4 : ByteArray) (r5 : Int) (w : World) (hG : TheG w) (h : bound_Cut.f a0_0 a0_1 a1 = some (r1, r2, r3, r4, r5)) :
    Calls Tryd.prog 32 #[.agg #[.string a0_0, .string a0_1], .string a1] w fun e w' => e = .returned (.tuple #[.agg #[.string r1, .string r2], .agg #[.string r3, .string r4], .int .i64 r5]) ∧ Below w.heap.size w w' := by
  unfold bound_Cut.f cutOk at h
  have hu := Tryd.underlying23
  have HC : ∀ W, Below w.heap.size w W → Hid (Calls Tryd.prog 47 #[.agg #[.string a0_0, .string a0_1]] W fun e w' => e = .returned (.int .i64 (if boundOk a0_0 a0_1 = true then 0 else 20)) ∧ Below W.heap.size W w') := fun W hW => Lib.hid (bound_Check.calls a0_0 a0_1 _ W (hG.below hW) rfl)
  cases hok : boundOk a0_0 a0_1
  · rw [hok, if_neg (by simp)] at HC
    simp only [hok, Bool.false_and, Bool.and_false, Bool.true_and, Bool.and_true, Bool.not_true, Bool.not_false, Bool.or_true, Bool.true_or, Bool.false_or, Bool.or_false, if_false, if_true, Bool.false_eq_true, Option.some.injEq, Prod.mk.injEq, decide_true, decide_false] at h
    obtain ⟨rfl, rfl, rfl, rfl, rfl⟩ := h
    go_enter Tryd.func32, Tryd.ntmps32
    go_wp2_with (first | (go_at_call 47; refine (HC _ (pbA (pbA (pbA (Below.refl _ _) _) _) _)).out.mono ?_; rintro e w1 ⟨rfl, hb⟩; have B0 := three_old hb () (); have B1 := three_mid2 hb () (); have B2 := three_new hb () (); have z0 := (bkC B0 0).trans rfl; have z1 := (bkC B0 1).trans rfl; have y0 := (bkC B1 0).trans rfl; have y1 := (bkC B1 1).trans rfl; have x0 := (bkC B2 0).trans rfl; have x1 := (bkC B2 1).trans rfl; have e0 := bkF B1 0; have e1 := bkF B1 1; have d0 := bkF B2 0; have d1 := bkF B2 1; have HB := pbT (pbA (pbA (pbA (Below.refl _ _) _) _) _) hb; have L0 := blk_lt B0; have L1 := blk_lt B1; have L2 := blk_lt B2) | go_in)
    go_region
    all_goals go_wp2
    refine bodyPost_ret (results_list (rs := [.cell 4 23, .cell 5 23, .tmp 6]) rfl (by simp) (.cell (w.heap.size + 1) 23 #[.string ⟨#[]⟩, .string ⟨#[]⟩] (0, 0) _ rfl ?b1 hu rfl (by kernel_rfl) (.cell (w.heap.size + 1 + 1) 23 #[.string ⟨#[]⟩, .string ⟨#[]⟩] (0, 0) _ rfl ?b2 hu rfl (by kernel_rfl) (.tmp .nil)))) rfl ?_
    case b1 => (with_reducible repeat (first | refine bkN ?_ _ | refine bkD ?_ | refine bkA ?_ _)); exact blk_far (blk_far (put2s (by (with_reducible repeat (first | refine bkN ?_ _ | refine bkD ?_ | refine bkA ?_ _)); exact B1)) (by simp) _) (by simp) _
    case b2 => (with_reducible repeat (first | refine bkN ?_ _ | refine bkD ?_ | refine bkA ?_ _)); exact put2s (blk_far (blk_far (by (with_reducible repeat (first | refine bkN ?_ _ | refine bkD ?_ | refine bkA ?_ _)); exact B2) (by simp) _) (by simp) _)
    exact ⟨rfl, by repeat (first | (with_reducible first | exact HB | apply pb1 | apply pbA) | refine pbS ?_ (by omega))⟩
  rw [hok, if_pos rfl] at HC
  cases hk : (a1.toList == ([] : List UInt8))
  case true =>
    simp only [hok, hk, Bool.false_and, Bool.and_false, Bool.true_and, Bool.and_true, Bool.not_true, Bool.not_false, Bool.or_true, Bool.true_or, Bool.false_or, Bool.or_false, if_false, if_true, Bool.false_eq_true, Option.some.injEq, Prod.mk.injEq, decide_true, decide_false] at h
    obtain ⟨rfl, rfl, rfl, rfl, rfl⟩ := h
    go_enter Tryd.func32, Tryd.ntmps32
    go_wp2_with (first | (go_at_call 47; refine (HC _ (pbA (pbA (pbA (Below.refl _ _) _) _) _)).out.mono ?_; rintro e w1 ⟨rfl, hb⟩; have B0 := three_old hb () (); have B1 := three_mid2 hb () (); have B2 := three_new hb () (); have z0 := (bkC B0 0).trans rfl; have z1 := (bkC B0 1).trans rfl; have y0 := (bkC B1 0).trans rfl; have y1 := (bkC B1 1).trans rfl; have x0 := (bkC B2 0).trans rfl; have x1 := (bkC B2 1).trans rfl; have e0 := bkF B1 0; have e1 := bkF B1 1; have d0 := bkF B2 0; have d1 := bkF B2 1; have HB := pbT (pbA (pbA (pbA (Below.refl _ _) _) _) _) hb; have L0 := blk_lt B0; have L1 := blk_lt B1; have L2 := blk_lt B2) | go_in)
    go_region
    all_goals go_wp2
    refine bodyPost_ret (results_list (rs := [.cell 4 23, .cell 5 23, .tmp 6]) rfl (by simp) (.cell (w.heap.size + 1) 23 #[.string ⟨#[]⟩, .string ⟨#[]⟩] (0, 0) _ rfl ?b1 hu rfl (by kernel_rfl) (.cell (w.heap.size + 1 + 1) 23 #[.string ⟨#[]⟩, .string ⟨#[]⟩] (0, 0) _ rfl ?b2 hu rfl (by kernel_rfl) (.tmp .nil)))) rfl ?_
    case b1 => (with_reducible repeat (first | refine bkN ?_ _ | refine bkD ?_ | refine bkA ?_ _)); exact blk_far (blk_far (put2s (by (with_reducible repeat (first | refine bkN ?_ _ | refine bkD ?_ | refine bkA ?_ _)); exact B1)) (by simp) _) (by simp) _
    case b2 => (with_reducible repeat (first | refine bkN ?_ _ | refine bkD ?_ | refine bkA ?_ _)); exact put2s (blk_far (blk_far (by (with_reducible repeat (first | refine bkN ?_ _ | refine bkD ?_ | refine bkA ?_ _)); exact B2) (by simp) _) (by simp) _)
    exact ⟨rfl, by repeat (first | (with_reducible first | exact HB | apply pb1 | apply pbA) | refine pbS ?_ (by omega))⟩
  have hk2 : (a1.toList != ([] : List UInt8)) = true := by rw [bne, hk]; rfl
  by_cases hs : a1.size ≤ 32
  case neg =>
    have hs2 : (32 : Int) < (a1.size : Int) := by omega
    have hs3 : decide (a1.size ≤ 32) = false := decide_eq_false hs
    simp only [hok, hk, hs3, Bool.false_and, Bool.and_false, Bool.true_and, Bool.and_true, Bool.not_true, Bool.not_false, Bool.or_true, Bool.true_or, Bool.false_or, Bool.or_false, if_false, if_true, Bool.false_eq_true, Option.some.injEq, Prod.mk.injEq, decide_true, decide_false] at h
    obtain ⟨rfl, rfl, rfl, rfl, rfl⟩ := h
    go_enter Tryd.func32, Tryd.ntmps32
    go_wp2_with (first | (go_at_call 47; refine (HC _ (pbA (pbA (pbA (Below.refl _ _) _) _) _)).out.mono ?_; rintro e w1 ⟨rfl, hb⟩; have B0 := three_old hb () (); have B1 := three_mid2 hb () (); have B2 := three_new hb () (); have z0 := (bkC B0 0).trans rfl; have z1 := (bkC B0 1).trans rfl; have y0 := (bkC B1 0).trans rfl; have y1 := (bkC B1 1).trans rfl; have x0 := (bkC B2 0).trans rfl; have x1 := (bkC B2 1).trans rfl; have e0 := bkF B1 0; have e1 := bkF B1 1; have d0 := bkF B2 0; have d1 := bkF B2 1; have HB := pbT (pbA (pbA (pbA (Below.refl _ _) _) _) _) hb; have L0 := blk_lt B0; have L1 := blk_lt B1; have L2 := blk_lt B2) | go_in)
    go_region
    all_goals go_wp2
    refine bodyPost_ret (results_list (rs := [.cell 4 23, .cell 5 23, .tmp 6]) rfl (by simp) (.cell (w.heap.size + 1) 23 #[.string ⟨#[]⟩, .string ⟨#[]⟩] (0, 0) _ rfl ?b1 hu rfl (by kernel_rfl) (.cell (w.heap.size + 1 + 1) 23 #[.string ⟨#[]⟩, .string ⟨#[]⟩] (0, 0) _ rfl ?b2 hu rfl (by kernel_rfl) (.tmp .nil)))) rfl ?_
    case b1 => (with_reducible repeat (first | refine bkN ?_ _ | refine bkD ?_ | refine bkA ?_ _)); exact blk_far (blk_far (put2s (by (with_reducible repeat (first | refine bkN ?_ _ | refine bkD ?_ | refine bkA ?_ _)); exact B1)) (by simp) _) (by simp) _
    case b2 => (with_reducible repeat (first | refine bkN ?_ _ | refine bkD ?_ | refine bkA ?_ _)); exact put2s (blk_far (blk_far (by (with_reducible repeat (first | refine bkN ?_ _ | refine bkD ?_ | refine bkA ?_ _)); exact B2) (by simp) _) (by simp) _)
    exact ⟨rfl, by repeat (first | (with_reducible first | exact HB | apply pb1 | apply pbA) | refine pbS ?_ (by omega))⟩
  have hs2 : ¬ (32 : Int) < (a1.size : Int) := by omega
  have hs3 : decide (a1.size ≤ 32) = true := decide_eq_true hs
  cases hl : Op.bytesLess a0_0.toList a1.toList
  case false =>
    simp only [hok, hk, hs3, hl, Bool.false_and, Bool.and_false, Bool.true_and, Bool.and_true, Bool.not_true, Bool.not_false, Bool.or_true, Bool.true_or, Bool.false_or, Bool.or_false, if_false, if_true, Bool.false_eq_true, Option.some.injEq, Prod.mk.injEq, decide_true, decide_false] at h
    obtain ⟨rfl, rfl, rfl, rfl, rfl⟩ := h
    go_enter Tryd.func32, Tryd.ntmps32
    go_wp2_with (first | (go_at_call 47; refine (HC _ (pbA (pbA (pbA (Below.refl _ _) _) _) _)).out.mono ?_; rintro e w1 ⟨rfl, hb⟩; have B0 := three_old hb () (); have B1 := three_mid2 hb () (); have B2 := three_new hb () (); have z0 := (bkC B0 0).trans rfl; have z1 := (bkC B0 1).trans rfl; have y0 := (bkC B1 0).trans rfl; have y1 := (bkC B1 1).trans rfl; have x0 := (bkC B2 0).trans rfl; have x1 := (bkC B2 1).trans rfl; have e0 := bkF B1 0; have e1 := bkF B1 1; have d0 := bkF B2 0; have d1 := bkF B2 1; have HB := pbT (pbA (pbA (pbA (Below.refl _ _) _) _) _) hb; have L0 := blk_lt B0; have L1 := blk_lt B1; have L2 := blk_lt B2) | go_in)
    go_region
    all_goals go_wp2
    refine bodyPost_ret (results_list (rs := [.cell 4 23, .cell 5 23, .tmp 6]) rfl (by simp) (.cell (w.heap.size + 1) 23 #[.string ⟨#[]⟩, .string ⟨#[]⟩] (0, 0) _ rfl ?b1 hu rfl (by kernel_rfl) (.cell (w.heap.size + 1 + 1) 23 #[.string ⟨#[]⟩, .string ⟨#[]⟩] (0, 0) _ rfl ?b2 hu rfl (by kernel_rfl) (.tmp .nil)))) rfl ?_
    case b1 => (with_reducible repeat (first | refine bkN ?_ _ | refine bkD ?_ | refine bkA ?_ _)); exact blk_far (blk_far (put2s (by (with_reducible repeat (first | refine bkN ?_ _ | refine bkD ?_ | refine bkA ?_ _)); exact B1)) (by simp) _) (by simp) _
    case b2 => (with_reducible repeat (first | refine bkN ?_ _ | refine bkD ?_ | refine bkA ?_ _)); exact put2s (blk_far (blk_far (by (with_reducible repeat (first | refine bkN ?_ _ | refine bkD ?_ | refine bkA ?_ _)); exact B2) (by simp) _) (by simp) _)
    exact ⟨rfl, by repeat (first | (with_reducible first | exact HB | apply pb1 | apply pbA) | refine pbS ?_ (by omega))⟩
  cases ht : (a0_1.toList == ([] : List UInt8))
  case true =>
    have ht2 : (a0_1.toList != ([] : List UInt8)) = false := by rw [bne, ht]; rfl
    simp only [hok, hk, hs3, hl, ht, Bool.false_and, Bool.and_false, Bool.true_and, Bool.and_true, Bool.not_true, Bool.not_false, Bool.or_true, Bool.true_or, Bool.false_or, Bool.or_false, if_false, if_true, Bool.false_eq_true, Option.some.injEq, Prod.mk.injEq, decide_true, decide_false] at h
    obtain ⟨rfl, rfl, rfl, rfl, rfl⟩ := h
    go_enter Tryd.func32, Tryd.ntmps32
    go_wp2_with (first | (go_at_call 47; refine (HC _ (pbA (pbA (pbA (Below.refl _ _) _) _) _)).out.mono ?_; rintro e w1 ⟨rfl, hb⟩; have B0 := three_old hb () (); have B1 := three_mid2 hb () (); have B2 := three_new hb () (); have z0 := (bkC B0 0).trans rfl; have z1 := (bkC B0 1).trans rfl; have y0 := (bkC B1 0).trans rfl; have y1 := (bkC B1 1).trans rfl; have x0 := (bkC B2 0).trans rfl; have x1 := (bkC B2 1).trans rfl; have e0 := bkF B1 0; have e1 := bkF B1 1; have d0 := bkF B2 0; have d1 := bkF B2 1; have HB := pbT (pbA (pbA (pbA (Below.refl _ _) _) _) _) hb; have L0 := blk_lt B0; have L1 := blk_lt B1; have L2 := blk_lt B2) | go_in)
    go_region
    all_goals go_wp2
    refine bodyPost_ret (results_list (rs := [.cell 4 23, .cell 5 23, .tmp 6]) rfl (by simp) (.cell (w.heap.size + 1) 23 #[.string a0_0, .string a1] (0, 0) _ rfl ?b1 hu rfl (by kernel_rfl) (.cell (w.heap.size + 1 + 1) 23 #[.string a1, .string a0_1] (0, 0) _ rfl ?b2 hu rfl (by kernel_rfl) (.tmp .nil)))) rfl ?_
    case b1 => (with_reducible repeat (first | refine bkN ?_ _ | refine bkD ?_ | refine bkA ?_ _)); exact blk_far (blk_far (put2s (by (with_reducible repeat (first | refine bkN ?_ _ | refine bkD ?_ | refine bkA ?_ _)); exact B1)) (by simp) _) (by simp) _
    case b2 => (with_reducible repeat (first | refine bkN ?_ _ | refine bkD ?_ | refine bkA ?_ _)); exact put2s (blk_far (blk_far (by (with_reducible repeat (first | refine bkN ?_ _ | refine bkD ?_ | refine bkA ?_ _)); exact B2) (by simp) _) (by simp) _)
    exact ⟨rfl, by repeat (first | (with_reducible first | exact HB | apply pb1 | apply pbA) | refine pbS ?_ (by omega))⟩
  have ht2 : (a0_1.toList != ([] : List UInt8)) = true := by rw [bne, ht]; rfl
  cases hg : Op.bytesLess a1.toList a0_1.toList
  case false =>
    simp only [hok, hk, hs3, hl, ht, hg, Bool.false_and, Bool.and_false, Bool.true_and, Bool.and_true, Bool.not_true, Bool.not_false, Bool.or_true, Bool.true_or, Bool.false_or, Bool.or_false, if_false, if_true, Bool.false_eq_true, Option.some.injEq, Prod.mk.injEq, decide_true, decide_false] at h
    obtain ⟨rfl, rfl, rfl, rfl, rfl⟩ := h
    go_enter Tryd.func32, Tryd.ntmps32
    go_wp2_with (first | (go_at_call 47; refine (HC _ (pbA (pbA (pbA (Below.refl _ _) _) _) _)).out.mono ?_; rintro e w1 ⟨rfl, hb⟩; have B0 := three_old hb () (); have B1 := three_mid2 hb () (); have B2 := three_new hb () (); have z0 := (bkC B0 0).trans rfl; have z1 := (bkC B0 1).trans rfl; have y0 := (bkC B1 0).trans rfl; have y1 := (bkC B1 1).trans rfl; have x0 := (bkC B2 0).trans rfl; have x1 := (bkC B2 1).trans rfl; have e0 := bkF B1 0; have e1 := bkF B1 1; have d0 := bkF B2 0; have d1 := bkF B2 1; have HB := pbT (pbA (pbA (pbA (Below.refl _ _) _) _) _) hb; have L0 := blk_lt B0; have L1 := blk_lt B1; have L2 := blk_lt B2) | go_in)
    go_region
    all_goals go_wp2
    refine bodyPost_ret (results_list (rs := [.cell 4 23, .cell 5 23, .tmp 6]) rfl (by simp) (.cell (w.heap.size + 1) 23 #[.string ⟨#[]⟩, .string ⟨#[]⟩] (0, 0) _ rfl ?b1 hu rfl (by kernel_rfl) (.cell (w.heap.size + 1 + 1) 23 #[.string ⟨#[]⟩, .string ⟨#[]⟩] (0, 0) _ rfl ?b2 hu rfl (by kernel_rfl) (.tmp .nil)))) rfl ?_
    case b1 => (with_reducible repeat (first | refine bkN ?_ _ | refine bkD ?_ | refine bkA ?_ _)); exact blk_far (blk_far (put2s (by (with_reducible repeat (first | refine bkN ?_ _ | refine bkD ?_ | refine bkA ?_ _)); exact B1)) (by simp) _) (by simp) _
    case b2 => (with_reducible repeat (first | refine bkN ?_ _ | refine bkD ?_ | refine bkA ?_ _)); exact put2s (blk_far (blk_far (by (with_reducible repeat (first | refine bkN ?_ _ | refine bkD ?_ | refine bkA ?_ _)); exact B2) (by simp) _) (by simp) _)
    exact ⟨rfl, by repeat (first | (with_reducible first | exact HB | apply pb1 | apply pbA) | refine pbS ?_ (by omega))⟩
  case true =>
    simp only [hok, hk, hs3, hl, ht, hg, Bool.false_and, Bool.and_false, Bool.true_and, Bool.and_true, Bool.not_true, Bool.not_false, Bool.or_true, Bool.true_or, Bool.false_or, Bool.or_false, if_false, if_true, Bool.false_eq_true, Option.some.injEq, Prod.mk.injEq, decide_true, decide_false] at h
    obtain ⟨rfl, rfl, rfl, rfl, rfl⟩ := h
    go_enter Tryd.func32, Tryd.ntmps32
    go_wp2_with (first | (go_at_call 47; refine (HC _ (pbA (pbA (pbA (Below.refl _ _) _) _) _)).out.mono ?_; rintro e w1 ⟨rfl, hb⟩; have B0 := three_old hb () (); have B1 := three_mid2 hb () (); have B2 := three_new hb () (); have z0 := (bkC B0 0).trans rfl; have z1 := (bkC B0 1).trans rfl; have y0 := (bkC B1 0).trans rfl; have y1 := (bkC B1 1).trans rfl; have x0 := (bkC B2 0).trans rfl; have x1 := (bkC B2 1).trans rfl; have e0 := bkF B1 0; have e1 := bkF B1 1; have d0 := bkF B2 0; have d1 := bkF B2 1; have HB := pbT (pbA (pbA (pbA (Below.refl _ _) _) _) _) hb; have L0 := blk_lt B0; have L1 := blk_lt B1; have L2 := blk_lt B2) | go_in)
    go_region
    all_goals go_wp2
    refine bodyPost_ret (results_list (rs := [.cell 4 23, .cell 5 23, .tmp 6]) rfl (by simp) (.cell (w.heap.size + 1) 23 #[.string a0_0, .string a1] (0, 0) _ rfl ?b1 hu rfl (by kernel_rfl) (.cell (w.heap.size + 1 + 1) 23 #[.string a1, .string a0_1] (0, 0) _ rfl ?b2 hu rfl (by kernel_rfl) (.tmp .nil)))) rfl ?_
    case b1 => (with_reducible repeat (first | refine bkN ?_ _ | refine bkD ?_ | refine bkA ?_ _)); exact blk_far (blk_far (put2s (by (with_reducible repeat (first | refine bkN ?_ _ | refine bkD ?_ | refine bkA ?_ _)); exact B1)) (by simp) _) (by simp) _
    case b2 => (with_reducible repeat (first | refine bkN ?_ _ | refine bkD ?_ | refine bkA ?_ _)); exact put2s (blk_far (blk_far (by (with_reducible repeat (first | refine bkN ?_ _ | refine bkD ?_ | refine bkA ?_ _)); exact B2) (by simp) _) (by simp) _)
    exact ⟨rfl, by repeat (first | (with_reducible first | exact HB | apply pb1 | apply pbA) | refine pbS ?_ (by omega))⟩
end Go.Proofs.YtjfhcijjjadhbaaDoor.P
end
section
/- desc.Split: by hand. -/
namespace Go.Proofs.YtjfhcijjjadhbaaDoor.P
open Go.RowKit Go.Proofs.YtjfhcijjjadhbaaDoor.K Go.Proofs.YtjfhcijjjadhbaaDoorW.PrintWords Go.Proofs.YtjfhcijjjadhbaaDoorW.PrintLast Go.Proofs.YtjfhcijjjadhbaaDoorW.PrintMore
attribute [local go_sem ↓] Go.wp_at_zero Go.wp_at_succ
theorem six {w : World} {g : Nat} {t : TypeId} {v0 v1 v2 v3 v4 v5 : Value} (B : w.heap[g]? = some (.cells #[v0, v1, v2, v3, v4, v5] t (0, 0))) : w.cell? ⟨g, 0, none⟩ = some v0 ∧ w.cell? ⟨g, 1, none⟩ = some v1 ∧ w.cell? ⟨g, 2, none⟩ = some v2 ∧ w.cell? ⟨g, 3, none⟩ = some v3 ∧ w.cell? ⟨g, 4, none⟩ = some v4 ∧ w.cell? ⟨g, 5, none⟩ = some v5 ∧ w.frozen? ⟨g, 0, none⟩ = false ∧ w.frozen? ⟨g, 1, none⟩ = false ∧ w.frozen? ⟨g, 2, none⟩ = false ∧ w.frozen? ⟨g, 3, none⟩ = false ∧ w.frozen? ⟨g, 4, none⟩ = false ∧ w.frozen? ⟨g, 5, none⟩ = false ∧ g < w.heap.size :=
  ⟨bkC B 0, bkC B 1, bkC B 2, bkC B 3, bkC B 4, bkC B 5, bkF B 0, bkF B 1, bkF B 2, bkF B 3, bkF B 4, bkF B 5, blk_lt B⟩
def Z6 : Array Value := #[.int .i64 0, .string ⟨#[]⟩, .string ⟨#[]⟩, .int .i64 0, .slice none 0 0, .int .i64 0]
theorem put6 {w1 : World} {B : Nat} {t : TypeId} {v0 v1 v2 v3 v4 v5 : Value} (BL : w1.heap[B]? = some (.cells #[.int .i64 0, .string ⟨#[]⟩, .string ⟨#[]⟩, .int .i64 0, .slice none 0 0, .int .i64 0] t (0, 0))) : ((((((w1.setCell ⟨B, 0, none⟩ v0).setCell ⟨B, 1, none⟩ v1).setCell ⟨B, 2, none⟩ v2).setCell ⟨B, 3, none⟩ v3).setCell ⟨B, 4, none⟩ v4).setCell ⟨B, 5, none⟩ v5).heap[B]? = some (.cells #[v0, v1, v2, v3, v4, v5] t (0, 0)) := by
  refine blk_put (cs := #[v0, v1, v2, v3, v4, .int .i64 0]) ?_ 5 _ rfl
  refine blk_put (cs := #[v0, v1, v2, v3, .slice none 0 0, .int .i64 0]) ?_ 4 _ rfl
  refine blk_put (cs := #[v0, v1, v2, .int .i64 0, .slice none 0 0, .int .i64 0]) ?_ 3 _ rfl
  refine blk_put (cs := #[v0, v1, .string ⟨#[]⟩, .int .i64 0, .slice none 0 0, .int .i64 0]) ?_ 2 _ rfl
  refine blk_put (cs := #[v0, .string ⟨#[]⟩, .string ⟨#[]⟩, .int .i64 0, .slice none 0 0, .int .i64 0]) ?_ 1 _ rfl
  exact blk_put (cs := #[.int .i64 0, .string ⟨#[]⟩, .string ⟨#[]⟩, .int .i64 0, .slice none 0 0, .int .i64 0]) BL 0 _ rfl
theorem far6 {w1 : World} {B g : Nat} {t : TypeId} {cs : Array Value} {v0 v1 v2 v3 v4 v5 : Value} (BL : w1.heap[B]? = some (.cells cs t (0, 0))) (h : B ≠ g) : ((((((w1.setCell ⟨g, 0, none⟩ v0).setCell ⟨g, 1, none⟩ v1).setCell ⟨g, 2, none⟩ v2).setCell ⟨g, 3, none⟩ v3).setCell ⟨g, 4, none⟩ v4).setCell ⟨g, 5, none⟩ v5).heap[B]? = some (.cells cs t (0, 0)) :=
  blk_far (blk_far (blk_far (blk_far (blk_far (blk_far BL h _) h _) h _) h _) h _) h _
theorem below6 {w w1 : World} {g : Nat} {v0 v1 v2 v3 v4 v5 : Value} (h : Below w.heap.size w w1) (hg : w.heap.size ≤ g) : Below w.heap.size w ((((((w1.setCell ⟨g, 0, none⟩ v0).setCell ⟨g, 1, none⟩ v1).setCell ⟨g, 2, none⟩ v2).setCell ⟨g, 3, none⟩ v3).setCell ⟨g, 4, none⟩ v4).setCell ⟨g, 5, none⟩ v5) :=
  pbS (pbS (pbS (pbS (pbS (pbS h hg) hg) hg) hg) hg) hg
/-- What both results in memory give at the return. -/
theorem split_ret {tmps : Array Value} {w w1 : World} {u0 u1 u2 u3 u4 u5 v0 v1 v2 v3 v4 v5 : Value} (b1 b2 : Nat) (h6 : tmps.getD 6 undef = .pointer (some ⟨b1, 0, none⟩)) (h7 : tmps.getD 7 undef = .pointer (some ⟨b2, 0, none⟩)) (hne : b2 ≠ b1)
    (B1 : w1.heap[b1]? = some (.cells #[.int .i64 0, .string ⟨#[]⟩, .string ⟨#[]⟩, .int .i64 0, .slice none 0 0, .int .i64 0] 26 (0, 0))) (B2 : w1.heap[b2]? = some (.cells #[.int .i64 0, .string ⟨#[]⟩, .string ⟨#[]⟩, .int .i64 0, .slice none 0 0, .int .i64 0] 26 (0, 0)))
    (hw : ((((((((((((w1.setCell ⟨b1, 0, none⟩ u0).setCell ⟨b1, 1, none⟩ u1).setCell ⟨b1, 2, none⟩ u2).setCell ⟨b1, 3, none⟩ u3).setCell ⟨b1, 4, none⟩ u4).setCell ⟨b1, 5, none⟩ u5).setCell ⟨b2, 0, none⟩ v0).setCell ⟨b2, 1, none⟩ v1).setCell ⟨b2, 2, none⟩ v2).setCell ⟨b2, 3, none⟩ v3).setCell ⟨b2, 4, none⟩ v4).setCell ⟨b2, 5, none⟩ v5).drew = w) :
    (results Tryd.f11 tmps).run Tryd.prog w = .ok (.tuple #[.agg #[u0, u1, u2, u3, u4, u5], .agg #[v0, v1, v2, v3, v4, v5], tmps.getD 8 undef]) w := by
  subst hw
  exact results_list (rs := [.cell 6 26, .cell 7 26, .tmp 8]) rfl (by simp) (.cell b1 26 #[u0, u1, u2, u3, u4, u5] (0, 0) _ h6 (bkD (far6 (put6 B1) hne.symm)) Tryd.underlying26 rfl (by kernel_rfl) (.cell b2 26 #[v0, v1, v2, v3, v4, v5] (0, 0) _ h7 (bkD (put6 (far6 B2 hne))) Tryd.underlying26 rfl (by kernel_rfl) (.tmp .nil)))
theorem R_far6 {α : Type} {d : Kd α} {e : Nat} {w1 : World} {base : Nat} {ok : Nat → Prop} {v : Value} {xs : List α} {g : Nat} {v0 v1 v2 v3 v4 v5 : Value} (h : d.R e w1 base ok v xs) (hg : ∀ k, ok k → k ≠ g) : d.R e ((((((w1.setCell ⟨g, 0, none⟩ v0).setCell ⟨g, 1, none⟩ v1).setCell ⟨g, 2, none⟩ v2).setCell ⟨g, 3, none⟩ v3).setCell ⟨g, 4, none⟩ v4).setCell ⟨g, 5, none⟩ v5) base ok v xs :=
  Kd.R_far (Kd.R_far (Kd.R_far (Kd.R_far (Kd.R_far (Kd.R_far h hg _) hg _) hg _) hg _) hg _) hg _
theorem split_res {tmps : Array Value} {w : World} {u0 u1 u2 u3 u4 u5 v0 v1 v2 v3 v4 v5 : Value} (b1 b2 : Nat) (h6 : tmps.getD 6 undef = .pointer (some ⟨b1, 0, none⟩)) (h7 : tmps.getD 7 undef = .pointer (some ⟨b2, 0, none⟩))
    (B1 : w.heap[b1]? = some (.cells #[u0, u1, u2, u3, u4, u5] 26 (0, 0))) (B2 : w.heap[b2]? = some (.cells #[v0, v1, v2, v3, v4, v5] 26 (0, 0))) :
    (results Tryd.f11 tmps).run Tryd.prog w = .ok (.tuple #[.agg #[u0, u1, u2, u3, u4, u5], .agg #[v0, v1, v2, v3, v4, v5], tmps.getD 8 undef]) w :=
  results_list (rs := [.cell 6 26, .cell 7 26, .tmp 8]) rfl (by simp) (.cell b1 26 #[u0, u1, u2, u3, u4, u5] (0, 0) _ h6 B1 Tryd.underlying26 rfl (by kernel_rfl) (.cell b2 26 #[v0, v1, v2, v3, v4, v5] (0, 0) _ h7 B2 Tryd.underlying26 rfl (by kernel_rfl) (.tmp .nil)))
def desc_Split.f (a0_0 : Int) (a0_1 a0_2 : ByteArray) (a0_3 : Int) (l0_4 : List S60) (a0_5 : Int) (a1 : ByteArray) (a2 : Int) : Option (Int × ByteArray × ByteArray × Int × List S60 × Int × Int × ByteArray × ByteArray × Int × List S60 × Int × Int) :=
  (desc_Check.f a0_0 a0_1 a0_2 a0_3 l0_4 a0_5).bind fun c => if c = 0 then
    if cutOk a0_1 a0_2 a1 = true then
      if a2 ≤ a0_0 then some (0, ⟨#[]⟩, ⟨#[]⟩, 0, [], 0, 0, ⟨#[]⟩, ⟨#[]⟩, 0, [], 0, 2)
      else (api_Member_33.f l0_4).bind fun _ => (desc_Check.f a0_0 a0_1 a1 (wrap64 (a0_3 + 1)) l0_4 a0_5).bind fun c1 => if c1 = 0 then
        (desc_Check.f a2 a1 a0_2 (wrap64 (a0_3 + 1)) l0_4 a0_5).bind fun c2 => if c2 = 0 then some (a0_0, a0_1, a1, wrap64 (a0_3 + 1), l0_4, a0_5, a2, a1, a0_2, wrap64 (a0_3 + 1), l0_4, a0_5, 0)
        else some (0, ⟨#[]⟩, ⟨#[]⟩, 0, [], 0, 0, ⟨#[]⟩, ⟨#[]⟩, 0, [], 0, 60) else some (0, ⟨#[]⟩, ⟨#[]⟩, 0, [], 0, 0, ⟨#[]⟩, ⟨#[]⟩, 0, [], 0, 60)
    else some (0, ⟨#[]⟩, ⟨#[]⟩, 0, [], 0, 0, ⟨#[]⟩, ⟨#[]⟩, 0, [], 0, 20)
  else some (0, ⟨#[]⟩, ⟨#[]⟩, 0, [], 0, 0, ⟨#[]⟩, ⟨#[]⟩, 0, [], 0, c)
set_option maxHeartbeats 16000000 in
set_option maxRecDepth 100000 in
theorem desc_Split.calls (a0_0 : Int) (a0_1 : ByteArray) (a0_2 : ByteArray) (a0_3 : Int) (P0_4_ : Nat → Prop) (A0_4 : Option Addr) (c0_4 : Nat) (l0_4 : List (S60)) (a0_5 : Int) (a1 : ByteArray) (a2 : Int) (r1 : Int) (r2 : ByteArray) (r3 : ByteArray) (r4 : Int) (r5 : List (S60)) (r6 : Int) (r7 : Int) (r8 : ByteArray) (r9 : ByteArray) (r10 : Int) (r11 : List (S60)) (r12 : Int) (r13 : Int) (w : World) (hG : TheG w) (hs0_4 : Kd.V k60 60 w w.heap.size (fun k_ => P0_4_ k_) (.slice A0_4 l0_4.length c0_4) l0_4) (h : desc_Split.f a0_0 a0_1 a0_2 a0_3 l0_4 a0_5 a1 a2 = some (r1, r2, r3, r4, r5, r6, r7, r8, r9, r10, r11, r12, r13)) :
    Calls Tryd.prog 11 #[.agg #[.int .i64 a0_0, .string a0_1, .string a0_2, .int .i64 a0_3, .slice A0_4 l0_4.length c0_4, .int .i64 a0_5], .string a1, .int .i64 a2] w fun e w' => ∃ v4_ v10_ : Value, e = .returned (.tuple #[.agg #[.int .i64 r1, .string r2, .string r3, .int .i64 r4, v4_, .int .i64 r6], .agg #[.int .i64 r7, .string r8, .string r9, .int .i64 r10, v10_, .int .i64 r12], .int .i64 r13]) ∧ Kd.V k60 60 w' w.heap.size (fun k_ => (P0_4_ k_ ∨ w.heap.size ≤ k_) ∧ some k_ ≠ (v10_ : Value).ownBlock) v4_ r5 ∧ Kd.R k60 60 w' w.heap.size (fun k_ => (w.heap.size ≤ k_)) v10_ r11 ∧ Below w.heap.size w w' := by
  have hu26 := Tryd.underlying26
  have hu23 := Tryd.underlying23
  obtain ⟨hn, hcl, hF⟩ := Kd.V_at hs0_4
  clear hn
  have HF := Lib.hid (Kd.F_bound hF)
  have HC := Lib.hid (Kd.F_now hF)
  clear hF hs0_4
  unfold desc_Split.f at h
  have KK : ∀ (W : World) (p0 : Int) (p1 p2 : ByteArray) (p3 p5 c : Int), desc_Check.f p0 p1 p2 p3 l0_4 p5 = some c → Below w.heap.size w W → Hid (Calls Tryd.prog 22 #[.agg #[.int .i64 p0, .string p1, .string p2, .int .i64 p3, .slice A0_4 l0_4.length c0_4, .int .i64 p5]] W fun e w' => e = .returned (.int .i64 c) ∧ Below W.heap.size W w') := fun W p0 p1 p2 p3 p5 c hc hW => Lib.hid (desc_Check.calls p0 p1 p2 p3 A0_4 c0_4 l0_4 p5 c W (hG.below hW) (Kd.C_below HC.out hW) hcl hc)
  obtain ⟨c, hc, h⟩ := Option.bind_eq_some_iff.mp h
  have K0 := fun W hW => KK W _ _ _ _ _ _ hc hW
  clear hc
  by_cases c0 : c = 0
  · subst c0
    rw [if_pos rfl] at h
    have HT : ∀ W, Below w.heap.size w W → Hid (Calls Tryd.prog 32 #[.agg #[.string a0_1, .string a0_2], .string a1] W fun e w' => e = .returned (.tuple (if cutOk a0_1 a0_2 a1 = true then #[.agg #[.string a0_1, .string a1], .agg #[.string a1, .string a0_2], .int .i64 0] else #[.agg #[.string ⟨#[]⟩, .string ⟨#[]⟩], .agg #[.string ⟨#[]⟩, .string ⟨#[]⟩], .int .i64 20])) ∧ Below W.heap.size W w') := by
      intro W hW
      refine Lib.hid ?_
      cases hk : cutOk a0_1 a0_2 a1
      · exact bound_Cut.calls a0_1 a0_2 a1 _ _ _ _ _ W (hG.below hW) (by unfold bound_Cut.f; rw [hk]; rfl)
      · exact bound_Cut.calls a0_1 a0_2 a1 _ _ _ _ _ W (hG.below hW) (by unfold bound_Cut.f; rw [hk]; rfl)
    cases hk : cutOk a0_1 a0_2 a1
    · rw [hk, if_neg (by simp)] at h
      simp only [hk, if_neg (show ¬ (false = true) by simp)] at HT
      simp only [Option.some.injEq, Prod.mk.injEq] at h
      obtain ⟨rfl, rfl, rfl, rfl, rfl, rfl, rfl, rfl, rfl, rfl, rfl, rfl, rfl⟩ := h
      clear KK
      go_enter Tryd.func11, Tryd.ntmps11
      go_wp2_with (first | (go_at_call 22; refine (K0 _ (pbA (pbA (pbA (Below.refl _ _) _) _) _)).out.mono ?_; rintro e w1 ⟨rfl, hb⟩; have B0 := three_old hb () (); have B1 := three_mid2 hb () (); have B2 := three_new hb () (); obtain ⟨x0, x1, x2, x3, x4, x5, d0, d1, d2, d3, d4, d5, M0⟩ := six B0; obtain ⟨z0, z1, z2, z3, z4, z5, f0, f1, f2, f3, f4, f5, L0⟩ := six B1; obtain ⟨y0, y1, y2, y3, y4, y5, e0, e1, e2, e3, e4, e5, L1⟩ := six B2; have HB := pbT (pbA (pbA (pbA (Below.refl _ _) _) _) _) hb; clear hb) | (go_at_call 32; refine (HT _ HB).out.mono ?_; rintro e w2 ⟨rfl, hb⟩; clear x0 x1 x2 x3 x4 x5 d0 d1 d2 d3 d4 d5 M0 z0 z1 z2 z3 z4 z5 f0 f1 f2 f3 f4 f5 L0 y0 y1 y2 y3 y4 y5 e0 e1 e2 e3 e4 e5 L1; have B3 := bkB B0 hb; have B4 := bkB B1 hb; have B5 := bkB B2 hb; clear B0 B1 B2; obtain ⟨x0, x1, x2, x3, x4, x5, d0, d1, d2, d3, d4, d5, M0⟩ := six B3; obtain ⟨z0, z1, z2, z3, z4, z5, f0, f1, f2, f3, f4, f5, L0⟩ := six B4; obtain ⟨y0, y1, y2, y3, y4, y5, e0, e1, e2, e3, e4, e5, L1⟩ := six B5; have HB2 := pbT HB hb; clear hb HB) | go_in)
      go_region
      go_wp2
      refine bodyPost_ret (split_res (w.heap.size + 1) (w.heap.size + 1 + 1) rfl rfl (bkD (bkA (bkA (far6 (put6 B4) (by omega)) _) _)) (bkD (bkA (bkA (put6 (far6 B5 (by omega))) _) _))) rfl ?_
      exact ⟨_, _, rfl, Kd.V_nil _ _ _ _ _, Kd.R_nil _ _ _ _ _, pb1 (pbA (pbA (below6 (below6 HB2 (by omega)) (by omega)) _) _)⟩
    · rw [hk, if_pos rfl] at h
      simp only [hk, if_true] at HT
      by_cases hid : a2 ≤ a0_0
      · rw [if_pos hid] at h
        simp only [Option.some.injEq, Prod.mk.injEq] at h
        obtain ⟨rfl, rfl, rfl, rfl, rfl, rfl, rfl, rfl, rfl, rfl, rfl, rfl, rfl⟩ := h
        clear KK
        go_enter Tryd.func11, Tryd.ntmps11
        go_wp2_with (first | (go_at_call 22; refine (K0 _ (pbA (pbA (pbA (Below.refl _ _) _) _) _)).out.mono ?_; rintro e w1 ⟨rfl, hb⟩; have B0 := three_old hb () (); have B1 := three_mid2 hb () (); have B2 := three_new hb () (); obtain ⟨x0, x1, x2, x3, x4, x5, d0, d1, d2, d3, d4, d5, M0⟩ := six B0; obtain ⟨z0, z1, z2, z3, z4, z5, f0, f1, f2, f3, f4, f5, L0⟩ := six B1; obtain ⟨y0, y1, y2, y3, y4, y5, e0, e1, e2, e3, e4, e5, L1⟩ := six B2; have HB := pbT (pbA (pbA (pbA (Below.refl _ _) _) _) _) hb; clear hb) | (go_at_call 32; refine (HT _ HB).out.mono ?_; rintro e w2 ⟨rfl, hb⟩; clear x0 x1 x2 x3 x4 x5 d0 d1 d2 d3 d4 d5 M0 z0 z1 z2 z3 z4 z5 f0 f1 f2 f3 f4 f5 L0 y0 y1 y2 y3 y4 y5 e0 e1 e2 e3 e4 e5 L1; have B3 := bkB B0 hb; have B4 := bkB B1 hb; have B5 := bkB B2 hb; clear B0 B1 B2; obtain ⟨x0, x1, x2, x3, x4, x5, d0, d1, d2, d3, d4, d5, M0⟩ := six B3; obtain ⟨z0, z1, z2, z3, z4, z5, f0, f1, f2, f3, f4, f5, L0⟩ := six B4; obtain ⟨y0, y1, y2, y3, y4, y5, e0, e1, e2, e3, e4, e5, L1⟩ := six B5; have HB2 := pbT HB hb; clear hb HB) | go_in)
        go_region
        go_wp2
        refine bodyPost_ret (split_res (w.heap.size + 1) (w.heap.size + 1 + 1) rfl rfl (bkD (bkA (bkA (far6 (put6 B4) (by omega)) _) _)) (bkD (bkA (bkA (put6 (far6 B5 (by omega))) _) _))) rfl ?_
        exact ⟨_, _, rfl, Kd.V_nil _ _ _ _ _, Kd.R_nil _ _ _ _ _, pb1 (pbA (pbA (below6 (below6 HB2 (by omega)) (by omega)) _) _)⟩
      · rw [if_neg hid] at h
        obtain ⟨m, hm, h⟩ := Option.bind_eq_some_iff.mp h
        have hml : l0_4.length < 8796093022208 := Classical.byContradiction fun hn => by unfold api_Member_33.f at hm; rw [if_neg hn] at hm; cases hm
        clear hm
        obtain ⟨c1, hc1, h⟩ := Option.bind_eq_some_iff.mp h
        have K1 := fun W hW => KK W _ _ _ _ _ _ hc1 hW
        clear hc1
        go_enter Tryd.func11, Tryd.ntmps11
        go_wp2_with (first | (go_at_call 22; refine (K0 _ (pbA (pbA (pbA (Below.refl _ _) _) _) _)).out.mono ?_; rintro e w1 ⟨rfl, hb⟩; have B0 := three_old hb () (); have B1 := three_mid2 hb () (); have B2 := three_new hb () (); obtain ⟨x0, x1, x2, x3, x4, x5, d0, d1, d2, d3, d4, d5, M0⟩ := six B0; obtain ⟨z0, z1, z2, z3, z4, z5, f0, f1, f2, f3, f4, f5, L0⟩ := six B1; obtain ⟨y0, y1, y2, y3, y4, y5, e0, e1, e2, e3, e4, e5, L1⟩ := six B2; have HB := pbT (pbA (pbA (pbA (Below.refl _ _) _) _) _) hb; clear hb) | (go_at_call 32; refine (HT _ HB).out.mono ?_; rintro e w2 ⟨rfl, hb⟩; clear x0 x1 x2 x3 x4 x5 d0 d1 d2 d3 d4 d5 M0 z0 z1 z2 z3 z4 z5 f0 f1 f2 f3 f4 f5 L0 y0 y1 y2 y3 y4 y5 e0 e1 e2 e3 e4 e5 L1; have B3 := bkB B0 hb; have B4 := bkB B1 hb; have B5 := bkB B2 hb; clear B0 B1 B2; obtain ⟨x0, x1, x2, x3, x4, x5, d0, d1, d2, d3, d4, d5, M0⟩ := six B3; obtain ⟨z0, z1, z2, z3, z4, z5, f0, f1, f2, f3, f4, f5, L0⟩ := six B4; obtain ⟨y0, y1, y2, y3, y4, y5, e0, e1, e2, e3, e4, e5, L1⟩ := six B5; have HB2 := pbT HB hb; clear hb HB) | go_in)
        clear K0 HT x0 x1 x2 x3 x4 x5 d0 d1 d2 d3 d4 d5 z0 z1 z2 z3 z4 z5 f0 f1 f2 f3 f4 f5 y0 y1 y2 y3 y4 y5 e0 e1 e2 e3 e4 e5
        obtain ⟨W, hW⟩ : ∃ W, W = ((w2.setCell ⟨w.heap.size, 3, none⟩ (.int .i64 (wrap64 (a0_3 + 1)))).alloc (.cells #[.string a0_1, .string a1] 23)).alloc (.cells #[.string a1, .string a0_2] 23) := ⟨_, rfl⟩
        have BW0 : W.heap[w.heap.size]? = some (.cells #[.int .i64 a0_0, .string a0_1, .string a0_2, .int .i64 (wrap64 (a0_3 + 1)), .slice A0_4 l0_4.length c0_4, .int .i64 a0_5] 26 (0, 0)) := by rw [hW]; exact bkA (bkA (blk_put B3 3 _ rfl) _) _
        have BW1 : W.heap[w.heap.size + 1]? = some (.cells #[.int .i64 0, .string ⟨#[]⟩, .string ⟨#[]⟩, .int .i64 0, .slice none 0 0, .int .i64 0] 26 (0, 0)) := by rw [hW]; exact bkA (bkA (blk_far B4 (by simp) _) _) _
        have BW2 : W.heap[w.heap.size + 2]? = some (.cells #[.int .i64 0, .string ⟨#[]⟩, .string ⟨#[]⟩, .int .i64 0, .slice none 0 0, .int .i64 0] 26 (0, 0)) := by rw [hW]; exact bkA (bkA (blk_far B5 (by simp) _) _) _
        have hsz : (w2.setCell ⟨w.heap.size, 3, none⟩ (.int .i64 (wrap64 (a0_3 + 1)))).heap.size = w2.heap.size := by simp
        have B9 : W.heap[w2.heap.size]? = some (.cells #[.string a0_1, .string a1] 23 (0, 0)) := by rw [hW, ← hsz]; exact bkA (heap_alloc_new _ _) _
        have B10 : W.heap[w2.heap.size + 1]? = some (.cells #[.string a1, .string a0_2] 23 (0, 0)) := by rw [hW, ← hsz, ← World.size_alloc (w2.setCell ⟨w.heap.size, 3, none⟩ (.int .i64 (wrap64 (a0_3 + 1)))) (.cells #[.string a0_1, .string a1] 23)]; exact heap_alloc_new _ _
        have HBW : Below w.heap.size w W := by rw [hW]; exact pbA (pbA (pbS HB2 (Nat.le_refl _)) _) _
        rw [← hW]
        clear hW HB2 B3 B4 B5 hsz
        refine start_ (n := 6) (S := fun w' => w'.cell? ⟨w.heap.size, 0, none⟩ = some (.int .i64 a0_0) ∧ w'.cell? ⟨w.heap.size, 1, none⟩ = some (.string a0_1) ∧ w'.cell? ⟨w.heap.size, 2, none⟩ = some (.string a0_2) ∧ w'.cell? ⟨w.heap.size, 3, none⟩ = some (.int .i64 (wrap64 (a0_3 + 1))) ∧ w'.cell? ⟨w.heap.size, 4, none⟩ = some (.slice A0_4 l0_4.length c0_4) ∧ w'.cell? ⟨w.heap.size, 5, none⟩ = some (.int .i64 a0_5)) (ds := []) #[false, false, false, false, false, false] (by kernel_rfl) rfl rfl ⟨(bkC BW0 0).trans rfl, (bkC BW0 1).trans rfl, (bkC BW0 2).trans rfl, (bkC BW0 3).trans rfl, (bkC BW0 4).trans rfl, (bkC BW0 5).trans rfl⟩ (fun hHeld => ?_)
        replace BW0 := bkD BW0
        replace BW1 := bkD BW1
        replace BW2 := bkD BW2
        replace B9 := bkD B9
        replace B10 := bkD B10
        replace HBW := pb1 HBW
        generalize W.drew = W1 at BW0 BW1 BW2 B9 B10 HBW hHeld ⊢
        clear W
        refine take_ (i := 0) (N := some 45) (v := ?_) (a' := ?_) #[true, false, false, false, false, false] rfl rfl (by kernel_rfl) (fun _ _ _ h => h) (Or.inl ⟨by rfl, ?_⟩) hHeld ?_ ?_
        rotate_left
        · rintro w' ⟨s0, s1, s2, s3, s4, s5⟩
          go_simp
          with_reducible rfl
        rotate_left
        · simp only [Act.put, List.setIfInBounds_toArray, List.set_cons_zero, List.set_cons_succ, i64_w, i32_w]
          rfl
        refine take_ (i := 1) (N := some 46) (v := ?_) (a' := ?_) #[true, true, false, false, false, false] rfl rfl (by kernel_rfl) (fun _ _ _ h => h) (Or.inl ⟨by rfl, ?_⟩) hHeld ?_ ?_
        rotate_left
        · rintro w' ⟨s0, s1, s2, s3, s4, s5⟩
          go_simp
          with_reducible rfl
        rotate_left
        · simp only [Act.put, List.setIfInBounds_toArray, List.set_cons_zero, List.set_cons_succ, i64_w, i32_w]
          rfl
        refine join_ (σ := Nat × Nat) 2 #[true, true, true, true, false, false] (fun s_ => [(11, .pointer (some ⟨s_.1, 0, none⟩)), (12, .pointer (some ⟨s_.2, 0, none⟩))]) (fun s_ w' => (w'.cell? ⟨w.heap.size, 0, none⟩ = some (.int .i64 a0_0) ∧ w'.cell? ⟨w.heap.size, 1, none⟩ = some (.string a0_1) ∧ w'.cell? ⟨w.heap.size, 2, none⟩ = some (.string a0_2) ∧ w'.cell? ⟨w.heap.size, 3, none⟩ = some (.int .i64 (wrap64 (a0_3 + 1))) ∧ w'.cell? ⟨w.heap.size, 4, none⟩ = some (.slice A0_4 l0_4.length c0_4) ∧ w'.cell? ⟨w.heap.size, 5, none⟩ = some (.int .i64 a0_5)) ∧ Below W1.heap.size W1 w' ∧ w'.heap[s_.1]? = some (.cells #[.int .i64 0, .string ⟨#[]⟩, .string ⟨#[]⟩, .int .i64 0, .slice none 0 0, .int .i64 0] 26 (0, 0)) ∧ w'.heap[s_.2]? = some (.cells #[.int .i64 0, .string ⟨#[]⟩, .string ⟨#[]⟩, .int .i64 0, .slice none 0 0, .int .i64 0] 26 (0, 0)) ∧ W1.heap.size ≤ s_.1 ∧ W1.heap.size ≤ s_.2 ∧ s_.1 ≠ s_.2) ?_ ?_
        rotate_left
        · intro hCont
          refine two_ (i := 2) (j := 3) (Ni := some 11) (Nj := some 12) #[true, true, true, false, false, false] #[true, true, false, true, false, false] rfl rfl rfl rfl (by kernel_rfl) (by decide) (by decide) (fun K hK => ?_) (fun K hK => ?_)
          · refine box_step ?hg (N := 11) ?hd (cs := #[.int .i64 0, .string ⟨#[]⟩, .string ⟨#[]⟩, .int .i64 0, .slice none 0 0, .int .i64 0]) (t := 26) ?hr ?_; (case hd => rfl); (case hg => rfl); (case hr => first | (go_simp; done) | (go_simp; rfl))
            intro g1 hg w3 hbox hb
            have BX := bkB (g := w.heap.size) (o := .cells #[.int .i64 a0_0, .string a0_1, .string a0_2, .int .i64 (wrap64 (a0_3 + 1)), .slice A0_4 l0_4.length c0_4, .int .i64 a0_5] 26 (0, 0)) (by (with_reducible repeat (first | refine bkN ?_ _ | refine bkD ?_ | refine bkA ?_ _)); exact BW0) hb
            have bw3 := hb
            refine hK.out _ _ ⟨(bkC BX 0).trans rfl, (bkC BX 1).trans rfl, (bkC BX 2).trans rfl, (bkC BX 3).trans rfl, (bkC BX 4).trans rfl, (bkC BX 5).trans rfl⟩ (fun hHeld => ?_)
            clear hK K
            refine norm_ (a' := ?_) ?_ ?_
            rotate_left
            · show Act.put _ (some 11) _ = _
              simp only [Act.put, List.setIfInBounds_toArray, List.set_cons_zero, List.set_cons_succ, i64_w, i32_w]
              rfl
            refine one_ (i := 3) (N := some 12) #[true, true, true, true, false, false] rfl rfl (by kernel_rfl) (by decide) (fun K hK => ?_)
            refine box_step ?hg (N := 12) ?hd (cs := #[.int .i64 0, .string ⟨#[]⟩, .string ⟨#[]⟩, .int .i64 0, .slice none 0 0, .int .i64 0]) (t := 26) ?hr ?_; (case hd => rfl); (case hg => rfl); (case hr => first | (go_simp; done) | (go_simp; rfl))
            intro g2 hg2 w4 hbox2 hb2
            have BY := bkB (g := w.heap.size) (o := .cells #[.int .i64 a0_0, .string a0_1, .string a0_2, .int .i64 (wrap64 (a0_3 + 1)), .slice A0_4 l0_4.length c0_4, .int .i64 a0_5] 26 (0, 0)) (by (with_reducible repeat (first | refine bkN ?_ _ | refine bkD ?_ | refine bkA ?_ _)); exact BX) hb2
            have BZ := bkB (o := .cells #[.int .i64 0, .string ⟨#[]⟩, .string ⟨#[]⟩, .int .i64 0, .slice none 0 0, .int .i64 0] 26 (0, 0)) (g := g1) (by (with_reducible repeat (first | refine bkN ?_ _ | refine bkD ?_ | refine bkA ?_ _)); exact hbox) hb2
            refine hK.out _ _ ⟨(bkC BY 0).trans rfl, (bkC BY 1).trans rfl, (bkC BY 2).trans rfl, (bkC BY 3).trans rfl, (bkC BY 4).trans rfl, (bkC BY 5).trans rfl⟩ (fun hHeld => ?_)
            clear hK K
            refine norm_ (a' := ?_) ?_ ?_
            rotate_left
            · show Act.put _ (some 12) _ = _
              simp only [Act.put, List.setIfInBounds_toArray, List.set_cons_zero, List.set_cons_succ, i64_w, i32_w]
              rfl
            have bA : Below W1.heap.size W1 w3 := pbT (by repeat (first | (with_reducible first | exact Below.refl _ _ | apply pbA | apply pbN | apply pb1) | exact Below.refl _ _)) bw3
            have bB : Below W1.heap.size W1 w4 := pbT (by repeat (first | (with_reducible first | exact bA | apply pbA | apply pbN | apply pb1) | exact bA)) hb2
            have l1 : W1.heap.size ≤ g1 := by rw [hg]; exact pbZ (by repeat (first | (with_reducible first | exact Below.refl _ _ | apply pbA | apply pbN | apply pb1) | exact Below.refl _ _))
            have l2 : W1.heap.size ≤ g2 := by rw [hg2]; exact pbZ (by repeat (first | (with_reducible first | exact bA | apply pbA | apply pbN | apply pb1) | exact bA))
            have hne : g1 ≠ g2 := by rw [hg2]; exact Nat.ne_of_lt (blk_lt (o := .cells #[.int .i64 0, .string ⟨#[]⟩, .string ⟨#[]⟩, .int .i64 0, .slice none 0 0, .int .i64 0] 26 (0, 0)) (by (with_reducible repeat (first | refine bkN ?_ _ | refine bkD ?_ | refine bkA ?_ _)); exact hbox))
            exact norm_ (by simp only [putAll, Act.put, List.setIfInBounds_toArray, List.set_cons_zero, List.set_cons_succ]) (hCont (g1, g2) _ ⟨hHeld, bB, BZ, hbox2, l1, l2, hne⟩)
          · refine box_step ?hg (N := 12) ?hd (cs := #[.int .i64 0, .string ⟨#[]⟩, .string ⟨#[]⟩, .int .i64 0, .slice none 0 0, .int .i64 0]) (t := 26) ?hr ?_; (case hd => rfl); (case hg => rfl); (case hr => first | (go_simp; done) | (go_simp; rfl))
            intro g2 hg w3 hbox hb
            have BX := bkB (g := w.heap.size) (o := .cells #[.int .i64 a0_0, .string a0_1, .string a0_2, .int .i64 (wrap64 (a0_3 + 1)), .slice A0_4 l0_4.length c0_4, .int .i64 a0_5] 26 (0, 0)) (by (with_reducible repeat (first | refine bkN ?_ _ | refine bkD ?_ | refine bkA ?_ _)); exact BW0) hb
            have bw3 := hb
            refine hK.out _ _ ⟨(bkC BX 0).trans rfl, (bkC BX 1).trans rfl, (bkC BX 2).trans rfl, (bkC BX 3).trans rfl, (bkC BX 4).trans rfl, (bkC BX 5).trans rfl⟩ (fun hHeld => ?_)
            clear hK K
            refine norm_ (a' := ?_) ?_ ?_
            rotate_left
            · show Act.put _ (some 12) _ = _
              simp only [Act.put, List.setIfInBounds_toArray, List.set_cons_zero, List.set_cons_succ, i64_w, i32_w]
              rfl
            refine one_ (i := 2) (N := some 11) #[true, true, true, true, false, false] rfl rfl (by kernel_rfl) (by decide) (fun K hK => ?_)
            refine box_step ?hg (N := 11) ?hd (cs := #[.int .i64 0, .string ⟨#[]⟩, .string ⟨#[]⟩, .int .i64 0, .slice none 0 0, .int .i64 0]) (t := 26) ?hr ?_; (case hd => rfl); (case hg => rfl); (case hr => first | (go_simp; done) | (go_simp; rfl))
            intro g1 hg2 w4 hbox2 hb2
            have BY := bkB (g := w.heap.size) (o := .cells #[.int .i64 a0_0, .string a0_1, .string a0_2, .int .i64 (wrap64 (a0_3 + 1)), .slice A0_4 l0_4.length c0_4, .int .i64 a0_5] 26 (0, 0)) (by (with_reducible repeat (first | refine bkN ?_ _ | refine bkD ?_ | refine bkA ?_ _)); exact BX) hb2
            have BZ := bkB (o := .cells #[.int .i64 0, .string ⟨#[]⟩, .string ⟨#[]⟩, .int .i64 0, .slice none 0 0, .int .i64 0] 26 (0, 0)) (g := g2) (by (with_reducible repeat (first | refine bkN ?_ _ | refine bkD ?_ | refine bkA ?_ _)); exact hbox) hb2
            refine hK.out _ _ ⟨(bkC BY 0).trans rfl, (bkC BY 1).trans rfl, (bkC BY 2).trans rfl, (bkC BY 3).trans rfl, (bkC BY 4).trans rfl, (bkC BY 5).trans rfl⟩ (fun hHeld => ?_)
            clear hK K
            refine norm_ (a' := ?_) ?_ ?_
            rotate_left
            · show Act.put _ (some 11) _ = _
              simp only [Act.put, List.setIfInBounds_toArray, List.set_cons_zero, List.set_cons_succ, i64_w, i32_w]
              rfl
            have bA : Below W1.heap.size W1 w3 := pbT (by repeat (first | (with_reducible first | exact Below.refl _ _ | apply pbA | apply pbN | apply pb1) | exact Below.refl _ _)) bw3
            have bB : Below W1.heap.size W1 w4 := pbT (by repeat (first | (with_reducible first | exact bA | apply pbA | apply pbN | apply pb1) | exact bA)) hb2
            have l1 : W1.heap.size ≤ g2 := by rw [hg]; exact pbZ (by repeat (first | (with_reducible first | exact Below.refl _ _ | apply pbA | apply pbN | apply pb1) | exact Below.refl _ _))
            have l2 : W1.heap.size ≤ g1 := by rw [hg2]; exact pbZ (by repeat (first | (with_reducible first | exact bA | apply pbA | apply pbN | apply pb1) | exact bA))
            have hne : g2 ≠ g1 := by rw [hg2]; exact Nat.ne_of_lt (blk_lt (o := .cells #[.int .i64 0, .string ⟨#[]⟩, .string ⟨#[]⟩, .int .i64 0, .slice none 0 0, .int .i64 0] 26 (0, 0)) (by (with_reducible repeat (first | refine bkN ?_ _ | refine bkD ?_ | refine bkA ?_ _)); exact hbox))
            exact norm_ (by simp only [putAll, Act.put, List.setIfInBounds_toArray, List.set_cons_zero, List.set_cons_succ]) (hCont (g1, g2) _ ⟨hHeld, bB, hbox2, BZ, l2, l1, hne.symm⟩)
        have m0 := blk_lt BW0
        have m1 := blk_lt BW1
        have m2 := blk_lt BW2
        have m9 := blk_lt B9
        have m10 := blk_lt B10
        rintro ⟨g1, g2⟩ w4 ⟨hS, hb4, G1, G2, l1, l2, hne⟩
        have hHeld : w4.cell? ⟨w.heap.size, 0, none⟩ = some (.int .i64 a0_0) ∧ w4.cell? ⟨w.heap.size, 1, none⟩ = some (.string a0_1) ∧ w4.cell? ⟨w.heap.size, 2, none⟩ = some (.string a0_2) ∧ w4.cell? ⟨w.heap.size, 3, none⟩ = some (.int .i64 (wrap64 (a0_3 + 1))) ∧ w4.cell? ⟨w.heap.size, 4, none⟩ = some (.slice A0_4 l0_4.length c0_4) ∧ w4.cell? ⟨w.heap.size, 5, none⟩ = some (.int .i64 a0_5) := hS
        clear hS
        simp only at G1 G2 l1 l2 hne
        have HB4 : Below w.heap.size w w4 := pbT HBW hb4
        replace BW0 := bkB BW0 hb4
        replace BW1 := bkB BW1 hb4
        replace BW2 := bkB BW2 hb4
        replace B9 := bkB B9 hb4
        replace B10 := bkB B10 hb4
        have lw : w.heap.size ≤ W1.heap.size := pbZ HBW
        clear hb4 HBW
        refine norm_ (a' := ?_) ?_ ?_
        rotate_left
        · simp only [putAll, Act.put, List.setIfInBounds_toArray, List.set_cons_zero, List.set_cons_succ]
          rfl
        refine one_ (i := 4) (N := none) #[true, true, true, true, true, false] rfl rfl (by kernel_rfl) (by decide) (fun K hK => ?_)
        obtain ⟨z0, z1, z2, z3, z4, z5, f0, f1, f2, f3, f4, f5, L0⟩ := six G1
        refine skip_ (w1 := ?_) (by rfl) rfl ?_ ?_
        rotate_left
        · go_simp
          rfl
        clear z0 z1 z2 z3 z4 z5 f0 f1 f2 f3 f4 f5 L0
        have BX := far6 (g := g1) (v0 := .int .i64 a0_0) (v1 := .string a0_1) (v2 := .string a0_2) (v3 := .int .i64 (wrap64 (a0_3 + 1))) (v4 := .slice A0_4 l0_4.length c0_4) (v5 := .int .i64 a0_5) BW0 (by omega)
        have C1 := far6 (g := g1) (v0 := .int .i64 a0_0) (v1 := .string a0_1) (v2 := .string a0_2) (v3 := .int .i64 (wrap64 (a0_3 + 1))) (v4 := .slice A0_4 l0_4.length c0_4) (v5 := .int .i64 a0_5) BW1 (by omega)
        have C2 := far6 (g := g1) (v0 := .int .i64 a0_0) (v1 := .string a0_1) (v2 := .string a0_2) (v3 := .int .i64 (wrap64 (a0_3 + 1))) (v4 := .slice A0_4 l0_4.length c0_4) (v5 := .int .i64 a0_5) BW2 (by omega)
        have C9 := far6 (g := g1) (v0 := .int .i64 a0_0) (v1 := .string a0_1) (v2 := .string a0_2) (v3 := .int .i64 (wrap64 (a0_3 + 1))) (v4 := .slice A0_4 l0_4.length c0_4) (v5 := .int .i64 a0_5) B9 (by omega)
        have C10 := far6 (g := g1) (v0 := .int .i64 a0_0) (v1 := .string a0_1) (v2 := .string a0_2) (v3 := .int .i64 (wrap64 (a0_3 + 1))) (v4 := .slice A0_4 l0_4.length c0_4) (v5 := .int .i64 a0_5) B10 (by omega)
        have CG2 := far6 (g := g1) (v0 := .int .i64 a0_0) (v1 := .string a0_1) (v2 := .string a0_2) (v3 := .int .i64 (wrap64 (a0_3 + 1))) (v4 := .slice A0_4 l0_4.length c0_4) (v5 := .int .i64 a0_5) G2 (by omega)
        have CG1 := put6 (v0 := .int .i64 a0_0) (v1 := .string a0_1) (v2 := .string a0_2) (v3 := .int .i64 (wrap64 (a0_3 + 1))) (v4 := .slice A0_4 l0_4.length c0_4) (v5 := .int .i64 a0_5) G1
        have CB := below6 (v0 := .int .i64 a0_0) (v1 := .string a0_1) (v2 := .string a0_2) (v3 := .int .i64 (wrap64 (a0_3 + 1))) (v4 := .slice A0_4 l0_4.length c0_4) (v5 := .int .i64 a0_5) HB4 (Nat.le_trans lw l1)
        refine hK.out _ _ ⟨(bkC BX 0).trans rfl, (bkC BX 1).trans rfl, (bkC BX 2).trans rfl, (bkC BX 3).trans rfl, (bkC BX 4).trans rfl, (bkC BX 5).trans rfl⟩ (fun hHeld => ?_)
        clear hK K BW0 BW1 BW2 B9 B10 G1 G2 HB4 hHeld
        generalize ((((((w4.setCell ⟨g1, 0, none⟩ (.int .i64 a0_0)).setCell ⟨g1, 1, none⟩ (.string a0_1)).setCell ⟨g1, 2, none⟩ (.string a0_2)).setCell ⟨g1, 3, none⟩ (.int .i64 (wrap64 (a0_3 + 1)))).setCell ⟨g1, 4, none⟩ (.slice A0_4 l0_4.length c0_4)).setCell ⟨g1, 5, none⟩ (.int .i64 a0_5)) = w5 at BX C1 C2 C9 C10 CG1 CG2 CB ⊢
        have hHeld : w5.cell? ⟨w.heap.size, 0, none⟩ = some (.int .i64 a0_0) ∧ w5.cell? ⟨w.heap.size, 1, none⟩ = some (.string a0_1) ∧ w5.cell? ⟨w.heap.size, 2, none⟩ = some (.string a0_2) ∧ w5.cell? ⟨w.heap.size, 3, none⟩ = some (.int .i64 (wrap64 (a0_3 + 1))) ∧ w5.cell? ⟨w.heap.size, 4, none⟩ = some (.slice A0_4 l0_4.length c0_4) ∧ w5.cell? ⟨w.heap.size, 5, none⟩ = some (.int .i64 a0_5) := ⟨(bkC BX 0).trans rfl, (bkC BX 1).trans rfl, (bkC BX 2).trans rfl, (bkC BX 3).trans rfl, (bkC BX 4).trans rfl, (bkC BX 5).trans rfl⟩
        refine one_ (i := 5) (N := none) #[true, true, true, true, true, true] rfl rfl (by kernel_rfl) (by decide) (fun K hK => ?_)
        obtain ⟨z0, z1, z2, z3, z4, z5, f0, f1, f2, f3, f4, f5, L0⟩ := six CG2
        refine skip_ (w1 := ?_) (by rfl) rfl ?_ ?_
        rotate_left
        · go_simp
          rfl
        clear z0 z1 z2 z3 z4 z5 f0 f1 f2 f3 f4 f5 L0
        have BY := far6 (g := g2) (v0 := .int .i64 a0_0) (v1 := .string a0_1) (v2 := .string a0_2) (v3 := .int .i64 (wrap64 (a0_3 + 1))) (v4 := .slice A0_4 l0_4.length c0_4) (v5 := .int .i64 a0_5) BX (by omega)
        have D1 := far6 (g := g2) (v0 := .int .i64 a0_0) (v1 := .string a0_1) (v2 := .string a0_2) (v3 := .int .i64 (wrap64 (a0_3 + 1))) (v4 := .slice A0_4 l0_4.length c0_4) (v5 := .int .i64 a0_5) C1 (by omega)
        have D2 := far6 (g := g2) (v0 := .int .i64 a0_0) (v1 := .string a0_1) (v2 := .string a0_2) (v3 := .int .i64 (wrap64 (a0_3 + 1))) (v4 := .slice A0_4 l0_4.length c0_4) (v5 := .int .i64 a0_5) C2 (by omega)
        have D9 := far6 (g := g2) (v0 := .int .i64 a0_0) (v1 := .string a0_1) (v2 := .string a0_2) (v3 := .int .i64 (wrap64 (a0_3 + 1))) (v4 := .slice A0_4 l0_4.length c0_4) (v5 := .int .i64 a0_5) C9 (by omega)
        have D10 := far6 (g := g2) (v0 := .int .i64 a0_0) (v1 := .string a0_1) (v2 := .string a0_2) (v3 := .int .i64 (wrap64 (a0_3 + 1))) (v4 := .slice A0_4 l0_4.length c0_4) (v5 := .int .i64 a0_5) C10 (by omega)
        have DG1 := far6 (g := g2) (v0 := .int .i64 a0_0) (v1 := .string a0_1) (v2 := .string a0_2) (v3 := .int .i64 (wrap64 (a0_3 + 1))) (v4 := .slice A0_4 l0_4.length c0_4) (v5 := .int .i64 a0_5) CG1 hne
        have DG2 := put6 (v0 := .int .i64 a0_0) (v1 := .string a0_1) (v2 := .string a0_2) (v3 := .int .i64 (wrap64 (a0_3 + 1))) (v4 := .slice A0_4 l0_4.length c0_4) (v5 := .int .i64 a0_5) CG2
        have DB := below6 (v0 := .int .i64 a0_0) (v1 := .string a0_1) (v2 := .string a0_2) (v3 := .int .i64 (wrap64 (a0_3 + 1))) (v4 := .slice A0_4 l0_4.length c0_4) (v5 := .int .i64 a0_5) CB (Nat.le_trans lw l2)
        refine hK.out _ _ ⟨(bkC BY 0).trans rfl, (bkC BY 1).trans rfl, (bkC BY 2).trans rfl, (bkC BY 3).trans rfl, (bkC BY 4).trans rfl, (bkC BY 5).trans rfl⟩ (fun hHeld => ?_)
        clear hK K BX C1 C2 C9 C10 CG1 CG2 CB hHeld
        generalize ((((((w5.setCell ⟨g2, 0, none⟩ (.int .i64 a0_0)).setCell ⟨g2, 1, none⟩ (.string a0_1)).setCell ⟨g2, 2, none⟩ (.string a0_2)).setCell ⟨g2, 3, none⟩ (.int .i64 (wrap64 (a0_3 + 1)))).setCell ⟨g2, 4, none⟩ (.slice A0_4 l0_4.length c0_4)).setCell ⟨g2, 5, none⟩ (.int .i64 a0_5)) = w6 at BY D1 D2 D9 D10 DG1 DG2 DB ⊢
        refine done_ (by kernel_rfl) ?_
        obtain ⟨z0, z1, z2, z3, z4, z5, f0, f1, f2, f3, f4, f5, L0⟩ := six DG1
        have q0 : w6.cell? ⟨w2.heap.size, 0, none⟩ = some (.string a0_1) := (bkC D9 0).trans rfl
        have q1 : w6.cell? ⟨w2.heap.size, 1, none⟩ = some (.string a1) := (bkC D9 1).trans rfl
        try go_wp2
        clear z0 z1 z2 z3 z4 z5 f0 f1 f2 f3 f4 f5 q0 q1
        replace BY := blk_far (blk_far BY (p := ⟨g1, 1, none⟩) (by simp only; omega) (.string a0_1)) (p := ⟨g1, 2, none⟩) (by simp only; omega) (.string a1)
        replace D1 := blk_far (blk_far D1 (p := ⟨g1, 1, none⟩) (by simp only; omega) (.string a0_1)) (p := ⟨g1, 2, none⟩) (by simp only; omega) (.string a1)
        replace D2 := blk_far (blk_far D2 (p := ⟨g1, 1, none⟩) (by simp only; omega) (.string a0_1)) (p := ⟨g1, 2, none⟩) (by simp only; omega) (.string a1)
        replace D10 := blk_far (blk_far D10 (p := ⟨g1, 1, none⟩) (by simp only; omega) (.string a0_1)) (p := ⟨g1, 2, none⟩) (by simp only; omega) (.string a1)
        replace DG2 := blk_far (blk_far DG2 (p := ⟨g1, 1, none⟩) (by simp only; omega) (.string a0_1)) (p := ⟨g1, 2, none⟩) (by simp only; omega) (.string a1)
        have EG1 := blk_put (blk_put DG1 1 (.string a0_1) rfl) 2 (.string a1) rfl
        replace DB := pbS (j := 2) (v := .string a1) (pbS (j := 1) (v := .string a0_1) DB (Nat.le_trans lw l1)) (Nat.le_trans lw l1)
        simp only [List.setIfInBounds_toArray, List.set_cons_zero, List.set_cons_succ] at EG1
        clear DG1 D9
        generalize ((w6.setCell ⟨g1, 1, none⟩ (.string a0_1)).setCell ⟨g1, 2, none⟩ (.string a1)) = w7 at BY D1 D2 D10 DG2 EG1 DB ⊢
        obtain ⟨z0, z1, z2, z3, z4, z5, f0, f1, f2, f3, f4, f5, L0⟩ := six DG2
        have q0 : w7.cell? ⟨w2.heap.size + 1, 0, none⟩ = some (.string a1) := (bkC D10 0).trans rfl
        have q1 : w7.cell? ⟨w2.heap.size + 1, 1, none⟩ = some (.string a0_2) := (bkC D10 1).trans rfl
        go_region
        replace BY := bkD (blk_far (blk_far (blk_far BY (p := ⟨g2, 0, none⟩) (by simp only; omega) (.int .i64 a2)) (p := ⟨g2, 1, none⟩) (by simp only; omega) (.string a1)) (p := ⟨g2, 2, none⟩) (by simp only; omega) (.string a0_2))
        replace D1 := bkD (blk_far (blk_far (blk_far D1 (p := ⟨g2, 0, none⟩) (by simp only; omega) (.int .i64 a2)) (p := ⟨g2, 1, none⟩) (by simp only; omega) (.string a1)) (p := ⟨g2, 2, none⟩) (by simp only; omega) (.string a0_2))
        replace D2 := bkD (blk_far (blk_far (blk_far D2 (p := ⟨g2, 0, none⟩) (by simp only; omega) (.int .i64 a2)) (p := ⟨g2, 1, none⟩) (by simp only; omega) (.string a1)) (p := ⟨g2, 2, none⟩) (by simp only; omega) (.string a0_2))
        replace EG1 := bkD (blk_far (blk_far (blk_far EG1 (p := ⟨g2, 0, none⟩) (by simp only; omega) (.int .i64 a2)) (p := ⟨g2, 1, none⟩) (by simp only; omega) (.string a1)) (p := ⟨g2, 2, none⟩) (by simp only; omega) (.string a0_2))
        have EG2 := bkD (blk_put (blk_put (blk_put DG2 0 (.int .i64 a2) rfl) 1 (.string a1) rfl) 2 (.string a0_2) rfl)
        replace DB := pb1 (pbS (j := 2) (v := .string a0_2) (pbS (j := 1) (v := .string a1) (pbS (j := 0) (v := .int .i64 a2) DB (Nat.le_trans lw l2)) (Nat.le_trans lw l2)) (Nat.le_trans lw l2))
        simp only [List.setIfInBounds_toArray, List.set_cons_zero, List.set_cons_succ] at EG2
        clear DG2 D10 z0 z1 z2 z3 z4 z5 f0 f1 f2 f3 f4 f5 q0 q1 L0
        generalize ((((w7.setCell ⟨g2, 0, none⟩ (.int .i64 a2)).setCell ⟨g2, 1, none⟩ (.string a1)).setCell ⟨g2, 2, none⟩ (.string a0_2)).drew) = w8 at BY D1 D2 EG1 EG2 DB ⊢
        have HD := DB
        obtain ⟨z0, z1, z2, z3, z4, z5, f0, f1, f2, f3, f4, f5, L0⟩ := six EG2
        obtain ⟨x0, x1, x2, x3, x4, x5, d0, d1, d2, d3, d4, d5, M0⟩ := six BY
        have M1 := blk_lt D1
        have M2 := blk_lt D2
        by_cases c10 : c1 = 0
        · subst c10
          rw [if_pos rfl] at h
          obtain ⟨c2, hc2, h⟩ := Option.bind_eq_some_iff.mp h
          by_cases c20 : c2 = 0
          · subst c20
            rw [if_pos rfl] at h
            simp only [Option.some.injEq, Prod.mk.injEq] at h
            obtain ⟨rfl, rfl, rfl, rfl, rfl, rfl, rfl, rfl, rfl, rfl, rfl, rfl, rfl⟩ := h
            go_wp2_with (first | (go_at_call 33; refine (api_Member_33.calls A0_4 c0_4 l0_4 l0_4 _ (hG.below HD) (Kd.C_below HC.out HD) hcl (by unfold api_Member_33.f; rw [if_pos hml])).mono ?_; rintro e w9 ⟨vc, rfl, hR, hb⟩; obtain ⟨A3, c3, rfl⟩ := Kd.R_slice hR; have J1 := bkB D1 hb; have J2 := bkB D2 hb; have JG1 := bkB EG1 hb; have JG2 := bkB EG2 hb; have HE := pbT HD hb; clear x0 x1 x2 x3 x4 x5 d0 d1 d2 d3 d4 d5 M0 z0 z1 z2 z3 z4 z5 f0 f1 f2 f3 f4 f5; obtain ⟨z0, z1, z2, z3, z4, z5, f0, f1, f2, f3, f4, f5, _⟩ := six JG2; obtain ⟨p0, p1, p2, p3, p4, p5, _⟩ := six JG1; have J3 := blk_put JG2 4 (.slice A3 l0_4.length c3) rfl; simp only [List.setIfInBounds_toArray, List.set_cons_zero, List.set_cons_succ] at J3; have JF := blk_far JG1 (p := ⟨g2, 4, none⟩) (by simp only; omega) (.slice A3 l0_4.length c3); replace J1 := blk_far J1 (p := ⟨g2, 4, none⟩) (by simp only; omega) (.slice A3 l0_4.length c3); replace J2 := blk_far J2 (p := ⟨g2, 4, none⟩) (by simp only; omega) (.slice A3 l0_4.length c3); replace HE := pbS (j := 4) (v := .slice A3 l0_4.length c3) HE (Nat.le_trans lw l2); replace hR := Kd.R_far (Kd.R_mono (Kd.R_bound hR) (fun k hk => (⟨hk.2.1, hk.2.2.1⟩ : w8.heap.size ≤ k ∧ k < w9.heap.size))) (p := ⟨g2, 4, none⟩) (fun k hk => by simp only; omega) (.slice A3 l0_4.length c3); have lz := pbZ hb) | (go_at_call 22; (with_reducible refine (K1 _ HE).out.mono ?_); rintro e w10 ⟨rfl, hbc⟩; clear z0 z1 z2 z3 z4 z5 f0 f1 f2 f3 f4 f5 p0 p1 p2 p3 p4 p5; replace J1 := bkB J1 hbc; replace J2 := bkB J2 hbc; replace J3 := bkB J3 hbc; replace JF := bkB JF hbc; replace HE := pbT HE hbc; replace hR := Kd.R_below hR hbc; obtain ⟨z0, z1, z2, z3, z4, z5, f0, f1, f2, f3, f4, f5, _⟩ := six J3; obtain ⟨p0, p1, p2, p3, p4, p5, _⟩ := six JF; obtain ⟨x0, x1, x2, x3, x4, x5, d0, d1, d2, d3, d4, d5, N1⟩ := six J1; obtain ⟨y0, y1, y2, y3, y4, y5, e0, e1, e2, e3, e4, e5, N2⟩ := six J2) | (go_at_call 22; (with_reducible refine (desc_Check.calls a2 a1 a0_2 (wrap64 (a0_3 + 1)) A3 c3 l0_4 a0_5 _ _ (hG.below HE) (Kd.R_reads' hR).2.2 (Kd.R_reads' hR).2.1 hc2).mono ?_); rintro e w11 ⟨rfl, hbd⟩; clear z0 z1 z2 z3 z4 z5 f0 f1 f2 f3 f4 f5 p0 p1 p2 p3 p4 p5 x0 x1 x2 x3 x4 x5 d0 d1 d2 d3 d4 d5 y0 y1 y2 y3 y4 y5 e0 e1 e2 e3 e4 e5; replace J1 := bkB J1 hbd; replace J2 := bkB J2 hbd; replace J3 := bkB J3 hbd; replace JF := bkB JF hbd; replace HE := pbT HE hbd; replace hR := Kd.R_below hR hbd; obtain ⟨z0, z1, z2, z3, z4, z5, f0, f1, f2, f3, f4, f5, _⟩ := six J3; obtain ⟨p0, p1, p2, p3, p4, p5, _⟩ := six JF; obtain ⟨x0, x1, x2, x3, x4, x5, d0, d1, d2, d3, d4, d5, N1⟩ := six J1; obtain ⟨y0, y1, y2, y3, y4, y5, e0, e1, e2, e3, e4, e5, N2⟩ := six J2) | fail)
            go_region
            go_wp2
            refine bodyPost_ret (split_res (w.heap.size + 1) (w.heap.size + 1 + 1) rfl rfl (bkD (far6 (put6 J1) (by omega))) (bkD (put6 (far6 J2 (by omega))))) rfl ?_
            refine ⟨_, _, rfl, ?_, ?_, pb1 (below6 (below6 HE (by omega)) (by omega))⟩
            · refine Kd.V_mk hcl (Kd.F_mono (Kd.F_below HF.out (pb1 (below6 (below6 HE (by omega)) (by omega)))) (fun k hk => ⟨.inl hk.1, ?_⟩))
              intro e
              have := (hR.1 k e.symm).1
              omega
            · exact Kd.R_mono (Kd.R_lower (Kd.R_drew (R_far6 (R_far6 hR (fun k hk => by omega)) (fun k hk => by omega))) (Nat.le_trans (pbZ HD) (Nat.le_refl _))) (fun k hk => by omega)
          · rw [if_neg c20] at h
            have q2 : (c2 != 0) = true := by simpa using c20
            simp only [Option.some.injEq, Prod.mk.injEq] at h
            obtain ⟨rfl, rfl, rfl, rfl, rfl, rfl, rfl, rfl, rfl, rfl, rfl, rfl, rfl⟩ := h
            go_wp2_with (first | (go_at_call 33; refine (api_Member_33.calls A0_4 c0_4 l0_4 l0_4 _ (hG.below HD) (Kd.C_below HC.out HD) hcl (by unfold api_Member_33.f; rw [if_pos hml])).mono ?_; rintro e w9 ⟨vc, rfl, hR, hb⟩; obtain ⟨A3, c3, rfl⟩ := Kd.R_slice hR; have J1 := bkB D1 hb; have J2 := bkB D2 hb; have JG1 := bkB EG1 hb; have JG2 := bkB EG2 hb; have HE := pbT HD hb; clear x0 x1 x2 x3 x4 x5 d0 d1 d2 d3 d4 d5 M0 z0 z1 z2 z3 z4 z5 f0 f1 f2 f3 f4 f5; obtain ⟨z0, z1, z2, z3, z4, z5, f0, f1, f2, f3, f4, f5, _⟩ := six JG2; obtain ⟨p0, p1, p2, p3, p4, p5, _⟩ := six JG1; have J3 := blk_put JG2 4 (.slice A3 l0_4.length c3) rfl; simp only [List.setIfInBounds_toArray, List.set_cons_zero, List.set_cons_succ] at J3; have JF := blk_far JG1 (p := ⟨g2, 4, none⟩) (by simp only; omega) (.slice A3 l0_4.length c3); replace J1 := blk_far J1 (p := ⟨g2, 4, none⟩) (by simp only; omega) (.slice A3 l0_4.length c3); replace J2 := blk_far J2 (p := ⟨g2, 4, none⟩) (by simp only; omega) (.slice A3 l0_4.length c3); replace HE := pbS (j := 4) (v := .slice A3 l0_4.length c3) HE (Nat.le_trans lw l2); replace hR := Kd.R_far (Kd.R_mono (Kd.R_bound hR) (fun k hk => (⟨hk.2.1, hk.2.2.1⟩ : w8.heap.size ≤ k ∧ k < w9.heap.size))) (p := ⟨g2, 4, none⟩) (fun k hk => by simp only; omega) (.slice A3 l0_4.length c3); have lz := pbZ hb) | (go_at_call 22; (with_reducible refine (K1 _ HE).out.mono ?_); rintro e w10 ⟨rfl, hbc⟩; clear z0 z1 z2 z3 z4 z5 f0 f1 f2 f3 f4 f5 p0 p1 p2 p3 p4 p5; replace J1 := bkB J1 hbc; replace J2 := bkB J2 hbc; replace J3 := bkB J3 hbc; replace JF := bkB JF hbc; replace HE := pbT HE hbc; replace hR := Kd.R_below hR hbc; obtain ⟨z0, z1, z2, z3, z4, z5, f0, f1, f2, f3, f4, f5, _⟩ := six J3; obtain ⟨p0, p1, p2, p3, p4, p5, _⟩ := six JF; obtain ⟨x0, x1, x2, x3, x4, x5, d0, d1, d2, d3, d4, d5, N1⟩ := six J1; obtain ⟨y0, y1, y2, y3, y4, y5, e0, e1, e2, e3, e4, e5, N2⟩ := six J2) | (go_at_call 22; (with_reducible refine (desc_Check.calls a2 a1 a0_2 (wrap64 (a0_3 + 1)) A3 c3 l0_4 a0_5 _ _ (hG.below HE) (Kd.R_reads' hR).2.2 (Kd.R_reads' hR).2.1 hc2).mono ?_); rintro e w11 ⟨rfl, hbd⟩; clear z0 z1 z2 z3 z4 z5 f0 f1 f2 f3 f4 f5 p0 p1 p2 p3 p4 p5 x0 x1 x2 x3 x4 x5 d0 d1 d2 d3 d4 d5 y0 y1 y2 y3 y4 y5 e0 e1 e2 e3 e4 e5; replace J1 := bkB J1 hbd; replace J2 := bkB J2 hbd; replace J3 := bkB J3 hbd; replace JF := bkB JF hbd; replace HE := pbT HE hbd; replace hR := Kd.R_below hR hbd; obtain ⟨z0, z1, z2, z3, z4, z5, f0, f1, f2, f3, f4, f5, _⟩ := six J3; obtain ⟨p0, p1, p2, p3, p4, p5, _⟩ := six JF; obtain ⟨x0, x1, x2, x3, x4, x5, d0, d1, d2, d3, d4, d5, N1⟩ := six J1; obtain ⟨y0, y1, y2, y3, y4, y5, e0, e1, e2, e3, e4, e5, N2⟩ := six J2) | fail)
            go_region
            go_wp2
            refine bodyPost_ret (split_res (w.heap.size + 1) (w.heap.size + 1 + 1) rfl rfl (bkD (far6 (put6 J1) (by omega))) (bkD (put6 (far6 J2 (by omega))))) rfl ?_
            exact ⟨_, _, rfl, Kd.V_nil _ _ _ _ _, Kd.R_nil _ _ _ _ _, pb1 (below6 (below6 HE (by omega)) (by omega))⟩
        · rw [if_neg c10] at h
          have q1 : (c1 != 0) = true := by simpa using c10
          simp only [Option.some.injEq, Prod.mk.injEq] at h
          obtain ⟨rfl, rfl, rfl, rfl, rfl, rfl, rfl, rfl, rfl, rfl, rfl, rfl, rfl⟩ := h
          go_wp2_with (first | (go_at_call 33; refine (api_Member_33.calls A0_4 c0_4 l0_4 l0_4 _ (hG.below HD) (Kd.C_below HC.out HD) hcl (by unfold api_Member_33.f; rw [if_pos hml])).mono ?_; rintro e w9 ⟨vc, rfl, hR, hb⟩; obtain ⟨A3, c3, rfl⟩ := Kd.R_slice hR; have J1 := bkB D1 hb; have J2 := bkB D2 hb; have JG1 := bkB EG1 hb; have JG2 := bkB EG2 hb; have HE := pbT HD hb; clear x0 x1 x2 x3 x4 x5 d0 d1 d2 d3 d4 d5 M0 z0 z1 z2 z3 z4 z5 f0 f1 f2 f3 f4 f5; obtain ⟨z0, z1, z2, z3, z4, z5, f0, f1, f2, f3, f4, f5, _⟩ := six JG2; obtain ⟨p0, p1, p2, p3, p4, p5, _⟩ := six JG1; have J3 := blk_put JG2 4 (.slice A3 l0_4.length c3) rfl; simp only [List.setIfInBounds_toArray, List.set_cons_zero, List.set_cons_succ] at J3; have JF := blk_far JG1 (p := ⟨g2, 4, none⟩) (by simp only; omega) (.slice A3 l0_4.length c3); replace J1 := blk_far J1 (p := ⟨g2, 4, none⟩) (by simp only; omega) (.slice A3 l0_4.length c3); replace J2 := blk_far J2 (p := ⟨g2, 4, none⟩) (by simp only; omega) (.slice A3 l0_4.length c3); replace HE := pbS (j := 4) (v := .slice A3 l0_4.length c3) HE (Nat.le_trans lw l2); replace hR := Kd.R_far (Kd.R_mono (Kd.R_bound hR) (fun k hk => (⟨hk.2.1, hk.2.2.1⟩ : w8.heap.size ≤ k ∧ k < w9.heap.size))) (p := ⟨g2, 4, none⟩) (fun k hk => by simp only; omega) (.slice A3 l0_4.length c3); have lz := pbZ hb) | (go_at_call 22; (with_reducible refine (K1 _ HE).out.mono ?_); rintro e w10 ⟨rfl, hbc⟩; clear z0 z1 z2 z3 z4 z5 f0 f1 f2 f3 f4 f5 p0 p1 p2 p3 p4 p5; replace J1 := bkB J1 hbc; replace J2 := bkB J2 hbc; replace J3 := bkB J3 hbc; replace JF := bkB JF hbc; replace HE := pbT HE hbc; replace hR := Kd.R_below hR hbc; obtain ⟨z0, z1, z2, z3, z4, z5, f0, f1, f2, f3, f4, f5, _⟩ := six J3; obtain ⟨p0, p1, p2, p3, p4, p5, _⟩ := six JF; obtain ⟨x0, x1, x2, x3, x4, x5, d0, d1, d2, d3, d4, d5, N1⟩ := six J1; obtain ⟨y0, y1, y2, y3, y4, y5, e0, e1, e2, e3, e4, e5, N2⟩ := six J2) | fail)
          go_region
          go_wp2
          refine bodyPost_ret (split_res (w.heap.size + 1) (w.heap.size + 1 + 1) rfl rfl (bkD (far6 (put6 J1) (by omega))) (bkD (put6 (far6 J2 (by omega))))) rfl ?_
          exact ⟨_, _, rfl, Kd.V_nil _ _ _ _ _, Kd.R_nil _ _ _ _ _, pb1 (below6 (below6 HE (by omega)) (by omega))⟩
  · rw [if_neg c0] at h
    simp only [Option.some.injEq, Prod.mk.injEq] at h
    obtain ⟨rfl, rfl, rfl, rfl, rfl, rfl, rfl, rfl, rfl, rfl, rfl, rfl, rfl⟩ := h
    have q : (c != 0) = true := by simpa using c0
    clear KK
    go_enter Tryd.func11, Tryd.ntmps11
    go_wp2_with (first | (go_at_call 22; refine (K0 _ (pbA (pbA (pbA (Below.refl _ _) _) _) _)).out.mono ?_; rintro e w1 ⟨rfl, hb⟩; have B0 := three_old hb () (); have B1 := three_mid2 hb () (); have B2 := three_new hb () (); obtain ⟨z0, z1, z2, z3, z4, z5, f0, f1, f2, f3, f4, f5, L0⟩ := six B1; obtain ⟨y0, y1, y2, y3, y4, y5, e0, e1, e2, e3, e4, e5, L1⟩ := six B2; have HB := pbT (pbA (pbA (pbA (Below.refl _ _) _) _) _) hb) | go_in)
    go_region
    go_wp2
    refine bodyPost_ret (split_ret (w.heap.size + 1) (w.heap.size + 1 + 1) rfl rfl (by omega) B1 B2 rfl) rfl ?_
    exact ⟨_, _, rfl, Kd.V_nil _ _ _ _ _, Kd.R_nil _ _ _ _ _, pb1 (below6 (below6 HB (by omega)) (by omega))⟩
end Go.Proofs.YtjfhcijjjadhbaaDoor.P
end
