import Derived.Test.YtjfhcijjjadhbaaDoorZDescBack1
import Derived.Test.YtjfhcijjjadhbaaDoorZDescBack3
import Derived.Test.YtjfhcijjjadhbaaDoorZDescBack4
set_option linter.unusedVariables false
set_option linter.unusedSimpArgs false
set_option linter.unnecessarySimpa false
section
namespace Go.Proofs.YtjfhcijjjadhbaaDoor.U
open Go.RowKit Go.Proofs.YtjfhcijjjadhbaaDoorW.PrintWords Go.Proofs.YtjfhcijjjadhbaaDoorW.PrintLast Go.Proofs.YtjfhcijjjadhbaaDoorW.PrintMore Go.Proofs.YtjfhcijjjadhbaaDoor.P Go.Proofs.YtjfhcijjjadhbaaDoor.K Go.Proofs.YtjfhcijjjadhbaaDoor.A Go.Proofs.YtjfhcijjjadhbaaDoor.V
theorem live_ev : Ev (fun _ => (l06_live.f).bind fun x => some x) true := by
 simp only [l06_live.f, Option.bind_some]
 exact Ev.now _
theorem isMem_lt {nx : Int} : ∀ {l : List S60} {last : Int} {on : Nat → Bool}, isMem nx last on l = true → ∀ x ∈ l, x.f1 < nx
 | [], _, _, _, x, hx => by simp at hx
 | m :: r, last, on, h, x, hx => by
  unfold isMem at h
  split at h
  ·rename_i c
   rcases List.mem_cons.1 hx with rfl | hx
   ·exact c.2.2.2.2
   ·exact isMem_lt h x hx
  ·cases h
theorem okD_lt {id : Int} {fr tu : ByteArray} {gen : Int} {l : List S60} {nx : Int} (h : okD id fr tu gen l nx = true) : ∀ x ∈ l, x.f1 < nx := by
 unfold okD at h
 simp only [Bool.and_eq_true] at h
 have h5 := h.2.2.2.2
 unfold okM at h5
 split at h5
 ·cases h5
 ·exact isMem_lt h5
theorem okD_gen {id : Int} {fr tu : ByteArray} {gen : Int} {l : List S60} {nx : Int} (h : okD id fr tu gen l nx = true) : 1 ≤ gen ∧ gen ≤ 1099511627776 := by
 unfold okD at h
 simp only [Bool.and_eq_true] at h
 exact of_decide_eq_true h.2.1
theorem okD_bound {id : Int} {fr tu : ByteArray} {gen : Int} {l : List S60} {nx : Int} (h : okD id fr tu gen l nx = true) : boundOk fr tu = true := by
 unfold okD at h
 simp only [Bool.and_eq_true] at h
 exact h.2.2.2.1
theorem hitM_none {p : S60 → Bool} {l : List S60} (h : ¬ (hitM p l).2.2 = true) : ∀ x ∈ l, p x = false := by
 unfold hitM at h
 cases hf : l.find? p with
 | some m => rw [hf] at h; exact absurd rfl h
 | none =>
  intro x hx
  have := List.find?_eq_none.1 hf x hx
  simpa using this
theorem hitM_snoc {p : S60 → Bool} {l : List S60} {x : S60} (h : ∀ y ∈ l, p y = false) (hx : p x = true) : hitM p (l ++ [x]) = (x.f0, x.f1, true) := by
 induction l with
 | nil => rw [List.nil_append, hitM_cons, if_pos hx]
 | cons y r ih =>
  rw [List.cons_append, hitM_cons, if_neg (by rw [h y (by simp)]; simp)]
  exact ih (fun z hz => h z (by simp [hz]))
theorem delM_snocx {p : S60 → Bool} {l : List S60} {x : S60} (h : ∀ y ∈ l, p y = false) (hx : p x = true) : delM p (l ++ [x]) = l := by
 unfold delM
 rw [List.filter_append]
 have e : [x].filter (fun x => !p x) = [] := by simp [hx]
 rw [e, List.append_nil]
 exact delM_all h
theorem join_eq {f k t : ByteArray} (h1 : boundOk f k = true) (h2 : boundOk k t = true) (hk : ¬ k.toList = ([] : List UInt8)) : bound_Join.f f k k t = some (f, t, 0) := by
 unfold bound_Join.f bound_Next.f bound_both.f bound_Check.f
 simp [h1, h2, hk]
theorem cut_ne {f t k : ByteArray} (h : cutOk f t k = true) : ¬ k.toList = ([] : List UInt8) := by
 unfold cutOk at h
 simp only [Bool.and_eq_true, Bool.not_eq_true', beq_eq_false_iff_ne] at h
 exact h.1.1.2.1
theorem split_cases {id : Int} {fr tu : ByteArray} {gen : Int} {l : List S60} {nx : Int} {key : ByteArray} {id2 : Int} (hm : l.length ≤ 1000000) :
 (∃ s, desc_Split.f id fr tu gen l nx key id2 = some s ∧ ¬ s.2.2.2.2.2.2.2.2.2.2.2.2 = 0) ∨
 (okD id fr key (wrap64 (gen + 1)) l nx = true ∧ okD id2 key tu (wrap64 (gen + 1)) l nx = true ∧ cutOk fr tu key = true ∧ id < id2 ∧ desc_Split.f id fr tu gen l nx key id2 = some (id, fr, key, wrap64 (gen + 1), l, nx, id2, key, tu, wrap64 (gen + 1), l, nx, 0)) := by
 unfold desc_Split.f
 simp only [check_eq, Option.bind_some]
 by_cases h0 : okD id fr tu gen l nx = true
 ·simp only [if_pos h0, if_true]
  by_cases h1 : cutOk fr tu key = true
  ·simp only [if_pos h1]
   by_cases h2 : id2 ≤ id
   ·simp only [if_pos h2]; exact .inl ⟨_, rfl, by decide⟩
   ·have hc : api_Member_33.f l = some l := by
     unfold api_Member_33.f; rw [if_pos (by omega)]
    simp only [if_neg h2, hc, Option.bind_some]
    by_cases h3 : okD id fr key (wrap64 (gen + 1)) l nx = true
    ·simp only [if_pos h3, if_true]
     by_cases h4 : okD id2 key tu (wrap64 (gen + 1)) l nx = true
     ·simp only [if_pos h4, if_true]; exact .inr ⟨h3, h4, h1, by omega, by first | rfl | trivial⟩
     ·simp only [if_neg h4]; rw [if_neg (by decide)]; exact .inl ⟨_, rfl, by decide⟩
    ·simp only [if_neg h3]; rw [if_neg (by decide)]; exact .inl ⟨_, rfl, by decide⟩
  ·simp only [if_neg h1]; exact .inl ⟨_, rfl, by decide⟩
 ·simp only [if_neg h0]; rw [if_neg (by decide)]; exact .inl ⟨_, rfl, by decide⟩
theorem j1_ev {id : Int} {fr tu : ByteArray} {gen : Int} {l : List S60} {nx : Int} {key : ByteArray} {id2 : Int} (hm : l.length ≤ 1000000) (hok : okD id fr tu gen l nx = true) :
 Ev (fun k => l06_DescBack.j1 k key id2 id fr tu gen l nx) true := by
 refine Ev.shift ?_
 simp only [l06_DescBack.j1, l06_num.f, Option.bind_some]
 rcases split_cases (id := id) (fr := fr) (tu := tu) (gen := gen) (nx := nx) (key := key) (id2 := id2) hm with ⟨s, hs, hc⟩ | ⟨h1, h2, h3, h4, hs⟩
 ·simp only [hs, Option.bind_some, if_neg hc]
  exact live_ev
 ·simp only [hs, Option.bind_some, if_true]
  have hmerge : Ev (fun k => desc_Merge.f k id fr key (wrap64 (gen + 1)) l nx id2 key tu (wrap64 (gen + 1)) l nx) (rightR id fr tu (wrap64 (wrap64 (gen + 1) + 1)) l nx) := by
   simp only [desc_Merge.f, check_eq, if_pos h1, if_pos h2, Option.bind_some, if_true]
   refine Ev.shift ?_
   have e0 : ((0 : Int) != 0) = false := by decide
   have e1 : mx (wrap64 (gen + 1)) (wrap64 (gen + 1)) = wrap64 (gen + 1) := by unfold mx; split <;> rfl
   simp only [desc_Merge.j0, e0, Bool.false_eq_true, if_false, join_eq (okD_bound h1) (okD_bound h2) (cut_ne h3), Option.bind_some, if_true, if_neg (show ¬ id = id2 by omega), right_eq, e1]
   exact Ev.now _
  refine Ev.bind hmerge ?_
  unfold rightR
  by_cases hr : okD id fr tu (wrap64 (wrap64 (gen + 1) + 1)) l nx = true
  ·have hg := okD_gen hok
   have w1 : wrap64 (gen + 1) = gen + 1 := wrap_in (by omega) (by omega)
   have w2 : wrap64 (gen + 1 + 1) = gen + 1 + 1 := wrap_in (by omega) (by omega)
   simp only [if_pos hr, if_true, beq_self_eq_true, Bool.and_self]
   have := rmembers_ev l l (by omega)
   rw [decide_eq_true rfl] at this
   refine Ev.bind this ?_
   rw [w1, w2]
   simp only [if_true, if_pos (show gen + 1 + 1 > gen by omega), if_pos (show gen + 1 + 1 > gen + 1 by omega)]
   exact live_ev
  ·simp only [if_neg hr, badD]
   refine Ev.ite (fun h => absurd h (by decide)) (fun _ => ?_)
   exact Ev.ite (fun _ => live_ev) (fun h => absurd (by trivial) h)
theorem DescBack : ∀ (a0_0 : Int), (Lit.int .i64 a0_0).wf = true → ∀ (a0_1 : ByteArray), a0_1.size ≤ reachBytes → ∀ (a0_2 : ByteArray), a0_2.size ≤ reachBytes → ∀ (a0_3 : Int), (Lit.int .i64 a0_3).wf = true → ∀ (l0_4 : List S60), (l0_4.length * 16 ≤ reachBytes ∧ l0_4.length ≤ maxLen ∧ ∀ x ∈ l0_4, ((Lit.int .i64 x.f0).wf = true ∧ (Lit.int .i64 x.f1).wf = true)) → ∀ (a0_5 : Int), (Lit.int .i64 a0_5).wf = true → ∀ (a1 : Int), (Lit.int .i64 a1).wf = true → ∀ (a2 : ByteArray), a2.size ≤ reachBytes → ∀ (a3 : Int), (Lit.int .i64 a3).wf = true → ∃ k, l06_DescBack.f k a0_0 a0_1 a0_2 a0_3 l0_4 a0_5 a1 a2 a3 = some true := by
 intro id _ fr _ tu _ gen _ l _ nx _ node _ key _ id2 _
 refine Ev.rounds ?_
 have hbad : Ev (fun k => l06_DescBack.j0 k node key id2 true id fr tu gen l nx) true := by
  refine Ev.shift ?_
  simp only [l06_DescBack.j0, if_true]
  exact live_ev
 simp only [l06_DescBack.f, small_eq, Option.bind_some, check_eq, l06_num.f]
 refine Ev.ite (fun hs => ?_) (fun _ => hbad)
 refine Ev.ite (fun _ => hbad) (fun _ => ?_)
 by_cases hok : okD id fr tu gen l nx = true
 ·rw [if_pos hok, show ((0 : Int) != 0) = false from by decide]
  have hl := (of_decide_eq_true hs).1
  have hml : l.length ≤ 1000000 := by omega
  have hj1 := j1_ev (id := id) (fr := fr) (tu := tu) (gen := gen) (l := l) (nx := nx) (key := key) (id2 := id2) hml hok
  refine Ev.shift ?_
  simp only [l06_DescBack.j0, Bool.false_eq_true, if_false, add_eq hml, Option.bind_some, l06_num.f]
  unfold addD
  rw [if_pos hok]
  by_cases hn : 1 ≤ node ∧ node ≤ 7
  ·rw [if_pos hn]
   by_cases hh : (hitM (fun m => m.f0 == node) l).2.2 = true
   ·rw [if_pos hh]; exact Ev.ite (fun h => absurd h (by decide)) (fun _ => hj1)
   ·rw [if_neg hh]
    by_cases h5 : l.length = 5
    ·rw [if_pos h5]; exact Ev.ite (fun h => absurd h (by decide)) (fun _ => hj1)
    ·rw [if_neg h5]
     unfold rightR
     by_cases hr : okD id fr tu (wrap64 (gen + 1)) (l ++ [⟨node, nx⟩]) (wrap64 (nx + 1)) = true
     ·rw [if_pos hr]
      have hlen : (l ++ [(⟨node, nx⟩ : S60)]).length ≤ 1000000 := by simp; omega
      have h0 := hitM_none hh
      have h1 : ∀ y ∈ l, (fun m : S60 => m.f1 == nx) y = false := fun y hy => by
       have := okD_lt hok y hy
       exact beq_eq_false_iff_ne.2 (by omega)
      have hon : hitM (fun m => m.f0 == node) (l ++ [⟨node, nx⟩]) = (node, nx, true) := hitM_snoc (x := ⟨node, nx⟩) h0 (beq_self_eq_true node)
      have hhas : hitM (fun m => m.f1 == nx) (l ++ [⟨node, nx⟩]) = (node, nx, true) := hitM_snoc (x := ⟨node, nx⟩) h1 (beq_self_eq_true nx)
      have hdel : delM (fun m => m.f1 == nx) (l ++ [⟨node, nx⟩]) = l := delM_snocx h1 (beq_self_eq_true nx)
      have hl1 := okD_len hok
      have hrem : remD id fr tu (wrap64 (gen + 1)) (l ++ [⟨node, nx⟩]) (wrap64 (nx + 1)) nx = rightR id fr tu (wrap64 (wrap64 (gen + 1) + 1)) l (wrap64 (nx + 1)) := by
       unfold remD
       rw [if_pos hr, hhas, if_pos rfl, if_neg (by rw [List.length_append, List.length_singleton]; omega), hdel]
      simp only [if_true, on_eq hlen, Option.bind_some, hon, rem_eq hlen, hrem]
      have hmem := rmembers_ev l l (by omega)
      rw [decide_eq_true rfl] at hmem
      unfold rightR
      by_cases hq : okD id fr tu (wrap64 (wrap64 (gen + 1) + 1)) l (wrap64 (nx + 1)) = true
      ·simp only [if_pos hq, if_true]
       refine Ev.bind hmem ?_
       exact Ev.ite (fun _ => hj1) (fun h => absurd rfl h)
      ·simp only [if_neg hq, badD, if_true]
       refine Ev.ite (fun h => absurd h (by decide)) (fun _ => ?_)
       exact Ev.ite (fun h => absurd h (by decide)) (fun _ => hj1)
     ·rw [if_neg hr]; exact Ev.ite (fun h => absurd h (by decide)) (fun _ => hj1)
  ·rw [if_neg hn]; exact Ev.ite (fun h => absurd h (by decide)) (fun _ => hj1)
 ·rw [if_neg hok, show ((60 : Int) != 0) = true from by decide]; exact hbad
end Go.Proofs.YtjfhcijjjadhbaaDoor.U
end
section
namespace Go.Proofs.YtjfhcijjjadhbaaDoor.descBack
open Go.ChangeShapes Go.WideShapes Go.ChangeAt Go.RowKit Go.Proofs.YtjfhcijjjadhbaaDoor.K
open Go.ChangeMaps (open_string shut_string)
open Go.RowKit Go.Proofs.YtjfhcijjjadhbaaDoorW.PrintWords Go.Proofs.YtjfhcijjjadhbaaDoorW.PrintLast Go.Proofs.YtjfhcijjjadhbaaDoorW.PrintMore Go.Proofs.YtjfhcijjjadhbaaDoor.P Go.Proofs.YtjfhcijjjadhbaaDoor.K Go.Proofs.YtjfhcijjjadhbaaDoor.A Go.Proofs.YtjfhcijjjadhbaaDoor.V
set_option maxRecDepth 100000 in
theorem opn60 : O.Opn Tryd.prog 60 P.k60 (fun x => ((Lit.int .i64 x.f0).wf = true ∧ (Lit.int .i64 x.f1).wf = true)) := O.Opn.iso (fun y => ⟨y.1, y.2⟩) (fun _ => rfl) (O.Opn.struct Tryd.underlying60 (by kernel_rfl) (O.OpnF.cons rfl (by kernel_rfl) (O.Opn.int Tryd.underlying3) (O.OpnF.one rfl (by kernel_rfl) (O.Opn.int Tryd.underlying2))))
theorem fl60 : K.Flat P.k60 := by
 intro w w' x c h
 obtain rfl := P.k60_open h
 exact P.k60_mk w' x
set_option maxRecDepth 100000 in
theorem contract (H : Type) (enc : TypeId × Value → H) (W : World) (base : Nat) (args : Array Value) (ds gs : List (DataW H)) (before : List MemPlace)
 (hval0 : ∀ (j : Nat) t v, Tryd.f8.params[j]? = some t → args[j]? = some v → Value.okWide Tryd.prog W .any base t v)
 (hW : DataW.Whole enc Tryd.prog Tryd.f8.params.toList Rows.descBackSpec.vars false W args.toList ds gs before) (hG : TheG W)
 (hsz0 : (DataW.weightsEach Tryd.prog (Tryd.f8.params.toList ++ Rows.descBackSpec.plain.varTypes Tryd.prog) (ds ++ gs)).all (· ≤ reachBytes) = true) :
 Calls Tryd.prog 8 args W fun e W' => ∃ v, e = .returned v ∧ Rows.descBackSpec.post enc Tryd.prog Tryd.f8 false true false false W args v W' := by
 have hsz : (DataW.weightsEach Tryd.prog (Tryd.f8.params.toList ++ Rows.descBackSpec.plain.varTypes Tryd.prog) (ds ++ gs)).all (· ≤ reachBytes) = true := hsz0
 have hval : ∀ (j : Nat) t v, Tryd.f8.params[j]? = some t → args[j]? = some v → Value.okWide Tryd.prog W .any base t v := hval0
 have hW' := hW
 obtain ⟨p, q, hA0, hV, rfl, hfz, hnd⟩ := hW
 have hA : DataW.TrodAll enc Tryd.prog W 0 (fun _ => true) true Tryd.f8.params.toList args.toList ds p := hA0
 rw [Tryd.params8] at hA hval hsz
 obtain ⟨v0, vs0, d0, ds0, p0, q0, hargs, rfl, rfl, h0, r0⟩ := trodAll_cons hA
 obtain ⟨v1, vs1, d1, ds1, p1, q1, rfl, rfl, rfl, h1, r1⟩ := trodAll_cons r0
 obtain ⟨v2, vs2, d2, ds2, p2, q2, rfl, rfl, rfl, h2, r2⟩ := trodAll_cons r1
 obtain ⟨v3, vs3, d3, ds3, p3, q3, rfl, rfl, rfl, h3, r3⟩ := trodAll_cons r2
 obtain ⟨rfl, rfl, rfl⟩ := trodAll_nil r3
 obtain rfl : args = #[v0, v1, v2, v3] := by cases args; simp_all
 obtain ⟨rfl, rfl⟩ := trodVars_none hV
 have k0 := h0
 have lt0 : ∀ x ∈ p0, x.block < W.heap.size := by obtain ⟨m, hm⟩ := k0; exact DataW.trod_lt m _ _ _ hm
 have wt0 : ∀ n ∈ DataW.weights Tryd.prog 26 d0, n ≤ reachBytes := fun n hn => of_decide_eq_true (List.all_eq_true.1 hsz n (DataW.weights_mem_each (j := 0) rfl rfl n hn))
 obtain ⟨cs0, rfl, _⟩ := okWide_struct Tryd.underlying26 (hval 0 26 v0 rfl rfl)
 obtain ⟨fu0, hf0⟩ := h0
 obtain ⟨s0, hK0, hok0⟩ := (O.Opn.struct Tryd.underlying26 (by kernel_rfl) (O.OpnF.cons rfl (by kernel_rfl) (O.Opn.int Tryd.underlying2) (O.OpnF.cons rfl (by kernel_rfl) (O.Opn.struct Tryd.underlying23 (by kernel_rfl) (O.OpnF.cons rfl (by kernel_rfl) (O.Opn.string Tryd.underlying9) (O.OpnF.one rfl (by kernel_rfl) (O.Opn.string Tryd.underlying9)))) (O.OpnF.cons rfl (by kernel_rfl) (O.Opn.int Tryd.underlying2) (O.OpnF.cons rfl (by kernel_rfl) (O.Opn.slice Tryd.underlying24 (by kernel_rfl) (by kernel_rfl) opn60) (O.OpnF.one rfl (by kernel_rfl) (O.Opn.int Tryd.underlying2))))))) H enc W _ _ _ _ _ _ _ hf0 wt0
 obtain ⟨a0_0, ⟨a0_1, a0_2⟩, a0_3, l0_4, a0_5⟩ := s0
 obtain ⟨o0_0, ⟨o0_1, o0_2⟩, o0_3, o0_4, o0_5⟩ := hok0
 obtain ⟨_, _, hcs0, rfl, _, _, rfl, ⟨_, _, rfl, rfl, rfl⟩, _, _, rfl, rfl, _, _, rfl, ⟨A0_4, c0_4, rfl, hc0_4, hr0_4⟩, rfl⟩ := hK0
 obtain rfl : cs0 = #[.int .i64 a0_0, .string a0_1, .string a0_2, .int .i64 a0_3, .slice A0_4 l0_4.length c0_4, .int .i64 a0_5] := Array.toList_inj.1 (show cs0.toList = [.int .i64 a0_0, .string a0_1, .string a0_2, .int .i64 a0_3, .slice A0_4 l0_4.length c0_4, .int .i64 a0_5] from hcs0)
 have k1 := h1
 have lt1 : ∀ x ∈ p1, x.block < W.heap.size := by obtain ⟨m, hm⟩ := k1; exact DataW.trod_lt m _ _ _ hm
 have wt1 : ∀ n ∈ DataW.weights Tryd.prog 3 d1, n ≤ reachBytes := fun n hn => of_decide_eq_true (List.all_eq_true.1 hsz n (DataW.weights_mem_each (j := 1) rfl rfl n hn))
 obtain ⟨a1, rfl, rfl, rfl, w1⟩ := open_int Tryd.underlying3 (hval 1 3 v1 rfl rfl) h1
 have k2 := h2
 have lt2 : ∀ x ∈ p2, x.block < W.heap.size := by obtain ⟨m, hm⟩ := k2; exact DataW.trod_lt m _ _ _ hm
 have wt2 : ∀ n ∈ DataW.weights Tryd.prog 9 d2, n ≤ reachBytes := fun n hn => of_decide_eq_true (List.all_eq_true.1 hsz n (DataW.weights_mem_each (j := 2) rfl rfl n hn))
 obtain ⟨a2, rfl, rfl, rfl, y2⟩ := open_string Tryd.underlying9 (hval 2 9 v2 rfl rfl) h2
 have w2 : a2.size ≤ reachBytes := by have := wt2 a2.data.toList.length (by simp [DataW.weights]); rw [← Lib.size_eq] at this; exact this
 have k3 := h3
 have lt3 : ∀ x ∈ p3, x.block < W.heap.size := by obtain ⟨m, hm⟩ := k3; exact DataW.trod_lt m _ _ _ hm
 have wt3 : ∀ n ∈ DataW.weights Tryd.prog 2 d3, n ≤ reachBytes := fun n hn => of_decide_eq_true (List.all_eq_true.1 hsz n (DataW.weights_mem_each (j := 3) rfl rfl n hn))
 obtain ⟨a3, rfl, rfl, rfl, w3⟩ := open_int Tryd.underlying2 (hval 3 2 v3 rfl rfl) h3
 obtain ⟨k, hp⟩ := U.DescBack a0_0 o0_0 a0_1 o0_1 a0_2 o0_2 a0_3 o0_3 l0_4 o0_4 a0_5 o0_5 a1 w1 a2 w2 a3 w3
 refine (l06_DescBack.calls (k := k) (r := true) (w := W) (hG := hG) (hr := rfl) (hr0_4 := hr0_4) (hc0_4 := hc0_4) (h := hp)).mono ?_
 rintro e W' ⟨rfl, bel0⟩
 have bel : Below W.heap.size W W' := by first | exact bel0 | exact bel0.below
 exact ⟨_, rfl, _, _, _, [], _, [], hW', trodAll_mk1 (shut_bool Tryd.underlying4 _), (trodAll_cons_mk (Below.trod laidOut (by kernel_rfl) (of_decide_eq_true (by kernel_rfl)) k0 bel lt0) (trodAll_cons_mk (Below.trod laidOut (by kernel_rfl) (of_decide_eq_true (by kernel_rfl)) k1 bel lt1) (trodAll_cons_mk (Below.trod laidOut (by kernel_rfl) (of_decide_eq_true (by kernel_rfl)) k2 bel lt2) (trodAll_cons_mk (Below.trod laidOut (by kernel_rfl) (of_decide_eq_true (by kernel_rfl)) k3 bel lt3) trodAll_mk0)))), rfl, bel.frame _, fun h => by cases h⟩
set_option maxRecDepth 100000 in
theorem lifted (os : Os) (started : os.Started) (H : Type) (enc : TypeId × Value → H) (F : Stop.Interp) :
 ReturnsInHanded {} Tryd.checked os 8 .any ((OpenSpec.ofChange Rows.descBackSpec).preRow enc Tryd.prog Tryd.f8 Rows.descBackRow.domain false Rows.descBackRow.laid) (((OpenSpec.ofChange Rows.descBackSpec).at F).post enc Tryd.prog Tryd.f8 false true false false) := by
 have hx : ∃ places, DataW.whole enc Tryd.prog ((World.doorLaid Tryd.prog 62 os).forCall (fun _ _ => 0) ⟨#[], #[.agg #[.int .i64 0, .string ByteArray.empty, .string ByteArray.empty, .int .i64 0, .slice none 0 0, .int .i64 0], .int .i64 0, .string ByteArray.empty, .int .i64 0], []⟩).memory Tryd.f8.params.toList Rows.descBackSpec.vars false (#[.agg #[.int .i64 0, .string ByteArray.empty, .string ByteArray.empty, .int .i64 0, .slice none 0 0, .int .i64 0], .int .i64 0, .string ByteArray.empty, .int .i64 0] : Array Value).toList 8 = some ([.agg [.lit (.int .i64 0), .agg [.lit (.string []), .lit (.string [])], .lit (.int .i64 0), .nil, .lit (.int .i64 0)], .lit (.int .i64 0), .lit (.string []), .lit (.int .i64 0)], [], places) := ⟨[], by kernel_rfl⟩
 obtain ⟨places, hx⟩ := hx
 refine returnsInHanded_of_row (C := Tryd.checked) (s := OpenSpec.ofChange Rows.descBackSpec) own started (by kernel_rfl) Tryd.func8
  (witness_row_atRef (enc := enc) (C := Tryd.checked) false (World.doorLaid Tryd.prog 62 os) #[.agg #[.int .i64 0, .string ByteArray.empty, .string ByteArray.empty, .int .i64 0, .slice none 0 0, .int .i64 0], .int .i64 0, .string ByteArray.empty, .int .i64 0] rfl (by kernel_rfl) (by kernel_rfl) (by kernel_rfl)
   (OpenSpec.preRow_of_cond 8 hx (by kernel_rfl) (fun k hk => by cases hk) (by kernel_rfl) (MakeChecks.laidMetH_plain _ _ _ (by kernel_rfl) ▸ door_met os _))) ?_
 intro W base args ds gs before hval hW _ _ hsz hL hsh _
 exact contract H enc W base args ds gs before hval hW (theG_of hL hsh) hsz
theorem said : Rows.DescBackSaid :=
 OpenClaim.holds_of_cond 8 Tryd.f8 rfl rfl rfl rfl rfl rfl rfl ⟨rfl, rfl, rfl, rfl, rfl⟩ rfl rfl rfl rfl rfl (by kernel_rfl) Tryd.func8 (by kernel_rfl)
  (of_decide_eq_true (by kernel_rfl)) (by unfold Func.isWrapper; first | (rw [if_pos (by decide +kernel)]; kernel_rfl) | (rw [if_neg (by decide +kernel)]; exact ⟨rfl, rfl⟩))
  (fun os started H enc _ F => by rw [OpenClaim.pre_eq_preRow]; exact lifted os started H enc F)
theorem plain (f : FuncId) (fn : Func) (hf : Tryd.pinned.checked.prog.funcNamed "furlong/furlonglaw06.DescBack" = some f) (hfn : Tryd.pinned.checked.prog.funcs[f]? = some fn) :
 true = Tryd.pinned.checked.prog.looks [] ∧ ∀ (j : Nat) t, fn.params[j]? = some t → Tryd.pinned.checked.prog.wantsStandIn t = false := by
 obtain rfl : f = 8 := Option.some.inj ((show Tryd.prog.funcNamed "furlong/furlonglaw06.DescBack" = some 8 by kernel_rfl).symm.trans hf) |>.symm
 obtain rfl : fn = Tryd.f8 := (Option.some.inj (Tryd.func8.symm.trans hfn)).symm
 refine ⟨by kernel_rfl, fun j t ht => ?_⟩
 rw [Tryd.params8] at ht
 have hm := Array.mem_of_getElem? ht
 simp only [List.mem_toArray, List.mem_cons, List.not_mem_nil, or_false] at hm
 rcases hm with rfl | rfl | rfl | rfl
 ·exact (show Tryd.prog.wantsStandIn 26 = false by kernel_rfl)
 ·exact (show Tryd.prog.wantsStandIn 3 = false by kernel_rfl)
 ·exact (show Tryd.prog.wantsStandIn 9 = false by kernel_rfl)
 ·exact (show Tryd.prog.wantsStandIn 2 = false by kernel_rfl)
/-- The tied card. -/
theorem card : Rows.DescBackCardSaid :=
 Claim7.holds_tied_plain_at .later [] _ _ _ _ said (fun _ h => by cases h) (by kernel_rfl) (fun _ h => by cases h) descBack_row_tie rfl ⟨rfl, rfl⟩ (by kernel_rfl) rfl plain (by kernel_rfl)
#print axioms card
end Go.Proofs.YtjfhcijjjadhbaaDoor.descBack
namespace Go.Proofs.YtjfhcijjjadhbaaDoor
theorem descBack_holds : Rows.DescBackCardSaid := descBack.card
end Go.Proofs.YtjfhcijjjadhbaaDoor
end
