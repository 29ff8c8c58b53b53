import Derived.Test.YtjfhcijjjadhbaaDoorZDescUnlike1
import Derived.Test.YtjfhcijjjadhbaaDoorZDescUnlike5
set_option linter.unusedVariables false
set_option linter.unusedSimpArgs false
set_option linter.unnecessarySimpa false
section
/- furlong/furlonglaw06.DescUnlike answers true at every input: the row and the tied card, out of its walk and of the plain law. -/
namespace Go.Proofs.YtjfhcijjjadhbaaDoor.descUnlike
open Go.ChangeShapes Go.WideShapes Go.ChangeAt Go.RowKit Go.Proofs.YtjfhcijjjadhbaaDoor.K
open Go.ChangeMaps (open_string shut_string)
open Go.RowKit Go.Proofs.YtjfhcijjjadhbaaDoorW.PrintWords Go.Proofs.YtjfhcijjjadhbaaDoorW.PrintLast Go.Proofs.YtjfhcijjjadhbaaDoorW.PrintMore Go.Proofs.YtjfhcijjjadhbaaDoor.P Go.Proofs.YtjfhcijjjadhbaaDoor.K Go.Proofs.YtjfhcijjjadhbaaDoor.A Go.Proofs.YtjfhcijjjadhbaaDoor.V
set_option maxRecDepth 100000 in
theorem opn60 : O.Opn Tryd.prog 60 P.k60 (fun x => ((Lit.int .i64 x.f0).wf = true ∧ (Lit.int .i64 x.f1).wf = true)) := O.Opn.iso (fun y => ⟨y.1, y.2⟩) (fun _ => rfl) (O.Opn.struct Tryd.underlying60 (by kernel_rfl) (O.OpnF.cons rfl (by kernel_rfl) (O.Opn.int Tryd.underlying3) (O.OpnF.one rfl (by kernel_rfl) (O.Opn.int Tryd.underlying2))))
theorem fl60 : K.Flat P.k60 := by
  intro w w' x c h
  obtain rfl := P.k60_open h
  exact P.k60_mk w' x
set_option maxRecDepth 100000 in
theorem contract (H : Type) (enc : TypeId × Value → H) (W : World) (base : Nat) (args : Array Value) (ds gs : List (DataW H)) (before : List MemPlace)
    (hval0 : ∀ (j : Nat) t v, Tryd.f5.params[j]? = some t → args[j]? = some v → Value.okWide Tryd.prog W .any base t v)
    (hW : DataW.Whole enc Tryd.prog Tryd.f5.params.toList Rows.descUnlikeSpec.vars false W args.toList ds gs before) (hG : TheG W)
    (hsz0 : (DataW.weightsEach Tryd.prog (Tryd.f5.params.toList ++ Rows.descUnlikeSpec.plain.varTypes Tryd.prog) (ds ++ gs)).all (· ≤ reachBytes) = true) :
    Calls Tryd.prog 5 args W fun e W' => ∃ v, e = .returned v ∧ Rows.descUnlikeSpec.post enc Tryd.prog Tryd.f5 false true false false W args v W' := by
  have hsz : (DataW.weightsEach Tryd.prog (Tryd.f5.params.toList ++ Rows.descUnlikeSpec.plain.varTypes Tryd.prog) (ds ++ gs)).all (· ≤ reachBytes) = true := hsz0
  have hval : ∀ (j : Nat) t v, Tryd.f5.params[j]? = some t → args[j]? = some v → Value.okWide Tryd.prog W .any base t v := hval0
  have hW' := hW
  obtain ⟨p, q, hA0, hV, rfl, hfz, hnd⟩ := hW
  have hA : DataW.TrodAll enc Tryd.prog W 0 (fun _ => true) true Tryd.f5.params.toList args.toList ds p := hA0
  rw [Tryd.params5] at hA hval hsz
  obtain ⟨v0, vs0, d0, ds0, p0, q0, hargs, rfl, rfl, h0, r0⟩ := trodAll_cons hA
  obtain ⟨v1, vs1, d1, ds1, p1, q1, rfl, rfl, rfl, h1, r1⟩ := trodAll_cons r0
  obtain ⟨v2, vs2, d2, ds2, p2, q2, rfl, rfl, rfl, h2, r2⟩ := trodAll_cons r1
  obtain ⟨rfl, rfl, rfl⟩ := trodAll_nil r2
  obtain rfl : args = #[v0, v1, v2] := by cases args; simp_all
  obtain ⟨rfl, rfl⟩ := trodVars_none hV
  have k0 := h0
  have lt0 : ∀ x ∈ p0, x.block < W.heap.size := by obtain ⟨m, hm⟩ := k0; exact DataW.trod_lt m _ _ _ hm
  have wt0 : ∀ n ∈ DataW.weights Tryd.prog 26 d0, n ≤ reachBytes := fun n hn => of_decide_eq_true (List.all_eq_true.1 hsz n (DataW.weights_mem_each (j := 0) rfl rfl n hn))
  obtain ⟨cs0, rfl, _⟩ := okWide_struct Tryd.underlying26 (hval 0 26 v0 rfl rfl)
  obtain ⟨fu0, hf0⟩ := h0
  obtain ⟨s0, hK0, hok0⟩ := (O.Opn.struct Tryd.underlying26 (by kernel_rfl) (O.OpnF.cons rfl (by kernel_rfl) (O.Opn.int Tryd.underlying2) (O.OpnF.cons rfl (by kernel_rfl) (O.Opn.struct Tryd.underlying23 (by kernel_rfl) (O.OpnF.cons rfl (by kernel_rfl) (O.Opn.string Tryd.underlying9) (O.OpnF.one rfl (by kernel_rfl) (O.Opn.string Tryd.underlying9)))) (O.OpnF.cons rfl (by kernel_rfl) (O.Opn.int Tryd.underlying2) (O.OpnF.cons rfl (by kernel_rfl) (O.Opn.slice Tryd.underlying24 (by kernel_rfl) (by kernel_rfl) opn60) (O.OpnF.one rfl (by kernel_rfl) (O.Opn.int Tryd.underlying2))))))) H enc W _ _ _ _ _ _ _ hf0 wt0
  obtain ⟨a0_0, ⟨a0_1, a0_2⟩, a0_3, l0_4, a0_5⟩ := s0
  obtain ⟨o0_0, ⟨o0_1, o0_2⟩, o0_3, o0_4, o0_5⟩ := hok0
  obtain ⟨_, _, hcs0, rfl, _, _, rfl, ⟨_, _, rfl, rfl, rfl⟩, _, _, rfl, rfl, _, _, rfl, ⟨A0_4, c0_4, rfl, hc0_4, hr0_4⟩, rfl⟩ := hK0
  obtain rfl : cs0 = #[.int .i64 a0_0, .string a0_1, .string a0_2, .int .i64 a0_3, .slice A0_4 l0_4.length c0_4, .int .i64 a0_5] := Array.toList_inj.1 (show cs0.toList = [.int .i64 a0_0, .string a0_1, .string a0_2, .int .i64 a0_3, .slice A0_4 l0_4.length c0_4, .int .i64 a0_5] from hcs0)
  have k1 := h1
  have lt1 : ∀ x ∈ p1, x.block < W.heap.size := by obtain ⟨m, hm⟩ := k1; exact DataW.trod_lt m _ _ _ hm
  have wt1 : ∀ n ∈ DataW.weights Tryd.prog 26 d1, n ≤ reachBytes := fun n hn => of_decide_eq_true (List.all_eq_true.1 hsz n (DataW.weights_mem_each (j := 1) rfl rfl n hn))
  obtain ⟨cs1, rfl, _⟩ := okWide_struct Tryd.underlying26 (hval 1 26 v1 rfl rfl)
  obtain ⟨fu1, hf1⟩ := h1
  obtain ⟨s1, hK1, hok1⟩ := (O.Opn.struct Tryd.underlying26 (by kernel_rfl) (O.OpnF.cons rfl (by kernel_rfl) (O.Opn.int Tryd.underlying2) (O.OpnF.cons rfl (by kernel_rfl) (O.Opn.struct Tryd.underlying23 (by kernel_rfl) (O.OpnF.cons rfl (by kernel_rfl) (O.Opn.string Tryd.underlying9) (O.OpnF.one rfl (by kernel_rfl) (O.Opn.string Tryd.underlying9)))) (O.OpnF.cons rfl (by kernel_rfl) (O.Opn.int Tryd.underlying2) (O.OpnF.cons rfl (by kernel_rfl) (O.Opn.slice Tryd.underlying24 (by kernel_rfl) (by kernel_rfl) opn60) (O.OpnF.one rfl (by kernel_rfl) (O.Opn.int Tryd.underlying2))))))) H enc W _ _ _ _ _ _ _ hf1 wt1
  obtain ⟨a1_0, ⟨a1_1, a1_2⟩, a1_3, l1_4, a1_5⟩ := s1
  obtain ⟨o1_0, ⟨o1_1, o1_2⟩, o1_3, o1_4, o1_5⟩ := hok1
  obtain ⟨_, _, hcs1, rfl, _, _, rfl, ⟨_, _, rfl, rfl, rfl⟩, _, _, rfl, rfl, _, _, rfl, ⟨A1_4, c1_4, rfl, hc1_4, hr1_4⟩, rfl⟩ := hK1
  obtain rfl : cs1 = #[.int .i64 a1_0, .string a1_1, .string a1_2, .int .i64 a1_3, .slice A1_4 l1_4.length c1_4, .int .i64 a1_5] := Array.toList_inj.1 (show cs1.toList = [.int .i64 a1_0, .string a1_1, .string a1_2, .int .i64 a1_3, .slice A1_4 l1_4.length c1_4, .int .i64 a1_5] from hcs1)
  have k2 := h2
  have lt2 : ∀ x ∈ p2, x.block < W.heap.size := by obtain ⟨m, hm⟩ := k2; exact DataW.trod_lt m _ _ _ hm
  have wt2 : ∀ n ∈ DataW.weights Tryd.prog 3 d2, n ≤ reachBytes := fun n hn => of_decide_eq_true (List.all_eq_true.1 hsz n (DataW.weights_mem_each (j := 2) rfl rfl n hn))
  obtain ⟨a2, rfl, rfl, rfl, w2⟩ := open_int Tryd.underlying3 (hval 2 3 v2 rfl rfl) h2
  obtain ⟨k, hp⟩ := U.DescUnlike a0_0 o0_0 a0_1 o0_1 a0_2 o0_2 a0_3 o0_3 l0_4 o0_4 a0_5 o0_5 a1_0 o1_0 a1_1 o1_1 a1_2 o1_2 a1_3 o1_3 l1_4 o1_4 a1_5 o1_5 a2 w2
  refine (l06_DescUnlike.calls (k := k) (r := true) (w := W) (hG := hG) (hr := rfl) (hr0_4 := hr0_4) (hc0_4 := hc0_4) (hr1_4 := hr1_4) (hc1_4 := hc1_4) (h := hp)).mono ?_
  rintro e W' ⟨rfl, bel0⟩
  have bel : Below W.heap.size W W' := by first | exact bel0 | exact bel0.below
  exact ⟨_, rfl, _, _, _, [], _, [], hW', trodAll_mk1 (shut_bool Tryd.underlying4 _), (trodAll_cons_mk (Below.trod laidOut (by kernel_rfl) (of_decide_eq_true (by kernel_rfl)) k0 bel lt0) (trodAll_cons_mk (Below.trod laidOut (by kernel_rfl) (of_decide_eq_true (by kernel_rfl)) k1 bel lt1) (trodAll_cons_mk (Below.trod laidOut (by kernel_rfl) (of_decide_eq_true (by kernel_rfl)) k2 bel lt2) trodAll_mk0))), rfl, bel.frame _, fun h => by cases h⟩
set_option maxRecDepth 100000 in
theorem lifted (os : Os) (started : os.Started) (H : Type) (enc : TypeId × Value → H) (F : Stop.Interp) :
    ReturnsInHanded {} Tryd.checked os 5 .any ((OpenSpec.ofChange Rows.descUnlikeSpec).preRow enc Tryd.prog Tryd.f5 Rows.descUnlikeRow.domain false Rows.descUnlikeRow.laid) (((OpenSpec.ofChange Rows.descUnlikeSpec).at F).post enc Tryd.prog Tryd.f5 false true false false) := by
  have hx : ∃ places, DataW.whole enc Tryd.prog ((World.doorLaid Tryd.prog 62 os).forCall (fun _ _ => 0) ⟨#[], #[.agg #[.int .i64 0, .string ByteArray.empty, .string ByteArray.empty, .int .i64 0, .slice none 0 0, .int .i64 0], .agg #[.int .i64 0, .string ByteArray.empty, .string ByteArray.empty, .int .i64 0, .slice none 0 0, .int .i64 0], .int .i64 0], []⟩).memory Tryd.f5.params.toList Rows.descUnlikeSpec.vars false (#[.agg #[.int .i64 0, .string ByteArray.empty, .string ByteArray.empty, .int .i64 0, .slice none 0 0, .int .i64 0], .agg #[.int .i64 0, .string ByteArray.empty, .string ByteArray.empty, .int .i64 0, .slice none 0 0, .int .i64 0], .int .i64 0] : Array Value).toList 8 = some ([.agg [.lit (.int .i64 0), .agg [.lit (.string []), .lit (.string [])], .lit (.int .i64 0), .nil, .lit (.int .i64 0)], .agg [.lit (.int .i64 0), .agg [.lit (.string []), .lit (.string [])], .lit (.int .i64 0), .nil, .lit (.int .i64 0)], .lit (.int .i64 0)], [], places) := ⟨[], by kernel_rfl⟩
  obtain ⟨places, hx⟩ := hx
  refine returnsInHanded_of_row (C := Tryd.checked) (s := OpenSpec.ofChange Rows.descUnlikeSpec) own started (by kernel_rfl) Tryd.func5
    (witness_row_atRef (enc := enc) (C := Tryd.checked) false (World.doorLaid Tryd.prog 62 os) #[.agg #[.int .i64 0, .string ByteArray.empty, .string ByteArray.empty, .int .i64 0, .slice none 0 0, .int .i64 0], .agg #[.int .i64 0, .string ByteArray.empty, .string ByteArray.empty, .int .i64 0, .slice none 0 0, .int .i64 0], .int .i64 0] rfl (by kernel_rfl) (by kernel_rfl) (by kernel_rfl)
      (OpenSpec.preRow_of_cond 8 hx (by kernel_rfl) (fun k hk => by cases hk) (by kernel_rfl) (MakeChecks.laidMetH_plain _ _ _ (by kernel_rfl) ▸ door_met os _))) ?_
  intro W base args ds gs before hval hW _ _ hsz hL hsh _
  exact contract H enc W base args ds gs before hval hW (theG_of hL hsh) hsz
theorem said : Rows.DescUnlikeSaid :=
  OpenClaim.holds_of_cond 5 Tryd.f5 rfl rfl rfl rfl rfl rfl rfl ⟨rfl, rfl, rfl, rfl, rfl⟩ rfl rfl rfl rfl rfl (by kernel_rfl) Tryd.func5 (by kernel_rfl)
    (of_decide_eq_true (by kernel_rfl)) (by unfold Func.isWrapper; first | (rw [if_pos (by decide +kernel)]; kernel_rfl) | (rw [if_neg (by decide +kernel)]; exact ⟨rfl, rfl⟩))
    (fun os started H enc _ F => by rw [OpenClaim.pre_eq_preRow]; exact lifted os started H enc F)
theorem plain (f : FuncId) (fn : Func) (hf : Tryd.pinned.checked.prog.funcNamed "furlong/furlonglaw06.DescUnlike" = some f) (hfn : Tryd.pinned.checked.prog.funcs[f]? = some fn) :
    true = Tryd.pinned.checked.prog.looks [] ∧ ∀ (j : Nat) t, fn.params[j]? = some t → Tryd.pinned.checked.prog.wantsStandIn t = false := by
  obtain rfl : f = 5 := Option.some.inj ((show Tryd.prog.funcNamed "furlong/furlonglaw06.DescUnlike" = some 5 by kernel_rfl).symm.trans hf) |>.symm
  obtain rfl : fn = Tryd.f5 := (Option.some.inj (Tryd.func5.symm.trans hfn)).symm
  refine ⟨by kernel_rfl, fun j t ht => ?_⟩
  rw [Tryd.params5] at ht
  have hm := Array.mem_of_getElem? ht
  simp only [List.mem_toArray, List.mem_cons, List.not_mem_nil, or_false] at hm
  rcases hm with rfl | rfl | rfl
  · exact (show Tryd.prog.wantsStandIn 26 = false by kernel_rfl)
  · exact (show Tryd.prog.wantsStandIn 26 = false by kernel_rfl)
  · exact (show Tryd.prog.wantsStandIn 3 = false by kernel_rfl)
/-- The tied card. -/
theorem card : Rows.DescUnlikeCardSaid :=
  Claim7.holds_tied_plain_at .later [] _ _ _ _ said (fun _ h => by cases h) (by kernel_rfl) (fun _ h => by cases h) descUnlike_row_tie rfl ⟨rfl, rfl⟩ (by kernel_rfl) rfl plain (by kernel_rfl)
#print axioms card
end Go.Proofs.YtjfhcijjjadhbaaDoor.descUnlike
namespace Go.Proofs.YtjfhcijjjadhbaaDoor
theorem descUnlike_holds : Rows.DescUnlikeCardSaid := descUnlike.card
end Go.Proofs.YtjfhcijjjadhbaaDoor
end
