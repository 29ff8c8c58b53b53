/- The plain laws of the knot functions' printed forms: what they answer, with rounds enough. -/
import Derived.Test.YthijgcnmbfhjjaaDoorPx1
import Derived.Test.YthijgcnmbfhjjaaDoorPx3
import Derived.Test.YthijgcnmbfhjjaaDoorA
namespace Go.Proofs.YthijgcnmbfhjjaaDoor.V
set_option linter.unusedVariables false
set_option linter.unusedSimpArgs false
set_option linter.unnecessarySimpa false
open Go.RowKit Go.Proofs.YthijgcnmbfhjjaaDoorW.PrintWords Go.Proofs.YthijgcnmbfhjjaaDoorW.PrintLast Go.Proofs.YthijgcnmbfhjjaaDoorW.PrintMore Go.Proofs.YthijgcnmbfhjjaaDoor.P Go.Proofs.YthijgcnmbfhjjaaDoor.K Go.Proofs.YthijgcnmbfhjjaaDoor.A

/-! ### small words -/
theorem toList_inj {a b : ByteArray} : a.toList = b.toList ↔ a = b :=
  ⟨fun h => ext_data (by rw [← Lib.toList_data, ← Lib.toList_data, h]), fun h => by rw [h]⟩
theorem toList_nil {a : ByteArray} : a.toList = ([] : List UInt8) ↔ a.data.toList = [] := by rw [Lib.toList_data]
theorem wrap_in {n : Int} (h0 : -9223372036854775808 ≤ n) (h1 : n ≤ 9223372036854775807) : wrap64 n = n := by unfold wrap64; omega
theorem bt_eq (s : ByteArray) (n : Nat) (c : UInt8) (h : s.data.toList[n]? = some c) : bt s (n : Int) = (c.toNat : Int) := by
  obtain ⟨hl, hc⟩ := List.getElem?_eq_some_iff.1 h
  rw [← Lib.size_eq] at hl
  unfold bt
  rw [dif_pos (by simpa using hl)]
  have : s[n] = c := hc
  simp only [Int.toNat_natCast]
  rw [this]
theorem bt_lt {s : ByteArray} {n : Nat} (h : n < s.size) : s.data.toList[n]? = some s[n] := by
  rw [List.getElem?_eq_getElem (by rw [← Lib.size_eq]; exact h)]; rfl
theorem bt_is (s : ByteArray) (n : Nat) (c : UInt8) (h : n < s.size) : bt s (n : Int) = (c.toNat : Int) ↔ s.data.toList[n]? = some c := by
  rw [bt_eq s n s[n] (bt_lt h), bt_lt h]
  constructor
  · intro e; congr 1; exact UInt8.toNat.inj (by omega)
  · intro e; injection e with e; rw [e]
theorem live : furlonglaw01_live.f 40 = some true := by decide +kernel
theorem live_ev : Ev (fun k => furlonglaw01_live.f k) true := Ev.of furlonglaw01_live.mono live
theorem Ev.shift {α : Type} {g : Nat → Option α} {r : α} (h : Ev (fun k => g (k + 1)) r) : Ev g r := by
  obtain ⟨K, hK⟩ := h
  refine ⟨K + 1, fun k hk => ?_⟩
  obtain ⟨m, rfl⟩ : ∃ m, k = m + 1 := ⟨k - 1, by omega⟩
  exact hK m (by omega)
theorem Ev.ite {α : Type} {c : Prop} [Decidable c] {f g : Nat → Option α} {r : α} (h1 : c → Ev f r) (h2 : ¬ c → Ev g r) : Ev (fun k => if c then f k else g k) r := by
  by_cases h : c
  · obtain ⟨K, hK⟩ := h1 h; exact ⟨K, fun k hk => by simp only; rw [if_pos h]; exact hK k hk⟩
  · obtain ⟨K, hK⟩ := h2 h; exact ⟨K, fun k hk => by simp only; rw [if_neg h]; exact hK k hk⟩

/-! ### knot.Num, Int -/
theorem num_eq {n : Int} (h : isI n) : knot_Num.f n = some (B (Lib.itoa n)) := by
  unfold knot_Num.f; rw [if_pos h.1, if_pos h.2]; rfl
theorem numB_eq (n : Int) : numB n = B (Lib.itoa n) := rfl
theorem int_eq {s : ByteArray} (h : s.size ≤ 281474976710656) : knot_Int.f s = some (match pz s.data.toList with | some n => (n, 0) | none => (0, 10)) := by
  unfold knot_Int.f
  rw [if_pos h]
  unfold pz
  cases hp : Lib.parseIntB 64 s.data.toList
  case ok v =>
    simp only [Option.some.injEq]
    by_cases e : numB v = s
    · rw [if_pos e, if_pos (by rw [← e, numB_eq, B_data])]
    · rw [if_neg e, if_neg (by intro h; apply e; rw [numB_eq, h, B_of])]
  all_goals rfl
theorem tieL_eq (l : List ByteArray) : tieL l = tie (l.map fun s => s.data.toList) := by
  unfold tieL tie
  rw [List.map_map]
  congr 1
  refine List.map_congr_left fun s _ => ?_
  simp [strandL, strand, ← Lib.size_eq]
theorem tie_eq {l : List ByteArray} (h : (tie (l.map fun s => s.data.toList)).length ≤ 140737488355328) : knot_Tie.f l = some (B (tie (l.map fun s => s.data.toList))) := by
  unfold knot_Tie.f
  rw [tieL_eq, if_pos h]; rfl

/-! ### knot.First, Untie -/
theorem take_data (s : ByteArray) (n : Nat) : (s.extract 0 n).data.toList = s.data.toList.take n := by rw [Lib.extract_data]; simp
theorem first_eq {s : ByteArray} (h : s.size ≤ 140737488355328) : knot_First.f s = some (firstR s) := by
  have hmn : mn (s.size : Int) 1048576 = ((min s.size 1048576 : Nat) : Int) := by unfold mn; split <;> omega
  have hz := Lib.size_eq s
  unfold knot_First.f firstR firstL
  rw [hmn]
  clear hmn
  obtain ⟨M, hM⟩ : ∃ M : Nat, M = 1048576 := ⟨_, rfl⟩
  rw [← hM]
  have hM1 : M ≤ 1048576 := by omega
  clear hM
  rw [if_pos (by omega), if_pos (by omega), Int.toNat_natCast]
  have hdt : (s.extract 0 (min s.size M)).data.toList = s.data.toList.take M := by
    rw [take_data, hz]
    exact List.take_eq_take_iff.2 (by omega)
  have hsz : (s.extract 0 (min s.size M)).size ≤ 1048576 := by rw [Lib.size_eq, hdt, List.length_take]; omega
  have hcut : strings_Cut.f (s.extract 0 (min s.size M)) (⟨#[58]⟩ : ByteArray) = some (B (Lib.cut (s.data.toList.take M) [58]).1, B (Lib.cut (s.data.toList.take M) [58]).2.1, (Lib.cut (s.data.toList.take M) [58]).2.2) := by
    unfold strings_Cut.f
    rw [if_pos (by omega), hdt]; rfl
  rw [hcut]
  simp only [Option.bind_some]
  have hlt : (s.data.toList.take M).length ≤ 1048576 := by rw [List.length_take]; omega
  have hc1 : (Lib.cut (s.data.toList.take M) [58]).1.length ≤ 1048576 ∧ ((Lib.cut (s.data.toList.take M) [58]).2.2 = true → (Lib.cut (s.data.toList.take M) [58]).1.length + 1 + (Lib.cut (s.data.toList.take M) [58]).2.1.length = (s.data.toList.take M).length) := by
    rcases colon (s.data.toList.take M) with hn | ⟨a, b, hab, hna⟩
    · rw [cut_miss _ hn]; exact ⟨hlt, fun h => by cases h⟩
    · rw [hab] at hlt ⊢; rw [cut_hit _ _ hna]
      simp only [List.length_append, List.length_cons] at hlt ⊢
      exact ⟨by omega, fun _ => by omega⟩
  generalize Lib.cut (s.data.toList.take M) [58] = c at hc1
  obtain ⟨c1, c2, c3⟩ := c
  obtain ⟨hl1, hl2⟩ := hc1
  simp only at hl1 hl2 ⊢
  have htl : (s.data.toList.take M).length ≤ s.data.toList.length := by rw [List.length_take]; omega
  rw [int_eq (by rw [B_size]; omega), B_data]
  simp only [Option.bind_some]
  cases hp : pz c1 with
  | none => simp only; split <;> rfl
  | some n =>
    simp only [B_size]
    by_cases h3 : c3 = true
    · rw [if_pos h3, if_pos trivial]
      have hl2 := hl2 h3
      by_cases hn : n < 0
      · rw [if_pos hn]
        have : ¬ (c3 = true ∧ 0 ≤ n ∧ c2[n.toNat]? = some 44) := by omega
        simp only [if_neg this]
      · rw [if_neg hn]
        obtain ⟨m, rfl⟩ : ∃ m : Nat, n = m := ⟨n.toNat, by omega⟩
        simp only [Int.toNat_natCast]
        by_cases hm : m < c2.length
        · rw [if_neg (by omega), if_pos (by omega), if_pos (by omega)]
          have hbt := bt_is (B c2) m 44 (by rw [B_size]; exact hm)
          rw [B_data] at hbt
          have e44 : ((44 : UInt8).toNat : Int) = 44 := rfl
          rw [e44] at hbt
          have a1 : (m : Int) ≤ (c2.length : Int) := by omega
          have a2 : (0 : Int) ≤ ((c1.length + 1 + m + 1 : Nat) : Int) := by omega
          have a3 : ((c1.length + 1 + m + 1 : Nat) : Int) ≤ (s.size : Int) := by omega
          have hw : wrap64 (wrap64 (wrap64 ((c1.length : Int) + 1) + m) + 1) = ((c1.length + 1 + m + 1 : Nat) : Int) := by
            rw [wrap_in (n := (c1.length : Int) + 1) (by omega) (by omega), wrap_in (n := (c1.length : Int) + 1 + m) (by omega) (by omega), wrap_in (by omega) (by omega)]; omega
          by_cases h44 : c2[m]? = some 44
          · rw [if_pos (hbt.2 h44), if_pos a1, hw, if_pos a2, if_pos a3]
            have hcd : c3 = true ∧ 0 ≤ (m : Int) ∧ c2[m]? = some 44 := ⟨h3, by omega, h44⟩
            simp only [if_pos hcd, Int.toNat_natCast]
            have e1 : (B c2).extract 0 m = B (c2.take m) := ext_data (by rw [take_data, B_data, B_data])
            have e2 : s.extract (c1.length + 1 + m + 1) s.size = B (s.data.toList.drop (c1.length + 1 + m + 1)) :=
              ext_data (by rw [Lib.extract_data, B_data]; exact List.take_of_length_le (by rw [List.length_drop]; omega))
            rw [e1, e2]
          · rw [if_neg (fun h => h44 (hbt.1 h))]
            have : ¬ (c3 = true ∧ 0 ≤ (m : Int) ∧ c2[m]? = some 44) := fun h => h44 h.2.2
            simp only [if_neg this]
        · rw [if_pos (by omega)]
          have : ¬ (c3 = true ∧ 0 ≤ (m : Int) ∧ c2[m]? = some 44) := by
            intro h
            have := (List.getElem?_eq_some_iff.1 h.2.2).1
            omega
          simp only [if_neg this]
    · rw [if_neg h3]
      have : ¬ (c3 = true ∧ 0 ≤ n ∧ c2[n.toNat]? = some 44) := fun h => h3 h.1
      simp only [if_neg this]

/-- What Untie answers. -/
def untieA (acc : List ByteArray) (o : Option (List (List UInt8))) : List ByteArray × Int :=
  match o with | some ss => if acc.length + ss.length ≤ 4096 then (acc ++ ss.map B, 0) else ([], 10) | none => ([], 10)
theorem B_nil_data (s : ByteArray) : s.toList = ([] : List UInt8) ↔ s.data.toList = [] := by rw [Lib.toList_data]
theorem firstR_some {s : ByteArray} {x r : List UInt8} (h : firstL s.data.toList = some (x, r)) : firstR s = (B x, B r, 0) := by unfold firstR; rw [h]
theorem firstR_none {s : ByteArray} (h : firstL s.data.toList = none) : firstR s = (⟨#[]⟩, s, 10) := by unfold firstR; rw [h]
theorem untieA_step (acc : List ByteArray) (x : List UInt8) (o : Option (List (List UInt8))) (h : acc.length < 4096) : untieA (acc ++ [B x]) o = untieA acc (o.map (x :: ·)) := by
  cases o with
  | none => rfl
  | some ss =>
    simp only [untieA, Option.map_some, List.length_append, List.length_cons, List.length_nil]
    by_cases hc : acc.length + (0 + 1) + ss.length ≤ 4096
    · rw [if_pos hc, if_pos (by omega)]; simp
    · rw [if_neg hc, if_neg (by omega)]
theorem untieA_full (acc : List ByteArray) (x : List UInt8) (o : Option (List (List UInt8))) (h : 4096 ≤ acc.length) : untieA acc (o.map (x :: ·)) = ([], 10) := by
  cases o with
  | none => rfl
  | some ss => simp only [untieA, Option.map_some, List.length_cons]; rw [if_neg (by omega)]
theorem untie_loop (n : Nat) : ∀ (s : ByteArray) (acc : List ByteArray), s.size < n → s.size ≤ 1048576 → acc.length ≤ 4096 →
    Ev (fun k => knot_Untie.l0 k s acc) (untieA acc (untieF n s.data.toList)) := by
  induction n with
  | zero => intro s acc h; omega
  | succ n ih =>
    intro s acc hs hm ha
    refine Ev.step (f := fun k => if s.toList = ([] : List UInt8) then (some (acc, 0)) else ((knot_First.f s).bind fun bt106 => (if bt106.2.2 = 0 then (if (acc.length : Int) ≥ 4096 then (some (([] : List ByteArray), 10)) else (if acc.length < 8796093022208 then (knot_Untie.l0 k bt106.2.1 (acc ++ [bt106.1])) else (none))) else (some (([] : List ByteArray), 10))))) (fun k => rfl) ?_
    refine Ev.ite (fun h0 => ?_) (fun h0 => ?_)
    · rw [B_nil_data] at h0
      have : untieA acc (untieF (n + 1) s.data.toList) = (acc, 0) := by
        simp only [untieF]; rw [if_pos h0]; simp [untieA, ha]
      rw [this]; exact Ev.now _
    · rw [B_nil_data] at h0
      rw [first_eq (by omega)]
      simp only [Option.bind_some]
      cases hf : firstL s.data.toList with
      | none =>
        rw [firstR_none hf]
        have : untieF (n + 1) s.data.toList = none := by simp only [untieF]; rw [if_neg h0, hf]
        rw [this]
        exact Ev.now _
      | some p =>
        obtain ⟨x, r⟩ := p
        rw [firstR_some hf]
        have hu : untieF (n + 1) s.data.toList = (untieF n r).map (x :: ·) := by simp only [untieF]; rw [if_neg h0, hf]
        rw [hu]
        obtain ⟨hl, _⟩ := firstL_some hf
        have hlen := congrArg List.length hl
        rw [List.length_append, ← Lib.size_eq, strand_length] at hlen
        refine Ev.ite (fun _ => Ev.ite (fun hfull => ?_) (fun hroom => Ev.ite (fun _ => ?_) (fun h => absurd h (by omega)))) (fun h => absurd rfl h)
        · rw [untieA_full _ _ _ (by omega)]; exact Ev.now _
        · rw [← untieA_step _ _ _ (by omega)]
          have := ih (B r) (acc ++ [B x]) (by rw [B_size]; omega) (by rw [B_size]; omega) (by simp; omega)
          rw [B_data] at this
          exact this
/-- knot.Untie. -/
def untieR (s : ByteArray) : List ByteArray × Int := match untieL s.data.toList with | some ss => (ss.map B, 0) | none => ([], 10)
theorem untieR_eq (s : ByteArray) (h : s.size ≤ 1048576) : untieR s = untieA [] (untieF (s.size + 1) s.data.toList) := by
  unfold untieR untieL untieA
  rw [← Lib.size_eq, if_pos h]
  cases untieF (s.size + 1) s.data.toList with
  | none => rfl
  | some ss =>
    simp only [List.length_nil, Nat.zero_add, List.nil_append]
    by_cases hc : ss.length ≤ 4096
    · rw [if_pos hc, if_pos hc]
    · rw [if_neg hc, if_neg hc]
theorem untieR_long (s : ByteArray) (h : ¬ s.size ≤ 1048576) : untieR s = ([], 10) := by
  unfold untieR untieL; rw [← Lib.size_eq, if_neg h]
theorem untie_ev (s : ByteArray) : Ev (fun k => knot_Untie.f k s) (untieR s) := by
  refine Ev.ite (fun h => ?_) (fun h => ?_)
  · rw [untieR_long s (by omega)]; exact Ev.now _
  · rw [untieR_eq s (by omega)]
    exact untie_loop _ s [] (Nat.lt_succ_self _) (by omega) (by simp)
theorem runtie_loop (n : Nat) : ∀ (s : ByteArray) (acc : List ByteArray), s.size < n → s.size ≤ 1048576 → acc.length ≤ 4096 →
    Ev (fun k => furlongref01_Untie.l0 k s acc) (untieA acc (untieF n s.data.toList)) := by
  induction n with
  | zero => intro s acc h; omega
  | succ n ih =>
    intro s acc hs hm ha
    refine Ev.step (f := fun k => if s.toList = ([] : List UInt8) then (some (acc, 0)) else ((furlongref01_First.f s).bind fun bt142 => (if bt142.2.2 = 0 then (if (acc.length : Int) = 4096 then (some (([] : List ByteArray), 10)) else (if acc.length < 8796093022208 then (furlongref01_Untie.l0 k bt142.2.1 (acc ++ [bt142.1])) else (none))) else (some (([] : List ByteArray), 10))))) (fun k => rfl) ?_
    refine Ev.ite (fun h0 => ?_) (fun h0 => ?_)
    · rw [B_nil_data] at h0
      have : untieA acc (untieF (n + 1) s.data.toList) = (acc, 0) := by
        simp only [untieF]; rw [if_pos h0]; simp [untieA, ha]
      rw [this]; exact Ev.now _
    · rw [B_nil_data] at h0
      rw [show furlongref01_First.f s = some (firstR s) by unfold furlongref01_First.f; rw [if_pos (by omega)]]
      simp only [Option.bind_some]
      cases hf : firstL s.data.toList with
      | none =>
        rw [firstR_none hf]
        have : untieF (n + 1) s.data.toList = none := by simp only [untieF]; rw [if_neg h0, hf]
        rw [this]
        exact Ev.now _
      | some p =>
        obtain ⟨x, r⟩ := p
        rw [firstR_some hf]
        have hu : untieF (n + 1) s.data.toList = (untieF n r).map (x :: ·) := by simp only [untieF]; rw [if_neg h0, hf]
        rw [hu]
        obtain ⟨hl, _⟩ := firstL_some hf
        have hlen := congrArg List.length hl
        rw [List.length_append, ← Lib.size_eq, strand_length] at hlen
        refine Ev.ite (fun _ => Ev.ite (fun hfull => ?_) (fun hroom => Ev.ite (fun _ => ?_) (fun h => absurd h (by omega)))) (fun h => absurd rfl h)
        · rw [untieA_full _ _ _ (by omega)]; exact Ev.now _
        · rw [← untieA_step _ _ _ (by omega)]
          have := ih (B r) (acc ++ [B x]) (by rw [B_size]; omega) (by rw [B_size]; omega) (by simp; omega)
          rw [B_data] at this
          exact this
theorem runtie_ev (s : ByteArray) : Ev (fun k => furlongref01_Untie.f k s) (untieR s) := by
  refine Ev.ite (fun h => ?_) (fun h => ?_)
  · rw [untieR_long s (by omega)]; exact Ev.now _
  · rw [untieR_eq s (by omega)]
    exact runtie_loop _ s [] (Nat.lt_succ_self _) (by omega) (by simp)
/-! ### Same -/
theorem same_loop (a b : List ByteArray) (hl : a.length = b.length) (hm : a.length ≤ 9223372036854775806) (d : Nat) : ∀ (i : Nat), a.length - i = d → i ≤ a.length → a.take i = b.take i →
    Ev (fun k => furlongref01_Same.l0 k a b (i : Int)) (decide (a = b)) := by
  induction d with
  | zero =>
    intro i hd hi he
    have : i = a.length := by omega
    subst this
    refine Ev.step (f := fun _ => some true) (fun k => ?_) ?_
    · simp only [furlongref01_Same.l0]; rw [if_neg (by omega)]
    · have : a = b := by rw [List.take_length, hl, List.take_length] at he; exact he
      rw [decide_eq_true this]; exact Ev.now _
  | succ d ih =>
    intro i hd hi he
    have h1 : i < a.length := by omega
    have h2 : i < b.length := by omega
    have ra : rdOf ByteArray.empty a (i : Int) = a[i] := by simp [rdOf, h1]
    have rb : rdOf ByteArray.empty b (i : Int) = b[i] := by simp [rdOf, h2]
    by_cases hc : a[i] = b[i]
    · refine Ev.step (f := fun k => furlongref01_Same.l0 k a b ((i + 1 : Nat) : Int)) (fun k => ?_) (ih (i + 1) (by omega) (by omega) ?_)
      · simp only [furlongref01_Same.l0]
        rw [if_pos (by omega), if_pos (by omega), if_pos (by omega), ra, rb, if_pos (by rw [hc]), wrap_in (by omega) (by omega)]
        rfl
      · rw [List.take_succ_eq_append_getElem h1, List.take_succ_eq_append_getElem h2, he, hc]
    · refine Ev.step (f := fun _ => some false) (fun k => ?_) ?_
      · simp only [furlongref01_Same.l0]
        rw [if_pos (by omega), if_pos (by omega), if_pos (by omega), ra, rb, if_neg (by rw [toList_inj]; exact hc)]
      · have : ¬ a = b := fun h => hc (by subst h; rfl)
        rw [decide_eq_false this]; exact Ev.now _
theorem same_ev (a b : List ByteArray) (hm : a.length ≤ 9223372036854775806) : Ev (fun k => furlongref01_Same.f k a b) (decide (a = b)) := by
  refine Ev.ite (fun h => ?_) (fun h => ?_)
  · exact same_loop a b (by omega) hm _ 0 rfl (Nat.zero_le _) (by simp)
  · have : ¬ a = b := fun e => h (by rw [e])
    rw [decide_eq_false this]; exact Ev.now _
end Go.Proofs.YthijgcnmbfhjjaaDoor.V
