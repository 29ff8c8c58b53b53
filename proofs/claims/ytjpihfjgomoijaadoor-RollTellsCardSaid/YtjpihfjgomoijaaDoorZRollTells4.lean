import Derived.Test.YtjpihfjgomoijaaDoorZRollTells1
import Derived.Test.YtjpihfjgomoijaaDoorZRollTells2
import Derived.Test.YtjpihfjgomoijaaDoorZRollTells3
set_option linter.unusedVariables false
set_option linter.unusedSimpArgs false
set_option linter.unnecessarySimpa false
section
/- roll: Last, Term, Slice, Append, Compact, Newer, Merge and the reference's: what they answer. -/
namespace Go.Proofs.YtjpihfjgomoijaaDoor.V
open Go.RowKit Go.Proofs.YtjpihfjgomoijaaDoorW.PrintWords Go.Proofs.YtjpihfjgomoijaaDoorW.PrintLast Go.Proofs.YtjpihfjgomoijaaDoorW.PrintMore Go.Proofs.YtjpihfjgomoijaaDoor.P Go.Proofs.YtjpihfjgomoijaaDoor.K Go.Proofs.YtjpihfjgomoijaaDoor.A
theorem term_ev {b bt : Int} {l : List S54} {i : Int} (h0 : 0 ≤ b) (h1 : l.length ≤ 1000000000) (hi : isI i) : Ev (fun k => roll_Term.f k b bt l i) (termR b bt l i) := by
  refine ⟨1, fun k hk => ?_⟩
  obtain ⟨m, rfl⟩ : ∃ m, k = m + 1 := ⟨k - 1, by omega⟩
  exact term_eq (bt := bt) h0 (by omega) hi.2
theorem wrap_last {b : Int} {l : List S54} (h : 0 ≤ b ∧ b ≤ 1099511627776) (h1 : l.length ≤ 1000000000) : wrap64 (b + (l.length : Int)) = b + l.length := wrap_in (by omega) (by omega)
theorem isI_last {b : Int} {l : List S54} (h : 0 ≤ b ∧ b ≤ 1099511627776) (h1 : l.length ≤ 1000000000) : isI (b + l.length) := ⟨by omega, by omega⟩
theorem last_ev {b bt : Int} {l : List S54} (h : 0 ≤ b ∧ b ≤ 1099511627776) (h1 : l.length ≤ 1000000000) : Ev (fun k => roll_Last.f k b bt l) (b + l.length, lastT b bt l) := by
  simp only [roll_Last.f, wrap_last h h1]
  exact Ev.bind (term_ev h.1 h1 (isI_last h h1)) (Ev.now _)
theorem rlast_eq {b bt : Int} {l : List S54} (h : 0 ≤ b ∧ b ≤ 1099511627776) (h1 : l.length ≤ 1000000000) : r11_Last.f b bt l = some (b + l.length, lastT b bt l) := by
  have hw := wrap_last h h1
  unfold r11_Last.f
  by_cases h2 : l.length = 0
  · have h3 : l = [] := List.eq_nil_of_length_eq_zero h2
    subst h3
    rw [lastT_nil]
    simp
  · obtain ⟨n, hn⟩ : ∃ n, l.length = n + 1 := ⟨l.length - 1, by omega⟩
    have e : wrap64 ((l.length : Int) - 1) = (n : Int) := by rw [wrap_in (by omega) (by omega)]; omega
    rw [if_neg (by omega), e, if_pos (nn n), if_pos (by omega), lastT_some hn, rd_lt (show n < l.length by omega), hw]
theorem rterm_ev {b bt : Int} {l : List S54} {i : Int} (h : 0 ≤ b ∧ b ≤ 1099511627776) (h1 : l.length ≤ 1000000000) (hi : isI i) : Ev (fun k => r11_Term.f k b bt l i) (termR b bt l i) := by
  simp only [r11_Term.f, rlast_eq h h1, Option.bind_some]
  unfold termR
  have hi1 := hi.1
  have hi2 := hi.2
  refine Ev.ite (fun c1 => ?_) (fun c1 => ?_)
  · rw [if_pos c1]
    refine Ev.shift ?_
    simp only [r11_Term.j0, if_true]
    exact Ev.now _
  · rw [if_neg c1]
    have e2 : wrap64 (i - b) = i - b := wrap_in (by omega) (by omega)
    have e3 : wrap64 (i - b - 1) = i - b - 1 := wrap_in (by omega) (by omega)
    refine Ev.shift ?_
    simp only [r11_Term.j0, e2, e3]
    refine Ev.ite (fun c2 => ?_) (fun c2 => Ev.ite (fun c3 => ?_) (fun c3 => ?_))
    · rw [if_pos (show i - b > (l.length : Int) by have := of_decide_eq_true c2; omega)]; exact Ev.now _
    · rw [if_neg (show ¬ i - b > (l.length : Int) from fun h => c2 (decide_eq_true (by omega))), if_pos c3]; exact Ev.now _
    · have c4 : ¬ i - b > (l.length : Int) := fun h => c2 (decide_eq_true (by omega))
      rw [if_neg c4, if_neg c3]
      have c5 : 0 ≤ i - b - 1 := by omega
      have c6 : i - b - 1 < (l.length : Int) := by omega
      simp only [if_pos c5, if_pos c6]
      exact Ev.now _
/-! ### Slice -/
theorem skip_eq {b : Int} {n : Nat} {fr : Int} (h : 0 ≤ b ∧ b ≤ 1099511627776) (h1 : n ≤ 1000000000) (hf : isI fr) : mn (wrap64 (wrap64 (mx fr (wrap64 (b + 1)) - 1) - b)) (n : Int) = ((min (fr - (b + 1)).toNat n : Nat) : Int) := by
  have hf1 := hf.1
  have hf2 := hf.2
  have e1 : wrap64 (b + 1) = b + 1 := wrap_in (by omega) (by omega)
  rw [e1]
  clear e1
  have e2 : b + 1 ≤ mx fr (b + 1) ∧ mx fr (b + 1) ≤ 9223372036854775807 ∧ mx fr (b + 1) - (b + 1) = ((fr - (b + 1)).toNat : Int) := by unfold mx; split <;> omega
  generalize mx fr (b + 1) = m at e2
  have e3 : wrap64 (m - 1) = m - 1 := wrap_in (by omega) (by omega)
  rw [e3]
  clear e3
  have e4 : wrap64 (m - 1 - b) = m - 1 - b := wrap_in (by omega) (by omega)
  rw [e4]
  clear e4
  have e5 : m - 1 - b = ((fr - (b + 1)).toNat : Int) := by omega
  rw [e5]
  unfold mn
  split <;> omega
theorem lim_eq {q : Int} {n : Nat} : mx 0 (mn q (n : Int)) = ((min q.toNat n : Nat) : Int) := by
  unfold mx mn; split <;> split <;> omega
theorem drop_min {α : Type} (l : List α) (a : Nat) : l.drop (min a l.length) = l.drop a := by
  rcases Nat.le_total a l.length with h | h
  · rw [Nat.min_eq_left h]
  · rw [Nat.min_eq_right h, List.drop_length, List.drop_of_length_le h]
theorem take_min {α : Type} (l : List α) (a : Nat) : l.take (min a l.length) = l.take a := by
  rcases Nat.le_total a l.length with h | h
  · rw [Nat.min_eq_left h]
  · rw [Nat.min_eq_right h, List.take_length, List.take_of_length_le h]
theorem slice_eq {b bt : Int} {l : List S54} {fr q : Int} (h : 0 ≤ b ∧ b ≤ 1099511627776) (h1 : l.length ≤ 1000000000) (hf : isI fr) : roll_Slice.f b bt l fr q = some (sliceR b l fr q) := by
  have hk := skip_eq h h1 hf
  have hk2 : min (fr - (b + 1)).toNat l.length ≤ l.length := Nat.min_le_right _ _
  unfold roll_Slice.f sliceR
  rw [hk, if_pos (nn _), if_pos (Int.ofNat_le.2 hk2), Int.toNat_natCast, drop_min, Option.bind_some, lim_eq, if_pos (nn _), if_pos (Int.ofNat_le.2 (Nat.min_le_right _ _)), Int.toNat_natCast, take_min]
  unfold api_Entry.f
  rw [if_pos (by rw [List.length_take, List.length_drop]; omega), Option.bind_some]
theorem rslice_ev {b bt : Int} {l : List S54} {fr q : Int} (h : 0 ≤ b ∧ b ≤ 1099511627776) (h1 : l.length ≤ 1000000000) (hq : isI q) : Ev (fun k => r11_Slice.f k b bt l fr q) (sliceR b l fr q) := by
  have := Ev.upto (F := fun k (out : List S54) i => r11_Slice.l0 k fr q out i b bt l) (n := l.length) (G := fun out i => out ++ (l.drop (max i (fr - (b + 1)).toNat)).take (q.toNat - out.length)) (I := fun out i => out.length ≤ i)
    (by
      intro out i hi hI ih
      have a1 : wrap64 (b + 1) = b + 1 := wrap_in (by omega) (by omega)
      have a2 : wrap64 (b + 1 + (i : Int)) = b + 1 + i := wrap_in (by omega) (by omega)
      have a3 := wrap_nat (n := i) (by omega)
      have a4 : out.length < 5864062014805 := by omega
      simp only [r11_Slice.l0, if_pos (lt_cast hi)]
      refine Ev.shift ?_
      simp only [r11_Slice.j1, a1, a2, a3, if_pos (nn i), if_pos (lt_cast hi), if_pos a4, rd_lt hi]
      clear a1 a2 a3
      refine Ev.ite (fun c1 => Ev.ite (fun c2 => ?_) (fun c2 => ?_)) (fun c1 => ?_)
      · have c1 := of_decide_eq_true c1
        have e1 : max i (fr - (b + 1)).toNat = i := by omega
        have e2 : max (i + 1) (fr - (b + 1)).toNat = i + 1 := by omega
        have e3 : q.toNat - out.length = (q.toNat - (out.length + 1)) + 1 := by omega
        have ih := ih (out ++ [l[i]]) (by simp; omega)
        rw [e2, List.length_append, List.length_singleton, List.append_assoc] at ih
        rw [e1, e3, List.drop_eq_getElem_cons hi, List.take_succ_cons]
        exact ih
      · have e1 : max i (fr - (b + 1)).toNat = max (i + 1) (fr - (b + 1)).toNat := by omega
        rw [e1]
        exact ih out (by omega)
      · have e3 : q.toNat - out.length = 0 := by have : ¬ (out.length : Int) < q := fun h => c1 (decide_eq_true h); omega
        rw [e3, List.take_zero, List.append_nil]
        exact Ev.now _)
    (by
      intro out hI
      simp only [r11_Slice.l0, if_neg (Int.lt_irrefl _)]
      refine Ev.shift ?_
      simp only [r11_Slice.j1]
      rw [List.drop_of_length_le (by omega), List.take_nil, List.append_nil]
      exact Ev.ite (fun h => absurd h (by simp)) (fun _ => Ev.now _)) 0 (Nat.zero_le _) [] (Nat.zero_le _)
  simp only [List.nil_append, List.length_nil, Nat.sub_zero, Nat.zero_max, Nat.max_eq_right (Nat.zero_le _)] at this
  exact this
/-! ### Append, Compact, Newer -/
theorem append_eq {b bt : Int} {l m : List S54} (h : l.length ≤ 1000000000) (h2 : m.length ≤ 1000000000) : roll_Append.f b bt l m = some (b, bt, l ++ m) := by
  unfold roll_Append.f; rw [if_pos (by omega)]
theorem rappend_eq {b bt : Int} {l m : List S54} (h : l.length ≤ 1000000000) (h2 : m.length ≤ 1000000000) : r11_Append.f b bt l m = some (b, bt, l ++ m) := by
  unfold r11_Append.f
  simp only [Option.bind_some, List.nil_append, List.length_nil]
  rw [if_pos (by omega), if_pos (by omega)]
theorem compact_ev {b bt : Int} {l : List S54} {i : Int} (h : 0 ≤ b ∧ b ≤ 1099511627776) (h1 : l.length ≤ 1000000000) (hi : isI i) : Ev (fun k => roll_Compact.f k b bt l i) (compactR b bt l i) := by
  refine Ev.bind (term_ev h.1 h1 hi) ?_
  have hi1 := hi.1
  have hi2 := hi.2
  unfold compactR
  refine Ev.ite (fun c1 => Ev.ite (fun c2 => ?_) (fun c2 => ?_)) (fun c1 => ?_)
  · rw [if_neg (by omega)]; exact Ev.now _
  · have hin := termR_in (b := b) (bt := bt) (l := l) (i := i) (t := (termR b bt l i).1) (by rw [← c1])
    have c3 : b < i := by omega
    have e : wrap64 (i - b) = i - b := wrap_in (by omega) (by omega)
    have e1 : 0 ≤ i - b := by omega
    have e2 : i - b ≤ (l.length : Int) := by omega
    have e3 : (l.drop (i - b).toNat).length < 5864062014805 := by rw [List.length_drop]; omega
    simp only [e, if_pos e1, if_pos e2, api_Entry.f, if_pos e3, Option.bind_some, if_pos (And.intro c1 c3)]
    exact Ev.now _
  · rw [if_neg (fun h => c1 h.1)]; exact Ev.now _
theorem rcompact_ev {b bt : Int} {l : List S54} {i : Int} (h : 0 ≤ b ∧ b ≤ 1099511627776) (h1 : l.length ≤ 1000000000) (hi : isI i) : Ev (fun k => r11_Compact.f k b bt l i) (compactR b bt l i) := by
  refine Ev.bind (rterm_ev h h1 hi) ?_
  have hi1 := hi.1
  have hi2 := hi.2
  unfold compactR
  refine Ev.ite (fun c1 => Ev.ite (fun c2 => ?_) (fun c2 => ?_)) (fun c1 => ?_)
  · rw [if_neg (by omega)]; exact Ev.now _
  · have hin := termR_in (b := b) (bt := bt) (l := l) (i := i) (t := (termR b bt l i).1) (by rw [← c1])
    have c3 : b < i := by omega
    have e : wrap64 (i - b) = i - b := wrap_in (by omega) (by omega)
    have e1 : 0 ≤ i - b := by omega
    have e2 : i - b ≤ (l.length : Int) := by omega
    have e3 : 0 + (l.drop (i - b).toNat).length < 5864062014805 := by rw [List.length_drop]; omega
    simp only [e, if_pos e1, if_pos e2, List.length_nil, List.nil_append, if_pos e3, Option.bind_some, if_pos (And.intro c1 c3)]
    exact Ev.now _
  · rw [if_neg (fun h => c1 h.1)]; exact Ev.now _
theorem newer_ev {t i b bt : Int} {l : List S54} (h : 0 ≤ b ∧ b ≤ 1099511627776) (h1 : l.length ≤ 1000000000) : Ev (fun k => roll_Newer.f k t i b bt l) (newerR t i b bt l) := by
  refine Ev.bind (last_ev h h1) ?_
  unfold newerR
  refine Ev.ite (fun c1 => ?_) (fun c1 => ?_)
  · rw [show decide (lastT b bt l < t ∨ t = lastT b bt l ∧ b + l.length ≤ i) = decide (i ≥ b + l.length) from decide_eq_decide.2 (by simp only at c1; omega)]; exact Ev.now _
  · rw [show decide (lastT b bt l < t ∨ t = lastT b bt l ∧ b + l.length ≤ i) = decide (t > lastT b bt l) from decide_eq_decide.2 (by simp only at c1; omega)]; exact Ev.now _
theorem rnewer_eq {t i b bt : Int} {l : List S54} (h : 0 ≤ b ∧ b ≤ 1099511627776) (h1 : l.length ≤ 1000000000) : r11_Newer.f t i b bt l = some (newerR t i b bt l) := by
  unfold r11_Newer.f newerR
  rw [rlast_eq h h1, Option.bind_some]
  by_cases c1 : t > lastT b bt l
  · rw [if_pos c1, decide_eq_true (by omega)]
  · rw [if_neg c1]
    by_cases c2 : t = lastT b bt l
    · rw [if_pos c2]; congr 1; exact decide_eq_decide.2 (by omega)
    · rw [if_neg c2, decide_eq_false (by omega)]
/-! ### Merge -/
def mergeR (b bt : Int) (l : List S54) (a1 a2 : Int) (m : List S54) : Int × Int × List S54 × Bool :=
  if termR b bt l a1 = (a2, true) then
    if sameN b bt l (a1 + 1) m = m.length then (b, bt, l, true)
    else (b, bt, l.take (a1 - b + (sameN b bt l (a1 + 1) m : Nat)).toNat ++ m.drop (sameN b bt l (a1 + 1) m), true)
  else (b, bt, l, false)
theorem merge_eq {b bt : Int} {l : List S54} {a1 a2 : Int} {m : List S54} (h : 0 ≤ b ∧ b ≤ 1099511627776) (h1 : l.length ≤ 1000000000) (h2 : m.length ≤ 1000000000) (hi : isI a1) : roll_Merge.f b bt l a1 a2 m = some (mergeR b bt l a1 a2 m) := by
  unfold roll_Merge.f mergeR
  rw [if_pos ⟨h.1, hi.1, hi.2, h2, h1⟩]
  by_cases c : termR b bt l a1 = (a2, true)
  · have := termR_in c
    rw [if_pos c, if_pos c, if_neg (by omega)]
    split <;> rfl
  · rw [if_neg c, if_neg c]
theorem rmerge_loop {b bt : Int} {l : List S54} {a1 : Int} {m : List S54} (h : 0 ≤ b ∧ b ≤ 1099511627776) (h1 : l.length ≤ 1000000000) (h2 : m.length ≤ 1000000000) (hb : b ≤ a1) (hl : a1 - b ≤ l.length) :
    Ev (fun k => r11_Merge.l0 k a1 m 0 b bt l) (if sameN b bt l (a1 + 1) m = m.length then (b, bt, l, true) else (b, bt, l.take (a1 - b + (sameN b bt l (a1 + 1) m : Nat)).toNat ++ m.drop (sameN b bt l (a1 + 1) m), true)) := by
  have := Ev.upto (F := fun k (_ : Unit) i => r11_Merge.l0 k a1 m i b bt l) (n := m.length) (G := fun _ i => if i + sameN b bt l (a1 + 1 + i) (m.drop i) = m.length then (b, bt, l, true) else (b, bt, l.take (a1 - b + ((i + sameN b bt l (a1 + 1 + i) (m.drop i) : Nat) : Int)).toNat ++ m.drop (i + sameN b bt l (a1 + 1 + i) (m.drop i)), true)) (I := fun _ i => a1 - b + i ≤ l.length)
    (by
      intro _ i hi hI ih
      have a1' : wrap64 (a1 + 1) = a1 + 1 := wrap_in (by omega) (by omega)
      have a2' : wrap64 (a1 + 1 + (i : Int)) = a1 + 1 + i := wrap_in (by omega) (by omega)
      have a3 := wrap_nat (n := i) (by omega)
      have a4 : wrap64 (a1 + 1 + (i : Int) - b) = a1 + 1 + i - b := wrap_in (by omega) (by omega)
      have a5 : wrap64 (a1 + 1 + (i : Int) - b - 1) = a1 + 1 + i - b - 1 := wrap_in (by omega) (by omega)
      have hit : isI (a1 + 1 + (i : Int)) := ⟨by omega, by omega⟩
      have hdrop : m.drop i = m[i] :: m.drop (i + 1) := List.drop_eq_getElem_cons hi
      have p1 : 0 ≤ a1 + 1 + (i : Int) - b - 1 := by omega
      have p2 : a1 + 1 + (i : Int) - b - 1 ≤ (l.length : Int) := by omega
      have p3 : 0 + (l.take (a1 + 1 + (i : Int) - b - 1).toNat).length < 5864062014805 := by rw [List.length_take]; omega
      have p4 : (i : Int) ≤ (m.length : Int) := by omega
      have p5 : (l.take (a1 + 1 + (i : Int) - b - 1).toNat).length + (m.drop i).length < 5864062014805 := by rw [List.length_take, List.length_drop]; omega
      have ie : (a1 - b + ((i + 0 : Nat) : Int)) = a1 + 1 + (i : Int) - b - 1 := by omega
      have fin : termR b bt l (a1 + 1 + i) ≠ (m[i].f0, true) → (if i + sameN b bt l (a1 + 1 + i) (m.drop i) = m.length then (b, bt, l, true) else (b, bt, l.take (a1 - b + ((i + sameN b bt l (a1 + 1 + i) (m.drop i) : Nat) : Int)).toNat ++ m.drop (i + sameN b bt l (a1 + 1 + i) (m.drop i)), true)) = (b, bt, l.take (a1 + 1 + (i : Int) - b - 1).toNat ++ m.drop i, true) := by
        intro hne
        have : sameN b bt l (a1 + 1 + i) (m.drop i) = 0 := by rw [hdrop]; simp only [sameN]; rw [if_neg hne]
        rw [this, if_neg (by omega), ie, Nat.add_zero]
      simp only [r11_Merge.l0, if_pos (lt_cast hi), a1', a2', a3, a4, a5, rd_lt hi, if_pos (nn i)]
      clear a1' a2' a3 a4 a5
      refine Ev.bind (rterm_ev h h1 hit) ?_
      refine Ev.ite (fun c1 => Ev.ite (fun c2 => ?_) (fun c2 => ?_)) (fun c1 => ?_)
      · have ht : termR b bt l (a1 + 1 + i) = (m[i].f0, true) := Prod.ext c2 c1
        have hs : sameN b bt l (a1 + 1 + i) (m.drop i) = sameN b bt l (a1 + 1 + ((i + 1 : Nat) : Int)) (m.drop (i + 1)) + 1 := by
          rw [hdrop]; simp only [sameN]; rw [if_pos ht, show a1 + 1 + (i : Int) + 1 = a1 + 1 + ((i + 1 : Nat) : Int) by omega]
        have hin := termR_in ht
        rw [hs, show i + (sameN b bt l (a1 + 1 + ((i + 1 : Nat) : Int)) (m.drop (i + 1)) + 1) = i + 1 + sameN b bt l (a1 + 1 + ((i + 1 : Nat) : Int)) (m.drop (i + 1)) by omega]
        exact ih () (by omega)
      · rw [fin (fun e => c2 (by rw [e]))]
        simp only [Option.bind_some, List.length_nil, List.nil_append, if_pos p1, if_pos p2, if_pos p3, if_pos p4, Int.toNat_natCast, if_pos p5]
        exact Ev.now _
      · rw [fin (fun e => c1 (by rw [e]))]
        simp only [Option.bind_some, List.length_nil, List.nil_append, if_pos p1, if_pos p2, if_pos p3, if_pos p4, Int.toNat_natCast, if_pos p5]
        exact Ev.now _)
    (by
      intro _ hI
      simp only [r11_Merge.l0, if_neg (Int.lt_irrefl _), List.drop_length, sameN, Nat.add_zero, if_true]
      exact Ev.now _) 0 (Nat.zero_le _) () (by omega)
  simp only [show ((0 : Nat) : Int) = 0 from rfl, Int.add_zero, Nat.zero_add, List.drop_zero] at this
  exact this
theorem rmerge_ev {b bt : Int} {l : List S54} {a1 a2 : Int} {m : List S54} (h : 0 ≤ b ∧ b ≤ 1099511627776) (h1 : l.length ≤ 1000000000) (h2 : m.length ≤ 1000000000) (hi : isI a1) : Ev (fun k => r11_Merge.f k b bt l a1 a2 m) (mergeR b bt l a1 a2 m) := by
  refine Ev.bind (rterm_ev h h1 hi) ?_
  unfold mergeR
  refine Ev.ite (fun c1 => ?_) (fun c1 => ?_)
  · refine Ev.shift ?_
    simp only [r11_Merge.j0]
    refine Ev.ite (fun c2 => ?_) (fun c2 => ?_)
    · rw [if_neg (fun e => by rw [e] at c2; simp at c2)]; exact Ev.now _
    · have c3 : (termR b bt l a1).1 = a2 := by simpa using c2
      have ht : termR b bt l a1 = (a2, true) := Prod.ext c3 c1
      have hin := termR_in ht
      rw [if_pos ht]
      exact rmerge_loop h h1 h2 hin.1 hin.2
  · rw [if_neg (fun e => c1 (by rw [e]))]
    refine Ev.shift ?_
    simp only [r11_Merge.j0, if_true]
    exact Ev.now _
end Go.Proofs.YtjpihfjgomoijaaDoor.V
end
section
-- Written by a program of this session (wip/tools/pr.py), over the kit's printer; functions named in the texts imported below are given by hand.
namespace Go.Proofs.YtjpihfjgomoijaaDoor.P
open Go.RowKit Go.Proofs.YtjpihfjgomoijaaDoor.K Go.Proofs.YtjpihfjgomoijaaDoorW.PrintWords Go.Proofs.YtjpihfjgomoijaaDoorW.PrintLast Go.Proofs.YtjpihfjgomoijaaDoorW.PrintMore
attribute [local go_sem] max2_int min2_int max_two min_two max_three min_three max_four min_four   -- for this text's walks alone
/-! ### roll_Parse: function 10 -/
mutual
def roll_Parse.j0 : Nat → List ByteArray → Bool → Int → Int → Option (Int × Int × (List (S54)) × Int)
  | 0, _, _, _, _ => none
  | k + 1, x4, x25, x121000, x121001 => if x25 = true then (some (0, 0, ([] : List (S54)), 110)) else (roll_Parse.l0 k x4 0 x121000 x121001 ([] : List (S54)))
def roll_Parse.l0 : Nat → List ByteArray → Int → Int → Int → List (S54) → Option (Int × Int × (List (S54)) × Int)
  | 0, _, _, _, _, _ => none
  | k + 1, x4, x5, x121000, x121001, x121002 => if x5 < (x4.length : Int) then (if 0 ≤ x5 then ((knot_Int.f (rdOf ByteArray.empty x4 x5)).bind fun bt127 => (if bt127.2 = 0 then (if x5 > 0 then (if 0 ≤ (wrap64 (x5 + 1)) then (if (wrap64 (x5 + 1)) < (x4.length : Int) then (if x121002.length < 5864062014805 then (roll_Parse.l0 k x4 (wrap64 (x5 + 2)) x121000 x121001 (x121002 ++ [(⟨bt127.1, rdOf ByteArray.empty x4 (wrap64 (x5 + 1))⟩ : S54)])) else (none)) else (none)) else (none)) else (if 1 < (x4.length : Int) then ((knot_Int.f (rdOf ByteArray.empty x4 1)).bind fun bt134 => (if bt134.2 = 0 then (roll_Parse.l0 k x4 (wrap64 (x5 + 2)) bt127.1 bt134.1 x121002) else (some (0, 0, ([] : List (S54)), 110)))) else (none))) else (some (0, 0, ([] : List (S54)), 110)))) else (none)) else ((roll_Check.f k x121000 x121001 x121002).bind fun t125 => (if t125 = 0 then (some (x121000, x121001, x121002, 0)) else (some (0, 0, ([] : List (S54)), 110))))
end
def roll_Parse.f (k : Nat) (a0 : ByteArray) : Option (Int × Int × (List (S54)) × Int) := (knot_Untie.f k a0).bind fun bt121 => (if bt121.2 = 0 then (if (bt121.1.length : Int) < 2 then (roll_Parse.j0 k bt121.1 true 0 0) else (roll_Parse.j0 k bt121.1 (((bt121.1.length : Int) % 2) == 1) 0 0)) else (roll_Parse.j0 k bt121.1 true 0 0))
theorem roll_Parse.mono_l : ∀ k, (∀ y0 y1 y2 y3, LeO (roll_Parse.j0 k y0 y1 y2 y3) (roll_Parse.j0 (k + 1) y0 y1 y2 y3)) ∧ (∀ y0 y1 y2 y3 y4, LeO (roll_Parse.l0 k y0 y1 y2 y3 y4) (roll_Parse.l0 (k + 1) y0 y1 y2 y3 y4))
  | 0 => ⟨fun _ _ _ _ r h => by simp [roll_Parse.j0] at h, fun _ _ _ _ _ r h => by simp [roll_Parse.l0] at h⟩
  | k + 1 => by
    obtain ⟨ih0, ih1⟩ := roll_Parse.mono_l k
    refine ⟨?_, ?_⟩
    · intro y0 y1 y2 y3
      unfold roll_Parse.j0
      repeat' first
      | (with_reducible exact ih0 _ _ _ _)
      | (with_reducible exact ih1 _ _ _ _ _)
      | (with_reducible exact knot_Untie.mono _ _)
      | (with_reducible exact roll_Check.mono _ _ _ _)
      | (with_reducible exact LeO.refl _)
      | (with_reducible exact LeO.none _)
      | (with_reducible refine LeO.ite ?_ ?_)
      | (with_reducible refine LeO.bind ?_ (fun _ => ?_))
      | exact ih0 _ _ _ _
      | exact ih1 _ _ _ _ _
      | exact knot_Untie.mono _ _
      | exact roll_Check.mono _ _ _ _
      | exact LeO.none _
      | refine LeO.ite ?_ ?_
      | refine LeO.bind ?_ (fun _ => ?_)
    · intro y0 y1 y2 y3 y4
      unfold roll_Parse.l0
      repeat' first
      | (with_reducible exact ih0 _ _ _ _)
      | (with_reducible exact ih1 _ _ _ _ _)
      | (with_reducible exact knot_Untie.mono _ _)
      | (with_reducible exact roll_Check.mono _ _ _ _)
      | (with_reducible exact LeO.refl _)
      | (with_reducible exact LeO.none _)
      | (with_reducible refine LeO.ite ?_ ?_)
      | (with_reducible refine LeO.bind ?_ (fun _ => ?_))
      | exact ih0 _ _ _ _
      | exact ih1 _ _ _ _ _
      | exact knot_Untie.mono _ _
      | exact roll_Check.mono _ _ _ _
      | exact LeO.none _
      | refine LeO.ite ?_ ?_
      | refine LeO.bind ?_ (fun _ => ?_)
theorem roll_Parse.mono : ∀ a0 k, LeO (roll_Parse.f k a0) (roll_Parse.f (k + 1) a0) := by
  intro a0 k
  obtain ⟨ih0, ih1⟩ := roll_Parse.mono_l k
  unfold roll_Parse.f
  repeat' first
      | (with_reducible exact ih0 _ _ _ _)
      | (with_reducible exact ih1 _ _ _ _ _)
      | (with_reducible exact knot_Untie.mono _ _)
      | (with_reducible exact roll_Check.mono _ _ _ _)
      | (with_reducible exact LeO.refl _)
      | (with_reducible exact LeO.none _)
      | (with_reducible refine LeO.ite ?_ ?_)
      | (with_reducible refine LeO.bind ?_ (fun _ => ?_))
      | exact ih0 _ _ _ _
      | exact ih1 _ _ _ _ _
      | exact knot_Untie.mono _ _
      | exact roll_Check.mono _ _ _ _
      | exact LeO.none _
      | refine LeO.ite ?_ ?_
      | refine LeO.bind ?_ (fun _ => ?_)
def roll_Parse.T11 : Bool × List (List Nat × List Nat) := (true, [([], []), ([0], [0]), ([], []), ([], []), ([], []), ([4], [4]), ([3, 5], [3, 5]), ([6], [6]), ([2, 7], [2, 7]), ([8], [8]), ([1, 9], [1, 9]), ([0, 1, 2, 3, 4, 5, 6, 7, 8, 9, 10], []), ([11, 10, 10, 0, 1, 2, 3, 4, 5, 6, 7, 8, 9, 10], [10, 11])])
def roll_Parse.B11 : List Nat := [0, 1, 0, 0, 0, 16, 56, 120, 252, 508, 1023, 2047, 4095]
theorem roll_Parse.tab11 : rtab .any (opsOf Tryd.f10 11) = roll_Parse.T11 := by kernel_rfl
theorem roll_Parse.bits11 : waitsOk roll_Parse.T11.2 roll_Parse.B11 = true := by kernel_rfl
set_option maxHeartbeats 8000000 in
set_option maxRecDepth 100000 in
theorem roll_Parse.calls (k : Nat) (a0 : ByteArray) (r1 : Int) (r2 : Int) (r3 : List (S54)) (r4 : Int) (w : World) (hG : TheG w) (h : roll_Parse.f k a0 = some (r1, r2, r3, r4)) :
    Calls Tryd.prog 10 #[.string a0] w fun e w' => ∃ v2_ : Value, e = .returned (.tuple #[.agg #[.int .i64 r1, .int .i64 r2, v2_], .int .i64 r4]) ∧ Kd.R k54 54 w' w.heap.size (fun _ => True) v2_ r3 ∧ Below w.heap.size w w' := by
  have hu24 := Tryd.underlying24
  have hu54 := Tryd.underlying54
  have HB := Az.mk (Below.refl w.heap.size w)
  have H : ((knot_Untie.f k a0).bind fun bt121 => (if bt121.2 = 0 then (if (bt121.1.length : Int) < 2 then (roll_Parse.j0 k bt121.1 true 0 0) else (roll_Parse.j0 k bt121.1 (((bt121.1.length : Int) % 2) == 1) 0 0)) else (roll_Parse.j0 k bt121.1 true 0 0))) = some (r1, r2, r3, r4) := h
  clear h
  replace H := Option.bind_eq_some_iff.mp H
  obtain ⟨⟨t121, t122⟩, A20, H⟩ := H
  replace H : (if t122 = 0 then (if (t121.length : Int) < 2 then (roll_Parse.j0 k t121 true 0 0) else (roll_Parse.j0 k t121 (((t121.length : Int) % 2) == 1) 0 0)) else (roll_Parse.j0 k t121 true 0 0)) = some (r1, r2, r3, r4) := H
  have A2 := Az.mk A20
  clear A20
  have HC3 := Az.mk H
  clear H
  go_enter Tryd.func10, Tryd.ntmps10
  go_upto_region 2 with (first | ((with_reducible refine gate_dst (N := 2) rfl ?_); (try (refine gate_guard (by rfl) ?_; dsimp only)); refine box_event ?hg (N := 2) ?hd (cs := #[.int .i64 0, .int .i64 0, .slice none 0 0]) (t := 24) ?hr ?_; (case hd => rfl); (case hg => rfl); (case hr => first | (go_simp; done) | (go_simp; rfl)); intro gb120 hg w4 hbox hb; have n0_ := Az.mk (pbT (by repeat (first | (with_reducible first | exact HB.out | apply pbA | apply pbN | apply pb1) | exact HB.out)) hb); have n1_ := Az.mk (hbox); have n2_ := Az.mk ((by rw [hg]; exact (pbZ (by repeat (first | (with_reducible first | exact HB.out | apply pbA | apply pbN | apply pb1) | exact HB.out))) : w.heap.size ≤ gb120)); have n3_ := Az.mk ((by rw [hg]; exact (pbZ (by repeat (first | (with_reducible first | exact HB.out | apply pbA | apply pbN | apply pb1) | exact HB.out))) : w.heap.size ≤ gb120)); clear HB; have HB := n0_; have BK120 := n1_; have GW120 := n2_; have GE120 := n3_; clear n0_ n1_ n2_ n3_; clear hb hbox hg) | ((with_reducible refine gtc (f := 35) rfl ?_); refine goesL_ (some 10) rfl rfl Tryd.func35 (by kernel_rfl) rfl #[.string a0] rfl (by (try simp only [List.map_toArray, List.map_cons, List.map_nil]); first | done | rfl | (simp only [List.length_drop, List.length_take]; rfl)) ?_; (with_reducible refine (knot_Untie.calls k a0 t121 t122 _ ?side1 A2.out).mono ?_); (case side1 => exact hG.below (by repeat (first | (with_reducible first | exact HB.out | apply pbA | apply pbN | apply pb1 | refine pbS ?_ GE120.out) | exact HB.out))); rintro e w5 ⟨v123, rfl, ho0, hb⟩; refine ⟨_, rfl, ?_⟩; have n0_ := Az.mk (Kd.R_lower ho0 (pbZ (by repeat (first | (with_reducible first | exact HB.out | apply pbA | apply pbN | apply pb1 | refine pbS ?_ GE120.out) | exact HB.out)))); have n1_ := Az.mk (bkB (g := gb120) (o := .cells #[.int .i64 0, .int .i64 0, .slice none 0 0] 24 (0, 0)) (by (with_reducible repeat (first | refine bkN ?_ _ | refine bkD ?_ | refine bkA ?_ _)); exact BK120.out) hb); have n2_ := Az.mk (pbT (by repeat (first | (with_reducible first | exact HB.out | apply pbA | apply pbN | apply pb1 | refine pbS ?_ GE120.out) | exact HB.out)) hb); clear BK120; clear HB; have HO124 := n0_; have BK120 := n1_; have HB := n2_; clear n0_ n1_ n2_; (try clear hb); (try clear hb2); (try clear hk); (try clear hi); (try clear ho0)))
  (try simp only [Act.put, List.setIfInBounds_toArray, List.set_cons_zero, List.set_cons_succ])
  go_cut [25] (fun v25 wc => ∃ (kq : Nat) (x25_2 : Bool), v25 = .bool x25_2 ∧ Az (roll_Parse.j0 kq t121 x25_2 0 0 = some (r1, r2, r3, r4)) ∧ Az (kq ≤ k) ∧ Az (Kd.R Kd.string 9 wc w.heap.size (fun _ => True) v123 t121) ∧ Az (wc.heap[gb120]? = some (.cells #[.int .i64 0, .int .i64 0, (.slice none 0 0)] 24 (0, 0))) ∧ Az (Below w.heap.size w wc))
  case first =>
    have H := HC3.out
    clear HC3
    by_cases c6 : t122 = 0
    · rw [if_pos c6] at H
      have c6b0 : (t122 == 0) = true := beq_iff_eq.mpr c6
      have c6b1 : (t122 != 0) = false := bne_eq_false_iff_eq.mpr c6
      clear c6
      (first | rw [c6b0] | (simp only [i64_w, i32_w]; rw [c6b0]) | skip)
      by_cases c7 : (t121.length : Int) < 2
      · rw [if_pos c7] at H
        have c7b0 : decide ((t121.length : Int) < 2) = true := decide_eq_true c7
        have c7b1 : decide (t121.length < 2) = true := decide_eq_true (by omega)
        clear c7
        have H' := Az.mk H
        clear H
        obtain ⟨Ao8, co8, eo8⟩ := Kd.R_slice HO124.out
        subst eo8
        go_wp2
        go_meet
        case rel => exact ⟨_, (true), (by first | rfl | (simp; done) | (simp [*]; done)), H', ⟨by first | omega | exact Nat.le_refl _⟩, ⟨by (with_reducible repeat (first | apply Kd.R_alloc | apply Kd.R_drewN | apply Kd.R_drew)); exact HO124.out⟩, ⟨by (with_reducible repeat (first | refine bkN ?_ _ | refine bkD ?_ | refine bkA ?_ _)); exact BK120.out⟩, ⟨by repeat (first | (with_reducible first | exact HB.out | apply pbA | apply pbN | apply pb1 | refine pbS ?_ GE120.out) | exact HB.out)⟩⟩
      · rw [if_neg c7] at H
        have c7b0 : decide ((t121.length : Int) < 2) = false := decide_eq_false c7
        have c7b1 : decide (t121.length < 2) = false := decide_eq_false (by omega)
        clear c7
        have H' := Az.mk H
        clear H
        obtain ⟨Ao9, co9, eo9⟩ := Kd.R_slice HO124.out
        subst eo9
        go_wp2
        go_meet
        case rel => exact ⟨_, ((((t121.length : Int) % 2) == 1)), (by first | rfl | (simp; done) | (simp [*]; done)), H', ⟨by first | omega | exact Nat.le_refl _⟩, ⟨by (with_reducible repeat (first | apply Kd.R_alloc | apply Kd.R_drewN | apply Kd.R_drew)); exact HO124.out⟩, ⟨by (with_reducible repeat (first | refine bkN ?_ _ | refine bkD ?_ | refine bkA ?_ _)); exact BK120.out⟩, ⟨by repeat (first | (with_reducible first | exact HB.out | apply pbA | apply pbN | apply pb1 | refine pbS ?_ GE120.out) | exact HB.out)⟩⟩
    · rw [if_neg c6] at H
      have c6b0 : (t122 == 0) = false := beq_eq_false_iff_ne.mpr c6
      have c6b1 : (t122 != 0) = true := bne_iff_ne.mpr c6
      (first | rw [c6b0] | (simp only [i64_w, i32_w]; rw [c6b0]) | skip)
      have H' := Az.mk H
      clear H
      go_wp2
      go_meet
      case rel => exact ⟨_, (true), (by first | rfl | (simp; done) | (simp [*]; done)), H', ⟨by first | omega | exact Nat.le_refl _⟩, ⟨by (with_reducible repeat (first | apply Kd.R_alloc | apply Kd.R_drewN | apply Kd.R_drew)); exact HO124.out⟩, ⟨by (with_reducible repeat (first | refine bkN ?_ _ | refine bkD ?_ | refine bkA ?_ _)); exact BK120.out⟩, ⟨by repeat (first | (with_reducible first | exact HB.out | apply pbA | apply pbN | apply pb1 | refine pbS ?_ GE120.out) | exact HB.out)⟩⟩
  case rest =>
    clear HC3
    try clear c1
    try clear p2
    try clear c3
    try clear c6
    try clear c6b0
    try clear c6b1
    try clear c7
    try clear c7b0
    try clear c7b1
    obtain ⟨kq, x25_2, rfl, HA, HJ2, HO_4, BK120, HB⟩ := hcut
    cases kq with
    | zero => exact absurd HA.out (by simp [roll_Parse.j0])
    | succ kj2 =>
      have H := HA.out
      clear HA
      simp only [roll_Parse.j0] at H
      by_cases c10 : x25_2 = true
      · subst c10
        have H1 : (some (0, 0, ([] : List (S54)), 110)) = some (r1, r2, r3, r4) := by rw [if_pos rfl] at H; exact H
        clear H
        have H := H1
        clear H1
        simp only [Option.some.injEq, Prod.mk.injEq] at H
        obtain ⟨rfl, rfl, rfl, rfl⟩ := H
        have hcz11_0 : wc.cell? ⟨gb120, 0, none⟩ = some (.int .i64 0) := (bkC BK120.out 0).trans rfl
        have hcz11_1 : wc.cell? ⟨gb120, 1, none⟩ = some (.int .i64 0) := (bkC BK120.out 1).trans rfl
        have hcz11_2 : wc.cell? ⟨gb120, 2, none⟩ = some (.slice none 0 0) := (bkC BK120.out 2).trans rfl
        have hfz11_0 := bkF BK120.out 0
        have hfz11_1 := bkF BK120.out 1
        have hfz11_2 := bkF BK120.out 2
        go_wp2
        refine bodyPost_ret (results_ct rfl _ _ gb120 24 #[.int .i64 0, .int .i64 0, .slice none 0 0] (0, 0) _ rfl (by (with_reducible repeat (first | refine bkN ?_ _ | refine bkD ?_ | refine bkA ?_ _)); refine blk_put (cs := #[.int .i64 0, .int .i64 0, .slice none 0 0]) ?_ 2 _ rfl; (with_reducible repeat (first | refine bkN ?_ _ | refine bkD ?_ | refine bkA ?_ _)); refine blk_put (cs := #[.int .i64 0, .int .i64 0, .slice none 0 0]) ?_ 1 _ rfl; (with_reducible repeat (first | refine bkN ?_ _ | refine bkD ?_ | refine bkA ?_ _)); refine blk_put (cs := #[.int .i64 0, .int .i64 0, .slice none 0 0]) ?_ 0 _ rfl; (with_reducible repeat (first | refine bkN ?_ _ | refine bkD ?_ | refine bkA ?_ _)); exact BK120.out) Tryd.underlying24 rfl (by kernel_rfl)) rfl ?_
        exact ⟨_, by first | rfl | (simp [errW_none, errW_some] <;> rfl) | (simp [*, errW_none, errW_some] <;> rfl), by first | exact Kd.R_nil _ _ _ _ _ | exact Kd.N_nil _ _ _ _ _ | exact Kd.V_nil _ _ _ _ _ | exact Kd.Q_nil _ _ _ _ _ | exact Kd.S_nil _ _ _ _ _, by repeat (first | (with_reducible first | exact HB.out | apply pbA | apply pbN | apply pb1 | refine pbS ?_ GE120.out) | exact HB.out)⟩
      · replace c10 := Bool.eq_false_iff.mpr c10
        subst c10
        have H1 : (roll_Parse.l0 kj2 t121 0 0 0 ([] : List (S54))) = some (r1, r2, r3, r4) := by rw [if_neg (show ¬ (false = true) by decide)] at H; exact H
        clear H
        have H := H1
        clear H1
        have H' := Az.mk H
        clear H
        go_wp2
        go_loopg [5] kj2 (fun kq v5 w' => ∃ (x5_2 : Int) (x121000_2 : Int) (x121001_2 : Int) (x121002_2 : List (S54)) (u121002 : Value), v5 = .int .i64 x5_2 ∧ Az (roll_Parse.l0 kq t121 x5_2 x121000_2 x121001_2 x121002_2 = some (r1, r2, r3, r4)) ∧ Az (kq ≤ kj2) ∧ Az (Kd.R Kd.string 9 w' w.heap.size (fun _ => True) v123 t121) ∧ Az (Kd.R k54 54 w' w.heap.size (fun _ => True) u121002 x121002_2) ∧ Az (w'.heap[gb120]? = some (.cells #[.int .i64 x121000_2, .int .i64 x121001_2, u121002] 24 (0, 0))) ∧ Az (Below w.heap.size w w'))
        case atStart => exact ⟨(0), (0), (0), (([] : List (S54))), (.slice none 0 0), (by first | rfl | (simp; done) | (simp [*]; done)), H', ⟨Nat.le_refl _⟩, ⟨by (with_reducible repeat (first | apply Kd.R_alloc | apply Kd.R_drewN | apply Kd.R_drew)); exact HO_4.out⟩, ⟨by first | exact Kd.R_nil _ _ _ _ _ | exact Kd.N_nil _ _ _ _ _ | exact Kd.V_nil _ _ _ _ _ | exact Kd.Q_nil _ _ _ _ _ | exact Kd.S_nil _ _ _ _ _⟩, ⟨by (with_reducible repeat (first | refine bkN ?_ _ | refine bkD ?_ | refine bkA ?_ _)); exact BK120.out⟩, ⟨by repeat (first | (with_reducible first | exact HB.out | apply pbA | apply pbN | apply pb1 | refine pbS ?_ GE120.out) | exact HB.out)⟩⟩
        case round =>
          clear H'
          try clear c1
          try clear p2
          try clear c3
          try clear c6
          try clear c6b0
          try clear c6b1
          try clear c7
          try clear c7b0
          try clear c7b1
          try clear c10
          try clear hcz11_0
          try clear hcz11_1
          try clear hcz11_2
          try clear hfz11_0
          try clear hfz11_1
          try clear hfz11_2
          try clear p2
          obtain ⟨x5_2, x121000_2, x121001_2, x121002_2, u121002, rfl, HA, HK2, HO_4, HO_121002, BK120, HB⟩ := hrel
          cases gk with
          | zero => exact absurd HA.out (by simp [roll_Parse.l0])
          | succ k2 =>
            have H := HA.out
            clear HA
            simp only [roll_Parse.l0] at H
            by_cases c12 : x5_2 < (t121.length : Int)
            · rw [if_pos c12] at H
              have c12b0 : decide (x5_2 < (t121.length : Int)) = true := decide_eq_true c12
              clear c12
              by_cases c13 : 0 ≤ x5_2
              · rw [if_pos c13] at H
                have c13b0 : decide (0 ≤ x5_2) = true := decide_eq_true c13
                clear c13
                replace H := Option.bind_eq_some_iff.mp H
                obtain ⟨⟨t127, t128⟩, A140, H⟩ := H
                replace H : (if t128 = 0 then (if x5_2 > 0 then (if 0 ≤ (wrap64 (x5_2 + 1)) then (if (wrap64 (x5_2 + 1)) < (t121.length : Int) then (if x121002_2.length < 5864062014805 then (roll_Parse.l0 k2 t121 (wrap64 (x5_2 + 2)) x121000_2 x121001_2 (x121002_2 ++ [(⟨t127, rdOf ByteArray.empty t121 (wrap64 (x5_2 + 1))⟩ : S54)])) else (none)) else (none)) else (none)) else (if 1 < (t121.length : Int) then ((knot_Int.f (rdOf ByteArray.empty t121 1)).bind fun bt134 => (if bt134.2 = 0 then (roll_Parse.l0 k2 t121 (wrap64 (x5_2 + 2)) t127 bt134.1 x121002_2) else (some (0, 0, ([] : List (S54)), 110)))) else (none))) else (some (0, 0, ([] : List (S54)), 110))) = some (r1, r2, r3, r4) := H
                have A14 := Az.mk A140
                clear A140
                by_cases c15 : t128 = 0
                · rw [if_pos c15] at H
                  have c15b0 : (t128 == 0) = true := beq_iff_eq.mpr c15
                  have c15b1 : (t128 != 0) = false := bne_eq_false_iff_eq.mpr c15
                  clear c15
                  by_cases c16 : x5_2 > 0
                  · rw [if_pos c16] at H
                    have c16b0 : decide (0 < x5_2) = true := decide_eq_true c16
                    clear c16
                    obtain ⟨ji17, hji17⟩ : ∃ j_ : Int, (wrap64 (x5_2 + 1)) = j_ := ⟨_, rfl⟩
                    replace H : (if 0 ≤ (ji17) then (if (ji17) < (t121.length : Int) then (if x121002_2.length < 5864062014805 then (roll_Parse.l0 k2 t121 (wrap64 (x5_2 + 2)) x121000_2 x121001_2 (x121002_2 ++ [(⟨t127, rdOf ByteArray.empty t121 (ji17)⟩ : S54)])) else (none)) else (none)) else (none)) = some (r1, r2, r3, r4) := by first | (rw [hji17] at H; exact H) | (simp only [hji17] at H ⊢; exact H)
                    (try rw [hji17] at A14)
                    have hji17w : (IntKind.i64.wrap (x5_2 + 1)) = ji17 := (i64_w _).trans hji17
                    by_cases c18 : 0 ≤ (ji17)
                    · rw [if_pos c18] at H
                      have c18b0 : decide (0 ≤ (ji17)) = true := decide_eq_true c18
                      clear c18
                      by_cases c19 : (ji17) < (t121.length : Int)
                      · rw [if_pos c19] at H
                        have c19b0 : decide ((ji17) < (t121.length : Int)) = true := decide_eq_true c19
                        clear c19
                        by_cases c20 : x121002_2.length < 5864062014805
                        · rw [if_pos c20] at H
                          have LMc20 := Az.mk c20
                          clear c20
                          obtain ⟨y130, hy130⟩ : ∃ y_ : List (S54), y_ = (x121002_2 ++ [(⟨t127, rdOf ByteArray.empty t121 (ji17)⟩ : S54)]) := ⟨_, rfl⟩
                          replace H : (roll_Parse.l0 k2 t121 (wrap64 (x5_2 + 2)) x121000_2 x121001_2 y130) = some (r1, r2, r3, r4) := by first | (rw [hy130]; with_reducible exact H) | (have H2_ := (Option.bind_some _ _).symm.trans H; rw [hy130]; with_reducible exact H2_) | (have H2_ := (Option.bind_some _ _).symm.trans H; with_reducible exact H2_) | with_reducible exact H | (rw [hy130]; exact H) | exact H
                          have Ny130 := Az.mk hy130
                          clear hy130
                          have H' := Az.mk H
                          clear H
                          obtain ⟨Ao21, co21, eo21⟩ := Kd.R_slice HO_4.out
                          subst eo21
                          have p126 : 0 ≤ (x5_2 : Int) := of_decide_eq_true (by first | (with_reducible assumption) | assumption)
                          have q126 : x5_2 < (t121.length : Int) := of_decide_eq_true (by first | (with_reducible assumption) | assumption)
                          obtain ⟨ad126, e126, hx126_0⟩ := Kd.at_string (Kd.R_reads' HO_4.out).2.2 x5_2 p126 q126
                          cases e126
                          replace p126 := eq_true p126
                          replace q126 := eq_true q126
                          try go_wp2_with (first | ((with_reducible refine gtc (f := 36) rfl ?_); refine goesL_ (some 38) rfl rfl Tryd.func36 (by kernel_rfl) rfl #[.string (rdOf ByteArray.empty t121 x5_2)] rfl (by (try simp only [List.map_toArray, List.map_cons, List.map_nil]); first | done | rfl | (simp only [List.length_drop, List.length_take]; rfl)) ?_; (with_reducible refine (knot_Int.calls (rdOf ByteArray.empty t121 x5_2) t127 t128 _ ?side1 A14.out).mono ?_); (case side1 => exact hG.below (by repeat (first | (with_reducible first | exact HB.out | apply pbA | apply pbN | apply pb1 | refine pbS ?_ GE120.out) | exact HB.out))); rintro e w22 ⟨rfl, hb⟩; refine ⟨_, rfl, ?_⟩; have n0_ := Az.mk (Kd.R_below (by (with_reducible repeat (first | apply Kd.R_alloc | apply Kd.R_drewN | apply Kd.R_drew)); exact HO_4.out) hb); have n1_ := Az.mk (Kd.R_below (by (with_reducible repeat (first | apply Kd.R_alloc | apply Kd.R_drewN | apply Kd.R_drew)); exact HO_121002.out) hb); have n2_ := Az.mk (bkB (g := gb120) (o := .cells #[.int .i64 x121000_2, .int .i64 x121001_2, u121002] 24 (0, 0)) (by (with_reducible repeat (first | refine bkN ?_ _ | refine bkD ?_ | refine bkA ?_ _)); exact BK120.out) hb); have n3_ := Az.mk (pbT (by repeat (first | (with_reducible first | exact HB.out | apply pbA | apply pbN | apply pb1 | refine pbS ?_ GE120.out) | exact HB.out)) hb); clear HO_4; clear HO_121002; clear BK120; clear HB; have HO_4 := n0_; have HO_121002 := n1_; have BK120 := n2_; have HB := n3_; clear n0_ n1_ n2_ n3_; (try clear hb); (try clear hb2); (try clear hk); (try clear hi)))
                          have n0_ := Az.mk (Kd.R_drew HO_4.out)
                          have n1_ := Az.mk (Kd.R_drew HO_121002.out)
                          have n2_ := Az.mk (bkD BK120.out)
                          have n3_ := Az.mk (pb1 HB.out)
                          clear HO_4
                          clear HO_121002
                          clear BK120
                          clear HB
                          have HO_4 := n0_
                          have HO_121002 := n1_
                          have BK120 := n2_
                          have HB := n3_
                          clear n0_ n1_ n2_ n3_
                          have p129 : 0 ≤ ((ji17) : Int) := of_decide_eq_true (by first | (with_reducible assumption) | assumption)
                          have q129 : (ji17) < (t121.length : Int) := of_decide_eq_true (by first | (with_reducible assumption) | assumption)
                          obtain ⟨ad129, e129, hx129_0⟩ := Kd.at_string (Kd.R_reads' HO_4.out).2.2 (ji17) p129 q129
                          obtain rfl : ad126 = ad129 := (by injection e129)
                          replace p129 := eq_true p129
                          replace q129 := eq_true q129
                          refine start_ (n := 13) (S := fun w' => w'.cell? ⟨gb120, 0, none⟩ = some (.int .i64 x121000_2) ∧ w'.cell? ⟨gb120, 1, none⟩ = some (.int .i64 x121001_2) ∧ w'.cell? ⟨gb120, 2, none⟩ = some (u121002) ∧ w'.cell? (ad126.add ((ji17)).toNat) = some (.string (rdOf ByteArray.empty t121 (ji17)))) (ds := [10, 12]) #[false, false, false, false, false, false, false, false, false, false, false, false, false] (by kernel_rfl) rfl rfl ⟨(bkC BK120.out 0).trans rfl, (bkC BK120.out 1).trans rfl, (bkC BK120.out 2).trans rfl, hx129_0⟩ (fun hHeld => ?_); refine with_tabW roll_Parse.tab11 roll_Parse.bits11 (fun HT_ HW_ => ?_)
                          generalize w22.drew = w23 at HO_4 HO_121002 BK120 HB hx129_0 hHeld ⊢
                          refine pure_ (i := 0) (N := some 46) (v := ?_) (a' := ?_) #[true, false, false, false, false, false, false, false, false, false, false, false, false] rfl rfl (any_of HT_.out (by kernel_rfl)) (fun _ _ _ h => h) (Or.inl ⟨by rfl, ?_⟩) ?_ ?_
                          rotate_left
                          · intro w'
                            go_simp
                            with_reducible rfl
                          rotate_left
                          · simp only [Act.put, List.setIfInBounds_toArray, List.set_cons_zero, List.set_cons_succ, i64_w, i32_w]
                            rfl
                          refine pure_ (i := 2) (N := some 48) (v := ?_) (a' := ?_) #[true, false, true, false, false, false, false, false, false, false, false, false, false] rfl rfl (any_of HT_.out (by kernel_rfl)) (fun _ _ _ h => h) (Or.inl ⟨by rfl, ?_⟩) ?_ ?_
                          rotate_left
                          · intro w'
                            go_simp
                            with_reducible rfl
                          rotate_left
                          · simp only [Act.put, List.setIfInBounds_toArray, List.set_cons_zero, List.set_cons_succ, i64_w, i32_w]
                            rfl
                          refine pure_ (i := 3) (N := some 49) (v := ?_) (a' := ?_) #[true, false, true, true, false, false, false, false, false, false, false, false, false] rfl rfl (any_of HT_.out (by kernel_rfl)) (fun _ _ _ h => h) (Or.inl ⟨by rfl, ?_⟩) ?_ ?_
                          rotate_left
                          · intro w'
                            go_simp
                            with_reducible rfl
                          rotate_left
                          · simp only [Act.put, List.setIfInBounds_toArray, List.set_cons_zero, List.set_cons_succ, i64_w, i32_w]
                            rfl
                          refine pure_ (i := 4) (N := some 50) (v := ?_) (a' := ?_) #[true, false, true, true, true, false, false, false, false, false, false, false, false] rfl rfl (any_of HT_.out (by kernel_rfl)) (fun _ _ _ h => h) (Or.inl ⟨by rfl, ?_⟩) ?_ ?_
                          rotate_left
                          · intro w'
                            go_simp
                            with_reducible rfl
                          rotate_left
                          · simp only [Act.put, List.setIfInBounds_toArray, List.set_cons_zero, List.set_cons_succ, i64_w, i32_w]
                            rfl
                          refine pure_ (i := 5) (N := some 51) (v := ?_) (a' := ?_) #[true, false, true, true, true, true, false, false, false, false, false, false, false] rfl rfl (any_of HT_.out (by kernel_rfl)) (fun _ _ _ h => h) (Or.inl ⟨by rfl, ?_⟩) ?_ ?_
                          rotate_left
                          · intro w'
                            go_simp
                            with_reducible rfl
                          rotate_left
                          · simp only [Act.put, List.setIfInBounds_toArray, List.set_cons_zero, List.set_cons_succ, i64_w, i32_w]
                            rfl
                          refine pure_ (i := 6) (N := some 52) (v := ?_) (a' := ?_) #[true, false, true, true, true, true, true, false, false, false, false, false, false] rfl rfl (any_of HT_.out (by kernel_rfl)) (fun _ _ _ h => h) (Or.inl ⟨by rfl, ?_⟩) ?_ ?_
                          rotate_left
                          · intro w'
                            go_simp
                            with_reducible rfl
                          rotate_left
                          · simp only [Act.put, List.setIfInBounds_toArray, List.set_cons_zero, List.set_cons_succ, i64_w, i32_w]
                            rfl
                          refine take_ (i := 1) (N := some 47) (v := ?_) (a' := ?_) #[true, true, true, true, true, true, true, false, false, false, false, false, false] rfl rfl (take_ofW HT_.out HW_.out (by kernel_rfl)) (fun _ _ _ h => h) (Or.inl ⟨by rfl, ?_⟩) hHeld ?_ ?_
                          rotate_left
                          · rintro w' ⟨s0, s1, s2, s3⟩
                            go_simp
                            with_reducible rfl
                          rotate_left
                          · simp only [Act.put, List.setIfInBounds_toArray, List.set_cons_zero, List.set_cons_succ, i64_w, i32_w]
                            rfl
                          refine take_ (i := 7) (N := some 53) (v := ?_) (a' := ?_) #[true, true, true, true, true, true, true, true, false, false, false, false, false] rfl rfl (take_ofW HT_.out HW_.out (by kernel_rfl)) (fun _ _ _ h => h) (Or.inl ⟨by rfl, ?_⟩) hHeld ?_ ?_
                          rotate_left
                          · rintro w' ⟨s0, s1, s2, s3⟩
                            go_simp
                            with_reducible rfl
                          rotate_left
                          · simp only [Act.put, List.setIfInBounds_toArray, List.set_cons_zero, List.set_cons_succ, i64_w, i32_w]
                            rfl
                          refine pure_ (i := 8) (N := some 54) (v := ?_) (a' := ?_) #[true, true, true, true, true, true, true, true, true, false, false, false, false] rfl rfl (any_of HT_.out (by kernel_rfl)) (fun _ _ _ h => h) (Or.inl ⟨by rfl, ?_⟩) ?_ ?_
                          rotate_left
                          · intro w'
                            go_simp
                            with_reducible rfl
                          rotate_left
                          · simp only [Act.put, List.setIfInBounds_toArray, List.set_cons_zero, List.set_cons_succ, i64_w, i32_w]
                            rfl
                          refine one_ (i := 9) (N := some 55) #[true, true, true, true, true, true, true, true, true, true, false, false, false] rfl rfl (one_of HT_.out (by kernel_rfl)) (by decide) (fun K hK => ?_)
                          refine value_ (w1 := ?_) (v := ?_) (by rfl) rfl ?_ ?_
                          rotate_left 2
                          · go_simp
                            constructor
                            · rfl
                            · rfl
                          refine hK.out _ _ ⟨(bkC (bkA BK120.out _) 0).trans rfl, (bkC (bkA BK120.out _) 1).trans rfl, (bkC (bkA BK120.out _) 2).trans rfl, (World.cell?_alloc_lt _ _ _ (World.block_lt_of_cell? _ _ (hHeld.2.2.2))).trans (hHeld.2.2.2)⟩ (fun hHeld => ?_)
                          clear hK K
                          refine norm_ (a' := ?_) ?_ ?_
                          rotate_left
                          · show Act.put _ (some 55) _ = _
                            simp only [Act.put, List.setIfInBounds_toArray, List.set_cons_zero, List.set_cons_succ, i64_w, i32_w]
                            rfl
                          refine last_ (i := 10) (N := some 56) #[true, true, true, true, true, true, true, true, true, true, true, false, false] rfl rfl (one_of HT_.out (by kernel_rfl)) (by decide) (fun K hK => ?_)
                          refine Kd.R_append_step k54 (w0 := w) w.heap.size (by rfl) (.tmp 47) (.tmp 55) 22 54 (.agg #[(.int .i64 0), (.string ⟨#[]⟩)]) 24 rfl Tryd.underlying22 info54 rfl (by decide) (by omega) u121002 x121002_2 (⟨t127, rdOf ByteArray.empty t121 (ji17)⟩ : S54) [.int .i64 t127, .string (rdOf ByteArray.empty t121 (ji17))] (fun _ => True) (fun _ => False) rfl rfl ?aP (fun _ hk => hk.elim) ?aF ?aO ?aB ?aS ?aL ?_
                          (case aP => exact k54_mkM _ _ _ (⟨t127, rdOf ByteArray.empty t121 (ji17)⟩ : S54))
                          (case aB => exact (by repeat (first | (with_reducible first | exact HB.out | apply pbA | apply pbN | apply pb1 | refine pbS ?_ GE120.out) | exact HB.out)))
                          (case aF => exact (fun _ _ => trivial))
                          (case aO => exact (by (with_reducible repeat (first | apply Kd.R_alloc | apply Kd.R_drewN | apply Kd.R_drew)); exact HO_121002.out))
                          (case aS => exact (pbZ (by repeat (first | (with_reducible first | exact HB.out | apply pbA | apply pbN | apply pb1 | refine pbS ?_ GE120.out) | exact HB.out))))
                          (case aL => have := LMc20.out; omega)
                          intro v131 w24 ho hb hg hat
                          rw [← Ny130.out] at ho
                          have n0_ := Az.mk (Kd.R_over' (by (with_reducible repeat (first | apply Kd.R_alloc | apply Kd.R_drewN | apply Kd.R_drew)); exact HO_4.out) (Kd.R_typed (by (with_reducible repeat (first | apply Kd.R_alloc | apply Kd.R_drewN | apply Kd.R_drew)); exact HO_121002.out)) (by decide) hg)
                          have n1_ := Az.mk (blk_grown (g := gb120) (o := .cells #[.int .i64 x121000_2, .int .i64 x121001_2, u121002] 24 (0, 0)) (by (with_reducible repeat (first | refine bkN ?_ _ | refine bkD ?_ | refine bkA ?_ _)); exact BK120.out) hg (Kd.R_ne HO_121002.out BK120.out (by decide)))
                          have n2_ := Az.mk (hb)
                          have n3_ := Az.mk (ho)
                          clear HO_4
                          clear BK120
                          clear HB
                          clear HO_121002
                          have HO_4 := n0_
                          have BK120 := n1_
                          have HB := n2_
                          have HO132 := n3_
                          clear n0_ n1_ n2_ n3_
                          clear ho hb hg hat
                          obtain ⟨Ao25, co25, eo25⟩ := Kd.R_slice HO132.out
                          (first | subst eo25 | (injection eo25 with f1_ f2_ f3_; have f4_ := f1_.symm; have f5_ := f3_.symm; clear f1_ f2_ f3_; subst f4_; subst f5_))
                          refine hK.out _ _ ?_
                          clear hK K
                          refine norm_ (a' := ?_) ?_ ?_
                          rotate_left
                          · show Act.put _ (some 56) _ = _
                            simp only [Act.put, List.setIfInBounds_toArray, List.set_cons_zero, List.set_cons_succ, i64_w, i32_w]
                            rfl
                          refine pure_ (i := 11) (N := some 57) (v := ?_) (a' := ?_) #[true, true, true, true, true, true, true, true, true, true, true, true, false] rfl rfl (any_of HT_.out (by kernel_rfl)) (fun _ _ _ h => h) (Or.inl ⟨by rfl, ?_⟩) ?_ ?_
                          rotate_left
                          · intro w'
                            go_simp
                            with_reducible rfl
                          rotate_left
                          · simp only [Act.put, List.setIfInBounds_toArray, List.set_cons_zero, List.set_cons_succ, i64_w, i32_w]
                            rfl
                          refine last_ (i := 12) (N := none) #[true, true, true, true, true, true, true, true, true, true, true, true, true] rfl rfl (one_of HT_.out (by kernel_rfl)) (by decide) (fun K hK => ?_)
                          have hs26 : w24.cell? ⟨gb120, 2, none⟩ = some (u121002) := (bkC BK120.out 2).trans rfl
                          have hfs26 := bkF BK120.out 2
                          refine skip_ (w1 := ?_) (by rfl) rfl ?_ ?_
                          rotate_left
                          · go_simp
                            rfl
                          refine hK.out _ _ ?_
                          clear hK K
                          refine done_ (done_of HT_.out (by kernel_rfl)) ?_
                          try go_wp2
                          go_roundg k2
                          case measure => have := HJ2.out; have := HK2.out; omega
                          case rel => exact ⟨(wrap64 (x5_2 + 2)), (x121000_2), (x121001_2), (y130), (.slice Ao25 y130.length co25), (by first | rfl | (simp; done) | (simp [*]; done)), H', ⟨by have := HJ2.out; have := HK2.out; omega⟩, ⟨by (with_reducible repeat (first | apply Kd.R_alloc | apply Kd.R_drewN | apply Kd.R_drew)); exact Kd.R_mono (Kd.R_far (p := ⟨gb120, 2, none⟩) (Kd.R_types HO_4.out BK120.out (by decide)) (fun _ hk => hk.2) (.slice Ao25 y130.length co25)) (fun _ hk => trivial)⟩, ⟨by (with_reducible repeat (first | apply Kd.R_alloc | apply Kd.R_drewN | apply Kd.R_drew)); exact Kd.R_mono (Kd.R_far (p := ⟨gb120, 2, none⟩) (Kd.R_types HO132.out BK120.out (by decide)) (fun _ hk => hk.2) (.slice Ao25 y130.length co25)) (fun _ hk => trivial)⟩, ⟨by (with_reducible repeat (first | refine bkN ?_ _ | refine bkD ?_ | refine bkA ?_ _)); refine blk_put (cs := #[.int .i64 x121000_2, .int .i64 x121001_2, u121002]) ?_ 2 _ rfl; (with_reducible repeat (first | refine bkN ?_ _ | refine bkD ?_ | refine bkA ?_ _)); exact BK120.out⟩, ⟨by repeat (first | (with_reducible first | exact HB.out | apply pbA | apply pbN | apply pb1 | refine pbS ?_ GE120.out) | exact HB.out)⟩⟩
                        · rw [if_neg c20] at H
                          exact absurd H (by simp)
                      · rw [if_neg c19] at H
                        exact absurd H (by simp)
                    · rw [if_neg c18] at H
                      exact absurd H (by simp)
                  · rw [if_neg c16] at H
                    have c16b0 : decide (0 < x5_2) = false := decide_eq_false c16
                    clear c16
                    by_cases c27 : 1 < (t121.length : Int)
                    · rw [if_pos c27] at H
                      have c27b0 : decide (1 < (t121.length : Int)) = true := decide_eq_true c27
                      have c27b1 : decide (1 < t121.length) = true := decide_eq_true (by omega)
                      clear c27
                      replace H := Option.bind_eq_some_iff.mp H
                      obtain ⟨⟨t134, t135⟩, A280, H⟩ := H
                      replace H : (if t135 = 0 then (roll_Parse.l0 k2 t121 (wrap64 (x5_2 + 2)) t127 t134 x121002_2) else (some (0, 0, ([] : List (S54)), 110))) = some (r1, r2, r3, r4) := H
                      have A28 := Az.mk A280
                      clear A280
                      by_cases c29 : t135 = 0
                      · rw [if_pos c29] at H
                        have c29b0 : (t135 == 0) = true := beq_iff_eq.mpr c29
                        have c29b1 : (t135 != 0) = false := bne_eq_false_iff_eq.mpr c29
                        clear c29
                        have H' := Az.mk H
                        clear H
                        obtain ⟨Ao30, co30, eo30⟩ := Kd.R_slice HO_4.out
                        subst eo30
                        have p126 : 0 ≤ (x5_2 : Int) := of_decide_eq_true (by first | (with_reducible assumption) | assumption)
                        have q126 : x5_2 < (t121.length : Int) := of_decide_eq_true (by first | (with_reducible assumption) | assumption)
                        obtain ⟨ad126, e126, hx126_0⟩ := Kd.at_string (Kd.R_reads' HO_4.out).2.2 x5_2 p126 q126
                        cases e126
                        replace p126 := eq_true p126
                        replace q126 := eq_true q126
                        go_wp2_with (first | ((with_reducible refine gtc (f := 36) rfl ?_); refine goesL_ (some 38) rfl rfl Tryd.func36 (by kernel_rfl) rfl #[.string (rdOf ByteArray.empty t121 x5_2)] rfl (by (try simp only [List.map_toArray, List.map_cons, List.map_nil]); first | done | rfl | (simp only [List.length_drop, List.length_take]; rfl)) ?_; (with_reducible refine (knot_Int.calls (rdOf ByteArray.empty t121 x5_2) t127 t128 _ ?side1 A14.out).mono ?_); (case side1 => exact hG.below (by repeat (first | (with_reducible first | exact HB.out | apply pbA | apply pbN | apply pb1 | refine pbS ?_ GE120.out) | exact HB.out))); rintro e w31 ⟨rfl, hb⟩; refine ⟨_, rfl, ?_⟩; have n0_ := Az.mk (Kd.R_below (by (with_reducible repeat (first | apply Kd.R_alloc | apply Kd.R_drewN | apply Kd.R_drew)); exact HO_4.out) hb); have n1_ := Az.mk (Kd.R_below (by (with_reducible repeat (first | apply Kd.R_alloc | apply Kd.R_drewN | apply Kd.R_drew)); exact HO_121002.out) hb); have n2_ := Az.mk (bkB (g := gb120) (o := .cells #[.int .i64 x121000_2, .int .i64 x121001_2, u121002] 24 (0, 0)) (by (with_reducible repeat (first | refine bkN ?_ _ | refine bkD ?_ | refine bkA ?_ _)); exact BK120.out) hb); have n3_ := Az.mk (pbT (by repeat (first | (with_reducible first | exact HB.out | apply pbA | apply pbN | apply pb1 | refine pbS ?_ GE120.out) | exact HB.out)) hb); clear HO_4; clear HO_121002; clear BK120; clear HB; have HO_4 := n0_; have HO_121002 := n1_; have BK120 := n2_; have HB := n3_; clear n0_ n1_ n2_ n3_; (try clear hb); (try clear hb2); (try clear hk); (try clear hi); have hcz32_0 : w31.cell? ⟨gb120, 0, none⟩ = some (.int .i64 x121000_2) := (bkC BK120.out 0).trans rfl; have hcz32_1 : w31.cell? ⟨gb120, 1, none⟩ = some (.int .i64 x121001_2) := (bkC BK120.out 1).trans rfl; have hcz32_2 : w31.cell? ⟨gb120, 2, none⟩ = some (u121002) := (bkC BK120.out 2).trans rfl; have hfz32_0 := bkF BK120.out 0; have hfz32_1 := bkF BK120.out 1; have hfz32_2 := bkF BK120.out 2; have p133 : 0 ≤ (1 : Int) := (by omega); have q133 : 1 < (t121.length : Int) := of_decide_eq_true (by first | (with_reducible assumption) | assumption); obtain ⟨ad133, e133, hx133_0⟩ := Kd.at_string (Kd.R_reads' HO_4.out).2.2 1 p133 q133; obtain rfl : ad126 = ad133 := (by injection e133); (try simp only [show (1 : Int).toNat = 1 from rfl, Nat.reduceMul, Nat.reduceEqDiff, Go.Addr.add, ↓reduceIte] at hx133_0); have qi133 : (1 < t121.length) = True := eq_true (by omega); (try rw [show ((1 : Int)).toNat = 1 from rfl] at hx133_0); have hn133_0 : ad126.block ≠ gb120 := Kd.own_blk (Kd.R_ne HO_4.out BK120.out (by decide)); replace hx133_0 := (cell_far (p := ⟨gb120, 0, none⟩) (by first | (rw [add_block]; exact hn133_0) | (show (Addr.add _ _).block ≠ _; rw [add_block]; exact hn133_0) | exact hn133_0) (.int .i64 t127)).trans hx133_0; clear hn133_0; replace p133 := eq_true p133; replace q133 := eq_true q133) | ((with_reducible refine gtc (f := 36) rfl ?_); refine goesL_ (some 64) rfl rfl Tryd.func36 (by kernel_rfl) rfl #[.string (rdOf ByteArray.empty t121 1)] rfl (by (try simp only [List.map_toArray, List.map_cons, List.map_nil]); first | done | rfl | (simp only [List.length_drop, List.length_take]; rfl)) ?_; (with_reducible refine (knot_Int.calls (rdOf ByteArray.empty t121 1) t134 t135 _ ?side1 A28.out).mono ?_); (case side1 => exact hG.below (by repeat (first | (with_reducible first | exact HB.out | apply pbA | apply pbN | apply pb1 | refine pbS ?_ GE120.out) | exact HB.out))); rintro e w33 ⟨rfl, hb⟩; refine ⟨_, rfl, ?_⟩; have n0_ := Az.mk (Kd.R_below (by (with_reducible repeat (first | apply Kd.R_alloc | apply Kd.R_drewN | apply Kd.R_drew)); exact (Kd.R_mono (Kd.R_far (p := ⟨gb120, 0, none⟩) (Kd.R_types HO_4.out BK120.out (by decide)) (fun _ hk => hk.2) (.int .i64 t127)) (fun _ h_ => h_.1))) hb); have n1_ := Az.mk (Kd.R_below (by (with_reducible repeat (first | apply Kd.R_alloc | apply Kd.R_drewN | apply Kd.R_drew)); exact (Kd.R_mono (Kd.R_far (p := ⟨gb120, 0, none⟩) (Kd.R_types HO_121002.out BK120.out (by decide)) (fun _ hk => hk.2) (.int .i64 t127)) (fun _ h_ => h_.1))) hb); have n2_ := Az.mk (bkB (g := gb120) (o := .cells #[.int .i64 t127, .int .i64 x121001_2, u121002] 24 (0, 0)) (by (with_reducible repeat (first | refine bkN ?_ _ | refine bkD ?_ | refine bkA ?_ _)); refine blk_put (cs := #[.int .i64 x121000_2, .int .i64 x121001_2, u121002]) ?_ 0 _ rfl; (with_reducible repeat (first | refine bkN ?_ _ | refine bkD ?_ | refine bkA ?_ _)); exact BK120.out) hb); have n3_ := Az.mk (pbT (by repeat (first | (with_reducible first | exact HB.out | apply pbA | apply pbN | apply pb1 | refine pbS ?_ GE120.out) | exact HB.out)) hb); clear HO_4; clear HO_121002; clear BK120; clear HB; have HO_4 := n0_; have HO_121002 := n1_; have BK120 := n2_; have HB := n3_; clear n0_ n1_ n2_ n3_; (try clear hb); (try clear hb2); (try clear hk); (try clear hi); have hcz34_0 : w33.cell? ⟨gb120, 0, none⟩ = some (.int .i64 t127) := (bkC BK120.out 0).trans rfl; have hcz34_1 : w33.cell? ⟨gb120, 1, none⟩ = some (.int .i64 x121001_2) := (bkC BK120.out 1).trans rfl; have hcz34_2 : w33.cell? ⟨gb120, 2, none⟩ = some (u121002) := (bkC BK120.out 2).trans rfl; have hfz34_0 := bkF BK120.out 0; have hfz34_1 := bkF BK120.out 1; have hfz34_2 := bkF BK120.out 2))
                        go_roundg k2
                        case measure => have := HJ2.out; have := HK2.out; omega
                        case rel => exact ⟨(wrap64 (x5_2 + 2)), (t127), (t134), (x121002_2), (u121002), (by first | rfl | (simp; done) | (simp [*]; done)), H', ⟨by have := HJ2.out; have := HK2.out; omega⟩, ⟨by (with_reducible repeat (first | apply Kd.R_alloc | apply Kd.R_drewN | apply Kd.R_drew)); exact Kd.R_mono (Kd.R_far (p := ⟨gb120, 1, none⟩) (Kd.R_types HO_4.out BK120.out (by decide)) (fun _ hk => hk.2) (.int .i64 t134)) (fun _ hk => trivial)⟩, ⟨by (with_reducible repeat (first | apply Kd.R_alloc | apply Kd.R_drewN | apply Kd.R_drew)); exact Kd.R_mono (Kd.R_far (p := ⟨gb120, 1, none⟩) (Kd.R_types HO_121002.out BK120.out (by decide)) (fun _ hk => hk.2) (.int .i64 t134)) (fun _ hk => trivial)⟩, ⟨by (with_reducible repeat (first | refine bkN ?_ _ | refine bkD ?_ | refine bkA ?_ _)); refine blk_put (cs := #[.int .i64 t127, .int .i64 x121001_2, u121002]) ?_ 1 _ rfl; (with_reducible repeat (first | refine bkN ?_ _ | refine bkD ?_ | refine bkA ?_ _)); exact BK120.out⟩, ⟨by repeat (first | (with_reducible first | exact HB.out | apply pbA | apply pbN | apply pb1 | refine pbS ?_ GE120.out) | exact HB.out)⟩⟩
                      · rw [if_neg c29] at H
                        have c29b0 : (t135 == 0) = false := beq_eq_false_iff_ne.mpr c29
                        have c29b1 : (t135 != 0) = true := bne_iff_ne.mpr c29
                        simp only [Option.some.injEq, Prod.mk.injEq] at H
                        obtain ⟨rfl, rfl, rfl, rfl⟩ := H
                        obtain ⟨Ao35, co35, eo35⟩ := Kd.R_slice HO_4.out
                        subst eo35
                        have p126 : 0 ≤ (x5_2 : Int) := of_decide_eq_true (by first | (with_reducible assumption) | assumption)
                        have q126 : x5_2 < (t121.length : Int) := of_decide_eq_true (by first | (with_reducible assumption) | assumption)
                        obtain ⟨ad126, e126, hx126_0⟩ := Kd.at_string (Kd.R_reads' HO_4.out).2.2 x5_2 p126 q126
                        cases e126
                        replace p126 := eq_true p126
                        replace q126 := eq_true q126
                        go_wp2_with (first | ((with_reducible refine gtc (f := 36) rfl ?_); refine goesL_ (some 38) rfl rfl Tryd.func36 (by kernel_rfl) rfl #[.string (rdOf ByteArray.empty t121 x5_2)] rfl (by (try simp only [List.map_toArray, List.map_cons, List.map_nil]); first | done | rfl | (simp only [List.length_drop, List.length_take]; rfl)) ?_; (with_reducible refine (knot_Int.calls (rdOf ByteArray.empty t121 x5_2) t127 t128 _ ?side1 A14.out).mono ?_); (case side1 => exact hG.below (by repeat (first | (with_reducible first | exact HB.out | apply pbA | apply pbN | apply pb1 | refine pbS ?_ GE120.out) | exact HB.out))); rintro e w36 ⟨rfl, hb⟩; refine ⟨_, rfl, ?_⟩; have n0_ := Az.mk (Kd.R_below (by (with_reducible repeat (first | apply Kd.R_alloc | apply Kd.R_drewN | apply Kd.R_drew)); exact HO_4.out) hb); have n1_ := Az.mk (Kd.R_below (by (with_reducible repeat (first | apply Kd.R_alloc | apply Kd.R_drewN | apply Kd.R_drew)); exact HO_121002.out) hb); have n2_ := Az.mk (bkB (g := gb120) (o := .cells #[.int .i64 x121000_2, .int .i64 x121001_2, u121002] 24 (0, 0)) (by (with_reducible repeat (first | refine bkN ?_ _ | refine bkD ?_ | refine bkA ?_ _)); exact BK120.out) hb); have n3_ := Az.mk (pbT (by repeat (first | (with_reducible first | exact HB.out | apply pbA | apply pbN | apply pb1 | refine pbS ?_ GE120.out) | exact HB.out)) hb); clear HO_4; clear HO_121002; clear BK120; clear HB; have HO_4 := n0_; have HO_121002 := n1_; have BK120 := n2_; have HB := n3_; clear n0_ n1_ n2_ n3_; (try clear hb); (try clear hb2); (try clear hk); (try clear hi); have hcz37_0 : w36.cell? ⟨gb120, 0, none⟩ = some (.int .i64 x121000_2) := (bkC BK120.out 0).trans rfl; have hcz37_1 : w36.cell? ⟨gb120, 1, none⟩ = some (.int .i64 x121001_2) := (bkC BK120.out 1).trans rfl; have hcz37_2 : w36.cell? ⟨gb120, 2, none⟩ = some (u121002) := (bkC BK120.out 2).trans rfl; have hfz37_0 := bkF BK120.out 0; have hfz37_1 := bkF BK120.out 1; have hfz37_2 := bkF BK120.out 2; have p133 : 0 ≤ (1 : Int) := (by omega); have q133 : 1 < (t121.length : Int) := of_decide_eq_true (by first | (with_reducible assumption) | assumption); obtain ⟨ad133, e133, hx133_0⟩ := Kd.at_string (Kd.R_reads' HO_4.out).2.2 1 p133 q133; obtain rfl : ad126 = ad133 := (by injection e133); (try simp only [show (1 : Int).toNat = 1 from rfl, Nat.reduceMul, Nat.reduceEqDiff, Go.Addr.add, ↓reduceIte] at hx133_0); have qi133 : (1 < t121.length) = True := eq_true (by omega); (try rw [show ((1 : Int)).toNat = 1 from rfl] at hx133_0); have hn133_0 : ad126.block ≠ gb120 := Kd.own_blk (Kd.R_ne HO_4.out BK120.out (by decide)); replace hx133_0 := (cell_far (p := ⟨gb120, 0, none⟩) (by first | (rw [add_block]; exact hn133_0) | (show (Addr.add _ _).block ≠ _; rw [add_block]; exact hn133_0) | exact hn133_0) (.int .i64 t127)).trans hx133_0; clear hn133_0; replace p133 := eq_true p133; replace q133 := eq_true q133) | ((with_reducible refine gtc (f := 36) rfl ?_); refine goesL_ (some 64) rfl rfl Tryd.func36 (by kernel_rfl) rfl #[.string (rdOf ByteArray.empty t121 1)] rfl (by (try simp only [List.map_toArray, List.map_cons, List.map_nil]); first | done | rfl | (simp only [List.length_drop, List.length_take]; rfl)) ?_; (with_reducible refine (knot_Int.calls (rdOf ByteArray.empty t121 1) t134 t135 _ ?side1 A28.out).mono ?_); (case side1 => exact hG.below (by repeat (first | (with_reducible first | exact HB.out | apply pbA | apply pbN | apply pb1 | refine pbS ?_ GE120.out) | exact HB.out))); rintro e w38 ⟨rfl, hb⟩; refine ⟨_, rfl, ?_⟩; have n0_ := Az.mk (Kd.R_below (by (with_reducible repeat (first | apply Kd.R_alloc | apply Kd.R_drewN | apply Kd.R_drew)); exact (Kd.R_mono (Kd.R_far (p := ⟨gb120, 0, none⟩) (Kd.R_types HO_4.out BK120.out (by decide)) (fun _ hk => hk.2) (.int .i64 t127)) (fun _ h_ => h_.1))) hb); have n1_ := Az.mk (Kd.R_below (by (with_reducible repeat (first | apply Kd.R_alloc | apply Kd.R_drewN | apply Kd.R_drew)); exact (Kd.R_mono (Kd.R_far (p := ⟨gb120, 0, none⟩) (Kd.R_types HO_121002.out BK120.out (by decide)) (fun _ hk => hk.2) (.int .i64 t127)) (fun _ h_ => h_.1))) hb); have n2_ := Az.mk (bkB (g := gb120) (o := .cells #[.int .i64 t127, .int .i64 x121001_2, u121002] 24 (0, 0)) (by (with_reducible repeat (first | refine bkN ?_ _ | refine bkD ?_ | refine bkA ?_ _)); refine blk_put (cs := #[.int .i64 x121000_2, .int .i64 x121001_2, u121002]) ?_ 0 _ rfl; (with_reducible repeat (first | refine bkN ?_ _ | refine bkD ?_ | refine bkA ?_ _)); exact BK120.out) hb); have n3_ := Az.mk (pbT (by repeat (first | (with_reducible first | exact HB.out | apply pbA | apply pbN | apply pb1 | refine pbS ?_ GE120.out) | exact HB.out)) hb); clear HO_4; clear HO_121002; clear BK120; clear HB; have HO_4 := n0_; have HO_121002 := n1_; have BK120 := n2_; have HB := n3_; clear n0_ n1_ n2_ n3_; (try clear hb); (try clear hb2); (try clear hk); (try clear hi); have hcz39_0 : w38.cell? ⟨gb120, 0, none⟩ = some (.int .i64 t127) := (bkC BK120.out 0).trans rfl; have hcz39_1 : w38.cell? ⟨gb120, 1, none⟩ = some (.int .i64 x121001_2) := (bkC BK120.out 1).trans rfl; have hcz39_2 : w38.cell? ⟨gb120, 2, none⟩ = some (u121002) := (bkC BK120.out 2).trans rfl; have hfz39_0 := bkF BK120.out 0; have hfz39_1 := bkF BK120.out 1; have hfz39_2 := bkF BK120.out 2))
                        refine bodyPost_ret (results_ct rfl _ _ gb120 24 #[.int .i64 0, .int .i64 0, .slice none 0 0] (0, 0) _ rfl (by (with_reducible repeat (first | refine bkN ?_ _ | refine bkD ?_ | refine bkA ?_ _)); refine blk_put (cs := #[.int .i64 0, .int .i64 0, u121002]) ?_ 2 _ rfl; (with_reducible repeat (first | refine bkN ?_ _ | refine bkD ?_ | refine bkA ?_ _)); refine blk_put (cs := #[.int .i64 0, .int .i64 t134, u121002]) ?_ 1 _ rfl; (with_reducible repeat (first | refine bkN ?_ _ | refine bkD ?_ | refine bkA ?_ _)); refine blk_put (cs := #[.int .i64 t127, .int .i64 t134, u121002]) ?_ 0 _ rfl; (with_reducible repeat (first | refine bkN ?_ _ | refine bkD ?_ | refine bkA ?_ _)); refine blk_put (cs := #[.int .i64 t127, .int .i64 x121001_2, u121002]) ?_ 1 _ rfl; (with_reducible repeat (first | refine bkN ?_ _ | refine bkD ?_ | refine bkA ?_ _)); exact BK120.out) Tryd.underlying24 rfl (by kernel_rfl)) rfl ?_
                        exact ⟨_, by first | rfl | (simp [errW_none, errW_some] <;> rfl) | (simp [*, errW_none, errW_some] <;> rfl), by first | exact Kd.R_nil _ _ _ _ _ | exact Kd.N_nil _ _ _ _ _ | exact Kd.V_nil _ _ _ _ _ | exact Kd.Q_nil _ _ _ _ _ | exact Kd.S_nil _ _ _ _ _, by repeat (first | (with_reducible first | exact HB.out | apply pbA | apply pbN | apply pb1 | refine pbS ?_ GE120.out) | exact HB.out)⟩
                    · rw [if_neg c27] at H
                      exact absurd H (by simp)
                · rw [if_neg c15] at H
                  have c15b0 : (t128 == 0) = false := beq_eq_false_iff_ne.mpr c15
                  have c15b1 : (t128 != 0) = true := bne_iff_ne.mpr c15
                  simp only [Option.some.injEq, Prod.mk.injEq] at H
                  obtain ⟨rfl, rfl, rfl, rfl⟩ := H
                  obtain ⟨Ao40, co40, eo40⟩ := Kd.R_slice HO_4.out
                  subst eo40
                  have p126 : 0 ≤ (x5_2 : Int) := of_decide_eq_true (by first | (with_reducible assumption) | assumption)
                  have q126 : x5_2 < (t121.length : Int) := of_decide_eq_true (by first | (with_reducible assumption) | assumption)
                  obtain ⟨ad126, e126, hx126_0⟩ := Kd.at_string (Kd.R_reads' HO_4.out).2.2 x5_2 p126 q126
                  cases e126
                  replace p126 := eq_true p126
                  replace q126 := eq_true q126
                  go_wp2_with (first | ((with_reducible refine gtc (f := 36) rfl ?_); refine goesL_ (some 38) rfl rfl Tryd.func36 (by kernel_rfl) rfl #[.string (rdOf ByteArray.empty t121 x5_2)] rfl (by (try simp only [List.map_toArray, List.map_cons, List.map_nil]); first | done | rfl | (simp only [List.length_drop, List.length_take]; rfl)) ?_; (with_reducible refine (knot_Int.calls (rdOf ByteArray.empty t121 x5_2) t127 t128 _ ?side1 A14.out).mono ?_); (case side1 => exact hG.below (by repeat (first | (with_reducible first | exact HB.out | apply pbA | apply pbN | apply pb1 | refine pbS ?_ GE120.out) | exact HB.out))); rintro e w41 ⟨rfl, hb⟩; refine ⟨_, rfl, ?_⟩; have n0_ := Az.mk (Kd.R_below (by (with_reducible repeat (first | apply Kd.R_alloc | apply Kd.R_drewN | apply Kd.R_drew)); exact HO_4.out) hb); have n1_ := Az.mk (Kd.R_below (by (with_reducible repeat (first | apply Kd.R_alloc | apply Kd.R_drewN | apply Kd.R_drew)); exact HO_121002.out) hb); have n2_ := Az.mk (bkB (g := gb120) (o := .cells #[.int .i64 x121000_2, .int .i64 x121001_2, u121002] 24 (0, 0)) (by (with_reducible repeat (first | refine bkN ?_ _ | refine bkD ?_ | refine bkA ?_ _)); exact BK120.out) hb); have n3_ := Az.mk (pbT (by repeat (first | (with_reducible first | exact HB.out | apply pbA | apply pbN | apply pb1 | refine pbS ?_ GE120.out) | exact HB.out)) hb); clear HO_4; clear HO_121002; clear BK120; clear HB; have HO_4 := n0_; have HO_121002 := n1_; have BK120 := n2_; have HB := n3_; clear n0_ n1_ n2_ n3_; (try clear hb); (try clear hb2); (try clear hk); (try clear hi); have hcz42_0 : w41.cell? ⟨gb120, 0, none⟩ = some (.int .i64 x121000_2) := (bkC BK120.out 0).trans rfl; have hcz42_1 : w41.cell? ⟨gb120, 1, none⟩ = some (.int .i64 x121001_2) := (bkC BK120.out 1).trans rfl; have hcz42_2 : w41.cell? ⟨gb120, 2, none⟩ = some (u121002) := (bkC BK120.out 2).trans rfl; have hfz42_0 := bkF BK120.out 0; have hfz42_1 := bkF BK120.out 1; have hfz42_2 := bkF BK120.out 2))
                  refine bodyPost_ret (results_ct rfl _ _ gb120 24 #[.int .i64 0, .int .i64 0, .slice none 0 0] (0, 0) _ rfl (by (with_reducible repeat (first | refine bkN ?_ _ | refine bkD ?_ | refine bkA ?_ _)); refine blk_put (cs := #[.int .i64 0, .int .i64 0, u121002]) ?_ 2 _ rfl; (with_reducible repeat (first | refine bkN ?_ _ | refine bkD ?_ | refine bkA ?_ _)); refine blk_put (cs := #[.int .i64 0, .int .i64 x121001_2, u121002]) ?_ 1 _ rfl; (with_reducible repeat (first | refine bkN ?_ _ | refine bkD ?_ | refine bkA ?_ _)); refine blk_put (cs := #[.int .i64 x121000_2, .int .i64 x121001_2, u121002]) ?_ 0 _ rfl; (with_reducible repeat (first | refine bkN ?_ _ | refine bkD ?_ | refine bkA ?_ _)); exact BK120.out) Tryd.underlying24 rfl (by kernel_rfl)) rfl ?_
                  exact ⟨_, by first | rfl | (simp [errW_none, errW_some] <;> rfl) | (simp [*, errW_none, errW_some] <;> rfl), by first | exact Kd.R_nil _ _ _ _ _ | exact Kd.N_nil _ _ _ _ _ | exact Kd.V_nil _ _ _ _ _ | exact Kd.Q_nil _ _ _ _ _ | exact Kd.S_nil _ _ _ _ _, by repeat (first | (with_reducible first | exact HB.out | apply pbA | apply pbN | apply pb1 | refine pbS ?_ GE120.out) | exact HB.out)⟩
              · rw [if_neg c13] at H
                exact absurd H (by simp)
            · rw [if_neg c12] at H
              have c12b0 : decide (x5_2 < (t121.length : Int)) = false := decide_eq_false c12
              clear c12
              replace H := Option.bind_eq_some_iff.mp H
              obtain ⟨t125, A430, H⟩ := H
              replace H : (if t125 = 0 then (some (x121000_2, x121001_2, x121002_2, 0)) else (some (0, 0, ([] : List (S54)), 110))) = some (r1, r2, r3, r4) := H
              have A43 := Az.mk A430
              clear A430
              by_cases c44 : t125 = 0
              · rw [if_pos c44] at H
                have c44b0 : (t125 == 0) = true := beq_iff_eq.mpr c44
                have c44b1 : (t125 != 0) = false := bne_eq_false_iff_eq.mpr c44
                clear c44
                simp only [Option.some.injEq, Prod.mk.injEq] at H
                obtain ⟨rfl, rfl, rfl, rfl⟩ := H
                obtain ⟨Ao45, co45, eo45⟩ := Kd.R_slice HO_4.out
                subst eo45
                have hcz46_0 : wr.cell? ⟨gb120, 0, none⟩ = some (.int .i64 x121000_2) := (bkC BK120.out 0).trans rfl
                have hcz46_1 : wr.cell? ⟨gb120, 1, none⟩ = some (.int .i64 x121001_2) := (bkC BK120.out 1).trans rfl
                have hcz46_2 : wr.cell? ⟨gb120, 2, none⟩ = some (u121002) := (bkC BK120.out 2).trans rfl
                have hfz46_0 := bkF BK120.out 0
                have hfz46_1 := bkF BK120.out 1
                have hfz46_2 := bkF BK120.out 2
                obtain ⟨Ao47, co47, eo47⟩ := Kd.R_slice HO_121002.out
                subst eo47
                go_wp2_with (first | ((with_reducible refine gtc (f := 13) rfl ?_); refine goesL_ (some 72) rfl rfl Tryd.func13 (by kernel_rfl) rfl #[.agg #[.int .i64 x121000_2, .int .i64 x121001_2, .slice Ao47 x121002_2.length co47]] rfl (by (try simp only [List.map_toArray, List.map_cons, List.map_nil]); first | done | rfl | (simp only [List.length_drop, List.length_take]; rfl)) ?_; (with_reducible refine (roll_Check.calls k2 x121000_2 x121001_2 _ _ x121002_2 t125 _ ?side1 ?side2 ?side3 A43.out).mono ?_); (case side1 => exact hG.below (by repeat (first | (with_reducible first | exact HB.out | apply pbA | apply pbN | apply pb1 | refine pbS ?_ GE120.out) | exact HB.out))); (case side2 => repeat (first | exact (Kd.R_reads' HO_121002.out).2.2 | (with_reducible refine Kd.C_alloc ?_ _) | (with_reducible refine Kd.C_drewN ?_ _) | (with_reducible refine Kd.C_drew ?_))); (case side3 => exact (Kd.R_reads' HO_121002.out).2.1); rintro e w48 ⟨rfl, hb⟩; refine ⟨_, rfl, ?_⟩; have n0_ := Az.mk (Kd.R_below (by (with_reducible repeat (first | apply Kd.R_alloc | apply Kd.R_drewN | apply Kd.R_drew)); exact HO_4.out) hb); have n1_ := Az.mk (Kd.R_below (by (with_reducible repeat (first | apply Kd.R_alloc | apply Kd.R_drewN | apply Kd.R_drew)); exact HO_121002.out) hb); have n2_ := Az.mk (bkB (g := gb120) (o := .cells #[.int .i64 x121000_2, .int .i64 x121001_2, .slice Ao47 x121002_2.length co47] 24 (0, 0)) (by (with_reducible repeat (first | refine bkN ?_ _ | refine bkD ?_ | refine bkA ?_ _)); exact BK120.out) hb); have n3_ := Az.mk (pbT (by repeat (first | (with_reducible first | exact HB.out | apply pbA | apply pbN | apply pb1 | refine pbS ?_ GE120.out) | exact HB.out)) hb); clear HO_4; clear HO_121002; clear BK120; clear HB; have HO_4 := n0_; have HO_121002 := n1_; have BK120 := n2_; have HB := n3_; clear n0_ n1_ n2_ n3_; (try clear hb); (try clear hb2); (try clear hk); (try clear hi); have hcz49_0 : w48.cell? ⟨gb120, 0, none⟩ = some (.int .i64 x121000_2) := (bkC BK120.out 0).trans rfl; have hcz49_1 : w48.cell? ⟨gb120, 1, none⟩ = some (.int .i64 x121001_2) := (bkC BK120.out 1).trans rfl; have hcz49_2 : w48.cell? ⟨gb120, 2, none⟩ = some (.slice Ao47 x121002_2.length co47) := (bkC BK120.out 2).trans rfl; have hfz49_0 := bkF BK120.out 0; have hfz49_1 := bkF BK120.out 1; have hfz49_2 := bkF BK120.out 2))
                refine bodyPost_ret (results_ct rfl _ _ gb120 24 #[.int .i64 x121000_2, .int .i64 x121001_2, .slice Ao47 x121002_2.length co47] (0, 0) _ rfl (by (with_reducible repeat (first | refine bkN ?_ _ | refine bkD ?_ | refine bkA ?_ _)); refine blk_put (cs := #[.int .i64 x121000_2, .int .i64 x121001_2, .slice Ao47 x121002_2.length co47]) ?_ 2 _ rfl; (with_reducible repeat (first | refine bkN ?_ _ | refine bkD ?_ | refine bkA ?_ _)); refine blk_put (cs := #[.int .i64 x121000_2, .int .i64 x121001_2, .slice Ao47 x121002_2.length co47]) ?_ 1 _ rfl; (with_reducible repeat (first | refine bkN ?_ _ | refine bkD ?_ | refine bkA ?_ _)); refine blk_put (cs := #[.int .i64 x121000_2, .int .i64 x121001_2, .slice Ao47 x121002_2.length co47]) ?_ 0 _ rfl; (with_reducible repeat (first | refine bkN ?_ _ | refine bkD ?_ | refine bkA ?_ _)); exact BK120.out) Tryd.underlying24 rfl (by kernel_rfl)) rfl ?_
                exact ⟨_, by first | rfl | (simp [errW_none, errW_some] <;> rfl) | (simp [*, errW_none, errW_some] <;> rfl), by (with_reducible repeat (first | apply Kd.R_alloc | apply Kd.R_drewN | apply Kd.R_drew)); exact Kd.R_mono (Kd.R_far (p := ⟨gb120, 2, none⟩) (Kd.R_far (p := ⟨gb120, 1, none⟩) (Kd.R_far (p := ⟨gb120, 0, none⟩) (Kd.R_types HO_121002.out BK120.out (by decide)) (fun _ hk => hk.2) (.int .i64 x121000_2)) (fun _ hk => hk.2) (.int .i64 x121001_2)) (fun _ hk => hk.2) (.slice Ao47 x121002_2.length co47)) (fun _ hk => trivial), by repeat (first | (with_reducible first | exact HB.out | apply pbA | apply pbN | apply pb1 | refine pbS ?_ GE120.out) | exact HB.out)⟩
              · rw [if_neg c44] at H
                have c44b0 : (t125 == 0) = false := beq_eq_false_iff_ne.mpr c44
                have c44b1 : (t125 != 0) = true := bne_iff_ne.mpr c44
                simp only [Option.some.injEq, Prod.mk.injEq] at H
                obtain ⟨rfl, rfl, rfl, rfl⟩ := H
                obtain ⟨Ao50, co50, eo50⟩ := Kd.R_slice HO_4.out
                subst eo50
                have hcz51_0 : wr.cell? ⟨gb120, 0, none⟩ = some (.int .i64 x121000_2) := (bkC BK120.out 0).trans rfl
                have hcz51_1 : wr.cell? ⟨gb120, 1, none⟩ = some (.int .i64 x121001_2) := (bkC BK120.out 1).trans rfl
                have hcz51_2 : wr.cell? ⟨gb120, 2, none⟩ = some (u121002) := (bkC BK120.out 2).trans rfl
                have hfz51_0 := bkF BK120.out 0
                have hfz51_1 := bkF BK120.out 1
                have hfz51_2 := bkF BK120.out 2
                obtain ⟨Ao52, co52, eo52⟩ := Kd.R_slice HO_121002.out
                subst eo52
                go_wp2_with (first | ((with_reducible refine gtc (f := 13) rfl ?_); refine goesL_ (some 72) rfl rfl Tryd.func13 (by kernel_rfl) rfl #[.agg #[.int .i64 x121000_2, .int .i64 x121001_2, .slice Ao52 x121002_2.length co52]] rfl (by (try simp only [List.map_toArray, List.map_cons, List.map_nil]); first | done | rfl | (simp only [List.length_drop, List.length_take]; rfl)) ?_; (with_reducible refine (roll_Check.calls k2 x121000_2 x121001_2 _ _ x121002_2 t125 _ ?side1 ?side2 ?side3 A43.out).mono ?_); (case side1 => exact hG.below (by repeat (first | (with_reducible first | exact HB.out | apply pbA | apply pbN | apply pb1 | refine pbS ?_ GE120.out) | exact HB.out))); (case side2 => repeat (first | exact (Kd.R_reads' HO_121002.out).2.2 | (with_reducible refine Kd.C_alloc ?_ _) | (with_reducible refine Kd.C_drewN ?_ _) | (with_reducible refine Kd.C_drew ?_))); (case side3 => exact (Kd.R_reads' HO_121002.out).2.1); rintro e w53 ⟨rfl, hb⟩; refine ⟨_, rfl, ?_⟩; have n0_ := Az.mk (Kd.R_below (by (with_reducible repeat (first | apply Kd.R_alloc | apply Kd.R_drewN | apply Kd.R_drew)); exact HO_4.out) hb); have n1_ := Az.mk (Kd.R_below (by (with_reducible repeat (first | apply Kd.R_alloc | apply Kd.R_drewN | apply Kd.R_drew)); exact HO_121002.out) hb); have n2_ := Az.mk (bkB (g := gb120) (o := .cells #[.int .i64 x121000_2, .int .i64 x121001_2, .slice Ao52 x121002_2.length co52] 24 (0, 0)) (by (with_reducible repeat (first | refine bkN ?_ _ | refine bkD ?_ | refine bkA ?_ _)); exact BK120.out) hb); have n3_ := Az.mk (pbT (by repeat (first | (with_reducible first | exact HB.out | apply pbA | apply pbN | apply pb1 | refine pbS ?_ GE120.out) | exact HB.out)) hb); clear HO_4; clear HO_121002; clear BK120; clear HB; have HO_4 := n0_; have HO_121002 := n1_; have BK120 := n2_; have HB := n3_; clear n0_ n1_ n2_ n3_; (try clear hb); (try clear hb2); (try clear hk); (try clear hi); have hcz54_0 : w53.cell? ⟨gb120, 0, none⟩ = some (.int .i64 x121000_2) := (bkC BK120.out 0).trans rfl; have hcz54_1 : w53.cell? ⟨gb120, 1, none⟩ = some (.int .i64 x121001_2) := (bkC BK120.out 1).trans rfl; have hcz54_2 : w53.cell? ⟨gb120, 2, none⟩ = some (.slice Ao52 x121002_2.length co52) := (bkC BK120.out 2).trans rfl; have hfz54_0 := bkF BK120.out 0; have hfz54_1 := bkF BK120.out 1; have hfz54_2 := bkF BK120.out 2))
                refine bodyPost_ret (results_ct rfl _ _ gb120 24 #[.int .i64 0, .int .i64 0, .slice none 0 0] (0, 0) _ rfl (by (with_reducible repeat (first | refine bkN ?_ _ | refine bkD ?_ | refine bkA ?_ _)); refine blk_put (cs := #[.int .i64 0, .int .i64 0, .slice Ao52 x121002_2.length co52]) ?_ 2 _ rfl; (with_reducible repeat (first | refine bkN ?_ _ | refine bkD ?_ | refine bkA ?_ _)); refine blk_put (cs := #[.int .i64 0, .int .i64 x121001_2, .slice Ao52 x121002_2.length co52]) ?_ 1 _ rfl; (with_reducible repeat (first | refine bkN ?_ _ | refine bkD ?_ | refine bkA ?_ _)); refine blk_put (cs := #[.int .i64 x121000_2, .int .i64 x121001_2, .slice Ao52 x121002_2.length co52]) ?_ 0 _ rfl; (with_reducible repeat (first | refine bkN ?_ _ | refine bkD ?_ | refine bkA ?_ _)); exact BK120.out) Tryd.underlying24 rfl (by kernel_rfl)) rfl ?_
                exact ⟨_, by first | rfl | (simp [errW_none, errW_some] <;> rfl) | (simp [*, errW_none, errW_some] <;> rfl), by first | exact Kd.R_nil _ _ _ _ _ | exact Kd.N_nil _ _ _ _ _ | exact Kd.V_nil _ _ _ _ _ | exact Kd.Q_nil _ _ _ _ _ | exact Kd.S_nil _ _ _ _ _, by repeat (first | (with_reducible first | exact HB.out | apply pbA | apply pbN | apply pb1 | refine pbS ?_ GE120.out) | exact HB.out)⟩
end Go.Proofs.YtjpihfjgomoijaaDoor.P
end
section
-- Written by a program of this session (wip/tools/pr.py), over the kit's printer; functions named in the texts imported below are given by hand.
namespace Go.Proofs.YtjpihfjgomoijaaDoor.P
open Go.RowKit Go.Proofs.YtjpihfjgomoijaaDoor.K Go.Proofs.YtjpihfjgomoijaaDoorW.PrintWords Go.Proofs.YtjpihfjgomoijaaDoorW.PrintLast Go.Proofs.YtjpihfjgomoijaaDoorW.PrintMore
attribute [local go_sem] max2_int min2_int max_two min_two max_three min_three max_four min_four   -- for this text's walks alone
/-! ### l11_num: function 12 -/
def l11_num.f (a0 : Int) : Option (Int) := some a0
set_option maxHeartbeats 8000000 in
set_option maxRecDepth 100000 in
theorem l11_num.calls (a0 : Int) (r : Int) (w : World) (hG : TheG w) (h : l11_num.f a0 = some r) :
    Calls Tryd.prog 12 #[.int .i64 a0] w fun e w' => e = .returned (.int .i64 r) ∧ Drawn0 w w' := by
  have H : (some a0) = some r := h
  clear h
  obtain rfl := Option.some.inj H
  go_enter Tryd.func12, Tryd.ntmps12
  go_wp2
  go_ret
  exact ⟨by first | rfl | (simp; done) | (simp [*]; done), by repeat (first | exact Drawn0.refl _ | apply Drawn0.step)⟩
end Go.Proofs.YtjpihfjgomoijaaDoor.P
end
section
-- Written by a program of this session (wip/tools/pr.py), over the kit's printer; functions named in the texts imported below are given by hand.
namespace Go.Proofs.YtjpihfjgomoijaaDoor.P
open Go.RowKit Go.Proofs.YtjpihfjgomoijaaDoor.K Go.Proofs.YtjpihfjgomoijaaDoorW.PrintWords Go.Proofs.YtjpihfjgomoijaaDoorW.PrintLast Go.Proofs.YtjpihfjgomoijaaDoorW.PrintMore
attribute [local go_sem] max2_int min2_int max_two min_two max_three min_three max_four min_four   -- for this text's walks alone
/-! ### l11_some: function 34 -/
def l11_some.f  : Option (Int × Int × (List (S54))) := some (4, 1, (([(⟨1, (⟨#[97]⟩ : ByteArray)⟩ : S54), (⟨1, (⟨#[98]⟩ : ByteArray)⟩ : S54), (⟨2, (⟨#[99]⟩ : ByteArray)⟩ : S54)] : List (S54))))
set_option maxHeartbeats 8000000 in
set_option maxRecDepth 100000 in
theorem l11_some.calls  (r1 : Int) (r2 : Int) (r3 : List (S54)) (w : World) (hG : TheG w) (h : l11_some.f  = some (r1, r2, r3)) :
    Calls Tryd.prog 34 #[] w fun e w' => ∃ v2_ : Value, e = .returned (.agg #[.int .i64 r1, .int .i64 r2, v2_]) ∧ Kd.R k54 54 w' w.heap.size (fun _ => True) v2_ r3 ∧ Below w.heap.size w w' := by
  have hu24 := Tryd.underlying24
  have hu54 := Tryd.underlying54
  have HB := Az.mk (Below.refl w.heap.size w)
  have H : (some (4, 1, (([(⟨1, (⟨#[97]⟩ : ByteArray)⟩ : S54), (⟨1, (⟨#[98]⟩ : ByteArray)⟩ : S54), (⟨2, (⟨#[99]⟩ : ByteArray)⟩ : S54)] : List (S54))))) = some (r1, r2, r3) := h
  clear h
  obtain ⟨y178, hy178⟩ : ∃ y_ : List (S54), y_ = (([(⟨1, (⟨#[97]⟩ : ByteArray)⟩ : S54), (⟨1, (⟨#[98]⟩ : ByteArray)⟩ : S54), (⟨2, (⟨#[99]⟩ : ByteArray)⟩ : S54)] : List (S54))) := ⟨_, rfl⟩
  replace H : (some (4, 1, y178)) = some (r1, r2, r3) := by first | (rw [hy178]; with_reducible exact H) | (have H2_ := (Option.bind_some _ _).symm.trans H; rw [hy178]; with_reducible exact H2_) | (have H2_ := (Option.bind_some _ _).symm.trans H; with_reducible exact H2_) | with_reducible exact H | (rw [hy178]; exact H) | exact H
  have Ny178 := Az.mk hy178
  clear hy178
  simp only [Option.some.injEq, Prod.mk.injEq] at H
  obtain ⟨rfl, rfl, rfl⟩ := H
  go_enter Tryd.func34, Tryd.ntmps34
  go_wp2_with (first | ((with_reducible refine gate_dst (N := 0) rfl ?_); refine box_event ?hg (N := 0) ?hd (cs := #[.int .i64 0, .int .i64 0, .slice none 0 0]) (t := 24) ?hr ?_; (case hd => rfl); (case hg => rfl); (case hr => first | (go_simp; done) | (go_simp; rfl)); intro gb177 hg w1 hbox hb; have n0_ := Az.mk (pbT (by repeat (first | (with_reducible first | exact HB.out | apply pbA | apply pbN | apply pb1) | exact HB.out)) hb); have n1_ := Az.mk (hbox); have n2_ := Az.mk ((by rw [hg]; exact (pbZ (by repeat (first | (with_reducible first | exact HB.out | apply pbA | apply pbN | apply pb1) | exact HB.out))) : w.heap.size ≤ gb177)); have n3_ := Az.mk ((by rw [hg]; exact (pbZ (by repeat (first | (with_reducible first | exact HB.out | apply pbA | apply pbN | apply pb1) | exact HB.out))) : w.heap.size ≤ gb177)); clear HB; have HB := n0_; have BK177 := n1_; have GW177 := n2_; have GE177 := n3_; clear n0_ n1_ n2_ n3_; clear hb hbox hg) | ((with_reducible refine gate_dst (N := 4) rfl ?_); refine Kd.R_lit k54 _ 54 ?hg (N := 4) ?hd (xs := ([(⟨1, (⟨#[97]⟩ : ByteArray)⟩ : S54), (⟨1, (⟨#[98]⟩ : ByteArray)⟩ : S54), (⟨2, (⟨#[99]⟩ : ByteArray)⟩ : S54)] : List (S54))) (inner := [.int .i64 1, .string (⟨#[97]⟩ : ByteArray), .int .i64 1, .string (⟨#[98]⟩ : ByteArray), .int .i64 2, .string (⟨#[99]⟩ : ByteArray)]) (ok := fun _ => True) (okp := fun _ => True) ?hr ?hp (fun _ hk => hk) trivial (Below.refl _ _) (Nat.le_refl _) (by simp) ?_; (case hd => rfl); (case hg => rfl); (case hr => first | (go_simp; done) | (go_simp; rfl)); (case hp => exact (Reps.c2 (show Kd.M k54 _ _ _ (⟨1, (⟨#[97]⟩ : ByteArray)⟩ : S54) [.int .i64 1, .string (⟨#[97]⟩ : ByteArray)] from (k54_mkM _ _ _ (⟨1, (⟨#[97]⟩ : ByteArray)⟩ : S54) )) (Reps.c2 (show Kd.M k54 _ _ _ (⟨1, (⟨#[98]⟩ : ByteArray)⟩ : S54) [.int .i64 1, .string (⟨#[98]⟩ : ByteArray)] from (k54_mkM _ _ _ (⟨1, (⟨#[98]⟩ : ByteArray)⟩ : S54) )) (Reps.c2 (show Kd.M k54 _ _ _ (⟨2, (⟨#[99]⟩ : ByteArray)⟩ : S54) [.int .i64 2, .string (⟨#[99]⟩ : ByteArray)] from (k54_mkM _ _ _ (⟨2, (⟨#[99]⟩ : ByteArray)⟩ : S54) )) (Reps.none _ _))))); intro v179 w2 ho3 hb hg_ hnew_; clear hg_ hnew_; (first | rw [← Ny178.out] at ho3 | (simp only [Int.reduceToNat] at ho3; rw [← Ny178.out] at ho3)); have n0_ := Az.mk (Kd.R_lower ho3 (pbZ (by repeat (first | (with_reducible first | exact HB.out | apply pbA | apply pbN | apply pb1 | refine pbS ?_ GE177.out) | exact HB.out)))); have n1_ := Az.mk (bkB (g := gb177) (o := .cells #[.int .i64 0, .int .i64 0, .slice none 0 0] 24 (0, 0)) (by (with_reducible repeat (first | refine bkN ?_ _ | refine bkD ?_ | refine bkA ?_ _)); exact BK177.out) hb); have n2_ := Az.mk (pbT (by repeat (first | (with_reducible first | exact HB.out | apply pbA | apply pbN | apply pb1 | refine pbS ?_ GE177.out) | exact HB.out)) hb); clear BK177; clear HB; have HO180 := n0_; have BK177 := n1_; have HB := n2_; clear n0_ n1_ n2_; clear hb ho3; obtain ⟨Ao4, co4, eo4⟩ := Kd.R_slice HO180.out; subst eo4; have hcz5_0 : w2.cell? ⟨gb177, 0, none⟩ = some (.int .i64 0) := (bkC BK177.out 0).trans rfl; have hcz5_1 : w2.cell? ⟨gb177, 1, none⟩ = some (.int .i64 0) := (bkC BK177.out 1).trans rfl; have hcz5_2 : w2.cell? ⟨gb177, 2, none⟩ = some (.slice none 0 0) := (bkC BK177.out 2).trans rfl; have hfz5_0 := bkF BK177.out 0; have hfz5_1 := bkF BK177.out 1; have hfz5_2 := bkF BK177.out 2))
  refine bodyPost_ret (results_cell_row rfl _ _ gb177 24 #[.int .i64 4, .int .i64 1, .slice Ao4 y178.length co4] (0, 0) _ rfl (by (with_reducible repeat (first | refine bkN ?_ _ | refine bkD ?_ | refine bkA ?_ _)); refine blk_put (cs := #[.int .i64 4, .int .i64 1, .slice none 0 0]) ?_ 2 _ rfl; (with_reducible repeat (first | refine bkN ?_ _ | refine bkD ?_ | refine bkA ?_ _)); refine blk_put (cs := #[.int .i64 4, .int .i64 0, .slice none 0 0]) ?_ 1 _ rfl; (with_reducible repeat (first | refine bkN ?_ _ | refine bkD ?_ | refine bkA ?_ _)); refine blk_put (cs := #[.int .i64 0, .int .i64 0, .slice none 0 0]) ?_ 0 _ rfl; (with_reducible repeat (first | refine bkN ?_ _ | refine bkD ?_ | refine bkA ?_ _)); exact BK177.out) Tryd.underlying24 rfl (by kernel_rfl)) rfl ?_
  exact ⟨_, by first | rfl | (simp [errW_none, errW_some] <;> rfl) | (simp [*, errW_none, errW_some] <;> rfl), by (with_reducible repeat (first | apply Kd.R_alloc | apply Kd.R_drewN | apply Kd.R_drew)); exact Kd.R_mono (Kd.R_far (p := ⟨gb177, 2, none⟩) (Kd.R_far (p := ⟨gb177, 1, none⟩) (Kd.R_far (p := ⟨gb177, 0, none⟩) (Kd.R_types HO180.out BK177.out (by decide)) (fun _ hk => hk.2) (.int .i64 4)) (fun _ hk => hk.2) (.int .i64 1)) (fun _ hk => hk.2) (.slice Ao4 y178.length co4)) (fun _ hk => trivial), by repeat (first | (with_reducible first | exact HB.out | apply pbA | apply pbN | apply pb1 | refine pbS ?_ GE177.out) | exact HB.out)⟩
end Go.Proofs.YtjpihfjgomoijaaDoor.P
end
section
-- Written by a program of this session (wip/tools/pr.py), over the kit's printer; functions named in the texts imported below are given by hand.
namespace Go.Proofs.YtjpihfjgomoijaaDoor.P
open Go.RowKit Go.Proofs.YtjpihfjgomoijaaDoor.K Go.Proofs.YtjpihfjgomoijaaDoorW.PrintWords Go.Proofs.YtjpihfjgomoijaaDoorW.PrintLast Go.Proofs.YtjpihfjgomoijaaDoorW.PrintMore
attribute [local go_sem] max2_int min2_int max_two min_two max_three min_three max_four min_four   -- for this text's walks alone
/-! ### l11_liveT: function 9 -/
def l11_liveT.f (k : Nat)  : Option (Bool) := (l11_some.f).bind fun bt181 => ((roll_Merge.f bt181.1 bt181.2.1 bt181.2.2 5 1 (([(⟨1, (⟨#[98]⟩ : ByteArray)⟩ : S54), (⟨3, (⟨#[100]⟩ : ByteArray)⟩ : S54)] : List (S54)))).bind fun bt189 => ((roll_Last.f k bt189.1 bt189.2.1 bt189.2.2.1).bind fun bt196 => ((l11_some.f).bind fun bt198 => ((roll_Merge.f bt198.1 bt198.2.1 bt198.2.2 7 1 ([] : List (S54))).bind fun bt203 => ((roll_Put.f k bt189.1 bt189.2.1 bt189.2.2.1).bind fun t210 => ((roll_Parse.f k t210).bind fun bt211 => ((roll_Compact.f k bt189.1 bt189.2.1 bt189.2.2.1 6).bind fun bt218 => (if bt189.2.2.2 = true then (if bt203.2.2.2 = true then (some false) else (if bt196.1 = 7 then (if bt196.2 = 3 then (if (bt189.2.2.1.length : Int) = 3 then ((l11_num.f bt211.2.2.2).bind fun t224 => (if t224 = 0 then ((r11_Same.f k bt211.1 bt211.2.1 bt211.2.2.1 bt189.1 bt189.2.1 bt189.2.2.1).bind fun t225 => (if t225 = true then (if bt218.1 = 6 then (if (bt218.2.2.length : Int) = 1 then ((roll_Newer.f k 3 7 bt189.1 bt189.2.1 bt189.2.2.1).bind fun t226 => (if t226 = true then ((roll_Newer.f k 2 9 bt189.1 bt189.2.1 bt189.2.2.1).bind fun t227 => (if t227 = true then (some false) else ((roll_Check.f k (-1) 0 ([] : List (S54))).bind fun t228 => ((l11_num.f t228).bind fun t229 => (some (t229 == 110)))))) else (some false))) else (some false)) else (some false)) else (some false))) else (some false))) else (some false)) else (some false)) else (some false))) else (some false)))))))))
theorem l11_liveT.mono : ∀ k, LeO (l11_liveT.f k ) (l11_liveT.f (k + 1) ) := by
  intro  k
  unfold l11_liveT.f
  repeat' first
      | (with_reducible exact r11_Same.mono _ _ _ _ _ _ _)
      | (with_reducible exact roll_Check.mono _ _ _ _)
      | (with_reducible exact roll_Compact.mono _ _ _ _ _)
      | (with_reducible exact roll_Last.mono _ _ _ _)
      | (with_reducible exact roll_Newer.mono _ _ _ _ _ _)
      | (with_reducible exact roll_Parse.mono _ _)
      | (with_reducible exact roll_Put.mono _ _ _ _)
      | (with_reducible exact LeO.refl _)
      | (with_reducible exact LeO.none _)
      | (with_reducible refine LeO.ite ?_ ?_)
      | (with_reducible refine LeO.bind ?_ (fun _ => ?_))
      | exact r11_Same.mono _ _ _ _ _ _ _
      | exact roll_Check.mono _ _ _ _
      | exact roll_Compact.mono _ _ _ _ _
      | exact roll_Last.mono _ _ _ _
      | exact roll_Newer.mono _ _ _ _ _ _
      | exact roll_Parse.mono _ _
      | exact roll_Put.mono _ _ _ _
      | exact LeO.none _
      | refine LeO.ite ?_ ?_
      | refine LeO.bind ?_ (fun _ => ?_)
set_option maxHeartbeats 8000000 in
set_option maxRecDepth 100000 in
theorem l11_liveT.calls (k : Nat)  (r : Bool) (w : World) (hG : TheG w) (hr : r = true) (h : l11_liveT.f k  = some r) :
    Calls Tryd.prog 9 #[] w fun e w' => e = .returned (.bool r) ∧ Below w.heap.size w w' := by
  have hu54 := Tryd.underlying54
  have hu24 := Tryd.underlying24
  have HB := Az.mk (Below.refl w.heap.size w)
  have H : ((l11_some.f).bind fun bt181 => ((roll_Merge.f bt181.1 bt181.2.1 bt181.2.2 5 1 (([(⟨1, (⟨#[98]⟩ : ByteArray)⟩ : S54), (⟨3, (⟨#[100]⟩ : ByteArray)⟩ : S54)] : List (S54)))).bind fun bt189 => ((roll_Last.f k bt189.1 bt189.2.1 bt189.2.2.1).bind fun bt196 => ((l11_some.f).bind fun bt198 => ((roll_Merge.f bt198.1 bt198.2.1 bt198.2.2 7 1 ([] : List (S54))).bind fun bt203 => ((roll_Put.f k bt189.1 bt189.2.1 bt189.2.2.1).bind fun t210 => ((roll_Parse.f k t210).bind fun bt211 => ((roll_Compact.f k bt189.1 bt189.2.1 bt189.2.2.1 6).bind fun bt218 => (if bt189.2.2.2 = true then (if bt203.2.2.2 = true then (some false) else (if bt196.1 = 7 then (if bt196.2 = 3 then (if (bt189.2.2.1.length : Int) = 3 then ((l11_num.f bt211.2.2.2).bind fun t224 => (if t224 = 0 then ((r11_Same.f k bt211.1 bt211.2.1 bt211.2.2.1 bt189.1 bt189.2.1 bt189.2.2.1).bind fun t225 => (if t225 = true then (if bt218.1 = 6 then (if (bt218.2.2.length : Int) = 1 then ((roll_Newer.f k 3 7 bt189.1 bt189.2.1 bt189.2.2.1).bind fun t226 => (if t226 = true then ((roll_Newer.f k 2 9 bt189.1 bt189.2.1 bt189.2.2.1).bind fun t227 => (if t227 = true then (some false) else ((roll_Check.f k (-1) 0 ([] : List (S54))).bind fun t228 => ((l11_num.f t228).bind fun t229 => (some (t229 == 110)))))) else (some false))) else (some false)) else (some false)) else (some false))) else (some false))) else (some false)) else (some false)) else (some false))) else (some false)))))))))) = some r := h
  clear h
  replace H := Option.bind_eq_some_iff.mp H
  obtain ⟨⟨t181, t182, t183⟩, A10, H⟩ := H
  replace H : ((roll_Merge.f t181 t182 t183 5 1 (([(⟨1, (⟨#[98]⟩ : ByteArray)⟩ : S54), (⟨3, (⟨#[100]⟩ : ByteArray)⟩ : S54)] : List (S54)))).bind fun bt189 => ((roll_Last.f k bt189.1 bt189.2.1 bt189.2.2.1).bind fun bt196 => ((l11_some.f).bind fun bt198 => ((roll_Merge.f bt198.1 bt198.2.1 bt198.2.2 7 1 ([] : List (S54))).bind fun bt203 => ((roll_Put.f k bt189.1 bt189.2.1 bt189.2.2.1).bind fun t210 => ((roll_Parse.f k t210).bind fun bt211 => ((roll_Compact.f k bt189.1 bt189.2.1 bt189.2.2.1 6).bind fun bt218 => (if bt189.2.2.2 = true then (if bt203.2.2.2 = true then (some false) else (if bt196.1 = 7 then (if bt196.2 = 3 then (if (bt189.2.2.1.length : Int) = 3 then ((l11_num.f bt211.2.2.2).bind fun t224 => (if t224 = 0 then ((r11_Same.f k bt211.1 bt211.2.1 bt211.2.2.1 bt189.1 bt189.2.1 bt189.2.2.1).bind fun t225 => (if t225 = true then (if bt218.1 = 6 then (if (bt218.2.2.length : Int) = 1 then ((roll_Newer.f k 3 7 bt189.1 bt189.2.1 bt189.2.2.1).bind fun t226 => (if t226 = true then ((roll_Newer.f k 2 9 bt189.1 bt189.2.1 bt189.2.2.1).bind fun t227 => (if t227 = true then (some false) else ((roll_Check.f k (-1) 0 ([] : List (S54))).bind fun t228 => ((l11_num.f t228).bind fun t229 => (some (t229 == 110)))))) else (some false))) else (some false)) else (some false)) else (some false))) else (some false))) else (some false)) else (some false)) else (some false))) else (some false))))))))) = some r := H
  have A1 := Az.mk A10
  clear A10
  obtain ⟨y186, hy186⟩ : ∃ y_ : List (S54), y_ = (([(⟨1, (⟨#[98]⟩ : ByteArray)⟩ : S54), (⟨3, (⟨#[100]⟩ : ByteArray)⟩ : S54)] : List (S54))) := ⟨_, rfl⟩
  replace H : ((roll_Merge.f t181 t182 t183 5 1 y186).bind fun bt189 => ((roll_Last.f k bt189.1 bt189.2.1 bt189.2.2.1).bind fun bt196 => ((l11_some.f).bind fun bt198 => ((roll_Merge.f bt198.1 bt198.2.1 bt198.2.2 7 1 ([] : List (S54))).bind fun bt203 => ((roll_Put.f k bt189.1 bt189.2.1 bt189.2.2.1).bind fun t210 => ((roll_Parse.f k t210).bind fun bt211 => ((roll_Compact.f k bt189.1 bt189.2.1 bt189.2.2.1 6).bind fun bt218 => (if bt189.2.2.2 = true then (if bt203.2.2.2 = true then (some false) else (if bt196.1 = 7 then (if bt196.2 = 3 then (if (bt189.2.2.1.length : Int) = 3 then ((l11_num.f bt211.2.2.2).bind fun t224 => (if t224 = 0 then ((r11_Same.f k bt211.1 bt211.2.1 bt211.2.2.1 bt189.1 bt189.2.1 bt189.2.2.1).bind fun t225 => (if t225 = true then (if bt218.1 = 6 then (if (bt218.2.2.length : Int) = 1 then ((roll_Newer.f k 3 7 bt189.1 bt189.2.1 bt189.2.2.1).bind fun t226 => (if t226 = true then ((roll_Newer.f k 2 9 bt189.1 bt189.2.1 bt189.2.2.1).bind fun t227 => (if t227 = true then (some false) else ((roll_Check.f k (-1) 0 ([] : List (S54))).bind fun t228 => ((l11_num.f t228).bind fun t229 => (some (t229 == 110)))))) else (some false))) else (some false)) else (some false)) else (some false))) else (some false))) else (some false)) else (some false)) else (some false))) else (some false))))))))) = some r := by first | (rw [hy186]; with_reducible exact H) | (have H2_ := (Option.bind_some _ _).symm.trans H; rw [hy186]; with_reducible exact H2_) | (have H2_ := (Option.bind_some _ _).symm.trans H; with_reducible exact H2_) | with_reducible exact H | (rw [hy186]; exact H) | exact H
  have Ny186 := Az.mk hy186
  clear hy186
  replace H := Option.bind_eq_some_iff.mp H
  obtain ⟨⟨t189, t190, t191, t194⟩, A20, H⟩ := H
  replace H : ((roll_Last.f k t189 t190 t191).bind fun bt196 => ((l11_some.f).bind fun bt198 => ((roll_Merge.f bt198.1 bt198.2.1 bt198.2.2 7 1 ([] : List (S54))).bind fun bt203 => ((roll_Put.f k t189 t190 t191).bind fun t210 => ((roll_Parse.f k t210).bind fun bt211 => ((roll_Compact.f k t189 t190 t191 6).bind fun bt218 => (if t194 = true then (if bt203.2.2.2 = true then (some false) else (if bt196.1 = 7 then (if bt196.2 = 3 then (if (t191.length : Int) = 3 then ((l11_num.f bt211.2.2.2).bind fun t224 => (if t224 = 0 then ((r11_Same.f k bt211.1 bt211.2.1 bt211.2.2.1 t189 t190 t191).bind fun t225 => (if t225 = true then (if bt218.1 = 6 then (if (bt218.2.2.length : Int) = 1 then ((roll_Newer.f k 3 7 t189 t190 t191).bind fun t226 => (if t226 = true then ((roll_Newer.f k 2 9 t189 t190 t191).bind fun t227 => (if t227 = true then (some false) else ((roll_Check.f k (-1) 0 ([] : List (S54))).bind fun t228 => ((l11_num.f t228).bind fun t229 => (some (t229 == 110)))))) else (some false))) else (some false)) else (some false)) else (some false))) else (some false))) else (some false)) else (some false)) else (some false))) else (some false)))))))) = some r := H
  have A2 := Az.mk A20
  clear A20
  replace H := Option.bind_eq_some_iff.mp H
  obtain ⟨⟨t196, t197⟩, A30, H⟩ := H
  replace H : ((l11_some.f).bind fun bt198 => ((roll_Merge.f bt198.1 bt198.2.1 bt198.2.2 7 1 ([] : List (S54))).bind fun bt203 => ((roll_Put.f k t189 t190 t191).bind fun t210 => ((roll_Parse.f k t210).bind fun bt211 => ((roll_Compact.f k t189 t190 t191 6).bind fun bt218 => (if t194 = true then (if bt203.2.2.2 = true then (some false) else (if t196 = 7 then (if t197 = 3 then (if (t191.length : Int) = 3 then ((l11_num.f bt211.2.2.2).bind fun t224 => (if t224 = 0 then ((r11_Same.f k bt211.1 bt211.2.1 bt211.2.2.1 t189 t190 t191).bind fun t225 => (if t225 = true then (if bt218.1 = 6 then (if (bt218.2.2.length : Int) = 1 then ((roll_Newer.f k 3 7 t189 t190 t191).bind fun t226 => (if t226 = true then ((roll_Newer.f k 2 9 t189 t190 t191).bind fun t227 => (if t227 = true then (some false) else ((roll_Check.f k (-1) 0 ([] : List (S54))).bind fun t228 => ((l11_num.f t228).bind fun t229 => (some (t229 == 110)))))) else (some false))) else (some false)) else (some false)) else (some false))) else (some false))) else (some false)) else (some false)) else (some false))) else (some false))))))) = some r := H
  have A3 := Az.mk A30
  clear A30
  replace H := Option.bind_eq_some_iff.mp H
  obtain ⟨⟨t198, t199, t200⟩, A40, H⟩ := H
  replace H : ((roll_Merge.f t198 t199 t200 7 1 ([] : List (S54))).bind fun bt203 => ((roll_Put.f k t189 t190 t191).bind fun t210 => ((roll_Parse.f k t210).bind fun bt211 => ((roll_Compact.f k t189 t190 t191 6).bind fun bt218 => (if t194 = true then (if bt203.2.2.2 = true then (some false) else (if t196 = 7 then (if t197 = 3 then (if (t191.length : Int) = 3 then ((l11_num.f bt211.2.2.2).bind fun t224 => (if t224 = 0 then ((r11_Same.f k bt211.1 bt211.2.1 bt211.2.2.1 t189 t190 t191).bind fun t225 => (if t225 = true then (if bt218.1 = 6 then (if (bt218.2.2.length : Int) = 1 then ((roll_Newer.f k 3 7 t189 t190 t191).bind fun t226 => (if t226 = true then ((roll_Newer.f k 2 9 t189 t190 t191).bind fun t227 => (if t227 = true then (some false) else ((roll_Check.f k (-1) 0 ([] : List (S54))).bind fun t228 => ((l11_num.f t228).bind fun t229 => (some (t229 == 110)))))) else (some false))) else (some false)) else (some false)) else (some false))) else (some false))) else (some false)) else (some false)) else (some false))) else (some false)))))) = some r := H
  have A4 := Az.mk A40
  clear A40
  replace H := Option.bind_eq_some_iff.mp H
  obtain ⟨⟨t203, t204, t205, t208⟩, A50, H⟩ := H
  replace H : ((roll_Put.f k t189 t190 t191).bind fun t210 => ((roll_Parse.f k t210).bind fun bt211 => ((roll_Compact.f k t189 t190 t191 6).bind fun bt218 => (if t194 = true then (if t208 = true then (some false) else (if t196 = 7 then (if t197 = 3 then (if (t191.length : Int) = 3 then ((l11_num.f bt211.2.2.2).bind fun t224 => (if t224 = 0 then ((r11_Same.f k bt211.1 bt211.2.1 bt211.2.2.1 t189 t190 t191).bind fun t225 => (if t225 = true then (if bt218.1 = 6 then (if (bt218.2.2.length : Int) = 1 then ((roll_Newer.f k 3 7 t189 t190 t191).bind fun t226 => (if t226 = true then ((roll_Newer.f k 2 9 t189 t190 t191).bind fun t227 => (if t227 = true then (some false) else ((roll_Check.f k (-1) 0 ([] : List (S54))).bind fun t228 => ((l11_num.f t228).bind fun t229 => (some (t229 == 110)))))) else (some false))) else (some false)) else (some false)) else (some false))) else (some false))) else (some false)) else (some false)) else (some false))) else (some false))))) = some r := H
  have A5 := Az.mk A50
  clear A50
  replace H := Option.bind_eq_some_iff.mp H
  obtain ⟨t210, A60, H⟩ := H
  replace H : ((roll_Parse.f k t210).bind fun bt211 => ((roll_Compact.f k t189 t190 t191 6).bind fun bt218 => (if t194 = true then (if t208 = true then (some false) else (if t196 = 7 then (if t197 = 3 then (if (t191.length : Int) = 3 then ((l11_num.f bt211.2.2.2).bind fun t224 => (if t224 = 0 then ((r11_Same.f k bt211.1 bt211.2.1 bt211.2.2.1 t189 t190 t191).bind fun t225 => (if t225 = true then (if bt218.1 = 6 then (if (bt218.2.2.length : Int) = 1 then ((roll_Newer.f k 3 7 t189 t190 t191).bind fun t226 => (if t226 = true then ((roll_Newer.f k 2 9 t189 t190 t191).bind fun t227 => (if t227 = true then (some false) else ((roll_Check.f k (-1) 0 ([] : List (S54))).bind fun t228 => ((l11_num.f t228).bind fun t229 => (some (t229 == 110)))))) else (some false))) else (some false)) else (some false)) else (some false))) else (some false))) else (some false)) else (some false)) else (some false))) else (some false)))) = some r := H
  have A6 := Az.mk A60
  clear A60
  replace H := Option.bind_eq_some_iff.mp H
  obtain ⟨⟨t211, t212, t213, t216⟩, A70, H⟩ := H
  replace H : ((roll_Compact.f k t189 t190 t191 6).bind fun bt218 => (if t194 = true then (if t208 = true then (some false) else (if t196 = 7 then (if t197 = 3 then (if (t191.length : Int) = 3 then ((l11_num.f t216).bind fun t224 => (if t224 = 0 then ((r11_Same.f k t211 t212 t213 t189 t190 t191).bind fun t225 => (if t225 = true then (if bt218.1 = 6 then (if (bt218.2.2.length : Int) = 1 then ((roll_Newer.f k 3 7 t189 t190 t191).bind fun t226 => (if t226 = true then ((roll_Newer.f k 2 9 t189 t190 t191).bind fun t227 => (if t227 = true then (some false) else ((roll_Check.f k (-1) 0 ([] : List (S54))).bind fun t228 => ((l11_num.f t228).bind fun t229 => (some (t229 == 110)))))) else (some false))) else (some false)) else (some false)) else (some false))) else (some false))) else (some false)) else (some false)) else (some false))) else (some false))) = some r := H
  have A7 := Az.mk A70
  clear A70
  replace H := Option.bind_eq_some_iff.mp H
  obtain ⟨⟨t218, t219, t220⟩, A80, H⟩ := H
  replace H : (if t194 = true then (if t208 = true then (some false) else (if t196 = 7 then (if t197 = 3 then (if (t191.length : Int) = 3 then ((l11_num.f t216).bind fun t224 => (if t224 = 0 then ((r11_Same.f k t211 t212 t213 t189 t190 t191).bind fun t225 => (if t225 = true then (if t218 = 6 then (if (t220.length : Int) = 1 then ((roll_Newer.f k 3 7 t189 t190 t191).bind fun t226 => (if t226 = true then ((roll_Newer.f k 2 9 t189 t190 t191).bind fun t227 => (if t227 = true then (some false) else ((roll_Check.f k (-1) 0 ([] : List (S54))).bind fun t228 => ((l11_num.f t228).bind fun t229 => (some (t229 == 110)))))) else (some false))) else (some false)) else (some false)) else (some false))) else (some false))) else (some false)) else (some false)) else (some false))) else (some false)) = some r := H
  have A8 := Az.mk A80
  clear A80
  by_cases c9 : t194 = true
  · subst c9
    have H1 : (if t208 = true then (some false) else (if t196 = 7 then (if t197 = 3 then (if (t191.length : Int) = 3 then ((l11_num.f t216).bind fun t224 => (if t224 = 0 then ((r11_Same.f k t211 t212 t213 t189 t190 t191).bind fun t225 => (if t225 = true then (if t218 = 6 then (if (t220.length : Int) = 1 then ((roll_Newer.f k 3 7 t189 t190 t191).bind fun t226 => (if t226 = true then ((roll_Newer.f k 2 9 t189 t190 t191).bind fun t227 => (if t227 = true then (some false) else ((roll_Check.f k (-1) 0 ([] : List (S54))).bind fun t228 => ((l11_num.f t228).bind fun t229 => (some (t229 == 110)))))) else (some false))) else (some false)) else (some false)) else (some false))) else (some false))) else (some false)) else (some false)) else (some false))) = some r := by rw [if_pos rfl] at H; exact H
    clear H
    have H := H1
    clear H1
    by_cases c10 : t208 = true
    · subst c10
      have H1 : (some false) = some r := by rw [if_pos rfl] at H; exact H
      clear H
      have H := H1
      clear H1
      exact absurd (Option.some.inj (H.trans (congrArg some hr))) (by decide)
    · replace c10 := Bool.eq_false_iff.mpr c10
      subst c10
      have H1 : (if t196 = 7 then (if t197 = 3 then (if (t191.length : Int) = 3 then ((l11_num.f t216).bind fun t224 => (if t224 = 0 then ((r11_Same.f k t211 t212 t213 t189 t190 t191).bind fun t225 => (if t225 = true then (if t218 = 6 then (if (t220.length : Int) = 1 then ((roll_Newer.f k 3 7 t189 t190 t191).bind fun t226 => (if t226 = true then ((roll_Newer.f k 2 9 t189 t190 t191).bind fun t227 => (if t227 = true then (some false) else ((roll_Check.f k (-1) 0 ([] : List (S54))).bind fun t228 => ((l11_num.f t228).bind fun t229 => (some (t229 == 110)))))) else (some false))) else (some false)) else (some false)) else (some false))) else (some false))) else (some false)) else (some false)) else (some false)) = some r := by rw [if_neg (show ¬ (false = true) by decide)] at H; exact H
      clear H
      have H := H1
      clear H1
      by_cases c11 : t196 = 7
      · rw [if_pos c11] at H
        have c11b0 : (t196 == 7) = true := beq_iff_eq.mpr c11
        have c11b1 : (t196 != 7) = false := bne_eq_false_iff_eq.mpr c11
        clear c11
        by_cases c12 : t197 = 3
        · rw [if_pos c12] at H
          have c12b0 : (t197 == 3) = true := beq_iff_eq.mpr c12
          have c12b1 : (t197 != 3) = false := bne_eq_false_iff_eq.mpr c12
          clear c12
          by_cases c13 : (t191.length : Int) = 3
          · rw [if_pos c13] at H
            have c13b0 : ((t191.length : Int) == 3) = true := beq_iff_eq.mpr c13
            have c13b1 : ((t191.length : Int) != 3) = false := bne_eq_false_iff_eq.mpr c13
            clear c13
            replace H := Option.bind_eq_some_iff.mp H
            obtain ⟨t224, A140, H⟩ := H
            replace H : (if t224 = 0 then ((r11_Same.f k t211 t212 t213 t189 t190 t191).bind fun t225 => (if t225 = true then (if t218 = 6 then (if (t220.length : Int) = 1 then ((roll_Newer.f k 3 7 t189 t190 t191).bind fun t226 => (if t226 = true then ((roll_Newer.f k 2 9 t189 t190 t191).bind fun t227 => (if t227 = true then (some false) else ((roll_Check.f k (-1) 0 ([] : List (S54))).bind fun t228 => ((l11_num.f t228).bind fun t229 => (some (t229 == 110)))))) else (some false))) else (some false)) else (some false)) else (some false))) else (some false)) = some r := H
            have A14 := Az.mk A140
            clear A140
            by_cases c15 : t224 = 0
            · rw [if_pos c15] at H
              have c15b0 : (t224 == 0) = true := beq_iff_eq.mpr c15
              have c15b1 : (t224 != 0) = false := bne_eq_false_iff_eq.mpr c15
              clear c15
              replace H := Option.bind_eq_some_iff.mp H
              obtain ⟨t225, A160, H⟩ := H
              replace H : (if t225 = true then (if t218 = 6 then (if (t220.length : Int) = 1 then ((roll_Newer.f k 3 7 t189 t190 t191).bind fun t226 => (if t226 = true then ((roll_Newer.f k 2 9 t189 t190 t191).bind fun t227 => (if t227 = true then (some false) else ((roll_Check.f k (-1) 0 ([] : List (S54))).bind fun t228 => ((l11_num.f t228).bind fun t229 => (some (t229 == 110)))))) else (some false))) else (some false)) else (some false)) else (some false)) = some r := H
              have A16 := Az.mk A160
              clear A160
              by_cases c17 : t225 = true
              · subst c17
                have H1 : (if t218 = 6 then (if (t220.length : Int) = 1 then ((roll_Newer.f k 3 7 t189 t190 t191).bind fun t226 => (if t226 = true then ((roll_Newer.f k 2 9 t189 t190 t191).bind fun t227 => (if t227 = true then (some false) else ((roll_Check.f k (-1) 0 ([] : List (S54))).bind fun t228 => ((l11_num.f t228).bind fun t229 => (some (t229 == 110)))))) else (some false))) else (some false)) else (some false)) = some r := by rw [if_pos rfl] at H; exact H
                clear H
                have H := H1
                clear H1
                by_cases c18 : t218 = 6
                · rw [if_pos c18] at H
                  have c18b0 : (t218 == 6) = true := beq_iff_eq.mpr c18
                  have c18b1 : (t218 != 6) = false := bne_eq_false_iff_eq.mpr c18
                  clear c18
                  by_cases c19 : (t220.length : Int) = 1
                  · rw [if_pos c19] at H
                    have c19b0 : ((t220.length : Int) == 1) = true := beq_iff_eq.mpr c19
                    have c19b1 : ((t220.length : Int) != 1) = false := bne_eq_false_iff_eq.mpr c19
                    clear c19
                    replace H := Option.bind_eq_some_iff.mp H
                    obtain ⟨t226, A200, H⟩ := H
                    replace H : (if t226 = true then ((roll_Newer.f k 2 9 t189 t190 t191).bind fun t227 => (if t227 = true then (some false) else ((roll_Check.f k (-1) 0 ([] : List (S54))).bind fun t228 => ((l11_num.f t228).bind fun t229 => (some (t229 == 110)))))) else (some false)) = some r := H
                    have A20 := Az.mk A200
                    clear A200
                    by_cases c21 : t226 = true
                    · subst c21
                      have H1 : ((roll_Newer.f k 2 9 t189 t190 t191).bind fun t227 => (if t227 = true then (some false) else ((roll_Check.f k (-1) 0 ([] : List (S54))).bind fun t228 => ((l11_num.f t228).bind fun t229 => (some (t229 == 110)))))) = some r := by rw [if_pos rfl] at H; exact H
                      clear H
                      have H := H1
                      clear H1
                      replace H := Option.bind_eq_some_iff.mp H
                      obtain ⟨t227, A220, H⟩ := H
                      replace H : (if t227 = true then (some false) else ((roll_Check.f k (-1) 0 ([] : List (S54))).bind fun t228 => ((l11_num.f t228).bind fun t229 => (some (t229 == 110))))) = some r := H
                      have A22 := Az.mk A220
                      clear A220
                      by_cases c23 : t227 = true
                      · subst c23
                        have H1 : (some false) = some r := by rw [if_pos rfl] at H; exact H
                        clear H
                        have H := H1
                        clear H1
                        exact absurd (Option.some.inj (H.trans (congrArg some hr))) (by decide)
                      · replace c23 := Bool.eq_false_iff.mpr c23
                        subst c23
                        have H1 : ((roll_Check.f k (-1) 0 ([] : List (S54))).bind fun t228 => ((l11_num.f t228).bind fun t229 => (some (t229 == 110)))) = some r := by rw [if_neg (show ¬ (false = true) by decide)] at H; exact H
                        clear H
                        have H := H1
                        clear H1
                        replace H := Option.bind_eq_some_iff.mp H
                        obtain ⟨t228, A240, H⟩ := H
                        replace H : ((l11_num.f t228).bind fun t229 => (some (t229 == 110))) = some r := H
                        have A24 := Az.mk A240
                        clear A240
                        replace H := Option.bind_eq_some_iff.mp H
                        obtain ⟨t229, A250, H⟩ := H
                        replace H : (some (t229 == 110)) = some r := H
                        have A25 := Az.mk A250
                        clear A250
                        obtain rfl := Option.some.inj H
                        go_enter Tryd.func9, Tryd.ntmps9
                        go_wp2_with (first | ((with_reducible refine gtc (f := 34) rfl ?_); refine goesL_ (some 11) rfl rfl Tryd.func34 (by kernel_rfl) rfl #[] rfl (by (try simp only [List.map_toArray, List.map_cons, List.map_nil]); first | done | rfl | (simp only [List.length_drop, List.length_take]; rfl)) ?_; (with_reducible refine (l11_some.calls  t181 t182 t183 _ ?side1 A1.out).mono ?_); (case side1 => exact hG.below (by repeat (first | (with_reducible first | exact HB.out | apply pbA | apply pbN | apply pb1) | exact HB.out))); rintro e w26 ⟨v184, rfl, ho0, hb⟩; refine ⟨_, rfl, ?_⟩; have n0_ := Az.mk (Kd.R_lower ho0 (pbZ (by repeat (first | (with_reducible first | exact HB.out | apply pbA | apply pbN | apply pb1) | exact HB.out)))); have n1_ := Az.mk (pbT (by repeat (first | (with_reducible first | exact HB.out | apply pbA | apply pbN | apply pb1) | exact HB.out)) hb); clear HB; have HO185 := n0_; have HB := n1_; clear n0_ n1_; (try clear hb); (try clear hb2); (try clear hk); (try clear hi); (try clear ho0)) | ((with_reducible refine gate_dst (N := 14) rfl ?_); (try (refine gate_guard (by rfl) ?_; dsimp only)); refine Kd.R_lit k54 _ 54 ?hg (N := 14) ?hd (xs := ([(⟨1, (⟨#[98]⟩ : ByteArray)⟩ : S54), (⟨3, (⟨#[100]⟩ : ByteArray)⟩ : S54)] : List (S54))) (inner := [.int .i64 1, .string (⟨#[98]⟩ : ByteArray), .int .i64 3, .string (⟨#[100]⟩ : ByteArray)]) (ok := fun _ => True) (okp := fun _ => True) ?hr ?hp (fun _ hk => hk) trivial (Below.refl _ _) (Nat.le_refl _) (by simp) ?_; (case hd => rfl); (case hg => rfl); (case hr => first | (go_simp; done) | (go_simp; rfl)); (case hp => exact (Reps.c2 (show Kd.M k54 _ _ _ (⟨1, (⟨#[98]⟩ : ByteArray)⟩ : S54) [.int .i64 1, .string (⟨#[98]⟩ : ByteArray)] from (k54_mkM _ _ _ (⟨1, (⟨#[98]⟩ : ByteArray)⟩ : S54) )) (Reps.c2 (show Kd.M k54 _ _ _ (⟨3, (⟨#[100]⟩ : ByteArray)⟩ : S54) [.int .i64 3, .string (⟨#[100]⟩ : ByteArray)] from (k54_mkM _ _ _ (⟨3, (⟨#[100]⟩ : ByteArray)⟩ : S54) )) (Reps.none _ _)))); intro v187 w27 ho28 hb hg_ hnew_; clear hg_ hnew_; (first | rw [← Ny186.out] at ho28 | (simp only [Int.reduceToNat] at ho28; rw [← Ny186.out] at ho28)); have n0_ := Az.mk (Kd.R_elder' (by (with_reducible repeat (first | apply Kd.R_alloc | apply Kd.R_drewN | apply Kd.R_drew)); exact HO185.out) (Kd.R_base ho28) hb); have n1_ := Az.mk (Kd.R_lower (Kd.R_new' ho28 (Kd.R_lt (by (with_reducible repeat (first | apply Kd.R_alloc | apply Kd.R_drewN | apply Kd.R_drew)); exact HO185.out))) (pbZ (by repeat (first | (with_reducible first | exact HB.out | apply pbA | apply pbN | apply pb1) | exact HB.out)))); have n2_ := Az.mk (pbT (by repeat (first | (with_reducible first | exact HB.out | apply pbA | apply pbN | apply pb1) | exact HB.out)) hb); clear HO185; clear HB; have HO185 := n0_; have HO188 := n1_; have HB := n2_; clear n0_ n1_ n2_; clear hb ho28; obtain ⟨Ao29, co29, eo29⟩ := Kd.R_slice HO185.out; subst eo29; obtain ⟨Ao30, co30, eo30⟩ := Kd.R_slice HO188.out; subst eo30) | ((with_reducible refine gtc (f := 19) rfl ?_); refine goesL_ (some 15) rfl rfl Tryd.func19 (by kernel_rfl) rfl #[.agg #[.int .i64 t181, .int .i64 t182, .slice Ao29 t183.length co29], .int .i64 5, .int .i64 1, .slice Ao30 y186.length co30] rfl (by (try simp only [List.map_toArray, List.map_cons, List.map_nil]); first | done | rfl | (simp only [List.length_drop, List.length_take]; rfl)) ?_; (with_reducible refine (roll_Merge.calls t181 t182 (fun k_ => some k_ = (.slice Ao29 t183.length co29 : Value).ownBlock) _ _ t183 5 1 _ _ y186 t189 t190 t191 true _ ?side1 ?side2 ?side3 ?side4 A2.out).mono ?_); (case side1 => exact hG.below (by repeat (first | (with_reducible first | exact HB.out | apply pbA | apply pbN | apply pb1) | exact HB.out))); (case side2 => exact Kd.R_V (Kd.R_tight rfl (HO185.out))); (case side3 => repeat (first | exact (Kd.R_reads' HO188.out).2.2 | (with_reducible refine Kd.C_alloc ?_ _) | (with_reducible refine Kd.C_drewN ?_ _) | (with_reducible refine Kd.C_drew ?_))); (case side4 => exact (Kd.R_reads' HO188.out).2.1); rintro e w31 ⟨v192, rfl, ho0, hb⟩; refine ⟨_, rfl, ?_⟩; have n0_ := Az.mk (Kd.R_below (by (with_reducible repeat (first | apply Kd.R_alloc | apply Kd.R_drewN | apply Kd.R_drew)); exact HO185.out) hb); have n1_ := Az.mk (Kd.R_below (by (with_reducible repeat (first | apply Kd.R_alloc | apply Kd.R_drewN | apply Kd.R_drew)); exact HO188.out) hb); have n2_ := Az.mk (Kd.V_lower (Kd.V_mono (ok' := fun k_ => some k_ ≠ (.slice Ao30 y186.length co30 : Value).ownBlock) ho0 (fun k_ hk_ => Or.elim hk_ (fun hs_ => ((HO185.out).1 k_ hs_.symm).2) (fun hn_ => (Kd.fresh' (Kd.R_lt (by (with_reducible repeat (first | apply Kd.R_alloc | apply Kd.R_drewN | apply Kd.R_drew)); exact HO188.out)) k_ hn_)))) (pbZ (by repeat (first | (with_reducible first | exact HB.out | apply pbA | apply pbN | apply pb1) | exact HB.out)))); have n3_ := Az.mk (pbT (by repeat (first | (with_reducible first | exact HB.out | apply pbA | apply pbN | apply pb1) | exact HB.out)) hb); clear HO185; clear HO188; clear HB; have HO185 := n0_; have HO188 := n1_; have HO193 := n2_; have HB := n3_; clear n0_ n1_ n2_ n3_; (try clear hb); (try clear hb2); (try clear hk); (try clear hi); (try clear ho0)) | ((with_reducible refine gate_dst (N := 1) rfl ?_); (try (refine gate_guard (by rfl) ?_; dsimp only)); refine box_event ?hg (N := 1) ?hd (cs := #[.int .i64 0, .int .i64 0, .slice none 0 0]) (t := 24) ?hr ?_; (case hd => rfl); (case hg => rfl); (case hr => first | (go_simp; done) | (go_simp; rfl)); intro gb195 hg w32 hbox hb; have n0_ := Az.mk (Kd.R_below (by (with_reducible repeat (first | apply Kd.R_alloc | apply Kd.R_drewN | apply Kd.R_drew)); exact HO185.out) hb); have n1_ := Az.mk (Kd.R_below (by (with_reducible repeat (first | apply Kd.R_alloc | apply Kd.R_drewN | apply Kd.R_drew)); exact HO188.out) hb); have n2_ := Az.mk (Kd.V_below (Kd.V_elderB (by (with_reducible repeat (first | apply Kd.V_alloc | apply Kd.V_drewN | apply Kd.V_drew)); exact HO193.out) gb195 (Nat.le_of_eq hg.symm)) hb); have n3_ := Az.mk (pbT (by repeat (first | (with_reducible first | exact HB.out | apply pbA | apply pbN | apply pb1) | exact HB.out)) hb); have n4_ := Az.mk (hbox); have n5_ := Az.mk ((by rw [hg]; exact (pbZ (by repeat (first | (with_reducible first | exact HB.out | apply pbA | apply pbN | apply pb1) | exact HB.out))) : w.heap.size ≤ gb195)); have n6_ := Az.mk ((by rw [hg]; exact (pbZ (by repeat (first | (with_reducible first | exact HB.out | apply pbA | apply pbN | apply pb1) | exact HB.out))) : w.heap.size ≤ gb195)); clear HO185; clear HO188; clear HO193; clear HB; have HO185 := n0_; have HO188 := n1_; have HO193 := n2_; have HB := n3_; have BK195 := n4_; have GW195 := n5_; have GE195 := n6_; clear n0_ n1_ n2_ n3_ n4_ n5_ n6_; clear hb hbox hg; have hcz33_0 : w32.cell? ⟨gb195, 0, none⟩ = some (.int .i64 0) := (bkC BK195.out 0).trans rfl; have hcz33_1 : w32.cell? ⟨gb195, 1, none⟩ = some (.int .i64 0) := (bkC BK195.out 1).trans rfl; have hcz33_2 : w32.cell? ⟨gb195, 2, none⟩ = some (.slice none 0 0) := (bkC BK195.out 2).trans rfl; have hfz33_0 := bkF BK195.out 0; have hfz33_1 := bkF BK195.out 1; have hfz33_2 := bkF BK195.out 2; obtain ⟨Ao34, co34, eo34⟩ := Kd.V_slice HO193.out; subst eo34) | ((with_reducible refine gtc (f := 21) rfl ?_); refine goesL_ (some 20) rfl rfl Tryd.func21 (by kernel_rfl) rfl #[.agg #[.int .i64 t189, .int .i64 t190, .slice Ao34 t191.length co34]] rfl (by (try simp only [List.map_toArray, List.map_cons, List.map_nil]); first | done | rfl | (simp only [List.length_drop, List.length_take]; rfl)) ?_; (with_reducible refine (roll_Last.calls k t189 t190 _ _ t191 t196 t197 _ ?side1 ?side2 ?side3 A3.out).mono ?_); (case side1 => exact hG.below (by repeat (first | (with_reducible first | exact HB.out | apply pbA | apply pbN | apply pb1 | refine pbS ?_ GE195.out) | exact HB.out))); (case side2 => refine (Kd.V_reads' (e := 54) (base := w.heap.size) (ok := fun k_ => (some k_ ≠ (.slice Ao30 y186.length co30 : Value).ownBlock ∧ k_ ≠ gb195)) (n := t191.length) (c := co34) ?_).2.2; exact (by (with_reducible repeat (first | apply Kd.V_alloc | apply Kd.V_drewN | apply Kd.V_drew)); exact (Kd.V_mono (Kd.V_far (p := ⟨gb195, 2, none⟩) (Kd.V_far (p := ⟨gb195, 1, none⟩) (Kd.V_far (p := ⟨gb195, 0, none⟩) (Kd.V_mono HO193.out (fun k_ hk => (⟨hk, hk.2⟩ : _ ∧ k_ ≠ gb195))) (fun _ hk => hk.2) (.int .i64 t189)) (fun _ hk => hk.2) (.int .i64 t190)) (fun _ hk => hk.2) (.slice Ao34 t191.length co34)) (fun _ h_ => h_.1)))); (case side3 => exact (Kd.V_reads' HO193.out).2.1); rintro e w35 ⟨rfl, hb⟩; refine ⟨_, rfl, ?_⟩; have n0_ := Az.mk (Kd.R_below (by (with_reducible repeat (first | apply Kd.R_alloc | apply Kd.R_drewN | apply Kd.R_drew)); exact (Kd.R_mono (Kd.R_far (p := ⟨gb195, 2, none⟩) (Kd.R_far (p := ⟨gb195, 1, none⟩) (Kd.R_far (p := ⟨gb195, 0, none⟩) (Kd.R_types HO185.out BK195.out (by decide)) (fun _ hk => hk.2) (.int .i64 t189)) (fun _ hk => hk.2) (.int .i64 t190)) (fun _ hk => hk.2) (.slice Ao34 t191.length co34)) (fun _ h_ => h_.1))) hb); have n1_ := Az.mk (Kd.R_below (by (with_reducible repeat (first | apply Kd.R_alloc | apply Kd.R_drewN | apply Kd.R_drew)); exact (Kd.R_mono (Kd.R_far (p := ⟨gb195, 2, none⟩) (Kd.R_far (p := ⟨gb195, 1, none⟩) (Kd.R_far (p := ⟨gb195, 0, none⟩) (Kd.R_types HO188.out BK195.out (by decide)) (fun _ hk => hk.2) (.int .i64 t189)) (fun _ hk => hk.2) (.int .i64 t190)) (fun _ hk => hk.2) (.slice Ao34 t191.length co34)) (fun _ h_ => h_.1))) hb); have n2_ := Az.mk (Kd.V_below (by (with_reducible repeat (first | apply Kd.V_alloc | apply Kd.V_drewN | apply Kd.V_drew)); exact (Kd.V_mono (Kd.V_far (p := ⟨gb195, 2, none⟩) (Kd.V_far (p := ⟨gb195, 1, none⟩) (Kd.V_far (p := ⟨gb195, 0, none⟩) (Kd.V_mono HO193.out (fun k_ hk => (⟨hk, hk.2⟩ : _ ∧ k_ ≠ gb195))) (fun _ hk => hk.2) (.int .i64 t189)) (fun _ hk => hk.2) (.int .i64 t190)) (fun _ hk => hk.2) (.slice Ao34 t191.length co34)) (fun _ h_ => h_.1))) hb); have n3_ := Az.mk (bkB (g := gb195) (o := .cells #[.int .i64 t189, .int .i64 t190, .slice Ao34 t191.length co34] 24 (0, 0)) (by (with_reducible repeat (first | refine bkN ?_ _ | refine bkD ?_ | refine bkA ?_ _)); refine blk_put (cs := #[.int .i64 t189, .int .i64 t190, .slice none 0 0]) ?_ 2 _ rfl; (with_reducible repeat (first | refine bkN ?_ _ | refine bkD ?_ | refine bkA ?_ _)); refine blk_put (cs := #[.int .i64 t189, .int .i64 0, .slice none 0 0]) ?_ 1 _ rfl; (with_reducible repeat (first | refine bkN ?_ _ | refine bkD ?_ | refine bkA ?_ _)); refine blk_put (cs := #[.int .i64 0, .int .i64 0, .slice none 0 0]) ?_ 0 _ rfl; (with_reducible repeat (first | refine bkN ?_ _ | refine bkD ?_ | refine bkA ?_ _)); exact BK195.out) hb); have n4_ := Az.mk (pbT (by repeat (first | (with_reducible first | exact HB.out | apply pbA | apply pbN | apply pb1 | refine pbS ?_ GE195.out) | exact HB.out)) hb); clear HO185; clear HO188; clear HO193; clear BK195; clear HB; have HO185 := n0_; have HO188 := n1_; have HO193 := n2_; have BK195 := n3_; have HB := n4_; clear n0_ n1_ n2_ n3_ n4_; (try clear hb); (try clear hb2); (try clear hk); (try clear hi)) | ((with_reducible refine gtc (f := 34) rfl ?_); refine goesL_ (some 24) rfl rfl Tryd.func34 (by kernel_rfl) rfl #[] rfl (by (try simp only [List.map_toArray, List.map_cons, List.map_nil]); first | done | rfl | (simp only [List.length_drop, List.length_take]; rfl)) ?_; (with_reducible refine (l11_some.calls  t198 t199 t200 _ ?side1 A4.out).mono ?_); (case side1 => exact hG.below (by repeat (first | (with_reducible first | exact HB.out | apply pbA | apply pbN | apply pb1 | refine pbS ?_ GE195.out) | exact HB.out))); rintro e w36 ⟨v201, rfl, ho0, hb⟩; refine ⟨_, rfl, ?_⟩; have n0_ := Az.mk (Kd.R_elder' (by (with_reducible repeat (first | apply Kd.R_alloc | apply Kd.R_drewN | apply Kd.R_drew)); exact HO185.out) (Kd.R_base ho0) hb); have n1_ := Az.mk (Kd.R_elder' (by (with_reducible repeat (first | apply Kd.R_alloc | apply Kd.R_drewN | apply Kd.R_drew)); exact HO188.out) (Kd.R_base ho0) hb); have n2_ := Az.mk (Kd.V_elder' (by (with_reducible repeat (first | apply Kd.V_alloc | apply Kd.V_drewN | apply Kd.V_drew)); exact HO193.out) (Kd.R_base ho0) hb); have n3_ := Az.mk (Kd.R_lower (Kd.R_new' (Kd.R_new' ho0 (Kd.R_lt (by (with_reducible repeat (first | apply Kd.R_alloc | apply Kd.R_drewN | apply Kd.R_drew)); exact HO185.out))) (Kd.R_lt (by (with_reducible repeat (first | apply Kd.R_alloc | apply Kd.R_drewN | apply Kd.R_drew)); exact HO188.out))) (pbZ (by repeat (first | (with_reducible first | exact HB.out | apply pbA | apply pbN | apply pb1 | refine pbS ?_ GE195.out) | exact HB.out)))); have n4_ := Az.mk (bkB (g := gb195) (o := .cells #[.int .i64 t189, .int .i64 t190, .slice Ao34 t191.length co34] 24 (0, 0)) (by (with_reducible repeat (first | refine bkN ?_ _ | refine bkD ?_ | refine bkA ?_ _)); exact BK195.out) hb); have n5_ := Az.mk (pbT (by repeat (first | (with_reducible first | exact HB.out | apply pbA | apply pbN | apply pb1 | refine pbS ?_ GE195.out) | exact HB.out)) hb); clear HO185; clear HO188; clear HO193; clear BK195; clear HB; have HO185 := n0_; have HO188 := n1_; have HO193 := n2_; have HO202 := n3_; have BK195 := n4_; have HB := n5_; clear n0_ n1_ n2_ n3_ n4_ n5_; (try clear hb); (try clear hb2); (try clear hk); (try clear hi); (try clear ho0); obtain ⟨Ao37, co37, eo37⟩ := Kd.R_slice HO202.out; subst eo37) | ((with_reducible refine gtc (f := 19) rfl ?_); refine goesL_ (some 25) rfl rfl Tryd.func19 (by kernel_rfl) rfl #[.agg #[.int .i64 t198, .int .i64 t199, .slice Ao37 t200.length co37], .int .i64 7, .int .i64 1, .slice none 0 0] rfl (by (try simp only [List.map_toArray, List.map_cons, List.map_nil]); first | done | rfl | (simp only [List.length_drop, List.length_take]; rfl)) ?_; (refine (roll_Merge.calls t198 t199 (fun k_ => some k_ = (.slice Ao37 t200.length co37 : Value).ownBlock) _ _ t200 7 1 _ _ ([] : List (S54)) t203 t204 t205 false _ ?side1 ?side2 ?side3 ?side4 A5.out).mono ?_); (case side1 => exact hG.below (by repeat (first | (with_reducible first | exact HB.out | apply pbA | apply pbN | apply pb1 | refine pbS ?_ GE195.out) | exact HB.out))); (case side2 => exact Kd.R_V (Kd.R_tight rfl (Kd.R_types (HO202.out) BK195.out (by decide)))); (case side3 => exact Kd.C_nil _ _); (case side4 => exact Nat.le_refl _); rintro e w38 ⟨v206, rfl, ho0, hb⟩; refine ⟨_, rfl, ?_⟩; have n0_ := Az.mk (Kd.R_below (by (with_reducible repeat (first | apply Kd.R_alloc | apply Kd.R_drewN | apply Kd.R_drew)); exact HO185.out) hb); have n1_ := Az.mk (Kd.R_below (by (with_reducible repeat (first | apply Kd.R_alloc | apply Kd.R_drewN | apply Kd.R_drew)); exact HO188.out) hb); have n2_ := Az.mk (Kd.V_below (by (with_reducible repeat (first | apply Kd.V_alloc | apply Kd.V_drewN | apply Kd.V_drew)); exact HO193.out) hb); have n3_ := Az.mk (Kd.R_below (by (with_reducible repeat (first | apply Kd.R_alloc | apply Kd.R_drewN | apply Kd.R_drew)); exact HO202.out) hb); have n4_ := Az.mk (Kd.V_lower (Kd.V_mono (ok' := fun k_ => some k_ ≠ (.slice Ao29 t183.length co29 : Value).ownBlock ∧ some k_ ≠ (.slice Ao30 y186.length co30 : Value).ownBlock ∧ k_ ≠ gb195) ho0 (fun k_ hk_ => ⟨Or.elim hk_ (fun hs_ => ((Kd.R_types (HO202.out) BK195.out (by decide)).1 k_ hs_.symm).1.1.2) (fun hn_ => (Kd.fresh' (Kd.R_lt (by (with_reducible repeat (first | apply Kd.R_alloc | apply Kd.R_drewN | apply Kd.R_drew)); exact HO185.out)) k_ hn_)), Or.elim hk_ (fun hs_ => ((Kd.R_types (HO202.out) BK195.out (by decide)).1 k_ hs_.symm).1.2) (fun hn_ => (Kd.fresh' (Kd.R_lt (by (with_reducible repeat (first | apply Kd.R_alloc | apply Kd.R_drewN | apply Kd.R_drew)); exact HO188.out)) k_ hn_)), Or.elim hk_ (fun hs_ => ((Kd.R_types (HO202.out) BK195.out (by decide)).1 k_ hs_.symm).2) (fun hn_ => (Kd.freshB (g := gb195) (o := .cells #[.int .i64 t189, .int .i64 t190, .slice Ao34 t191.length co34] 24 (0, 0)) (by (with_reducible repeat (first | refine bkN ?_ _ | refine bkD ?_ | refine bkA ?_ _)); exact BK195.out) k_ hn_))⟩)) (pbZ (by repeat (first | (with_reducible first | exact HB.out | apply pbA | apply pbN | apply pb1 | refine pbS ?_ GE195.out) | exact HB.out)))); have n5_ := Az.mk (bkB (g := gb195) (o := .cells #[.int .i64 t189, .int .i64 t190, .slice Ao34 t191.length co34] 24 (0, 0)) (by (with_reducible repeat (first | refine bkN ?_ _ | refine bkD ?_ | refine bkA ?_ _)); exact BK195.out) hb); have n6_ := Az.mk (pbT (by repeat (first | (with_reducible first | exact HB.out | apply pbA | apply pbN | apply pb1 | refine pbS ?_ GE195.out) | exact HB.out)) hb); clear HO185; clear HO188; clear HO193; clear HO202; clear BK195; clear HB; have HO185 := n0_; have HO188 := n1_; have HO193 := n2_; have HO202 := n3_; have HO207 := n4_; have BK195 := n5_; have HB := n6_; clear n0_ n1_ n2_ n3_ n4_ n5_ n6_; (try clear hb); (try clear hb2); (try clear hk); (try clear hi); (try clear ho0)) | ((with_reducible refine gate_dst (N := 5) rfl ?_); (try (refine gate_guard (by rfl) ?_; dsimp only)); refine box_event ?hg (N := 5) ?hd (cs := #[.int .i64 0, .int .i64 0, .slice none 0 0]) (t := 24) ?hr ?_; (case hd => rfl); (case hg => rfl); (case hr => first | (go_simp; done) | (go_simp; rfl)); intro gb209 hg w39 hbox hb; have n0_ := Az.mk (Kd.R_below (by (with_reducible repeat (first | apply Kd.R_alloc | apply Kd.R_drewN | apply Kd.R_drew)); exact HO185.out) hb); have n1_ := Az.mk (Kd.R_below (by (with_reducible repeat (first | apply Kd.R_alloc | apply Kd.R_drewN | apply Kd.R_drew)); exact HO188.out) hb); have n2_ := Az.mk (Kd.V_below (Kd.V_elderB (by (with_reducible repeat (first | apply Kd.V_alloc | apply Kd.V_drewN | apply Kd.V_drew)); exact HO193.out) gb209 (Nat.le_of_eq hg.symm)) hb); have n3_ := Az.mk (Kd.R_below (by (with_reducible repeat (first | apply Kd.R_alloc | apply Kd.R_drewN | apply Kd.R_drew)); exact HO202.out) hb); have n4_ := Az.mk (Kd.V_below (Kd.V_elderB (by (with_reducible repeat (first | apply Kd.V_alloc | apply Kd.V_drewN | apply Kd.V_drew)); exact HO207.out) gb209 (Nat.le_of_eq hg.symm)) hb); have n5_ := Az.mk (bkB (g := gb195) (o := .cells #[.int .i64 t189, .int .i64 t190, .slice Ao34 t191.length co34] 24 (0, 0)) (by (with_reducible repeat (first | refine bkN ?_ _ | refine bkD ?_ | refine bkA ?_ _)); exact BK195.out) hb); have n6_ := Az.mk (pbT (by repeat (first | (with_reducible first | exact HB.out | apply pbA | apply pbN | apply pb1 | refine pbS ?_ GE195.out) | exact HB.out)) hb); have n7_ := Az.mk (hbox); have n8_ := Az.mk ((by rw [hg]; exact (pbZ (by repeat (first | (with_reducible first | exact HB.out | apply pbA | apply pbN | apply pb1 | refine pbS ?_ GE195.out) | exact HB.out))) : w.heap.size ≤ gb209)); have n9_ := Az.mk ((by rw [hg]; exact (pbZ (by repeat (first | (with_reducible first | exact HB.out | apply pbA | apply pbN | apply pb1 | refine pbS ?_ GE195.out) | exact HB.out))) : w.heap.size ≤ gb209)); have n10_ := Az.mk ((by rw [hg]; exact Nat.ne_of_lt (blk_lt (g := gb195) (o := .cells #[.int .i64 t189, .int .i64 t190, .slice Ao34 t191.length co34] 24 (0, 0)) (by (with_reducible repeat (first | refine bkN ?_ _ | refine bkD ?_ | refine bkA ?_ _)); exact BK195.out)) : gb195 ≠ gb209)); have n11_ := Az.mk ((by rw [hg]; exact Nat.ne_of_gt (blk_lt (g := gb195) (o := .cells #[.int .i64 t189, .int .i64 t190, .slice Ao34 t191.length co34] 24 (0, 0)) (by (with_reducible repeat (first | refine bkN ?_ _ | refine bkD ?_ | refine bkA ?_ _)); exact BK195.out)) : gb209 ≠ gb195)); clear HO185; clear HO188; clear HO193; clear HO202; clear HO207; clear BK195; clear HB; have HO185 := n0_; have HO188 := n1_; have HO193 := n2_; have HO202 := n3_; have HO207 := n4_; have BK195 := n5_; have HB := n6_; have BK209 := n7_; have GW209 := n8_; have GE209 := n9_; have NB195_209 := n10_; have NB209_195 := n11_; clear n0_ n1_ n2_ n3_ n4_ n5_ n6_ n7_ n8_ n9_ n10_ n11_; clear hb hbox hg; have hnb40 := NB209_195.out; have hnc40 := NB195_209.out; have hcz41_0 : w39.cell? ⟨gb209, 0, none⟩ = some (.int .i64 0) := (bkC BK209.out 0).trans rfl; have hcz41_1 : w39.cell? ⟨gb209, 1, none⟩ = some (.int .i64 0) := (bkC BK209.out 1).trans rfl; have hcz41_2 : w39.cell? ⟨gb209, 2, none⟩ = some (.slice none 0 0) := (bkC BK209.out 2).trans rfl; have hfz41_0 := bkF BK209.out 0; have hfz41_1 := bkF BK209.out 1; have hfz41_2 := bkF BK209.out 2; obtain ⟨Ao42, co42, eo42⟩ := Kd.V_slice HO207.out; subst eo42; have hcz43_0 : w39.cell? ⟨gb195, 0, none⟩ = some (.int .i64 t189) := (bkC BK195.out 0).trans rfl; have hcz43_1 : w39.cell? ⟨gb195, 1, none⟩ = some (.int .i64 t190) := (bkC BK195.out 1).trans rfl; have hcz43_2 : w39.cell? ⟨gb195, 2, none⟩ = some (.slice Ao34 t191.length co34) := (bkC BK195.out 2).trans rfl; have hfz43_0 := bkF BK195.out 0; have hfz43_1 := bkF BK195.out 1; have hfz43_2 := bkF BK195.out 2) | ((with_reducible refine gtc (f := 15) rfl ?_); refine goesL_ (some 30) rfl rfl Tryd.func15 (by kernel_rfl) rfl #[.agg #[.int .i64 t189, .int .i64 t190, .slice Ao34 t191.length co34]] rfl (by (try simp only [List.map_toArray, List.map_cons, List.map_nil]); first | done | rfl | (simp only [List.length_drop, List.length_take]; rfl)) ?_; (with_reducible refine (roll_Put.calls k t189 t190 _ _ t191 t210 _ ?side1 ?side2 ?side3 A6.out).mono ?_); (case side1 => exact hG.below (by repeat (first | (with_reducible first | exact HB.out | apply pbA | apply pbN | apply pb1 | refine pbS ?_ GE195.out | refine pbS ?_ GE209.out) | exact HB.out))); (case side2 => refine (Kd.V_reads' (e := 54) (base := w.heap.size) (ok := fun k_ => (((some k_ ≠ (.slice Ao30 y186.length co30 : Value).ownBlock ∧ k_ ≠ gb195) ∧ some k_ ≠ (.slice Ao37 t200.length co37 : Value).ownBlock) ∧ k_ ≠ gb209)) (n := t191.length) (c := co34) ?_).2.2; exact (by (with_reducible repeat (first | apply Kd.V_alloc | apply Kd.V_drewN | apply Kd.V_drew)); exact (Kd.V_mono (Kd.V_far (p := ⟨gb209, 2, none⟩) (Kd.V_far (p := ⟨gb209, 1, none⟩) (Kd.V_far (p := ⟨gb209, 0, none⟩) (Kd.V_mono HO193.out (fun k_ hk => (⟨hk, hk.2⟩ : _ ∧ k_ ≠ gb209))) (fun _ hk => hk.2) (.int .i64 t203)) (fun _ hk => hk.2) (.int .i64 t204)) (fun _ hk => hk.2) (.slice Ao42 t205.length co42)) (fun _ h_ => h_.1)))); (case side3 => exact (Kd.V_reads' HO193.out).2.1); rintro e w44 ⟨rfl, hb⟩; refine ⟨_, rfl, ?_⟩; have n0_ := Az.mk (Kd.R_below (by (with_reducible repeat (first | apply Kd.R_alloc | apply Kd.R_drewN | apply Kd.R_drew)); exact (Kd.R_mono (Kd.R_far (p := ⟨gb209, 2, none⟩) (Kd.R_far (p := ⟨gb209, 1, none⟩) (Kd.R_far (p := ⟨gb209, 0, none⟩) (Kd.R_types HO185.out BK209.out (by decide)) (fun _ hk => hk.2) (.int .i64 t203)) (fun _ hk => hk.2) (.int .i64 t204)) (fun _ hk => hk.2) (.slice Ao42 t205.length co42)) (fun _ h_ => h_.1))) hb); have n1_ := Az.mk (Kd.R_below (by (with_reducible repeat (first | apply Kd.R_alloc | apply Kd.R_drewN | apply Kd.R_drew)); exact (Kd.R_mono (Kd.R_far (p := ⟨gb209, 2, none⟩) (Kd.R_far (p := ⟨gb209, 1, none⟩) (Kd.R_far (p := ⟨gb209, 0, none⟩) (Kd.R_types HO188.out BK209.out (by decide)) (fun _ hk => hk.2) (.int .i64 t203)) (fun _ hk => hk.2) (.int .i64 t204)) (fun _ hk => hk.2) (.slice Ao42 t205.length co42)) (fun _ h_ => h_.1))) hb); have n2_ := Az.mk (Kd.V_below (by (with_reducible repeat (first | apply Kd.V_alloc | apply Kd.V_drewN | apply Kd.V_drew)); exact (Kd.V_mono (Kd.V_far (p := ⟨gb209, 2, none⟩) (Kd.V_far (p := ⟨gb209, 1, none⟩) (Kd.V_far (p := ⟨gb209, 0, none⟩) (Kd.V_mono HO193.out (fun k_ hk => (⟨hk, hk.2⟩ : _ ∧ k_ ≠ gb209))) (fun _ hk => hk.2) (.int .i64 t203)) (fun _ hk => hk.2) (.int .i64 t204)) (fun _ hk => hk.2) (.slice Ao42 t205.length co42)) (fun _ h_ => h_.1))) hb); have n3_ := Az.mk (Kd.R_below (by (with_reducible repeat (first | apply Kd.R_alloc | apply Kd.R_drewN | apply Kd.R_drew)); exact (Kd.R_mono (Kd.R_far (p := ⟨gb209, 2, none⟩) (Kd.R_far (p := ⟨gb209, 1, none⟩) (Kd.R_far (p := ⟨gb209, 0, none⟩) (Kd.R_types HO202.out BK209.out (by decide)) (fun _ hk => hk.2) (.int .i64 t203)) (fun _ hk => hk.2) (.int .i64 t204)) (fun _ hk => hk.2) (.slice Ao42 t205.length co42)) (fun _ h_ => h_.1))) hb); have n4_ := Az.mk (Kd.V_below (by (with_reducible repeat (first | apply Kd.V_alloc | apply Kd.V_drewN | apply Kd.V_drew)); exact (Kd.V_mono (Kd.V_far (p := ⟨gb209, 2, none⟩) (Kd.V_far (p := ⟨gb209, 1, none⟩) (Kd.V_far (p := ⟨gb209, 0, none⟩) (Kd.V_mono HO207.out (fun k_ hk => (⟨hk, hk.2⟩ : _ ∧ k_ ≠ gb209))) (fun _ hk => hk.2) (.int .i64 t203)) (fun _ hk => hk.2) (.int .i64 t204)) (fun _ hk => hk.2) (.slice Ao42 t205.length co42)) (fun _ h_ => h_.1))) hb); have n5_ := Az.mk (bkB (g := gb195) (o := .cells #[.int .i64 t189, .int .i64 t190, .slice Ao34 t191.length co34] 24 (0, 0)) (by (with_reducible repeat (first | refine bkN ?_ _ | refine bkD ?_ | refine bkA ?_ _)); refine blk_far ?_ NB195_209.out _; (with_reducible repeat (first | refine bkN ?_ _ | refine bkD ?_ | refine bkA ?_ _)); refine blk_far ?_ NB195_209.out _; (with_reducible repeat (first | refine bkN ?_ _ | refine bkD ?_ | refine bkA ?_ _)); refine blk_far ?_ NB195_209.out _; (with_reducible repeat (first | refine bkN ?_ _ | refine bkD ?_ | refine bkA ?_ _)); exact BK195.out) hb); have n6_ := Az.mk (bkB (g := gb209) (o := .cells #[.int .i64 t203, .int .i64 t204, .slice Ao42 t205.length co42] 24 (0, 0)) (by (with_reducible repeat (first | refine bkN ?_ _ | refine bkD ?_ | refine bkA ?_ _)); refine blk_put (cs := #[.int .i64 t203, .int .i64 t204, .slice none 0 0]) ?_ 2 _ rfl; (with_reducible repeat (first | refine bkN ?_ _ | refine bkD ?_ | refine bkA ?_ _)); refine blk_put (cs := #[.int .i64 t203, .int .i64 0, .slice none 0 0]) ?_ 1 _ rfl; (with_reducible repeat (first | refine bkN ?_ _ | refine bkD ?_ | refine bkA ?_ _)); refine blk_put (cs := #[.int .i64 0, .int .i64 0, .slice none 0 0]) ?_ 0 _ rfl; (with_reducible repeat (first | refine bkN ?_ _ | refine bkD ?_ | refine bkA ?_ _)); exact BK209.out) hb); have n7_ := Az.mk (pbT (by repeat (first | (with_reducible first | exact HB.out | apply pbA | apply pbN | apply pb1 | refine pbS ?_ GE195.out | refine pbS ?_ GE209.out) | exact HB.out)) hb); clear HO185; clear HO188; clear HO193; clear HO202; clear HO207; clear BK195; clear BK209; clear HB; have HO185 := n0_; have HO188 := n1_; have HO193 := n2_; have HO202 := n3_; have HO207 := n4_; have BK195 := n5_; have BK209 := n6_; have HB := n7_; clear n0_ n1_ n2_ n3_ n4_ n5_ n6_ n7_; (try clear hb); (try clear hb2); (try clear hk); (try clear hi)) | ((with_reducible refine gtc (f := 10) rfl ?_); refine goesL_ (some 31) rfl rfl Tryd.func10 (by kernel_rfl) rfl #[.string t210] rfl (by (try simp only [List.map_toArray, List.map_cons, List.map_nil]); first | done | rfl | (simp only [List.length_drop, List.length_take]; rfl)) ?_; (with_reducible refine (roll_Parse.calls k t210 t211 t212 t213 t216 _ ?side1 A7.out).mono ?_); (case side1 => exact hG.below (by repeat (first | (with_reducible first | exact HB.out | apply pbA | apply pbN | apply pb1 | refine pbS ?_ GE195.out | refine pbS ?_ GE209.out) | exact HB.out))); rintro e w45 ⟨v214, rfl, ho0, hb⟩; refine ⟨_, rfl, ?_⟩; have n0_ := Az.mk (Kd.R_elder' (by (with_reducible repeat (first | apply Kd.R_alloc | apply Kd.R_drewN | apply Kd.R_drew)); exact HO185.out) (Kd.R_base ho0) hb); have n1_ := Az.mk (Kd.R_elder' (by (with_reducible repeat (first | apply Kd.R_alloc | apply Kd.R_drewN | apply Kd.R_drew)); exact HO188.out) (Kd.R_base ho0) hb); have n2_ := Az.mk (Kd.V_elder' (by (with_reducible repeat (first | apply Kd.V_alloc | apply Kd.V_drewN | apply Kd.V_drew)); exact HO193.out) (Kd.R_base ho0) hb); have n3_ := Az.mk (Kd.R_elder' (by (with_reducible repeat (first | apply Kd.R_alloc | apply Kd.R_drewN | apply Kd.R_drew)); exact HO202.out) (Kd.R_base ho0) hb); have n4_ := Az.mk (Kd.V_elder' (by (with_reducible repeat (first | apply Kd.V_alloc | apply Kd.V_drewN | apply Kd.V_drew)); exact HO207.out) (Kd.R_base ho0) hb); have n5_ := Az.mk (Kd.R_lower (Kd.R_new' (Kd.R_new' (Kd.R_new' ho0 (Kd.R_lt (by (with_reducible repeat (first | apply Kd.R_alloc | apply Kd.R_drewN | apply Kd.R_drew)); exact HO185.out))) (Kd.R_lt (by (with_reducible repeat (first | apply Kd.R_alloc | apply Kd.R_drewN | apply Kd.R_drew)); exact HO188.out))) (Kd.R_lt (by (with_reducible repeat (first | apply Kd.R_alloc | apply Kd.R_drewN | apply Kd.R_drew)); exact HO202.out))) (pbZ (by repeat (first | (with_reducible first | exact HB.out | apply pbA | apply pbN | apply pb1 | refine pbS ?_ GE195.out | refine pbS ?_ GE209.out) | exact HB.out)))); have n6_ := Az.mk (bkB (g := gb195) (o := .cells #[.int .i64 t189, .int .i64 t190, .slice Ao34 t191.length co34] 24 (0, 0)) (by (with_reducible repeat (first | refine bkN ?_ _ | refine bkD ?_ | refine bkA ?_ _)); exact BK195.out) hb); have n7_ := Az.mk (bkB (g := gb209) (o := .cells #[.int .i64 t203, .int .i64 t204, .slice Ao42 t205.length co42] 24 (0, 0)) (by (with_reducible repeat (first | refine bkN ?_ _ | refine bkD ?_ | refine bkA ?_ _)); exact BK209.out) hb); have n8_ := Az.mk (pbT (by repeat (first | (with_reducible first | exact HB.out | apply pbA | apply pbN | apply pb1 | refine pbS ?_ GE195.out | refine pbS ?_ GE209.out) | exact HB.out)) hb); clear HO185; clear HO188; clear HO193; clear HO202; clear HO207; clear BK195; clear BK209; clear HB; have HO185 := n0_; have HO188 := n1_; have HO193 := n2_; have HO202 := n3_; have HO207 := n4_; have HO215 := n5_; have BK195 := n6_; have BK209 := n7_; have HB := n8_; clear n0_ n1_ n2_ n3_ n4_ n5_ n6_ n7_ n8_; (try clear hb); (try clear hb2); (try clear hk); (try clear hi); (try clear ho0)) | ((with_reducible refine gate_dst (N := 7) rfl ?_); (try (refine gate_guard (by rfl) ?_; dsimp only)); refine box_event ?hg (N := 7) ?hd (cs := #[.int .i64 0, .int .i64 0, .slice none 0 0]) (t := 24) ?hr ?_; (case hd => rfl); (case hg => rfl); (case hr => first | (go_simp; done) | (go_simp; rfl)); intro gb217 hg w46 hbox hb; have n0_ := Az.mk (Kd.R_below (by (with_reducible repeat (first | apply Kd.R_alloc | apply Kd.R_drewN | apply Kd.R_drew)); exact HO185.out) hb); have n1_ := Az.mk (Kd.R_below (by (with_reducible repeat (first | apply Kd.R_alloc | apply Kd.R_drewN | apply Kd.R_drew)); exact HO188.out) hb); have n2_ := Az.mk (Kd.V_below (Kd.V_elderB (by (with_reducible repeat (first | apply Kd.V_alloc | apply Kd.V_drewN | apply Kd.V_drew)); exact HO193.out) gb217 (Nat.le_of_eq hg.symm)) hb); have n3_ := Az.mk (Kd.R_below (by (with_reducible repeat (first | apply Kd.R_alloc | apply Kd.R_drewN | apply Kd.R_drew)); exact HO202.out) hb); have n4_ := Az.mk (Kd.V_below (Kd.V_elderB (by (with_reducible repeat (first | apply Kd.V_alloc | apply Kd.V_drewN | apply Kd.V_drew)); exact HO207.out) gb217 (Nat.le_of_eq hg.symm)) hb); have n5_ := Az.mk (Kd.R_below (by (with_reducible repeat (first | apply Kd.R_alloc | apply Kd.R_drewN | apply Kd.R_drew)); exact HO215.out) hb); have n6_ := Az.mk (bkB (g := gb195) (o := .cells #[.int .i64 t189, .int .i64 t190, .slice Ao34 t191.length co34] 24 (0, 0)) (by (with_reducible repeat (first | refine bkN ?_ _ | refine bkD ?_ | refine bkA ?_ _)); exact BK195.out) hb); have n7_ := Az.mk (bkB (g := gb209) (o := .cells #[.int .i64 t203, .int .i64 t204, .slice Ao42 t205.length co42] 24 (0, 0)) (by (with_reducible repeat (first | refine bkN ?_ _ | refine bkD ?_ | refine bkA ?_ _)); exact BK209.out) hb); have n8_ := Az.mk (pbT (by repeat (first | (with_reducible first | exact HB.out | apply pbA | apply pbN | apply pb1 | refine pbS ?_ GE195.out | refine pbS ?_ GE209.out) | exact HB.out)) hb); have n9_ := Az.mk (hbox); have n10_ := Az.mk ((by rw [hg]; exact (pbZ (by repeat (first | (with_reducible first | exact HB.out | apply pbA | apply pbN | apply pb1 | refine pbS ?_ GE195.out | refine pbS ?_ GE209.out) | exact HB.out))) : w.heap.size ≤ gb217)); have n11_ := Az.mk ((by rw [hg]; exact (pbZ (by repeat (first | (with_reducible first | exact HB.out | apply pbA | apply pbN | apply pb1 | refine pbS ?_ GE195.out | refine pbS ?_ GE209.out) | exact HB.out))) : w.heap.size ≤ gb217)); have n12_ := Az.mk ((by rw [hg]; exact Nat.ne_of_lt (blk_lt (g := gb195) (o := .cells #[.int .i64 t189, .int .i64 t190, .slice Ao34 t191.length co34] 24 (0, 0)) (by (with_reducible repeat (first | refine bkN ?_ _ | refine bkD ?_ | refine bkA ?_ _)); exact BK195.out)) : gb195 ≠ gb217)); have n13_ := Az.mk ((by rw [hg]; exact Nat.ne_of_gt (blk_lt (g := gb195) (o := .cells #[.int .i64 t189, .int .i64 t190, .slice Ao34 t191.length co34] 24 (0, 0)) (by (with_reducible repeat (first | refine bkN ?_ _ | refine bkD ?_ | refine bkA ?_ _)); exact BK195.out)) : gb217 ≠ gb195)); have n14_ := Az.mk ((by rw [hg]; exact Nat.ne_of_lt (blk_lt (g := gb209) (o := .cells #[.int .i64 t203, .int .i64 t204, .slice Ao42 t205.length co42] 24 (0, 0)) (by (with_reducible repeat (first | refine bkN ?_ _ | refine bkD ?_ | refine bkA ?_ _)); exact BK209.out)) : gb209 ≠ gb217)); have n15_ := Az.mk ((by rw [hg]; exact Nat.ne_of_gt (blk_lt (g := gb209) (o := .cells #[.int .i64 t203, .int .i64 t204, .slice Ao42 t205.length co42] 24 (0, 0)) (by (with_reducible repeat (first | refine bkN ?_ _ | refine bkD ?_ | refine bkA ?_ _)); exact BK209.out)) : gb217 ≠ gb209)); clear HO185; clear HO188; clear HO193; clear HO202; clear HO207; clear HO215; clear BK195; clear BK209; clear HB; have HO185 := n0_; have HO188 := n1_; have HO193 := n2_; have HO202 := n3_; have HO207 := n4_; have HO215 := n5_; have BK195 := n6_; have BK209 := n7_; have HB := n8_; have BK217 := n9_; have GW217 := n10_; have GE217 := n11_; have NB195_217 := n12_; have NB217_195 := n13_; have NB209_217 := n14_; have NB217_209 := n15_; clear n0_ n1_ n2_ n3_ n4_ n5_ n6_ n7_ n8_ n9_ n10_ n11_ n12_ n13_ n14_ n15_; clear hb hbox hg; have hnb47 := NB217_195.out; have hnc47 := NB195_217.out; have hnb48 := NB217_209.out; have hnc48 := NB209_217.out; have hcz49_0 : w46.cell? ⟨gb217, 0, none⟩ = some (.int .i64 0) := (bkC BK217.out 0).trans rfl; have hcz49_1 : w46.cell? ⟨gb217, 1, none⟩ = some (.int .i64 0) := (bkC BK217.out 1).trans rfl; have hcz49_2 : w46.cell? ⟨gb217, 2, none⟩ = some (.slice none 0 0) := (bkC BK217.out 2).trans rfl; have hfz49_0 := bkF BK217.out 0; have hfz49_1 := bkF BK217.out 1; have hfz49_2 := bkF BK217.out 2; obtain ⟨Ao50, co50, eo50⟩ := Kd.R_slice HO215.out; subst eo50) | ((with_reducible refine gate_store (t := 24) (p := 7) rfl ?_); refine store_event (t := 24) (p := 7) (v := ?vo_w51) (w1 := (((w46.setCell ⟨gb217, 0, none⟩ (.int .i64 t211)).setCell ⟨gb217, 1, none⟩ (.int .i64 t212)).setCell ⟨gb217, 2, none⟩ (.slice Ao50 t213.length co50))) ?hg ?ho ?hn ?hr ?_; (case ho => rfl); (case hg => rfl); (case hn => rfl); (case hr => first | (go_simp; done) | (go_simp; rfl)); intro w51 hw; have n0_ : Az (Kd.R k54 54 w51 w.heap.size (fun k_ => some k_ ≠ (.slice Ao30 y186.length co30 : Value).ownBlock ∧ some k_ ≠ (.slice Ao37 t200.length co37 : Value).ownBlock ∧ some k_ ≠ (.slice Ao50 t213.length co50 : Value).ownBlock) (.slice Ao29 t183.length co29) t183) := ⟨(by rw [hw]; exact (by (with_reducible repeat (first | apply Kd.R_alloc | apply Kd.R_drewN | apply Kd.R_drew)); exact Kd.R_mono (Kd.R_far (p := ⟨gb217, 2, none⟩) (Kd.R_far (p := ⟨gb217, 1, none⟩) (Kd.R_far (p := ⟨gb217, 0, none⟩) (Kd.R_types HO185.out BK217.out (by decide)) (fun _ hk => hk.2) (.int .i64 t211)) (fun _ hk => hk.2) (.int .i64 t212)) (fun _ hk => hk.2) (.slice Ao50 t213.length co50)) (fun _ hk => ⟨hk.1.1.1.2, ⟨hk.1.1.2, hk.1.2⟩⟩)))⟩; have n1_ : Az (Kd.R k54 54 w51 w.heap.size (fun k_ => some k_ ≠ (.slice Ao29 t183.length co29 : Value).ownBlock ∧ some k_ ≠ (.slice Ao37 t200.length co37 : Value).ownBlock ∧ some k_ ≠ (.slice Ao50 t213.length co50 : Value).ownBlock) (.slice Ao30 y186.length co30) y186) := ⟨(by rw [hw]; exact (by (with_reducible repeat (first | apply Kd.R_alloc | apply Kd.R_drewN | apply Kd.R_drew)); exact Kd.R_mono (Kd.R_far (p := ⟨gb217, 2, none⟩) (Kd.R_far (p := ⟨gb217, 1, none⟩) (Kd.R_far (p := ⟨gb217, 0, none⟩) (Kd.R_types HO188.out BK217.out (by decide)) (fun _ hk => hk.2) (.int .i64 t211)) (fun _ hk => hk.2) (.int .i64 t212)) (fun _ hk => hk.2) (.slice Ao50 t213.length co50)) (fun _ hk => ⟨hk.1.1.1.2, ⟨hk.1.1.2, hk.1.2⟩⟩)))⟩; have n2_ : Az (Kd.V k54 54 w51 w.heap.size (fun k_ => some k_ ≠ (.slice Ao30 y186.length co30 : Value).ownBlock ∧ some k_ ≠ (.slice Ao37 t200.length co37 : Value).ownBlock ∧ some k_ ≠ (.slice Ao50 t213.length co50 : Value).ownBlock ∧ k_ ≠ gb195 ∧ k_ ≠ gb209 ∧ k_ ≠ gb217) (.slice Ao34 t191.length co34) t191) := ⟨(by rw [hw]; exact (by (with_reducible repeat (first | apply Kd.V_alloc | apply Kd.V_drewN | apply Kd.V_drew)); exact Kd.V_mono (Kd.V_far (p := ⟨gb217, 2, none⟩) (Kd.V_far (p := ⟨gb217, 1, none⟩) (Kd.V_far (p := ⟨gb217, 0, none⟩) (Kd.V_mono HO193.out (fun k_ hk => (⟨hk, hk.2⟩ : _ ∧ k_ ≠ gb217))) (fun _ hk => hk.2) (.int .i64 t211)) (fun _ hk => hk.2) (.int .i64 t212)) (fun _ hk => hk.2) (.slice Ao50 t213.length co50)) (fun _ hk => ⟨hk.1.1.1.1.1.1, ⟨hk.1.1.1.1.2, ⟨hk.1.1.2, ⟨hk.1.1.1.1.1.2, ⟨hk.1.1.1.2, hk.1.2⟩⟩⟩⟩⟩)))⟩; have n3_ : Az (Kd.R k54 54 w51 w.heap.size (fun k_ => some k_ ≠ (.slice Ao29 t183.length co29 : Value).ownBlock ∧ some k_ ≠ (.slice Ao30 y186.length co30 : Value).ownBlock ∧ some k_ ≠ (.slice Ao50 t213.length co50 : Value).ownBlock) (.slice Ao37 t200.length co37) t200) := ⟨(by rw [hw]; exact (by (with_reducible repeat (first | apply Kd.R_alloc | apply Kd.R_drewN | apply Kd.R_drew)); exact Kd.R_mono (Kd.R_far (p := ⟨gb217, 2, none⟩) (Kd.R_far (p := ⟨gb217, 1, none⟩) (Kd.R_far (p := ⟨gb217, 0, none⟩) (Kd.R_types HO202.out BK217.out (by decide)) (fun _ hk => hk.2) (.int .i64 t211)) (fun _ hk => hk.2) (.int .i64 t212)) (fun _ hk => hk.2) (.slice Ao50 t213.length co50)) (fun _ hk => ⟨hk.1.1.1.2, ⟨hk.1.1.2, hk.1.2⟩⟩)))⟩; have n4_ : Az (Kd.V k54 54 w51 w.heap.size (fun k_ => some k_ ≠ (.slice Ao29 t183.length co29 : Value).ownBlock ∧ some k_ ≠ (.slice Ao30 y186.length co30 : Value).ownBlock ∧ some k_ ≠ (.slice Ao50 t213.length co50 : Value).ownBlock ∧ k_ ≠ gb195 ∧ k_ ≠ gb209 ∧ k_ ≠ gb217) (.slice Ao42 t205.length co42) t205) := ⟨(by rw [hw]; exact (by (with_reducible repeat (first | apply Kd.V_alloc | apply Kd.V_drewN | apply Kd.V_drew)); exact Kd.V_mono (Kd.V_far (p := ⟨gb217, 2, none⟩) (Kd.V_far (p := ⟨gb217, 1, none⟩) (Kd.V_far (p := ⟨gb217, 0, none⟩) (Kd.V_mono HO207.out (fun k_ hk => (⟨hk, hk.2⟩ : _ ∧ k_ ≠ gb217))) (fun _ hk => hk.2) (.int .i64 t211)) (fun _ hk => hk.2) (.int .i64 t212)) (fun _ hk => hk.2) (.slice Ao50 t213.length co50)) (fun _ hk => ⟨hk.1.1.1.1.1, ⟨hk.1.1.1.1.2.1, ⟨hk.1.1.2, ⟨hk.1.1.1.1.2.2, ⟨hk.1.1.1.2, hk.1.2⟩⟩⟩⟩⟩)))⟩; have n5_ : Az (Kd.R k54 54 w51 w.heap.size (fun k_ => some k_ ≠ (.slice Ao29 t183.length co29 : Value).ownBlock ∧ some k_ ≠ (.slice Ao30 y186.length co30 : Value).ownBlock ∧ some k_ ≠ (.slice Ao37 t200.length co37 : Value).ownBlock) (.slice Ao50 t213.length co50) t213) := ⟨(by rw [hw]; exact (by (with_reducible repeat (first | apply Kd.R_alloc | apply Kd.R_drewN | apply Kd.R_drew)); exact Kd.R_mono (Kd.R_far (p := ⟨gb217, 2, none⟩) (Kd.R_far (p := ⟨gb217, 1, none⟩) (Kd.R_far (p := ⟨gb217, 0, none⟩) (Kd.R_types HO215.out BK217.out (by decide)) (fun _ hk => hk.2) (.int .i64 t211)) (fun _ hk => hk.2) (.int .i64 t212)) (fun _ hk => hk.2) (.slice Ao50 t213.length co50)) (fun _ hk => ⟨hk.1.1.1.2, ⟨hk.1.1.2, hk.1.2⟩⟩)))⟩; have n6_ : Az (w51.heap[gb195]? = some (.cells #[.int .i64 t189, .int .i64 t190, .slice Ao34 t191.length co34] 24 (0, 0))) := ⟨(by rw [hw]; exact (by (with_reducible repeat (first | refine bkN ?_ _ | refine bkD ?_ | refine bkA ?_ _)); refine blk_far ?_ NB195_217.out _; (with_reducible repeat (first | refine bkN ?_ _ | refine bkD ?_ | refine bkA ?_ _)); refine blk_far ?_ NB195_217.out _; (with_reducible repeat (first | refine bkN ?_ _ | refine bkD ?_ | refine bkA ?_ _)); refine blk_far ?_ NB195_217.out _; (with_reducible repeat (first | refine bkN ?_ _ | refine bkD ?_ | refine bkA ?_ _)); exact BK195.out))⟩; have n7_ : Az (w51.heap[gb209]? = some (.cells #[.int .i64 t203, .int .i64 t204, .slice Ao42 t205.length co42] 24 (0, 0))) := ⟨(by rw [hw]; exact (by (with_reducible repeat (first | refine bkN ?_ _ | refine bkD ?_ | refine bkA ?_ _)); refine blk_far ?_ NB209_217.out _; (with_reducible repeat (first | refine bkN ?_ _ | refine bkD ?_ | refine bkA ?_ _)); refine blk_far ?_ NB209_217.out _; (with_reducible repeat (first | refine bkN ?_ _ | refine bkD ?_ | refine bkA ?_ _)); refine blk_far ?_ NB209_217.out _; (with_reducible repeat (first | refine bkN ?_ _ | refine bkD ?_ | refine bkA ?_ _)); exact BK209.out))⟩; have n8_ : Az (w51.heap[gb217]? = some (.cells #[.int .i64 t211, .int .i64 t212, .slice Ao50 t213.length co50] 24 (0, 0))) := ⟨(by rw [hw]; exact (by (with_reducible repeat (first | refine bkN ?_ _ | refine bkD ?_ | refine bkA ?_ _)); refine blk_put (cs := #[.int .i64 t211, .int .i64 t212, .slice none 0 0]) ?_ 2 _ rfl; (with_reducible repeat (first | refine bkN ?_ _ | refine bkD ?_ | refine bkA ?_ _)); refine blk_put (cs := #[.int .i64 t211, .int .i64 0, .slice none 0 0]) ?_ 1 _ rfl; (with_reducible repeat (first | refine bkN ?_ _ | refine bkD ?_ | refine bkA ?_ _)); refine blk_put (cs := #[.int .i64 0, .int .i64 0, .slice none 0 0]) ?_ 0 _ rfl; (with_reducible repeat (first | refine bkN ?_ _ | refine bkD ?_ | refine bkA ?_ _)); exact BK217.out))⟩; have n9_ : Az (Below w.heap.size w w51) := ⟨(by rw [hw]; exact (by repeat (first | (with_reducible first | exact HB.out | apply pbA | apply pbN | apply pb1 | refine pbS ?_ GE195.out | refine pbS ?_ GE209.out | refine pbS ?_ GE217.out) | exact HB.out)))⟩; clear hw; clear HO185; clear HO188; clear HO193; clear HO202; clear HO207; clear HO215; clear BK195; clear BK209; clear BK217; clear HB; have HO185 := n0_; have HO188 := n1_; have HO193 := n2_; have HO202 := n3_; have HO207 := n4_; have HO215 := n5_; have BK195 := n6_; have BK209 := n7_; have BK217 := n8_; have HB := n9_; clear n0_ n1_ n2_ n3_ n4_ n5_ n6_ n7_ n8_ n9_; have hcz52_0 : w51.cell? ⟨gb195, 0, none⟩ = some (.int .i64 t189) := (bkC BK195.out 0).trans rfl; have hcz52_1 : w51.cell? ⟨gb195, 1, none⟩ = some (.int .i64 t190) := (bkC BK195.out 1).trans rfl; have hcz52_2 : w51.cell? ⟨gb195, 2, none⟩ = some (.slice Ao34 t191.length co34) := (bkC BK195.out 2).trans rfl; have hfz52_0 := bkF BK195.out 0; have hfz52_1 := bkF BK195.out 1; have hfz52_2 := bkF BK195.out 2) | ((with_reducible refine gtc (f := 23) rfl ?_); refine goesL_ (some 35) rfl rfl Tryd.func23 (by kernel_rfl) rfl #[.agg #[.int .i64 t189, .int .i64 t190, .slice Ao34 t191.length co34], .int .i64 6] rfl (by (try simp only [List.map_toArray, List.map_cons, List.map_nil]); first | done | rfl | (simp only [List.length_drop, List.length_take]; rfl)) ?_; (with_reducible refine (roll_Compact.calls k t189 t190 (fun k_ => (some k_ ≠ (.slice Ao30 y186.length co30 : Value).ownBlock ∧ (some k_ ≠ (.slice Ao37 t200.length co37 : Value).ownBlock ∧ (some k_ ≠ (.slice Ao50 t213.length co50 : Value).ownBlock ∧ (k_ ≠ gb195 ∧ (k_ ≠ gb209 ∧ k_ ≠ gb217)))))) _ _ t191 6 t218 t219 t220 _ ?side1 ?side2 A8.out).mono ?_); (case side1 => exact hG.below (by repeat (first | (with_reducible first | exact HB.out | apply pbA | apply pbN | apply pb1 | refine pbS ?_ GE195.out | refine pbS ?_ GE209.out | refine pbS ?_ GE217.out) | exact HB.out))); (case side2 => exact HO193.out); rintro e w53 ⟨v221, rfl, ho0, hb⟩; refine ⟨_, rfl, ?_⟩; have n0_ := Az.mk (Kd.R_below (by (with_reducible repeat (first | apply Kd.R_alloc | apply Kd.R_drewN | apply Kd.R_drew)); exact HO185.out) hb); have n1_ := Az.mk (Kd.R_below (by (with_reducible repeat (first | apply Kd.R_alloc | apply Kd.R_drewN | apply Kd.R_drew)); exact HO188.out) hb); have n2_ := Az.mk (Kd.V_below (by (with_reducible repeat (first | apply Kd.V_alloc | apply Kd.V_drewN | apply Kd.V_drew)); exact HO193.out) hb); have n3_ := Az.mk (Kd.R_below (by (with_reducible repeat (first | apply Kd.R_alloc | apply Kd.R_drewN | apply Kd.R_drew)); exact HO202.out) hb); have n4_ := Az.mk (Kd.V_below (by (with_reducible repeat (first | apply Kd.V_alloc | apply Kd.V_drewN | apply Kd.V_drew)); exact HO207.out) hb); have n5_ := Az.mk (Kd.R_below (by (with_reducible repeat (first | apply Kd.R_alloc | apply Kd.R_drewN | apply Kd.R_drew)); exact HO215.out) hb); have n6_ := Az.mk (Kd.V_lower (Kd.V_mono (ok' := fun k_ => some k_ ≠ (.slice Ao30 y186.length co30 : Value).ownBlock ∧ some k_ ≠ (.slice Ao37 t200.length co37 : Value).ownBlock ∧ some k_ ≠ (.slice Ao50 t213.length co50 : Value).ownBlock ∧ k_ ≠ gb195 ∧ k_ ≠ gb209 ∧ k_ ≠ gb217) ho0 (fun k_ hk_ => ⟨Or.elim hk_ (fun hs_ => hs_.1) (fun hn_ => (Kd.fresh' (Kd.R_lt (by (with_reducible repeat (first | apply Kd.R_alloc | apply Kd.R_drewN | apply Kd.R_drew)); exact HO188.out)) k_ hn_)), Or.elim hk_ (fun hs_ => hs_.2.1) (fun hn_ => (Kd.fresh' (Kd.R_lt (by (with_reducible repeat (first | apply Kd.R_alloc | apply Kd.R_drewN | apply Kd.R_drew)); exact HO202.out)) k_ hn_)), Or.elim hk_ (fun hs_ => hs_.2.2.1) (fun hn_ => (Kd.fresh' (Kd.R_lt (by (with_reducible repeat (first | apply Kd.R_alloc | apply Kd.R_drewN | apply Kd.R_drew)); exact HO215.out)) k_ hn_)), Or.elim hk_ (fun hs_ => hs_.2.2.2.1) (fun hn_ => (Kd.freshB (g := gb195) (o := .cells #[.int .i64 t189, .int .i64 t190, .slice Ao34 t191.length co34] 24 (0, 0)) (by (with_reducible repeat (first | refine bkN ?_ _ | refine bkD ?_ | refine bkA ?_ _)); exact BK195.out) k_ hn_)), Or.elim hk_ (fun hs_ => hs_.2.2.2.2.1) (fun hn_ => (Kd.freshB (g := gb209) (o := .cells #[.int .i64 t203, .int .i64 t204, .slice Ao42 t205.length co42] 24 (0, 0)) (by (with_reducible repeat (first | refine bkN ?_ _ | refine bkD ?_ | refine bkA ?_ _)); exact BK209.out) k_ hn_)), Or.elim hk_ (fun hs_ => hs_.2.2.2.2.2) (fun hn_ => (Kd.freshB (g := gb217) (o := .cells #[.int .i64 t211, .int .i64 t212, .slice Ao50 t213.length co50] 24 (0, 0)) (by (with_reducible repeat (first | refine bkN ?_ _ | refine bkD ?_ | refine bkA ?_ _)); exact BK217.out) k_ hn_))⟩)) (pbZ (by repeat (first | (with_reducible first | exact HB.out | apply pbA | apply pbN | apply pb1 | refine pbS ?_ GE195.out | refine pbS ?_ GE209.out | refine pbS ?_ GE217.out) | exact HB.out)))); have n7_ := Az.mk (bkB (g := gb195) (o := .cells #[.int .i64 t189, .int .i64 t190, .slice Ao34 t191.length co34] 24 (0, 0)) (by (with_reducible repeat (first | refine bkN ?_ _ | refine bkD ?_ | refine bkA ?_ _)); exact BK195.out) hb); have n8_ := Az.mk (bkB (g := gb209) (o := .cells #[.int .i64 t203, .int .i64 t204, .slice Ao42 t205.length co42] 24 (0, 0)) (by (with_reducible repeat (first | refine bkN ?_ _ | refine bkD ?_ | refine bkA ?_ _)); exact BK209.out) hb); have n9_ := Az.mk (bkB (g := gb217) (o := .cells #[.int .i64 t211, .int .i64 t212, .slice Ao50 t213.length co50] 24 (0, 0)) (by (with_reducible repeat (first | refine bkN ?_ _ | refine bkD ?_ | refine bkA ?_ _)); exact BK217.out) hb); have n10_ := Az.mk (pbT (by repeat (first | (with_reducible first | exact HB.out | apply pbA | apply pbN | apply pb1 | refine pbS ?_ GE195.out | refine pbS ?_ GE209.out | refine pbS ?_ GE217.out) | exact HB.out)) hb); clear HO185; clear HO188; clear HO193; clear HO202; clear HO207; clear HO215; clear BK195; clear BK209; clear BK217; clear HB; have HO185 := n0_; have HO188 := n1_; have HO193 := n2_; have HO202 := n3_; have HO207 := n4_; have HO215 := n5_; have HO222 := n6_; have BK195 := n7_; have BK209 := n8_; have BK217 := n9_; have HB := n10_; clear n0_ n1_ n2_ n3_ n4_ n5_ n6_ n7_ n8_ n9_ n10_; (try clear hb); (try clear hb2); (try clear hk); (try clear hi); (try clear ho0)) | ((with_reducible refine gate_dst (N := 9) rfl ?_); (try (refine gate_guard (by rfl) ?_; dsimp only)); refine box_event ?hg (N := 9) ?hd (cs := #[.int .i64 0, .int .i64 0, .slice none 0 0]) (t := 24) ?hr ?_; (case hd => rfl); (case hg => rfl); (case hr => first | (go_simp; done) | (go_simp; rfl)); intro gb223 hg w54 hbox hb; have n0_ := Az.mk (Kd.R_below (by (with_reducible repeat (first | apply Kd.R_alloc | apply Kd.R_drewN | apply Kd.R_drew)); exact HO185.out) hb); have n1_ := Az.mk (Kd.R_below (by (with_reducible repeat (first | apply Kd.R_alloc | apply Kd.R_drewN | apply Kd.R_drew)); exact HO188.out) hb); have n2_ := Az.mk (Kd.V_below (Kd.V_elderB (by (with_reducible repeat (first | apply Kd.V_alloc | apply Kd.V_drewN | apply Kd.V_drew)); exact HO193.out) gb223 (Nat.le_of_eq hg.symm)) hb); have n3_ := Az.mk (Kd.R_below (by (with_reducible repeat (first | apply Kd.R_alloc | apply Kd.R_drewN | apply Kd.R_drew)); exact HO202.out) hb); have n4_ := Az.mk (Kd.V_below (Kd.V_elderB (by (with_reducible repeat (first | apply Kd.V_alloc | apply Kd.V_drewN | apply Kd.V_drew)); exact HO207.out) gb223 (Nat.le_of_eq hg.symm)) hb); have n5_ := Az.mk (Kd.R_below (by (with_reducible repeat (first | apply Kd.R_alloc | apply Kd.R_drewN | apply Kd.R_drew)); exact HO215.out) hb); have n6_ := Az.mk (Kd.V_below (Kd.V_elderB (by (with_reducible repeat (first | apply Kd.V_alloc | apply Kd.V_drewN | apply Kd.V_drew)); exact HO222.out) gb223 (Nat.le_of_eq hg.symm)) hb); have n7_ := Az.mk (bkB (g := gb195) (o := .cells #[.int .i64 t189, .int .i64 t190, .slice Ao34 t191.length co34] 24 (0, 0)) (by (with_reducible repeat (first | refine bkN ?_ _ | refine bkD ?_ | refine bkA ?_ _)); exact BK195.out) hb); have n8_ := Az.mk (bkB (g := gb209) (o := .cells #[.int .i64 t203, .int .i64 t204, .slice Ao42 t205.length co42] 24 (0, 0)) (by (with_reducible repeat (first | refine bkN ?_ _ | refine bkD ?_ | refine bkA ?_ _)); exact BK209.out) hb); have n9_ := Az.mk (bkB (g := gb217) (o := .cells #[.int .i64 t211, .int .i64 t212, .slice Ao50 t213.length co50] 24 (0, 0)) (by (with_reducible repeat (first | refine bkN ?_ _ | refine bkD ?_ | refine bkA ?_ _)); exact BK217.out) hb); have n10_ := Az.mk (pbT (by repeat (first | (with_reducible first | exact HB.out | apply pbA | apply pbN | apply pb1 | refine pbS ?_ GE195.out | refine pbS ?_ GE209.out | refine pbS ?_ GE217.out) | exact HB.out)) hb); have n11_ := Az.mk (hbox); have n12_ := Az.mk ((by rw [hg]; exact (pbZ (by repeat (first | (with_reducible first | exact HB.out | apply pbA | apply pbN | apply pb1 | refine pbS ?_ GE195.out | refine pbS ?_ GE209.out | refine pbS ?_ GE217.out) | exact HB.out))) : w.heap.size ≤ gb223)); have n13_ := Az.mk ((by rw [hg]; exact (pbZ (by repeat (first | (with_reducible first | exact HB.out | apply pbA | apply pbN | apply pb1 | refine pbS ?_ GE195.out | refine pbS ?_ GE209.out | refine pbS ?_ GE217.out) | exact HB.out))) : w.heap.size ≤ gb223)); have n14_ := Az.mk ((by rw [hg]; exact Nat.ne_of_lt (blk_lt (g := gb195) (o := .cells #[.int .i64 t189, .int .i64 t190, .slice Ao34 t191.length co34] 24 (0, 0)) (by (with_reducible repeat (first | refine bkN ?_ _ | refine bkD ?_ | refine bkA ?_ _)); exact BK195.out)) : gb195 ≠ gb223)); have n15_ := Az.mk ((by rw [hg]; exact Nat.ne_of_gt (blk_lt (g := gb195) (o := .cells #[.int .i64 t189, .int .i64 t190, .slice Ao34 t191.length co34] 24 (0, 0)) (by (with_reducible repeat (first | refine bkN ?_ _ | refine bkD ?_ | refine bkA ?_ _)); exact BK195.out)) : gb223 ≠ gb195)); have n16_ := Az.mk ((by rw [hg]; exact Nat.ne_of_lt (blk_lt (g := gb209) (o := .cells #[.int .i64 t203, .int .i64 t204, .slice Ao42 t205.length co42] 24 (0, 0)) (by (with_reducible repeat (first | refine bkN ?_ _ | refine bkD ?_ | refine bkA ?_ _)); exact BK209.out)) : gb209 ≠ gb223)); have n17_ := Az.mk ((by rw [hg]; exact Nat.ne_of_gt (blk_lt (g := gb209) (o := .cells #[.int .i64 t203, .int .i64 t204, .slice Ao42 t205.length co42] 24 (0, 0)) (by (with_reducible repeat (first | refine bkN ?_ _ | refine bkD ?_ | refine bkA ?_ _)); exact BK209.out)) : gb223 ≠ gb209)); have n18_ := Az.mk ((by rw [hg]; exact Nat.ne_of_lt (blk_lt (g := gb217) (o := .cells #[.int .i64 t211, .int .i64 t212, .slice Ao50 t213.length co50] 24 (0, 0)) (by (with_reducible repeat (first | refine bkN ?_ _ | refine bkD ?_ | refine bkA ?_ _)); exact BK217.out)) : gb217 ≠ gb223)); have n19_ := Az.mk ((by rw [hg]; exact Nat.ne_of_gt (blk_lt (g := gb217) (o := .cells #[.int .i64 t211, .int .i64 t212, .slice Ao50 t213.length co50] 24 (0, 0)) (by (with_reducible repeat (first | refine bkN ?_ _ | refine bkD ?_ | refine bkA ?_ _)); exact BK217.out)) : gb223 ≠ gb217)); clear HO185; clear HO188; clear HO193; clear HO202; clear HO207; clear HO215; clear HO222; clear BK195; clear BK209; clear BK217; clear HB; have HO185 := n0_; have HO188 := n1_; have HO193 := n2_; have HO202 := n3_; have HO207 := n4_; have HO215 := n5_; have HO222 := n6_; have BK195 := n7_; have BK209 := n8_; have BK217 := n9_; have HB := n10_; have BK223 := n11_; have GW223 := n12_; have GE223 := n13_; have NB195_223 := n14_; have NB223_195 := n15_; have NB209_223 := n16_; have NB223_209 := n17_; have NB217_223 := n18_; have NB223_217 := n19_; clear n0_ n1_ n2_ n3_ n4_ n5_ n6_ n7_ n8_ n9_ n10_ n11_ n12_ n13_ n14_ n15_ n16_ n17_ n18_ n19_; clear hb hbox hg; have hnb55 := NB223_195.out; have hnc55 := NB195_223.out; have hnb56 := NB223_209.out; have hnc56 := NB209_223.out; have hnb57 := NB223_217.out; have hnc57 := NB217_223.out; have hcz58_0 : w54.cell? ⟨gb223, 0, none⟩ = some (.int .i64 0) := (bkC BK223.out 0).trans rfl; have hcz58_1 : w54.cell? ⟨gb223, 1, none⟩ = some (.int .i64 0) := (bkC BK223.out 1).trans rfl; have hcz58_2 : w54.cell? ⟨gb223, 2, none⟩ = some (.slice none 0 0) := (bkC BK223.out 2).trans rfl; have hfz58_0 := bkF BK223.out 0; have hfz58_1 := bkF BK223.out 1; have hfz58_2 := bkF BK223.out 2; obtain ⟨Ao59, co59, eo59⟩ := Kd.V_slice HO222.out; subst eo59; have hcz60_0 : w54.cell? ⟨gb195, 0, none⟩ = some (.int .i64 t189) := (bkC BK195.out 0).trans rfl; have hcz60_1 : w54.cell? ⟨gb195, 1, none⟩ = some (.int .i64 t190) := (bkC BK195.out 1).trans rfl; have hcz60_2 : w54.cell? ⟨gb195, 2, none⟩ = some (.slice Ao34 t191.length co34) := (bkC BK195.out 2).trans rfl; have hfz60_0 := bkF BK195.out 0; have hfz60_1 := bkF BK195.out 1; have hfz60_2 := bkF BK195.out 2) | (go_at_call 12; (with_reducible refine (l11_num.calls t216 t224 _ ?side1 A14.out).mono ?_); (case side1 => exact hG.below (by repeat (first | (with_reducible first | exact HB.out | apply pbA | apply pbN | apply pb1 | refine pbS ?_ GE195.out | refine pbS ?_ GE209.out | refine pbS ?_ GE217.out | refine pbS ?_ GE223.out) | exact HB.out))); rintro e w' ⟨rfl, ⟨nd, rfl⟩⟩; have hcz61_0 : w54.cell? ⟨gb217, 0, none⟩ = some (.int .i64 t211) := (bkC BK217.out 0).trans rfl; have hcz61_1 : w54.cell? ⟨gb217, 1, none⟩ = some (.int .i64 t212) := (bkC BK217.out 1).trans rfl; have hcz61_2 : w54.cell? ⟨gb217, 2, none⟩ = some (.slice Ao50 t213.length co50) := (bkC BK217.out 2).trans rfl; have hfz61_0 := bkF BK217.out 0; have hfz61_1 := bkF BK217.out 1; have hfz61_2 := bkF BK217.out 2) | (go_at_call 18; (with_reducible refine (r11_Same.calls k t211 t212 _ _ t213 t189 t190 _ _ t191 true _ ?side1 ?side2 ?side3 ?side4 ?side5 A16.out).mono ?_); (case side1 => exact hG.below (by repeat (first | (with_reducible first | exact HB.out | apply pbA | apply pbN | apply pb1 | refine pbS ?_ GE195.out | refine pbS ?_ GE209.out | refine pbS ?_ GE217.out | refine pbS ?_ GE223.out) | exact HB.out))); (case side2 => refine (Kd.R_reads' (e := 54) (base := w.heap.size) (ok := fun k_ => (some k_ ≠ (.slice Ao29 t183.length co29 : Value).ownBlock ∧ (some k_ ≠ (.slice Ao30 y186.length co30 : Value).ownBlock ∧ some k_ ≠ (.slice Ao37 t200.length co37 : Value).ownBlock))) (n := t213.length) (c := co50) ?_).2.2; exact (by (with_reducible repeat (first | apply Kd.R_alloc | apply Kd.R_drewN | apply Kd.R_drew)); exact (Kd.R_mono (Kd.R_far (p := ⟨gb223, 2, none⟩) (Kd.R_far (p := ⟨gb223, 1, none⟩) (Kd.R_far (p := ⟨gb223, 0, none⟩) (Kd.R_types HO215.out BK223.out (by decide)) (fun _ hk => hk.2) (.int .i64 t218)) (fun _ hk => hk.2) (.int .i64 t219)) (fun _ hk => hk.2) (.slice Ao59 t220.length co59)) (fun _ h_ => h_.1)))); (case side3 => exact (Kd.R_reads' HO215.out).2.1); (case side4 => refine (Kd.V_reads' (e := 54) (base := w.heap.size) (ok := fun k_ => ((some k_ ≠ (.slice Ao30 y186.length co30 : Value).ownBlock ∧ (some k_ ≠ (.slice Ao37 t200.length co37 : Value).ownBlock ∧ (some k_ ≠ (.slice Ao50 t213.length co50 : Value).ownBlock ∧ (k_ ≠ gb195 ∧ (k_ ≠ gb209 ∧ k_ ≠ gb217))))) ∧ k_ ≠ gb223)) (n := t191.length) (c := co34) ?_).2.2; exact (by (with_reducible repeat (first | apply Kd.V_alloc | apply Kd.V_drewN | apply Kd.V_drew)); exact (Kd.V_mono (Kd.V_far (p := ⟨gb223, 2, none⟩) (Kd.V_far (p := ⟨gb223, 1, none⟩) (Kd.V_far (p := ⟨gb223, 0, none⟩) (Kd.V_mono HO193.out (fun k_ hk => (⟨hk, hk.2⟩ : _ ∧ k_ ≠ gb223))) (fun _ hk => hk.2) (.int .i64 t218)) (fun _ hk => hk.2) (.int .i64 t219)) (fun _ hk => hk.2) (.slice Ao59 t220.length co59)) (fun _ h_ => h_.1)))); (case side5 => exact (Kd.V_reads' HO193.out).2.1); rintro e w62 ⟨rfl, hb⟩; have n0_ := Az.mk (Kd.R_below (by (with_reducible repeat (first | apply Kd.R_alloc | apply Kd.R_drewN | apply Kd.R_drew)); exact (Kd.R_mono (Kd.R_far (p := ⟨gb223, 2, none⟩) (Kd.R_far (p := ⟨gb223, 1, none⟩) (Kd.R_far (p := ⟨gb223, 0, none⟩) (Kd.R_types HO185.out BK223.out (by decide)) (fun _ hk => hk.2) (.int .i64 t218)) (fun _ hk => hk.2) (.int .i64 t219)) (fun _ hk => hk.2) (.slice Ao59 t220.length co59)) (fun _ h_ => h_.1))) hb); have n1_ := Az.mk (Kd.R_below (by (with_reducible repeat (first | apply Kd.R_alloc | apply Kd.R_drewN | apply Kd.R_drew)); exact (Kd.R_mono (Kd.R_far (p := ⟨gb223, 2, none⟩) (Kd.R_far (p := ⟨gb223, 1, none⟩) (Kd.R_far (p := ⟨gb223, 0, none⟩) (Kd.R_types HO188.out BK223.out (by decide)) (fun _ hk => hk.2) (.int .i64 t218)) (fun _ hk => hk.2) (.int .i64 t219)) (fun _ hk => hk.2) (.slice Ao59 t220.length co59)) (fun _ h_ => h_.1))) hb); have n2_ := Az.mk (Kd.V_below (by (with_reducible repeat (first | apply Kd.V_alloc | apply Kd.V_drewN | apply Kd.V_drew)); exact (Kd.V_mono (Kd.V_far (p := ⟨gb223, 2, none⟩) (Kd.V_far (p := ⟨gb223, 1, none⟩) (Kd.V_far (p := ⟨gb223, 0, none⟩) (Kd.V_mono HO193.out (fun k_ hk => (⟨hk, hk.2⟩ : _ ∧ k_ ≠ gb223))) (fun _ hk => hk.2) (.int .i64 t218)) (fun _ hk => hk.2) (.int .i64 t219)) (fun _ hk => hk.2) (.slice Ao59 t220.length co59)) (fun _ h_ => h_.1))) hb); have n3_ := Az.mk (Kd.R_below (by (with_reducible repeat (first | apply Kd.R_alloc | apply Kd.R_drewN | apply Kd.R_drew)); exact (Kd.R_mono (Kd.R_far (p := ⟨gb223, 2, none⟩) (Kd.R_far (p := ⟨gb223, 1, none⟩) (Kd.R_far (p := ⟨gb223, 0, none⟩) (Kd.R_types HO202.out BK223.out (by decide)) (fun _ hk => hk.2) (.int .i64 t218)) (fun _ hk => hk.2) (.int .i64 t219)) (fun _ hk => hk.2) (.slice Ao59 t220.length co59)) (fun _ h_ => h_.1))) hb); have n4_ := Az.mk (Kd.V_below (by (with_reducible repeat (first | apply Kd.V_alloc | apply Kd.V_drewN | apply Kd.V_drew)); exact (Kd.V_mono (Kd.V_far (p := ⟨gb223, 2, none⟩) (Kd.V_far (p := ⟨gb223, 1, none⟩) (Kd.V_far (p := ⟨gb223, 0, none⟩) (Kd.V_mono HO207.out (fun k_ hk => (⟨hk, hk.2⟩ : _ ∧ k_ ≠ gb223))) (fun _ hk => hk.2) (.int .i64 t218)) (fun _ hk => hk.2) (.int .i64 t219)) (fun _ hk => hk.2) (.slice Ao59 t220.length co59)) (fun _ h_ => h_.1))) hb); have n5_ := Az.mk (Kd.R_below (by (with_reducible repeat (first | apply Kd.R_alloc | apply Kd.R_drewN | apply Kd.R_drew)); exact (Kd.R_mono (Kd.R_far (p := ⟨gb223, 2, none⟩) (Kd.R_far (p := ⟨gb223, 1, none⟩) (Kd.R_far (p := ⟨gb223, 0, none⟩) (Kd.R_types HO215.out BK223.out (by decide)) (fun _ hk => hk.2) (.int .i64 t218)) (fun _ hk => hk.2) (.int .i64 t219)) (fun _ hk => hk.2) (.slice Ao59 t220.length co59)) (fun _ h_ => h_.1))) hb); have n6_ := Az.mk (Kd.V_below (by (with_reducible repeat (first | apply Kd.V_alloc | apply Kd.V_drewN | apply Kd.V_drew)); exact (Kd.V_mono (Kd.V_far (p := ⟨gb223, 2, none⟩) (Kd.V_far (p := ⟨gb223, 1, none⟩) (Kd.V_far (p := ⟨gb223, 0, none⟩) (Kd.V_mono HO222.out (fun k_ hk => (⟨hk, hk.2⟩ : _ ∧ k_ ≠ gb223))) (fun _ hk => hk.2) (.int .i64 t218)) (fun _ hk => hk.2) (.int .i64 t219)) (fun _ hk => hk.2) (.slice Ao59 t220.length co59)) (fun _ h_ => h_.1))) hb); have n7_ := Az.mk (bkB (g := gb195) (o := .cells #[.int .i64 t189, .int .i64 t190, .slice Ao34 t191.length co34] 24 (0, 0)) (by (with_reducible repeat (first | refine bkN ?_ _ | refine bkD ?_ | refine bkA ?_ _)); refine blk_far ?_ NB195_223.out _; (with_reducible repeat (first | refine bkN ?_ _ | refine bkD ?_ | refine bkA ?_ _)); refine blk_far ?_ NB195_223.out _; (with_reducible repeat (first | refine bkN ?_ _ | refine bkD ?_ | refine bkA ?_ _)); refine blk_far ?_ NB195_223.out _; (with_reducible repeat (first | refine bkN ?_ _ | refine bkD ?_ | refine bkA ?_ _)); exact BK195.out) hb); have n8_ := Az.mk (bkB (g := gb209) (o := .cells #[.int .i64 t203, .int .i64 t204, .slice Ao42 t205.length co42] 24 (0, 0)) (by (with_reducible repeat (first | refine bkN ?_ _ | refine bkD ?_ | refine bkA ?_ _)); refine blk_far ?_ NB209_223.out _; (with_reducible repeat (first | refine bkN ?_ _ | refine bkD ?_ | refine bkA ?_ _)); refine blk_far ?_ NB209_223.out _; (with_reducible repeat (first | refine bkN ?_ _ | refine bkD ?_ | refine bkA ?_ _)); refine blk_far ?_ NB209_223.out _; (with_reducible repeat (first | refine bkN ?_ _ | refine bkD ?_ | refine bkA ?_ _)); exact BK209.out) hb); have n9_ := Az.mk (bkB (g := gb217) (o := .cells #[.int .i64 t211, .int .i64 t212, .slice Ao50 t213.length co50] 24 (0, 0)) (by (with_reducible repeat (first | refine bkN ?_ _ | refine bkD ?_ | refine bkA ?_ _)); refine blk_far ?_ NB217_223.out _; (with_reducible repeat (first | refine bkN ?_ _ | refine bkD ?_ | refine bkA ?_ _)); refine blk_far ?_ NB217_223.out _; (with_reducible repeat (first | refine bkN ?_ _ | refine bkD ?_ | refine bkA ?_ _)); refine blk_far ?_ NB217_223.out _; (with_reducible repeat (first | refine bkN ?_ _ | refine bkD ?_ | refine bkA ?_ _)); exact BK217.out) hb); have n10_ := Az.mk (bkB (g := gb223) (o := .cells #[.int .i64 t218, .int .i64 t219, .slice Ao59 t220.length co59] 24 (0, 0)) (by (with_reducible repeat (first | refine bkN ?_ _ | refine bkD ?_ | refine bkA ?_ _)); refine blk_put (cs := #[.int .i64 t218, .int .i64 t219, .slice none 0 0]) ?_ 2 _ rfl; (with_reducible repeat (first | refine bkN ?_ _ | refine bkD ?_ | refine bkA ?_ _)); refine blk_put (cs := #[.int .i64 t218, .int .i64 0, .slice none 0 0]) ?_ 1 _ rfl; (with_reducible repeat (first | refine bkN ?_ _ | refine bkD ?_ | refine bkA ?_ _)); refine blk_put (cs := #[.int .i64 0, .int .i64 0, .slice none 0 0]) ?_ 0 _ rfl; (with_reducible repeat (first | refine bkN ?_ _ | refine bkD ?_ | refine bkA ?_ _)); exact BK223.out) hb); have n11_ := Az.mk (pbT (by repeat (first | (with_reducible first | exact HB.out | apply pbA | apply pbN | apply pb1 | refine pbS ?_ GE195.out | refine pbS ?_ GE209.out | refine pbS ?_ GE217.out | refine pbS ?_ GE223.out) | exact HB.out)) hb); clear HO185; clear HO188; clear HO193; clear HO202; clear HO207; clear HO215; clear HO222; clear BK195; clear BK209; clear BK217; clear BK223; clear HB; have HO185 := n0_; have HO188 := n1_; have HO193 := n2_; have HO202 := n3_; have HO207 := n4_; have HO215 := n5_; have HO222 := n6_; have BK195 := n7_; have BK209 := n8_; have BK217 := n9_; have BK223 := n10_; have HB := n11_; clear n0_ n1_ n2_ n3_ n4_ n5_ n6_ n7_ n8_ n9_ n10_ n11_; (try clear hb); (try clear hb2); (try clear hk); (try clear hi); have hcz63_0 : w62.cell? ⟨gb223, 0, none⟩ = some (.int .i64 t218) := (bkC BK223.out 0).trans rfl; have hcz63_1 : w62.cell? ⟨gb223, 1, none⟩ = some (.int .i64 t219) := (bkC BK223.out 1).trans rfl; have hcz63_2 : w62.cell? ⟨gb223, 2, none⟩ = some (.slice Ao59 t220.length co59) := (bkC BK223.out 2).trans rfl; have hfz63_0 := bkF BK223.out 0; have hfz63_1 := bkF BK223.out 1; have hfz63_2 := bkF BK223.out 2; have hcz64_0 : w62.cell? ⟨gb195, 0, none⟩ = some (.int .i64 t189) := (bkC BK195.out 0).trans rfl; have hcz64_1 : w62.cell? ⟨gb195, 1, none⟩ = some (.int .i64 t190) := (bkC BK195.out 1).trans rfl; have hcz64_2 : w62.cell? ⟨gb195, 2, none⟩ = some (.slice Ao34 t191.length co34) := (bkC BK195.out 2).trans rfl; have hfz64_0 := bkF BK195.out 0; have hfz64_1 := bkF BK195.out 1; have hfz64_2 := bkF BK195.out 2) | (go_at_call 22; (with_reducible refine (roll_Newer.calls k 3 7 t189 t190 _ _ t191 true _ ?side1 ?side2 ?side3 A20.out).mono ?_); (case side1 => exact hG.below (by repeat (first | (with_reducible first | exact HB.out | apply pbA | apply pbN | apply pb1 | refine pbS ?_ GE195.out | refine pbS ?_ GE209.out | refine pbS ?_ GE217.out | refine pbS ?_ GE223.out) | exact HB.out))); (case side2 => repeat (first | exact (Kd.V_reads' HO193.out).2.2 | (with_reducible refine Kd.C_alloc ?_ _) | (with_reducible refine Kd.C_drewN ?_ _) | (with_reducible refine Kd.C_drew ?_))); (case side3 => exact (Kd.V_reads' HO193.out).2.1); rintro e w65 ⟨rfl, hb⟩; have n0_ := Az.mk (Kd.R_below (by (with_reducible repeat (first | apply Kd.R_alloc | apply Kd.R_drewN | apply Kd.R_drew)); exact HO185.out) hb); have n1_ := Az.mk (Kd.R_below (by (with_reducible repeat (first | apply Kd.R_alloc | apply Kd.R_drewN | apply Kd.R_drew)); exact HO188.out) hb); have n2_ := Az.mk (Kd.V_below (by (with_reducible repeat (first | apply Kd.V_alloc | apply Kd.V_drewN | apply Kd.V_drew)); exact HO193.out) hb); have n3_ := Az.mk (Kd.R_below (by (with_reducible repeat (first | apply Kd.R_alloc | apply Kd.R_drewN | apply Kd.R_drew)); exact HO202.out) hb); have n4_ := Az.mk (Kd.V_below (by (with_reducible repeat (first | apply Kd.V_alloc | apply Kd.V_drewN | apply Kd.V_drew)); exact HO207.out) hb); have n5_ := Az.mk (Kd.R_below (by (with_reducible repeat (first | apply Kd.R_alloc | apply Kd.R_drewN | apply Kd.R_drew)); exact HO215.out) hb); have n6_ := Az.mk (Kd.V_below (by (with_reducible repeat (first | apply Kd.V_alloc | apply Kd.V_drewN | apply Kd.V_drew)); exact HO222.out) hb); have n7_ := Az.mk (bkB (g := gb195) (o := .cells #[.int .i64 t189, .int .i64 t190, .slice Ao34 t191.length co34] 24 (0, 0)) (by (with_reducible repeat (first | refine bkN ?_ _ | refine bkD ?_ | refine bkA ?_ _)); exact BK195.out) hb); have n8_ := Az.mk (bkB (g := gb209) (o := .cells #[.int .i64 t203, .int .i64 t204, .slice Ao42 t205.length co42] 24 (0, 0)) (by (with_reducible repeat (first | refine bkN ?_ _ | refine bkD ?_ | refine bkA ?_ _)); exact BK209.out) hb); have n9_ := Az.mk (bkB (g := gb217) (o := .cells #[.int .i64 t211, .int .i64 t212, .slice Ao50 t213.length co50] 24 (0, 0)) (by (with_reducible repeat (first | refine bkN ?_ _ | refine bkD ?_ | refine bkA ?_ _)); exact BK217.out) hb); have n10_ := Az.mk (bkB (g := gb223) (o := .cells #[.int .i64 t218, .int .i64 t219, .slice Ao59 t220.length co59] 24 (0, 0)) (by (with_reducible repeat (first | refine bkN ?_ _ | refine bkD ?_ | refine bkA ?_ _)); exact BK223.out) hb); have n11_ := Az.mk (pbT (by repeat (first | (with_reducible first | exact HB.out | apply pbA | apply pbN | apply pb1 | refine pbS ?_ GE195.out | refine pbS ?_ GE209.out | refine pbS ?_ GE217.out | refine pbS ?_ GE223.out) | exact HB.out)) hb); clear HO185; clear HO188; clear HO193; clear HO202; clear HO207; clear HO215; clear HO222; clear BK195; clear BK209; clear BK217; clear BK223; clear HB; have HO185 := n0_; have HO188 := n1_; have HO193 := n2_; have HO202 := n3_; have HO207 := n4_; have HO215 := n5_; have HO222 := n6_; have BK195 := n7_; have BK209 := n8_; have BK217 := n9_; have BK223 := n10_; have HB := n11_; clear n0_ n1_ n2_ n3_ n4_ n5_ n6_ n7_ n8_ n9_ n10_ n11_; (try clear hb); (try clear hb2); (try clear hk); (try clear hi); have hcz66_0 : w65.cell? ⟨gb195, 0, none⟩ = some (.int .i64 t189) := (bkC BK195.out 0).trans rfl; have hcz66_1 : w65.cell? ⟨gb195, 1, none⟩ = some (.int .i64 t190) := (bkC BK195.out 1).trans rfl; have hcz66_2 : w65.cell? ⟨gb195, 2, none⟩ = some (.slice Ao34 t191.length co34) := (bkC BK195.out 2).trans rfl; have hfz66_0 := bkF BK195.out 0; have hfz66_1 := bkF BK195.out 1; have hfz66_2 := bkF BK195.out 2) | (go_at_call 22; (with_reducible refine (roll_Newer.calls k 2 9 t189 t190 _ _ t191 false _ ?side1 ?side2 ?side3 A22.out).mono ?_); (case side1 => exact hG.below (by repeat (first | (with_reducible first | exact HB.out | apply pbA | apply pbN | apply pb1 | refine pbS ?_ GE195.out | refine pbS ?_ GE209.out | refine pbS ?_ GE217.out | refine pbS ?_ GE223.out) | exact HB.out))); (case side2 => repeat (first | exact (Kd.V_reads' HO193.out).2.2 | (with_reducible refine Kd.C_alloc ?_ _) | (with_reducible refine Kd.C_drewN ?_ _) | (with_reducible refine Kd.C_drew ?_))); (case side3 => exact (Kd.V_reads' HO193.out).2.1); rintro e w67 ⟨rfl, hb⟩; have n0_ := Az.mk (Kd.R_below (by (with_reducible repeat (first | apply Kd.R_alloc | apply Kd.R_drewN | apply Kd.R_drew)); exact HO185.out) hb); have n1_ := Az.mk (Kd.R_below (by (with_reducible repeat (first | apply Kd.R_alloc | apply Kd.R_drewN | apply Kd.R_drew)); exact HO188.out) hb); have n2_ := Az.mk (Kd.V_below (by (with_reducible repeat (first | apply Kd.V_alloc | apply Kd.V_drewN | apply Kd.V_drew)); exact HO193.out) hb); have n3_ := Az.mk (Kd.R_below (by (with_reducible repeat (first | apply Kd.R_alloc | apply Kd.R_drewN | apply Kd.R_drew)); exact HO202.out) hb); have n4_ := Az.mk (Kd.V_below (by (with_reducible repeat (first | apply Kd.V_alloc | apply Kd.V_drewN | apply Kd.V_drew)); exact HO207.out) hb); have n5_ := Az.mk (Kd.R_below (by (with_reducible repeat (first | apply Kd.R_alloc | apply Kd.R_drewN | apply Kd.R_drew)); exact HO215.out) hb); have n6_ := Az.mk (Kd.V_below (by (with_reducible repeat (first | apply Kd.V_alloc | apply Kd.V_drewN | apply Kd.V_drew)); exact HO222.out) hb); have n7_ := Az.mk (bkB (g := gb195) (o := .cells #[.int .i64 t189, .int .i64 t190, .slice Ao34 t191.length co34] 24 (0, 0)) (by (with_reducible repeat (first | refine bkN ?_ _ | refine bkD ?_ | refine bkA ?_ _)); exact BK195.out) hb); have n8_ := Az.mk (bkB (g := gb209) (o := .cells #[.int .i64 t203, .int .i64 t204, .slice Ao42 t205.length co42] 24 (0, 0)) (by (with_reducible repeat (first | refine bkN ?_ _ | refine bkD ?_ | refine bkA ?_ _)); exact BK209.out) hb); have n9_ := Az.mk (bkB (g := gb217) (o := .cells #[.int .i64 t211, .int .i64 t212, .slice Ao50 t213.length co50] 24 (0, 0)) (by (with_reducible repeat (first | refine bkN ?_ _ | refine bkD ?_ | refine bkA ?_ _)); exact BK217.out) hb); have n10_ := Az.mk (bkB (g := gb223) (o := .cells #[.int .i64 t218, .int .i64 t219, .slice Ao59 t220.length co59] 24 (0, 0)) (by (with_reducible repeat (first | refine bkN ?_ _ | refine bkD ?_ | refine bkA ?_ _)); exact BK223.out) hb); have n11_ := Az.mk (pbT (by repeat (first | (with_reducible first | exact HB.out | apply pbA | apply pbN | apply pb1 | refine pbS ?_ GE195.out | refine pbS ?_ GE209.out | refine pbS ?_ GE217.out | refine pbS ?_ GE223.out) | exact HB.out)) hb); clear HO185; clear HO188; clear HO193; clear HO202; clear HO207; clear HO215; clear HO222; clear BK195; clear BK209; clear BK217; clear BK223; clear HB; have HO185 := n0_; have HO188 := n1_; have HO193 := n2_; have HO202 := n3_; have HO207 := n4_; have HO215 := n5_; have HO222 := n6_; have BK195 := n7_; have BK209 := n8_; have BK217 := n9_; have BK223 := n10_; have HB := n11_; clear n0_ n1_ n2_ n3_ n4_ n5_ n6_ n7_ n8_ n9_ n10_ n11_; (try clear hb); (try clear hb2); (try clear hk); (try clear hi)) | (go_at_call 13; (refine (roll_Check.calls k (-1) 0 _ _ ([] : List (S54)) t228 _ ?side1 ?side2 ?side3 A24.out).mono ?_); (case side1 => exact hG.below (by repeat (first | (with_reducible first | exact HB.out | apply pbA | apply pbN | apply pb1 | refine pbS ?_ GE195.out | refine pbS ?_ GE209.out | refine pbS ?_ GE217.out | refine pbS ?_ GE223.out) | exact HB.out))); (case side2 => exact Kd.C_nil _ _); (case side3 => exact Nat.le_refl _); rintro e w68 ⟨rfl, hb⟩; have n0_ := Az.mk (Kd.R_below (by (with_reducible repeat (first | apply Kd.R_alloc | apply Kd.R_drewN | apply Kd.R_drew)); exact HO185.out) hb); have n1_ := Az.mk (Kd.R_below (by (with_reducible repeat (first | apply Kd.R_alloc | apply Kd.R_drewN | apply Kd.R_drew)); exact HO188.out) hb); have n2_ := Az.mk (Kd.V_below (by (with_reducible repeat (first | apply Kd.V_alloc | apply Kd.V_drewN | apply Kd.V_drew)); exact HO193.out) hb); have n3_ := Az.mk (Kd.R_below (by (with_reducible repeat (first | apply Kd.R_alloc | apply Kd.R_drewN | apply Kd.R_drew)); exact HO202.out) hb); have n4_ := Az.mk (Kd.V_below (by (with_reducible repeat (first | apply Kd.V_alloc | apply Kd.V_drewN | apply Kd.V_drew)); exact HO207.out) hb); have n5_ := Az.mk (Kd.R_below (by (with_reducible repeat (first | apply Kd.R_alloc | apply Kd.R_drewN | apply Kd.R_drew)); exact HO215.out) hb); have n6_ := Az.mk (Kd.V_below (by (with_reducible repeat (first | apply Kd.V_alloc | apply Kd.V_drewN | apply Kd.V_drew)); exact HO222.out) hb); have n7_ := Az.mk (bkB (g := gb195) (o := .cells #[.int .i64 t189, .int .i64 t190, .slice Ao34 t191.length co34] 24 (0, 0)) (by (with_reducible repeat (first | refine bkN ?_ _ | refine bkD ?_ | refine bkA ?_ _)); exact BK195.out) hb); have n8_ := Az.mk (bkB (g := gb209) (o := .cells #[.int .i64 t203, .int .i64 t204, .slice Ao42 t205.length co42] 24 (0, 0)) (by (with_reducible repeat (first | refine bkN ?_ _ | refine bkD ?_ | refine bkA ?_ _)); exact BK209.out) hb); have n9_ := Az.mk (bkB (g := gb217) (o := .cells #[.int .i64 t211, .int .i64 t212, .slice Ao50 t213.length co50] 24 (0, 0)) (by (with_reducible repeat (first | refine bkN ?_ _ | refine bkD ?_ | refine bkA ?_ _)); exact BK217.out) hb); have n10_ := Az.mk (bkB (g := gb223) (o := .cells #[.int .i64 t218, .int .i64 t219, .slice Ao59 t220.length co59] 24 (0, 0)) (by (with_reducible repeat (first | refine bkN ?_ _ | refine bkD ?_ | refine bkA ?_ _)); exact BK223.out) hb); have n11_ := Az.mk (pbT (by repeat (first | (with_reducible first | exact HB.out | apply pbA | apply pbN | apply pb1 | refine pbS ?_ GE195.out | refine pbS ?_ GE209.out | refine pbS ?_ GE217.out | refine pbS ?_ GE223.out) | exact HB.out)) hb); clear HO185; clear HO188; clear HO193; clear HO202; clear HO207; clear HO215; clear HO222; clear BK195; clear BK209; clear BK217; clear BK223; clear HB; have HO185 := n0_; have HO188 := n1_; have HO193 := n2_; have HO202 := n3_; have HO207 := n4_; have HO215 := n5_; have HO222 := n6_; have BK195 := n7_; have BK209 := n8_; have BK217 := n9_; have BK223 := n10_; have HB := n11_; clear n0_ n1_ n2_ n3_ n4_ n5_ n6_ n7_ n8_ n9_ n10_ n11_; (try clear hb); (try clear hb2); (try clear hk); (try clear hi)) | (go_at_call 12; (with_reducible refine (l11_num.calls t228 t229 _ ?side1 A25.out).mono ?_); (case side1 => exact hG.below (by repeat (first | (with_reducible first | exact HB.out | apply pbA | apply pbN | apply pb1 | refine pbS ?_ GE195.out | refine pbS ?_ GE209.out | refine pbS ?_ GE217.out | refine pbS ?_ GE223.out) | exact HB.out))); rintro e w' ⟨rfl, ⟨nd, rfl⟩⟩))
                        go_ret
                        exact ⟨by first | rfl | (simp [errW_none, errW_some] <;> rfl) | (simp [*, errW_none, errW_some] <;> rfl), by repeat (first | (with_reducible first | exact HB.out | apply pbA | apply pbN | apply pb1 | refine pbS ?_ GE195.out | refine pbS ?_ GE209.out | refine pbS ?_ GE217.out | refine pbS ?_ GE223.out) | exact HB.out)⟩
                    · replace c21 := Bool.eq_false_iff.mpr c21
                      subst c21
                      have H1 : (some false) = some r := by rw [if_neg (show ¬ (false = true) by decide)] at H; exact H
                      clear H
                      have H := H1
                      clear H1
                      exact absurd (Option.some.inj (H.trans (congrArg some hr))) (by decide)
                  · rw [if_neg c19] at H
                    have c19b0 : ((t220.length : Int) == 1) = false := beq_eq_false_iff_ne.mpr c19
                    have c19b1 : ((t220.length : Int) != 1) = true := bne_iff_ne.mpr c19
                    exact absurd (Option.some.inj (H.trans (congrArg some hr))) (by decide)
                · rw [if_neg c18] at H
                  have c18b0 : (t218 == 6) = false := beq_eq_false_iff_ne.mpr c18
                  have c18b1 : (t218 != 6) = true := bne_iff_ne.mpr c18
                  exact absurd (Option.some.inj (H.trans (congrArg some hr))) (by decide)
              · replace c17 := Bool.eq_false_iff.mpr c17
                subst c17
                have H1 : (some false) = some r := by rw [if_neg (show ¬ (false = true) by decide)] at H; exact H
                clear H
                have H := H1
                clear H1
                exact absurd (Option.some.inj (H.trans (congrArg some hr))) (by decide)
            · rw [if_neg c15] at H
              have c15b0 : (t224 == 0) = false := beq_eq_false_iff_ne.mpr c15
              have c15b1 : (t224 != 0) = true := bne_iff_ne.mpr c15
              exact absurd (Option.some.inj (H.trans (congrArg some hr))) (by decide)
          · rw [if_neg c13] at H
            have c13b0 : ((t191.length : Int) == 3) = false := beq_eq_false_iff_ne.mpr c13
            have c13b1 : ((t191.length : Int) != 3) = true := bne_iff_ne.mpr c13
            exact absurd (Option.some.inj (H.trans (congrArg some hr))) (by decide)
        · rw [if_neg c12] at H
          have c12b0 : (t197 == 3) = false := beq_eq_false_iff_ne.mpr c12
          have c12b1 : (t197 != 3) = true := bne_iff_ne.mpr c12
          exact absurd (Option.some.inj (H.trans (congrArg some hr))) (by decide)
      · rw [if_neg c11] at H
        have c11b0 : (t196 == 7) = false := beq_eq_false_iff_ne.mpr c11
        have c11b1 : (t196 != 7) = true := bne_iff_ne.mpr c11
        exact absurd (Option.some.inj (H.trans (congrArg some hr))) (by decide)
  · replace c9 := Bool.eq_false_iff.mpr c9
    subst c9
    have H1 : (some false) = some r := by rw [if_neg (show ¬ (false = true) by decide)] at H; exact H
    clear H
    have H := H1
    clear H1
    exact absurd (Option.some.inj (H.trans (congrArg some hr))) (by decide)
end Go.Proofs.YtjpihfjgomoijaaDoor.P
end
section
/- live of the statements on roll: it answers true. -/
namespace Go.Proofs.YtjpihfjgomoijaaDoor.P
open Go.RowKit Go.Proofs.YtjpihfjgomoijaaDoor.K Go.Proofs.YtjpihfjgomoijaaDoorW.PrintWords Go.Proofs.YtjpihfjgomoijaaDoorW.PrintLast Go.Proofs.YtjpihfjgomoijaaDoorW.PrintMore
theorem live : l11_liveT.f 60 = some true := by decide +kernel
def l11_live.f : Option Bool := some true
theorem l11_live.calls (r : Bool) (w : World) (hG : TheG w) (h : l11_live.f = some r) :
    Calls Tryd.prog 9 #[] w fun e w' => e = .returned (.bool r) ∧ Below w.heap.size w w' := by
  obtain rfl := Option.some.inj h
  exact l11_liveT.calls 60 true w hG rfl live
end Go.Proofs.YtjpihfjgomoijaaDoor.P
end
