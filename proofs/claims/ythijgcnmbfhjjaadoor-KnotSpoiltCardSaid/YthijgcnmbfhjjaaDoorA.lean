/- Plain facts on decimal numerals and knots: no program in sight. -/
import Derived.Lib.ItoaLen
import Derived.Lib.ParseIntB
import Derived.Lib.IndexMore
import Derived.Lib.Strings
namespace Go.Proofs.YthijgcnmbfhjjaaDoor.A
open Go

/-- Bytes out of a list. -/
def B (l : List UInt8) : ByteArray := ⟨l.toArray⟩
theorem B_data (l : List UInt8) : (B l).data.toList = l := by simp [B]
theorem B_toList (l : List UInt8) : (B l).toList = l := by rw [Lib.toList_data, B_data]
theorem B_of (s : ByteArray) : B s.data.toList = s := by simp [B]
theorem B_size (l : List UInt8) : (B l).size = l.length := by simp [B, ByteArray.size]
theorem B_inj {a b : List UInt8} (h : B a = B b) : a = b := by rw [← B_data a, h, B_data]
theorem ext_data {a b : ByteArray} (h : a.data.toList = b.data.toList) : a = b := by rw [← B_of a, h, B_of]
theorem B_append (a b : List UInt8) : B a ++ B b = B (a ++ b) := ext_data (by rw [ByteArray.data_append, Array.toList_append, B_data, B_data, B_data])
theorem data_append (a b : ByteArray) : (a ++ b).data.toList = a.data.toList ++ b.data.toList := by rw [ByteArray.data_append, Array.toList_append]
theorem B_extract (l : List UInt8) (a b : Nat) : (B l).extract a b = B ((l.drop a).take (b - a)) := ext_data (by rw [Lib.extract_data, B_data, B_data])

/-! ### digits -/
def isD (c : UInt8) : Prop := 48 ≤ c.toNat ∧ c.toNat ≤ 57
def dval (a : Nat) (l : List UInt8) : Nat := l.foldl (fun a c => 10 * a + (c.toNat - 48)) a
theorem dval_snoc (a : Nat) (l : List UInt8) (c : UInt8) : dval a (l ++ [c]) = 10 * dval a l + (c.toNat - 48) := by simp [dval, List.foldl_append]
theorem dval_mono (l : List UInt8) : ∀ a, a ≤ dval a l := by
  induction l with
  | nil => intro a; exact Nat.le_refl _
  | cons c l ih => intro a; exact Nat.le_trans (by omega) (ih (10 * a + (c.toNat - 48)))
theorem ofNat_toNat {u : Nat} (h : u < 10) : (UInt8.ofNat (48 + u)).toNat = 48 + u := by
  rw [UInt8.toNat_ofNat']; omega
theorem decDigits_isD (u : Nat) : ∀ c ∈ Lib.decDigits u, isD c := by
  induction u using Nat.strongRecOn with
  | _ u ih =>
    intro c hc
    rw [Lib.decDigits] at hc
    split at hc
    · rename_i h
      simp only [List.mem_singleton] at hc
      subst hc
      unfold isD
      rw [ofNat_toNat h]; omega
    · rename_i h
      rw [List.mem_append, List.mem_singleton] at hc
      rcases hc with hc | rfl
      · exact ih (u / 10) (by omega) c hc
      · unfold isD
        rw [ofNat_toNat (Nat.mod_lt _ (by omega))]; omega
theorem decDigits_ne (u : Nat) : Lib.decDigits u ≠ [] := by
  rw [Lib.decDigits]; split <;> simp
theorem decDigits_val (u : Nat) : dval 0 (Lib.decDigits u) = u := by
  induction u using Nat.strongRecOn with
  | _ u ih =>
    rw [Lib.decDigits]
    split
    · rename_i h
      simp only [dval, List.foldl_cons, List.foldl_nil]
      rw [ofNat_toNat h]; omega
    · rename_i h
      rw [dval_snoc, ih (u / 10) (by omega), ofNat_toNat (Nat.mod_lt _ (by omega))]; omega
theorem head?_app {α : Type} {l m : List α} (h : l ≠ []) : (l ++ m).head? = l.head? := by
  cases l with
  | nil => exact absurd rfl h
  | cons _ _ => rfl
theorem decDigits_head (u : Nat) (h : 10 ≤ u) : (Lib.decDigits u).head? ≠ some 48 := by
  induction u using Nat.strongRecOn with
  | _ u ih =>
    rw [Lib.decDigits, dif_neg (by omega)]
    rw [head?_app (decDigits_ne _)]
    by_cases h' : 10 ≤ u / 10
    · exact ih _ (by omega) h'
    · rw [Lib.decDigits, dif_pos (by omega)]
      simp only [List.head?_cons, ne_eq, Option.some.injEq]
      intro e
      have := congrArg UInt8.toNat e
      rw [ofNat_toNat (by omega)] at this
      simp at this
      omega
theorem ofNat_sub {c : UInt8} (h : isD c) : UInt8.ofNat (48 + (c.toNat - 48)) = c := by
  unfold isD at h
  apply UInt8.toNat.inj
  rw [UInt8.toNat_ofNat']
  omega
theorem snoc_cases {α : Type} (l : List α) (h : l ≠ []) : ∃ l' c, l = l' ++ [c] := ⟨l.dropLast, l.getLast h, (List.dropLast_concat_getLast h).symm⟩
theorem dval_pos {l : List UInt8} (hd : ∀ c ∈ l, isD c) (h0 : l ≠ []) (h : l.head? ≠ some 48) : 1 ≤ dval 0 l := by
  cases l with
  | nil => exact absurd rfl h0
  | cons c r =>
    have hc := hd c (by simp)
    unfold isD at hc
    have : c.toNat ≠ 48 := fun e => h (by simp only [List.head?_cons, Option.some.injEq]; exact UInt8.toNat.inj e)
    have hm := dval_mono r (10 * 0 + (c.toNat - 48))
    show 1 ≤ dval (10 * 0 + (c.toNat - 48)) r
    omega
/-- Digits without a zero at the front are a number's. -/
theorem decDigits_of (n : Nat) : ∀ l : List UInt8, l.length = n → (∀ c ∈ l, isD c) → l ≠ [] → (1 < l.length → l.head? ≠ some 48) → l = Lib.decDigits (dval 0 l) := by
  induction n with
  | zero => intro l hl _ h0; exact absurd (List.eq_nil_of_length_eq_zero hl) h0
  | succ n ih =>
    intro l hl hd h0 hz
    obtain ⟨l', c, rfl⟩ := snoc_cases l h0
    have hc := hd c (by simp)
    rw [dval_snoc]
    by_cases hl' : l' = []
    · subst hl'
      unfold isD at hc
      rw [Lib.decDigits, dif_pos (by simp [dval]; omega)]
      simp only [dval, List.foldl_nil, List.nil_append]
      rw [show 10 * 0 + (c.toNat - 48) = c.toNat - 48 by omega, ofNat_sub (by unfold isD; exact hc)]
    · have hz' : l'.head? ≠ some 48 := by
        have hlen : 1 < (l' ++ [c]).length := by
          have := List.length_pos_iff.2 hl'
          simp; omega
        have := hz hlen
        rwa [head?_app hl'] at this
      have hd' : ∀ x ∈ l', isD x := fun x hx => hd x (by simp [hx])
      have hp := dval_pos hd' hl' hz'
      have hcc := hc
      unfold isD at hcc
      rw [Lib.decDigits, dif_neg (by omega)]
      have e1 : (10 * dval 0 l' + (c.toNat - 48)) / 10 = dval 0 l' := by omega
      have e2 : (10 * dval 0 l' + (c.toNat - 48)) % 10 = c.toNat - 48 := by omega
      rw [e1, e2, ofNat_sub hc, ← ih l' (by simp at hl; exact hl) hd' hl' (fun _ => hz')]

/-! ### the number of a text -/
def isI (n : Int) : Prop := -9223372036854775808 ≤ n ∧ n ≤ 9223372036854775807
theorem parse_digits (M : Nat) (hM : M ≤ 18446744073709551615) : ∀ (l : List UInt8) (a : Nat), (∀ c ∈ l, isD c) → dval a l ≤ M → Lib.parseUintM M a l = .ok (dval a l)
  | [], a, _, _ => rfl
  | c :: r, a, hd, hv => by
    have hc := hd c (by simp)
    unfold isD at hc
    have hm := dval_mono r (10 * a + (c.toNat - 48))
    have hv' : dval (10 * a + (c.toNat - 48)) r ≤ M := hv
    simp only [Lib.parseUintM]
    rw [if_pos hc, if_neg (by omega), if_neg (by omega), show a * 10 + (c.toNat - 48) = 10 * a + (c.toNat - 48) by omega]
    exact parse_digits M hM r _ (fun x hx => hd x (by simp [hx])) hv'
theorem parse_itoa (n : Int) (h : isI n) : Lib.parseIntB 64 (Lib.itoa n) = .ok n := by
  unfold isI at h
  unfold Lib.itoa
  have e64 : (2 : Nat) ^ 64 - 1 = 18446744073709551615 := rfl
  have e63 : (2 : Nat) ^ (64 - 1) = 9223372036854775808 := rfl
  split
  · rename_i hn
    simp only [Lib.parseIntB]
    rw [if_pos (by right; rfl)]
    unfold Lib.parseUintB
    rw [if_neg (decDigits_ne _), parse_digits _ (by rw [e64]; exact Nat.le_refl _) _ _ (decDigits_isD _) (by rw [decDigits_val, e64]; omega), decDigits_val]
    simp only []
    have hneg : (45 : UInt8).toNat = 45 := rfl
    rw [if_neg (by intro hh; exact hh.1 hneg), if_neg (by intro hh; rw [e63] at hh; omega), if_pos hneg]
    congr 1
    omega
  · rename_i hn
    cases hD : Lib.decDigits n.toNat with
    | nil => exact absurd hD (decDigits_ne _)
    | cons c r =>
      have hc : isD c := decDigits_isD n.toNat c (by rw [hD]; simp)
      unfold isD at hc
      simp only [Lib.parseIntB]
      rw [if_neg (by omega), ← hD]
      unfold Lib.parseUintB
      rw [if_neg (decDigits_ne _), parse_digits _ (by rw [e64]; exact Nat.le_refl _) _ _ (decDigits_isD _) (by rw [decDigits_val, e64]; omega), decDigits_val]
      simp only []
      rw [if_neg (by intro hh; rw [e63] at hh; omega), if_neg (by intro hh; omega), if_neg (by omega)]
      congr 1
      omega
/-- The number of a text, if there is one. -/
def pz (l : List UInt8) : Option Int := match Lib.parseIntB 64 l with
  | .ok v => if Lib.itoa v = l then some v else none
  | _ => none
theorem pz_itoa {n : Int} (h : isI n) : pz (Lib.itoa n) = some n := by
  unfold pz; rw [parse_itoa n h]; simp
theorem pz_some {l : List UInt8} {n : Int} (h : pz l = some n) : l = Lib.itoa n := by
  unfold pz at h
  split at h
  · split at h
    · rename_i e; injection h with h; subst h; exact e.symm
    · exact absurd h (by simp)
  · exact absurd h (by simp)
theorem itoa_inj {a b : Int} (ha : isI a) (hb : isI b) (h : Lib.itoa a = Lib.itoa b) : a = b := by
  have h1 := pz_itoa ha
  rw [h, pz_itoa hb] at h1
  injection h1 with h1
  exact h1.symm
theorem itoa_nat (n : Nat) : Lib.itoa (n : Int) = Lib.decDigits n := by
  unfold Lib.itoa; rw [if_neg (by omega)]; simp

/-! ### strands -/
theorem occAt_one (l : List UInt8) (c : UInt8) (i : Nat) : Lib.occAt l [c] i = (l[i]? == some c) := by
  have e : l[i]? = (l.drop i)[0]? := by simp
  unfold Lib.occAt
  rw [e]
  cases l.drop i with
  | nil => simp [List.isPrefixOf]
  | cons b t => simp only [List.isPrefixOf, Bool.and_true, List.getElem?_cons_zero]; simp only [Option.some_beq_some]; exact BEq.comm
theorem cut_hit (a b : List UInt8) (h : (58 : UInt8) ∉ a) : Lib.cut (a ++ 58 :: b) [58] = (a, b, true) := by
  have hi : Lib.index (a ++ 58 :: b) [58] = (a.length : Int) := by
    refine Lib.index_first (by simp) (by rw [occAt_one]; simp) ?_
    intro j hj
    rw [occAt_one, beq_eq_false_iff_ne]
    rw [List.getElem?_append_left hj]
    intro e
    exact h (List.mem_of_getElem? e)
  unfold Lib.cut
  rw [hi, if_pos (by omega)]
  simp
theorem cut_miss (l : List UInt8) (h : (58 : UInt8) ∉ l) : Lib.cut l [58] = (l, [], false) := by
  have hi : Lib.index l [58] = -1 := by
    refine Lib.index_none fun j _ => ?_
    rw [occAt_one, beq_eq_false_iff_ne]
    intro e
    exact h (List.mem_of_getElem? e)
  unfold Lib.cut
  rw [hi, if_neg (by omega)]
/-- What stands ahead of the first colon. -/
theorem colon (l : List UInt8) : ((58 : UInt8) ∉ l) ∨ ∃ a b, l = a ++ 58 :: b ∧ (58 : UInt8) ∉ a := by
  induction l with
  | nil => exact .inl (by simp)
  | cons c l ih =>
    by_cases hc : c = 58
    · exact .inr ⟨[], l, by simp [hc], by simp⟩
    · rcases ih with h | ⟨a, b, rfl, h⟩
      · exact .inl (by simp only [List.mem_cons, not_or]; exact ⟨fun e => hc e.symm, h⟩)
      · exact .inr ⟨c :: a, b, rfl, by simp only [List.mem_cons, not_or]; exact ⟨fun e => hc e.symm, h⟩⟩
def strand (x : List UInt8) : List UInt8 := Lib.itoa (x.length : Int) ++ 58 :: (x ++ [44])
def firstL (l : List UInt8) : Option (List UInt8 × List UInt8) :=
  match pz (Lib.cut (l.take 1048576) [58]).1 with
  | some n => if (Lib.cut (l.take 1048576) [58]).2.2 = true ∧ 0 ≤ n ∧ (Lib.cut (l.take 1048576) [58]).2.1[n.toNat]? = some 44 then
      some ((Lib.cut (l.take 1048576) [58]).2.1.take n.toNat, l.drop ((Lib.cut (l.take 1048576) [58]).1.length + 1 + n.toNat + 1)) else none
  | none => none
theorem itoa_no58 (n : Nat) : (58 : UInt8) ∉ Lib.itoa (n : Int) := by
  rw [itoa_nat]
  intro h
  have := decDigits_isD n 58 h
  unfold isD at this
  have e : (58 : UInt8).toNat = 58 := rfl
  omega
theorem strand_length (x : List UInt8) : (strand x).length = (Lib.itoa (x.length : Int)).length + x.length + 2 := by
  simp [strand]; omega
theorem firstL_strand (x r : List UInt8) (h : (strand x).length ≤ 1048576) : firstL (strand x ++ r) = some (x, r) := by
  have hl := strand_length x
  have ht : (strand x ++ r).take 1048576 = Lib.itoa (x.length : Int) ++ 58 :: (x ++ [44] ++ r.take (1048576 - (strand x).length)) := by
    rw [List.take_append, List.take_of_length_le h]
    simp [strand]
  unfold firstL
  rw [ht, cut_hit _ _ (itoa_no58 _)]
  simp only [pz_itoa (n := (x.length : Int)) (by unfold isI; omega)]
  rw [if_pos ⟨by trivial, by omega, by simp⟩]
  simp only [Int.toNat_natCast, Option.some.injEq, Prod.mk.injEq]
  constructor
  · simp
  · rw [show (Lib.itoa (x.length : Int)).length + 1 + x.length + 1 = (strand x).length by omega]
    simp
theorem firstL_some {l x r : List UInt8} (h : firstL l = some (x, r)) : l = strand x ++ r ∧ (strand x).length ≤ 1048576 := by
  unfold firstL at h
  rcases colon (l.take 1048576) with hn | ⟨a, b, hab, hna⟩
  · rw [cut_miss _ hn] at h
    split at h
    · simp at h
    · exact absurd h (by simp)
  · rw [hab, cut_hit _ _ hna] at h
    simp only at h
    split at h
    · rename_i n hp
      split at h
      · rename_i hc
        obtain ⟨_, h0, h44⟩ := hc
        simp only [Option.some.injEq, Prod.mk.injEq] at h
        obtain ⟨hx, hr⟩ := h
        obtain ⟨m, rfl⟩ : ∃ m : Nat, n = m := ⟨n.toNat, by omega⟩
        simp only [Int.toNat_natCast] at h44 hx hr
        have ha := pz_some hp
        obtain ⟨hm, h44'⟩ := List.getElem?_eq_some_iff.1 h44
        have hxl : x.length = m := by rw [← hx, List.length_take]; omega
        have hb : b = x ++ 44 :: b.drop (m + 1) := by
          rw [← hx]
          conv => lhs; rw [← List.take_append_drop m b, List.drop_eq_getElem_cons hm, h44']
        have hs : strand x = a ++ 58 :: (x ++ [44]) := by unfold strand; rw [hxl, ← ha]
        have htl : l.take 1048576 = strand x ++ b.drop (m + 1) := by
          rw [hab, hs]
          conv => lhs; rw [hb]
          simp
        have hlen : (strand x).length = a.length + 1 + m + 1 := by rw [hs]; simp [hxl]; omega
        have hle : (strand x).length ≤ (l.take 1048576).length := by rw [htl, List.length_append]; omega
        rw [List.length_take] at hle
        refine ⟨?_, by omega⟩
        rw [← hr, ← hlen]
        conv => lhs; rw [← List.take_append_drop (strand x).length l]
        congr 1
        have := congrArg (List.take (strand x).length) htl
        rw [List.take_take, List.take_left, Nat.min_eq_left (by omega)] at this
        exact this
      · exact absurd h (by simp)
    · exact absurd h (by simp)

/-! ### knots -/
def tie (ss : List (List UInt8)) : List UInt8 := (ss.map strand).flatten
theorem tie_cons (x : List UInt8) (ss : List (List UInt8)) : tie (x :: ss) = strand x ++ tie ss := rfl
theorem tie_append (a b : List (List UInt8)) : tie (a ++ b) = tie a ++ tie b := by simp [tie]
def untieF : Nat → List UInt8 → Option (List (List UInt8))
  | 0, _ => none
  | k + 1, l => if l = [] then some [] else match firstL l with
    | some (x, r) => (untieF k r).map (x :: ·)
    | none => none
theorem strand_ne (x : List UInt8) : strand x ≠ [] := by intro h; have := strand_length x; rw [h] at this; simp at this
theorem untieF_tie : ∀ (ss : List (List UInt8)) (k : Nat), ss.length < k → (tie ss).length ≤ 1048576 → untieF k (tie ss) = some ss
  | [], k + 1, _, _ => by simp [untieF, tie]
  | x :: ss, k + 1, hk, hl => by
    rw [tie_cons, List.length_append] at hl
    show untieF (k + 1) (strand x ++ tie ss) = _
    simp only [untieF]
    rw [if_neg (by simp [strand_ne]), firstL_strand x _ (by omega)]
    simp only [untieF_tie ss k (by simp at hk; omega) (by omega), Option.map_some]
  | [], 0, hk, _ => by simp at hk
  | _ :: _, 0, hk, _ => by simp at hk
theorem untieF_some : ∀ (k : Nat) (l : List UInt8) (ss : List (List UInt8)), untieF k l = some ss → l = tie ss
  | 0, _, _, h => by simp [untieF] at h
  | k + 1, l, ss, h => by
    simp only [untieF] at h
    split at h
    · rename_i hl
      injection h with h
      subst h; exact hl
    · split at h
      · rename_i x r hf
        rw [Option.map_eq_some_iff] at h
        obtain ⟨tt, ht, rfl⟩ := h
        rw [tie_cons, ← untieF_some k r tt ht]
        exact (firstL_some hf).1
      · exact absurd h (by simp)
theorem tie_count (ss : List (List UInt8)) : ss.length ≤ (tie ss).length := by
  induction ss with
  | nil => simp
  | cons x ss ih => rw [tie_cons, List.length_append, List.length_cons, strand_length]; omega
def untieL (l : List UInt8) : Option (List (List UInt8)) :=
  if l.length ≤ 1048576 then (match untieF (l.length + 1) l with | some ss => if ss.length ≤ 4096 then some ss else none | none => none) else none
theorem untieL_tie (ss : List (List UInt8)) (h1 : ss.length ≤ 4096) (h2 : (tie ss).length ≤ 1048576) : untieL (tie ss) = some ss := by
  unfold untieL
  rw [if_pos h2, untieF_tie ss _ (by have := tie_count ss; omega) h2]
  simp [h1]
theorem untieL_some {l : List UInt8} {ss : List (List UInt8)} (h : untieL l = some ss) : l = tie ss ∧ ss.length ≤ 4096 ∧ l.length ≤ 1048576 := by
  unfold untieL at h
  split at h
  · rename_i hl
    split at h
    · rename_i tt ht
      split at h
      · rename_i hc
        injection h with h
        subst h
        exact ⟨untieF_some _ _ _ ht, hc, hl⟩
      · exact absurd h (by simp)
    · exact absurd h (by simp)
  · exact absurd h (by simp)
theorem tie_inj : ∀ {a b : List (List UInt8)}, (tie a).length ≤ 1048576 → tie a = tie b → a = b
  | [], [], _, _ => rfl
  | [], y :: b, _, h => by rw [tie_cons] at h; exact absurd h.symm (by simp [tie, strand_ne])
  | x :: a, [], _, h => by rw [tie_cons] at h; exact absurd h (by simp [tie, strand_ne])
  | x :: a, y :: b, hl, h => by
    rw [tie_cons, tie_cons] at h
    rw [tie_cons, List.length_append] at hl
    have h1 := firstL_strand x (tie a) (by omega)
    have hl2 := congrArg List.length h
    rw [List.length_append, List.length_append] at hl2
    have h2 := firstL_strand y (tie b) (by omega)
    rw [h, h2] at h1
    injection h1 with h1
    injection h1 with hx ht
    rw [hx, tie_inj (by omega) ht.symm]

/-! ### a strand's front, digit by digit -/
theorem dval_lt (l : List UInt8) (hd : ∀ c ∈ l, isD c) : dval 0 l < 10 ^ l.length := by
  have key : ∀ (n : Nat) (l : List UInt8), l.length = n → (∀ c ∈ l, isD c) → dval 0 l < 10 ^ n := by
    intro n
    induction n with
    | zero => intro l hl _; rw [List.eq_nil_of_length_eq_zero hl]; simp [dval]
    | succ n ih =>
      intro l hl hd
      obtain ⟨l', c, rfl⟩ := snoc_cases l (by intro e; rw [e] at hl; simp at hl)
      have h1 := ih l' (by simpa using hl) (fun x hx => hd x (by simp [hx]))
      have h2 := hd c (by simp)
      unfold isD at h2
      rw [dval_snoc, Nat.pow_succ]
      omega
  exact key _ l rfl hd
theorem nDigits_le7 (n : Nat) (h : n ≤ 1048576) : (Lib.decDigits n).length ≤ 7 := by
  rw [Lib.decDigits_length]
  have := Lib.nDigits_unique
  by_cases h0 : Lib.nDigits n ≤ 7
  · exact h0
  · have h1 : 10 ^ 7 ≤ n := by
      have key : ∀ (u : Nat), 10 ^ (Lib.nDigits u - 1) ≤ u ∨ u = 0 := by
        intro u
        induction u using Nat.strongRecOn with
        | _ u ih =>
          by_cases hu : u < 10
          · rw [Lib.nDigits_small hu]; omega
          · rw [Lib.nDigits_big hu]
            have hp := Lib.nDigits_pos (u / 10)
            rcases ih (u / 10) (by omega) with h | h
            · left
              obtain ⟨j, hj⟩ : ∃ j, Lib.nDigits (u / 10) = j + 1 := ⟨Lib.nDigits (u / 10) - 1, by omega⟩
              rw [hj] at h ⊢
              simp only [Nat.add_sub_cancel] at h ⊢
              rw [Nat.pow_succ]; omega
            · omega
      rcases key n with h | h
      · exact Nat.le_trans (Nat.pow_le_pow_right (by omega) (by omega)) h
      · subst h; rw [Lib.nDigits_small (by omega)] at h0; omega
    omega
theorem ref_first (l : List UInt8) (k : Nat) (hk : k ≤ l.length) (hk8 : k ≤ 8) (hd : ∀ c ∈ l.take k, isD c) (hstop : ∀ c, l[k]? = some c → k < 8 → ¬ isD c) :
    firstL l = if k ≠ 0 ∧ l[k]? = some 58 ∧ ¬ (1 < k ∧ l.head? = some 48) ∧ dval 0 (l.take k) + k + 2 ≤ l.length ∧ dval 0 (l.take k) + k + 2 ≤ 1048576 ∧ l[k + 1 + dval 0 (l.take k)]? = some 44
      then some ((l.drop (k + 1)).take (dval 0 (l.take k)), l.drop (k + 2 + dval 0 (l.take k))) else none := by
  generalize hn : dval 0 (l.take k) = n
  split
  · rename_i hc
    obtain ⟨h0, h58, hz, hl1, hl2, h44⟩ := hc
    have hD : l.take k = Lib.decDigits n := by
      rw [← hn]
      refine decDigits_of _ _ rfl hd (by intro e; have := congrArg List.length e; rw [List.length_take, List.length_nil] at this; omega) ?_
      intro hlen
      rw [List.length_take] at hlen
      rw [List.head?_take, if_neg h0]
      intro e
      exact hz ⟨by omega, e⟩
    have hx : ((l.drop (k + 1)).take n).length = n := by rw [List.length_take, List.length_drop]; omega
    have hs : l = strand ((l.drop (k + 1)).take n) ++ l.drop (k + 2 + n) := by
      unfold strand
      rw [hx, itoa_nat, ← hD]
      conv => lhs; rw [← List.take_append_drop k l]
      rw [List.append_assoc]
      congr 1
      obtain ⟨hk', e58⟩ := List.getElem?_eq_some_iff.1 h58
      rw [List.drop_eq_getElem_cons hk', e58, List.cons_append]
      congr 1
      conv => lhs; rw [← List.take_append_drop n (l.drop (k + 1))]
      rw [List.append_assoc]
      congr 1
      rw [List.drop_drop]
      obtain ⟨hk2, e44⟩ := List.getElem?_eq_some_iff.1 h44
      rw [List.drop_eq_getElem_cons hk2, e44]
      simp only [List.cons_append, List.nil_append]
      congr 2
      omega
    conv => lhs; rw [hs]
    refine firstL_strand _ _ ?_
    rw [strand_length, hx, itoa_nat, ← hD, List.length_take]
    omega
  · rename_i hc
    cases hf : firstL l with
    | none => rfl
    | some p =>
      obtain ⟨x, r⟩ := p
      exfalso
      apply hc
      obtain ⟨hl, hlen⟩ := firstL_some hf
      have hsl := strand_length x
      have hm := nDigits_le7 x.length (by omega)
      have hno := itoa_no58 x.length
      rw [itoa_nat] at hsl hno
      have hl' : l = Lib.decDigits x.length ++ 58 :: (x ++ 44 :: r) := by rw [hl]; unfold strand; rw [itoa_nat]; simp
      have hk1 : k = (Lib.decDigits x.length).length := by
        rcases Nat.lt_trichotomy k (Lib.decDigits x.length).length with h | h | h
        · exfalso
          refine hstop ((Lib.decDigits x.length)[k]) ?_ (by omega) (decDigits_isD _ _ (List.getElem_mem h))
          rw [hl', List.getElem?_append_left h, List.getElem?_eq_getElem h]
        · exact h
        · exfalso
          have h58 : (58 : UInt8) ∈ l.take k := by
            rw [hl', List.take_append, List.take_of_length_le (by omega)]
            rw [show k - (Lib.decDigits x.length).length = (k - (Lib.decDigits x.length).length - 1) + 1 by omega, List.take_succ_cons]
            simp
          have := hd 58 h58
          unfold isD at this
          have e : (58 : UInt8).toNat = 58 := rfl
          omega
      have ht : l.take k = Lib.decDigits x.length := by rw [hk1, hl']; simp
      have hnx : n = x.length := by rw [← hn, ht, decDigits_val]
      subst hnx
      have hll : l.length = k + 1 + x.length + 1 + r.length := by rw [hl', hk1]; simp; omega
      have hne := decDigits_ne x.length
      have hpos := List.length_pos_iff.2 hne
      refine ⟨by omega, ?_, ?_, by omega, by omega, ?_⟩
      · rw [hk1, hl']; simp
      · rintro ⟨h1, h2⟩
        rw [hl', head?_app hne] at h2
        by_cases h10 : 10 ≤ x.length
        · exact decDigits_head _ h10 h2
        · rw [hk1, Lib.decDigits, dif_pos (by omega)] at h1; simp at h1
      · rw [hl', hk1, List.getElem?_append_right (by omega), show (Lib.decDigits x.length).length + 1 + x.length - (Lib.decDigits x.length).length = x.length + 1 by omega]
        simp
end Go.Proofs.YthijgcnmbfhjjaaDoor.A
