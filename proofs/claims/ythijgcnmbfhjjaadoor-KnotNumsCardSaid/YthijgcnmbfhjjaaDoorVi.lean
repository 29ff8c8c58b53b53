/- The reference's Int, told plainly. -/
import Derived.Test.YthijgcnmbfhjjaaDoorV
import Derived.Test.YthijgcnmbfhjjaaDoorPx2
import Derived.OpenShut
namespace Go.Proofs.YthijgcnmbfhjjaaDoor.V
open Go.RowKit Go.Proofs.YthijgcnmbfhjjaaDoorW.PrintWords Go.Proofs.YthijgcnmbfhjjaaDoorW.PrintLast Go.Proofs.YthijgcnmbfhjjaaDoorW.PrintMore Go.Proofs.YthijgcnmbfhjjaaDoor.P Go.Proofs.YthijgcnmbfhjjaaDoor.K Go.Proofs.YthijgcnmbfhjjaaDoor.A
theorem isI_wf {n : Int} (h : (Lit.int .i64 n).wf = true) : isI n := by
  exact bounds_i64 h
/-- The digits of a text, one by one, as the reference goes. -/
def scan (n : Nat) : List UInt8 → Option Nat
  | [] => some n
  | c :: r => if c.toNat < 48 then none else if 57 < c.toNat then none else if 1152921504606846976 < n then none else scan (10 * n + (c.toNat - 48)) r
theorem scan_digits : ∀ (l : List UInt8) (n : Nat), (∀ c ∈ l, isD c) → dval n l ≤ 9223372036854775808 → scan n l = some (dval n l)
  | [], n, _, _ => rfl
  | c :: r, n, hd, hv => by
    have hc := hd c (by simp)
    unfold isD at hc
    have hm := dval_mono r (10 * n + (c.toNat - 48))
    have hv' : dval (10 * n + (c.toNat - 48)) r ≤ 9223372036854775808 := hv
    simp only [scan]
    rw [if_neg (by omega), if_neg (by omega), if_neg (by omega)]
    exact scan_digits r _ (fun x hx => hd x (by simp [hx])) hv'
theorem bits_not_u64 (n : Nat) (h : n ≤ 18446744073709551615) : Go.bits .xor .u64 (-1) (n : Int) = 18446744073709551615 - (n : Int) := by
  have hx : BitVec.ofInt 64 (-1) = BitVec.allOnes 64 := by decide
  show IntKind.u64.wrap (((BitVec.ofInt 64 (-1) ^^^ BitVec.ofInt 64 (n : Int)).toNat : Nat) : Int) = _
  rw [hx, BitVec.allOnes_xor, BitVec.toNat_not, BitVec.toNat_ofInt, IntKind.wrap_u64]
  omega
/-- The number that the reference makes of the digits' number. -/
def signed (neg : Bool) (m : Nat) : Int := if neg = true then wrap64 (IntKind.u64.wrap ((Go.bits .xor .u64 (-1) (m : Int)) + 1)) else wrap64 (m : Int)
theorem signed_neg (m : Nat) (h : m ≤ 9223372036854775808) : signed true m = -(m : Int) := by
  unfold signed
  rw [if_pos rfl, bits_not_u64 m (by omega), IntKind.wrap_u64]
  unfold wrap64
  omega
theorem signed_pos (m : Nat) (h : m ≤ 9223372036854775807) : signed false m = (m : Int) := by
  unfold signed
  rw [if_neg (by simp)]
  unfold wrap64
  omega
theorem wrap64_isI (n : Int) : isI (wrap64 n) := by unfold isI wrap64; omega
theorem signed_isI (b : Bool) (m : Nat) : isI (signed b m) := by unfold signed; split <;> exact wrap64_isI _
def fin (s : ByteArray) (neg : Bool) (o : Option Nat) : Int × Int := match o with
  | some m => if B (Lib.itoa (signed neg m)) = s then (signed neg m, 0) else (0, 10)
  | none => (0, 10)
theorem rnum_eq {n : Int} (h : isI n) : furlongref01_Num.f n = some (B (Lib.itoa n)) := by
  unfold furlongref01_Num.f; rw [if_pos h.1, if_pos h.2]; rfl
theorem step_bound {n c : Nat} (h2 : ¬ 57 < c) (h3 : ¬ 1152921504606846976 < n) : 10 * n + (c - 48) ≤ 11529215046068469769 := by omega
theorem step_wrap {n c : Nat} (h1 : ¬ c < 48) (h2 : ¬ 57 < c) (h3 : ¬ 1152921504606846976 < n) : IntKind.u64.wrap ((IntKind.u64.wrap (10 * (n : Int))) + (((c : Int) - 48) % 256)) = ((10 * n + (c - 48) : Nat) : Int) := by
  rw [IntKind.wrap_u64, IntKind.wrap_u64]; omega
theorem big_int {n : Nat} (h : 1152921504606846976 < n) : (n : Int) > 1152921504606846976 := by omega
theorem not_big_int {n : Nat} (h : ¬ 1152921504606846976 < n) : ¬ (n : Int) > 1152921504606846976 := by omega
theorem wrap_succ (i : Nat) (h : i ≤ 100) : wrap64 ((i : Int) + 1) = ((i + 1 : Nat) : Int) := by unfold wrap64; omega
theorem cast_lt48 {c : Nat} (h : c < 48) : (c : Int) < 48 := by omega
theorem cast_nlt48 {c : Nat} (h : ¬ c < 48) : ¬ (c : Int) < 48 := by omega
theorem cast_gt57 {c : Nat} (h : 57 < c) : (c : Int) > 57 := by omega
theorem cast_ngt57 {c : Nat} (h : ¬ 57 < c) : ¬ (c : Int) > 57 := by omega
theorem rint_loop (s : ByteArray) (neg : Bool) (x : ByteArray) (hx : x.size ≤ 20) (d : Nat) : ∀ (i n : Nat), x.size - i = d → i ≤ x.size → n ≤ 11529215046068469769 →
    Ev (fun k => furlongref01_Int.l0 k s neg x (n : Int) (i : Int)) (fin s neg (scan n (x.data.toList.drop i))) := by
  have hz := Lib.size_eq x
  induction d with
  | zero =>
    intro i n hd hi hn
    rw [List.drop_of_length_le (by omega)]
    simp only [scan, fin]
    refine Ev.step (f := fun _ => some (if B (Lib.itoa (signed neg n)) = s then (signed neg n, 0) else (0, 10))) (fun k => ?_) (Ev.now _)
    simp only [furlongref01_Int.l0]
    rw [if_neg (by omega)]
    by_cases hb : neg = true
    · rw [if_pos hb]
      have e : wrap64 (IntKind.u64.wrap ((Go.bits .xor .u64 (-1) (n : Int)) + 1)) = signed neg n := by unfold signed; rw [if_pos hb]
      rw [e, rnum_eq (signed_isI _ _)]
      simp only [Option.bind_some, toList_inj]
      split <;> rfl
    · rw [if_neg hb]
      have e : wrap64 (n : Int) = signed neg n := by unfold signed; rw [if_neg hb]
      rw [e, rnum_eq (signed_isI _ _)]
      simp only [Option.bind_some, toList_inj]
      split <;> rfl
  | succ d ih =>
    intro i n hd hi hn
    have hlt : i < x.size := by omega
    have hi1 : x.size - (i + 1) = d := by omega
    have hi2 : i + 1 ≤ x.size := by omega
    have a1 : (i : Int) < (x.size : Int) := by omega
    have a2 : 0 ≤ (i : Int) := by omega
    have e2 : wrap64 ((i : Int) + 1) = ((i + 1 : Nat) : Int) := wrap_succ i (by omega)
    have hg := bt_lt hlt
    have hbt := bt_eq x i x[i] hg
    have hdrop : x.data.toList.drop i = x[i] :: x.data.toList.drop (i + 1) := by
      obtain ⟨h1, h2⟩ := List.getElem?_eq_some_iff.1 hg
      rw [List.drop_eq_getElem_cons h1, h2]
    have hc256 : x[i].toNat < 256 := x[i].toNat_lt
    rw [hdrop]
    simp only [scan]
    generalize x[i].toNat = c at hbt hc256
    by_cases h1 : c < 48
    · rw [if_pos h1]
      have b1 := cast_lt48 h1
      refine Ev.step (f := fun _ => some (0, 10)) (fun k => ?_) (Ev.now _)
      simp only [furlongref01_Int.l0]
      rw [if_pos a1, if_pos a2, hbt, if_pos b1]
    rw [if_neg h1]
    have b1 := cast_nlt48 h1
    by_cases h2 : 57 < c
    · rw [if_pos h2]
      have b2 := cast_gt57 h2
      refine Ev.step (f := fun _ => some (0, 10)) (fun k => ?_) (Ev.now _)
      simp only [furlongref01_Int.l0]
      rw [if_pos a1, if_pos a2, hbt, if_neg b1, if_pos b2]
    rw [if_neg h2]
    have b2 := cast_ngt57 h2
    by_cases h3 : 1152921504606846976 < n
    · rw [if_pos h3]
      have b3 := big_int h3
      refine Ev.step (f := fun _ => some (0, 10)) (fun k => ?_) (Ev.now _)
      simp only [furlongref01_Int.l0]
      rw [if_pos a1, if_pos a2, hbt, if_neg b1, if_neg b2, if_pos b3]
    rw [if_neg h3]
    have b3 := not_big_int h3
    have e1 := step_wrap h1 h2 h3
    refine Ev.step (f := fun k => furlongref01_Int.l0 k s neg x ((10 * n + (c - 48) : Nat) : Int) ((i + 1 : Nat) : Int)) (fun k => ?_) (ih (i + 1) (10 * n + (c - 48)) hi1 hi2 (step_bound h2 h3))
    simp only [furlongref01_Int.l0]
    rw [if_pos a1, if_pos a2, hbt, if_neg b1, if_neg b2, if_neg b3, e1, e2]
theorem nDigits_le (k u : Nat) (hk : 1 ≤ k) (h : u < 10 ^ k) : Lib.nDigits u ≤ k := by
  induction k generalizing u with
  | zero => omega
  | succ k ih =>
    by_cases hu : u < 10
    · rw [Lib.nDigits_small hu]; omega
    · rw [Lib.nDigits_big hu]
      have hk0 : 1 ≤ k := by
        rcases Nat.eq_zero_or_pos k with h0 | h0
        · subst h0; omega
        · exact h0
      have := ih (u / 10) hk0 (by rw [Nat.pow_succ] at h; omega)
      omega
theorem itoa_le20 {n : Int} (h : isI n) : (Lib.itoa n).length ≤ 20 := by
  unfold isI at h
  unfold Lib.itoa
  split
  · rw [List.length_cons, Lib.decDigits_length]
    have := nDigits_le 19 n.natAbs (by omega) (by omega)
    omega
  · rw [Lib.decDigits_length]
    have := nDigits_le 19 n.toNat (by omega) (by omega)
    omega
theorem pz_isI {l : List UInt8} {n : Int} (h : pz l = some n) : isI n := by
  unfold pz at h
  split at h
  · rename_i v hv
    split at h
    · injection h with h
      subst h
      exact parseIntB_bound hv
    · exact absurd h (by simp)
  · exact absurd h (by simp)
def intA (o : Option Int) : Int × Int := match o with | some n => (n, 0) | none => (0, 10)
theorem fin_eq (s : ByteArray) (neg : Bool) (o : Option Nat) (h : ∀ v, pz s.data.toList = some v → ∃ m, o = some m ∧ signed neg m = v) : fin s neg o = intA (pz s.data.toList) := by
  cases hp : pz s.data.toList with
  | some v =>
    obtain ⟨m, rfl, hs⟩ := h v hp
    simp only [fin, intA]
    rw [hs, if_pos (by rw [← pz_some hp, B_of])]
  | none =>
    cases o with
    | none => rfl
    | some m =>
      simp only [fin, intA]
      rw [if_neg]
      intro e
      have := pz_itoa (signed_isI neg m)
      rw [← e, B_data, this] at hp
      cases hp
theorem rint_ev (s : ByteArray) : Ev (fun k => furlongref01_Int.f k s) (intA (pz s.data.toList)) := by
  have hz := Lib.size_eq s
  refine Ev.ite (fun h => ?_) (fun h => ?_)
  · have : pz s.data.toList = none := by
      cases hp : pz s.data.toList with
      | none => rfl
      | some v =>
        have h1 := itoa_le20 (pz_isI hp)
        rw [← pz_some hp] at h1
        omega
    rw [this]; exact Ev.now _
  · by_cases h45 : s.data.toList.head? = some 45
    · obtain ⟨r, hr⟩ : ∃ r, s.data.toList = 45 :: r := by
        cases hl : s.data.toList with
        | nil => rw [hl] at h45; cases h45
        | cons c r => rw [hl] at h45; injection h45 with h45; subst h45; exact ⟨r, rfl⟩
      have hpos : 0 < s.size := by rw [hz, hr]; simp
      have hb0 : bt s 0 = 45 := bt_eq s 0 45 (by rw [hr]; rfl)
      have hx : (s.extract 1 s.size).data.toList = r := by
        rw [Lib.extract_data, hr]; simp only [List.drop_succ_cons, List.drop_zero]; exact List.take_of_length_le (by rw [hz, hr]; simp)
      have hxs : (s.extract 1 s.size).size ≤ 20 := by rw [Lib.size_eq, hx]; rw [hz, hr] at h; simp at h; omega
      rw [← fin_eq s true (scan 0 r) (by
        intro v hv
        have he := pz_some hv
        have hI := pz_isI hv
        rw [hr] at he
        unfold Lib.itoa at he
        unfold isI at hI
        split at he
        · injection he with _ he
          refine ⟨v.natAbs, ?_, ?_⟩
          · rw [he, scan_digits _ 0 (decDigits_isD _) (by rw [decDigits_val]; omega), decDigits_val]
          · rw [signed_neg _ (by omega)]; omega
        · have h45' : (45 : UInt8) ∈ Lib.decDigits v.toNat := by rw [← he]; simp
          have := decDigits_isD _ _ h45'
          unfold isD at this
          have e : (45 : UInt8).toNat = 45 := rfl
          omega)]
      refine Ev.ite (fun _ => ?_) (fun h => absurd h (by omega))
      refine Ev.ite (fun _ => ?_) (fun h => absurd h (by omega))
      have hb : (bt s 0 == 45) = true := by rw [hb0]; rfl
      rw [hb]
      refine Ev.step (f := fun k => furlongref01_Int.j1 k s true (s.extract 1 s.size)) (fun k => ?_) ?_
      · simp only [furlongref01_Int.j0, if_true]; rw [if_pos (by omega)]
      · refine Ev.step (f := fun k => furlongref01_Int.l0 k s true (s.extract 1 s.size) ((0 : Nat) : Int) ((0 : Nat) : Int)) (fun k => rfl) ?_
        have := rint_loop s true (s.extract 1 s.size) hxs _ 0 0 rfl (Nat.zero_le _) (by omega)
        rw [List.drop_zero, hx] at this
        exact this
    · rw [← fin_eq s false (scan 0 s.data.toList) (by
        intro v hv
        have he := pz_some hv
        have hI := pz_isI hv
        unfold isI at hI
        unfold Lib.itoa at he
        split at he
        · rw [he] at h45; exact absurd rfl h45
        · refine ⟨v.toNat, ?_, ?_⟩
          · rw [he, scan_digits _ 0 (decDigits_isD _) (by rw [decDigits_val]; omega), decDigits_val]
          · rw [signed_pos _ (by omega)]; omega)]
      have goal : Ev (fun k => furlongref01_Int.j0 k s false) (fin s false (scan 0 s.data.toList)) := by
        refine Ev.step (f := fun k => furlongref01_Int.j1 k s false s) (fun k => ?_) ?_
        · simp only [furlongref01_Int.j0]; rfl
        · refine Ev.step (f := fun k => furlongref01_Int.l0 k s false s ((0 : Nat) : Int) ((0 : Nat) : Int)) (fun k => rfl) ?_
          have := rint_loop s false s (by omega) _ 0 0 rfl (Nat.zero_le _) (by omega)
          rw [List.drop_zero] at this
          exact this
      refine Ev.ite (fun hpos => ?_) (fun _ => goal)
      refine Ev.ite (fun _ => ?_) (fun h => absurd h (by omega))
      have hb : (bt s 0 == 45) = false := by
        rw [beq_eq_false_iff_ne]
        have hlt : 0 < s.size := by omega
        have := bt_is s 0 45 hlt
        intro e
        apply h45
        rw [List.head?_eq_getElem?]
        exact this.1 e
      rw [hb]
      exact goal
end Go.Proofs.YthijgcnmbfhjjaaDoor.V
