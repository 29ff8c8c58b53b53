/- The reference's Sum, Seal and Open, told plainly. -/
import Derived.Test.YthijgcnmbfhjjaaDoorVo
import Derived.Test.YthijgcnmbfhjjaaDoorPx3
namespace Go.Proofs.YthijgcnmbfhjjaaDoor.V
set_option linter.unusedVariables false
set_option linter.unusedSimpArgs false
set_option linter.unnecessarySimpa false
open Go.RowKit Go.Proofs.YthijgcnmbfhjjaaDoorW.PrintWords Go.Proofs.YthijgcnmbfhjjaaDoorW.PrintLast Go.Proofs.YthijgcnmbfhjjaaDoorW.PrintMore Go.Proofs.YthijgcnmbfhjjaaDoor.P Go.Proofs.YthijgcnmbfhjjaaDoor.K Go.Proofs.YthijgcnmbfhjjaaDoor.A
theorem sum_a {a c : Int} (h0 : 0 ≤ a) (h1 : a ≤ 65520) (h2 : 0 ≤ c) (h3 : c < 256) : (((a + (c % 4294967296)) % 4294967296) % 65521) = (a + c) % 65521 := by omega
theorem sum_b {a c : Int} (h0 : 0 ≤ a) (h1 : a ≤ 65520) (h2 : 0 ≤ c) (h3 : c ≤ 65520) : ((a + c) % 4294967296) % 65521 = (a + c) % 65521 := by omega
theorem mod_bd (a : Int) : 0 ≤ a % 65521 ∧ a % 65521 ≤ 65520 := by omega
theorem shl_in {a : Int} (h0 : 0 ≤ a) (h1 : a ≤ 65520) : (a * 65536) % 4294967296 = a * 65536 := by omega
theorem succ_in {i : Nat} (h : i ≤ 9223372036854775806) : wrap64 ((i : Int) + 1) = ((i + 1 : Nat) : Int) := by rw [wrap_in (by omega) (by omega)]; rfl
theorem rsum_loop (s : ByteArray) (hs : s.size ≤ 9223372036854775806) (d : Nat) : ∀ (i : Nat), s.size - i = d → i ≤ s.size →
    Ev (fun k => furlongref01_Sum.l0 k s (sumAB (s.data.toList.take i)).1 (sumAB (s.data.toList.take i)).2 (i : Int)) (sumI s.data.toList) := by
  induction d with
  | zero =>
    intro i hd hi
    have hlt : ¬ (i : Int) < (s.size : Int) := by omega
    have e : s.data.toList.take i = s.data.toList := List.take_of_length_le (by rw [← Lib.size_eq]; omega)
    obtain ⟨_, h3, h4⟩ := sumAB_bd s.data.toList
    rw [e]
    refine Ev.shift ?_
    simp only [furlongref01_Sum.l0, if_neg hlt, shl_in h3 h4]
    exact Ev.now _
  | succ d ih =>
    intro i hd hi
    have hlt : i < s.size := by omega
    have a1 : (i : Int) < (s.size : Int) := by omega
    have a2 : 0 ≤ (i : Int) := by omega
    have hi1 : s.size - (i + 1) = d := by omega
    have hi2 : i + 1 ≤ s.size := by omega
    have e2 := succ_in (i := i) (by omega)
    obtain ⟨⟨h1, h2⟩, h3, h4⟩ := sumAB_bd (s.data.toList.take i)
    have hbt := bt_eq s i s[i] (bt_lt hlt)
    have hts : s.data.toList.take (i + 1) = s.data.toList.take i ++ [s[i]] := by
      rw [List.take_succ_eq_append_getElem (by rw [← Lib.size_eq]; exact hlt)]; rfl
    have hsn := sumAB_snoc (s.data.toList.take i) s[i]
    rw [← hts] at hsn
    have hc : s[i].toNat < 256 := s[i].toNat_lt
    have ih' := ih (i + 1) hi1 hi2
    rw [hsn] at ih'
    generalize s[i].toNat = c at hbt hc ih'
    have hc0 : (0 : Int) ≤ (c : Int) := by omega
    have hc1 : (c : Int) < 256 := by omega
    have e3 := sum_a h1 h2 hc0 hc1
    have hm := mod_bd ((sumAB (s.data.toList.take i)).1 + (c : Int))
    have e4 := sum_b h3 h4 hm.1 hm.2
    refine Ev.shift ?_
    simp only [furlongref01_Sum.l0, if_pos a1, if_pos a2, hbt, e3, e4, e2]
    exact ih'
theorem rsum_ev (s : ByteArray) (hs : s.size ≤ 9223372036854775806) : Ev (fun k => furlongref01_Sum.f k s) (sumI s.data.toList) := by
  have := rsum_loop s hs _ 0 rfl (Nat.zero_le _)
  exact this
theorem hexpiece_fin : ∀ j : Fin 16, (⟨#[48, 49, 50, 51, 52, 53, 54, 55, 56, 57, 97, 98, 99, 100, 101, 102]⟩ : ByteArray).extract j.val (j.val + 1) = B [hexd j.val] := by
  intro j
  exact ext_data (by revert j; decide +kernel)
theorem hexpiece (m : Nat) : (⟨#[48, 49, 50, 51, 52, 53, 54, 55, 56, 57, 97, 98, 99, 100, 101, 102]⟩ : ByteArray).extract (m % 16) (m % 16 + 1) = B [hexd m] := by
  have h := hexpiece_fin ⟨m % 16, Nat.mod_lt _ (by omega)⟩
  simp only at h
  rw [h]
  congr 2
  unfold hexd; rw [Nat.mod_mod]
theorem shift_amt (i : Nat) (h : i < 8) : IntKind.u64.wrap (wrap64 (28 - wrap64 (4 * (i : Int)))) = ((28 - 4 * i : Nat) : Int) := by
  rw [wrap_in (n := 4 * (i : Int)) (by omega) (by omega), wrap_in (by omega) (by omega), IntKind.wrap_u64]; omega
theorem hex_d (n i : Nat) (hn : n ≤ 4294967295) (h : i < 8) : Go.bits .and .u32 (shr .u32 (n : Int) ((28 - 4 * i : Nat) : Int)) 15 = ((n / 16 ^ (7 - i) % 16 : Nat) : Int) := by
  have e : shr .u32 (n : Int) ((28 - 4 * i : Nat) : Int) = ((n / 16 ^ (7 - i) : Nat) : Int) := by
    unfold shr
    have hb : IntKind.u32.bits = 32 := rfl
    rw [hb, Int.toNat_natCast, Nat.min_eq_left (by omega)]
    obtain rfl | rfl | rfl | rfl | rfl | rfl | rfl | rfl : i = 0 ∨ i = 1 ∨ i = 2 ∨ i = 3 ∨ i = 4 ∨ i = 5 ∨ i = 6 ∨ i = 7 := by omega
    all_goals simp
  rw [e]
  have hle : n / 16 ^ (7 - i) ≤ n := Nat.div_le_self _ _
  generalize n / 16 ^ (7 - i) = q at hle
  have := u32_and (q : Int) 15 (by omega) (by omega) (by omega) (by omega)
  rw [this, Int.toNat_natCast]
  congr 1
  exact Nat.and_two_pow_sub_one_eq_mod q 4
def hexP (n i : Nat) : List UInt8 := (hex8 n).take i
theorem hexP_step (n i : Nat) (h : i < 8) : hexP n (i + 1) = hexP n i ++ [hexd (n / 16 ^ (7 - i))] := by
  unfold hexP
  rw [List.take_succ_eq_append_getElem (by simp [hex8]; exact h)]
  simp [hex8]
theorem rseal_loop (s : ByteArray) (hs : s.size ≤ 140737488355328) (n : Nat) (hn : n ≤ 4294967295) (d : Nat) : ∀ (i : Nat), 8 - i = d → i ≤ 8 →
    Ev (fun k => furlongref01_Seal.l0 k (s ++ B (hexP n i)) (n : Int) (i : Int)) (s ++ B (hex8 n)) := by
  induction d with
  | zero =>
    intro i hd hi
    obtain rfl : i = 8 := by omega
    have e : hexP n 8 = hex8 n := List.take_of_length_le (by simp [hex8])
    rw [e]
    refine Ev.shift ?_
    have hge : ¬ ((8 : Nat) : Int) < 8 := by omega
    simp only [furlongref01_Seal.l0, if_neg hge]
    exact Ev.now _
  | succ d ih =>
    intro i hd hi
    have hlt : i < 8 := by omega
    have a1 : (i : Int) < 8 := by omega
    have hi1 : 8 - (i + 1) = d := by omega
    have hi2 : i + 1 ≤ 8 := by omega
    have e2 := succ_in (i := i) (by omega)
    have e3 := shift_amt i hlt
    have e4 := hex_d n i hn hlt
    have hz : (s ++ B (hexP n i)).size + 1 ≤ 9223372036854775807 := by
      rw [ByteArray.size_append, B_size]
      have : (hexP n i).length ≤ 8 := by simp [hexP]; omega
      omega
    have ih' := ih (i + 1) hi1 hi2
    have hp := hexpiece (n / 16 ^ (7 - i))
    rw [hexP_step n i hlt, ← B_append, ← hp, ← ByteArray.append_assoc] at ih'
    have hm : n / 16 ^ (7 - i) % 16 < 16 := Nat.mod_lt _ (by omega)
    have hps : ((⟨#[48, 49, 50, 51, 52, 53, 54, 55, 56, 57, 97, 98, 99, 100, 101, 102]⟩ : ByteArray).extract (n / 16 ^ (7 - i) % 16) (n / 16 ^ (7 - i) % 16 + 1)).size = 1 := by rw [hp, B_size]; rfl
    generalize n / 16 ^ (7 - i) % 16 = q at e4 ih' hm hps
    have b1 : (0 : Int) ≤ (((28 - 4 * i : Nat) : Int)) := by omega
    have b2 : (0 : Int) ≤ (q : Int) := by omega
    have b3 : ((q : Int) + 1) % 4294967296 = ((q + 1 : Nat) : Int) := by omega
    have b4 : (q : Int) ≤ ((q + 1 : Nat) : Int) := by omega
    have b5 : ((q + 1 : Nat) : Int) ≤ 16 := by omega
    refine Ev.shift ?_
    simp only [furlongref01_Seal.l0, e3, e4, b3, if_pos a1, if_pos b1, if_pos b2, if_pos b4, if_pos b5, Int.toNat_natCast, hps, if_pos hz, e2]
    exact ih'
theorem rseal_ev (s : ByteArray) (hs : s.size ≤ 140737488355328) : Ev (fun k => furlongref01_Seal.f k s) (sealB s) := by
  obtain ⟨h0, h1⟩ := sumI_bd s.data.toList
  refine Ev.bind (rsum_ev s (by omega)) ?_
  obtain ⟨n, hn⟩ : ∃ n : Nat, sumI s.data.toList = n := ⟨_, (Int.toNat_of_nonneg h0).symm⟩
  have hl := rseal_loop s hs n (by omega) _ 0 rfl (Nat.zero_le _)
  have e : s ++ B (hexP n 0) = s := ext_data (by simp [hexP, data_append, B_data])
  rw [e] at hl
  unfold sealB
  rw [hn]
  exact hl
theorem ropen_ev (s : ByteArray) (hs : s.size ≤ 140737488355328) : Ev (fun k => furlongref01_Open.f k s) (openR s) := by
  unfold furlongref01_Open.f openR
  rw [wrap_in (n := (s.size : Int) - 8) (by omega) (by omega)]
  refine Ev.ite (fun h => ?_) (fun h => ?_)
  · rw [if_neg (by omega)]; exact Ev.now _
  · refine Ev.ite (fun _ => ?_) (fun h => absurd (by omega) h)
    refine Ev.ite (fun _ => ?_) (fun h => absurd (by omega) h)
    have e : ((s.size : Int) - 8).toNat = s.size - 8 := by omega
    rw [e]
    refine Ev.bind (rseal_ev _ (by have := extract_le s (s.size - 8); omega)) ?_
    refine Ev.ite (fun h => ?_) (fun h => ?_)
    · rw [toList_inj] at h; rw [if_pos ⟨by omega, h⟩]; exact Ev.now _
    · rw [toList_inj] at h; rw [if_neg (fun h' => h h'.2)]; exact Ev.now _
end Go.Proofs.YthijgcnmbfhjjaaDoor.V
