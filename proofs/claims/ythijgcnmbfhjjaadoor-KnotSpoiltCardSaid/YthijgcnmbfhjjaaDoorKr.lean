/- Contracts of the reference's package furlongref01 over this dump: digits, Num, Int, Strand, Tie, First; in the words of the plain text A. -/
import Derived.Test.YthijgcnmbfhjjaaDoorK
import Derived.Test.YthijgcnmbfhjjaaDoorA
import Derived.WalkSpells
import Derived.IntWalk
import Derived.Deep.QuietTactic
import Derived.BigQuiet
set_option linter.unusedVariables false
namespace Go.Proofs.YthijgcnmbfhjjaaDoor.K
open Go.RowKit Go.Proofs.YthijgcnmbfhjjaaDoorW.PrintWords Go.Proofs.YthijgcnmbfhjjaaDoorW.PrintLast Go.Proofs.YthijgcnmbfhjjaaDoor.A

/-! ### digits, Num -/
theorem decDigits_size (u : Nat) (h : u ≤ 18446744073709551615) : (B (Lib.decDigits u)).size ≤ 20 := by
  rw [B_size, Lib.decDigits_length]; exact Lib.nDigits_le20 u (by omega)
theorem digit_piece {u : Nat} (h : u < 10) : (⟨#[48, 49, 50, 51, 52, 53, 54, 55, 56, 57]⟩ : ByteArray).extract u (u + 1) = B (Lib.decDigits u) := by
  obtain rfl | rfl | rfl | rfl | rfl | rfl | rfl | rfl | rfl | rfl : u = 0 ∨ u = 1 ∨ u = 2 ∨ u = 3 ∨ u = 4 ∨ u = 5 ∨ u = 6 ∨ u = 7 ∨ u = 8 ∨ u = 9 := by omega
  all_goals (rw [Lib.decDigits, dif_pos (by omega)]; exact ext_data (by decide +kernel))
set_option maxHeartbeats 2000000 in
set_option maxRecDepth 100000 in
theorem digits_any (n : Nat) : ∀ (u : Nat) (x : Int) (w : World), x = (u : Int) → u < n → u ≤ 18446744073709551615 →
    Calls Tryd.prog 33 #[.int .u64 x] w fun e w' => e = .returned (.string (B (Lib.decDigits u))) ∧ Drawn0 w w' := by
  induction n with
  | zero => intro u x w hx h; omega
  | succ n ih =>
    intro u x w hx hu hm
    subst hx
    by_cases h : u < 10
    · have hp := Lib.hid (digit_piece h)
      go_enter Tryd.func33, Tryd.ntmps33
      go_wp2_with fail
      go_ret
      exact ⟨by rw [← hp.out]; rfl, Drawn0.refl _⟩
    · have HD := Lib.hid (show Lib.decDigits u = Lib.decDigits (u / 10) ++ Lib.decDigits (u % 10) by
        rw [Lib.decDigits, dif_neg h, Lib.decDigits_one (Nat.mod_lt _ (by omega))])
      have h1 := decDigits_size (u / 10) (by omega)
      have h2 := decDigits_size (u % 10) (by omega)
      have ha := ih (u / 10)
      have hb := ih (u % 10)
      clear ih
      go_enter Tryd.func33, Tryd.ntmps33
      go_wp2_with (first | (go_at_call 33; refine (ha _ _ (by omega) (by omega) (by omega)).mono ?_; rintro e w1 ⟨rfl, ⟨m1, rfl⟩⟩; clear ha) | fail)
      go_wp2_with (first | (go_at_call 33; refine (hb _ _ (by omega) (by omega) (by omega)).mono ?_; rintro e w1 ⟨rfl, ⟨m2, rfl⟩⟩; clear hb) | fail)
      go_ret
      exact ⟨by rw [HD.out, ← B_append]; rfl, ⟨⟨_, rfl⟩⟩⟩

theorem bits_not (n : Int) (h0 : -9223372036854775808 ≤ n) (h1 : n < 0) : Go.bits .xor .i64 (-1) n = -n - 1 := by
  have hx : BitVec.ofInt 64 (-1) = BitVec.allOnes 64 := by decide
  show IntKind.i64.wrap (((BitVec.ofInt 64 (-1) ^^^ BitVec.ofInt 64 n).toNat : Nat) : Int) = _
  rw [hx, BitVec.allOnes_xor, BitVec.toNat_not, BitVec.toNat_ofInt, IntKind.wrap_i64]
  omega
def furlongref01_Num.f (a0 : Int) : Option ByteArray := if -9223372036854775808 ≤ a0 then (if a0 ≤ 9223372036854775807 then some (numB a0) else none) else none
set_option maxHeartbeats 2000000 in
set_option maxRecDepth 100000 in
theorem furlongref01_Num.calls (a0 : Int) (r : ByteArray) (w : World) (hG : TheG w) (h : furlongref01_Num.f a0 = some r) :
    Calls Tryd.prog 15 #[.int .i64 a0] w fun e w' => e = .returned (.string r) ∧ Drawn0 w w' := by
  unfold furlongref01_Num.f at h
  split at h
  case isFalse => exact absurd h (by simp)
  case isTrue h0 =>
  split at h
  case isFalse => exact absurd h (by simp)
  case isTrue h1 =>
  obtain rfl := Option.some.inj h
  clear h
  by_cases hn : a0 < 0
  · have hb := bits_not a0 h0 hn
    have hz := decDigits_size a0.natAbs (by omega)
    have HR := Lib.hid (show numB a0 = (⟨#[45]⟩ : ByteArray) ++ B (Lib.decDigits a0.natAbs) by
      unfold numB Lib.itoa; rw [if_pos hn]; exact ext_data (by rw [data_append, B_data]; rfl))
    go_enter Tryd.func15, Tryd.ntmps15
    go_wp2_with (go_at_call 33; fail)
    all_goals try (rename_i hsg; exact absurd hsg (by decide))
    refine (digits_any _ a0.natAbs _ _ (by first | omega | (rw [IntWalk.u64_in (-a0 - 1) (by omega), IntWalk.u64_in _ (by omega)]; omega)) (Nat.lt_succ_self _) (by omega)).mono ?_
    rintro e w1 ⟨rfl, ⟨m1, rfl⟩⟩
    go_wp2
    all_goals first
      | (rename_i hsg; exact absurd hsg (by decide))
      | (go_ret
         exact ⟨by rw [HR.out]; rfl, ⟨⟨_, rfl⟩⟩⟩)
  · have HR := Lib.hid (show numB a0 = B (Lib.decDigits a0.toNat) by unfold numB Lib.itoa; rw [if_neg hn]; rfl)
    go_enter Tryd.func15, Tryd.ntmps15
    go_wp2_with (go_at_call 33; fail)
    all_goals try (rename_i hsg; exact absurd hsg (by decide))
    refine (digits_any _ a0.toNat _ _ (by first | omega | (rw [IntWalk.u64_in _ (by omega)]; omega)) (Nat.lt_succ_self _) (by omega)).mono ?_
    rintro e w1 ⟨rfl, ⟨m1, rfl⟩⟩
    go_wp2
    all_goals first
      | (rename_i hsg; exact absurd hsg (by decide))
      | (go_ret
         exact ⟨by rw [HR.out]; rfl, ⟨⟨_, rfl⟩⟩⟩)

/-! ### Strand, Tie -/
theorem strand_B (s : ByteArray) : numB (s.size : Int) ++ (⟨#[58]⟩ : ByteArray) ++ s ++ (⟨#[44]⟩ : ByteArray) = B (strand s.data.toList) := by
  apply ext_data
  rw [data_append, data_append, data_append, B_data]
  unfold strand
  rw [← Lib.size_eq]
  simp [numB]
theorem itoa_le (n : Nat) (h : n ≤ 9223372036854775807) : (Lib.itoa (n : Int)).length ≤ 20 := by
  have := decDigits_size n (by omega)
  rw [B_size] at this
  rw [itoa_nat]; exact this
def furlongref01_Strand.f (a0 : ByteArray) : Option ByteArray := if a0.size ≤ 4611686018427387904 then some (B (strand a0.data.toList)) else none
set_option maxHeartbeats 1000000 in
set_option maxRecDepth 100000 in
theorem furlongref01_Strand.calls (a0 : ByteArray) (r : ByteArray) (w : World) (hG : TheG w) (h : furlongref01_Strand.f a0 = some r) :
    Calls Tryd.prog 37 #[.string a0] w fun e w' => e = .returned (.string r) ∧ Drawn0 w w' := by
  unfold furlongref01_Strand.f at h
  split at h
  case isFalse => exact absurd h (by simp)
  case isTrue h0 =>
  obtain rfl := Option.some.inj h
  clear h
  have hN := Lib.hid (show furlongref01_Num.f (a0.size : Int) = some (numB (a0.size : Int)) by unfold furlongref01_Num.f; rw [if_pos (by omega), if_pos (by omega)])
  have hz : (numB (a0.size : Int)).size ≤ 20 := by rw [numB_size]; exact itoa_le _ (by omega)
  have HS := Lib.hid (strand_B a0)
  generalize numB (a0.size : Int) = t at hN hz HS
  go_enter Tryd.func37, Tryd.ntmps37
  go_wp2_with (first | (go_at_call 15; refine (furlongref01_Num.calls _ _ _ hG hN.out).mono ?_; rintro e w1 ⟨rfl, ⟨m1, rfl⟩⟩) | fail)
  go_ret
  exact ⟨by rw [← HS.out]; rfl, ⟨⟨_, rfl⟩⟩⟩
def tieB (l : List ByteArray) : List UInt8 := tie (l.map fun s => s.data.toList)
theorem tieB_snoc (l : List ByteArray) (k : Nat) (h : k < l.length) : tieB (l.take (k + 1)) = tieB (l.take k) ++ strand l[k].data.toList := by
  unfold tieB
  rw [List.take_succ_eq_append_getElem h, List.map_append, tie_append]
  simp [tie]
theorem tieB_le (l : List ByteArray) (k : Nat) : (tieB (l.take k)).length ≤ (tieB l).length := by
  unfold tieB
  conv => rhs; rw [← List.take_append_drop k l]
  rw [List.map_append, tie_append, List.length_append]
  omega
def furlongref01_Tie.f (l0 : List ByteArray) : Option ByteArray := if (tieB l0).length ≤ 4611686018427387904 then some (B (tieB l0)) else none
set_option maxHeartbeats 1000000 in
set_option maxRecDepth 100000 in
theorem furlongref01_Tie.calls (A0 : Option Addr) (c0 : Nat) (l0 : List ByteArray) (r : ByteArray) (w : World) (hG : TheG w) (hr0 : Kd.C Kd.string w A0 l0.length l0) (hc0 : l0.length ≤ c0) (h : furlongref01_Tie.f l0 = some r) :
    Calls Tryd.prog 19 #[.slice A0 l0.length c0] w fun e w' => e = .returned (.string r) ∧ Drawn0 w w' := by
  unfold furlongref01_Tie.f at h
  split at h
  case isFalse => exact absurd h (by simp)
  case isTrue hs =>
  obtain rfl := Option.some.inj h
  have hmax : l0.length ≤ 9223372036854775807 := hr0.2.1
  have HC := Lib.hid hr0
  have HS := Lib.hid hs
  clear hs hr0 h
  go_enter Tryd.func19, Tryd.ntmps19
  go_wp2
  go_loopw [3, 4] (fun s i wr => ∃ k : Nat, k ≤ l0.length ∧ i = .int .i64 k ∧ s = .string (B (tieB (l0.take k))) ∧ Hid (Drawn0 w wr)) (fun _ i _ => l0.length - (intOf i).toNat)
  case atStart => exact ⟨0, Nat.zero_le _, rfl, rfl, Lib.hid (Drawn0.refl _)⟩
  case round =>
    obtain ⟨k, hk, rfl, rfl, HW⟩ := hrel
    by_cases hlt : k < l0.length
    · obtain ⟨ad, ead, hcell⟩ := Kd.at_string (Kd.C_below HC.out HW.out.below) (k : Int) (by omega) (by omega)
      subst ead
      have hrd : rdOf ByteArray.empty l0 (k : Int) = l0[k] := by simp [rdOf, hlt]
      rw [hrd] at hcell
      simp only [Int.toNat_natCast] at hcell
      have hle := tieB_le l0 (k + 1)
      have hsn := tieB_snoc l0 k hlt
      rw [hsn, List.length_append, strand_length, ← Lib.size_eq] at hle
      have hs := HS.out
      have hN := Lib.hid (show furlongref01_Strand.f l0[k] = some (B (strand l0[k].data.toList)) by unfold furlongref01_Strand.f; rw [if_pos (by omega)])
      have hz1 : (B (tieB (l0.take k))).size + (B (strand l0[k].data.toList)).size ≤ 4611686018427387904 := by rw [B_size, B_size, strand_length, ← Lib.size_eq]; omega
      have HSN := Lib.hid (show B (tieB (l0.take k)) ++ B (strand l0[k].data.toList) = B (tieB (l0.take (k + 1))) by rw [B_append, ← hsn])
      have HGr := Lib.hid (hG.quiet HW.out)
      clear hrd hsn hle hs
      go_wp2_with (first | (go_at_call 37; refine (furlongref01_Strand.calls _ _ _ HGr.out hN.out).mono ?_; rintro e w1 ⟨rfl, ⟨m1, rfl⟩⟩) | fail)
      go_roundw
      case rel => exact ⟨k + 1, by omega, by go_num, by rw [HSN.out], Lib.hid (HW.out.step _)⟩
      case measure => simp [intOf]; omega
    · obtain rfl : k = l0.length := by omega
      rw [List.take_length]
      go_wp2
      go_ret
      exact ⟨rfl, HW.out⟩

/-! ### First -/
def firstR (s : ByteArray) : ByteArray × ByteArray × Int := match firstL s.data.toList with
  | some (x, r) => (B x, B r, 0)
  | none => (⟨#[]⟩, s, 10)
def furlongref01_First.f (a0 : ByteArray) : Option (ByteArray × ByteArray × Int) := if a0.size ≤ 4611686018427387904 then some (firstR a0) else none
theorem byte_digit {s : ByteArray} {k : Nat} (h : k < s.size) : s.data.toList[k]? = some s[k] := by
  rw [List.getElem?_eq_getElem (by rw [← Lib.size_eq]; exact h)]; rfl
set_option maxHeartbeats 4000000 in
set_option maxRecDepth 100000 in
theorem furlongref01_First.calls (a0 : ByteArray) (r1 r2 : ByteArray) (r3 : Int) (w : World) (hG : TheG w) (h : furlongref01_First.f a0 = some (r1, r2, r3)) :
    Calls Tryd.prog 23 #[.string a0] w fun e w' => e = .returned (.tuple #[.string r1, .string r2, .int .i64 r3]) ∧ Drawn0 w w' := by
  unfold furlongref01_First.f at h
  split at h
  case isFalse => exact absurd h (by simp)
  case isTrue hs =>
  have HR := Lib.hid (Option.some.inj h)
  clear h
  go_enter Tryd.func23, Tryd.ntmps23
  go_wp2
  go_loop [5, 6] (fun n i => ∃ k m : Nat, k ≤ a0.size ∧ k ≤ 8 ∧ i = .int .i64 k ∧ n = .int .i64 m ∧ m < 100000000 ∧ Hid (m = dval 0 (a0.data.toList.take k)) ∧ Hid (∀ c ∈ a0.data.toList.take k, isD c)) (fun _ i => 8 - (intOf i).toNat)
  case atStart => exact ⟨0, 0, Nat.zero_le _, by omega, rfl, rfl, by omega, Lib.hid rfl, Lib.hid (by simp)⟩
  case round =>
    obtain ⟨k, m, hk, hk8, rfl, rfl, hm, HM, HD⟩ := hrel
    by_cases hd : ∃ h : k < a0.size, k < 8 ∧ 48 ≤ a0[k].toNat ∧ a0[k].toNat ≤ 57
    · obtain ⟨hlt, h8, hd0, hd1⟩ := hd
      have hM2 : 10 * m + (a0[k].toNat - 48) = dval 0 (a0.data.toList.take (k + 1)) := by
        have hts : a0.data.toList.take (k + 1) = a0.data.toList.take k ++ [a0[k]] := by
          rw [List.take_succ_eq_append_getElem (by rw [← Lib.size_eq]; exact hlt)]; rfl
        rw [hts, dval_snoc, HM.out]
      have hD2 : ∀ c ∈ a0.data.toList.take (k + 1), isD c := by
        have hts : a0.data.toList.take (k + 1) = a0.data.toList.take k ++ [a0[k]] := by
          rw [List.take_succ_eq_append_getElem (by rw [← Lib.size_eq]; exact hlt)]; rfl
        rw [hts]
        intro c hc
        rw [List.mem_append, List.mem_singleton] at hc
        rcases hc with hc | rfl
        · exact HD.out c hc
        · exact ⟨hd0, hd1⟩
      have hlt2 : 10 * m + (a0[k].toNat - 48) < 100000000 := by
        have := dval_lt _ hD2
        rw [← hM2, List.length_take, ← Lib.size_eq] at this
        exact Nat.lt_of_lt_of_le this (Nat.pow_le_pow_right (by omega) (by omega : min (k + 1) a0.size ≤ 8))
      have HM2 := Lib.hid hM2
      have HD2 := Lib.hid hD2
      clear hM2 hD2
      generalize hc : a0[k].toNat = c at hd0 hd1 hlt2 HM2
      go_wp2
      go_round
      case rel => exact ⟨k + 1, 10 * m + (c - 48), by omega, by omega, by go_num, congrArg (Value.int .i64) (by omega), by omega, HM2, HD2⟩
      case measure => simp [intOf]; omega
    · have hstop : ∀ c, a0.data.toList[k]? = some c → k < 8 → ¬ isD c := by
        intro c hc h8 hD
        obtain ⟨hlt, hc⟩ := List.getElem?_eq_some_iff.1 hc
        rw [← Lib.size_eq] at hlt
        refine hd ⟨hlt, h8, ?_⟩
        have : a0[k] = c := hc
        rw [this]; exact hD
      have hF := ref_first a0.data.toList k (by rw [← Lib.size_eq]; exact hk) hk8 HD.out hstop
      rw [← HM.out] at hF
      have hbad : ¬ (k ≠ 0 ∧ a0.data.toList[k]? = some 58 ∧ ¬ (1 < k ∧ a0.data.toList.head? = some 48) ∧ m + k + 2 ≤ a0.data.toList.length ∧ m + k + 2 ≤ 1048576 ∧ a0.data.toList[k + 1 + m]? = some 44) → r1 = (⟨#[]⟩ : ByteArray) ∧ a0 = r2 ∧ r3 = 10 := by
        intro hn
        rw [if_neg hn] at hF
        have := HR.out
        unfold firstR at this
        rw [hF] at this
        simp only [Prod.mk.injEq] at this
        exact ⟨this.1.symm, this.2.1, this.2.2.symm⟩
      by_cases hlt : k < a0.size
      · have hk58 := byte_digit hlt
        by_cases h58 : a0[k].toNat = 58
        · have h58' : a0[k] = 58 := UInt8.toNat.inj h58
          rw [h58'] at hk58
          clear h58' hd hstop
          have h0s : 0 < a0.size := by omega
          have hhd : a0.data.toList.head? = some a0[0] := by rw [List.head?_eq_getElem?]; exact byte_digit h0s
          by_cases h0 : k = 0
          · obtain ⟨rfl, rfl, rfl⟩ := hbad (by rintro ⟨h, _⟩; exact h h0)
            subst h0
            clear hbad hF hk58 HR hhd
            go_wp2
            all_goals (go_ret3; exact ⟨rfl, Drawn0.refl _⟩)
          by_cases hz : 1 < k ∧ a0[0].toNat = 48
          · obtain ⟨rfl, rfl, rfl⟩ := hbad (by
              rintro ⟨_, _, h, _⟩
              exact h ⟨hz.1, by rw [hhd]; exact congrArg some (UInt8.toNat.inj hz.2)⟩)
            obtain ⟨h1, h48⟩ := hz
            have b0 : ((k : Int) == 0) = false := by rw [beq_eq_false_iff_ne]; omega
            have b1 : ((k : Int) == (a0.size : Int)) = false := by rw [beq_eq_false_iff_ne]; omega
            clear hbad hF hk58 HR hhd
            go_wp2
            all_goals (go_ret3; exact ⟨rfl, Drawn0.refl _⟩)
          have b0 : ((k : Int) == 0) = false := by rw [beq_eq_false_iff_ne]; omega
          have b1 : ((k : Int) == (a0.size : Int)) = false := by rw [beq_eq_false_iff_ne]; omega
          have hz' : ¬ (1 < k ∧ a0.data.toList.head? = some 48) := by
            rintro ⟨h1, h⟩
            rw [hhd] at h
            injection h with h
            exact hz ⟨h1, by rw [h]; rfl⟩
          by_cases hl1 : m + k + 2 ≤ a0.size
          · by_cases hl2 : m + k + 2 ≤ 1048576
            · have hix : k + 1 + m < a0.size := by omega
              have h44i := byte_digit hix
              by_cases h44 : a0[k + 1 + m].toNat = 44
              · have hsize := Lib.size_eq a0
                have hHR := HR.out
                have h44' : a0[k + 1 + m] = 44 := UInt8.toNat.inj h44
                unfold firstR at hHR
                rw [hF, if_pos ⟨h0, hk58, hz', by omega, hl2, by rw [h44i, h44']⟩] at hHR
                simp only [Prod.mk.injEq] at hHR
                obtain ⟨e1, e2, rfl⟩ := hHR
                have E1 := Lib.hid (show a0.extract (k + 1) (k + 1 + m) = r1 by rw [← e1]; exact ext_data (by rw [Lib.extract_data, B_data, show k + 1 + m - (k + 1) = m by omega]))
                have E2 := Lib.hid (show a0.extract (k + 2 + m) a0.size = r2 by rw [← e2]; exact ext_data (by rw [Lib.extract_data, B_data, Lib.size_eq]; exact List.take_of_length_le (by rw [List.length_drop]; omega)))
                clear hbad hF hk58 HR hhd hz' h44i h44' e1 e2 hsize
                by_cases h1 : 1 < k
                · have h48 : ((a0[0].toNat : Int) == 48) = false := by rw [beq_eq_false_iff_ne]; exact fun h => hz ⟨h1, by omega⟩
                  clear hz
                  go_wp2
                  all_goals
                    go_quiet (fail)
                    go_wp2
                    go_ret3
                    exact ⟨by rw [← E1.out, ← E2.out]; rfl, ⟨⟨_, rfl⟩⟩⟩
                · clear hz
                  go_wp2
                  all_goals
                    go_quiet (fail)
                    go_wp2
                    go_ret3
                    exact ⟨by rw [← E1.out, ← E2.out]; rfl, ⟨⟨_, rfl⟩⟩⟩
              · obtain ⟨rfl, rfl, rfl⟩ := hbad (by
                  rintro ⟨_, _, _, _, _, h⟩
                  rw [h44i] at h
                  injection h with h
                  exact h44 (by rw [h]; rfl))
                clear hbad hF hk58 HR hhd hz' h44i
                have b44 : ((a0[k + 1 + m].toNat : Int) == 44) = false := by rw [beq_eq_false_iff_ne]; omega
                have b45 : ((a0[k + 1 + m].toNat : Int) != 44) = true := by rw [bne_iff_ne]; omega
                by_cases h1 : 1 < k
                · have h48 : ((a0[0].toNat : Int) == 48) = false := by rw [beq_eq_false_iff_ne]; exact fun h => hz ⟨h1, by omega⟩
                  clear hz
                  go_wp2
                  all_goals (go_ret3; exact ⟨rfl, Drawn0.refl _⟩)
                · clear hz
                  go_wp2
                  all_goals (go_ret3; exact ⟨rfl, Drawn0.refl _⟩)
            · obtain ⟨rfl, rfl, rfl⟩ := hbad (by rintro ⟨_, _, _, _, h, _⟩; exact hl2 h)
              clear hbad hF hk58 HR hhd hz'
              by_cases h1 : 1 < k
              · have h48 : ((a0[0].toNat : Int) == 48) = false := by rw [beq_eq_false_iff_ne]; exact fun h => hz ⟨h1, by omega⟩
                clear hz
                go_wp2
                all_goals (go_ret3; exact ⟨rfl, Drawn0.refl _⟩)
              · clear hz
                go_wp2
                all_goals (go_ret3; exact ⟨rfl, Drawn0.refl _⟩)
          · obtain ⟨rfl, rfl, rfl⟩ := hbad (by rintro ⟨_, _, _, h, _⟩; rw [← Lib.size_eq] at h; exact hl1 h)
            clear hbad hF hk58 HR hhd hz'
            have hl3 : (a0.size : Int) - k - 2 < m := by omega
            by_cases h1 : 1 < k
            · have h48 : ((a0[0].toNat : Int) == 48) = false := by rw [beq_eq_false_iff_ne]; exact fun h => hz ⟨h1, by omega⟩
              clear hz
              go_wp2
              all_goals (go_ret3; exact ⟨rfl, Drawn0.refl _⟩)
            · clear hz
              go_wp2
              all_goals (go_ret3; exact ⟨rfl, Drawn0.refl _⟩)
        · obtain ⟨rfl, rfl, rfl⟩ := hbad (by
            rintro ⟨_, h, _⟩
            rw [hk58] at h
            injection h with h
            exact h58 (by rw [h]; rfl))
          clear hbad hF hk58 hstop HR
          have hnd : ¬ (k < 8 ∧ 48 ≤ a0[k].toNat ∧ a0[k].toNat ≤ 57) := fun h => hd ⟨hlt, h⟩
          clear hd
          generalize hc : a0[k].toNat = c at h58 hnd
          by_cases h8 : k < 8
          · by_cases h48 : 48 ≤ c
            · have h57 : 57 < c := by omega
              clear hnd
              go_wp2
              all_goals (go_ret3; exact ⟨rfl, Drawn0.refl _⟩)
            · clear hnd
              go_wp2
              all_goals (go_ret3; exact ⟨rfl, Drawn0.refl _⟩)
          · clear hnd
            go_wp2
            all_goals (go_ret3; exact ⟨rfl, Drawn0.refl _⟩)
      · obtain ⟨rfl, rfl, rfl⟩ := hbad (by
          rintro ⟨_, h, _⟩
          obtain ⟨hh, _⟩ := List.getElem?_eq_some_iff.1 h
          rw [← Lib.size_eq] at hh
          exact hlt hh)
        clear hbad hF hstop HR hd
        have hkk : (k : Int) = a0.size := by omega
        have hkq : ((k : Int) == (a0.size : Int)) = true := by rw [hkk]; simp
        clear hkk
        by_cases h0 : k = 0
        · subst h0
          go_wp2
          all_goals (go_ret3; exact ⟨rfl, Drawn0.refl _⟩)
        · go_wp2
          all_goals (go_ret3; exact ⟨rfl, Drawn0.refl _⟩)
end Go.Proofs.YthijgcnmbfhjjaaDoor.K
