/- KnotSpoilt, the plain law: a sealed text in which one byte is another one is none. -/
import Derived.Test.YthijgcnmbfhjjaaDoorSp
import Derived.Test.YthijgcnmbfhjjaaDoorVo
import Derived.OpenShut
namespace Go.Proofs.YthijgcnmbfhjjaaDoor.U
set_option linter.unusedVariables false
set_option linter.unusedSimpArgs false
set_option linter.unnecessarySimpa false
open Go.RowKit Go.Proofs.YthijgcnmbfhjjaaDoorW.PrintWords Go.Proofs.YthijgcnmbfhjjaaDoorW.PrintLast Go.Proofs.YthijgcnmbfhjjaaDoorW.PrintMore Go.Proofs.YthijgcnmbfhjjaaDoor.P Go.Proofs.YthijgcnmbfhjjaaDoor.K Go.Proofs.YthijgcnmbfhjjaaDoor.A Go.Proofs.YthijgcnmbfhjjaaDoor.V
theorem hexd_inj16 : ∀ a b : Fin 16, hexd a.val = hexd b.val → a = b := by decide +kernel
theorem hexd_inj {a b : Nat} (h : hexd a = hexd b) : a % 16 = b % 16 := by
  have ha : hexd (a % 16) = hexd a := by unfold hexd; rw [Nat.mod_mod]
  have hb : hexd (b % 16) = hexd b := by unfold hexd; rw [Nat.mod_mod]
  have := hexd_inj16 ⟨a % 16, Nat.mod_lt _ (by omega)⟩ ⟨b % 16, Nat.mod_lt _ (by omega)⟩ (by simp only; rw [ha, hb, h])
  exact congrArg Fin.val this
theorem hex8_low {a b : Nat} (h : hex8 a = hex8 b) : a % 65536 = b % 65536 := by
  simp only [hex8, List.range, List.range.loop, List.map_cons, List.map_nil, List.cons.injEq] at h
  obtain ⟨_, _, _, _, h3, h2, h1, h0, _⟩ := h
  have := hexd_inj h3
  have := hexd_inj h2
  have := hexd_inj h1
  have := hexd_inj h0
  simp at *
  omega
theorem sumI_low (l : List UInt8) : (sumI l).toNat % 65536 = (sumAB l).1.toNat := by
  obtain ⟨⟨h1, h2⟩, h3, h4⟩ := sumAB_bd l
  unfold sumI
  rw [u32_or _ _ (by omega) (by omega) (by omega) (by omega), Int.toNat_natCast]
  have e : ((sumAB l).2 * 65536).toNat = 2 ^ 16 * (sumAB l).2.toNat := by omega
  have hlt : (sumAB l).1.toNat < 2 ^ 16 := by omega
  rw [e, ← Nat.two_pow_add_eq_or_of_lt hlt]
  omega
def tot (l : List UInt8) : Nat := (l.map fun c => c.toNat).sum
theorem sumA (n : Nat) : ∀ l : List UInt8, l.length = n → (sumAB l).1 = ((1 + tot l : Nat) : Int) % 65521 := by
  induction n with
  | zero => intro l hl; rw [List.eq_nil_of_length_eq_zero hl]; rfl
  | succ n ih =>
    intro l hl
    obtain ⟨l', c, rfl⟩ := snoc_cases l (by intro h; rw [h] at hl; simp at hl)
    rw [sumAB_snoc]
    simp only
    rw [ih l' (by simpa using hl)]
    have : tot (l' ++ [c]) = tot l' + c.toNat := by simp [tot]
    rw [this]
    omega
theorem tot_set : ∀ (l : List UInt8) (n : Nat) (c : UInt8) (h : n < l.length), tot (l.set n c) + l[n].toNat = tot l + c.toNat
  | [], _, _, h => by simp at h
  | x :: l, 0, c, _ => by simp [tot]; omega
  | x :: l, n + 1, c, h => by
    have := tot_set l n c (by simpa using h)
    simp only [tot, List.set_cons_succ, List.map_cons, List.sum_cons, List.getElem_cons_succ] at this ⊢
    omega
theorem sum_differs (l : List UInt8) (n : Nat) (c : UInt8) (h : n < l.length) (hc : l[n] ≠ c) : hex8 (sumI (l.set n c)).toNat ≠ hex8 (sumI l).toNat := by
  intro e
  have h1 := hex8_low e
  rw [sumI_low, sumI_low] at h1
  obtain ⟨⟨a1, a2⟩, _⟩ := sumAB_bd l
  obtain ⟨⟨b1, b2⟩, _⟩ := sumAB_bd (l.set n c)
  have h2 := sumA _ l rfl
  have h3 := sumA _ (l.set n c) rfl
  have h4 := tot_set l n c h
  have h5 : l[n].toNat ≠ c.toNat := fun e => hc (UInt8.toNat.inj e)
  have h6 := l[n].toNat_lt
  have h7 := c.toNat_lt
  omega
theorem hex8_length (n : Nat) : (hex8 n).length = 8 := by simp [hex8]
theorem seal_data (s : ByteArray) : (sealB s).data.toList = s.data.toList ++ hex8 (sumI s.data.toList).toNat := by
  unfold sealB; rw [data_append]
theorem seal_size (s : ByteArray) : (sealB s).size = s.size + 8 := by
  rw [Lib.size_eq, seal_data, List.length_append, hex8_length, ← Lib.size_eq]
theorem open_spoilt (s : ByteArray) (n : Nat) (c : Int) (hn : n < s.size + 8) (h0 : 0 ≤ c) (h1 : c ≤ 255) (hne : bt (sealB s) (n : Int) ≠ c) : openR (spoil (sealB s) n c) = (⟨#[]⟩, 11) := by
  obtain ⟨m, rfl⟩ : ∃ m : Nat, c = m := ⟨c.toNat, by omega⟩
  have hm : (UInt8.ofNat m).toNat = m := by rw [UInt8.toNat_ofNat']; omega
  have hsz := seal_size s
  have hnl : n < (sealB s).data.toList.length := by rw [← Lib.size_eq]; omega
  have hat : (sealB s).data.toList[n]? ≠ some (UInt8.ofNat m) := by
    intro e
    apply hne
    rw [bt_eq _ n _ e, hm]
  unfold openR
  refine if_neg ?_
  rintro ⟨_, h⟩
  have hz : (spoil (sealB s) n m).size = s.size + 8 := by unfold spoil; rw [B_size, List.length_set, ← Lib.size_eq, hsz]
  rw [hz, Nat.add_sub_cancel] at h
  have hd : (sealB ((spoil (sealB s) n m).extract 0 s.size)).data.toList = (spoil (sealB s) n m).data.toList := by rw [h]
  have hx : (spoil (sealB s) n m).data.toList = ((s.data.toList ++ hex8 (sumI s.data.toList).toNat)).set n (UInt8.ofNat m) := by
    unfold spoil; rw [B_data, seal_data, Int.toNat_natCast]
  have hp : ((spoil (sealB s) n m).extract 0 s.size).data.toList = (((s.data.toList ++ hex8 (sumI s.data.toList).toNat)).set n (UInt8.ofNat m)).take s.size := by
    rw [take_data, hx]
  rw [seal_data, hp, hx] at hd
  have hL := Lib.size_eq s
  rw [seal_data] at hat
  rcases Nat.lt_or_ge n s.size with hlt | hge
  · rw [List.set_append_left _ _ (by omega), List.take_append_of_le_length (by rw [List.length_set]; omega), List.take_of_length_le (by rw [List.length_set]; omega)] at hd
    have := List.append_cancel_left hd
    refine sum_differs s.data.toList n (UInt8.ofNat m) (by omega) ?_ this
    rw [List.getElem?_append_left (by omega), List.getElem?_eq_getElem (by omega)] at hat
    exact fun e => hat (by rw [e])
  · rw [List.set_append_right _ _ (by omega), List.take_append_of_le_length (by omega), List.take_of_length_le (by omega)] at hd
    have := List.append_cancel_left hd
    rw [List.getElem?_append_right (by omega)] at hat
    apply hat
    have hk : n - s.data.toList.length < 8 := by omega
    have h2 : (hex8 (sumI s.data.toList).toNat)[n - s.data.toList.length]? = ((hex8 (sumI s.data.toList).toNat).set (n - s.data.toList.length) (UInt8.ofNat m))[n - s.data.toList.length]? := by rw [← this]
    rw [List.getElem?_set_self (by rw [hex8_length]; exact hk)] at h2
    exact h2
theorem KnotSpoilt : ∀ (a0 : ByteArray), a0.size ≤ reachBytes → ∀ (a1 : Int), (Lit.int .i64 a1).wf = true → ∀ (a2 : Int), (Lit.int .u8 a2).wf = true → ∃ k, furlonglaw01_KnotSpoilt.f k a0 a1 a2 = some true := by
  intro s hs n _ c hc
  have hcb : 0 ≤ c ∧ c ≤ 255 := bounds_u8 hc
  refine Ev.rounds ?_
  refine Ev.ite (fun h => live_ev) (fun h => ?_)
  simp only [seal_eq (s := s) (by omega), Option.bind_some]
  refine Ev.ite (fun h => absurd (seal_size s) h) (fun _ => ?_)
  refine Ev.ite (fun _ => live_ev) (fun h0 => ?_)
  refine Ev.ite (fun _ => live_ev) (fun h1 => ?_)
  refine Ev.ite (fun _ => live_ev) (fun h2 => ?_)
  obtain ⟨m, rfl⟩ : ∃ m : Nat, n = m := ⟨n.toNat, by omega⟩
  rw [seal_size] at h1
  rw [Int.toNat_natCast, open_eq (by unfold spoil; rw [B_size, List.length_set, ← Lib.size_eq, seal_size]; omega), open_spoilt s m c (by omega) hcb.1 hcb.2 h2]
  simp only [Option.bind_some, if_true]
  refine Ev.ite (fun _ => live_ev) (fun h => absurd ?_ h)
  rw [toList_nil]
end Go.Proofs.YthijgcnmbfhjjaaDoor.U
