import Derived.Test.YtjpihfjgomoijaaDoorZRollChecks1
import Derived.Test.YtjpihfjgomoijaaDoorZRollChecks2
import Derived.Test.YtjpihfjgomoijaaDoorZRollChecks3
set_option linter.unusedVariables false
set_option linter.unusedSimpArgs false
set_option linter.unnecessarySimpa false
section
-- Written by a program of this session (wip/tools/pr.py), over the kit's printer; functions named in the texts imported below are given by hand.
namespace Go.Proofs.YtjpihfjgomoijaaDoor.P
open Go.RowKit Go.Proofs.YtjpihfjgomoijaaDoor.K Go.Proofs.YtjpihfjgomoijaaDoorW.PrintWords Go.Proofs.YtjpihfjgomoijaaDoorW.PrintLast Go.Proofs.YtjpihfjgomoijaaDoorW.PrintMore
attribute [local go_sem] max2_int min2_int max_two min_two max_three min_three max_four min_four   -- for this text's walks alone
/-! ### l11_liveT: function 9 -/
def l11_liveT.f (k : Nat)  : Option (Bool) := (l11_some.f).bind fun bt181 => ((roll_Merge.f bt181.1 bt181.2.1 bt181.2.2 5 1 (([(⟨1, (⟨#[98]⟩ : ByteArray)⟩ : S54), (⟨3, (⟨#[100]⟩ : ByteArray)⟩ : S54)] : List (S54)))).bind fun bt189 => ((roll_Last.f k bt189.1 bt189.2.1 bt189.2.2.1).bind fun bt196 => ((l11_some.f).bind fun bt198 => ((roll_Merge.f bt198.1 bt198.2.1 bt198.2.2 7 1 ([] : List (S54))).bind fun bt203 => ((roll_Put.f k bt189.1 bt189.2.1 bt189.2.2.1).bind fun t210 => ((roll_Parse.f k t210).bind fun bt211 => ((roll_Compact.f k bt189.1 bt189.2.1 bt189.2.2.1 6).bind fun bt218 => (if bt189.2.2.2 = true then (if bt203.2.2.2 = true then (some false) else (if bt196.1 = 7 then (if bt196.2 = 3 then (if (bt189.2.2.1.length : Int) = 3 then ((l11_num.f bt211.2.2.2).bind fun t224 => (if t224 = 0 then ((r11_Same.f k bt211.1 bt211.2.1 bt211.2.2.1 bt189.1 bt189.2.1 bt189.2.2.1).bind fun t225 => (if t225 = true then (if bt218.1 = 6 then (if (bt218.2.2.length : Int) = 1 then ((roll_Newer.f k 3 7 bt189.1 bt189.2.1 bt189.2.2.1).bind fun t226 => (if t226 = true then ((roll_Newer.f k 2 9 bt189.1 bt189.2.1 bt189.2.2.1).bind fun t227 => (if t227 = true then (some false) else ((roll_Check.f k (-1) 0 ([] : List (S54))).bind fun t228 => ((l11_num.f t228).bind fun t229 => (some (t229 == 110)))))) else (some false))) else (some false)) else (some false)) else (some false))) else (some false))) else (some false)) else (some false)) else (some false))) else (some false)))))))))
theorem l11_liveT.mono : ∀ k, LeO (l11_liveT.f k ) (l11_liveT.f (k + 1) ) := by
  intro  k
  unfold l11_liveT.f
  repeat' first
      | (with_reducible exact r11_Same.mono _ _ _ _ _ _ _)
      | (with_reducible exact roll_Check.mono _ _ _ _)
      | (with_reducible exact roll_Compact.mono _ _ _ _ _)
      | (with_reducible exact roll_Last.mono _ _ _ _)
      | (with_reducible exact roll_Newer.mono _ _ _ _ _ _)
      | (with_reducible exact roll_Parse.mono _ _)
      | (with_reducible exact roll_Put.mono _ _ _ _)
      | (with_reducible exact LeO.refl _)
      | (with_reducible exact LeO.none _)
      | (with_reducible refine LeO.ite ?_ ?_)
      | (with_reducible refine LeO.bind ?_ (fun _ => ?_))
      | exact r11_Same.mono _ _ _ _ _ _ _
      | exact roll_Check.mono _ _ _ _
      | exact roll_Compact.mono _ _ _ _ _
      | exact roll_Last.mono _ _ _ _
      | exact roll_Newer.mono _ _ _ _ _ _
      | exact roll_Parse.mono _ _
      | exact roll_Put.mono _ _ _ _
      | exact LeO.none _
      | refine LeO.ite ?_ ?_
      | refine LeO.bind ?_ (fun _ => ?_)
set_option maxHeartbeats 8000000 in
set_option maxRecDepth 100000 in
theorem l11_liveT.calls (k : Nat)  (r : Bool) (w : World) (hG : TheG w) (hr : r = true) (h : l11_liveT.f k  = some r) :
    Calls Tryd.prog 9 #[] w fun e w' => e = .returned (.bool r) ∧ Below w.heap.size w w' := by
  have hu54 := Tryd.underlying54
  have hu24 := Tryd.underlying24
  have HB := Az.mk (Below.refl w.heap.size w)
  have H : ((l11_some.f).bind fun bt181 => ((roll_Merge.f bt181.1 bt181.2.1 bt181.2.2 5 1 (([(⟨1, (⟨#[98]⟩ : ByteArray)⟩ : S54), (⟨3, (⟨#[100]⟩ : ByteArray)⟩ : S54)] : List (S54)))).bind fun bt189 => ((roll_Last.f k bt189.1 bt189.2.1 bt189.2.2.1).bind fun bt196 => ((l11_some.f).bind fun bt198 => ((roll_Merge.f bt198.1 bt198.2.1 bt198.2.2 7 1 ([] : List (S54))).bind fun bt203 => ((roll_Put.f k bt189.1 bt189.2.1 bt189.2.2.1).bind fun t210 => ((roll_Parse.f k t210).bind fun bt211 => ((roll_Compact.f k bt189.1 bt189.2.1 bt189.2.2.1 6).bind fun bt218 => (if bt189.2.2.2 = true then (if bt203.2.2.2 = true then (some false) else (if bt196.1 = 7 then (if bt196.2 = 3 then (if (bt189.2.2.1.length : Int) = 3 then ((l11_num.f bt211.2.2.2).bind fun t224 => (if t224 = 0 then ((r11_Same.f k bt211.1 bt211.2.1 bt211.2.2.1 bt189.1 bt189.2.1 bt189.2.2.1).bind fun t225 => (if t225 = true then (if bt218.1 = 6 then (if (bt218.2.2.length : Int) = 1 then ((roll_Newer.f k 3 7 bt189.1 bt189.2.1 bt189.2.2.1).bind fun t226 => (if t226 = true then ((roll_Newer.f k 2 9 bt189.1 bt189.2.1 bt189.2.2.1).bind fun t227 => (if t227 = true then (some false) else ((roll_Check.f k (-1) 0 ([] : List (S54))).bind fun t228 => ((l11_num.f t228).bind fun t229 => (some (t229 == 110)))))) else (some false))) else (some false)) else (some false)) else (some false))) else (some false))) else (some false)) else (some false)) else (some false))) else (some false)))))))))) = some r := h
  clear h
  replace H := Option.bind_eq_some_iff.mp H
  obtain ⟨⟨t181, t182, t183⟩, A10, H⟩ := H
  replace H : ((roll_Merge.f t181 t182 t183 5 1 (([(⟨1, (⟨#[98]⟩ : ByteArray)⟩ : S54), (⟨3, (⟨#[100]⟩ : ByteArray)⟩ : S54)] : List (S54)))).bind fun bt189 => ((roll_Last.f k bt189.1 bt189.2.1 bt189.2.2.1).bind fun bt196 => ((l11_some.f).bind fun bt198 => ((roll_Merge.f bt198.1 bt198.2.1 bt198.2.2 7 1 ([] : List (S54))).bind fun bt203 => ((roll_Put.f k bt189.1 bt189.2.1 bt189.2.2.1).bind fun t210 => ((roll_Parse.f k t210).bind fun bt211 => ((roll_Compact.f k bt189.1 bt189.2.1 bt189.2.2.1 6).bind fun bt218 => (if bt189.2.2.2 = true then (if bt203.2.2.2 = true then (some false) else (if bt196.1 = 7 then (if bt196.2 = 3 then (if (bt189.2.2.1.length : Int) = 3 then ((l11_num.f bt211.2.2.2).bind fun t224 => (if t224 = 0 then ((r11_Same.f k bt211.1 bt211.2.1 bt211.2.2.1 bt189.1 bt189.2.1 bt189.2.2.1).bind fun t225 => (if t225 = true then (if bt218.1 = 6 then (if (bt218.2.2.length : Int) = 1 then ((roll_Newer.f k 3 7 bt189.1 bt189.2.1 bt189.2.2.1).bind fun t226 => (if t226 = true then ((roll_Newer.f k 2 9 bt189.1 bt189.2.1 bt189.2.2.1).bind fun t227 => (if t227 = true then (some false) else ((roll_Check.f k (-1) 0 ([] : List (S54))).bind fun t228 => ((l11_num.f t228).bind fun t229 => (some (t229 == 110)))))) else (some false))) else (some false)) else (some false)) else (some false))) else (some false))) else (some false)) else (some false)) else (some false))) else (some false))))))))) = some r := H
  have A1 := Az.mk A10
  clear A10
  obtain ⟨y186, hy186⟩ : ∃ y_ : List (S54), y_ = (([(⟨1, (⟨#[98]⟩ : ByteArray)⟩ : S54), (⟨3, (⟨#[100]⟩ : ByteArray)⟩ : S54)] : List (S54))) := ⟨_, rfl⟩
  replace H : ((roll_Merge.f t181 t182 t183 5 1 y186).bind fun bt189 => ((roll_Last.f k bt189.1 bt189.2.1 bt189.2.2.1).bind fun bt196 => ((l11_some.f).bind fun bt198 => ((roll_Merge.f bt198.1 bt198.2.1 bt198.2.2 7 1 ([] : List (S54))).bind fun bt203 => ((roll_Put.f k bt189.1 bt189.2.1 bt189.2.2.1).bind fun t210 => ((roll_Parse.f k t210).bind fun bt211 => ((roll_Compact.f k bt189.1 bt189.2.1 bt189.2.2.1 6).bind fun bt218 => (if bt189.2.2.2 = true then (if bt203.2.2.2 = true then (some false) else (if bt196.1 = 7 then (if bt196.2 = 3 then (if (bt189.2.2.1.length : Int) = 3 then ((l11_num.f bt211.2.2.2).bind fun t224 => (if t224 = 0 then ((r11_Same.f k bt211.1 bt211.2.1 bt211.2.2.1 bt189.1 bt189.2.1 bt189.2.2.1).bind fun t225 => (if t225 = true then (if bt218.1 = 6 then (if (bt218.2.2.length : Int) = 1 then ((roll_Newer.f k 3 7 bt189.1 bt189.2.1 bt189.2.2.1).bind fun t226 => (if t226 = true then ((roll_Newer.f k 2 9 bt189.1 bt189.2.1 bt189.2.2.1).bind fun t227 => (if t227 = true then (some false) else ((roll_Check.f k (-1) 0 ([] : List (S54))).bind fun t228 => ((l11_num.f t228).bind fun t229 => (some (t229 == 110)))))) else (some false))) else (some false)) else (some false)) else (some false))) else (some false))) else (some false)) else (some false)) else (some false))) else (some false))))))))) = some r := by first | (rw [hy186]; with_reducible exact H) | (have H2_ := (Option.bind_some _ _).symm.trans H; rw [hy186]; with_reducible exact H2_) | (have H2_ := (Option.bind_some _ _).symm.trans H; with_reducible exact H2_) | with_reducible exact H | (rw [hy186]; exact H) | exact H
  have Ny186 := Az.mk hy186
  clear hy186
  replace H := Option.bind_eq_some_iff.mp H
  obtain ⟨⟨t189, t190, t191, t194⟩, A20, H⟩ := H
  replace H : ((roll_Last.f k t189 t190 t191).bind fun bt196 => ((l11_some.f).bind fun bt198 => ((roll_Merge.f bt198.1 bt198.2.1 bt198.2.2 7 1 ([] : List (S54))).bind fun bt203 => ((roll_Put.f k t189 t190 t191).bind fun t210 => ((roll_Parse.f k t210).bind fun bt211 => ((roll_Compact.f k t189 t190 t191 6).bind fun bt218 => (if t194 = true then (if bt203.2.2.2 = true then (some false) else (if bt196.1 = 7 then (if bt196.2 = 3 then (if (t191.length : Int) = 3 then ((l11_num.f bt211.2.2.2).bind fun t224 => (if t224 = 0 then ((r11_Same.f k bt211.1 bt211.2.1 bt211.2.2.1 t189 t190 t191).bind fun t225 => (if t225 = true then (if bt218.1 = 6 then (if (bt218.2.2.length : Int) = 1 then ((roll_Newer.f k 3 7 t189 t190 t191).bind fun t226 => (if t226 = true then ((roll_Newer.f k 2 9 t189 t190 t191).bind fun t227 => (if t227 = true then (some false) else ((roll_Check.f k (-1) 0 ([] : List (S54))).bind fun t228 => ((l11_num.f t228).bind fun t229 => (some (t229 == 110)))))) else (some false))) else (some false)) else (some false)) else (some false))) else (some false))) else (some false)) else (some false)) else (some false))) else (some false)))))))) = some r := H
  have A2 := Az.mk A20
  clear A20
  replace H := Option.bind_eq_some_iff.mp H
  obtain ⟨⟨t196, t197⟩, A30, H⟩ := H
  replace H : ((l11_some.f).bind fun bt198 => ((roll_Merge.f bt198.1 bt198.2.1 bt198.2.2 7 1 ([] : List (S54))).bind fun bt203 => ((roll_Put.f k t189 t190 t191).bind fun t210 => ((roll_Parse.f k t210).bind fun bt211 => ((roll_Compact.f k t189 t190 t191 6).bind fun bt218 => (if t194 = true then (if bt203.2.2.2 = true then (some false) else (if t196 = 7 then (if t197 = 3 then (if (t191.length : Int) = 3 then ((l11_num.f bt211.2.2.2).bind fun t224 => (if t224 = 0 then ((r11_Same.f k bt211.1 bt211.2.1 bt211.2.2.1 t189 t190 t191).bind fun t225 => (if t225 = true then (if bt218.1 = 6 then (if (bt218.2.2.length : Int) = 1 then ((roll_Newer.f k 3 7 t189 t190 t191).bind fun t226 => (if t226 = true then ((roll_Newer.f k 2 9 t189 t190 t191).bind fun t227 => (if t227 = true then (some false) else ((roll_Check.f k (-1) 0 ([] : List (S54))).bind fun t228 => ((l11_num.f t228).bind fun t229 => (some (t229 == 110)))))) else (some false))) else (some false)) else (some false)) else (some false))) else (some false))) else (some false)) else (some false)) else (some false))) else (some false))))))) = some r := H
  have A3 := Az.mk A30
  clear A30
  replace H := Option.bind_eq_some_iff.mp H
  obtain ⟨⟨t198, t199, t200⟩, A40, H⟩ := H
  replace H : ((roll_Merge.f t198 t199 t200 7 1 ([] : List (S54))).bind fun bt203 => ((roll_Put.f k t189 t190 t191).bind fun t210 => ((roll_Parse.f k t210).bind fun bt211 => ((roll_Compact.f k t189 t190 t191 6).bind fun bt218 => (if t194 = true then (if bt203.2.2.2 = true then (some false) else (if t196 = 7 then (if t197 = 3 then (if (t191.length : Int) = 3 then ((l11_num.f bt211.2.2.2).bind fun t224 => (if t224 = 0 then ((r11_Same.f k bt211.1 bt211.2.1 bt211.2.2.1 t189 t190 t191).bind fun t225 => (if t225 = true then (if bt218.1 = 6 then (if (bt218.2.2.length : Int) = 1 then ((roll_Newer.f k 3 7 t189 t190 t191).bind fun t226 => (if t226 = true then ((roll_Newer.f k 2 9 t189 t190 t191).bind fun t227 => (if t227 = true then (some false) else ((roll_Check.f k (-1) 0 ([] : List (S54))).bind fun t228 => ((l11_num.f t228).bind fun t229 => (some (t229 == 110)))))) else (some false))) else (some false)) else (some false)) else (some false))) else (some false))) else (some false)) else (some false)) else (some false))) else (some false)))))) = some r := H
  have A4 := Az.mk A40
  clear A40
  replace H := Option.bind_eq_some_iff.mp H
  obtain ⟨⟨t203, t204, t205, t208⟩, A50, H⟩ := H
  replace H : ((roll_Put.f k t189 t190 t191).bind fun t210 => ((roll_Parse.f k t210).bind fun bt211 => ((roll_Compact.f k t189 t190 t191 6).bind fun bt218 => (if t194 = true then (if t208 = true then (some false) else (if t196 = 7 then (if t197 = 3 then (if (t191.length : Int) = 3 then ((l11_num.f bt211.2.2.2).bind fun t224 => (if t224 = 0 then ((r11_Same.f k bt211.1 bt211.2.1 bt211.2.2.1 t189 t190 t191).bind fun t225 => (if t225 = true then (if bt218.1 = 6 then (if (bt218.2.2.length : Int) = 1 then ((roll_Newer.f k 3 7 t189 t190 t191).bind fun t226 => (if t226 = true then ((roll_Newer.f k 2 9 t189 t190 t191).bind fun t227 => (if t227 = true then (some false) else ((roll_Check.f k (-1) 0 ([] : List (S54))).bind fun t228 => ((l11_num.f t228).bind fun t229 => (some (t229 == 110)))))) else (some false))) else (some false)) else (some false)) else (some false))) else (some false))) else (some false)) else (some false)) else (some false))) else (some false))))) = some r := H
  have A5 := Az.mk A50
  clear A50
  replace H := Option.bind_eq_some_iff.mp H
  obtain ⟨t210, A60, H⟩ := H
  replace H : ((roll_Parse.f k t210).bind fun bt211 => ((roll_Compact.f k t189 t190 t191 6).bind fun bt218 => (if t194 = true then (if t208 = true then (some false) else (if t196 = 7 then (if t197 = 3 then (if (t191.length : Int) = 3 then ((l11_num.f bt211.2.2.2).bind fun t224 => (if t224 = 0 then ((r11_Same.f k bt211.1 bt211.2.1 bt211.2.2.1 t189 t190 t191).bind fun t225 => (if t225 = true then (if bt218.1 = 6 then (if (bt218.2.2.length : Int) = 1 then ((roll_Newer.f k 3 7 t189 t190 t191).bind fun t226 => (if t226 = true then ((roll_Newer.f k 2 9 t189 t190 t191).bind fun t227 => (if t227 = true then (some false) else ((roll_Check.f k (-1) 0 ([] : List (S54))).bind fun t228 => ((l11_num.f t228).bind fun t229 => (some (t229 == 110)))))) else (some false))) else (some false)) else (some false)) else (some false))) else (some false))) else (some false)) else (some false)) else (some false))) else (some false)))) = some r := H
  have A6 := Az.mk A60
  clear A60
  replace H := Option.bind_eq_some_iff.mp H
  obtain ⟨⟨t211, t212, t213, t216⟩, A70, H⟩ := H
  replace H : ((roll_Compact.f k t189 t190 t191 6).bind fun bt218 => (if t194 = true then (if t208 = true then (some false) else (if t196 = 7 then (if t197 = 3 then (if (t191.length : Int) = 3 then ((l11_num.f t216).bind fun t224 => (if t224 = 0 then ((r11_Same.f k t211 t212 t213 t189 t190 t191).bind fun t225 => (if t225 = true then (if bt218.1 = 6 then (if (bt218.2.2.length : Int) = 1 then ((roll_Newer.f k 3 7 t189 t190 t191).bind fun t226 => (if t226 = true then ((roll_Newer.f k 2 9 t189 t190 t191).bind fun t227 => (if t227 = true then (some false) else ((roll_Check.f k (-1) 0 ([] : List (S54))).bind fun t228 => ((l11_num.f t228).bind fun t229 => (some (t229 == 110)))))) else (some false))) else (some false)) else (some false)) else (some false))) else (some false))) else (some false)) else (some false)) else (some false))) else (some false))) = some r := H
  have A7 := Az.mk A70
  clear A70
  replace H := Option.bind_eq_some_iff.mp H
  obtain ⟨⟨t218, t219, t220⟩, A80, H⟩ := H
  replace H : (if t194 = true then (if t208 = true then (some false) else (if t196 = 7 then (if t197 = 3 then (if (t191.length : Int) = 3 then ((l11_num.f t216).bind fun t224 => (if t224 = 0 then ((r11_Same.f k t211 t212 t213 t189 t190 t191).bind fun t225 => (if t225 = true then (if t218 = 6 then (if (t220.length : Int) = 1 then ((roll_Newer.f k 3 7 t189 t190 t191).bind fun t226 => (if t226 = true then ((roll_Newer.f k 2 9 t189 t190 t191).bind fun t227 => (if t227 = true then (some false) else ((roll_Check.f k (-1) 0 ([] : List (S54))).bind fun t228 => ((l11_num.f t228).bind fun t229 => (some (t229 == 110)))))) else (some false))) else (some false)) else (some false)) else (some false))) else (some false))) else (some false)) else (some false)) else (some false))) else (some false)) = some r := H
  have A8 := Az.mk A80
  clear A80
  by_cases c9 : t194 = true
  · subst c9
    have H1 : (if t208 = true then (some false) else (if t196 = 7 then (if t197 = 3 then (if (t191.length : Int) = 3 then ((l11_num.f t216).bind fun t224 => (if t224 = 0 then ((r11_Same.f k t211 t212 t213 t189 t190 t191).bind fun t225 => (if t225 = true then (if t218 = 6 then (if (t220.length : Int) = 1 then ((roll_Newer.f k 3 7 t189 t190 t191).bind fun t226 => (if t226 = true then ((roll_Newer.f k 2 9 t189 t190 t191).bind fun t227 => (if t227 = true then (some false) else ((roll_Check.f k (-1) 0 ([] : List (S54))).bind fun t228 => ((l11_num.f t228).bind fun t229 => (some (t229 == 110)))))) else (some false))) else (some false)) else (some false)) else (some false))) else (some false))) else (some false)) else (some false)) else (some false))) = some r := by rw [if_pos rfl] at H; exact H
    clear H
    have H := H1
    clear H1
    by_cases c10 : t208 = true
    · subst c10
      have H1 : (some false) = some r := by rw [if_pos rfl] at H; exact H
      clear H
      have H := H1
      clear H1
      exact absurd (Option.some.inj (H.trans (congrArg some hr))) (by decide)
    · replace c10 := Bool.eq_false_iff.mpr c10
      subst c10
      have H1 : (if t196 = 7 then (if t197 = 3 then (if (t191.length : Int) = 3 then ((l11_num.f t216).bind fun t224 => (if t224 = 0 then ((r11_Same.f k t211 t212 t213 t189 t190 t191).bind fun t225 => (if t225 = true then (if t218 = 6 then (if (t220.length : Int) = 1 then ((roll_Newer.f k 3 7 t189 t190 t191).bind fun t226 => (if t226 = true then ((roll_Newer.f k 2 9 t189 t190 t191).bind fun t227 => (if t227 = true then (some false) else ((roll_Check.f k (-1) 0 ([] : List (S54))).bind fun t228 => ((l11_num.f t228).bind fun t229 => (some (t229 == 110)))))) else (some false))) else (some false)) else (some false)) else (some false))) else (some false))) else (some false)) else (some false)) else (some false)) = some r := by rw [if_neg (show ¬ (false = true) by decide)] at H; exact H
      clear H
      have H := H1
      clear H1
      by_cases c11 : t196 = 7
      · rw [if_pos c11] at H
        have c11b0 : (t196 == 7) = true := beq_iff_eq.mpr c11
        have c11b1 : (t196 != 7) = false := bne_eq_false_iff_eq.mpr c11
        clear c11
        by_cases c12 : t197 = 3
        · rw [if_pos c12] at H
          have c12b0 : (t197 == 3) = true := beq_iff_eq.mpr c12
          have c12b1 : (t197 != 3) = false := bne_eq_false_iff_eq.mpr c12
          clear c12
          by_cases c13 : (t191.length : Int) = 3
          · rw [if_pos c13] at H
            have c13b0 : ((t191.length : Int) == 3) = true := beq_iff_eq.mpr c13
            have c13b1 : ((t191.length : Int) != 3) = false := bne_eq_false_iff_eq.mpr c13
            clear c13
            replace H := Option.bind_eq_some_iff.mp H
            obtain ⟨t224, A140, H⟩ := H
            replace H : (if t224 = 0 then ((r11_Same.f k t211 t212 t213 t189 t190 t191).bind fun t225 => (if t225 = true then (if t218 = 6 then (if (t220.length : Int) = 1 then ((roll_Newer.f k 3 7 t189 t190 t191).bind fun t226 => (if t226 = true then ((roll_Newer.f k 2 9 t189 t190 t191).bind fun t227 => (if t227 = true then (some false) else ((roll_Check.f k (-1) 0 ([] : List (S54))).bind fun t228 => ((l11_num.f t228).bind fun t229 => (some (t229 == 110)))))) else (some false))) else (some false)) else (some false)) else (some false))) else (some false)) = some r := H
            have A14 := Az.mk A140
            clear A140
            by_cases c15 : t224 = 0
            · rw [if_pos c15] at H
              have c15b0 : (t224 == 0) = true := beq_iff_eq.mpr c15
              have c15b1 : (t224 != 0) = false := bne_eq_false_iff_eq.mpr c15
              clear c15
              replace H := Option.bind_eq_some_iff.mp H
              obtain ⟨t225, A160, H⟩ := H
              replace H : (if t225 = true then (if t218 = 6 then (if (t220.length : Int) = 1 then ((roll_Newer.f k 3 7 t189 t190 t191).bind fun t226 => (if t226 = true then ((roll_Newer.f k 2 9 t189 t190 t191).bind fun t227 => (if t227 = true then (some false) else ((roll_Check.f k (-1) 0 ([] : List (S54))).bind fun t228 => ((l11_num.f t228).bind fun t229 => (some (t229 == 110)))))) else (some false))) else (some false)) else (some false)) else (some false)) = some r := H
              have A16 := Az.mk A160
              clear A160
              by_cases c17 : t225 = true
              · subst c17
                have H1 : (if t218 = 6 then (if (t220.length : Int) = 1 then ((roll_Newer.f k 3 7 t189 t190 t191).bind fun t226 => (if t226 = true then ((roll_Newer.f k 2 9 t189 t190 t191).bind fun t227 => (if t227 = true then (some false) else ((roll_Check.f k (-1) 0 ([] : List (S54))).bind fun t228 => ((l11_num.f t228).bind fun t229 => (some (t229 == 110)))))) else (some false))) else (some false)) else (some false)) = some r := by rw [if_pos rfl] at H; exact H
                clear H
                have H := H1
                clear H1
                by_cases c18 : t218 = 6
                · rw [if_pos c18] at H
                  have c18b0 : (t218 == 6) = true := beq_iff_eq.mpr c18
                  have c18b1 : (t218 != 6) = false := bne_eq_false_iff_eq.mpr c18
                  clear c18
                  by_cases c19 : (t220.length : Int) = 1
                  · rw [if_pos c19] at H
                    have c19b0 : ((t220.length : Int) == 1) = true := beq_iff_eq.mpr c19
                    have c19b1 : ((t220.length : Int) != 1) = false := bne_eq_false_iff_eq.mpr c19
                    clear c19
                    replace H := Option.bind_eq_some_iff.mp H
                    obtain ⟨t226, A200, H⟩ := H
                    replace H : (if t226 = true then ((roll_Newer.f k 2 9 t189 t190 t191).bind fun t227 => (if t227 = true then (some false) else ((roll_Check.f k (-1) 0 ([] : List (S54))).bind fun t228 => ((l11_num.f t228).bind fun t229 => (some (t229 == 110)))))) else (some false)) = some r := H
                    have A20 := Az.mk A200
                    clear A200
                    by_cases c21 : t226 = true
                    · subst c21
                      have H1 : ((roll_Newer.f k 2 9 t189 t190 t191).bind fun t227 => (if t227 = true then (some false) else ((roll_Check.f k (-1) 0 ([] : List (S54))).bind fun t228 => ((l11_num.f t228).bind fun t229 => (some (t229 == 110)))))) = some r := by rw [if_pos rfl] at H; exact H
                      clear H
                      have H := H1
                      clear H1
                      replace H := Option.bind_eq_some_iff.mp H
                      obtain ⟨t227, A220, H⟩ := H
                      replace H : (if t227 = true then (some false) else ((roll_Check.f k (-1) 0 ([] : List (S54))).bind fun t228 => ((l11_num.f t228).bind fun t229 => (some (t229 == 110))))) = some r := H
                      have A22 := Az.mk A220
                      clear A220
                      by_cases c23 : t227 = true
                      · subst c23
                        have H1 : (some false) = some r := by rw [if_pos rfl] at H; exact H
                        clear H
                        have H := H1
                        clear H1
                        exact absurd (Option.some.inj (H.trans (congrArg some hr))) (by decide)
                      · replace c23 := Bool.eq_false_iff.mpr c23
                        subst c23
                        have H1 : ((roll_Check.f k (-1) 0 ([] : List (S54))).bind fun t228 => ((l11_num.f t228).bind fun t229 => (some (t229 == 110)))) = some r := by rw [if_neg (show ¬ (false = true) by decide)] at H; exact H
                        clear H
                        have H := H1
                        clear H1
                        replace H := Option.bind_eq_some_iff.mp H
                        obtain ⟨t228, A240, H⟩ := H
                        replace H : ((l11_num.f t228).bind fun t229 => (some (t229 == 110))) = some r := H
                        have A24 := Az.mk A240
                        clear A240
                        replace H := Option.bind_eq_some_iff.mp H
                        obtain ⟨t229, A250, H⟩ := H
                        replace H : (some (t229 == 110)) = some r := H
                        have A25 := Az.mk A250
                        clear A250
                        obtain rfl := Option.some.inj H
                        go_enter Tryd.func9, Tryd.ntmps9
                        go_wp2_with (first | ((with_reducible refine gtc (f := 34) rfl ?_); refine goesL_ (some 11) rfl rfl Tryd.func34 (by kernel_rfl) rfl #[] rfl (by (try simp only [List.map_toArray, List.map_cons, List.map_nil]); first | done | rfl | (simp only [List.length_drop, List.length_take]; rfl)) ?_; (with_reducible refine (l11_some.calls  t181 t182 t183 _ ?side1 A1.out).mono ?_); (case side1 => exact hG.below (by repeat (first | (with_reducible first | exact HB.out | apply pbA | apply pbN | apply pb1) | exact HB.out))); rintro e w26 ⟨v184, rfl, ho0, hb⟩; refine ⟨_, rfl, ?_⟩; have n0_ := Az.mk (Kd.R_lower ho0 (pbZ (by repeat (first | (with_reducible first | exact HB.out | apply pbA | apply pbN | apply pb1) | exact HB.out)))); have n1_ := Az.mk (pbT (by repeat (first | (with_reducible first | exact HB.out | apply pbA | apply pbN | apply pb1) | exact HB.out)) hb); clear HB; have HO185 := n0_; have HB := n1_; clear n0_ n1_; (try clear hb); (try clear hb2); (try clear hk); (try clear hi); (try clear ho0)) | ((with_reducible refine gate_dst (N := 14) rfl ?_); (try (refine gate_guard (by rfl) ?_; dsimp only)); refine Kd.R_lit k54 _ 54 ?hg (N := 14) ?hd (xs := ([(⟨1, (⟨#[98]⟩ : ByteArray)⟩ : S54), (⟨3, (⟨#[100]⟩ : ByteArray)⟩ : S54)] : List (S54))) (inner := [.int .i64 1, .string (⟨#[98]⟩ : ByteArray), .int .i64 3, .string (⟨#[100]⟩ : ByteArray)]) (ok := fun _ => True) (okp := fun _ => True) ?hr ?hp (fun _ hk => hk) trivial (Below.refl _ _) (Nat.le_refl _) (by simp) ?_; (case hd => rfl); (case hg => rfl); (case hr => first | (go_simp; done) | (go_simp; rfl)); (case hp => exact (Reps.c2 (show Kd.M k54 _ _ _ (⟨1, (⟨#[98]⟩ : ByteArray)⟩ : S54) [.int .i64 1, .string (⟨#[98]⟩ : ByteArray)] from (k54_mkM _ _ _ (⟨1, (⟨#[98]⟩ : ByteArray)⟩ : S54) )) (Reps.c2 (show Kd.M k54 _ _ _ (⟨3, (⟨#[100]⟩ : ByteArray)⟩ : S54) [.int .i64 3, .string (⟨#[100]⟩ : ByteArray)] from (k54_mkM _ _ _ (⟨3, (⟨#[100]⟩ : ByteArray)⟩ : S54) )) (Reps.none _ _)))); intro v187 w27 ho28 hb hg_ hnew_; clear hg_ hnew_; (first | rw [← Ny186.out] at ho28 | (simp only [Int.reduceToNat] at ho28; rw [← Ny186.out] at ho28)); have n0_ := Az.mk (Kd.R_elder' (by (with_reducible repeat (first | apply Kd.R_alloc | apply Kd.R_drewN | apply Kd.R_drew)); exact HO185.out) (Kd.R_base ho28) hb); have n1_ := Az.mk (Kd.R_lower (Kd.R_new' ho28 (Kd.R_lt (by (with_reducible repeat (first | apply Kd.R_alloc | apply Kd.R_drewN | apply Kd.R_drew)); exact HO185.out))) (pbZ (by repeat (first | (with_reducible first | exact HB.out | apply pbA | apply pbN | apply pb1) | exact HB.out)))); have n2_ := Az.mk (pbT (by repeat (first | (with_reducible first | exact HB.out | apply pbA | apply pbN | apply pb1) | exact HB.out)) hb); clear HO185; clear HB; have HO185 := n0_; have HO188 := n1_; have HB := n2_; clear n0_ n1_ n2_; clear hb ho28; obtain ⟨Ao29, co29, eo29⟩ := Kd.R_slice HO185.out; subst eo29; obtain ⟨Ao30, co30, eo30⟩ := Kd.R_slice HO188.out; subst eo30) | ((with_reducible refine gtc (f := 19) rfl ?_); refine goesL_ (some 15) rfl rfl Tryd.func19 (by kernel_rfl) rfl #[.agg #[.int .i64 t181, .int .i64 t182, .slice Ao29 t183.length co29], .int .i64 5, .int .i64 1, .slice Ao30 y186.length co30] rfl (by (try simp only [List.map_toArray, List.map_cons, List.map_nil]); first | done | rfl | (simp only [List.length_drop, List.length_take]; rfl)) ?_; (with_reducible refine (roll_Merge.calls t181 t182 (fun k_ => some k_ = (.slice Ao29 t183.length co29 : Value).ownBlock) _ _ t183 5 1 _ _ y186 t189 t190 t191 true _ ?side1 ?side2 ?side3 ?side4 A2.out).mono ?_); (case side1 => exact hG.below (by repeat (first | (with_reducible first | exact HB.out | apply pbA | apply pbN | apply pb1) | exact HB.out))); (case side2 => exact Kd.R_V (Kd.R_tight rfl (HO185.out))); (case side3 => repeat (first | exact (Kd.R_reads' HO188.out).2.2 | (with_reducible refine Kd.C_alloc ?_ _) | (with_reducible refine Kd.C_drewN ?_ _) | (with_reducible refine Kd.C_drew ?_))); (case side4 => exact (Kd.R_reads' HO188.out).2.1); rintro e w31 ⟨v192, rfl, ho0, hb⟩; refine ⟨_, rfl, ?_⟩; have n0_ := Az.mk (Kd.R_below (by (with_reducible repeat (first | apply Kd.R_alloc | apply Kd.R_drewN | apply Kd.R_drew)); exact HO185.out) hb); have n1_ := Az.mk (Kd.R_below (by (with_reducible repeat (first | apply Kd.R_alloc | apply Kd.R_drewN | apply Kd.R_drew)); exact HO188.out) hb); have n2_ := Az.mk (Kd.V_lower (Kd.V_mono (ok' := fun k_ => some k_ ≠ (.slice Ao30 y186.length co30 : Value).ownBlock) ho0 (fun k_ hk_ => Or.elim hk_ (fun hs_ => ((HO185.out).1 k_ hs_.symm).2) (fun hn_ => (Kd.fresh' (Kd.R_lt (by (with_reducible repeat (first | apply Kd.R_alloc | apply Kd.R_drewN | apply Kd.R_drew)); exact HO188.out)) k_ hn_)))) (pbZ (by repeat (first | (with_reducible first | exact HB.out | apply pbA | apply pbN | apply pb1) | exact HB.out)))); have n3_ := Az.mk (pbT (by repeat (first | (with_reducible first | exact HB.out | apply pbA | apply pbN | apply pb1) | exact HB.out)) hb); clear HO185; clear HO188; clear HB; have HO185 := n0_; have HO188 := n1_; have HO193 := n2_; have HB := n3_; clear n0_ n1_ n2_ n3_; (try clear hb); (try clear hb2); (try clear hk); (try clear hi); (try clear ho0)) | ((with_reducible refine gate_dst (N := 1) rfl ?_); (try (refine gate_guard (by rfl) ?_; dsimp only)); refine box_event ?hg (N := 1) ?hd (cs := #[.int .i64 0, .int .i64 0, .slice none 0 0]) (t := 24) ?hr ?_; (case hd => rfl); (case hg => rfl); (case hr => first | (go_simp; done) | (go_simp; rfl)); intro gb195 hg w32 hbox hb; have n0_ := Az.mk (Kd.R_below (by (with_reducible repeat (first | apply Kd.R_alloc | apply Kd.R_drewN | apply Kd.R_drew)); exact HO185.out) hb); have n1_ := Az.mk (Kd.R_below (by (with_reducible repeat (first | apply Kd.R_alloc | apply Kd.R_drewN | apply Kd.R_drew)); exact HO188.out) hb); have n2_ := Az.mk (Kd.V_below (Kd.V_elderB (by (with_reducible repeat (first | apply Kd.V_alloc | apply Kd.V_drewN | apply Kd.V_drew)); exact HO193.out) gb195 (Nat.le_of_eq hg.symm)) hb); have n3_ := Az.mk (pbT (by repeat (first | (with_reducible first | exact HB.out | apply pbA | apply pbN | apply pb1) | exact HB.out)) hb); have n4_ := Az.mk (hbox); have n5_ := Az.mk ((by rw [hg]; exact (pbZ (by repeat (first | (with_reducible first | exact HB.out | apply pbA | apply pbN | apply pb1) | exact HB.out))) : w.heap.size ≤ gb195)); have n6_ := Az.mk ((by rw [hg]; exact (pbZ (by repeat (first | (with_reducible first | exact HB.out | apply pbA | apply pbN | apply pb1) | exact HB.out))) : w.heap.size ≤ gb195)); clear HO185; clear HO188; clear HO193; clear HB; have HO185 := n0_; have HO188 := n1_; have HO193 := n2_; have HB := n3_; have BK195 := n4_; have GW195 := n5_; have GE195 := n6_; clear n0_ n1_ n2_ n3_ n4_ n5_ n6_; clear hb hbox hg; have hcz33_0 : w32.cell? ⟨gb195, 0, none⟩ = some (.int .i64 0) := (bkC BK195.out 0).trans rfl; have hcz33_1 : w32.cell? ⟨gb195, 1, none⟩ = some (.int .i64 0) := (bkC BK195.out 1).trans rfl; have hcz33_2 : w32.cell? ⟨gb195, 2, none⟩ = some (.slice none 0 0) := (bkC BK195.out 2).trans rfl; have hfz33_0 := bkF BK195.out 0; have hfz33_1 := bkF BK195.out 1; have hfz33_2 := bkF BK195.out 2; obtain ⟨Ao34, co34, eo34⟩ := Kd.V_slice HO193.out; subst eo34) | ((with_reducible refine gtc (f := 21) rfl ?_); refine goesL_ (some 20) rfl rfl Tryd.func21 (by kernel_rfl) rfl #[.agg #[.int .i64 t189, .int .i64 t190, .slice Ao34 t191.length co34]] rfl (by (try simp only [List.map_toArray, List.map_cons, List.map_nil]); first | done | rfl | (simp only [List.length_drop, List.length_take]; rfl)) ?_; (with_reducible refine (roll_Last.calls k t189 t190 _ _ t191 t196 t197 _ ?side1 ?side2 ?side3 A3.out).mono ?_); (case side1 => exact hG.below (by repeat (first | (with_reducible first | exact HB.out | apply pbA | apply pbN | apply pb1 | refine pbS ?_ GE195.out) | exact HB.out))); (case side2 => refine (Kd.V_reads' (e := 54) (base := w.heap.size) (ok := fun k_ => (some k_ ≠ (.slice Ao30 y186.length co30 : Value).ownBlock ∧ k_ ≠ gb195)) (n := t191.length) (c := co34) ?_).2.2; exact (by (with_reducible repeat (first | apply Kd.V_alloc | apply Kd.V_drewN | apply Kd.V_drew)); exact (Kd.V_mono (Kd.V_far (p := ⟨gb195, 2, none⟩) (Kd.V_far (p := ⟨gb195, 1, none⟩) (Kd.V_far (p := ⟨gb195, 0, none⟩) (Kd.V_mono HO193.out (fun k_ hk => (⟨hk, hk.2⟩ : _ ∧ k_ ≠ gb195))) (fun _ hk => hk.2) (.int .i64 t189)) (fun _ hk => hk.2) (.int .i64 t190)) (fun _ hk => hk.2) (.slice Ao34 t191.length co34)) (fun _ h_ => h_.1)))); (case side3 => exact (Kd.V_reads' HO193.out).2.1); rintro e w35 ⟨rfl, hb⟩; refine ⟨_, rfl, ?_⟩; have n0_ := Az.mk (Kd.R_below (by (with_reducible repeat (first | apply Kd.R_alloc | apply Kd.R_drewN | apply Kd.R_drew)); exact (Kd.R_mono (Kd.R_far (p := ⟨gb195, 2, none⟩) (Kd.R_far (p := ⟨gb195, 1, none⟩) (Kd.R_far (p := ⟨gb195, 0, none⟩) (Kd.R_types HO185.out BK195.out (by decide)) (fun _ hk => hk.2) (.int .i64 t189)) (fun _ hk => hk.2) (.int .i64 t190)) (fun _ hk => hk.2) (.slice Ao34 t191.length co34)) (fun _ h_ => h_.1))) hb); have n1_ := Az.mk (Kd.R_below (by (with_reducible repeat (first | apply Kd.R_alloc | apply Kd.R_drewN | apply Kd.R_drew)); exact (Kd.R_mono (Kd.R_far (p := ⟨gb195, 2, none⟩) (Kd.R_far (p := ⟨gb195, 1, none⟩) (Kd.R_far (p := ⟨gb195, 0, none⟩) (Kd.R_types HO188.out BK195.out (by decide)) (fun _ hk => hk.2) (.int .i64 t189)) (fun _ hk => hk.2) (.int .i64 t190)) (fun _ hk => hk.2) (.slice Ao34 t191.length co34)) (fun _ h_ => h_.1))) hb); have n2_ := Az.mk (Kd.V_below (by (with_reducible repeat (first | apply Kd.V_alloc | apply Kd.V_drewN | apply Kd.V_drew)); exact (Kd.V_mono (Kd.V_far (p := ⟨gb195, 2, none⟩) (Kd.V_far (p := ⟨gb195, 1, none⟩) (Kd.V_far (p := ⟨gb195, 0, none⟩) (Kd.V_mono HO193.out (fun k_ hk => (⟨hk, hk.2⟩ : _ ∧ k_ ≠ gb195))) (fun _ hk => hk.2) (.int .i64 t189)) (fun _ hk => hk.2) (.int .i64 t190)) (fun _ hk => hk.2) (.slice Ao34 t191.length co34)) (fun _ h_ => h_.1))) hb); have n3_ := Az.mk (bkB (g := gb195) (o := .cells #[.int .i64 t189, .int .i64 t190, .slice Ao34 t191.length co34] 24 (0, 0)) (by (with_reducible repeat (first | refine bkN ?_ _ | refine bkD ?_ | refine bkA ?_ _)); refine blk_put (cs := #[.int .i64 t189, .int .i64 t190, .slice none 0 0]) ?_ 2 _ rfl; (with_reducible repeat (first | refine bkN ?_ _ | refine bkD ?_ | refine bkA ?_ _)); refine blk_put (cs := #[.int .i64 t189, .int .i64 0, .slice none 0 0]) ?_ 1 _ rfl; (with_reducible repeat (first | refine bkN ?_ _ | refine bkD ?_ | refine bkA ?_ _)); refine blk_put (cs := #[.int .i64 0, .int .i64 0, .slice none 0 0]) ?_ 0 _ rfl; (with_reducible repeat (first | refine bkN ?_ _ | refine bkD ?_ | refine bkA ?_ _)); exact BK195.out) hb); have n4_ := Az.mk (pbT (by repeat (first | (with_reducible first | exact HB.out | apply pbA | apply pbN | apply pb1 | refine pbS ?_ GE195.out) | exact HB.out)) hb); clear HO185; clear HO188; clear HO193; clear BK195; clear HB; have HO185 := n0_; have HO188 := n1_; have HO193 := n2_; have BK195 := n3_; have HB := n4_; clear n0_ n1_ n2_ n3_ n4_; (try clear hb); (try clear hb2); (try clear hk); (try clear hi)) | ((with_reducible refine gtc (f := 34) rfl ?_); refine goesL_ (some 24) rfl rfl Tryd.func34 (by kernel_rfl) rfl #[] rfl (by (try simp only [List.map_toArray, List.map_cons, List.map_nil]); first | done | rfl | (simp only [List.length_drop, List.length_take]; rfl)) ?_; (with_reducible refine (l11_some.calls  t198 t199 t200 _ ?side1 A4.out).mono ?_); (case side1 => exact hG.below (by repeat (first | (with_reducible first | exact HB.out | apply pbA | apply pbN | apply pb1 | refine pbS ?_ GE195.out) | exact HB.out))); rintro e w36 ⟨v201, rfl, ho0, hb⟩; refine ⟨_, rfl, ?_⟩; have n0_ := Az.mk (Kd.R_elder' (by (with_reducible repeat (first | apply Kd.R_alloc | apply Kd.R_drewN | apply Kd.R_drew)); exact HO185.out) (Kd.R_base ho0) hb); have n1_ := Az.mk (Kd.R_elder' (by (with_reducible repeat (first | apply Kd.R_alloc | apply Kd.R_drewN | apply Kd.R_drew)); exact HO188.out) (Kd.R_base ho0) hb); have n2_ := Az.mk (Kd.V_elder' (by (with_reducible repeat (first | apply Kd.V_alloc | apply Kd.V_drewN | apply Kd.V_drew)); exact HO193.out) (Kd.R_base ho0) hb); have n3_ := Az.mk (Kd.R_lower (Kd.R_new' (Kd.R_new' ho0 (Kd.R_lt (by (with_reducible repeat (first | apply Kd.R_alloc | apply Kd.R_drewN | apply Kd.R_drew)); exact HO185.out))) (Kd.R_lt (by (with_reducible repeat (first | apply Kd.R_alloc | apply Kd.R_drewN | apply Kd.R_drew)); exact HO188.out))) (pbZ (by repeat (first | (with_reducible first | exact HB.out | apply pbA | apply pbN | apply pb1 | refine pbS ?_ GE195.out) | exact HB.out)))); have n4_ := Az.mk (bkB (g := gb195) (o := .cells #[.int .i64 t189, .int .i64 t190, .slice Ao34 t191.length co34] 24 (0, 0)) (by (with_reducible repeat (first | refine bkN ?_ _ | refine bkD ?_ | refine bkA ?_ _)); exact BK195.out) hb); have n5_ := Az.mk (pbT (by repeat (first | (with_reducible first | exact HB.out | apply pbA | apply pbN | apply pb1 | refine pbS ?_ GE195.out) | exact HB.out)) hb); clear HO185; clear HO188; clear HO193; clear BK195; clear HB; have HO185 := n0_; have HO188 := n1_; have HO193 := n2_; have HO202 := n3_; have BK195 := n4_; have HB := n5_; clear n0_ n1_ n2_ n3_ n4_ n5_; (try clear hb); (try clear hb2); (try clear hk); (try clear hi); (try clear ho0); obtain ⟨Ao37, co37, eo37⟩ := Kd.R_slice HO202.out; subst eo37) | ((with_reducible refine gtc (f := 19) rfl ?_); refine goesL_ (some 25) rfl rfl Tryd.func19 (by kernel_rfl) rfl #[.agg #[.int .i64 t198, .int .i64 t199, .slice Ao37 t200.length co37], .int .i64 7, .int .i64 1, .slice none 0 0] rfl (by (try simp only [List.map_toArray, List.map_cons, List.map_nil]); first | done | rfl | (simp only [List.length_drop, List.length_take]; rfl)) ?_; (refine (roll_Merge.calls t198 t199 (fun k_ => some k_ = (.slice Ao37 t200.length co37 : Value).ownBlock) _ _ t200 7 1 _ _ ([] : List (S54)) t203 t204 t205 false _ ?side1 ?side2 ?side3 ?side4 A5.out).mono ?_); (case side1 => exact hG.below (by repeat (first | (with_reducible first | exact HB.out | apply pbA | apply pbN | apply pb1 | refine pbS ?_ GE195.out) | exact HB.out))); (case side2 => exact Kd.R_V (Kd.R_tight rfl (Kd.R_types (HO202.out) BK195.out (by decide)))); (case side3 => exact Kd.C_nil _ _); (case side4 => exact Nat.le_refl _); rintro e w38 ⟨v206, rfl, ho0, hb⟩; refine ⟨_, rfl, ?_⟩; have n0_ := Az.mk (Kd.R_below (by (with_reducible repeat (first | apply Kd.R_alloc | apply Kd.R_drewN | apply Kd.R_drew)); exact HO185.out) hb); have n1_ := Az.mk (Kd.R_below (by (with_reducible repeat (first | apply Kd.R_alloc | apply Kd.R_drewN | apply Kd.R_drew)); exact HO188.out) hb); have n2_ := Az.mk (Kd.V_below (by (with_reducible repeat (first | apply Kd.V_alloc | apply Kd.V_drewN | apply Kd.V_drew)); exact HO193.out) hb); have n3_ := Az.mk (Kd.R_below (by (with_reducible repeat (first | apply Kd.R_alloc | apply Kd.R_drewN | apply Kd.R_drew)); exact HO202.out) hb); have n4_ := Az.mk (Kd.V_lower (Kd.V_mono (ok' := fun k_ => some k_ ≠ (.slice Ao29 t183.length co29 : Value).ownBlock ∧ some k_ ≠ (.slice Ao30 y186.length co30 : Value).ownBlock ∧ k_ ≠ gb195) ho0 (fun k_ hk_ => ⟨Or.elim hk_ (fun hs_ => ((Kd.R_types (HO202.out) BK195.out (by decide)).1 k_ hs_.symm).1.1.2) (fun hn_ => (Kd.fresh' (Kd.R_lt (by (with_reducible repeat (first | apply Kd.R_alloc | apply Kd.R_drewN | apply Kd.R_drew)); exact HO185.out)) k_ hn_)), Or.elim hk_ (fun hs_ => ((Kd.R_types (HO202.out) BK195.out (by decide)).1 k_ hs_.symm).1.2) (fun hn_ => (Kd.fresh' (Kd.R_lt (by (with_reducible repeat (first | apply Kd.R_alloc | apply Kd.R_drewN | apply Kd.R_drew)); exact HO188.out)) k_ hn_)), Or.elim hk_ (fun hs_ => ((Kd.R_types (HO202.out) BK195.out (by decide)).1 k_ hs_.symm).2) (fun hn_ => (Kd.freshB (g := gb195) (o := .cells #[.int .i64 t189, .int .i64 t190, .slice Ao34 t191.length co34] 24 (0, 0)) (by (with_reducible repeat (first | refine bkN ?_ _ | refine bkD ?_ | refine bkA ?_ _)); exact BK195.out) k_ hn_))⟩)) (pbZ (by repeat (first | (with_reducible first | exact HB.out | apply pbA | apply pbN | apply pb1 | refine pbS ?_ GE195.out) | exact HB.out)))); have n5_ := Az.mk (bkB (g := gb195) (o := .cells #[.int .i64 t189, .int .i64 t190, .slice Ao34 t191.length co34] 24 (0, 0)) (by (with_reducible repeat (first | refine bkN ?_ _ | refine bkD ?_ | refine bkA ?_ _)); exact BK195.out) hb); have n6_ := Az.mk (pbT (by repeat (first | (with_reducible first | exact HB.out | apply pbA | apply pbN | apply pb1 | refine pbS ?_ GE195.out) | exact HB.out)) hb); clear HO185; clear HO188; clear HO193; clear HO202; clear BK195; clear HB; have HO185 := n0_; have HO188 := n1_; have HO193 := n2_; have HO202 := n3_; have HO207 := n4_; have BK195 := n5_; have HB := n6_; clear n0_ n1_ n2_ n3_ n4_ n5_ n6_; (try clear hb); (try clear hb2); (try clear hk); (try clear hi); (try clear ho0)) | ((with_reducible refine gate_dst (N := 5) rfl ?_); (try (refine gate_guard (by rfl) ?_; dsimp only)); refine box_event ?hg (N := 5) ?hd (cs := #[.int .i64 0, .int .i64 0, .slice none 0 0]) (t := 24) ?hr ?_; (case hd => rfl); (case hg => rfl); (case hr => first | (go_simp; done) | (go_simp; rfl)); intro gb209 hg w39 hbox hb; have n0_ := Az.mk (Kd.R_below (by (with_reducible repeat (first | apply Kd.R_alloc | apply Kd.R_drewN | apply Kd.R_drew)); exact HO185.out) hb); have n1_ := Az.mk (Kd.R_below (by (with_reducible repeat (first | apply Kd.R_alloc | apply Kd.R_drewN | apply Kd.R_drew)); exact HO188.out) hb); have n2_ := Az.mk (Kd.V_below (Kd.V_elderB (by (with_reducible repeat (first | apply Kd.V_alloc | apply Kd.V_drewN | apply Kd.V_drew)); exact HO193.out) gb209 (Nat.le_of_eq hg.symm)) hb); have n3_ := Az.mk (Kd.R_below (by (with_reducible repeat (first | apply Kd.R_alloc | apply Kd.R_drewN | apply Kd.R_drew)); exact HO202.out) hb); have n4_ := Az.mk (Kd.V_below (Kd.V_elderB (by (with_reducible repeat (first | apply Kd.V_alloc | apply Kd.V_drewN | apply Kd.V_drew)); exact HO207.out) gb209 (Nat.le_of_eq hg.symm)) hb); have n5_ := Az.mk (bkB (g := gb195) (o := .cells #[.int .i64 t189, .int .i64 t190, .slice Ao34 t191.length co34] 24 (0, 0)) (by (with_reducible repeat (first | refine bkN ?_ _ | refine bkD ?_ | refine bkA ?_ _)); exact BK195.out) hb); have n6_ := Az.mk (pbT (by repeat (first | (with_reducible first | exact HB.out | apply pbA | apply pbN | apply pb1 | refine pbS ?_ GE195.out) | exact HB.out)) hb); have n7_ := Az.mk (hbox); have n8_ := Az.mk ((by rw [hg]; exact (pbZ (by repeat (first | (with_reducible first | exact HB.out | apply pbA | apply pbN | apply pb1 | refine pbS ?_ GE195.out) | exact HB.out))) : w.heap.size ≤ gb209)); have n9_ := Az.mk ((by rw [hg]; exact (pbZ (by repeat (first | (with_reducible first | exact HB.out | apply pbA | apply pbN | apply pb1 | refine pbS ?_ GE195.out) | exact HB.out))) : w.heap.size ≤ gb209)); have n10_ := Az.mk ((by rw [hg]; exact Nat.ne_of_lt (blk_lt (g := gb195) (o := .cells #[.int .i64 t189, .int .i64 t190, .slice Ao34 t191.length co34] 24 (0, 0)) (by (with_reducible repeat (first | refine bkN ?_ _ | refine bkD ?_ | refine bkA ?_ _)); exact BK195.out)) : gb195 ≠ gb209)); have n11_ := Az.mk ((by rw [hg]; exact Nat.ne_of_gt (blk_lt (g := gb195) (o := .cells #[.int .i64 t189, .int .i64 t190, .slice Ao34 t191.length co34] 24 (0, 0)) (by (with_reducible repeat (first | refine bkN ?_ _ | refine bkD ?_ | refine bkA ?_ _)); exact BK195.out)) : gb209 ≠ gb195)); clear HO185; clear HO188; clear HO193; clear HO202; clear HO207; clear BK195; clear HB; have HO185 := n0_; have HO188 := n1_; have HO193 := n2_; have HO202 := n3_; have HO207 := n4_; have BK195 := n5_; have HB := n6_; have BK209 := n7_; have GW209 := n8_; have GE209 := n9_; have NB195_209 := n10_; have NB209_195 := n11_; clear n0_ n1_ n2_ n3_ n4_ n5_ n6_ n7_ n8_ n9_ n10_ n11_; clear hb hbox hg; have hnb40 := NB209_195.out; have hnc40 := NB195_209.out; have hcz41_0 : w39.cell? ⟨gb209, 0, none⟩ = some (.int .i64 0) := (bkC BK209.out 0).trans rfl; have hcz41_1 : w39.cell? ⟨gb209, 1, none⟩ = some (.int .i64 0) := (bkC BK209.out 1).trans rfl; have hcz41_2 : w39.cell? ⟨gb209, 2, none⟩ = some (.slice none 0 0) := (bkC BK209.out 2).trans rfl; have hfz41_0 := bkF BK209.out 0; have hfz41_1 := bkF BK209.out 1; have hfz41_2 := bkF BK209.out 2; obtain ⟨Ao42, co42, eo42⟩ := Kd.V_slice HO207.out; subst eo42; have hcz43_0 : w39.cell? ⟨gb195, 0, none⟩ = some (.int .i64 t189) := (bkC BK195.out 0).trans rfl; have hcz43_1 : w39.cell? ⟨gb195, 1, none⟩ = some (.int .i64 t190) := (bkC BK195.out 1).trans rfl; have hcz43_2 : w39.cell? ⟨gb195, 2, none⟩ = some (.slice Ao34 t191.length co34) := (bkC BK195.out 2).trans rfl; have hfz43_0 := bkF BK195.out 0; have hfz43_1 := bkF BK195.out 1; have hfz43_2 := bkF BK195.out 2) | ((with_reducible refine gtc (f := 15) rfl ?_); refine goesL_ (some 30) rfl rfl Tryd.func15 (by kernel_rfl) rfl #[.agg #[.int .i64 t189, .int .i64 t190, .slice Ao34 t191.length co34]] rfl (by (try simp only [List.map_toArray, List.map_cons, List.map_nil]); first | done | rfl | (simp only [List.length_drop, List.length_take]; rfl)) ?_; (with_reducible refine (roll_Put.calls k t189 t190 _ _ t191 t210 _ ?side1 ?side2 ?side3 A6.out).mono ?_); (case side1 => exact hG.below (by repeat (first | (with_reducible first | exact HB.out | apply pbA | apply pbN | apply pb1 | refine pbS ?_ GE195.out | refine pbS ?_ GE209.out) | exact HB.out))); (case side2 => refine (Kd.V_reads' (e := 54) (base := w.heap.size) (ok := fun k_ => (((some k_ ≠ (.slice Ao30 y186.length co30 : Value).ownBlock ∧ k_ ≠ gb195) ∧ some k_ ≠ (.slice Ao37 t200.length co37 : Value).ownBlock) ∧ k_ ≠ gb209)) (n := t191.length) (c := co34) ?_).2.2; exact (by (with_reducible repeat (first | apply Kd.V_alloc | apply Kd.V_drewN | apply Kd.V_drew)); exact (Kd.V_mono (Kd.V_far (p := ⟨gb209, 2, none⟩) (Kd.V_far (p := ⟨gb209, 1, none⟩) (Kd.V_far (p := ⟨gb209, 0, none⟩) (Kd.V_mono HO193.out (fun k_ hk => (⟨hk, hk.2⟩ : _ ∧ k_ ≠ gb209))) (fun _ hk => hk.2) (.int .i64 t203)) (fun _ hk => hk.2) (.int .i64 t204)) (fun _ hk => hk.2) (.slice Ao42 t205.length co42)) (fun _ h_ => h_.1)))); (case side3 => exact (Kd.V_reads' HO193.out).2.1); rintro e w44 ⟨rfl, hb⟩; refine ⟨_, rfl, ?_⟩; have n0_ := Az.mk (Kd.R_below (by (with_reducible repeat (first | apply Kd.R_alloc | apply Kd.R_drewN | apply Kd.R_drew)); exact (Kd.R_mono (Kd.R_far (p := ⟨gb209, 2, none⟩) (Kd.R_far (p := ⟨gb209, 1, none⟩) (Kd.R_far (p := ⟨gb209, 0, none⟩) (Kd.R_types HO185.out BK209.out (by decide)) (fun _ hk => hk.2) (.int .i64 t203)) (fun _ hk => hk.2) (.int .i64 t204)) (fun _ hk => hk.2) (.slice Ao42 t205.length co42)) (fun _ h_ => h_.1))) hb); have n1_ := Az.mk (Kd.R_below (by (with_reducible repeat (first | apply Kd.R_alloc | apply Kd.R_drewN | apply Kd.R_drew)); exact (Kd.R_mono (Kd.R_far (p := ⟨gb209, 2, none⟩) (Kd.R_far (p := ⟨gb209, 1, none⟩) (Kd.R_far (p := ⟨gb209, 0, none⟩) (Kd.R_types HO188.out BK209.out (by decide)) (fun _ hk => hk.2) (.int .i64 t203)) (fun _ hk => hk.2) (.int .i64 t204)) (fun _ hk => hk.2) (.slice Ao42 t205.length co42)) (fun _ h_ => h_.1))) hb); have n2_ := Az.mk (Kd.V_below (by (with_reducible repeat (first | apply Kd.V_alloc | apply Kd.V_drewN | apply Kd.V_drew)); exact (Kd.V_mono (Kd.V_far (p := ⟨gb209, 2, none⟩) (Kd.V_far (p := ⟨gb209, 1, none⟩) (Kd.V_far (p := ⟨gb209, 0, none⟩) (Kd.V_mono HO193.out (fun k_ hk => (⟨hk, hk.2⟩ : _ ∧ k_ ≠ gb209))) (fun _ hk => hk.2) (.int .i64 t203)) (fun _ hk => hk.2) (.int .i64 t204)) (fun _ hk => hk.2) (.slice Ao42 t205.length co42)) (fun _ h_ => h_.1))) hb); have n3_ := Az.mk (Kd.R_below (by (with_reducible repeat (first | apply Kd.R_alloc | apply Kd.R_drewN | apply Kd.R_drew)); exact (Kd.R_mono (Kd.R_far (p := ⟨gb209, 2, none⟩) (Kd.R_far (p := ⟨gb209, 1, none⟩) (Kd.R_far (p := ⟨gb209, 0, none⟩) (Kd.R_types HO202.out BK209.out (by decide)) (fun _ hk => hk.2) (.int .i64 t203)) (fun _ hk => hk.2) (.int .i64 t204)) (fun _ hk => hk.2) (.slice Ao42 t205.length co42)) (fun _ h_ => h_.1))) hb); have n4_ := Az.mk (Kd.V_below (by (with_reducible repeat (first | apply Kd.V_alloc | apply Kd.V_drewN | apply Kd.V_drew)); exact (Kd.V_mono (Kd.V_far (p := ⟨gb209, 2, none⟩) (Kd.V_far (p := ⟨gb209, 1, none⟩) (Kd.V_far (p := ⟨gb209, 0, none⟩) (Kd.V_mono HO207.out (fun k_ hk => (⟨hk, hk.2⟩ : _ ∧ k_ ≠ gb209))) (fun _ hk => hk.2) (.int .i64 t203)) (fun _ hk => hk.2) (.int .i64 t204)) (fun _ hk => hk.2) (.slice Ao42 t205.length co42)) (fun _ h_ => h_.1))) hb); have n5_ := Az.mk (bkB (g := gb195) (o := .cells #[.int .i64 t189, .int .i64 t190, .slice Ao34 t191.length co34] 24 (0, 0)) (by (with_reducible repeat (first | refine bkN ?_ _ | refine bkD ?_ | refine bkA ?_ _)); refine blk_far ?_ NB195_209.out _; (with_reducible repeat (first | refine bkN ?_ _ | refine bkD ?_ | refine bkA ?_ _)); refine blk_far ?_ NB195_209.out _; (with_reducible repeat (first | refine bkN ?_ _ | refine bkD ?_ | refine bkA ?_ _)); refine blk_far ?_ NB195_209.out _; (with_reducible repeat (first | refine bkN ?_ _ | refine bkD ?_ | refine bkA ?_ _)); exact BK195.out) hb); have n6_ := Az.mk (bkB (g := gb209) (o := .cells #[.int .i64 t203, .int .i64 t204, .slice Ao42 t205.length co42] 24 (0, 0)) (by (with_reducible repeat (first | refine bkN ?_ _ | refine bkD ?_ | refine bkA ?_ _)); refine blk_put (cs := #[.int .i64 t203, .int .i64 t204, .slice none 0 0]) ?_ 2 _ rfl; (with_reducible repeat (first | refine bkN ?_ _ | refine bkD ?_ | refine bkA ?_ _)); refine blk_put (cs := #[.int .i64 t203, .int .i64 0, .slice none 0 0]) ?_ 1 _ rfl; (with_reducible repeat (first | refine bkN ?_ _ | refine bkD ?_ | refine bkA ?_ _)); refine blk_put (cs := #[.int .i64 0, .int .i64 0, .slice none 0 0]) ?_ 0 _ rfl; (with_reducible repeat (first | refine bkN ?_ _ | refine bkD ?_ | refine bkA ?_ _)); exact BK209.out) hb); have n7_ := Az.mk (pbT (by repeat (first | (with_reducible first | exact HB.out | apply pbA | apply pbN | apply pb1 | refine pbS ?_ GE195.out | refine pbS ?_ GE209.out) | exact HB.out)) hb); clear HO185; clear HO188; clear HO193; clear HO202; clear HO207; clear BK195; clear BK209; clear HB; have HO185 := n0_; have HO188 := n1_; have HO193 := n2_; have HO202 := n3_; have HO207 := n4_; have BK195 := n5_; have BK209 := n6_; have HB := n7_; clear n0_ n1_ n2_ n3_ n4_ n5_ n6_ n7_; (try clear hb); (try clear hb2); (try clear hk); (try clear hi)) | ((with_reducible refine gtc (f := 10) rfl ?_); refine goesL_ (some 31) rfl rfl Tryd.func10 (by kernel_rfl) rfl #[.string t210] rfl (by (try simp only [List.map_toArray, List.map_cons, List.map_nil]); first | done | rfl | (simp only [List.length_drop, List.length_take]; rfl)) ?_; (with_reducible refine (roll_Parse.calls k t210 t211 t212 t213 t216 _ ?side1 A7.out).mono ?_); (case side1 => exact hG.below (by repeat (first | (with_reducible first | exact HB.out | apply pbA | apply pbN | apply pb1 | refine pbS ?_ GE195.out | refine pbS ?_ GE209.out) | exact HB.out))); rintro e w45 ⟨v214, rfl, ho0, hb⟩; refine ⟨_, rfl, ?_⟩; have n0_ := Az.mk (Kd.R_elder' (by (with_reducible repeat (first | apply Kd.R_alloc | apply Kd.R_drewN | apply Kd.R_drew)); exact HO185.out) (Kd.R_base ho0) hb); have n1_ := Az.mk (Kd.R_elder' (by (with_reducible repeat (first | apply Kd.R_alloc | apply Kd.R_drewN | apply Kd.R_drew)); exact HO188.out) (Kd.R_base ho0) hb); have n2_ := Az.mk (Kd.V_elder' (by (with_reducible repeat (first | apply Kd.V_alloc | apply Kd.V_drewN | apply Kd.V_drew)); exact HO193.out) (Kd.R_base ho0) hb); have n3_ := Az.mk (Kd.R_elder' (by (with_reducible repeat (first | apply Kd.R_alloc | apply Kd.R_drewN | apply Kd.R_drew)); exact HO202.out) (Kd.R_base ho0) hb); have n4_ := Az.mk (Kd.V_elder' (by (with_reducible repeat (first | apply Kd.V_alloc | apply Kd.V_drewN | apply Kd.V_drew)); exact HO207.out) (Kd.R_base ho0) hb); have n5_ := Az.mk (Kd.R_lower (Kd.R_new' (Kd.R_new' (Kd.R_new' ho0 (Kd.R_lt (by (with_reducible repeat (first | apply Kd.R_alloc | apply Kd.R_drewN | apply Kd.R_drew)); exact HO185.out))) (Kd.R_lt (by (with_reducible repeat (first | apply Kd.R_alloc | apply Kd.R_drewN | apply Kd.R_drew)); exact HO188.out))) (Kd.R_lt (by (with_reducible repeat (first | apply Kd.R_alloc | apply Kd.R_drewN | apply Kd.R_drew)); exact HO202.out))) (pbZ (by repeat (first | (with_reducible first | exact HB.out | apply pbA | apply pbN | apply pb1 | refine pbS ?_ GE195.out | refine pbS ?_ GE209.out) | exact HB.out)))); have n6_ := Az.mk (bkB (g := gb195) (o := .cells #[.int .i64 t189, .int .i64 t190, .slice Ao34 t191.length co34] 24 (0, 0)) (by (with_reducible repeat (first | refine bkN ?_ _ | refine bkD ?_ | refine bkA ?_ _)); exact BK195.out) hb); have n7_ := Az.mk (bkB (g := gb209) (o := .cells #[.int .i64 t203, .int .i64 t204, .slice Ao42 t205.length co42] 24 (0, 0)) (by (with_reducible repeat (first | refine bkN ?_ _ | refine bkD ?_ | refine bkA ?_ _)); exact BK209.out) hb); have n8_ := Az.mk (pbT (by repeat (first | (with_reducible first | exact HB.out | apply pbA | apply pbN | apply pb1 | refine pbS ?_ GE195.out | refine pbS ?_ GE209.out) | exact HB.out)) hb); clear HO185; clear HO188; clear HO193; clear HO202; clear HO207; clear BK195; clear BK209; clear HB; have HO185 := n0_; have HO188 := n1_; have HO193 := n2_; have HO202 := n3_; have HO207 := n4_; have HO215 := n5_; have BK195 := n6_; have BK209 := n7_; have HB := n8_; clear n0_ n1_ n2_ n3_ n4_ n5_ n6_ n7_ n8_; (try clear hb); (try clear hb2); (try clear hk); (try clear hi); (try clear ho0)) | ((with_reducible refine gate_dst (N := 7) rfl ?_); (try (refine gate_guard (by rfl) ?_; dsimp only)); refine box_event ?hg (N := 7) ?hd (cs := #[.int .i64 0, .int .i64 0, .slice none 0 0]) (t := 24) ?hr ?_; (case hd => rfl); (case hg => rfl); (case hr => first | (go_simp; done) | (go_simp; rfl)); intro gb217 hg w46 hbox hb; have n0_ := Az.mk (Kd.R_below (by (with_reducible repeat (first | apply Kd.R_alloc | apply Kd.R_drewN | apply Kd.R_drew)); exact HO185.out) hb); have n1_ := Az.mk (Kd.R_below (by (with_reducible repeat (first | apply Kd.R_alloc | apply Kd.R_drewN | apply Kd.R_drew)); exact HO188.out) hb); have n2_ := Az.mk (Kd.V_below (Kd.V_elderB (by (with_reducible repeat (first | apply Kd.V_alloc | apply Kd.V_drewN | apply Kd.V_drew)); exact HO193.out) gb217 (Nat.le_of_eq hg.symm)) hb); have n3_ := Az.mk (Kd.R_below (by (with_reducible repeat (first | apply Kd.R_alloc | apply Kd.R_drewN | apply Kd.R_drew)); exact HO202.out) hb); have n4_ := Az.mk (Kd.V_below (Kd.V_elderB (by (with_reducible repeat (first | apply Kd.V_alloc | apply Kd.V_drewN | apply Kd.V_drew)); exact HO207.out) gb217 (Nat.le_of_eq hg.symm)) hb); have n5_ := Az.mk (Kd.R_below (by (with_reducible repeat (first | apply Kd.R_alloc | apply Kd.R_drewN | apply Kd.R_drew)); exact HO215.out) hb); have n6_ := Az.mk (bkB (g := gb195) (o := .cells #[.int .i64 t189, .int .i64 t190, .slice Ao34 t191.length co34] 24 (0, 0)) (by (with_reducible repeat (first | refine bkN ?_ _ | refine bkD ?_ | refine bkA ?_ _)); exact BK195.out) hb); have n7_ := Az.mk (bkB (g := gb209) (o := .cells #[.int .i64 t203, .int .i64 t204, .slice Ao42 t205.length co42] 24 (0, 0)) (by (with_reducible repeat (first | refine bkN ?_ _ | refine bkD ?_ | refine bkA ?_ _)); exact BK209.out) hb); have n8_ := Az.mk (pbT (by repeat (first | (with_reducible first | exact HB.out | apply pbA | apply pbN | apply pb1 | refine pbS ?_ GE195.out | refine pbS ?_ GE209.out) | exact HB.out)) hb); have n9_ := Az.mk (hbox); have n10_ := Az.mk ((by rw [hg]; exact (pbZ (by repeat (first | (with_reducible first | exact HB.out | apply pbA | apply pbN | apply pb1 | refine pbS ?_ GE195.out | refine pbS ?_ GE209.out) | exact HB.out))) : w.heap.size ≤ gb217)); have n11_ := Az.mk ((by rw [hg]; exact (pbZ (by repeat (first | (with_reducible first | exact HB.out | apply pbA | apply pbN | apply pb1 | refine pbS ?_ GE195.out | refine pbS ?_ GE209.out) | exact HB.out))) : w.heap.size ≤ gb217)); have n12_ := Az.mk ((by rw [hg]; exact Nat.ne_of_lt (blk_lt (g := gb195) (o := .cells #[.int .i64 t189, .int .i64 t190, .slice Ao34 t191.length co34] 24 (0, 0)) (by (with_reducible repeat (first | refine bkN ?_ _ | refine bkD ?_ | refine bkA ?_ _)); exact BK195.out)) : gb195 ≠ gb217)); have n13_ := Az.mk ((by rw [hg]; exact Nat.ne_of_gt (blk_lt (g := gb195) (o := .cells #[.int .i64 t189, .int .i64 t190, .slice Ao34 t191.length co34] 24 (0, 0)) (by (with_reducible repeat (first | refine bkN ?_ _ | refine bkD ?_ | refine bkA ?_ _)); exact BK195.out)) : gb217 ≠ gb195)); have n14_ := Az.mk ((by rw [hg]; exact Nat.ne_of_lt (blk_lt (g := gb209) (o := .cells #[.int .i64 t203, .int .i64 t204, .slice Ao42 t205.length co42] 24 (0, 0)) (by (with_reducible repeat (first | refine bkN ?_ _ | refine bkD ?_ | refine bkA ?_ _)); exact BK209.out)) : gb209 ≠ gb217)); have n15_ := Az.mk ((by rw [hg]; exact Nat.ne_of_gt (blk_lt (g := gb209) (o := .cells #[.int .i64 t203, .int .i64 t204, .slice Ao42 t205.length co42] 24 (0, 0)) (by (with_reducible repeat (first | refine bkN ?_ _ | refine bkD ?_ | refine bkA ?_ _)); exact BK209.out)) : gb217 ≠ gb209)); clear HO185; clear HO188; clear HO193; clear HO202; clear HO207; clear HO215; clear BK195; clear BK209; clear HB; have HO185 := n0_; have HO188 := n1_; have HO193 := n2_; have HO202 := n3_; have HO207 := n4_; have HO215 := n5_; have BK195 := n6_; have BK209 := n7_; have HB := n8_; have BK217 := n9_; have GW217 := n10_; have GE217 := n11_; have NB195_217 := n12_; have NB217_195 := n13_; have NB209_217 := n14_; have NB217_209 := n15_; clear n0_ n1_ n2_ n3_ n4_ n5_ n6_ n7_ n8_ n9_ n10_ n11_ n12_ n13_ n14_ n15_; clear hb hbox hg; have hnb47 := NB217_195.out; have hnc47 := NB195_217.out; have hnb48 := NB217_209.out; have hnc48 := NB209_217.out; have hcz49_0 : w46.cell? ⟨gb217, 0, none⟩ = some (.int .i64 0) := (bkC BK217.out 0).trans rfl; have hcz49_1 : w46.cell? ⟨gb217, 1, none⟩ = some (.int .i64 0) := (bkC BK217.out 1).trans rfl; have hcz49_2 : w46.cell? ⟨gb217, 2, none⟩ = some (.slice none 0 0) := (bkC BK217.out 2).trans rfl; have hfz49_0 := bkF BK217.out 0; have hfz49_1 := bkF BK217.out 1; have hfz49_2 := bkF BK217.out 2; obtain ⟨Ao50, co50, eo50⟩ := Kd.R_slice HO215.out; subst eo50) | ((with_reducible refine gate_store (t := 24) (p := 7) rfl ?_); refine store_event (t := 24) (p := 7) (v := ?vo_w51) (w1 := (((w46.setCell ⟨gb217, 0, none⟩ (.int .i64 t211)).setCell ⟨gb217, 1, none⟩ (.int .i64 t212)).setCell ⟨gb217, 2, none⟩ (.slice Ao50 t213.length co50))) ?hg ?ho ?hn ?hr ?_; (case ho => rfl); (case hg => rfl); (case hn => rfl); (case hr => first | (go_simp; done) | (go_simp; rfl)); intro w51 hw; have n0_ : Az (Kd.R k54 54 w51 w.heap.size (fun k_ => some k_ ≠ (.slice Ao30 y186.length co30 : Value).ownBlock ∧ some k_ ≠ (.slice Ao37 t200.length co37 : Value).ownBlock ∧ some k_ ≠ (.slice Ao50 t213.length co50 : Value).ownBlock) (.slice Ao29 t183.length co29) t183) := ⟨(by rw [hw]; exact (by (with_reducible repeat (first | apply Kd.R_alloc | apply Kd.R_drewN | apply Kd.R_drew)); exact Kd.R_mono (Kd.R_far (p := ⟨gb217, 2, none⟩) (Kd.R_far (p := ⟨gb217, 1, none⟩) (Kd.R_far (p := ⟨gb217, 0, none⟩) (Kd.R_types HO185.out BK217.out (by decide)) (fun _ hk => hk.2) (.int .i64 t211)) (fun _ hk => hk.2) (.int .i64 t212)) (fun _ hk => hk.2) (.slice Ao50 t213.length co50)) (fun _ hk => ⟨hk.1.1.1.2, ⟨hk.1.1.2, hk.1.2⟩⟩)))⟩; have n1_ : Az (Kd.R k54 54 w51 w.heap.size (fun k_ => some k_ ≠ (.slice Ao29 t183.length co29 : Value).ownBlock ∧ some k_ ≠ (.slice Ao37 t200.length co37 : Value).ownBlock ∧ some k_ ≠ (.slice Ao50 t213.length co50 : Value).ownBlock) (.slice Ao30 y186.length co30) y186) := ⟨(by rw [hw]; exact (by (with_reducible repeat (first | apply Kd.R_alloc | apply Kd.R_drewN | apply Kd.R_drew)); exact Kd.R_mono (Kd.R_far (p := ⟨gb217, 2, none⟩) (Kd.R_far (p := ⟨gb217, 1, none⟩) (Kd.R_far (p := ⟨gb217, 0, none⟩) (Kd.R_types HO188.out BK217.out (by decide)) (fun _ hk => hk.2) (.int .i64 t211)) (fun _ hk => hk.2) (.int .i64 t212)) (fun _ hk => hk.2) (.slice Ao50 t213.length co50)) (fun _ hk => ⟨hk.1.1.1.2, ⟨hk.1.1.2, hk.1.2⟩⟩)))⟩; have n2_ : Az (Kd.V k54 54 w51 w.heap.size (fun k_ => some k_ ≠ (.slice Ao30 y186.length co30 : Value).ownBlock ∧ some k_ ≠ (.slice Ao37 t200.length co37 : Value).ownBlock ∧ some k_ ≠ (.slice Ao50 t213.length co50 : Value).ownBlock ∧ k_ ≠ gb195 ∧ k_ ≠ gb209 ∧ k_ ≠ gb217) (.slice Ao34 t191.length co34) t191) := ⟨(by rw [hw]; exact (by (with_reducible repeat (first | apply Kd.V_alloc | apply Kd.V_drewN | apply Kd.V_drew)); exact Kd.V_mono (Kd.V_far (p := ⟨gb217, 2, none⟩) (Kd.V_far (p := ⟨gb217, 1, none⟩) (Kd.V_far (p := ⟨gb217, 0, none⟩) (Kd.V_mono HO193.out (fun k_ hk => (⟨hk, hk.2⟩ : _ ∧ k_ ≠ gb217))) (fun _ hk => hk.2) (.int .i64 t211)) (fun _ hk => hk.2) (.int .i64 t212)) (fun _ hk => hk.2) (.slice Ao50 t213.length co50)) (fun _ hk => ⟨hk.1.1.1.1.1.1, ⟨hk.1.1.1.1.2, ⟨hk.1.1.2, ⟨hk.1.1.1.1.1.2, ⟨hk.1.1.1.2, hk.1.2⟩⟩⟩⟩⟩)))⟩; have n3_ : Az (Kd.R k54 54 w51 w.heap.size (fun k_ => some k_ ≠ (.slice Ao29 t183.length co29 : Value).ownBlock ∧ some k_ ≠ (.slice Ao30 y186.length co30 : Value).ownBlock ∧ some k_ ≠ (.slice Ao50 t213.length co50 : Value).ownBlock) (.slice Ao37 t200.length co37) t200) := ⟨(by rw [hw]; exact (by (with_reducible repeat (first | apply Kd.R_alloc | apply Kd.R_drewN | apply Kd.R_drew)); exact Kd.R_mono (Kd.R_far (p := ⟨gb217, 2, none⟩) (Kd.R_far (p := ⟨gb217, 1, none⟩) (Kd.R_far (p := ⟨gb217, 0, none⟩) (Kd.R_types HO202.out BK217.out (by decide)) (fun _ hk => hk.2) (.int .i64 t211)) (fun _ hk => hk.2) (.int .i64 t212)) (fun _ hk => hk.2) (.slice Ao50 t213.length co50)) (fun _ hk => ⟨hk.1.1.1.2, ⟨hk.1.1.2, hk.1.2⟩⟩)))⟩; have n4_ : Az (Kd.V k54 54 w51 w.heap.size (fun k_ => some k_ ≠ (.slice Ao29 t183.length co29 : Value).ownBlock ∧ some k_ ≠ (.slice Ao30 y186.length co30 : Value).ownBlock ∧ some k_ ≠ (.slice Ao50 t213.length co50 : Value).ownBlock ∧ k_ ≠ gb195 ∧ k_ ≠ gb209 ∧ k_ ≠ gb217) (.slice Ao42 t205.length co42) t205) := ⟨(by rw [hw]; exact (by (with_reducible repeat (first | apply Kd.V_alloc | apply Kd.V_drewN | apply Kd.V_drew)); exact Kd.V_mono (Kd.V_far (p := ⟨gb217, 2, none⟩) (Kd.V_far (p := ⟨gb217, 1, none⟩) (Kd.V_far (p := ⟨gb217, 0, none⟩) (Kd.V_mono HO207.out (fun k_ hk => (⟨hk, hk.2⟩ : _ ∧ k_ ≠ gb217))) (fun _ hk => hk.2) (.int .i64 t211)) (fun _ hk => hk.2) (.int .i64 t212)) (fun _ hk => hk.2) (.slice Ao50 t213.length co50)) (fun _ hk => ⟨hk.1.1.1.1.1, ⟨hk.1.1.1.1.2.1, ⟨hk.1.1.2, ⟨hk.1.1.1.1.2.2, ⟨hk.1.1.1.2, hk.1.2⟩⟩⟩⟩⟩)))⟩; have n5_ : Az (Kd.R k54 54 w51 w.heap.size (fun k_ => some k_ ≠ (.slice Ao29 t183.length co29 : Value).ownBlock ∧ some k_ ≠ (.slice Ao30 y186.length co30 : Value).ownBlock ∧ some k_ ≠ (.slice Ao37 t200.length co37 : Value).ownBlock) (.slice Ao50 t213.length co50) t213) := ⟨(by rw [hw]; exact (by (with_reducible repeat (first | apply Kd.R_alloc | apply Kd.R_drewN | apply Kd.R_drew)); exact Kd.R_mono (Kd.R_far (p := ⟨gb217, 2, none⟩) (Kd.R_far (p := ⟨gb217, 1, none⟩) (Kd.R_far (p := ⟨gb217, 0, none⟩) (Kd.R_types HO215.out BK217.out (by decide)) (fun _ hk => hk.2) (.int .i64 t211)) (fun _ hk => hk.2) (.int .i64 t212)) (fun _ hk => hk.2) (.slice Ao50 t213.length co50)) (fun _ hk => ⟨hk.1.1.1.2, ⟨hk.1.1.2, hk.1.2⟩⟩)))⟩; have n6_ : Az (w51.heap[gb195]? = some (.cells #[.int .i64 t189, .int .i64 t190, .slice Ao34 t191.length co34] 24 (0, 0))) := ⟨(by rw [hw]; exact (by (with_reducible repeat (first | refine bkN ?_ _ | refine bkD ?_ | refine bkA ?_ _)); refine blk_far ?_ NB195_217.out _; (with_reducible repeat (first | refine bkN ?_ _ | refine bkD ?_ | refine bkA ?_ _)); refine blk_far ?_ NB195_217.out _; (with_reducible repeat (first | refine bkN ?_ _ | refine bkD ?_ | refine bkA ?_ _)); refine blk_far ?_ NB195_217.out _; (with_reducible repeat (first | refine bkN ?_ _ | refine bkD ?_ | refine bkA ?_ _)); exact BK195.out))⟩; have n7_ : Az (w51.heap[gb209]? = some (.cells #[.int .i64 t203, .int .i64 t204, .slice Ao42 t205.length co42] 24 (0, 0))) := ⟨(by rw [hw]; exact (by (with_reducible repeat (first | refine bkN ?_ _ | refine bkD ?_ | refine bkA ?_ _)); refine blk_far ?_ NB209_217.out _; (with_reducible repeat (first | refine bkN ?_ _ | refine bkD ?_ | refine bkA ?_ _)); refine blk_far ?_ NB209_217.out _; (with_reducible repeat (first | refine bkN ?_ _ | refine bkD ?_ | refine bkA ?_ _)); refine blk_far ?_ NB209_217.out _; (with_reducible repeat (first | refine bkN ?_ _ | refine bkD ?_ | refine bkA ?_ _)); exact BK209.out))⟩; have n8_ : Az (w51.heap[gb217]? = some (.cells #[.int .i64 t211, .int .i64 t212, .slice Ao50 t213.length co50] 24 (0, 0))) := ⟨(by rw [hw]; exact (by (with_reducible repeat (first | refine bkN ?_ _ | refine bkD ?_ | refine bkA ?_ _)); refine blk_put (cs := #[.int .i64 t211, .int .i64 t212, .slice none 0 0]) ?_ 2 _ rfl; (with_reducible repeat (first | refine bkN ?_ _ | refine bkD ?_ | refine bkA ?_ _)); refine blk_put (cs := #[.int .i64 t211, .int .i64 0, .slice none 0 0]) ?_ 1 _ rfl; (with_reducible repeat (first | refine bkN ?_ _ | refine bkD ?_ | refine bkA ?_ _)); refine blk_put (cs := #[.int .i64 0, .int .i64 0, .slice none 0 0]) ?_ 0 _ rfl; (with_reducible repeat (first | refine bkN ?_ _ | refine bkD ?_ | refine bkA ?_ _)); exact BK217.out))⟩; have n9_ : Az (Below w.heap.size w w51) := ⟨(by rw [hw]; exact (by repeat (first | (with_reducible first | exact HB.out | apply pbA | apply pbN | apply pb1 | refine pbS ?_ GE195.out | refine pbS ?_ GE209.out | refine pbS ?_ GE217.out) | exact HB.out)))⟩; clear hw; clear HO185; clear HO188; clear HO193; clear HO202; clear HO207; clear HO215; clear BK195; clear BK209; clear BK217; clear HB; have HO185 := n0_; have HO188 := n1_; have HO193 := n2_; have HO202 := n3_; have HO207 := n4_; have HO215 := n5_; have BK195 := n6_; have BK209 := n7_; have BK217 := n8_; have HB := n9_; clear n0_ n1_ n2_ n3_ n4_ n5_ n6_ n7_ n8_ n9_; have hcz52_0 : w51.cell? ⟨gb195, 0, none⟩ = some (.int .i64 t189) := (bkC BK195.out 0).trans rfl; have hcz52_1 : w51.cell? ⟨gb195, 1, none⟩ = some (.int .i64 t190) := (bkC BK195.out 1).trans rfl; have hcz52_2 : w51.cell? ⟨gb195, 2, none⟩ = some (.slice Ao34 t191.length co34) := (bkC BK195.out 2).trans rfl; have hfz52_0 := bkF BK195.out 0; have hfz52_1 := bkF BK195.out 1; have hfz52_2 := bkF BK195.out 2) | ((with_reducible refine gtc (f := 23) rfl ?_); refine goesL_ (some 35) rfl rfl Tryd.func23 (by kernel_rfl) rfl #[.agg #[.int .i64 t189, .int .i64 t190, .slice Ao34 t191.length co34], .int .i64 6] rfl (by (try simp only [List.map_toArray, List.map_cons, List.map_nil]); first | done | rfl | (simp only [List.length_drop, List.length_take]; rfl)) ?_; (with_reducible refine (roll_Compact.calls k t189 t190 (fun k_ => (some k_ ≠ (.slice Ao30 y186.length co30 : Value).ownBlock ∧ (some k_ ≠ (.slice Ao37 t200.length co37 : Value).ownBlock ∧ (some k_ ≠ (.slice Ao50 t213.length co50 : Value).ownBlock ∧ (k_ ≠ gb195 ∧ (k_ ≠ gb209 ∧ k_ ≠ gb217)))))) _ _ t191 6 t218 t219 t220 _ ?side1 ?side2 A8.out).mono ?_); (case side1 => exact hG.below (by repeat (first | (with_reducible first | exact HB.out | apply pbA | apply pbN | apply pb1 | refine pbS ?_ GE195.out | refine pbS ?_ GE209.out | refine pbS ?_ GE217.out) | exact HB.out))); (case side2 => exact HO193.out); rintro e w53 ⟨v221, rfl, ho0, hb⟩; refine ⟨_, rfl, ?_⟩; have n0_ := Az.mk (Kd.R_below (by (with_reducible repeat (first | apply Kd.R_alloc | apply Kd.R_drewN | apply Kd.R_drew)); exact HO185.out) hb); have n1_ := Az.mk (Kd.R_below (by (with_reducible repeat (first | apply Kd.R_alloc | apply Kd.R_drewN | apply Kd.R_drew)); exact HO188.out) hb); have n2_ := Az.mk (Kd.V_below (by (with_reducible repeat (first | apply Kd.V_alloc | apply Kd.V_drewN | apply Kd.V_drew)); exact HO193.out) hb); have n3_ := Az.mk (Kd.R_below (by (with_reducible repeat (first | apply Kd.R_alloc | apply Kd.R_drewN | apply Kd.R_drew)); exact HO202.out) hb); have n4_ := Az.mk (Kd.V_below (by (with_reducible repeat (first | apply Kd.V_alloc | apply Kd.V_drewN | apply Kd.V_drew)); exact HO207.out) hb); have n5_ := Az.mk (Kd.R_below (by (with_reducible repeat (first | apply Kd.R_alloc | apply Kd.R_drewN | apply Kd.R_drew)); exact HO215.out) hb); have n6_ := Az.mk (Kd.V_lower (Kd.V_mono (ok' := fun k_ => some k_ ≠ (.slice Ao30 y186.length co30 : Value).ownBlock ∧ some k_ ≠ (.slice Ao37 t200.length co37 : Value).ownBlock ∧ some k_ ≠ (.slice Ao50 t213.length co50 : Value).ownBlock ∧ k_ ≠ gb195 ∧ k_ ≠ gb209 ∧ k_ ≠ gb217) ho0 (fun k_ hk_ => ⟨Or.elim hk_ (fun hs_ => hs_.1) (fun hn_ => (Kd.fresh' (Kd.R_lt (by (with_reducible repeat (first | apply Kd.R_alloc | apply Kd.R_drewN | apply Kd.R_drew)); exact HO188.out)) k_ hn_)), Or.elim hk_ (fun hs_ => hs_.2.1) (fun hn_ => (Kd.fresh' (Kd.R_lt (by (with_reducible repeat (first | apply Kd.R_alloc | apply Kd.R_drewN | apply Kd.R_drew)); exact HO202.out)) k_ hn_)), Or.elim hk_ (fun hs_ => hs_.2.2.1) (fun hn_ => (Kd.fresh' (Kd.R_lt (by (with_reducible repeat (first | apply Kd.R_alloc | apply Kd.R_drewN | apply Kd.R_drew)); exact HO215.out)) k_ hn_)), Or.elim hk_ (fun hs_ => hs_.2.2.2.1) (fun hn_ => (Kd.freshB (g := gb195) (o := .cells #[.int .i64 t189, .int .i64 t190, .slice Ao34 t191.length co34] 24 (0, 0)) (by (with_reducible repeat (first | refine bkN ?_ _ | refine bkD ?_ | refine bkA ?_ _)); exact BK195.out) k_ hn_)), Or.elim hk_ (fun hs_ => hs_.2.2.2.2.1) (fun hn_ => (Kd.freshB (g := gb209) (o := .cells #[.int .i64 t203, .int .i64 t204, .slice Ao42 t205.length co42] 24 (0, 0)) (by (with_reducible repeat (first | refine bkN ?_ _ | refine bkD ?_ | refine bkA ?_ _)); exact BK209.out) k_ hn_)), Or.elim hk_ (fun hs_ => hs_.2.2.2.2.2) (fun hn_ => (Kd.freshB (g := gb217) (o := .cells #[.int .i64 t211, .int .i64 t212, .slice Ao50 t213.length co50] 24 (0, 0)) (by (with_reducible repeat (first | refine bkN ?_ _ | refine bkD ?_ | refine bkA ?_ _)); exact BK217.out) k_ hn_))⟩)) (pbZ (by repeat (first | (with_reducible first | exact HB.out | apply pbA | apply pbN | apply pb1 | refine pbS ?_ GE195.out | refine pbS ?_ GE209.out | refine pbS ?_ GE217.out) | exact HB.out)))); have n7_ := Az.mk (bkB (g := gb195) (o := .cells #[.int .i64 t189, .int .i64 t190, .slice Ao34 t191.length co34] 24 (0, 0)) (by (with_reducible repeat (first | refine bkN ?_ _ | refine bkD ?_ | refine bkA ?_ _)); exact BK195.out) hb); have n8_ := Az.mk (bkB (g := gb209) (o := .cells #[.int .i64 t203, .int .i64 t204, .slice Ao42 t205.length co42] 24 (0, 0)) (by (with_reducible repeat (first | refine bkN ?_ _ | refine bkD ?_ | refine bkA ?_ _)); exact BK209.out) hb); have n9_ := Az.mk (bkB (g := gb217) (o := .cells #[.int .i64 t211, .int .i64 t212, .slice Ao50 t213.length co50] 24 (0, 0)) (by (with_reducible repeat (first | refine bkN ?_ _ | refine bkD ?_ | refine bkA ?_ _)); exact BK217.out) hb); have n10_ := Az.mk (pbT (by repeat (first | (with_reducible first | exact HB.out | apply pbA | apply pbN | apply pb1 | refine pbS ?_ GE195.out | refine pbS ?_ GE209.out | refine pbS ?_ GE217.out) | exact HB.out)) hb); clear HO185; clear HO188; clear HO193; clear HO202; clear HO207; clear HO215; clear BK195; clear BK209; clear BK217; clear HB; have HO185 := n0_; have HO188 := n1_; have HO193 := n2_; have HO202 := n3_; have HO207 := n4_; have HO215 := n5_; have HO222 := n6_; have BK195 := n7_; have BK209 := n8_; have BK217 := n9_; have HB := n10_; clear n0_ n1_ n2_ n3_ n4_ n5_ n6_ n7_ n8_ n9_ n10_; (try clear hb); (try clear hb2); (try clear hk); (try clear hi); (try clear ho0)) | ((with_reducible refine gate_dst (N := 9) rfl ?_); (try (refine gate_guard (by rfl) ?_; dsimp only)); refine box_event ?hg (N := 9) ?hd (cs := #[.int .i64 0, .int .i64 0, .slice none 0 0]) (t := 24) ?hr ?_; (case hd => rfl); (case hg => rfl); (case hr => first | (go_simp; done) | (go_simp; rfl)); intro gb223 hg w54 hbox hb; have n0_ := Az.mk (Kd.R_below (by (with_reducible repeat (first | apply Kd.R_alloc | apply Kd.R_drewN | apply Kd.R_drew)); exact HO185.out) hb); have n1_ := Az.mk (Kd.R_below (by (with_reducible repeat (first | apply Kd.R_alloc | apply Kd.R_drewN | apply Kd.R_drew)); exact HO188.out) hb); have n2_ := Az.mk (Kd.V_below (Kd.V_elderB (by (with_reducible repeat (first | apply Kd.V_alloc | apply Kd.V_drewN | apply Kd.V_drew)); exact HO193.out) gb223 (Nat.le_of_eq hg.symm)) hb); have n3_ := Az.mk (Kd.R_below (by (with_reducible repeat (first | apply Kd.R_alloc | apply Kd.R_drewN | apply Kd.R_drew)); exact HO202.out) hb); have n4_ := Az.mk (Kd.V_below (Kd.V_elderB (by (with_reducible repeat (first | apply Kd.V_alloc | apply Kd.V_drewN | apply Kd.V_drew)); exact HO207.out) gb223 (Nat.le_of_eq hg.symm)) hb); have n5_ := Az.mk (Kd.R_below (by (with_reducible repeat (first | apply Kd.R_alloc | apply Kd.R_drewN | apply Kd.R_drew)); exact HO215.out) hb); have n6_ := Az.mk (Kd.V_below (Kd.V_elderB (by (with_reducible repeat (first | apply Kd.V_alloc | apply Kd.V_drewN | apply Kd.V_drew)); exact HO222.out) gb223 (Nat.le_of_eq hg.symm)) hb); have n7_ := Az.mk (bkB (g := gb195) (o := .cells #[.int .i64 t189, .int .i64 t190, .slice Ao34 t191.length co34] 24 (0, 0)) (by (with_reducible repeat (first | refine bkN ?_ _ | refine bkD ?_ | refine bkA ?_ _)); exact BK195.out) hb); have n8_ := Az.mk (bkB (g := gb209) (o := .cells #[.int .i64 t203, .int .i64 t204, .slice Ao42 t205.length co42] 24 (0, 0)) (by (with_reducible repeat (first | refine bkN ?_ _ | refine bkD ?_ | refine bkA ?_ _)); exact BK209.out) hb); have n9_ := Az.mk (bkB (g := gb217) (o := .cells #[.int .i64 t211, .int .i64 t212, .slice Ao50 t213.length co50] 24 (0, 0)) (by (with_reducible repeat (first | refine bkN ?_ _ | refine bkD ?_ | refine bkA ?_ _)); exact BK217.out) hb); have n10_ := Az.mk (pbT (by repeat (first | (with_reducible first | exact HB.out | apply pbA | apply pbN | apply pb1 | refine pbS ?_ GE195.out | refine pbS ?_ GE209.out | refine pbS ?_ GE217.out) | exact HB.out)) hb); have n11_ := Az.mk (hbox); have n12_ := Az.mk ((by rw [hg]; exact (pbZ (by repeat (first | (with_reducible first | exact HB.out | apply pbA | apply pbN | apply pb1 | refine pbS ?_ GE195.out | refine pbS ?_ GE209.out | refine pbS ?_ GE217.out) | exact HB.out))) : w.heap.size ≤ gb223)); have n13_ := Az.mk ((by rw [hg]; exact (pbZ (by repeat (first | (with_reducible first | exact HB.out | apply pbA | apply pbN | apply pb1 | refine pbS ?_ GE195.out | refine pbS ?_ GE209.out | refine pbS ?_ GE217.out) | exact HB.out))) : w.heap.size ≤ gb223)); have n14_ := Az.mk ((by rw [hg]; exact Nat.ne_of_lt (blk_lt (g := gb195) (o := .cells #[.int .i64 t189, .int .i64 t190, .slice Ao34 t191.length co34] 24 (0, 0)) (by (with_reducible repeat (first | refine bkN ?_ _ | refine bkD ?_ | refine bkA ?_ _)); exact BK195.out)) : gb195 ≠ gb223)); have n15_ := Az.mk ((by rw [hg]; exact Nat.ne_of_gt (blk_lt (g := gb195) (o := .cells #[.int .i64 t189, .int .i64 t190, .slice Ao34 t191.length co34] 24 (0, 0)) (by (with_reducible repeat (first | refine bkN ?_ _ | refine bkD ?_ | refine bkA ?_ _)); exact BK195.out)) : gb223 ≠ gb195)); have n16_ := Az.mk ((by rw [hg]; exact Nat.ne_of_lt (blk_lt (g := gb209) (o := .cells #[.int .i64 t203, .int .i64 t204, .slice Ao42 t205.length co42] 24 (0, 0)) (by (with_reducible repeat (first | refine bkN ?_ _ | refine bkD ?_ | refine bkA ?_ _)); exact BK209.out)) : gb209 ≠ gb223)); have n17_ := Az.mk ((by rw [hg]; exact Nat.ne_of_gt (blk_lt (g := gb209) (o := .cells #[.int .i64 t203, .int .i64 t204, .slice Ao42 t205.length co42] 24 (0, 0)) (by (with_reducible repeat (first | refine bkN ?_ _ | refine bkD ?_ | refine bkA ?_ _)); exact BK209.out)) : gb223 ≠ gb209)); have n18_ := Az.mk ((by rw [hg]; exact Nat.ne_of_lt (blk_lt (g := gb217) (o := .cells #[.int .i64 t211, .int .i64 t212, .slice Ao50 t213.length co50] 24 (0, 0)) (by (with_reducible repeat (first | refine bkN ?_ _ | refine bkD ?_ | refine bkA ?_ _)); exact BK217.out)) : gb217 ≠ gb223)); have n19_ := Az.mk ((by rw [hg]; exact Nat.ne_of_gt (blk_lt (g := gb217) (o := .cells #[.int .i64 t211, .int .i64 t212, .slice Ao50 t213.length co50] 24 (0, 0)) (by (with_reducible repeat (first | refine bkN ?_ _ | refine bkD ?_ | refine bkA ?_ _)); exact BK217.out)) : gb223 ≠ gb217)); clear HO185; clear HO188; clear HO193; clear HO202; clear HO207; clear HO215; clear HO222; clear BK195; clear BK209; clear BK217; clear HB; have HO185 := n0_; have HO188 := n1_; have HO193 := n2_; have HO202 := n3_; have HO207 := n4_; have HO215 := n5_; have HO222 := n6_; have BK195 := n7_; have BK209 := n8_; have BK217 := n9_; have HB := n10_; have BK223 := n11_; have GW223 := n12_; have GE223 := n13_; have NB195_223 := n14_; have NB223_195 := n15_; have NB209_223 := n16_; have NB223_209 := n17_; have NB217_223 := n18_; have NB223_217 := n19_; clear n0_ n1_ n2_ n3_ n4_ n5_ n6_ n7_ n8_ n9_ n10_ n11_ n12_ n13_ n14_ n15_ n16_ n17_ n18_ n19_; clear hb hbox hg; have hnb55 := NB223_195.out; have hnc55 := NB195_223.out; have hnb56 := NB223_209.out; have hnc56 := NB209_223.out; have hnb57 := NB223_217.out; have hnc57 := NB217_223.out; have hcz58_0 : w54.cell? ⟨gb223, 0, none⟩ = some (.int .i64 0) := (bkC BK223.out 0).trans rfl; have hcz58_1 : w54.cell? ⟨gb223, 1, none⟩ = some (.int .i64 0) := (bkC BK223.out 1).trans rfl; have hcz58_2 : w54.cell? ⟨gb223, 2, none⟩ = some (.slice none 0 0) := (bkC BK223.out 2).trans rfl; have hfz58_0 := bkF BK223.out 0; have hfz58_1 := bkF BK223.out 1; have hfz58_2 := bkF BK223.out 2; obtain ⟨Ao59, co59, eo59⟩ := Kd.V_slice HO222.out; subst eo59; have hcz60_0 : w54.cell? ⟨gb195, 0, none⟩ = some (.int .i64 t189) := (bkC BK195.out 0).trans rfl; have hcz60_1 : w54.cell? ⟨gb195, 1, none⟩ = some (.int .i64 t190) := (bkC BK195.out 1).trans rfl; have hcz60_2 : w54.cell? ⟨gb195, 2, none⟩ = some (.slice Ao34 t191.length co34) := (bkC BK195.out 2).trans rfl; have hfz60_0 := bkF BK195.out 0; have hfz60_1 := bkF BK195.out 1; have hfz60_2 := bkF BK195.out 2) | (go_at_call 12; (with_reducible refine (l11_num.calls t216 t224 _ ?side1 A14.out).mono ?_); (case side1 => exact hG.below (by repeat (first | (with_reducible first | exact HB.out | apply pbA | apply pbN | apply pb1 | refine pbS ?_ GE195.out | refine pbS ?_ GE209.out | refine pbS ?_ GE217.out | refine pbS ?_ GE223.out) | exact HB.out))); rintro e w' ⟨rfl, ⟨nd, rfl⟩⟩; have hcz61_0 : w54.cell? ⟨gb217, 0, none⟩ = some (.int .i64 t211) := (bkC BK217.out 0).trans rfl; have hcz61_1 : w54.cell? ⟨gb217, 1, none⟩ = some (.int .i64 t212) := (bkC BK217.out 1).trans rfl; have hcz61_2 : w54.cell? ⟨gb217, 2, none⟩ = some (.slice Ao50 t213.length co50) := (bkC BK217.out 2).trans rfl; have hfz61_0 := bkF BK217.out 0; have hfz61_1 := bkF BK217.out 1; have hfz61_2 := bkF BK217.out 2) | (go_at_call 18; (with_reducible refine (r11_Same.calls k t211 t212 _ _ t213 t189 t190 _ _ t191 true _ ?side1 ?side2 ?side3 ?side4 ?side5 A16.out).mono ?_); (case side1 => exact hG.below (by repeat (first | (with_reducible first | exact HB.out | apply pbA | apply pbN | apply pb1 | refine pbS ?_ GE195.out | refine pbS ?_ GE209.out | refine pbS ?_ GE217.out | refine pbS ?_ GE223.out) | exact HB.out))); (case side2 => refine (Kd.R_reads' (e := 54) (base := w.heap.size) (ok := fun k_ => (some k_ ≠ (.slice Ao29 t183.length co29 : Value).ownBlock ∧ (some k_ ≠ (.slice Ao30 y186.length co30 : Value).ownBlock ∧ some k_ ≠ (.slice Ao37 t200.length co37 : Value).ownBlock))) (n := t213.length) (c := co50) ?_).2.2; exact (by (with_reducible repeat (first | apply Kd.R_alloc | apply Kd.R_drewN | apply Kd.R_drew)); exact (Kd.R_mono (Kd.R_far (p := ⟨gb223, 2, none⟩) (Kd.R_far (p := ⟨gb223, 1, none⟩) (Kd.R_far (p := ⟨gb223, 0, none⟩) (Kd.R_types HO215.out BK223.out (by decide)) (fun _ hk => hk.2) (.int .i64 t218)) (fun _ hk => hk.2) (.int .i64 t219)) (fun _ hk => hk.2) (.slice Ao59 t220.length co59)) (fun _ h_ => h_.1)))); (case side3 => exact (Kd.R_reads' HO215.out).2.1); (case side4 => refine (Kd.V_reads' (e := 54) (base := w.heap.size) (ok := fun k_ => ((some k_ ≠ (.slice Ao30 y186.length co30 : Value).ownBlock ∧ (some k_ ≠ (.slice Ao37 t200.length co37 : Value).ownBlock ∧ (some k_ ≠ (.slice Ao50 t213.length co50 : Value).ownBlock ∧ (k_ ≠ gb195 ∧ (k_ ≠ gb209 ∧ k_ ≠ gb217))))) ∧ k_ ≠ gb223)) (n := t191.length) (c := co34) ?_).2.2; exact (by (with_reducible repeat (first | apply Kd.V_alloc | apply Kd.V_drewN | apply Kd.V_drew)); exact (Kd.V_mono (Kd.V_far (p := ⟨gb223, 2, none⟩) (Kd.V_far (p := ⟨gb223, 1, none⟩) (Kd.V_far (p := ⟨gb223, 0, none⟩) (Kd.V_mono HO193.out (fun k_ hk => (⟨hk, hk.2⟩ : _ ∧ k_ ≠ gb223))) (fun _ hk => hk.2) (.int .i64 t218)) (fun _ hk => hk.2) (.int .i64 t219)) (fun _ hk => hk.2) (.slice Ao59 t220.length co59)) (fun _ h_ => h_.1)))); (case side5 => exact (Kd.V_reads' HO193.out).2.1); rintro e w62 ⟨rfl, hb⟩; have n0_ := Az.mk (Kd.R_below (by (with_reducible repeat (first | apply Kd.R_alloc | apply Kd.R_drewN | apply Kd.R_drew)); exact (Kd.R_mono (Kd.R_far (p := ⟨gb223, 2, none⟩) (Kd.R_far (p := ⟨gb223, 1, none⟩) (Kd.R_far (p := ⟨gb223, 0, none⟩) (Kd.R_types HO185.out BK223.out (by decide)) (fun _ hk => hk.2) (.int .i64 t218)) (fun _ hk => hk.2) (.int .i64 t219)) (fun _ hk => hk.2) (.slice Ao59 t220.length co59)) (fun _ h_ => h_.1))) hb); have n1_ := Az.mk (Kd.R_below (by (with_reducible repeat (first | apply Kd.R_alloc | apply Kd.R_drewN | apply Kd.R_drew)); exact (Kd.R_mono (Kd.R_far (p := ⟨gb223, 2, none⟩) (Kd.R_far (p := ⟨gb223, 1, none⟩) (Kd.R_far (p := ⟨gb223, 0, none⟩) (Kd.R_types HO188.out BK223.out (by decide)) (fun _ hk => hk.2) (.int .i64 t218)) (fun _ hk => hk.2) (.int .i64 t219)) (fun _ hk => hk.2) (.slice Ao59 t220.length co59)) (fun _ h_ => h_.1))) hb); have n2_ := Az.mk (Kd.V_below (by (with_reducible repeat (first | apply Kd.V_alloc | apply Kd.V_drewN | apply Kd.V_drew)); exact (Kd.V_mono (Kd.V_far (p := ⟨gb223, 2, none⟩) (Kd.V_far (p := ⟨gb223, 1, none⟩) (Kd.V_far (p := ⟨gb223, 0, none⟩) (Kd.V_mono HO193.out (fun k_ hk => (⟨hk, hk.2⟩ : _ ∧ k_ ≠ gb223))) (fun _ hk => hk.2) (.int .i64 t218)) (fun _ hk => hk.2) (.int .i64 t219)) (fun _ hk => hk.2) (.slice Ao59 t220.length co59)) (fun _ h_ => h_.1))) hb); have n3_ := Az.mk (Kd.R_below (by (with_reducible repeat (first | apply Kd.R_alloc | apply Kd.R_drewN | apply Kd.R_drew)); exact (Kd.R_mono (Kd.R_far (p := ⟨gb223, 2, none⟩) (Kd.R_far (p := ⟨gb223, 1, none⟩) (Kd.R_far (p := ⟨gb223, 0, none⟩) (Kd.R_types HO202.out BK223.out (by decide)) (fun _ hk => hk.2) (.int .i64 t218)) (fun _ hk => hk.2) (.int .i64 t219)) (fun _ hk => hk.2) (.slice Ao59 t220.length co59)) (fun _ h_ => h_.1))) hb); have n4_ := Az.mk (Kd.V_below (by (with_reducible repeat (first | apply Kd.V_alloc | apply Kd.V_drewN | apply Kd.V_drew)); exact (Kd.V_mono (Kd.V_far (p := ⟨gb223, 2, none⟩) (Kd.V_far (p := ⟨gb223, 1, none⟩) (Kd.V_far (p := ⟨gb223, 0, none⟩) (Kd.V_mono HO207.out (fun k_ hk => (⟨hk, hk.2⟩ : _ ∧ k_ ≠ gb223))) (fun _ hk => hk.2) (.int .i64 t218)) (fun _ hk => hk.2) (.int .i64 t219)) (fun _ hk => hk.2) (.slice Ao59 t220.length co59)) (fun _ h_ => h_.1))) hb); have n5_ := Az.mk (Kd.R_below (by (with_reducible repeat (first | apply Kd.R_alloc | apply Kd.R_drewN | apply Kd.R_drew)); exact (Kd.R_mono (Kd.R_far (p := ⟨gb223, 2, none⟩) (Kd.R_far (p := ⟨gb223, 1, none⟩) (Kd.R_far (p := ⟨gb223, 0, none⟩) (Kd.R_types HO215.out BK223.out (by decide)) (fun _ hk => hk.2) (.int .i64 t218)) (fun _ hk => hk.2) (.int .i64 t219)) (fun _ hk => hk.2) (.slice Ao59 t220.length co59)) (fun _ h_ => h_.1))) hb); have n6_ := Az.mk (Kd.V_below (by (with_reducible repeat (first | apply Kd.V_alloc | apply Kd.V_drewN | apply Kd.V_drew)); exact (Kd.V_mono (Kd.V_far (p := ⟨gb223, 2, none⟩) (Kd.V_far (p := ⟨gb223, 1, none⟩) (Kd.V_far (p := ⟨gb223, 0, none⟩) (Kd.V_mono HO222.out (fun k_ hk => (⟨hk, hk.2⟩ : _ ∧ k_ ≠ gb223))) (fun _ hk => hk.2) (.int .i64 t218)) (fun _ hk => hk.2) (.int .i64 t219)) (fun _ hk => hk.2) (.slice Ao59 t220.length co59)) (fun _ h_ => h_.1))) hb); have n7_ := Az.mk (bkB (g := gb195) (o := .cells #[.int .i64 t189, .int .i64 t190, .slice Ao34 t191.length co34] 24 (0, 0)) (by (with_reducible repeat (first | refine bkN ?_ _ | refine bkD ?_ | refine bkA ?_ _)); refine blk_far ?_ NB195_223.out _; (with_reducible repeat (first | refine bkN ?_ _ | refine bkD ?_ | refine bkA ?_ _)); refine blk_far ?_ NB195_223.out _; (with_reducible repeat (first | refine bkN ?_ _ | refine bkD ?_ | refine bkA ?_ _)); refine blk_far ?_ NB195_223.out _; (with_reducible repeat (first | refine bkN ?_ _ | refine bkD ?_ | refine bkA ?_ _)); exact BK195.out) hb); have n8_ := Az.mk (bkB (g := gb209) (o := .cells #[.int .i64 t203, .int .i64 t204, .slice Ao42 t205.length co42] 24 (0, 0)) (by (with_reducible repeat (first | refine bkN ?_ _ | refine bkD ?_ | refine bkA ?_ _)); refine blk_far ?_ NB209_223.out _; (with_reducible repeat (first | refine bkN ?_ _ | refine bkD ?_ | refine bkA ?_ _)); refine blk_far ?_ NB209_223.out _; (with_reducible repeat (first | refine bkN ?_ _ | refine bkD ?_ | refine bkA ?_ _)); refine blk_far ?_ NB209_223.out _; (with_reducible repeat (first | refine bkN ?_ _ | refine bkD ?_ | refine bkA ?_ _)); exact BK209.out) hb); have n9_ := Az.mk (bkB (g := gb217) (o := .cells #[.int .i64 t211, .int .i64 t212, .slice Ao50 t213.length co50] 24 (0, 0)) (by (with_reducible repeat (first | refine bkN ?_ _ | refine bkD ?_ | refine bkA ?_ _)); refine blk_far ?_ NB217_223.out _; (with_reducible repeat (first | refine bkN ?_ _ | refine bkD ?_ | refine bkA ?_ _)); refine blk_far ?_ NB217_223.out _; (with_reducible repeat (first | refine bkN ?_ _ | refine bkD ?_ | refine bkA ?_ _)); refine blk_far ?_ NB217_223.out _; (with_reducible repeat (first | refine bkN ?_ _ | refine bkD ?_ | refine bkA ?_ _)); exact BK217.out) hb); have n10_ := Az.mk (bkB (g := gb223) (o := .cells #[.int .i64 t218, .int .i64 t219, .slice Ao59 t220.length co59] 24 (0, 0)) (by (with_reducible repeat (first | refine bkN ?_ _ | refine bkD ?_ | refine bkA ?_ _)); refine blk_put (cs := #[.int .i64 t218, .int .i64 t219, .slice none 0 0]) ?_ 2 _ rfl; (with_reducible repeat (first | refine bkN ?_ _ | refine bkD ?_ | refine bkA ?_ _)); refine blk_put (cs := #[.int .i64 t218, .int .i64 0, .slice none 0 0]) ?_ 1 _ rfl; (with_reducible repeat (first | refine bkN ?_ _ | refine bkD ?_ | refine bkA ?_ _)); refine blk_put (cs := #[.int .i64 0, .int .i64 0, .slice none 0 0]) ?_ 0 _ rfl; (with_reducible repeat (first | refine bkN ?_ _ | refine bkD ?_ | refine bkA ?_ _)); exact BK223.out) hb); have n11_ := Az.mk (pbT (by repeat (first | (with_reducible first | exact HB.out | apply pbA | apply pbN | apply pb1 | refine pbS ?_ GE195.out | refine pbS ?_ GE209.out | refine pbS ?_ GE217.out | refine pbS ?_ GE223.out) | exact HB.out)) hb); clear HO185; clear HO188; clear HO193; clear HO202; clear HO207; clear HO215; clear HO222; clear BK195; clear BK209; clear BK217; clear BK223; clear HB; have HO185 := n0_; have HO188 := n1_; have HO193 := n2_; have HO202 := n3_; have HO207 := n4_; have HO215 := n5_; have HO222 := n6_; have BK195 := n7_; have BK209 := n8_; have BK217 := n9_; have BK223 := n10_; have HB := n11_; clear n0_ n1_ n2_ n3_ n4_ n5_ n6_ n7_ n8_ n9_ n10_ n11_; (try clear hb); (try clear hb2); (try clear hk); (try clear hi); have hcz63_0 : w62.cell? ⟨gb223, 0, none⟩ = some (.int .i64 t218) := (bkC BK223.out 0).trans rfl; have hcz63_1 : w62.cell? ⟨gb223, 1, none⟩ = some (.int .i64 t219) := (bkC BK223.out 1).trans rfl; have hcz63_2 : w62.cell? ⟨gb223, 2, none⟩ = some (.slice Ao59 t220.length co59) := (bkC BK223.out 2).trans rfl; have hfz63_0 := bkF BK223.out 0; have hfz63_1 := bkF BK223.out 1; have hfz63_2 := bkF BK223.out 2; have hcz64_0 : w62.cell? ⟨gb195, 0, none⟩ = some (.int .i64 t189) := (bkC BK195.out 0).trans rfl; have hcz64_1 : w62.cell? ⟨gb195, 1, none⟩ = some (.int .i64 t190) := (bkC BK195.out 1).trans rfl; have hcz64_2 : w62.cell? ⟨gb195, 2, none⟩ = some (.slice Ao34 t191.length co34) := (bkC BK195.out 2).trans rfl; have hfz64_0 := bkF BK195.out 0; have hfz64_1 := bkF BK195.out 1; have hfz64_2 := bkF BK195.out 2) | (go_at_call 22; (with_reducible refine (roll_Newer.calls k 3 7 t189 t190 _ _ t191 true _ ?side1 ?side2 ?side3 A20.out).mono ?_); (case side1 => exact hG.below (by repeat (first | (with_reducible first | exact HB.out | apply pbA | apply pbN | apply pb1 | refine pbS ?_ GE195.out | refine pbS ?_ GE209.out | refine pbS ?_ GE217.out | refine pbS ?_ GE223.out) | exact HB.out))); (case side2 => repeat (first | exact (Kd.V_reads' HO193.out).2.2 | (with_reducible refine Kd.C_alloc ?_ _) | (with_reducible refine Kd.C_drewN ?_ _) | (with_reducible refine Kd.C_drew ?_))); (case side3 => exact (Kd.V_reads' HO193.out).2.1); rintro e w65 ⟨rfl, hb⟩; have n0_ := Az.mk (Kd.R_below (by (with_reducible repeat (first | apply Kd.R_alloc | apply Kd.R_drewN | apply Kd.R_drew)); exact HO185.out) hb); have n1_ := Az.mk (Kd.R_below (by (with_reducible repeat (first | apply Kd.R_alloc | apply Kd.R_drewN | apply Kd.R_drew)); exact HO188.out) hb); have n2_ := Az.mk (Kd.V_below (by (with_reducible repeat (first | apply Kd.V_alloc | apply Kd.V_drewN | apply Kd.V_drew)); exact HO193.out) hb); have n3_ := Az.mk (Kd.R_below (by (with_reducible repeat (first | apply Kd.R_alloc | apply Kd.R_drewN | apply Kd.R_drew)); exact HO202.out) hb); have n4_ := Az.mk (Kd.V_below (by (with_reducible repeat (first | apply Kd.V_alloc | apply Kd.V_drewN | apply Kd.V_drew)); exact HO207.out) hb); have n5_ := Az.mk (Kd.R_below (by (with_reducible repeat (first | apply Kd.R_alloc | apply Kd.R_drewN | apply Kd.R_drew)); exact HO215.out) hb); have n6_ := Az.mk (Kd.V_below (by (with_reducible repeat (first | apply Kd.V_alloc | apply Kd.V_drewN | apply Kd.V_drew)); exact HO222.out) hb); have n7_ := Az.mk (bkB (g := gb195) (o := .cells #[.int .i64 t189, .int .i64 t190, .slice Ao34 t191.length co34] 24 (0, 0)) (by (with_reducible repeat (first | refine bkN ?_ _ | refine bkD ?_ | refine bkA ?_ _)); exact BK195.out) hb); have n8_ := Az.mk (bkB (g := gb209) (o := .cells #[.int .i64 t203, .int .i64 t204, .slice Ao42 t205.length co42] 24 (0, 0)) (by (with_reducible repeat (first | refine bkN ?_ _ | refine bkD ?_ | refine bkA ?_ _)); exact BK209.out) hb); have n9_ := Az.mk (bkB (g := gb217) (o := .cells #[.int .i64 t211, .int .i64 t212, .slice Ao50 t213.length co50] 24 (0, 0)) (by (with_reducible repeat (first | refine bkN ?_ _ | refine bkD ?_ | refine bkA ?_ _)); exact BK217.out) hb); have n10_ := Az.mk (bkB (g := gb223) (o := .cells #[.int .i64 t218, .int .i64 t219, .slice Ao59 t220.length co59] 24 (0, 0)) (by (with_reducible repeat (first | refine bkN ?_ _ | refine bkD ?_ | refine bkA ?_ _)); exact BK223.out) hb); have n11_ := Az.mk (pbT (by repeat (first | (with_reducible first | exact HB.out | apply pbA | apply pbN | apply pb1 | refine pbS ?_ GE195.out | refine pbS ?_ GE209.out | refine pbS ?_ GE217.out | refine pbS ?_ GE223.out) | exact HB.out)) hb); clear HO185; clear HO188; clear HO193; clear HO202; clear HO207; clear HO215; clear HO222; clear BK195; clear BK209; clear BK217; clear BK223; clear HB; have HO185 := n0_; have HO188 := n1_; have HO193 := n2_; have HO202 := n3_; have HO207 := n4_; have HO215 := n5_; have HO222 := n6_; have BK195 := n7_; have BK209 := n8_; have BK217 := n9_; have BK223 := n10_; have HB := n11_; clear n0_ n1_ n2_ n3_ n4_ n5_ n6_ n7_ n8_ n9_ n10_ n11_; (try clear hb); (try clear hb2); (try clear hk); (try clear hi); have hcz66_0 : w65.cell? ⟨gb195, 0, none⟩ = some (.int .i64 t189) := (bkC BK195.out 0).trans rfl; have hcz66_1 : w65.cell? ⟨gb195, 1, none⟩ = some (.int .i64 t190) := (bkC BK195.out 1).trans rfl; have hcz66_2 : w65.cell? ⟨gb195, 2, none⟩ = some (.slice Ao34 t191.length co34) := (bkC BK195.out 2).trans rfl; have hfz66_0 := bkF BK195.out 0; have hfz66_1 := bkF BK195.out 1; have hfz66_2 := bkF BK195.out 2) | (go_at_call 22; (with_reducible refine (roll_Newer.calls k 2 9 t189 t190 _ _ t191 false _ ?side1 ?side2 ?side3 A22.out).mono ?_); (case side1 => exact hG.below (by repeat (first | (with_reducible first | exact HB.out | apply pbA | apply pbN | apply pb1 | refine pbS ?_ GE195.out | refine pbS ?_ GE209.out | refine pbS ?_ GE217.out | refine pbS ?_ GE223.out) | exact HB.out))); (case side2 => repeat (first | exact (Kd.V_reads' HO193.out).2.2 | (with_reducible refine Kd.C_alloc ?_ _) | (with_reducible refine Kd.C_drewN ?_ _) | (with_reducible refine Kd.C_drew ?_))); (case side3 => exact (Kd.V_reads' HO193.out).2.1); rintro e w67 ⟨rfl, hb⟩; have n0_ := Az.mk (Kd.R_below (by (with_reducible repeat (first | apply Kd.R_alloc | apply Kd.R_drewN | apply Kd.R_drew)); exact HO185.out) hb); have n1_ := Az.mk (Kd.R_below (by (with_reducible repeat (first | apply Kd.R_alloc | apply Kd.R_drewN | apply Kd.R_drew)); exact HO188.out) hb); have n2_ := Az.mk (Kd.V_below (by (with_reducible repeat (first | apply Kd.V_alloc | apply Kd.V_drewN | apply Kd.V_drew)); exact HO193.out) hb); have n3_ := Az.mk (Kd.R_below (by (with_reducible repeat (first | apply Kd.R_alloc | apply Kd.R_drewN | apply Kd.R_drew)); exact HO202.out) hb); have n4_ := Az.mk (Kd.V_below (by (with_reducible repeat (first | apply Kd.V_alloc | apply Kd.V_drewN | apply Kd.V_drew)); exact HO207.out) hb); have n5_ := Az.mk (Kd.R_below (by (with_reducible repeat (first | apply Kd.R_alloc | apply Kd.R_drewN | apply Kd.R_drew)); exact HO215.out) hb); have n6_ := Az.mk (Kd.V_below (by (with_reducible repeat (first | apply Kd.V_alloc | apply Kd.V_drewN | apply Kd.V_drew)); exact HO222.out) hb); have n7_ := Az.mk (bkB (g := gb195) (o := .cells #[.int .i64 t189, .int .i64 t190, .slice Ao34 t191.length co34] 24 (0, 0)) (by (with_reducible repeat (first | refine bkN ?_ _ | refine bkD ?_ | refine bkA ?_ _)); exact BK195.out) hb); have n8_ := Az.mk (bkB (g := gb209) (o := .cells #[.int .i64 t203, .int .i64 t204, .slice Ao42 t205.length co42] 24 (0, 0)) (by (with_reducible repeat (first | refine bkN ?_ _ | refine bkD ?_ | refine bkA ?_ _)); exact BK209.out) hb); have n9_ := Az.mk (bkB (g := gb217) (o := .cells #[.int .i64 t211, .int .i64 t212, .slice Ao50 t213.length co50] 24 (0, 0)) (by (with_reducible repeat (first | refine bkN ?_ _ | refine bkD ?_ | refine bkA ?_ _)); exact BK217.out) hb); have n10_ := Az.mk (bkB (g := gb223) (o := .cells #[.int .i64 t218, .int .i64 t219, .slice Ao59 t220.length co59] 24 (0, 0)) (by (with_reducible repeat (first | refine bkN ?_ _ | refine bkD ?_ | refine bkA ?_ _)); exact BK223.out) hb); have n11_ := Az.mk (pbT (by repeat (first | (with_reducible first | exact HB.out | apply pbA | apply pbN | apply pb1 | refine pbS ?_ GE195.out | refine pbS ?_ GE209.out | refine pbS ?_ GE217.out | refine pbS ?_ GE223.out) | exact HB.out)) hb); clear HO185; clear HO188; clear HO193; clear HO202; clear HO207; clear HO215; clear HO222; clear BK195; clear BK209; clear BK217; clear BK223; clear HB; have HO185 := n0_; have HO188 := n1_; have HO193 := n2_; have HO202 := n3_; have HO207 := n4_; have HO215 := n5_; have HO222 := n6_; have BK195 := n7_; have BK209 := n8_; have BK217 := n9_; have BK223 := n10_; have HB := n11_; clear n0_ n1_ n2_ n3_ n4_ n5_ n6_ n7_ n8_ n9_ n10_ n11_; (try clear hb); (try clear hb2); (try clear hk); (try clear hi)) | (go_at_call 13; (refine (roll_Check.calls k (-1) 0 _ _ ([] : List (S54)) t228 _ ?side1 ?side2 ?side3 A24.out).mono ?_); (case side1 => exact hG.below (by repeat (first | (with_reducible first | exact HB.out | apply pbA | apply pbN | apply pb1 | refine pbS ?_ GE195.out | refine pbS ?_ GE209.out | refine pbS ?_ GE217.out | refine pbS ?_ GE223.out) | exact HB.out))); (case side2 => exact Kd.C_nil _ _); (case side3 => exact Nat.le_refl _); rintro e w68 ⟨rfl, hb⟩; have n0_ := Az.mk (Kd.R_below (by (with_reducible repeat (first | apply Kd.R_alloc | apply Kd.R_drewN | apply Kd.R_drew)); exact HO185.out) hb); have n1_ := Az.mk (Kd.R_below (by (with_reducible repeat (first | apply Kd.R_alloc | apply Kd.R_drewN | apply Kd.R_drew)); exact HO188.out) hb); have n2_ := Az.mk (Kd.V_below (by (with_reducible repeat (first | apply Kd.V_alloc | apply Kd.V_drewN | apply Kd.V_drew)); exact HO193.out) hb); have n3_ := Az.mk (Kd.R_below (by (with_reducible repeat (first | apply Kd.R_alloc | apply Kd.R_drewN | apply Kd.R_drew)); exact HO202.out) hb); have n4_ := Az.mk (Kd.V_below (by (with_reducible repeat (first | apply Kd.V_alloc | apply Kd.V_drewN | apply Kd.V_drew)); exact HO207.out) hb); have n5_ := Az.mk (Kd.R_below (by (with_reducible repeat (first | apply Kd.R_alloc | apply Kd.R_drewN | apply Kd.R_drew)); exact HO215.out) hb); have n6_ := Az.mk (Kd.V_below (by (with_reducible repeat (first | apply Kd.V_alloc | apply Kd.V_drewN | apply Kd.V_drew)); exact HO222.out) hb); have n7_ := Az.mk (bkB (g := gb195) (o := .cells #[.int .i64 t189, .int .i64 t190, .slice Ao34 t191.length co34] 24 (0, 0)) (by (with_reducible repeat (first | refine bkN ?_ _ | refine bkD ?_ | refine bkA ?_ _)); exact BK195.out) hb); have n8_ := Az.mk (bkB (g := gb209) (o := .cells #[.int .i64 t203, .int .i64 t204, .slice Ao42 t205.length co42] 24 (0, 0)) (by (with_reducible repeat (first | refine bkN ?_ _ | refine bkD ?_ | refine bkA ?_ _)); exact BK209.out) hb); have n9_ := Az.mk (bkB (g := gb217) (o := .cells #[.int .i64 t211, .int .i64 t212, .slice Ao50 t213.length co50] 24 (0, 0)) (by (with_reducible repeat (first | refine bkN ?_ _ | refine bkD ?_ | refine bkA ?_ _)); exact BK217.out) hb); have n10_ := Az.mk (bkB (g := gb223) (o := .cells #[.int .i64 t218, .int .i64 t219, .slice Ao59 t220.length co59] 24 (0, 0)) (by (with_reducible repeat (first | refine bkN ?_ _ | refine bkD ?_ | refine bkA ?_ _)); exact BK223.out) hb); have n11_ := Az.mk (pbT (by repeat (first | (with_reducible first | exact HB.out | apply pbA | apply pbN | apply pb1 | refine pbS ?_ GE195.out | refine pbS ?_ GE209.out | refine pbS ?_ GE217.out | refine pbS ?_ GE223.out) | exact HB.out)) hb); clear HO185; clear HO188; clear HO193; clear HO202; clear HO207; clear HO215; clear HO222; clear BK195; clear BK209; clear BK217; clear BK223; clear HB; have HO185 := n0_; have HO188 := n1_; have HO193 := n2_; have HO202 := n3_; have HO207 := n4_; have HO215 := n5_; have HO222 := n6_; have BK195 := n7_; have BK209 := n8_; have BK217 := n9_; have BK223 := n10_; have HB := n11_; clear n0_ n1_ n2_ n3_ n4_ n5_ n6_ n7_ n8_ n9_ n10_ n11_; (try clear hb); (try clear hb2); (try clear hk); (try clear hi)) | (go_at_call 12; (with_reducible refine (l11_num.calls t228 t229 _ ?side1 A25.out).mono ?_); (case side1 => exact hG.below (by repeat (first | (with_reducible first | exact HB.out | apply pbA | apply pbN | apply pb1 | refine pbS ?_ GE195.out | refine pbS ?_ GE209.out | refine pbS ?_ GE217.out | refine pbS ?_ GE223.out) | exact HB.out))); rintro e w' ⟨rfl, ⟨nd, rfl⟩⟩))
                        go_ret
                        exact ⟨by first | rfl | (simp [errW_none, errW_some] <;> rfl) | (simp [*, errW_none, errW_some] <;> rfl), by repeat (first | (with_reducible first | exact HB.out | apply pbA | apply pbN | apply pb1 | refine pbS ?_ GE195.out | refine pbS ?_ GE209.out | refine pbS ?_ GE217.out | refine pbS ?_ GE223.out) | exact HB.out)⟩
                    · replace c21 := Bool.eq_false_iff.mpr c21
                      subst c21
                      have H1 : (some false) = some r := by rw [if_neg (show ¬ (false = true) by decide)] at H; exact H
                      clear H
                      have H := H1
                      clear H1
                      exact absurd (Option.some.inj (H.trans (congrArg some hr))) (by decide)
                  · rw [if_neg c19] at H
                    have c19b0 : ((t220.length : Int) == 1) = false := beq_eq_false_iff_ne.mpr c19
                    have c19b1 : ((t220.length : Int) != 1) = true := bne_iff_ne.mpr c19
                    exact absurd (Option.some.inj (H.trans (congrArg some hr))) (by decide)
                · rw [if_neg c18] at H
                  have c18b0 : (t218 == 6) = false := beq_eq_false_iff_ne.mpr c18
                  have c18b1 : (t218 != 6) = true := bne_iff_ne.mpr c18
                  exact absurd (Option.some.inj (H.trans (congrArg some hr))) (by decide)
              · replace c17 := Bool.eq_false_iff.mpr c17
                subst c17
                have H1 : (some false) = some r := by rw [if_neg (show ¬ (false = true) by decide)] at H; exact H
                clear H
                have H := H1
                clear H1
                exact absurd (Option.some.inj (H.trans (congrArg some hr))) (by decide)
            · rw [if_neg c15] at H
              have c15b0 : (t224 == 0) = false := beq_eq_false_iff_ne.mpr c15
              have c15b1 : (t224 != 0) = true := bne_iff_ne.mpr c15
              exact absurd (Option.some.inj (H.trans (congrArg some hr))) (by decide)
          · rw [if_neg c13] at H
            have c13b0 : ((t191.length : Int) == 3) = false := beq_eq_false_iff_ne.mpr c13
            have c13b1 : ((t191.length : Int) != 3) = true := bne_iff_ne.mpr c13
            exact absurd (Option.some.inj (H.trans (congrArg some hr))) (by decide)
        · rw [if_neg c12] at H
          have c12b0 : (t197 == 3) = false := beq_eq_false_iff_ne.mpr c12
          have c12b1 : (t197 != 3) = true := bne_iff_ne.mpr c12
          exact absurd (Option.some.inj (H.trans (congrArg some hr))) (by decide)
      · rw [if_neg c11] at H
        have c11b0 : (t196 == 7) = false := beq_eq_false_iff_ne.mpr c11
        have c11b1 : (t196 != 7) = true := bne_iff_ne.mpr c11
        exact absurd (Option.some.inj (H.trans (congrArg some hr))) (by decide)
  · replace c9 := Bool.eq_false_iff.mpr c9
    subst c9
    have H1 : (some false) = some r := by rw [if_neg (show ¬ (false = true) by decide)] at H; exact H
    clear H
    have H := H1
    clear H1
    exact absurd (Option.some.inj (H.trans (congrArg some hr))) (by decide)
end Go.Proofs.YtjpihfjgomoijaaDoor.P
end
section
/- live of the statements on roll: it answers true. -/
namespace Go.Proofs.YtjpihfjgomoijaaDoor.P
open Go.RowKit Go.Proofs.YtjpihfjgomoijaaDoor.K Go.Proofs.YtjpihfjgomoijaaDoorW.PrintWords Go.Proofs.YtjpihfjgomoijaaDoorW.PrintLast Go.Proofs.YtjpihfjgomoijaaDoorW.PrintMore
theorem live : l11_liveT.f 60 = some true := by decide +kernel
def l11_live.f : Option Bool := some true
theorem l11_live.calls (r : Bool) (w : World) (hG : TheG w) (h : l11_live.f = some r) :
    Calls Tryd.prog 9 #[] w fun e w' => e = .returned (.bool r) ∧ Below w.heap.size w w' := by
  obtain rfl := Option.some.inj h
  exact l11_liveT.calls 60 true w hG rfl live
end Go.Proofs.YtjpihfjgomoijaaDoor.P
end
section
-- Written by a program of this session (wip/tools/pr.py), over the kit's printer; functions named in the texts imported below are given by hand.
namespace Go.Proofs.YtjpihfjgomoijaaDoor.P
open Go.RowKit Go.Proofs.YtjpihfjgomoijaaDoor.K Go.Proofs.YtjpihfjgomoijaaDoorW.PrintWords Go.Proofs.YtjpihfjgomoijaaDoorW.PrintLast Go.Proofs.YtjpihfjgomoijaaDoorW.PrintMore
attribute [local go_sem] max2_int min2_int max_two min_two max_three min_three max_four min_four   -- for this text's walks alone
/-! ### l11_RollChecks: function 3 -/
def l11_RollChecks.j0 : Nat → ByteArray → Bool → Int → Int → List (S54) → Option (Bool)
  | 0, _, _, _, _, _ => none
  | k + 1, x1, x16, x287000, x287001, x287002 => if x16 = true then ((l11_live.f).bind fun t288 => (some t288)) else ((roll_Parse.f k x1).bind fun bt289 => ((r11_Parse.f k x1).bind fun bt296 => ((roll_Check.f k x287000 x287001 x287002).bind fun t303 => ((l11_num.f t303).bind fun t304 => ((r11_Is.f k x287000 x287001 x287002).bind fun t305 => (if ((t304 == 0) == t305) = true then ((l11_own.f x287000 x287001 x287002).bind fun bt306 => ((roll_Put.f k bt306.1 bt306.2.1 bt306.2.2).bind fun t311 => ((r11_Put.f k x287000 x287001 x287002).bind fun t312 => (if t311.toList = t312.toList then ((r11_Same.f k bt289.1 bt289.2.1 bt289.2.2.1 bt296.1 bt296.2.1 bt296.2.2.1).bind fun t313 => (if t313 = true then ((l11_num.f bt289.2.2.2).bind fun t314 => (if t314 = bt296.2.2.2 then ((l11_live.f).bind fun t315 => (some t315)) else (some false))) else (some false))) else (some false))))) else (some false)))))))
def l11_RollChecks.f (k : Nat) (a0_0 : Int) (a0_1 : Int) (l0_2 : List (S54)) (a1 : ByteArray) : Option (Bool) := (l11_small.f k a0_0 a0_1 l0_2).bind fun t287 => (if t287 = true then (l11_RollChecks.j0 k a1 (decide ((a1.size : Int) > 10000)) a0_0 a0_1 l0_2) else (l11_RollChecks.j0 k a1 true a0_0 a0_1 l0_2))
theorem l11_RollChecks.mono_l : ∀ k, (∀ y0 y1 y2 y3 y4, LeO (l11_RollChecks.j0 k y0 y1 y2 y3 y4) (l11_RollChecks.j0 (k + 1) y0 y1 y2 y3 y4))
  | 0 => fun _ _ _ _ _ r h => by simp [l11_RollChecks.j0] at h
  | k + 1 => by
    have ih0 := l11_RollChecks.mono_l k
    · intro y0 y1 y2 y3 y4
      unfold l11_RollChecks.j0
      repeat' first
      | (with_reducible exact ih0 _ _ _ _ _)
      | (with_reducible exact l11_small.mono _ _ _ _)
      | (with_reducible exact r11_Is.mono _ _ _ _)
      | (with_reducible exact r11_Parse.mono _ _)
      | (with_reducible exact r11_Put.mono _ _ _ _)
      | (with_reducible exact r11_Same.mono _ _ _ _ _ _ _)
      | (with_reducible exact roll_Check.mono _ _ _ _)
      | (with_reducible exact roll_Parse.mono _ _)
      | (with_reducible exact roll_Put.mono _ _ _ _)
      | (with_reducible exact LeO.refl _)
      | (with_reducible exact LeO.none _)
      | (with_reducible refine LeO.ite ?_ ?_)
      | (with_reducible refine LeO.bind ?_ (fun _ => ?_))
      | exact ih0 _ _ _ _ _
      | exact l11_small.mono _ _ _ _
      | exact r11_Is.mono _ _ _ _
      | exact r11_Parse.mono _ _
      | exact r11_Put.mono _ _ _ _
      | exact r11_Same.mono _ _ _ _ _ _ _
      | exact roll_Check.mono _ _ _ _
      | exact roll_Parse.mono _ _
      | exact roll_Put.mono _ _ _ _
      | exact LeO.none _
      | refine LeO.ite ?_ ?_
      | refine LeO.bind ?_ (fun _ => ?_)
theorem l11_RollChecks.mono : ∀ a0 a1 a2 a3 k, LeO (l11_RollChecks.f k a0 a1 a2 a3) (l11_RollChecks.f (k + 1) a0 a1 a2 a3) := by
  intro a0 a1 a2 a3 k
  have ih0 := l11_RollChecks.mono_l k
  unfold l11_RollChecks.f
  repeat' first
      | (with_reducible exact ih0 _ _ _ _ _)
      | (with_reducible exact l11_small.mono _ _ _ _)
      | (with_reducible exact r11_Is.mono _ _ _ _)
      | (with_reducible exact r11_Parse.mono _ _)
      | (with_reducible exact r11_Put.mono _ _ _ _)
      | (with_reducible exact r11_Same.mono _ _ _ _ _ _ _)
      | (with_reducible exact roll_Check.mono _ _ _ _)
      | (with_reducible exact roll_Parse.mono _ _)
      | (with_reducible exact roll_Put.mono _ _ _ _)
      | (with_reducible exact LeO.refl _)
      | (with_reducible exact LeO.none _)
      | (with_reducible refine LeO.ite ?_ ?_)
      | (with_reducible refine LeO.bind ?_ (fun _ => ?_))
      | exact ih0 _ _ _ _ _
      | exact l11_small.mono _ _ _ _
      | exact r11_Is.mono _ _ _ _
      | exact r11_Parse.mono _ _
      | exact r11_Put.mono _ _ _ _
      | exact r11_Same.mono _ _ _ _ _ _ _
      | exact roll_Check.mono _ _ _ _
      | exact roll_Parse.mono _ _
      | exact roll_Put.mono _ _ _ _
      | exact LeO.none _
      | refine LeO.ite ?_ ?_
      | refine LeO.bind ?_ (fun _ => ?_)
def l11_RollChecks.T5 : Bool × List (List Nat × List Nat) := (true, [([], []), ([0], [0]), ([1, 1], [1]), ([2], [2]), ([], []), ([4, 2], [4]), ([3, 5], [3, 5]), ([6, 5], [6]), ([7], [7]), ([8, 7, 7], [7, 8]), ([9, 9, 7], [7, 9]), ([7], [7]), ([11, 10, 7], [7, 11]), ([10, 12, 7], [7, 10, 12]), ([7, 13], [7, 13]), ([14, 12], [14]), ([15], [15]), ([15], [15]), ([16, 17, 15, 15], [15, 16, 17]), ([15, 18], [15, 18]), ([19, 18], [19]), ([20], [20]), ([21, 20, 20], [20, 21]), ([20], [20]), ([22, 23, 20], [20, 22, 23]), ([20, 24], [20, 24]), ([25, 22], [25]), ([26, 26], [26]), ([26, 27], [26, 27]), ([28, 27, 0, 1, 2, 3, 4, 5, 6, 7, 8, 9, 10, 11, 12, 13, 14, 15, 16, 17, 18, 19, 20, 21, 22, 23, 24, 25, 26, 27, 28], [28])])
def l11_RollChecks.B5 : List Nat := [0, 1, 3, 7, 0, 23, 63, 127, 255, 511, 1023, 255, 4095, 8191, 16383, 32767, 65535, 65535, 262143, 524287, 1048575, 2097151, 4194303, 2097151, 16777215, 33554431, 67108863, 134217727, 268435455, 536870911]
theorem l11_RollChecks.tab5 : rtab .any (opsOf Tryd.f3 5) = l11_RollChecks.T5 := by kernel_rfl
theorem l11_RollChecks.bits5 : waitsOk l11_RollChecks.T5.2 l11_RollChecks.B5 = true := by kernel_rfl
set_option maxHeartbeats 8000000 in
set_option maxRecDepth 100000 in
theorem l11_RollChecks.calls (k : Nat) (a0_0 : Int) (a0_1 : Int) (A0_2 : Option Addr) (c0_2 : Nat) (l0_2 : List (S54)) (a1 : ByteArray) (r : Bool) (w : World) (hG : TheG w) (hr : r = true) (hr0_2 : Kd.C k54 w A0_2 l0_2.length l0_2) (hc0_2 : l0_2.length ≤ c0_2) (h : l11_RollChecks.f k a0_0 a0_1 l0_2 a1 = some r) :
    Calls Tryd.prog 3 #[.agg #[.int .i64 a0_0, .int .i64 a0_1, .slice A0_2 l0_2.length c0_2], .string a1] w fun e w' => e = .returned (.bool r) ∧ Below w.heap.size w w' := by
  have hu24 := Tryd.underlying24
  have HR0_2 := Az.mk hr0_2
  have HC0_2 := Az.mk hc0_2
  clear hr0_2 hc0_2
  have HB := Az.mk (Below.refl w.heap.size w)
  have H : ((l11_small.f k a0_0 a0_1 l0_2).bind fun t287 => (if t287 = true then (l11_RollChecks.j0 k a1 (decide ((a1.size : Int) > 10000)) a0_0 a0_1 l0_2) else (l11_RollChecks.j0 k a1 true a0_0 a0_1 l0_2))) = some r := h
  clear h
  have HC3 := Az.mk H
  clear H
  go_enter Tryd.func3, Tryd.ntmps3
  go_upto_region 1 with (first | ((with_reducible refine gate_dst (N := 2) rfl ?_); (try (refine gate_guard (by rfl) ?_; dsimp only)); refine box_event ?hg (N := 2) ?hd (cs := #[.int .i64 a0_0, .int .i64 a0_1, .slice A0_2 l0_2.length c0_2]) (t := 24) ?hr ?_; (case hd => rfl); (case hg => rfl); (case hr => first | (go_simp; done) | (go_simp; rfl)); intro gb286 hg w4 hbox hb; have n0_ := Az.mk (pbT (by repeat (first | (with_reducible first | exact HB.out | apply pbA | apply pbN | apply pb1) | exact HB.out)) hb); have n1_ := Az.mk (hbox); have n2_ := Az.mk ((by rw [hg]; exact (pbZ (by repeat (first | (with_reducible first | exact HB.out | apply pbA | apply pbN | apply pb1) | exact HB.out))) : w.heap.size ≤ gb286)); have n3_ := Az.mk ((by rw [hg]; exact (pbZ (by repeat (first | (with_reducible first | exact HB.out | apply pbA | apply pbN | apply pb1) | exact HB.out))) : w.heap.size ≤ gb286)); clear HB; have HB := n0_; have BK286 := n1_; have GW286 := n2_; have GE286 := n3_; clear n0_ n1_ n2_ n3_; clear hb hbox hg))
  (try simp only [Act.put, List.setIfInBounds_toArray, List.set_cons_zero, List.set_cons_succ])
  go_cut [16] (fun v16 wc => ∃ (kq : Nat) (x16_2 : Bool), v16 = .bool x16_2 ∧ Az (l11_RollChecks.j0 kq a1 x16_2 a0_0 a0_1 l0_2 = some r) ∧ Az (kq ≤ k) ∧ Az (wc.heap[gb286]? = some (.cells #[.int .i64 a0_0, .int .i64 a0_1, (.slice A0_2 l0_2.length c0_2)] 24 (0, 0))) ∧ Az (Below w.heap.size w wc))
  case first =>
    have H := HC3.out
    clear HC3
    replace H := Option.bind_eq_some_iff.mp H
    obtain ⟨t287, A50, H⟩ := H
    replace H : (if t287 = true then (l11_RollChecks.j0 k a1 (decide ((a1.size : Int) > 10000)) a0_0 a0_1 l0_2) else (l11_RollChecks.j0 k a1 true a0_0 a0_1 l0_2)) = some r := H
    have A5 := Az.mk A50
    clear A50
    by_cases c6 : t287 = true
    · subst c6
      have H1 : (l11_RollChecks.j0 k a1 (decide ((a1.size : Int) > 10000)) a0_0 a0_1 l0_2) = some r := by rw [if_pos rfl] at H; exact H
      clear H
      have H := H1
      clear H1
      have H' := Az.mk H
      clear H
      have hcz7_0 : w4.cell? ⟨gb286, 0, none⟩ = some (.int .i64 a0_0) := (bkC BK286.out 0).trans rfl
      have hcz7_1 : w4.cell? ⟨gb286, 1, none⟩ = some (.int .i64 a0_1) := (bkC BK286.out 1).trans rfl
      have hcz7_2 : w4.cell? ⟨gb286, 2, none⟩ = some (.slice A0_2 l0_2.length c0_2) := (bkC BK286.out 2).trans rfl
      have hfz7_0 := bkF BK286.out 0
      have hfz7_1 := bkF BK286.out 1
      have hfz7_2 := bkF BK286.out 2
      go_wp2_with (first | ((with_reducible refine gtc (f := 8) rfl ?_); refine goesL_ (some 10) rfl rfl Tryd.func8 (by kernel_rfl) rfl #[.agg #[.int .i64 a0_0, .int .i64 a0_1, .slice A0_2 l0_2.length c0_2]] rfl (by (try simp only [List.map_toArray, List.map_cons, List.map_nil]); first | done | rfl | (simp only [List.length_drop, List.length_take]; rfl)) ?_; (with_reducible refine (l11_small.calls k a0_0 a0_1 _ _ l0_2 true _ ?side1 ?side2 ?side3 A5.out).mono ?_); (case side1 => exact hG.below (by repeat (first | (with_reducible first | exact HB.out | apply pbA | apply pbN | apply pb1 | refine pbS ?_ GE286.out) | exact HB.out))); (case side2 => repeat (first | exact (Kd.C_below HR0_2.out HB.out) | (with_reducible refine Kd.C_alloc ?_ _) | (with_reducible refine Kd.C_drewN ?_ _) | (with_reducible refine Kd.C_drew ?_))); (case side3 => exact HC0_2.out); rintro e w8 ⟨rfl, hb⟩; refine ⟨_, rfl, ?_⟩; have n0_ := Az.mk (bkB (g := gb286) (o := .cells #[.int .i64 a0_0, .int .i64 a0_1, .slice A0_2 l0_2.length c0_2] 24 (0, 0)) (by (with_reducible repeat (first | refine bkN ?_ _ | refine bkD ?_ | refine bkA ?_ _)); exact BK286.out) hb); have n1_ := Az.mk (pbT (by repeat (first | (with_reducible first | exact HB.out | apply pbA | apply pbN | apply pb1 | refine pbS ?_ GE286.out) | exact HB.out)) hb); clear BK286; clear HB; have BK286 := n0_; have HB := n1_; clear n0_ n1_; (try clear hb); (try clear hb2); (try clear hk); (try clear hi)))
      go_meet
      case rel => exact ⟨_, (decide ((a1.size : Int) > 10000)), (by first | rfl | (simp; done) | (simp [*]; done)), H', ⟨by first | omega | exact Nat.le_refl _⟩, ⟨by (with_reducible repeat (first | refine bkN ?_ _ | refine bkD ?_ | refine bkA ?_ _)); exact BK286.out⟩, ⟨by repeat (first | (with_reducible first | exact HB.out | apply pbA | apply pbN | apply pb1 | refine pbS ?_ GE286.out) | exact HB.out)⟩⟩
    · replace c6 := Bool.eq_false_iff.mpr c6
      subst c6
      have H1 : (l11_RollChecks.j0 k a1 true a0_0 a0_1 l0_2) = some r := by rw [if_neg (show ¬ (false = true) by decide)] at H; exact H
      clear H
      have H := H1
      clear H1
      have H' := Az.mk H
      clear H
      have hcz9_0 : w4.cell? ⟨gb286, 0, none⟩ = some (.int .i64 a0_0) := (bkC BK286.out 0).trans rfl
      have hcz9_1 : w4.cell? ⟨gb286, 1, none⟩ = some (.int .i64 a0_1) := (bkC BK286.out 1).trans rfl
      have hcz9_2 : w4.cell? ⟨gb286, 2, none⟩ = some (.slice A0_2 l0_2.length c0_2) := (bkC BK286.out 2).trans rfl
      have hfz9_0 := bkF BK286.out 0
      have hfz9_1 := bkF BK286.out 1
      have hfz9_2 := bkF BK286.out 2
      go_wp2_with (first | ((with_reducible refine gtc (f := 8) rfl ?_); refine goesL_ (some 10) rfl rfl Tryd.func8 (by kernel_rfl) rfl #[.agg #[.int .i64 a0_0, .int .i64 a0_1, .slice A0_2 l0_2.length c0_2]] rfl (by (try simp only [List.map_toArray, List.map_cons, List.map_nil]); first | done | rfl | (simp only [List.length_drop, List.length_take]; rfl)) ?_; (with_reducible refine (l11_small.calls k a0_0 a0_1 _ _ l0_2 false _ ?side1 ?side2 ?side3 A5.out).mono ?_); (case side1 => exact hG.below (by repeat (first | (with_reducible first | exact HB.out | apply pbA | apply pbN | apply pb1 | refine pbS ?_ GE286.out) | exact HB.out))); (case side2 => repeat (first | exact (Kd.C_below HR0_2.out HB.out) | (with_reducible refine Kd.C_alloc ?_ _) | (with_reducible refine Kd.C_drewN ?_ _) | (with_reducible refine Kd.C_drew ?_))); (case side3 => exact HC0_2.out); rintro e w10 ⟨rfl, hb⟩; refine ⟨_, rfl, ?_⟩; have n0_ := Az.mk (bkB (g := gb286) (o := .cells #[.int .i64 a0_0, .int .i64 a0_1, .slice A0_2 l0_2.length c0_2] 24 (0, 0)) (by (with_reducible repeat (first | refine bkN ?_ _ | refine bkD ?_ | refine bkA ?_ _)); exact BK286.out) hb); have n1_ := Az.mk (pbT (by repeat (first | (with_reducible first | exact HB.out | apply pbA | apply pbN | apply pb1 | refine pbS ?_ GE286.out) | exact HB.out)) hb); clear BK286; clear HB; have BK286 := n0_; have HB := n1_; clear n0_ n1_; (try clear hb); (try clear hb2); (try clear hk); (try clear hi)))
      go_meet
      case rel => exact ⟨_, (true), (by first | rfl | (simp; done) | (simp [*]; done)), H', ⟨by first | omega | exact Nat.le_refl _⟩, ⟨by (with_reducible repeat (first | refine bkN ?_ _ | refine bkD ?_ | refine bkA ?_ _)); exact BK286.out⟩, ⟨by repeat (first | (with_reducible first | exact HB.out | apply pbA | apply pbN | apply pb1 | refine pbS ?_ GE286.out) | exact HB.out)⟩⟩
  case rest =>
    clear HC3
    try clear p2
    try clear c3
    try clear c6
    try clear c8
    try clear hcz7_0
    try clear hcz7_1
    try clear hcz7_2
    try clear hcz9_0
    try clear hcz9_1
    try clear hcz9_2
    try clear hfz7_0
    try clear hfz7_1
    try clear hfz7_2
    try clear hfz9_0
    try clear hfz9_1
    try clear hfz9_2
    obtain ⟨kq, x16_2, rfl, HA, HJ2, BK286, HB⟩ := hcut
    cases kq with
    | zero => exact absurd HA.out (by simp [l11_RollChecks.j0])
    | succ kj2 =>
      have H := HA.out
      clear HA
      simp only [l11_RollChecks.j0] at H
      by_cases c11 : x16_2 = true
      · subst c11
        have H1 : ((l11_live.f).bind fun t288 => (some t288)) = some r := by rw [if_pos rfl] at H; exact H
        clear H
        have H := H1
        clear H1
        replace H := Option.bind_eq_some_iff.mp H
        obtain ⟨t288, A120, H⟩ := H
        replace H : (some t288) = some r := H
        have A12 := Az.mk A120
        clear A120
        obtain rfl := Option.some.inj H
        go_wp2_with (first | ((with_reducible refine gtc (f := 9) rfl ?_); refine goesL_ (some 17) rfl rfl Tryd.func9 (by kernel_rfl) rfl #[] rfl (by (try simp only [List.map_toArray, List.map_cons, List.map_nil]); first | done | rfl | (simp only [List.length_drop, List.length_take]; rfl)) ?_; (with_reducible refine (l11_live.calls  t288 _ ?side1 A12.out).mono ?_); (case side1 => exact hG.below (by repeat (first | (with_reducible first | exact HB.out | apply pbA | apply pbN | apply pb1 | refine pbS ?_ GE286.out) | exact HB.out))); rintro e w13 ⟨rfl, hb⟩; refine ⟨_, rfl, ?_⟩; have n0_ := Az.mk (bkB (g := gb286) (o := .cells #[.int .i64 a0_0, .int .i64 a0_1, .slice A0_2 l0_2.length c0_2] 24 (0, 0)) (by (with_reducible repeat (first | refine bkN ?_ _ | refine bkD ?_ | refine bkA ?_ _)); exact BK286.out) hb); have n1_ := Az.mk (pbT (by repeat (first | (with_reducible first | exact HB.out | apply pbA | apply pbN | apply pb1 | refine pbS ?_ GE286.out) | exact HB.out)) hb); clear BK286; clear HB; have BK286 := n0_; have HB := n1_; clear n0_ n1_; (try clear hb); (try clear hb2); (try clear hk); (try clear hi)))
        go_ret
        exact ⟨by first | rfl | (simp [errW_none, errW_some] <;> rfl) | (simp [*, errW_none, errW_some] <;> rfl), by repeat (first | (with_reducible first | exact HB.out | apply pbA | apply pbN | apply pb1 | refine pbS ?_ GE286.out) | exact HB.out)⟩
      · replace c11 := Bool.eq_false_iff.mpr c11
        subst c11
        have H1 : ((roll_Parse.f kj2 a1).bind fun bt289 => ((r11_Parse.f kj2 a1).bind fun bt296 => ((roll_Check.f kj2 a0_0 a0_1 l0_2).bind fun t303 => ((l11_num.f t303).bind fun t304 => ((r11_Is.f kj2 a0_0 a0_1 l0_2).bind fun t305 => (if ((t304 == 0) == t305) = true then ((l11_own.f a0_0 a0_1 l0_2).bind fun bt306 => ((roll_Put.f kj2 bt306.1 bt306.2.1 bt306.2.2).bind fun t311 => ((r11_Put.f kj2 a0_0 a0_1 l0_2).bind fun t312 => (if t311.toList = t312.toList then ((r11_Same.f kj2 bt289.1 bt289.2.1 bt289.2.2.1 bt296.1 bt296.2.1 bt296.2.2.1).bind fun t313 => (if t313 = true then ((l11_num.f bt289.2.2.2).bind fun t314 => (if t314 = bt296.2.2.2 then ((l11_live.f).bind fun t315 => (some t315)) else (some false))) else (some false))) else (some false))))) else (some false))))))) = some r := by rw [if_neg (show ¬ (false = true) by decide)] at H; exact H
        clear H
        have H := H1
        clear H1
        replace H := Option.bind_eq_some_iff.mp H
        obtain ⟨⟨t289, t290, t291, t294⟩, A140, H⟩ := H
        replace H : ((r11_Parse.f kj2 a1).bind fun bt296 => ((roll_Check.f kj2 a0_0 a0_1 l0_2).bind fun t303 => ((l11_num.f t303).bind fun t304 => ((r11_Is.f kj2 a0_0 a0_1 l0_2).bind fun t305 => (if ((t304 == 0) == t305) = true then ((l11_own.f a0_0 a0_1 l0_2).bind fun bt306 => ((roll_Put.f kj2 bt306.1 bt306.2.1 bt306.2.2).bind fun t311 => ((r11_Put.f kj2 a0_0 a0_1 l0_2).bind fun t312 => (if t311.toList = t312.toList then ((r11_Same.f kj2 t289 t290 t291 bt296.1 bt296.2.1 bt296.2.2.1).bind fun t313 => (if t313 = true then ((l11_num.f t294).bind fun t314 => (if t314 = bt296.2.2.2 then ((l11_live.f).bind fun t315 => (some t315)) else (some false))) else (some false))) else (some false))))) else (some false)))))) = some r := H
        have A14 := Az.mk A140
        clear A140
        replace H := Option.bind_eq_some_iff.mp H
        obtain ⟨⟨t296, t297, t298, t301⟩, A150, H⟩ := H
        replace H : ((roll_Check.f kj2 a0_0 a0_1 l0_2).bind fun t303 => ((l11_num.f t303).bind fun t304 => ((r11_Is.f kj2 a0_0 a0_1 l0_2).bind fun t305 => (if ((t304 == 0) == t305) = true then ((l11_own.f a0_0 a0_1 l0_2).bind fun bt306 => ((roll_Put.f kj2 bt306.1 bt306.2.1 bt306.2.2).bind fun t311 => ((r11_Put.f kj2 a0_0 a0_1 l0_2).bind fun t312 => (if t311.toList = t312.toList then ((r11_Same.f kj2 t289 t290 t291 t296 t297 t298).bind fun t313 => (if t313 = true then ((l11_num.f t294).bind fun t314 => (if t314 = t301 then ((l11_live.f).bind fun t315 => (some t315)) else (some false))) else (some false))) else (some false))))) else (some false))))) = some r := H
        have A15 := Az.mk A150
        clear A150
        replace H := Option.bind_eq_some_iff.mp H
        obtain ⟨t303, A160, H⟩ := H
        replace H : ((l11_num.f t303).bind fun t304 => ((r11_Is.f kj2 a0_0 a0_1 l0_2).bind fun t305 => (if ((t304 == 0) == t305) = true then ((l11_own.f a0_0 a0_1 l0_2).bind fun bt306 => ((roll_Put.f kj2 bt306.1 bt306.2.1 bt306.2.2).bind fun t311 => ((r11_Put.f kj2 a0_0 a0_1 l0_2).bind fun t312 => (if t311.toList = t312.toList then ((r11_Same.f kj2 t289 t290 t291 t296 t297 t298).bind fun t313 => (if t313 = true then ((l11_num.f t294).bind fun t314 => (if t314 = t301 then ((l11_live.f).bind fun t315 => (some t315)) else (some false))) else (some false))) else (some false))))) else (some false)))) = some r := H
        have A16 := Az.mk A160
        clear A160
        replace H := Option.bind_eq_some_iff.mp H
        obtain ⟨t304, A170, H⟩ := H
        replace H : ((r11_Is.f kj2 a0_0 a0_1 l0_2).bind fun t305 => (if ((t304 == 0) == t305) = true then ((l11_own.f a0_0 a0_1 l0_2).bind fun bt306 => ((roll_Put.f kj2 bt306.1 bt306.2.1 bt306.2.2).bind fun t311 => ((r11_Put.f kj2 a0_0 a0_1 l0_2).bind fun t312 => (if t311.toList = t312.toList then ((r11_Same.f kj2 t289 t290 t291 t296 t297 t298).bind fun t313 => (if t313 = true then ((l11_num.f t294).bind fun t314 => (if t314 = t301 then ((l11_live.f).bind fun t315 => (some t315)) else (some false))) else (some false))) else (some false))))) else (some false))) = some r := H
        have A17 := Az.mk A170
        clear A170
        replace H := Option.bind_eq_some_iff.mp H
        obtain ⟨t305, A180, H⟩ := H
        replace H : (if ((t304 == 0) == t305) = true then ((l11_own.f a0_0 a0_1 l0_2).bind fun bt306 => ((roll_Put.f kj2 bt306.1 bt306.2.1 bt306.2.2).bind fun t311 => ((r11_Put.f kj2 a0_0 a0_1 l0_2).bind fun t312 => (if t311.toList = t312.toList then ((r11_Same.f kj2 t289 t290 t291 t296 t297 t298).bind fun t313 => (if t313 = true then ((l11_num.f t294).bind fun t314 => (if t314 = t301 then ((l11_live.f).bind fun t315 => (some t315)) else (some false))) else (some false))) else (some false))))) else (some false)) = some r := H
        have A18 := Az.mk A180
        clear A180
        by_cases c19 : ((t304 == 0) == t305) = true
        · rw [if_pos c19] at H
          have c19b0 : ((t304 == 0) == t305) = true := c19
          (try (have c19b1 : decide ((t304 == 0) = t305) = true := by simpa using c19))
          (try (have c19b2 : ((t304 == 0) == t305) = true := by simpa using c19))
          clear c19
          replace H := Option.bind_eq_some_iff.mp H
          obtain ⟨⟨t306, t307, t308⟩, A200, H⟩ := H
          replace H : ((roll_Put.f kj2 t306 t307 t308).bind fun t311 => ((r11_Put.f kj2 a0_0 a0_1 l0_2).bind fun t312 => (if t311.toList = t312.toList then ((r11_Same.f kj2 t289 t290 t291 t296 t297 t298).bind fun t313 => (if t313 = true then ((l11_num.f t294).bind fun t314 => (if t314 = t301 then ((l11_live.f).bind fun t315 => (some t315)) else (some false))) else (some false))) else (some false)))) = some r := H
          have A20 := Az.mk A200
          clear A200
          replace H := Option.bind_eq_some_iff.mp H
          obtain ⟨t311, A210, H⟩ := H
          replace H : ((r11_Put.f kj2 a0_0 a0_1 l0_2).bind fun t312 => (if t311.toList = t312.toList then ((r11_Same.f kj2 t289 t290 t291 t296 t297 t298).bind fun t313 => (if t313 = true then ((l11_num.f t294).bind fun t314 => (if t314 = t301 then ((l11_live.f).bind fun t315 => (some t315)) else (some false))) else (some false))) else (some false))) = some r := H
          have A21 := Az.mk A210
          clear A210
          replace H := Option.bind_eq_some_iff.mp H
          obtain ⟨t312, A220, H⟩ := H
          replace H : (if t311.toList = t312.toList then ((r11_Same.f kj2 t289 t290 t291 t296 t297 t298).bind fun t313 => (if t313 = true then ((l11_num.f t294).bind fun t314 => (if t314 = t301 then ((l11_live.f).bind fun t315 => (some t315)) else (some false))) else (some false))) else (some false)) = some r := H
          have A22 := Az.mk A220
          clear A220
          by_cases c23 : t311.toList = t312.toList
          · rw [if_pos c23] at H
            have c23b0 : (t311.toList == t312.toList) = true := beq_iff_eq.mpr c23
            have c23b1 : (t311.toList != t312.toList) = false := bne_eq_false_iff_eq.mpr c23
            clear c23
            replace H := Option.bind_eq_some_iff.mp H
            obtain ⟨t313, A240, H⟩ := H
            replace H : (if t313 = true then ((l11_num.f t294).bind fun t314 => (if t314 = t301 then ((l11_live.f).bind fun t315 => (some t315)) else (some false))) else (some false)) = some r := H
            have A24 := Az.mk A240
            clear A240
            by_cases c25 : t313 = true
            · subst c25
              have H1 : ((l11_num.f t294).bind fun t314 => (if t314 = t301 then ((l11_live.f).bind fun t315 => (some t315)) else (some false))) = some r := by rw [if_pos rfl] at H; exact H
              clear H
              have H := H1
              clear H1
              replace H := Option.bind_eq_some_iff.mp H
              obtain ⟨t314, A260, H⟩ := H
              replace H : (if t314 = t301 then ((l11_live.f).bind fun t315 => (some t315)) else (some false)) = some r := H
              have A26 := Az.mk A260
              clear A260
              by_cases c27 : t314 = t301
              · rw [if_pos c27] at H
                have c27b0 : (t314 == t301) = true := beq_iff_eq.mpr c27
                have c27b1 : (t314 != t301) = false := bne_eq_false_iff_eq.mpr c27
                clear c27
                replace H := Option.bind_eq_some_iff.mp H
                obtain ⟨t315, A280, H⟩ := H
                replace H : (some t315) = some r := H
                have A28 := Az.mk A280
                clear A280
                obtain rfl := Option.some.inj H
                try go_wp2_with (first | ((with_reducible refine gtc (f := 10) rfl ?_); refine goesL_ (some 20) rfl rfl Tryd.func10 (by kernel_rfl) rfl #[.string a1] rfl (by (try simp only [List.map_toArray, List.map_cons, List.map_nil]); first | done | rfl | (simp only [List.length_drop, List.length_take]; rfl)) ?_; (with_reducible refine (roll_Parse.calls kj2 a1 t289 t290 t291 t294 _ ?side1 A14.out).mono ?_); (case side1 => exact hG.below (by repeat (first | (with_reducible first | exact HB.out | apply pbA | apply pbN | apply pb1 | refine pbS ?_ GE286.out) | exact HB.out))); rintro e w29 ⟨v292, rfl, ho0, hb⟩; refine ⟨_, rfl, ?_⟩; have n0_ := Az.mk (Kd.R_lower ho0 (pbZ (by repeat (first | (with_reducible first | exact HB.out | apply pbA | apply pbN | apply pb1 | refine pbS ?_ GE286.out) | exact HB.out)))); have n1_ := Az.mk (bkB (g := gb286) (o := .cells #[.int .i64 a0_0, .int .i64 a0_1, .slice A0_2 l0_2.length c0_2] 24 (0, 0)) (by (with_reducible repeat (first | refine bkN ?_ _ | refine bkD ?_ | refine bkA ?_ _)); exact BK286.out) hb); have n2_ := Az.mk (pbT (by repeat (first | (with_reducible first | exact HB.out | apply pbA | apply pbN | apply pb1 | refine pbS ?_ GE286.out) | exact HB.out)) hb); clear BK286; clear HB; have HO293 := n0_; have BK286 := n1_; have HB := n2_; clear n0_ n1_ n2_; (try clear hb); (try clear hb2); (try clear hk); (try clear hi); (try clear ho0)) | ((with_reducible refine gate_dst (N := 5) rfl ?_); (try (refine gate_guard (by rfl) ?_; dsimp only)); refine box_event ?hg (N := 5) ?hd (cs := #[.int .i64 0, .int .i64 0, .slice none 0 0]) (t := 24) ?hr ?_; (case hd => rfl); (case hg => rfl); (case hr => first | (go_simp; done) | (go_simp; rfl)); intro gb295 hg w30 hbox hb; have n0_ := Az.mk (Kd.R_below (by (with_reducible repeat (first | apply Kd.R_alloc | apply Kd.R_drewN | apply Kd.R_drew)); exact HO293.out) hb); have n1_ := Az.mk (bkB (g := gb286) (o := .cells #[.int .i64 a0_0, .int .i64 a0_1, .slice A0_2 l0_2.length c0_2] 24 (0, 0)) (by (with_reducible repeat (first | refine bkN ?_ _ | refine bkD ?_ | refine bkA ?_ _)); exact BK286.out) hb); have n2_ := Az.mk (pbT (by repeat (first | (with_reducible first | exact HB.out | apply pbA | apply pbN | apply pb1 | refine pbS ?_ GE286.out) | exact HB.out)) hb); have n3_ := Az.mk (hbox); have n4_ := Az.mk ((by rw [hg]; exact (pbZ (by repeat (first | (with_reducible first | exact HB.out | apply pbA | apply pbN | apply pb1 | refine pbS ?_ GE286.out) | exact HB.out))) : w.heap.size ≤ gb295)); have n5_ := Az.mk ((by rw [hg]; exact (pbZ (by repeat (first | (with_reducible first | exact HB.out | apply pbA | apply pbN | apply pb1 | refine pbS ?_ GE286.out) | exact HB.out))) : w.heap.size ≤ gb295)); have n6_ := Az.mk ((by rw [hg]; exact Nat.ne_of_lt (blk_lt (g := gb286) (o := .cells #[.int .i64 a0_0, .int .i64 a0_1, .slice A0_2 l0_2.length c0_2] 24 (0, 0)) (by (with_reducible repeat (first | refine bkN ?_ _ | refine bkD ?_ | refine bkA ?_ _)); exact BK286.out)) : gb286 ≠ gb295)); have n7_ := Az.mk ((by rw [hg]; exact Nat.ne_of_gt (blk_lt (g := gb286) (o := .cells #[.int .i64 a0_0, .int .i64 a0_1, .slice A0_2 l0_2.length c0_2] 24 (0, 0)) (by (with_reducible repeat (first | refine bkN ?_ _ | refine bkD ?_ | refine bkA ?_ _)); exact BK286.out)) : gb295 ≠ gb286)); clear HO293; clear BK286; clear HB; have HO293 := n0_; have BK286 := n1_; have HB := n2_; have BK295 := n3_; have GW295 := n4_; have GE295 := n5_; have NB286_295 := n6_; have NB295_286 := n7_; clear n0_ n1_ n2_ n3_ n4_ n5_ n6_ n7_; clear hb hbox hg; have hnb31 := NB295_286.out; have hnc31 := NB286_295.out; have hcz32_0 : w30.cell? ⟨gb295, 0, none⟩ = some (.int .i64 0) := (bkC BK295.out 0).trans rfl; have hcz32_1 : w30.cell? ⟨gb295, 1, none⟩ = some (.int .i64 0) := (bkC BK295.out 1).trans rfl; have hcz32_2 : w30.cell? ⟨gb295, 2, none⟩ = some (.slice none 0 0) := (bkC BK295.out 2).trans rfl; have hfz32_0 := bkF BK295.out 0; have hfz32_1 := bkF BK295.out 1; have hfz32_2 := bkF BK295.out 2; obtain ⟨Ao33, co33, eo33⟩ := Kd.R_slice HO293.out; subst eo33) | ((with_reducible refine gtc (f := 11) rfl ?_); refine goesL_ (some 25) rfl rfl Tryd.func11 (by kernel_rfl) rfl #[.string a1] rfl (by (try simp only [List.map_toArray, List.map_cons, List.map_nil]); first | done | rfl | (simp only [List.length_drop, List.length_take]; rfl)) ?_; (with_reducible refine (r11_Parse.calls kj2 a1 t296 t297 t298 t301 _ ?side1 A15.out).mono ?_); (case side1 => exact hG.below (by repeat (first | (with_reducible first | exact HB.out | apply pbA | apply pbN | apply pb1 | refine pbS ?_ GE286.out | refine pbS ?_ GE295.out) | exact HB.out))); rintro e w34 ⟨v299, rfl, ho0, hb⟩; refine ⟨_, rfl, ?_⟩; have n0_ := Az.mk (Kd.R_elder' (by (with_reducible repeat (first | apply Kd.R_alloc | apply Kd.R_drewN | apply Kd.R_drew)); exact (Kd.R_mono (Kd.R_far (p := ⟨gb295, 2, none⟩) (Kd.R_far (p := ⟨gb295, 1, none⟩) (Kd.R_far (p := ⟨gb295, 0, none⟩) (Kd.R_types HO293.out BK295.out (by decide)) (fun _ hk => hk.2) (.int .i64 t289)) (fun _ hk => hk.2) (.int .i64 t290)) (fun _ hk => hk.2) (.slice Ao33 t291.length co33)) (fun _ h_ => h_.1))) (Kd.R_base ho0) hb); have n1_ := Az.mk (Kd.R_lower (Kd.R_new' ho0 (Kd.R_lt (by (with_reducible repeat (first | apply Kd.R_alloc | apply Kd.R_drewN | apply Kd.R_drew)); exact (Kd.R_mono (Kd.R_far (p := ⟨gb295, 2, none⟩) (Kd.R_far (p := ⟨gb295, 1, none⟩) (Kd.R_far (p := ⟨gb295, 0, none⟩) (Kd.R_types HO293.out BK295.out (by decide)) (fun _ hk => hk.2) (.int .i64 t289)) (fun _ hk => hk.2) (.int .i64 t290)) (fun _ hk => hk.2) (.slice Ao33 t291.length co33)) (fun _ h_ => h_.1))))) (pbZ (by repeat (first | (with_reducible first | exact HB.out | apply pbA | apply pbN | apply pb1 | refine pbS ?_ GE286.out | refine pbS ?_ GE295.out) | exact HB.out)))); have n2_ := Az.mk (bkB (g := gb286) (o := .cells #[.int .i64 a0_0, .int .i64 a0_1, .slice A0_2 l0_2.length c0_2] 24 (0, 0)) (by (with_reducible repeat (first | refine bkN ?_ _ | refine bkD ?_ | refine bkA ?_ _)); refine blk_far ?_ NB286_295.out _; (with_reducible repeat (first | refine bkN ?_ _ | refine bkD ?_ | refine bkA ?_ _)); refine blk_far ?_ NB286_295.out _; (with_reducible repeat (first | refine bkN ?_ _ | refine bkD ?_ | refine bkA ?_ _)); refine blk_far ?_ NB286_295.out _; (with_reducible repeat (first | refine bkN ?_ _ | refine bkD ?_ | refine bkA ?_ _)); exact BK286.out) hb); have n3_ := Az.mk (bkB (g := gb295) (o := .cells #[.int .i64 t289, .int .i64 t290, .slice Ao33 t291.length co33] 24 (0, 0)) (by (with_reducible repeat (first | refine bkN ?_ _ | refine bkD ?_ | refine bkA ?_ _)); refine blk_put (cs := #[.int .i64 t289, .int .i64 t290, .slice none 0 0]) ?_ 2 _ rfl; (with_reducible repeat (first | refine bkN ?_ _ | refine bkD ?_ | refine bkA ?_ _)); refine blk_put (cs := #[.int .i64 t289, .int .i64 0, .slice none 0 0]) ?_ 1 _ rfl; (with_reducible repeat (first | refine bkN ?_ _ | refine bkD ?_ | refine bkA ?_ _)); refine blk_put (cs := #[.int .i64 0, .int .i64 0, .slice none 0 0]) ?_ 0 _ rfl; (with_reducible repeat (first | refine bkN ?_ _ | refine bkD ?_ | refine bkA ?_ _)); exact BK295.out) hb); have n4_ := Az.mk (pbT (by repeat (first | (with_reducible first | exact HB.out | apply pbA | apply pbN | apply pb1 | refine pbS ?_ GE286.out | refine pbS ?_ GE295.out) | exact HB.out)) hb); clear HO293; clear BK286; clear BK295; clear HB; have HO293 := n0_; have HO300 := n1_; have BK286 := n2_; have BK295 := n3_; have HB := n4_; clear n0_ n1_ n2_ n3_ n4_; (try clear hb); (try clear hb2); (try clear hk); (try clear hi); (try clear ho0)) | ((with_reducible refine gate_dst (N := 7) rfl ?_); (try (refine gate_guard (by rfl) ?_; dsimp only)); refine box_event ?hg (N := 7) ?hd (cs := #[.int .i64 0, .int .i64 0, .slice none 0 0]) (t := 24) ?hr ?_; (case hd => rfl); (case hg => rfl); (case hr => first | (go_simp; done) | (go_simp; rfl)); intro gb302 hg w35 hbox hb; have n0_ := Az.mk (Kd.R_below (by (with_reducible repeat (first | apply Kd.R_alloc | apply Kd.R_drewN | apply Kd.R_drew)); exact HO293.out) hb); have n1_ := Az.mk (Kd.R_below (by (with_reducible repeat (first | apply Kd.R_alloc | apply Kd.R_drewN | apply Kd.R_drew)); exact HO300.out) hb); have n2_ := Az.mk (bkB (g := gb286) (o := .cells #[.int .i64 a0_0, .int .i64 a0_1, .slice A0_2 l0_2.length c0_2] 24 (0, 0)) (by (with_reducible repeat (first | refine bkN ?_ _ | refine bkD ?_ | refine bkA ?_ _)); exact BK286.out) hb); have n3_ := Az.mk (bkB (g := gb295) (o := .cells #[.int .i64 t289, .int .i64 t290, .slice Ao33 t291.length co33] 24 (0, 0)) (by (with_reducible repeat (first | refine bkN ?_ _ | refine bkD ?_ | refine bkA ?_ _)); exact BK295.out) hb); have n4_ := Az.mk (pbT (by repeat (first | (with_reducible first | exact HB.out | apply pbA | apply pbN | apply pb1 | refine pbS ?_ GE286.out | refine pbS ?_ GE295.out) | exact HB.out)) hb); have n5_ := Az.mk (hbox); have n6_ := Az.mk ((by rw [hg]; exact (pbZ (by repeat (first | (with_reducible first | exact HB.out | apply pbA | apply pbN | apply pb1 | refine pbS ?_ GE286.out | refine pbS ?_ GE295.out) | exact HB.out))) : w.heap.size ≤ gb302)); have n7_ := Az.mk ((by rw [hg]; exact (pbZ (by repeat (first | (with_reducible first | exact HB.out | apply pbA | apply pbN | apply pb1 | refine pbS ?_ GE286.out | refine pbS ?_ GE295.out) | exact HB.out))) : w.heap.size ≤ gb302)); have n8_ := Az.mk ((by rw [hg]; exact Nat.ne_of_lt (blk_lt (g := gb286) (o := .cells #[.int .i64 a0_0, .int .i64 a0_1, .slice A0_2 l0_2.length c0_2] 24 (0, 0)) (by (with_reducible repeat (first | refine bkN ?_ _ | refine bkD ?_ | refine bkA ?_ _)); exact BK286.out)) : gb286 ≠ gb302)); have n9_ := Az.mk ((by rw [hg]; exact Nat.ne_of_gt (blk_lt (g := gb286) (o := .cells #[.int .i64 a0_0, .int .i64 a0_1, .slice A0_2 l0_2.length c0_2] 24 (0, 0)) (by (with_reducible repeat (first | refine bkN ?_ _ | refine bkD ?_ | refine bkA ?_ _)); exact BK286.out)) : gb302 ≠ gb286)); have n10_ := Az.mk ((by rw [hg]; exact Nat.ne_of_lt (blk_lt (g := gb295) (o := .cells #[.int .i64 t289, .int .i64 t290, .slice Ao33 t291.length co33] 24 (0, 0)) (by (with_reducible repeat (first | refine bkN ?_ _ | refine bkD ?_ | refine bkA ?_ _)); exact BK295.out)) : gb295 ≠ gb302)); have n11_ := Az.mk ((by rw [hg]; exact Nat.ne_of_gt (blk_lt (g := gb295) (o := .cells #[.int .i64 t289, .int .i64 t290, .slice Ao33 t291.length co33] 24 (0, 0)) (by (with_reducible repeat (first | refine bkN ?_ _ | refine bkD ?_ | refine bkA ?_ _)); exact BK295.out)) : gb302 ≠ gb295)); clear HO293; clear HO300; clear BK286; clear BK295; clear HB; have HO293 := n0_; have HO300 := n1_; have BK286 := n2_; have BK295 := n3_; have HB := n4_; have BK302 := n5_; have GW302 := n6_; have GE302 := n7_; have NB286_302 := n8_; have NB302_286 := n9_; have NB295_302 := n10_; have NB302_295 := n11_; clear n0_ n1_ n2_ n3_ n4_ n5_ n6_ n7_ n8_ n9_ n10_ n11_; clear hb hbox hg; have hnb36 := NB302_286.out; have hnc36 := NB286_302.out; have hnb37 := NB302_295.out; have hnc37 := NB295_302.out; have hcz38_0 : w35.cell? ⟨gb302, 0, none⟩ = some (.int .i64 0) := (bkC BK302.out 0).trans rfl; have hcz38_1 : w35.cell? ⟨gb302, 1, none⟩ = some (.int .i64 0) := (bkC BK302.out 1).trans rfl; have hcz38_2 : w35.cell? ⟨gb302, 2, none⟩ = some (.slice none 0 0) := (bkC BK302.out 2).trans rfl; have hfz38_0 := bkF BK302.out 0; have hfz38_1 := bkF BK302.out 1; have hfz38_2 := bkF BK302.out 2; obtain ⟨Ao39, co39, eo39⟩ := Kd.R_slice HO300.out; subst eo39))
                have n0_ : Az (Kd.R k54 54 (((w35.setCell ⟨gb302, 0, none⟩ (.int .i64 t296)).setCell ⟨gb302, 1, none⟩ (.int .i64 t297)).setCell ⟨gb302, 2, none⟩ (.slice Ao39 t298.length co39)) w.heap.size (fun k_ => some k_ ≠ (.slice Ao39 t298.length co39 : Value).ownBlock) (.slice Ao33 t291.length co33) t291) := ⟨by (with_reducible repeat (first | apply Kd.R_alloc | apply Kd.R_drewN | apply Kd.R_drew)); exact Kd.R_mono (Kd.R_far (p := ⟨gb302, 2, none⟩) (Kd.R_far (p := ⟨gb302, 1, none⟩) (Kd.R_far (p := ⟨gb302, 0, none⟩) (Kd.R_types HO293.out BK302.out (by decide)) (fun _ hk => hk.2) (.int .i64 t296)) (fun _ hk => hk.2) (.int .i64 t297)) (fun _ hk => hk.2) (.slice Ao39 t298.length co39)) (fun _ hk => hk.1.2)⟩
                have n1_ : Az (Kd.R k54 54 (((w35.setCell ⟨gb302, 0, none⟩ (.int .i64 t296)).setCell ⟨gb302, 1, none⟩ (.int .i64 t297)).setCell ⟨gb302, 2, none⟩ (.slice Ao39 t298.length co39)) w.heap.size (fun k_ => some k_ ≠ (.slice Ao33 t291.length co33 : Value).ownBlock) (.slice Ao39 t298.length co39) t298) := ⟨by (with_reducible repeat (first | apply Kd.R_alloc | apply Kd.R_drewN | apply Kd.R_drew)); exact Kd.R_mono (Kd.R_far (p := ⟨gb302, 2, none⟩) (Kd.R_far (p := ⟨gb302, 1, none⟩) (Kd.R_far (p := ⟨gb302, 0, none⟩) (Kd.R_types HO300.out BK302.out (by decide)) (fun _ hk => hk.2) (.int .i64 t296)) (fun _ hk => hk.2) (.int .i64 t297)) (fun _ hk => hk.2) (.slice Ao39 t298.length co39)) (fun _ hk => hk.1.2)⟩
                have n2_ : Az ((((w35.setCell ⟨gb302, 0, none⟩ (.int .i64 t296)).setCell ⟨gb302, 1, none⟩ (.int .i64 t297)).setCell ⟨gb302, 2, none⟩ (.slice Ao39 t298.length co39)).heap[gb286]? = some (.cells #[.int .i64 a0_0, .int .i64 a0_1, .slice A0_2 l0_2.length c0_2] 24 (0, 0))) := ⟨by (with_reducible repeat (first | refine bkN ?_ _ | refine bkD ?_ | refine bkA ?_ _)); refine blk_far ?_ NB286_302.out _; (with_reducible repeat (first | refine bkN ?_ _ | refine bkD ?_ | refine bkA ?_ _)); refine blk_far ?_ NB286_302.out _; (with_reducible repeat (first | refine bkN ?_ _ | refine bkD ?_ | refine bkA ?_ _)); refine blk_far ?_ NB286_302.out _; (with_reducible repeat (first | refine bkN ?_ _ | refine bkD ?_ | refine bkA ?_ _)); exact BK286.out⟩
                have n3_ : Az ((((w35.setCell ⟨gb302, 0, none⟩ (.int .i64 t296)).setCell ⟨gb302, 1, none⟩ (.int .i64 t297)).setCell ⟨gb302, 2, none⟩ (.slice Ao39 t298.length co39)).heap[gb295]? = some (.cells #[.int .i64 t289, .int .i64 t290, .slice Ao33 t291.length co33] 24 (0, 0))) := ⟨by (with_reducible repeat (first | refine bkN ?_ _ | refine bkD ?_ | refine bkA ?_ _)); refine blk_far ?_ NB295_302.out _; (with_reducible repeat (first | refine bkN ?_ _ | refine bkD ?_ | refine bkA ?_ _)); refine blk_far ?_ NB295_302.out _; (with_reducible repeat (first | refine bkN ?_ _ | refine bkD ?_ | refine bkA ?_ _)); refine blk_far ?_ NB295_302.out _; (with_reducible repeat (first | refine bkN ?_ _ | refine bkD ?_ | refine bkA ?_ _)); exact BK295.out⟩
                have n4_ : Az ((((w35.setCell ⟨gb302, 0, none⟩ (.int .i64 t296)).setCell ⟨gb302, 1, none⟩ (.int .i64 t297)).setCell ⟨gb302, 2, none⟩ (.slice Ao39 t298.length co39)).heap[gb302]? = some (.cells #[.int .i64 t296, .int .i64 t297, .slice Ao39 t298.length co39] 24 (0, 0))) := ⟨by (with_reducible repeat (first | refine bkN ?_ _ | refine bkD ?_ | refine bkA ?_ _)); refine blk_put (cs := #[.int .i64 t296, .int .i64 t297, .slice none 0 0]) ?_ 2 _ rfl; (with_reducible repeat (first | refine bkN ?_ _ | refine bkD ?_ | refine bkA ?_ _)); refine blk_put (cs := #[.int .i64 t296, .int .i64 0, .slice none 0 0]) ?_ 1 _ rfl; (with_reducible repeat (first | refine bkN ?_ _ | refine bkD ?_ | refine bkA ?_ _)); refine blk_put (cs := #[.int .i64 0, .int .i64 0, .slice none 0 0]) ?_ 0 _ rfl; (with_reducible repeat (first | refine bkN ?_ _ | refine bkD ?_ | refine bkA ?_ _)); exact BK302.out⟩
                have n5_ : Az (Below w.heap.size w (((w35.setCell ⟨gb302, 0, none⟩ (.int .i64 t296)).setCell ⟨gb302, 1, none⟩ (.int .i64 t297)).setCell ⟨gb302, 2, none⟩ (.slice Ao39 t298.length co39))) := ⟨by repeat (first | (with_reducible first | exact HB.out | apply pbA | apply pbN | apply pb1 | refine pbS ?_ GE286.out | refine pbS ?_ GE295.out | refine pbS ?_ GE302.out) | exact HB.out)⟩
                (try clear HO293)
                (try clear HO300)
                (try clear BK286)
                (try clear BK295)
                (try clear BK302)
                (try clear HB)
                generalize (((w35.setCell ⟨gb302, 0, none⟩ (.int .i64 t296)).setCell ⟨gb302, 1, none⟩ (.int .i64 t297)).setCell ⟨gb302, 2, none⟩ (.slice Ao39 t298.length co39)) = w40 at n0_ n1_ n2_ n3_ n4_ n5_ ⊢
                have HO293 := n0_
                have HO300 := n1_
                have BK286 := n2_
                have BK295 := n3_
                have BK302 := n4_
                have HB := n5_
                clear n0_ n1_ n2_ n3_ n4_ n5_
                have n0_ := Az.mk (Kd.R_drew HO293.out)
                have n1_ := Az.mk (Kd.R_drew HO300.out)
                have n2_ := Az.mk (bkD BK286.out)
                have n3_ := Az.mk (bkD BK295.out)
                have n4_ := Az.mk (bkD BK302.out)
                have n5_ := Az.mk (pb1 HB.out)
                clear HO293
                clear HO300
                clear BK286
                clear BK295
                clear BK302
                clear HB
                have HO293 := n0_
                have HO300 := n1_
                have BK286 := n2_
                have BK295 := n3_
                have BK302 := n4_
                have HB := n5_
                clear n0_ n1_ n2_ n3_ n4_ n5_
                refine start_ (n := 30) (S := fun w' => w'.cell? ⟨gb286, 0, none⟩ = some (.int .i64 a0_0) ∧ w'.cell? ⟨gb286, 1, none⟩ = some (.int .i64 a0_1) ∧ w'.cell? ⟨gb286, 2, none⟩ = some (.slice A0_2 l0_2.length c0_2) ∧ w'.cell? ⟨gb295, 0, none⟩ = some (.int .i64 t289) ∧ w'.cell? ⟨gb295, 1, none⟩ = some (.int .i64 t290) ∧ w'.cell? ⟨gb295, 2, none⟩ = some (.slice Ao33 t291.length co33) ∧ w'.cell? ⟨gb302, 0, none⟩ = some (.int .i64 t296) ∧ w'.cell? ⟨gb302, 1, none⟩ = some (.int .i64 t297) ∧ w'.cell? ⟨gb302, 2, none⟩ = some (.slice Ao39 t298.length co39)) (ds := []) #[false, false, false, false, false, false, false, false, false, false, false, false, false, false, false, false, false, false, false, false, false, false, false, false, false, false, false, false, false, false] (by kernel_rfl) rfl rfl ⟨(bkC BK286.out 0).trans rfl, (bkC BK286.out 1).trans rfl, (bkC BK286.out 2).trans rfl, (bkC BK295.out 0).trans rfl, (bkC BK295.out 1).trans rfl, (bkC BK295.out 2).trans rfl, (bkC BK302.out 0).trans rfl, (bkC BK302.out 1).trans rfl, (bkC BK302.out 2).trans rfl⟩ (fun hHeld => ?_); refine with_tabW l11_RollChecks.tab5 l11_RollChecks.bits5 (fun HT_ HW_ => ?_)
                generalize w40.drew = w41 at HO293 HO300 BK286 BK295 BK302 HB hHeld ⊢
                refine take_ (i := 0) (N := some 28) (v := ?_) (a' := ?_) #[true, false, false, false, false, false, false, false, false, false, false, false, false, false, false, false, false, false, false, false, false, false, false, false, false, false, false, false, false, false] rfl rfl (take_ofW HT_.out HW_.out (by kernel_rfl)) (fun _ _ _ h => h) (Or.inl ⟨by rfl, ?_⟩) hHeld ?_ ?_
                rotate_left
                · rintro w' ⟨s0, s1, s2, s3, s4, s5, s6, s7, s8⟩
                  go_simp
                  with_reducible rfl
                rotate_left
                · simp only [Act.put, List.setIfInBounds_toArray, List.set_cons_zero, List.set_cons_succ, i64_w, i32_w]
                  rfl
                refine take_ (i := 4) (N := some 32) (v := ?_) (a' := ?_) #[true, false, false, false, true, false, false, false, false, false, false, false, false, false, false, false, false, false, false, false, false, false, false, false, false, false, false, false, false, false] rfl rfl (take_ofW HT_.out HW_.out (by kernel_rfl)) (fun _ _ _ h => h) (Or.inl ⟨by rfl, ?_⟩) hHeld ?_ ?_
                rotate_left
                · rintro w' ⟨s0, s1, s2, s3, s4, s5, s6, s7, s8⟩
                  go_simp
                  with_reducible rfl
                rotate_left
                · simp only [Act.put, List.setIfInBounds_toArray, List.set_cons_zero, List.set_cons_succ, i64_w, i32_w]
                  rfl
                refine one_ (i := 1) (N := some 29) #[true, true, false, false, true, false, false, false, false, false, false, false, false, false, false, false, false, false, false, false, false, false, false, false, false, false, false, false, false, false] rfl rfl (one_of HT_.out (by kernel_rfl)) (by decide) (fun K hK => ?_)
                refine goes_ Tryd.func13 (by kernel_rfl) rfl #[.agg #[.int .i64 a0_0, .int .i64 a0_1, .slice A0_2 l0_2.length c0_2]] (by rfl) rfl rfl (by (try simp only [List.map_toArray, List.map_cons, List.map_nil]); first | done | rfl | (simp only [List.length_drop, List.length_take]; rfl)) ?_
                with_reducible refine (roll_Check.calls kj2 a0_0 a0_1 _ _ l0_2 t303 _ ?side1 ?side2 ?side3 A16.out).mono ?_
                (case side1 => exact hG.below (by repeat (first | (with_reducible first | exact HB.out | apply pbA | apply pbN | apply pb1 | refine pbS ?_ GE286.out | refine pbS ?_ GE295.out | refine pbS ?_ GE302.out) | exact HB.out)))
                (case side2 => repeat (first | exact (Kd.C_below HR0_2.out HB.out) | (with_reducible refine Kd.C_alloc ?_ _) | (with_reducible refine Kd.C_drewN ?_ _) | (with_reducible refine Kd.C_drew ?_)))
                (case side3 => exact HC0_2.out)
                rintro e w42 ⟨rfl, hb⟩
                refine ⟨_, rfl, ?_⟩
                have n0_ := Az.mk (Kd.R_below (by (with_reducible repeat (first | apply Kd.R_alloc | apply Kd.R_drewN | apply Kd.R_drew)); exact HO293.out) hb)
                have n1_ := Az.mk (Kd.R_below (by (with_reducible repeat (first | apply Kd.R_alloc | apply Kd.R_drewN | apply Kd.R_drew)); exact HO300.out) hb)
                have n2_ := Az.mk (bkB (g := gb286) (o := .cells #[.int .i64 a0_0, .int .i64 a0_1, .slice A0_2 l0_2.length c0_2] 24 (0, 0)) (by (with_reducible repeat (first | refine bkN ?_ _ | refine bkD ?_ | refine bkA ?_ _)); exact BK286.out) hb)
                have n3_ := Az.mk (bkB (g := gb295) (o := .cells #[.int .i64 t289, .int .i64 t290, .slice Ao33 t291.length co33] 24 (0, 0)) (by (with_reducible repeat (first | refine bkN ?_ _ | refine bkD ?_ | refine bkA ?_ _)); exact BK295.out) hb)
                have n4_ := Az.mk (bkB (g := gb302) (o := .cells #[.int .i64 t296, .int .i64 t297, .slice Ao39 t298.length co39] 24 (0, 0)) (by (with_reducible repeat (first | refine bkN ?_ _ | refine bkD ?_ | refine bkA ?_ _)); exact BK302.out) hb)
                have n5_ := Az.mk (pbT (by repeat (first | (with_reducible first | exact HB.out | apply pbA | apply pbN | apply pb1 | refine pbS ?_ GE286.out | refine pbS ?_ GE295.out | refine pbS ?_ GE302.out) | exact HB.out)) hb)
                clear HO293
                clear HO300
                clear BK286
                clear BK295
                clear BK302
                clear HB
                have HO293 := n0_
                have HO300 := n1_
                have BK286 := n2_
                have BK295 := n3_
                have BK302 := n4_
                have HB := n5_
                clear n0_ n1_ n2_ n3_ n4_ n5_
                (try clear hb)
                (try clear hb2)
                (try clear hk)
                (try clear hi)
                refine hK.out _ _ ⟨(bkC BK286.out 0).trans rfl, (bkC BK286.out 1).trans rfl, (bkC BK286.out 2).trans rfl, (bkC BK295.out 0).trans rfl, (bkC BK295.out 1).trans rfl, (bkC BK295.out 2).trans rfl, (bkC BK302.out 0).trans rfl, (bkC BK302.out 1).trans rfl, (bkC BK302.out 2).trans rfl⟩ (fun hHeld => ?_)
                clear hK K
                refine norm_ (a' := ?_) ?_ ?_
                rotate_left
                · show Act.put _ (some 29) _ = _
                  simp only [Act.put, List.setIfInBounds_toArray, List.set_cons_zero, List.set_cons_succ, i64_w, i32_w]
                  rfl
                refine one_ (i := 2) (N := some 30) #[true, true, true, false, true, false, false, false, false, false, false, false, false, false, false, false, false, false, false, false, false, false, false, false, false, false, false, false, false, false] rfl rfl (one_of HT_.out (by kernel_rfl)) (by decide) (fun K hK => ?_)
                refine goes_ Tryd.func12 (by kernel_rfl) rfl #[.int .i64 t303] (by rfl) rfl rfl (by (try simp only [List.map_toArray, List.map_cons, List.map_nil]); first | done | rfl | (simp only [List.length_drop, List.length_take]; rfl)) ?_
                with_reducible refine (l11_num.calls t303 t304 _ ?side1 A17.out).mono ?_
                (case side1 => exact hG.below (by repeat (first | (with_reducible first | exact HB.out | apply pbA | apply pbN | apply pb1 | refine pbS ?_ GE286.out | refine pbS ?_ GE295.out | refine pbS ?_ GE302.out) | exact HB.out)))
                rintro e w' ⟨rfl, ⟨nd, rfl⟩⟩
                refine ⟨_, rfl, ?_⟩
                refine hK.out _ _ ⟨(bkC BK286.out 0).trans rfl, (bkC BK286.out 1).trans rfl, (bkC BK286.out 2).trans rfl, (bkC BK295.out 0).trans rfl, (bkC BK295.out 1).trans rfl, (bkC BK295.out 2).trans rfl, (bkC BK302.out 0).trans rfl, (bkC BK302.out 1).trans rfl, (bkC BK302.out 2).trans rfl⟩ (fun hHeld => ?_)
                clear hK K
                refine norm_ (a' := ?_) ?_ ?_
                rotate_left
                · show Act.put _ (some 30) _ = _
                  simp only [Act.put, List.setIfInBounds_toArray, List.set_cons_zero, List.set_cons_succ, i64_w, i32_w]
                  rfl
                refine pure_ (i := 3) (N := some 31) (v := ?_) (a' := ?_) #[true, true, true, true, true, false, false, false, false, false, false, false, false, false, false, false, false, false, false, false, false, false, false, false, false, false, false, false, false, false] rfl rfl (any_of HT_.out (by kernel_rfl)) (fun _ _ _ h => h) (Or.inl ⟨by rfl, ?_⟩) ?_ ?_
                rotate_left
                · intro w'
                  go_simp
                  with_reducible rfl
                rotate_left
                · simp only [Act.put, List.setIfInBounds_toArray, List.set_cons_zero, List.set_cons_succ, i64_w, i32_w]
                  rfl
                refine one_ (i := 5) (N := some 33) #[true, true, true, true, true, true, false, false, false, false, false, false, false, false, false, false, false, false, false, false, false, false, false, false, false, false, false, false, false, false] rfl rfl (one_of HT_.out (by kernel_rfl)) (by decide) (fun K hK => ?_)
                refine goes_ Tryd.func14 (by kernel_rfl) rfl #[.agg #[.int .i64 a0_0, .int .i64 a0_1, .slice A0_2 l0_2.length c0_2]] (by rfl) rfl rfl (by (try simp only [List.map_toArray, List.map_cons, List.map_nil]); first | done | rfl | (simp only [List.length_drop, List.length_take]; rfl)) ?_
                with_reducible refine (r11_Is.calls kj2 a0_0 a0_1 _ _ l0_2 t305 _ ?side1 ?side2 ?side3 A18.out).mono ?_
                (case side1 => exact hG.below (by repeat (first | (with_reducible first | exact HB.out | apply pbA | apply pbN | apply pb1 | refine pbS ?_ GE286.out | refine pbS ?_ GE295.out | refine pbS ?_ GE302.out) | exact HB.out)))
                (case side2 => repeat (first | exact (Kd.C_below HR0_2.out (by repeat (first | (with_reducible first | exact HB.out | apply pbA | apply pbN | apply pb1 | refine pbS ?_ GE286.out | refine pbS ?_ GE295.out | refine pbS ?_ GE302.out) | exact HB.out))) | (with_reducible refine Kd.C_alloc ?_ _) | (with_reducible refine Kd.C_drewN ?_ _) | (with_reducible refine Kd.C_drew ?_)))
                (case side3 => exact HC0_2.out)
                rintro e w43 ⟨rfl, hb⟩
                refine ⟨_, rfl, ?_⟩
                have n0_ := Az.mk (Kd.R_below (by (with_reducible repeat (first | apply Kd.R_alloc | apply Kd.R_drewN | apply Kd.R_drew)); exact HO293.out) hb)
                have n1_ := Az.mk (Kd.R_below (by (with_reducible repeat (first | apply Kd.R_alloc | apply Kd.R_drewN | apply Kd.R_drew)); exact HO300.out) hb)
                have n2_ := Az.mk (bkB (g := gb286) (o := .cells #[.int .i64 a0_0, .int .i64 a0_1, .slice A0_2 l0_2.length c0_2] 24 (0, 0)) (by (with_reducible repeat (first | refine bkN ?_ _ | refine bkD ?_ | refine bkA ?_ _)); exact BK286.out) hb)
                have n3_ := Az.mk (bkB (g := gb295) (o := .cells #[.int .i64 t289, .int .i64 t290, .slice Ao33 t291.length co33] 24 (0, 0)) (by (with_reducible repeat (first | refine bkN ?_ _ | refine bkD ?_ | refine bkA ?_ _)); exact BK295.out) hb)
                have n4_ := Az.mk (bkB (g := gb302) (o := .cells #[.int .i64 t296, .int .i64 t297, .slice Ao39 t298.length co39] 24 (0, 0)) (by (with_reducible repeat (first | refine bkN ?_ _ | refine bkD ?_ | refine bkA ?_ _)); exact BK302.out) hb)
                have n5_ := Az.mk (pbT (by repeat (first | (with_reducible first | exact HB.out | apply pbA | apply pbN | apply pb1 | refine pbS ?_ GE286.out | refine pbS ?_ GE295.out | refine pbS ?_ GE302.out) | exact HB.out)) hb)
                clear HO293
                clear HO300
                clear BK286
                clear BK295
                clear BK302
                clear HB
                have HO293 := n0_
                have HO300 := n1_
                have BK286 := n2_
                have BK295 := n3_
                have BK302 := n4_
                have HB := n5_
                clear n0_ n1_ n2_ n3_ n4_ n5_
                (try clear hb)
                (try clear hb2)
                (try clear hk)
                (try clear hi)
                refine hK.out _ _ ⟨(bkC BK286.out 0).trans rfl, (bkC BK286.out 1).trans rfl, (bkC BK286.out 2).trans rfl, (bkC BK295.out 0).trans rfl, (bkC BK295.out 1).trans rfl, (bkC BK295.out 2).trans rfl, (bkC BK302.out 0).trans rfl, (bkC BK302.out 1).trans rfl, (bkC BK302.out 2).trans rfl⟩ (fun hHeld => ?_)
                clear hK K
                refine norm_ (a' := ?_) ?_ ?_
                rotate_left
                · show Act.put _ (some 33) _ = _
                  simp only [Act.put, List.setIfInBounds_toArray, List.set_cons_zero, List.set_cons_succ, i64_w, i32_w]
                  rfl
                refine pure_ (i := 6) (N := some 34) (v := ?_) (a' := ?_) #[true, true, true, true, true, true, true, false, false, false, false, false, false, false, false, false, false, false, false, false, false, false, false, false, false, false, false, false, false, false] rfl rfl (any_of HT_.out (by kernel_rfl)) (fun _ _ _ h => h) (Or.inl ⟨by rfl, ?_⟩) ?_ ?_
                rotate_left
                · intro w'
                  go_simp
                  with_reducible rfl
                rotate_left
                · simp only [Act.put, List.setIfInBounds_toArray, List.set_cons_zero, List.set_cons_succ, i64_w, i32_w]
                  rfl
                refine pure_ (i := 7) (N := some 35) (v := ?_) (a' := ?_) #[true, true, true, true, true, true, true, true, false, false, false, false, false, false, false, false, false, false, false, false, false, false, false, false, false, false, false, false, false, false] rfl rfl (any_of HT_.out (by kernel_rfl)) (fun _ _ _ h => h) (Or.inl ⟨by rfl, ?_⟩) ?_ ?_
                rotate_left
                · intro w'
                  go_simp
                  with_reducible rfl
                rotate_left
                · simp only [Act.put, List.setIfInBounds_toArray, List.set_cons_zero, List.set_cons_succ, i64_w, i32_w]
                  rfl
                refine take_ (i := 8) (N := some 36) (v := ?_) (a' := ?_) #[true, true, true, true, true, true, true, true, true, false, false, false, false, false, false, false, false, false, false, false, false, false, false, false, false, false, false, false, false, false] rfl rfl (take_ofW HT_.out HW_.out (by kernel_rfl)) (fun _ _ _ h => h) (Or.inl ⟨by rfl, ?_⟩) hHeld ?_ ?_
                rotate_left
                · rintro w' ⟨s0, s1, s2, s3, s4, s5, s6, s7, s8⟩
                  go_simp
                  with_reducible rfl
                rotate_left
                · simp only [Act.put, List.setIfInBounds_toArray, List.set_cons_zero, List.set_cons_succ, i64_w, i32_w]
                  rfl
                refine take_ (i := 11) (N := some 39) (v := ?_) (a' := ?_) #[true, true, true, true, true, true, true, true, true, false, false, true, false, false, false, false, false, false, false, false, false, false, false, false, false, false, false, false, false, false] rfl rfl (take_ofW HT_.out HW_.out (by kernel_rfl)) (fun _ _ _ h => h) (Or.inl ⟨by rfl, ?_⟩) hHeld ?_ ?_
                rotate_left
                · rintro w' ⟨s0, s1, s2, s3, s4, s5, s6, s7, s8⟩
                  go_simp
                  with_reducible rfl
                rotate_left
                · simp only [Act.put, List.setIfInBounds_toArray, List.set_cons_zero, List.set_cons_succ, i64_w, i32_w]
                  rfl
                refine one_ (i := 9) (N := some 37) #[true, true, true, true, true, true, true, true, true, true, false, true, false, false, false, false, false, false, false, false, false, false, false, false, false, false, false, false, false, false] rfl rfl (one_of HT_.out (by kernel_rfl)) (by decide) (fun K hK => ?_)
                refine goes_ Tryd.func16 (by kernel_rfl) rfl #[.agg #[.int .i64 a0_0, .int .i64 a0_1, .slice A0_2 l0_2.length c0_2]] (by rfl) rfl rfl (by (try simp only [List.map_toArray, List.map_cons, List.map_nil]); first | done | rfl | (simp only [List.length_drop, List.length_take]; rfl)) ?_
                with_reducible refine (l11_own.calls a0_0 a0_1 _ _ l0_2 t306 t307 t308 _ ?side1 ?side2 ?side3 A20.out).mono ?_
                (case side1 => exact hG.below (by repeat (first | (with_reducible first | exact HB.out | apply pbA | apply pbN | apply pb1 | refine pbS ?_ GE286.out | refine pbS ?_ GE295.out | refine pbS ?_ GE302.out) | exact HB.out)))
                (case side2 => repeat (first | exact (Kd.C_below HR0_2.out HB.out) | (with_reducible refine Kd.C_alloc ?_ _) | (with_reducible refine Kd.C_drewN ?_ _) | (with_reducible refine Kd.C_drew ?_)))
                (case side3 => exact HC0_2.out)
                rintro e w44 ⟨v309, rfl, ho0, hb⟩
                refine ⟨_, rfl, ?_⟩
                have n0_ := Az.mk (Kd.R_elder' (by (with_reducible repeat (first | apply Kd.R_alloc | apply Kd.R_drewN | apply Kd.R_drew)); exact HO293.out) (Kd.R_base ho0) hb)
                have n1_ := Az.mk (Kd.R_elder' (by (with_reducible repeat (first | apply Kd.R_alloc | apply Kd.R_drewN | apply Kd.R_drew)); exact HO300.out) (Kd.R_base ho0) hb)
                have n2_ := Az.mk (Kd.R_lower (Kd.R_new' (Kd.R_new' ho0 (Kd.R_lt (by (with_reducible repeat (first | apply Kd.R_alloc | apply Kd.R_drewN | apply Kd.R_drew)); exact HO293.out))) (Kd.R_lt (by (with_reducible repeat (first | apply Kd.R_alloc | apply Kd.R_drewN | apply Kd.R_drew)); exact HO300.out))) (pbZ (by repeat (first | (with_reducible first | exact HB.out | apply pbA | apply pbN | apply pb1 | refine pbS ?_ GE286.out | refine pbS ?_ GE295.out | refine pbS ?_ GE302.out) | exact HB.out))))
                have n3_ := Az.mk (bkB (g := gb286) (o := .cells #[.int .i64 a0_0, .int .i64 a0_1, .slice A0_2 l0_2.length c0_2] 24 (0, 0)) (by (with_reducible repeat (first | refine bkN ?_ _ | refine bkD ?_ | refine bkA ?_ _)); exact BK286.out) hb)
                have n4_ := Az.mk (bkB (g := gb295) (o := .cells #[.int .i64 t289, .int .i64 t290, .slice Ao33 t291.length co33] 24 (0, 0)) (by (with_reducible repeat (first | refine bkN ?_ _ | refine bkD ?_ | refine bkA ?_ _)); exact BK295.out) hb)
                have n5_ := Az.mk (bkB (g := gb302) (o := .cells #[.int .i64 t296, .int .i64 t297, .slice Ao39 t298.length co39] 24 (0, 0)) (by (with_reducible repeat (first | refine bkN ?_ _ | refine bkD ?_ | refine bkA ?_ _)); exact BK302.out) hb)
                have n6_ := Az.mk (pbT (by repeat (first | (with_reducible first | exact HB.out | apply pbA | apply pbN | apply pb1 | refine pbS ?_ GE286.out | refine pbS ?_ GE295.out | refine pbS ?_ GE302.out) | exact HB.out)) hb)
                clear HO293
                clear HO300
                clear BK286
                clear BK295
                clear BK302
                clear HB
                have HO293 := n0_
                have HO300 := n1_
                have HO310 := n2_
                have BK286 := n3_
                have BK295 := n4_
                have BK302 := n5_
                have HB := n6_
                clear n0_ n1_ n2_ n3_ n4_ n5_ n6_
                (try clear hb)
                (try clear hb2)
                (try clear hk)
                (try clear hi)
                (try clear ho0)
                obtain ⟨Ao45, co45, eo45⟩ := Kd.R_slice HO310.out
                (first | subst eo45 | (injection eo45 with f1_ f2_ f3_; have f4_ := f1_.symm; have f5_ := f3_.symm; clear f1_ f2_ f3_; subst f4_; subst f5_))
                refine hK.out _ _ ⟨(bkC BK286.out 0).trans rfl, (bkC BK286.out 1).trans rfl, (bkC BK286.out 2).trans rfl, (bkC BK295.out 0).trans rfl, (bkC BK295.out 1).trans rfl, (bkC BK295.out 2).trans rfl, (bkC BK302.out 0).trans rfl, (bkC BK302.out 1).trans rfl, (bkC BK302.out 2).trans rfl⟩ (fun hHeld => ?_)
                clear hK K
                refine norm_ (a' := ?_) ?_ ?_
                rotate_left
                · show Act.put _ (some 37) _ = _
                  simp only [Act.put, List.setIfInBounds_toArray, List.set_cons_zero, List.set_cons_succ, i64_w, i32_w]
                  rfl
                refine one_ (i := 10) (N := some 38) #[true, true, true, true, true, true, true, true, true, true, true, true, false, false, false, false, false, false, false, false, false, false, false, false, false, false, false, false, false, false] rfl rfl (one_of HT_.out (by kernel_rfl)) (by decide) (fun K hK => ?_)
                refine goes_ Tryd.func15 (by kernel_rfl) rfl #[.agg #[.int .i64 t306, .int .i64 t307, .slice Ao45 t308.length co45]] (by rfl) rfl rfl (by (try simp only [List.map_toArray, List.map_cons, List.map_nil]); first | done | rfl | (simp only [List.length_drop, List.length_take]; rfl)) ?_
                with_reducible refine (roll_Put.calls kj2 t306 t307 _ _ t308 t311 _ ?side1 ?side2 ?side3 A21.out).mono ?_
                (case side1 => exact hG.below (by repeat (first | (with_reducible first | exact HB.out | apply pbA | apply pbN | apply pb1 | refine pbS ?_ GE286.out | refine pbS ?_ GE295.out | refine pbS ?_ GE302.out) | exact HB.out)))
                (case side2 => repeat (first | exact (Kd.R_reads' HO310.out).2.2 | (with_reducible refine Kd.C_alloc ?_ _) | (with_reducible refine Kd.C_drewN ?_ _) | (with_reducible refine Kd.C_drew ?_)))
                (case side3 => exact (Kd.R_reads' HO310.out).2.1)
                rintro e w46 ⟨rfl, hb⟩
                refine ⟨_, rfl, ?_⟩
                have n0_ := Az.mk (Kd.R_below (by (with_reducible repeat (first | apply Kd.R_alloc | apply Kd.R_drewN | apply Kd.R_drew)); exact HO293.out) hb)
                have n1_ := Az.mk (Kd.R_below (by (with_reducible repeat (first | apply Kd.R_alloc | apply Kd.R_drewN | apply Kd.R_drew)); exact HO300.out) hb)
                have n2_ := Az.mk (Kd.R_below (by (with_reducible repeat (first | apply Kd.R_alloc | apply Kd.R_drewN | apply Kd.R_drew)); exact HO310.out) hb)
                have n3_ := Az.mk (bkB (g := gb286) (o := .cells #[.int .i64 a0_0, .int .i64 a0_1, .slice A0_2 l0_2.length c0_2] 24 (0, 0)) (by (with_reducible repeat (first | refine bkN ?_ _ | refine bkD ?_ | refine bkA ?_ _)); exact BK286.out) hb)
                have n4_ := Az.mk (bkB (g := gb295) (o := .cells #[.int .i64 t289, .int .i64 t290, .slice Ao33 t291.length co33] 24 (0, 0)) (by (with_reducible repeat (first | refine bkN ?_ _ | refine bkD ?_ | refine bkA ?_ _)); exact BK295.out) hb)
                have n5_ := Az.mk (bkB (g := gb302) (o := .cells #[.int .i64 t296, .int .i64 t297, .slice Ao39 t298.length co39] 24 (0, 0)) (by (with_reducible repeat (first | refine bkN ?_ _ | refine bkD ?_ | refine bkA ?_ _)); exact BK302.out) hb)
                have n6_ := Az.mk (pbT (by repeat (first | (with_reducible first | exact HB.out | apply pbA | apply pbN | apply pb1 | refine pbS ?_ GE286.out | refine pbS ?_ GE295.out | refine pbS ?_ GE302.out) | exact HB.out)) hb)
                clear HO293
                clear HO300
                clear HO310
                clear BK286
                clear BK295
                clear BK302
                clear HB
                have HO293 := n0_
                have HO300 := n1_
                have HO310 := n2_
                have BK286 := n3_
                have BK295 := n4_
                have BK302 := n5_
                have HB := n6_
                clear n0_ n1_ n2_ n3_ n4_ n5_ n6_
                (try clear hb)
                (try clear hb2)
                (try clear hk)
                (try clear hi)
                refine hK.out _ _ ⟨(bkC BK286.out 0).trans rfl, (bkC BK286.out 1).trans rfl, (bkC BK286.out 2).trans rfl, (bkC BK295.out 0).trans rfl, (bkC BK295.out 1).trans rfl, (bkC BK295.out 2).trans rfl, (bkC BK302.out 0).trans rfl, (bkC BK302.out 1).trans rfl, (bkC BK302.out 2).trans rfl⟩ (fun hHeld => ?_)
                clear hK K
                refine norm_ (a' := ?_) ?_ ?_
                rotate_left
                · show Act.put _ (some 38) _ = _
                  simp only [Act.put, List.setIfInBounds_toArray, List.set_cons_zero, List.set_cons_succ, i64_w, i32_w]
                  rfl
                refine one_ (i := 12) (N := some 40) #[true, true, true, true, true, true, true, true, true, true, true, true, true, false, false, false, false, false, false, false, false, false, false, false, false, false, false, false, false, false] rfl rfl (one_of HT_.out (by kernel_rfl)) (by decide) (fun K hK => ?_)
                refine goes_ Tryd.func17 (by kernel_rfl) rfl #[.agg #[.int .i64 a0_0, .int .i64 a0_1, .slice A0_2 l0_2.length c0_2]] (by rfl) rfl rfl (by (try simp only [List.map_toArray, List.map_cons, List.map_nil]); first | done | rfl | (simp only [List.length_drop, List.length_take]; rfl)) ?_
                with_reducible refine (r11_Put.calls kj2 a0_0 a0_1 _ _ l0_2 t312 _ ?side1 ?side2 ?side3 A22.out).mono ?_
                (case side1 => exact hG.below (by repeat (first | (with_reducible first | exact HB.out | apply pbA | apply pbN | apply pb1 | refine pbS ?_ GE286.out | refine pbS ?_ GE295.out | refine pbS ?_ GE302.out) | exact HB.out)))
                (case side2 => repeat (first | exact (Kd.C_below HR0_2.out HB.out) | (with_reducible refine Kd.C_alloc ?_ _) | (with_reducible refine Kd.C_drewN ?_ _) | (with_reducible refine Kd.C_drew ?_)))
                (case side3 => exact HC0_2.out)
                rintro e w47 ⟨rfl, hb⟩
                refine ⟨_, rfl, ?_⟩
                have n0_ := Az.mk (Kd.R_below (by (with_reducible repeat (first | apply Kd.R_alloc | apply Kd.R_drewN | apply Kd.R_drew)); exact HO293.out) hb)
                have n1_ := Az.mk (Kd.R_below (by (with_reducible repeat (first | apply Kd.R_alloc | apply Kd.R_drewN | apply Kd.R_drew)); exact HO300.out) hb)
                have n2_ := Az.mk (Kd.R_below (by (with_reducible repeat (first | apply Kd.R_alloc | apply Kd.R_drewN | apply Kd.R_drew)); exact HO310.out) hb)
                have n3_ := Az.mk (bkB (g := gb286) (o := .cells #[.int .i64 a0_0, .int .i64 a0_1, .slice A0_2 l0_2.length c0_2] 24 (0, 0)) (by (with_reducible repeat (first | refine bkN ?_ _ | refine bkD ?_ | refine bkA ?_ _)); exact BK286.out) hb)
                have n4_ := Az.mk (bkB (g := gb295) (o := .cells #[.int .i64 t289, .int .i64 t290, .slice Ao33 t291.length co33] 24 (0, 0)) (by (with_reducible repeat (first | refine bkN ?_ _ | refine bkD ?_ | refine bkA ?_ _)); exact BK295.out) hb)
                have n5_ := Az.mk (bkB (g := gb302) (o := .cells #[.int .i64 t296, .int .i64 t297, .slice Ao39 t298.length co39] 24 (0, 0)) (by (with_reducible repeat (first | refine bkN ?_ _ | refine bkD ?_ | refine bkA ?_ _)); exact BK302.out) hb)
                have n6_ := Az.mk (pbT (by repeat (first | (with_reducible first | exact HB.out | apply pbA | apply pbN | apply pb1 | refine pbS ?_ GE286.out | refine pbS ?_ GE295.out | refine pbS ?_ GE302.out) | exact HB.out)) hb)
                clear HO293
                clear HO300
                clear HO310
                clear BK286
                clear BK295
                clear BK302
                clear HB
                have HO293 := n0_
                have HO300 := n1_
                have HO310 := n2_
                have BK286 := n3_
                have BK295 := n4_
                have BK302 := n5_
                have HB := n6_
                clear n0_ n1_ n2_ n3_ n4_ n5_ n6_
                (try clear hb)
                (try clear hb2)
                (try clear hk)
                (try clear hi)
                refine hK.out _ _ ⟨(bkC BK286.out 0).trans rfl, (bkC BK286.out 1).trans rfl, (bkC BK286.out 2).trans rfl, (bkC BK295.out 0).trans rfl, (bkC BK295.out 1).trans rfl, (bkC BK295.out 2).trans rfl, (bkC BK302.out 0).trans rfl, (bkC BK302.out 1).trans rfl, (bkC BK302.out 2).trans rfl⟩ (fun hHeld => ?_)
                clear hK K
                refine norm_ (a' := ?_) ?_ ?_
                rotate_left
                · show Act.put _ (some 40) _ = _
                  simp only [Act.put, List.setIfInBounds_toArray, List.set_cons_zero, List.set_cons_succ, i64_w, i32_w]
                  rfl
                refine pure_ (i := 13) (N := some 41) (v := ?_) (a' := ?_) #[true, true, true, true, true, true, true, true, true, true, true, true, true, true, false, false, false, false, false, false, false, false, false, false, false, false, false, false, false, false] rfl rfl (any_of HT_.out (by kernel_rfl)) (fun _ _ _ h => h) (Or.inl ⟨by rfl, ?_⟩) ?_ ?_
                rotate_left
                · intro w'
                  go_simp
                  with_reducible rfl
                rotate_left
                · simp only [Act.put, List.setIfInBounds_toArray, List.set_cons_zero, List.set_cons_succ, i64_w, i32_w]
                  rfl
                refine pure_ (i := 14) (N := some 42) (v := ?_) (a' := ?_) #[true, true, true, true, true, true, true, true, true, true, true, true, true, true, true, false, false, false, false, false, false, false, false, false, false, false, false, false, false, false] rfl rfl (any_of HT_.out (by kernel_rfl)) (fun _ _ _ h => h) (Or.inl ⟨by rfl, ?_⟩) ?_ ?_
                rotate_left
                · intro w'
                  go_simp
                  with_reducible rfl
                rotate_left
                · simp only [Act.put, List.setIfInBounds_toArray, List.set_cons_zero, List.set_cons_succ, i64_w, i32_w]
                  rfl
                refine pure_ (i := 15) (N := some 43) (v := ?_) (a' := ?_) #[true, true, true, true, true, true, true, true, true, true, true, true, true, true, true, true, false, false, false, false, false, false, false, false, false, false, false, false, false, false] rfl rfl (any_of HT_.out (by kernel_rfl)) (fun _ _ _ h => h) (Or.inl ⟨by rfl, ?_⟩) ?_ ?_
                rotate_left
                · intro w'
                  go_simp
                  with_reducible rfl
                rotate_left
                · simp only [Act.put, List.setIfInBounds_toArray, List.set_cons_zero, List.set_cons_succ, i64_w, i32_w]
                  rfl
                refine take_ (i := 16) (N := some 44) (v := ?_) (a' := ?_) #[true, true, true, true, true, true, true, true, true, true, true, true, true, true, true, true, true, false, false, false, false, false, false, false, false, false, false, false, false, false] rfl rfl (take_ofW HT_.out HW_.out (by kernel_rfl)) (fun _ _ _ h => h) (Or.inl ⟨by rfl, ?_⟩) hHeld ?_ ?_
                rotate_left
                · rintro w' ⟨s0, s1, s2, s3, s4, s5, s6, s7, s8⟩
                  go_simp
                  with_reducible rfl
                rotate_left
                · simp only [Act.put, List.setIfInBounds_toArray, List.set_cons_zero, List.set_cons_succ, i64_w, i32_w]
                  rfl
                refine take_ (i := 17) (N := some 45) (v := ?_) (a' := ?_) #[true, true, true, true, true, true, true, true, true, true, true, true, true, true, true, true, true, true, false, false, false, false, false, false, false, false, false, false, false, false] rfl rfl (take_ofW HT_.out HW_.out (by kernel_rfl)) (fun _ _ _ h => h) (Or.inl ⟨by rfl, ?_⟩) hHeld ?_ ?_
                rotate_left
                · rintro w' ⟨s0, s1, s2, s3, s4, s5, s6, s7, s8⟩
                  go_simp
                  with_reducible rfl
                rotate_left
                · simp only [Act.put, List.setIfInBounds_toArray, List.set_cons_zero, List.set_cons_succ, i64_w, i32_w]
                  rfl
                refine one_ (i := 18) (N := some 46) #[true, true, true, true, true, true, true, true, true, true, true, true, true, true, true, true, true, true, true, false, false, false, false, false, false, false, false, false, false, false] rfl rfl (one_of HT_.out (by kernel_rfl)) (by decide) (fun K hK => ?_)
                refine goes_ Tryd.func18 (by kernel_rfl) rfl #[.agg #[.int .i64 t289, .int .i64 t290, .slice Ao33 t291.length co33], .agg #[.int .i64 t296, .int .i64 t297, .slice Ao39 t298.length co39]] (by rfl) rfl rfl (by (try simp only [List.map_toArray, List.map_cons, List.map_nil]); first | done | rfl | (simp only [List.length_drop, List.length_take]; rfl)) ?_
                with_reducible refine (r11_Same.calls kj2 t289 t290 _ _ t291 t296 t297 _ _ t298 true _ ?side1 ?side2 ?side3 ?side4 ?side5 A24.out).mono ?_
                (case side1 => exact hG.below (by repeat (first | (with_reducible first | exact HB.out | apply pbA | apply pbN | apply pb1 | refine pbS ?_ GE286.out | refine pbS ?_ GE295.out | refine pbS ?_ GE302.out) | exact HB.out)))
                (case side2 => repeat (first | exact (Kd.R_reads' HO293.out).2.2 | (with_reducible refine Kd.C_alloc ?_ _) | (with_reducible refine Kd.C_drewN ?_ _) | (with_reducible refine Kd.C_drew ?_)))
                (case side3 => exact (Kd.R_reads' HO293.out).2.1)
                (case side4 => repeat (first | exact (Kd.R_reads' HO300.out).2.2 | (with_reducible refine Kd.C_alloc ?_ _) | (with_reducible refine Kd.C_drewN ?_ _) | (with_reducible refine Kd.C_drew ?_)))
                (case side5 => exact (Kd.R_reads' HO300.out).2.1)
                rintro e w48 ⟨rfl, hb⟩
                refine ⟨_, rfl, ?_⟩
                have n0_ := Az.mk (Kd.R_below (by (with_reducible repeat (first | apply Kd.R_alloc | apply Kd.R_drewN | apply Kd.R_drew)); exact HO293.out) hb)
                have n1_ := Az.mk (Kd.R_below (by (with_reducible repeat (first | apply Kd.R_alloc | apply Kd.R_drewN | apply Kd.R_drew)); exact HO300.out) hb)
                have n2_ := Az.mk (Kd.R_below (by (with_reducible repeat (first | apply Kd.R_alloc | apply Kd.R_drewN | apply Kd.R_drew)); exact HO310.out) hb)
                have n3_ := Az.mk (bkB (g := gb286) (o := .cells #[.int .i64 a0_0, .int .i64 a0_1, .slice A0_2 l0_2.length c0_2] 24 (0, 0)) (by (with_reducible repeat (first | refine bkN ?_ _ | refine bkD ?_ | refine bkA ?_ _)); exact BK286.out) hb)
                have n4_ := Az.mk (bkB (g := gb295) (o := .cells #[.int .i64 t289, .int .i64 t290, .slice Ao33 t291.length co33] 24 (0, 0)) (by (with_reducible repeat (first | refine bkN ?_ _ | refine bkD ?_ | refine bkA ?_ _)); exact BK295.out) hb)
                have n5_ := Az.mk (bkB (g := gb302) (o := .cells #[.int .i64 t296, .int .i64 t297, .slice Ao39 t298.length co39] 24 (0, 0)) (by (with_reducible repeat (first | refine bkN ?_ _ | refine bkD ?_ | refine bkA ?_ _)); exact BK302.out) hb)
                have n6_ := Az.mk (pbT (by repeat (first | (with_reducible first | exact HB.out | apply pbA | apply pbN | apply pb1 | refine pbS ?_ GE286.out | refine pbS ?_ GE295.out | refine pbS ?_ GE302.out) | exact HB.out)) hb)
                clear HO293
                clear HO300
                clear HO310
                clear BK286
                clear BK295
                clear BK302
                clear HB
                have HO293 := n0_
                have HO300 := n1_
                have HO310 := n2_
                have BK286 := n3_
                have BK295 := n4_
                have BK302 := n5_
                have HB := n6_
                clear n0_ n1_ n2_ n3_ n4_ n5_ n6_
                (try clear hb)
                (try clear hb2)
                (try clear hk)
                (try clear hi)
                refine hK.out _ _ ⟨(bkC BK286.out 0).trans rfl, (bkC BK286.out 1).trans rfl, (bkC BK286.out 2).trans rfl, (bkC BK295.out 0).trans rfl, (bkC BK295.out 1).trans rfl, (bkC BK295.out 2).trans rfl, (bkC BK302.out 0).trans rfl, (bkC BK302.out 1).trans rfl, (bkC BK302.out 2).trans rfl⟩ (fun hHeld => ?_)
                clear hK K
                refine norm_ (a' := ?_) ?_ ?_
                rotate_left
                · show Act.put _ (some 46) _ = _
                  simp only [Act.put, List.setIfInBounds_toArray, List.set_cons_zero, List.set_cons_succ, i64_w, i32_w]
                  rfl
                refine pure_ (i := 19) (N := some 47) (v := ?_) (a' := ?_) #[true, true, true, true, true, true, true, true, true, true, true, true, true, true, true, true, true, true, true, true, false, false, false, false, false, false, false, false, false, false] rfl rfl (any_of HT_.out (by kernel_rfl)) (fun _ _ _ h => h) (Or.inl ⟨by rfl, ?_⟩) ?_ ?_
                rotate_left
                · intro w'
                  go_simp
                  with_reducible rfl
                rotate_left
                · simp only [Act.put, List.setIfInBounds_toArray, List.set_cons_zero, List.set_cons_succ, i64_w, i32_w]
                  rfl
                refine pure_ (i := 20) (N := some 48) (v := ?_) (a' := ?_) #[true, true, true, true, true, true, true, true, true, true, true, true, true, true, true, true, true, true, true, true, true, false, false, false, false, false, false, false, false, false] rfl rfl (any_of HT_.out (by kernel_rfl)) (fun _ _ _ h => h) (Or.inl ⟨by rfl, ?_⟩) ?_ ?_
                rotate_left
                · intro w'
                  go_simp
                  with_reducible rfl
                rotate_left
                · simp only [Act.put, List.setIfInBounds_toArray, List.set_cons_zero, List.set_cons_succ, i64_w, i32_w]
                  rfl
                refine pure_ (i := 21) (N := some 49) (v := ?_) (a' := ?_) #[true, true, true, true, true, true, true, true, true, true, true, true, true, true, true, true, true, true, true, true, true, true, false, false, false, false, false, false, false, false] rfl rfl (any_of HT_.out (by kernel_rfl)) (fun _ _ _ h => h) (Or.inl ⟨by rfl, ?_⟩) ?_ ?_
                rotate_left
                · intro w'
                  go_simp
                  with_reducible rfl
                rotate_left
                · simp only [Act.put, List.setIfInBounds_toArray, List.set_cons_zero, List.set_cons_succ, i64_w, i32_w]
                  rfl
                refine pure_ (i := 23) (N := some 51) (v := ?_) (a' := ?_) #[true, true, true, true, true, true, true, true, true, true, true, true, true, true, true, true, true, true, true, true, true, true, false, true, false, false, false, false, false, false] rfl rfl (any_of HT_.out (by kernel_rfl)) (fun _ _ _ h => h) (Or.inl ⟨by rfl, ?_⟩) ?_ ?_
                rotate_left
                · intro w'
                  go_simp
                  with_reducible rfl
                rotate_left
                · simp only [Act.put, List.setIfInBounds_toArray, List.set_cons_zero, List.set_cons_succ, i64_w, i32_w]
                  rfl
                refine one_ (i := 22) (N := some 50) #[true, true, true, true, true, true, true, true, true, true, true, true, true, true, true, true, true, true, true, true, true, true, true, true, false, false, false, false, false, false] rfl rfl (one_of HT_.out (by kernel_rfl)) (by decide) (fun K hK => ?_)
                refine goes_ Tryd.func12 (by kernel_rfl) rfl #[.int .i64 t294] (by rfl) rfl rfl (by (try simp only [List.map_toArray, List.map_cons, List.map_nil]); first | done | rfl | (simp only [List.length_drop, List.length_take]; rfl)) ?_
                with_reducible refine (l11_num.calls t294 t314 _ ?side1 A26.out).mono ?_
                (case side1 => exact hG.below (by repeat (first | (with_reducible first | exact HB.out | apply pbA | apply pbN | apply pb1 | refine pbS ?_ GE286.out | refine pbS ?_ GE295.out | refine pbS ?_ GE302.out) | exact HB.out)))
                rintro e w' ⟨rfl, ⟨nd, rfl⟩⟩
                refine ⟨_, rfl, ?_⟩
                refine hK.out _ _ ⟨(bkC BK286.out 0).trans rfl, (bkC BK286.out 1).trans rfl, (bkC BK286.out 2).trans rfl, (bkC BK295.out 0).trans rfl, (bkC BK295.out 1).trans rfl, (bkC BK295.out 2).trans rfl, (bkC BK302.out 0).trans rfl, (bkC BK302.out 1).trans rfl, (bkC BK302.out 2).trans rfl⟩ (fun hHeld => ?_)
                clear hK K
                refine norm_ (a' := ?_) ?_ ?_
                rotate_left
                · show Act.put _ (some 50) _ = _
                  simp only [Act.put, List.setIfInBounds_toArray, List.set_cons_zero, List.set_cons_succ, i64_w, i32_w]
                  rfl
                refine pure_ (i := 24) (N := some 52) (v := ?_) (a' := ?_) #[true, true, true, true, true, true, true, true, true, true, true, true, true, true, true, true, true, true, true, true, true, true, true, true, true, false, false, false, false, false] rfl rfl (any_of HT_.out (by kernel_rfl)) (fun _ _ _ h => h) (Or.inl ⟨by rfl, ?_⟩) ?_ ?_
                rotate_left
                · intro w'
                  go_simp
                  with_reducible rfl
                rotate_left
                · simp only [Act.put, List.setIfInBounds_toArray, List.set_cons_zero, List.set_cons_succ, i64_w, i32_w]
                  rfl
                refine pure_ (i := 25) (N := some 53) (v := ?_) (a' := ?_) #[true, true, true, true, true, true, true, true, true, true, true, true, true, true, true, true, true, true, true, true, true, true, true, true, true, true, false, false, false, false] rfl rfl (any_of HT_.out (by kernel_rfl)) (fun _ _ _ h => h) (Or.inl ⟨by rfl, ?_⟩) ?_ ?_
                rotate_left
                · intro w'
                  go_simp
                  with_reducible rfl
                rotate_left
                · simp only [Act.put, List.setIfInBounds_toArray, List.set_cons_zero, List.set_cons_succ, i64_w, i32_w]
                  rfl
                refine pure_ (i := 26) (N := some 54) (v := ?_) (a' := ?_) #[true, true, true, true, true, true, true, true, true, true, true, true, true, true, true, true, true, true, true, true, true, true, true, true, true, true, true, false, false, false] rfl rfl (any_of HT_.out (by kernel_rfl)) (fun _ _ _ h => h) (Or.inl ⟨by rfl, ?_⟩) ?_ ?_
                rotate_left
                · intro w'
                  go_simp
                  with_reducible rfl
                rotate_left
                · simp only [Act.put, List.setIfInBounds_toArray, List.set_cons_zero, List.set_cons_succ, i64_w, i32_w]
                  rfl
                refine one_ (i := 27) (N := some 55) #[true, true, true, true, true, true, true, true, true, true, true, true, true, true, true, true, true, true, true, true, true, true, true, true, true, true, true, true, false, false] rfl rfl (one_of HT_.out (by kernel_rfl)) (by decide) (fun K hK => ?_)
                refine goes_ Tryd.func9 (by kernel_rfl) rfl #[] (by rfl) rfl rfl (by (try simp only [List.map_toArray, List.map_cons, List.map_nil]); first | done | rfl | (simp only [List.length_drop, List.length_take]; rfl)) ?_
                with_reducible refine (l11_live.calls  t315 _ ?side1 A28.out).mono ?_
                (case side1 => exact hG.below (by repeat (first | (with_reducible first | exact HB.out | apply pbA | apply pbN | apply pb1 | refine pbS ?_ GE286.out | refine pbS ?_ GE295.out | refine pbS ?_ GE302.out) | exact HB.out)))
                rintro e w49 ⟨rfl, hb⟩
                refine ⟨_, rfl, ?_⟩
                have n0_ := Az.mk (Kd.R_below (by (with_reducible repeat (first | apply Kd.R_alloc | apply Kd.R_drewN | apply Kd.R_drew)); exact HO293.out) hb)
                have n1_ := Az.mk (Kd.R_below (by (with_reducible repeat (first | apply Kd.R_alloc | apply Kd.R_drewN | apply Kd.R_drew)); exact HO300.out) hb)
                have n2_ := Az.mk (Kd.R_below (by (with_reducible repeat (first | apply Kd.R_alloc | apply Kd.R_drewN | apply Kd.R_drew)); exact HO310.out) hb)
                have n3_ := Az.mk (bkB (g := gb286) (o := .cells #[.int .i64 a0_0, .int .i64 a0_1, .slice A0_2 l0_2.length c0_2] 24 (0, 0)) (by (with_reducible repeat (first | refine bkN ?_ _ | refine bkD ?_ | refine bkA ?_ _)); exact BK286.out) hb)
                have n4_ := Az.mk (bkB (g := gb295) (o := .cells #[.int .i64 t289, .int .i64 t290, .slice Ao33 t291.length co33] 24 (0, 0)) (by (with_reducible repeat (first | refine bkN ?_ _ | refine bkD ?_ | refine bkA ?_ _)); exact BK295.out) hb)
                have n5_ := Az.mk (bkB (g := gb302) (o := .cells #[.int .i64 t296, .int .i64 t297, .slice Ao39 t298.length co39] 24 (0, 0)) (by (with_reducible repeat (first | refine bkN ?_ _ | refine bkD ?_ | refine bkA ?_ _)); exact BK302.out) hb)
                have n6_ := Az.mk (pbT (by repeat (first | (with_reducible first | exact HB.out | apply pbA | apply pbN | apply pb1 | refine pbS ?_ GE286.out | refine pbS ?_ GE295.out | refine pbS ?_ GE302.out) | exact HB.out)) hb)
                clear HO293
                clear HO300
                clear HO310
                clear BK286
                clear BK295
                clear BK302
                clear HB
                have HO293 := n0_
                have HO300 := n1_
                have HO310 := n2_
                have BK286 := n3_
                have BK295 := n4_
                have BK302 := n5_
                have HB := n6_
                clear n0_ n1_ n2_ n3_ n4_ n5_ n6_
                (try clear hb)
                (try clear hb2)
                (try clear hk)
                (try clear hi)
                refine hK.out _ _ ⟨(bkC BK286.out 0).trans rfl, (bkC BK286.out 1).trans rfl, (bkC BK286.out 2).trans rfl, (bkC BK295.out 0).trans rfl, (bkC BK295.out 1).trans rfl, (bkC BK295.out 2).trans rfl, (bkC BK302.out 0).trans rfl, (bkC BK302.out 1).trans rfl, (bkC BK302.out 2).trans rfl⟩ (fun hHeld => ?_)
                clear hK K
                refine norm_ (a' := ?_) ?_ ?_
                rotate_left
                · show Act.put _ (some 55) _ = _
                  simp only [Act.put, List.setIfInBounds_toArray, List.set_cons_zero, List.set_cons_succ, i64_w, i32_w]
                  rfl
                refine pure_ (i := 28) (N := some 56) (v := ?_) (a' := ?_) #[true, true, true, true, true, true, true, true, true, true, true, true, true, true, true, true, true, true, true, true, true, true, true, true, true, true, true, true, true, false] rfl rfl (any_of HT_.out (by kernel_rfl)) (fun _ _ _ h => h) (Or.inl ⟨by rfl, ?_⟩) ?_ ?_
                rotate_left
                · intro w'
                  go_simp
                  with_reducible rfl
                rotate_left
                · simp only [Act.put, List.setIfInBounds_toArray, List.set_cons_zero, List.set_cons_succ, i64_w, i32_w]
                  rfl
                refine pure_ (i := 29) (N := some 4) (v := ?_) (a' := ?_) #[true, true, true, true, true, true, true, true, true, true, true, true, true, true, true, true, true, true, true, true, true, true, true, true, true, true, true, true, true, true] rfl rfl (any_of HT_.out (by kernel_rfl)) (fun _ _ _ h => h) (Or.inl ⟨by rfl, ?_⟩) ?_ ?_
                rotate_left
                · intro w'
                  go_simp
                  with_reducible rfl
                rotate_left
                · simp only [Act.put, List.setIfInBounds_toArray, List.set_cons_zero, List.set_cons_succ, i64_w, i32_w]
                  rfl
                refine done_ (done_of HT_.out (by kernel_rfl)) ?_
                try go_wp2
                go_ret
                exact ⟨by first | rfl | (simp [errW_none, errW_some] <;> rfl) | (simp [*, errW_none, errW_some] <;> rfl), by repeat (first | (with_reducible first | exact HB.out | apply pbA | apply pbN | apply pb1 | refine pbS ?_ GE286.out | refine pbS ?_ GE295.out | refine pbS ?_ GE302.out) | exact HB.out)⟩
              · rw [if_neg c27] at H
                have c27b0 : (t314 == t301) = false := beq_eq_false_iff_ne.mpr c27
                have c27b1 : (t314 != t301) = true := bne_iff_ne.mpr c27
                exact absurd (Option.some.inj (H.trans (congrArg some hr))) (by decide)
            · replace c25 := Bool.eq_false_iff.mpr c25
              subst c25
              have H1 : (some false) = some r := by rw [if_neg (show ¬ (false = true) by decide)] at H; exact H
              clear H
              have H := H1
              clear H1
              exact absurd (Option.some.inj (H.trans (congrArg some hr))) (by decide)
          · rw [if_neg c23] at H
            have c23b0 : (t311.toList == t312.toList) = false := beq_eq_false_iff_ne.mpr c23
            have c23b1 : (t311.toList != t312.toList) = true := bne_iff_ne.mpr c23
            exact absurd (Option.some.inj (H.trans (congrArg some hr))) (by decide)
        · rw [if_neg c19] at H
          have c19b0 : ((t304 == 0) == t305) = false := by simpa using c19
          (try (have c19b1 : decide ((t304 == 0) = t305) = false := by simpa using c19))
          (try (have c19b2 : ((t304 == 0) == t305) = false := by simpa using c19))
          (try (have c19b3 : ¬ ((t304 == 0) = t305) := by simpa using c19))
          clear c19
          exact absurd (Option.some.inj (H.trans (congrArg some hr))) (by decide)
end Go.Proofs.YtjpihfjgomoijaaDoor.P
end
section
/- RollChecks, the plain law. -/
namespace Go.Proofs.YtjpihfjgomoijaaDoor.U
open Go.RowKit Go.Proofs.YtjpihfjgomoijaaDoorW.PrintWords Go.Proofs.YtjpihfjgomoijaaDoorW.PrintLast Go.Proofs.YtjpihfjgomoijaaDoorW.PrintMore Go.Proofs.YtjpihfjgomoijaaDoor.P Go.Proofs.YtjpihfjgomoijaaDoor.K Go.Proofs.YtjpihfjgomoijaaDoor.A Go.Proofs.YtjpihfjgomoijaaDoor.V
theorem putE_total (l : List S54) : total (putE l) ≤ sumT l + 20 * l.length ∨ ∃ e ∈ l, ¬ isI e.f0 := by
  induction l with
  | nil => exact .inl (by simp [putE, total, sumT])
  | cons e l ih =>
    rcases ih with h | ⟨x, hx, h⟩
    · by_cases he : isI e.f0
      · have := itoa_le20 he
        refine .inl ?_
        simp only [putE, List.flatMap_cons, total, sumT, List.map_append, List.sum_append, List.map_cons, List.map_nil, List.sum_cons, List.sum_nil, List.length_cons, B_size] at h ⊢
        omega
      · exact .inr ⟨e, by simp, he⟩
    · exact .inr ⟨x, by simp [hx], h⟩
theorem putR_size {b bt : Int} {l : List S54} (hb : isI b) (hbt : isI bt) (he : ∀ e ∈ l, isI e.f0) (hl : l.length ≤ 60) (hs : sumT l ≤ 10000) : (tieD (datas (putR b bt l))).length ≤ 1000000 := by
  have h1 : total (putE l) ≤ sumT l + 20 * l.length := by
    rcases putE_total l with h | ⟨e, hx, h⟩
    · exact h
    · exact absurd (he e hx) h
  have h2 := itoa_le20 hb
  have h3 := itoa_le20 hbt
  have h4 := putE_length l
  have hreach : reachBytes = 140737488351232 := rfl
  have h5 : total (putR b bt l) ≤ 12000 := by
    simp only [putR, total, List.map_append, List.sum_append, List.map_cons, List.map_nil, List.sum_cons, List.sum_nil, B_size] at h1 ⊢
    omega
  have h6 : (putR b bt l).length = 2 + 2 * l.length := by simp only [putR, List.length_append, h4, List.length_cons, List.length_nil]
  have h7 := tie_total (putR b bt l) (fun x hx => by have := total_mem hx; omega)
  omega
theorem parseR_short (s : ByteArray) : (parseR s).2.2.1.length ≤ 4096 := by
  have pl : ∀ n (ss : List (List UInt8)) es, ss.length ≤ n → pairs ss = some es → es.length ≤ ss.length := by
    intro n
    induction n with
    | zero => intro ss es h hp; rw [List.eq_nil_of_length_eq_zero (Nat.le_zero.1 h)] at hp; injection hp with hp; rw [← hp]; simp
    | succ n ih =>
      intro ss es h hp
      rcases ss with _ | ⟨a, _ | ⟨b, r⟩⟩
      · injection hp with hp; rw [← hp]; simp
      · injection hp with hp; rw [← hp]; simp
      · simp only [pairs] at hp
        split at hp
        · rw [Option.map_eq_some_iff] at hp
          obtain ⟨es', h1, rfl⟩ := hp
          have := ih r es' (by simp at h; omega) h1
          simp; omega
        · cases hp
  unfold parseR
  cases hu : untieL s.data.toList with
  | none => simp [badR]
  | some ss =>
    have h2 := (untieL_some hu).2.1
    simp only
    rcases ss with _ | ⟨a, _ | ⟨b, r⟩⟩
    · simp [parseL, badR]
    · simp [parseL, badR]
    · simp only [parseL]
      split
      · simp [badR]
      · split
        · rename_i es _ _ hp
          unfold finR
          split
          · have := pl _ r es (Nat.le_refl _) hp
            simp at h2 ⊢; omega
          · simp [badR]
        · simp [badR]
theorem RollChecks : ∀ (a0_0 : Int), (Lit.int .i64 a0_0).wf = true → ∀ (a0_1 : Int), (Lit.int .i64 a0_1).wf = true → ∀ (l0_2 : List S54), (l0_2.length * 24 ≤ reachBytes ∧ l0_2.length ≤ maxLen ∧ ∀ x ∈ l0_2, ((Lit.int .i64 x.f0).wf = true ∧ x.f1.size ≤ reachBytes)) → ∀ (a1 : ByteArray), a1.size ≤ reachBytes → ∃ k, l11_RollChecks.f k a0_0 a0_1 l0_2 a1 = some true := by
  intro b hb0 bt hbt0 l ⟨hl1, _, hl3⟩ s hs
  have hreach : reachBytes = 140737488351232 := rfl
  have hb := isI_wf hb0
  have hbt := isI_wf hbt0
  have he : ∀ e ∈ l, isI e.f0 := fun e h => isI_wf (hl3 e h).1
  refine Ev.rounds ?_
  have hbad : Ev (fun k => l11_RollChecks.j0 k s true b bt l) true := by
    refine Ev.shift ?_
    simp only [l11_RollChecks.j0, l11_live.f, if_true, Option.bind_some]
    exact Ev.now _
  refine Ev.bind (small_ev b bt l (fun x hx => (hl3 x hx).2) (by omega)) ?_
  refine Ev.ite (fun hsm => ?_) (fun _ => hbad)
  obtain ⟨h1, h2⟩ := smallG_true hsm
  cases hdec : decide ((s.size : Int) > 10000) with
  | true => exact hbad
  | false =>
    have hsz : s.size ≤ 10000 := by have := of_decide_eq_false hdec; omega
    have ht := putR_size hb hbt he h1 (by omega)
    refine Ev.shift ?_
    simp only [l11_RollChecks.j0]
    refine Ev.ite (fun h => absurd h (by simp)) (fun _ => ?_)
    refine Ev.bind (parse_ev s) (Ev.bind (rparse_ev s) (Ev.bind (check_ev b bt l (by omega) hb) ?_))
    simp only [l11_num.f, Option.bind_some]
    refine Ev.bind (is_ev b bt l (by omega)) ?_
    refine Ev.ite (fun _ => ?_) (fun h => absurd (by cases okR b bt l <;> rfl) h)
    simp only [own_eq (b := b) (bt := bt) (l := l) (by omega), Option.bind_some]
    refine Ev.bind (put_ev b bt l (by omega) hb hbt he (by omega)) (Ev.bind (rput_ev b bt l (by omega) hb hbt he (by omega)) ?_)
    refine Ev.ite (fun _ => ?_) (fun h => absurd rfl h)
    refine Ev.bind (same_ev _ _ _ _ _ _ (by have := parseR_short s; omega)) ?_
    refine Ev.ite (fun _ => ?_) (fun h => absurd (by simp) h)
    refine Ev.ite (fun _ => ?_) (fun h => absurd trivial h)
    simp only [l11_live.f, Option.bind_some]
    exact Ev.now _
end Go.Proofs.YtjpihfjgomoijaaDoor.U
end
section
/- furlong/furlonglaw11.RollChecks answers true at every input: the row and the tied card, out of its walk and of the plain law. -/
namespace Go.Proofs.YtjpihfjgomoijaaDoor.rollChecks
open Go.ChangeShapes Go.WideShapes Go.ChangeAt Go.RowKit Go.Proofs.YtjpihfjgomoijaaDoor.K
open Go.ChangeMaps (open_string shut_string)
open Go.RowKit Go.Proofs.YtjpihfjgomoijaaDoorW.PrintWords Go.Proofs.YtjpihfjgomoijaaDoorW.PrintLast Go.Proofs.YtjpihfjgomoijaaDoorW.PrintMore Go.Proofs.YtjpihfjgomoijaaDoor.P Go.Proofs.YtjpihfjgomoijaaDoor.K Go.Proofs.YtjpihfjgomoijaaDoor.A Go.Proofs.YtjpihfjgomoijaaDoor.V
set_option maxRecDepth 100000 in
theorem opn54 : O.Opn Tryd.prog 54 P.k54 (fun x => ((Lit.int .i64 x.f0).wf = true ∧ x.f1.size ≤ reachBytes)) := O.Opn.iso (fun y => ⟨y.1, y.2⟩) (fun _ => rfl) (O.Opn.struct Tryd.underlying54 (by kernel_rfl) (O.OpnF.cons rfl (by kernel_rfl) (O.Opn.int Tryd.underlying2) (O.OpnF.one rfl (by kernel_rfl) (O.Opn.string Tryd.underlying9))))
theorem fl54 : K.Flat P.k54 := by
  intro w w' x c h
  obtain rfl := P.k54_open h
  exact P.k54_mk w' x
set_option maxRecDepth 100000 in
theorem contract (H : Type) (enc : TypeId × Value → H) (W : World) (base : Nat) (args : Array Value) (ds gs : List (DataW H)) (before : List MemPlace)
    (hval0 : ∀ (j : Nat) t v, Tryd.f3.params[j]? = some t → args[j]? = some v → Value.okWide Tryd.prog W .any base t v)
    (hW : DataW.Whole enc Tryd.prog Tryd.f3.params.toList Rows.rollChecksSpec.vars false W args.toList ds gs before) (hG : TheG W)
    (hsz0 : (DataW.weightsEach Tryd.prog (Tryd.f3.params.toList ++ Rows.rollChecksSpec.plain.varTypes Tryd.prog) (ds ++ gs)).all (· ≤ reachBytes) = true) :
    Calls Tryd.prog 3 args W fun e W' => ∃ v, e = .returned v ∧ Rows.rollChecksSpec.post enc Tryd.prog Tryd.f3 false true false false W args v W' := by
  have hsz : (DataW.weightsEach Tryd.prog (Tryd.f3.params.toList ++ Rows.rollChecksSpec.plain.varTypes Tryd.prog) (ds ++ gs)).all (· ≤ reachBytes) = true := hsz0
  have hval : ∀ (j : Nat) t v, Tryd.f3.params[j]? = some t → args[j]? = some v → Value.okWide Tryd.prog W .any base t v := hval0
  have hW' := hW
  obtain ⟨p, q, hA0, hV, rfl, hfz, hnd⟩ := hW
  have hA : DataW.TrodAll enc Tryd.prog W 0 (fun _ => true) true Tryd.f3.params.toList args.toList ds p := hA0
  rw [Tryd.params3] at hA hval hsz
  obtain ⟨v0, vs0, d0, ds0, p0, q0, hargs, rfl, rfl, h0, r0⟩ := trodAll_cons hA
  obtain ⟨v1, vs1, d1, ds1, p1, q1, rfl, rfl, rfl, h1, r1⟩ := trodAll_cons r0
  obtain ⟨rfl, rfl, rfl⟩ := trodAll_nil r1
  obtain rfl : args = #[v0, v1] := by cases args; simp_all
  obtain ⟨rfl, rfl⟩ := trodVars_none hV
  have k0 := h0
  have lt0 : ∀ x ∈ p0, x.block < W.heap.size := by obtain ⟨m, hm⟩ := k0; exact DataW.trod_lt m _ _ _ hm
  have wt0 : ∀ n ∈ DataW.weights Tryd.prog 24 d0, n ≤ reachBytes := fun n hn => of_decide_eq_true (List.all_eq_true.1 hsz n (DataW.weights_mem_each (j := 0) rfl rfl n hn))
  obtain ⟨cs0, rfl, _⟩ := okWide_struct Tryd.underlying24 (hval 0 24 v0 rfl rfl)
  obtain ⟨fu0, hf0⟩ := h0
  obtain ⟨s0, hK0, hok0⟩ := (O.Opn.struct Tryd.underlying24 (by kernel_rfl) (O.OpnF.cons rfl (by kernel_rfl) (O.Opn.int Tryd.underlying2) (O.OpnF.cons rfl (by kernel_rfl) (O.Opn.int Tryd.underlying2) (O.OpnF.one rfl (by kernel_rfl) (O.Opn.slice Tryd.underlying22 (by kernel_rfl) (by kernel_rfl) opn54))))) H enc W _ _ _ _ _ _ _ hf0 wt0
  obtain ⟨a0_0, a0_1, l0_2⟩ := s0
  obtain ⟨o0_0, o0_1, o0_2⟩ := hok0
  obtain ⟨_, _, hcs0, rfl, _, _, rfl, rfl, A0_2, c0_2, rfl, hc0_2, hr0_2⟩ := hK0
  obtain rfl : cs0 = #[.int .i64 a0_0, .int .i64 a0_1, .slice A0_2 l0_2.length c0_2] := Array.toList_inj.1 (show cs0.toList = [.int .i64 a0_0, .int .i64 a0_1, .slice A0_2 l0_2.length c0_2] from hcs0)
  have k1 := h1
  have lt1 : ∀ x ∈ p1, x.block < W.heap.size := by obtain ⟨m, hm⟩ := k1; exact DataW.trod_lt m _ _ _ hm
  have wt1 : ∀ n ∈ DataW.weights Tryd.prog 9 d1, n ≤ reachBytes := fun n hn => of_decide_eq_true (List.all_eq_true.1 hsz n (DataW.weights_mem_each (j := 1) rfl rfl n hn))
  obtain ⟨a1, rfl, rfl, rfl, y1⟩ := open_string Tryd.underlying9 (hval 1 9 v1 rfl rfl) h1
  have w1 : a1.size ≤ reachBytes := by have := wt1 a1.data.toList.length (by simp [DataW.weights]); rw [← Lib.size_eq] at this; exact this
  obtain ⟨k, hp⟩ := U.RollChecks a0_0 o0_0 a0_1 o0_1 l0_2 o0_2 a1 w1
  refine (l11_RollChecks.calls (k := k) (r := true) (w := W) (hG := hG) (hr := rfl) (hr0_2 := hr0_2) (hc0_2 := hc0_2) (h := hp)).mono ?_
  rintro e W' ⟨rfl, bel0⟩
  have bel : Below W.heap.size W W' := by first | exact bel0 | exact bel0.below
  exact ⟨_, rfl, _, _, _, [], _, [], hW', trodAll_mk1 (shut_bool Tryd.underlying4 _), (trodAll_cons_mk (Below.trod laidOut (by kernel_rfl) (of_decide_eq_true (by kernel_rfl)) k0 bel lt0) (trodAll_cons_mk (Below.trod laidOut (by kernel_rfl) (of_decide_eq_true (by kernel_rfl)) k1 bel lt1) trodAll_mk0)), rfl, bel.frame _, fun h => by cases h⟩
set_option maxRecDepth 100000 in
theorem lifted (os : Os) (started : os.Started) (H : Type) (enc : TypeId × Value → H) (F : Stop.Interp) :
    ReturnsInHanded {} Tryd.checked os 3 .any ((OpenSpec.ofChange Rows.rollChecksSpec).preRow enc Tryd.prog Tryd.f3 Rows.rollChecksRow.domain false Rows.rollChecksRow.laid) (((OpenSpec.ofChange Rows.rollChecksSpec).at F).post enc Tryd.prog Tryd.f3 false true false false) := by
  have hx : ∃ places, DataW.whole enc Tryd.prog ((World.doorLaid Tryd.prog 62 os).forCall (fun _ _ => 0) ⟨#[], #[.agg #[.int .i64 0, .int .i64 0, .slice none 0 0], .string ByteArray.empty], []⟩).memory Tryd.f3.params.toList Rows.rollChecksSpec.vars false (#[.agg #[.int .i64 0, .int .i64 0, .slice none 0 0], .string ByteArray.empty] : Array Value).toList 8 = some ([.agg [.lit (.int .i64 0), .lit (.int .i64 0), .nil], .lit (.string [])], [], places) := ⟨[], by kernel_rfl⟩
  obtain ⟨places, hx⟩ := hx
  refine returnsInHanded_of_row (C := Tryd.checked) (s := OpenSpec.ofChange Rows.rollChecksSpec) own started (by kernel_rfl) Tryd.func3
    (witness_row_atRef (enc := enc) (C := Tryd.checked) false (World.doorLaid Tryd.prog 62 os) #[.agg #[.int .i64 0, .int .i64 0, .slice none 0 0], .string ByteArray.empty] rfl (by kernel_rfl) (by kernel_rfl) (by kernel_rfl)
      (OpenSpec.preRow_of_cond 8 hx (by kernel_rfl) (fun k hk => by cases hk) (by kernel_rfl) (MakeChecks.laidMetH_plain _ _ _ (by kernel_rfl) ▸ door_met os _))) ?_
  intro W base args ds gs before hval hW _ _ hsz hL hsh _
  exact contract H enc W base args ds gs before hval hW (theG_of hL hsh) hsz
theorem said : Rows.RollChecksSaid :=
  OpenClaim.holds_of_cond 3 Tryd.f3 rfl rfl rfl rfl rfl rfl rfl ⟨rfl, rfl, rfl, rfl, rfl⟩ rfl rfl rfl rfl rfl (by kernel_rfl) Tryd.func3 (by kernel_rfl)
    (of_decide_eq_true (by kernel_rfl)) (by unfold Func.isWrapper; first | (rw [if_pos (by decide +kernel)]; kernel_rfl) | (rw [if_neg (by decide +kernel)]; exact ⟨rfl, rfl⟩))
    (fun os started H enc _ F => by rw [OpenClaim.pre_eq_preRow]; exact lifted os started H enc F)
theorem plain (f : FuncId) (fn : Func) (hf : Tryd.pinned.checked.prog.funcNamed "furlong/furlonglaw11.RollChecks" = some f) (hfn : Tryd.pinned.checked.prog.funcs[f]? = some fn) :
    true = Tryd.pinned.checked.prog.looks [] ∧ ∀ (j : Nat) t, fn.params[j]? = some t → Tryd.pinned.checked.prog.wantsStandIn t = false := by
  obtain rfl : f = 3 := Option.some.inj ((show Tryd.prog.funcNamed "furlong/furlonglaw11.RollChecks" = some 3 by kernel_rfl).symm.trans hf) |>.symm
  obtain rfl : fn = Tryd.f3 := (Option.some.inj (Tryd.func3.symm.trans hfn)).symm
  refine ⟨by kernel_rfl, fun j t ht => ?_⟩
  rw [Tryd.params3] at ht
  have hm := Array.mem_of_getElem? ht
  simp only [List.mem_toArray, List.mem_cons, List.not_mem_nil, or_false] at hm
  rcases hm with rfl | rfl
  · exact (show Tryd.prog.wantsStandIn 24 = false by kernel_rfl)
  · exact (show Tryd.prog.wantsStandIn 9 = false by kernel_rfl)
/-- The tied card. -/
theorem card : Rows.RollChecksCardSaid :=
  Claim7.holds_tied_plain_at .later [] _ _ _ _ said (fun _ h => by cases h) (by kernel_rfl) (fun _ h => by cases h) rollChecks_row_tie rfl ⟨rfl, rfl⟩ (by kernel_rfl) rfl plain (by kernel_rfl)
#print axioms card
end Go.Proofs.YtjpihfjgomoijaaDoor.rollChecks
namespace Go.Proofs.YtjpihfjgomoijaaDoor
theorem rollChecks_holds : Rows.RollChecksCardSaid := rollChecks.card
end Go.Proofs.YtjpihfjgomoijaaDoor
end
