import Derived.Test.YtjfhcijjjadhbaaDoorZDescUnlike1
import Derived.Test.YtjfhcijjjadhbaaDoorZDescUnlike2
import Derived.Test.YtjfhcijjjadhbaaDoorZDescUnlike3
import Derived.Test.YtjfhcijjjadhbaaDoorZDescUnlike4
set_option linter.unusedVariables false
set_option linter.unusedSimpArgs false
set_option linter.unnecessarySimpa false
section
-- Written by a program of this session (wip/tools/pr.py), over the kit's printer; functions named in the texts imported below are given by hand.
namespace Go.Proofs.YtjfhcijjjadhbaaDoor.P
open Go.RowKit Go.Proofs.YtjfhcijjjadhbaaDoor.K Go.Proofs.YtjfhcijjjadhbaaDoorW.PrintWords Go.Proofs.YtjfhcijjjadhbaaDoorW.PrintLast Go.Proofs.YtjfhcijjjadhbaaDoorW.PrintMore
attribute [local go_sem] max2_int min2_int max_two min_two max_three min_three max_four min_four   -- for this text's walks alone
/-! ### l06_liveT: function 10 -/
def l06_liveT.f (k : Nat)  : Option (Bool) := (desc_First.f k (([1, 2, 3] : List Int))).bind fun bt262 => ((desc_Split.f bt262.1 bt262.2.1 bt262.2.2.1 bt262.2.2.2.1 bt262.2.2.2.2.1 bt262.2.2.2.2.2.1 (⟨#[109]⟩ : ByteArray) 2).bind fun bt272 => ((desc_Add.f bt272.2.2.2.2.2.2.1 bt272.2.2.2.2.2.2.2.1 bt272.2.2.2.2.2.2.2.2.1 bt272.2.2.2.2.2.2.2.2.2.1 bt272.2.2.2.2.2.2.2.2.2.2.1 bt272.2.2.2.2.2.2.2.2.2.2.2.1 4).bind fun bt291 => ((desc_Put.f k bt291.1 bt291.2.1 bt291.2.2.1 bt291.2.2.2.1 bt291.2.2.2.2.1 bt291.2.2.2.2.2.1).bind fun t301 => ((desc_Parse.f k t301).bind fun bt302 => ((desc_On.f bt291.1 bt291.2.1 bt291.2.2.1 bt291.2.2.2.1 bt291.2.2.2.2.1 bt291.2.2.2.2.2.1 4).bind fun bt312 => ((desc_Merge.f k bt272.2.2.2.2.2.2.1 bt272.2.2.2.2.2.2.2.1 bt272.2.2.2.2.2.2.2.2.1 bt272.2.2.2.2.2.2.2.2.2.1 bt272.2.2.2.2.2.2.2.2.2.2.1 bt272.2.2.2.2.2.2.2.2.2.2.2.1 bt272.1 bt272.2.1 bt272.2.2.1 bt272.2.2.2.1 bt272.2.2.2.2.1 bt272.2.2.2.2.2.1).bind fun bt316 => ((l06_num.f bt262.2.2.2.2.2.2).bind fun t326 => ((l06_num.f bt272.2.2.2.2.2.2.2.2.2.2.2.2).bind fun t327 => ((l06_num.f bt291.2.2.2.2.2.2).bind fun t328 => ((l06_num.f bt302.2.2.2.2.2.2).bind fun t329 => (if (wrap64 ((wrap64 ((wrap64 (t326 + t327)) + t328)) + t329)) = 0 then (if bt272.2.2.1.toList = ([109] : List UInt8) then (if bt272.2.2.2.2.2.2.1 = 2 then (if bt272.2.2.2.2.2.2.2.2.2.1 = 2 then (if bt291.2.2.2.2.2.1 = 5 then ((r06_Same.f k bt302.1 bt302.2.1 bt302.2.2.1 bt302.2.2.2.1 bt302.2.2.2.2.1 bt302.2.2.2.2.2.1 bt291.1 bt291.2.1 bt291.2.2.1 bt291.2.2.2.1 bt291.2.2.2.2.1 bt291.2.2.2.2.2.1).bind fun t330 => (if t330 = true then (if bt312.2.2 = true then (if bt312.2.1 = 4 then ((desc_Quorum.f 4).bind fun t331 => (if t331 = 3 then ((l06_num.f bt316.2.2.2.2.2.2).bind fun t332 => (if t332 = 20 then ((desc_Check.f 0 (⟨#[]⟩ : ByteArray) (⟨#[]⟩ : ByteArray) 0 ([] : List (S60)) 0).bind fun t333 => ((l06_num.f t333).bind fun t334 => (some (t334 == 60)))) else (some false))) else (some false))) else (some false)) else (some false)) else (some false))) else (some false)) else (some false)) else (some false)) else (some false)) else (some false))))))))))))
theorem l06_liveT.mono : ∀ k, LeO (l06_liveT.f k ) (l06_liveT.f (k + 1) ) := by
  intro  k
  unfold l06_liveT.f
  repeat' first
      | (with_reducible exact desc_First.mono _ _)
      | (with_reducible exact desc_Merge.mono _ _ _ _ _ _ _ _ _ _ _ _ _)
      | (with_reducible exact desc_Parse.mono _ _)
      | (with_reducible exact desc_Put.mono _ _ _ _ _ _ _)
      | (with_reducible exact r06_Same.mono _ _ _ _ _ _ _ _ _ _ _ _ _)
      | (with_reducible exact LeO.refl _)
      | (with_reducible exact LeO.none _)
      | (with_reducible refine LeO.ite ?_ ?_)
      | (with_reducible refine LeO.bind ?_ (fun _ => ?_))
      | exact desc_First.mono _ _
      | exact desc_Merge.mono _ _ _ _ _ _ _ _ _ _ _ _ _
      | exact desc_Parse.mono _ _
      | exact desc_Put.mono _ _ _ _ _ _ _
      | exact r06_Same.mono _ _ _ _ _ _ _ _ _ _ _ _ _
      | exact LeO.none _
      | refine LeO.ite ?_ ?_
      | refine LeO.bind ?_ (fun _ => ?_)
set_option maxHeartbeats 8000000 in
set_option maxRecDepth 100000 in
theorem l06_liveT.calls (k : Nat)  (r : Bool) (w : World) (hG : TheG w) (hr : r = true) (h : l06_liveT.f k  = some r) :
    Calls Tryd.prog 10 #[] w fun e w' => e = .returned (.bool r) ∧ Below w.heap.size w w' := by
  have hu26 := Tryd.underlying26
  have hu60 := Tryd.underlying60
  have HB := Az.mk (Below.refl w.heap.size w)
  have H : ((desc_First.f k (([1, 2, 3] : List Int))).bind fun bt262 => ((desc_Split.f bt262.1 bt262.2.1 bt262.2.2.1 bt262.2.2.2.1 bt262.2.2.2.2.1 bt262.2.2.2.2.2.1 (⟨#[109]⟩ : ByteArray) 2).bind fun bt272 => ((desc_Add.f bt272.2.2.2.2.2.2.1 bt272.2.2.2.2.2.2.2.1 bt272.2.2.2.2.2.2.2.2.1 bt272.2.2.2.2.2.2.2.2.2.1 bt272.2.2.2.2.2.2.2.2.2.2.1 bt272.2.2.2.2.2.2.2.2.2.2.2.1 4).bind fun bt291 => ((desc_Put.f k bt291.1 bt291.2.1 bt291.2.2.1 bt291.2.2.2.1 bt291.2.2.2.2.1 bt291.2.2.2.2.2.1).bind fun t301 => ((desc_Parse.f k t301).bind fun bt302 => ((desc_On.f bt291.1 bt291.2.1 bt291.2.2.1 bt291.2.2.2.1 bt291.2.2.2.2.1 bt291.2.2.2.2.2.1 4).bind fun bt312 => ((desc_Merge.f k bt272.2.2.2.2.2.2.1 bt272.2.2.2.2.2.2.2.1 bt272.2.2.2.2.2.2.2.2.1 bt272.2.2.2.2.2.2.2.2.2.1 bt272.2.2.2.2.2.2.2.2.2.2.1 bt272.2.2.2.2.2.2.2.2.2.2.2.1 bt272.1 bt272.2.1 bt272.2.2.1 bt272.2.2.2.1 bt272.2.2.2.2.1 bt272.2.2.2.2.2.1).bind fun bt316 => ((l06_num.f bt262.2.2.2.2.2.2).bind fun t326 => ((l06_num.f bt272.2.2.2.2.2.2.2.2.2.2.2.2).bind fun t327 => ((l06_num.f bt291.2.2.2.2.2.2).bind fun t328 => ((l06_num.f bt302.2.2.2.2.2.2).bind fun t329 => (if (wrap64 ((wrap64 ((wrap64 (t326 + t327)) + t328)) + t329)) = 0 then (if bt272.2.2.1.toList = ([109] : List UInt8) then (if bt272.2.2.2.2.2.2.1 = 2 then (if bt272.2.2.2.2.2.2.2.2.2.1 = 2 then (if bt291.2.2.2.2.2.1 = 5 then ((r06_Same.f k bt302.1 bt302.2.1 bt302.2.2.1 bt302.2.2.2.1 bt302.2.2.2.2.1 bt302.2.2.2.2.2.1 bt291.1 bt291.2.1 bt291.2.2.1 bt291.2.2.2.1 bt291.2.2.2.2.1 bt291.2.2.2.2.2.1).bind fun t330 => (if t330 = true then (if bt312.2.2 = true then (if bt312.2.1 = 4 then ((desc_Quorum.f 4).bind fun t331 => (if t331 = 3 then ((l06_num.f bt316.2.2.2.2.2.2).bind fun t332 => (if t332 = 20 then ((desc_Check.f 0 (⟨#[]⟩ : ByteArray) (⟨#[]⟩ : ByteArray) 0 ([] : List (S60)) 0).bind fun t333 => ((l06_num.f t333).bind fun t334 => (some (t334 == 60)))) else (some false))) else (some false))) else (some false)) else (some false)) else (some false))) else (some false)) else (some false)) else (some false)) else (some false)) else (some false))))))))))))) = some r := h
  clear h
  obtain ⟨y259, hy259⟩ : ∃ y_ : List Int, y_ = (([1, 2, 3] : List Int)) := ⟨_, rfl⟩
  replace H : ((desc_First.f k y259).bind fun bt262 => ((desc_Split.f bt262.1 bt262.2.1 bt262.2.2.1 bt262.2.2.2.1 bt262.2.2.2.2.1 bt262.2.2.2.2.2.1 (⟨#[109]⟩ : ByteArray) 2).bind fun bt272 => ((desc_Add.f bt272.2.2.2.2.2.2.1 bt272.2.2.2.2.2.2.2.1 bt272.2.2.2.2.2.2.2.2.1 bt272.2.2.2.2.2.2.2.2.2.1 bt272.2.2.2.2.2.2.2.2.2.2.1 bt272.2.2.2.2.2.2.2.2.2.2.2.1 4).bind fun bt291 => ((desc_Put.f k bt291.1 bt291.2.1 bt291.2.2.1 bt291.2.2.2.1 bt291.2.2.2.2.1 bt291.2.2.2.2.2.1).bind fun t301 => ((desc_Parse.f k t301).bind fun bt302 => ((desc_On.f bt291.1 bt291.2.1 bt291.2.2.1 bt291.2.2.2.1 bt291.2.2.2.2.1 bt291.2.2.2.2.2.1 4).bind fun bt312 => ((desc_Merge.f k bt272.2.2.2.2.2.2.1 bt272.2.2.2.2.2.2.2.1 bt272.2.2.2.2.2.2.2.2.1 bt272.2.2.2.2.2.2.2.2.2.1 bt272.2.2.2.2.2.2.2.2.2.2.1 bt272.2.2.2.2.2.2.2.2.2.2.2.1 bt272.1 bt272.2.1 bt272.2.2.1 bt272.2.2.2.1 bt272.2.2.2.2.1 bt272.2.2.2.2.2.1).bind fun bt316 => ((l06_num.f bt262.2.2.2.2.2.2).bind fun t326 => ((l06_num.f bt272.2.2.2.2.2.2.2.2.2.2.2.2).bind fun t327 => ((l06_num.f bt291.2.2.2.2.2.2).bind fun t328 => ((l06_num.f bt302.2.2.2.2.2.2).bind fun t329 => (if (wrap64 ((wrap64 ((wrap64 (t326 + t327)) + t328)) + t329)) = 0 then (if bt272.2.2.1.toList = ([109] : List UInt8) then (if bt272.2.2.2.2.2.2.1 = 2 then (if bt272.2.2.2.2.2.2.2.2.2.1 = 2 then (if bt291.2.2.2.2.2.1 = 5 then ((r06_Same.f k bt302.1 bt302.2.1 bt302.2.2.1 bt302.2.2.2.1 bt302.2.2.2.2.1 bt302.2.2.2.2.2.1 bt291.1 bt291.2.1 bt291.2.2.1 bt291.2.2.2.1 bt291.2.2.2.2.1 bt291.2.2.2.2.2.1).bind fun t330 => (if t330 = true then (if bt312.2.2 = true then (if bt312.2.1 = 4 then ((desc_Quorum.f 4).bind fun t331 => (if t331 = 3 then ((l06_num.f bt316.2.2.2.2.2.2).bind fun t332 => (if t332 = 20 then ((desc_Check.f 0 (⟨#[]⟩ : ByteArray) (⟨#[]⟩ : ByteArray) 0 ([] : List (S60)) 0).bind fun t333 => ((l06_num.f t333).bind fun t334 => (some (t334 == 60)))) else (some false))) else (some false))) else (some false)) else (some false)) else (some false))) else (some false)) else (some false)) else (some false)) else (some false)) else (some false))))))))))))) = some r := by first | (rw [hy259]; with_reducible exact H) | (have H2_ := (Option.bind_some _ _).symm.trans H; rw [hy259]; with_reducible exact H2_) | (have H2_ := (Option.bind_some _ _).symm.trans H; with_reducible exact H2_) | with_reducible exact H | (rw [hy259]; exact H) | exact H
  have Ny259 := Az.mk hy259
  clear hy259
  replace H := Option.bind_eq_some_iff.mp H
  obtain ⟨⟨t262, t263, t264, t265, t266, t269, t270⟩, A10, H⟩ := H
  replace H : ((desc_Split.f t262 t263 t264 t265 t266 t269 (⟨#[109]⟩ : ByteArray) 2).bind fun bt272 => ((desc_Add.f bt272.2.2.2.2.2.2.1 bt272.2.2.2.2.2.2.2.1 bt272.2.2.2.2.2.2.2.2.1 bt272.2.2.2.2.2.2.2.2.2.1 bt272.2.2.2.2.2.2.2.2.2.2.1 bt272.2.2.2.2.2.2.2.2.2.2.2.1 4).bind fun bt291 => ((desc_Put.f k bt291.1 bt291.2.1 bt291.2.2.1 bt291.2.2.2.1 bt291.2.2.2.2.1 bt291.2.2.2.2.2.1).bind fun t301 => ((desc_Parse.f k t301).bind fun bt302 => ((desc_On.f bt291.1 bt291.2.1 bt291.2.2.1 bt291.2.2.2.1 bt291.2.2.2.2.1 bt291.2.2.2.2.2.1 4).bind fun bt312 => ((desc_Merge.f k bt272.2.2.2.2.2.2.1 bt272.2.2.2.2.2.2.2.1 bt272.2.2.2.2.2.2.2.2.1 bt272.2.2.2.2.2.2.2.2.2.1 bt272.2.2.2.2.2.2.2.2.2.2.1 bt272.2.2.2.2.2.2.2.2.2.2.2.1 bt272.1 bt272.2.1 bt272.2.2.1 bt272.2.2.2.1 bt272.2.2.2.2.1 bt272.2.2.2.2.2.1).bind fun bt316 => ((l06_num.f t270).bind fun t326 => ((l06_num.f bt272.2.2.2.2.2.2.2.2.2.2.2.2).bind fun t327 => ((l06_num.f bt291.2.2.2.2.2.2).bind fun t328 => ((l06_num.f bt302.2.2.2.2.2.2).bind fun t329 => (if (wrap64 ((wrap64 ((wrap64 (t326 + t327)) + t328)) + t329)) = 0 then (if bt272.2.2.1.toList = ([109] : List UInt8) then (if bt272.2.2.2.2.2.2.1 = 2 then (if bt272.2.2.2.2.2.2.2.2.2.1 = 2 then (if bt291.2.2.2.2.2.1 = 5 then ((r06_Same.f k bt302.1 bt302.2.1 bt302.2.2.1 bt302.2.2.2.1 bt302.2.2.2.2.1 bt302.2.2.2.2.2.1 bt291.1 bt291.2.1 bt291.2.2.1 bt291.2.2.2.1 bt291.2.2.2.2.1 bt291.2.2.2.2.2.1).bind fun t330 => (if t330 = true then (if bt312.2.2 = true then (if bt312.2.1 = 4 then ((desc_Quorum.f 4).bind fun t331 => (if t331 = 3 then ((l06_num.f bt316.2.2.2.2.2.2).bind fun t332 => (if t332 = 20 then ((desc_Check.f 0 (⟨#[]⟩ : ByteArray) (⟨#[]⟩ : ByteArray) 0 ([] : List (S60)) 0).bind fun t333 => ((l06_num.f t333).bind fun t334 => (some (t334 == 60)))) else (some false))) else (some false))) else (some false)) else (some false)) else (some false))) else (some false)) else (some false)) else (some false)) else (some false)) else (some false)))))))))))) = some r := H
  have A1 := Az.mk A10
  clear A10
  replace H := Option.bind_eq_some_iff.mp H
  obtain ⟨⟨t272, t273, t274, t275, t276, t279, t280, t281, t282, t283, t284, t287, t288⟩, A20, H⟩ := H
  replace H : ((desc_Add.f t280 t281 t282 t283 t284 t287 4).bind fun bt291 => ((desc_Put.f k bt291.1 bt291.2.1 bt291.2.2.1 bt291.2.2.2.1 bt291.2.2.2.2.1 bt291.2.2.2.2.2.1).bind fun t301 => ((desc_Parse.f k t301).bind fun bt302 => ((desc_On.f bt291.1 bt291.2.1 bt291.2.2.1 bt291.2.2.2.1 bt291.2.2.2.2.1 bt291.2.2.2.2.2.1 4).bind fun bt312 => ((desc_Merge.f k t280 t281 t282 t283 t284 t287 t272 t273 t274 t275 t276 t279).bind fun bt316 => ((l06_num.f t270).bind fun t326 => ((l06_num.f t288).bind fun t327 => ((l06_num.f bt291.2.2.2.2.2.2).bind fun t328 => ((l06_num.f bt302.2.2.2.2.2.2).bind fun t329 => (if (wrap64 ((wrap64 ((wrap64 (t326 + t327)) + t328)) + t329)) = 0 then (if t274.toList = ([109] : List UInt8) then (if t280 = 2 then (if t283 = 2 then (if bt291.2.2.2.2.2.1 = 5 then ((r06_Same.f k bt302.1 bt302.2.1 bt302.2.2.1 bt302.2.2.2.1 bt302.2.2.2.2.1 bt302.2.2.2.2.2.1 bt291.1 bt291.2.1 bt291.2.2.1 bt291.2.2.2.1 bt291.2.2.2.2.1 bt291.2.2.2.2.2.1).bind fun t330 => (if t330 = true then (if bt312.2.2 = true then (if bt312.2.1 = 4 then ((desc_Quorum.f 4).bind fun t331 => (if t331 = 3 then ((l06_num.f bt316.2.2.2.2.2.2).bind fun t332 => (if t332 = 20 then ((desc_Check.f 0 (⟨#[]⟩ : ByteArray) (⟨#[]⟩ : ByteArray) 0 ([] : List (S60)) 0).bind fun t333 => ((l06_num.f t333).bind fun t334 => (some (t334 == 60)))) else (some false))) else (some false))) else (some false)) else (some false)) else (some false))) else (some false)) else (some false)) else (some false)) else (some false)) else (some false))))))))))) = some r := H
  have A2 := Az.mk A20
  clear A20
  replace H := Option.bind_eq_some_iff.mp H
  obtain ⟨⟨t291, t292, t293, t294, t295, t298, t299⟩, A30, H⟩ := H
  replace H : ((desc_Put.f k t291 t292 t293 t294 t295 t298).bind fun t301 => ((desc_Parse.f k t301).bind fun bt302 => ((desc_On.f t291 t292 t293 t294 t295 t298 4).bind fun bt312 => ((desc_Merge.f k t280 t281 t282 t283 t284 t287 t272 t273 t274 t275 t276 t279).bind fun bt316 => ((l06_num.f t270).bind fun t326 => ((l06_num.f t288).bind fun t327 => ((l06_num.f t299).bind fun t328 => ((l06_num.f bt302.2.2.2.2.2.2).bind fun t329 => (if (wrap64 ((wrap64 ((wrap64 (t326 + t327)) + t328)) + t329)) = 0 then (if t274.toList = ([109] : List UInt8) then (if t280 = 2 then (if t283 = 2 then (if t298 = 5 then ((r06_Same.f k bt302.1 bt302.2.1 bt302.2.2.1 bt302.2.2.2.1 bt302.2.2.2.2.1 bt302.2.2.2.2.2.1 t291 t292 t293 t294 t295 t298).bind fun t330 => (if t330 = true then (if bt312.2.2 = true then (if bt312.2.1 = 4 then ((desc_Quorum.f 4).bind fun t331 => (if t331 = 3 then ((l06_num.f bt316.2.2.2.2.2.2).bind fun t332 => (if t332 = 20 then ((desc_Check.f 0 (⟨#[]⟩ : ByteArray) (⟨#[]⟩ : ByteArray) 0 ([] : List (S60)) 0).bind fun t333 => ((l06_num.f t333).bind fun t334 => (some (t334 == 60)))) else (some false))) else (some false))) else (some false)) else (some false)) else (some false))) else (some false)) else (some false)) else (some false)) else (some false)) else (some false)))))))))) = some r := H
  have A3 := Az.mk A30
  clear A30
  replace H := Option.bind_eq_some_iff.mp H
  obtain ⟨t301, A40, H⟩ := H
  replace H : ((desc_Parse.f k t301).bind fun bt302 => ((desc_On.f t291 t292 t293 t294 t295 t298 4).bind fun bt312 => ((desc_Merge.f k t280 t281 t282 t283 t284 t287 t272 t273 t274 t275 t276 t279).bind fun bt316 => ((l06_num.f t270).bind fun t326 => ((l06_num.f t288).bind fun t327 => ((l06_num.f t299).bind fun t328 => ((l06_num.f bt302.2.2.2.2.2.2).bind fun t329 => (if (wrap64 ((wrap64 ((wrap64 (t326 + t327)) + t328)) + t329)) = 0 then (if t274.toList = ([109] : List UInt8) then (if t280 = 2 then (if t283 = 2 then (if t298 = 5 then ((r06_Same.f k bt302.1 bt302.2.1 bt302.2.2.1 bt302.2.2.2.1 bt302.2.2.2.2.1 bt302.2.2.2.2.2.1 t291 t292 t293 t294 t295 t298).bind fun t330 => (if t330 = true then (if bt312.2.2 = true then (if bt312.2.1 = 4 then ((desc_Quorum.f 4).bind fun t331 => (if t331 = 3 then ((l06_num.f bt316.2.2.2.2.2.2).bind fun t332 => (if t332 = 20 then ((desc_Check.f 0 (⟨#[]⟩ : ByteArray) (⟨#[]⟩ : ByteArray) 0 ([] : List (S60)) 0).bind fun t333 => ((l06_num.f t333).bind fun t334 => (some (t334 == 60)))) else (some false))) else (some false))) else (some false)) else (some false)) else (some false))) else (some false)) else (some false)) else (some false)) else (some false)) else (some false))))))))) = some r := H
  have A4 := Az.mk A40
  clear A40
  replace H := Option.bind_eq_some_iff.mp H
  obtain ⟨⟨t302, t303, t304, t305, t306, t309, t310⟩, A50, H⟩ := H
  replace H : ((desc_On.f t291 t292 t293 t294 t295 t298 4).bind fun bt312 => ((desc_Merge.f k t280 t281 t282 t283 t284 t287 t272 t273 t274 t275 t276 t279).bind fun bt316 => ((l06_num.f t270).bind fun t326 => ((l06_num.f t288).bind fun t327 => ((l06_num.f t299).bind fun t328 => ((l06_num.f t310).bind fun t329 => (if (wrap64 ((wrap64 ((wrap64 (t326 + t327)) + t328)) + t329)) = 0 then (if t274.toList = ([109] : List UInt8) then (if t280 = 2 then (if t283 = 2 then (if t298 = 5 then ((r06_Same.f k t302 t303 t304 t305 t306 t309 t291 t292 t293 t294 t295 t298).bind fun t330 => (if t330 = true then (if bt312.2.2 = true then (if bt312.2.1 = 4 then ((desc_Quorum.f 4).bind fun t331 => (if t331 = 3 then ((l06_num.f bt316.2.2.2.2.2.2).bind fun t332 => (if t332 = 20 then ((desc_Check.f 0 (⟨#[]⟩ : ByteArray) (⟨#[]⟩ : ByteArray) 0 ([] : List (S60)) 0).bind fun t333 => ((l06_num.f t333).bind fun t334 => (some (t334 == 60)))) else (some false))) else (some false))) else (some false)) else (some false)) else (some false))) else (some false)) else (some false)) else (some false)) else (some false)) else (some false)))))))) = some r := H
  have A5 := Az.mk A50
  clear A50
  replace H := Option.bind_eq_some_iff.mp H
  obtain ⟨⟨t312, t313, t314⟩, A60, H⟩ := H
  replace H : ((desc_Merge.f k t280 t281 t282 t283 t284 t287 t272 t273 t274 t275 t276 t279).bind fun bt316 => ((l06_num.f t270).bind fun t326 => ((l06_num.f t288).bind fun t327 => ((l06_num.f t299).bind fun t328 => ((l06_num.f t310).bind fun t329 => (if (wrap64 ((wrap64 ((wrap64 (t326 + t327)) + t328)) + t329)) = 0 then (if t274.toList = ([109] : List UInt8) then (if t280 = 2 then (if t283 = 2 then (if t298 = 5 then ((r06_Same.f k t302 t303 t304 t305 t306 t309 t291 t292 t293 t294 t295 t298).bind fun t330 => (if t330 = true then (if t314 = true then (if t313 = 4 then ((desc_Quorum.f 4).bind fun t331 => (if t331 = 3 then ((l06_num.f bt316.2.2.2.2.2.2).bind fun t332 => (if t332 = 20 then ((desc_Check.f 0 (⟨#[]⟩ : ByteArray) (⟨#[]⟩ : ByteArray) 0 ([] : List (S60)) 0).bind fun t333 => ((l06_num.f t333).bind fun t334 => (some (t334 == 60)))) else (some false))) else (some false))) else (some false)) else (some false)) else (some false))) else (some false)) else (some false)) else (some false)) else (some false)) else (some false))))))) = some r := H
  have A6 := Az.mk A60
  clear A60
  replace H := Option.bind_eq_some_iff.mp H
  obtain ⟨⟨t316, t317, t318, t319, t320, t323, t324⟩, A70, H⟩ := H
  replace H : ((l06_num.f t270).bind fun t326 => ((l06_num.f t288).bind fun t327 => ((l06_num.f t299).bind fun t328 => ((l06_num.f t310).bind fun t329 => (if (wrap64 ((wrap64 ((wrap64 (t326 + t327)) + t328)) + t329)) = 0 then (if t274.toList = ([109] : List UInt8) then (if t280 = 2 then (if t283 = 2 then (if t298 = 5 then ((r06_Same.f k t302 t303 t304 t305 t306 t309 t291 t292 t293 t294 t295 t298).bind fun t330 => (if t330 = true then (if t314 = true then (if t313 = 4 then ((desc_Quorum.f 4).bind fun t331 => (if t331 = 3 then ((l06_num.f t324).bind fun t332 => (if t332 = 20 then ((desc_Check.f 0 (⟨#[]⟩ : ByteArray) (⟨#[]⟩ : ByteArray) 0 ([] : List (S60)) 0).bind fun t333 => ((l06_num.f t333).bind fun t334 => (some (t334 == 60)))) else (some false))) else (some false))) else (some false)) else (some false)) else (some false))) else (some false)) else (some false)) else (some false)) else (some false)) else (some false)))))) = some r := H
  have A7 := Az.mk A70
  clear A70
  replace H := Option.bind_eq_some_iff.mp H
  obtain ⟨t326, A80, H⟩ := H
  replace H : ((l06_num.f t288).bind fun t327 => ((l06_num.f t299).bind fun t328 => ((l06_num.f t310).bind fun t329 => (if (wrap64 ((wrap64 ((wrap64 (t326 + t327)) + t328)) + t329)) = 0 then (if t274.toList = ([109] : List UInt8) then (if t280 = 2 then (if t283 = 2 then (if t298 = 5 then ((r06_Same.f k t302 t303 t304 t305 t306 t309 t291 t292 t293 t294 t295 t298).bind fun t330 => (if t330 = true then (if t314 = true then (if t313 = 4 then ((desc_Quorum.f 4).bind fun t331 => (if t331 = 3 then ((l06_num.f t324).bind fun t332 => (if t332 = 20 then ((desc_Check.f 0 (⟨#[]⟩ : ByteArray) (⟨#[]⟩ : ByteArray) 0 ([] : List (S60)) 0).bind fun t333 => ((l06_num.f t333).bind fun t334 => (some (t334 == 60)))) else (some false))) else (some false))) else (some false)) else (some false)) else (some false))) else (some false)) else (some false)) else (some false)) else (some false)) else (some false))))) = some r := H
  have A8 := Az.mk A80
  clear A80
  replace H := Option.bind_eq_some_iff.mp H
  obtain ⟨t327, A90, H⟩ := H
  replace H : ((l06_num.f t299).bind fun t328 => ((l06_num.f t310).bind fun t329 => (if (wrap64 ((wrap64 ((wrap64 (t326 + t327)) + t328)) + t329)) = 0 then (if t274.toList = ([109] : List UInt8) then (if t280 = 2 then (if t283 = 2 then (if t298 = 5 then ((r06_Same.f k t302 t303 t304 t305 t306 t309 t291 t292 t293 t294 t295 t298).bind fun t330 => (if t330 = true then (if t314 = true then (if t313 = 4 then ((desc_Quorum.f 4).bind fun t331 => (if t331 = 3 then ((l06_num.f t324).bind fun t332 => (if t332 = 20 then ((desc_Check.f 0 (⟨#[]⟩ : ByteArray) (⟨#[]⟩ : ByteArray) 0 ([] : List (S60)) 0).bind fun t333 => ((l06_num.f t333).bind fun t334 => (some (t334 == 60)))) else (some false))) else (some false))) else (some false)) else (some false)) else (some false))) else (some false)) else (some false)) else (some false)) else (some false)) else (some false)))) = some r := H
  have A9 := Az.mk A90
  clear A90
  replace H := Option.bind_eq_some_iff.mp H
  obtain ⟨t328, A100, H⟩ := H
  replace H : ((l06_num.f t310).bind fun t329 => (if (wrap64 ((wrap64 ((wrap64 (t326 + t327)) + t328)) + t329)) = 0 then (if t274.toList = ([109] : List UInt8) then (if t280 = 2 then (if t283 = 2 then (if t298 = 5 then ((r06_Same.f k t302 t303 t304 t305 t306 t309 t291 t292 t293 t294 t295 t298).bind fun t330 => (if t330 = true then (if t314 = true then (if t313 = 4 then ((desc_Quorum.f 4).bind fun t331 => (if t331 = 3 then ((l06_num.f t324).bind fun t332 => (if t332 = 20 then ((desc_Check.f 0 (⟨#[]⟩ : ByteArray) (⟨#[]⟩ : ByteArray) 0 ([] : List (S60)) 0).bind fun t333 => ((l06_num.f t333).bind fun t334 => (some (t334 == 60)))) else (some false))) else (some false))) else (some false)) else (some false)) else (some false))) else (some false)) else (some false)) else (some false)) else (some false)) else (some false))) = some r := H
  have A10 := Az.mk A100
  clear A100
  replace H := Option.bind_eq_some_iff.mp H
  obtain ⟨t329, A110, H⟩ := H
  replace H : (if (wrap64 ((wrap64 ((wrap64 (t326 + t327)) + t328)) + t329)) = 0 then (if t274.toList = ([109] : List UInt8) then (if t280 = 2 then (if t283 = 2 then (if t298 = 5 then ((r06_Same.f k t302 t303 t304 t305 t306 t309 t291 t292 t293 t294 t295 t298).bind fun t330 => (if t330 = true then (if t314 = true then (if t313 = 4 then ((desc_Quorum.f 4).bind fun t331 => (if t331 = 3 then ((l06_num.f t324).bind fun t332 => (if t332 = 20 then ((desc_Check.f 0 (⟨#[]⟩ : ByteArray) (⟨#[]⟩ : ByteArray) 0 ([] : List (S60)) 0).bind fun t333 => ((l06_num.f t333).bind fun t334 => (some (t334 == 60)))) else (some false))) else (some false))) else (some false)) else (some false)) else (some false))) else (some false)) else (some false)) else (some false)) else (some false)) else (some false)) = some r := H
  have A11 := Az.mk A110
  clear A110
  by_cases c12 : (wrap64 ((wrap64 ((wrap64 (t326 + t327)) + t328)) + t329)) = 0
  · rw [if_pos c12] at H
    have c12b0 : ((wrap64 ((wrap64 ((wrap64 (t326 + t327)) + t328)) + t329)) == 0) = true := beq_iff_eq.mpr c12
    have c12b1 : ((wrap64 ((wrap64 ((wrap64 (t326 + t327)) + t328)) + t329)) != 0) = false := bne_eq_false_iff_eq.mpr c12
    clear c12
    by_cases c13 : t274.toList = ([109] : List UInt8)
    · rw [if_pos c13] at H
      have c13b0 : (t274.toList == ([109] : List UInt8)) = true := beq_iff_eq.mpr c13
      have c13b1 : (t274.toList != ([109] : List UInt8)) = false := bne_eq_false_iff_eq.mpr c13
      clear c13
      by_cases c14 : t280 = 2
      · rw [if_pos c14] at H
        have c14b0 : (t280 == 2) = true := beq_iff_eq.mpr c14
        have c14b1 : (t280 != 2) = false := bne_eq_false_iff_eq.mpr c14
        clear c14
        by_cases c15 : t283 = 2
        · rw [if_pos c15] at H
          have c15b0 : (t283 == 2) = true := beq_iff_eq.mpr c15
          have c15b1 : (t283 != 2) = false := bne_eq_false_iff_eq.mpr c15
          clear c15
          by_cases c16 : t298 = 5
          · rw [if_pos c16] at H
            have c16b0 : (t298 == 5) = true := beq_iff_eq.mpr c16
            have c16b1 : (t298 != 5) = false := bne_eq_false_iff_eq.mpr c16
            clear c16
            replace H := Option.bind_eq_some_iff.mp H
            obtain ⟨t330, A170, H⟩ := H
            replace H : (if t330 = true then (if t314 = true then (if t313 = 4 then ((desc_Quorum.f 4).bind fun t331 => (if t331 = 3 then ((l06_num.f t324).bind fun t332 => (if t332 = 20 then ((desc_Check.f 0 (⟨#[]⟩ : ByteArray) (⟨#[]⟩ : ByteArray) 0 ([] : List (S60)) 0).bind fun t333 => ((l06_num.f t333).bind fun t334 => (some (t334 == 60)))) else (some false))) else (some false))) else (some false)) else (some false)) else (some false)) = some r := H
            have A17 := Az.mk A170
            clear A170
            by_cases c18 : t330 = true
            · subst c18
              have H1 : (if t314 = true then (if t313 = 4 then ((desc_Quorum.f 4).bind fun t331 => (if t331 = 3 then ((l06_num.f t324).bind fun t332 => (if t332 = 20 then ((desc_Check.f 0 (⟨#[]⟩ : ByteArray) (⟨#[]⟩ : ByteArray) 0 ([] : List (S60)) 0).bind fun t333 => ((l06_num.f t333).bind fun t334 => (some (t334 == 60)))) else (some false))) else (some false))) else (some false)) else (some false)) = some r := by rw [if_pos rfl] at H; exact H
              clear H
              have H := H1
              clear H1
              by_cases c19 : t314 = true
              · subst c19
                have H1 : (if t313 = 4 then ((desc_Quorum.f 4).bind fun t331 => (if t331 = 3 then ((l06_num.f t324).bind fun t332 => (if t332 = 20 then ((desc_Check.f 0 (⟨#[]⟩ : ByteArray) (⟨#[]⟩ : ByteArray) 0 ([] : List (S60)) 0).bind fun t333 => ((l06_num.f t333).bind fun t334 => (some (t334 == 60)))) else (some false))) else (some false))) else (some false)) = some r := by rw [if_pos rfl] at H; exact H
                clear H
                have H := H1
                clear H1
                by_cases c20 : t313 = 4
                · rw [if_pos c20] at H
                  have c20b0 : (t313 == 4) = true := beq_iff_eq.mpr c20
                  have c20b1 : (t313 != 4) = false := bne_eq_false_iff_eq.mpr c20
                  clear c20
                  replace H := Option.bind_eq_some_iff.mp H
                  obtain ⟨t331, A210, H⟩ := H
                  replace H : (if t331 = 3 then ((l06_num.f t324).bind fun t332 => (if t332 = 20 then ((desc_Check.f 0 (⟨#[]⟩ : ByteArray) (⟨#[]⟩ : ByteArray) 0 ([] : List (S60)) 0).bind fun t333 => ((l06_num.f t333).bind fun t334 => (some (t334 == 60)))) else (some false))) else (some false)) = some r := H
                  have A21 := Az.mk A210
                  clear A210
                  by_cases c22 : t331 = 3
                  · rw [if_pos c22] at H
                    have c22b0 : (t331 == 3) = true := beq_iff_eq.mpr c22
                    have c22b1 : (t331 != 3) = false := bne_eq_false_iff_eq.mpr c22
                    clear c22
                    replace H := Option.bind_eq_some_iff.mp H
                    obtain ⟨t332, A230, H⟩ := H
                    replace H : (if t332 = 20 then ((desc_Check.f 0 (⟨#[]⟩ : ByteArray) (⟨#[]⟩ : ByteArray) 0 ([] : List (S60)) 0).bind fun t333 => ((l06_num.f t333).bind fun t334 => (some (t334 == 60)))) else (some false)) = some r := H
                    have A23 := Az.mk A230
                    clear A230
                    by_cases c24 : t332 = 20
                    · rw [if_pos c24] at H
                      have c24b0 : (t332 == 20) = true := beq_iff_eq.mpr c24
                      have c24b1 : (t332 != 20) = false := bne_eq_false_iff_eq.mpr c24
                      clear c24
                      replace H := Option.bind_eq_some_iff.mp H
                      obtain ⟨t333, A250, H⟩ := H
                      replace H : ((l06_num.f t333).bind fun t334 => (some (t334 == 60))) = some r := H
                      have A25 := Az.mk A250
                      clear A250
                      replace H := Option.bind_eq_some_iff.mp H
                      obtain ⟨t334, A260, H⟩ := H
                      replace H : (some (t334 == 60)) = some r := H
                      have A26 := Az.mk A260
                      clear A260
                      obtain rfl := Option.some.inj H
                      go_enter Tryd.func10, Tryd.ntmps10
                      go_wp2_with (first | ((with_reducible refine gate_dst (N := 15) rfl ?_); refine Kd.R_lit (Kd.int .i64) _ 3 ?hg (N := 15) ?hd (xs := ([1, 2, 3] : List Int)) (inner := [.int .i64 1, .int .i64 2, .int .i64 3]) (ok := fun _ => True) (okp := fun _ => True) ?hr ?hp (fun _ hk => hk) trivial (Below.refl _ _) (Nat.le_refl _) (by simp) ?_; (case hd => rfl); (case hg => rfl); (case hr => first | (go_simp; done) | (go_simp; rfl)); (case hp => exact (Reps.one (show Kd.M (Kd.int .i64) _ _ _ 1 [.int .i64 1] from rfl) (Reps.one (show Kd.M (Kd.int .i64) _ _ _ 2 [.int .i64 2] from rfl) (Reps.one (show Kd.M (Kd.int .i64) _ _ _ 3 [.int .i64 3] from rfl) (Reps.none _ _))))); intro v260 w27 ho28 hb hg_ hnew_; clear hg_ hnew_; (first | rw [← Ny259.out] at ho28 | (simp only [Int.reduceToNat] at ho28; rw [← Ny259.out] at ho28)); have n0_ := Az.mk (Kd.R_lower ho28 (pbZ (by exact pbE HB.out))); have n1_ := Az.mk (pbT (by exact pbE HB.out) hb); clear HB; have HO261 := n0_; have HB := n1_; clear n0_ n1_; clear hb ho28; obtain ⟨Ao29, co29, eo29⟩ := Kd.R_slice HO261.out; subst eo29) | ((with_reducible refine gtc (f := 23) rfl ?_); refine goesL_ (some 16) rfl rfl Tryd.func23 (by kernel_rfl) rfl #[.slice Ao29 y259.length co29] rfl (by (try simp only [List.map_toArray, List.map_cons, List.map_nil]); first | done | rfl | (simp only [List.length_drop, List.length_take]; rfl)) ?_; (with_reducible refine (desc_First.calls k _ _ y259 t262 t263 t264 t265 t266 t269 t270 _ ?side1 ?side2 ?side3 A1.out).mono ?_); (case side1 => exact hG.below (by exact pbE HB.out)); (case side2 => exact Kd.C_ext (Kd.R_reads' HO261.out).2.2); (case side3 => exact (Kd.R_reads' HO261.out).2.1); rintro e w30 ⟨v267, rfl, ho0, hb⟩; refine ⟨_, rfl, ?_⟩; have n0_ := Az.mk (Kd.R_below (Kd.R_ext HO261.out) hb); have n1_ := Az.mk (Kd.V_lower (Kd.V_mono (ok' := fun k_ => some k_ ≠ (.slice Ao29 y259.length co29 : Value).ownBlock) ho0 (fun k_ hk_ => (Kd.fresh' (Kd.R_lt (Kd.R_ext HO261.out)) k_ hk_))) (pbZ (by exact pbE HB.out))); have n2_ := Az.mk (pbT (by exact pbE HB.out) hb); clear HO261; clear HB; have HO261 := n0_; have HO268 := n1_; have HB := n2_; clear n0_ n1_ n2_; (try clear hb); (try clear hb2); (try clear hk); (try clear hi); (try clear ho0)) | ((with_reducible refine gate_dst (N := 1) rfl ?_); refine box_event ?hg (N := 1) ?hd (cs := #[.int .i64 0, .string (⟨#[]⟩ : ByteArray), .string (⟨#[]⟩ : ByteArray), .int .i64 0, .slice none 0 0, .int .i64 0]) (t := 26) ?hr ?_; (case hd => rfl); (case hg => rfl); (case hr => first | (go_simp; done) | (go_simp; rfl)); intro gb271 hg w31 hbox hb; have n0_ := Az.mk (Kd.R_below (Kd.R_ext HO261.out) hb); have n1_ := Az.mk (Kd.V_below (Kd.V_elderB (Kd.V_ext HO268.out) gb271 (Nat.le_of_eq hg.symm)) hb); have n2_ := Az.mk (pbT (by exact pbE HB.out) hb); have n3_ := Az.mk (hbox); have n4_ := Az.mk ((by rw [hg]; exact (pbZ (by exact pbE HB.out)) : w.heap.size ≤ gb271)); have n5_ := Az.mk ((by rw [hg]; exact (pbZ (by exact pbE HB.out)) : w.heap.size ≤ gb271)); clear HO261; clear HO268; clear HB; have HO261 := n0_; have HO268 := n1_; have HB := n2_; have BK271 := n3_; have GW271 := n4_; have GE271 := n5_; clear n0_ n1_ n2_ n3_ n4_ n5_; clear hb hbox hg; have hcz32_0 : w31.cell? ⟨gb271, 0, none⟩ = some (.int .i64 0) := (bkC BK271.out 0).trans rfl; have hcz32_1 : w31.cell? ⟨gb271, 1, none⟩ = some (.string (⟨#[]⟩ : ByteArray)) := (bkC BK271.out 1).trans rfl; have hcz32_2 : w31.cell? ⟨gb271, 2, none⟩ = some (.string (⟨#[]⟩ : ByteArray)) := (bkC BK271.out 2).trans rfl; have hcz32_3 : w31.cell? ⟨gb271, 3, none⟩ = some (.int .i64 0) := (bkC BK271.out 3).trans rfl; have hcz32_4 : w31.cell? ⟨gb271, 4, none⟩ = some (.slice none 0 0) := (bkC BK271.out 4).trans rfl; have hcz32_5 : w31.cell? ⟨gb271, 5, none⟩ = some (.int .i64 0) := (bkC BK271.out 5).trans rfl; have hfz32_0 := bkF BK271.out 0; have hfz32_1 := bkF BK271.out 1; have hfz32_2 := bkF BK271.out 2; have hfz32_3 := bkF BK271.out 3; have hfz32_4 := bkF BK271.out 4; have hfz32_5 := bkF BK271.out 5; obtain ⟨Ao33, co33, eo33⟩ := Kd.V_slice HO268.out; subst eo33) | ((with_reducible refine gate_store (t := 26) (p := 1) rfl ?_); refine store_event (t := 26) (p := 1) (v := ?vo_w34) (w1 := ((((((w31.setCell ⟨gb271, 0, none⟩ (.int .i64 t262)).setCell ⟨gb271, 1, none⟩ (.string t263)).setCell ⟨gb271, 2, none⟩ (.string t264)).setCell ⟨gb271, 3, none⟩ (.int .i64 t265)).setCell ⟨gb271, 4, none⟩ (.slice Ao33 t266.length co33)).setCell ⟨gb271, 5, none⟩ (.int .i64 t269))) ?hg ?ho ?hn ?hr ?_; (case ho => rfl); (case hg => rfl); (case hn => rfl); (case hr => first | (go_simp; done) | (go_simp; rfl)); intro w34 hw; have n0_ : Az (Kd.R (Kd.int .i64) 3 w34 w.heap.size (fun _ => True) (.slice Ao29 y259.length co29) y259) := ⟨(by rw [hw]; exact (by (with_reducible repeat (first | apply Kd.R_alloc | apply Kd.R_drewN | apply Kd.R_drew)); exact Kd.R_mono (Kd.R_far (p := ⟨gb271, 5, none⟩) (Kd.R_far (p := ⟨gb271, 4, none⟩) (Kd.R_far (p := ⟨gb271, 3, none⟩) (Kd.R_far (p := ⟨gb271, 2, none⟩) (Kd.R_far (p := ⟨gb271, 1, none⟩) (Kd.R_far (p := ⟨gb271, 0, none⟩) (Kd.R_types HO261.out BK271.out (by decide)) (fun _ hk => hk.2) (.int .i64 t262)) (fun _ hk => hk.2) (.string t263)) (fun _ hk => hk.2) (.string t264)) (fun _ hk => hk.2) (.int .i64 t265)) (fun _ hk => hk.2) (.slice Ao33 t266.length co33)) (fun _ hk => hk.2) (.int .i64 t269)) (fun _ hk => trivial)))⟩; have n1_ : Az (Kd.V k60 60 w34 w.heap.size (fun k_ => some k_ ≠ (.slice Ao29 y259.length co29 : Value).ownBlock ∧ k_ ≠ gb271) (.slice Ao33 t266.length co33) t266) := ⟨(by rw [hw]; exact (by (with_reducible repeat (first | apply Kd.V_alloc | apply Kd.V_drewN | apply Kd.V_drew)); exact Kd.V_mono (Kd.V_far (p := ⟨gb271, 5, none⟩) (Kd.V_far (p := ⟨gb271, 4, none⟩) (Kd.V_far (p := ⟨gb271, 3, none⟩) (Kd.V_far (p := ⟨gb271, 2, none⟩) (Kd.V_far (p := ⟨gb271, 1, none⟩) (Kd.V_far (p := ⟨gb271, 0, none⟩) (Kd.V_mono HO268.out (fun k_ hk => (⟨hk, hk.2⟩ : _ ∧ k_ ≠ gb271))) (fun _ hk => hk.2) (.int .i64 t262)) (fun _ hk => hk.2) (.string t263)) (fun _ hk => hk.2) (.string t264)) (fun _ hk => hk.2) (.int .i64 t265)) (fun _ hk => hk.2) (.slice Ao33 t266.length co33)) (fun _ hk => hk.2) (.int .i64 t269)) (fun _ hk => ⟨hk.1.1, hk.1.2⟩)))⟩; have n2_ : Az (w34.heap[gb271]? = some (.cells #[.int .i64 t262, .string t263, .string t264, .int .i64 t265, .slice Ao33 t266.length co33, .int .i64 t269] 26 (0, 0))) := ⟨(by rw [hw]; exact (by refine bk ?_; refine blk_put (cs := #[.int .i64 t262, .string t263, .string t264, .int .i64 t265, .slice Ao33 t266.length co33, .int .i64 0]) ?_ 5 _ rfl; refine bk ?_; refine blk_put (cs := #[.int .i64 t262, .string t263, .string t264, .int .i64 t265, .slice none 0 0, .int .i64 0]) ?_ 4 _ rfl; refine bk ?_; refine blk_put (cs := #[.int .i64 t262, .string t263, .string t264, .int .i64 0, .slice none 0 0, .int .i64 0]) ?_ 3 _ rfl; refine bk ?_; refine blk_put (cs := #[.int .i64 t262, .string t263, .string (⟨#[]⟩ : ByteArray), .int .i64 0, .slice none 0 0, .int .i64 0]) ?_ 2 _ rfl; refine bk ?_; refine blk_put (cs := #[.int .i64 t262, .string (⟨#[]⟩ : ByteArray), .string (⟨#[]⟩ : ByteArray), .int .i64 0, .slice none 0 0, .int .i64 0]) ?_ 1 _ rfl; refine bk ?_; refine blk_put (cs := #[.int .i64 0, .string (⟨#[]⟩ : ByteArray), .string (⟨#[]⟩ : ByteArray), .int .i64 0, .slice none 0 0, .int .i64 0]) ?_ 0 _ rfl; refine bk ?_; exact BK271.out))⟩; have n3_ : Az (Below w.heap.size w w34) := ⟨(by rw [hw]; exact (by exact pbE HB.out))⟩; clear hw; clear HO261; clear HO268; clear BK271; clear HB; have HO261 := n0_; have HO268 := n1_; have BK271 := n2_; have HB := n3_; clear n0_ n1_ n2_ n3_; have hcz35_0 : w34.cell? ⟨gb271, 0, none⟩ = some (.int .i64 t262) := (bkC BK271.out 0).trans rfl; have hcz35_1 : w34.cell? ⟨gb271, 1, none⟩ = some (.string t263) := (bkC BK271.out 1).trans rfl; have hcz35_2 : w34.cell? ⟨gb271, 2, none⟩ = some (.string t264) := (bkC BK271.out 2).trans rfl; have hcz35_3 : w34.cell? ⟨gb271, 3, none⟩ = some (.int .i64 t265) := (bkC BK271.out 3).trans rfl; have hcz35_4 : w34.cell? ⟨gb271, 4, none⟩ = some (.slice Ao33 t266.length co33) := (bkC BK271.out 4).trans rfl; have hcz35_5 : w34.cell? ⟨gb271, 5, none⟩ = some (.int .i64 t269) := (bkC BK271.out 5).trans rfl; have hfz35_0 := bkF BK271.out 0; have hfz35_1 := bkF BK271.out 1; have hfz35_2 := bkF BK271.out 2; have hfz35_3 := bkF BK271.out 3; have hfz35_4 := bkF BK271.out 4; have hfz35_5 := bkF BK271.out 5) | ((with_reducible refine gtc (f := 11) rfl ?_); refine goesL_ (some 21) rfl rfl Tryd.func11 (by kernel_rfl) rfl #[.agg #[.int .i64 t262, .string t263, .string t264, .int .i64 t265, .slice Ao33 t266.length co33, .int .i64 t269], .string (⟨#[109]⟩ : ByteArray), .int .i64 2] rfl (by (try simp only [List.map_toArray, List.map_cons, List.map_nil]); first | done | rfl | (simp only [List.length_drop, List.length_take]; rfl)) ?_; (with_reducible refine (desc_Split.calls t262 t263 t264 t265 (fun k_ => (some k_ ≠ (.slice Ao29 y259.length co29 : Value).ownBlock ∧ k_ ≠ gb271)) _ _ t266 t269 (⟨#[109]⟩ : ByteArray) 2 t272 t273 t274 t275 t276 t279 t280 t281 t282 t283 t284 t287 t288 _ ?side1 ?side2 A2.out).mono ?_); (case side1 => exact hG.below (by exact pbE HB.out)); (case side2 => exact HO268.out); rintro e w36 ⟨v277, v285, rfl, ho0, ho1, hb⟩; refine ⟨_, rfl, ?_⟩; have n0_ := Az.mk (Kd.R_below (Kd.R_ext HO261.out) hb); have n1_ := Az.mk (Kd.V_elder' (Kd.V_ext HO268.out) (Kd.R_base ho1) hb); have n2_ := Az.mk (Kd.V_lower (Kd.V_mono (ok' := fun k_ => some k_ ≠ (v285 : Value).ownBlock ∧ some k_ ≠ (.slice Ao29 y259.length co29 : Value).ownBlock ∧ k_ ≠ gb271) ho0 (fun k_ hk_ => ⟨hk_.2, Or.elim hk_.1 (fun hs_ => hs_.1) (fun hn_ => (Kd.fresh' (Kd.R_lt (Kd.R_ext HO261.out)) k_ hn_)), Or.elim hk_.1 (fun hs_ => hs_.2) (fun hn_ => (Kd.freshB (g := gb271) (o := .cells #[.int .i64 t262, .string t263, .string t264, .int .i64 t265, .slice Ao33 t266.length co33, .int .i64 t269] 26 (0, 0)) (bk BK271.out) k_ hn_))⟩)) (pbZ (by exact pbE HB.out))); have n3_ := Az.mk (Kd.R_lower (Kd.R_mono (ok' := fun k_ => True) ho1 (fun _ hk_ => trivial)) (pbZ (by exact pbE HB.out))); have n4_ := Az.mk (bkB (g := gb271) (o := .cells #[.int .i64 t262, .string t263, .string t264, .int .i64 t265, .slice Ao33 t266.length co33, .int .i64 t269] 26 (0, 0)) (bk BK271.out) hb); have n5_ := Az.mk (pbT (by exact pbE HB.out) hb); clear HO261; clear HO268; clear BK271; clear HB; have HO261 := n0_; have HO268 := n1_; have HO278 := n2_; have HO286 := n3_; have BK271 := n4_; have HB := n5_; clear n0_ n1_ n2_ n3_ n4_ n5_; (try clear hb); (try clear hb2); (try clear hk); (try clear hi); (try clear ho0); (try clear ho1)) | ((with_reducible refine gate_dst (N := 3) rfl ?_); refine box_event ?hg (N := 3) ?hd (cs := #[.int .i64 0, .string (⟨#[]⟩ : ByteArray), .string (⟨#[]⟩ : ByteArray), .int .i64 0, .slice none 0 0, .int .i64 0]) (t := 26) ?hr ?_; (case hd => rfl); (case hg => rfl); (case hr => first | (go_simp; done) | (go_simp; rfl)); intro gb289 hg w37 hbox hb; have n0_ := Az.mk (Kd.R_below (Kd.R_ext HO261.out) hb); have n1_ := Az.mk (Kd.V_below (Kd.V_elderB (Kd.V_ext HO268.out) gb289 (Nat.le_of_eq hg.symm)) hb); have n2_ := Az.mk (Kd.V_below (Kd.V_elderB (Kd.V_ext HO278.out) gb289 (Nat.le_of_eq hg.symm)) hb); have n3_ := Az.mk (Kd.R_below (Kd.R_ext HO286.out) hb); have n4_ := Az.mk (bkB (g := gb271) (o := .cells #[.int .i64 t262, .string t263, .string t264, .int .i64 t265, .slice Ao33 t266.length co33, .int .i64 t269] 26 (0, 0)) (bk BK271.out) hb); have n5_ := Az.mk (pbT (by exact pbE HB.out) hb); have n6_ := Az.mk (hbox); have n7_ := Az.mk ((by rw [hg]; exact (pbZ (by exact pbE HB.out)) : w.heap.size ≤ gb289)); have n8_ := Az.mk ((by rw [hg]; exact (pbZ (by exact pbE HB.out)) : w.heap.size ≤ gb289)); have n9_ := Az.mk ((by rw [hg]; exact Nat.ne_of_lt (blk_lt (g := gb271) (o := .cells #[.int .i64 t262, .string t263, .string t264, .int .i64 t265, .slice Ao33 t266.length co33, .int .i64 t269] 26 (0, 0)) (bk BK271.out)) : gb271 ≠ gb289)); have n10_ := Az.mk ((by rw [hg]; exact Nat.ne_of_gt (blk_lt (g := gb271) (o := .cells #[.int .i64 t262, .string t263, .string t264, .int .i64 t265, .slice Ao33 t266.length co33, .int .i64 t269] 26 (0, 0)) (bk BK271.out)) : gb289 ≠ gb271)); clear HO261; clear HO268; clear HO278; clear HO286; clear BK271; clear HB; have HO261 := n0_; have HO268 := n1_; have HO278 := n2_; have HO286 := n3_; have BK271 := n4_; have HB := n5_; have BK289 := n6_; have GW289 := n7_; have GE289 := n8_; have NB271_289 := n9_; have NB289_271 := n10_; clear n0_ n1_ n2_ n3_ n4_ n5_ n6_ n7_ n8_ n9_ n10_; clear hb hbox hg) | ((with_reducible refine gate_dst (N := 4) rfl ?_); refine box_event ?hg (N := 4) ?hd (cs := #[.int .i64 0, .string (⟨#[]⟩ : ByteArray), .string (⟨#[]⟩ : ByteArray), .int .i64 0, .slice none 0 0, .int .i64 0]) (t := 26) ?hr ?_; (case hd => rfl); (case hg => rfl); (case hr => first | (go_simp; done) | (go_simp; rfl)); intro gb290 hg w38 hbox hb; have n0_ := Az.mk (Kd.R_below (Kd.R_ext HO261.out) hb); have n1_ := Az.mk (Kd.V_below (Kd.V_elderB (Kd.V_ext HO268.out) gb290 (Nat.le_of_eq hg.symm)) hb); have n2_ := Az.mk (Kd.V_below (Kd.V_elderB (Kd.V_ext HO278.out) gb290 (Nat.le_of_eq hg.symm)) hb); have n3_ := Az.mk (Kd.R_below (Kd.R_ext HO286.out) hb); have n4_ := Az.mk (bkB (g := gb271) (o := .cells #[.int .i64 t262, .string t263, .string t264, .int .i64 t265, .slice Ao33 t266.length co33, .int .i64 t269] 26 (0, 0)) (bk BK271.out) hb); have n5_ := Az.mk (bkB (g := gb289) (o := .cells #[.int .i64 0, .string (⟨#[]⟩ : ByteArray), .string (⟨#[]⟩ : ByteArray), .int .i64 0, .slice none 0 0, .int .i64 0] 26 (0, 0)) (bk BK289.out) hb); have n6_ := Az.mk (pbT (by exact pbE HB.out) hb); have n7_ := Az.mk (hbox); have n8_ := Az.mk ((by rw [hg]; exact (pbZ (by exact pbE HB.out)) : w.heap.size ≤ gb290)); have n9_ := Az.mk ((by rw [hg]; exact (pbZ (by exact pbE HB.out)) : w.heap.size ≤ gb290)); have n10_ := Az.mk ((by rw [hg]; exact Nat.ne_of_lt (blk_lt (g := gb271) (o := .cells #[.int .i64 t262, .string t263, .string t264, .int .i64 t265, .slice Ao33 t266.length co33, .int .i64 t269] 26 (0, 0)) (bk BK271.out)) : gb271 ≠ gb290)); have n11_ := Az.mk ((by rw [hg]; exact Nat.ne_of_gt (blk_lt (g := gb271) (o := .cells #[.int .i64 t262, .string t263, .string t264, .int .i64 t265, .slice Ao33 t266.length co33, .int .i64 t269] 26 (0, 0)) (bk BK271.out)) : gb290 ≠ gb271)); have n12_ := Az.mk ((by rw [hg]; exact Nat.ne_of_lt (blk_lt (g := gb289) (o := .cells #[.int .i64 0, .string (⟨#[]⟩ : ByteArray), .string (⟨#[]⟩ : ByteArray), .int .i64 0, .slice none 0 0, .int .i64 0] 26 (0, 0)) (bk BK289.out)) : gb289 ≠ gb290)); have n13_ := Az.mk ((by rw [hg]; exact Nat.ne_of_gt (blk_lt (g := gb289) (o := .cells #[.int .i64 0, .string (⟨#[]⟩ : ByteArray), .string (⟨#[]⟩ : ByteArray), .int .i64 0, .slice none 0 0, .int .i64 0] 26 (0, 0)) (bk BK289.out)) : gb290 ≠ gb289)); clear HO261; clear HO268; clear HO278; clear HO286; clear BK271; clear BK289; clear HB; have HO261 := n0_; have HO268 := n1_; have HO278 := n2_; have HO286 := n3_; have BK271 := n4_; have BK289 := n5_; have HB := n6_; have BK290 := n7_; have GW290 := n8_; have GE290 := n9_; have NB271_290 := n10_; have NB290_271 := n11_; have NB289_290 := n12_; have NB290_289 := n13_; clear n0_ n1_ n2_ n3_ n4_ n5_ n6_ n7_ n8_ n9_ n10_ n11_ n12_ n13_; clear hb hbox hg; have hnb39 := NB289_271.out; have hnc39 := NB271_289.out; have hnb40 := NB289_290.out; have hnc40 := NB290_289.out; have hcz41_0 : w38.cell? ⟨gb289, 0, none⟩ = some (.int .i64 0) := (bkC BK289.out 0).trans rfl; have hcz41_1 : w38.cell? ⟨gb289, 1, none⟩ = some (.string (⟨#[]⟩ : ByteArray)) := (bkC BK289.out 1).trans rfl; have hcz41_2 : w38.cell? ⟨gb289, 2, none⟩ = some (.string (⟨#[]⟩ : ByteArray)) := (bkC BK289.out 2).trans rfl; have hcz41_3 : w38.cell? ⟨gb289, 3, none⟩ = some (.int .i64 0) := (bkC BK289.out 3).trans rfl; have hcz41_4 : w38.cell? ⟨gb289, 4, none⟩ = some (.slice none 0 0) := (bkC BK289.out 4).trans rfl; have hcz41_5 : w38.cell? ⟨gb289, 5, none⟩ = some (.int .i64 0) := (bkC BK289.out 5).trans rfl; have hfz41_0 := bkF BK289.out 0; have hfz41_1 := bkF BK289.out 1; have hfz41_2 := bkF BK289.out 2; have hfz41_3 := bkF BK289.out 3; have hfz41_4 := bkF BK289.out 4; have hfz41_5 := bkF BK289.out 5; obtain ⟨Ao42, co42, eo42⟩ := Kd.V_slice HO278.out; subst eo42; have hnb43 := NB290_271.out; have hnc43 := NB271_290.out; have hcz44_0 : w38.cell? ⟨gb290, 0, none⟩ = some (.int .i64 0) := (bkC BK290.out 0).trans rfl; have hcz44_1 : w38.cell? ⟨gb290, 1, none⟩ = some (.string (⟨#[]⟩ : ByteArray)) := (bkC BK290.out 1).trans rfl; have hcz44_2 : w38.cell? ⟨gb290, 2, none⟩ = some (.string (⟨#[]⟩ : ByteArray)) := (bkC BK290.out 2).trans rfl; have hcz44_3 : w38.cell? ⟨gb290, 3, none⟩ = some (.int .i64 0) := (bkC BK290.out 3).trans rfl; have hcz44_4 : w38.cell? ⟨gb290, 4, none⟩ = some (.slice none 0 0) := (bkC BK290.out 4).trans rfl; have hcz44_5 : w38.cell? ⟨gb290, 5, none⟩ = some (.int .i64 0) := (bkC BK290.out 5).trans rfl; have hfz44_0 := bkF BK290.out 0; have hfz44_1 := bkF BK290.out 1; have hfz44_2 := bkF BK290.out 2; have hfz44_3 := bkF BK290.out 3; have hfz44_4 := bkF BK290.out 4; have hfz44_5 := bkF BK290.out 5; obtain ⟨Ao45, co45, eo45⟩ := Kd.R_slice HO286.out; subst eo45) | ((with_reducible refine gtc (f := 25) rfl ?_); refine goesL_ (some 27) rfl rfl Tryd.func25 (by kernel_rfl) rfl #[.agg #[.int .i64 t280, .string t281, .string t282, .int .i64 t283, .slice Ao45 t284.length co45, .int .i64 t287], .int .i64 4] rfl (by (try simp only [List.map_toArray, List.map_cons, List.map_nil]); first | done | rfl | (simp only [List.length_drop, List.length_take]; rfl)) ?_; (with_reducible refine (desc_Add.calls t280 t281 t282 t283 _ _ t284 t287 4 t291 t292 t293 t294 t295 t298 t299 _ ?side1 ?side2 ?side3 A3.out).mono ?_); (case side1 => exact hG.below (by exact pbE HB.out)); (case side2 => refine (Kd.R_reads' (e := 60) (base := w.heap.size) (ok := fun k_ => True) (n := t284.length) (c := co45) ?_).2.2; exact (by (with_reducible repeat (first | apply Kd.R_alloc | apply Kd.R_drewN | apply Kd.R_drew)); exact (Kd.R_mono (Kd.R_mono (Kd.R_far (p := ⟨gb290, 5, none⟩) (Kd.R_far (p := ⟨gb290, 4, none⟩) (Kd.R_far (p := ⟨gb290, 3, none⟩) (Kd.R_far (p := ⟨gb290, 2, none⟩) (Kd.R_far (p := ⟨gb290, 1, none⟩) (Kd.R_far (p := ⟨gb290, 0, none⟩) (Kd.R_far (p := ⟨gb289, 5, none⟩) (Kd.R_far (p := ⟨gb289, 4, none⟩) (Kd.R_far (p := ⟨gb289, 3, none⟩) (Kd.R_far (p := ⟨gb289, 2, none⟩) (Kd.R_far (p := ⟨gb289, 1, none⟩) (Kd.R_far (p := ⟨gb289, 0, none⟩) (Kd.R_types (Kd.R_types HO286.out BK289.out (by decide)) BK290.out (by decide)) (fun _ hk => hk.1.2) (.int .i64 t272)) (fun _ hk => hk.1.2) (.string t273)) (fun _ hk => hk.1.2) (.string t274)) (fun _ hk => hk.1.2) (.int .i64 t275)) (fun _ hk => hk.1.2) (.slice Ao42 t276.length co42)) (fun _ hk => hk.1.2) (.int .i64 t279)) (fun _ hk => hk.2) (.int .i64 t280)) (fun _ hk => hk.2) (.string t281)) (fun _ hk => hk.2) (.string t282)) (fun _ hk => hk.2) (.int .i64 t283)) (fun _ hk => hk.2) (.slice Ao45 t284.length co45)) (fun _ hk => hk.2) (.int .i64 t287)) (fun _ h_ => h_.1)) (fun _ h_ => h_.1)))); (case side3 => exact (Kd.R_reads' HO286.out).2.1); rintro e w46 ⟨v296, rfl, ho0, hb⟩; refine ⟨_, rfl, ?_⟩; have n0_ := Az.mk (Kd.R_below (by (with_reducible repeat (first | apply Kd.R_alloc | apply Kd.R_drewN | apply Kd.R_drew)); exact (Kd.R_mono (Kd.R_mono (Kd.R_far (p := ⟨gb290, 5, none⟩) (Kd.R_far (p := ⟨gb290, 4, none⟩) (Kd.R_far (p := ⟨gb290, 3, none⟩) (Kd.R_far (p := ⟨gb290, 2, none⟩) (Kd.R_far (p := ⟨gb290, 1, none⟩) (Kd.R_far (p := ⟨gb290, 0, none⟩) (Kd.R_far (p := ⟨gb289, 5, none⟩) (Kd.R_far (p := ⟨gb289, 4, none⟩) (Kd.R_far (p := ⟨gb289, 3, none⟩) (Kd.R_far (p := ⟨gb289, 2, none⟩) (Kd.R_far (p := ⟨gb289, 1, none⟩) (Kd.R_far (p := ⟨gb289, 0, none⟩) (Kd.R_types (Kd.R_types HO261.out BK289.out (by decide)) BK290.out (by decide)) (fun _ hk => hk.1.2) (.int .i64 t272)) (fun _ hk => hk.1.2) (.string t273)) (fun _ hk => hk.1.2) (.string t274)) (fun _ hk => hk.1.2) (.int .i64 t275)) (fun _ hk => hk.1.2) (.slice Ao42 t276.length co42)) (fun _ hk => hk.1.2) (.int .i64 t279)) (fun _ hk => hk.2) (.int .i64 t280)) (fun _ hk => hk.2) (.string t281)) (fun _ hk => hk.2) (.string t282)) (fun _ hk => hk.2) (.int .i64 t283)) (fun _ hk => hk.2) (.slice Ao45 t284.length co45)) (fun _ hk => hk.2) (.int .i64 t287)) (fun _ h_ => h_.1)) (fun _ h_ => h_.1))) hb); have n1_ := Az.mk (Kd.V_below (by (with_reducible repeat (first | apply Kd.V_alloc | apply Kd.V_drewN | apply Kd.V_drew)); exact (Kd.V_mono (Kd.V_mono (Kd.V_far (p := ⟨gb290, 5, none⟩) (Kd.V_far (p := ⟨gb290, 4, none⟩) (Kd.V_far (p := ⟨gb290, 3, none⟩) (Kd.V_far (p := ⟨gb290, 2, none⟩) (Kd.V_far (p := ⟨gb290, 1, none⟩) (Kd.V_far (p := ⟨gb290, 0, none⟩) (Kd.V_far (p := ⟨gb289, 5, none⟩) (Kd.V_far (p := ⟨gb289, 4, none⟩) (Kd.V_far (p := ⟨gb289, 3, none⟩) (Kd.V_far (p := ⟨gb289, 2, none⟩) (Kd.V_far (p := ⟨gb289, 1, none⟩) (Kd.V_far (p := ⟨gb289, 0, none⟩) (Kd.V_mono (Kd.V_mono HO268.out (fun k_ hk => (⟨hk, hk.1.2⟩ : _ ∧ k_ ≠ gb289))) (fun k_ hk => (⟨hk, hk.1.2⟩ : _ ∧ k_ ≠ gb290))) (fun _ hk => hk.1.2) (.int .i64 t272)) (fun _ hk => hk.1.2) (.string t273)) (fun _ hk => hk.1.2) (.string t274)) (fun _ hk => hk.1.2) (.int .i64 t275)) (fun _ hk => hk.1.2) (.slice Ao42 t276.length co42)) (fun _ hk => hk.1.2) (.int .i64 t279)) (fun _ hk => hk.2) (.int .i64 t280)) (fun _ hk => hk.2) (.string t281)) (fun _ hk => hk.2) (.string t282)) (fun _ hk => hk.2) (.int .i64 t283)) (fun _ hk => hk.2) (.slice Ao45 t284.length co45)) (fun _ hk => hk.2) (.int .i64 t287)) (fun _ h_ => h_.1)) (fun _ h_ => h_.1))) hb); have n2_ := Az.mk (Kd.V_below (by (with_reducible repeat (first | apply Kd.V_alloc | apply Kd.V_drewN | apply Kd.V_drew)); exact (Kd.V_mono (Kd.V_mono (Kd.V_far (p := ⟨gb290, 5, none⟩) (Kd.V_far (p := ⟨gb290, 4, none⟩) (Kd.V_far (p := ⟨gb290, 3, none⟩) (Kd.V_far (p := ⟨gb290, 2, none⟩) (Kd.V_far (p := ⟨gb290, 1, none⟩) (Kd.V_far (p := ⟨gb290, 0, none⟩) (Kd.V_far (p := ⟨gb289, 5, none⟩) (Kd.V_far (p := ⟨gb289, 4, none⟩) (Kd.V_far (p := ⟨gb289, 3, none⟩) (Kd.V_far (p := ⟨gb289, 2, none⟩) (Kd.V_far (p := ⟨gb289, 1, none⟩) (Kd.V_far (p := ⟨gb289, 0, none⟩) (Kd.V_mono (Kd.V_mono HO278.out (fun k_ hk => (⟨hk, hk.1.2⟩ : _ ∧ k_ ≠ gb289))) (fun k_ hk => (⟨hk, hk.1.2⟩ : _ ∧ k_ ≠ gb290))) (fun _ hk => hk.1.2) (.int .i64 t272)) (fun _ hk => hk.1.2) (.string t273)) (fun _ hk => hk.1.2) (.string t274)) (fun _ hk => hk.1.2) (.int .i64 t275)) (fun _ hk => hk.1.2) (.slice Ao42 t276.length co42)) (fun _ hk => hk.1.2) (.int .i64 t279)) (fun _ hk => hk.2) (.int .i64 t280)) (fun _ hk => hk.2) (.string t281)) (fun _ hk => hk.2) (.string t282)) (fun _ hk => hk.2) (.int .i64 t283)) (fun _ hk => hk.2) (.slice Ao45 t284.length co45)) (fun _ hk => hk.2) (.int .i64 t287)) (fun _ h_ => h_.1)) (fun _ h_ => h_.1))) hb); have n3_ := Az.mk (Kd.R_below (by (with_reducible repeat (first | apply Kd.R_alloc | apply Kd.R_drewN | apply Kd.R_drew)); exact (Kd.R_mono (Kd.R_mono (Kd.R_far (p := ⟨gb290, 5, none⟩) (Kd.R_far (p := ⟨gb290, 4, none⟩) (Kd.R_far (p := ⟨gb290, 3, none⟩) (Kd.R_far (p := ⟨gb290, 2, none⟩) (Kd.R_far (p := ⟨gb290, 1, none⟩) (Kd.R_far (p := ⟨gb290, 0, none⟩) (Kd.R_far (p := ⟨gb289, 5, none⟩) (Kd.R_far (p := ⟨gb289, 4, none⟩) (Kd.R_far (p := ⟨gb289, 3, none⟩) (Kd.R_far (p := ⟨gb289, 2, none⟩) (Kd.R_far (p := ⟨gb289, 1, none⟩) (Kd.R_far (p := ⟨gb289, 0, none⟩) (Kd.R_types (Kd.R_types HO286.out BK289.out (by decide)) BK290.out (by decide)) (fun _ hk => hk.1.2) (.int .i64 t272)) (fun _ hk => hk.1.2) (.string t273)) (fun _ hk => hk.1.2) (.string t274)) (fun _ hk => hk.1.2) (.int .i64 t275)) (fun _ hk => hk.1.2) (.slice Ao42 t276.length co42)) (fun _ hk => hk.1.2) (.int .i64 t279)) (fun _ hk => hk.2) (.int .i64 t280)) (fun _ hk => hk.2) (.string t281)) (fun _ hk => hk.2) (.string t282)) (fun _ hk => hk.2) (.int .i64 t283)) (fun _ hk => hk.2) (.slice Ao45 t284.length co45)) (fun _ hk => hk.2) (.int .i64 t287)) (fun _ h_ => h_.1)) (fun _ h_ => h_.1))) hb); have n4_ := Az.mk (Kd.V_lower (Kd.V_mono (ok' := fun k_ => some k_ ≠ (.slice Ao29 y259.length co29 : Value).ownBlock ∧ some k_ ≠ (.slice Ao45 t284.length co45 : Value).ownBlock ∧ k_ ≠ gb271 ∧ k_ ≠ gb289 ∧ k_ ≠ gb290) ho0 (fun k_ hk_ => ⟨(Kd.fresh' (Kd.R_lt (by (with_reducible repeat (first | apply Kd.R_alloc | apply Kd.R_drewN | apply Kd.R_drew)); exact (Kd.R_mono (Kd.R_mono (Kd.R_far (p := ⟨gb290, 5, none⟩) (Kd.R_far (p := ⟨gb290, 4, none⟩) (Kd.R_far (p := ⟨gb290, 3, none⟩) (Kd.R_far (p := ⟨gb290, 2, none⟩) (Kd.R_far (p := ⟨gb290, 1, none⟩) (Kd.R_far (p := ⟨gb290, 0, none⟩) (Kd.R_far (p := ⟨gb289, 5, none⟩) (Kd.R_far (p := ⟨gb289, 4, none⟩) (Kd.R_far (p := ⟨gb289, 3, none⟩) (Kd.R_far (p := ⟨gb289, 2, none⟩) (Kd.R_far (p := ⟨gb289, 1, none⟩) (Kd.R_far (p := ⟨gb289, 0, none⟩) (Kd.R_types (Kd.R_types HO261.out BK289.out (by decide)) BK290.out (by decide)) (fun _ hk => hk.1.2) (.int .i64 t272)) (fun _ hk => hk.1.2) (.string t273)) (fun _ hk => hk.1.2) (.string t274)) (fun _ hk => hk.1.2) (.int .i64 t275)) (fun _ hk => hk.1.2) (.slice Ao42 t276.length co42)) (fun _ hk => hk.1.2) (.int .i64 t279)) (fun _ hk => hk.2) (.int .i64 t280)) (fun _ hk => hk.2) (.string t281)) (fun _ hk => hk.2) (.string t282)) (fun _ hk => hk.2) (.int .i64 t283)) (fun _ hk => hk.2) (.slice Ao45 t284.length co45)) (fun _ hk => hk.2) (.int .i64 t287)) (fun _ h_ => h_.1)) (fun _ h_ => h_.1)))) k_ hk_), (Kd.fresh' (Kd.R_lt (by (with_reducible repeat (first | apply Kd.R_alloc | apply Kd.R_drewN | apply Kd.R_drew)); exact (Kd.R_mono (Kd.R_mono (Kd.R_far (p := ⟨gb290, 5, none⟩) (Kd.R_far (p := ⟨gb290, 4, none⟩) (Kd.R_far (p := ⟨gb290, 3, none⟩) (Kd.R_far (p := ⟨gb290, 2, none⟩) (Kd.R_far (p := ⟨gb290, 1, none⟩) (Kd.R_far (p := ⟨gb290, 0, none⟩) (Kd.R_far (p := ⟨gb289, 5, none⟩) (Kd.R_far (p := ⟨gb289, 4, none⟩) (Kd.R_far (p := ⟨gb289, 3, none⟩) (Kd.R_far (p := ⟨gb289, 2, none⟩) (Kd.R_far (p := ⟨gb289, 1, none⟩) (Kd.R_far (p := ⟨gb289, 0, none⟩) (Kd.R_types (Kd.R_types HO286.out BK289.out (by decide)) BK290.out (by decide)) (fun _ hk => hk.1.2) (.int .i64 t272)) (fun _ hk => hk.1.2) (.string t273)) (fun _ hk => hk.1.2) (.string t274)) (fun _ hk => hk.1.2) (.int .i64 t275)) (fun _ hk => hk.1.2) (.slice Ao42 t276.length co42)) (fun _ hk => hk.1.2) (.int .i64 t279)) (fun _ hk => hk.2) (.int .i64 t280)) (fun _ hk => hk.2) (.string t281)) (fun _ hk => hk.2) (.string t282)) (fun _ hk => hk.2) (.int .i64 t283)) (fun _ hk => hk.2) (.slice Ao45 t284.length co45)) (fun _ hk => hk.2) (.int .i64 t287)) (fun _ h_ => h_.1)) (fun _ h_ => h_.1)))) k_ hk_), (Kd.freshB (g := gb271) (o := .cells #[.int .i64 t262, .string t263, .string t264, .int .i64 t265, .slice Ao33 t266.length co33, .int .i64 t269] 26 (0, 0)) (by refine bk ?_; refine blk_far ?_ NB271_290.out _; refine bk ?_; refine blk_far ?_ NB271_290.out _; refine bk ?_; refine blk_far ?_ NB271_290.out _; refine bk ?_; refine blk_far ?_ NB271_290.out _; refine bk ?_; refine blk_far ?_ NB271_290.out _; refine bk ?_; refine blk_far ?_ NB271_290.out _; refine bk ?_; refine blk_far ?_ NB271_289.out _; refine bk ?_; refine blk_far ?_ NB271_289.out _; refine bk ?_; refine blk_far ?_ NB271_289.out _; refine bk ?_; refine blk_far ?_ NB271_289.out _; refine bk ?_; refine blk_far ?_ NB271_289.out _; refine bk ?_; refine blk_far ?_ NB271_289.out _; refine bk ?_; exact BK271.out) k_ hk_), (Kd.freshB (g := gb289) (o := .cells #[.int .i64 t272, .string t273, .string t274, .int .i64 t275, .slice Ao42 t276.length co42, .int .i64 t279] 26 (0, 0)) (by refine bk ?_; refine blk_far ?_ NB289_290.out _; refine bk ?_; refine blk_far ?_ NB289_290.out _; refine bk ?_; refine blk_far ?_ NB289_290.out _; refine bk ?_; refine blk_far ?_ NB289_290.out _; refine bk ?_; refine blk_far ?_ NB289_290.out _; refine bk ?_; refine blk_far ?_ NB289_290.out _; refine bk ?_; refine blk_put (cs := #[.int .i64 t272, .string t273, .string t274, .int .i64 t275, .slice Ao42 t276.length co42, .int .i64 0]) ?_ 5 _ rfl; refine bk ?_; refine blk_put (cs := #[.int .i64 t272, .string t273, .string t274, .int .i64 t275, .slice none 0 0, .int .i64 0]) ?_ 4 _ rfl; refine bk ?_; refine blk_put (cs := #[.int .i64 t272, .string t273, .string t274, .int .i64 0, .slice none 0 0, .int .i64 0]) ?_ 3 _ rfl; refine bk ?_; refine blk_put (cs := #[.int .i64 t272, .string t273, .string (⟨#[]⟩ : ByteArray), .int .i64 0, .slice none 0 0, .int .i64 0]) ?_ 2 _ rfl; refine bk ?_; refine blk_put (cs := #[.int .i64 t272, .string (⟨#[]⟩ : ByteArray), .string (⟨#[]⟩ : ByteArray), .int .i64 0, .slice none 0 0, .int .i64 0]) ?_ 1 _ rfl; refine bk ?_; refine blk_put (cs := #[.int .i64 0, .string (⟨#[]⟩ : ByteArray), .string (⟨#[]⟩ : ByteArray), .int .i64 0, .slice none 0 0, .int .i64 0]) ?_ 0 _ rfl; refine bk ?_; exact BK289.out) k_ hk_), (Kd.freshB (g := gb290) (o := .cells #[.int .i64 t280, .string t281, .string t282, .int .i64 t283, .slice Ao45 t284.length co45, .int .i64 t287] 26 (0, 0)) (by refine bk ?_; refine blk_put (cs := #[.int .i64 t280, .string t281, .string t282, .int .i64 t283, .slice Ao45 t284.length co45, .int .i64 0]) ?_ 5 _ rfl; refine bk ?_; refine blk_put (cs := #[.int .i64 t280, .string t281, .string t282, .int .i64 t283, .slice none 0 0, .int .i64 0]) ?_ 4 _ rfl; refine bk ?_; refine blk_put (cs := #[.int .i64 t280, .string t281, .string t282, .int .i64 0, .slice none 0 0, .int .i64 0]) ?_ 3 _ rfl; refine bk ?_; refine blk_put (cs := #[.int .i64 t280, .string t281, .string (⟨#[]⟩ : ByteArray), .int .i64 0, .slice none 0 0, .int .i64 0]) ?_ 2 _ rfl; refine bk ?_; refine blk_put (cs := #[.int .i64 t280, .string (⟨#[]⟩ : ByteArray), .string (⟨#[]⟩ : ByteArray), .int .i64 0, .slice none 0 0, .int .i64 0]) ?_ 1 _ rfl; refine bk ?_; refine blk_put (cs := #[.int .i64 0, .string (⟨#[]⟩ : ByteArray), .string (⟨#[]⟩ : ByteArray), .int .i64 0, .slice none 0 0, .int .i64 0]) ?_ 0 _ rfl; refine bk ?_; refine blk_far ?_ NB290_289.out _; refine bk ?_; refine blk_far ?_ NB290_289.out _; refine bk ?_; refine blk_far ?_ NB290_289.out _; refine bk ?_; refine blk_far ?_ NB290_289.out _; refine bk ?_; refine blk_far ?_ NB290_289.out _; refine bk ?_; refine blk_far ?_ NB290_289.out _; refine bk ?_; exact BK290.out) k_ hk_)⟩)) (pbZ (by exact pbE HB.out))); have n5_ := Az.mk (bkB (g := gb271) (o := .cells #[.int .i64 t262, .string t263, .string t264, .int .i64 t265, .slice Ao33 t266.length co33, .int .i64 t269] 26 (0, 0)) (by refine bk ?_; refine blk_far ?_ NB271_290.out _; refine bk ?_; refine blk_far ?_ NB271_290.out _; refine bk ?_; refine blk_far ?_ NB271_290.out _; refine bk ?_; refine blk_far ?_ NB271_290.out _; refine bk ?_; refine blk_far ?_ NB271_290.out _; refine bk ?_; refine blk_far ?_ NB271_290.out _; refine bk ?_; refine blk_far ?_ NB271_289.out _; refine bk ?_; refine blk_far ?_ NB271_289.out _; refine bk ?_; refine blk_far ?_ NB271_289.out _; refine bk ?_; refine blk_far ?_ NB271_289.out _; refine bk ?_; refine blk_far ?_ NB271_289.out _; refine bk ?_; refine blk_far ?_ NB271_289.out _; refine bk ?_; exact BK271.out) hb); have n6_ := Az.mk (bkB (g := gb289) (o := .cells #[.int .i64 t272, .string t273, .string t274, .int .i64 t275, .slice Ao42 t276.length co42, .int .i64 t279] 26 (0, 0)) (by refine bk ?_; refine blk_far ?_ NB289_290.out _; refine bk ?_; refine blk_far ?_ NB289_290.out _; refine bk ?_; refine blk_far ?_ NB289_290.out _; refine bk ?_; refine blk_far ?_ NB289_290.out _; refine bk ?_; refine blk_far ?_ NB289_290.out _; refine bk ?_; refine blk_far ?_ NB289_290.out _; refine bk ?_; refine blk_put (cs := #[.int .i64 t272, .string t273, .string t274, .int .i64 t275, .slice Ao42 t276.length co42, .int .i64 0]) ?_ 5 _ rfl; refine bk ?_; refine blk_put (cs := #[.int .i64 t272, .string t273, .string t274, .int .i64 t275, .slice none 0 0, .int .i64 0]) ?_ 4 _ rfl; refine bk ?_; refine blk_put (cs := #[.int .i64 t272, .string t273, .string t274, .int .i64 0, .slice none 0 0, .int .i64 0]) ?_ 3 _ rfl; refine bk ?_; refine blk_put (cs := #[.int .i64 t272, .string t273, .string (⟨#[]⟩ : ByteArray), .int .i64 0, .slice none 0 0, .int .i64 0]) ?_ 2 _ rfl; refine bk ?_; refine blk_put (cs := #[.int .i64 t272, .string (⟨#[]⟩ : ByteArray), .string (⟨#[]⟩ : ByteArray), .int .i64 0, .slice none 0 0, .int .i64 0]) ?_ 1 _ rfl; refine bk ?_; refine blk_put (cs := #[.int .i64 0, .string (⟨#[]⟩ : ByteArray), .string (⟨#[]⟩ : ByteArray), .int .i64 0, .slice none 0 0, .int .i64 0]) ?_ 0 _ rfl; refine bk ?_; exact BK289.out) hb); have n7_ := Az.mk (bkB (g := gb290) (o := .cells #[.int .i64 t280, .string t281, .string t282, .int .i64 t283, .slice Ao45 t284.length co45, .int .i64 t287] 26 (0, 0)) (by refine bk ?_; refine blk_put (cs := #[.int .i64 t280, .string t281, .string t282, .int .i64 t283, .slice Ao45 t284.length co45, .int .i64 0]) ?_ 5 _ rfl; refine bk ?_; refine blk_put (cs := #[.int .i64 t280, .string t281, .string t282, .int .i64 t283, .slice none 0 0, .int .i64 0]) ?_ 4 _ rfl; refine bk ?_; refine blk_put (cs := #[.int .i64 t280, .string t281, .string t282, .int .i64 0, .slice none 0 0, .int .i64 0]) ?_ 3 _ rfl; refine bk ?_; refine blk_put (cs := #[.int .i64 t280, .string t281, .string (⟨#[]⟩ : ByteArray), .int .i64 0, .slice none 0 0, .int .i64 0]) ?_ 2 _ rfl; refine bk ?_; refine blk_put (cs := #[.int .i64 t280, .string (⟨#[]⟩ : ByteArray), .string (⟨#[]⟩ : ByteArray), .int .i64 0, .slice none 0 0, .int .i64 0]) ?_ 1 _ rfl; refine bk ?_; refine blk_put (cs := #[.int .i64 0, .string (⟨#[]⟩ : ByteArray), .string (⟨#[]⟩ : ByteArray), .int .i64 0, .slice none 0 0, .int .i64 0]) ?_ 0 _ rfl; refine bk ?_; refine blk_far ?_ NB290_289.out _; refine bk ?_; refine blk_far ?_ NB290_289.out _; refine bk ?_; refine blk_far ?_ NB290_289.out _; refine bk ?_; refine blk_far ?_ NB290_289.out _; refine bk ?_; refine blk_far ?_ NB290_289.out _; refine bk ?_; refine blk_far ?_ NB290_289.out _; refine bk ?_; exact BK290.out) hb); have n8_ := Az.mk (pbT (by exact pbE HB.out) hb); clear HO261; clear HO268; clear HO278; clear HO286; clear BK271; clear BK289; clear BK290; clear HB; have HO261 := n0_; have HO268 := n1_; have HO278 := n2_; have HO286 := n3_; have HO297 := n4_; have BK271 := n5_; have BK289 := n6_; have BK290 := n7_; have HB := n8_; clear n0_ n1_ n2_ n3_ n4_ n5_ n6_ n7_ n8_; (try clear hb); (try clear hb2); (try clear hk); (try clear hi); (try clear ho0)) | ((with_reducible refine gate_dst (N := 6) rfl ?_); refine box_event ?hg (N := 6) ?hd (cs := #[.int .i64 0, .string (⟨#[]⟩ : ByteArray), .string (⟨#[]⟩ : ByteArray), .int .i64 0, .slice none 0 0, .int .i64 0]) (t := 26) ?hr ?_; (case hd => rfl); (case hg => rfl); (case hr => first | (go_simp; done) | (go_simp; rfl)); intro gb300 hg w47 hbox hb; have n0_ := Az.mk (Kd.R_below (Kd.R_ext HO261.out) hb); have n1_ := Az.mk (Kd.V_below (Kd.V_elderB (Kd.V_ext HO268.out) gb300 (Nat.le_of_eq hg.symm)) hb); have n2_ := Az.mk (Kd.V_below (Kd.V_elderB (Kd.V_ext HO278.out) gb300 (Nat.le_of_eq hg.symm)) hb); have n3_ := Az.mk (Kd.R_below (Kd.R_ext HO286.out) hb); have n4_ := Az.mk (Kd.V_below (Kd.V_elderB (Kd.V_ext HO297.out) gb300 (Nat.le_of_eq hg.symm)) hb); have n5_ := Az.mk (bkB (g := gb271) (o := .cells #[.int .i64 t262, .string t263, .string t264, .int .i64 t265, .slice Ao33 t266.length co33, .int .i64 t269] 26 (0, 0)) (bk BK271.out) hb); have n6_ := Az.mk (bkB (g := gb289) (o := .cells #[.int .i64 t272, .string t273, .string t274, .int .i64 t275, .slice Ao42 t276.length co42, .int .i64 t279] 26 (0, 0)) (bk BK289.out) hb); have n7_ := Az.mk (bkB (g := gb290) (o := .cells #[.int .i64 t280, .string t281, .string t282, .int .i64 t283, .slice Ao45 t284.length co45, .int .i64 t287] 26 (0, 0)) (bk BK290.out) hb); have n8_ := Az.mk (pbT (by exact pbE HB.out) hb); have n9_ := Az.mk (hbox); have n10_ := Az.mk ((by rw [hg]; exact (pbZ (by exact pbE HB.out)) : w.heap.size ≤ gb300)); have n11_ := Az.mk ((by rw [hg]; exact (pbZ (by exact pbE HB.out)) : w.heap.size ≤ gb300)); have n12_ := Az.mk ((by rw [hg]; exact Nat.ne_of_lt (blk_lt (g := gb271) (o := .cells #[.int .i64 t262, .string t263, .string t264, .int .i64 t265, .slice Ao33 t266.length co33, .int .i64 t269] 26 (0, 0)) (bk BK271.out)) : gb271 ≠ gb300)); have n13_ := Az.mk ((by rw [hg]; exact Nat.ne_of_gt (blk_lt (g := gb271) (o := .cells #[.int .i64 t262, .string t263, .string t264, .int .i64 t265, .slice Ao33 t266.length co33, .int .i64 t269] 26 (0, 0)) (bk BK271.out)) : gb300 ≠ gb271)); have n14_ := Az.mk ((by rw [hg]; exact Nat.ne_of_lt (blk_lt (g := gb289) (o := .cells #[.int .i64 t272, .string t273, .string t274, .int .i64 t275, .slice Ao42 t276.length co42, .int .i64 t279] 26 (0, 0)) (bk BK289.out)) : gb289 ≠ gb300)); have n15_ := Az.mk ((by rw [hg]; exact Nat.ne_of_gt (blk_lt (g := gb289) (o := .cells #[.int .i64 t272, .string t273, .string t274, .int .i64 t275, .slice Ao42 t276.length co42, .int .i64 t279] 26 (0, 0)) (bk BK289.out)) : gb300 ≠ gb289)); have n16_ := Az.mk ((by rw [hg]; exact Nat.ne_of_lt (blk_lt (g := gb290) (o := .cells #[.int .i64 t280, .string t281, .string t282, .int .i64 t283, .slice Ao45 t284.length co45, .int .i64 t287] 26 (0, 0)) (bk BK290.out)) : gb290 ≠ gb300)); have n17_ := Az.mk ((by rw [hg]; exact Nat.ne_of_gt (blk_lt (g := gb290) (o := .cells #[.int .i64 t280, .string t281, .string t282, .int .i64 t283, .slice Ao45 t284.length co45, .int .i64 t287] 26 (0, 0)) (bk BK290.out)) : gb300 ≠ gb290)); clear HO261; clear HO268; clear HO278; clear HO286; clear HO297; clear BK271; clear BK289; clear BK290; clear HB; have HO261 := n0_; have HO268 := n1_; have HO278 := n2_; have HO286 := n3_; have HO297 := n4_; have BK271 := n5_; have BK289 := n6_; have BK290 := n7_; have HB := n8_; have BK300 := n9_; have GW300 := n10_; have GE300 := n11_; have NB271_300 := n12_; have NB300_271 := n13_; have NB289_300 := n14_; have NB300_289 := n15_; have NB290_300 := n16_; have NB300_290 := n17_; clear n0_ n1_ n2_ n3_ n4_ n5_ n6_ n7_ n8_ n9_ n10_ n11_ n12_ n13_ n14_ n15_ n16_ n17_; clear hb hbox hg; have hnb48 := NB300_271.out; have hnc48 := NB271_300.out; have hnb49 := NB300_289.out; have hnc49 := NB289_300.out; have hnb50 := NB300_290.out; have hnc50 := NB290_300.out; have hcz51_0 : w47.cell? ⟨gb300, 0, none⟩ = some (.int .i64 0) := (bkC BK300.out 0).trans rfl; have hcz51_1 : w47.cell? ⟨gb300, 1, none⟩ = some (.string (⟨#[]⟩ : ByteArray)) := (bkC BK300.out 1).trans rfl; have hcz51_2 : w47.cell? ⟨gb300, 2, none⟩ = some (.string (⟨#[]⟩ : ByteArray)) := (bkC BK300.out 2).trans rfl; have hcz51_3 : w47.cell? ⟨gb300, 3, none⟩ = some (.int .i64 0) := (bkC BK300.out 3).trans rfl; have hcz51_4 : w47.cell? ⟨gb300, 4, none⟩ = some (.slice none 0 0) := (bkC BK300.out 4).trans rfl; have hcz51_5 : w47.cell? ⟨gb300, 5, none⟩ = some (.int .i64 0) := (bkC BK300.out 5).trans rfl; have hfz51_0 := bkF BK300.out 0; have hfz51_1 := bkF BK300.out 1; have hfz51_2 := bkF BK300.out 2; have hfz51_3 := bkF BK300.out 3; have hfz51_4 := bkF BK300.out 4; have hfz51_5 := bkF BK300.out 5; obtain ⟨Ao52, co52, eo52⟩ := Kd.V_slice HO297.out; subst eo52) | ((with_reducible refine gtc (f := 19) rfl ?_); refine goesL_ (some 32) rfl rfl Tryd.func19 (by kernel_rfl) rfl #[.agg #[.int .i64 t291, .string t292, .string t293, .int .i64 t294, .slice Ao52 t295.length co52, .int .i64 t298]] rfl (by (try simp only [List.map_toArray, List.map_cons, List.map_nil]); first | done | rfl | (simp only [List.length_drop, List.length_take]; rfl)) ?_; (with_reducible refine (desc_Put.calls k t291 t292 t293 t294 _ _ t295 t298 t301 _ ?side1 ?side2 ?side3 A4.out).mono ?_); (case side1 => exact hG.below (by exact pbE HB.out)); (case side2 => refine (Kd.V_reads' (e := 60) (base := w.heap.size) (ok := fun k_ => ((some k_ ≠ (.slice Ao29 y259.length co29 : Value).ownBlock ∧ (some k_ ≠ (.slice Ao45 t284.length co45 : Value).ownBlock ∧ (k_ ≠ gb271 ∧ (k_ ≠ gb289 ∧ k_ ≠ gb290)))) ∧ k_ ≠ gb300)) (n := t295.length) (c := co52) ?_).2.2; exact (by (with_reducible repeat (first | apply Kd.V_alloc | apply Kd.V_drewN | apply Kd.V_drew)); exact (Kd.V_mono (Kd.V_far (p := ⟨gb300, 5, none⟩) (Kd.V_far (p := ⟨gb300, 4, none⟩) (Kd.V_far (p := ⟨gb300, 3, none⟩) (Kd.V_far (p := ⟨gb300, 2, none⟩) (Kd.V_far (p := ⟨gb300, 1, none⟩) (Kd.V_far (p := ⟨gb300, 0, none⟩) (Kd.V_mono HO297.out (fun k_ hk => (⟨hk, hk.2⟩ : _ ∧ k_ ≠ gb300))) (fun _ hk => hk.2) (.int .i64 t291)) (fun _ hk => hk.2) (.string t292)) (fun _ hk => hk.2) (.string t293)) (fun _ hk => hk.2) (.int .i64 t294)) (fun _ hk => hk.2) (.slice Ao52 t295.length co52)) (fun _ hk => hk.2) (.int .i64 t298)) (fun _ h_ => h_.1)))); (case side3 => exact (Kd.V_reads' HO297.out).2.1); rintro e w53 ⟨rfl, hb⟩; refine ⟨_, rfl, ?_⟩; have n0_ := Az.mk (Kd.R_below (by (with_reducible repeat (first | apply Kd.R_alloc | apply Kd.R_drewN | apply Kd.R_drew)); exact (Kd.R_mono (Kd.R_far (p := ⟨gb300, 5, none⟩) (Kd.R_far (p := ⟨gb300, 4, none⟩) (Kd.R_far (p := ⟨gb300, 3, none⟩) (Kd.R_far (p := ⟨gb300, 2, none⟩) (Kd.R_far (p := ⟨gb300, 1, none⟩) (Kd.R_far (p := ⟨gb300, 0, none⟩) (Kd.R_types HO261.out BK300.out (by decide)) (fun _ hk => hk.2) (.int .i64 t291)) (fun _ hk => hk.2) (.string t292)) (fun _ hk => hk.2) (.string t293)) (fun _ hk => hk.2) (.int .i64 t294)) (fun _ hk => hk.2) (.slice Ao52 t295.length co52)) (fun _ hk => hk.2) (.int .i64 t298)) (fun _ h_ => h_.1))) hb); have n1_ := Az.mk (Kd.V_below (by (with_reducible repeat (first | apply Kd.V_alloc | apply Kd.V_drewN | apply Kd.V_drew)); exact (Kd.V_mono (Kd.V_far (p := ⟨gb300, 5, none⟩) (Kd.V_far (p := ⟨gb300, 4, none⟩) (Kd.V_far (p := ⟨gb300, 3, none⟩) (Kd.V_far (p := ⟨gb300, 2, none⟩) (Kd.V_far (p := ⟨gb300, 1, none⟩) (Kd.V_far (p := ⟨gb300, 0, none⟩) (Kd.V_mono HO268.out (fun k_ hk => (⟨hk, hk.2⟩ : _ ∧ k_ ≠ gb300))) (fun _ hk => hk.2) (.int .i64 t291)) (fun _ hk => hk.2) (.string t292)) (fun _ hk => hk.2) (.string t293)) (fun _ hk => hk.2) (.int .i64 t294)) (fun _ hk => hk.2) (.slice Ao52 t295.length co52)) (fun _ hk => hk.2) (.int .i64 t298)) (fun _ h_ => h_.1))) hb); have n2_ := Az.mk (Kd.V_below (by (with_reducible repeat (first | apply Kd.V_alloc | apply Kd.V_drewN | apply Kd.V_drew)); exact (Kd.V_mono (Kd.V_far (p := ⟨gb300, 5, none⟩) (Kd.V_far (p := ⟨gb300, 4, none⟩) (Kd.V_far (p := ⟨gb300, 3, none⟩) (Kd.V_far (p := ⟨gb300, 2, none⟩) (Kd.V_far (p := ⟨gb300, 1, none⟩) (Kd.V_far (p := ⟨gb300, 0, none⟩) (Kd.V_mono HO278.out (fun k_ hk => (⟨hk, hk.2⟩ : _ ∧ k_ ≠ gb300))) (fun _ hk => hk.2) (.int .i64 t291)) (fun _ hk => hk.2) (.string t292)) (fun _ hk => hk.2) (.string t293)) (fun _ hk => hk.2) (.int .i64 t294)) (fun _ hk => hk.2) (.slice Ao52 t295.length co52)) (fun _ hk => hk.2) (.int .i64 t298)) (fun _ h_ => h_.1))) hb); have n3_ := Az.mk (Kd.R_below (by (with_reducible repeat (first | apply Kd.R_alloc | apply Kd.R_drewN | apply Kd.R_drew)); exact (Kd.R_mono (Kd.R_far (p := ⟨gb300, 5, none⟩) (Kd.R_far (p := ⟨gb300, 4, none⟩) (Kd.R_far (p := ⟨gb300, 3, none⟩) (Kd.R_far (p := ⟨gb300, 2, none⟩) (Kd.R_far (p := ⟨gb300, 1, none⟩) (Kd.R_far (p := ⟨gb300, 0, none⟩) (Kd.R_types HO286.out BK300.out (by decide)) (fun _ hk => hk.2) (.int .i64 t291)) (fun _ hk => hk.2) (.string t292)) (fun _ hk => hk.2) (.string t293)) (fun _ hk => hk.2) (.int .i64 t294)) (fun _ hk => hk.2) (.slice Ao52 t295.length co52)) (fun _ hk => hk.2) (.int .i64 t298)) (fun _ h_ => h_.1))) hb); have n4_ := Az.mk (Kd.V_below (by (with_reducible repeat (first | apply Kd.V_alloc | apply Kd.V_drewN | apply Kd.V_drew)); exact (Kd.V_mono (Kd.V_far (p := ⟨gb300, 5, none⟩) (Kd.V_far (p := ⟨gb300, 4, none⟩) (Kd.V_far (p := ⟨gb300, 3, none⟩) (Kd.V_far (p := ⟨gb300, 2, none⟩) (Kd.V_far (p := ⟨gb300, 1, none⟩) (Kd.V_far (p := ⟨gb300, 0, none⟩) (Kd.V_mono HO297.out (fun k_ hk => (⟨hk, hk.2⟩ : _ ∧ k_ ≠ gb300))) (fun _ hk => hk.2) (.int .i64 t291)) (fun _ hk => hk.2) (.string t292)) (fun _ hk => hk.2) (.string t293)) (fun _ hk => hk.2) (.int .i64 t294)) (fun _ hk => hk.2) (.slice Ao52 t295.length co52)) (fun _ hk => hk.2) (.int .i64 t298)) (fun _ h_ => h_.1))) hb); have n5_ := Az.mk (bkB (g := gb271) (o := .cells #[.int .i64 t262, .string t263, .string t264, .int .i64 t265, .slice Ao33 t266.length co33, .int .i64 t269] 26 (0, 0)) (by refine bk ?_; refine blk_far ?_ NB271_300.out _; refine bk ?_; refine blk_far ?_ NB271_300.out _; refine bk ?_; refine blk_far ?_ NB271_300.out _; refine bk ?_; refine blk_far ?_ NB271_300.out _; refine bk ?_; refine blk_far ?_ NB271_300.out _; refine bk ?_; refine blk_far ?_ NB271_300.out _; refine bk ?_; exact BK271.out) hb); have n6_ := Az.mk (bkB (g := gb289) (o := .cells #[.int .i64 t272, .string t273, .string t274, .int .i64 t275, .slice Ao42 t276.length co42, .int .i64 t279] 26 (0, 0)) (by refine bk ?_; refine blk_far ?_ NB289_300.out _; refine bk ?_; refine blk_far ?_ NB289_300.out _; refine bk ?_; refine blk_far ?_ NB289_300.out _; refine bk ?_; refine blk_far ?_ NB289_300.out _; refine bk ?_; refine blk_far ?_ NB289_300.out _; refine bk ?_; refine blk_far ?_ NB289_300.out _; refine bk ?_; exact BK289.out) hb); have n7_ := Az.mk (bkB (g := gb290) (o := .cells #[.int .i64 t280, .string t281, .string t282, .int .i64 t283, .slice Ao45 t284.length co45, .int .i64 t287] 26 (0, 0)) (by refine bk ?_; refine blk_far ?_ NB290_300.out _; refine bk ?_; refine blk_far ?_ NB290_300.out _; refine bk ?_; refine blk_far ?_ NB290_300.out _; refine bk ?_; refine blk_far ?_ NB290_300.out _; refine bk ?_; refine blk_far ?_ NB290_300.out _; refine bk ?_; refine blk_far ?_ NB290_300.out _; refine bk ?_; exact BK290.out) hb); have n8_ := Az.mk (bkB (g := gb300) (o := .cells #[.int .i64 t291, .string t292, .string t293, .int .i64 t294, .slice Ao52 t295.length co52, .int .i64 t298] 26 (0, 0)) (by refine bk ?_; refine blk_put (cs := #[.int .i64 t291, .string t292, .string t293, .int .i64 t294, .slice Ao52 t295.length co52, .int .i64 0]) ?_ 5 _ rfl; refine bk ?_; refine blk_put (cs := #[.int .i64 t291, .string t292, .string t293, .int .i64 t294, .slice none 0 0, .int .i64 0]) ?_ 4 _ rfl; refine bk ?_; refine blk_put (cs := #[.int .i64 t291, .string t292, .string t293, .int .i64 0, .slice none 0 0, .int .i64 0]) ?_ 3 _ rfl; refine bk ?_; refine blk_put (cs := #[.int .i64 t291, .string t292, .string (⟨#[]⟩ : ByteArray), .int .i64 0, .slice none 0 0, .int .i64 0]) ?_ 2 _ rfl; refine bk ?_; refine blk_put (cs := #[.int .i64 t291, .string (⟨#[]⟩ : ByteArray), .string (⟨#[]⟩ : ByteArray), .int .i64 0, .slice none 0 0, .int .i64 0]) ?_ 1 _ rfl; refine bk ?_; refine blk_put (cs := #[.int .i64 0, .string (⟨#[]⟩ : ByteArray), .string (⟨#[]⟩ : ByteArray), .int .i64 0, .slice none 0 0, .int .i64 0]) ?_ 0 _ rfl; refine bk ?_; exact BK300.out) hb); have n9_ := Az.mk (pbT (by exact pbE HB.out) hb); clear HO261; clear HO268; clear HO278; clear HO286; clear HO297; clear BK271; clear BK289; clear BK290; clear BK300; clear HB; have HO261 := n0_; have HO268 := n1_; have HO278 := n2_; have HO286 := n3_; have HO297 := n4_; have BK271 := n5_; have BK289 := n6_; have BK290 := n7_; have BK300 := n8_; have HB := n9_; clear n0_ n1_ n2_ n3_ n4_ n5_ n6_ n7_ n8_ n9_; (try clear hb); (try clear hb2); (try clear hk); (try clear hi)) | ((with_reducible refine gtc (f := 21) rfl ?_); refine goesL_ (some 33) rfl rfl Tryd.func21 (by kernel_rfl) rfl #[.string t301] rfl (by (try simp only [List.map_toArray, List.map_cons, List.map_nil]); first | done | rfl | (simp only [List.length_drop, List.length_take]; rfl)) ?_; (with_reducible refine (desc_Parse.calls k t301 t302 t303 t304 t305 t306 t309 t310 _ ?side1 A5.out).mono ?_); (case side1 => exact hG.below (by exact pbE HB.out)); rintro e w54 ⟨v307, rfl, ho0, hb⟩; refine ⟨_, rfl, ?_⟩; have n0_ := Az.mk (Kd.R_below (Kd.R_ext HO261.out) hb); have n1_ := Az.mk (Kd.V_below (Kd.V_ext HO268.out) hb); have n2_ := Az.mk (Kd.V_below (Kd.V_ext HO278.out) hb); have n3_ := Az.mk (Kd.R_below (Kd.R_ext HO286.out) hb); have n4_ := Az.mk (Kd.V_below (Kd.V_ext HO297.out) hb); have n5_ := Az.mk (Kd.V_lower (Kd.V_mono (ok' := fun k_ => some k_ ≠ (.slice Ao29 y259.length co29 : Value).ownBlock ∧ some k_ ≠ (.slice Ao45 t284.length co45 : Value).ownBlock ∧ k_ ≠ gb271 ∧ k_ ≠ gb289 ∧ k_ ≠ gb290 ∧ k_ ≠ gb300) ho0 (fun k_ hk_ => ⟨(Kd.fresh' (Kd.R_lt (Kd.R_ext HO261.out)) k_ hk_), (Kd.fresh' (Kd.R_lt (Kd.R_ext HO286.out)) k_ hk_), (Kd.freshB (g := gb271) (o := .cells #[.int .i64 t262, .string t263, .string t264, .int .i64 t265, .slice Ao33 t266.length co33, .int .i64 t269] 26 (0, 0)) (bk BK271.out) k_ hk_), (Kd.freshB (g := gb289) (o := .cells #[.int .i64 t272, .string t273, .string t274, .int .i64 t275, .slice Ao42 t276.length co42, .int .i64 t279] 26 (0, 0)) (bk BK289.out) k_ hk_), (Kd.freshB (g := gb290) (o := .cells #[.int .i64 t280, .string t281, .string t282, .int .i64 t283, .slice Ao45 t284.length co45, .int .i64 t287] 26 (0, 0)) (bk BK290.out) k_ hk_), (Kd.freshB (g := gb300) (o := .cells #[.int .i64 t291, .string t292, .string t293, .int .i64 t294, .slice Ao52 t295.length co52, .int .i64 t298] 26 (0, 0)) (bk BK300.out) k_ hk_)⟩)) (pbZ (by exact pbE HB.out))); have n6_ := Az.mk (bkB (g := gb271) (o := .cells #[.int .i64 t262, .string t263, .string t264, .int .i64 t265, .slice Ao33 t266.length co33, .int .i64 t269] 26 (0, 0)) (bk BK271.out) hb); have n7_ := Az.mk (bkB (g := gb289) (o := .cells #[.int .i64 t272, .string t273, .string t274, .int .i64 t275, .slice Ao42 t276.length co42, .int .i64 t279] 26 (0, 0)) (bk BK289.out) hb); have n8_ := Az.mk (bkB (g := gb290) (o := .cells #[.int .i64 t280, .string t281, .string t282, .int .i64 t283, .slice Ao45 t284.length co45, .int .i64 t287] 26 (0, 0)) (bk BK290.out) hb); have n9_ := Az.mk (bkB (g := gb300) (o := .cells #[.int .i64 t291, .string t292, .string t293, .int .i64 t294, .slice Ao52 t295.length co52, .int .i64 t298] 26 (0, 0)) (bk BK300.out) hb); have n10_ := Az.mk (pbT (by exact pbE HB.out) hb); clear HO261; clear HO268; clear HO278; clear HO286; clear HO297; clear BK271; clear BK289; clear BK290; clear BK300; clear HB; have HO261 := n0_; have HO268 := n1_; have HO278 := n2_; have HO286 := n3_; have HO297 := n4_; have HO308 := n5_; have BK271 := n6_; have BK289 := n7_; have BK290 := n8_; have BK300 := n9_; have HB := n10_; clear n0_ n1_ n2_ n3_ n4_ n5_ n6_ n7_ n8_ n9_ n10_; (try clear hb); (try clear hb2); (try clear hk); (try clear hi); (try clear ho0)) | ((with_reducible refine gate_dst (N := 8) rfl ?_); refine box_event ?hg (N := 8) ?hd (cs := #[.int .i64 0, .string (⟨#[]⟩ : ByteArray), .string (⟨#[]⟩ : ByteArray), .int .i64 0, .slice none 0 0, .int .i64 0]) (t := 26) ?hr ?_; (case hd => rfl); (case hg => rfl); (case hr => first | (go_simp; done) | (go_simp; rfl)); intro gb311 hg w55 hbox hb; have n0_ := Az.mk (Kd.R_below (Kd.R_ext HO261.out) hb); have n1_ := Az.mk (Kd.V_below (Kd.V_elderB (Kd.V_ext HO268.out) gb311 (Nat.le_of_eq hg.symm)) hb); have n2_ := Az.mk (Kd.V_below (Kd.V_elderB (Kd.V_ext HO278.out) gb311 (Nat.le_of_eq hg.symm)) hb); have n3_ := Az.mk (Kd.R_below (Kd.R_ext HO286.out) hb); have n4_ := Az.mk (Kd.V_below (Kd.V_elderB (Kd.V_ext HO297.out) gb311 (Nat.le_of_eq hg.symm)) hb); have n5_ := Az.mk (Kd.V_below (Kd.V_elderB (Kd.V_ext HO308.out) gb311 (Nat.le_of_eq hg.symm)) hb); have n6_ := Az.mk (bkB (g := gb271) (o := .cells #[.int .i64 t262, .string t263, .string t264, .int .i64 t265, .slice Ao33 t266.length co33, .int .i64 t269] 26 (0, 0)) (bk BK271.out) hb); have n7_ := Az.mk (bkB (g := gb289) (o := .cells #[.int .i64 t272, .string t273, .string t274, .int .i64 t275, .slice Ao42 t276.length co42, .int .i64 t279] 26 (0, 0)) (bk BK289.out) hb); have n8_ := Az.mk (bkB (g := gb290) (o := .cells #[.int .i64 t280, .string t281, .string t282, .int .i64 t283, .slice Ao45 t284.length co45, .int .i64 t287] 26 (0, 0)) (bk BK290.out) hb); have n9_ := Az.mk (bkB (g := gb300) (o := .cells #[.int .i64 t291, .string t292, .string t293, .int .i64 t294, .slice Ao52 t295.length co52, .int .i64 t298] 26 (0, 0)) (bk BK300.out) hb); have n10_ := Az.mk (pbT (by exact pbE HB.out) hb); have n11_ := Az.mk (hbox); have n12_ := Az.mk ((by rw [hg]; exact (pbZ (by exact pbE HB.out)) : w.heap.size ≤ gb311)); have n13_ := Az.mk ((by rw [hg]; exact (pbZ (by exact pbE HB.out)) : w.heap.size ≤ gb311)); have n14_ := Az.mk ((by rw [hg]; exact Nat.ne_of_lt (blk_lt (g := gb271) (o := .cells #[.int .i64 t262, .string t263, .string t264, .int .i64 t265, .slice Ao33 t266.length co33, .int .i64 t269] 26 (0, 0)) (bk BK271.out)) : gb271 ≠ gb311)); have n15_ := Az.mk ((by rw [hg]; exact Nat.ne_of_gt (blk_lt (g := gb271) (o := .cells #[.int .i64 t262, .string t263, .string t264, .int .i64 t265, .slice Ao33 t266.length co33, .int .i64 t269] 26 (0, 0)) (bk BK271.out)) : gb311 ≠ gb271)); have n16_ := Az.mk ((by rw [hg]; exact Nat.ne_of_lt (blk_lt (g := gb289) (o := .cells #[.int .i64 t272, .string t273, .string t274, .int .i64 t275, .slice Ao42 t276.length co42, .int .i64 t279] 26 (0, 0)) (bk BK289.out)) : gb289 ≠ gb311)); have n17_ := Az.mk ((by rw [hg]; exact Nat.ne_of_gt (blk_lt (g := gb289) (o := .cells #[.int .i64 t272, .string t273, .string t274, .int .i64 t275, .slice Ao42 t276.length co42, .int .i64 t279] 26 (0, 0)) (bk BK289.out)) : gb311 ≠ gb289)); have n18_ := Az.mk ((by rw [hg]; exact Nat.ne_of_lt (blk_lt (g := gb290) (o := .cells #[.int .i64 t280, .string t281, .string t282, .int .i64 t283, .slice Ao45 t284.length co45, .int .i64 t287] 26 (0, 0)) (bk BK290.out)) : gb290 ≠ gb311)); have n19_ := Az.mk ((by rw [hg]; exact Nat.ne_of_gt (blk_lt (g := gb290) (o := .cells #[.int .i64 t280, .string t281, .string t282, .int .i64 t283, .slice Ao45 t284.length co45, .int .i64 t287] 26 (0, 0)) (bk BK290.out)) : gb311 ≠ gb290)); have n20_ := Az.mk ((by rw [hg]; exact Nat.ne_of_lt (blk_lt (g := gb300) (o := .cells #[.int .i64 t291, .string t292, .string t293, .int .i64 t294, .slice Ao52 t295.length co52, .int .i64 t298] 26 (0, 0)) (bk BK300.out)) : gb300 ≠ gb311)); have n21_ := Az.mk ((by rw [hg]; exact Nat.ne_of_gt (blk_lt (g := gb300) (o := .cells #[.int .i64 t291, .string t292, .string t293, .int .i64 t294, .slice Ao52 t295.length co52, .int .i64 t298] 26 (0, 0)) (bk BK300.out)) : gb311 ≠ gb300)); clear HO261; clear HO268; clear HO278; clear HO286; clear HO297; clear HO308; clear BK271; clear BK289; clear BK290; clear BK300; clear HB; have HO261 := n0_; have HO268 := n1_; have HO278 := n2_; have HO286 := n3_; have HO297 := n4_; have HO308 := n5_; have BK271 := n6_; have BK289 := n7_; have BK290 := n8_; have BK300 := n9_; have HB := n10_; have BK311 := n11_; have GW311 := n12_; have GE311 := n13_; have NB271_311 := n14_; have NB311_271 := n15_; have NB289_311 := n16_; have NB311_289 := n17_; have NB290_311 := n18_; have NB311_290 := n19_; have NB300_311 := n20_; have NB311_300 := n21_; clear n0_ n1_ n2_ n3_ n4_ n5_ n6_ n7_ n8_ n9_ n10_ n11_ n12_ n13_ n14_ n15_ n16_ n17_ n18_ n19_ n20_ n21_; clear hb hbox hg; have hnb56 := NB311_271.out; have hnc56 := NB271_311.out; have hnb57 := NB311_289.out; have hnc57 := NB289_311.out; have hnb58 := NB311_290.out; have hnc58 := NB290_311.out; have hnb59 := NB311_300.out; have hnc59 := NB300_311.out; have hcz60_0 : w55.cell? ⟨gb311, 0, none⟩ = some (.int .i64 0) := (bkC BK311.out 0).trans rfl; have hcz60_1 : w55.cell? ⟨gb311, 1, none⟩ = some (.string (⟨#[]⟩ : ByteArray)) := (bkC BK311.out 1).trans rfl; have hcz60_2 : w55.cell? ⟨gb311, 2, none⟩ = some (.string (⟨#[]⟩ : ByteArray)) := (bkC BK311.out 2).trans rfl; have hcz60_3 : w55.cell? ⟨gb311, 3, none⟩ = some (.int .i64 0) := (bkC BK311.out 3).trans rfl; have hcz60_4 : w55.cell? ⟨gb311, 4, none⟩ = some (.slice none 0 0) := (bkC BK311.out 4).trans rfl; have hcz60_5 : w55.cell? ⟨gb311, 5, none⟩ = some (.int .i64 0) := (bkC BK311.out 5).trans rfl; have hfz60_0 := bkF BK311.out 0; have hfz60_1 := bkF BK311.out 1; have hfz60_2 := bkF BK311.out 2; have hfz60_3 := bkF BK311.out 3; have hfz60_4 := bkF BK311.out 4; have hfz60_5 := bkF BK311.out 5; obtain ⟨Ao61, co61, eo61⟩ := Kd.V_slice HO308.out; subst eo61; have hcz62_0 : w55.cell? ⟨gb300, 0, none⟩ = some (.int .i64 t291) := (bkC BK300.out 0).trans rfl; have hcz62_1 : w55.cell? ⟨gb300, 1, none⟩ = some (.string t292) := (bkC BK300.out 1).trans rfl; have hcz62_2 : w55.cell? ⟨gb300, 2, none⟩ = some (.string t293) := (bkC BK300.out 2).trans rfl; have hcz62_3 : w55.cell? ⟨gb300, 3, none⟩ = some (.int .i64 t294) := (bkC BK300.out 3).trans rfl; have hcz62_4 : w55.cell? ⟨gb300, 4, none⟩ = some (.slice Ao52 t295.length co52) := (bkC BK300.out 4).trans rfl; have hcz62_5 : w55.cell? ⟨gb300, 5, none⟩ = some (.int .i64 t298) := (bkC BK300.out 5).trans rfl; have hfz62_0 := bkF BK300.out 0; have hfz62_1 := bkF BK300.out 1; have hfz62_2 := bkF BK300.out 2; have hfz62_3 := bkF BK300.out 3; have hfz62_4 := bkF BK300.out 4; have hfz62_5 := bkF BK300.out 5) | ((with_reducible refine gtc (f := 30) rfl ?_); refine goesL_ (some 38) rfl rfl Tryd.func30 (by kernel_rfl) rfl #[.agg #[.int .i64 t291, .string t292, .string t293, .int .i64 t294, .slice Ao52 t295.length co52, .int .i64 t298], .int .i64 4] rfl (by (try simp only [List.map_toArray, List.map_cons, List.map_nil]); first | done | rfl | (simp only [List.length_drop, List.length_take]; rfl)) ?_; (with_reducible refine (desc_On.calls t291 t292 t293 t294 _ _ t295 t298 4 t312 t313 true _ ?side1 ?side2 ?side3 A6.out).mono ?_); (case side1 => exact hG.below (by exact pbE HB.out)); (case side2 => refine (Kd.V_reads' (e := 60) (base := w.heap.size) (ok := fun k_ => (((some k_ ≠ (.slice Ao29 y259.length co29 : Value).ownBlock ∧ (some k_ ≠ (.slice Ao45 t284.length co45 : Value).ownBlock ∧ (k_ ≠ gb271 ∧ (k_ ≠ gb289 ∧ k_ ≠ gb290)))) ∧ k_ ≠ gb300) ∧ k_ ≠ gb311)) (n := t295.length) (c := co52) ?_).2.2; exact (by (with_reducible repeat (first | apply Kd.V_alloc | apply Kd.V_drewN | apply Kd.V_drew)); exact (Kd.V_mono (Kd.V_far (p := ⟨gb311, 5, none⟩) (Kd.V_far (p := ⟨gb311, 4, none⟩) (Kd.V_far (p := ⟨gb311, 3, none⟩) (Kd.V_far (p := ⟨gb311, 2, none⟩) (Kd.V_far (p := ⟨gb311, 1, none⟩) (Kd.V_far (p := ⟨gb311, 0, none⟩) (Kd.V_mono HO297.out (fun k_ hk => (⟨hk, hk.2⟩ : _ ∧ k_ ≠ gb311))) (fun _ hk => hk.2) (.int .i64 t302)) (fun _ hk => hk.2) (.string t303)) (fun _ hk => hk.2) (.string t304)) (fun _ hk => hk.2) (.int .i64 t305)) (fun _ hk => hk.2) (.slice Ao61 t306.length co61)) (fun _ hk => hk.2) (.int .i64 t309)) (fun _ h_ => h_.1)))); (case side3 => exact (Kd.V_reads' HO297.out).2.1); rintro e w63 ⟨rfl, hb⟩; refine ⟨_, rfl, ?_⟩; have n0_ := Az.mk (Kd.R_below (by (with_reducible repeat (first | apply Kd.R_alloc | apply Kd.R_drewN | apply Kd.R_drew)); exact (Kd.R_mono (Kd.R_far (p := ⟨gb311, 5, none⟩) (Kd.R_far (p := ⟨gb311, 4, none⟩) (Kd.R_far (p := ⟨gb311, 3, none⟩) (Kd.R_far (p := ⟨gb311, 2, none⟩) (Kd.R_far (p := ⟨gb311, 1, none⟩) (Kd.R_far (p := ⟨gb311, 0, none⟩) (Kd.R_types HO261.out BK311.out (by decide)) (fun _ hk => hk.2) (.int .i64 t302)) (fun _ hk => hk.2) (.string t303)) (fun _ hk => hk.2) (.string t304)) (fun _ hk => hk.2) (.int .i64 t305)) (fun _ hk => hk.2) (.slice Ao61 t306.length co61)) (fun _ hk => hk.2) (.int .i64 t309)) (fun _ h_ => h_.1))) hb); have n1_ := Az.mk (Kd.V_below (by (with_reducible repeat (first | apply Kd.V_alloc | apply Kd.V_drewN | apply Kd.V_drew)); exact (Kd.V_mono (Kd.V_far (p := ⟨gb311, 5, none⟩) (Kd.V_far (p := ⟨gb311, 4, none⟩) (Kd.V_far (p := ⟨gb311, 3, none⟩) (Kd.V_far (p := ⟨gb311, 2, none⟩) (Kd.V_far (p := ⟨gb311, 1, none⟩) (Kd.V_far (p := ⟨gb311, 0, none⟩) (Kd.V_mono HO268.out (fun k_ hk => (⟨hk, hk.2⟩ : _ ∧ k_ ≠ gb311))) (fun _ hk => hk.2) (.int .i64 t302)) (fun _ hk => hk.2) (.string t303)) (fun _ hk => hk.2) (.string t304)) (fun _ hk => hk.2) (.int .i64 t305)) (fun _ hk => hk.2) (.slice Ao61 t306.length co61)) (fun _ hk => hk.2) (.int .i64 t309)) (fun _ h_ => h_.1))) hb); have n2_ := Az.mk (Kd.V_below (by (with_reducible repeat (first | apply Kd.V_alloc | apply Kd.V_drewN | apply Kd.V_drew)); exact (Kd.V_mono (Kd.V_far (p := ⟨gb311, 5, none⟩) (Kd.V_far (p := ⟨gb311, 4, none⟩) (Kd.V_far (p := ⟨gb311, 3, none⟩) (Kd.V_far (p := ⟨gb311, 2, none⟩) (Kd.V_far (p := ⟨gb311, 1, none⟩) (Kd.V_far (p := ⟨gb311, 0, none⟩) (Kd.V_mono HO278.out (fun k_ hk => (⟨hk, hk.2⟩ : _ ∧ k_ ≠ gb311))) (fun _ hk => hk.2) (.int .i64 t302)) (fun _ hk => hk.2) (.string t303)) (fun _ hk => hk.2) (.string t304)) (fun _ hk => hk.2) (.int .i64 t305)) (fun _ hk => hk.2) (.slice Ao61 t306.length co61)) (fun _ hk => hk.2) (.int .i64 t309)) (fun _ h_ => h_.1))) hb); have n3_ := Az.mk (Kd.R_below (by (with_reducible repeat (first | apply Kd.R_alloc | apply Kd.R_drewN | apply Kd.R_drew)); exact (Kd.R_mono (Kd.R_far (p := ⟨gb311, 5, none⟩) (Kd.R_far (p := ⟨gb311, 4, none⟩) (Kd.R_far (p := ⟨gb311, 3, none⟩) (Kd.R_far (p := ⟨gb311, 2, none⟩) (Kd.R_far (p := ⟨gb311, 1, none⟩) (Kd.R_far (p := ⟨gb311, 0, none⟩) (Kd.R_types HO286.out BK311.out (by decide)) (fun _ hk => hk.2) (.int .i64 t302)) (fun _ hk => hk.2) (.string t303)) (fun _ hk => hk.2) (.string t304)) (fun _ hk => hk.2) (.int .i64 t305)) (fun _ hk => hk.2) (.slice Ao61 t306.length co61)) (fun _ hk => hk.2) (.int .i64 t309)) (fun _ h_ => h_.1))) hb); have n4_ := Az.mk (Kd.V_below (by (with_reducible repeat (first | apply Kd.V_alloc | apply Kd.V_drewN | apply Kd.V_drew)); exact (Kd.V_mono (Kd.V_far (p := ⟨gb311, 5, none⟩) (Kd.V_far (p := ⟨gb311, 4, none⟩) (Kd.V_far (p := ⟨gb311, 3, none⟩) (Kd.V_far (p := ⟨gb311, 2, none⟩) (Kd.V_far (p := ⟨gb311, 1, none⟩) (Kd.V_far (p := ⟨gb311, 0, none⟩) (Kd.V_mono HO297.out (fun k_ hk => (⟨hk, hk.2⟩ : _ ∧ k_ ≠ gb311))) (fun _ hk => hk.2) (.int .i64 t302)) (fun _ hk => hk.2) (.string t303)) (fun _ hk => hk.2) (.string t304)) (fun _ hk => hk.2) (.int .i64 t305)) (fun _ hk => hk.2) (.slice Ao61 t306.length co61)) (fun _ hk => hk.2) (.int .i64 t309)) (fun _ h_ => h_.1))) hb); have n5_ := Az.mk (Kd.V_below (by (with_reducible repeat (first | apply Kd.V_alloc | apply Kd.V_drewN | apply Kd.V_drew)); exact (Kd.V_mono (Kd.V_far (p := ⟨gb311, 5, none⟩) (Kd.V_far (p := ⟨gb311, 4, none⟩) (Kd.V_far (p := ⟨gb311, 3, none⟩) (Kd.V_far (p := ⟨gb311, 2, none⟩) (Kd.V_far (p := ⟨gb311, 1, none⟩) (Kd.V_far (p := ⟨gb311, 0, none⟩) (Kd.V_mono HO308.out (fun k_ hk => (⟨hk, hk.2⟩ : _ ∧ k_ ≠ gb311))) (fun _ hk => hk.2) (.int .i64 t302)) (fun _ hk => hk.2) (.string t303)) (fun _ hk => hk.2) (.string t304)) (fun _ hk => hk.2) (.int .i64 t305)) (fun _ hk => hk.2) (.slice Ao61 t306.length co61)) (fun _ hk => hk.2) (.int .i64 t309)) (fun _ h_ => h_.1))) hb); have n6_ := Az.mk (bkB (g := gb271) (o := .cells #[.int .i64 t262, .string t263, .string t264, .int .i64 t265, .slice Ao33 t266.length co33, .int .i64 t269] 26 (0, 0)) (by refine bk ?_; refine blk_far ?_ NB271_311.out _; refine bk ?_; refine blk_far ?_ NB271_311.out _; refine bk ?_; refine blk_far ?_ NB271_311.out _; refine bk ?_; refine blk_far ?_ NB271_311.out _; refine bk ?_; refine blk_far ?_ NB271_311.out _; refine bk ?_; refine blk_far ?_ NB271_311.out _; refine bk ?_; exact BK271.out) hb); have n7_ := Az.mk (bkB (g := gb289) (o := .cells #[.int .i64 t272, .string t273, .string t274, .int .i64 t275, .slice Ao42 t276.length co42, .int .i64 t279] 26 (0, 0)) (by refine bk ?_; refine blk_far ?_ NB289_311.out _; refine bk ?_; refine blk_far ?_ NB289_311.out _; refine bk ?_; refine blk_far ?_ NB289_311.out _; refine bk ?_; refine blk_far ?_ NB289_311.out _; refine bk ?_; refine blk_far ?_ NB289_311.out _; refine bk ?_; refine blk_far ?_ NB289_311.out _; refine bk ?_; exact BK289.out) hb); have n8_ := Az.mk (bkB (g := gb290) (o := .cells #[.int .i64 t280, .string t281, .string t282, .int .i64 t283, .slice Ao45 t284.length co45, .int .i64 t287] 26 (0, 0)) (by refine bk ?_; refine blk_far ?_ NB290_311.out _; refine bk ?_; refine blk_far ?_ NB290_311.out _; refine bk ?_; refine blk_far ?_ NB290_311.out _; refine bk ?_; refine blk_far ?_ NB290_311.out _; refine bk ?_; refine blk_far ?_ NB290_311.out _; refine bk ?_; refine blk_far ?_ NB290_311.out _; refine bk ?_; exact BK290.out) hb); have n9_ := Az.mk (bkB (g := gb300) (o := .cells #[.int .i64 t291, .string t292, .string t293, .int .i64 t294, .slice Ao52 t295.length co52, .int .i64 t298] 26 (0, 0)) (by refine bk ?_; refine blk_far ?_ NB300_311.out _; refine bk ?_; refine blk_far ?_ NB300_311.out _; refine bk ?_; refine blk_far ?_ NB300_311.out _; refine bk ?_; refine blk_far ?_ NB300_311.out _; refine bk ?_; refine blk_far ?_ NB300_311.out _; refine bk ?_; refine blk_far ?_ NB300_311.out _; refine bk ?_; exact BK300.out) hb); have n10_ := Az.mk (bkB (g := gb311) (o := .cells #[.int .i64 t302, .string t303, .string t304, .int .i64 t305, .slice Ao61 t306.length co61, .int .i64 t309] 26 (0, 0)) (by refine bk ?_; refine blk_put (cs := #[.int .i64 t302, .string t303, .string t304, .int .i64 t305, .slice Ao61 t306.length co61, .int .i64 0]) ?_ 5 _ rfl; refine bk ?_; refine blk_put (cs := #[.int .i64 t302, .string t303, .string t304, .int .i64 t305, .slice none 0 0, .int .i64 0]) ?_ 4 _ rfl; refine bk ?_; refine blk_put (cs := #[.int .i64 t302, .string t303, .string t304, .int .i64 0, .slice none 0 0, .int .i64 0]) ?_ 3 _ rfl; refine bk ?_; refine blk_put (cs := #[.int .i64 t302, .string t303, .string (⟨#[]⟩ : ByteArray), .int .i64 0, .slice none 0 0, .int .i64 0]) ?_ 2 _ rfl; refine bk ?_; refine blk_put (cs := #[.int .i64 t302, .string (⟨#[]⟩ : ByteArray), .string (⟨#[]⟩ : ByteArray), .int .i64 0, .slice none 0 0, .int .i64 0]) ?_ 1 _ rfl; refine bk ?_; refine blk_put (cs := #[.int .i64 0, .string (⟨#[]⟩ : ByteArray), .string (⟨#[]⟩ : ByteArray), .int .i64 0, .slice none 0 0, .int .i64 0]) ?_ 0 _ rfl; refine bk ?_; exact BK311.out) hb); have n11_ := Az.mk (pbT (by exact pbE HB.out) hb); clear HO261; clear HO268; clear HO278; clear HO286; clear HO297; clear HO308; clear BK271; clear BK289; clear BK290; clear BK300; clear BK311; clear HB; have HO261 := n0_; have HO268 := n1_; have HO278 := n2_; have HO286 := n3_; have HO297 := n4_; have HO308 := n5_; have BK271 := n6_; have BK289 := n7_; have BK290 := n8_; have BK300 := n9_; have BK311 := n10_; have HB := n11_; clear n0_ n1_ n2_ n3_ n4_ n5_ n6_ n7_ n8_ n9_ n10_ n11_; (try clear hb); (try clear hb2); (try clear hk); (try clear hi)) | ((with_reducible refine gate_dst (N := 10) rfl ?_); refine box_event ?hg (N := 10) ?hd (cs := #[.int .i64 0, .int .i64 0]) (t := 60) ?hr ?_; (case hd => rfl); (case hg => rfl); (case hr => first | (go_simp; done) | (go_simp; rfl)); intro gb315 hg w64 hbox hb; have n0_ := Az.mk (Kd.R_below (Kd.R_ext HO261.out) hb); have n1_ := Az.mk (Kd.V_below (Kd.V_elderB (Kd.V_ext HO268.out) gb315 (Nat.le_of_eq hg.symm)) hb); have n2_ := Az.mk (Kd.V_below (Kd.V_elderB (Kd.V_ext HO278.out) gb315 (Nat.le_of_eq hg.symm)) hb); have n3_ := Az.mk (Kd.R_below (Kd.R_elderB (Kd.R_ext HO286.out) gb315 (Nat.le_of_eq hg.symm)) hb); have n4_ := Az.mk (Kd.V_below (Kd.V_elderB (Kd.V_ext HO297.out) gb315 (Nat.le_of_eq hg.symm)) hb); have n5_ := Az.mk (Kd.V_below (Kd.V_elderB (Kd.V_ext HO308.out) gb315 (Nat.le_of_eq hg.symm)) hb); have n6_ := Az.mk (bkB (g := gb271) (o := .cells #[.int .i64 t262, .string t263, .string t264, .int .i64 t265, .slice Ao33 t266.length co33, .int .i64 t269] 26 (0, 0)) (bk BK271.out) hb); have n7_ := Az.mk (bkB (g := gb289) (o := .cells #[.int .i64 t272, .string t273, .string t274, .int .i64 t275, .slice Ao42 t276.length co42, .int .i64 t279] 26 (0, 0)) (bk BK289.out) hb); have n8_ := Az.mk (bkB (g := gb290) (o := .cells #[.int .i64 t280, .string t281, .string t282, .int .i64 t283, .slice Ao45 t284.length co45, .int .i64 t287] 26 (0, 0)) (bk BK290.out) hb); have n9_ := Az.mk (bkB (g := gb300) (o := .cells #[.int .i64 t291, .string t292, .string t293, .int .i64 t294, .slice Ao52 t295.length co52, .int .i64 t298] 26 (0, 0)) (bk BK300.out) hb); have n10_ := Az.mk (bkB (g := gb311) (o := .cells #[.int .i64 t302, .string t303, .string t304, .int .i64 t305, .slice Ao61 t306.length co61, .int .i64 t309] 26 (0, 0)) (bk BK311.out) hb); have n11_ := Az.mk (pbT (by exact pbE HB.out) hb); have n12_ := Az.mk (hbox); have n13_ := Az.mk ((by rw [hg]; exact (pbZ (by exact pbE HB.out)) : w.heap.size ≤ gb315)); have n14_ := Az.mk ((by rw [hg]; exact (pbZ (by exact pbE HB.out)) : w.heap.size ≤ gb315)); have n15_ := Az.mk ((by rw [hg]; exact Nat.ne_of_lt (blk_lt (g := gb271) (o := .cells #[.int .i64 t262, .string t263, .string t264, .int .i64 t265, .slice Ao33 t266.length co33, .int .i64 t269] 26 (0, 0)) (bk BK271.out)) : gb271 ≠ gb315)); have n16_ := Az.mk ((by rw [hg]; exact Nat.ne_of_gt (blk_lt (g := gb271) (o := .cells #[.int .i64 t262, .string t263, .string t264, .int .i64 t265, .slice Ao33 t266.length co33, .int .i64 t269] 26 (0, 0)) (bk BK271.out)) : gb315 ≠ gb271)); have n17_ := Az.mk ((by rw [hg]; exact Nat.ne_of_lt (blk_lt (g := gb289) (o := .cells #[.int .i64 t272, .string t273, .string t274, .int .i64 t275, .slice Ao42 t276.length co42, .int .i64 t279] 26 (0, 0)) (bk BK289.out)) : gb289 ≠ gb315)); have n18_ := Az.mk ((by rw [hg]; exact Nat.ne_of_gt (blk_lt (g := gb289) (o := .cells #[.int .i64 t272, .string t273, .string t274, .int .i64 t275, .slice Ao42 t276.length co42, .int .i64 t279] 26 (0, 0)) (bk BK289.out)) : gb315 ≠ gb289)); have n19_ := Az.mk ((by rw [hg]; exact Nat.ne_of_lt (blk_lt (g := gb290) (o := .cells #[.int .i64 t280, .string t281, .string t282, .int .i64 t283, .slice Ao45 t284.length co45, .int .i64 t287] 26 (0, 0)) (bk BK290.out)) : gb290 ≠ gb315)); have n20_ := Az.mk ((by rw [hg]; exact Nat.ne_of_gt (blk_lt (g := gb290) (o := .cells #[.int .i64 t280, .string t281, .string t282, .int .i64 t283, .slice Ao45 t284.length co45, .int .i64 t287] 26 (0, 0)) (bk BK290.out)) : gb315 ≠ gb290)); have n21_ := Az.mk ((by rw [hg]; exact Nat.ne_of_lt (blk_lt (g := gb300) (o := .cells #[.int .i64 t291, .string t292, .string t293, .int .i64 t294, .slice Ao52 t295.length co52, .int .i64 t298] 26 (0, 0)) (bk BK300.out)) : gb300 ≠ gb315)); have n22_ := Az.mk ((by rw [hg]; exact Nat.ne_of_gt (blk_lt (g := gb300) (o := .cells #[.int .i64 t291, .string t292, .string t293, .int .i64 t294, .slice Ao52 t295.length co52, .int .i64 t298] 26 (0, 0)) (bk BK300.out)) : gb315 ≠ gb300)); have n23_ := Az.mk ((by rw [hg]; exact Nat.ne_of_lt (blk_lt (g := gb311) (o := .cells #[.int .i64 t302, .string t303, .string t304, .int .i64 t305, .slice Ao61 t306.length co61, .int .i64 t309] 26 (0, 0)) (bk BK311.out)) : gb311 ≠ gb315)); have n24_ := Az.mk ((by rw [hg]; exact Nat.ne_of_gt (blk_lt (g := gb311) (o := .cells #[.int .i64 t302, .string t303, .string t304, .int .i64 t305, .slice Ao61 t306.length co61, .int .i64 t309] 26 (0, 0)) (bk BK311.out)) : gb315 ≠ gb311)); clear HO261; clear HO268; clear HO278; clear HO286; clear HO297; clear HO308; clear BK271; clear BK289; clear BK290; clear BK300; clear BK311; clear HB; have HO261 := n0_; have HO268 := n1_; have HO278 := n2_; have HO286 := n3_; have HO297 := n4_; have HO308 := n5_; have BK271 := n6_; have BK289 := n7_; have BK290 := n8_; have BK300 := n9_; have BK311 := n10_; have HB := n11_; have BK315 := n12_; have GW315 := n13_; have GE315 := n14_; have NB271_315 := n15_; have NB315_271 := n16_; have NB289_315 := n17_; have NB315_289 := n18_; have NB290_315 := n19_; have NB315_290 := n20_; have NB300_315 := n21_; have NB315_300 := n22_; have NB311_315 := n23_; have NB315_311 := n24_; clear n0_ n1_ n2_ n3_ n4_ n5_ n6_ n7_ n8_ n9_ n10_ n11_ n12_ n13_ n14_ n15_ n16_ n17_ n18_ n19_ n20_ n21_ n22_ n23_ n24_; clear hb hbox hg; have hnb65 := NB315_271.out; have hnc65 := NB271_315.out; have hnb66 := NB315_289.out; have hnc66 := NB289_315.out; have hnb67 := NB315_290.out; have hnc67 := NB290_315.out; have hnb68 := NB315_300.out; have hnc68 := NB300_315.out; have hnb69 := NB315_311.out; have hnc69 := NB311_315.out; have hcz70_0 : w64.cell? ⟨gb315, 0, none⟩ = some (.int .i64 0) := (bkC BK315.out 0).trans rfl; have hcz70_1 : w64.cell? ⟨gb315, 1, none⟩ = some (.int .i64 0) := (bkC BK315.out 1).trans rfl; have hfz70_0 := bkF BK315.out 0; have hfz70_1 := bkF BK315.out 1) | ((with_reducible refine gate_store (t := 60) (p := 10) rfl ?_); refine store_event (t := 60) (p := 10) (v := ?vo_w71) (w1 := ((w64.setCell ⟨gb315, 0, none⟩ (.int .i64 t312)).setCell ⟨gb315, 1, none⟩ (.int .i64 t313))) ?hg ?ho ?hn ?hr ?_; (case ho => rfl); (case hg => rfl); (case hn => rfl); (case hr => first | (go_simp; done) | (go_simp; rfl)); intro w71 hw; have n0_ : Az (Kd.R (Kd.int .i64) 3 w71 w.heap.size (fun _ => True) (.slice Ao29 y259.length co29) y259) := ⟨(by rw [hw]; exact (by (with_reducible repeat (first | apply Kd.R_alloc | apply Kd.R_drewN | apply Kd.R_drew)); exact Kd.R_mono (Kd.R_far (p := ⟨gb315, 1, none⟩) (Kd.R_far (p := ⟨gb315, 0, none⟩) (Kd.R_types HO261.out BK315.out (by decide)) (fun _ hk => hk.2) (.int .i64 t312)) (fun _ hk => hk.2) (.int .i64 t313)) (fun _ hk => trivial)))⟩; have n1_ : Az (Kd.V k60 60 w71 w.heap.size (fun k_ => some k_ ≠ (.slice Ao29 y259.length co29 : Value).ownBlock ∧ some k_ ≠ (.slice Ao45 t284.length co45 : Value).ownBlock ∧ k_ ≠ gb271 ∧ k_ ≠ gb289 ∧ k_ ≠ gb290 ∧ k_ ≠ gb300 ∧ k_ ≠ gb311 ∧ k_ ≠ gb315) (.slice Ao33 t266.length co33) t266) := ⟨(by rw [hw]; exact (by (with_reducible repeat (first | apply Kd.V_alloc | apply Kd.V_drewN | apply Kd.V_drew)); exact Kd.V_mono (Kd.V_far (p := ⟨gb315, 1, none⟩) (Kd.V_far (p := ⟨gb315, 0, none⟩) (Kd.V_mono HO268.out (fun k_ hk => (⟨hk, hk.2⟩ : _ ∧ k_ ≠ gb315))) (fun _ hk => hk.2) (.int .i64 t312)) (fun _ hk => hk.2) (.int .i64 t313)) (fun _ hk => ⟨hk.1.1.1.1.1.1.1.1, ⟨hk.1.1.1.1.1.1.2, ⟨hk.1.1.1.1.1.1.1.2, ⟨hk.1.1.1.1.1.2, ⟨hk.1.1.1.1.2, ⟨hk.1.1.1.2, ⟨hk.1.1.2, hk.1.2⟩⟩⟩⟩⟩⟩⟩)))⟩; have n2_ : Az (Kd.V k60 60 w71 w.heap.size (fun k_ => some k_ ≠ (.slice Ao29 y259.length co29 : Value).ownBlock ∧ some k_ ≠ (.slice Ao45 t284.length co45 : Value).ownBlock ∧ k_ ≠ gb271 ∧ k_ ≠ gb289 ∧ k_ ≠ gb290 ∧ k_ ≠ gb300 ∧ k_ ≠ gb311 ∧ k_ ≠ gb315) (.slice Ao42 t276.length co42) t276) := ⟨(by rw [hw]; exact (by (with_reducible repeat (first | apply Kd.V_alloc | apply Kd.V_drewN | apply Kd.V_drew)); exact Kd.V_mono (Kd.V_far (p := ⟨gb315, 1, none⟩) (Kd.V_far (p := ⟨gb315, 0, none⟩) (Kd.V_mono HO278.out (fun k_ hk => (⟨hk, hk.2⟩ : _ ∧ k_ ≠ gb315))) (fun _ hk => hk.2) (.int .i64 t312)) (fun _ hk => hk.2) (.int .i64 t313)) (fun _ hk => ⟨hk.1.1.1.1.1.1.2.1, ⟨hk.1.1.1.1.1.1.1, ⟨hk.1.1.1.1.1.1.2.2, ⟨hk.1.1.1.1.1.2, ⟨hk.1.1.1.1.2, ⟨hk.1.1.1.2, ⟨hk.1.1.2, hk.1.2⟩⟩⟩⟩⟩⟩⟩)))⟩; have n3_ : Az (Kd.R k60 60 w71 w.heap.size (fun k_ => k_ ≠ gb315) (.slice Ao45 t284.length co45) t284) := ⟨(by rw [hw]; exact (by (with_reducible repeat (first | apply Kd.R_alloc | apply Kd.R_drewN | apply Kd.R_drew)); exact Kd.R_mono (Kd.R_far (p := ⟨gb315, 1, none⟩) (Kd.R_far (p := ⟨gb315, 0, none⟩) (Kd.R_mono HO286.out (fun k_ hk => (⟨hk, hk.2⟩ : _ ∧ k_ ≠ gb315))) (fun _ hk => hk.2) (.int .i64 t312)) (fun _ hk => hk.2) (.int .i64 t313)) (fun _ hk => hk.1.2)))⟩; have n4_ : Az (Kd.V k60 60 w71 w.heap.size (fun k_ => some k_ ≠ (.slice Ao29 y259.length co29 : Value).ownBlock ∧ some k_ ≠ (.slice Ao45 t284.length co45 : Value).ownBlock ∧ k_ ≠ gb271 ∧ k_ ≠ gb289 ∧ k_ ≠ gb290 ∧ k_ ≠ gb300 ∧ k_ ≠ gb311 ∧ k_ ≠ gb315) (.slice Ao52 t295.length co52) t295) := ⟨(by rw [hw]; exact (by (with_reducible repeat (first | apply Kd.V_alloc | apply Kd.V_drewN | apply Kd.V_drew)); exact Kd.V_mono (Kd.V_far (p := ⟨gb315, 1, none⟩) (Kd.V_far (p := ⟨gb315, 0, none⟩) (Kd.V_mono HO297.out (fun k_ hk => (⟨hk, hk.2⟩ : _ ∧ k_ ≠ gb315))) (fun _ hk => hk.2) (.int .i64 t312)) (fun _ hk => hk.2) (.int .i64 t313)) (fun _ hk => ⟨hk.1.1.1.1.1, ⟨hk.1.1.1.1.2.1, ⟨hk.1.1.1.1.2.2.1, ⟨hk.1.1.1.1.2.2.2.1, ⟨hk.1.1.1.1.2.2.2.2, ⟨hk.1.1.1.2, ⟨hk.1.1.2, hk.1.2⟩⟩⟩⟩⟩⟩⟩)))⟩; have n5_ : Az (Kd.V k60 60 w71 w.heap.size (fun k_ => some k_ ≠ (.slice Ao29 y259.length co29 : Value).ownBlock ∧ some k_ ≠ (.slice Ao45 t284.length co45 : Value).ownBlock ∧ k_ ≠ gb271 ∧ k_ ≠ gb289 ∧ k_ ≠ gb290 ∧ k_ ≠ gb300 ∧ k_ ≠ gb311 ∧ k_ ≠ gb315) (.slice Ao61 t306.length co61) t306) := ⟨(by rw [hw]; exact (by (with_reducible repeat (first | apply Kd.V_alloc | apply Kd.V_drewN | apply Kd.V_drew)); exact Kd.V_mono (Kd.V_far (p := ⟨gb315, 1, none⟩) (Kd.V_far (p := ⟨gb315, 0, none⟩) (Kd.V_mono HO308.out (fun k_ hk => (⟨hk, hk.2⟩ : _ ∧ k_ ≠ gb315))) (fun _ hk => hk.2) (.int .i64 t312)) (fun _ hk => hk.2) (.int .i64 t313)) (fun _ hk => ⟨hk.1.1.1.1, ⟨hk.1.1.1.2.1, ⟨hk.1.1.1.2.2.1, ⟨hk.1.1.1.2.2.2.1, ⟨hk.1.1.1.2.2.2.2.1, ⟨hk.1.1.1.2.2.2.2.2, ⟨hk.1.1.2, hk.1.2⟩⟩⟩⟩⟩⟩⟩)))⟩; have n6_ : Az (w71.heap[gb271]? = some (.cells #[.int .i64 t262, .string t263, .string t264, .int .i64 t265, .slice Ao33 t266.length co33, .int .i64 t269] 26 (0, 0))) := ⟨(by rw [hw]; exact (by refine bk ?_; refine blk_far ?_ NB271_315.out _; refine bk ?_; refine blk_far ?_ NB271_315.out _; refine bk ?_; exact BK271.out))⟩; have n7_ : Az (w71.heap[gb289]? = some (.cells #[.int .i64 t272, .string t273, .string t274, .int .i64 t275, .slice Ao42 t276.length co42, .int .i64 t279] 26 (0, 0))) := ⟨(by rw [hw]; exact (by refine bk ?_; refine blk_far ?_ NB289_315.out _; refine bk ?_; refine blk_far ?_ NB289_315.out _; refine bk ?_; exact BK289.out))⟩; have n8_ : Az (w71.heap[gb290]? = some (.cells #[.int .i64 t280, .string t281, .string t282, .int .i64 t283, .slice Ao45 t284.length co45, .int .i64 t287] 26 (0, 0))) := ⟨(by rw [hw]; exact (by refine bk ?_; refine blk_far ?_ NB290_315.out _; refine bk ?_; refine blk_far ?_ NB290_315.out _; refine bk ?_; exact BK290.out))⟩; have n9_ : Az (w71.heap[gb300]? = some (.cells #[.int .i64 t291, .string t292, .string t293, .int .i64 t294, .slice Ao52 t295.length co52, .int .i64 t298] 26 (0, 0))) := ⟨(by rw [hw]; exact (by refine bk ?_; refine blk_far ?_ NB300_315.out _; refine bk ?_; refine blk_far ?_ NB300_315.out _; refine bk ?_; exact BK300.out))⟩; have n10_ : Az (w71.heap[gb311]? = some (.cells #[.int .i64 t302, .string t303, .string t304, .int .i64 t305, .slice Ao61 t306.length co61, .int .i64 t309] 26 (0, 0))) := ⟨(by rw [hw]; exact (by refine bk ?_; refine blk_far ?_ NB311_315.out _; refine bk ?_; refine blk_far ?_ NB311_315.out _; refine bk ?_; exact BK311.out))⟩; have n11_ : Az (w71.heap[gb315]? = some (.cells #[.int .i64 t312, .int .i64 t313] 60 (0, 0))) := ⟨(by rw [hw]; exact (by refine bk ?_; refine blk_put (cs := #[.int .i64 t312, .int .i64 0]) ?_ 1 _ rfl; refine bk ?_; refine blk_put (cs := #[.int .i64 0, .int .i64 0]) ?_ 0 _ rfl; refine bk ?_; exact BK315.out))⟩; have n12_ : Az (Below w.heap.size w w71) := ⟨(by rw [hw]; exact (by exact pbE HB.out))⟩; clear hw; clear HO261; clear HO268; clear HO278; clear HO286; clear HO297; clear HO308; clear BK271; clear BK289; clear BK290; clear BK300; clear BK311; clear BK315; clear HB; have HO261 := n0_; have HO268 := n1_; have HO278 := n2_; have HO286 := n3_; have HO297 := n4_; have HO308 := n5_; have BK271 := n6_; have BK289 := n7_; have BK290 := n8_; have BK300 := n9_; have BK311 := n10_; have BK315 := n11_; have HB := n12_; clear n0_ n1_ n2_ n3_ n4_ n5_ n6_ n7_ n8_ n9_ n10_ n11_ n12_; have hcz72_0 : w71.cell? ⟨gb290, 0, none⟩ = some (.int .i64 t280) := (bkC BK290.out 0).trans rfl; have hcz72_1 : w71.cell? ⟨gb290, 1, none⟩ = some (.string t281) := (bkC BK290.out 1).trans rfl; have hcz72_2 : w71.cell? ⟨gb290, 2, none⟩ = some (.string t282) := (bkC BK290.out 2).trans rfl; have hcz72_3 : w71.cell? ⟨gb290, 3, none⟩ = some (.int .i64 t283) := (bkC BK290.out 3).trans rfl; have hcz72_4 : w71.cell? ⟨gb290, 4, none⟩ = some (.slice Ao45 t284.length co45) := (bkC BK290.out 4).trans rfl; have hcz72_5 : w71.cell? ⟨gb290, 5, none⟩ = some (.int .i64 t287) := (bkC BK290.out 5).trans rfl; have hfz72_0 := bkF BK290.out 0; have hfz72_1 := bkF BK290.out 1; have hfz72_2 := bkF BK290.out 2; have hfz72_3 := bkF BK290.out 3; have hfz72_4 := bkF BK290.out 4; have hfz72_5 := bkF BK290.out 5; have hcz73_0 : w71.cell? ⟨gb289, 0, none⟩ = some (.int .i64 t272) := (bkC BK289.out 0).trans rfl; have hcz73_1 : w71.cell? ⟨gb289, 1, none⟩ = some (.string t273) := (bkC BK289.out 1).trans rfl; have hcz73_2 : w71.cell? ⟨gb289, 2, none⟩ = some (.string t274) := (bkC BK289.out 2).trans rfl; have hcz73_3 : w71.cell? ⟨gb289, 3, none⟩ = some (.int .i64 t275) := (bkC BK289.out 3).trans rfl; have hcz73_4 : w71.cell? ⟨gb289, 4, none⟩ = some (.slice Ao42 t276.length co42) := (bkC BK289.out 4).trans rfl; have hcz73_5 : w71.cell? ⟨gb289, 5, none⟩ = some (.int .i64 t279) := (bkC BK289.out 5).trans rfl; have hfz73_0 := bkF BK289.out 0; have hfz73_1 := bkF BK289.out 1; have hfz73_2 := bkF BK289.out 2; have hfz73_3 := bkF BK289.out 3; have hfz73_4 := bkF BK289.out 4; have hfz73_5 := bkF BK289.out 5) | ((with_reducible refine gtc (f := 14) rfl ?_); refine goesL_ (some 44) rfl rfl Tryd.func14 (by kernel_rfl) rfl #[.agg #[.int .i64 t280, .string t281, .string t282, .int .i64 t283, .slice Ao45 t284.length co45, .int .i64 t287], .agg #[.int .i64 t272, .string t273, .string t274, .int .i64 t275, .slice Ao42 t276.length co42, .int .i64 t279]] rfl (by (try simp only [List.map_toArray, List.map_cons, List.map_nil]); first | done | rfl | (simp only [List.length_drop, List.length_take]; rfl)) ?_; (with_reducible refine (desc_Merge.calls k t280 t281 t282 t283 (fun k_ => some k_ = (.slice Ao45 t284.length co45 : Value).ownBlock) _ _ t284 t287 t272 t273 t274 t275 _ _ t276 t279 t316 t317 t318 t319 t320 t323 t324 _ ?side1 ?side2 ?side3 ?side4 A7.out).mono ?_); (case side1 => exact hG.below (by exact pbE HB.out)); (case side2 => exact Kd.R_V (Kd.R_tight rfl (Kd.R_types (Kd.R_types (Kd.R_types (Kd.R_types (Kd.R_types (Kd.R_apart' (HO286.out) (Kd.R_typed HO261.out) (by decide)) BK271.out (by decide)) BK289.out (by decide)) BK290.out (by decide)) BK300.out (by decide)) BK311.out (by decide)))); (case side3 => repeat (first | exact (Kd.V_reads' HO278.out).2.2 | (with_reducible refine Kd.C_alloc ?_ _) | (with_reducible refine Kd.C_drewN ?_ _) | (with_reducible refine Kd.C_drew ?_))); (case side4 => exact (Kd.V_reads' HO278.out).2.1); rintro e w74 ⟨v321, rfl, ho0, hb⟩; refine ⟨_, rfl, ?_⟩; have n0_ := Az.mk (Kd.R_below (Kd.R_ext HO261.out) hb); have n1_ := Az.mk (Kd.V_below (Kd.V_ext HO268.out) hb); have n2_ := Az.mk (Kd.V_below (Kd.V_ext HO278.out) hb); have n3_ := Az.mk (Kd.R_below (Kd.R_ext HO286.out) hb); have n4_ := Az.mk (Kd.V_below (Kd.V_ext HO297.out) hb); have n5_ := Az.mk (Kd.V_below (Kd.V_ext HO308.out) hb); have n6_ := Az.mk (Kd.V_lower (Kd.V_mono (ok' := fun k_ => some k_ ≠ (.slice Ao29 y259.length co29 : Value).ownBlock ∧ k_ ≠ gb271 ∧ k_ ≠ gb289 ∧ k_ ≠ gb290 ∧ k_ ≠ gb300 ∧ k_ ≠ gb311 ∧ k_ ≠ gb315) ho0 (fun k_ hk_ => ⟨Or.elim hk_ (fun hs_ => ((Kd.R_types (Kd.R_types (Kd.R_types (Kd.R_types (Kd.R_types (Kd.R_apart' (HO286.out) (Kd.R_typed HO261.out) (by decide)) BK271.out (by decide)) BK289.out (by decide)) BK290.out (by decide)) BK300.out (by decide)) BK311.out (by decide)).1 k_ hs_.symm).1.1.1.1.1.2) (fun hn_ => (Kd.fresh' (Kd.R_lt (Kd.R_ext HO261.out)) k_ hn_)), Or.elim hk_ (fun hs_ => ((Kd.R_types (Kd.R_types (Kd.R_types (Kd.R_types (Kd.R_types (Kd.R_apart' (HO286.out) (Kd.R_typed HO261.out) (by decide)) BK271.out (by decide)) BK289.out (by decide)) BK290.out (by decide)) BK300.out (by decide)) BK311.out (by decide)).1 k_ hs_.symm).1.1.1.1.2) (fun hn_ => (Kd.freshB (g := gb271) (o := .cells #[.int .i64 t262, .string t263, .string t264, .int .i64 t265, .slice Ao33 t266.length co33, .int .i64 t269] 26 (0, 0)) (bk BK271.out) k_ hn_)), Or.elim hk_ (fun hs_ => ((Kd.R_types (Kd.R_types (Kd.R_types (Kd.R_types (Kd.R_types (Kd.R_apart' (HO286.out) (Kd.R_typed HO261.out) (by decide)) BK271.out (by decide)) BK289.out (by decide)) BK290.out (by decide)) BK300.out (by decide)) BK311.out (by decide)).1 k_ hs_.symm).1.1.1.2) (fun hn_ => (Kd.freshB (g := gb289) (o := .cells #[.int .i64 t272, .string t273, .string t274, .int .i64 t275, .slice Ao42 t276.length co42, .int .i64 t279] 26 (0, 0)) (bk BK289.out) k_ hn_)), Or.elim hk_ (fun hs_ => ((Kd.R_types (Kd.R_types (Kd.R_types (Kd.R_types (Kd.R_types (Kd.R_apart' (HO286.out) (Kd.R_typed HO261.out) (by decide)) BK271.out (by decide)) BK289.out (by decide)) BK290.out (by decide)) BK300.out (by decide)) BK311.out (by decide)).1 k_ hs_.symm).1.1.2) (fun hn_ => (Kd.freshB (g := gb290) (o := .cells #[.int .i64 t280, .string t281, .string t282, .int .i64 t283, .slice Ao45 t284.length co45, .int .i64 t287] 26 (0, 0)) (bk BK290.out) k_ hn_)), Or.elim hk_ (fun hs_ => ((Kd.R_types (Kd.R_types (Kd.R_types (Kd.R_types (Kd.R_types (Kd.R_apart' (HO286.out) (Kd.R_typed HO261.out) (by decide)) BK271.out (by decide)) BK289.out (by decide)) BK290.out (by decide)) BK300.out (by decide)) BK311.out (by decide)).1 k_ hs_.symm).1.2) (fun hn_ => (Kd.freshB (g := gb300) (o := .cells #[.int .i64 t291, .string t292, .string t293, .int .i64 t294, .slice Ao52 t295.length co52, .int .i64 t298] 26 (0, 0)) (bk BK300.out) k_ hn_)), Or.elim hk_ (fun hs_ => ((Kd.R_types (Kd.R_types (Kd.R_types (Kd.R_types (Kd.R_types (Kd.R_apart' (HO286.out) (Kd.R_typed HO261.out) (by decide)) BK271.out (by decide)) BK289.out (by decide)) BK290.out (by decide)) BK300.out (by decide)) BK311.out (by decide)).1 k_ hs_.symm).2) (fun hn_ => (Kd.freshB (g := gb311) (o := .cells #[.int .i64 t302, .string t303, .string t304, .int .i64 t305, .slice Ao61 t306.length co61, .int .i64 t309] 26 (0, 0)) (bk BK311.out) k_ hn_)), Or.elim hk_ (fun hs_ => ((Kd.R_types (Kd.R_types (Kd.R_types (Kd.R_types (Kd.R_types (Kd.R_apart' (HO286.out) (Kd.R_typed HO261.out) (by decide)) BK271.out (by decide)) BK289.out (by decide)) BK290.out (by decide)) BK300.out (by decide)) BK311.out (by decide)).1 k_ hs_.symm).1.1.1.1.1.1) (fun hn_ => (Kd.freshB (g := gb315) (o := .cells #[.int .i64 t312, .int .i64 t313] 60 (0, 0)) (bk BK315.out) k_ hn_))⟩)) (pbZ (by exact pbE HB.out))); have n7_ := Az.mk (bkB (g := gb271) (o := .cells #[.int .i64 t262, .string t263, .string t264, .int .i64 t265, .slice Ao33 t266.length co33, .int .i64 t269] 26 (0, 0)) (bk BK271.out) hb); have n8_ := Az.mk (bkB (g := gb289) (o := .cells #[.int .i64 t272, .string t273, .string t274, .int .i64 t275, .slice Ao42 t276.length co42, .int .i64 t279] 26 (0, 0)) (bk BK289.out) hb); have n9_ := Az.mk (bkB (g := gb290) (o := .cells #[.int .i64 t280, .string t281, .string t282, .int .i64 t283, .slice Ao45 t284.length co45, .int .i64 t287] 26 (0, 0)) (bk BK290.out) hb); have n10_ := Az.mk (bkB (g := gb300) (o := .cells #[.int .i64 t291, .string t292, .string t293, .int .i64 t294, .slice Ao52 t295.length co52, .int .i64 t298] 26 (0, 0)) (bk BK300.out) hb); have n11_ := Az.mk (bkB (g := gb311) (o := .cells #[.int .i64 t302, .string t303, .string t304, .int .i64 t305, .slice Ao61 t306.length co61, .int .i64 t309] 26 (0, 0)) (bk BK311.out) hb); have n12_ := Az.mk (bkB (g := gb315) (o := .cells #[.int .i64 t312, .int .i64 t313] 60 (0, 0)) (bk BK315.out) hb); have n13_ := Az.mk (pbT (by exact pbE HB.out) hb); clear HO261; clear HO268; clear HO278; clear HO286; clear HO297; clear HO308; clear BK271; clear BK289; clear BK290; clear BK300; clear BK311; clear BK315; clear HB; have HO261 := n0_; have HO268 := n1_; have HO278 := n2_; have HO286 := n3_; have HO297 := n4_; have HO308 := n5_; have HO322 := n6_; have BK271 := n7_; have BK289 := n8_; have BK290 := n9_; have BK300 := n10_; have BK311 := n11_; have BK315 := n12_; have HB := n13_; clear n0_ n1_ n2_ n3_ n4_ n5_ n6_ n7_ n8_ n9_ n10_ n11_ n12_ n13_; (try clear hb); (try clear hb2); (try clear hk); (try clear hi); (try clear ho0)) | ((with_reducible refine gate_dst (N := 12) rfl ?_); refine box_event ?hg (N := 12) ?hd (cs := #[.int .i64 0, .string (⟨#[]⟩ : ByteArray), .string (⟨#[]⟩ : ByteArray), .int .i64 0, .slice none 0 0, .int .i64 0]) (t := 26) ?hr ?_; (case hd => rfl); (case hg => rfl); (case hr => first | (go_simp; done) | (go_simp; rfl)); intro gb325 hg w75 hbox hb; have n0_ := Az.mk (Kd.R_below (Kd.R_ext HO261.out) hb); have n1_ := Az.mk (Kd.V_below (Kd.V_elderB (Kd.V_ext HO268.out) gb325 (Nat.le_of_eq hg.symm)) hb); have n2_ := Az.mk (Kd.V_below (Kd.V_elderB (Kd.V_ext HO278.out) gb325 (Nat.le_of_eq hg.symm)) hb); have n3_ := Az.mk (Kd.R_below (Kd.R_ext HO286.out) hb); have n4_ := Az.mk (Kd.V_below (Kd.V_elderB (Kd.V_ext HO297.out) gb325 (Nat.le_of_eq hg.symm)) hb); have n5_ := Az.mk (Kd.V_below (Kd.V_elderB (Kd.V_ext HO308.out) gb325 (Nat.le_of_eq hg.symm)) hb); have n6_ := Az.mk (Kd.V_below (Kd.V_elderB (Kd.V_ext HO322.out) gb325 (Nat.le_of_eq hg.symm)) hb); have n7_ := Az.mk (bkB (g := gb271) (o := .cells #[.int .i64 t262, .string t263, .string t264, .int .i64 t265, .slice Ao33 t266.length co33, .int .i64 t269] 26 (0, 0)) (bk BK271.out) hb); have n8_ := Az.mk (bkB (g := gb289) (o := .cells #[.int .i64 t272, .string t273, .string t274, .int .i64 t275, .slice Ao42 t276.length co42, .int .i64 t279] 26 (0, 0)) (bk BK289.out) hb); have n9_ := Az.mk (bkB (g := gb290) (o := .cells #[.int .i64 t280, .string t281, .string t282, .int .i64 t283, .slice Ao45 t284.length co45, .int .i64 t287] 26 (0, 0)) (bk BK290.out) hb); have n10_ := Az.mk (bkB (g := gb300) (o := .cells #[.int .i64 t291, .string t292, .string t293, .int .i64 t294, .slice Ao52 t295.length co52, .int .i64 t298] 26 (0, 0)) (bk BK300.out) hb); have n11_ := Az.mk (bkB (g := gb311) (o := .cells #[.int .i64 t302, .string t303, .string t304, .int .i64 t305, .slice Ao61 t306.length co61, .int .i64 t309] 26 (0, 0)) (bk BK311.out) hb); have n12_ := Az.mk (bkB (g := gb315) (o := .cells #[.int .i64 t312, .int .i64 t313] 60 (0, 0)) (bk BK315.out) hb); have n13_ := Az.mk (pbT (by exact pbE HB.out) hb); have n14_ := Az.mk (hbox); have n15_ := Az.mk ((by rw [hg]; exact (pbZ (by exact pbE HB.out)) : w.heap.size ≤ gb325)); have n16_ := Az.mk ((by rw [hg]; exact (pbZ (by exact pbE HB.out)) : w.heap.size ≤ gb325)); have n17_ := Az.mk ((by rw [hg]; exact Nat.ne_of_lt (blk_lt (g := gb271) (o := .cells #[.int .i64 t262, .string t263, .string t264, .int .i64 t265, .slice Ao33 t266.length co33, .int .i64 t269] 26 (0, 0)) (bk BK271.out)) : gb271 ≠ gb325)); have n18_ := Az.mk ((by rw [hg]; exact Nat.ne_of_gt (blk_lt (g := gb271) (o := .cells #[.int .i64 t262, .string t263, .string t264, .int .i64 t265, .slice Ao33 t266.length co33, .int .i64 t269] 26 (0, 0)) (bk BK271.out)) : gb325 ≠ gb271)); have n19_ := Az.mk ((by rw [hg]; exact Nat.ne_of_lt (blk_lt (g := gb289) (o := .cells #[.int .i64 t272, .string t273, .string t274, .int .i64 t275, .slice Ao42 t276.length co42, .int .i64 t279] 26 (0, 0)) (bk BK289.out)) : gb289 ≠ gb325)); have n20_ := Az.mk ((by rw [hg]; exact Nat.ne_of_gt (blk_lt (g := gb289) (o := .cells #[.int .i64 t272, .string t273, .string t274, .int .i64 t275, .slice Ao42 t276.length co42, .int .i64 t279] 26 (0, 0)) (bk BK289.out)) : gb325 ≠ gb289)); have n21_ := Az.mk ((by rw [hg]; exact Nat.ne_of_lt (blk_lt (g := gb290) (o := .cells #[.int .i64 t280, .string t281, .string t282, .int .i64 t283, .slice Ao45 t284.length co45, .int .i64 t287] 26 (0, 0)) (bk BK290.out)) : gb290 ≠ gb325)); have n22_ := Az.mk ((by rw [hg]; exact Nat.ne_of_gt (blk_lt (g := gb290) (o := .cells #[.int .i64 t280, .string t281, .string t282, .int .i64 t283, .slice Ao45 t284.length co45, .int .i64 t287] 26 (0, 0)) (bk BK290.out)) : gb325 ≠ gb290)); have n23_ := Az.mk ((by rw [hg]; exact Nat.ne_of_lt (blk_lt (g := gb300) (o := .cells #[.int .i64 t291, .string t292, .string t293, .int .i64 t294, .slice Ao52 t295.length co52, .int .i64 t298] 26 (0, 0)) (bk BK300.out)) : gb300 ≠ gb325)); have n24_ := Az.mk ((by rw [hg]; exact Nat.ne_of_gt (blk_lt (g := gb300) (o := .cells #[.int .i64 t291, .string t292, .string t293, .int .i64 t294, .slice Ao52 t295.length co52, .int .i64 t298] 26 (0, 0)) (bk BK300.out)) : gb325 ≠ gb300)); have n25_ := Az.mk ((by rw [hg]; exact Nat.ne_of_lt (blk_lt (g := gb311) (o := .cells #[.int .i64 t302, .string t303, .string t304, .int .i64 t305, .slice Ao61 t306.length co61, .int .i64 t309] 26 (0, 0)) (bk BK311.out)) : gb311 ≠ gb325)); have n26_ := Az.mk ((by rw [hg]; exact Nat.ne_of_gt (blk_lt (g := gb311) (o := .cells #[.int .i64 t302, .string t303, .string t304, .int .i64 t305, .slice Ao61 t306.length co61, .int .i64 t309] 26 (0, 0)) (bk BK311.out)) : gb325 ≠ gb311)); have n27_ := Az.mk ((by rw [hg]; exact Nat.ne_of_lt (blk_lt (g := gb315) (o := .cells #[.int .i64 t312, .int .i64 t313] 60 (0, 0)) (bk BK315.out)) : gb315 ≠ gb325)); have n28_ := Az.mk ((by rw [hg]; exact Nat.ne_of_gt (blk_lt (g := gb315) (o := .cells #[.int .i64 t312, .int .i64 t313] 60 (0, 0)) (bk BK315.out)) : gb325 ≠ gb315)); clear HO261; clear HO268; clear HO278; clear HO286; clear HO297; clear HO308; clear HO322; clear BK271; clear BK289; clear BK290; clear BK300; clear BK311; clear BK315; clear HB; have HO261 := n0_; have HO268 := n1_; have HO278 := n2_; have HO286 := n3_; have HO297 := n4_; have HO308 := n5_; have HO322 := n6_; have BK271 := n7_; have BK289 := n8_; have BK290 := n9_; have BK300 := n10_; have BK311 := n11_; have BK315 := n12_; have HB := n13_; have BK325 := n14_; have GW325 := n15_; have GE325 := n16_; have NB271_325 := n17_; have NB325_271 := n18_; have NB289_325 := n19_; have NB325_289 := n20_; have NB290_325 := n21_; have NB325_290 := n22_; have NB300_325 := n23_; have NB325_300 := n24_; have NB311_325 := n25_; have NB325_311 := n26_; have NB315_325 := n27_; have NB325_315 := n28_; clear n0_ n1_ n2_ n3_ n4_ n5_ n6_ n7_ n8_ n9_ n10_ n11_ n12_ n13_ n14_ n15_ n16_ n17_ n18_ n19_ n20_ n21_ n22_ n23_ n24_ n25_ n26_ n27_ n28_; clear hb hbox hg; have hnb76 := NB325_271.out; have hnc76 := NB271_325.out; have hnb77 := NB325_289.out; have hnc77 := NB289_325.out; have hnb78 := NB325_290.out; have hnc78 := NB290_325.out; have hnb79 := NB325_300.out; have hnc79 := NB300_325.out; have hnb80 := NB325_311.out; have hnc80 := NB311_325.out; have hnb81 := NB325_315.out; have hnc81 := NB315_325.out; have hcz82_0 : w75.cell? ⟨gb325, 0, none⟩ = some (.int .i64 0) := (bkC BK325.out 0).trans rfl; have hcz82_1 : w75.cell? ⟨gb325, 1, none⟩ = some (.string (⟨#[]⟩ : ByteArray)) := (bkC BK325.out 1).trans rfl; have hcz82_2 : w75.cell? ⟨gb325, 2, none⟩ = some (.string (⟨#[]⟩ : ByteArray)) := (bkC BK325.out 2).trans rfl; have hcz82_3 : w75.cell? ⟨gb325, 3, none⟩ = some (.int .i64 0) := (bkC BK325.out 3).trans rfl; have hcz82_4 : w75.cell? ⟨gb325, 4, none⟩ = some (.slice none 0 0) := (bkC BK325.out 4).trans rfl; have hcz82_5 : w75.cell? ⟨gb325, 5, none⟩ = some (.int .i64 0) := (bkC BK325.out 5).trans rfl; have hfz82_0 := bkF BK325.out 0; have hfz82_1 := bkF BK325.out 1; have hfz82_2 := bkF BK325.out 2; have hfz82_3 := bkF BK325.out 3; have hfz82_4 := bkF BK325.out 4; have hfz82_5 := bkF BK325.out 5; obtain ⟨Ao83, co83, eo83⟩ := Kd.V_slice HO322.out; subst eo83) | ((with_reducible refine gtc (f := 17) rfl ?_); refine goesL_ (some 48) rfl rfl Tryd.func17 (by kernel_rfl) rfl #[.int .i64 t270] rfl (by (try simp only [List.map_toArray, List.map_cons, List.map_nil]); first | done | rfl | (simp only [List.length_drop, List.length_take]; rfl)) ?_; (with_reducible refine (l06_num.calls t270 t326 _ ?side1 A8.out).mono ?_); (case side1 => exact hG.below (by exact pbE HB.out)); rintro e w' ⟨rfl, ⟨nd, rfl⟩⟩; refine ⟨_, rfl, ?_⟩) | ((with_reducible refine gtc (f := 17) rfl ?_); refine goesL_ (some 50) rfl rfl Tryd.func17 (by kernel_rfl) rfl #[.int .i64 t288] rfl (by (try simp only [List.map_toArray, List.map_cons, List.map_nil]); first | done | rfl | (simp only [List.length_drop, List.length_take]; rfl)) ?_; (with_reducible refine (l06_num.calls t288 t327 _ ?side1 A9.out).mono ?_); (case side1 => exact hG.below (by exact pbE HB.out)); rintro e w' ⟨rfl, ⟨nd, rfl⟩⟩; refine ⟨_, rfl, ?_⟩) | ((with_reducible refine gtc (f := 17) rfl ?_); refine goesL_ (some 53) rfl rfl Tryd.func17 (by kernel_rfl) rfl #[.int .i64 t299] rfl (by (try simp only [List.map_toArray, List.map_cons, List.map_nil]); first | done | rfl | (simp only [List.length_drop, List.length_take]; rfl)) ?_; (with_reducible refine (l06_num.calls t299 t328 _ ?side1 A10.out).mono ?_); (case side1 => exact hG.below (by exact pbE HB.out)); rintro e w' ⟨rfl, ⟨nd, rfl⟩⟩; refine ⟨_, rfl, ?_⟩) | ((with_reducible refine gtc (f := 17) rfl ?_); refine goesL_ (some 56) rfl rfl Tryd.func17 (by kernel_rfl) rfl #[.int .i64 t310] rfl (by (try simp only [List.map_toArray, List.map_cons, List.map_nil]); first | done | rfl | (simp only [List.length_drop, List.length_take]; rfl)) ?_; (with_reducible refine (l06_num.calls t310 t329 _ ?side1 A11.out).mono ?_); (case side1 => exact hG.below (by exact pbE HB.out)); rintro e w' ⟨rfl, ⟨nd, rfl⟩⟩; refine ⟨_, rfl, ?_⟩; have hcz84_0 : w75.cell? ⟨gb289, 0, none⟩ = some (.int .i64 t272) := (bkC BK289.out 0).trans rfl; have hcz84_1 : w75.cell? ⟨gb289, 1, none⟩ = some (.string t273) := (bkC BK289.out 1).trans rfl; have hcz84_2 : w75.cell? ⟨gb289, 2, none⟩ = some (.string t274) := (bkC BK289.out 2).trans rfl; have hcz84_3 : w75.cell? ⟨gb289, 3, none⟩ = some (.int .i64 t275) := (bkC BK289.out 3).trans rfl; have hcz84_4 : w75.cell? ⟨gb289, 4, none⟩ = some (.slice Ao42 t276.length co42) := (bkC BK289.out 4).trans rfl; have hcz84_5 : w75.cell? ⟨gb289, 5, none⟩ = some (.int .i64 t279) := (bkC BK289.out 5).trans rfl; have hfz84_0 := bkF BK289.out 0; have hfz84_1 := bkF BK289.out 1; have hfz84_2 := bkF BK289.out 2; have hfz84_3 := bkF BK289.out 3; have hfz84_4 := bkF BK289.out 4; have hfz84_5 := bkF BK289.out 5; have hcz85_0 : w75.cell? ⟨gb290, 0, none⟩ = some (.int .i64 t280) := (bkC BK290.out 0).trans rfl; have hcz85_1 : w75.cell? ⟨gb290, 1, none⟩ = some (.string t281) := (bkC BK290.out 1).trans rfl; have hcz85_2 : w75.cell? ⟨gb290, 2, none⟩ = some (.string t282) := (bkC BK290.out 2).trans rfl; have hcz85_3 : w75.cell? ⟨gb290, 3, none⟩ = some (.int .i64 t283) := (bkC BK290.out 3).trans rfl; have hcz85_4 : w75.cell? ⟨gb290, 4, none⟩ = some (.slice Ao45 t284.length co45) := (bkC BK290.out 4).trans rfl; have hcz85_5 : w75.cell? ⟨gb290, 5, none⟩ = some (.int .i64 t287) := (bkC BK290.out 5).trans rfl; have hfz85_0 := bkF BK290.out 0; have hfz85_1 := bkF BK290.out 1; have hfz85_2 := bkF BK290.out 2; have hfz85_3 := bkF BK290.out 3; have hfz85_4 := bkF BK290.out 4; have hfz85_5 := bkF BK290.out 5; have hcz86_0 : w75.cell? ⟨gb300, 0, none⟩ = some (.int .i64 t291) := (bkC BK300.out 0).trans rfl; have hcz86_1 : w75.cell? ⟨gb300, 1, none⟩ = some (.string t292) := (bkC BK300.out 1).trans rfl; have hcz86_2 : w75.cell? ⟨gb300, 2, none⟩ = some (.string t293) := (bkC BK300.out 2).trans rfl; have hcz86_3 : w75.cell? ⟨gb300, 3, none⟩ = some (.int .i64 t294) := (bkC BK300.out 3).trans rfl; have hcz86_4 : w75.cell? ⟨gb300, 4, none⟩ = some (.slice Ao52 t295.length co52) := (bkC BK300.out 4).trans rfl; have hcz86_5 : w75.cell? ⟨gb300, 5, none⟩ = some (.int .i64 t298) := (bkC BK300.out 5).trans rfl; have hfz86_0 := bkF BK300.out 0; have hfz86_1 := bkF BK300.out 1; have hfz86_2 := bkF BK300.out 2; have hfz86_3 := bkF BK300.out 3; have hfz86_4 := bkF BK300.out 4; have hfz86_5 := bkF BK300.out 5; have hcz87_0 : w75.cell? ⟨gb311, 0, none⟩ = some (.int .i64 t302) := (bkC BK311.out 0).trans rfl; have hcz87_1 : w75.cell? ⟨gb311, 1, none⟩ = some (.string t303) := (bkC BK311.out 1).trans rfl; have hcz87_2 : w75.cell? ⟨gb311, 2, none⟩ = some (.string t304) := (bkC BK311.out 2).trans rfl; have hcz87_3 : w75.cell? ⟨gb311, 3, none⟩ = some (.int .i64 t305) := (bkC BK311.out 3).trans rfl; have hcz87_4 : w75.cell? ⟨gb311, 4, none⟩ = some (.slice Ao61 t306.length co61) := (bkC BK311.out 4).trans rfl; have hcz87_5 : w75.cell? ⟨gb311, 5, none⟩ = some (.int .i64 t309) := (bkC BK311.out 5).trans rfl; have hfz87_0 := bkF BK311.out 0; have hfz87_1 := bkF BK311.out 1; have hfz87_2 := bkF BK311.out 2; have hfz87_3 := bkF BK311.out 3; have hfz87_4 := bkF BK311.out 4; have hfz87_5 := bkF BK311.out 5) | (go_at_call 16; (with_reducible refine (r06_Same.calls k t302 t303 t304 t305 _ _ t306 t309 t291 t292 t293 t294 _ _ t295 t298 true _ ?side1 ?side2 ?side3 ?side4 ?side5 A17.out).mono ?_); (case side1 => exact hG.below (by exact pbE HB.out)); (case side2 => refine (Kd.V_reads' (e := 60) (base := w.heap.size) (ok := fun k_ => ((some k_ ≠ (.slice Ao29 y259.length co29 : Value).ownBlock ∧ (some k_ ≠ (.slice Ao45 t284.length co45 : Value).ownBlock ∧ (k_ ≠ gb271 ∧ (k_ ≠ gb289 ∧ (k_ ≠ gb290 ∧ (k_ ≠ gb300 ∧ (k_ ≠ gb311 ∧ k_ ≠ gb315))))))) ∧ k_ ≠ gb325)) (n := t306.length) (c := co61) ?_).2.2; exact (by (with_reducible repeat (first | apply Kd.V_alloc | apply Kd.V_drewN | apply Kd.V_drew)); exact (Kd.V_mono (Kd.V_far (p := ⟨gb325, 5, none⟩) (Kd.V_far (p := ⟨gb325, 4, none⟩) (Kd.V_far (p := ⟨gb325, 3, none⟩) (Kd.V_far (p := ⟨gb325, 2, none⟩) (Kd.V_far (p := ⟨gb325, 1, none⟩) (Kd.V_far (p := ⟨gb325, 0, none⟩) (Kd.V_mono HO308.out (fun k_ hk => (⟨hk, hk.2⟩ : _ ∧ k_ ≠ gb325))) (fun _ hk => hk.2) (.int .i64 t316)) (fun _ hk => hk.2) (.string t317)) (fun _ hk => hk.2) (.string t318)) (fun _ hk => hk.2) (.int .i64 t319)) (fun _ hk => hk.2) (.slice Ao83 t320.length co83)) (fun _ hk => hk.2) (.int .i64 t323)) (fun _ h_ => h_.1)))); (case side3 => exact (Kd.V_reads' HO308.out).2.1); (case side4 => refine (Kd.V_reads' (e := 60) (base := w.heap.size) (ok := fun k_ => ((some k_ ≠ (.slice Ao29 y259.length co29 : Value).ownBlock ∧ (some k_ ≠ (.slice Ao45 t284.length co45 : Value).ownBlock ∧ (k_ ≠ gb271 ∧ (k_ ≠ gb289 ∧ (k_ ≠ gb290 ∧ (k_ ≠ gb300 ∧ (k_ ≠ gb311 ∧ k_ ≠ gb315))))))) ∧ k_ ≠ gb325)) (n := t295.length) (c := co52) ?_).2.2; exact (by (with_reducible repeat (first | apply Kd.V_alloc | apply Kd.V_drewN | apply Kd.V_drew)); exact (Kd.V_mono (Kd.V_far (p := ⟨gb325, 5, none⟩) (Kd.V_far (p := ⟨gb325, 4, none⟩) (Kd.V_far (p := ⟨gb325, 3, none⟩) (Kd.V_far (p := ⟨gb325, 2, none⟩) (Kd.V_far (p := ⟨gb325, 1, none⟩) (Kd.V_far (p := ⟨gb325, 0, none⟩) (Kd.V_mono HO297.out (fun k_ hk => (⟨hk, hk.2⟩ : _ ∧ k_ ≠ gb325))) (fun _ hk => hk.2) (.int .i64 t316)) (fun _ hk => hk.2) (.string t317)) (fun _ hk => hk.2) (.string t318)) (fun _ hk => hk.2) (.int .i64 t319)) (fun _ hk => hk.2) (.slice Ao83 t320.length co83)) (fun _ hk => hk.2) (.int .i64 t323)) (fun _ h_ => h_.1)))); (case side5 => exact (Kd.V_reads' HO297.out).2.1); rintro e w88 ⟨rfl, hb⟩; have n0_ := Az.mk (Kd.R_below (by (with_reducible repeat (first | apply Kd.R_alloc | apply Kd.R_drewN | apply Kd.R_drew)); exact (Kd.R_mono (Kd.R_far (p := ⟨gb325, 5, none⟩) (Kd.R_far (p := ⟨gb325, 4, none⟩) (Kd.R_far (p := ⟨gb325, 3, none⟩) (Kd.R_far (p := ⟨gb325, 2, none⟩) (Kd.R_far (p := ⟨gb325, 1, none⟩) (Kd.R_far (p := ⟨gb325, 0, none⟩) (Kd.R_types HO261.out BK325.out (by decide)) (fun _ hk => hk.2) (.int .i64 t316)) (fun _ hk => hk.2) (.string t317)) (fun _ hk => hk.2) (.string t318)) (fun _ hk => hk.2) (.int .i64 t319)) (fun _ hk => hk.2) (.slice Ao83 t320.length co83)) (fun _ hk => hk.2) (.int .i64 t323)) (fun _ h_ => h_.1))) hb); have n1_ := Az.mk (Kd.V_below (by (with_reducible repeat (first | apply Kd.V_alloc | apply Kd.V_drewN | apply Kd.V_drew)); exact (Kd.V_mono (Kd.V_far (p := ⟨gb325, 5, none⟩) (Kd.V_far (p := ⟨gb325, 4, none⟩) (Kd.V_far (p := ⟨gb325, 3, none⟩) (Kd.V_far (p := ⟨gb325, 2, none⟩) (Kd.V_far (p := ⟨gb325, 1, none⟩) (Kd.V_far (p := ⟨gb325, 0, none⟩) (Kd.V_mono HO268.out (fun k_ hk => (⟨hk, hk.2⟩ : _ ∧ k_ ≠ gb325))) (fun _ hk => hk.2) (.int .i64 t316)) (fun _ hk => hk.2) (.string t317)) (fun _ hk => hk.2) (.string t318)) (fun _ hk => hk.2) (.int .i64 t319)) (fun _ hk => hk.2) (.slice Ao83 t320.length co83)) (fun _ hk => hk.2) (.int .i64 t323)) (fun _ h_ => h_.1))) hb); have n2_ := Az.mk (Kd.V_below (by (with_reducible repeat (first | apply Kd.V_alloc | apply Kd.V_drewN | apply Kd.V_drew)); exact (Kd.V_mono (Kd.V_far (p := ⟨gb325, 5, none⟩) (Kd.V_far (p := ⟨gb325, 4, none⟩) (Kd.V_far (p := ⟨gb325, 3, none⟩) (Kd.V_far (p := ⟨gb325, 2, none⟩) (Kd.V_far (p := ⟨gb325, 1, none⟩) (Kd.V_far (p := ⟨gb325, 0, none⟩) (Kd.V_mono HO278.out (fun k_ hk => (⟨hk, hk.2⟩ : _ ∧ k_ ≠ gb325))) (fun _ hk => hk.2) (.int .i64 t316)) (fun _ hk => hk.2) (.string t317)) (fun _ hk => hk.2) (.string t318)) (fun _ hk => hk.2) (.int .i64 t319)) (fun _ hk => hk.2) (.slice Ao83 t320.length co83)) (fun _ hk => hk.2) (.int .i64 t323)) (fun _ h_ => h_.1))) hb); have n3_ := Az.mk (Kd.R_below (by (with_reducible repeat (first | apply Kd.R_alloc | apply Kd.R_drewN | apply Kd.R_drew)); exact (Kd.R_mono (Kd.R_far (p := ⟨gb325, 5, none⟩) (Kd.R_far (p := ⟨gb325, 4, none⟩) (Kd.R_far (p := ⟨gb325, 3, none⟩) (Kd.R_far (p := ⟨gb325, 2, none⟩) (Kd.R_far (p := ⟨gb325, 1, none⟩) (Kd.R_far (p := ⟨gb325, 0, none⟩) (Kd.R_types HO286.out BK325.out (by decide)) (fun _ hk => hk.2) (.int .i64 t316)) (fun _ hk => hk.2) (.string t317)) (fun _ hk => hk.2) (.string t318)) (fun _ hk => hk.2) (.int .i64 t319)) (fun _ hk => hk.2) (.slice Ao83 t320.length co83)) (fun _ hk => hk.2) (.int .i64 t323)) (fun _ h_ => h_.1))) hb); have n4_ := Az.mk (Kd.V_below (by (with_reducible repeat (first | apply Kd.V_alloc | apply Kd.V_drewN | apply Kd.V_drew)); exact (Kd.V_mono (Kd.V_far (p := ⟨gb325, 5, none⟩) (Kd.V_far (p := ⟨gb325, 4, none⟩) (Kd.V_far (p := ⟨gb325, 3, none⟩) (Kd.V_far (p := ⟨gb325, 2, none⟩) (Kd.V_far (p := ⟨gb325, 1, none⟩) (Kd.V_far (p := ⟨gb325, 0, none⟩) (Kd.V_mono HO297.out (fun k_ hk => (⟨hk, hk.2⟩ : _ ∧ k_ ≠ gb325))) (fun _ hk => hk.2) (.int .i64 t316)) (fun _ hk => hk.2) (.string t317)) (fun _ hk => hk.2) (.string t318)) (fun _ hk => hk.2) (.int .i64 t319)) (fun _ hk => hk.2) (.slice Ao83 t320.length co83)) (fun _ hk => hk.2) (.int .i64 t323)) (fun _ h_ => h_.1))) hb); have n5_ := Az.mk (Kd.V_below (by (with_reducible repeat (first | apply Kd.V_alloc | apply Kd.V_drewN | apply Kd.V_drew)); exact (Kd.V_mono (Kd.V_far (p := ⟨gb325, 5, none⟩) (Kd.V_far (p := ⟨gb325, 4, none⟩) (Kd.V_far (p := ⟨gb325, 3, none⟩) (Kd.V_far (p := ⟨gb325, 2, none⟩) (Kd.V_far (p := ⟨gb325, 1, none⟩) (Kd.V_far (p := ⟨gb325, 0, none⟩) (Kd.V_mono HO308.out (fun k_ hk => (⟨hk, hk.2⟩ : _ ∧ k_ ≠ gb325))) (fun _ hk => hk.2) (.int .i64 t316)) (fun _ hk => hk.2) (.string t317)) (fun _ hk => hk.2) (.string t318)) (fun _ hk => hk.2) (.int .i64 t319)) (fun _ hk => hk.2) (.slice Ao83 t320.length co83)) (fun _ hk => hk.2) (.int .i64 t323)) (fun _ h_ => h_.1))) hb); have n6_ := Az.mk (Kd.V_below (by (with_reducible repeat (first | apply Kd.V_alloc | apply Kd.V_drewN | apply Kd.V_drew)); exact (Kd.V_mono (Kd.V_far (p := ⟨gb325, 5, none⟩) (Kd.V_far (p := ⟨gb325, 4, none⟩) (Kd.V_far (p := ⟨gb325, 3, none⟩) (Kd.V_far (p := ⟨gb325, 2, none⟩) (Kd.V_far (p := ⟨gb325, 1, none⟩) (Kd.V_far (p := ⟨gb325, 0, none⟩) (Kd.V_mono HO322.out (fun k_ hk => (⟨hk, hk.2⟩ : _ ∧ k_ ≠ gb325))) (fun _ hk => hk.2) (.int .i64 t316)) (fun _ hk => hk.2) (.string t317)) (fun _ hk => hk.2) (.string t318)) (fun _ hk => hk.2) (.int .i64 t319)) (fun _ hk => hk.2) (.slice Ao83 t320.length co83)) (fun _ hk => hk.2) (.int .i64 t323)) (fun _ h_ => h_.1))) hb); have n7_ := Az.mk (bkB (g := gb271) (o := .cells #[.int .i64 t262, .string t263, .string t264, .int .i64 t265, .slice Ao33 t266.length co33, .int .i64 t269] 26 (0, 0)) (by refine bk ?_; refine blk_far ?_ NB271_325.out _; refine bk ?_; refine blk_far ?_ NB271_325.out _; refine bk ?_; refine blk_far ?_ NB271_325.out _; refine bk ?_; refine blk_far ?_ NB271_325.out _; refine bk ?_; refine blk_far ?_ NB271_325.out _; refine bk ?_; refine blk_far ?_ NB271_325.out _; refine bk ?_; exact BK271.out) hb); have n8_ := Az.mk (bkB (g := gb289) (o := .cells #[.int .i64 t272, .string t273, .string t274, .int .i64 t275, .slice Ao42 t276.length co42, .int .i64 t279] 26 (0, 0)) (by refine bk ?_; refine blk_far ?_ NB289_325.out _; refine bk ?_; refine blk_far ?_ NB289_325.out _; refine bk ?_; refine blk_far ?_ NB289_325.out _; refine bk ?_; refine blk_far ?_ NB289_325.out _; refine bk ?_; refine blk_far ?_ NB289_325.out _; refine bk ?_; refine blk_far ?_ NB289_325.out _; refine bk ?_; exact BK289.out) hb); have n9_ := Az.mk (bkB (g := gb290) (o := .cells #[.int .i64 t280, .string t281, .string t282, .int .i64 t283, .slice Ao45 t284.length co45, .int .i64 t287] 26 (0, 0)) (by refine bk ?_; refine blk_far ?_ NB290_325.out _; refine bk ?_; refine blk_far ?_ NB290_325.out _; refine bk ?_; refine blk_far ?_ NB290_325.out _; refine bk ?_; refine blk_far ?_ NB290_325.out _; refine bk ?_; refine blk_far ?_ NB290_325.out _; refine bk ?_; refine blk_far ?_ NB290_325.out _; refine bk ?_; exact BK290.out) hb); have n10_ := Az.mk (bkB (g := gb300) (o := .cells #[.int .i64 t291, .string t292, .string t293, .int .i64 t294, .slice Ao52 t295.length co52, .int .i64 t298] 26 (0, 0)) (by refine bk ?_; refine blk_far ?_ NB300_325.out _; refine bk ?_; refine blk_far ?_ NB300_325.out _; refine bk ?_; refine blk_far ?_ NB300_325.out _; refine bk ?_; refine blk_far ?_ NB300_325.out _; refine bk ?_; refine blk_far ?_ NB300_325.out _; refine bk ?_; refine blk_far ?_ NB300_325.out _; refine bk ?_; exact BK300.out) hb); have n11_ := Az.mk (bkB (g := gb311) (o := .cells #[.int .i64 t302, .string t303, .string t304, .int .i64 t305, .slice Ao61 t306.length co61, .int .i64 t309] 26 (0, 0)) (by refine bk ?_; refine blk_far ?_ NB311_325.out _; refine bk ?_; refine blk_far ?_ NB311_325.out _; refine bk ?_; refine blk_far ?_ NB311_325.out _; refine bk ?_; refine blk_far ?_ NB311_325.out _; refine bk ?_; refine blk_far ?_ NB311_325.out _; refine bk ?_; refine blk_far ?_ NB311_325.out _; refine bk ?_; exact BK311.out) hb); have n12_ := Az.mk (bkB (g := gb315) (o := .cells #[.int .i64 t312, .int .i64 t313] 60 (0, 0)) (by refine bk ?_; refine blk_far ?_ NB315_325.out _; refine bk ?_; refine blk_far ?_ NB315_325.out _; refine bk ?_; refine blk_far ?_ NB315_325.out _; refine bk ?_; refine blk_far ?_ NB315_325.out _; refine bk ?_; refine blk_far ?_ NB315_325.out _; refine bk ?_; refine blk_far ?_ NB315_325.out _; refine bk ?_; exact BK315.out) hb); have n13_ := Az.mk (bkB (g := gb325) (o := .cells #[.int .i64 t316, .string t317, .string t318, .int .i64 t319, .slice Ao83 t320.length co83, .int .i64 t323] 26 (0, 0)) (by refine bk ?_; refine blk_put (cs := #[.int .i64 t316, .string t317, .string t318, .int .i64 t319, .slice Ao83 t320.length co83, .int .i64 0]) ?_ 5 _ rfl; refine bk ?_; refine blk_put (cs := #[.int .i64 t316, .string t317, .string t318, .int .i64 t319, .slice none 0 0, .int .i64 0]) ?_ 4 _ rfl; refine bk ?_; refine blk_put (cs := #[.int .i64 t316, .string t317, .string t318, .int .i64 0, .slice none 0 0, .int .i64 0]) ?_ 3 _ rfl; refine bk ?_; refine blk_put (cs := #[.int .i64 t316, .string t317, .string (⟨#[]⟩ : ByteArray), .int .i64 0, .slice none 0 0, .int .i64 0]) ?_ 2 _ rfl; refine bk ?_; refine blk_put (cs := #[.int .i64 t316, .string (⟨#[]⟩ : ByteArray), .string (⟨#[]⟩ : ByteArray), .int .i64 0, .slice none 0 0, .int .i64 0]) ?_ 1 _ rfl; refine bk ?_; refine blk_put (cs := #[.int .i64 0, .string (⟨#[]⟩ : ByteArray), .string (⟨#[]⟩ : ByteArray), .int .i64 0, .slice none 0 0, .int .i64 0]) ?_ 0 _ rfl; refine bk ?_; exact BK325.out) hb); have n14_ := Az.mk (pbT (by exact pbE HB.out) hb); clear HO261; clear HO268; clear HO278; clear HO286; clear HO297; clear HO308; clear HO322; clear BK271; clear BK289; clear BK290; clear BK300; clear BK311; clear BK315; clear BK325; clear HB; have HO261 := n0_; have HO268 := n1_; have HO278 := n2_; have HO286 := n3_; have HO297 := n4_; have HO308 := n5_; have HO322 := n6_; have BK271 := n7_; have BK289 := n8_; have BK290 := n9_; have BK300 := n10_; have BK311 := n11_; have BK315 := n12_; have BK325 := n13_; have HB := n14_; clear n0_ n1_ n2_ n3_ n4_ n5_ n6_ n7_ n8_ n9_ n10_ n11_ n12_ n13_ n14_; (try clear hb); (try clear hb2); (try clear hk); (try clear hi); have hcz89_0 : w88.cell? ⟨gb315, 0, none⟩ = some (.int .i64 t312) := (bkC BK315.out 0).trans rfl; have hcz89_1 : w88.cell? ⟨gb315, 1, none⟩ = some (.int .i64 t313) := (bkC BK315.out 1).trans rfl; have hfz89_0 := bkF BK315.out 0; have hfz89_1 := bkF BK315.out 1) | (go_at_call 18; (with_reducible refine (desc_Quorum.calls 4 t331 _ ?side1 A21.out).mono ?_); (case side1 => exact hG.below (by exact pbE HB.out)); rintro e w' ⟨rfl, ⟨nd, rfl⟩⟩) | (go_at_call 17; (with_reducible refine (l06_num.calls t324 t332 _ ?side1 A23.out).mono ?_); (case side1 => exact hG.below (by exact pbE HB.out)); rintro e w' ⟨rfl, ⟨nd, rfl⟩⟩) | (go_at_call 22; (refine (desc_Check.calls 0 (⟨#[]⟩ : ByteArray) (⟨#[]⟩ : ByteArray) 0 _ _ ([] : List (S60)) 0 t333 _ ?side1 ?side2 ?side3 A25.out).mono ?_); (case side1 => exact hG.below (by exact pbE HB.out)); (case side2 => exact Kd.C_nil _ _); (case side3 => exact Nat.le_refl _); rintro e w90 ⟨rfl, hb⟩; have n0_ := Az.mk (Kd.R_below (Kd.R_ext HO261.out) hb); have n1_ := Az.mk (Kd.V_below (Kd.V_ext HO268.out) hb); have n2_ := Az.mk (Kd.V_below (Kd.V_ext HO278.out) hb); have n3_ := Az.mk (Kd.R_below (Kd.R_ext HO286.out) hb); have n4_ := Az.mk (Kd.V_below (Kd.V_ext HO297.out) hb); have n5_ := Az.mk (Kd.V_below (Kd.V_ext HO308.out) hb); have n6_ := Az.mk (Kd.V_below (Kd.V_ext HO322.out) hb); have n7_ := Az.mk (bkB (g := gb271) (o := .cells #[.int .i64 t262, .string t263, .string t264, .int .i64 t265, .slice Ao33 t266.length co33, .int .i64 t269] 26 (0, 0)) (bk BK271.out) hb); have n8_ := Az.mk (bkB (g := gb289) (o := .cells #[.int .i64 t272, .string t273, .string t274, .int .i64 t275, .slice Ao42 t276.length co42, .int .i64 t279] 26 (0, 0)) (bk BK289.out) hb); have n9_ := Az.mk (bkB (g := gb290) (o := .cells #[.int .i64 t280, .string t281, .string t282, .int .i64 t283, .slice Ao45 t284.length co45, .int .i64 t287] 26 (0, 0)) (bk BK290.out) hb); have n10_ := Az.mk (bkB (g := gb300) (o := .cells #[.int .i64 t291, .string t292, .string t293, .int .i64 t294, .slice Ao52 t295.length co52, .int .i64 t298] 26 (0, 0)) (bk BK300.out) hb); have n11_ := Az.mk (bkB (g := gb311) (o := .cells #[.int .i64 t302, .string t303, .string t304, .int .i64 t305, .slice Ao61 t306.length co61, .int .i64 t309] 26 (0, 0)) (bk BK311.out) hb); have n12_ := Az.mk (bkB (g := gb315) (o := .cells #[.int .i64 t312, .int .i64 t313] 60 (0, 0)) (bk BK315.out) hb); have n13_ := Az.mk (bkB (g := gb325) (o := .cells #[.int .i64 t316, .string t317, .string t318, .int .i64 t319, .slice Ao83 t320.length co83, .int .i64 t323] 26 (0, 0)) (bk BK325.out) hb); have n14_ := Az.mk (pbT (by exact pbE HB.out) hb); clear HO261; clear HO268; clear HO278; clear HO286; clear HO297; clear HO308; clear HO322; clear BK271; clear BK289; clear BK290; clear BK300; clear BK311; clear BK315; clear BK325; clear HB; have HO261 := n0_; have HO268 := n1_; have HO278 := n2_; have HO286 := n3_; have HO297 := n4_; have HO308 := n5_; have HO322 := n6_; have BK271 := n7_; have BK289 := n8_; have BK290 := n9_; have BK300 := n10_; have BK311 := n11_; have BK315 := n12_; have BK325 := n13_; have HB := n14_; clear n0_ n1_ n2_ n3_ n4_ n5_ n6_ n7_ n8_ n9_ n10_ n11_ n12_ n13_ n14_; (try clear hb); (try clear hb2); (try clear hk); (try clear hi)) | (go_at_call 17; (with_reducible refine (l06_num.calls t333 t334 _ ?side1 A26.out).mono ?_); (case side1 => exact hG.below (by exact pbE HB.out)); rintro e w' ⟨rfl, ⟨nd, rfl⟩⟩))
                      go_ret
                      exact ⟨by first | rfl | (simp [errW_none, errW_some] <;> rfl) | (simp [*, errW_none, errW_some] <;> rfl), by exact pbE HB.out⟩
                    · rw [if_neg c24] at H
                      have c24b0 : (t332 == 20) = false := beq_eq_false_iff_ne.mpr c24
                      have c24b1 : (t332 != 20) = true := bne_iff_ne.mpr c24
                      exact absurd (Option.some.inj (H.trans (congrArg some hr))) (by decide)
                  · rw [if_neg c22] at H
                    have c22b0 : (t331 == 3) = false := beq_eq_false_iff_ne.mpr c22
                    have c22b1 : (t331 != 3) = true := bne_iff_ne.mpr c22
                    exact absurd (Option.some.inj (H.trans (congrArg some hr))) (by decide)
                · rw [if_neg c20] at H
                  have c20b0 : (t313 == 4) = false := beq_eq_false_iff_ne.mpr c20
                  have c20b1 : (t313 != 4) = true := bne_iff_ne.mpr c20
                  exact absurd (Option.some.inj (H.trans (congrArg some hr))) (by decide)
              · replace c19 := Bool.eq_false_iff.mpr c19
                subst c19
                have H1 : (some false) = some r := by rw [if_neg (show ¬ (false = true) by decide)] at H; exact H
                clear H
                have H := H1
                clear H1
                exact absurd (Option.some.inj (H.trans (congrArg some hr))) (by decide)
            · replace c18 := Bool.eq_false_iff.mpr c18
              subst c18
              have H1 : (some false) = some r := by rw [if_neg (show ¬ (false = true) by decide)] at H; exact H
              clear H
              have H := H1
              clear H1
              exact absurd (Option.some.inj (H.trans (congrArg some hr))) (by decide)
          · rw [if_neg c16] at H
            have c16b0 : (t298 == 5) = false := beq_eq_false_iff_ne.mpr c16
            have c16b1 : (t298 != 5) = true := bne_iff_ne.mpr c16
            exact absurd (Option.some.inj (H.trans (congrArg some hr))) (by decide)
        · rw [if_neg c15] at H
          have c15b0 : (t283 == 2) = false := beq_eq_false_iff_ne.mpr c15
          have c15b1 : (t283 != 2) = true := bne_iff_ne.mpr c15
          exact absurd (Option.some.inj (H.trans (congrArg some hr))) (by decide)
      · rw [if_neg c14] at H
        have c14b0 : (t280 == 2) = false := beq_eq_false_iff_ne.mpr c14
        have c14b1 : (t280 != 2) = true := bne_iff_ne.mpr c14
        exact absurd (Option.some.inj (H.trans (congrArg some hr))) (by decide)
    · rw [if_neg c13] at H
      have c13b0 : (t274.toList == ([109] : List UInt8)) = false := beq_eq_false_iff_ne.mpr c13
      have c13b1 : (t274.toList != ([109] : List UInt8)) = true := bne_iff_ne.mpr c13
      exact absurd (Option.some.inj (H.trans (congrArg some hr))) (by decide)
  · rw [if_neg c12] at H
    have c12b0 : ((wrap64 ((wrap64 ((wrap64 (t326 + t327)) + t328)) + t329)) == 0) = false := beq_eq_false_iff_ne.mpr c12
    have c12b1 : ((wrap64 ((wrap64 ((wrap64 (t326 + t327)) + t328)) + t329)) != 0) = true := bne_iff_ne.mpr c12
    exact absurd (Option.some.inj (H.trans (congrArg some hr))) (by decide)
end Go.Proofs.YtjfhcijjjadhbaaDoor.P
end
section
/- live of the statements on desc: it answers true. -/
namespace Go.Proofs.YtjfhcijjjadhbaaDoor.P
open Go.RowKit Go.Proofs.YtjfhcijjjadhbaaDoor.K Go.Proofs.YtjfhcijjjadhbaaDoorW.PrintWords Go.Proofs.YtjfhcijjjadhbaaDoorW.PrintLast Go.Proofs.YtjfhcijjjadhbaaDoorW.PrintMore
theorem live : l06_liveT.f 60 = some true := by decide +kernel
def l06_live.f : Option Bool := some true
theorem l06_live.calls (r : Bool) (w : World) (hG : TheG w) (h : l06_live.f = some r) :
    Calls Tryd.prog 10 #[] w fun e w' => e = .returned (.bool r) ∧ Below w.heap.size w w' := by
  obtain rfl := Option.some.inj h
  exact l06_liveT.calls 60 true w hG rfl live
end Go.Proofs.YtjfhcijjjadhbaaDoor.P
end
section
-- Written by a program of this session (wip/tools/pr.py), over the kit's printer; functions named in the texts imported below are given by hand.
namespace Go.Proofs.YtjfhcijjjadhbaaDoor.P
open Go.RowKit Go.Proofs.YtjfhcijjjadhbaaDoor.K Go.Proofs.YtjfhcijjjadhbaaDoorW.PrintWords Go.Proofs.YtjfhcijjjadhbaaDoorW.PrintLast Go.Proofs.YtjfhcijjjadhbaaDoorW.PrintMore
attribute [local go_sem] max2_int min2_int max_two min_two max_three min_three max_four min_four   -- for this text's walks alone
/-! ### l06_DescUnlike: function 5 -/
mutual
def l06_DescUnlike.j0 : Nat → Int → Bool → Int → ByteArray → ByteArray → Int → List (S60) → Int → Int → ByteArray → ByteArray → Int → List (S60) → Int → Option (Bool)
  | 0, _, _, _, _, _, _, _, _, _, _, _, _, _, _ => none
  | k + 1, x2, x20, x485000, x485001, x485002, x485003, x485004, x485005, x486000, x486001, x486002, x486003, x486004, x486005 => if x20 = true then ((l06_live.f).bind fun t488 => (some t488)) else ((desc_Put.f k x485000 x485001 x485002 x485003 x485004 x485005).bind fun t489 => ((desc_Put.f k x486000 x486001 x486002 x486003 x486004 x486005).bind fun t490 => ((desc_Same.f k x485000 x485001 x485002 x485003 x485004 x485005 x486000 x486001 x486002 x486003 x486004 x486005).bind fun t491 => (if ((t489.toList == t490.toList) != t491) = true then (some false) else ((desc_Parse.f k t489).bind fun bt492 => ((desc_Check.f x485000 x485001 x485002 x485003 x485004 x485005).bind fun t502 => ((l06_num.f t502).bind fun t503 => (if t503 = 0 then ((l06_num.f bt492.2.2.2.2.2.2).bind fun t506 => (if t506 = 0 then ((desc_Same.f k bt492.1 bt492.2.1 bt492.2.2.1 bt492.2.2.2.1 bt492.2.2.2.2.1 bt492.2.2.2.2.2.1 x485000 x485001 x485002 x485003 x485004 x485005).bind fun t507 => (l06_DescUnlike.j1 k x2 t489 (!t507) x485000 x485001 x485002 x485003 x485004 x485005)) else (l06_DescUnlike.j1 k x2 t489 true x485000 x485001 x485002 x485003 x485004 x485005))) else ((l06_num.f bt492.2.2.2.2.2.2).bind fun t504 => (if t504 = 60 then ((l06_live.f).bind fun t505 => (some t505)) else (some false)))))))))))
def l06_DescUnlike.j1 : Nat → Int → ByteArray → Bool → Int → ByteArray → ByteArray → Int → List (S60) → Int → Option (Bool)
  | 0, _, _, _, _, _, _, _, _, _ => none
  | k + 1, x2, x7, x56, x485000, x485001, x485002, x485003, x485004, x485005 => if x56 = true then (some false) else (if x2 < 0 then (l06_DescUnlike.j2 k x2 x7 true) else (if x2 ≥ (x7.size : Int) then (l06_DescUnlike.j2 k x2 x7 true) else (l06_DescUnlike.j2 k x2 x7 (decide ((x485004.length : Int) > 1)))))
def l06_DescUnlike.j2 : Nat → Int → ByteArray → Bool → Option (Bool)
  | 0, _, _, _ => none
  | k + 1, x2, x7, x70 => if x70 = true then ((l06_live.f).bind fun t508 => (some t508)) else (if 0 ≤ x2 then (if x2 ≤ (x7.size : Int) then ((desc_Parse.f k (x7.extract 0 (x2 : Int).toNat)).bind fun bt509 => ((l06_num.f bt509.2.2.2.2.2.2).bind fun t519 => (if t519 = 60 then ((l06_live.f).bind fun t520 => (some t520)) else (some false)))) else (none)) else (none))
end
def l06_DescUnlike.f (k : Nat) (a0_0 : Int) (a0_1 : ByteArray) (a0_2 : ByteArray) (a0_3 : Int) (l0_4 : List (S60)) (a0_5 : Int) (a1_0 : Int) (a1_1 : ByteArray) (a1_2 : ByteArray) (a1_3 : Int) (l1_4 : List (S60)) (a1_5 : Int) (a2 : Int) : Option (Bool) := (l06_small.f a0_0 a0_1 a0_2 a0_3 l0_4 a0_5).bind fun t486 => (if t486 = true then ((l06_small.f a1_0 a1_1 a1_2 a1_3 l1_4 a1_5).bind fun t487 => (l06_DescUnlike.j0 k a2 (!t487) a0_0 a0_1 a0_2 a0_3 l0_4 a0_5 a1_0 a1_1 a1_2 a1_3 l1_4 a1_5)) else (l06_DescUnlike.j0 k a2 true a0_0 a0_1 a0_2 a0_3 l0_4 a0_5 a1_0 a1_1 a1_2 a1_3 l1_4 a1_5))
theorem l06_DescUnlike.mono_l : ∀ k, (∀ y0 y1 y2 y3 y4 y5 y6 y7 y8 y9 y10 y11 y12 y13, LeO (l06_DescUnlike.j0 k y0 y1 y2 y3 y4 y5 y6 y7 y8 y9 y10 y11 y12 y13) (l06_DescUnlike.j0 (k + 1) y0 y1 y2 y3 y4 y5 y6 y7 y8 y9 y10 y11 y12 y13)) ∧ (∀ y0 y1 y2 y3 y4 y5 y6 y7 y8, LeO (l06_DescUnlike.j1 k y0 y1 y2 y3 y4 y5 y6 y7 y8) (l06_DescUnlike.j1 (k + 1) y0 y1 y2 y3 y4 y5 y6 y7 y8)) ∧ (∀ y0 y1 y2, LeO (l06_DescUnlike.j2 k y0 y1 y2) (l06_DescUnlike.j2 (k + 1) y0 y1 y2))
  | 0 => ⟨fun _ _ _ _ _ _ _ _ _ _ _ _ _ _ r h => by simp [l06_DescUnlike.j0] at h, fun _ _ _ _ _ _ _ _ _ r h => by simp [l06_DescUnlike.j1] at h, fun _ _ _ r h => by simp [l06_DescUnlike.j2] at h⟩
  | k + 1 => by
    obtain ⟨ih0, ih1, ih2⟩ := l06_DescUnlike.mono_l k
    refine ⟨?_, ?_, ?_⟩
    · intro y0 y1 y2 y3 y4 y5 y6 y7 y8 y9 y10 y11 y12 y13
      unfold l06_DescUnlike.j0
      repeat' first
      | (with_reducible exact ih0 _ _ _ _ _ _ _ _ _ _ _ _ _ _)
      | (with_reducible exact ih1 _ _ _ _ _ _ _ _ _)
      | (with_reducible exact ih2 _ _ _)
      | (with_reducible exact desc_Parse.mono _ _)
      | (with_reducible exact desc_Put.mono _ _ _ _ _ _ _)
      | (with_reducible exact desc_Same.mono _ _ _ _ _ _ _ _ _ _ _ _ _)
      | (with_reducible exact LeO.refl _)
      | (with_reducible exact LeO.none _)
      | (with_reducible refine LeO.ite ?_ ?_)
      | (with_reducible refine LeO.bind ?_ (fun _ => ?_))
      | exact ih0 _ _ _ _ _ _ _ _ _ _ _ _ _ _
      | exact ih1 _ _ _ _ _ _ _ _ _
      | exact ih2 _ _ _
      | exact desc_Parse.mono _ _
      | exact desc_Put.mono _ _ _ _ _ _ _
      | exact desc_Same.mono _ _ _ _ _ _ _ _ _ _ _ _ _
      | exact LeO.none _
      | refine LeO.ite ?_ ?_
      | refine LeO.bind ?_ (fun _ => ?_)
    · intro y0 y1 y2 y3 y4 y5 y6 y7 y8
      unfold l06_DescUnlike.j1
      repeat' first
      | (with_reducible exact ih0 _ _ _ _ _ _ _ _ _ _ _ _ _ _)
      | (with_reducible exact ih1 _ _ _ _ _ _ _ _ _)
      | (with_reducible exact ih2 _ _ _)
      | (with_reducible exact desc_Parse.mono _ _)
      | (with_reducible exact desc_Put.mono _ _ _ _ _ _ _)
      | (with_reducible exact desc_Same.mono _ _ _ _ _ _ _ _ _ _ _ _ _)
      | (with_reducible exact LeO.refl _)
      | (with_reducible exact LeO.none _)
      | (with_reducible refine LeO.ite ?_ ?_)
      | (with_reducible refine LeO.bind ?_ (fun _ => ?_))
      | exact ih0 _ _ _ _ _ _ _ _ _ _ _ _ _ _
      | exact ih1 _ _ _ _ _ _ _ _ _
      | exact ih2 _ _ _
      | exact desc_Parse.mono _ _
      | exact desc_Put.mono _ _ _ _ _ _ _
      | exact desc_Same.mono _ _ _ _ _ _ _ _ _ _ _ _ _
      | exact LeO.none _
      | refine LeO.ite ?_ ?_
      | refine LeO.bind ?_ (fun _ => ?_)
    · intro y0 y1 y2
      unfold l06_DescUnlike.j2
      repeat' first
      | (with_reducible exact ih0 _ _ _ _ _ _ _ _ _ _ _ _ _ _)
      | (with_reducible exact ih1 _ _ _ _ _ _ _ _ _)
      | (with_reducible exact ih2 _ _ _)
      | (with_reducible exact desc_Parse.mono _ _)
      | (with_reducible exact desc_Put.mono _ _ _ _ _ _ _)
      | (with_reducible exact desc_Same.mono _ _ _ _ _ _ _ _ _ _ _ _ _)
      | (with_reducible exact LeO.refl _)
      | (with_reducible exact LeO.none _)
      | (with_reducible refine LeO.ite ?_ ?_)
      | (with_reducible refine LeO.bind ?_ (fun _ => ?_))
      | exact ih0 _ _ _ _ _ _ _ _ _ _ _ _ _ _
      | exact ih1 _ _ _ _ _ _ _ _ _
      | exact ih2 _ _ _
      | exact desc_Parse.mono _ _
      | exact desc_Put.mono _ _ _ _ _ _ _
      | exact desc_Same.mono _ _ _ _ _ _ _ _ _ _ _ _ _
      | exact LeO.none _
      | refine LeO.ite ?_ ?_
      | refine LeO.bind ?_ (fun _ => ?_)
theorem l06_DescUnlike.mono : ∀ a0 a1 a2 a3 a4 a5 a6 a7 a8 a9 a10 a11 a12 k, LeO (l06_DescUnlike.f k a0 a1 a2 a3 a4 a5 a6 a7 a8 a9 a10 a11 a12) (l06_DescUnlike.f (k + 1) a0 a1 a2 a3 a4 a5 a6 a7 a8 a9 a10 a11 a12) := by
  intro a0 a1 a2 a3 a4 a5 a6 a7 a8 a9 a10 a11 a12 k
  obtain ⟨ih0, ih1, ih2⟩ := l06_DescUnlike.mono_l k
  unfold l06_DescUnlike.f
  repeat' first
      | (with_reducible exact ih0 _ _ _ _ _ _ _ _ _ _ _ _ _ _)
      | (with_reducible exact ih1 _ _ _ _ _ _ _ _ _)
      | (with_reducible exact ih2 _ _ _)
      | (with_reducible exact desc_Parse.mono _ _)
      | (with_reducible exact desc_Put.mono _ _ _ _ _ _ _)
      | (with_reducible exact desc_Same.mono _ _ _ _ _ _ _ _ _ _ _ _ _)
      | (with_reducible exact LeO.refl _)
      | (with_reducible exact LeO.none _)
      | (with_reducible refine LeO.ite ?_ ?_)
      | (with_reducible refine LeO.bind ?_ (fun _ => ?_))
      | exact ih0 _ _ _ _ _ _ _ _ _ _ _ _ _ _
      | exact ih1 _ _ _ _ _ _ _ _ _
      | exact ih2 _ _ _
      | exact desc_Parse.mono _ _
      | exact desc_Put.mono _ _ _ _ _ _ _
      | exact desc_Same.mono _ _ _ _ _ _ _ _ _ _ _ _ _
      | exact LeO.none _
      | refine LeO.ite ?_ ?_
      | refine LeO.bind ?_ (fun _ => ?_)
set_option maxHeartbeats 8000000 in
set_option maxRecDepth 100000 in
theorem l06_DescUnlike.calls (k : Nat) (a0_0 : Int) (a0_1 : ByteArray) (a0_2 : ByteArray) (a0_3 : Int) (A0_4 : Option Addr) (c0_4 : Nat) (l0_4 : List (S60)) (a0_5 : Int) (a1_0 : Int) (a1_1 : ByteArray) (a1_2 : ByteArray) (a1_3 : Int) (A1_4 : Option Addr) (c1_4 : Nat) (l1_4 : List (S60)) (a1_5 : Int) (a2 : Int) (r : Bool) (w : World) (hG : TheG w) (hr : r = true) (hr0_4 : Kd.C k60 w A0_4 l0_4.length l0_4) (hc0_4 : l0_4.length ≤ c0_4) (hr1_4 : Kd.C k60 w A1_4 l1_4.length l1_4) (hc1_4 : l1_4.length ≤ c1_4) (h : l06_DescUnlike.f k a0_0 a0_1 a0_2 a0_3 l0_4 a0_5 a1_0 a1_1 a1_2 a1_3 l1_4 a1_5 a2 = some r) :
    Calls Tryd.prog 5 #[.agg #[.int .i64 a0_0, .string a0_1, .string a0_2, .int .i64 a0_3, .slice A0_4 l0_4.length c0_4, .int .i64 a0_5], .agg #[.int .i64 a1_0, .string a1_1, .string a1_2, .int .i64 a1_3, .slice A1_4 l1_4.length c1_4, .int .i64 a1_5], .int .i64 a2] w fun e w' => e = .returned (.bool r) ∧ Below w.heap.size w w' := by
  have hu26 := Tryd.underlying26
  have HR0_4 := Az.mk hr0_4
  have HC0_4 := Az.mk hc0_4
  clear hr0_4 hc0_4
  have HR1_4 := Az.mk hr1_4
  have HC1_4 := Az.mk hc1_4
  clear hr1_4 hc1_4
  have HB := Az.mk (Below.refl w.heap.size w)
  have H : ((l06_small.f a0_0 a0_1 a0_2 a0_3 l0_4 a0_5).bind fun t486 => (if t486 = true then ((l06_small.f a1_0 a1_1 a1_2 a1_3 l1_4 a1_5).bind fun t487 => (l06_DescUnlike.j0 k a2 (!t487) a0_0 a0_1 a0_2 a0_3 l0_4 a0_5 a1_0 a1_1 a1_2 a1_3 l1_4 a1_5)) else (l06_DescUnlike.j0 k a2 true a0_0 a0_1 a0_2 a0_3 l0_4 a0_5 a1_0 a1_1 a1_2 a1_3 l1_4 a1_5))) = some r := h
  clear h
  have HC4 := Az.mk H
  clear H
  go_enter Tryd.func5, Tryd.ntmps5
  go_upto_region 1 with (first | ((with_reducible refine gate_dst (N := 3) rfl ?_); (try (refine gate_guard (by rfl) ?_; dsimp only)); refine box_event ?hg (N := 3) ?hd (cs := #[.int .i64 a0_0, .string a0_1, .string a0_2, .int .i64 a0_3, .slice A0_4 l0_4.length c0_4, .int .i64 a0_5]) (t := 26) ?hr ?_; (case hd => rfl); (case hg => rfl); (case hr => first | (go_simp; done) | (go_simp; rfl)); intro gb484 hg w5 hbox hb; have n0_ := Az.mk (pbT (by exact pbE HB.out) hb); have n1_ := Az.mk (hbox); have n2_ := Az.mk ((by rw [hg]; exact (pbZ (by exact pbE HB.out)) : w.heap.size ≤ gb484)); have n3_ := Az.mk ((by rw [hg]; exact (pbZ (by exact pbE HB.out)) : w.heap.size ≤ gb484)); clear HB; have HB := n0_; have BK484 := n1_; have GW484 := n2_; have GE484 := n3_; clear n0_ n1_ n2_ n3_; clear hb hbox hg) | ((with_reducible refine gate_dst (N := 4) rfl ?_); (try (refine gate_guard (by rfl) ?_; dsimp only)); refine box_event ?hg (N := 4) ?hd (cs := #[.int .i64 a1_0, .string a1_1, .string a1_2, .int .i64 a1_3, .slice A1_4 l1_4.length c1_4, .int .i64 a1_5]) (t := 26) ?hr ?_; (case hd => rfl); (case hg => rfl); (case hr => first | (go_simp; done) | (go_simp; rfl)); intro gb485 hg w6 hbox hb; have n0_ := Az.mk (bkB (g := gb484) (o := .cells #[.int .i64 a0_0, .string a0_1, .string a0_2, .int .i64 a0_3, .slice A0_4 l0_4.length c0_4, .int .i64 a0_5] 26 (0, 0)) (bk BK484.out) hb); have n1_ := Az.mk (pbT (by exact pbE HB.out) hb); have n2_ := Az.mk (hbox); have n3_ := Az.mk ((by rw [hg]; exact (pbZ (by exact pbE HB.out)) : w.heap.size ≤ gb485)); have n4_ := Az.mk ((by rw [hg]; exact (pbZ (by exact pbE HB.out)) : w.heap.size ≤ gb485)); have n5_ := Az.mk ((by rw [hg]; exact Nat.ne_of_lt (blk_lt (g := gb484) (o := .cells #[.int .i64 a0_0, .string a0_1, .string a0_2, .int .i64 a0_3, .slice A0_4 l0_4.length c0_4, .int .i64 a0_5] 26 (0, 0)) (bk BK484.out)) : gb484 ≠ gb485)); have n6_ := Az.mk ((by rw [hg]; exact Nat.ne_of_gt (blk_lt (g := gb484) (o := .cells #[.int .i64 a0_0, .string a0_1, .string a0_2, .int .i64 a0_3, .slice A0_4 l0_4.length c0_4, .int .i64 a0_5] 26 (0, 0)) (bk BK484.out)) : gb485 ≠ gb484)); clear BK484; clear HB; have BK484 := n0_; have HB := n1_; have BK485 := n2_; have GW485 := n3_; have GE485 := n4_; have NB484_485 := n5_; have NB485_484 := n6_; clear n0_ n1_ n2_ n3_ n4_ n5_ n6_; clear hb hbox hg))
  (try simp only [Act.put, List.setIfInBounds_toArray, List.set_cons_zero, List.set_cons_succ])
  go_cut [20] (fun v20 wc => ∃ (kq : Nat) (x20_3 : Bool), v20 = .bool x20_3 ∧ Az (l06_DescUnlike.j0 kq a2 x20_3 a0_0 a0_1 a0_2 a0_3 l0_4 a0_5 a1_0 a1_1 a1_2 a1_3 l1_4 a1_5 = some r) ∧ Az (kq ≤ k) ∧ Az (wc.heap[gb484]? = some (.cells #[.int .i64 a0_0, .string a0_1, .string a0_2, .int .i64 a0_3, (.slice A0_4 l0_4.length c0_4), .int .i64 a0_5] 26 (0, 0))) ∧ Az (wc.heap[gb485]? = some (.cells #[.int .i64 a1_0, .string a1_1, .string a1_2, .int .i64 a1_3, (.slice A1_4 l1_4.length c1_4), .int .i64 a1_5] 26 (0, 0))) ∧ Az (Below w.heap.size w wc))
  case first =>
    have H := HC4.out
    clear HC4
    replace H := Option.bind_eq_some_iff.mp H
    obtain ⟨t486, A70, H⟩ := H
    replace H : (if t486 = true then ((l06_small.f a1_0 a1_1 a1_2 a1_3 l1_4 a1_5).bind fun t487 => (l06_DescUnlike.j0 k a2 (!t487) a0_0 a0_1 a0_2 a0_3 l0_4 a0_5 a1_0 a1_1 a1_2 a1_3 l1_4 a1_5)) else (l06_DescUnlike.j0 k a2 true a0_0 a0_1 a0_2 a0_3 l0_4 a0_5 a1_0 a1_1 a1_2 a1_3 l1_4 a1_5)) = some r := H
    have A7 := Az.mk A70
    clear A70
    by_cases c8 : t486 = true
    · subst c8
      have H1 : ((l06_small.f a1_0 a1_1 a1_2 a1_3 l1_4 a1_5).bind fun t487 => (l06_DescUnlike.j0 k a2 (!t487) a0_0 a0_1 a0_2 a0_3 l0_4 a0_5 a1_0 a1_1 a1_2 a1_3 l1_4 a1_5)) = some r := by rw [if_pos rfl] at H; exact H
      clear H
      have H := H1
      clear H1
      replace H := Option.bind_eq_some_iff.mp H
      obtain ⟨t487, A90, H⟩ := H
      replace H : (l06_DescUnlike.j0 k a2 (!t487) a0_0 a0_1 a0_2 a0_3 l0_4 a0_5 a1_0 a1_1 a1_2 a1_3 l1_4 a1_5) = some r := H
      have A9 := Az.mk A90
      clear A90
      have H' := Az.mk H
      clear H
      have hnb10 := NB484_485.out
      have hnc10 := NB485_484.out
      have hcz11_0 : w6.cell? ⟨gb484, 0, none⟩ = some (.int .i64 a0_0) := (bkC BK484.out 0).trans rfl
      have hcz11_1 : w6.cell? ⟨gb484, 1, none⟩ = some (.string a0_1) := (bkC BK484.out 1).trans rfl
      have hcz11_2 : w6.cell? ⟨gb484, 2, none⟩ = some (.string a0_2) := (bkC BK484.out 2).trans rfl
      have hcz11_3 : w6.cell? ⟨gb484, 3, none⟩ = some (.int .i64 a0_3) := (bkC BK484.out 3).trans rfl
      have hcz11_4 : w6.cell? ⟨gb484, 4, none⟩ = some (.slice A0_4 l0_4.length c0_4) := (bkC BK484.out 4).trans rfl
      have hcz11_5 : w6.cell? ⟨gb484, 5, none⟩ = some (.int .i64 a0_5) := (bkC BK484.out 5).trans rfl
      have hfz11_0 := bkF BK484.out 0
      have hfz11_1 := bkF BK484.out 1
      have hfz11_2 := bkF BK484.out 2
      have hfz11_3 := bkF BK484.out 3
      have hfz11_4 := bkF BK484.out 4
      have hfz11_5 := bkF BK484.out 5
      go_wp2_with (first | ((with_reducible refine gtc (f := 9) rfl ?_); refine goesL_ (some 14) rfl rfl Tryd.func9 (by kernel_rfl) rfl #[.agg #[.int .i64 a0_0, .string a0_1, .string a0_2, .int .i64 a0_3, .slice A0_4 l0_4.length c0_4, .int .i64 a0_5]] rfl (by (try simp only [List.map_toArray, List.map_cons, List.map_nil]); first | done | rfl | (simp only [List.length_drop, List.length_take]; rfl)) ?_; (with_reducible refine (l06_small.calls a0_0 a0_1 a0_2 a0_3 _ _ l0_4 a0_5 true _ ?side1 ?side2 ?side3 A7.out).mono ?_); (case side1 => exact hG.below (by exact pbE HB.out)); (case side2 => repeat (first | exact (Kd.C_below HR0_4.out HB.out) | (with_reducible refine Kd.C_alloc ?_ _) | (with_reducible refine Kd.C_drewN ?_ _) | (with_reducible refine Kd.C_drew ?_))); (case side3 => exact HC0_4.out); rintro e w12 ⟨rfl, hb⟩; refine ⟨_, rfl, ?_⟩; have n0_ := Az.mk (bkB (g := gb484) (o := .cells #[.int .i64 a0_0, .string a0_1, .string a0_2, .int .i64 a0_3, .slice A0_4 l0_4.length c0_4, .int .i64 a0_5] 26 (0, 0)) (bk BK484.out) hb); have n1_ := Az.mk (bkB (g := gb485) (o := .cells #[.int .i64 a1_0, .string a1_1, .string a1_2, .int .i64 a1_3, .slice A1_4 l1_4.length c1_4, .int .i64 a1_5] 26 (0, 0)) (bk BK485.out) hb); have n2_ := Az.mk (pbT (by exact pbE HB.out) hb); clear BK484; clear BK485; clear HB; have BK484 := n0_; have BK485 := n1_; have HB := n2_; clear n0_ n1_ n2_; (try clear hb); (try clear hb2); (try clear hk); (try clear hi); have hcz13_0 : w12.cell? ⟨gb485, 0, none⟩ = some (.int .i64 a1_0) := (bkC BK485.out 0).trans rfl; have hcz13_1 : w12.cell? ⟨gb485, 1, none⟩ = some (.string a1_1) := (bkC BK485.out 1).trans rfl; have hcz13_2 : w12.cell? ⟨gb485, 2, none⟩ = some (.string a1_2) := (bkC BK485.out 2).trans rfl; have hcz13_3 : w12.cell? ⟨gb485, 3, none⟩ = some (.int .i64 a1_3) := (bkC BK485.out 3).trans rfl; have hcz13_4 : w12.cell? ⟨gb485, 4, none⟩ = some (.slice A1_4 l1_4.length c1_4) := (bkC BK485.out 4).trans rfl; have hcz13_5 : w12.cell? ⟨gb485, 5, none⟩ = some (.int .i64 a1_5) := (bkC BK485.out 5).trans rfl; have hfz13_0 := bkF BK485.out 0; have hfz13_1 := bkF BK485.out 1; have hfz13_2 := bkF BK485.out 2; have hfz13_3 := bkF BK485.out 3; have hfz13_4 := bkF BK485.out 4; have hfz13_5 := bkF BK485.out 5) | (go_at_call 9; (with_reducible refine (l06_small.calls a1_0 a1_1 a1_2 a1_3 _ _ l1_4 a1_5 t487 _ ?side1 ?side2 ?side3 A9.out).mono ?_); (case side1 => exact hG.below (by exact pbE HB.out)); (case side2 => repeat (first | exact (Kd.C_below HR1_4.out HB.out) | (with_reducible refine Kd.C_alloc ?_ _) | (with_reducible refine Kd.C_drewN ?_ _) | (with_reducible refine Kd.C_drew ?_))); (case side3 => exact HC1_4.out); rintro e w14 ⟨rfl, hb⟩; have n0_ := Az.mk (bkB (g := gb484) (o := .cells #[.int .i64 a0_0, .string a0_1, .string a0_2, .int .i64 a0_3, .slice A0_4 l0_4.length c0_4, .int .i64 a0_5] 26 (0, 0)) (bk BK484.out) hb); have n1_ := Az.mk (bkB (g := gb485) (o := .cells #[.int .i64 a1_0, .string a1_1, .string a1_2, .int .i64 a1_3, .slice A1_4 l1_4.length c1_4, .int .i64 a1_5] 26 (0, 0)) (bk BK485.out) hb); have n2_ := Az.mk (pbT (by exact pbE HB.out) hb); clear BK484; clear BK485; clear HB; have BK484 := n0_; have BK485 := n1_; have HB := n2_; clear n0_ n1_ n2_; (try clear hb); (try clear hb2); (try clear hk); (try clear hi)))
      go_meet
      case rel => exact ⟨_, (!t487), (by first | rfl | (simp; done) | (simp [*]; done)), H', ⟨by first | omega | exact Nat.le_refl _⟩, ⟨by refine bk ?_; exact BK484.out⟩, ⟨by refine bk ?_; exact BK485.out⟩, ⟨by exact pbE HB.out⟩⟩
    · replace c8 := Bool.eq_false_iff.mpr c8
      subst c8
      have H1 : (l06_DescUnlike.j0 k a2 true a0_0 a0_1 a0_2 a0_3 l0_4 a0_5 a1_0 a1_1 a1_2 a1_3 l1_4 a1_5) = some r := by rw [if_neg (show ¬ (false = true) by decide)] at H; exact H
      clear H
      have H := H1
      clear H1
      have H' := Az.mk H
      clear H
      have hnb15 := NB484_485.out
      have hnc15 := NB485_484.out
      have hcz16_0 : w6.cell? ⟨gb484, 0, none⟩ = some (.int .i64 a0_0) := (bkC BK484.out 0).trans rfl
      have hcz16_1 : w6.cell? ⟨gb484, 1, none⟩ = some (.string a0_1) := (bkC BK484.out 1).trans rfl
      have hcz16_2 : w6.cell? ⟨gb484, 2, none⟩ = some (.string a0_2) := (bkC BK484.out 2).trans rfl
      have hcz16_3 : w6.cell? ⟨gb484, 3, none⟩ = some (.int .i64 a0_3) := (bkC BK484.out 3).trans rfl
      have hcz16_4 : w6.cell? ⟨gb484, 4, none⟩ = some (.slice A0_4 l0_4.length c0_4) := (bkC BK484.out 4).trans rfl
      have hcz16_5 : w6.cell? ⟨gb484, 5, none⟩ = some (.int .i64 a0_5) := (bkC BK484.out 5).trans rfl
      have hfz16_0 := bkF BK484.out 0
      have hfz16_1 := bkF BK484.out 1
      have hfz16_2 := bkF BK484.out 2
      have hfz16_3 := bkF BK484.out 3
      have hfz16_4 := bkF BK484.out 4
      have hfz16_5 := bkF BK484.out 5
      go_wp2_with (first | ((with_reducible refine gtc (f := 9) rfl ?_); refine goesL_ (some 14) rfl rfl Tryd.func9 (by kernel_rfl) rfl #[.agg #[.int .i64 a0_0, .string a0_1, .string a0_2, .int .i64 a0_3, .slice A0_4 l0_4.length c0_4, .int .i64 a0_5]] rfl (by (try simp only [List.map_toArray, List.map_cons, List.map_nil]); first | done | rfl | (simp only [List.length_drop, List.length_take]; rfl)) ?_; (with_reducible refine (l06_small.calls a0_0 a0_1 a0_2 a0_3 _ _ l0_4 a0_5 false _ ?side1 ?side2 ?side3 A7.out).mono ?_); (case side1 => exact hG.below (by exact pbE HB.out)); (case side2 => repeat (first | exact (Kd.C_below HR0_4.out HB.out) | (with_reducible refine Kd.C_alloc ?_ _) | (with_reducible refine Kd.C_drewN ?_ _) | (with_reducible refine Kd.C_drew ?_))); (case side3 => exact HC0_4.out); rintro e w17 ⟨rfl, hb⟩; refine ⟨_, rfl, ?_⟩; have n0_ := Az.mk (bkB (g := gb484) (o := .cells #[.int .i64 a0_0, .string a0_1, .string a0_2, .int .i64 a0_3, .slice A0_4 l0_4.length c0_4, .int .i64 a0_5] 26 (0, 0)) (bk BK484.out) hb); have n1_ := Az.mk (bkB (g := gb485) (o := .cells #[.int .i64 a1_0, .string a1_1, .string a1_2, .int .i64 a1_3, .slice A1_4 l1_4.length c1_4, .int .i64 a1_5] 26 (0, 0)) (bk BK485.out) hb); have n2_ := Az.mk (pbT (by exact pbE HB.out) hb); clear BK484; clear BK485; clear HB; have BK484 := n0_; have BK485 := n1_; have HB := n2_; clear n0_ n1_ n2_; (try clear hb); (try clear hb2); (try clear hk); (try clear hi)))
      go_meet
      case rel => exact ⟨_, (true), (by first | rfl | (simp; done) | (simp [*]; done)), H', ⟨by first | omega | exact Nat.le_refl _⟩, ⟨by refine bk ?_; exact BK484.out⟩, ⟨by refine bk ?_; exact BK485.out⟩, ⟨by exact pbE HB.out⟩⟩
  case rest =>
    clear HC4
    try clear c1
    try clear p2
    try clear c5
    try clear c8
    try clear c9
    try clear c10
    try clear c15
    try clear hcz11_0
    try clear hcz11_1
    try clear hcz11_2
    try clear hcz11_3
    try clear hcz11_4
    try clear hcz11_5
    try clear hcz13_0
    try clear hcz13_1
    try clear hcz13_2
    try clear hcz13_3
    try clear hcz13_4
    try clear hcz13_5
    try clear hcz16_0
    try clear hcz16_1
    try clear hcz16_2
    try clear hcz16_3
    try clear hcz16_4
    try clear hcz16_5
    try clear hfz11_0
    try clear hfz11_1
    try clear hfz11_2
    try clear hfz11_3
    try clear hfz11_4
    try clear hfz11_5
    try clear hfz13_0
    try clear hfz13_1
    try clear hfz13_2
    try clear hfz13_3
    try clear hfz13_4
    try clear hfz13_5
    try clear hfz16_0
    try clear hfz16_1
    try clear hfz16_2
    try clear hfz16_3
    try clear hfz16_4
    try clear hfz16_5
    obtain ⟨kq, x20_3, rfl, HA, HJ3, BK484, BK485, HB⟩ := hcut
    cases kq with
    | zero => exact absurd HA.out (by simp [l06_DescUnlike.j0])
    | succ kj3 =>
      have H := HA.out
      clear HA
      simp only [l06_DescUnlike.j0] at H
      by_cases c18 : x20_3 = true
      · subst c18
        have H1 : ((l06_live.f).bind fun t488 => (some t488)) = some r := by rw [if_pos rfl] at H; exact H
        clear H
        have H := H1
        clear H1
        replace H := Option.bind_eq_some_iff.mp H
        obtain ⟨t488, A190, H⟩ := H
        replace H : (some t488) = some r := H
        have A19 := Az.mk A190
        clear A190
        obtain rfl := Option.some.inj H
        go_wp2_with (first | ((with_reducible refine gtc (f := 10) rfl ?_); refine goesL_ (some 21) rfl rfl Tryd.func10 (by kernel_rfl) rfl #[] rfl (by (try simp only [List.map_toArray, List.map_cons, List.map_nil]); first | done | rfl | (simp only [List.length_drop, List.length_take]; rfl)) ?_; (with_reducible refine (l06_live.calls  t488 _ ?side1 A19.out).mono ?_); (case side1 => exact hG.below (by exact pbE HB.out)); rintro e w20 ⟨rfl, hb⟩; refine ⟨_, rfl, ?_⟩; have n0_ := Az.mk (bkB (g := gb484) (o := .cells #[.int .i64 a0_0, .string a0_1, .string a0_2, .int .i64 a0_3, .slice A0_4 l0_4.length c0_4, .int .i64 a0_5] 26 (0, 0)) (bk BK484.out) hb); have n1_ := Az.mk (bkB (g := gb485) (o := .cells #[.int .i64 a1_0, .string a1_1, .string a1_2, .int .i64 a1_3, .slice A1_4 l1_4.length c1_4, .int .i64 a1_5] 26 (0, 0)) (bk BK485.out) hb); have n2_ := Az.mk (pbT (by exact pbE HB.out) hb); clear BK484; clear BK485; clear HB; have BK484 := n0_; have BK485 := n1_; have HB := n2_; clear n0_ n1_ n2_; (try clear hb); (try clear hb2); (try clear hk); (try clear hi)))
        go_ret
        exact ⟨by first | rfl | (simp [errW_none, errW_some] <;> rfl) | (simp [*, errW_none, errW_some] <;> rfl), by exact pbE HB.out⟩
      · replace c18 := Bool.eq_false_iff.mpr c18
        subst c18
        have H1 : ((desc_Put.f kj3 a0_0 a0_1 a0_2 a0_3 l0_4 a0_5).bind fun t489 => ((desc_Put.f kj3 a1_0 a1_1 a1_2 a1_3 l1_4 a1_5).bind fun t490 => ((desc_Same.f kj3 a0_0 a0_1 a0_2 a0_3 l0_4 a0_5 a1_0 a1_1 a1_2 a1_3 l1_4 a1_5).bind fun t491 => (if ((t489.toList == t490.toList) != t491) = true then (some false) else ((desc_Parse.f kj3 t489).bind fun bt492 => ((desc_Check.f a0_0 a0_1 a0_2 a0_3 l0_4 a0_5).bind fun t502 => ((l06_num.f t502).bind fun t503 => (if t503 = 0 then ((l06_num.f bt492.2.2.2.2.2.2).bind fun t506 => (if t506 = 0 then ((desc_Same.f kj3 bt492.1 bt492.2.1 bt492.2.2.1 bt492.2.2.2.1 bt492.2.2.2.2.1 bt492.2.2.2.2.2.1 a0_0 a0_1 a0_2 a0_3 l0_4 a0_5).bind fun t507 => (l06_DescUnlike.j1 kj3 a2 t489 (!t507) a0_0 a0_1 a0_2 a0_3 l0_4 a0_5)) else (l06_DescUnlike.j1 kj3 a2 t489 true a0_0 a0_1 a0_2 a0_3 l0_4 a0_5))) else ((l06_num.f bt492.2.2.2.2.2.2).bind fun t504 => (if t504 = 60 then ((l06_live.f).bind fun t505 => (some t505)) else (some false))))))))))) = some r := by rw [if_neg (show ¬ (false = true) by decide)] at H; exact H
        clear H
        have H := H1
        clear H1
        replace H := Option.bind_eq_some_iff.mp H
        obtain ⟨t489, A210, H⟩ := H
        replace H : ((desc_Put.f kj3 a1_0 a1_1 a1_2 a1_3 l1_4 a1_5).bind fun t490 => ((desc_Same.f kj3 a0_0 a0_1 a0_2 a0_3 l0_4 a0_5 a1_0 a1_1 a1_2 a1_3 l1_4 a1_5).bind fun t491 => (if ((t489.toList == t490.toList) != t491) = true then (some false) else ((desc_Parse.f kj3 t489).bind fun bt492 => ((desc_Check.f a0_0 a0_1 a0_2 a0_3 l0_4 a0_5).bind fun t502 => ((l06_num.f t502).bind fun t503 => (if t503 = 0 then ((l06_num.f bt492.2.2.2.2.2.2).bind fun t506 => (if t506 = 0 then ((desc_Same.f kj3 bt492.1 bt492.2.1 bt492.2.2.1 bt492.2.2.2.1 bt492.2.2.2.2.1 bt492.2.2.2.2.2.1 a0_0 a0_1 a0_2 a0_3 l0_4 a0_5).bind fun t507 => (l06_DescUnlike.j1 kj3 a2 t489 (!t507) a0_0 a0_1 a0_2 a0_3 l0_4 a0_5)) else (l06_DescUnlike.j1 kj3 a2 t489 true a0_0 a0_1 a0_2 a0_3 l0_4 a0_5))) else ((l06_num.f bt492.2.2.2.2.2.2).bind fun t504 => (if t504 = 60 then ((l06_live.f).bind fun t505 => (some t505)) else (some false)))))))))) = some r := H
        have A21 := Az.mk A210
        clear A210
        replace H := Option.bind_eq_some_iff.mp H
        obtain ⟨t490, A220, H⟩ := H
        replace H : ((desc_Same.f kj3 a0_0 a0_1 a0_2 a0_3 l0_4 a0_5 a1_0 a1_1 a1_2 a1_3 l1_4 a1_5).bind fun t491 => (if ((t489.toList == t490.toList) != t491) = true then (some false) else ((desc_Parse.f kj3 t489).bind fun bt492 => ((desc_Check.f a0_0 a0_1 a0_2 a0_3 l0_4 a0_5).bind fun t502 => ((l06_num.f t502).bind fun t503 => (if t503 = 0 then ((l06_num.f bt492.2.2.2.2.2.2).bind fun t506 => (if t506 = 0 then ((desc_Same.f kj3 bt492.1 bt492.2.1 bt492.2.2.1 bt492.2.2.2.1 bt492.2.2.2.2.1 bt492.2.2.2.2.2.1 a0_0 a0_1 a0_2 a0_3 l0_4 a0_5).bind fun t507 => (l06_DescUnlike.j1 kj3 a2 t489 (!t507) a0_0 a0_1 a0_2 a0_3 l0_4 a0_5)) else (l06_DescUnlike.j1 kj3 a2 t489 true a0_0 a0_1 a0_2 a0_3 l0_4 a0_5))) else ((l06_num.f bt492.2.2.2.2.2.2).bind fun t504 => (if t504 = 60 then ((l06_live.f).bind fun t505 => (some t505)) else (some false))))))))) = some r := H
        have A22 := Az.mk A220
        clear A220
        replace H := Option.bind_eq_some_iff.mp H
        obtain ⟨t491, A230, H⟩ := H
        replace H : (if ((t489.toList == t490.toList) != t491) = true then (some false) else ((desc_Parse.f kj3 t489).bind fun bt492 => ((desc_Check.f a0_0 a0_1 a0_2 a0_3 l0_4 a0_5).bind fun t502 => ((l06_num.f t502).bind fun t503 => (if t503 = 0 then ((l06_num.f bt492.2.2.2.2.2.2).bind fun t506 => (if t506 = 0 then ((desc_Same.f kj3 bt492.1 bt492.2.1 bt492.2.2.1 bt492.2.2.2.1 bt492.2.2.2.2.1 bt492.2.2.2.2.2.1 a0_0 a0_1 a0_2 a0_3 l0_4 a0_5).bind fun t507 => (l06_DescUnlike.j1 kj3 a2 t489 (!t507) a0_0 a0_1 a0_2 a0_3 l0_4 a0_5)) else (l06_DescUnlike.j1 kj3 a2 t489 true a0_0 a0_1 a0_2 a0_3 l0_4 a0_5))) else ((l06_num.f bt492.2.2.2.2.2.2).bind fun t504 => (if t504 = 60 then ((l06_live.f).bind fun t505 => (some t505)) else (some false)))))))) = some r := H
        have A23 := Az.mk A230
        clear A230
        by_cases c24 : ((t489.toList == t490.toList) != t491) = true
        · rw [if_pos c24] at H
          have c24b0 : ((t489.toList == t490.toList) != t491) = true := c24
          (try (have c24b1 : decide ((t489.toList == t490.toList) = t491) = false := by simpa using c24))
          (try (have c24b2 : ((t489.toList == t490.toList) == t491) = false := by simpa using c24))
          (try (have c24b3 : ¬ ((t489.toList == t490.toList) = t491) := by simpa using c24))
          clear c24
          exact absurd (Option.some.inj (H.trans (congrArg some hr))) (by decide)
        · rw [if_neg c24] at H
          have c24b0 : ((t489.toList == t490.toList) != t491) = false := by simpa using c24
          (try (have c24b1 : decide ((t489.toList == t490.toList) = t491) = true := by simpa using c24))
          (try (have c24b2 : ((t489.toList == t490.toList) == t491) = true := by simpa using c24))
          clear c24
          replace H := Option.bind_eq_some_iff.mp H
          obtain ⟨⟨t492, t493, t494, t495, t496, t499, t500⟩, A250, H⟩ := H
          replace H : ((desc_Check.f a0_0 a0_1 a0_2 a0_3 l0_4 a0_5).bind fun t502 => ((l06_num.f t502).bind fun t503 => (if t503 = 0 then ((l06_num.f t500).bind fun t506 => (if t506 = 0 then ((desc_Same.f kj3 t492 t493 t494 t495 t496 t499 a0_0 a0_1 a0_2 a0_3 l0_4 a0_5).bind fun t507 => (l06_DescUnlike.j1 kj3 a2 t489 (!t507) a0_0 a0_1 a0_2 a0_3 l0_4 a0_5)) else (l06_DescUnlike.j1 kj3 a2 t489 true a0_0 a0_1 a0_2 a0_3 l0_4 a0_5))) else ((l06_num.f t500).bind fun t504 => (if t504 = 60 then ((l06_live.f).bind fun t505 => (some t505)) else (some false)))))) = some r := H
          have A25 := Az.mk A250
          clear A250
          replace H := Option.bind_eq_some_iff.mp H
          obtain ⟨t502, A260, H⟩ := H
          replace H : ((l06_num.f t502).bind fun t503 => (if t503 = 0 then ((l06_num.f t500).bind fun t506 => (if t506 = 0 then ((desc_Same.f kj3 t492 t493 t494 t495 t496 t499 a0_0 a0_1 a0_2 a0_3 l0_4 a0_5).bind fun t507 => (l06_DescUnlike.j1 kj3 a2 t489 (!t507) a0_0 a0_1 a0_2 a0_3 l0_4 a0_5)) else (l06_DescUnlike.j1 kj3 a2 t489 true a0_0 a0_1 a0_2 a0_3 l0_4 a0_5))) else ((l06_num.f t500).bind fun t504 => (if t504 = 60 then ((l06_live.f).bind fun t505 => (some t505)) else (some false))))) = some r := H
          have A26 := Az.mk A260
          clear A260
          replace H := Option.bind_eq_some_iff.mp H
          obtain ⟨t503, A270, H⟩ := H
          replace H : (if t503 = 0 then ((l06_num.f t500).bind fun t506 => (if t506 = 0 then ((desc_Same.f kj3 t492 t493 t494 t495 t496 t499 a0_0 a0_1 a0_2 a0_3 l0_4 a0_5).bind fun t507 => (l06_DescUnlike.j1 kj3 a2 t489 (!t507) a0_0 a0_1 a0_2 a0_3 l0_4 a0_5)) else (l06_DescUnlike.j1 kj3 a2 t489 true a0_0 a0_1 a0_2 a0_3 l0_4 a0_5))) else ((l06_num.f t500).bind fun t504 => (if t504 = 60 then ((l06_live.f).bind fun t505 => (some t505)) else (some false)))) = some r := H
          have A27 := Az.mk A270
          clear A270
          by_cases c28 : t503 = 0
          · rw [if_pos c28] at H
            have c28b0 : (t503 == 0) = true := beq_iff_eq.mpr c28
            have c28b1 : (t503 != 0) = false := bne_eq_false_iff_eq.mpr c28
            clear c28
            have HC29 := Az.mk H
            clear H
            try go_wp2
            have n0_ := Az.mk (bkD BK484.out)
            have n1_ := Az.mk (bkD BK485.out)
            have n2_ := Az.mk (pb1 HB.out)
            clear BK484
            clear BK485
            clear HB
            have BK484 := n0_
            have BK485 := n1_
            have HB := n2_
            clear n0_ n1_ n2_
            refine start_ (n := 6) (S := fun w' => w'.cell? ⟨gb484, 0, none⟩ = some (.int .i64 a0_0) ∧ w'.cell? ⟨gb484, 1, none⟩ = some (.string a0_1) ∧ w'.cell? ⟨gb484, 2, none⟩ = some (.string a0_2) ∧ w'.cell? ⟨gb484, 3, none⟩ = some (.int .i64 a0_3) ∧ w'.cell? ⟨gb484, 4, none⟩ = some (.slice A0_4 l0_4.length c0_4) ∧ w'.cell? ⟨gb484, 5, none⟩ = some (.int .i64 a0_5) ∧ w'.cell? ⟨gb485, 0, none⟩ = some (.int .i64 a1_0) ∧ w'.cell? ⟨gb485, 1, none⟩ = some (.string a1_1) ∧ w'.cell? ⟨gb485, 2, none⟩ = some (.string a1_2) ∧ w'.cell? ⟨gb485, 3, none⟩ = some (.int .i64 a1_3) ∧ w'.cell? ⟨gb485, 4, none⟩ = some (.slice A1_4 l1_4.length c1_4) ∧ w'.cell? ⟨gb485, 5, none⟩ = some (.int .i64 a1_5)) (ds := []) #[false, false, false, false, false, false] (by kernel_rfl) rfl rfl ⟨(bkC BK484.out 0).trans rfl, (bkC BK484.out 1).trans rfl, (bkC BK484.out 2).trans rfl, (bkC BK484.out 3).trans rfl, (bkC BK484.out 4).trans rfl, (bkC BK484.out 5).trans rfl, (bkC BK485.out 0).trans rfl, (bkC BK485.out 1).trans rfl, (bkC BK485.out 2).trans rfl, (bkC BK485.out 3).trans rfl, (bkC BK485.out 4).trans rfl, (bkC BK485.out 5).trans rfl⟩ (fun hHeld => ?_)
            generalize wc.drew = w30 at BK484 BK485 HB hHeld ⊢
            refine take_ (i := 0) (N := some 22) (v := ?_) (a' := ?_) #[true, false, false, false, false, false] rfl rfl (by kernel_rfl) (fun _ _ _ h => h) (Or.inl ⟨by rfl, ?_⟩) hHeld ?_ ?_
            rotate_left
            · rintro w' ⟨s0, s1, s2, s3, s4, s5, s6, s7, s8, s9, s10, s11⟩
              go_simp
              with_reducible rfl
            rotate_left
            · simp only [Act.put, List.setIfInBounds_toArray, List.set_cons_zero, List.set_cons_succ, i64_w, i32_w]
              rfl
            refine take_ (i := 2) (N := some 24) (v := ?_) (a' := ?_) #[true, false, true, false, false, false] rfl rfl (by kernel_rfl) (fun _ _ _ h => h) (Or.inl ⟨by rfl, ?_⟩) hHeld ?_ ?_
            rotate_left
            · rintro w' ⟨s0, s1, s2, s3, s4, s5, s6, s7, s8, s9, s10, s11⟩
              go_simp
              with_reducible rfl
            rotate_left
            · simp only [Act.put, List.setIfInBounds_toArray, List.set_cons_zero, List.set_cons_succ, i64_w, i32_w]
              rfl
            refine one_ (i := 1) (N := some 23) #[true, true, true, false, false, false] rfl rfl (by kernel_rfl) (by decide) (fun K hK => ?_)
            refine goes_ Tryd.func19 (by kernel_rfl) rfl #[.agg #[.int .i64 a0_0, .string a0_1, .string a0_2, .int .i64 a0_3, .slice A0_4 l0_4.length c0_4, .int .i64 a0_5]] (by rfl) rfl rfl (by (try simp only [List.map_toArray, List.map_cons, List.map_nil]); first | done | rfl | (simp only [List.length_drop, List.length_take]; rfl)) ?_
            with_reducible refine (desc_Put.calls kj3 a0_0 a0_1 a0_2 a0_3 _ _ l0_4 a0_5 t489 _ ?side1 ?side2 ?side3 A21.out).mono ?_
            (case side1 => exact hG.below (by exact pbE HB.out))
            (case side2 => repeat (first | exact (Kd.C_below HR0_4.out HB.out) | (with_reducible refine Kd.C_alloc ?_ _) | (with_reducible refine Kd.C_drewN ?_ _) | (with_reducible refine Kd.C_drew ?_)))
            (case side3 => exact HC0_4.out)
            rintro e w31 ⟨rfl, hb⟩
            refine ⟨_, rfl, ?_⟩
            have n0_ := Az.mk (bkB (g := gb484) (o := .cells #[.int .i64 a0_0, .string a0_1, .string a0_2, .int .i64 a0_3, .slice A0_4 l0_4.length c0_4, .int .i64 a0_5] 26 (0, 0)) (bk BK484.out) hb)
            have n1_ := Az.mk (bkB (g := gb485) (o := .cells #[.int .i64 a1_0, .string a1_1, .string a1_2, .int .i64 a1_3, .slice A1_4 l1_4.length c1_4, .int .i64 a1_5] 26 (0, 0)) (bk BK485.out) hb)
            have n2_ := Az.mk (pbT (by exact pbE HB.out) hb)
            clear BK484
            clear BK485
            clear HB
            have BK484 := n0_
            have BK485 := n1_
            have HB := n2_
            clear n0_ n1_ n2_
            (try clear hb)
            (try clear hb2)
            (try clear hk)
            (try clear hi)
            refine hK.out _ _ ⟨(bkC BK484.out 0).trans rfl, (bkC BK484.out 1).trans rfl, (bkC BK484.out 2).trans rfl, (bkC BK484.out 3).trans rfl, (bkC BK484.out 4).trans rfl, (bkC BK484.out 5).trans rfl, (bkC BK485.out 0).trans rfl, (bkC BK485.out 1).trans rfl, (bkC BK485.out 2).trans rfl, (bkC BK485.out 3).trans rfl, (bkC BK485.out 4).trans rfl, (bkC BK485.out 5).trans rfl⟩ (fun hHeld => ?_)
            clear hK K
            refine norm_ (a' := ?_) ?_ ?_
            rotate_left
            · show Act.put _ (some 23) _ = _
              simp only [Act.put, List.setIfInBounds_toArray, List.set_cons_zero, List.set_cons_succ, i64_w, i32_w]
              rfl
            refine one_ (i := 3) (N := some 25) #[true, true, true, true, false, false] rfl rfl (by kernel_rfl) (by decide) (fun K hK => ?_)
            refine goes_ Tryd.func19 (by kernel_rfl) rfl #[.agg #[.int .i64 a1_0, .string a1_1, .string a1_2, .int .i64 a1_3, .slice A1_4 l1_4.length c1_4, .int .i64 a1_5]] (by rfl) rfl rfl (by (try simp only [List.map_toArray, List.map_cons, List.map_nil]); first | done | rfl | (simp only [List.length_drop, List.length_take]; rfl)) ?_
            with_reducible refine (desc_Put.calls kj3 a1_0 a1_1 a1_2 a1_3 _ _ l1_4 a1_5 t490 _ ?side1 ?side2 ?side3 A22.out).mono ?_
            (case side1 => exact hG.below (by exact pbE HB.out))
            (case side2 => repeat (first | exact (Kd.C_below HR1_4.out HB.out) | (with_reducible refine Kd.C_alloc ?_ _) | (with_reducible refine Kd.C_drewN ?_ _) | (with_reducible refine Kd.C_drew ?_)))
            (case side3 => exact HC1_4.out)
            rintro e w32 ⟨rfl, hb⟩
            refine ⟨_, rfl, ?_⟩
            have n0_ := Az.mk (bkB (g := gb484) (o := .cells #[.int .i64 a0_0, .string a0_1, .string a0_2, .int .i64 a0_3, .slice A0_4 l0_4.length c0_4, .int .i64 a0_5] 26 (0, 0)) (bk BK484.out) hb)
            have n1_ := Az.mk (bkB (g := gb485) (o := .cells #[.int .i64 a1_0, .string a1_1, .string a1_2, .int .i64 a1_3, .slice A1_4 l1_4.length c1_4, .int .i64 a1_5] 26 (0, 0)) (bk BK485.out) hb)
            have n2_ := Az.mk (pbT (by exact pbE HB.out) hb)
            clear BK484
            clear BK485
            clear HB
            have BK484 := n0_
            have BK485 := n1_
            have HB := n2_
            clear n0_ n1_ n2_
            (try clear hb)
            (try clear hb2)
            (try clear hk)
            (try clear hi)
            refine hK.out _ _ ⟨(bkC BK484.out 0).trans rfl, (bkC BK484.out 1).trans rfl, (bkC BK484.out 2).trans rfl, (bkC BK484.out 3).trans rfl, (bkC BK484.out 4).trans rfl, (bkC BK484.out 5).trans rfl, (bkC BK485.out 0).trans rfl, (bkC BK485.out 1).trans rfl, (bkC BK485.out 2).trans rfl, (bkC BK485.out 3).trans rfl, (bkC BK485.out 4).trans rfl, (bkC BK485.out 5).trans rfl⟩ (fun hHeld => ?_)
            clear hK K
            refine norm_ (a' := ?_) ?_ ?_
            rotate_left
            · show Act.put _ (some 25) _ = _
              simp only [Act.put, List.setIfInBounds_toArray, List.set_cons_zero, List.set_cons_succ, i64_w, i32_w]
              rfl
            refine pure_ (i := 4) (N := some 7) (v := ?_) (a' := ?_) #[true, true, true, true, true, false] rfl rfl (by kernel_rfl) (fun _ _ _ h => h) (Or.inl ⟨by rfl, ?_⟩) ?_ ?_
            rotate_left
            · intro w'
              go_simp
              with_reducible rfl
            rotate_left
            · simp only [Act.put, List.setIfInBounds_toArray, List.set_cons_zero, List.set_cons_succ, i64_w, i32_w]
              rfl
            refine pure_ (i := 5) (N := some 8) (v := ?_) (a' := ?_) #[true, true, true, true, true, true] rfl rfl (by kernel_rfl) (fun _ _ _ h => h) (Or.inl ⟨by rfl, ?_⟩) ?_ ?_
            rotate_left
            · intro w'
              go_simp
              with_reducible rfl
            rotate_left
            · simp only [Act.put, List.setIfInBounds_toArray, List.set_cons_zero, List.set_cons_succ, i64_w, i32_w]
              rfl
            refine done_ (by kernel_rfl) ?_
            have hnb33 := NB484_485.out
            have hnc33 := NB485_484.out
            have hcz34_0 : w32.cell? ⟨gb484, 0, none⟩ = some (.int .i64 a0_0) := (bkC BK484.out 0).trans rfl
            have hcz34_1 : w32.cell? ⟨gb484, 1, none⟩ = some (.string a0_1) := (bkC BK484.out 1).trans rfl
            have hcz34_2 : w32.cell? ⟨gb484, 2, none⟩ = some (.string a0_2) := (bkC BK484.out 2).trans rfl
            have hcz34_3 : w32.cell? ⟨gb484, 3, none⟩ = some (.int .i64 a0_3) := (bkC BK484.out 3).trans rfl
            have hcz34_4 : w32.cell? ⟨gb484, 4, none⟩ = some (.slice A0_4 l0_4.length c0_4) := (bkC BK484.out 4).trans rfl
            have hcz34_5 : w32.cell? ⟨gb484, 5, none⟩ = some (.int .i64 a0_5) := (bkC BK484.out 5).trans rfl
            have hfz34_0 := bkF BK484.out 0
            have hfz34_1 := bkF BK484.out 1
            have hfz34_2 := bkF BK484.out 2
            have hfz34_3 := bkF BK484.out 3
            have hfz34_4 := bkF BK484.out 4
            have hfz34_5 := bkF BK484.out 5
            have hcz35_0 : w32.cell? ⟨gb485, 0, none⟩ = some (.int .i64 a1_0) := (bkC BK485.out 0).trans rfl
            have hcz35_1 : w32.cell? ⟨gb485, 1, none⟩ = some (.string a1_1) := (bkC BK485.out 1).trans rfl
            have hcz35_2 : w32.cell? ⟨gb485, 2, none⟩ = some (.string a1_2) := (bkC BK485.out 2).trans rfl
            have hcz35_3 : w32.cell? ⟨gb485, 3, none⟩ = some (.int .i64 a1_3) := (bkC BK485.out 3).trans rfl
            have hcz35_4 : w32.cell? ⟨gb485, 4, none⟩ = some (.slice A1_4 l1_4.length c1_4) := (bkC BK485.out 4).trans rfl
            have hcz35_5 : w32.cell? ⟨gb485, 5, none⟩ = some (.int .i64 a1_5) := (bkC BK485.out 5).trans rfl
            have hfz35_0 := bkF BK485.out 0
            have hfz35_1 := bkF BK485.out 1
            have hfz35_2 := bkF BK485.out 2
            have hfz35_3 := bkF BK485.out 3
            have hfz35_4 := bkF BK485.out 4
            have hfz35_5 := bkF BK485.out 5
            go_upto_region 9 with (first | ((with_reducible refine gtc (f := 20) rfl ?_); refine goesL_ (some 31) rfl rfl Tryd.func20 (by kernel_rfl) rfl #[.agg #[.int .i64 a0_0, .string a0_1, .string a0_2, .int .i64 a0_3, .slice A0_4 l0_4.length c0_4, .int .i64 a0_5], .agg #[.int .i64 a1_0, .string a1_1, .string a1_2, .int .i64 a1_3, .slice A1_4 l1_4.length c1_4, .int .i64 a1_5]] rfl (by (try simp only [List.map_toArray, List.map_cons, List.map_nil]); first | done | rfl | (simp only [List.length_drop, List.length_take]; rfl)) ?_; (with_reducible refine (desc_Same.calls kj3 a0_0 a0_1 a0_2 a0_3 _ _ l0_4 a0_5 a1_0 a1_1 a1_2 a1_3 _ _ l1_4 a1_5 t491 _ ?side1 ?side2 ?side3 ?side4 ?side5 A23.out).mono ?_); (case side1 => exact hG.below (by exact pbE HB.out)); (case side2 => repeat (first | exact (Kd.C_below HR0_4.out HB.out) | (with_reducible refine Kd.C_alloc ?_ _) | (with_reducible refine Kd.C_drewN ?_ _) | (with_reducible refine Kd.C_drew ?_))); (case side3 => exact HC0_4.out); (case side4 => repeat (first | exact (Kd.C_below HR1_4.out HB.out) | (with_reducible refine Kd.C_alloc ?_ _) | (with_reducible refine Kd.C_drewN ?_ _) | (with_reducible refine Kd.C_drew ?_))); (case side5 => exact HC1_4.out); rintro e w36 ⟨rfl, hb⟩; refine ⟨_, rfl, ?_⟩; have n0_ := Az.mk (bkB (g := gb484) (o := .cells #[.int .i64 a0_0, .string a0_1, .string a0_2, .int .i64 a0_3, .slice A0_4 l0_4.length c0_4, .int .i64 a0_5] 26 (0, 0)) (bk BK484.out) hb); have n1_ := Az.mk (bkB (g := gb485) (o := .cells #[.int .i64 a1_0, .string a1_1, .string a1_2, .int .i64 a1_3, .slice A1_4 l1_4.length c1_4, .int .i64 a1_5] 26 (0, 0)) (bk BK485.out) hb); have n2_ := Az.mk (pbT (by exact pbE HB.out) hb); clear BK484; clear BK485; clear HB; have BK484 := n0_; have BK485 := n1_; have HB := n2_; clear n0_ n1_ n2_; (try clear hb); (try clear hb2); (try clear hk); (try clear hi)) | ((with_reducible refine gtc (f := 21) rfl ?_); refine goesL_ (some 35) rfl rfl Tryd.func21 (by kernel_rfl) rfl #[.string t489] rfl (by (try simp only [List.map_toArray, List.map_cons, List.map_nil]); first | done | rfl | (simp only [List.length_drop, List.length_take]; rfl)) ?_; (with_reducible refine (desc_Parse.calls kj3 t489 t492 t493 t494 t495 t496 t499 t500 _ ?side1 A25.out).mono ?_); (case side1 => exact hG.below (by exact pbE HB.out)); rintro e w37 ⟨v497, rfl, ho0, hb⟩; refine ⟨_, rfl, ?_⟩; have n0_ := Az.mk (Kd.V_lower (Kd.V_mono (ok' := fun k_ => k_ ≠ gb484 ∧ k_ ≠ gb485) ho0 (fun k_ hk_ => ⟨(Kd.freshB (g := gb484) (o := .cells #[.int .i64 a0_0, .string a0_1, .string a0_2, .int .i64 a0_3, .slice A0_4 l0_4.length c0_4, .int .i64 a0_5] 26 (0, 0)) (bk BK484.out) k_ hk_), (Kd.freshB (g := gb485) (o := .cells #[.int .i64 a1_0, .string a1_1, .string a1_2, .int .i64 a1_3, .slice A1_4 l1_4.length c1_4, .int .i64 a1_5] 26 (0, 0)) (bk BK485.out) k_ hk_)⟩)) (pbZ (by exact pbE HB.out))); have n1_ := Az.mk (bkB (g := gb484) (o := .cells #[.int .i64 a0_0, .string a0_1, .string a0_2, .int .i64 a0_3, .slice A0_4 l0_4.length c0_4, .int .i64 a0_5] 26 (0, 0)) (bk BK484.out) hb); have n2_ := Az.mk (bkB (g := gb485) (o := .cells #[.int .i64 a1_0, .string a1_1, .string a1_2, .int .i64 a1_3, .slice A1_4 l1_4.length c1_4, .int .i64 a1_5] 26 (0, 0)) (bk BK485.out) hb); have n3_ := Az.mk (pbT (by exact pbE HB.out) hb); clear BK484; clear BK485; clear HB; have HO498 := n0_; have BK484 := n1_; have BK485 := n2_; have HB := n3_; clear n0_ n1_ n2_ n3_; (try clear hb); (try clear hb2); (try clear hk); (try clear hi); (try clear ho0)) | ((with_reducible refine gate_dst (N := 9) rfl ?_); (try (refine gate_guard (by rfl) ?_; dsimp only)); refine box_event ?hg (N := 9) ?hd (cs := #[.int .i64 0, .string (⟨#[]⟩ : ByteArray), .string (⟨#[]⟩ : ByteArray), .int .i64 0, .slice none 0 0, .int .i64 0]) (t := 26) ?hr ?_; (case hd => rfl); (case hg => rfl); (case hr => first | (go_simp; done) | (go_simp; rfl)); intro gb501 hg w38 hbox hb; have n0_ := Az.mk (Kd.V_below (Kd.V_elderB (Kd.V_ext HO498.out) gb501 (Nat.le_of_eq hg.symm)) hb); have n1_ := Az.mk (bkB (g := gb484) (o := .cells #[.int .i64 a0_0, .string a0_1, .string a0_2, .int .i64 a0_3, .slice A0_4 l0_4.length c0_4, .int .i64 a0_5] 26 (0, 0)) (bk BK484.out) hb); have n2_ := Az.mk (bkB (g := gb485) (o := .cells #[.int .i64 a1_0, .string a1_1, .string a1_2, .int .i64 a1_3, .slice A1_4 l1_4.length c1_4, .int .i64 a1_5] 26 (0, 0)) (bk BK485.out) hb); have n3_ := Az.mk (pbT (by exact pbE HB.out) hb); have n4_ := Az.mk (hbox); have n5_ := Az.mk ((by rw [hg]; exact (pbZ (by exact pbE HB.out)) : w.heap.size ≤ gb501)); have n6_ := Az.mk ((by rw [hg]; exact (pbZ (by exact pbE HB.out)) : w.heap.size ≤ gb501)); have n7_ := Az.mk ((by rw [hg]; exact Nat.ne_of_lt (blk_lt (g := gb484) (o := .cells #[.int .i64 a0_0, .string a0_1, .string a0_2, .int .i64 a0_3, .slice A0_4 l0_4.length c0_4, .int .i64 a0_5] 26 (0, 0)) (bk BK484.out)) : gb484 ≠ gb501)); have n8_ := Az.mk ((by rw [hg]; exact Nat.ne_of_gt (blk_lt (g := gb484) (o := .cells #[.int .i64 a0_0, .string a0_1, .string a0_2, .int .i64 a0_3, .slice A0_4 l0_4.length c0_4, .int .i64 a0_5] 26 (0, 0)) (bk BK484.out)) : gb501 ≠ gb484)); have n9_ := Az.mk ((by rw [hg]; exact Nat.ne_of_lt (blk_lt (g := gb485) (o := .cells #[.int .i64 a1_0, .string a1_1, .string a1_2, .int .i64 a1_3, .slice A1_4 l1_4.length c1_4, .int .i64 a1_5] 26 (0, 0)) (bk BK485.out)) : gb485 ≠ gb501)); have n10_ := Az.mk ((by rw [hg]; exact Nat.ne_of_gt (blk_lt (g := gb485) (o := .cells #[.int .i64 a1_0, .string a1_1, .string a1_2, .int .i64 a1_3, .slice A1_4 l1_4.length c1_4, .int .i64 a1_5] 26 (0, 0)) (bk BK485.out)) : gb501 ≠ gb485)); clear HO498; clear BK484; clear BK485; clear HB; have HO498 := n0_; have BK484 := n1_; have BK485 := n2_; have HB := n3_; have BK501 := n4_; have GW501 := n5_; have GE501 := n6_; have NB484_501 := n7_; have NB501_484 := n8_; have NB485_501 := n9_; have NB501_485 := n10_; clear n0_ n1_ n2_ n3_ n4_ n5_ n6_ n7_ n8_ n9_ n10_; clear hb hbox hg; have hnb39 := NB501_484.out; have hnc39 := NB484_501.out; have hnb40 := NB501_485.out; have hnc40 := NB485_501.out; have hcz41_0 : w38.cell? ⟨gb501, 0, none⟩ = some (.int .i64 0) := (bkC BK501.out 0).trans rfl; have hcz41_1 : w38.cell? ⟨gb501, 1, none⟩ = some (.string (⟨#[]⟩ : ByteArray)) := (bkC BK501.out 1).trans rfl; have hcz41_2 : w38.cell? ⟨gb501, 2, none⟩ = some (.string (⟨#[]⟩ : ByteArray)) := (bkC BK501.out 2).trans rfl; have hcz41_3 : w38.cell? ⟨gb501, 3, none⟩ = some (.int .i64 0) := (bkC BK501.out 3).trans rfl; have hcz41_4 : w38.cell? ⟨gb501, 4, none⟩ = some (.slice none 0 0) := (bkC BK501.out 4).trans rfl; have hcz41_5 : w38.cell? ⟨gb501, 5, none⟩ = some (.int .i64 0) := (bkC BK501.out 5).trans rfl; have hfz41_0 := bkF BK501.out 0; have hfz41_1 := bkF BK501.out 1; have hfz41_2 := bkF BK501.out 2; have hfz41_3 := bkF BK501.out 3; have hfz41_4 := bkF BK501.out 4; have hfz41_5 := bkF BK501.out 5; obtain ⟨Ao42, co42, eo42⟩ := Kd.V_slice HO498.out; subst eo42; have hcz43_0 : w38.cell? ⟨gb484, 0, none⟩ = some (.int .i64 a0_0) := (bkC BK484.out 0).trans rfl; have hcz43_1 : w38.cell? ⟨gb484, 1, none⟩ = some (.string a0_1) := (bkC BK484.out 1).trans rfl; have hcz43_2 : w38.cell? ⟨gb484, 2, none⟩ = some (.string a0_2) := (bkC BK484.out 2).trans rfl; have hcz43_3 : w38.cell? ⟨gb484, 3, none⟩ = some (.int .i64 a0_3) := (bkC BK484.out 3).trans rfl; have hcz43_4 : w38.cell? ⟨gb484, 4, none⟩ = some (.slice A0_4 l0_4.length c0_4) := (bkC BK484.out 4).trans rfl; have hcz43_5 : w38.cell? ⟨gb484, 5, none⟩ = some (.int .i64 a0_5) := (bkC BK484.out 5).trans rfl; have hfz43_0 := bkF BK484.out 0; have hfz43_1 := bkF BK484.out 1; have hfz43_2 := bkF BK484.out 2; have hfz43_3 := bkF BK484.out 3; have hfz43_4 := bkF BK484.out 4; have hfz43_5 := bkF BK484.out 5) | ((with_reducible refine gtc (f := 22) rfl ?_); refine goesL_ (some 39) rfl rfl Tryd.func22 (by kernel_rfl) rfl #[.agg #[.int .i64 a0_0, .string a0_1, .string a0_2, .int .i64 a0_3, .slice A0_4 l0_4.length c0_4, .int .i64 a0_5]] rfl (by (try simp only [List.map_toArray, List.map_cons, List.map_nil]); first | done | rfl | (simp only [List.length_drop, List.length_take]; rfl)) ?_; (with_reducible refine (desc_Check.calls a0_0 a0_1 a0_2 a0_3 _ _ l0_4 a0_5 t502 _ ?side1 ?side2 ?side3 A26.out).mono ?_); (case side1 => exact hG.below (by exact pbE HB.out)); (case side2 => exact Kd.C_below HR0_4.out (by exact pbE HB.out)); (case side3 => exact HC0_4.out); rintro e w44 ⟨rfl, hb⟩; refine ⟨_, rfl, ?_⟩; have n0_ := Az.mk (Kd.V_below (by (with_reducible repeat (first | apply Kd.V_alloc | apply Kd.V_drewN | apply Kd.V_drew)); exact (Kd.V_mono (Kd.V_far (p := ⟨gb501, 5, none⟩) (Kd.V_far (p := ⟨gb501, 4, none⟩) (Kd.V_far (p := ⟨gb501, 3, none⟩) (Kd.V_far (p := ⟨gb501, 2, none⟩) (Kd.V_far (p := ⟨gb501, 1, none⟩) (Kd.V_far (p := ⟨gb501, 0, none⟩) (Kd.V_mono HO498.out (fun k_ hk => (⟨hk, hk.2⟩ : _ ∧ k_ ≠ gb501))) (fun _ hk => hk.2) (.int .i64 t492)) (fun _ hk => hk.2) (.string t493)) (fun _ hk => hk.2) (.string t494)) (fun _ hk => hk.2) (.int .i64 t495)) (fun _ hk => hk.2) (.slice Ao42 t496.length co42)) (fun _ hk => hk.2) (.int .i64 t499)) (fun _ h_ => h_.1))) hb); have n1_ := Az.mk (bkB (g := gb484) (o := .cells #[.int .i64 a0_0, .string a0_1, .string a0_2, .int .i64 a0_3, .slice A0_4 l0_4.length c0_4, .int .i64 a0_5] 26 (0, 0)) (by refine bk ?_; refine blk_far ?_ NB484_501.out _; refine bk ?_; refine blk_far ?_ NB484_501.out _; refine bk ?_; refine blk_far ?_ NB484_501.out _; refine bk ?_; refine blk_far ?_ NB484_501.out _; refine bk ?_; refine blk_far ?_ NB484_501.out _; refine bk ?_; refine blk_far ?_ NB484_501.out _; refine bk ?_; exact BK484.out) hb); have n2_ := Az.mk (bkB (g := gb485) (o := .cells #[.int .i64 a1_0, .string a1_1, .string a1_2, .int .i64 a1_3, .slice A1_4 l1_4.length c1_4, .int .i64 a1_5] 26 (0, 0)) (by refine bk ?_; refine blk_far ?_ NB485_501.out _; refine bk ?_; refine blk_far ?_ NB485_501.out _; refine bk ?_; refine blk_far ?_ NB485_501.out _; refine bk ?_; refine blk_far ?_ NB485_501.out _; refine bk ?_; refine blk_far ?_ NB485_501.out _; refine bk ?_; refine blk_far ?_ NB485_501.out _; refine bk ?_; exact BK485.out) hb); have n3_ := Az.mk (bkB (g := gb501) (o := .cells #[.int .i64 t492, .string t493, .string t494, .int .i64 t495, .slice Ao42 t496.length co42, .int .i64 t499] 26 (0, 0)) (by refine bk ?_; refine blk_put (cs := #[.int .i64 t492, .string t493, .string t494, .int .i64 t495, .slice Ao42 t496.length co42, .int .i64 0]) ?_ 5 _ rfl; refine bk ?_; refine blk_put (cs := #[.int .i64 t492, .string t493, .string t494, .int .i64 t495, .slice none 0 0, .int .i64 0]) ?_ 4 _ rfl; refine bk ?_; refine blk_put (cs := #[.int .i64 t492, .string t493, .string t494, .int .i64 0, .slice none 0 0, .int .i64 0]) ?_ 3 _ rfl; refine bk ?_; refine blk_put (cs := #[.int .i64 t492, .string t493, .string (⟨#[]⟩ : ByteArray), .int .i64 0, .slice none 0 0, .int .i64 0]) ?_ 2 _ rfl; refine bk ?_; refine blk_put (cs := #[.int .i64 t492, .string (⟨#[]⟩ : ByteArray), .string (⟨#[]⟩ : ByteArray), .int .i64 0, .slice none 0 0, .int .i64 0]) ?_ 1 _ rfl; refine bk ?_; refine blk_put (cs := #[.int .i64 0, .string (⟨#[]⟩ : ByteArray), .string (⟨#[]⟩ : ByteArray), .int .i64 0, .slice none 0 0, .int .i64 0]) ?_ 0 _ rfl; refine bk ?_; exact BK501.out) hb); have n4_ := Az.mk (pbT (by exact pbE HB.out) hb); clear HO498; clear BK484; clear BK485; clear BK501; clear HB; have HO498 := n0_; have BK484 := n1_; have BK485 := n2_; have BK501 := n3_; have HB := n4_; clear n0_ n1_ n2_ n3_ n4_; (try clear hb); (try clear hb2); (try clear hk); (try clear hi)) | ((with_reducible refine gtc (f := 17) rfl ?_); refine goesL_ (some 40) rfl rfl Tryd.func17 (by kernel_rfl) rfl #[.int .i64 t502] rfl (by (try simp only [List.map_toArray, List.map_cons, List.map_nil]); first | done | rfl | (simp only [List.length_drop, List.length_take]; rfl)) ?_; (with_reducible refine (l06_num.calls t502 t503 _ ?side1 A27.out).mono ?_); (case side1 => exact hG.below (by exact pbE HB.out)); rintro e w' ⟨rfl, ⟨nd, rfl⟩⟩; refine ⟨_, rfl, ?_⟩))
            (try simp only [Act.put, List.setIfInBounds_toArray, List.set_cons_zero, List.set_cons_succ])
            go_cut [56] (fun v56 wc => ∃ (kq : Nat) (x56_28 : Bool), v56 = .bool x56_28 ∧ Az (l06_DescUnlike.j1 kq a2 t489 x56_28 a0_0 a0_1 a0_2 a0_3 l0_4 a0_5 = some r) ∧ Az (kq ≤ kj3) ∧ Az (Kd.V k60 60 wc w.heap.size (fun k_ => k_ ≠ gb484 ∧ k_ ≠ gb485 ∧ k_ ≠ gb501) (.slice Ao42 t496.length co42) t496) ∧ Az (wc.heap[gb484]? = some (.cells #[.int .i64 a0_0, .string a0_1, .string a0_2, .int .i64 a0_3, (.slice A0_4 l0_4.length c0_4), .int .i64 a0_5] 26 (0, 0))) ∧ Az (wc.heap[gb485]? = some (.cells #[.int .i64 a1_0, .string a1_1, .string a1_2, .int .i64 a1_3, (.slice A1_4 l1_4.length c1_4), .int .i64 a1_5] 26 (0, 0))) ∧ Az (wc.heap[gb501]? = some (.cells #[.int .i64 t492, .string t493, .string t494, .int .i64 t495, (.slice Ao42 t496.length co42), .int .i64 t499] 26 (0, 0))) ∧ Az (Below w.heap.size w wc))
            case first =>
              have H := HC29.out
              clear HC29
              replace H := Option.bind_eq_some_iff.mp H
              obtain ⟨t506, A450, H⟩ := H
              replace H : (if t506 = 0 then ((desc_Same.f kj3 t492 t493 t494 t495 t496 t499 a0_0 a0_1 a0_2 a0_3 l0_4 a0_5).bind fun t507 => (l06_DescUnlike.j1 kj3 a2 t489 (!t507) a0_0 a0_1 a0_2 a0_3 l0_4 a0_5)) else (l06_DescUnlike.j1 kj3 a2 t489 true a0_0 a0_1 a0_2 a0_3 l0_4 a0_5)) = some r := H
              have A45 := Az.mk A450
              clear A450
              by_cases c46 : t506 = 0
              · rw [if_pos c46] at H
                have c46b0 : (t506 == 0) = true := beq_iff_eq.mpr c46
                have c46b1 : (t506 != 0) = false := bne_eq_false_iff_eq.mpr c46
                clear c46
                (first | rw [c46b0] | (simp only [i64_w, i32_w]; rw [c46b0]) | skip)
                replace H := Option.bind_eq_some_iff.mp H
                obtain ⟨t507, A470, H⟩ := H
                replace H : (l06_DescUnlike.j1 kj3 a2 t489 (!t507) a0_0 a0_1 a0_2 a0_3 l0_4 a0_5) = some r := H
                have A47 := Az.mk A470
                clear A470
                have H' := Az.mk H
                clear H
                go_wp2_with (first | ((with_reducible refine gtc (f := 17) rfl ?_); refine goesL_ (some 49) rfl rfl Tryd.func17 (by kernel_rfl) rfl #[.int .i64 t500] rfl (by (try simp only [List.map_toArray, List.map_cons, List.map_nil]); first | done | rfl | (simp only [List.length_drop, List.length_take]; rfl)) ?_; (with_reducible refine (l06_num.calls t500 t506 _ ?side1 A45.out).mono ?_); (case side1 => exact hG.below (by exact pbE HB.out)); rintro e w' ⟨rfl, ⟨nd, rfl⟩⟩; refine ⟨_, rfl, ?_⟩; have hnb48 := NB501_484.out; have hnc48 := NB484_501.out; have hnb49 := NB501_485.out; have hnc49 := NB485_501.out; have hcz50_0 : w44.cell? ⟨gb501, 0, none⟩ = some (.int .i64 t492) := (bkC BK501.out 0).trans rfl; have hcz50_1 : w44.cell? ⟨gb501, 1, none⟩ = some (.string t493) := (bkC BK501.out 1).trans rfl; have hcz50_2 : w44.cell? ⟨gb501, 2, none⟩ = some (.string t494) := (bkC BK501.out 2).trans rfl; have hcz50_3 : w44.cell? ⟨gb501, 3, none⟩ = some (.int .i64 t495) := (bkC BK501.out 3).trans rfl; have hcz50_4 : w44.cell? ⟨gb501, 4, none⟩ = some (.slice Ao42 t496.length co42) := (bkC BK501.out 4).trans rfl; have hcz50_5 : w44.cell? ⟨gb501, 5, none⟩ = some (.int .i64 t499) := (bkC BK501.out 5).trans rfl; have hfz50_0 := bkF BK501.out 0; have hfz50_1 := bkF BK501.out 1; have hfz50_2 := bkF BK501.out 2; have hfz50_3 := bkF BK501.out 3; have hfz50_4 := bkF BK501.out 4; have hfz50_5 := bkF BK501.out 5; have hnb51 := NB484_485.out; have hnc51 := NB485_484.out; have hcz52_0 : w44.cell? ⟨gb484, 0, none⟩ = some (.int .i64 a0_0) := (bkC BK484.out 0).trans rfl; have hcz52_1 : w44.cell? ⟨gb484, 1, none⟩ = some (.string a0_1) := (bkC BK484.out 1).trans rfl; have hcz52_2 : w44.cell? ⟨gb484, 2, none⟩ = some (.string a0_2) := (bkC BK484.out 2).trans rfl; have hcz52_3 : w44.cell? ⟨gb484, 3, none⟩ = some (.int .i64 a0_3) := (bkC BK484.out 3).trans rfl; have hcz52_4 : w44.cell? ⟨gb484, 4, none⟩ = some (.slice A0_4 l0_4.length c0_4) := (bkC BK484.out 4).trans rfl; have hcz52_5 : w44.cell? ⟨gb484, 5, none⟩ = some (.int .i64 a0_5) := (bkC BK484.out 5).trans rfl; have hfz52_0 := bkF BK484.out 0; have hfz52_1 := bkF BK484.out 1; have hfz52_2 := bkF BK484.out 2; have hfz52_3 := bkF BK484.out 3; have hfz52_4 := bkF BK484.out 4; have hfz52_5 := bkF BK484.out 5) | (go_at_call 20; (with_reducible refine (desc_Same.calls kj3 t492 t493 t494 t495 _ _ t496 t499 a0_0 a0_1 a0_2 a0_3 _ _ l0_4 a0_5 t507 _ ?side1 ?side2 ?side3 ?side4 ?side5 A47.out).mono ?_); (case side1 => exact hG.below (by exact pbE HB.out)); (case side2 => repeat (first | exact (Kd.V_reads' HO498.out).2.2 | (with_reducible refine Kd.C_alloc ?_ _) | (with_reducible refine Kd.C_drewN ?_ _) | (with_reducible refine Kd.C_drew ?_))); (case side3 => exact (Kd.V_reads' HO498.out).2.1); (case side4 => repeat (first | exact (Kd.C_below HR0_4.out (by exact pbE HB.out)) | (with_reducible refine Kd.C_alloc ?_ _) | (with_reducible refine Kd.C_drewN ?_ _) | (with_reducible refine Kd.C_drew ?_))); (case side5 => exact HC0_4.out); rintro e w53 ⟨rfl, hb⟩; have n0_ := Az.mk (Kd.V_below (Kd.V_ext HO498.out) hb); have n1_ := Az.mk (bkB (g := gb484) (o := .cells #[.int .i64 a0_0, .string a0_1, .string a0_2, .int .i64 a0_3, .slice A0_4 l0_4.length c0_4, .int .i64 a0_5] 26 (0, 0)) (bk BK484.out) hb); have n2_ := Az.mk (bkB (g := gb485) (o := .cells #[.int .i64 a1_0, .string a1_1, .string a1_2, .int .i64 a1_3, .slice A1_4 l1_4.length c1_4, .int .i64 a1_5] 26 (0, 0)) (bk BK485.out) hb); have n3_ := Az.mk (bkB (g := gb501) (o := .cells #[.int .i64 t492, .string t493, .string t494, .int .i64 t495, .slice Ao42 t496.length co42, .int .i64 t499] 26 (0, 0)) (bk BK501.out) hb); have n4_ := Az.mk (pbT (by exact pbE HB.out) hb); clear HO498; clear BK484; clear BK485; clear BK501; clear HB; have HO498 := n0_; have BK484 := n1_; have BK485 := n2_; have BK501 := n3_; have HB := n4_; clear n0_ n1_ n2_ n3_ n4_; (try clear hb); (try clear hb2); (try clear hk); (try clear hi)))
                go_meet
                case rel => exact ⟨_, (!t507), (by first | rfl | (simp; done) | (simp [*]; done)), H', ⟨by have := HJ3.out; first | omega | exact Nat.le_refl _⟩, ⟨by (with_reducible repeat (first | apply Kd.V_alloc | apply Kd.V_drewN | apply Kd.V_drew)); exact Kd.V_mono HO498.out (fun _ hk => ⟨hk.1.1, ⟨hk.1.2, hk.2⟩⟩)⟩, ⟨by refine bk ?_; exact BK484.out⟩, ⟨by refine bk ?_; exact BK485.out⟩, ⟨by refine bk ?_; exact BK501.out⟩, ⟨by exact pbE HB.out⟩⟩
              · rw [if_neg c46] at H
                have c46b0 : (t506 == 0) = false := beq_eq_false_iff_ne.mpr c46
                have c46b1 : (t506 != 0) = true := bne_iff_ne.mpr c46
                (first | rw [c46b0] | (simp only [i64_w, i32_w]; rw [c46b0]) | skip)
                have H' := Az.mk H
                clear H
                go_wp2_with (first | ((with_reducible refine gtc (f := 17) rfl ?_); refine goesL_ (some 49) rfl rfl Tryd.func17 (by kernel_rfl) rfl #[.int .i64 t500] rfl (by (try simp only [List.map_toArray, List.map_cons, List.map_nil]); first | done | rfl | (simp only [List.length_drop, List.length_take]; rfl)) ?_; (with_reducible refine (l06_num.calls t500 t506 _ ?side1 A45.out).mono ?_); (case side1 => exact hG.below (by exact pbE HB.out)); rintro e w' ⟨rfl, ⟨nd, rfl⟩⟩; refine ⟨_, rfl, ?_⟩))
                go_meet
                case rel => exact ⟨_, (true), (by first | rfl | (simp; done) | (simp [*]; done)), H', ⟨by have := HJ3.out; first | omega | exact Nat.le_refl _⟩, ⟨by (with_reducible repeat (first | apply Kd.V_alloc | apply Kd.V_drewN | apply Kd.V_drew)); exact Kd.V_mono HO498.out (fun _ hk => ⟨hk.1.1, ⟨hk.1.2, hk.2⟩⟩)⟩, ⟨by refine bk ?_; exact BK484.out⟩, ⟨by refine bk ?_; exact BK485.out⟩, ⟨by refine bk ?_; exact BK501.out⟩, ⟨by exact pbE HB.out⟩⟩
            case rest =>
              clear HC29
              try clear c1
              try clear c2
              try clear p2
              try clear c3
              try clear c4
              try clear c5
              try clear c8
              try clear c9
              try clear c10
              try clear c15
              try clear c17
              try clear c18
              try clear c19
              try clear c20
              try clear c21
              try clear c22
              try clear c24
              try clear c24b0
              try clear c24b1
              try clear c24b2
              try clear c28
              try clear c28b0
              try clear c28b1
              try clear c33
              try clear c39
              try clear c40
              try clear c46
              try clear c46b0
              try clear c46b1
              try clear c48
              try clear c49
              try clear c51
              try clear hcz11_0
              try clear hcz11_1
              try clear hcz11_2
              try clear hcz11_3
              try clear hcz11_4
              try clear hcz11_5
              try clear hcz13_0
              try clear hcz13_1
              try clear hcz13_2
              try clear hcz13_3
              try clear hcz13_4
              try clear hcz13_5
              try clear hcz16_0
              try clear hcz16_1
              try clear hcz16_2
              try clear hcz16_3
              try clear hcz16_4
              try clear hcz16_5
              try clear hcz34_0
              try clear hcz34_1
              try clear hcz34_2
              try clear hcz34_3
              try clear hcz34_4
              try clear hcz34_5
              try clear hcz35_0
              try clear hcz35_1
              try clear hcz35_2
              try clear hcz35_3
              try clear hcz35_4
              try clear hcz35_5
              try clear hcz41_0
              try clear hcz41_1
              try clear hcz41_2
              try clear hcz41_3
              try clear hcz41_4
              try clear hcz41_5
              try clear hcz43_0
              try clear hcz43_1
              try clear hcz43_2
              try clear hcz43_3
              try clear hcz43_4
              try clear hcz43_5
              try clear hcz50_0
              try clear hcz50_1
              try clear hcz50_2
              try clear hcz50_3
              try clear hcz50_4
              try clear hcz50_5
              try clear hcz52_0
              try clear hcz52_1
              try clear hcz52_2
              try clear hcz52_3
              try clear hcz52_4
              try clear hcz52_5
              try clear hfz11_0
              try clear hfz11_1
              try clear hfz11_2
              try clear hfz11_3
              try clear hfz11_4
              try clear hfz11_5
              try clear hfz13_0
              try clear hfz13_1
              try clear hfz13_2
              try clear hfz13_3
              try clear hfz13_4
              try clear hfz13_5
              try clear hfz16_0
              try clear hfz16_1
              try clear hfz16_2
              try clear hfz16_3
              try clear hfz16_4
              try clear hfz16_5
              try clear hfz34_0
              try clear hfz34_1
              try clear hfz34_2
              try clear hfz34_3
              try clear hfz34_4
              try clear hfz34_5
              try clear hfz35_0
              try clear hfz35_1
              try clear hfz35_2
              try clear hfz35_3
              try clear hfz35_4
              try clear hfz35_5
              try clear hfz41_0
              try clear hfz41_1
              try clear hfz41_2
              try clear hfz41_3
              try clear hfz41_4
              try clear hfz41_5
              try clear hfz43_0
              try clear hfz43_1
              try clear hfz43_2
              try clear hfz43_3
              try clear hfz43_4
              try clear hfz43_5
              try clear hfz50_0
              try clear hfz50_1
              try clear hfz50_2
              try clear hfz50_3
              try clear hfz50_4
              try clear hfz50_5
              try clear hfz52_0
              try clear hfz52_1
              try clear hfz52_2
              try clear hfz52_3
              try clear hfz52_4
              try clear hfz52_5
              try clear p2
              obtain ⟨kq, x56_28, rfl, HA, HJ28, HO_502004, BK484, BK485, BK501, HB⟩ := hcut
              cases kq with
              | zero => exact absurd HA.out (by simp [l06_DescUnlike.j1])
              | succ kj28 =>
                have H := HA.out
                clear HA
                simp only [l06_DescUnlike.j1] at H
                by_cases c54 : x56_28 = true
                · subst c54
                  have H1 : (some false) = some r := by rw [if_pos rfl] at H; exact H
                  clear H
                  have H := H1
                  clear H1
                  exact absurd (Option.some.inj (H.trans (congrArg some hr))) (by decide)
                · replace c54 := Bool.eq_false_iff.mpr c54
                  subst c54
                  have H1 : (if a2 < 0 then (l06_DescUnlike.j2 kj28 a2 t489 true) else (if a2 ≥ (t489.size : Int) then (l06_DescUnlike.j2 kj28 a2 t489 true) else (l06_DescUnlike.j2 kj28 a2 t489 (decide ((l0_4.length : Int) > 1))))) = some r := by rw [if_neg (show ¬ (false = true) by decide)] at H; exact H
                  clear H
                  have H := H1
                  clear H1
                  have HC55 := Az.mk H
                  clear H
                  go_upto_region 11 with (fail)
                  go_cut [70] (fun v70 wc => ∃ (kq : Nat) (x70_54 : Bool), v70 = .bool x70_54 ∧ Az (l06_DescUnlike.j2 kq a2 t489 x70_54 = some r) ∧ Az (kq ≤ kj28) ∧ Az (Kd.V k60 60 wc w.heap.size (fun k_ => k_ ≠ gb484 ∧ k_ ≠ gb485 ∧ k_ ≠ gb501) (.slice Ao42 t496.length co42) t496) ∧ Az (wc.heap[gb484]? = some (.cells #[.int .i64 a0_0, .string a0_1, .string a0_2, .int .i64 a0_3, (.slice A0_4 l0_4.length c0_4), .int .i64 a0_5] 26 (0, 0))) ∧ Az (wc.heap[gb485]? = some (.cells #[.int .i64 a1_0, .string a1_1, .string a1_2, .int .i64 a1_3, (.slice A1_4 l1_4.length c1_4), .int .i64 a1_5] 26 (0, 0))) ∧ Az (wc.heap[gb501]? = some (.cells #[.int .i64 t492, .string t493, .string t494, .int .i64 t495, (.slice Ao42 t496.length co42), .int .i64 t499] 26 (0, 0))) ∧ Az (Below w.heap.size w wc))
                  case first =>
                    have H := HC55.out
                    clear HC55
                    by_cases c56 : a2 < 0
                    · rw [if_pos c56] at H
                      have c56b0 : decide (a2 < 0) = true := decide_eq_true c56
                      clear c56
                      (first | rw [c56b0] | (simp only [i64_w, i32_w]; rw [c56b0]) | skip)
                      have H' := Az.mk H
                      clear H
                      go_wp2
                      go_meet
                      case rel => exact ⟨_, (true), (by first | rfl | (simp; done) | (simp [*]; done)), H', ⟨by have := HJ3.out; have := HJ28.out; first | omega | exact Nat.le_refl _⟩, ⟨by (with_reducible repeat (first | apply Kd.V_alloc | apply Kd.V_drewN | apply Kd.V_drew)); exact HO_502004.out⟩, ⟨by refine bk ?_; exact BK484.out⟩, ⟨by refine bk ?_; exact BK485.out⟩, ⟨by refine bk ?_; exact BK501.out⟩, ⟨by exact pbE HB.out⟩⟩
                    · rw [if_neg c56] at H
                      have c56b0 : decide (a2 < 0) = false := decide_eq_false c56
                      clear c56
                      (first | rw [c56b0] | (simp only [i64_w, i32_w]; rw [c56b0]) | skip)
                      by_cases c57 : a2 ≥ (t489.size : Int)
                      · rw [if_pos c57] at H
                        have c57b0 : decide ((t489.size : Int) ≤ a2) = true := decide_eq_true c57
                        clear c57
                        have H' := Az.mk H
                        clear H
                        go_wp2
                        go_meet
                        case rel => exact ⟨_, (true), (by first | rfl | (simp; done) | (simp [*]; done)), H', ⟨by have := HJ3.out; have := HJ28.out; first | omega | exact Nat.le_refl _⟩, ⟨by (with_reducible repeat (first | apply Kd.V_alloc | apply Kd.V_drewN | apply Kd.V_drew)); exact HO_502004.out⟩, ⟨by refine bk ?_; exact BK484.out⟩, ⟨by refine bk ?_; exact BK485.out⟩, ⟨by refine bk ?_; exact BK501.out⟩, ⟨by exact pbE HB.out⟩⟩
                      · rw [if_neg c57] at H
                        have c57b0 : decide ((t489.size : Int) ≤ a2) = false := decide_eq_false c57
                        clear c57
                        have H' := Az.mk H
                        clear H
                        have hnb58 := NB484_485.out
                        have hnc58 := NB485_484.out
                        have hnb59 := NB484_501.out
                        have hnc59 := NB501_484.out
                        have hcz60_0 : wc.cell? ⟨gb484, 0, none⟩ = some (.int .i64 a0_0) := (bkC BK484.out 0).trans rfl
                        have hcz60_1 : wc.cell? ⟨gb484, 1, none⟩ = some (.string a0_1) := (bkC BK484.out 1).trans rfl
                        have hcz60_2 : wc.cell? ⟨gb484, 2, none⟩ = some (.string a0_2) := (bkC BK484.out 2).trans rfl
                        have hcz60_3 : wc.cell? ⟨gb484, 3, none⟩ = some (.int .i64 a0_3) := (bkC BK484.out 3).trans rfl
                        have hcz60_4 : wc.cell? ⟨gb484, 4, none⟩ = some (.slice A0_4 l0_4.length c0_4) := (bkC BK484.out 4).trans rfl
                        have hcz60_5 : wc.cell? ⟨gb484, 5, none⟩ = some (.int .i64 a0_5) := (bkC BK484.out 5).trans rfl
                        have hfz60_0 := bkF BK484.out 0
                        have hfz60_1 := bkF BK484.out 1
                        have hfz60_2 := bkF BK484.out 2
                        have hfz60_3 := bkF BK484.out 3
                        have hfz60_4 := bkF BK484.out 4
                        have hfz60_5 := bkF BK484.out 5
                        go_wp2
                        go_meet
                        case rel => exact ⟨_, (decide ((l0_4.length : Int) > 1)), (by first | rfl | (simp; done) | (simp [*]; done)), H', ⟨by have := HJ3.out; have := HJ28.out; first | omega | exact Nat.le_refl _⟩, ⟨by (with_reducible repeat (first | apply Kd.V_alloc | apply Kd.V_drewN | apply Kd.V_drew)); exact HO_502004.out⟩, ⟨by refine bk ?_; exact BK484.out⟩, ⟨by refine bk ?_; exact BK485.out⟩, ⟨by refine bk ?_; exact BK501.out⟩, ⟨by exact pbE HB.out⟩⟩
                  case rest =>
                    clear HC55
                    try clear c1
                    try clear c2
                    try clear p2
                    try clear c3
                    try clear c4
                    try clear c5
                    try clear c8
                    try clear c9
                    try clear c10
                    try clear c15
                    try clear c17
                    try clear c18
                    try clear c19
                    try clear c20
                    try clear c21
                    try clear c22
                    try clear c24
                    try clear c24b0
                    try clear c24b1
                    try clear c24b2
                    try clear c28
                    try clear c28b0
                    try clear c28b1
                    try clear c33
                    try clear c39
                    try clear c40
                    try clear c46
                    try clear c46b0
                    try clear c46b1
                    try clear c48
                    try clear c49
                    try clear c51
                    try clear c54
                    try clear c56
                    try clear c56b0
                    try clear c57
                    try clear c57b0
                    try clear c58
                    try clear c59
                    try clear hcz11_0
                    try clear hcz11_1
                    try clear hcz11_2
                    try clear hcz11_3
                    try clear hcz11_4
                    try clear hcz11_5
                    try clear hcz13_0
                    try clear hcz13_1
                    try clear hcz13_2
                    try clear hcz13_3
                    try clear hcz13_4
                    try clear hcz13_5
                    try clear hcz16_0
                    try clear hcz16_1
                    try clear hcz16_2
                    try clear hcz16_3
                    try clear hcz16_4
                    try clear hcz16_5
                    try clear hcz34_0
                    try clear hcz34_1
                    try clear hcz34_2
                    try clear hcz34_3
                    try clear hcz34_4
                    try clear hcz34_5
                    try clear hcz35_0
                    try clear hcz35_1
                    try clear hcz35_2
                    try clear hcz35_3
                    try clear hcz35_4
                    try clear hcz35_5
                    try clear hcz41_0
                    try clear hcz41_1
                    try clear hcz41_2
                    try clear hcz41_3
                    try clear hcz41_4
                    try clear hcz41_5
                    try clear hcz43_0
                    try clear hcz43_1
                    try clear hcz43_2
                    try clear hcz43_3
                    try clear hcz43_4
                    try clear hcz43_5
                    try clear hcz50_0
                    try clear hcz50_1
                    try clear hcz50_2
                    try clear hcz50_3
                    try clear hcz50_4
                    try clear hcz50_5
                    try clear hcz52_0
                    try clear hcz52_1
                    try clear hcz52_2
                    try clear hcz52_3
                    try clear hcz52_4
                    try clear hcz52_5
                    try clear hcz60_0
                    try clear hcz60_1
                    try clear hcz60_2
                    try clear hcz60_3
                    try clear hcz60_4
                    try clear hcz60_5
                    try clear hfz11_0
                    try clear hfz11_1
                    try clear hfz11_2
                    try clear hfz11_3
                    try clear hfz11_4
                    try clear hfz11_5
                    try clear hfz13_0
                    try clear hfz13_1
                    try clear hfz13_2
                    try clear hfz13_3
                    try clear hfz13_4
                    try clear hfz13_5
                    try clear hfz16_0
                    try clear hfz16_1
                    try clear hfz16_2
                    try clear hfz16_3
                    try clear hfz16_4
                    try clear hfz16_5
                    try clear hfz34_0
                    try clear hfz34_1
                    try clear hfz34_2
                    try clear hfz34_3
                    try clear hfz34_4
                    try clear hfz34_5
                    try clear hfz35_0
                    try clear hfz35_1
                    try clear hfz35_2
                    try clear hfz35_3
                    try clear hfz35_4
                    try clear hfz35_5
                    try clear hfz41_0
                    try clear hfz41_1
                    try clear hfz41_2
                    try clear hfz41_3
                    try clear hfz41_4
                    try clear hfz41_5
                    try clear hfz43_0
                    try clear hfz43_1
                    try clear hfz43_2
                    try clear hfz43_3
                    try clear hfz43_4
                    try clear hfz43_5
                    try clear hfz50_0
                    try clear hfz50_1
                    try clear hfz50_2
                    try clear hfz50_3
                    try clear hfz50_4
                    try clear hfz50_5
                    try clear hfz52_0
                    try clear hfz52_1
                    try clear hfz52_2
                    try clear hfz52_3
                    try clear hfz52_4
                    try clear hfz52_5
                    try clear hfz60_0
                    try clear hfz60_1
                    try clear hfz60_2
                    try clear hfz60_3
                    try clear hfz60_4
                    try clear hfz60_5
                    try clear p2
                    obtain ⟨kq, x70_54, rfl, HA, HJ54, HO_502004, BK484, BK485, BK501, HB⟩ := hcut
                    cases kq with
                    | zero => exact absurd HA.out (by simp [l06_DescUnlike.j2])
                    | succ kj54 =>
                      have H := HA.out
                      clear HA
                      simp only [l06_DescUnlike.j2] at H
                      by_cases c61 : x70_54 = true
                      · subst c61
                        have H1 : ((l06_live.f).bind fun t508 => (some t508)) = some r := by rw [if_pos rfl] at H; exact H
                        clear H
                        have H := H1
                        clear H1
                        replace H := Option.bind_eq_some_iff.mp H
                        obtain ⟨t508, A620, H⟩ := H
                        replace H : (some t508) = some r := H
                        have A62 := Az.mk A620
                        clear A620
                        obtain rfl := Option.some.inj H
                        go_wp2_with (first | ((with_reducible refine gtc (f := 10) rfl ?_); refine goesL_ (some 71) rfl rfl Tryd.func10 (by kernel_rfl) rfl #[] rfl (by (try simp only [List.map_toArray, List.map_cons, List.map_nil]); first | done | rfl | (simp only [List.length_drop, List.length_take]; rfl)) ?_; (with_reducible refine (l06_live.calls  t508 _ ?side1 A62.out).mono ?_); (case side1 => exact hG.below (by exact pbE HB.out)); rintro e w63 ⟨rfl, hb⟩; refine ⟨_, rfl, ?_⟩; have n0_ := Az.mk (Kd.V_below (Kd.V_ext HO_502004.out) hb); have n1_ := Az.mk (bkB (g := gb484) (o := .cells #[.int .i64 a0_0, .string a0_1, .string a0_2, .int .i64 a0_3, .slice A0_4 l0_4.length c0_4, .int .i64 a0_5] 26 (0, 0)) (bk BK484.out) hb); have n2_ := Az.mk (bkB (g := gb485) (o := .cells #[.int .i64 a1_0, .string a1_1, .string a1_2, .int .i64 a1_3, .slice A1_4 l1_4.length c1_4, .int .i64 a1_5] 26 (0, 0)) (bk BK485.out) hb); have n3_ := Az.mk (bkB (g := gb501) (o := .cells #[.int .i64 t492, .string t493, .string t494, .int .i64 t495, .slice Ao42 t496.length co42, .int .i64 t499] 26 (0, 0)) (bk BK501.out) hb); have n4_ := Az.mk (pbT (by exact pbE HB.out) hb); clear HO_502004; clear BK484; clear BK485; clear BK501; clear HB; have HO_502004 := n0_; have BK484 := n1_; have BK485 := n2_; have BK501 := n3_; have HB := n4_; clear n0_ n1_ n2_ n3_ n4_; (try clear hb); (try clear hb2); (try clear hk); (try clear hi)))
                        go_ret
                        exact ⟨by first | rfl | (simp [errW_none, errW_some] <;> rfl) | (simp [*, errW_none, errW_some] <;> rfl), by exact pbE HB.out⟩
                      · replace c61 := Bool.eq_false_iff.mpr c61
                        subst c61
                        have H1 : (if 0 ≤ a2 then (if a2 ≤ (t489.size : Int) then ((desc_Parse.f kj54 (t489.extract 0 (a2 : Int).toNat)).bind fun bt509 => ((l06_num.f bt509.2.2.2.2.2.2).bind fun t519 => (if t519 = 60 then ((l06_live.f).bind fun t520 => (some t520)) else (some false)))) else (none)) else (none)) = some r := by rw [if_neg (show ¬ (false = true) by decide)] at H; exact H
                        clear H
                        have H := H1
                        clear H1
                        by_cases c64 : 0 ≤ a2
                        · rw [if_pos c64] at H
                          have c64b0 := eq_true c64
                          have c64b1 : decide (0 ≤ a2) = true := decide_eq_true c64
                          clear c64
                          by_cases c65 : a2 ≤ (t489.size : Int)
                          · rw [if_pos c65] at H
                            have c65b0 := eq_true c65
                            have c65b1 : decide (a2 ≤ (t489.size : Int)) = true := decide_eq_true c65
                            clear c65
                            replace H := Option.bind_eq_some_iff.mp H
                            obtain ⟨⟨t509, t510, t511, t512, t513, t516, t517⟩, A660, H⟩ := H
                            replace H : ((l06_num.f t517).bind fun t519 => (if t519 = 60 then ((l06_live.f).bind fun t520 => (some t520)) else (some false))) = some r := H
                            have A66 := Az.mk A660
                            clear A660
                            replace H := Option.bind_eq_some_iff.mp H
                            obtain ⟨t519, A670, H⟩ := H
                            replace H : (if t519 = 60 then ((l06_live.f).bind fun t520 => (some t520)) else (some false)) = some r := H
                            have A67 := Az.mk A670
                            clear A670
                            by_cases c68 : t519 = 60
                            · rw [if_pos c68] at H
                              have c68b0 : (t519 == 60) = true := beq_iff_eq.mpr c68
                              have c68b1 : (t519 != 60) = false := bne_eq_false_iff_eq.mpr c68
                              clear c68
                              replace H := Option.bind_eq_some_iff.mp H
                              obtain ⟨t520, A690, H⟩ := H
                              replace H : (some t520) = some r := H
                              have A69 := Az.mk A690
                              clear A690
                              obtain rfl := Option.some.inj H
                              go_wp2_with (first | ((with_reducible refine gtc (f := 21) rfl ?_); refine goesL_ (some 76) rfl rfl Tryd.func21 (by kernel_rfl) rfl #[.string (t489.extract 0 (a2 : Int).toNat)] rfl (by (try simp only [List.map_toArray, List.map_cons, List.map_nil]); first | done | rfl | (simp only [List.length_drop, List.length_take]; rfl)) ?_; (with_reducible refine (desc_Parse.calls kj54 (t489.extract 0 (a2 : Int).toNat) t509 t510 t511 t512 t513 t516 t517 _ ?side1 A66.out).mono ?_); (case side1 => exact hG.below (by exact pbE HB.out)); rintro e w70 ⟨v514, rfl, ho0, hb⟩; refine ⟨_, rfl, ?_⟩; have n0_ := Az.mk (Kd.V_below (Kd.V_ext HO_502004.out) hb); have n1_ := Az.mk (Kd.V_lower (Kd.V_mono (ok' := fun k_ => k_ ≠ gb484 ∧ k_ ≠ gb485 ∧ k_ ≠ gb501) ho0 (fun k_ hk_ => ⟨(Kd.freshB (g := gb484) (o := .cells #[.int .i64 a0_0, .string a0_1, .string a0_2, .int .i64 a0_3, .slice A0_4 l0_4.length c0_4, .int .i64 a0_5] 26 (0, 0)) (bk BK484.out) k_ hk_), (Kd.freshB (g := gb485) (o := .cells #[.int .i64 a1_0, .string a1_1, .string a1_2, .int .i64 a1_3, .slice A1_4 l1_4.length c1_4, .int .i64 a1_5] 26 (0, 0)) (bk BK485.out) k_ hk_), (Kd.freshB (g := gb501) (o := .cells #[.int .i64 t492, .string t493, .string t494, .int .i64 t495, .slice Ao42 t496.length co42, .int .i64 t499] 26 (0, 0)) (bk BK501.out) k_ hk_)⟩)) (pbZ (by exact pbE HB.out))); have n2_ := Az.mk (bkB (g := gb484) (o := .cells #[.int .i64 a0_0, .string a0_1, .string a0_2, .int .i64 a0_3, .slice A0_4 l0_4.length c0_4, .int .i64 a0_5] 26 (0, 0)) (bk BK484.out) hb); have n3_ := Az.mk (bkB (g := gb485) (o := .cells #[.int .i64 a1_0, .string a1_1, .string a1_2, .int .i64 a1_3, .slice A1_4 l1_4.length c1_4, .int .i64 a1_5] 26 (0, 0)) (bk BK485.out) hb); have n4_ := Az.mk (bkB (g := gb501) (o := .cells #[.int .i64 t492, .string t493, .string t494, .int .i64 t495, .slice Ao42 t496.length co42, .int .i64 t499] 26 (0, 0)) (bk BK501.out) hb); have n5_ := Az.mk (pbT (by exact pbE HB.out) hb); clear HO_502004; clear BK484; clear BK485; clear BK501; clear HB; have HO_502004 := n0_; have HO515 := n1_; have BK484 := n2_; have BK485 := n3_; have BK501 := n4_; have HB := n5_; clear n0_ n1_ n2_ n3_ n4_ n5_; (try clear hb); (try clear hb2); (try clear hk); (try clear hi); (try clear ho0)) | ((with_reducible refine gate_dst (N := 11) rfl ?_); (try (refine gate_guard (by rfl) ?_; dsimp only)); refine box_event ?hg (N := 11) ?hd (cs := #[.int .i64 0, .string (⟨#[]⟩ : ByteArray), .string (⟨#[]⟩ : ByteArray), .int .i64 0, .slice none 0 0, .int .i64 0]) (t := 26) ?hr ?_; (case hd => rfl); (case hg => rfl); (case hr => first | (go_simp; done) | (go_simp; rfl)); intro gb518 hg w71 hbox hb; have n0_ := Az.mk (Kd.V_below (Kd.V_elderB (Kd.V_ext HO_502004.out) gb518 (Nat.le_of_eq hg.symm)) hb); have n1_ := Az.mk (Kd.V_below (Kd.V_elderB (Kd.V_ext HO515.out) gb518 (Nat.le_of_eq hg.symm)) hb); have n2_ := Az.mk (bkB (g := gb484) (o := .cells #[.int .i64 a0_0, .string a0_1, .string a0_2, .int .i64 a0_3, .slice A0_4 l0_4.length c0_4, .int .i64 a0_5] 26 (0, 0)) (bk BK484.out) hb); have n3_ := Az.mk (bkB (g := gb485) (o := .cells #[.int .i64 a1_0, .string a1_1, .string a1_2, .int .i64 a1_3, .slice A1_4 l1_4.length c1_4, .int .i64 a1_5] 26 (0, 0)) (bk BK485.out) hb); have n4_ := Az.mk (bkB (g := gb501) (o := .cells #[.int .i64 t492, .string t493, .string t494, .int .i64 t495, .slice Ao42 t496.length co42, .int .i64 t499] 26 (0, 0)) (bk BK501.out) hb); have n5_ := Az.mk (pbT (by exact pbE HB.out) hb); have n6_ := Az.mk (hbox); have n7_ := Az.mk ((by rw [hg]; exact (pbZ (by exact pbE HB.out)) : w.heap.size ≤ gb518)); have n8_ := Az.mk ((by rw [hg]; exact (pbZ (by exact pbE HB.out)) : w.heap.size ≤ gb518)); have n9_ := Az.mk ((by rw [hg]; exact Nat.ne_of_lt (blk_lt (g := gb484) (o := .cells #[.int .i64 a0_0, .string a0_1, .string a0_2, .int .i64 a0_3, .slice A0_4 l0_4.length c0_4, .int .i64 a0_5] 26 (0, 0)) (bk BK484.out)) : gb484 ≠ gb518)); have n10_ := Az.mk ((by rw [hg]; exact Nat.ne_of_gt (blk_lt (g := gb484) (o := .cells #[.int .i64 a0_0, .string a0_1, .string a0_2, .int .i64 a0_3, .slice A0_4 l0_4.length c0_4, .int .i64 a0_5] 26 (0, 0)) (bk BK484.out)) : gb518 ≠ gb484)); have n11_ := Az.mk ((by rw [hg]; exact Nat.ne_of_lt (blk_lt (g := gb485) (o := .cells #[.int .i64 a1_0, .string a1_1, .string a1_2, .int .i64 a1_3, .slice A1_4 l1_4.length c1_4, .int .i64 a1_5] 26 (0, 0)) (bk BK485.out)) : gb485 ≠ gb518)); have n12_ := Az.mk ((by rw [hg]; exact Nat.ne_of_gt (blk_lt (g := gb485) (o := .cells #[.int .i64 a1_0, .string a1_1, .string a1_2, .int .i64 a1_3, .slice A1_4 l1_4.length c1_4, .int .i64 a1_5] 26 (0, 0)) (bk BK485.out)) : gb518 ≠ gb485)); have n13_ := Az.mk ((by rw [hg]; exact Nat.ne_of_lt (blk_lt (g := gb501) (o := .cells #[.int .i64 t492, .string t493, .string t494, .int .i64 t495, .slice Ao42 t496.length co42, .int .i64 t499] 26 (0, 0)) (bk BK501.out)) : gb501 ≠ gb518)); have n14_ := Az.mk ((by rw [hg]; exact Nat.ne_of_gt (blk_lt (g := gb501) (o := .cells #[.int .i64 t492, .string t493, .string t494, .int .i64 t495, .slice Ao42 t496.length co42, .int .i64 t499] 26 (0, 0)) (bk BK501.out)) : gb518 ≠ gb501)); clear HO_502004; clear HO515; clear BK484; clear BK485; clear BK501; clear HB; have HO_502004 := n0_; have HO515 := n1_; have BK484 := n2_; have BK485 := n3_; have BK501 := n4_; have HB := n5_; have BK518 := n6_; have GW518 := n7_; have GE518 := n8_; have NB484_518 := n9_; have NB518_484 := n10_; have NB485_518 := n11_; have NB518_485 := n12_; have NB501_518 := n13_; have NB518_501 := n14_; clear n0_ n1_ n2_ n3_ n4_ n5_ n6_ n7_ n8_ n9_ n10_ n11_ n12_ n13_ n14_; clear hb hbox hg; have hnb72 := NB518_484.out; have hnc72 := NB484_518.out; have hnb73 := NB518_485.out; have hnc73 := NB485_518.out; have hnb74 := NB518_501.out; have hnc74 := NB501_518.out; have hcz75_0 : w71.cell? ⟨gb518, 0, none⟩ = some (.int .i64 0) := (bkC BK518.out 0).trans rfl; have hcz75_1 : w71.cell? ⟨gb518, 1, none⟩ = some (.string (⟨#[]⟩ : ByteArray)) := (bkC BK518.out 1).trans rfl; have hcz75_2 : w71.cell? ⟨gb518, 2, none⟩ = some (.string (⟨#[]⟩ : ByteArray)) := (bkC BK518.out 2).trans rfl; have hcz75_3 : w71.cell? ⟨gb518, 3, none⟩ = some (.int .i64 0) := (bkC BK518.out 3).trans rfl; have hcz75_4 : w71.cell? ⟨gb518, 4, none⟩ = some (.slice none 0 0) := (bkC BK518.out 4).trans rfl; have hcz75_5 : w71.cell? ⟨gb518, 5, none⟩ = some (.int .i64 0) := (bkC BK518.out 5).trans rfl; have hfz75_0 := bkF BK518.out 0; have hfz75_1 := bkF BK518.out 1; have hfz75_2 := bkF BK518.out 2; have hfz75_3 := bkF BK518.out 3; have hfz75_4 := bkF BK518.out 4; have hfz75_5 := bkF BK518.out 5; obtain ⟨Ao76, co76, eo76⟩ := Kd.V_slice HO515.out; subst eo76) | ((with_reducible refine gtc (f := 17) rfl ?_); refine goesL_ (some 80) rfl rfl Tryd.func17 (by kernel_rfl) rfl #[.int .i64 t517] rfl (by (try simp only [List.map_toArray, List.map_cons, List.map_nil]); first | done | rfl | (simp only [List.length_drop, List.length_take]; rfl)) ?_; (with_reducible refine (l06_num.calls t517 t519 _ ?side1 A67.out).mono ?_); (case side1 => exact hG.below (by exact pbE HB.out)); rintro e w' ⟨rfl, ⟨nd, rfl⟩⟩; refine ⟨_, rfl, ?_⟩) | (go_at_call 10; (with_reducible refine (l06_live.calls  t520 _ ?side1 A69.out).mono ?_); (case side1 => exact hG.below (by exact pbE HB.out)); rintro e w77 ⟨rfl, hb⟩; have n0_ := Az.mk (Kd.V_below (by (with_reducible repeat (first | apply Kd.V_alloc | apply Kd.V_drewN | apply Kd.V_drew)); exact (Kd.V_mono (Kd.V_far (p := ⟨gb518, 5, none⟩) (Kd.V_far (p := ⟨gb518, 4, none⟩) (Kd.V_far (p := ⟨gb518, 3, none⟩) (Kd.V_far (p := ⟨gb518, 2, none⟩) (Kd.V_far (p := ⟨gb518, 1, none⟩) (Kd.V_far (p := ⟨gb518, 0, none⟩) (Kd.V_mono HO_502004.out (fun k_ hk => (⟨hk, hk.2⟩ : _ ∧ k_ ≠ gb518))) (fun _ hk => hk.2) (.int .i64 t509)) (fun _ hk => hk.2) (.string t510)) (fun _ hk => hk.2) (.string t511)) (fun _ hk => hk.2) (.int .i64 t512)) (fun _ hk => hk.2) (.slice Ao76 t513.length co76)) (fun _ hk => hk.2) (.int .i64 t516)) (fun _ h_ => h_.1))) hb); have n1_ := Az.mk (Kd.V_below (by (with_reducible repeat (first | apply Kd.V_alloc | apply Kd.V_drewN | apply Kd.V_drew)); exact (Kd.V_mono (Kd.V_far (p := ⟨gb518, 5, none⟩) (Kd.V_far (p := ⟨gb518, 4, none⟩) (Kd.V_far (p := ⟨gb518, 3, none⟩) (Kd.V_far (p := ⟨gb518, 2, none⟩) (Kd.V_far (p := ⟨gb518, 1, none⟩) (Kd.V_far (p := ⟨gb518, 0, none⟩) (Kd.V_mono HO515.out (fun k_ hk => (⟨hk, hk.2⟩ : _ ∧ k_ ≠ gb518))) (fun _ hk => hk.2) (.int .i64 t509)) (fun _ hk => hk.2) (.string t510)) (fun _ hk => hk.2) (.string t511)) (fun _ hk => hk.2) (.int .i64 t512)) (fun _ hk => hk.2) (.slice Ao76 t513.length co76)) (fun _ hk => hk.2) (.int .i64 t516)) (fun _ h_ => h_.1))) hb); have n2_ := Az.mk (bkB (g := gb484) (o := .cells #[.int .i64 a0_0, .string a0_1, .string a0_2, .int .i64 a0_3, .slice A0_4 l0_4.length c0_4, .int .i64 a0_5] 26 (0, 0)) (by refine bk ?_; refine blk_far ?_ NB484_518.out _; refine bk ?_; refine blk_far ?_ NB484_518.out _; refine bk ?_; refine blk_far ?_ NB484_518.out _; refine bk ?_; refine blk_far ?_ NB484_518.out _; refine bk ?_; refine blk_far ?_ NB484_518.out _; refine bk ?_; refine blk_far ?_ NB484_518.out _; refine bk ?_; exact BK484.out) hb); have n3_ := Az.mk (bkB (g := gb485) (o := .cells #[.int .i64 a1_0, .string a1_1, .string a1_2, .int .i64 a1_3, .slice A1_4 l1_4.length c1_4, .int .i64 a1_5] 26 (0, 0)) (by refine bk ?_; refine blk_far ?_ NB485_518.out _; refine bk ?_; refine blk_far ?_ NB485_518.out _; refine bk ?_; refine blk_far ?_ NB485_518.out _; refine bk ?_; refine blk_far ?_ NB485_518.out _; refine bk ?_; refine blk_far ?_ NB485_518.out _; refine bk ?_; refine blk_far ?_ NB485_518.out _; refine bk ?_; exact BK485.out) hb); have n4_ := Az.mk (bkB (g := gb501) (o := .cells #[.int .i64 t492, .string t493, .string t494, .int .i64 t495, .slice Ao42 t496.length co42, .int .i64 t499] 26 (0, 0)) (by refine bk ?_; refine blk_far ?_ NB501_518.out _; refine bk ?_; refine blk_far ?_ NB501_518.out _; refine bk ?_; refine blk_far ?_ NB501_518.out _; refine bk ?_; refine blk_far ?_ NB501_518.out _; refine bk ?_; refine blk_far ?_ NB501_518.out _; refine bk ?_; refine blk_far ?_ NB501_518.out _; refine bk ?_; exact BK501.out) hb); have n5_ := Az.mk (bkB (g := gb518) (o := .cells #[.int .i64 t509, .string t510, .string t511, .int .i64 t512, .slice Ao76 t513.length co76, .int .i64 t516] 26 (0, 0)) (by refine bk ?_; refine blk_put (cs := #[.int .i64 t509, .string t510, .string t511, .int .i64 t512, .slice Ao76 t513.length co76, .int .i64 0]) ?_ 5 _ rfl; refine bk ?_; refine blk_put (cs := #[.int .i64 t509, .string t510, .string t511, .int .i64 t512, .slice none 0 0, .int .i64 0]) ?_ 4 _ rfl; refine bk ?_; refine blk_put (cs := #[.int .i64 t509, .string t510, .string t511, .int .i64 0, .slice none 0 0, .int .i64 0]) ?_ 3 _ rfl; refine bk ?_; refine blk_put (cs := #[.int .i64 t509, .string t510, .string (⟨#[]⟩ : ByteArray), .int .i64 0, .slice none 0 0, .int .i64 0]) ?_ 2 _ rfl; refine bk ?_; refine blk_put (cs := #[.int .i64 t509, .string (⟨#[]⟩ : ByteArray), .string (⟨#[]⟩ : ByteArray), .int .i64 0, .slice none 0 0, .int .i64 0]) ?_ 1 _ rfl; refine bk ?_; refine blk_put (cs := #[.int .i64 0, .string (⟨#[]⟩ : ByteArray), .string (⟨#[]⟩ : ByteArray), .int .i64 0, .slice none 0 0, .int .i64 0]) ?_ 0 _ rfl; refine bk ?_; exact BK518.out) hb); have n6_ := Az.mk (pbT (by exact pbE HB.out) hb); clear HO_502004; clear HO515; clear BK484; clear BK485; clear BK501; clear BK518; clear HB; have HO_502004 := n0_; have HO515 := n1_; have BK484 := n2_; have BK485 := n3_; have BK501 := n4_; have BK518 := n5_; have HB := n6_; clear n0_ n1_ n2_ n3_ n4_ n5_ n6_; (try clear hb); (try clear hb2); (try clear hk); (try clear hi)))
                              go_ret
                              exact ⟨by first | rfl | (simp [errW_none, errW_some] <;> rfl) | (simp [*, errW_none, errW_some] <;> rfl), by exact pbE HB.out⟩
                            · rw [if_neg c68] at H
                              have c68b0 : (t519 == 60) = false := beq_eq_false_iff_ne.mpr c68
                              have c68b1 : (t519 != 60) = true := bne_iff_ne.mpr c68
                              exact absurd (Option.some.inj (H.trans (congrArg some hr))) (by decide)
                          · rw [if_neg c65] at H
                            exact absurd H (by simp)
                        · rw [if_neg c64] at H
                          exact absurd H (by simp)
          · rw [if_neg c28] at H
            have c28b0 : (t503 == 0) = false := beq_eq_false_iff_ne.mpr c28
            have c28b1 : (t503 != 0) = true := bne_iff_ne.mpr c28
            replace H := Option.bind_eq_some_iff.mp H
            obtain ⟨t504, A780, H⟩ := H
            replace H : (if t504 = 60 then ((l06_live.f).bind fun t505 => (some t505)) else (some false)) = some r := H
            have A78 := Az.mk A780
            clear A780
            by_cases c79 : t504 = 60
            · rw [if_pos c79] at H
              have c79b0 : (t504 == 60) = true := beq_iff_eq.mpr c79
              have c79b1 : (t504 != 60) = false := bne_eq_false_iff_eq.mpr c79
              clear c79
              replace H := Option.bind_eq_some_iff.mp H
              obtain ⟨t505, A800, H⟩ := H
              replace H : (some t505) = some r := H
              have A80 := Az.mk A800
              clear A800
              obtain rfl := Option.some.inj H
              try go_wp2
              have n0_ := Az.mk (bkD BK484.out)
              have n1_ := Az.mk (bkD BK485.out)
              have n2_ := Az.mk (pb1 HB.out)
              clear BK484
              clear BK485
              clear HB
              have BK484 := n0_
              have BK485 := n1_
              have HB := n2_
              clear n0_ n1_ n2_
              refine start_ (n := 6) (S := fun w' => w'.cell? ⟨gb484, 0, none⟩ = some (.int .i64 a0_0) ∧ w'.cell? ⟨gb484, 1, none⟩ = some (.string a0_1) ∧ w'.cell? ⟨gb484, 2, none⟩ = some (.string a0_2) ∧ w'.cell? ⟨gb484, 3, none⟩ = some (.int .i64 a0_3) ∧ w'.cell? ⟨gb484, 4, none⟩ = some (.slice A0_4 l0_4.length c0_4) ∧ w'.cell? ⟨gb484, 5, none⟩ = some (.int .i64 a0_5) ∧ w'.cell? ⟨gb485, 0, none⟩ = some (.int .i64 a1_0) ∧ w'.cell? ⟨gb485, 1, none⟩ = some (.string a1_1) ∧ w'.cell? ⟨gb485, 2, none⟩ = some (.string a1_2) ∧ w'.cell? ⟨gb485, 3, none⟩ = some (.int .i64 a1_3) ∧ w'.cell? ⟨gb485, 4, none⟩ = some (.slice A1_4 l1_4.length c1_4) ∧ w'.cell? ⟨gb485, 5, none⟩ = some (.int .i64 a1_5)) (ds := []) #[false, false, false, false, false, false] (by kernel_rfl) rfl rfl ⟨(bkC BK484.out 0).trans rfl, (bkC BK484.out 1).trans rfl, (bkC BK484.out 2).trans rfl, (bkC BK484.out 3).trans rfl, (bkC BK484.out 4).trans rfl, (bkC BK484.out 5).trans rfl, (bkC BK485.out 0).trans rfl, (bkC BK485.out 1).trans rfl, (bkC BK485.out 2).trans rfl, (bkC BK485.out 3).trans rfl, (bkC BK485.out 4).trans rfl, (bkC BK485.out 5).trans rfl⟩ (fun hHeld => ?_)
              generalize wc.drew = w81 at BK484 BK485 HB hHeld ⊢
              refine take_ (i := 0) (N := some 22) (v := ?_) (a' := ?_) #[true, false, false, false, false, false] rfl rfl (by kernel_rfl) (fun _ _ _ h => h) (Or.inl ⟨by rfl, ?_⟩) hHeld ?_ ?_
              rotate_left
              · rintro w' ⟨s0, s1, s2, s3, s4, s5, s6, s7, s8, s9, s10, s11⟩
                go_simp
                with_reducible rfl
              rotate_left
              · simp only [Act.put, List.setIfInBounds_toArray, List.set_cons_zero, List.set_cons_succ, i64_w, i32_w]
                rfl
              refine take_ (i := 2) (N := some 24) (v := ?_) (a' := ?_) #[true, false, true, false, false, false] rfl rfl (by kernel_rfl) (fun _ _ _ h => h) (Or.inl ⟨by rfl, ?_⟩) hHeld ?_ ?_
              rotate_left
              · rintro w' ⟨s0, s1, s2, s3, s4, s5, s6, s7, s8, s9, s10, s11⟩
                go_simp
                with_reducible rfl
              rotate_left
              · simp only [Act.put, List.setIfInBounds_toArray, List.set_cons_zero, List.set_cons_succ, i64_w, i32_w]
                rfl
              refine one_ (i := 1) (N := some 23) #[true, true, true, false, false, false] rfl rfl (by kernel_rfl) (by decide) (fun K hK => ?_)
              refine goes_ Tryd.func19 (by kernel_rfl) rfl #[.agg #[.int .i64 a0_0, .string a0_1, .string a0_2, .int .i64 a0_3, .slice A0_4 l0_4.length c0_4, .int .i64 a0_5]] (by rfl) rfl rfl (by (try simp only [List.map_toArray, List.map_cons, List.map_nil]); first | done | rfl | (simp only [List.length_drop, List.length_take]; rfl)) ?_
              with_reducible refine (desc_Put.calls kj3 a0_0 a0_1 a0_2 a0_3 _ _ l0_4 a0_5 t489 _ ?side1 ?side2 ?side3 A21.out).mono ?_
              (case side1 => exact hG.below (by exact pbE HB.out))
              (case side2 => repeat (first | exact (Kd.C_below HR0_4.out HB.out) | (with_reducible refine Kd.C_alloc ?_ _) | (with_reducible refine Kd.C_drewN ?_ _) | (with_reducible refine Kd.C_drew ?_)))
              (case side3 => exact HC0_4.out)
              rintro e w82 ⟨rfl, hb⟩
              refine ⟨_, rfl, ?_⟩
              have n0_ := Az.mk (bkB (g := gb484) (o := .cells #[.int .i64 a0_0, .string a0_1, .string a0_2, .int .i64 a0_3, .slice A0_4 l0_4.length c0_4, .int .i64 a0_5] 26 (0, 0)) (bk BK484.out) hb)
              have n1_ := Az.mk (bkB (g := gb485) (o := .cells #[.int .i64 a1_0, .string a1_1, .string a1_2, .int .i64 a1_3, .slice A1_4 l1_4.length c1_4, .int .i64 a1_5] 26 (0, 0)) (bk BK485.out) hb)
              have n2_ := Az.mk (pbT (by exact pbE HB.out) hb)
              clear BK484
              clear BK485
              clear HB
              have BK484 := n0_
              have BK485 := n1_
              have HB := n2_
              clear n0_ n1_ n2_
              (try clear hb)
              (try clear hb2)
              (try clear hk)
              (try clear hi)
              refine hK.out _ _ ⟨(bkC BK484.out 0).trans rfl, (bkC BK484.out 1).trans rfl, (bkC BK484.out 2).trans rfl, (bkC BK484.out 3).trans rfl, (bkC BK484.out 4).trans rfl, (bkC BK484.out 5).trans rfl, (bkC BK485.out 0).trans rfl, (bkC BK485.out 1).trans rfl, (bkC BK485.out 2).trans rfl, (bkC BK485.out 3).trans rfl, (bkC BK485.out 4).trans rfl, (bkC BK485.out 5).trans rfl⟩ (fun hHeld => ?_)
              clear hK K
              refine norm_ (a' := ?_) ?_ ?_
              rotate_left
              · show Act.put _ (some 23) _ = _
                simp only [Act.put, List.setIfInBounds_toArray, List.set_cons_zero, List.set_cons_succ, i64_w, i32_w]
                rfl
              refine one_ (i := 3) (N := some 25) #[true, true, true, true, false, false] rfl rfl (by kernel_rfl) (by decide) (fun K hK => ?_)
              refine goes_ Tryd.func19 (by kernel_rfl) rfl #[.agg #[.int .i64 a1_0, .string a1_1, .string a1_2, .int .i64 a1_3, .slice A1_4 l1_4.length c1_4, .int .i64 a1_5]] (by rfl) rfl rfl (by (try simp only [List.map_toArray, List.map_cons, List.map_nil]); first | done | rfl | (simp only [List.length_drop, List.length_take]; rfl)) ?_
              with_reducible refine (desc_Put.calls kj3 a1_0 a1_1 a1_2 a1_3 _ _ l1_4 a1_5 t490 _ ?side1 ?side2 ?side3 A22.out).mono ?_
              (case side1 => exact hG.below (by exact pbE HB.out))
              (case side2 => repeat (first | exact (Kd.C_below HR1_4.out HB.out) | (with_reducible refine Kd.C_alloc ?_ _) | (with_reducible refine Kd.C_drewN ?_ _) | (with_reducible refine Kd.C_drew ?_)))
              (case side3 => exact HC1_4.out)
              rintro e w83 ⟨rfl, hb⟩
              refine ⟨_, rfl, ?_⟩
              have n0_ := Az.mk (bkB (g := gb484) (o := .cells #[.int .i64 a0_0, .string a0_1, .string a0_2, .int .i64 a0_3, .slice A0_4 l0_4.length c0_4, .int .i64 a0_5] 26 (0, 0)) (bk BK484.out) hb)
              have n1_ := Az.mk (bkB (g := gb485) (o := .cells #[.int .i64 a1_0, .string a1_1, .string a1_2, .int .i64 a1_3, .slice A1_4 l1_4.length c1_4, .int .i64 a1_5] 26 (0, 0)) (bk BK485.out) hb)
              have n2_ := Az.mk (pbT (by exact pbE HB.out) hb)
              clear BK484
              clear BK485
              clear HB
              have BK484 := n0_
              have BK485 := n1_
              have HB := n2_
              clear n0_ n1_ n2_
              (try clear hb)
              (try clear hb2)
              (try clear hk)
              (try clear hi)
              refine hK.out _ _ ⟨(bkC BK484.out 0).trans rfl, (bkC BK484.out 1).trans rfl, (bkC BK484.out 2).trans rfl, (bkC BK484.out 3).trans rfl, (bkC BK484.out 4).trans rfl, (bkC BK484.out 5).trans rfl, (bkC BK485.out 0).trans rfl, (bkC BK485.out 1).trans rfl, (bkC BK485.out 2).trans rfl, (bkC BK485.out 3).trans rfl, (bkC BK485.out 4).trans rfl, (bkC BK485.out 5).trans rfl⟩ (fun hHeld => ?_)
              clear hK K
              refine norm_ (a' := ?_) ?_ ?_
              rotate_left
              · show Act.put _ (some 25) _ = _
                simp only [Act.put, List.setIfInBounds_toArray, List.set_cons_zero, List.set_cons_succ, i64_w, i32_w]
                rfl
              refine pure_ (i := 4) (N := some 7) (v := ?_) (a' := ?_) #[true, true, true, true, true, false] rfl rfl (by kernel_rfl) (fun _ _ _ h => h) (Or.inl ⟨by rfl, ?_⟩) ?_ ?_
              rotate_left
              · intro w'
                go_simp
                with_reducible rfl
              rotate_left
              · simp only [Act.put, List.setIfInBounds_toArray, List.set_cons_zero, List.set_cons_succ, i64_w, i32_w]
                rfl
              refine pure_ (i := 5) (N := some 8) (v := ?_) (a' := ?_) #[true, true, true, true, true, true] rfl rfl (by kernel_rfl) (fun _ _ _ h => h) (Or.inl ⟨by rfl, ?_⟩) ?_ ?_
              rotate_left
              · intro w'
                go_simp
                with_reducible rfl
              rotate_left
              · simp only [Act.put, List.setIfInBounds_toArray, List.set_cons_zero, List.set_cons_succ, i64_w, i32_w]
                rfl
              refine done_ (by kernel_rfl) ?_
              have hnb84 := NB484_485.out
              have hnc84 := NB485_484.out
              have hcz85_0 : w83.cell? ⟨gb484, 0, none⟩ = some (.int .i64 a0_0) := (bkC BK484.out 0).trans rfl
              have hcz85_1 : w83.cell? ⟨gb484, 1, none⟩ = some (.string a0_1) := (bkC BK484.out 1).trans rfl
              have hcz85_2 : w83.cell? ⟨gb484, 2, none⟩ = some (.string a0_2) := (bkC BK484.out 2).trans rfl
              have hcz85_3 : w83.cell? ⟨gb484, 3, none⟩ = some (.int .i64 a0_3) := (bkC BK484.out 3).trans rfl
              have hcz85_4 : w83.cell? ⟨gb484, 4, none⟩ = some (.slice A0_4 l0_4.length c0_4) := (bkC BK484.out 4).trans rfl
              have hcz85_5 : w83.cell? ⟨gb484, 5, none⟩ = some (.int .i64 a0_5) := (bkC BK484.out 5).trans rfl
              have hfz85_0 := bkF BK484.out 0
              have hfz85_1 := bkF BK484.out 1
              have hfz85_2 := bkF BK484.out 2
              have hfz85_3 := bkF BK484.out 3
              have hfz85_4 := bkF BK484.out 4
              have hfz85_5 := bkF BK484.out 5
              have hcz86_0 : w83.cell? ⟨gb485, 0, none⟩ = some (.int .i64 a1_0) := (bkC BK485.out 0).trans rfl
              have hcz86_1 : w83.cell? ⟨gb485, 1, none⟩ = some (.string a1_1) := (bkC BK485.out 1).trans rfl
              have hcz86_2 : w83.cell? ⟨gb485, 2, none⟩ = some (.string a1_2) := (bkC BK485.out 2).trans rfl
              have hcz86_3 : w83.cell? ⟨gb485, 3, none⟩ = some (.int .i64 a1_3) := (bkC BK485.out 3).trans rfl
              have hcz86_4 : w83.cell? ⟨gb485, 4, none⟩ = some (.slice A1_4 l1_4.length c1_4) := (bkC BK485.out 4).trans rfl
              have hcz86_5 : w83.cell? ⟨gb485, 5, none⟩ = some (.int .i64 a1_5) := (bkC BK485.out 5).trans rfl
              have hfz86_0 := bkF BK485.out 0
              have hfz86_1 := bkF BK485.out 1
              have hfz86_2 := bkF BK485.out 2
              have hfz86_3 := bkF BK485.out 3
              have hfz86_4 := bkF BK485.out 4
              have hfz86_5 := bkF BK485.out 5
              try go_wp2_with (first | ((with_reducible refine gtc (f := 20) rfl ?_); refine goesL_ (some 31) rfl rfl Tryd.func20 (by kernel_rfl) rfl #[.agg #[.int .i64 a0_0, .string a0_1, .string a0_2, .int .i64 a0_3, .slice A0_4 l0_4.length c0_4, .int .i64 a0_5], .agg #[.int .i64 a1_0, .string a1_1, .string a1_2, .int .i64 a1_3, .slice A1_4 l1_4.length c1_4, .int .i64 a1_5]] rfl (by (try simp only [List.map_toArray, List.map_cons, List.map_nil]); first | done | rfl | (simp only [List.length_drop, List.length_take]; rfl)) ?_; (with_reducible refine (desc_Same.calls kj3 a0_0 a0_1 a0_2 a0_3 _ _ l0_4 a0_5 a1_0 a1_1 a1_2 a1_3 _ _ l1_4 a1_5 t491 _ ?side1 ?side2 ?side3 ?side4 ?side5 A23.out).mono ?_); (case side1 => exact hG.below (by exact pbE HB.out)); (case side2 => repeat (first | exact (Kd.C_below HR0_4.out HB.out) | (with_reducible refine Kd.C_alloc ?_ _) | (with_reducible refine Kd.C_drewN ?_ _) | (with_reducible refine Kd.C_drew ?_))); (case side3 => exact HC0_4.out); (case side4 => repeat (first | exact (Kd.C_below HR1_4.out HB.out) | (with_reducible refine Kd.C_alloc ?_ _) | (with_reducible refine Kd.C_drewN ?_ _) | (with_reducible refine Kd.C_drew ?_))); (case side5 => exact HC1_4.out); rintro e w87 ⟨rfl, hb⟩; refine ⟨_, rfl, ?_⟩; have n0_ := Az.mk (bkB (g := gb484) (o := .cells #[.int .i64 a0_0, .string a0_1, .string a0_2, .int .i64 a0_3, .slice A0_4 l0_4.length c0_4, .int .i64 a0_5] 26 (0, 0)) (bk BK484.out) hb); have n1_ := Az.mk (bkB (g := gb485) (o := .cells #[.int .i64 a1_0, .string a1_1, .string a1_2, .int .i64 a1_3, .slice A1_4 l1_4.length c1_4, .int .i64 a1_5] 26 (0, 0)) (bk BK485.out) hb); have n2_ := Az.mk (pbT (by exact pbE HB.out) hb); clear BK484; clear BK485; clear HB; have BK484 := n0_; have BK485 := n1_; have HB := n2_; clear n0_ n1_ n2_; (try clear hb); (try clear hb2); (try clear hk); (try clear hi)) | ((with_reducible refine gtc (f := 21) rfl ?_); refine goesL_ (some 35) rfl rfl Tryd.func21 (by kernel_rfl) rfl #[.string t489] rfl (by (try simp only [List.map_toArray, List.map_cons, List.map_nil]); first | done | rfl | (simp only [List.length_drop, List.length_take]; rfl)) ?_; (with_reducible refine (desc_Parse.calls kj3 t489 t492 t493 t494 t495 t496 t499 t500 _ ?side1 A25.out).mono ?_); (case side1 => exact hG.below (by exact pbE HB.out)); rintro e w88 ⟨v497, rfl, ho0, hb⟩; refine ⟨_, rfl, ?_⟩; have n0_ := Az.mk (Kd.V_lower (Kd.V_mono (ok' := fun k_ => k_ ≠ gb484 ∧ k_ ≠ gb485) ho0 (fun k_ hk_ => ⟨(Kd.freshB (g := gb484) (o := .cells #[.int .i64 a0_0, .string a0_1, .string a0_2, .int .i64 a0_3, .slice A0_4 l0_4.length c0_4, .int .i64 a0_5] 26 (0, 0)) (bk BK484.out) k_ hk_), (Kd.freshB (g := gb485) (o := .cells #[.int .i64 a1_0, .string a1_1, .string a1_2, .int .i64 a1_3, .slice A1_4 l1_4.length c1_4, .int .i64 a1_5] 26 (0, 0)) (bk BK485.out) k_ hk_)⟩)) (pbZ (by exact pbE HB.out))); have n1_ := Az.mk (bkB (g := gb484) (o := .cells #[.int .i64 a0_0, .string a0_1, .string a0_2, .int .i64 a0_3, .slice A0_4 l0_4.length c0_4, .int .i64 a0_5] 26 (0, 0)) (bk BK484.out) hb); have n2_ := Az.mk (bkB (g := gb485) (o := .cells #[.int .i64 a1_0, .string a1_1, .string a1_2, .int .i64 a1_3, .slice A1_4 l1_4.length c1_4, .int .i64 a1_5] 26 (0, 0)) (bk BK485.out) hb); have n3_ := Az.mk (pbT (by exact pbE HB.out) hb); clear BK484; clear BK485; clear HB; have HO498 := n0_; have BK484 := n1_; have BK485 := n2_; have HB := n3_; clear n0_ n1_ n2_ n3_; (try clear hb); (try clear hb2); (try clear hk); (try clear hi); (try clear ho0)) | ((with_reducible refine gate_dst (N := 9) rfl ?_); (try (refine gate_guard (by rfl) ?_; dsimp only)); refine box_event ?hg (N := 9) ?hd (cs := #[.int .i64 0, .string (⟨#[]⟩ : ByteArray), .string (⟨#[]⟩ : ByteArray), .int .i64 0, .slice none 0 0, .int .i64 0]) (t := 26) ?hr ?_; (case hd => rfl); (case hg => rfl); (case hr => first | (go_simp; done) | (go_simp; rfl)); intro gb501 hg w89 hbox hb; have n0_ := Az.mk (Kd.V_below (Kd.V_elderB (Kd.V_ext HO498.out) gb501 (Nat.le_of_eq hg.symm)) hb); have n1_ := Az.mk (bkB (g := gb484) (o := .cells #[.int .i64 a0_0, .string a0_1, .string a0_2, .int .i64 a0_3, .slice A0_4 l0_4.length c0_4, .int .i64 a0_5] 26 (0, 0)) (bk BK484.out) hb); have n2_ := Az.mk (bkB (g := gb485) (o := .cells #[.int .i64 a1_0, .string a1_1, .string a1_2, .int .i64 a1_3, .slice A1_4 l1_4.length c1_4, .int .i64 a1_5] 26 (0, 0)) (bk BK485.out) hb); have n3_ := Az.mk (pbT (by exact pbE HB.out) hb); have n4_ := Az.mk (hbox); have n5_ := Az.mk ((by rw [hg]; exact (pbZ (by exact pbE HB.out)) : w.heap.size ≤ gb501)); have n6_ := Az.mk ((by rw [hg]; exact (pbZ (by exact pbE HB.out)) : w.heap.size ≤ gb501)); have n7_ := Az.mk ((by rw [hg]; exact Nat.ne_of_lt (blk_lt (g := gb484) (o := .cells #[.int .i64 a0_0, .string a0_1, .string a0_2, .int .i64 a0_3, .slice A0_4 l0_4.length c0_4, .int .i64 a0_5] 26 (0, 0)) (bk BK484.out)) : gb484 ≠ gb501)); have n8_ := Az.mk ((by rw [hg]; exact Nat.ne_of_gt (blk_lt (g := gb484) (o := .cells #[.int .i64 a0_0, .string a0_1, .string a0_2, .int .i64 a0_3, .slice A0_4 l0_4.length c0_4, .int .i64 a0_5] 26 (0, 0)) (bk BK484.out)) : gb501 ≠ gb484)); have n9_ := Az.mk ((by rw [hg]; exact Nat.ne_of_lt (blk_lt (g := gb485) (o := .cells #[.int .i64 a1_0, .string a1_1, .string a1_2, .int .i64 a1_3, .slice A1_4 l1_4.length c1_4, .int .i64 a1_5] 26 (0, 0)) (bk BK485.out)) : gb485 ≠ gb501)); have n10_ := Az.mk ((by rw [hg]; exact Nat.ne_of_gt (blk_lt (g := gb485) (o := .cells #[.int .i64 a1_0, .string a1_1, .string a1_2, .int .i64 a1_3, .slice A1_4 l1_4.length c1_4, .int .i64 a1_5] 26 (0, 0)) (bk BK485.out)) : gb501 ≠ gb485)); clear HO498; clear BK484; clear BK485; clear HB; have HO498 := n0_; have BK484 := n1_; have BK485 := n2_; have HB := n3_; have BK501 := n4_; have GW501 := n5_; have GE501 := n6_; have NB484_501 := n7_; have NB501_484 := n8_; have NB485_501 := n9_; have NB501_485 := n10_; clear n0_ n1_ n2_ n3_ n4_ n5_ n6_ n7_ n8_ n9_ n10_; clear hb hbox hg; have hnb90 := NB501_484.out; have hnc90 := NB484_501.out; have hnb91 := NB501_485.out; have hnc91 := NB485_501.out; have hcz92_0 : w89.cell? ⟨gb501, 0, none⟩ = some (.int .i64 0) := (bkC BK501.out 0).trans rfl; have hcz92_1 : w89.cell? ⟨gb501, 1, none⟩ = some (.string (⟨#[]⟩ : ByteArray)) := (bkC BK501.out 1).trans rfl; have hcz92_2 : w89.cell? ⟨gb501, 2, none⟩ = some (.string (⟨#[]⟩ : ByteArray)) := (bkC BK501.out 2).trans rfl; have hcz92_3 : w89.cell? ⟨gb501, 3, none⟩ = some (.int .i64 0) := (bkC BK501.out 3).trans rfl; have hcz92_4 : w89.cell? ⟨gb501, 4, none⟩ = some (.slice none 0 0) := (bkC BK501.out 4).trans rfl; have hcz92_5 : w89.cell? ⟨gb501, 5, none⟩ = some (.int .i64 0) := (bkC BK501.out 5).trans rfl; have hfz92_0 := bkF BK501.out 0; have hfz92_1 := bkF BK501.out 1; have hfz92_2 := bkF BK501.out 2; have hfz92_3 := bkF BK501.out 3; have hfz92_4 := bkF BK501.out 4; have hfz92_5 := bkF BK501.out 5; obtain ⟨Ao93, co93, eo93⟩ := Kd.V_slice HO498.out; subst eo93; have hcz94_0 : w89.cell? ⟨gb484, 0, none⟩ = some (.int .i64 a0_0) := (bkC BK484.out 0).trans rfl; have hcz94_1 : w89.cell? ⟨gb484, 1, none⟩ = some (.string a0_1) := (bkC BK484.out 1).trans rfl; have hcz94_2 : w89.cell? ⟨gb484, 2, none⟩ = some (.string a0_2) := (bkC BK484.out 2).trans rfl; have hcz94_3 : w89.cell? ⟨gb484, 3, none⟩ = some (.int .i64 a0_3) := (bkC BK484.out 3).trans rfl; have hcz94_4 : w89.cell? ⟨gb484, 4, none⟩ = some (.slice A0_4 l0_4.length c0_4) := (bkC BK484.out 4).trans rfl; have hcz94_5 : w89.cell? ⟨gb484, 5, none⟩ = some (.int .i64 a0_5) := (bkC BK484.out 5).trans rfl; have hfz94_0 := bkF BK484.out 0; have hfz94_1 := bkF BK484.out 1; have hfz94_2 := bkF BK484.out 2; have hfz94_3 := bkF BK484.out 3; have hfz94_4 := bkF BK484.out 4; have hfz94_5 := bkF BK484.out 5) | ((with_reducible refine gtc (f := 22) rfl ?_); refine goesL_ (some 39) rfl rfl Tryd.func22 (by kernel_rfl) rfl #[.agg #[.int .i64 a0_0, .string a0_1, .string a0_2, .int .i64 a0_3, .slice A0_4 l0_4.length c0_4, .int .i64 a0_5]] rfl (by (try simp only [List.map_toArray, List.map_cons, List.map_nil]); first | done | rfl | (simp only [List.length_drop, List.length_take]; rfl)) ?_; (with_reducible refine (desc_Check.calls a0_0 a0_1 a0_2 a0_3 _ _ l0_4 a0_5 t502 _ ?side1 ?side2 ?side3 A26.out).mono ?_); (case side1 => exact hG.below (by exact pbE HB.out)); (case side2 => exact Kd.C_below HR0_4.out (by exact pbE HB.out)); (case side3 => exact HC0_4.out); rintro e w95 ⟨rfl, hb⟩; refine ⟨_, rfl, ?_⟩; have n0_ := Az.mk (Kd.V_below (by (with_reducible repeat (first | apply Kd.V_alloc | apply Kd.V_drewN | apply Kd.V_drew)); exact (Kd.V_mono (Kd.V_far (p := ⟨gb501, 5, none⟩) (Kd.V_far (p := ⟨gb501, 4, none⟩) (Kd.V_far (p := ⟨gb501, 3, none⟩) (Kd.V_far (p := ⟨gb501, 2, none⟩) (Kd.V_far (p := ⟨gb501, 1, none⟩) (Kd.V_far (p := ⟨gb501, 0, none⟩) (Kd.V_mono HO498.out (fun k_ hk => (⟨hk, hk.2⟩ : _ ∧ k_ ≠ gb501))) (fun _ hk => hk.2) (.int .i64 t492)) (fun _ hk => hk.2) (.string t493)) (fun _ hk => hk.2) (.string t494)) (fun _ hk => hk.2) (.int .i64 t495)) (fun _ hk => hk.2) (.slice Ao93 t496.length co93)) (fun _ hk => hk.2) (.int .i64 t499)) (fun _ h_ => h_.1))) hb); have n1_ := Az.mk (bkB (g := gb484) (o := .cells #[.int .i64 a0_0, .string a0_1, .string a0_2, .int .i64 a0_3, .slice A0_4 l0_4.length c0_4, .int .i64 a0_5] 26 (0, 0)) (by refine bk ?_; refine blk_far ?_ NB484_501.out _; refine bk ?_; refine blk_far ?_ NB484_501.out _; refine bk ?_; refine blk_far ?_ NB484_501.out _; refine bk ?_; refine blk_far ?_ NB484_501.out _; refine bk ?_; refine blk_far ?_ NB484_501.out _; refine bk ?_; refine blk_far ?_ NB484_501.out _; refine bk ?_; exact BK484.out) hb); have n2_ := Az.mk (bkB (g := gb485) (o := .cells #[.int .i64 a1_0, .string a1_1, .string a1_2, .int .i64 a1_3, .slice A1_4 l1_4.length c1_4, .int .i64 a1_5] 26 (0, 0)) (by refine bk ?_; refine blk_far ?_ NB485_501.out _; refine bk ?_; refine blk_far ?_ NB485_501.out _; refine bk ?_; refine blk_far ?_ NB485_501.out _; refine bk ?_; refine blk_far ?_ NB485_501.out _; refine bk ?_; refine blk_far ?_ NB485_501.out _; refine bk ?_; refine blk_far ?_ NB485_501.out _; refine bk ?_; exact BK485.out) hb); have n3_ := Az.mk (bkB (g := gb501) (o := .cells #[.int .i64 t492, .string t493, .string t494, .int .i64 t495, .slice Ao93 t496.length co93, .int .i64 t499] 26 (0, 0)) (by refine bk ?_; refine blk_put (cs := #[.int .i64 t492, .string t493, .string t494, .int .i64 t495, .slice Ao93 t496.length co93, .int .i64 0]) ?_ 5 _ rfl; refine bk ?_; refine blk_put (cs := #[.int .i64 t492, .string t493, .string t494, .int .i64 t495, .slice none 0 0, .int .i64 0]) ?_ 4 _ rfl; refine bk ?_; refine blk_put (cs := #[.int .i64 t492, .string t493, .string t494, .int .i64 0, .slice none 0 0, .int .i64 0]) ?_ 3 _ rfl; refine bk ?_; refine blk_put (cs := #[.int .i64 t492, .string t493, .string (⟨#[]⟩ : ByteArray), .int .i64 0, .slice none 0 0, .int .i64 0]) ?_ 2 _ rfl; refine bk ?_; refine blk_put (cs := #[.int .i64 t492, .string (⟨#[]⟩ : ByteArray), .string (⟨#[]⟩ : ByteArray), .int .i64 0, .slice none 0 0, .int .i64 0]) ?_ 1 _ rfl; refine bk ?_; refine blk_put (cs := #[.int .i64 0, .string (⟨#[]⟩ : ByteArray), .string (⟨#[]⟩ : ByteArray), .int .i64 0, .slice none 0 0, .int .i64 0]) ?_ 0 _ rfl; refine bk ?_; exact BK501.out) hb); have n4_ := Az.mk (pbT (by exact pbE HB.out) hb); clear HO498; clear BK484; clear BK485; clear BK501; clear HB; have HO498 := n0_; have BK484 := n1_; have BK485 := n2_; have BK501 := n3_; have HB := n4_; clear n0_ n1_ n2_ n3_ n4_; (try clear hb); (try clear hb2); (try clear hk); (try clear hi)) | ((with_reducible refine gtc (f := 17) rfl ?_); refine goesL_ (some 40) rfl rfl Tryd.func17 (by kernel_rfl) rfl #[.int .i64 t502] rfl (by (try simp only [List.map_toArray, List.map_cons, List.map_nil]); first | done | rfl | (simp only [List.length_drop, List.length_take]; rfl)) ?_; (with_reducible refine (l06_num.calls t502 t503 _ ?side1 A27.out).mono ?_); (case side1 => exact hG.below (by exact pbE HB.out)); rintro e w' ⟨rfl, ⟨nd, rfl⟩⟩; refine ⟨_, rfl, ?_⟩) | ((with_reducible refine gtc (f := 17) rfl ?_); refine goesL_ (some 43) rfl rfl Tryd.func17 (by kernel_rfl) rfl #[.int .i64 t500] rfl (by (try simp only [List.map_toArray, List.map_cons, List.map_nil]); first | done | rfl | (simp only [List.length_drop, List.length_take]; rfl)) ?_; (with_reducible refine (l06_num.calls t500 t504 _ ?side1 A78.out).mono ?_); (case side1 => exact hG.below (by exact pbE HB.out)); rintro e w' ⟨rfl, ⟨nd, rfl⟩⟩; refine ⟨_, rfl, ?_⟩) | (go_at_call 10; (with_reducible refine (l06_live.calls  t505 _ ?side1 A80.out).mono ?_); (case side1 => exact hG.below (by exact pbE HB.out)); rintro e w96 ⟨rfl, hb⟩; have n0_ := Az.mk (Kd.V_below (Kd.V_ext HO498.out) hb); have n1_ := Az.mk (bkB (g := gb484) (o := .cells #[.int .i64 a0_0, .string a0_1, .string a0_2, .int .i64 a0_3, .slice A0_4 l0_4.length c0_4, .int .i64 a0_5] 26 (0, 0)) (bk BK484.out) hb); have n2_ := Az.mk (bkB (g := gb485) (o := .cells #[.int .i64 a1_0, .string a1_1, .string a1_2, .int .i64 a1_3, .slice A1_4 l1_4.length c1_4, .int .i64 a1_5] 26 (0, 0)) (bk BK485.out) hb); have n3_ := Az.mk (bkB (g := gb501) (o := .cells #[.int .i64 t492, .string t493, .string t494, .int .i64 t495, .slice Ao93 t496.length co93, .int .i64 t499] 26 (0, 0)) (bk BK501.out) hb); have n4_ := Az.mk (pbT (by exact pbE HB.out) hb); clear HO498; clear BK484; clear BK485; clear BK501; clear HB; have HO498 := n0_; have BK484 := n1_; have BK485 := n2_; have BK501 := n3_; have HB := n4_; clear n0_ n1_ n2_ n3_ n4_; (try clear hb); (try clear hb2); (try clear hk); (try clear hi)))
              go_ret
              exact ⟨by first | rfl | (simp [errW_none, errW_some] <;> rfl) | (simp [*, errW_none, errW_some] <;> rfl), by exact pbE HB.out⟩
            · rw [if_neg c79] at H
              have c79b0 : (t504 == 60) = false := beq_eq_false_iff_ne.mpr c79
              have c79b1 : (t504 != 60) = true := bne_iff_ne.mpr c79
              exact absurd (Option.some.inj (H.trans (congrArg some hr))) (by decide)
end Go.Proofs.YtjfhcijjjadhbaaDoor.P
end
section
/- DescUnlike, the plain law. -/
namespace Go.Proofs.YtjfhcijjjadhbaaDoor.U
open Go.RowKit Go.Proofs.YtjfhcijjjadhbaaDoorW.PrintWords Go.Proofs.YtjfhcijjjadhbaaDoorW.PrintLast Go.Proofs.YtjfhcijjjadhbaaDoorW.PrintMore Go.Proofs.YtjfhcijjjadhbaaDoor.P Go.Proofs.YtjfhcijjjadhbaaDoor.K Go.Proofs.YtjfhcijjjadhbaaDoor.A Go.Proofs.YtjfhcijjjadhbaaDoor.V
theorem live_ev : Ev (fun _ => (l06_live.f).bind fun x => some x) true := by
  simp only [l06_live.f, Option.bind_some]
  exact Ev.now _
theorem j2_ev {id : Int} {fr tu : ByteArray} {gen : Int} {l : List S60} {nx cut : Int} {b : Bool} (ht : (tieD (datas (putD id fr tu gen l nx))).length ≤ 1048576) (h : cut < 0 ∨ ((B (tieD (datas (putD id fr tu gen l nx)))).size : Int) ≤ cut ∨ 1 < l.length → b = true) (hb : b = false → l.length ≤ 1) :
    Ev (fun k => l06_DescUnlike.j2 k cut (B (tieD (datas (putD id fr tu gen l nx)))) b) true := by
  refine Ev.shift ?_
  simp only [l06_DescUnlike.j2]
  refine Ev.ite (fun _ => live_ev) (fun hb1 => ?_)
  have hbf : b = false := by simpa using hb1
  have c0 : 0 ≤ cut := by
    by_cases c : cut < 0
    · exact absurd (h (.inl c)) hb1
    · omega
  have c1 : cut < ((B (tieD (datas (putD id fr tu gen l nx)))).size : Int) := by
    by_cases c : ((B (tieD (datas (putD id fr tu gen l nx)))).size : Int) ≤ cut
    · exact absurd (h (.inr (.inl c))) hb1
    · omega
  simp only [if_pos c0, if_pos (show cut ≤ ((B (tieD (datas (putD id fr tu gen l nx)))).size : Int) by omega)]
  have hz : (parseR ((B (tieD (datas (putD id fr tu gen l nx)))).extract 0 cut.toNat)).2.2.2.2.2.2 = 60 := parse_cut (hb hbf) ht _ (by rw [B_size] at c1; omega)
  refine Ev.bind (parse_ev _) ?_
  simp only [l06_num.f, Option.bind_some, hz]
  exact live_ev
theorem DescUnlike : ∀ (a0_0 : Int), (Lit.int .i64 a0_0).wf = true → ∀ (a0_1 : ByteArray), a0_1.size ≤ reachBytes → ∀ (a0_2 : ByteArray), a0_2.size ≤ reachBytes → ∀ (a0_3 : Int), (Lit.int .i64 a0_3).wf = true → ∀ (l0_4 : List S60), (l0_4.length * 16 ≤ reachBytes ∧ l0_4.length ≤ maxLen ∧ ∀ x ∈ l0_4, ((Lit.int .i64 x.f0).wf = true ∧ (Lit.int .i64 x.f1).wf = true)) → ∀ (a0_5 : Int), (Lit.int .i64 a0_5).wf = true → ∀ (a1_0 : Int), (Lit.int .i64 a1_0).wf = true → ∀ (a1_1 : ByteArray), a1_1.size ≤ reachBytes → ∀ (a1_2 : ByteArray), a1_2.size ≤ reachBytes → ∀ (a1_3 : Int), (Lit.int .i64 a1_3).wf = true → ∀ (l1_4 : List S60), (l1_4.length * 16 ≤ reachBytes ∧ l1_4.length ≤ maxLen ∧ ∀ x ∈ l1_4, ((Lit.int .i64 x.f0).wf = true ∧ (Lit.int .i64 x.f1).wf = true)) → ∀ (a1_5 : Int), (Lit.int .i64 a1_5).wf = true → ∀ (a2 : Int), (Lit.int .i64 a2).wf = true → ∃ k, l06_DescUnlike.f k a0_0 a0_1 a0_2 a0_3 l0_4 a0_5 a1_0 a1_1 a1_2 a1_3 l1_4 a1_5 a2 = some true := by
  intro id wi fr _ tu _ gen wg l ⟨_, _, hl⟩ nx wn id2 wi2 fr2 _ tu2 _ gen2 wg2 l2 ⟨_, _, hl2⟩ nx2 wn2 cut _
  refine Ev.rounds ?_
  have hi := isI_wf wi
  have hg := isI_wf wg
  have hn := isI_wf wn
  have hi2 := isI_wf wi2
  have hg2 := isI_wf wg2
  have hn2 := isI_wf wn2
  have he : isM l := fun m hm => ⟨isI_wf (hl m hm).1, isI_wf (hl m hm).2⟩
  have he2 : isM l2 := fun m hm => ⟨isI_wf (hl2 m hm).1, isI_wf (hl2 m hm).2⟩
  have hbad : Ev (fun k => l06_DescUnlike.j0 k cut true id fr tu gen l nx id2 fr2 tu2 gen2 l2 nx2) true := by
    refine Ev.shift ?_
    simp only [l06_DescUnlike.j0, if_true]
    exact live_ev
  simp only [l06_DescUnlike.f, small_eq, Option.bind_some]
  refine Ev.ite (fun hs => ?_) (fun _ => hbad)
  cases hs2 : smallD fr2 tu2 l2 with
  | false => exact hbad
  | true =>
    have ht := put_len hi hg hn he hs
    have ht2 := put_len hi2 hg2 hn2 he2 hs2
    have hlen := (of_decide_eq_true hs).1
    have hlen2 := (of_decide_eq_true hs2).1
    refine Ev.shift ?_
    simp only [l06_DescUnlike.j0, Bool.not_true, Bool.false_eq_true, if_false]
    refine Ev.bind (put_ev (by omega) hi hg hn he (by omega)) (Ev.bind (put_ev (by omega) hi2 hg2 hn2 he2 (by omega)) (Ev.bind (same_ev (by omega)) ?_))
    have hsame : ((B (tieD (datas (putD id fr tu gen l nx)))).toList == (B (tieD (datas (putD id2 fr2 tu2 gen2 l2 nx2)))).toList) = decide (id = id2 ∧ fr = fr2 ∧ tu = tu2 ∧ gen = gen2 ∧ nx = nx2 ∧ l = l2) := by
      rw [B_toList, B_toList]
      by_cases c : id = id2 ∧ fr = fr2 ∧ tu = tu2 ∧ gen = gen2 ∧ nx = nx2 ∧ l = l2
      · obtain ⟨rfl, rfl, rfl, rfl, rfl, rfl⟩ := c
        simp
      · rw [decide_eq_false c, beq_eq_false_iff_ne]
        exact fun e => c (putD_inj hi hg hn he hi2 hg2 hn2 he2 (tie_inj (by omega) e))
    rw [hsame]
    refine Ev.ite (fun h => absurd h (by simp)) (fun _ => ?_)
    refine Ev.bind (parse_ev _) ?_
    rw [parse_put hi hg hn he (by omega) (by omega), check_eq]
    simp only [l06_num.f, Option.bind_some]
    unfold rightR
    by_cases hok : okD id fr tu gen l nx = true
    · simp only [if_pos hok]
      refine Ev.ite (fun _ => ?_) (fun h => absurd (by trivial) h)
      refine Ev.ite (fun _ => ?_) (fun h => absurd (by trivial) h)
      refine Ev.bind (same_ev (by omega)) ?_
      simp only [and_self, decide_true, Bool.not_true]
      refine Ev.shift ?_
      simp only [l06_DescUnlike.j1, Bool.false_eq_true, if_false]
      refine Ev.ite (fun c1 => j2_ev (by omega) (fun _ => rfl) (fun h => by cases h)) (fun c1 => Ev.ite (fun c2 => j2_ev (by omega) (fun _ => rfl) (fun h => by cases h)) (fun c2 => j2_ev (by omega) (fun h => ?_) (fun h => ?_)))
      · rcases h with h | h | h
        · exact absurd h c1
        · exact absurd h c2
        · exact decide_eq_true (by omega)
      · have := of_decide_eq_false h; omega
    · simp only [if_neg hok]
      refine Ev.ite (fun h => absurd h (by decide)) (fun _ => ?_)
      simp only [badD]
      exact live_ev
end Go.Proofs.YtjfhcijjjadhbaaDoor.U
end
