/- Plain facts: the examples of the chapter on manifests, computed. -/
import Derived.Test.YtbbdoibmcmkmnaaGreatDoorMP
import Derived.Test.YtbbdoibmcmkmnaaGreatDoorPW
namespace Go.Proofs.YtbbdoibmcmkmnaaGreatDoor
open Go.RowKit Go.Sort

def kT1 : List UInt8 := [109, 111, 100, 117, 108, 101, 32, 109, 32, 118, 49, 46, 48, 46, 48, 32, 47, 47, 32, 109, 97, 105, 110, 10, 114, 101, 113, 117, 105, 114, 101, 32, 97, 46, 98, 47, 99, 32, 118, 48, 46, 50, 46, 49]
def kT2 : List UInt8 := [109, 111, 100, 117, 108, 101, 32, 109, 32, 118, 49]
def kM : Mod := ([109], 1, 0, 0)
def kX : Mod := ([97, 46, 98, 47, 99], 0, 2, 1)
def kS : List UInt8 := [109, 111, 100, 117, 108, 101, 32, 109, 32, 118, 49, 46, 48, 46, 48, 10, 114, 101, 113, 117, 105, 114, 101, 32, 97, 46, 98, 47, 99, 32, 118, 48, 46, 50, 46, 49, 10]
theorem kV1 : vtext 1 0 0 = [118, 49, 46, 48, 46, 48] := by
  have e1 : dec 1 = [49] := by unfold dec; rw [Lib.decDigits]; rfl
  have e0 : dec 0 = [48] := by unfold dec; rw [Lib.decDigits]; rfl
  unfold vtext
  rw [if_pos (by decide), e1, e0]
  rfl
theorem kV2 : vtext 0 2 1 = [118, 48, 46, 50, 46, 49] := by
  have e1 : dec 1 = [49] := by unfold dec; rw [Lib.decDigits]; rfl
  have e0 : dec 0 = [48] := by unfold dec; rw [Lib.decDigits]; rfl
  have e2 : dec 2 = [50] := by unfold dec; rw [Lib.decDigits]; rfl
  unfold vtext
  rw [if_pos (by decide), e1, e0, e2]
  rfl
theorem kP1 : vparse [118, 49, 46, 48, 46, 48] = some (1, 0, 0) := by rw [← kV1]; exact vparse_text (by decide)
theorem kP2 : vparse [118, 48, 46, 50, 46, 49] = some (0, 2, 1) := by rw [← kV2]; exact vparse_text (by decide)
theorem kP3 : vparse [118, 49] = none := by
  cases h : vparse [118, 49] with
  | none => rfl
  | some v =>
    obtain ⟨h1, h2⟩ := vparse_some h
    have := (vtext_len15 h2).2
    rw [h1] at this
    simp at this
theorem kW1 : allW kT1 = [[wMod, [109], [118, 49, 46, 48, 46, 48]], [wReq, [97, 46, 98, 47, 99], [118, 48, 46, 50, 46, 49]]] := by decide +kernel
theorem kC1 : colL (some []) (allW kT1) = some [kM, kX] := by
  rw [kW1]
  show ((stepL [] [wMod, [109], [118, 49, 46, 48, 46, 48]]).bind (stepL · [wReq, [97, 46, 98, 47, 99], [118, 48, 46, 50, 46, 49]])) = _
  rw [stepL_some (L := []) (show wMod = firstW [] from rfl) (by decide +kernel), kP1, Option.map_some, Option.bind_some, stepL_some (L := [] ++ [([109], 1, 0, 0)]) (show wReq = firstW _ from rfl) (by decide +kernel), kP2]
  rfl
theorem kE : mcheck kM [kX] = 0 := by decide +kernel
theorem kSort : msort [kX] = [kX] := by simp [msort]
theorem kR1 : mparse kT1 = ((kM, [kX]), 0, 0) := by
  rw [mparse_ok (by decide) kC1, if_pos kE, kSort]
theorem kR2 : mparse kT2 = ((zeroM, []), 8, 1) :=
  mparse_bad (by decide) (pre := []) (x := [wMod, [109], [118, 49]]) (r := []) (l := []) (by decide +kernel) rfl (by
    rw [stepL_some (L := []) (show wMod = firstW [] from rfl) (by decide +kernel), kP3]
    rfl)
theorem kR3 : mparse [10] = ((zeroM, []), 8, 2) := by
  have h : allW [10] = [[]] := by decide +kernel
  have hl : (linesP [10]).length = 1 := by decide +kernel
  rw [mparse_none (by decide) (by rw [h]; rfl), hl]
theorem kTx : mtext kM [kX] = kS := by
  unfold mtext
  rw [if_pos kE, kSort]
  show lineT wMod [109] 1 0 0 ++ (lineT wReq [97, 46, 98, 47, 99] 0 2 1 ++ []) = kS
  unfold lineT
  rw [kV1, kV2]
  rfl
theorem kO : ownK [([97, 46, 98], 0, 0, 0), ([97, 46, 98, 47, 99], 0, 0, 0)] [97, 46, 98, 47, 99, 47, 100] 2 = (1, [100]) := by decide +kernel
theorem kQ1 : pathOk [97, 46, 98, 47, 99] = true := by decide +kernel
theorem kQ2 : pathOk [97, 47, 47, 98] = false := by decide +kernel
theorem kQ3 : pathOk [97, 47, 49] = false := by decide +kernel
end Go.Proofs.YtbbdoibmcmkmnaaGreatDoor
