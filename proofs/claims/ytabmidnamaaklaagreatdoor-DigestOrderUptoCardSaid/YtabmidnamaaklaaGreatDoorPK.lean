/- Plain facts: the examples of the chapter, computed. -/
import Derived.Test.YtabmidnamaaklaaGreatDoorWX
import Derived.Test.YtabmidnamaaklaaGreatDoorWY
namespace Go.Proofs.YtabmidnamaaklaaGreatDoor
open Go.RowKit Go.Sort

def aH : List UInt8 := [104, 58, 99, 98, 102, 50, 57, 99, 101, 52, 56, 52, 50, 50, 50, 51, 50, 53]
def aU : List UInt8 := [104, 58, 67, 66, 70, 50, 57, 67, 69, 52, 56, 52, 50, 50, 50, 51, 50, 53]
theorem aH_n : presN aH = fstart := by decide +kernel
theorem aH_e : presE aH = 0 := by decide +kernel
theorem aU_e : presE aU = 8 := by decide +kernel
def aM : Mod := ([109], 1, 0, 0)
def aS : List Src2 := [([98], []), ([97], [120])]
def aS' : List Src2 := [([98], []), ([98], [120])]
def aR : Rel := (aM, [], aS)
theorem aR_e : rerr aR = 0 := by decide +kernel
theorem aR_e' : rerr (aM, [], aS') = 6 := by decide +kernel
theorem aR_len : (rtext aR).length = 18 := by
  unfold rtext
  rw [if_pos aR_e]
  exact dtext_len _
theorem aV : vtext 1 0 0 = [118, 49, 46, 48, 46, 48] := by
  have e1 : dec 1 = [49] := by unfold dec; rw [Lib.decDigits]; rfl
  have e0 : dec 0 = [48] := by unfold dec; rw [Lib.decDigits]; rfl
  unfold vtext
  rw [if_pos (by decide), e1, e0]
  rfl
theorem aR_line : rline aR = [109, 32, 118, 49, 46, 48, 46, 48, 32] ++ rtext aR := by
  show [109] ++ [32] ++ vtext 1 0 0 ++ [32] ++ rtext aR = _
  rw [aV]
  rfl
theorem aL_e : lerr [aR] = 0 := by
  unfold lerr
  have h : ferr [aR] = 0 := by simp [ferr, aR_e]
  rw [h]
  simp
theorem aL_o : lout [aR] = [rline aR] := by
  unfold lout
  rw [if_pos aL_e]
  simp [esort, entOf]
theorem aT : dtext (fnv fstart [97]) = [104, 58, 97, 102, 54, 51, 100, 99, 52, 99, 56, 54, 48, 49, 101, 99, 56, 99] := by decide +kernel
end Go.Proofs.YtabmidnamaaklaaGreatDoor
