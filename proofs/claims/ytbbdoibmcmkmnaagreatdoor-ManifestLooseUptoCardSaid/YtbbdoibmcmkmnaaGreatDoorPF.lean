/- Plain definitions: the check of a manifest. -/
import Derived.Test.YtbbdoibmcmkmnaaGreatDoorPE
namespace Go.Proofs.YtbbdoibmcmkmnaaGreatDoor

/-- the path of the k-th module stands before it -/
def dupAt (l : List Mod) (i : Nat) : Bool := (l.take i).any fun y => decide (y.1 = (l.getD i default).1)
/-- among the first k modules a path occurs twice -/
def dupK (l : List Mod) (k : Nat) : Bool := (List.range k).any fun i => dupAt l i
theorem dupK_succ (l : List Mod) (k : Nat) : dupK l (k + 1) = (dupK l k || dupAt l k) := by
  simp [dupK, List.range_succ]
theorem dupK_true (l : List Mod) (k n : Nat) (h : k < n) (hd : dupAt l k = true) : dupK l n = true := by
  unfold dupK
  rw [List.any_eq_true]
  exact ⟨k, List.mem_range.2 h, hd⟩
def badPath (m : Mod) : Bool := !pathOk m.1
def badVer (m : Mod) : Bool := !vok m.2.1 m.2.2.1 m.2.2.2
/-- the first error of a manifest, a module and those that it requires -/
def mcheck (m : Mod) (l : List Mod) : Int :=
  if (m :: l).any badPath = true then 5 else if (m :: l).any badVer = true then 11 else if dupK (m :: l) (l.length + 1) = true then 6 else if 64 < l.length then 2 else 0
theorem any_take_succ {α : Type} (p : α → Bool) (l : List α) (k : Nat) (h : k < l.length) : (l.take (k + 1)).any p = ((l.take k).any p || p l[k]) := by
  rw [List.take_succ_eq_append_getElem h, List.any_append]
  simp
end Go.Proofs.YtbbdoibmcmkmnaaGreatDoor
