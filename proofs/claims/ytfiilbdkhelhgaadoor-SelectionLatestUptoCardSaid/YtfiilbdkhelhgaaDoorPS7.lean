/- Plain: a root that requires a module, and a root that requires the greatest versions. -/
import Derived.Test.YtfiilbdkhelhgaaDoorG3
namespace Go.Proofs.YtfiilbdkhelhgaaDoor
open Go.RowKit Go.Sort

/-- what a requirement becomes beside a new one -/
def upX (m x : Mod) : Mod := if x.1 = m.1 ∧ vcmpV x.2 m.2 < 0 then m else x
def hasP (m : Mod) (l : List Mod) : Bool := l.any fun x => decide (x.1 = m.1)
def upL (m : Mod) (l : List Mod) : List Mod := l.map (upX m) ++ if hasP m l = true then [] else [m]
/-- a root that requires a module -/
def upgradeP (R : Regy) (root : Mod) (l : List Mod) (m : Mod) : (Mod × List Mod) × Int :=
  if mayP R root l m = 0 then
    if (buildP R root (msort (upL m l))).2 = 0 then ((root, msort (upL m l)), 0) else ((zmod, []), (buildP R root (msort (upL m l))).2)
  else ((zmod, []), mayP R root l m)
def topS (u z : Mod) : Mod := if z.1 = u.1 ∧ 0 < vcmpV z.2 u.2 then z else u
/-- the greatest version of a module's path -/
def topX (R : Regy) (x : Mod) : Mod := (R.map (·.1)).foldl topS x
def allL (R : Regy) (l : List Mod) : List Mod := l.map (topX R)
/-- a root that requires the greatest versions -/
def upallP (R : Regy) (root : Mod) (l : List Mod) : (Mod × List Mod) × Int :=
  if (buildP R root l).2 = 0 then
    if mcheck root (allL R ((buildP R root l).1.drop 1)) = 0 then ((root, msort (allL R ((buildP R root l).1.drop 1))), 0) else ((zmod, []), 2)
  else ((zmod, []), (buildP R root l).2)
theorem upX_take {m : Mod} {l : List Mod} {k : Nat} (hk : k < l.length) : (l.take (k + 1)).map (upX m) = (l.take k).map (upX m) ++ [upX m l[k]] := by
  rw [List.take_succ_eq_append_getElem hk, List.map_append]
  rfl
theorem hasP_take {m : Mod} {l : List Mod} {k : Nat} (hk : k < l.length) : hasP m (l.take (k + 1)) = (hasP m (l.take k) || decide (l[k].1 = m.1)) := by
  unfold hasP
  rw [List.take_succ_eq_append_getElem hk, List.any_append]
  simp
theorem allL_take {R : Regy} {l : List Mod} {k : Nat} (hk : k < l.length) : allL R (l.take (k + 1)) = allL R (l.take k) ++ [topX R l[k]] := by
  unfold allL
  rw [List.take_succ_eq_append_getElem hk, List.map_append]
  rfl
theorem topS_take {L : List Mod} {x : Mod} {k : Nat} (hk : k < L.length) : (L.take (k + 1)).foldl topS x = topS ((L.take k).foldl topS x) L[k] := by
  rw [List.take_succ_eq_append_getElem hk, List.foldl_append]
  rfl
/-- the document's list -/
def upH (m : Mod) (l : List Mod) : Mod := l.foldl (fun h x => if x.1 = m.1 ∧ 0 < vcmpV x.2 m.2 then x else h) m
def upR (m : Mod) (l : List Mod) : List Mod := upH m l :: l.filter fun x => decide (x.1 ≠ m.1)
theorem upH_take {m : Mod} {l : List Mod} {k : Nat} (hk : k < l.length) : upH m (l.take (k + 1)) = if l[k].1 = m.1 ∧ 0 < vcmpV l[k].2 m.2 then l[k] else upH m (l.take k) := by
  unfold upH
  rw [List.take_succ_eq_append_getElem hk, List.foldl_append]
  rfl
theorem upF_take {m : Mod} {l : List Mod} {k : Nat} (hk : k < l.length) : (l.take (k + 1)).filter (fun x => decide (x.1 ≠ m.1)) = (l.take k).filter (fun x => decide (x.1 ≠ m.1)) ++ if l[k].1 = m.1 then [] else [l[k]] := by
  rw [List.take_succ_eq_append_getElem hk, List.filter_append]
  congr 1
  by_cases h : l[k].1 = m.1 <;> simp [h]
end Go.Proofs.YtfiilbdkhelhgaaDoor
