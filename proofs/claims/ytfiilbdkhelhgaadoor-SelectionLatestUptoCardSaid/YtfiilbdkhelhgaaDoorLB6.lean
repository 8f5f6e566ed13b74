/- Plain: lists of small registries are short. -/
import Derived.Test.YtfiilbdkhelhgaaDoorLA6
import Derived.Test.YtfiilbdkhelhgaaDoorPGr
namespace Go.Proofs.YtfiilbdkhelhgaaDoor
open Go.RowKit

theorem univ_small {R : Regy} {y : Mod × List Mod} (h : smallP R) (h0 : smallP [y]) : (univ R y.2).length ≤ 10100 := by
  have h3 := univ_len R y.2 (by have := h.2; omega) (fun x hx => by have := (h.1 x hx).1; omega)
  have := (h0.1 y List.mem_cons_self).1
  omega
theorem needL_len (R : Regy) (l : List Mod) : (needL R l).length ≤ (univ R l).length := nodup_len (needL R l) (univ R l) (needL_nodup _ _) fun _ hx => ((needL_mem _ _ _).1 hx).univ
theorem listP_len (R : Regy) (root : Mod) (l : List Mod) : (listP R root l).length ≤ (univ R l).length + 1 := by
  unfold listP
  rw [List.length_cons, msort_len]
  have h1 : (topL root.1 (needL R l)).length ≤ (needL R l).length := List.length_filter_le _ _
  have := needL_len R l
  omega
theorem buildP_len (R : Regy) (root : Mod) (l : List Mod) : (buildP R root l).1.length ≤ (univ R l).length + 1 := by
  have := listP_len R root l
  unfold buildP
  split
  · split
    · split
      · exact this
      · simp
    · simp
  · simp
theorem buildP_small {R : Regy} {y : ManW} (h : smallP R) (h0 : smallP [plainW y]) : (buildP R y.1 y.2.2.2).1.length ≤ 1099511627776 := by
  have h1 := buildP_len R y.1 y.2.2.2
  have h2 := univ_small h h0
  unfold plainW at h2
  simp only at h2
  omega
end Go.Proofs.YtfiilbdkhelhgaaDoor
