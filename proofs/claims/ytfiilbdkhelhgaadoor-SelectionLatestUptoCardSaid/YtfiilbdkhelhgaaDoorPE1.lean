/- Plain: the chapter's example. -/
import Derived.Test.YtfiilbdkhelhgaaDoorWL2
import Derived.Test.YtfiilbdkhelhgaaDoorWS9
namespace Go.Proofs.YtfiilbdkhelhgaaDoor
open Go.RowKit Go.Sort

theorem msort_of {l l' : List Mod} (hp : l.Perm l') (hs : l'.Pairwise (leOf (ltOf mcmp))) : msort l = l' := (sorted_eq mlt_swo mlt_total l' l hs hp.symm).symm
theorem msort_sorted (l : List Mod) : (msort l).Pairwise (leOf (ltOf mcmp)) := by
  have hto : ∀ a b : Mod, ((!(ltOf mcmp) b a) || (!(ltOf mcmp) a b)) = true := fun a b => by
    cases hab : (ltOf mcmp) a b
    · simp
    · have := le_of_lt mlt_swo hab
      unfold leOf at this
      simp [this]
  have htr : ∀ a b c : Mod, (!(ltOf mcmp) b a) = true → (!(ltOf mcmp) c b) = true → (!(ltOf mcmp) c a) = true := fun a b c h1 h2 => by
    simp at *; exact mlt_swo.ntrans c b a h2 h1
  exact (List.pairwise_mergeSort htr hto _).imp fun {a b} hab => by unfold leOf; simpa using hab
theorem ex_check : checkR exR = 0 := by decide
theorem ex_mcheck : mcheck exRoot exL = 0 := by decide
theorem ex_top : topL exRoot.1 (needL exR exL) = [modP [98] 0, modP [97] 2] := by decide
theorem ex_s0 : msort [modP [98] 0, modP [97] 2] = [modP [97] 2, modP [98] 0] := msort_of (List.Perm.swap _ _ _) (by simp [leOf]; decide)
theorem ex_s1 : msort exL = exL := msort_of (List.Perm.refl _) (by simp [leOf, exL]; decide)
theorem ex_s2 (m : Mod) : msort [m] = [m] := msort_of (List.Perm.refl _) (by simp)
theorem ex_s3 : msort [] = [] := msort_of (List.Perm.refl _) (by simp)
theorem ex_b : buildP exR exRoot exL = ([exRoot, modP [97] 2, modP [98] 0], 0) := by
  have hk : buildP exR exRoot exL = (listP exR exRoot exL, 0) := by
    unfold buildP
    rw [if_pos ex_check, if_pos ex_mcheck, if_pos (by decide)]
  rw [hk]
  unfold listP
  rw [ex_top, ex_s0]
theorem ex_bfs : bfsF exR exL (modP [97] 2) = [(modP [97] 2, modP [98] 0)] := by
  have h1 : bfsRound exR exL (modP [97] 1) [] = [] := by
    unfold bfsRound
    rw [show reqOf exR (modP [97] 1) = [] by decide, ex_s3]; rfl
  have h2 : bfsRound exR exL (modP [98] 0) [] = [(modP [97] 2, modP [98] 0)] := by
    unfold bfsRound
    rw [show reqOf exR (modP [98] 0) = [modP [97] 2] by decide, ex_s2]; decide
  unfold bfsF
  rw [ex_s1]
  show bfs exR exL (modP [97] 2) (5 + 1) 0 [] = _
  rw [bfs_step (p := modP [97] 1) (by decide) (by decide), h1]
  show bfs exR exL (modP [97] 2) (4 + 1) 1 [] = _
  rw [bfs_step (p := modP [98] 0) (by decide) (by decide), h2]
  exact bfs_hit (by decide) _
theorem ex_r : reasonP exR exRoot exL [97] = ([modP [98] 0, modP [97] 2], 0) := by
  unfold reasonP
  rw [ex_b, if_pos rfl]
  have hf : List.find? (fun m => decide (m.1 = [97])) (List.drop 1 ([exRoot, modP [97] 2, modP [98] 0], (0 : Int)).1) = some (modP [97] 2) := by decide
  rw [hf]
  show (chainUp (msort exL) (bfsF exR exL (modP [97] 2)) (bfsF exR exL (modP [97] 2)).length [modP [97] 2], (0 : Int)) = _
  rw [ex_bfs, ex_s1]
  decide
theorem ex_may : mayP exR exRoot exL (modP [97] 1) = 0 := by
  unfold mayP
  rw [ex_b]
  decide
theorem ex_d : downP exR exRoot exL (modP [97] 1) = ((exRoot, [modP [97] 1]), 0) := by
  unfold downP
  rw [if_pos ex_may, show downL exR exRoot.1 (modP [97] 1) exL = [modP [97] 1] by decide, ex_s2]
end Go.Proofs.YtfiilbdkhelhgaaDoor
