/- Plain laws: releases with their sources and requirements turned round. -/
import Derived.Test.YtabmidnamaaklaaGreatDoorPM
namespace Go.Proofs.YtabmidnamaaklaaGreatDoor
open Go.RowKit Go.Sort

theorem dupK_full (l : List Mod) : dupK l l.length = !decide ((l.map (·.1)).Nodup) := by
  rw [Bool.eq_iff_iff]
  simp only [Bool.not_eq_true', decide_eq_false_iff_not]
  constructor
  · intro h hn
    unfold dupK at h
    rw [List.any_eq_true] at h
    obtain ⟨i, hi, hd⟩ := h
    rw [List.mem_range] at hi
    unfold dupAt at hd
    rw [List.any_eq_true] at hd
    obtain ⟨y, hy, he⟩ := hd
    obtain ⟨j, hj, rfl⟩ := List.mem_take_iff_getElem.1 hy
    rw [List.getD_eq_getElem?_getD, List.getElem?_eq_getElem hi] at he
    have := nodup_inj hn (i := j) (j := i) (by simp; omega) (by simpa using hi) (by simpa using he)
    omega
  · intro h
    refine Classical.byContradiction fun hc => h ?_
    rw [List.nodup_iff_pairwise_ne, List.pairwise_iff_getElem]
    intro i j hi hj hij he
    simp at hi hj
    refine hc (dupK_true l j l.length hj ?_)
    unfold dupAt
    rw [List.any_eq_true]
    refine ⟨l[i], List.mem_take_iff_getElem.2 ⟨i, by omega, rfl⟩, ?_⟩
    rw [List.getD_eq_getElem?_getD, List.getElem?_eq_getElem hj]
    simpa using he
theorem mcheck_perm (m : Mod) {l l' : List Mod} (h : l'.Perm l) : mcheck m l' = mcheck m l := by
  have h1 : ∀ p : Mod → Bool, (m :: l').any p = (m :: l).any p := fun p => by
    rw [Bool.eq_iff_iff, List.any_eq_true, List.any_eq_true]
    exact ⟨fun ⟨x, hx, hp⟩ => ⟨x, (h.cons m).mem_iff.1 hx, hp⟩, fun ⟨x, hx, hp⟩ => ⟨x, (h.cons m).mem_iff.2 hx, hp⟩⟩
  have h2 : dupK (m :: l') (l'.length + 1) = dupK (m :: l) (l.length + 1) := by
    have e1 := dupK_full (m :: l')
    have e2 := dupK_full (m :: l)
    simp only [List.length_cons] at e1 e2
    rw [e1, e2, decide_eq_decide.2 ((h.cons m).map _).nodup_iff]
  unfold mcheck
  rw [h1, h1, h2, h.length_eq]
theorem msort_rev {l l' : List Mod} (h : l'.Perm l) : msort l' = msort l := by
  have hto : ∀ a b : Mod, ((!(ltOf mcmp) b a) || (!(ltOf mcmp) a b)) = true := fun a b => by
    cases hab : (ltOf mcmp) a b
    · simp
    · have := le_of_lt mlt_swo hab
      unfold leOf at this
      simp [this]
  have htr : ∀ a b c : Mod, (!(ltOf mcmp) b a) = true → (!(ltOf mcmp) c b) = true → (!(ltOf mcmp) c a) = true := fun a b c h1 h2 => by
    simp at *; exact mlt_swo.ntrans c b a h2 h1
  exact sorted_eq mlt_swo mlt_total _ _ ((List.pairwise_mergeSort htr hto l').imp (fun h => by simpa [leOf] using h)) ((List.mergeSort_perm l' _).trans h)
theorem mtext_perm (m : Mod) {l l' : List Mod} (h : l'.Perm l) : mtext m l' = mtext m l := by
  unfold mtext
  rw [mcheck_perm m h, msort_rev h]
theorem tsort_perm {l l' : List Src2} (h : l'.Perm l) (hd : dupN l = false) : tsort l' = tsort l := by
  have hto : ∀ a b : Src2, ((!(ltOf tcmp) b a) || (!(ltOf tcmp) a b)) = true := fun a b => by
    cases hab : (ltOf tcmp) a b
    · simp
    · have := le_of_lt tlt_swo hab
      unfold leOf at this
      simp [this]
  have htr : ∀ a b c : Src2, (!(ltOf tcmp) b a) = true → (!(ltOf tcmp) c b) = true → (!(ltOf tcmp) c a) = true := fun a b c h1 h2 => by
    simp at *; exact tlt_swo.ntrans c b a h2 h1
  exact tsort_of ((List.mergeSort_perm l' _).trans h) ((List.pairwise_mergeSort htr hto l').imp (fun h => by simpa [leOf] using h)) hd

/-- a release turned round -/
def revR (r : Rel) : Rel := (r.1, r.2.1.reverse, r.2.2.reverse)
theorem rerr_rev (r : Rel) : rerr (revR r) = rerr r := by
  unfold rerr revR
  simp only
  rw [mcheck_perm _ (List.reverse_perm _), dupN_perm (List.reverse_perm _)]
theorem rtext_rev (r : Rel) : rtext (revR r) = rtext r := by
  unfold rtext
  rw [rerr_rev]
  by_cases h : rerr r = 0
  · rw [if_pos h, if_pos h]
    have hd : dupN r.2.2 = false := by
      cases hd : dupN r.2.2
      · rfl
      · unfold rerr at h
        rw [hd] at h
        split at h
        · contradiction
        · simp at h
    unfold rall revR
    simp only
    rw [mtext_perm _ (List.reverse_perm _), tsort_perm (List.reverse_perm _) hd]
  · rw [if_neg h, if_neg h]
theorem entOf_rev (r : Rel) : entOf (revR r) = entOf r := by
  unfold entOf rline
  rw [rtext_rev]
  rfl
/-- a list of releases turned round -/
def backR (L : List Rel) : List Rel := (L.map revR).reverse
theorem back_ents (L : List Rel) : (backR L).map entOf = (L.map entOf).reverse := by
  unfold backR
  rw [List.map_reverse, List.map_map]
  congr 1
  exact List.map_congr_left fun r _ => entOf_rev r
theorem back_keys (L : List Rel) : (backR L).map (·.1) = (L.map (·.1)).reverse := by
  unfold backR
  rw [List.map_reverse, List.map_map]
  rfl
theorem back_mem (L : List Rel) (r : Rel) : r ∈ backR L ↔ ∃ x ∈ L, revR x = r := by
  unfold backR
  rw [List.mem_reverse, List.mem_map]
theorem ferr_all (L : List Rel) : ferr L = 0 ↔ ∀ r ∈ L, rerr r = 0 :=
  ⟨fun h r hr => ferr_zero L h r hr, fun h => ferr_none L fun _ hj => h _ (List.getElem_mem hj)⟩
theorem ferr_back (L : List Rel) : ferr (backR L) = 0 ↔ ferr L = 0 := by
  rw [ferr_all, ferr_all]
  constructor
  · intro h r hr
    rw [← rerr_rev]
    exact h _ ((back_mem L _).2 ⟨r, hr, rfl⟩)
  · intro h r hr
    obtain ⟨x, hx, rfl⟩ := (back_mem L r).1 hr
    rw [rerr_rev]
    exact h x hx
theorem lerr_iff (L : List Rel) : lerr L = 0 ↔ ferr L = 0 ∧ (L.map (·.1)).Nodup :=
  ⟨lerr_zero L, fun ⟨h1, h2⟩ => by unfold lerr; rw [if_neg (by rw [h1]; decide), if_pos h2]⟩
theorem lerr_back (L : List Rel) : lerr (backR L) = 0 ↔ lerr L = 0 := by
  rw [lerr_iff, lerr_iff, ferr_back, back_keys, (List.reverse_perm _).nodup_iff]
theorem lout_back (L : List Rel) : lout (backR L) = lout L := by
  unfold lout
  by_cases h : lerr L = 0
  · rw [if_pos h, if_pos ((lerr_back L).2 h), back_ents]
    congr 1
    have hn := ((lerr_iff L).1 h).2
    exact keyed_unique (f := (·.1)) elt_swo elt_key ((esort_perm _).trans (List.reverse_perm _)) (esort_sorted _) (by rw [ents_keys]; exact hn)
  · rw [if_neg h, if_neg (fun hc => h ((lerr_back L).1 hc))]
theorem back_drop (L : List Rel) (i : Nat) (h : i < L.length) : backR (L.drop i) = backR (L.drop (i + 1)) ++ [revR L[i]] := by
  unfold backR
  rw [List.drop_eq_getElem_cons h, List.map_cons, List.reverse_cons]
end Go.Proofs.YtabmidnamaaklaaGreatDoor
