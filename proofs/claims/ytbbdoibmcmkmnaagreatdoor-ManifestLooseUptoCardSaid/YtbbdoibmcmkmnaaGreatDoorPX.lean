/- Plain laws: the check and the text of a manifest do not depend on the order of its requirements. -/
import Derived.Test.YtbbdoibmcmkmnaaGreatDoorWN
import Derived.Test.YtbbdoibmcmkmnaaGreatDoorPG
namespace Go.Proofs.YtbbdoibmcmkmnaaGreatDoor
open Go.RowKit Go.Sort

theorem nodup_inj {β : Type} {l : List β} (hn : l.Nodup) {i j : Nat} (hi : i < l.length) (hj : j < l.length) (he : l[i] = l[j]) : i = j := by
  rcases Nat.lt_trichotomy i j with h | h | h
  · exact absurd he (List.pairwise_iff_getElem.1 hn i j hi hj h)
  · exact h
  · exact absurd he.symm (List.pairwise_iff_getElem.1 hn j i hj hi h)
theorem dupK_full (l : List Mod) : dupK l l.length = !decide ((l.map (·.1)).Nodup) := by
  rw [Bool.eq_iff_iff]
  simp only [Bool.not_eq_true', decide_eq_false_iff_not]
  constructor
  · intro h hn
    unfold dupK at h
    rw [List.any_eq_true] at h
    obtain ⟨i, hi, hd⟩ := h
    rw [List.mem_range] at hi
    unfold dupAt at hd
    rw [List.any_eq_true] at hd
    obtain ⟨y, hy, he⟩ := hd
    obtain ⟨j, hj, rfl⟩ := List.mem_take_iff_getElem.1 hy
    rw [List.getD_eq_getElem?_getD, List.getElem?_eq_getElem hi] at he
    have := nodup_inj hn (i := j) (j := i) (by simp; omega) (by simpa using hi) (by simpa using he)
    omega
  · intro h
    refine Classical.byContradiction fun hc => h ?_
    rw [List.nodup_iff_pairwise_ne, List.pairwise_iff_getElem]
    intro i j hi hj hij he
    simp at hi hj
    refine hc (dupK_true l j l.length hj ?_)
    unfold dupAt
    rw [List.any_eq_true]
    refine ⟨l[i], List.mem_take_iff_getElem.2 ⟨i, by omega, rfl⟩, ?_⟩
    rw [List.getD_eq_getElem?_getD, List.getElem?_eq_getElem hj]
    simpa using he
theorem mcheck_perm (m : Mod) {l l' : List Mod} (h : l'.Perm l) : mcheck m l' = mcheck m l := by
  have h1 : ∀ p : Mod → Bool, (m :: l').any p = (m :: l).any p := fun p => by
    rw [Bool.eq_iff_iff, List.any_eq_true, List.any_eq_true]
    exact ⟨fun ⟨x, hx, hp⟩ => ⟨x, (h.cons m).mem_iff.1 hx, hp⟩, fun ⟨x, hx, hp⟩ => ⟨x, (h.cons m).mem_iff.2 hx, hp⟩⟩
  have h2 : dupK (m :: l') (l'.length + 1) = dupK (m :: l) (l.length + 1) := by
    have e1 := dupK_full (m :: l')
    have e2 := dupK_full (m :: l)
    simp only [List.length_cons] at e1 e2
    rw [e1, e2, decide_eq_decide.2 ((h.cons m).map _).nodup_iff]
  unfold mcheck
  rw [h1, h1, h2, h.length_eq]
theorem msort_rev {l l' : List Mod} (h : l'.Perm l) : msort l' = msort l := by
  have hto : ∀ a b : Mod, ((!(ltOf mcmp) b a) || (!(ltOf mcmp) a b)) = true := fun a b => by
    cases hab : (ltOf mcmp) a b
    · simp
    · have := le_of_lt mlt_swo hab
      unfold leOf at this
      simp [this]
  have htr : ∀ a b c : Mod, (!(ltOf mcmp) b a) = true → (!(ltOf mcmp) c b) = true → (!(ltOf mcmp) c a) = true := fun a b c h1 h2 => by
    simp at *; exact mlt_swo.ntrans c b a h2 h1
  exact sorted_eq mlt_swo mlt_total _ _ ((List.pairwise_mergeSort htr hto l').imp (fun h => by simpa [leOf] using h)) ((List.mergeSort_perm l' _).trans h)
theorem mtext_perm (m : Mod) {l l' : List Mod} (h : l'.Perm l) : mtext m l' = mtext m l := by
  unfold mtext
  rw [mcheck_perm m h, msort_rev h]
end Go.Proofs.YtbbdoibmcmkmnaaGreatDoor
