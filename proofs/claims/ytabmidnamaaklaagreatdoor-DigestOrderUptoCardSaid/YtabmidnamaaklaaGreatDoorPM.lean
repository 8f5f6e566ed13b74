/- Plain laws: the lines of a list of releases. -/
import Derived.Test.YtabmidnamaaklaaGreatDoorPI
namespace Go.Proofs.YtabmidnamaaklaaGreatDoor
open Go.RowKit Go.Sort

theorem ferr_zero : ∀ (L : List Rel), ferr L = 0 → ∀ r ∈ L, rerr r = 0
  | [], _, r, h => by cases h
  | x :: l, h, r, hr => by
    by_cases hx : rerr x = 0
    · simp [ferr, hx] at h
      rcases List.mem_cons.1 hr with rfl | hr'
      · exact hx
      · exact ferr_zero l h r hr'
    · simp [ferr, hx] at h
theorem lerr_zero (L : List Rel) (h : lerr L = 0) : ferr L = 0 ∧ (L.map (·.1)).Nodup := by
  unfold lerr at h
  by_cases hf : ferr L = 0
  · rw [if_neg (by simpa using hf)] at h
    by_cases hn : (L.map (·.1)).Nodup
    · exact ⟨hf, hn⟩
    · rw [if_neg hn] at h; cases h
  · rw [if_pos hf] at h; exact absurd h hf
theorem lerr_one (r : Rel) (h : rerr r = 0) : lerr [r] = 0 := by
  unfold lerr
  have : ferr [r] = 0 := by simp [ferr, h]
  rw [this]
  simp
theorem lout_one (r : Rel) (h : rerr r = 0) : lout [r] = [rline r] := by
  unfold lout
  rw [if_pos (lerr_one r h)]
  simp [esort, entOf]
theorem lout_ne (L : List Rel) (h : lerr L ≠ 0) : lout L = [] := by unfold lout; rw [if_neg h]
theorem esort_perm (l : List Ent) : (esort l).Perm l := List.mergeSort_perm l _
theorem esort_sorted (l : List Ent) : (esort l).Pairwise (leOf (ltOf ecmp)) := by
  have hto : ∀ a b : Ent, ((!(ltOf ecmp) b a) || (!(ltOf ecmp) a b)) = true := fun a b => by
    cases hab : (ltOf ecmp) a b
    · simp
    · have := le_of_lt elt_swo hab
      unfold leOf at this
      simp [this]
  have htr : ∀ a b c : Ent, (!(ltOf ecmp) b a) = true → (!(ltOf ecmp) c b) = true → (!(ltOf ecmp) c a) = true := fun a b c h1 h2 => by
    simp at *; exact elt_swo.ntrans c b a h2 h1
  exact (List.pairwise_mergeSort htr hto l).imp (fun h => by simpa [leOf] using h)
theorem lout_len (L : List Rel) (h : lerr L = 0) : (lout L).length = L.length := by
  unfold lout
  rw [if_pos h, List.length_map, (esort_perm _).length_eq, List.length_map]
/-- in a strictly ascending list an element's place is the number of the smaller ones -/
theorem count_at {α : Type} {lt : α → α → Bool} (hO : SWO lt) (P : List α) (hs : P.Pairwise fun a b => lt a b = true) (i : Nat) (h : i < P.length) : P.countP (fun y => lt y P[i]) = i := by
  have h1 : (P.take i).countP (fun y => lt y P[i]) = i := by
    rw [List.countP_eq_length.2]
    · simp; omega
    · intro a ha
      obtain ⟨j, hj, rfl⟩ := List.mem_take_iff_getElem.1 ha
      exact List.pairwise_iff_getElem.1 hs j i (by omega) h (by omega)
  have h2 : (P.drop i).countP (fun y => lt y P[i]) = 0 := by
    rw [List.countP_eq_zero]
    intro a ha hlt
    obtain ⟨j, hj, rfl⟩ := List.getElem_of_mem ha
    rw [List.getElem_drop] at hlt
    have hj' : i + j < P.length := by simp at hj; omega
    rcases Nat.eq_zero_or_pos j with rfl | hpos
    · simp only [Nat.add_zero] at hlt
      rw [hO.irrefl] at hlt; cases hlt
    · have := List.pairwise_iff_getElem.1 hs i (i + j) h hj' (by omega)
      have h3 := hO.trans _ _ _ this hlt
      rw [hO.irrefl] at h3; cases h3
  have := List.countP_append (p := fun y => lt y P[i]) (l₁ := P.take i) (l₂ := P.drop i)
  rw [List.take_append_drop, h1, h2] at this
  omega
/-- how many modules come before -/
def before (L : List Rel) (m : Mod) : Nat := L.countP fun q => decide (mcmp q.1 m < 0)
theorem before_take (L : List Rel) (m : Mod) (k : Nat) (h : k < L.length) : before (L.take (k + 1)) m = before (L.take k) m + if mcmp L[k].1 m < 0 then 1 else 0 := by
  unfold before
  rw [List.take_succ_eq_append_getElem h, List.countP_append]
  simp [List.countP_cons]
theorem lines_at (L : List Rel) (h : lerr L = 0) (r : Rel) (hr : r ∈ L) : ∃ hi : before L r.1 < (lout L).length, (lout L)[before L r.1] = rline r := by
  obtain ⟨_, hn⟩ := lerr_zero L h
  have hp := esort_perm (L.map entOf)
  have hs := esort_sorted (L.map entOf)
  have hnd : ((esort (L.map entOf)).map (·.1)).Nodup := (hp.map _).nodup_iff.2 (by rw [ents_keys]; exact hn)
  have hst : (esort (L.map entOf)).Pairwise fun a b => ltOf ecmp a b = true := by
    rw [List.pairwise_iff_getElem] at hs ⊢
    intro i j hi hj hij
    cases hlt : ltOf ecmp (esort (L.map entOf))[i] (esort (L.map entOf))[j]
    · exfalso
      have he := elt_key _ _ hlt (hs i j hi hj hij)
      have := nodup_inj hnd (i := i) (j := j) (by simpa using hi) (by simpa using hj) (by simpa using he)
      omega
    · rfl
  have hm : entOf r ∈ esort (L.map entOf) := hp.mem_iff.2 (List.mem_map.2 ⟨r, hr, rfl⟩)
  obtain ⟨i, hi, he⟩ := List.getElem_of_mem hm
  have hc := count_at elt_swo _ hst i hi
  rw [he] at hc
  have hb : before L r.1 = i := by
    rw [← hc, hp.countP_eq, List.countP_map]
    rfl
  have hl : lout L = (esort (L.map entOf)).map (·.2) := by unfold lout; rw [if_pos h]
  subst hb
  refine ⟨by rw [hl]; simpa using hi, ?_⟩
  simp only [hl, List.getElem_map, he]
  rfl
end Go.Proofs.YtabmidnamaaklaaGreatDoor
