/- Plain laws: sources inserted one after another. -/
import Derived.Test.YtabmidnamaaklaaGreatDoorPI
namespace Go.Proofs.YtabmidnamaaklaaGreatDoor
open Go.RowKit Go.Sort

/-- where a source is inserted -/
def InsT (P : List Src2) (x : Src2) (a : Nat) : Prop := (∀ i, i + 1 = a → ∀ h : i < P.length, ltOf tcmp x P[i] = false) ∧ (∀ i, a ≤ i → ∀ h : i < P.length, ltOf tcmp x P[i] = true)
theorem flatT_ins (P : List Src2) (x : Src2) (a : Nat) : (P.take a ++ x :: P.drop a).flatMap encT = ((P.take a).flatMap encT ++ encT x) ++ (P.drop a).flatMap encT := by simp
theorem dup_ins {P s : List Src2} {k : Nat} (h : k < s.length) (hp : P.Perm (s.take k)) {i : Nat} (hi : i < P.length) (he : P[i].1 = s[k].1) : dupN s = true := by
  unfold dupN
  simp only [Bool.not_eq_true', decide_eq_false_iff_not]
  intro hn
  have hm : P[i] ∈ s.take k := hp.mem_iff.1 (List.getElem_mem hi)
  obtain ⟨j, hj, hje⟩ := List.mem_take_iff_getElem.1 hm
  have := nodup_inj hn (i := j) (j := k) (by simp; omega) (by simpa using h) (by simp; rw [hje, he])
  omega
theorem nodup_ins {P : List Src2} {x : Src2} {a : Nat} (ha : a ≤ P.length) (hs : P.Pairwise (leOf (ltOf tcmp))) (hn : dupN P = false) (hI : InsT P x a) (hne : ∀ i, i + 1 = a → ∀ h : i < P.length, P[i].1 ≠ x.1) : dupN (P.take a ++ x :: P.drop a) = false := by
  have hp : (P.take a ++ x :: P.drop a).Perm (x :: P) := by
    have : (P.take a ++ x :: P.drop a).Perm (x :: (P.take a ++ P.drop a)) := List.perm_middle
    rwa [List.take_append_drop] at this
  rw [dupN_perm hp]
  unfold dupN at hn ⊢
  simp only [Bool.not_eq_false', decide_eq_true_eq] at hn ⊢
  rw [List.map_cons, List.nodup_cons]
  refine ⟨fun hm => ?_, hn⟩
  obtain ⟨y, hy, hyx⟩ := List.mem_map.1 hm
  obtain ⟨i, hi, rfl⟩ := List.getElem_of_mem hy
  rcases Nat.lt_or_ge i a with hia | hia
  · have hlast : a - 1 < P.length := by omega
    have h1 := hI.1 (a - 1) (by omega) hlast
    have h2 := hne (a - 1) (by omega) hlast
    have h3 : Op.bytesLess P[a - 1].1 x.1 = true := by
      rw [slt_eq] at h1
      cases hb : Op.bytesLess P[a - 1].1 x.1
      · exact absurd (bl_total _ _ hb h1) h2
      · rfl
    rcases (show i = a - 1 ∨ i < a - 1 by omega) with rfl | hlt
    · exact h2 hyx
    · have h4 : leOf (ltOf tcmp) P[i] P[a - 1] := List.pairwise_iff_getElem.1 hs i (a - 1) hi hlast hlt
      unfold leOf at h4
      rw [slt_eq, hyx, h3] at h4
      cases h4
  · have h1 := hI.2 i hia hi
    rw [slt_eq, hyx, bl_irrefl] at h1
    cases h1
theorem insT_sorted {P : List Src2} {x : Src2} {a : Nat} (ha : a ≤ P.length) (hs : P.Pairwise (leOf (ltOf tcmp))) (hI : InsT P x a) : (P.take a ++ x :: P.drop a).Pairwise (leOf (ltOf tcmp)) := ins_sorted tlt_swo P x a ha hs hI.1 hI.2
theorem srcLines_len (l : List Src2) (n : Nat) (h : ∀ x ∈ l, x.1.length ≤ n) : (l.flatMap srcLine).length ≤ l.length * (4 * n + 22) := by
  induction l with
  | nil => simp
  | cons a l ih =>
    have h1 := ih (fun x hx => h x (by simp [hx]))
    have h2 := qtext_len a.1
    have h3 := h a (by simp)
    have h4 : (srcLine a).length ≤ 4 * n + 22 := by
      unfold srcLine
      simp [dtext, hexs_length]
      omega
    simp only [List.flatMap_cons, List.length_append, List.length_cons, Nat.add_mul, Nat.one_mul]
    omega
end Go.Proofs.YtabmidnamaaklaaGreatDoor
