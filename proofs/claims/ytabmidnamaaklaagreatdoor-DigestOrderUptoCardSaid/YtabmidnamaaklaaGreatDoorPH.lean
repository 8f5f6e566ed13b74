/- Plain definitions: literals, releases and lists of releases, what the packages quote and digest compute. -/
import Derived.Test.YtabmidnamaaklaaGreatDoorPG
import Derived.Test.YtabmidnamaaklaaGreatDoorWN
import Derived.Test.YtabmidnamaaklaaGreatDoorPQ
namespace Go.Proofs.YtabmidnamaaklaaGreatDoor
open Go.RowKit Go.Sort

/-- a source: its name and its text -/
abbrev Src2 := List UInt8 × List UInt8
def encT (x : Src2) : List Value := [.string ⟨x.1.toArray⟩, .string ⟨x.2.toArray⟩]
theorem encT_len (x : Src2) : (encT x).length = 2 := rfl
theorem encT_one1 (x : Src2) : ∀ v ∈ encT x, v.oneCell' = true := fun v hv => by
  simp [encT] at hv
  rcases hv with rfl | rfl <;> rfl
theorem encT_one (l : List Src2) : ∀ u ∈ l.flatMap encT, u.oneCell' = true := by
  intro u hu
  obtain ⟨m, _, h⟩ := List.mem_flatMap.1 hu
  exact encT_one1 m u h
def tcmp (a b : Src2) : Int := scmp a.1 b.1
theorem scmp_lt (a b : List UInt8) : scmp a b < 0 ↔ Op.bytesLess a b = true := by
  unfold scmp
  repeat' split
  all_goals simp_all
theorem slt_eq (a b : Src2) : ltOf tcmp a b = Op.bytesLess a.1 b.1 := by
  unfold ltOf tcmp
  rw [Bool.eq_iff_iff, decide_eq_true_iff, scmp_lt]
theorem tlt_swo : SWO (ltOf tcmp) where
  irrefl x := by rw [slt_eq]; exact bl_irrefl _
  trans x y z h1 h2 := by rw [slt_eq] at *; exact bl_trans _ _ _ h1 h2
  ntrans x y z h1 h2 := by
    rw [slt_eq] at *
    cases hyx : Op.bytesLess y.1 x.1
    · rw [bl_total _ _ h1 hyx]; exact h2
    · cases hxz : Op.bytesLess x.1 z.1
      · rfl
      · have := bl_trans _ _ _ hyx hxz
        rw [h2] at this; cases this
theorem nodup_inj {β : Type} {l : List β} (hn : l.Nodup) {i j : Nat} (hi : i < l.length) (hj : j < l.length) (he : l[i] = l[j]) : i = j := by
  rcases Nat.lt_trichotomy i j with h | h | h
  · exact absurd he (List.pairwise_iff_getElem.1 hn i j hi hj h)
  · exact h
  · exact absurd he.symm (List.pairwise_iff_getElem.1 hn j i hj hi h)
/-- two sources of a list have one name -/
def dupN (l : List Src2) : Bool := !decide ((l.map (·.1)).Nodup)
/-- sources in the order of their names -/
def tsort (l : List Src2) : List Src2 := l.mergeSort fun x y => !(ltOf tcmp) y x
theorem dupN_perm {l l' : List Src2} (h : l'.Perm l) : dupN l' = dupN l := by
  unfold dupN
  rw [decide_eq_decide.2 (h.map _).nodup_iff]
/-- a sorted list without two that stand beside each other under one name has no two such -/
theorem dupN_adj {l : List Src2} (hs : l.Pairwise (leOf (ltOf tcmp))) (ha : ∀ i, ∀ h : i + 1 < l.length, l[i].1 ≠ l[i + 1].1) : dupN l = false := by
  unfold dupN
  simp only [Bool.not_eq_false', decide_eq_true_eq]
  induction l with
  | nil => simp
  | cons a l ih =>
    rw [List.pairwise_cons] at hs
    have ih' := ih hs.2 (fun i h => by have := ha (i + 1) (by simpa using h); simpa using this)
    rw [List.map_cons, List.nodup_cons]
    refine ⟨fun hm => ?_, ih'⟩
    cases l with
    | nil => simp at hm
    | cons b l =>
      have hab : a.1 ≠ b.1 := by simpa using ha 0 (by simp)
      have h1 : leOf (ltOf tcmp) a b := hs.1 b (by simp)
      have hlt : Op.bytesLess a.1 b.1 = true := by
        unfold leOf at h1
        rw [slt_eq] at h1
        cases hb : Op.bytesLess a.1 b.1
        · exact absurd (bl_total _ _ hb h1) hab
        · rfl
      obtain ⟨c, hc, hca⟩ := List.mem_map.1 hm
      rcases List.mem_cons.1 hc with rfl | hc'
      · exact hab hca.symm
      · have h2 : leOf (ltOf tcmp) b c := (List.pairwise_cons.1 hs.2).1 c hc'
        unfold leOf at h2
        rw [slt_eq, hca, hlt] at h2
        cases h2
theorem dupN_of_adj {l : List Src2} (i : Nat) (h : i + 1 < l.length) (he : l[i].1 = l[i + 1].1) : dupN l = true := by
  unfold dupN
  simp only [Bool.not_eq_true', decide_eq_false_iff_not]
  intro hn
  have := nodup_inj hn (i := i) (j := i + 1) (by simp; omega) (by simpa using h) (by simpa using he)
  omega
theorem dupN_prev {l : List Src2} (k : Nat) (h1 : 1 ≤ k) (h : k < l.length) (he : l[k - 1].1 = l[k].1) : dupN l = true := by
  obtain ⟨j, rfl⟩ : ∃ j, k = j + 1 := ⟨k - 1, by omega⟩
  exact dupN_of_adj j h (by simpa using he)
theorem adj_step {l : List Src2} (k : Nat) (h1 : 1 ≤ k) (h : k < l.length) (ha : ∀ j, j + 1 < k → ∀ h : j + 1 < l.length, l[j].1 ≠ l[j + 1].1) (he : l[k - 1].1 ≠ l[k].1) : ∀ j, j + 1 < k + 1 → ∀ h : j + 1 < l.length, l[j].1 ≠ l[j + 1].1 := by
  obtain ⟨i, rfl⟩ : ∃ i, k = i + 1 := ⟨k - 1, by omega⟩
  intro j hj hh
  rcases (show j + 1 < i + 1 ∨ j = i by omega) with h' | rfl
  · exact ha j h' hh
  · simpa using he
theorem tsort_of {l l' : List Src2} (hp : l'.Perm l) (hs : l'.Pairwise (leOf (ltOf tcmp))) (hd : dupN l = false) : l' = tsort l := by
  have hto : ∀ a b : Src2, ((!(ltOf tcmp) b a) || (!(ltOf tcmp) a b)) = true := fun a b => by
    cases hab : (ltOf tcmp) a b
    · simp
    · have := le_of_lt tlt_swo hab
      unfold leOf at this
      simp [this]
  have htr : ∀ a b c : Src2, (!(ltOf tcmp) b a) = true → (!(ltOf tcmp) c b) = true → (!(ltOf tcmp) c a) = true := fun a b c h1 h2 => by
    simp at *; exact tlt_swo.ntrans c b a h2 h1
  have h2 := List.pairwise_mergeSort htr hto l
  have hpm : l'.Perm (tsort l) := hp.trans (List.mergeSort_perm l _).symm
  have hnd : (l'.map (·.1)).Nodup := by
    rw [← dupN_perm hp] at hd
    simpa [dupN] using hd
  refine List.Perm.eq_of_pairwise (le := leOf (ltOf tcmp)) (fun a b ha hb h1 h2 => ?_) hs (h2.imp (fun h => by simpa [leOf] using h)) hpm
  unfold leOf at h1 h2
  rw [slt_eq] at h1 h2
  have he : a.1 = b.1 := bl_total _ _ h2 h1
  have hb' := hpm.symm.mem_iff.1 hb
  obtain ⟨i, hi, rfl⟩ := List.getElem_of_mem ha
  obtain ⟨j, hj, rfl⟩ := List.getElem_of_mem hb'
  by_cases hij : i = j
  · subst hij; rfl
  · exfalso
    exact hij (nodup_inj hnd (by simpa using hi) (by simpa using hj) (by simpa using he))

/-- the line of a source -/
def srcLine (x : Src2) : List UInt8 := qtext x.1 ++ [32] ++ dtext (fnv fstart x.2) ++ [10]
/-- a release: its module, the modules that it requires, its sources -/
abbrev Rel := Mod × List Mod × List Src2
/-- the error of a release -/
def rerr (r : Rel) : Int := if mcheck r.1 r.2.1 ≠ 0 then mcheck r.1 r.2.1 else if dupN r.2.2 = true then 6 else 0
def rall (r : Rel) : List UInt8 := mtext r.1 r.2.1 ++ (tsort r.2.2).flatMap srcLine
/-- the digest of a release -/
def rtext (r : Rel) : List UInt8 := if rerr r = 0 then dtext (fnv fstart (rall r)) else []
/-- the line of a release -/
def rline (r : Rel) : List UInt8 := r.1.1 ++ [32] ++ vtext r.1.2.1 r.1.2.2.1 r.1.2.2.2 ++ [32] ++ rtext r
end Go.Proofs.YtabmidnamaaklaaGreatDoor
