/- Plain laws: manifests with numbered requirements. -/
import Derived.Test.YtbbdoibmcmkmnaaGreatDoorPZ
namespace Go.Proofs.YtbbdoibmcmkmnaaGreatDoor
open Go.RowKit Go.Sort

def nmL (k : Nat) : List UInt8 := [120, UInt8.ofNat (97 + k / 10), UInt8.ofNat (97 + k % 10)]
def limL (k : Nat) (v : Ver) : List Mod := (List.range k).map fun i => (nmL i, v)
theorem limL_len (k : Nat) (v : Ver) : (limL k v).length = k := by simp [limL]
theorem limL_succ (k : Nat) (v : Ver) : limL (k + 1) v = limL k v ++ [(nmL k, v)] := by simp [limL, List.range_succ]
theorem nm_ok : ∀ i, i < 70 → pathOk (nmL i) = true := by decide +kernel
theorem nm_lt : ∀ j, j < 70 → ∀ i, i < j → Op.bytesLess (nmL i) (nmL j) = true := by decide +kernel
theorem nm_mod : ∀ i, i < 70 → nmL i ≠ [109] := by decide +kernel
theorem limL_mem {k : Nat} {v : Ver} {x : Mod} (h : x ∈ limL k v) : ∃ i, i < k ∧ x = (nmL i, v) := by
  obtain ⟨i, hi, rfl⟩ := List.mem_map.1 h
  exact ⟨i, List.mem_range.1 hi, rfl⟩
theorem limL_at {k : Nat} {v : Ver} {i : Nat} (h : i < (limL k v).length) : (limL k v)[i] = (nmL i, v) := by simp [limL]
theorem limL_nodup {k : Nat} (hk : k ≤ 70) (v : Ver) : ((limL k v).map (·.1)).Nodup := by
  rw [List.nodup_iff_pairwise_ne, List.pairwise_iff_getElem]
  intro i j hi hj hij he
  simp only [List.getElem_map, limL_at] at he
  have hj' : j < k := by simpa [limL_len] using hj
  have := nm_lt j (by omega) i hij
  rw [he, bl_irrefl] at this
  cases this
theorem lim_sort {k : Nat} (hk : k ≤ 70) (v : Ver) : msort (limL k v) = limL k v := by
  have hp : (limL k v).Pairwise (leOf (ltOf mcmp)) := by
    rw [List.pairwise_iff_getElem]
    intro i j hi hj hij
    rw [limL_at, limL_at]
    have hj' : j < k := by rw [limL_len] at hj; exact hj
    have h := nm_lt j (by omega) i hij
    have : mcmp (nmL i, v) (nmL j, v) = -1 := by unfold mcmp; rw [if_pos h]
    exact le_of_lt mlt_swo (by unfold ltOf; rw [this]; rfl)
  exact (sorted_eq mlt_swo mlt_total _ _ hp (List.Perm.refl _)).symm
theorem lim_check {k : Nat} (hk : k ≤ 70) {v : Ver} (hv : vok v.1 v.2.1 v.2.2 = true) : mcheck ([109], v) (limL k v) = if 64 < k then 2 else 0 := by
  have h1 : (([109], v) :: limL k v : List Mod).any badPath = false := by
    rw [List.any_eq_false]
    intro x hx
    rcases List.mem_cons.1 hx with rfl | hx
    · unfold badPath
      rw [show pathOk ([109] : List UInt8) = true by decide +kernel]
      decide
    · obtain ⟨i, hi, rfl⟩ := limL_mem hx
      unfold badPath
      rw [nm_ok i (by omega)]
      decide
  have h2 : (([109], v) :: limL k v : List Mod).any badVer = false := by
    rw [List.any_eq_false]
    intro x hx
    rcases List.mem_cons.1 hx with rfl | hx
    · unfold badVer
      rw [hv]
      decide
    · obtain ⟨i, hi, rfl⟩ := limL_mem hx
      unfold badVer
      rw [hv]
      decide
  have h3 : dupK (([109], v) :: limL k v) ((limL k v).length + 1) = false := by
    have e := dupK_full (([109], v) :: limL k v)
    rw [List.length_cons] at e
    rw [e]
    have hn : ((([109], v) :: limL k v : List Mod).map (·.1)).Nodup := by
      rw [List.map_cons, List.nodup_cons]
      refine ⟨fun h => ?_, limL_nodup hk v⟩
      obtain ⟨x, hx, he⟩ := List.mem_map.1 h
      obtain ⟨i, hi, rfl⟩ := limL_mem hx
      exact nm_mod i (by omega) he
    rw [decide_eq_true hn]
    rfl
  unfold mcheck
  rw [if_neg (by rw [h1]; simp), if_neg (by rw [h2]; simp), if_neg (by rw [h3]; simp), limL_len]
def lettersA : Array UInt8 := #[97, 98, 99, 100, 101, 102, 103, 104, 105, 106]
theorem nm_text0 : ∀ k, k < 70 → (({ data := #[120] } : ByteArray) ++ ({ data := lettersA } : ByteArray).extract (k / 10) (k / 10 + 1) ++ ({ data := lettersA } : ByteArray).extract (k % 10) (k % 10 + 1)) = { data := (nmL k).toArray } := by
  decide +kernel
end Go.Proofs.YtbbdoibmcmkmnaaGreatDoor
