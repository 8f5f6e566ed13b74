/- Plain laws: where a comment begins. -/
import Derived.Test.YtbbdoibmcmkmnaaGreatDoorPV
namespace Go.Proofs.YtbbdoibmcmkmnaaGreatDoor
open Go.RowKit Go.Lib

/-- two slashes at a place -/
def ccAt (s : List UInt8) (j : Nat) : Prop := s[j]? = some 47 ∧ s[j + 1]? = some 47
theorem ccAt_zero (s : List UInt8) : ccAt s 0 ↔ ([47, 47] : List UInt8).isPrefixOf s = true := by
  cases s with
  | nil => simp [ccAt]
  | cons b l =>
    cases l with
    | nil => simp [ccAt, List.isPrefixOf]
    | cons c l =>
      simp [ccAt, List.isPrefixOf]
      exact ⟨fun ⟨a, b⟩ => ⟨a.symm, b.symm⟩, fun ⟨a, b⟩ => ⟨a.symm, b.symm⟩⟩
theorem ccAt_succ (b : UInt8) (l : List UInt8) (j : Nat) : ccAt (b :: l) (j + 1) ↔ ccAt l j := by simp [ccAt]
theorem index_hit : ∀ (s : List UInt8) (k : Nat), ccAt s k → (∀ j, j < k → ¬ ccAt s j) → index s [47, 47] = k
  | [], k, h, _ => by simp [ccAt] at h
  | b :: l, 0, h, _ => by
    unfold index
    rw [if_pos ((ccAt_zero _).1 h)]
    rfl
  | b :: l, k + 1, h, hn => by
    have ih := index_hit l k ((ccAt_succ b l k).1 h) fun j hj hc => hn (j + 1) (by omega) ((ccAt_succ b l j).2 hc)
    unfold index
    rw [if_neg (fun hp => hn 0 (by omega) ((ccAt_zero _).2 hp)), ih]
    have : ((k : Int) == -1) = false := by rw [beq_eq_false_iff_ne]; omega
    simp [this]
theorem index_miss : ∀ (s : List UInt8), (∀ j, ¬ ccAt s j) → index s [47, 47] = -1
  | [], _ => by decide
  | b :: l, h => by
    have ih := index_miss l fun j hc => h (j + 1) ((ccAt_succ b l j).2 hc)
    unfold index
    rw [if_neg (fun hp => h 0 ((ccAt_zero _).2 hp)), ih]
    rfl
theorem cmt_hit (s : List UInt8) (k : Nat) (h : ccAt s k) (hn : ∀ j, j < k → ¬ ccAt s j) : cmt s = s.take k := by
  unfold cmt cut
  rw [index_hit s k h hn, if_pos (by omega)]
  simp
theorem cmt_miss (s : List UInt8) (h : ∀ j, ¬ ccAt s j) : cmt s = s := by
  unfold cmt cut
  rw [index_miss s h]
  rfl
end Go.Proofs.YtbbdoibmcmkmnaaGreatDoor
