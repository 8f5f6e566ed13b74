/- Plain law: the library's splitting at one byte is 'splitL'. -/
import Derived.Test.YtbbdoibmcmkmnaaGreatDoorPC
import Derived.Lib.SplitLaws
import Derived.Lib.CountLaws
import Derived.Lib.IndexBytes
import Derived.Lib.Split
import Derived.Laws.Strings2
namespace Go.Proofs.YtbbdoibmcmkmnaaGreatDoor
open Go.Lib

theorem splitL_ne (b : UInt8) (l : List UInt8) : splitL b l ≠ [] := by
  cases l with
  | nil => simp [splitL]
  | cons c l =>
    unfold splitL
    split
    · simp
    · split <;> simp
theorem splitL_miss (b : UInt8) : ∀ l : List UInt8, indexByte l b = -1 → splitL b l = [l]
  | [], _ => rfl
  | c :: l, h => by
    unfold indexByte at h
    have hc : ¬ c = b := by intro e; subst e; simp at h
    have hl : indexByte l b = -1 := by
      have hg := indexByte_ge l b
      simp [hc] at h
      by_cases h0 : indexByte l b = -1
      · exact h0
      · have := h h0; omega
    simp [splitL, hc, splitL_miss b l hl]
theorem splitL_hit (b : UInt8) : ∀ (l : List UInt8) (i : Nat), indexByte l b = i → splitL b l = l.take i :: splitL b (l.drop (i + 1))
  | [], i, h => by simp [indexByte] at h
  | c :: l, i, h => by
    unfold indexByte at h
    by_cases hc : c = b
    · subst hc
      simp at h
      obtain rfl : i = 0 := by omega
      simp [splitL]
    · have hg := indexByte_ge l b
      simp [hc] at h
      split at h
      · omega
      · obtain ⟨j, rfl⟩ : ∃ j, i = j + 1 := ⟨i - 1, by omega⟩
        have hl : indexByte l b = j := by omega
        have ih := splitL_hit b l j hl
        simp [splitL, hc, ih]
theorem indexByte_at (b : UInt8) : ∀ (l : List UInt8) (i : Nat), (∀ j, j < i → l.getD j 0 ≠ b) → i < l.length → l.getD i 0 = b → indexByte l b = i
  | [], i, _, h, _ => by simp at h
  | c :: l, 0, _, _, h => by
    have : c = b := by simpa using h
    simp [indexByte, this]
  | c :: l, i + 1, hn, hl, h => by
    have h0 : ¬ c = b := by have := hn 0 (by omega); simpa using this
    have ih := indexByte_at b l i (fun j hj => by have := hn (j + 1) (by omega); simpa using this) (by simpa using hl) (by simpa using h)
    unfold indexByte
    simp [h0, ih]
    try omega
theorem indexByte_no (b : UInt8) : ∀ (l : List UInt8), (∀ j, j < l.length → l.getD j 0 ≠ b) → indexByte l b = -1
  | [], _ => rfl
  | c :: l, hn => by
    have h0 : ¬ c = b := by have := hn 0 (by simp); simpa using this
    have ih := indexByte_no b l (fun j hj => by have := hn (j + 1) (by simp; omega); simpa using this)
    unfold indexByte
    simp [h0, ih]
/-- a piece is found -/
theorem split_step (b : UInt8) (l : List UInt8) (P : List (List UInt8)) (f k : Nat) (hfk : f ≤ k) (hk : k < l.length) (hs : splitL b l = P ++ splitL b (l.drop f)) (hn : ∀ j, f ≤ j → j < k → l.getD j 0 ≠ b) (hb : l.getD k 0 = b) :
    splitL b l = (P ++ [(l.drop f).take (k - f)]) ++ splitL b (l.drop (k + 1)) := by
  have hfk' : f + (k - f) = k := by omega
  have hat : (l.drop f).getD (k - f) 0 = b := by simpa [hfk'] using hb
  have hi := indexByte_at b (l.drop f) (k - f) (fun j hj => by have := hn (f + j) (by omega) (by omega); simpa using this) (by simp; omega) hat
  rw [hs, splitL_hit b _ _ hi]
  have : f + (k - f + 1) = k + 1 := by omega
  simp [List.drop_drop, this]
theorem split_end (b : UInt8) (l : List UInt8) (P : List (List UInt8)) (f : Nat) (hs : splitL b l = P ++ splitL b (l.drop f)) (hn : ∀ j, f ≤ j → j < l.length → l.getD j 0 ≠ b) : splitL b l = P ++ [l.drop f] := by
  rw [hs, splitL_miss b _ (indexByte_no b _ (fun j hj => by have := hn (f + j) (by omega) (by simp at hj; omega); simpa using this))]

theorem splitB_eq (b : UInt8) : ∀ (k : Nat) (l : List UInt8), l.length ≤ k →
    splitB ⟨#[b]⟩ 0 (countB ⟨l.toArray⟩ ⟨#[b]⟩) ⟨l.toArray⟩ = (splitL b l).map (fun x => (⟨x.toArray⟩ : ByteArray)) ∧ countB ⟨l.toArray⟩ ⟨#[b]⟩ + 1 = (splitL b l).length := by
  intro k
  induction k with
  | zero =>
    intro l hl
    obtain rfl : l = [] := List.eq_nil_of_length_eq_zero (by omega)
    have h : indexB ⟨([] : List UInt8).toArray⟩ ⟨#[b]⟩ = -1 := rfl
    rw [countB_miss _ _ h]
    exact ⟨rfl, rfl⟩
  | succ k ih =>
    intro l hl
    have hi : indexB ⟨l.toArray⟩ ⟨#[b]⟩ = indexByte l b := index_one l b
    have hg := indexByte_ge l b
    rcases (show indexByte l b = -1 ∨ ∃ i : Nat, indexByte l b = i by
      by_cases h : indexByte l b = -1
      · exact .inl h
      · exact .inr ⟨(indexByte l b).toNat, by omega⟩) with h | ⟨i, h⟩
    · rw [countB_miss _ _ (hi.trans h), splitL_miss b l h]
      exact ⟨rfl, rfl⟩
    · have h' := hi.trans h
      have hle := index_le l [b]
      rw [index_one, h] at hle
      rw [countB_hit _ _ i (by simp [ByteArray.size]) h', Nat.add_comm 1, splitB_hit _ _ _ _ i h', splitL_hit b l i h]
      have e1 : (⟨l.toArray⟩ : ByteArray).extract (i + (⟨#[b]⟩ : ByteArray).size) (⟨l.toArray⟩ : ByteArray).size = ⟨(l.drop (i + 1)).toArray⟩ := by
        rw [ByteArray.extract_mk]
        congr 2
        rw [List.take_of_length_le]
        · rfl
        · simp [ByteArray.size]
      have e2 : (⟨l.toArray⟩ : ByteArray).extract 0 (i + 0) = ⟨(l.take i).toArray⟩ := by
        rw [ByteArray.extract_mk]; simp
      rw [e1, e2]
      have := ih (l.drop (i + 1)) (by simp; omega)
      exact ⟨by rw [this.1]; rfl, by rw [this.2]; rfl⟩
end Go.Proofs.YtbbdoibmcmkmnaaGreatDoor
