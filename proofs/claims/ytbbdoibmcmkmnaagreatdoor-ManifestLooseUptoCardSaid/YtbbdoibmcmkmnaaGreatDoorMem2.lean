/- Words for memory, more: rows of several cells. -/
import Derived.Test.YtbbdoibmcmkmnaaGreatDoorMem
import Derived.Test.YtbbdoibmcmkmnaaGreatDoorPB
namespace Go.Proofs.YtbbdoibmcmkmnaaGreatDoor
open Go.RowKit

theorem flat_at {α : Type} {enc : α → List Value} {k : Nat} (hk : ∀ x, (enc x).length = k) : ∀ (l : List α) (i : Nat) (hi : i < l.length) (j : Nat), j < k → (l.flatMap enc)[i * k + j]? = (enc l[i])[j]?
  | [], i, hi, _, _ => by simp at hi
  | x :: l, 0, _, j, hj => by
    simp only [List.flatMap_cons, Nat.zero_mul, Nat.zero_add]
    rw [List.getElem?_append_left (by rw [hk]; exact hj)]
    rfl
  | x :: l, i + 1, hi, j, hj => by
    simp only [List.flatMap_cons]
    have e : (i + 1) * k + j = (enc x).length + (i * k + j) := by rw [hk, Nat.succ_mul]; omega
    rw [e, List.getElem?_append_right (by omega), Nat.add_sub_cancel_left, flat_at hk l i (by simpa using hi) j hj]
    rfl
theorem flat_len {α : Type} {enc : α → List Value} {k : Nat} (hk : ∀ x, (enc x).length = k) (l : List α) : (l.flatMap enc).length = l.length * k := by
  induction l with
  | nil => simp
  | cons x l ih => simp only [List.flatMap_cons, List.length_append, List.length_cons, hk, ih, Nat.succ_mul]; omega
theorem flat_split {n m k : Nat} (h : n < m * k) : n / k < m ∧ n % k < k ∧ n = (n / k) * k + n % k := by
  have hk : 0 < k := by
    rcases Nat.eq_zero_or_pos k with h0 | h0
    · subst h0; simp at h
    · exact h0
  refine ⟨Nat.div_lt_of_lt_mul (by rw [Nat.mul_comm]; exact h), Nat.mod_lt _ hk, ?_⟩
  rw [Nat.mul_comm]; exact (Nat.div_add_mod n k).symm

section
variable {α : Type} {w : World} {B k base e n c : Nat} {enc : α → List Value} {A : Option Addr} {l : List α}
theorem Sl.src (h : Sl w B k enc A l) (hk : ∀ x, (enc x).length = k) : Src w k A l.length (l.flatMap enc) := by
  refine ⟨flat_len hk l, fun hpos => ?_⟩
  rcases h with rfl | ⟨b, off, rfl, _, hc⟩
  · simp at hpos
  · refine ⟨_, rfl, fun j u hu => ?_⟩
    have hj : j < l.length * k := by rw [← flat_len hk l]; exact (List.getElem?_eq_some_iff.1 hu).1
    obtain ⟨h1, h2, h3⟩ := flat_split hj
    rw [Addr.add_lit]
    rw [h3, flat_at hk l _ h1 _ h2] at hu
    have := hc _ h1 _ _ hu
    rw [Nat.add_assoc, ← h3] at this
    exact this
theorem Acc.sl (h : Acc w base e k (.slice A n c) n (l.flatMap enc)) (hk : ∀ x, (enc x).length = k) (h0 : 0 < k) : n = l.length ∧ Sl w w.heap.size k enc A l := by
  have hl : l.length = n := by
    have := h.length
    rw [flat_len hk] at this
    exact Nat.eq_of_mul_eq_mul_right h0 this
  refine ⟨hl.symm, ?_⟩
  rcases h.cells with h0' | ⟨g, off, c', hv, hlt, hc⟩
  · exact .inl (List.eq_nil_of_length_eq_zero (by omega))
  · injection hv with h1 h2 h3
    subst h1
    refine .inr ⟨g, off, rfl, hlt, fun i hi j v hv => ?_⟩
    have hj : j < k := by rw [← hk l[i]]; exact (List.getElem?_eq_some_iff.1 hv).1
    have := hc (i * k + j) v (by rw [flat_at hk l i hi j hj]; exact hv)
    rw [Nat.add_assoc]
    exact this
end

/-- a module's cells -/
def encM (m : Mod) : List Value := [.string ⟨m.1.toArray⟩, .int .i64 m.2.1, .int .i64 m.2.2.1, .int .i64 m.2.2.2]
theorem encM_len (m : Mod) : (encM m).length = 4 := rfl
theorem encM_one (l : List Mod) : ∀ u ∈ l.flatMap encM, u.oneCell' = true := by
  intro u hu
  obtain ⟨m, _, h⟩ := List.mem_flatMap.1 hu
  simp [encM] at h
  rcases h with rfl | rfl | rfl | rfl <;> rfl
/-- the value of a module -/
def modV (m : Mod) : Value := .agg #[.string ⟨m.1.toArray⟩, .int .i64 m.2.1, .int .i64 m.2.2.1, .int .i64 m.2.2.2]
/-- the cells of the i-th module -/
theorem Sl.mod {w : World} {B : Nat} {A : Option Addr} {l : List Mod} (h : Sl w B 4 encM A l) {i : Nat} (hi : i < l.length) :
    ∃ b off, A = some ⟨b, off, none⟩ ∧ b < B ∧ w.cell? ⟨b, off + i * 4, none⟩ = some (.string ⟨(l[i]).1.toArray⟩) ∧ w.cell? ⟨b, off + i * 4 + 1, none⟩ = some (.int .i64 (l[i]).2.1) ∧
      w.cell? ⟨b, off + i * 4 + 2, none⟩ = some (.int .i64 (l[i]).2.2.1) ∧ w.cell? ⟨b, off + i * 4 + 3, none⟩ = some (.int .i64 (l[i]).2.2.2) := by
  obtain ⟨b, off, e, hb, hc⟩ := h.at_ hi
  exact ⟨b, off, e, hb, by simpa using hc 0 _ rfl, hc 1 _ rfl, hc 2 _ rfl, hc 3 _ rfl⟩
/-- a function hands back a slice of modules in new memory -/
def RetMods (w : World) (l : List Mod) (e : Ending) (w' : World) : Prop :=
  ∃ A c, e = .returned (.slice A l.length c) ∧ l.length ≤ c ∧ Sl w' w'.heap.size 4 encM A l ∧ Below w.heap.size w w'
end Go.Proofs.YtbbdoibmcmkmnaaGreatDoor
