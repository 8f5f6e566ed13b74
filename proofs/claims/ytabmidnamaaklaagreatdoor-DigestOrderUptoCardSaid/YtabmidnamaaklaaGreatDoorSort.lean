/- Sorting: rows of structs in new memory, under an order that may leave two open. -/
import Derived.Test.YtabmidnamaaklaaGreatDoorWM
import Derived.Test.YtabmidnamaaklaaGreatDoorPG
import Derived.Test.YtabmidnamaaklaaGreatDoorMem3
namespace Go.Proofs.YtabmidnamaaklaaGreatDoor
open Go.RowKit Go.Sort Go.Shelf

section
variable {α : Type}
theorem perm_of_permIn [Inhabited α] {l : List α} {d' : Array α} (h : PermIn 0 l.toArray.size l.toArray d') : d'.toList.Perm l := by
  obtain ⟨hsz, _, hperm⟩ := h
  have e1 : d'.extract 0 l.toArray.size = d' := by rw [← hsz]; exact Array.extract_size
  rw [e1, Array.extract_size] at hperm
  simpa using hperm
theorem pairwise_of_sortedIn [Inhabited α] {lt : α → α → Bool} {n : Nat} {d' : Array α} (h : SortedIn lt 0 n d') (hn : d'.size = n) : d'.toList.Pairwise (leOf lt) := by
  rw [List.pairwise_iff_getElem]
  intro i j hi hj hij
  have hi' : i < d'.size := by simpa using hi
  have hj' : j < d'.size := by simpa using hj
  have := h i j (Nat.zero_le _) hij (by omega)
  rw [getElem!_pos d' j hj', getElem!_pos d' i hi'] at this
  simpa [leOf] using this
/-- a row in new memory, or an empty one -/
def NewRowK (w : World) (base e k : Nat) (enc : α → List Value) (v : Value) (l : List α) : Prop :=
  (l = [] ∧ ∃ A c, v = .slice A 0 c) ∨ (v ≠ .slice none 0 0 ∧ w.ownsRow base e k v l.length (l.flatMap enc))
theorem NewRowK.slice {w : World} {base e k : Nat} {enc : α → List Value} {v : Value} {l : List α} (h : NewRowK w base e k enc v l) : ∃ A c, v = .slice A l.length c ∧ l.length ≤ c := by
  rcases h with ⟨rfl, A, c, rfl⟩ | ⟨_, h⟩
  · exact ⟨A, c, rfl, Nat.zero_le _⟩
  · obtain ⟨A, c, rfl⟩ := Acc.shape (.inl h)
    exact ⟨A, c, rfl, Acc.cap (.inl h)⟩
theorem NewRowK.of_owns {w : World} {base e k : Nat} {enc : α → List Value} {v : Value} {l : List α} (h : w.ownsRow base e k v l.length (l.flatMap enc)) : NewRowK w base e k enc v l := by
  by_cases hv : v = .slice none 0 0
  · subst hv
    rcases h.2 with ⟨_, h0⟩ | ⟨g, cap, cur, h, _⟩
    · exact .inl ⟨List.eq_nil_of_length_eq_zero h0, _, _, rfl⟩
    · cases h
  · exact .inr ⟨hv, h⟩
/-- a row in new memory is sorted in place -/
def SortedTo (w : World) (base k : Nat) (enc : α → List Value) (lt : α → α → Bool) (v : Value) (l : List α) (e : Ending) (w' : World) : Prop :=
  e = .returned (.tuple #[]) ∧ (∃ A c l', v = .slice A l.length c ∧ l.length ≤ c ∧ l'.Perm l ∧ l'.Pairwise (leOf lt) ∧ Sl w' w'.heap.size k enc A l') ∧ Below base w w'
variable {P : Program} {ρ : Ren}
theorem sortK_any [Inhabited α] (L : SlLaysF0.n6 P ρ) (k e0 : Nat) (aE : ∀ w, (isAgg (ρ.t 24)).run P w = .ok true w) (zE : ∀ w, (Go.sizeOf (ρ.t 24)).run P w = .ok k w) (enc : α → List Value) (hk : ∀ x, (enc x).length = k) (h1 : ∀ x, ∀ v ∈ enc x, v.oneCell' = true)
    (cf : α → α → Int) (hO : SWO (ltOf cf)) (g : Nat) (eg : ∀ args w, (callFunc g args).run P w = .ok (.enter g args) w)
    (hcmp : ∀ x y W, Calls P g #[.agg (enc x).toArray, .agg (enc y).toArray] W fun e w' => e = .returned (.int .i64 (cf x y)) ∧ BelowD W.heap.size W w')
    (Ln : ∀ (p : Option Addr) (cap : Nat) (fv : Value) (w : World), Calls P (ρ.f 6) #[.slice p 0 cap, fv] w fun e w' => e = .returned (.tuple #[]) ∧ w = w')
    (v : Value) (l : List α) (w : World) (base : Nat) (h : NewRowK w base e0 k enc v l) (hl : l.length ≤ 1099511627776) :
    Calls P (ρ.f 6) #[v, .func (.func g) #[] #[]] w (SortedTo w base k enc (ltOf cf) v l) := by
  rcases h with ⟨rfl, A, c, rfl⟩ | ⟨hv, h⟩
  · refine (Ln A c _ w).mono ?_
    rintro e w' ⟨rfl, rfl⟩
    exact ⟨rfl, ⟨A, c, [], rfl, Nat.zero_le _, List.Perm.refl _, List.Pairwise.nil, .inl rfl⟩, Below.refl _ _⟩
  · have hcap : ∀ A n c, v = .slice A n c → l.length ≤ c := by
      rcases h.2 with ⟨rfl, _⟩ | ⟨g, cap, cur, rfl, _, _, hc, _⟩
      · exact absurd rfl hv
      · intro A n c e
        injection e with _ _ e3
        omega
    obtain ⟨g', cap, rfl, hbase, hlt, hH⟩ := holdsK_of_owns hk h hv
    refine (AnyQ.slices_SortFunc L k aE zE enc hk h1 cf hO g #[] g' 0 cap l.toArray w eg (fun m os dk _ x y => (hcmp x y _).mono fun e w' ⟨h1, h2⟩ => ⟨h1, grow_of_belowD h2⟩) hH hlt (by simp; omega)).mono ?_
    rintro e w' ⟨rfl, d', n, os, hp, hs, rfl⟩
    have hsz : d'.size = l.length := by simpa using hp.1
    refine ⟨rfl, ⟨_, _, d'.toList, rfl, hcap _ _ _ rfl, perm_of_permIn hp, pairwise_of_sortedIn hs (by simpa using hsz), ?_⟩, below_sortWorldK hbase hlt⟩
    refine sl_of_holdsK hk (l := d'.toList) (by have := holdsK_sortWorldK_c enc k w g' 0 l.toArray d' n os hH hlt (by simpa using hsz); simpa using this) ?_
    exact Nat.lt_of_lt_of_le hlt (size_sortWorldK_c enc k w g' 0 n _ os)
end
end Go.Proofs.YtabmidnamaaklaaGreatDoor
