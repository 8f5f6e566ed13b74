/- Plain laws: sorting by a key; lists of releases. -/
import Derived.Test.YtabmidnamaaklaaGreatDoorPH
namespace Go.Proofs.YtabmidnamaaklaaGreatDoor
open Go.RowKit Go.Sort

section
variable {α β : Type} {lt : α → α → Bool} {f : α → β}
theorem keyed_nodup (_hO : SWO lt) (hT : ∀ a b, lt a b = false → lt b a = false → f a = f b) (hC : ∀ a b c, f a = f b → lt a c = lt b c) {l : List α} (hs : l.Pairwise (leOf lt)) (ha : ∀ i, ∀ h : i + 1 < l.length, f l[i] ≠ f l[i + 1]) : (l.map f).Nodup := by
  induction l with
  | nil => simp
  | cons a l ih =>
    rw [List.pairwise_cons] at hs
    have ih' := ih hs.2 (fun i h => by have := ha (i + 1) (by simpa using h); simpa using this)
    rw [List.map_cons, List.nodup_cons]
    refine ⟨fun hm => ?_, ih'⟩
    cases l with
    | nil => simp at hm
    | cons b l =>
      have hab : f a ≠ f b := by simpa using ha 0 (by simp)
      have h1 : leOf lt a b := hs.1 b (by simp)
      have hlt : lt a b = true := by
        cases hb : lt a b
        · exact absurd (hT a b hb h1) hab
        · rfl
      obtain ⟨c, hc, hca⟩ := List.mem_map.1 hm
      rcases List.mem_cons.1 hc with rfl | hc'
      · exact hab hca.symm
      · have h2 : leOf lt b c := (List.pairwise_cons.1 hs.2).1 c hc'
        unfold leOf at h2
        rw [hC c a b hca, hlt] at h2
        cases h2
theorem keyed_dup {l : List α} (k : Nat) (h1 : 1 ≤ k) (h : k < l.length) (he : f l[k - 1] = f l[k]) : ¬ (l.map f).Nodup := by
  intro hn
  have := nodup_inj hn (i := k - 1) (j := k) (by simp; omega) (by simpa using h) (by simpa using he)
  omega
theorem keyed_step {l : List α} (k : Nat) (h1 : 1 ≤ k) (h : k < l.length) (ha : ∀ j, j + 1 < k → ∀ h : j + 1 < l.length, f l[j] ≠ f l[j + 1]) (he : f l[k - 1] ≠ f l[k]) : ∀ j, j + 1 < k + 1 → ∀ h : j + 1 < l.length, f l[j] ≠ f l[j + 1] := by
  obtain ⟨i, rfl⟩ : ∃ i, k = i + 1 := ⟨k - 1, by omega⟩
  intro j hj hh
  rcases (show j + 1 < i + 1 ∨ j = i by omega) with h' | rfl
  · exact ha j h' hh
  · simpa using he
theorem keyed_unique (hO : SWO lt) (hT : ∀ a b, lt a b = false → lt b a = false → f a = f b) {l l' : List α} (hp : l'.Perm l) (hs : l'.Pairwise (leOf lt)) (hn : (l.map f).Nodup) : l' = l.mergeSort fun x y => !lt y x := by
  have hto : ∀ a b : α, ((!lt b a) || (!lt a b)) = true := fun a b => by
    cases hab : lt a b
    · simp
    · have := le_of_lt hO hab
      unfold leOf at this
      simp [this]
  have htr : ∀ a b c : α, (!lt b a) = true → (!lt c b) = true → (!lt c a) = true := fun a b c h1 h2 => by
    simp at *; exact hO.ntrans c b a h2 h1
  have h2 := List.pairwise_mergeSort htr hto l
  have hpm : l'.Perm (l.mergeSort fun x y => !lt y x) := hp.trans (List.mergeSort_perm l _).symm
  have hnd : (l'.map f).Nodup := (hp.map f).nodup_iff.2 hn
  refine List.Perm.eq_of_pairwise (le := leOf lt) (fun a b ha hb h1 h2 => ?_) hs (h2.imp (fun h => by simpa [leOf] using h)) hpm
  unfold leOf at h1 h2
  have he : f a = f b := hT a b h2 h1
  have hb' := hpm.symm.mem_iff.1 hb
  obtain ⟨i, hi, rfl⟩ := List.getElem_of_mem ha
  obtain ⟨j, hj, rfl⟩ := List.getElem_of_mem hb'
  by_cases hij : i = j
  · subst hij; rfl
  · exfalso
    exact hij (nodup_inj hnd (by simpa using hi) (by simpa using hj) (by simpa using he))
end

/-- an entry: a module and its line -/
abbrev Ent := Mod × List UInt8
def encE (x : Ent) : List Value := [.string ⟨x.1.1.toArray⟩, .int .i64 x.1.2.1, .int .i64 x.1.2.2.1, .int .i64 x.1.2.2.2, .string ⟨x.2.toArray⟩]
theorem encE_len (x : Ent) : (encE x).length = 5 := rfl
theorem encE_one1 (x : Ent) : ∀ v ∈ encE x, v.oneCell' = true := fun v hv => by
  simp [encE] at hv
  rcases hv with rfl | rfl | rfl | rfl | rfl <;> rfl
def ecmp (a b : Ent) : Int := mcmp a.1 b.1
theorem elt_eq (a b : Ent) : ltOf ecmp a b = ltOf mcmp a.1 b.1 := rfl
theorem elt_swo : SWO (ltOf ecmp) where
  irrefl x := mlt_swo.irrefl x.1
  trans x y z h1 h2 := mlt_swo.trans x.1 y.1 z.1 h1 h2
  ntrans x y z h1 h2 := mlt_swo.ntrans x.1 y.1 z.1 h1 h2
theorem elt_key (a b : Ent) (h1 : ltOf ecmp a b = false) (h2 : ltOf ecmp b a = false) : a.1 = b.1 := mlt_total a.1 b.1 h1 h2
theorem elt_cong (a b c : Ent) (h : a.1 = b.1) : ltOf ecmp a c = ltOf ecmp b c := by rw [elt_eq, elt_eq, h]
def entOf (r : Rel) : Ent := (r.1, rline r)
/-- the first error of a release -/
def ferr : List Rel → Int
  | [] => 0
  | r :: l => if rerr r = 0 then ferr l else rerr r
theorem ferr_at : ∀ (L : List Rel) (k : Nat) (h : k < L.length), (∀ j, ∀ hj : j < k, rerr L[j] = 0) → rerr L[k] ≠ 0 → ferr L = rerr L[k]
  | r :: l, 0, h, _, he => by
    have he' : rerr r ≠ 0 := he
    simp [ferr, he']
  | r :: l, k + 1, h, hz, he => by
    have h0 : rerr r = 0 := hz 0 (by omega)
    have ih := ferr_at l k (by simpa using h) (fun j hj => hz (j + 1) (by omega)) (by simpa using he)
    simp [ferr, h0, ih]
theorem ferr_none : ∀ (L : List Rel), (∀ j, ∀ hj : j < L.length, rerr L[j] = 0) → ferr L = 0
  | [], _ => rfl
  | r :: l, hz => by
    have h0 : rerr r = 0 := hz 0 (by simp)
    have ih := ferr_none l (fun j hj => hz (j + 1) (by simpa using hj))
    simp [ferr, h0, ih]
def esort (l : List Ent) : List Ent := l.mergeSort fun x y => !(ltOf ecmp) y x
/-- the error of a list of releases -/
def lerr (L : List Rel) : Int := if ferr L ≠ 0 then ferr L else if (L.map (·.1)).Nodup then 0 else 6
/-- the lines of a list of releases -/
def lout (L : List Rel) : List (List UInt8) := if lerr L = 0 then (esort (L.map entOf)).map (·.2) else []
theorem ents_keys (L : List Rel) : (L.map entOf).map (·.1) = L.map (·.1) := by simp [entOf]
end Go.Proofs.YtabmidnamaaklaaGreatDoor
