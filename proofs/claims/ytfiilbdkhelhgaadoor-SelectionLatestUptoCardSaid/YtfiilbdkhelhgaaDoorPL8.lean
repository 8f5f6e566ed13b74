/- Plain: what a build list satisfies. -/
import Derived.Test.YtfiilbdkhelhgaaDoorPL7
namespace Go.Proofs.YtfiilbdkhelhgaaDoor
open Go.RowKit Go.Sort

theorem reqOf_of {R : Regy} (hn : (R.map (·.1)).Nodup) {y : Mod × List Mod} (hy : y ∈ R) : reqOf R y.1 = y.2 := by
  unfold reqOf
  have h : R.find? (fun x => decide (x.1 = y.1)) = some y := by
    induction R with
    | nil => cases hy
    | cons z R ih =>
      rw [List.map_cons, List.nodup_cons] at hn
      rw [List.find?_cons]
      by_cases hz : z.1 = y.1
      · rw [decide_eq_true hz]
        rcases List.mem_cons.1 hy with rfl | hy
        · rfl
        · exact absurd (List.mem_map.2 ⟨y, hy, hz.symm⟩) hn.1
      · rw [decide_eq_false hz]
        rcases List.mem_cons.1 hy with rfl | hy
        · exact absurd rfl hz
        · exact ih hn.2 hy
  rw [h]
  rfl
theorem reqOf_not {R : Regy} {m : Mod} (h : m ∉ R.map (·.1)) : reqOf R m = [] := by
  unfold reqOf
  rw [List.find?_eq_none.2 (fun y hy => by simpa using fun e : y.1 = m => h (List.mem_map.2 ⟨y, hy, e⟩))]
  rfl
/-- the first module of a path in a list -/
def hasV (l : List Mod) (p : List UInt8) : Option Mod := l.find? fun x => decide (x.1 = p)
theorem hasV_of {l : List Mod} {g : Mod} (hn : (l.map (·.1)).Nodup) (hg : g ∈ l) : hasV l g.1 = some g := by
  unfold hasV
  induction l with
  | nil => cases hg
  | cons z l ih =>
    rw [List.map_cons, List.nodup_cons] at hn
    rw [List.find?_cons]
    by_cases hz : z.1 = g.1
    · rw [decide_eq_true hz]
      rcases List.mem_cons.1 hg with rfl | hg
      · rfl
      · exact absurd (List.mem_map.2 ⟨g, hg, hz.symm⟩) hn.1
    · rw [decide_eq_false hz]
      rcases List.mem_cons.1 hg with rfl | hg
      · exact absurd rfl hz
      · exact ih hn.2 hg
theorem hasV_some {l : List Mod} {p : List UInt8} {g : Mod} (h : hasV l p = some g) : g ∈ l ∧ g.1 = p := by
  unfold hasV at h
  exact ⟨List.mem_of_find?_eq_some h, by simpa using List.find?_some h⟩
theorem hasV_none {l : List Mod} {p : List UInt8} (h : hasV l p = none) : ∀ x ∈ l, x.1 ≠ p := by
  unfold hasV at h
  intro x hx
  simpa using List.find?_eq_none.1 h x hx
/-- does a list satisfy a requirement, apart from those of its first path? -/
def meetX (l : List Mod) (x : Mod) : Bool := decide (x.1 = (l.headD zmod).1) || match hasV l x.1 with | none => false | some v => decide (0 ≤ vcmpV v.2 x.2)
def meetsP (l req : List Mod) : Bool := req.all (meetX l)
def askedP (R : Regy) (l : List Mod) (m : Mod) : Bool := decide (m ∈ l) || R.any fun y => decide (m ∈ y.2)

/-- a build list without an error -/
structure Built (R : Regy) (root : Mod) (l D : List Mod) : Prop where
  eq : buildP R root l = (root :: D, 0)
  tail : Tail R root D
  top : ∀ m, Reach R l m → m.1 ≠ root.1 → ∃ g ∈ D, g.1 = m.1 ∧ vcmpV m.2 g.2 ≤ 0
  rch : ∀ g ∈ D, Reach R l g
theorem built {R : Regy} {root : Mod} {l : List Mod} (h : (buildP R root l).2 = 0) : ∃ D, Built R root l D := by
  have hT := build_tail h
  obtain ⟨_, _, h3, h4⟩ := buildP_ok h
  refine ⟨msort (topL root.1 (needL R l)), ?_, ?_, fun m hm hp => ?_, fun g hg => ?_⟩
  · rw [h4]
    rfl
  · rw [h4] at hT
    exact hT
  · have hmn := (needL_mem R l m).2 hm
    cases hg : greatestP (needL R l) m.1 with
    | none => exact absurd rfl ((greatest_spec _ _).1.1 hg m hmn)
    | some g =>
      obtain ⟨g1, g2, g3⟩ := (greatest_spec _ _).2 g hg
      refine ⟨g, msort_mem.2 ((topL_mem _ _ _).2 ⟨g1, by rw [g2]; exact hp, fun x hx he => g3 x hx (he.trans g2)⟩), g2, g3 m hmn rfl⟩
  · exact (needL_mem R l g).1 ((topL_mem _ _ _).1 (msort_mem.1 hg)).1
theorem Built.nod {R : Regy} {root : Mod} {l D : List Mod} (h : Built R root l D) : ((root :: D).map (·.1)).Nodup := by
  rw [List.map_cons, List.nodup_cons]
  refine ⟨fun hm => ?_, h.tail.nod⟩
  obtain ⟨x, hx, he⟩ := List.mem_map.1 hm
  exact (h.tail.mem x hx).2 he
theorem Built.meetX {R : Regy} {root : Mod} {l D : List Mod} (h : Built R root l D) {m : Mod} (hm : Reach R l m) : meetX (root :: D) m = true := by
  unfold Go.Proofs.YtfiilbdkhelhgaaDoor.meetX
  by_cases hp : m.1 = root.1
  · rw [List.headD_cons, decide_eq_true hp]
    rfl
  · obtain ⟨g, hg, h1, h2⟩ := h.top m hm hp
    have hv : hasV (root :: D) m.1 = some g := by
      rw [← h1]
      exact hasV_of h.nod (List.mem_cons_of_mem _ hg)
    rw [hv]
    have := vcmpV_anti m.2 g.2
    rw [Bool.or_eq_true]
    exact .inr (decide_eq_true (by omega))
theorem Built.meets {R : Regy} {root : Mod} {l D : List Mod} (h : Built R root l D) : meetsP (root :: D) l = true := List.all_eq_true.2 fun _ hx => h.meetX (.base hx)
theorem Built.meets2 {R : Regy} {root : Mod} {l D : List Mod} (h : Built R root l D) (hn : (R.map (·.1)).Nodup) {x : Mod} (hx : x ∈ D) {y : Mod × List Mod} (hy : y ∈ R) (he : y.1 = x) : meetsP (root :: D) y.2 = true :=
  List.all_eq_true.2 fun z hz => h.meetX (.step (h.rch x hx) (by rw [← he, reqOf_of hn hy]; exact hz))
theorem Built.asked {R : Regy} {root : Mod} {l D : List Mod} (h : Built R root l D) {x : Mod} (hx : x ∈ D) : askedP R l x = true := by
  unfold askedP
  cases h.rch x hx with
  | base h1 => rw [decide_eq_true h1]; rfl
  | step _ h2 =>
    obtain ⟨y, hy, hm⟩ := List.mem_flatMap.1 (reqOf_mem h2)
    rw [Bool.or_eq_true]
    exact .inr (List.any_eq_true.2 ⟨y, hy, decide_eq_true hm⟩)
theorem firstBad_zero : ∀ R : Regy, (∀ y ∈ R, mcheck y.1 y.2 = 0) → firstBad R = 0
  | [], _ => rfl
  | x :: R, h1 => by
    unfold firstBad
    rw [if_pos (h1 x (by simp))]
    exact firstBad_zero R fun y hy => h1 y (by simp [hy])
theorem checkR_iff (R : Regy) : checkR R = 0 ↔ (∀ y ∈ R, mcheck y.1 y.2 = 0) ∧ (R.map (·.1)).Nodup := by
  refine ⟨fun h => ⟨firstBad_all (checkR_ok h).1, (checkR_ok h).2⟩, fun ⟨h1, h2⟩ => ?_⟩
  have h3 : firstBad R = 0 := firstBad_zero R h1
  unfold checkR
  rw [if_pos h3]
  unfold dupR
  rw [decide_eq_true h2]
  rfl
theorem built_nodup {R : Regy} {root : Mod} {l : List Mod} (h : (buildP R root l).2 = 0) : (R.map (·.1)).Nodup := ((checkR_iff R).1 (buildP_ok h).1).2
/-- when there is a build list -/
theorem buildP_iff (R : Regy) (root : Mod) (l : List Mod) : (buildP R root l).2 = 0 ↔ checkR R = 0 ∧ mcheck root l = 0 ∧ ∀ m, Reach R l m → m.1 = root.1 ∨ m ∈ R.map (·.1) := by
  constructor
  · intro h
    obtain ⟨h1, h2, h3, _⟩ := buildP_ok h
    exact ⟨h1, h2, fun m hm => ((knownB_iff _ _ _).1 h3 m hm).imp_right (hasR_mem _ _).1⟩
  · rintro ⟨h1, h2, h3⟩
    unfold buildP
    rw [if_pos h1, if_pos h2, if_pos ((knownB_iff _ _ _).2 fun m hm => (h3 m hm).imp_right (hasR_mem _ _).2)]
theorem buildP_err {R : Regy} {root : Mod} {l : List Mod} (h : (buildP R root l).2 ≠ 0) : (buildP R root l).1 = [] := by
  unfold buildP at h ⊢
  split
  · rename_i h1
    rw [if_pos h1] at h
    split
    · rename_i h2
      rw [if_pos h2] at h
      split
      · rename_i h3
        rw [if_pos h3] at h
        exact absurd rfl h
      · rfl
    · rfl
  · rfl
end Go.Proofs.YtfiilbdkhelhgaaDoor
