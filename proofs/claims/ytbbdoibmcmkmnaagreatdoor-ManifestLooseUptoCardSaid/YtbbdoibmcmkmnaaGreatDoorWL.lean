/- Sorting: rows of structs in new memory, and modules. -/
import Derived.Test.YtbbdoibmcmkmnaaGreatDoorWK
import Derived.Lib.QuietBelow
namespace Go.Proofs.YtbbdoibmcmkmnaaGreatDoor
open Go.RowKit Go.Sort

theorem grow_of_belowD {w w' : World} (h : BelowD w.heap.size w w') : ∃ q os', w' = grow (w.drewN q) os' := by
  obtain ⟨p, rfl⟩ := regrown_of_below h.toBelow
  have hd : w.drawn ≤ p.d := h.drawn
  refine ⟨p.d - w.drawn, p.os, ?_⟩
  have e : redrawn w p.d = w.drewN (p.d - w.drawn) := by
    unfold redrawn World.drewN
    congr 1
    omega
  rw [e]

section
variable {α : Type} [Inhabited α] {enc : α → List Value} {k : Nat}
theorem getBang_of {β : Type} [Inhabited β] {l : List β} {i : Nat} {v : β} (h : l[i]? = some v) : l[i]! = v := by simp [h]
theorem holdsK_of_owns (hk : ∀ x, (enc x).length = k) {w : World} {base : Nat} {e : TypeId} {v : Value} {l : List α} (h : w.ownsRow base e k v l.length (l.flatMap enc)) (hv : v ≠ .slice none 0 0) :
    ∃ g cap, v = .slice (some ⟨g, 0, none⟩) l.length cap ∧ base ≤ g ∧ g < w.heap.size ∧ HoldsK enc k w g 0 l.toArray := by
  have hw := h
  rcases h.2 with ⟨rfl, _⟩ | ⟨g, cap, cur, rfl, hbase, hh, _⟩
  · exact absurd rfl hv
  · have hlt : g < w.heap.size := by
      rcases Nat.lt_or_ge g w.heap.size with hlt | hge
      · exact hlt
      · rw [Array.getElem?_eq_none hge] at hh; cases hh
    refine ⟨g, cap, rfl, hbase, hlt, fun j hj => ?_⟩
    simp only [size_flatK, List.size_toArray] at hj
    refine ⟨?_, by simp [World.frozen?, hh]⟩
    obtain ⟨h1, h2, h3⟩ := flat_split hj
    rw [Nat.zero_add, hw.cellAt j hj, get_flatK _ _ _ _ (by simpa using hj)]
    have hi : j % k < (enc l[j / k]).length := by rw [hk]; exact h2
    have e1 : (l.flatMap enc)[j]? = (enc l[j / k])[j % k]? := by
      have := flat_at hk l _ h1 _ h2
      rwa [← h3] at this
    rw [e1]
    simp [h1, hi]
theorem sl_of_holdsK (hk : ∀ x, (enc x).length = k) {w : World} {blk off : Nat} {l : List α} (h : HoldsK enc k w blk off l.toArray) (hb : blk < w.heap.size) : Sl w w.heap.size k enc (some ⟨blk, off, none⟩) l := by
  refine .inr ⟨blk, off, rfl, hb, fun i hi j v hv => ?_⟩
  have hj : j < k := by rw [← hk l[i]]; exact (List.getElem?_eq_some_iff.1 hv).1
  have := (h.cell (i := i) (c := j) (by simpa using hi) hj).1
  rw [this]
  congr 1
  have e : (l.toArray)[i]! = l[i] := by simp [hi]
  rw [e]
  exact getBang_of hv
theorem below_sortWorldK {w : World} {base blk off m : Nat} {dk : Array α} {os : Array Obj} (h1 : base ≤ blk) (h2 : blk < w.heap.size) : Below base w (sortWorldK enc k w blk off m dk os) := by
  refine ⟨rfl, rfl, rfl, size_sortWorldK_c enc k w blk off m dk os, fun i hi => ?_⟩
  unfold sortWorldK
  rw [heap_grow_old _ _ (by rw [size_putRowK]; show i < w.heap.size; omega)]
  unfold putRowK putRow mapBlock
  simp only [Array.getElem?_modify]
  rw [if_neg (by omega)]
  rfl
end

/-- the order of modules -/
def mlt (x y : Mod) : Bool := ltOf mcmp x y
theorem vcmp_flip (x y z x' y' z' : Int) : vcmp x y z x' y' z' < 0 ↔ 0 < vcmp x' y' z' x y z := by
  unfold vcmp; repeat' split
  all_goals omega
theorem mlt_iff (m n : Mod) : ltOf mcmp m n = true ↔ Op.bytesLess m.1 n.1 = true ∨ (m.1 = n.1 ∧ vcmp m.2.1 m.2.2.1 m.2.2.2 n.2.1 n.2.2.1 n.2.2.2 < 0) := by
  unfold ltOf
  rw [decide_eq_true_iff]
  unfold mcmp
  by_cases h1 : Op.bytesLess m.1 n.1 = true
  · simp [h1]
  · by_cases h2 : m.1 = n.1
    · simp [h2, bl_irrefl]
    · simp [h1, h2]
theorem mlt_total (m n : Mod) (h1 : ltOf mcmp m n = false) (h2 : ltOf mcmp n m = false) : m = n := by
  have a : ¬ ltOf mcmp m n = true := by simp [h1]
  have b : ¬ ltOf mcmp n m = true := by simp [h2]
  rw [mlt_iff] at a b
  have e : m.1 = n.1 := bl_total _ _ (by simpa using fun h => a (.inl h)) (by simpa using fun h => b (.inl h))
  have a' : ¬ vcmp m.2.1 m.2.2.1 m.2.2.2 n.2.1 n.2.2.1 n.2.2.2 < 0 := fun h => a (.inr ⟨e, h⟩)
  have b' : ¬ vcmp n.2.1 n.2.2.1 n.2.2.2 m.2.1 m.2.2.1 m.2.2.2 < 0 := fun h => b (.inr ⟨e.symm, h⟩)
  rw [vcmp_flip] at b'
  refine (mcmp_eq m n).1 ?_
  unfold mcmp
  rw [e, bl_irrefl]
  simp
  omega
theorem mlt_trans (x y z : Mod) (h1 : ltOf mcmp x y = true) (h2 : ltOf mcmp y z = true) : ltOf mcmp x z = true := by
  rw [mlt_iff] at *
  rcases h1 with h1 | ⟨e1, h1⟩
  · rcases h2 with h2 | ⟨e2, h2⟩
    · exact .inl (bl_trans _ _ _ h1 h2)
    · exact .inl (e2 ▸ h1)
  · rcases h2 with h2 | ⟨e2, h2⟩
    · exact .inl (e1 ▸ h2)
    · refine .inr ⟨e1.trans e2, ?_⟩
      rw [vcmp_neg] at *
      omega
theorem mlt_irrefl (x : Mod) : ltOf mcmp x x = false := by simp [ltOf, mcmp_refl]
theorem swo_of {β : Type} {lt : β → β → Bool} (h1 : ∀ x, lt x x = false) (h2 : ∀ x y z, lt x y = true → lt y z = true → lt x z = true) (h3 : ∀ x y, lt x y = false → lt y x = false → x = y) : SWO lt where
  irrefl := h1
  trans := h2
  ntrans x y z a b := by
    cases hyx : lt y x
    · rw [h3 x y a hyx]; exact b
    · cases hxz : lt x z
      · rfl
      · have := h2 y x z hyx hxz
        rw [b] at this; cases this
theorem mlt_swo : SWO (ltOf mcmp) := swo_of mlt_irrefl mlt_trans mlt_total
/-- modules, sorted -/
def msort (l : List Mod) : List Mod := l.mergeSort fun x y => !(ltOf mcmp) y x
theorem msort_len (l : List Mod) : (msort l).length = l.length := List.length_mergeSort l
theorem encM_one1 (x : Mod) : ∀ v ∈ encM x, v.oneCell' = true := fun v hv => by
  simp [encM] at hv
  rcases hv with rfl | rfl | rfl | rfl <;> rfl

/-- modules in new memory are sorted in place -/
theorem sortM_any (v : Value) (l : List Mod) (w : World) (base : Nat) (h : w.ownsRow base 25 4 v l.length (l.flatMap encM)) (hv : v ≠ .slice none 0 0) (hl : l.length ≤ 1099511627776) :
    Calls Tryz.prog 59 #[v, .func (.func 23) #[] #[]] w fun e w' => e = .returned (.tuple #[]) ∧ (∃ A c, v = .slice A l.length c ∧ l.length ≤ c ∧ Sl w' w'.heap.size 4 encM A (msort l)) ∧ Below base w w' := by
  have hcap : ∀ A n c, v = .slice A n c → l.length ≤ c := by
    rcases h.2 with ⟨rfl, _⟩ | ⟨g, cap, cur, rfl, _, _, hc, _⟩
    · exact absurd rfl hv
    · intro A n c e
      injection e with _ _ e3
      omega
  obtain ⟨g, cap, rfl, hbase, hlt, hH⟩ := holdsK_of_owns encM_len h hv
  refine (AnyQ.slices_SortFunc_total Tryz.sortM 4 Tryz.isAgg25 Tryz.sizeOf25 encM encM_len encM_one1 mcmp mlt_swo 23 #[] g 0 cap l.toArray w (enters_of Tryz.func23 (by kernel_rfl) rfl)
    (fun m os dk _ x y => (mCompare_any x.1 y.1 x.2.1 x.2.2.1 x.2.2.2 y.2.1 y.2.2.1 y.2.2.2 _).mono fun e w' ⟨h1, h2⟩ => ⟨h1, grow_of_belowD h2⟩) hH hlt (by simp; omega) mlt_total).mono ?_
  rintro e w' ⟨rfl, n, os, rfl⟩
  refine ⟨rfl, ⟨_, _, rfl, hcap _ _ _ rfl, ?_⟩, below_sortWorldK hbase hlt⟩
  refine sl_of_holdsK encM_len (holdsK_sortWorldK_c encM 4 w g 0 l.toArray _ n os hH hlt (by simp)) ?_
  exact Nat.lt_of_lt_of_le hlt (size_sortWorldK_c encM 4 w g 0 n _ os)
end Go.Proofs.YtbbdoibmcmkmnaaGreatDoor
