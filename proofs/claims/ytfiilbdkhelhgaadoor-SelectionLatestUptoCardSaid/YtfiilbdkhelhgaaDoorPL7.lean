/- Plain: the document's upgraded roots are the program's. -/
import Derived.Test.YtfiilbdkhelhgaaDoorPS7
import Derived.Test.YtfiilbdkhelhgaaDoorPE1
import Derived.Test.YtfiilbdkhelhgaaDoorPGr
namespace Go.Proofs.YtfiilbdkhelhgaaDoor
open Go.RowKit Go.Sort

theorem nodup_inj {β : Type} {l : List β} (hn : l.Nodup) {i j : Nat} (hi : i < l.length) (hj : j < l.length) (he : l[i] = l[j]) : i = j := by
  rcases Nat.lt_trichotomy i j with h | h | h
  · exact absurd he (List.pairwise_iff_getElem.1 hn i j hi hj h)
  · exact h
  · exact absurd he.symm (List.pairwise_iff_getElem.1 hn j i hj hi h)
theorem dupK_full (l : List Mod) : dupK l l.length = !decide ((l.map (·.1)).Nodup) := by
  rw [Bool.eq_iff_iff]
  simp only [Bool.not_eq_true', decide_eq_false_iff_not]
  constructor
  · intro h hn
    unfold dupK at h
    rw [List.any_eq_true] at h
    obtain ⟨i, hi, hd⟩ := h
    rw [List.mem_range] at hi
    unfold dupAt at hd
    rw [List.any_eq_true] at hd
    obtain ⟨y, hy, he⟩ := hd
    obtain ⟨j, hj, rfl⟩ := List.mem_take_iff_getElem.1 hy
    rw [List.getD_eq_getElem?_getD, List.getElem?_eq_getElem hi] at he
    have := nodup_inj hn (i := j) (j := i) (by simp; omega) (by simpa using hi) (by simpa using he)
    omega
  · intro h
    refine Classical.byContradiction fun hc => h ?_
    rw [List.nodup_iff_pairwise_ne, List.pairwise_iff_getElem]
    intro i j hi hj hij he
    simp at hi hj
    refine hc (dupK_true l j l.length hj ?_)
    unfold dupAt
    rw [List.any_eq_true]
    refine ⟨l[i], List.mem_take_iff_getElem.2 ⟨i, by omega, rfl⟩, ?_⟩
    rw [List.getD_eq_getElem?_getD, List.getElem?_eq_getElem hj]
    simpa using he
/-- what a fine manifest is -/
theorem mcheck_iff (m : Mod) (l : List Mod) : mcheck m l = 0 ↔ (∀ x ∈ m :: l, badPath x = false ∧ badVer x = false) ∧ ((m :: l).map (·.1)).Nodup ∧ l.length ≤ 64 := by
  have hd := dupK_full (m :: l)
  rw [List.length_cons] at hd
  unfold mcheck
  rw [hd]
  by_cases h1 : (m :: l).any badPath = true
  · rw [if_pos h1]
    obtain ⟨x, hx, hb⟩ := List.any_eq_true.1 h1
    exact ⟨fun h => absurd h (by decide), fun h => by rw [(h.1 x hx).1] at hb; cases hb⟩
  · rw [if_neg h1]
    by_cases h2 : (m :: l).any badVer = true
    · rw [if_pos h2]
      obtain ⟨x, hx, hb⟩ := List.any_eq_true.1 h2
      exact ⟨fun h => absurd h (by decide), fun h => by rw [(h.1 x hx).2] at hb; cases hb⟩
    · rw [if_neg h2]
      have hg : ∀ x ∈ m :: l, badPath x = false ∧ badVer x = false := fun x hx => ⟨by
        cases hb : badPath x with
        | false => rfl
        | true => exact absurd (List.any_eq_true.2 ⟨x, hx, hb⟩) h1, by
        cases hb : badVer x with
        | false => rfl
        | true => exact absurd (List.any_eq_true.2 ⟨x, hx, hb⟩) h2⟩
      by_cases h3 : ((m :: l).map (·.1)).Nodup
      · rw [decide_eq_true h3, if_neg (by decide)]
        by_cases h4 : 64 < l.length
        · rw [if_pos h4]
          exact ⟨fun h => absurd h (by decide), fun h => absurd h.2.2 (by omega)⟩
        · rw [if_neg h4]
          exact ⟨fun _ => ⟨hg, h3, by omega⟩, fun _ => rfl⟩
      · rw [decide_eq_false h3, if_pos (show (!false) = true from rfl)]
        exact ⟨fun h => absurd h (by decide), fun h => absurd h.2.1 h3⟩
theorem firstBad_all : ∀ {R : Regy}, firstBad R = 0 → ∀ y ∈ R, mcheck y.1 y.2 = 0
  | [], _, y, hy => by cases hy
  | x :: R, h, y, hy => by
    unfold firstBad at h
    split at h
    · rename_i h0
      rcases List.mem_cons.1 hy with rfl | hy
      · exact h0
      · exact firstBad_all h y hy
    · rename_i h0
      exact absurd h h0
theorem hasR_mem (R : Regy) (m : Mod) : hasR R m = true ↔ m ∈ R.map (·.1) := by
  unfold hasR
  rw [List.any_eq_true, List.mem_map]
  simp only [decide_eq_true_eq]
theorem buildP_ok {R : Regy} {root : Mod} {l : List Mod} (h : (buildP R root l).2 = 0) : checkR R = 0 ∧ mcheck root l = 0 ∧ knownB R l root.1 = true ∧ buildP R root l = (listP R root l, 0) := by
  unfold buildP at h ⊢
  by_cases h1 : checkR R = 0
  · rw [if_pos h1] at h ⊢
    by_cases h2 : mcheck root l = 0
    · rw [if_pos h2] at h ⊢
      by_cases h3 : knownB R l root.1 = true
      · rw [if_pos h3]
        exact ⟨h1, h2, h3, rfl⟩
      · rw [if_neg h3] at h
        exact absurd h (by decide)
    · rw [if_neg h2] at h
      exact absurd h h2
  · rw [if_neg h1] at h
    exact absurd h h1
theorem mayP_ok {R : Regy} {root m : Mod} {l : List Mod} (h : mayP R root l m = 0) : (buildP R root l).2 = 0 ∧ hasR R m = true ∧ m.1 ≠ root.1 := by
  unfold mayP at h
  split at h
  · rename_i h1
    split at h
    · rename_i h2
      split at h
      · exact absurd h (by decide)
      · rename_i h3
        exact ⟨h1, h2, h3⟩
    · exact absurd h (by decide)
  · rename_i h1
    exact absurd h h1

theorem upNo {m : Mod} {l : List Mod} (h : ∀ x ∈ l, x.1 ≠ m.1) : l.map (upX m) = l ∧ hasP m l = false ∧ (∀ u : Mod, l.foldl (fun h x => if x.1 = m.1 ∧ 0 < vcmpV x.2 m.2 then x else h) u = u) ∧ l.filter (fun x => decide (x.1 ≠ m.1)) = l := by
  refine ⟨?_, ?_, ?_, ?_⟩
  · refine (List.map_congr_left fun x hx => ?_).trans (List.map_id l)
    unfold upX
    rw [if_neg (fun h2 => h x hx h2.1)]
    rfl
  · unfold hasP
    rw [List.any_eq_false]
    intro x hx
    simpa using h x hx
  · induction l with
    | nil => intro u; rfl
    | cons x l ih =>
      intro u
      rw [List.foldl_cons, if_neg (fun h2 => h x (by simp) h2.1)]
      exact ih (fun y hy => h y (by simp [hy])) u
  · rw [List.filter_eq_self]
    intro x hx
    exact decide_eq_true (h x hx)
theorem upR_perm {m : Mod} {l : List Mod} (hn : (l.map (·.1)).Nodup) : (upR m l).Perm (upL m l) := by
  by_cases hm : ∃ x ∈ l, x.1 = m.1
  · obtain ⟨x, hx, hxm⟩ := hm
    obtain ⟨a, b, rfl⟩ := List.append_of_mem hx
    rw [List.map_append, List.map_cons, List.nodup_append, List.nodup_cons] at hn
    obtain ⟨_, ⟨hb0, _⟩, hab⟩ := hn
    have ha : ∀ y ∈ a, y.1 ≠ m.1 := fun y hy e => hab y.1 (List.mem_map.2 ⟨y, hy, rfl⟩) x.1 (by simp) (by rw [e, hxm])
    have hb : ∀ y ∈ b, y.1 ≠ m.1 := fun y hy e => hb0 (List.mem_map.2 ⟨y, hy, by rw [e, hxm]⟩)
    obtain ⟨a1, a2, a3, a4⟩ := upNo ha
    obtain ⟨b1, b2, b3, b4⟩ := upNo hb
    have hh : hasP m (a ++ x :: b) = true := by
      unfold hasP
      rw [List.any_eq_true]
      exact ⟨x, by simp, decide_eq_true hxm⟩
    have hu : upH m (a ++ x :: b) = upX m x := by
      unfold upH upX
      rw [List.foldl_append, List.foldl_cons, a3, b3]
      have e := vcmpV_anti x.2 m.2
      by_cases h1 : 0 < vcmpV x.2 m.2
      · rw [if_pos ⟨hxm, h1⟩, if_neg (fun h2 => by omega)]
      · rw [if_neg (fun h2 => h1 h2.2)]
        by_cases h2 : vcmpV x.2 m.2 < 0
        · rw [if_pos ⟨hxm, h2⟩]
        · rw [if_neg (fun h3 => h2 h3.2)]
          exact (Prod.ext hxm (vcmpV_eq (by omega))).symm
    unfold upR upL
    rw [hu, hh, if_pos rfl, List.append_nil, List.map_append, List.map_cons, a1, b1, List.filter_append, List.filter_cons, if_neg (by simp [hxm]), a4, b4]
    exact List.perm_middle.symm
  · have h : ∀ x ∈ l, x.1 ≠ m.1 := fun x hx e => hm ⟨x, hx, e⟩
    obtain ⟨a1, a2, a3, a4⟩ := upNo h
    unfold upR upL
    rw [a1, a2, a4, if_neg (by decide)]
    unfold upH
    rw [a3]
    exact (List.perm_append_comm (l₁ := [m]) (l₂ := l))
theorem msort_perm_eq {l l' : List Mod} (h : l'.Perm l) : msort l' = msort l := msort_of (h.trans (List.mergeSort_perm l _).symm) (msort_sorted l)
theorem upR_sort {R : Regy} {root m : Mod} {l : List Mod} (h : mayP R root l m = 0) : msort (upR m l) = msort (upL m l) := by
  have h1 := ((mcheck_iff _ _).1 (buildP_ok (mayP_ok h).1).2.1).2.1
  rw [List.map_cons, List.nodup_cons] at h1
  exact msort_perm_eq (upR_perm h1.2)

theorem topS_spec : ∀ (L : List Mod) (x : Mod), (L.foldl topS x).1 = x.1 ∧ (L.foldl topS x = x ∨ L.foldl topS x ∈ L) ∧ vcmpV x.2 (L.foldl topS x).2 ≤ 0 ∧ ∀ y ∈ L, y.1 = x.1 → vcmpV y.2 (L.foldl topS x).2 ≤ 0
  | [], x => ⟨rfl, .inl rfl, by rw [List.foldl_nil, vcmpV_refl]; exact Int.le_refl _, fun y hy => by cases hy⟩
  | z :: L, x => by
    rw [List.foldl_cons]
    obtain ⟨h1, h2, h3, h4⟩ := topS_spec L (topS x z)
    have e1 : (topS x z).1 = x.1 := by unfold topS; split <;> simp_all
    have e2 : vcmpV x.2 (topS x z).2 ≤ 0 := by
      unfold topS
      split
      · rename_i h
        have := vcmpV_anti x.2 z.2
        have := h.2
        omega
      · rw [vcmpV_refl]; exact Int.le_refl _
    have e3 : z.1 = x.1 → vcmpV z.2 (topS x z).2 ≤ 0 := fun hz => by
      unfold topS
      split
      · rw [vcmpV_refl]; exact Int.le_refl _
      · rename_i h
        exact Int.not_lt.1 fun h' => h ⟨hz, h'⟩
    refine ⟨h1.trans e1, ?_, vcmpV_trans e2 h3, fun y hy hyx => ?_⟩
    · rcases h2 with h2 | h2
      · rw [h2]
        unfold topS
        split
        · exact .inr (by simp)
        · exact .inl rfl
      · exact .inr (by simp [h2])
    · rcases List.mem_cons.1 hy with rfl | hy
      · exact vcmpV_trans (e3 hyx) h3
      · exact h4 y hy (hyx.trans e1.symm)
theorem topX_spec (R : Regy) {x : Mod} (hx : x ∈ R.map (·.1)) : (topX R x).1 = x.1 ∧ topX R x ∈ R.map (·.1) ∧ ∀ y ∈ R.map (·.1), y.1 = x.1 → vcmpV y.2 (topX R x).2 ≤ 0 := by
  obtain ⟨h1, h2, _, h4⟩ := topS_spec (R.map (·.1)) x
  refine ⟨h1, ?_, h4⟩
  rcases h2 with h2 | h2
  · unfold topX
    rw [h2]
    exact hx
  · exact h2
theorem topX_greatest (R : Regy) {x : Mod} (hx : x ∈ R.map (·.1)) : greatestP (R.map (·.1)) x.1 = some (topX R x) := by
  obtain ⟨h1, h2, h3⟩ := topX_spec R hx
  exact (greatest_iff _ _ _).2 ⟨h2, h1, h3⟩

/-- the modules of a build list, apart from the root's -/
structure Tail (R : Regy) (root : Mod) (D : List Mod) : Prop where
  mem : ∀ x ∈ D, x ∈ R.map (·.1) ∧ x.1 ≠ root.1
  nod : (D.map (·.1)).Nodup
  srt : D.Pairwise (leOf (ltOf mcmp))
theorem topL_paths (rp : List UInt8) {S : List Mod} (h : S.Nodup) : ((topL rp S).map (·.1)).Nodup := by
  rw [List.nodup_iff_pairwise_ne, List.pairwise_map]
  refine List.Pairwise.imp_of_mem (fun {a b} ha hb hne he => hne ?_) (List.nodup_iff_pairwise_ne.1 (topL_nodup rp h))
  obtain ⟨a1, _, a3⟩ := (topL_mem _ _ _).1 ha
  obtain ⟨b1, _, b3⟩ := (topL_mem _ _ _).1 hb
  have h1 := a3 b b1 he.symm
  have h2 := b3 a a1 he
  have h3 := vcmpV_anti a.2 b.2
  exact Prod.ext he (vcmpV_eq (by omega))
theorem build_tail {R : Regy} {root : Mod} {l : List Mod} (h : (buildP R root l).2 = 0) : Tail R root ((buildP R root l).1.drop 1) := by
  obtain ⟨_, _, h3, h4⟩ := buildP_ok h
  rw [h4]
  show Tail R root (msort (topL root.1 (needL R l)))
  refine ⟨fun x hx => ?_, ?_, msort_sorted _⟩
  · obtain ⟨h5, h6, _⟩ := (topL_mem _ _ _).1 (msort_mem.1 hx)
    refine ⟨(hasR_mem _ _).1 (((knownB_iff _ _ _).1 h3 x ((needL_mem _ _ _).1 h5)).resolve_left h6), h6⟩
  · exact ((List.mergeSort_perm _ _).map _).nodup_iff.2 (topL_paths root.1 (needL_nodup R l))
theorem Tail.len {R : Regy} {root : Mod} {D : List Mod} (h : Tail R root D) : D.length ≤ R.length := by
  have hn : D.Nodup := by
    have h1 := h.nod
    rw [List.nodup_iff_pairwise_ne, List.pairwise_map] at h1
    exact List.nodup_iff_pairwise_ne.2 (h1.imp fun h2 e => h2 (by rw [e]))
  have := nodup_len D (R.map (·.1)) hn fun x hx => (h.mem x hx).1
  simpa using this
theorem Tail.up {R : Regy} {root : Mod} {D : List Mod} (h : Tail R root D) : Tail R root (allL R D) := by
  have hp : (allL R D).map (·.1) = D.map (·.1) := by
    unfold allL
    rw [List.map_map]
    exact List.map_congr_left fun x hx => (topX_spec R (h.mem x hx).1).1
  refine ⟨fun x hx => ?_, by rw [hp]; exact h.nod, ?_⟩
  · obtain ⟨y, hy, rfl⟩ := List.mem_map.1 hx
    obtain ⟨h1, h2, _⟩ := topX_spec R (h.mem y hy).1
    exact ⟨h2, by rw [h1]; exact (h.mem y hy).2⟩
  · unfold allL
    rw [List.pairwise_map]
    have h1 := h.nod
    rw [List.nodup_iff_pairwise_ne, List.pairwise_map] at h1
    refine List.Pairwise.imp_of_mem (fun {a b} ha hb hab => ?_) (h.srt.and h1)
    obtain ⟨hle, hne⟩ := hab
    unfold leOf at hle ⊢
    refine Bool.eq_false_iff.2 fun hc => ?_
    rw [mlt_iff, (topX_spec R (h.mem a ha).1).1, (topX_spec R (h.mem b hb).1).1] at hc
    rcases hc with hc | hc
    · rw [(mlt_iff b a).2 (.inl hc)] at hle
      cases hle
    · exact hne hc.1.symm
theorem Tail.check {R : Regy} {root : Mod} {D l : List Mod} (h : Tail R root D) (hR : checkR R = 0) (hl : mcheck root l = 0) (hn : D.length ≤ 64) : mcheck root D = 0 := by
  refine (mcheck_iff _ _).2 ⟨fun x hx => ?_, ?_, hn⟩
  · rcases List.mem_cons.1 hx with rfl | hx
    · exact ((mcheck_iff _ _).1 hl).1 _ (by simp)
    · obtain ⟨y, hy, rfl⟩ := List.mem_map.1 (h.mem x hx).1
      exact ((mcheck_iff _ _).1 (firstBad_all (checkR_ok hR).1 y hy)).1 _ (by simp)
  · rw [List.map_cons, List.nodup_cons]
    refine ⟨fun hm => ?_, h.nod⟩
    obtain ⟨x, hx, he⟩ := List.mem_map.1 hm
    exact (h.mem x hx).2 he
theorem Tail.sort {R : Regy} {root : Mod} {D : List Mod} (h : Tail R root D) : msort D = D := msort_of (List.Perm.refl _) h.srt
/-- the document's root that requires the greatest versions -/
def rallL (R : Regy) (l : List Mod) : List Mod := l.map fun x => (greatestP (R.map (·.1)) x.1).getD zmod
def rupallP (R : Regy) (root : Mod) (l : List Mod) : (Mod × List Mod) × Int :=
  if (buildP R root l).2 = 0 then
    if 65 < (buildP R root l).1.length then ((zmod, []), 2) else ((root, rallL R ((buildP R root l).1.drop 1)), 0)
  else ((zmod, []), (buildP R root l).2)
theorem rupall_eq {R : Regy} {root : Mod} {l : List Mod} (hR : R.length ≤ 64) : rupallP R root l = upallP R root l := by
  unfold rupallP upallP
  by_cases h : (buildP R root l).2 = 0
  · rw [if_pos h, if_pos h]
    have hT := build_tail h
    obtain ⟨h1, h2, _, h4⟩ := buildP_ok h
    have hlen := hT.len
    have hU := hT.up
    have hulen : (allL R ((buildP R root l).1.drop 1)).length = ((buildP R root l).1.drop 1).length := List.length_map _
    rw [if_neg (by rw [List.length_drop] at hlen; omega), if_pos (hU.check h1 h2 (by omega)), hU.sort]
    congr 2
    unfold rallL allL
    exact List.map_congr_left fun x hx => by rw [topX_greatest R (hT.mem x hx).1]; rfl
  · rw [if_neg h, if_neg h]
end Go.Proofs.YtfiilbdkhelhgaaDoor
