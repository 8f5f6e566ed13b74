/- Plain: orders, upgraded and downgraded roots. -/
import Derived.Test.YtfiilbdkhelhgaaDoorPL8
import Derived.Test.YtfiilbdkhelhgaaDoorPGr
namespace Go.Proofs.YtfiilbdkhelhgaaDoor
open Go.RowKit Go.Sort

theorem reqOf_perm {R R' : Regy} (hp : R'.Perm R) (hn : (R.map (·.1)).Nodup) (m : Mod) : reqOf R' m = reqOf R m := by
  have hn' := ((hp.map (·.1)).nodup_iff).2 hn
  by_cases hm : m ∈ R.map (·.1)
  · obtain ⟨y, hy, rfl⟩ := List.mem_map.1 hm
    rw [reqOf_of hn hy, reqOf_of hn' (hp.mem_iff.2 hy)]
  · rw [reqOf_not hm, reqOf_not (fun h => hm ((hp.map (·.1)).mem_iff.1 h))]
theorem reach_perm {R R' : Regy} {l l' : List Mod} (hp : R'.Perm R) (hn : (R.map (·.1)).Nodup) (hl : ∀ x, x ∈ l' ↔ x ∈ l) (m : Mod) : Reach R' l' m ↔ Reach R l m := by
  constructor
  · intro h
    induction h with
    | base h => exact .base ((hl _).1 h)
    | step _ h2 ih => exact .step ih (by rw [← reqOf_perm hp hn]; exact h2)
  · intro h
    induction h with
    | base h => exact .base ((hl _).2 h)
    | step _ h2 ih => exact .step ih (by rw [reqOf_perm hp hn]; exact h2)
theorem hasR_perm {R R' : Regy} (hp : R'.Perm R) (m : Mod) : hasR R' m = hasR R m := by
  rw [Bool.eq_iff_iff, hasR_mem, hasR_mem]
  exact (hp.map (·.1)).mem_iff
theorem buildP_perm {R R' : Regy} {root : Mod} {l l' : List Mod} (hp : R'.Perm R) (hl : l'.Perm l) (h : (buildP R root l).2 = 0) : buildP R' root l' = buildP R root l := by
  obtain ⟨h1, h2, h3⟩ := (buildP_iff _ _ _).1 h
  have hn := ((checkR_iff R).1 h1).2
  have hr := reach_perm hp hn (l := l) (l' := l') fun x => hl.mem_iff
  have h' : (buildP R' root l').2 = 0 := by
    refine (buildP_iff _ _ _).2 ⟨(checkR_iff R').2 ⟨fun y hy => ((checkR_iff R).1 h1).1 y (hp.mem_iff.1 hy), ((hp.map _).nodup_iff).2 hn⟩, ?_, fun m hm => (h3 m ((hr m).1 hm)).imp_right (hp.map (·.1)).mem_iff.2⟩
    obtain ⟨a, b, c⟩ := (mcheck_iff root l).1 h2
    exact (mcheck_iff root l').2 ⟨fun x hx => a x ((hl.cons root).mem_iff.1 hx), (((hl.cons root).map _).nodup_iff).2 b, by rw [hl.length_eq]; exact c⟩
  rw [(buildP_ok h).2.2.2, (buildP_ok h').2.2.2]
  unfold listP
  rw [topL_congr root.1 (S := needL R' l') (S' := needL R l) (fun m => by rw [needL_mem, needL_mem]; exact hr m) (needL_nodup _ _) (needL_nodup _ _)]
theorem lowP_perm {R R' : Regy} (hp : R'.Perm R) (hn : (R.map (·.1)).Nodup) (rp : List UInt8) (m x : Mod) : lowP R' rp m x = lowP R rp m x := by
  unfold lowP
  rw [Bool.eq_iff_iff, List.all_eq_true, List.all_eq_true]
  simp only [hasR_perm hp]
  have hm : ∀ y, y ∈ needL R' [x] ↔ y ∈ needL R [x] := fun y => by rw [needL_mem, needL_mem]; exact reach_perm hp hn (fun _ => Iff.rfl) y
  exact ⟨fun h y hy => h y ((hm y).2 hy), fun h y hy => h y ((hm y).1 hy)⟩
theorem greatest_congr {L L' : List Mod} (h : ∀ x, x ∈ L' ↔ x ∈ L) (p : List UInt8) : greatestP L' p = greatestP L p := by
  cases hg : greatestP L p with
  | none => exact (greatest_spec p L').1.2 fun x hx => (greatest_spec p L).1.1 hg x ((h x).1 hx)
  | some g =>
    obtain ⟨a, b, c⟩ := (greatest_spec p L).2 g hg
    exact (greatest_iff _ _ _).2 ⟨(h g).2 a, b, fun x hx => c x ((h x).1 hx)⟩
theorem downB_perm {R R' : Regy} (hp : R'.Perm R) (hn : (R.map (·.1)).Nodup) (rp : List UInt8) (m x : Mod) : downB R' rp m x = downB R rp m x := by
  rw [downB_eq, downB_eq]
  refine greatest_congr (fun z => ?_) _
  rw [List.mem_filter, List.mem_filter, (hp.map (·.1)).mem_iff]
  unfold fitP
  rw [lowP_perm hp hn]
theorem downP_perm {R R' : Regy} {root m : Mod} {l l' : List Mod} (hp : R'.Perm R) (hl : l'.Perm l) (h : (buildP R root l).2 = 0) : downP R' root l' m = downP R root l m := by
  have hn := built_nodup h
  have h1 : mayP R' root l' m = mayP R root l m := by
    unfold mayP
    rw [buildP_perm hp hl h, hasR_perm hp]
  have h2 : msort (downL R' root.1 m l') = msort (downL R root.1 m l) := by
    refine msort_perm_eq ?_
    unfold downL
    rw [show downB R' root.1 m = downB R root.1 m from funext fun x => downB_perm hp hn _ _ _]
    exact hl.filterMap _
  unfold downP
  rw [h1, h2]

theorem upL_has {m : Mod} (l : List Mod) : ∃ x ∈ upL m l, x.1 = m.1 ∧ 0 ≤ vcmpV x.2 m.2 := by
  unfold upL
  by_cases h : hasP m l = true
  · rw [if_pos h, List.append_nil]
    unfold hasP at h
    obtain ⟨x, hx, he⟩ := List.any_eq_true.1 h
    have he := of_decide_eq_true he
    refine ⟨upX m x, List.mem_map.2 ⟨x, hx, rfl⟩, ?_, ?_⟩
    · unfold upX
      split
      · rfl
      · exact he
    · unfold upX
      split
      · rw [vcmpV_refl]
        exact Int.le_refl _
      · rename_i h2
        exact Int.not_lt.1 fun h3 => h2 ⟨he, h3⟩
  · rw [if_neg h]
    exact ⟨m, by simp, rfl, by rw [vcmpV_refl]; exact Int.le_refl _⟩
theorem upgradeP_ok {R : Regy} {root m : Mod} {l : List Mod} (h : (upgradeP R root l m).2 = 0) : ∃ o, upgradeP R root l m = ((root, o), 0) ∧ (buildP R root o).2 = 0 ∧ ∃ g, hasV (buildP R root o).1 m.1 = some g ∧ 0 ≤ vcmpV g.2 m.2 := by
  unfold upgradeP at h ⊢
  by_cases h1 : mayP R root l m = 0
  · rw [if_pos h1] at h ⊢
    by_cases h2 : (buildP R root (msort (upL m l))).2 = 0
    · rw [if_pos h2]
      refine ⟨_, rfl, h2, ?_⟩
      obtain ⟨D, hD⟩ := built h2
      obtain ⟨x, hx, hp, hv⟩ := upL_has (m := m) l
      have hne := (mayP_ok h1).2.2
      obtain ⟨g, hg, g1, g2⟩ := hD.top x (.base (msort_mem.2 hx)) (by rw [hp]; exact hne)
      refine ⟨g, ?_, ?_⟩
      · rw [hD.eq]
        show hasV (root :: D) m.1 = some g
        rw [← hp, ← g1]
        exact hasV_of hD.nod (List.mem_cons_of_mem _ hg)
      · have e1 := vcmpV_anti x.2 m.2
        have e2 := vcmpV_anti g.2 m.2
        have e3 := vcmpV_trans (a := m.2) (b := x.2) (c := g.2) (by omega) g2
        omega
    · rw [if_neg h2] at h
      exact absurd h h2
  · rw [if_neg h1] at h
    exact absurd h h1
theorem reach_one {R : Regy} {d : List Mod} {y : Mod} (h : Reach R d y) : ∃ z ∈ d, Reach R [z] y := by
  induction h with
  | base h => exact ⟨_, h, .base (by simp)⟩
  | step _ h2 ih =>
    obtain ⟨z, hz, hr⟩ := ih
    exact ⟨z, hz, .step hr h2⟩
theorem downB_some {R : Regy} {rp : List UInt8} {m x z : Mod} (h : downB R rp m x = some z) : z ∈ R.map (·.1) ∧ z.1 = x.1 ∧ lowP R rp m z = true := by
  rw [downB_eq] at h
  obtain ⟨a, b, _⟩ := (greatest_spec _ _).2 z h
  obtain ⟨a1, a2⟩ := List.mem_filter.1 a
  unfold fitP at a2
  simp only [Bool.and_eq_true] at a2
  exact ⟨a1, b, a2.2.2⟩
theorem downL_paths {R : Regy} {rp : List UInt8} {m : Mod} : ∀ l : List Mod, ((downL R rp m l).map (·.1)).Sublist (l.map (·.1))
  | [] => List.Sublist.refl _
  | x :: l => by
    have ih := downL_paths (R := R) (rp := rp) (m := m) l
    unfold downL at ih ⊢
    rw [List.filterMap_cons]
    cases hb : downB R rp m x with
    | none => exact ih.cons _
    | some z =>
      simp only [List.map_cons]
      rw [(downB_some hb).2.1]
      exact ih.cons_cons _
theorem downP_ok {R : Regy} {root m : Mod} {l : List Mod} (h : (downP R root l m).2 = 0) :
    ∃ d, downP R root l m = ((root, d), 0) ∧ (buildP R root d).2 = 0 ∧ (∀ g, hasV (buildP R root d).1 m.1 = some g → vcmpV g.2 m.2 ≤ 0) ∧ d.length ≤ l.length := by
  unfold downP at h ⊢
  by_cases h1 : mayP R root l m = 0
  · rw [if_pos h1]
    obtain ⟨hb, _, hne⟩ := mayP_ok h1
    obtain ⟨c1, c2, _⟩ := (buildP_iff _ _ _).1 hb
    have hz : ∀ z ∈ msort (downL R root.1 m l), z ∈ R.map (·.1) ∧ lowP R root.1 m z = true := fun z hz => by
      obtain ⟨x, hx, hd⟩ := List.mem_filterMap.1 (msort_mem.1 hz)
      exact ⟨(downB_some hd).1, (downB_some hd).2.2⟩
    have hlen : (msort (downL R root.1 m l)).length ≤ l.length := by
      rw [msort_len]
      exact List.length_filterMap_le _ _
    have hlow : ∀ y, Reach R (msort (downL R root.1 m l)) y → (y.1 = root.1 ∨ y ∈ R.map (·.1)) ∧ (y.1 ≠ m.1 ∨ vcmpV y.2 m.2 ≤ 0) := fun y hy => by
      obtain ⟨z, hzd, hr⟩ := reach_one hy
      have hl := (hz z hzd).2
      unfold lowP at hl
      have h3 := List.all_eq_true.1 hl y ((needL_mem _ _ _).2 hr)
      simp only [Bool.and_eq_true, Bool.or_eq_true, decide_eq_true_eq, Bool.not_eq_true', decide_eq_false_iff_not, hasR_mem] at h3
      exact h3
    obtain ⟨a, b, c⟩ := (mcheck_iff root l).1 c2
    rw [List.map_cons, List.nodup_cons] at b
    have hs := downL_paths (R := R) (rp := root.1) (m := m) l
    have hB : (buildP R root (msort (downL R root.1 m l))).2 = 0 := by
      refine (buildP_iff _ _ _).2 ⟨c1, (mcheck_iff _ _).2 ⟨fun x hx => ?_, ?_, by omega⟩, fun y hy => (hlow y hy).1⟩
      · rcases List.mem_cons.1 hx with rfl | hx
        · exact a _ (by simp)
        · obtain ⟨y, hy, rfl⟩ := List.mem_map.1 (hz x hx).1
          exact ((mcheck_iff _ _).1 (firstBad_all (checkR_ok c1).1 y hy)).1 _ (by simp)
      · have hpm : (msort (downL R root.1 m l)).Perm (downL R root.1 m l) := List.mergeSort_perm _ _
        rw [List.map_cons, List.nodup_cons, (hpm.map (·.1)).nodup_iff, (hpm.map (·.1)).mem_iff]
        exact ⟨fun hm => b.1 (hs.subset hm), hs.nodup b.2⟩
    refine ⟨_, rfl, hB, fun g hg => ?_, hlen⟩
    obtain ⟨D, hD⟩ := built hB
    rw [hD.eq] at hg
    obtain ⟨g1, g2⟩ := hasV_some hg
    rcases List.mem_cons.1 g1 with rfl | g1
    · exact absurd g2.symm hne
    · exact ((hlow g (hD.rch g g1)).2).resolve_left fun h => h g2
  · rw [if_neg h1] at h
    exact absurd h h1

/-- a root that requires the greatest versions has a build list, or none is known -/
theorem upall_ok {R : Regy} {root : Mod} {l D : List Mod} (hR : R.length ≤ 64) (h : Built R root l D) :
    upallP R root l = ((root, allL R D), 0) ∧ ((buildP R root (allL R D)).2 = 0 ∨ (buildP R root (allL R D)).2 = 7) ∧
      ((buildP R root (allL R D)).2 = 0 → ∀ x ∈ D, ∃ v, hasV (buildP R root (allL R D)).1 x.1 = some v ∧ ∀ y ∈ R.map (·.1), y.1 = x.1 → 0 ≤ vcmpV v.2 y.2) := by
  have h0 : (buildP R root l).2 = 0 := by rw [h.eq]
  obtain ⟨c1, c2, _⟩ := (buildP_iff _ _ _).1 h0
  have hU := h.tail.up
  have hlen : (allL R D).length ≤ 64 := by
    have := h.tail.len
    unfold allL
    rw [List.length_map]
    omega
  have hc := hU.check c1 c2 hlen
  refine ⟨?_, ?_, fun hB x hx => ?_⟩
  · unfold upallP
    rw [if_pos h0, h.eq]
    show (if mcheck root (allL R D) = 0 then _ else _) = _
    rw [if_pos hc]
    show ((root, msort (allL R D)), (0 : Int)) = _
    rw [hU.sort]
  · unfold buildP
    rw [if_pos c1, if_pos hc]
    split
    · exact .inl rfl
    · exact .inr rfl
  · obtain ⟨D', hD'⟩ := built hB
    obtain ⟨t1, _, t3⟩ := topX_spec R (h.tail.mem x hx).1
    obtain ⟨g, hg, g1, g2⟩ := hD'.top (topX R x) (.base (List.mem_map.2 ⟨x, hx, rfl⟩)) (by rw [t1]; exact (h.tail.mem x hx).2)
    refine ⟨g, ?_, fun y hy he => ?_⟩
    · rw [hD'.eq]
      show hasV (root :: D') x.1 = some g
      rw [← t1, ← g1]
      exact hasV_of hD'.nod (List.mem_cons_of_mem _ hg)
    · have := vcmpV_trans (t3 y hy he) g2
      have := vcmpV_anti y.2 g.2
      omega
end Go.Proofs.YtfiilbdkhelhgaaDoor
