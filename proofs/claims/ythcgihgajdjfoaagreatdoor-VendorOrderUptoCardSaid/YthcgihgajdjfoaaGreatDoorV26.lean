/- What the claim needs of: WR5 PL7 PL8 LB6. -/
import Derived.Test.YthcgihgajdjfoaaGreatDoorV25
import Derived.Test.YthcgihgajdjfoaaGreatDoorV10
import Derived.Test.YthcgihgajdjfoaaGreatDoorV24
namespace Go.Proofs.YthcgihgajdjfoaaGreatDoor
open Go.RowKit Go.Sort
section
variable {P : Program}
end
theorem greatest_spec (p : List UInt8) : ∀ (l : List Mod), (greatestP l p = none ↔ ∀ x ∈ l, x.1 ≠ p) ∧ ∀ m, greatestP l p = some m → m ∈ l ∧ m.1 = p ∧ ∀ x ∈ l, x.1 = p → vcmpV x.2 m.2 ≤ 0 := by
 intro l
 induction l using snoc_ind with
 | h0 => exact ⟨by simp [greatestP], by simp [greatestP]⟩
 | h1 l x ih =>
   have e : greatestP (l ++ [x]) p = gstep p (greatestP l p) x := by unfold greatestP; rw [List.foldl_append]; rfl
   rw [e]
   unfold gstep
   by_cases hx : x.1 = p
   ·rw [if_pos hx]
    cases hg : greatestP l p with
    | none =>
      have h0 := ih.1.1 hg
      refine ⟨⟨fun h => by simp at h, fun h => absurd hx (h x (by simp))⟩, fun m hm => ?_⟩
      obtain rfl := Option.some.inj hm
      refine ⟨by simp, hx, fun y hy hyp => ?_⟩
      rcases List.mem_append.1 hy with h | h
      ·exact absurd hyp (h0 y h)
      ·rw [List.mem_singleton.1 h, vcmpV_refl]; exact Int.le_refl _
    | some u =>
      obtain ⟨h1, h2, h3⟩ := ih.2 u hg
      refine ⟨⟨fun h => by simp at h; split at h <;> simp at h, fun h => absurd hx (h x (by simp))⟩, fun m hm => ?_⟩
      simp only at hm
      by_cases hc : vcmpV u.2 x.2 < 0
      ·rw [if_pos hc] at hm
       obtain rfl := Option.some.inj hm
       refine ⟨by simp, hx, fun y hy hyp => ?_⟩
       rcases List.mem_append.1 hy with h | h
       ·exact vcmpV_trans (h3 y h hyp) (by omega)
       ·rw [List.mem_singleton.1 h, vcmpV_refl]; exact Int.le_refl _
      ·rw [if_neg hc] at hm
       obtain rfl := Option.some.inj hm
       refine ⟨by simp [h1], h2, fun y hy hyp => ?_⟩
       rcases List.mem_append.1 hy with h | h
       ·exact h3 y h hyp
       ·rw [List.mem_singleton.1 h, vcmpV_anti]; omega
   ·rw [if_neg hx]
    refine ⟨ih.1.trans ⟨fun h y hy => ?_, fun h y hy => h y (by simp [hy])⟩, fun m hm => ?_⟩
    ·rcases List.mem_append.1 hy with h1 | h1
     ·exact h y h1
     ·rw [List.mem_singleton.1 h1]; exact hx
    ·obtain ⟨h1, h2, h3⟩ := ih.2 m hm
     refine ⟨by simp [h1], h2, fun y hy hyp => ?_⟩
     rcases List.mem_append.1 hy with h | h
     ·exact h3 y h hyp
     ·rw [List.mem_singleton.1 h] at hyp; exact absurd hyp hx
end Go.Proofs.YthcgihgajdjfoaaGreatDoor
namespace Go.Proofs.YthcgihgajdjfoaaGreatDoor
open Go.RowKit Go.Sort
theorem dupK_full (l : List Mod) : dupK l l.length = !decide ((l.map (·.1)).Nodup) := by
 rw [Bool.eq_iff_iff]
 simp only [Bool.not_eq_true', decide_eq_false_iff_not]
 constructor
 ·intro h hn
  unfold dupK at h
  rw [List.any_eq_true] at h
  obtain ⟨i, hi, hd⟩ := h
  rw [List.mem_range] at hi
  unfold dupAt at hd
  rw [List.any_eq_true] at hd
  obtain ⟨y, hy, he⟩ := hd
  obtain ⟨j, hj, rfl⟩ := List.mem_take_iff_getElem.1 hy
  rw [List.getD_eq_getElem?_getD, List.getElem?_eq_getElem hi] at he
  have := nodup_inj hn (i := j) (j := i) (by simp; omega) (by simpa using hi) (by simpa using he)
  omega
 ·intro h
  refine Classical.byContradiction fun hc => h ?_
  rw [List.nodup_iff_pairwise_ne, List.pairwise_iff_getElem]
  intro i j hi hj hij he
  simp at hi hj
  refine hc (dupK_true l j l.length hj ?_)
  unfold dupAt
  rw [List.any_eq_true]
  refine ⟨l[i], List.mem_take_iff_getElem.2 ⟨i, by omega, rfl⟩, ?_⟩
  rw [List.getD_eq_getElem?_getD, List.getElem?_eq_getElem hj]
  simpa using he
theorem mcheck_iff (m : Mod) (l : List Mod) : mcheck m l = 0 ↔ (∀ x ∈ m :: l, badPath x = false ∧ badVer x = false) ∧ ((m :: l).map (·.1)).Nodup ∧ l.length ≤ 64 := by
 have hd := dupK_full (m :: l)
 rw [List.length_cons] at hd
 unfold mcheck
 rw [hd]
 by_cases h1 : (m :: l).any badPath = true
 ·rw [if_pos h1]
  obtain ⟨x, hx, hb⟩ := List.any_eq_true.1 h1
  exact ⟨fun h => absurd h (by decide), fun h => by rw [(h.1 x hx).1] at hb; cases hb⟩
 ·rw [if_neg h1]
  by_cases h2 : (m :: l).any badVer = true
  ·rw [if_pos h2]
   obtain ⟨x, hx, hb⟩ := List.any_eq_true.1 h2
   exact ⟨fun h => absurd h (by decide), fun h => by rw [(h.1 x hx).2] at hb; cases hb⟩
  ·rw [if_neg h2]
   have hg : ∀ x ∈ m :: l, badPath x = false ∧ badVer x = false := fun x hx => ⟨by
    cases hb : badPath x with
    | false => rfl
    | true => exact absurd (List.any_eq_true.2 ⟨x, hx, hb⟩) h1, by
    cases hb : badVer x with
    | false => rfl
    | true => exact absurd (List.any_eq_true.2 ⟨x, hx, hb⟩) h2⟩
   by_cases h3 : ((m :: l).map (·.1)).Nodup
   ·rw [decide_eq_true h3, if_neg (by decide)]
    by_cases h4 : 64 < l.length
    ·rw [if_pos h4]
     exact ⟨fun h => absurd h (by decide), fun h => absurd h.2.2 (by omega)⟩
    ·rw [if_neg h4]
     exact ⟨fun _ => ⟨hg, h3, by omega⟩, fun _ => rfl⟩
   ·rw [decide_eq_false h3, if_pos (show (!false) = true from rfl)]
    exact ⟨fun h => absurd h (by decide), fun h => absurd h.2.1 h3⟩
theorem firstBad_all : ∀ {R : Regy}, firstBad R = 0 → ∀ y ∈ R, mcheck y.1 y.2 = 0
 | [], _, y, hy => by cases hy
 | x :: R, h, y, hy => by
   unfold firstBad at h
   split at h
   ·rename_i h0
    rcases List.mem_cons.1 hy with rfl | hy
    ·exact h0
    ·exact firstBad_all h y hy
   ·rename_i h0
    exact absurd h h0
theorem hasR_mem (R : Regy) (m : Mod) : hasR R m = true ↔ m ∈ R.map (·.1) := by
 unfold hasR
 rw [List.any_eq_true, List.mem_map]
 simp only [decide_eq_true_eq]
theorem buildP_ok {R : Regy} {root : Mod} {l : List Mod} (h : (buildP R root l).2 = 0) : checkR R = 0 ∧ mcheck root l = 0 ∧ knownB R l root.1 = true ∧ buildP R root l = (listP R root l, 0) := by
 unfold buildP at h ⊢
 by_cases h1 : checkR R = 0
 ·rw [if_pos h1] at h ⊢
  by_cases h2 : mcheck root l = 0
  ·rw [if_pos h2] at h ⊢
   by_cases h3 : knownB R l root.1 = true
   ·rw [if_pos h3]
    exact ⟨h1, h2, h3, rfl⟩
   ·rw [if_neg h3] at h
    exact absurd h (by decide)
  ·rw [if_neg h2] at h
   exact absurd h h2
 ·rw [if_neg h1] at h
  exact absurd h h1
structure Tail (R : Regy) (root : Mod) (D : List Mod) : Prop where
 mem : ∀ x ∈ D, x ∈ R.map (·.1) ∧ x.1 ≠ root.1
 nod : (D.map (·.1)).Nodup
 srt : D.Pairwise (leOf (ltOf mcmp))
theorem topL_paths (rp : List UInt8) {S : List Mod} (h : S.Nodup) : ((topL rp S).map (·.1)).Nodup := by
 rw [List.nodup_iff_pairwise_ne, List.pairwise_map]
 refine List.Pairwise.imp_of_mem (fun {a b} ha hb hne he => hne ?_) (List.nodup_iff_pairwise_ne.1 (topL_nodup rp h))
 obtain ⟨a1, _, a3⟩ := (topL_mem _ _ _).1 ha
 obtain ⟨b1, _, b3⟩ := (topL_mem _ _ _).1 hb
 have h1 := a3 b b1 he.symm
 have h2 := b3 a a1 he
 have h3 := vcmpV_anti a.2 b.2
 exact Prod.ext he (vcmpV_eq (by omega))
theorem build_tail {R : Regy} {root : Mod} {l : List Mod} (h : (buildP R root l).2 = 0) : Tail R root ((buildP R root l).1.drop 1) := by
 obtain ⟨_, _, h3, h4⟩ := buildP_ok h
 rw [h4]
 show Tail R root (msort (topL root.1 (needL R l)))
 refine ⟨fun x hx => ?_, ?_, msort_sorted _⟩
 ·obtain ⟨h5, h6, _⟩ := (topL_mem _ _ _).1 (msort_mem.1 hx)
  refine ⟨(hasR_mem _ _).1 (((knownB_iff _ _ _).1 h3 x ((needL_mem _ _ _).1 h5)).resolve_left h6), h6⟩
 ·exact ((List.mergeSort_perm _ _).map _).nodup_iff.2 (topL_paths root.1 (needL_nodup R l))
theorem Tail.len {R : Regy} {root : Mod} {D : List Mod} (h : Tail R root D) : D.length ≤ R.length := by
 have hn : D.Nodup := by
  have h1 := h.nod
  rw [List.nodup_iff_pairwise_ne, List.pairwise_map] at h1
  exact List.nodup_iff_pairwise_ne.2 (h1.imp fun h2 e => h2 (by rw [e]))
 have := nodup_len D (R.map (·.1)) hn fun x hx => (h.mem x hx).1
 simpa using this
end Go.Proofs.YthcgihgajdjfoaaGreatDoor
namespace Go.Proofs.YthcgihgajdjfoaaGreatDoor
open Go.RowKit Go.Sort
theorem reqOf_of {R : Regy} (hn : (R.map (·.1)).Nodup) {y : Mod × List Mod} (hy : y ∈ R) : reqOf R y.1 = y.2 := by
 unfold reqOf
 have h : R.find? (fun x => decide (x.1 = y.1)) = some y := by
  induction R with
  | nil => cases hy
  | cons z R ih =>
    rw [List.map_cons, List.nodup_cons] at hn
    rw [List.find?_cons]
    by_cases hz : z.1 = y.1
    ·rw [decide_eq_true hz]
     rcases List.mem_cons.1 hy with rfl | hy
     ·rfl
     ·exact absurd (List.mem_map.2 ⟨y, hy, hz.symm⟩) hn.1
    ·rw [decide_eq_false hz]
     rcases List.mem_cons.1 hy with rfl | hy
     ·exact absurd rfl hz
     ·exact ih hn.2 hy
 rw [h]
 rfl
structure Built (R : Regy) (root : Mod) (l D : List Mod) : Prop where
 eq : buildP R root l = (root :: D, 0)
 tail : Tail R root D
 top : ∀ m, Reach R l m → m.1 ≠ root.1 → ∃ g ∈ D, g.1 = m.1 ∧ vcmpV m.2 g.2 ≤ 0
 rch : ∀ g ∈ D, Reach R l g
theorem built {R : Regy} {root : Mod} {l : List Mod} (h : (buildP R root l).2 = 0) : ∃ D, Built R root l D := by
 have hT := build_tail h
 obtain ⟨_, _, h3, h4⟩ := buildP_ok h
 refine ⟨msort (topL root.1 (needL R l)), ?_, ?_, fun m hm hp => ?_, fun g hg => ?_⟩
 ·rw [h4]
  rfl
 ·rw [h4] at hT
  exact hT
 ·have hmn := (needL_mem R l m).2 hm
  cases hg : greatestP (needL R l) m.1 with
  | none => exact absurd rfl ((greatest_spec _ _).1.1 hg m hmn)
  | some g =>
    obtain ⟨g1, g2, g3⟩ := (greatest_spec _ _).2 g hg
    refine ⟨g, msort_mem.2 ((topL_mem _ _ _).2 ⟨g1, by rw [g2]; exact hp, fun x hx he => g3 x hx (he.trans g2)⟩), g2, g3 m hmn rfl⟩
 ·exact (needL_mem R l g).1 ((topL_mem _ _ _).1 (msort_mem.1 hg)).1
theorem Built.nod {R : Regy} {root : Mod} {l D : List Mod} (h : Built R root l D) : ((root :: D).map (·.1)).Nodup := by
 rw [List.map_cons, List.nodup_cons]
 refine ⟨fun hm => ?_, h.tail.nod⟩
 obtain ⟨x, hx, he⟩ := List.mem_map.1 hm
 exact (h.tail.mem x hx).2 he
theorem firstBad_zero : ∀ R : Regy, (∀ y ∈ R, mcheck y.1 y.2 = 0) → firstBad R = 0
 | [], _ => rfl
 | x :: R, h1 => by
   unfold firstBad
   rw [if_pos (h1 x (by simp))]
   exact firstBad_zero R fun y hy => h1 y (by simp [hy])
theorem checkR_iff (R : Regy) : checkR R = 0 ↔ (∀ y ∈ R, mcheck y.1 y.2 = 0) ∧ (R.map (·.1)).Nodup := by
 refine ⟨fun h => ⟨firstBad_all (checkR_ok h).1, (checkR_ok h).2⟩, fun ⟨h1, h2⟩ => ?_⟩
 have h3 : firstBad R = 0 := firstBad_zero R h1
 unfold checkR
 rw [if_pos h3]
 unfold dupR
 rw [decide_eq_true h2]
 rfl
theorem built_nodup {R : Regy} {root : Mod} {l : List Mod} (h : (buildP R root l).2 = 0) : (R.map (·.1)).Nodup := ((checkR_iff R).1 (buildP_ok h).1).2
end Go.Proofs.YthcgihgajdjfoaaGreatDoor
namespace Go.Proofs.YthcgihgajdjfoaaGreatDoor
open Go.RowKit Go.Sort
theorem needL_len (R : Regy) (l : List Mod) : (needL R l).length ≤ (univ R l).length := nodup_len (needL R l) (univ R l) (needL_nodup _ _) fun _ hx => ((needL_mem _ _ _).1 hx).univ
theorem listP_len (R : Regy) (root : Mod) (l : List Mod) : (listP R root l).length ≤ (univ R l).length + 1 := by
 unfold listP
 rw [List.length_cons, msort_len]
 have h1 : (topL root.1 (needL R l)).length ≤ (needL R l).length := List.length_filter_le _ _
 have := needL_len R l
 omega
theorem buildP_len (R : Regy) (root : Mod) (l : List Mod) : (buildP R root l).1.length ≤ (univ R l).length + 1 := by
 have := listP_len R root l
 unfold buildP
 split
 ·split
  ·split
   ·exact this
   ·simp
  ·simp
 ·simp
end Go.Proofs.YthcgihgajdjfoaaGreatDoor
