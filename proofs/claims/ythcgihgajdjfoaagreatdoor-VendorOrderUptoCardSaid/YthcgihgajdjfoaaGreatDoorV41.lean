/- What the claim needs of: ID. -/
import Derived.Test.YthcgihgajdjfoaaGreatDoorV39
import Derived.Test.YthcgihgajdjfoaaGreatDoorV26
namespace Go.Proofs.YthcgihgajdjfoaaGreatDoor
open Go.RowKit Go.Sort
theorem nodup_of_map {α β : Type} {f : α → β} {l : List α} (h : (l.map f).Nodup) : l.Nodup := (List.pairwise_map.1 h).imp fun hne he => hne (congrArg f he)
theorem vcmpV_zero (a : Ver3) : ¬ (0 < vcmpV a a) := by rw [vcmpV_refl]; decide
theorem no_stale {L : List Rel} (hn : (L.map fun r => r.1.1).Nodup) {r : Rel} (hr : r ∈ L) : staleR L r = none := by
 unfold staleR
 rw [if_neg]
 intro h
 unfold metP at h
 obtain ⟨q, hq, hc⟩ := List.any_eq_true.1 h
 simp only [Bool.and_eq_true, decide_eq_true_eq, if_true] at hc
 obtain ⟨i, hi, rfl⟩ := List.mem_iff_getElem.1 hr
 obtain ⟨j, hj, rfl⟩ := List.mem_iff_getElem.1 hq
 have hij : j = i := by
  exact nodup_inj hn (i := j) (j := i) (by simpa using hj) (by simpa using hi) (by simpa using hc.1)
 subst hij
 exact vcmpV_zero _ hc.2
theorem no_absent {L : List Rel} {rp : List UInt8} : ∀ (q : List Mod), (∀ m ∈ q, m.1 = rp ∨ metP L m false = true) → q.foldl (absR L rp) [] = []
 | [], _ => rfl
 | m :: q, h => by
   have e : absR L rp [] m = [] := by
    unfold absR
    rw [if_neg]
    rintro ⟨h1, h2, _⟩
    rcases h m (by simp) with h3 | h3
    ·exact h1 h3
    ·rw [h2] at h3; cases h3
   rw [List.foldl_cons, e]
   exact no_absent q fun x hx => h x (by simp [hx])
theorem outR_nil {L : List Rel} {rp : List UInt8} {rl : List Mod} (hn : (L.map fun r => r.1.1).Nodup) (h : ∀ m ∈ reqsP rl L, m.1 = rp ∨ metP L m false = true) : outR rp rl L = [] := by
 unfold outR
 rw [no_absent _ h, show L.filterMap (staleR L) = [] from List.filterMap_eq_nil_iff.2 fun r hr => no_stale hn hr]
 rfl
structure Coll (R : List Rel) (root : Mod) (l : List Mod) (D : List Mod) (C : List Rel) : Prop where
 bl : Built (R.map manR) root l D
 eq : collectP R root l = (C, 0)
 mods : C.map (·.1) = D
 sub : ∀ r ∈ C, r ∈ R
 err : ∀ r ∈ C, rerr r = 0
 rn : (R.map (·.1)).Nodup
theorem manR_mods (R : List Rel) : (R.map manR).map (·.1) = R.map (·.1) := by rw [List.map_map]; rfl
theorem findR_hit {R : List Rel} {m : Mod} (h : m ∈ R.map (·.1)) : ∃ r ∈ R, r.1 = m ∧ findR R m = some r := by
 cases hf : findR R m with
 | none => exact absurd h (findR_none.1 hf)
 | some r => exact ⟨r, (findR_some hf).1, (findR_some hf).2, rfl⟩
theorem coll_mods {R : List Rel} : ∀ {D : List Mod}, (∀ m ∈ D, m ∈ R.map (·.1)) → (D.filterMap (findR R)).map (·.1) = D
 | [], _ => rfl
 | m :: D, h => by
   obtain ⟨r, _, h1, h2⟩ := findR_hit (h m (by simp))
   rw [List.filterMap_cons, h2]
   simp only [List.map_cons]
   rw [h1, coll_mods fun x hx => h x (by simp [hx])]
theorem collected {R : List Rel} {root : Mod} {l : List Mod} (h : (collectP R root l).2 = 0) : ∃ D C, Coll R root l D C := by
 unfold collectP at h
 by_cases h1 : ferr R ≠ 0
 ·rw [if_pos h1] at h; exact absurd h h1
 ·rw [if_neg h1] at h
  by_cases h2 : (buildP (R.map manR) root l).2 ≠ 0
  ·rw [if_pos h2] at h; exact absurd h h2
  ·have h2' : (buildP (R.map manR) root l).2 = 0 := by simpa using h2
   have h1' : ferr R = 0 := by simpa using h1
   obtain ⟨D, hB⟩ := built h2'
   refine ⟨D, D.filterMap (findR R), hB, ?_, coll_mods fun m hm => ?_, ?_, ?_, ?_⟩
   ·unfold collectP
    rw [if_neg h1, if_neg h2, hB.eq]
    rfl
   ·rw [← manR_mods]
    exact (hB.tail.mem m hm).1
   ·intro r hr
    obtain ⟨m, _, hm⟩ := List.mem_filterMap.1 hr
    exact (findR_some hm).1
   ·intro r hr
    obtain ⟨m, _, hm⟩ := List.mem_filterMap.1 hr
    exact ferr_all h1' r (findR_some hm).1
   ·rw [← manR_mods]
    exact built_nodup h2'
theorem Coll.paths {R : List Rel} {root : Mod} {l D : List Mod} {C : List Rel} (h : Coll R root l D C) : (C.map fun r => r.1.1).Nodup := by
 have h1 := h.bl.tail.nod
 rw [← h.mods, List.map_map] at h1
 exact h1
theorem Coll.nodup {R : List Rel} {root : Mod} {l D : List Mod} {C : List Rel} (h : Coll R root l D C) : (C.map (·.1)).Nodup := by
 have h1 := h.paths
 have h2 : (C.map fun r => r.1.1) = (C.map (·.1)).map (·.1) := by rw [List.map_map]; rfl
 rw [h2] at h1
 exact nodup_of_map h1
theorem Coll.lerr {R : List Rel} {root : Mod} {l D : List Mod} {C : List Rel} (h : Coll R root l D C) : lerr C = 0 := (lerr_iff C).2 ⟨h.err, h.nodup⟩
theorem Coll.len {R : List Rel} {root : Mod} {l D : List Mod} {C : List Rel} (h : Coll R root l D C) : C.length ≤ R.length := by
 have h1 := h.bl.tail.len
 rw [← h.mods] at h1
 simpa using h1
theorem Coll.met {R : List Rel} {root : Mod} {l D : List Mod} {C : List Rel} (h : Coll R root l D C) {m : Mod} (hm : Reach (R.map manR) l m) : m.1 = root.1 ∨ metP C m false = true := by
 by_cases hr : m.1 = root.1
 ·exact .inl hr
 ·obtain ⟨g, hg, h1, h2⟩ := h.bl.top m hm hr
  rw [← h.mods] at hg
  obtain ⟨r, hr', rfl⟩ := List.mem_map.1 hg
  refine .inr ?_
  unfold metP
  rw [List.any_eq_true]
  refine ⟨r, hr', ?_⟩
  have h3 := vcmpV_anti m.2 r.1.2
  simp only [Bool.and_eq_true, decide_eq_true_eq, Bool.false_eq_true, if_false]
  exact ⟨h1, by omega⟩
theorem Coll.out {R : List Rel} {root : Mod} {l D : List Mod} {C : List Rel} (h : Coll R root l D C) : outR root.1 l C = [] := by
 refine outR_nil h.paths fun m hm => ?_
 unfold reqsP at hm
 rcases List.mem_append.1 hm with hm | hm
 ·exact h.met (.base hm)
 ·obtain ⟨r, hr, hm⟩ := List.mem_flatMap.1 hm
  have hD : r.1 ∈ D := by rw [← h.mods]; exact List.mem_map.2 ⟨r, hr, rfl⟩
  refine h.met (.step (h.bl.rch _ hD) ?_)
  have hn : ((R.map manR).map (·.1)).Nodup := by rw [manR_mods]; exact h.rn
  have := reqOf_of hn (y := manR r) (List.mem_map.2 ⟨r, h.sub r hr, rfl⟩)
  show m ∈ reqOf (R.map manR) (manR r).1
  rw [this]
  exact hm
theorem Coll.clean {R : List Rel} {root : Mod} {l D : List Mod} {C : List Rel} (h : Coll R root l D C) (hR : R.length ≤ 600) : verifyP root.1 l C (lockP C).1 = [] := by
 rw [verify_lock h.lerr (Nat.le_trans h.len hR), h.out]
theorem lerr_perm {L L' : List Rel} (h : L'.Perm L) : lerr L' = 0 ↔ lerr L = 0 := by
 rw [lerr_iff, lerr_iff, (h.map (·.1)).nodup_iff]
 exact and_congr ⟨fun H r hr => H r (h.mem_iff.2 hr), fun H r hr => H r (h.mem_iff.1 hr)⟩ Iff.rfl
theorem lout_perm {L L' : List Rel} (h : L'.Perm L) (h0 : lerr L = 0) : lout L' = lout L := by
 unfold lout
 rw [if_pos h0, if_pos ((lerr_perm h).2 h0)]
 congr 1
 have hn := (lerr_nodup h0).2
 unfold esort
 refine keyed_unique (f := fun x : Ent => x.1) elt_swo elt_key (((List.mergeSort_perm _ _).trans (h.map entOf))) ?_ (by rw [ents_keys]; exact hn)
 have hto : ∀ a b : Ent, ((!(ltOf ecmp) b a) || (!(ltOf ecmp) a b)) = true := fun a b => by
  cases hab : (ltOf ecmp) a b
  ·simp
  ·have := le_of_lt elt_swo hab
   unfold leOf at this
   simp [this]
 have htr : ∀ a b c : Ent, (!(ltOf ecmp) b a) = true → (!(ltOf ecmp) c b) = true → (!(ltOf ecmp) c a) = true := fun a b c h1 h2 => by
  simp at *; exact elt_swo.ntrans c b a h2 h1
 exact (List.pairwise_mergeSort htr hto _).imp fun h => by simpa [leOf] using h
theorem lockP_perm {L L' : List Rel} (h : L'.Perm L) : (lockP L').1 = (lockP L).1 ∧ ((lockP L').2 = 0 ↔ (lockP L).2 = 0) := by
 by_cases h0 : lerr L = 0
 ·have h1 := (lerr_perm h).2 h0
  rw [lockP_ok h0, lockP_ok h1, lout_perm h h0]
  exact ⟨rfl, Iff.rfl⟩
 ·have h1 : lerr L' ≠ 0 := fun q => h0 ((lerr_perm h).1 q)
  rw [lockP_bad h0, lockP_bad h1]
  exact ⟨rfl, ⟨fun q => absurd q h1, fun q => absurd q h0⟩⟩
theorem metP_perm {L L' : List Rel} (h : L'.Perm L) (m : Mod) (g : Bool) : metP L' m g = metP L m g := by
 unfold metP
 rw [Bool.eq_iff_iff, List.any_eq_true, List.any_eq_true]
 exact ⟨fun ⟨r, hr, h1⟩ => ⟨r, h.mem_iff.1 hr, h1⟩, fun ⟨r, hr, h1⟩ => ⟨r, h.mem_iff.2 hr, h1⟩⟩
theorem findR_perm {L L' : List Rel} (h : L'.Perm L) (hn : (L.map (·.1)).Nodup) (m : Mod) : findR L' m = findR L m := by
 cases hf : findR L m with
 | none =>
   rw [findR_none] at hf ⊢
   intro hm
   exact hf ((h.map (·.1)).mem_iff.1 hm)
 | some r =>
   obtain ⟨h1, rfl⟩ := findR_some hf
   exact findR_of ((h.map (·.1)).nodup_iff.2 hn) (h.mem_iff.2 h1)
theorem absP_spec (L : List Rel) (rp : List UInt8) : ∀ (q : List Mod) (S : List (List UInt8)), S.Nodup → (q.foldl (absStep L rp) S).Nodup ∧ ∀ p, p ∈ q.foldl (absStep L rp) S ↔ p ∈ S ∨ ∃ m ∈ q, m.1 = p ∧ p ≠ rp ∧ metP L m false = false
 | [], S, h => ⟨h, fun p => by simp⟩
 | m :: q, S, h => by
   rw [List.foldl_cons]
   have hn : (absStep L rp S m).Nodup := by
    unfold absStep
    split
    ·rename_i hc
     rw [List.nodup_append]
     refine ⟨h, by simp, fun a ha b hb => ?_⟩
     rw [List.mem_singleton.1 hb]
     rintro rfl
     exact hc.2.1 ha
    ·exact h
   obtain ⟨h1, h2⟩ := absP_spec L rp q (absStep L rp S m) hn
   refine ⟨h1, fun p => ?_⟩
   rw [h2]
   have hstep : p ∈ absStep L rp S m ↔ p ∈ S ∨ (m.1 = p ∧ p ≠ rp ∧ metP L m false = false) := by
    unfold absStep
    split
    ·rename_i hc
     rw [List.mem_append, List.mem_singleton]
     constructor
     ·rintro (h | rfl)
      ·exact .inl h
      ·exact .inr ⟨rfl, hc.1, hc.2.2⟩
     ·rintro (h | ⟨h, _⟩)
      ·exact .inl h
      ·exact .inr h.symm
    ·rename_i hc
     constructor
     ·exact .inl
     ·rintro (h | ⟨rfl, h3, h4⟩)
      ·exact h
      ·by_cases hm : m.1 ∈ S
       ·exact hm
       ·exact absurd ⟨h3, hm, h4⟩ hc
   rw [hstep]
   constructor
   ·rintro ((h | h) | ⟨x, hx, h⟩)
    ·exact .inl h
    ·exact .inr ⟨m, by simp, h⟩
    ·exact .inr ⟨x, by simp [hx], h⟩
   ·rintro (h | ⟨x, hx, h⟩)
    ·exact .inl (.inl h)
    ·rcases List.mem_cons.1 hx with rfl | hx
     ·exact .inl (.inr h)
     ·exact .inr ⟨x, hx, h⟩
theorem outR_perm {L L' : List Rel} (h : L'.Perm L) (rp : List UInt8) (rl : List Mod) : outR rp rl L' = outR rp rl L := by
 refine (iss_unique (((out_perm rp rl L').symm.trans ?_).trans (out_perm rp rl L)) (out_sorted _ _ _) (out_sorted _ _ _) (.inr fun x hx => out_ph x ((out_perm rp rl L').mem_iff.2 hx)))
 unfold outP
 refine List.Perm.append ?_ (List.Perm.map _ ?_)
 ·have e : ∀ r, staleR L' r = staleR L r := fun r => by unfold staleR; rw [metP_perm h]
  rw [show staleR L' = staleR L from funext e]
  exact h.filterMap _
 ·unfold absP
  rw [List.perm_ext_iff_of_nodup (absP_spec _ _ _ _ List.nodup_nil).1 (absP_spec _ _ _ _ List.nodup_nil).1]
  intro p
  rw [(absP_spec _ _ _ _ List.nodup_nil).2, (absP_spec _ _ _ _ List.nodup_nil).2]
  have hq : ∀ m, m ∈ reqsP rl L' ↔ m ∈ reqsP rl L := fun m => by
   unfold reqsP
   rw [List.mem_append, List.mem_append, List.mem_flatMap, List.mem_flatMap]
   exact or_congr Iff.rfl ⟨fun ⟨r, hr, h1⟩ => ⟨r, h.mem_iff.1 hr, h1⟩, fun ⟨r, hr, h1⟩ => ⟨r, h.mem_iff.2 hr, h1⟩⟩
  refine or_congr Iff.rfl ⟨fun ⟨m, hm, h1, h2, h3⟩ => ⟨m, (hq m).1 hm, h1, h2, by rw [← metP_perm h]; exact h3⟩, fun ⟨m, hm, h1, h2, h3⟩ => ⟨m, (hq m).2 hm, h1, h2, by rw [metP_perm h]; exact h3⟩⟩
theorem verify_perm {L L' : List Rel} (h : L'.Perm L) (h0 : lerr L = 0) (rp : List UInt8) (rl : List Mod) (s : List UInt8) : verifyP rp rl L' s = verifyP rp rl L s := by
 have h1 := (lerr_perm h).2 h0
 have hn := (lerr_nodup h0).2
 have hd : ∀ E, (rdiffP L' E).Perm (rdiffP L E) := fun E => by
  unfold rdiffP
  have e : rdiffE L' = rdiffE L := funext fun e => by unfold rdiffE; rw [findR_perm h hn]
  rw [e]
  exact (h.filterMap _).append_left _
 have hd' := hd (unlockP s).1
 unfold verifyP
 by_cases hu : (unlockP s).2.1 ≠ 0
 ·rw [if_pos hu, if_pos hu]
 ·rw [if_neg hu, if_neg hu, if_neg (c := lerr L' ≠ 0) (by simp [h1]), if_neg (c := lerr L ≠ 0) (by simp [h0])]
  by_cases hz : rdiffP L (unlockP s).1 = []
  ·have hz' : rdiffP L' (unlockP s).1 = [] := by rw [hz] at hd'; exact hd'.eq_nil
   rw [if_neg (c := rdiffP L' (unlockP s).1 ≠ []) (by simp [hz']), if_neg (c := rdiffP L (unlockP s).1 ≠ []) (by simp [hz]), outR_perm h]
  ·have hz' : rdiffP L' (unlockP s).1 ≠ [] := fun q => hz (by rw [q] at hd'; exact hd'.symm.eq_nil)
   rw [if_pos hz', if_pos hz, isort_perm_eq hd' (.inl diff_ph)]
end Go.Proofs.YthcgihgajdjfoaaGreatDoor
