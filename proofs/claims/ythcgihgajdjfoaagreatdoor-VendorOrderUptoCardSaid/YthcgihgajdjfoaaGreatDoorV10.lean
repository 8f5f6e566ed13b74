/- What the claim needs of: PS3 PS4 PS6 PJ. -/
import Derived.Test.YthcgihgajdjfoaaGreatDoorV9
import Derived.Test.YthcgihgajdjfoaaGreatDoorV8
import Derived.Sort.Walk0
import Derived.Test.YthcgihgajdjfoaaGreatDoorV1
namespace Go.Proofs.YthcgihgajdjfoaaGreatDoor
open Go.RowKit Go.Sort
abbrev Ver3 := Int × Int × Int
def vcmpV (a b : Ver3) : Int := vcmp a.1 a.2.1 a.2.2 b.1 b.2.1 b.2.2
theorem vcmpV_refl (a : Ver3) : vcmpV a a = 0 := by simp [vcmpV, vcmp]
theorem vcmpV_mcmp (p : List UInt8) (a b : Ver3) : mcmp (p, a) (p, b) = vcmpV a b := by
 unfold mcmp vcmpV
 simp [bl_irrefl]
theorem vcmpV_eq {a b : Ver3} (h : vcmpV a b = 0) : a = b := by
 have := (mcmp_eq ([], a) ([], b)).1 (by rw [vcmpV_mcmp]; exact h)
 injection this
theorem vcmpV_anti (a b : Ver3) : vcmpV a b = - vcmpV b a := by rw [← vcmpV_mcmp [], ← vcmpV_mcmp [], mcmp_anti]
theorem vcmpV_trans {a b c : Ver3} (h1 : vcmpV a b ≤ 0) (h2 : vcmpV b c ≤ 0) : vcmpV a c ≤ 0 := by
 rw [← vcmpV_mcmp []] at *
 exact (mcmp_law _ _ _ h1 h2).1
theorem snoc_ind {α : Type} {P : List α → Prop} (h0 : P []) (h1 : ∀ l x, P l → P (l ++ [x])) (l : List α) : P l := by
 rw [← List.reverse_reverse l]
 induction l.reverse with
 | nil => exact h0
 | cons x r ih => rw [List.reverse_cons]; exact h1 _ _ ih
def bestV (rp : List UInt8) (V : List Mod) (p : List UInt8) : Option Ver3 :=
 V.foldl (fun o m => if m.1 = p ∧ p ≠ rp then (match o with | none => some m.2 | some v => if 0 < vcmpV m.2 v then some m.2 else some v) else o) none
theorem bestV_snoc (rp : List UInt8) (V : List Mod) (m : Mod) (p : List UInt8) : bestV rp (V ++ [m]) p = if m.1 = p ∧ p ≠ rp then (match bestV rp V p with | none => some m.2 | some v => if 0 < vcmpV m.2 v then some m.2 else some v) else bestV rp V p := by
 unfold bestV
 rw [List.foldl_append]
 rfl
theorem bestV_spec (rp : List UInt8) (p : List UInt8) : ∀ V : List Mod, (∀ v, bestV rp V p = some v → p ≠ rp ∧ (p, v) ∈ V ∧ ∀ m ∈ V, m.1 = p → vcmpV m.2 v ≤ 0) ∧ (bestV rp V p = none → p = rp ∨ ∀ m ∈ V, m.1 ≠ p) := by
 intro V
 induction V using snoc_ind with
 | h0 => exact ⟨fun v h => by simp [bestV] at h, fun _ => .inr (by simp)⟩
 | h1 V m ih =>
   rw [bestV_snoc]
   by_cases hc : m.1 = p ∧ p ≠ rp
   ·rw [if_pos hc]
    obtain ⟨hm, hp⟩ := hc
    cases hb : bestV rp V p with
    | none =>
      refine ⟨fun v h => ?_, fun h => by simp at h⟩
      obtain rfl : m.2 = v := by simpa using h
      refine ⟨hp, by rw [← hm]; simp, fun x hx hxp => ?_⟩
      rcases List.mem_append.1 hx with h1 | h1
      ·rcases ih.2 hb with h2 | h2
       ·exact absurd h2 hp
       ·exact absurd hxp (h2 x h1)
      ·obtain rfl : x = m := by simpa using h1
       rw [vcmpV_refl]
       exact Int.le_refl _
    | some u =>
      obtain ⟨_, h2, h3⟩ := ih.1 u hb
      simp only
      by_cases hlt : 0 < vcmpV m.2 u
      ·rw [if_pos hlt]
       refine ⟨fun v h => ?_, fun h => by simp at h⟩
       obtain rfl : m.2 = v := by simpa using h
       refine ⟨hp, by rw [← hm]; simp, fun x hx hxp => ?_⟩
       rcases List.mem_append.1 hx with h1 | h1
       ·have h4 := vcmpV_anti m.2 u
        exact vcmpV_trans (h3 x h1 hxp) (by omega)
       ·obtain rfl : x = m := by simpa using h1
        rw [vcmpV_refl]
        exact Int.le_refl _
      ·rw [if_neg hlt]
       refine ⟨fun v h => ?_, fun h => by simp at h⟩
       obtain rfl : u = v := by simpa using h
       refine ⟨hp, by simp [h2], fun x hx hxp => ?_⟩
       rcases List.mem_append.1 hx with h1 | h1
       ·exact h3 x h1 hxp
       ·obtain rfl : x = m := by simpa using h1
        omega
   ·rw [if_neg hc]
    refine ⟨fun v h => ?_, fun h => ?_⟩
    ·obtain ⟨h1, h2, h3⟩ := ih.1 v h
     refine ⟨h1, by simp [h2], fun x hx hxp => ?_⟩
     rcases List.mem_append.1 hx with h4 | h4
     ·exact h3 x h4 hxp
     ·obtain rfl : x = m := by simpa using h4
      exact absurd ⟨hxp, h1⟩ hc
    ·rcases ih.2 h with h1 | h1
     ·exact .inl h1
     ·by_cases hp : p = rp
      ·exact .inl hp
      ·refine .inr fun x hx => ?_
       rcases List.mem_append.1 hx with h4 | h4
       ·exact h1 x h4
       ·obtain rfl : x = m := by simpa using h4
        exact fun e => hc ⟨e, hp⟩
theorem bestV_iff (rp : List UInt8) (V : List Mod) (p : List UInt8) (v : Ver3) : bestV rp V p = some v ↔ p ≠ rp ∧ (p, v) ∈ V ∧ ∀ m ∈ V, m.1 = p → vcmpV m.2 v ≤ 0 := by
 refine ⟨(bestV_spec rp p V).1 v, fun ⟨h1, h2, h3⟩ => ?_⟩
 cases hb : bestV rp V p with
 | none =>
   rcases (bestV_spec rp p V).2 hb with h | h
   ·exact absurd h h1
   ·exact absurd rfl (h _ h2)
 | some u =>
   obtain ⟨_, h5, h6⟩ := (bestV_spec rp p V).1 u hb
   have h7 := h3 (p, u) h5 rfl
   have h8 := h6 (p, v) h2 rfl
   have h9 := vcmpV_anti u v
   simp only at h7 h8
   rw [vcmpV_eq (a := u) (b := v) (by omega)]
def topL (rp : List UInt8) (S : List Mod) : List Mod := S.filter fun m => decide (m.1 ≠ rp) && S.all fun x => decide (x.1 = m.1 → vcmpV x.2 m.2 ≤ 0)
theorem topL_mem (rp : List UInt8) (S : List Mod) (m : Mod) : m ∈ topL rp S ↔ m ∈ S ∧ m.1 ≠ rp ∧ ∀ x ∈ S, x.1 = m.1 → vcmpV x.2 m.2 ≤ 0 := by
 unfold topL
 rw [List.mem_filter, Bool.and_eq_true, decide_eq_true_eq, List.all_eq_true]
 simp only [decide_eq_true_eq]
theorem topL_nodup (rp : List UInt8) {S : List Mod} (h : S.Nodup) : (topL rp S).Nodup := h.filter _
theorem leMod_of_lt {m n : Mod} (h : m.1 < n.1) : leOf (ltOf mcmp) m n := by
 unfold leOf ltOf
 have : mcmp m n = -1 := by unfold mcmp; rw [if_pos (by rw [bytesLess_eq]; exact decide_eq_true h)]
 have h2 := mcmp_anti n m
 simp
 omega
theorem keys_top (rp : List UInt8) (V S : List Mod) (K : List (List UInt8)) (hVS : ∀ m, m ∈ V ↔ m ∈ S) (hS : S.Nodup) (hK : K.Nodup) (hKb : ∀ p ∈ K, (bestV rp V p).isSome = true) (hKc : ∀ m ∈ V, (bestV rp V m.1).isSome = true → m.1 ∈ K) :
  (K.mergeSort (fun x y => decide (x ≤ y))).map (fun p => (p, (bestV rp V p).getD (0, 0, 0))) = msort (topL rp S) := by
 have tr : ∀ a b c : List UInt8, decide (a ≤ b) = true → decide (b ≤ c) = true → decide (a ≤ c) = true := fun a b c h1 h2 => by simp only [decide_eq_true_eq] at *; exact List.le_trans h1 h2
 have htot : ∀ a b : List UInt8, (decide (a ≤ b) || decide (b ≤ a)) = true := fun a b => by simp only [Bool.or_eq_true, decide_eq_true_eq]; exact List.le_total a b
 have hsorted := List.pairwise_mergeSort tr htot K
 have hperm := List.mergeSort_perm K (fun x y => decide (x ≤ y))
 have hnd : (K.mergeSort (fun x y => decide (x ≤ y))).Nodup := hperm.nodup_iff.2 hK
 have hmem : ∀ p, p ∈ K.mergeSort (fun x y => decide (x ≤ y)) ↔ p ∈ K := fun p => hperm.mem_iff
 generalize K.mergeSort (fun x y => decide (x ≤ y)) = J at hsorted hnd hmem
 refine sorted_eq mlt_swo mlt_total _ _ ?_ ?_
 ·refine List.pairwise_map.2 ((hsorted.and hnd).imp fun {p q} h => ?_)
  refine leMod_of_lt ?_
  have h1 : p ≤ q := of_decide_eq_true h.1
  show p < q
  rcases Decidable.em (p < q) with h2 | h2
  ·exact h2
  ·exact absurd (List.le_antisymm h1 (by simpa using h2)) h.2
 ·refine (List.perm_ext_iff_of_nodup ?_ (topL_nodup rp hS)).2 fun m => ?_
  ·refine List.pairwise_map.2 (hnd.imp fun {p q} h e => h (by injection e))
  ·rw [topL_mem]
   constructor
   ·intro h
    obtain ⟨p, hp, rfl⟩ := List.mem_map.1 h
    have h1 := hKb p ((hmem p).1 hp)
    cases hb : bestV rp V p with
    | none => rw [hb] at h1; cases h1
    | some v =>
      obtain ⟨h2, h3, h4⟩ := (bestV_iff rp V p v).1 hb
      exact ⟨(hVS _).1 h3, h2, fun x hx => h4 x ((hVS x).2 hx)⟩
   ·rintro ⟨h1, h2, h3⟩
    have hb := (bestV_iff rp V m.1 m.2).2 ⟨h2, (hVS m).2 h1, fun x hx => h3 x ((hVS x).1 hx)⟩
    exact List.mem_map.2 ⟨m.1, (hmem _).2 (hKc m ((hVS m).2 h1) (by rw [hb]; rfl)), by rw [hb]; rfl⟩
theorem topL_congr (rp : List UInt8) {S S' : List Mod} (h : ∀ m, m ∈ S ↔ m ∈ S') (hS : S.Nodup) (hS' : S'.Nodup) : msort (topL rp S) = msort (topL rp S') := by
 have hp : (topL rp S).Perm (topL rp S') := (List.perm_ext_iff_of_nodup (topL_nodup rp hS) (topL_nodup rp hS')).2 fun m => by
  rw [topL_mem, topL_mem, h m]
  simp only [h]
 have hto : ∀ a b : Mod, ((!(ltOf mcmp) b a) || (!(ltOf mcmp) a b)) = true := fun a b => by
  cases hab : (ltOf mcmp) a b
  ·simp
  ·have := le_of_lt mlt_swo hab
   unfold leOf at this
   simp [this]
 have htr : ∀ a b c : Mod, (!(ltOf mcmp) b a) = true → (!(ltOf mcmp) c b) = true → (!(ltOf mcmp) c a) = true := fun a b c h1 h2 => by
  simp at *; exact mlt_swo.ntrans c b a h2 h1
 exact sorted_eq mlt_swo mlt_total _ _ ((List.pairwise_mergeSort htr hto _).imp fun {a b} hab => by unfold leOf; simpa using hab) ((List.mergeSort_perm _ _).trans hp)
end Go.Proofs.YthcgihgajdjfoaaGreatDoor
namespace Go.Proofs.YthcgihgajdjfoaaGreatDoor
open Go.RowKit Go.Sort
theorem Needs.perm {R : Regy} {l S T T' : List Mod} (h : Needs R l S T) (hT : ∀ x, x ∈ T ↔ x ∈ T') : Needs R l S T' :=
 ⟨h.nodup, h.done, fun m hm => h.todo m ((hT m).2 hm), fun m hm => (h.base m hm).imp id (hT m).1, fun x hx m hm => (h.clos x hx m hm).imp id (hT m).1⟩
def needStep (R : Regy) : Nat → List Mod → List Mod → List Mod
 | 0, S, _ => S
 | _ + 1, S, [] => S
 | n + 1, S, m :: T => if m ∈ S then needStep R n S T else needStep R n (S ++ [m]) (reqOf R m ++ T)
def needL (R : Regy) (l : List Mod) : List Mod := needStep R (l.length + (univ R l).length * ((univ R l).length + 1)) [] l
theorem reqOf_len (R : Regy) (l : List Mod) (m : Mod) : (reqOf R m).length ≤ (univ R l).length := by
 have h : ∀ (L : Regy) (y : Mod × List Mod), y ∈ L → y.2.length ≤ (L.flatMap (·.2)).length := fun L y hy => by
  induction L with
  | nil => simp at hy
  | cons x L ih =>
    rw [List.flatMap_cons, List.length_append]
    rcases List.mem_cons.1 hy with rfl | hy
    ·omega
    ·have := ih hy; omega
 unfold reqOf univ
 rw [List.length_append]
 cases hf : R.find? fun y => decide (y.1 = m) with
 | none => simp
 | some y =>
   have := h R y (List.mem_of_find?_eq_some hf)
   simp only [Option.map_some, Option.getD_some]
   omega
theorem needStep_ok (R : Regy) (l : List Mod) : ∀ (n : Nat) (S T : List Mod), Needs R l S T → T.length + ((univ R l).length - S.length) * ((univ R l).length + 1) ≤ n → Needs R l (needStep R n S T) []
 | 0, S, T, h, hn => by
   obtain rfl : T = [] := List.eq_nil_of_length_eq_zero (by omega)
   exact h
 | n + 1, S, [], h, _ => h
 | n + 1, S, m :: T, h, hn => by
   have h' : Needs R l S (T ++ [m]) := h.perm fun x => by simp [or_comm]
   simp only [List.length_cons] at hn
   unfold needStep
   by_cases hm : m ∈ S
   ·rw [if_pos hm]
    exact needStep_ok R l n S T (h'.old hm) (by omega)
   ·rw [if_neg hm]
    have h2 := h'.new hm
    have h3 := h2.len
    simp only [List.length_append, List.length_singleton] at h3
    have h4 := reqOf_len R l m
    refine needStep_ok R l n _ _ (h2.perm fun x => by simp [or_comm]) ?_
    simp only [List.length_append, List.length_singleton]
    obtain ⟨d, hd⟩ : ∃ d, (univ R l).length - S.length = d + 1 := ⟨(univ R l).length - S.length - 1, by omega⟩
    have hd2 : (univ R l).length - (S.length + 1) = d := by omega
    rw [hd, Nat.succ_mul] at hn
    rw [hd2]
    omega
theorem needL_ok (R : Regy) (l : List Mod) : Needs R l (needL R l) [] := needStep_ok R l _ [] l (Needs.start R l) (by simp)
theorem needL_mem (R : Regy) (l : List Mod) (m : Mod) : m ∈ needL R l ↔ Reach R l m := (needL_ok R l).fin m
theorem needL_nodup (R : Regy) (l : List Mod) : (needL R l).Nodup := (needL_ok R l).nodup
def knownB (R : Regy) (l : List Mod) (rp : List UInt8) : Bool := (needL R l).all fun m => decide (m.1 = rp) || hasR R m
theorem knownB_iff (R : Regy) (l : List Mod) (rp : List UInt8) : knownB R l rp = true ↔ ∀ m, Reach R l m → m.1 = rp ∨ hasR R m = true := by
 unfold knownB
 rw [List.all_eq_true]
 simp only [Bool.or_eq_true, decide_eq_true_eq, needL_mem]
def listP (R : Regy) (root : Mod) (l : List Mod) : List Mod := root :: msort (topL root.1 (needL R l))
def buildP (R : Regy) (root : Mod) (l : List Mod) : List Mod × Int :=
 if checkR R = 0 then if mcheck root l = 0 then if knownB R l root.1 = true then (listP R root l, 0) else ([], 7) else ([], mcheck root l) else ([], checkR R)
theorem listP_eq {R : Regy} {root : Mod} {l S : List Mod} (hS : S.Nodup) (hr : ∀ m, m ∈ S ↔ Reach R l m) : root :: msort (topL root.1 S) = listP R root l := by
 unfold listP
 rw [topL_congr root.1 (S := S) (S' := needL R l) (fun m => by rw [hr, needL_mem]) hS (needL_nodup R l)]
end Go.Proofs.YthcgihgajdjfoaaGreatDoor
namespace Go.Proofs.YthcgihgajdjfoaaGreatDoor
open Go.RowKit Go.Sort
def lookF (F : List (Mod × Mod)) (m : Mod) : Option Mod := (F.find? fun y => decide (y.1 = m)).map (·.2)
def todoF (first : List Mod) (F : List (Mod × Mod)) : List Mod := first ++ F.map (·.1)
def addF (first : List Mod) (p : Mod) (F : List (Mod × Mod)) (m : Mod) : List (Mod × Mod) := if (lookF F m).isNone = true ∧ m ∉ first then F ++ [(m, p)] else F
def bfsRound (R : Regy) (first : List Mod) (p : Mod) (F : List (Mod × Mod)) : List (Mod × Mod) := (msort (reqOf R p)).foldl (addF first p) F
theorem lookF_none {F : List (Mod × Mod)} {m : Mod} : lookF F m = none ↔ m ∉ F.map (·.1) := by
 unfold lookF
 rw [Option.map_eq_none_iff, List.find?_eq_none]
 constructor
 ·intro h hm
  obtain ⟨y, hy, rfl⟩ := List.mem_map.1 hm
  exact h y hy (decide_eq_true rfl)
 ·intro h y hy hd
  exact h (List.mem_map.2 ⟨y, hy, of_decide_eq_true hd⟩)
theorem msort_mem {l : List Mod} {x : Mod} : x ∈ msort l ↔ x ∈ l := (List.mergeSort_perm l _).mem_iff
structure BInv (R : Regy) (l : List Mod) (F : List (Mod × Mod)) : Prop where
 nod : (F.map (·.1)).Nodup
 new : ∀ x ∈ F.map (·.1), x ∉ msort l
 par : ∀ i (hi : i < F.length), F[i].2 ∈ msort l ++ (F.map (·.1)).take i
 rch : ∀ x ∈ todoF (msort l) F, Reach R l x
 edge : ∀ i (hi : i < F.length), F[i].1 ∈ reqOf R F[i].2
theorem BInv.start (R : Regy) (l : List Mod) : BInv R l [] :=
 ⟨List.nodup_nil, by simp, fun i hi => by simp at hi, fun x hx => .base (msort_mem.1 (by simpa [todoF] using hx)), fun i hi => by simp at hi⟩
theorem BInv.add {R : Regy} {l : List Mod} {F : List (Mod × Mod)} {p m : Mod} (h : BInv R l F) (hp : p ∈ todoF (msort l) F) (hm : m ∈ reqOf R p) :
  BInv R l (addF (msort l) p F m) ∧ m ∈ todoF (msort l) (addF (msort l) p F m) ∧ ∃ X, todoF (msort l) (addF (msort l) p F m) = todoF (msort l) F ++ X := by
 unfold addF
 split
 ·rename_i hc
  obtain ⟨h1, h2⟩ := hc
  have h3 : m ∉ F.map (·.1) := lookF_none.1 (Option.isNone_iff_eq_none.1 h1)
  have he : todoF (msort l) (F ++ [(m, p)]) = todoF (msort l) F ++ [m] := by simp [todoF]
  refine ⟨⟨?_, ?_, ?_, ?_, ?_⟩, by rw [he]; simp, [m], he⟩
  ·rw [List.map_append, List.nodup_append]
   refine ⟨h.nod, by simp, ?_⟩
   intro a ha b hb hab
   obtain rfl : b = m := by simpa using hb
   exact h3 (hab ▸ ha)
  ·intro x hx
   rw [List.map_append, List.mem_append] at hx
   rcases hx with hx | hx
   ·exact h.new x hx
   ·obtain rfl : x = m := by simpa using hx
    exact h2
  ·intro i hi
   by_cases hlt : i < F.length
   ·rw [List.getElem_append_left hlt, List.map_append, List.take_append_of_le_length (by simp; omega)]
    exact h.par i hlt
   ·obtain rfl : i = F.length := by simp at hi; omega
    rw [List.getElem_append_right (Nat.le_refl _), List.map_append, List.take_append_of_le_length (by simp), List.take_of_length_le (by simp)]
    simpa [todoF] using hp
  ·intro x hx
   rw [he, List.mem_append] at hx
   rcases hx with hx | hx
   ·exact h.rch x hx
   ·obtain rfl : x = m := by simpa using hx
    exact .step (h.rch p hp) hm
  ·intro i hi
   by_cases hlt : i < F.length
   ·rw [List.getElem_append_left hlt]
    exact h.edge i hlt
   ·obtain rfl : i = F.length := by simp at hi; omega
    rw [List.getElem_append_right (Nat.le_refl _)]
    simpa using hm
 ·rename_i hc
  refine ⟨h, ?_, [], by simp⟩
  by_cases h1 : (lookF F m).isNone = true
  ·have : m ∈ msort l := Classical.byContradiction fun h2 => hc ⟨h1, h2⟩
   unfold todoF
   exact List.mem_append_left _ this
  ·have h2 : ¬ lookF F m = none := fun e => h1 (by rw [e]; rfl)
   rw [lookF_none, Classical.not_not] at h2
   unfold todoF
   exact List.mem_append_right _ h2
theorem BInv.len {R : Regy} {l : List Mod} {F : List (Mod × Mod)} (h : BInv R l F) : F.length ≤ (univ R l).length ∧ (todoF (msort l) F).length ≤ l.length + (univ R l).length := by
 have h1 := nodup_len (F.map (·.1)) (univ R l) h.nod fun x hx => (h.rch x (List.mem_append_right _ hx)).univ
 rw [List.length_map] at h1
 refine ⟨h1, ?_⟩
 unfold todoF
 rw [List.length_append, msort_len, List.length_map]
 omega
def Closed (R : Regy) (l : List Mod) (k : Nat) (F : List (Mod × Mod)) : Prop := ∀ j (hj : j < (todoF (msort l) F).length), j < k → ∀ m ∈ reqOf R (todoF (msort l) F)[j], m ∈ todoF (msort l) F
theorem Closed.all {R : Regy} {l : List Mod} {F : List (Mod × Mod)} (h : Closed R l (todoF (msort l) F).length F) {m : Mod} (hm : Reach R l m) : m ∈ todoF (msort l) F := by
 induction hm with
 | base h1 => exact List.mem_append_left _ (msort_mem.2 h1)
 | step _ h2 ih =>
   obtain ⟨j, hj, rfl⟩ := List.mem_iff_getElem.1 ih
   exact h j hj hj _ h2
structure InnerI (R : Regy) (l : List Mod) (k : Nat) (p : Mod) (F0 : List (Mod × Mod)) (q : Nat) (F : List (Mod × Mod)) : Prop where
 inv : BInv R l F
 eq : ((msort (reqOf R p)).take q).foldl (addF (msort l) p) F0 = F
 pre : ∃ X, todoF (msort l) F = todoF (msort l) F0 ++ X
 seen : ∀ m ∈ (msort (reqOf R p)).take q, m ∈ todoF (msort l) F
theorem InnerI.start {R : Regy} {l : List Mod} {k : Nat} {p : Mod} {F : List (Mod × Mod)} (h : BInv R l F) : InnerI R l k p F 0 F := ⟨h, rfl, ⟨[], by simp⟩, by simp⟩
theorem InnerI.step {R : Regy} {l : List Mod} {k : Nat} {p : Mod} {F0 F : List (Mod × Mod)} {q : Nat} (h : InnerI R l k p F0 q F) (hp : p ∈ todoF (msort l) F0) (hq : q < (msort (reqOf R p)).length) :
  InnerI R l k p F0 (q + 1) (addF (msort l) p F (msort (reqOf R p))[q]) := by
 obtain ⟨X, hX⟩ := h.pre
 have hp2 : p ∈ todoF (msort l) F := by rw [hX]; exact List.mem_append_left _ hp
 have hm : (msort (reqOf R p))[q] ∈ reqOf R p := msort_mem.1 (List.getElem_mem hq)
 obtain ⟨h1, h2, X2, hX2⟩ := h.inv.add hp2 hm
 refine ⟨h1, ?_, ⟨X ++ X2, by rw [hX2, hX, List.append_assoc]⟩, fun m hmm => ?_⟩
 ·rw [List.take_succ_eq_append_getElem hq, List.foldl_append, h.eq]
  rfl
 ·rw [List.take_succ_eq_append_getElem hq, List.mem_append] at hmm
  rcases hmm with hmm | hmm
  ·rw [hX2]
   exact List.mem_append_left _ (h.seen m hmm)
  ·rw [List.mem_singleton.1 hmm]
   exact h2
theorem InnerI.done {R : Regy} {l : List Mod} {k : Nat} {p : Mod} {F0 F : List (Mod × Mod)} (h : InnerI R l k p F0 (msort (reqOf R p)).length F) (hc : Closed R l k F0) (hk : (todoF (msort l) F0)[k]? = some p) :
  F = bfsRound R (msort l) p F0 ∧ Closed R l (k + 1) F := by
 obtain ⟨X, hX⟩ := h.pre
 have hkl : k < (todoF (msort l) F0).length := (List.getElem?_eq_some_iff.1 hk).1
 have hke := (List.getElem?_eq_some_iff.1 hk).2
 refine ⟨?_, fun j hj hjk m hm => ?_⟩
 ·rw [← h.eq, List.take_of_length_le (Nat.le_refl _)]
  rfl
 ·have hjl : j < (todoF (msort l) F0).length := by omega
  have e : (todoF (msort l) F)[j] = (todoF (msort l) F0)[j] := by
   have h1 : (todoF (msort l) F)[j]? = (todoF (msort l) F0)[j]? := by rw [hX, List.getElem?_append_left hjl]
   rw [List.getElem?_eq_getElem hj, List.getElem?_eq_getElem hjl] at h1
   exact Option.some.inj h1
  rw [e] at hm
  by_cases hjk2 : j < k
  ·rw [hX]
   exact List.mem_append_left _ (hc j hjl hjk2 m hm)
  ·obtain rfl : j = k := by omega
   rw [hke] at hm
   exact h.seen m (by rw [List.take_of_length_le (Nat.le_refl _)]; exact msort_mem.2 hm)
end Go.Proofs.YthcgihgajdjfoaaGreatDoor
namespace Go.Proofs.YthcgihgajdjfoaaGreatDoor
open Go.RowKit
def lowhex (c : UInt8) : Bool := decide (48 ≤ c.toNat ∧ c.toNat ≤ 57) || decide (97 ≤ c.toNat ∧ c.toNat ≤ 102)
def hval (c : UInt8) : Nat := if c.toNat ≤ 57 then c.toNat - 48 else c.toNat - 87
def pval (l : List UInt8) : Nat := l.foldl (fun n c => 16 * n + hval c) 0
def pOk (s : List UInt8) : Bool := decide (s.length = 18) && decide (s.take 2 = [104, 58]) && (s.drop 2).all lowhex
def presN (s : List UInt8) : Nat := if pOk s = true then pval (s.drop 2) else 0
def presE (s : List UInt8) : Int := if pOk s = true then 0 else 8
theorem pval_snoc (l : List UInt8) (c : UInt8) : pval (l ++ [c]) = 16 * pval l + hval c := by simp [pval]
theorem hval_lt (c : UInt8) (h : lowhex c = true) : hval c < 16 := by
 simp [lowhex] at h
 unfold hval
 split <;> omega
theorem pval_lt : ∀ (k : Nat) (l : List UInt8), l.length ≤ k → l.all lowhex = true → pval l < 16 ^ k := by
 intro k
 induction k with
 | zero =>
   intro l h _
   obtain rfl : l = [] := List.eq_nil_of_length_eq_zero (by omega)
   simp [pval]
 | succ k ih =>
   intro l h ha
   rcases List.eq_nil_or_concat l with rfl | ⟨l', c, rfl⟩
   ·simp [pval]; exact Nat.pow_pos (by decide)
   ·rw [List.concat_eq_append] at *
    rw [List.all_append] at ha
    simp at ha h
    have h1 := ih l' (by omega) (by simpa using ha.1)
    have h2 := hval_lt c ha.2
    rw [pval_snoc, Nat.pow_succ]
    omega
theorem pOk_len (s : List UInt8) (h : s.length ≠ 18) : pOk s = false := by simp [pOk, h]
theorem pOk_head (s : List UInt8) (h : s.take 2 ≠ [104, 58]) : pOk s = false := by simp [pOk, h]
theorem pOk_bad (s : List UInt8) (k : Nat) (hk : k < (s.drop 2).length) (h : lowhex (s.drop 2)[k] = false) : pOk s = false := by
 have : (s.drop 2).all lowhex = false := List.all_eq_false.2 ⟨_, List.getElem_mem hk, by rw [h]; simp⟩
 simp [pOk, this]
theorem pOk_good (s : List UInt8) (h1 : s.length = 18) (h2 : s.take 2 = [104, 58]) (h3 : (s.drop 2).all lowhex = true) : pOk s = true := by simp [pOk, h1, h2, h3]
theorem all_take_succ {α : Type} (p : α → Bool) (l : List α) (k : Nat) (h : k < l.length) : (l.take (k + 1)).all p = ((l.take k).all p && p l[k]) := by
 rw [List.take_succ_eq_append_getElem h, List.all_append]
 simp
theorem pval_take (l : List UInt8) (k : Nat) (h : k < l.length) : pval (l.take (k + 1)) = 16 * pval (l.take k) + hval l[k] := by
 rw [List.take_succ_eq_append_getElem h, pval_snoc]
end Go.Proofs.YthcgihgajdjfoaaGreatDoor
