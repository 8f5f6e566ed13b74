/- Plain: the document's chains, formed length by length; the least of the shortest is the search's. -/
import Derived.Test.YtfiilbdkhelhgaaGreatDoorPL11
namespace Go.Proofs.YtfiilbdkhelhgaaGreatDoor
open Go.RowKit Go.Sort

theorem nodup_of_map {α β : Type} {f : α → β} {l : List α} (h : (l.map f).Nodup) : l.Nodup := by
  rw [List.nodup_iff_pairwise_ne, List.pairwise_map] at h
  exact List.nodup_iff_pairwise_ne.2 (h.imp fun h1 e => h1 (by rw [e]))
theorem reqOf_nodup {R : Regy} (h : ∀ y ∈ R, (y.2.map (·.1)).Nodup) (m : Mod) : (reqOf R m).Nodup := by
  unfold reqOf
  cases hf : R.find? fun x => decide (x.1 = m) with
  | none => simp
  | some y => exact nodup_of_map (h y (List.mem_of_find?_eq_some hf))
theorem todo_nodup {R : Regy} {l : List Mod} {F : List (Mod × Mod)} (hI : BInv R l F) (hn : l.Nodup) : (todoF (msort l) F).Nodup := by
  unfold todoF
  rw [List.nodup_append]
  exact ⟨(List.mergeSort_perm l _).nodup_iff.2 hn, hI.nod, fun a ha b hb e => hI.new b hb (e ▸ ha)⟩
theorem bfs_t {R : Regy} {l : List Mod} {g : Mod} (hq : ∀ m, (reqOf R m).Nodup) (hn : l.Nodup) (hg : Reach R l g) : ∀ (n k : Nat) (F : List (Mod × Mod)) (T : Regy), BInv R l F → Closed R l k F → TInv R l k F T → (∀ (j : Nat) (hj : j < T.length), j < k → T[j].1 ≠ g) → k ≤ T.length → l.length + (univ R l).length + 1 ≤ k + n →
    ∃ (k' : Nat) (T' : Regy), BInv R l (bfs R (msort l) g n k F) ∧ TInv R l k' (bfs R (msort l) g n k F) T' ∧ ∃ hk : k' < T'.length, T'[k'].1 = g
  | 0, k, F, T, hI, _, hT, _, hk, hf => by
    have h1 := hI.len.2
    have h2 : T.length = (todoF (msort l) F).length := by rw [← hT.keys, List.length_map]
    omega
  | n + 1, k, F, T, hI, hC, hT, hne, hk, hf => by
    have hl : T.length = (todoF (msort l) F).length := by rw [← hT.keys, List.length_map]
    by_cases hkT : k < T.length
    · have ht : (todoF (msort l) F)[k]? = some T[k].1 := by
        rw [← hT.keys, List.getElem?_map, List.getElem?_eq_getElem hkT]
        rfl
      by_cases hpg : T[k].1 = g
      · rw [hpg] at ht
        rw [bfs_hit ht]
        exact ⟨k, T, hI, hT, hkT, hpg⟩
      · rw [bfs_step ht hpg]
        obtain ⟨h1, h2, _⟩ := round_inv hI hC ht
        obtain ⟨X, h3⟩ := hT.round hkT (hq _)
        refine bfs_t hq hn hg n (k + 1) _ (T ++ X) h1 h2 h3 (fun j hj hjk => ?_) (by rw [List.length_append]; omega) (by omega)
        have hjT : j < T.length := by omega
        rw [List.getElem_append_left hjT]
        by_cases e : j < k
        · exact hne j hjT e
        · obtain rfl : j = k := by omega
          exact hpg
    · obtain rfl : k = T.length := by omega
      rw [hl] at hC
      have h1 := hC.all hg
      rw [← hT.keys] at h1
      obtain ⟨y, hy, hyg⟩ := List.mem_map.1 h1
      obtain ⟨i, hi, rfl⟩ := List.mem_iff_getElem.1 hy
      exact absurd hyg (hne i hi hi)
theorem TCh.wk {R : Regy} {l : List Mod} {F : List (Mod × Mod)} {T : Regy} (hI : BInv R l F) (hT : TCh l F T) (hn : (T.map (·.1)).Nodup) : ∀ (n : Nat) (m : Mod) (c : List Mod), c.length ≤ n → (m, c) ∈ T → Wk R l m c := by
  intro n
  induction n with
  | zero =>
    intro m c hc h
    have hm : m ∈ todoF (msort l) F := by rw [← hT.keys]; exact List.mem_map.2 ⟨_, h, rfl⟩
    rcases List.mem_append.1 hm with h1 | h1
    · rw [pair_eq hn h (hT.fst m h1)] at hc; simp at hc
    · obtain ⟨y, hy, rfl⟩ := List.mem_map.1 h1
      obtain ⟨d, _, h2⟩ := hT.par y hy
      rw [pair_eq hn h h2] at hc; simp at hc
  | succ n ih =>
    intro m c hc h
    have hm : m ∈ todoF (msort l) F := by rw [← hT.keys]; exact List.mem_map.2 ⟨_, h, rfl⟩
    rcases List.mem_append.1 hm with h1 | h1
    · rw [pair_eq hn h (hT.fst m h1)]
      exact .one (msort_mem.1 h1)
    · obtain ⟨y, hy, rfl⟩ := List.mem_map.1 h1
      obtain ⟨d, h3, h2⟩ := hT.par y hy
      have e := pair_eq hn h h2
      rw [e] at hc ⊢
      obtain ⟨i, hi, rfl⟩ := List.mem_iff_getElem.1 hy
      exact .snoc (ih _ d (by simp at hc; omega) h3) (hI.edge i hi)
theorem TInv.len {R : Regy} {l : List Mod} {k : Nat} {F : List (Mod × Mod)} {T : Regy} (h : TInv R l k F T) : ∀ (n i : Nat) (hi : i < T.length), i ≤ n → T[i].2.length ≤ i + 1 := by
  intro n
  induction n with
  | zero =>
    intro i hi hin
    obtain rfl : i = 0 := by omega
    rcases h.bound _ (List.getElem_mem hi) with h1 | ⟨j, hj, _, h1⟩
    · omega
    · exfalso
      by_cases e : j = 0
      · subst e
        have := congrArg List.length h1
        simp at this
      · have h3 := (List.pairwise_iff_getElem.1 h.srt) 0 j (by simpa using hi) (by simpa using hj) (by omega)
        simp only [List.getElem_map] at h3
        rw [h1] at h3
        exact slt_irrefl (slt_trans h3 (slt_self _ _))
  | succ n ih =>
    intro i hi hin
    rcases h.bound _ (List.getElem_mem hi) with h1 | ⟨j, hj, _, h1⟩
    · omega
    · have hji : j < i := by
        rcases Nat.lt_trichotomy j i with h2 | h2 | h2
        · exact h2
        · subst h2
          have := congrArg List.length h1
          simp at this
        · exfalso
          have h3 := (List.pairwise_iff_getElem.1 h.srt) i j (by simpa using hi) (by simpa using hj) h2
          simp only [List.getElem_map] at h3
          rw [h1] at h3
          exact slt_irrefl (slt_trans h3 (slt_self _ _))
      have h2 := ih j hj (by omega)
      rw [h1, List.length_append, List.length_singleton]
      omega
/-- the chain that the program finds -/
theorem chain_least {R : Regy} {l : List Mod} {g : Mod} (hq : ∀ m, (reqOf R m).Nodup) (hn : l.Nodup) (hg : Reach R l g) :
    ∃ c, chainUp (msort l) (bfsF R l g) (bfsF R l g).length [g] = c ∧ Wk R l g c ∧ (∀ w, Wk R l g w → sle c w) ∧ c.length ≤ (needL R l).length := by
  obtain ⟨k, T, h1, h2, hk, h3⟩ := bfs_t hq hn hg (l.length + (univ R l).length + 1) 0 [] _ (BInv.start R l) (fun j hj hj0 => absurd hj0 (Nat.not_lt_zero _)) (TInv.start R hn) (fun j _ hj => absurd hj (Nat.not_lt_zero _)) (Nat.zero_le _) (by omega)
  have hN : (T.map (·.1)).Nodup := by rw [h2.keys]; exact todo_nodup h1 hn
  have hm : (g, T[k].2) ∈ T := by
    have h := List.getElem_mem hk
    rw [← h3]
    exact h
  refine ⟨T[k].2, ?_, TCh.wk h1 h2.toTCh hN _ g _ (Nat.le_refl _) hm, fun w hw => ?_, ?_⟩
  · have hgt : g ∈ todoF (msort l) (bfsF R l g) := by
      have : g ∈ T.map (·.1) := List.mem_map.2 ⟨_, hm, rfl⟩
      rw [h2.keys] at this
      exact this
    have := chainUp_t (F := bfsF R l g) h1 h2.toTCh hN (bfsF R l g).length g T[k].2 [] (by
      rw [List.take_of_length_le (by rw [List.length_map]; exact Nat.le_refl _)]
      exact hgt) hm
    rw [this, List.append_nil]
  · rcases h2.least hk hw with ⟨c, h4, h5⟩ | h4
    · rw [pair_eq hN hm h4]; exact h5
    · exact .inr h4
  · have h4 := h2.len k k hk (Nat.le_refl _)
    have h5 : T.length ≤ (needL R l).length := by
      have h6 : T.length = (T.map (·.1)).length := by rw [List.length_map]
      rw [h6]
      refine nodup_len _ _ hN fun x hx => (needL_mem R l x).2 ?_
      rw [h2.keys] at hx
      exact h1.rch x hx
    omega

/-- a chain's end -/
def endM (c : List Mod) : Mod := c.getLastD zmod
theorem endM_snoc (c : List Mod) (x : Mod) : endM (c ++ [x]) = x := by simp [endM]
theorem Wk.end {R : Regy} {l : List Mod} {m : Mod} {c : List Mod} (h : Wk R l m c) : endM c = m := by
  cases h with
  | one _ => rfl
  | snoc _ _ => exact endM_snoc _ _
/-- the document's add -/
def addC : List (List Mod) → List Mod → List (List Mod)
  | [], c => [c]
  | d :: L, c => if endM d = endM c then (if lexB c d = true then c :: L else d :: L) else d :: addC L c
def lexLe (a b : List Mod) : Prop := a = b ∨ lexB a b = true
theorem lexLe_trans {a b c : List Mod} (h1 : lexLe a b) (h2 : lexLe b c) : lexLe a c := by
  rcases h1 with rfl | h1
  · exact h2
  · rcases h2 with rfl | h2
    · exact .inr h1
    · exact .inr (lexB_trans h1 h2)
theorem addC_ends (c : List Mod) : ∀ L : List (List Mod), (addC L c).map endM = if endM c ∈ L.map endM then L.map endM else L.map endM ++ [endM c]
  | [] => by simp [addC]
  | d :: L => by
    unfold addC
    by_cases h : endM d = endM c
    · rw [if_pos h, if_pos (show endM c ∈ (d :: L).map endM by simp [h])]
      split
      · simp [h]
      · rfl
    · rw [if_neg h, List.map_cons, addC_ends c L, List.map_cons]
      by_cases h2 : endM c ∈ L.map endM
      · rw [if_pos h2, if_pos (List.mem_cons_of_mem _ h2)]
      · rw [if_neg h2, if_neg]
        · rfl
        · intro h3
          rcases List.mem_cons.1 h3 with h4 | h4
          · exact h h4.symm
          · exact h2 h4
theorem addC_sub (c : List Mod) : ∀ (L : List (List Mod)), ∀ d ∈ addC L c, d ∈ L ∨ d = c
  | [], d, h => by simp [addC] at h; exact .inr h
  | e :: L, d, h => by
    unfold addC at h
    split at h
    · split at h
      · rcases List.mem_cons.1 h with h | h
        · exact .inr h
        · exact .inl (List.mem_cons_of_mem _ h)
      · exact .inl h
    · rcases List.mem_cons.1 h with h | h
      · exact .inl (by simp [h])
      · exact (addC_sub c L d h).imp (List.mem_cons_of_mem _) id
theorem addC_new (c : List Mod) : ∀ (L : List (List Mod)), (∀ d ∈ L, d.length = c.length) → ∃ d ∈ addC L c, endM d = endM c ∧ lexLe d c
  | [], _ => ⟨c, by simp [addC], rfl, .inl rfl⟩
  | e :: L, hl => by
    unfold addC
    by_cases h : endM e = endM c
    · rw [if_pos h]
      by_cases h2 : lexB c e = true
      · rw [if_pos h2]
        exact ⟨c, by simp, rfl, .inl rfl⟩
      · rw [if_neg h2]
        refine ⟨e, by simp, h, ?_⟩
        rcases lexB_total (hl e (by simp)) with h3 | h3 | h3
        · exact .inl h3
        · exact .inr h3
        · exact absurd h3 h2
    · rw [if_neg h]
      obtain ⟨d, h1, h2⟩ := addC_new c L fun d hd => hl d (by simp [hd])
      exact ⟨d, List.mem_cons_of_mem _ h1, h2⟩
theorem addC_old (c : List Mod) : ∀ (L : List (List Mod)), ∀ d ∈ L, ∃ d' ∈ addC L c, endM d' = endM d ∧ lexLe d' d
  | [], d, h => by simp at h
  | e :: L, d, h => by
    unfold addC
    rcases List.mem_cons.1 h with rfl | h
    · by_cases h1 : endM d = endM c
      · rw [if_pos h1]
        by_cases h2 : lexB c d = true
        · rw [if_pos h2]
          exact ⟨c, by simp, h1.symm, .inr h2⟩
        · rw [if_neg h2]
          exact ⟨d, by simp, rfl, .inl rfl⟩
      · rw [if_neg h1]
        exact ⟨d, by simp, rfl, .inl rfl⟩
    · by_cases h1 : endM e = endM c
      · rw [if_pos h1]
        refine ⟨d, ?_, rfl, .inl rfl⟩
        split <;> simp [h]
      · rw [if_neg h1]
        obtain ⟨d', h2, h3⟩ := addC_old c L d h
        exact ⟨d', List.mem_cons_of_mem _ h2, h3⟩
/-- of chains of one length the least for each end -/
structure Best (N : Nat) (S : List Mod → Prop) (L : List (List Mod)) : Prop where
  nod : (L.map endM).Nodup
  sub : ∀ c ∈ L, S c ∧ c.length = N
  top : ∀ w, S w → ∃ c ∈ L, endM c = endM w ∧ lexLe c w
theorem Best.add {N : Nat} {S : List Mod → Prop} {L : List (List Mod)} {c : List Mod} (h : Best N S L) (hc : c.length = N) : Best N (fun w => S w ∨ w = c) (addC L c) := by
  refine ⟨?_, fun d hd => ?_, fun w hw => ?_⟩
  · rw [addC_ends]
    split
    · exact h.nod
    · rename_i hn
      rw [List.nodup_append]
      refine ⟨h.nod, by simp, fun a ha b hb e => hn ?_⟩
      obtain rfl : b = endM c := by simpa using hb
      exact e ▸ ha
  · rcases addC_sub c L d hd with h1 | h1
    · exact ⟨.inl (h.sub d h1).1, (h.sub d h1).2⟩
    · exact ⟨.inr h1, by rw [h1]; exact hc⟩
  · rcases hw with hw | rfl
    · obtain ⟨d, h1, h2, h3⟩ := h.top w hw
      obtain ⟨d', h4, h5, h6⟩ := addC_old c L d h1
      exact ⟨d', h4, h5.trans h2, lexLe_trans h6 h3⟩
    · exact addC_new w L fun d hd => (h.sub d hd).2.trans hc.symm
theorem Best.congr {N : Nat} {S S' : List Mod → Prop} {L : List (List Mod)} (h : Best N S L) (hs : ∀ w, S w ↔ S' w) : Best N S' L :=
  ⟨h.nod, fun c hc => ⟨(hs c).1 (h.sub c hc).1, (h.sub c hc).2⟩, fun w hw => h.top w ((hs w).2 hw)⟩
theorem Best.folds {N : Nat} : ∀ (X : List (List Mod)) {S : List Mod → Prop} {L : List (List Mod)}, Best N S L → (∀ c ∈ X, c.length = N) → Best N (fun w => S w ∨ w ∈ X) (X.foldl addC L)
  | [], S, L, h, _ => h.congr fun w => by simp
  | c :: X, S, L, h, hX => by
    rw [List.foldl_cons]
    exact (Best.folds X (h.add (hX c (by simp))) fun d hd => hX d (by simp [hd])).congr fun w => by simp [or_assoc]
/-- the chains of one module -/
def layer0 (l : List Mod) : List (List Mod) := l.foldl (fun L x => addC L [x]) []
/-- the chains of one module more -/
def nextC (R : Regy) (L : List (List Mod)) : List (List Mod) := L.foldl (fun N c => (reqOf R (endM c)).foldl (fun N x => addC N (c ++ [x])) N) []
def search (R : Regy) (g : Mod) : Nat → List (List Mod) → Option (List Mod)
  | 0, _ => none
  | n + 1, L => match L.find? fun c => decide (endM c = g) with
    | some c => some c
    | none => search R g n (nextC R L)
theorem layer0_eq (l : List Mod) : layer0 l = (l.map fun x => [x]).foldl addC [] := by
  unfold layer0
  rw [List.foldl_map]
theorem nextC_eq (R : Regy) (L : List (List Mod)) : nextC R L = (L.flatMap fun c => (reqOf R (endM c)).map fun x => c ++ [x]).foldl addC [] := by
  unfold nextC
  rw [List.foldl_flatMap]
  congr 1
  funext N c
  rw [List.foldl_map]
theorem Best.nil (N : Nat) : Best N (fun _ => False) [] := ⟨by simp, by simp, fun _ h => h.elim⟩
abbrev WkN (R : Regy) (l : List Mod) (N : Nat) : List Mod → Prop := fun w => (∃ m, Wk R l m w) ∧ w.length = N
theorem Wk.pos {R : Regy} {l : List Mod} {m : Mod} {c : List Mod} (h : Wk R l m c) : 0 < c.length := by
  cases h <;> simp
theorem best0 (R : Regy) (l : List Mod) : Best 1 (WkN R l 1) (layer0 l) := by
  rw [layer0_eq]
  refine (Best.folds _ (Best.nil 1) fun c hc => ?_).congr fun w => ?_
  · obtain ⟨x, _, rfl⟩ := List.mem_map.1 hc
    rfl
  · simp only [false_or]
    constructor
    · intro h
      obtain ⟨x, hx, rfl⟩ := List.mem_map.1 h
      exact ⟨⟨x, .one hx⟩, rfl⟩
    · rintro ⟨⟨m, hm⟩, hl⟩
      cases hm with
      | one hx => exact List.mem_map.2 ⟨_, hx, rfl⟩
      | snoc h1 _ =>
        have := h1.pos
        rw [List.length_append, List.length_singleton] at hl
        omega
theorem Best.next {R : Regy} {l : List Mod} {N : Nat} {L : List (List Mod)} (hN : 1 ≤ N) (h : Best N (WkN R l N) L) : Best (N + 1) (WkN R l (N + 1)) (nextC R L) := by
  rw [nextC_eq]
  have hlen : ∀ c ∈ L.flatMap fun c => (reqOf R (endM c)).map fun x => c ++ [x], c.length = N + 1 := fun c hc => by
    obtain ⟨d, hd, h1⟩ := List.mem_flatMap.1 hc
    obtain ⟨x, _, rfl⟩ := List.mem_map.1 h1
    simp [(h.sub d hd).2]
  have h0 := (Best.folds _ (Best.nil (N + 1)) hlen)
  refine ⟨h0.nod, fun c hc => ?_, fun w hw => ?_⟩
  · obtain ⟨h1, h2⟩ := h0.sub c hc
    rcases h1 with h1 | h1
    · exact h1.elim
    · obtain ⟨d, hd, h3⟩ := List.mem_flatMap.1 h1
      obtain ⟨x, hx, rfl⟩ := List.mem_map.1 h3
      obtain ⟨⟨⟨m, hm⟩, _⟩, _⟩ := h.sub d hd
      rw [hm.end] at hx
      exact ⟨⟨⟨x, .snoc hm hx⟩, h2⟩, h2⟩
  · obtain ⟨⟨m, hm⟩, hl⟩ := hw
    cases hm with
    | one hx =>
      rw [List.length_singleton] at hl
      omega
    | @snoc _ y c h1 hx =>
      have hcl : c.length = N := by simp at hl; omega
      obtain ⟨d, h2, h3, h4⟩ := h.top c ⟨⟨y, h1⟩, hcl⟩
      have hdl := (h.sub d h2).2
      obtain ⟨e, h5, h6, h7⟩ := h0.top (d ++ [m]) (.inr (List.mem_flatMap.2 ⟨d, h2, List.mem_map.2 ⟨m, by rw [h3, h1.end]; exact hx, rfl⟩⟩))
      refine ⟨e, h5, by rw [h6, endM_snoc, endM_snoc], lexLe_trans h7 ?_⟩
      rcases h4 with rfl | h4
      · exact .inl rfl
      · exact .inr (lexB_snoc m m (hdl.trans hcl.symm) h4)
theorem search_ok {R : Regy} {l : List Mod} {g : Mod} {c : List Mod} (hc : Wk R l g c) (hm : ∀ w, Wk R l g w → sle c w) : ∀ (n N : Nat) (L : List (List Mod)), 1 ≤ N → Best N (WkN R l N) L → N ≤ c.length → c.length < N + n → search R g n L = some c
  | 0, N, L, _, _, h1, h2 => by omega
  | n + 1, N, L, hN, hL, h1, h2 => by
    unfold search
    cases hf : L.find? fun c => decide (endM c = g) with
    | some d =>
      have hd := List.mem_of_find?_eq_some hf
      have he : endM d = g := by simpa using List.find?_some hf
      obtain ⟨⟨⟨m, hw⟩, hdN⟩, _⟩ := hL.sub d hd
      obtain rfl : m = g := hw.end.symm.trans he
      have h3 := hm d hw
      have hcN : c.length = N := by
        rcases h3 with rfl | h3 | ⟨h3, _⟩
        · exact hdN
        · omega
        · omega
      obtain ⟨d', h4, h5, h6⟩ := hL.top c ⟨⟨m, hc⟩, hcN⟩
      have hdd : d' = d := by
        obtain ⟨i, hi, e1⟩ := List.mem_iff_getElem.1 h4
        obtain ⟨j, hj, e2⟩ := List.mem_iff_getElem.1 hd
        have := nodup_inj hL.nod (i := i) (j := j) (by simpa using hi) (by simpa using hj) (by simp [e1, e2, h5, he, hc.end])
        subst this
        exact e1.symm.trans e2
      subst hdd
      rcases h6 with rfl | h6
      · rfl
      · exfalso
        rcases h3 with rfl | h3 | ⟨_, h3⟩
        · rw [lexB_irrefl] at h6; cases h6
        · omega
        · have := lexB_trans h6 h3
          rw [lexB_irrefl] at this; cases this
    | none =>
      have hne : c.length ≠ N := fun e => by
        obtain ⟨d, h4, h5, _⟩ := hL.top c ⟨⟨g, hc⟩, e⟩
        have := List.find?_eq_none.1 hf d h4
        simp [h5, hc.end] at this
      exact search_ok hc hm n (N + 1) _ (by omega) (hL.next hN) (by omega) (by omega)
/-- the document's reason -/
def rreasonP (R : Regy) (root : Mod) (l : List Mod) (path : List UInt8) : List Mod × Int :=
  if (buildP R root l).2 = 0 then
    match greatestP ((buildP R root l).1.drop 1) path with
    | none => ([], 7)
    | some g => match search R g (needL R l).length (layer0 l) with
      | some c => (c, 0)
      | none => ([], 7)
  else ([], (buildP R root l).2)
theorem greatest_hasV {l : List Mod} (hn : (l.map (·.1)).Nodup) (p : List UInt8) : greatestP l p = hasV l p := by
  obtain ⟨h1, h2⟩ := greatest_spec p l
  cases hg : greatestP l p with
  | none =>
    symm
    unfold hasV
    rw [List.find?_eq_none]
    intro x hx
    simpa using h1.1 hg x hx
  | some g =>
    obtain ⟨h3, h4, _⟩ := h2 g hg
    rw [← h4, hasV_of hn h3]
theorem mcheck_nodup {m : Mod} {l : List Mod} (h : mcheck m l = 0) : (l.map (·.1)).Nodup := by
  have := ((mcheck_iff m l).1 h).2.1
  rw [List.map_cons, List.nodup_cons] at this
  exact this.2
theorem rreason_eq (R : Regy) (root : Mod) (l : List Mod) (p : List UInt8) : rreasonP R root l p = reasonP R root l p := by
  unfold rreasonP reasonP
  by_cases h : (buildP R root l).2 = 0
  · rw [if_pos h, if_pos h]
    obtain ⟨D, hB⟩ := built h
    have e : (buildP R root l).1.drop 1 = D := by rw [hB.eq]; rfl
    rw [e, greatest_hasV hB.tail.nod p]
    unfold hasV
    cases hf : D.find? fun x => decide (x.1 = p) with
    | none => rfl
    | some g =>
      obtain ⟨hc, hm, _⟩ := buildP_ok h
      have hgD := List.mem_of_find?_eq_some hf
      obtain ⟨c, h1, h2, h3, h4⟩ := chain_least (g := g) (reqOf_nodup fun y hy => mcheck_nodup (((checkR_iff R).1 hc).1 y hy)) (nodup_of_map (mcheck_nodup hm)) (hB.rch g hgD)
      simp only
      rw [h1, search_ok h2 h3 (needL R l).length 1 (layer0 l) (Nat.le_refl _) (best0 R l) h2.pos (by omega)]
  · rw [if_neg h, if_neg h]
end Go.Proofs.YtfiilbdkhelhgaaGreatDoor
