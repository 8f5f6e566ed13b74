/- Plain: chains by length and from the left; the search finds the least chain. -/
import Derived.Test.YtfiilbdkhelhgaaGreatDoorPL10
namespace Go.Proofs.YtfiilbdkhelhgaaGreatDoor
open Go.RowKit Go.Sort

/-- is a chain less than one of the same length? -/
def lexB : List Mod → List Mod → Bool
  | [], _ => false
  | _ :: _, [] => false
  | a :: x, b :: y => if mcmp a b = 0 then lexB x y else decide (mcmp a b < 0)
theorem mcmp_self (a : Mod) : mcmp a a = 0 := (mcmp_eq a a).2 rfl
theorem lexB_irrefl : ∀ a, lexB a a = false
  | [] => rfl
  | a :: x => by unfold lexB; rw [if_pos (mcmp_self a)]; exact lexB_irrefl x
theorem mltn_trans {a b c : Mod} (h1 : mcmp a b < 0) (h2 : mcmp b c < 0) : mcmp a c < 0 := by
  obtain ⟨h3, h4⟩ := mcmp_law a b c (by omega) (by omega)
  have : mcmp a c ≠ 0 := fun h => by have := (h4 h).1; omega
  omega
theorem lexB_trans : ∀ {a b c : List Mod}, lexB a b = true → lexB b c = true → lexB a c = true
  | [], _, _, h, _ => by simp [lexB] at h
  | _ :: _, [], _, h, _ => by simp [lexB] at h
  | _ :: _, _ :: _, [], _, h => by simp [lexB] at h
  | a :: x, b :: y, c :: z, h1, h2 => by
    unfold lexB at h1 h2 ⊢
    by_cases e1 : mcmp a b = 0
    · rw [if_pos e1] at h1
      obtain rfl := (mcmp_eq a b).1 e1
      by_cases e2 : mcmp a c = 0
      · rw [if_pos e2] at h2 ⊢
        exact lexB_trans h1 h2
      · rw [if_neg e2] at h2 ⊢
        exact h2
    · rw [if_neg e1, decide_eq_true_eq] at h1
      by_cases e2 : mcmp b c = 0
      · obtain rfl := (mcmp_eq b c).1 e2
        rw [if_neg e1]
        exact decide_eq_true h1
      · rw [if_neg e2, decide_eq_true_eq] at h2
        have h3 := mltn_trans h1 h2
        rw [if_neg (by omega)]
        exact decide_eq_true h3
theorem lexB_total : ∀ {a b : List Mod}, a.length = b.length → a = b ∨ lexB a b = true ∨ lexB b a = true
  | [], [], _ => .inl rfl
  | [], _ :: _, h => by simp at h
  | _ :: _, [], h => by simp at h
  | a :: x, b :: y, h => by
    unfold lexB
    have hr := mcmp_anti a b
    by_cases e : mcmp a b = 0
    · rw [if_pos e, if_pos (by omega)]
      obtain rfl := (mcmp_eq a b).1 e
      rcases lexB_total (a := x) (b := y) (by simpa using h) with h1 | h1
      · exact .inl (by rw [h1])
      · exact .inr h1
    · rw [if_neg e, if_neg (by omega)]
      right
      simp only [decide_eq_true_eq]
      omega
theorem lexB_snoc : ∀ {a b : List Mod} (m n : Mod), a.length = b.length → lexB a b = true → lexB (a ++ [m]) (b ++ [n]) = true
  | [], _, _, _, _, h => by simp [lexB] at h
  | _ :: _, [], _, _, _, h => by simp [lexB] at h
  | a :: x, b :: y, m, n, hl, h => by
    rw [List.cons_append, List.cons_append]
    unfold lexB at h ⊢
    by_cases e : mcmp a b = 0
    · rw [if_pos e] at h ⊢
      exact lexB_snoc m n (by simpa using hl) h
    · rw [if_neg e] at h ⊢
      exact h
theorem lexB_same : ∀ (a : List Mod) {m n : Mod}, mcmp m n < 0 → lexB (a ++ [m]) (a ++ [n]) = true
  | [], m, n, h => by
    rw [List.nil_append, List.nil_append]
    unfold lexB
    rw [if_neg (by omega)]
    exact decide_eq_true h
  | a :: x, m, n, h => by
    rw [List.cons_append, List.cons_append]
    unfold lexB
    rw [if_pos (mcmp_self a)]
    exact lexB_same x h
/-- shorter, or as long and less -/
def slt (a b : List Mod) : Prop := a.length < b.length ∨ a.length = b.length ∧ lexB a b = true
def sle (a b : List Mod) : Prop := a = b ∨ slt a b
theorem slt_trans {a b c : List Mod} (h1 : slt a b) (h2 : slt b c) : slt a c := by
  rcases h1 with h1 | ⟨h1, h3⟩
  · rcases h2 with h2 | ⟨h2, _⟩
    · exact .inl (by omega)
    · exact .inl (by omega)
  · rcases h2 with h2 | ⟨h2, h4⟩
    · exact .inl (by omega)
    · exact .inr ⟨by omega, lexB_trans h3 h4⟩
theorem slt_irrefl {a : List Mod} (h : slt a a) : False := by
  rcases h with h | ⟨_, h⟩
  · omega
  · rw [lexB_irrefl] at h; cases h
theorem slt_snoc {a b : List Mod} (h : slt a b) (m n : Mod) : slt (a ++ [m]) (b ++ [n]) := by
  rcases h with h | ⟨h, h2⟩
  · exact .inl (by simpa using h)
  · exact .inr ⟨by simpa using h, lexB_snoc m n h h2⟩
theorem slt_same (a : List Mod) {m n : Mod} (h : mcmp m n < 0) : slt (a ++ [m]) (a ++ [n]) := .inr ⟨by simp, lexB_same a h⟩
theorem slt_self (a : List Mod) (m : Mod) : slt a (a ++ [m]) := .inl (by simp)
theorem sle_trans {a b c : List Mod} (h1 : sle a b) (h2 : sle b c) : sle a c := by
  rcases h1 with rfl | h1
  · exact h2
  · rcases h2 with rfl | h2
    · exact .inr h1
    · exact .inr (slt_trans h1 h2)
theorem sle_slt {a b c : List Mod} (h1 : sle a b) (h2 : slt b c) : slt a c := by
  rcases h1 with rfl | h1
  · exact h2
  · exact slt_trans h1 h2
theorem sle_snoc {a b : List Mod} (h : sle a b) (m : Mod) : sle (a ++ [m]) (b ++ [m]) := by
  rcases h with rfl | h
  · exact .inl rfl
  · exact .inr (slt_snoc h m m)

/-- the chains of what is to be looked at -/
structure TCh (l : List Mod) (F : List (Mod × Mod)) (T : Regy) : Prop where
  keys : T.map (·.1) = todoF (msort l) F
  fst : ∀ m ∈ msort l, (m, [m]) ∈ T
  par : ∀ y ∈ F, ∃ c, (y.2, c) ∈ T ∧ (y.1, c ++ [y.1]) ∈ T
  srt : (T.map (·.2)).Pairwise slt
theorem pair_eq {T : Regy} (hn : (T.map (·.1)).Nodup) {m : Mod} {c c' : List Mod} (h : (m, c) ∈ T) (h' : (m, c') ∈ T) : c = c' := by
  exact (reqOf_of hn h).symm.trans (reqOf_of hn h')
/-- one round's additions -/
theorem addF_tch {l : List Mod} {p : Mod} {c : List Mod} : ∀ (L : List Mod) (F : List (Mod × Mod)) (T : Regy), TCh l F T → (p, c) ∈ T → L.Pairwise (fun m n => mcmp m n < 0) → (∀ y ∈ T, ∀ m ∈ L, slt y.2 (c ++ [m])) →
    ∃ X : Regy, TCh l (L.foldl (addF (msort l) p) F) (T ++ X) ∧ (∀ y ∈ X, y.2 = c ++ [y.1]) ∧ ∀ m ∈ L, ∃ c', (m, c') ∈ T ++ X ∧ sle c' (c ++ [m])
  | [], F, T, hT, _, _, _ => ⟨[], by rw [List.append_nil]; exact hT, by simp, by simp⟩
  | m :: L, F, T, hT, hp, hL, hB => by
    rw [List.foldl_cons]
    obtain ⟨hm, hL2⟩ := List.pairwise_cons.1 hL
    by_cases hn : (lookF F m).isNone = true ∧ m ∉ msort l
    · have e : addF (msort l) p F m = F ++ [(m, p)] := if_pos hn
      rw [e]
      have hT2 : TCh l (F ++ [(m, p)]) (T ++ [(m, c ++ [m])]) := by
        refine ⟨?_, fun x hx => List.mem_append_left _ (hT.fst x hx), fun y hy => ?_, ?_⟩
        · rw [List.map_append, hT.keys]
          simp [todoF]
        · rcases List.mem_append.1 hy with h1 | h1
          · obtain ⟨d, h2, h3⟩ := hT.par y h1
            exact ⟨d, List.mem_append_left _ h2, List.mem_append_left _ h3⟩
          · obtain rfl : y = (m, p) := by simpa using h1
            exact ⟨c, List.mem_append_left _ hp, by simp⟩
        · rw [List.map_append, List.pairwise_append]
          refine ⟨hT.srt, by simp, fun a ha b hb => ?_⟩
          obtain ⟨y, hy, rfl⟩ := List.mem_map.1 ha
          obtain rfl : b = c ++ [m] := by simpa using hb
          exact hB y hy m (by simp)
      obtain ⟨X, h1, h2, h3⟩ := addF_tch L _ _ hT2 (List.mem_append_left _ hp) hL2 (fun y hy x hx => by
        rcases List.mem_append.1 hy with h4 | h4
        · exact hB y h4 x (by simp [hx])
        · obtain rfl : y = (m, c ++ [m]) := by simpa using h4
          exact slt_same c (hm x hx))
      refine ⟨(m, c ++ [m]) :: X, by simpa using h1, fun y hy => ?_, fun x hx => ?_⟩
      · rcases List.mem_cons.1 hy with rfl | hy
        · rfl
        · exact h2 y hy
      · rcases List.mem_cons.1 hx with rfl | hx
        · exact ⟨c ++ [x], by simp, .inl rfl⟩
        · obtain ⟨c', h5, h6⟩ := h3 x hx
          exact ⟨c', by simpa using h5, h6⟩
    · have e : addF (msort l) p F m = F := if_neg hn
      rw [e]
      obtain ⟨X, h1, h2, h3⟩ := addF_tch L F T hT hp hL2 (fun y hy x hx => hB y hy x (by simp [hx]))
      refine ⟨X, h1, h2, fun x hx => ?_⟩
      rcases List.mem_cons.1 hx with rfl | hx
      · have hk : x ∈ T.map (·.1) := by
          rw [hT.keys]
          by_cases h4 : (lookF F x).isNone = true
          · have : x ∈ msort l := Classical.byContradiction fun h => hn ⟨h4, h⟩
            exact List.mem_append_left _ this
          · have h5 : ¬ lookF F x = none := fun e => h4 (by rw [e]; rfl)
            rw [lookF_none, Classical.not_not] at h5
            exact List.mem_append_right _ h5
        obtain ⟨y, hy, rfl⟩ := List.mem_map.1 hk
        exact ⟨y.2, List.mem_append_left _ hy, .inr (hB y hy y.1 (by simp))⟩
      · exact h3 x hx
/-- the state ahead of round k -/
structure TInv (R : Regy) (l : List Mod) (k : Nat) (F : List (Mod × Mod)) (T : Regy) : Prop extends TCh l F T where
  bound : ∀ y ∈ T, y.2.length = 1 ∨ ∃ (j : Nat) (hj : j < T.length), j < k ∧ y.2 = T[j].2 ++ [y.1]
  done : ∀ (j : Nat) (hj : j < T.length), j < k → ∀ m ∈ reqOf R T[j].1, ∃ c, (m, c) ∈ T ∧ sle c (T[j].2 ++ [m])
theorem TInv.pos {R : Regy} {l : List Mod} {k : Nat} {F : List (Mod × Mod)} {T : Regy} (h : TInv R l k F T) : ∀ y ∈ T, 0 < y.2.length := fun y hy => by
  rcases h.bound y hy with h1 | ⟨j, hj, _, h1⟩
  · omega
  · rw [h1]; simp
theorem msort_slt {l : List Mod} (hn : l.Nodup) : (msort l).Pairwise fun m n => mcmp m n < 0 := by
  have h1 := msort_sorted l
  have h2 : (msort l).Nodup := (List.mergeSort_perm l _).nodup_iff.2 hn
  refine (h1.and h2).imp fun {a b} h => ?_
  have h3 := h.1
  have h4 : mcmp a b ≠ 0 := fun e => h.2 ((mcmp_eq a b).1 e)
  have h5 := mcmp_anti a b
  unfold leOf ltOf at h3
  simp at h3
  omega
theorem TInv.round {R : Regy} {l : List Mod} {k : Nat} {F : List (Mod × Mod)} {T : Regy} (h : TInv R l k F T) (hk : k < T.length) (hn : (reqOf R T[k].1).Nodup) :
    ∃ X, TInv R l (k + 1) (bfsRound R (msort l) T[k].1 F) (T ++ X) := by
  have hB : ∀ y ∈ T, ∀ m ∈ msort (reqOf R T[k].1), slt y.2 (T[k].2 ++ [m]) := fun y hy m _ => by
    have h0 := h.pos _ (List.getElem_mem hk)
    rcases h.bound y hy with h1 | ⟨j, hj, hjk, h1⟩
    · left; simp; omega
    · rw [h1]
      refine slt_snoc ?_ _ _
      have h2 := (List.pairwise_iff_getElem.1 h.srt) j k (by simpa using hj) (by simpa using hk) hjk
      simpa using h2
  obtain ⟨X, h1, h2, h3⟩ := addF_tch (msort (reqOf R T[k].1)) F T h.toTCh (List.getElem_mem hk) (msort_slt hn) hB
  refine ⟨X, ⟨h1, fun y hy => ?_, fun j hj hjk m hm => ?_⟩⟩
  · rcases List.mem_append.1 hy with h4 | h4
    · rcases h.bound y h4 with h5 | ⟨j, hj, hjk, h5⟩
      · exact .inl h5
      · exact .inr ⟨j, by rw [List.length_append]; omega, by omega, by rw [List.getElem_append_left hj]; exact h5⟩
    · exact .inr ⟨k, by rw [List.length_append]; omega, by omega, by rw [List.getElem_append_left hk]; exact h2 y h4⟩
  · have hjT : j < T.length := by omega
    rw [List.getElem_append_left hjT] at hm ⊢
    by_cases e : j < k
    · obtain ⟨c, h4, h5⟩ := h.done j hjT e m hm
      exact ⟨c, List.mem_append_left _ h4, h5⟩
    · obtain rfl : j = k := by omega
      exact h3 m (msort_mem.2 hm)
theorem TInv.start (R : Regy) {l : List Mod} (hn : l.Nodup) : TInv R l 0 [] ((msort l).map fun m => (m, [m])) := by
  refine ⟨⟨?_, fun m hm => List.mem_map.2 ⟨m, hm, rfl⟩, by simp, ?_⟩, fun y hy => ?_, fun j _ hj => absurd hj (Nat.not_lt_zero _)⟩
  · rw [List.map_map]
    simp [todoF, Function.comp_def]
  · rw [List.map_map]
    refine List.pairwise_map.2 ((msort_slt hn).imp fun {a b} h => ?_)
    exact slt_same [] h
  · obtain ⟨m, _, rfl⟩ := List.mem_map.1 hy
    exact .inl rfl
/-- walks from the root's requirements -/
inductive Wk (R : Regy) (l : List Mod) : Mod → List Mod → Prop
  | one {x : Mod} : x ∈ l → Wk R l x [x]
  | snoc {x y : Mod} {c : List Mod} : Wk R l y c → x ∈ reqOf R y → Wk R l x (c ++ [x])
theorem TInv.least {R : Regy} {l : List Mod} {k : Nat} {F : List (Mod × Mod)} {T : Regy} (h : TInv R l k F T) (hk : k < T.length) {m : Mod} {w : List Mod} (hw : Wk R l m w) :
    (∃ c, (m, c) ∈ T ∧ sle c w) ∨ slt T[k].2 w := by
  induction hw with
  | one hx => exact .inl ⟨_, h.fst _ (msort_mem.2 hx), .inl rfl⟩
  | @snoc x y c _ hx ih =>
    rcases ih with ⟨d, h1, h2⟩ | h1
    · obtain ⟨i, hi, he⟩ := List.mem_iff_getElem.1 h1
      by_cases hik : i < k
      · obtain ⟨c', h3, h4⟩ := h.done i hi hik x (by rw [he]; exact hx)
        refine .inl ⟨c', h3, sle_trans h4 ?_⟩
        rw [he]
        exact sle_snoc h2 x
      · right
        refine sle_slt ?_ (slt_self c x)
        refine sle_trans ?_ h2
        by_cases e : i = k
        · subst e; rw [he]; exact .inl rfl
        · have h3 := (List.pairwise_iff_getElem.1 h.srt) k i (by simpa using hk) (by simpa using hi) (by omega)
          right
          have e2 : T[i].2 = d := by rw [he]
          rw [← e2]
          simpa using h3
    · exact .inr (slt_trans h1 (slt_self c x))
theorem chainUp_t {R : Regy} {l : List Mod} {F : List (Mod × Mod)} {T : Regy} (hI : BInv R l F) (hT : TCh l F T) (hn : (T.map (·.1)).Nodup) : ∀ (n : Nat) (x : Mod) (c r : List Mod), x ∈ msort l ++ (F.map (·.1)).take n → (x, c) ∈ T → chainUp (msort l) F n (x :: r) = c ++ r := by
  intro n
  induction n with
  | zero =>
    intro x c r hx hc
    rw [List.take_zero, List.append_nil] at hx
    rw [chain_end hx, pair_eq hn hc (hT.fst x hx)]
    rfl
  | succ n ih =>
    intro x c r hx hc
    by_cases hf : x ∈ msort l
    · rw [chain_end hf, pair_eq hn hc (hT.fst x hf)]
      rfl
    · obtain ⟨n', p, hnn, hl, hp, _, he⟩ := chain_step (r := r) hI hx hf
      obtain rfl : n = n' := by omega
      have hy : (x, p) ∈ F := by
        unfold lookF at hl
        obtain ⟨y, hy, h1⟩ := Option.map_eq_some_iff.1 hl
        have h2 := List.mem_of_find?_eq_some hy
        have h3 : y.1 = x := by simpa using List.find?_some hy
        rw [← h1, ← h3]
        exact h2
      obtain ⟨d, h1, h2⟩ := hT.par _ hy
      rw [he, ih p d (x :: r) hp h1, pair_eq hn hc h2]
      simp
end Go.Proofs.YtfiilbdkhelhgaaGreatDoor
