/- Plain laws: where a comment begins; lines with more spaces and with comments describe the same manifest. -/
import Derived.Test.YtbbdoibmcmkmnaaGreatDoorPZ
import Derived.Test.YtbbdoibmcmkmnaaGreatDoorPCm
namespace Go.Proofs.YtbbdoibmcmkmnaaGreatDoor
open Go.RowKit Go.Sort Go.Lib

theorem index_note (note : List UInt8) : ∀ x : List UInt8, dd (x ++ [47]) = false → index (x ++ 47 :: 47 :: note) [47, 47] = x.length
  | [], _ => by simp [index, List.isPrefixOf]
  | b :: x, h => by
    have h' : dd (b :: (x ++ [47])) = false := h
    unfold dd at h'
    rw [Bool.or_eq_false_iff] at h'
    have ih := index_note note x h'.2
    show index (b :: (x ++ 47 :: 47 :: note)) [47, 47] = _
    unfold index
    have hp : ¬ ([47, 47] : List UInt8).isPrefixOf (b :: (x ++ 47 :: 47 :: note)) = true := by
      rw [Bool.not_eq_true, ← h'.1]
      cases x <;> simp [List.isPrefixOf]
    rw [if_neg hp, ih]
    have : ((x.length : Int) == -1) = false := by rw [beq_eq_false_iff_ne]; omega
    simp [this]
theorem cmt_note (note x : List UInt8) (h : dd (x ++ [47]) = false) : cmt (x ++ 47 :: 47 :: note) = x := by
  unfold cmt cut
  rw [index_note note x h, if_pos (by omega)]
  simp

/-- spaces twice more -/
def looseB (o : Bool) (s : List UInt8) : List UInt8 := s.flatMap fun c => if o = true ∧ c = 32 then [32, 32, c] else [c]
theorem looseB_take (o : Bool) (s : List UInt8) (k : Nat) (h : k < s.length) : looseB o (s.take (k + 1)) = looseB o (s.take k) ++ (if o = true ∧ s[k] = 32 then [32, 32, s[k]] else [s[k]]) := by
  unfold looseB
  rw [List.take_succ_eq_append_getElem h, List.flatMap_append]
  simp
theorem looseB_len (o : Bool) : ∀ s : List UInt8, (looseB o s).length ≤ 3 * s.length
  | [] => by simp [looseB]
  | c :: s => by
    have ih := looseB_len o s
    have e : looseB o (c :: s) = (if o = true ∧ c = 32 then [32, 32, c] else [c]) ++ looseB o s := by simp [looseB]
    rw [e, List.length_append]
    split <;> simp <;> omega
theorem looseB_app (o : Bool) (a b : List UInt8) : looseB o (a ++ b) = looseB o a ++ looseB o b := by simp [looseB]
theorem looseB_none (o : Bool) : ∀ s : List UInt8, (∀ c ∈ s, c ≠ 32) → looseB o s = s
  | [], _ => rfl
  | c :: s, h => by
    have ih := looseB_none o s fun x hx => h x (by simp [hx])
    have e : looseB o (c :: s) = (if o = true ∧ c = 32 then [32, 32, c] else [c]) ++ looseB o s := by simp [looseB]
    rw [e, ih, if_neg (fun hc => h c (by simp) hc.2)]
    rfl
def spX (o : Bool) : List UInt8 := if o = true then [32, 32, 32] else [32]
theorem looseB_sp (o : Bool) (s : List UInt8) : looseB o (32 :: s) = spX o ++ looseB o s := by
  cases o <;> simp [looseB, spX]
def loP (q : Bool) (s : List UInt8) : List UInt8 := if q = true then [32] ++ s ++ [32] else s
def loN (r : Bool) (note s : List UInt8) : List UInt8 := if r = true then s ++ [47, 47] ++ note else s
/-- a line with spaces around its words, and a comment -/
def looseT (s note : List UInt8) (n : Nat) : List UInt8 := loN (decide (3 < n % 8)) note (loP (decide (1 < n % 4)) (looseB (decide (n % 2 = 1)) s))
theorem looseT_len (s note : List UInt8) (n : Nat) : (looseT s note n).length ≤ 3 * s.length + note.length + 4 := by
  have h := looseB_len (decide (n % 2 = 1)) s
  unfold looseT
  generalize looseB (decide (n % 2 = 1)) s = x at h
  unfold loN loP
  repeat' split
  all_goals (simp; omega)

section
variable {w p v : List UInt8}
/-- a body: words with spaces -/
def bodyW (o : Bool) (w p z : List UInt8) : List UInt8 := w ++ (spX o ++ (p ++ (spX o ++ z)))
theorem dd_sp (o : Bool) (x y : List UInt8) (hx : dd x = false) (hy : dd y = false) : dd (x ++ (spX o ++ y)) = false := by
  cases o
  · exact dd_sep y hy x hx
  · exact dd_sep (32 :: 32 :: y) (dd_sep (32 :: y) (dd_sep y hy [] rfl) [] rfl) x hx
theorem dd_body (o : Bool) {z : List UInt8} (hw : dd w = false) (hp : dd p = false) (hz : dd z = false) : dd (bodyW o w p z) = false := dd_sp o w _ hw (dd_sp o p z hp hz)
theorem dd_end : ∀ v : List UInt8, (∀ c ∈ v, c ≠ 47) → dd (v ++ [47]) = false
  | [], _ => by decide
  | b :: v, h => by
    have ih := dd_end v fun c hc => h c (by simp [hc])
    have hb : b ≠ 47 := h b (by simp)
    show dd (b :: (v ++ [47])) = false
    unfold dd
    rw [ih, Bool.or_false]
    cases v <;> simp [List.isPrefixOf] <;> exact fun e => absurd e.symm hb
theorem keep_body (o : Bool) (e : List UInt8) (hw : ∀ c ∈ w, c ≠ 32) (hp : ∀ c ∈ p, c ≠ 32) (hv : ∀ c ∈ v, c ≠ 32) (w0 : w ≠ []) (p0 : p ≠ []) (v0 : v ≠ []) (he : e = [] ∨ e = [32]) :
    (splitL 32 (bodyW o w p (v ++ e))).filter (fun w => decide (w ≠ [])) = [w, p, v] := by
  have hE : (splitL 32 (v ++ e)).filter (fun w => decide (w ≠ [])) = [v] := by
    rcases he with rfl | rfl
    · rw [List.append_nil, splitL_none _ _ hv]
      simp [v0]
    · rw [splitL_app _ _ _ hv]
      simp [v0, splitL]
  have hs : ∀ x : List UInt8, splitL 32 (32 :: x) = [] :: splitL 32 x := fun x => by simp [splitL]
  cases o
  · show (splitL 32 (w ++ 32 :: (p ++ 32 :: (v ++ e)))).filter _ = _
    rw [splitL_app _ _ _ hw, splitL_app _ _ _ hp, List.filter_cons_of_pos (by simpa using w0), List.filter_cons_of_pos (by simpa using p0), hE]
  · show (splitL 32 (w ++ 32 :: 32 :: 32 :: (p ++ 32 :: 32 :: 32 :: (v ++ e)))).filter _ = _
    rw [splitL_app _ _ _ hw, hs, hs, splitL_app _ _ _ hp, hs, hs, List.filter_cons_of_pos (by simpa using w0), List.filter_cons_of_neg (by simp), List.filter_cons_of_neg (by simp), List.filter_cons_of_pos (by simpa using p0), List.filter_cons_of_neg (by simp), List.filter_cons_of_neg (by simp), hE]
end
theorem looseB_line (o : Bool) {s : List UInt8} {m : Mod} (hs : ∀ c ∈ s, c ≠ 32 ∧ c ≠ 10 ∧ c ≠ 47) (hm : okM m) : looseB o (lineB s m) = bodyW o s m.1 (vtext m.2.1 m.2.2.1 m.2.2.2) := by
  obtain ⟨h1, _, _⟩ := path_chars hm.1
  obtain ⟨h4, _⟩ := text_chars hm.2
  unfold lineB bodyW
  rw [looseB_app, looseB_sp, looseB_app, looseB_sp, looseB_none o s fun c hc => (hs c hc).1, looseB_none o m.1 fun c hc => (h1 c hc).1, looseB_none o (vtext m.2.1 m.2.2.1 m.2.2.2) fun c hc => (h4 c hc).1]
/-- its words are those of the line, and it has no line feed -/
theorem looseT_words {s : List UInt8} {m : Mod} (note : List UInt8) (n : Nat) (h0 : s ≠ []) (hs : ∀ c ∈ s, c ≠ 32 ∧ c ≠ 10 ∧ c ≠ 47) (hm : okM m) (hn : ∀ c ∈ note, c ≠ 10) :
    wordsL (looseT (lineB s m) note n) = [s, m.1, vtext m.2.1 m.2.2.1 m.2.2.2] ∧ (∀ c ∈ looseT (lineB s m) note n, c ≠ 10) ∧ looseT (lineB s m) note n ≠ [] := by
  obtain ⟨h1, h2, h3⟩ := path_chars hm.1
  obtain ⟨h4, h5⟩ := text_chars hm.2
  unfold looseT
  rw [looseB_line _ hs hm]
  generalize decide (n % 2 = 1) = o
  generalize decide (1 < n % 4) = q
  generalize decide (3 < n % 8) = r
  generalize m.1 = p at *
  generalize vtext m.2.1 m.2.2.1 m.2.2.2 = v at *
  have hsd : dd s = false := dd_no _ fun c hc => (hs c hc).2.2
  have hvd : dd v = false := dd_no _ fun c hc => (h4 c hc).2.2
  have hsp : ∀ c ∈ spX o, c ≠ 10 := by cases o <;> decide
  have hbc : ∀ c ∈ bodyW o s p v, c ≠ 10 := by
    intro c hc
    unfold bodyW at hc
    simp only [List.mem_append] at hc
    rcases hc with h | h | h | h | h
    · exact (hs c h).2.1
    · exact hsp c h
    · exact (h1 c h).2
    · exact hsp c h
    · exact (h4 c h).2.1
  have hpc : ∀ c ∈ loP q (bodyW o s p v), c ≠ 10 := by
    intro c hc
    unfold loP at hc
    split at hc
    · simp only [List.mem_append, List.mem_singleton] at hc
      rcases hc with (rfl | h) | rfl
      · decide
      · exact hbc c h
      · decide
    · exact hbc c hc
  have hb0 : bodyW o s p v ≠ [] := by unfold bodyW; simp [h0]
  have hp0 : loP q (bodyW o s p v) ≠ [] := by unfold loP; split <;> simp [hb0]
  have hk : (splitL 32 (loP q (bodyW o s p v))).filter (fun w => decide (w ≠ [])) = [s, p, v] := by
    unfold loP
    split
    · have e : [32] ++ bodyW o s p v ++ [32] = 32 :: bodyW o s p (v ++ [32]) := by simp [bodyW]
      rw [e, show splitL 32 (32 :: bodyW o s p (v ++ [32])) = [] :: splitL 32 (bodyW o s p (v ++ [32])) by simp [splitL], List.filter_cons_of_neg (by simp)]
      exact keep_body o [32] (fun c hc => (hs c hc).1) (fun c hc => (h1 c hc).1) (fun c hc => (h4 c hc).1) h0 h3 h5 (.inr rfl)
    · have := keep_body o [] (fun c hc => (hs c hc).1) (fun c hc => (h1 c hc).1) (fun c hc => (h4 c hc).1) h0 h3 h5 (.inl rfl)
      rwa [List.append_nil] at this
  have hdp : dd (loP q (bodyW o s p v)) = false := by
    unfold loP
    split
    · have e : [32] ++ bodyW o s p v ++ [32] = [] ++ 32 :: bodyW o s p (v ++ 32 :: []) := by simp [bodyW]
      rw [e]
      exact dd_sep _ (dd_body o hsd h2 (dd_sep _ rfl _ hvd)) _ rfl
    · exact dd_body o hsd h2 hvd
  have hdq : dd (loP q (bodyW o s p v) ++ [47]) = false := by
    unfold loP
    split
    · have e : [32] ++ bodyW o s p v ++ [32] ++ [47] = [] ++ 32 :: bodyW o s p (v ++ 32 :: [47]) := by simp [bodyW]
      rw [e]
      exact dd_sep _ (dd_body o hsd h2 (dd_sep _ (by decide) _ hvd)) _ rfl
    · have e : bodyW o s p v ++ [47] = bodyW o s p (v ++ [47]) := by simp [bodyW]
      rw [e]
      exact dd_body o hsd h2 (dd_end v fun c hc => (h4 c hc).2.2)
  generalize loP q (bodyW o s p v) = y at *
  unfold loN
  cases r
  · refine ⟨?_, hpc, hp0⟩
    show (splitL 32 (cmt y)).filter _ = _
    rw [cmt_dd hdp]
    exact hk
  · refine ⟨?_, ?_, by simp⟩
    · show (splitL 32 (cmt (y ++ [47, 47] ++ note))).filter _ = _
      rw [show y ++ [47, 47] ++ note = y ++ 47 :: 47 :: note by simp, cmt_note note y hdq]
      exact hk
    · intro c hc
      have hc' : c ∈ y ++ [47, 47] ++ note := hc
      simp only [List.mem_append, List.mem_cons, List.not_mem_nil, or_false] at hc'
      rcases hc' with (h | rfl | rfl) | h
      · exact hpc c h
      · decide
      · decide
      · exact hn c h

/-- lines from the last to the first, each behind an empty one -/
def looseA (note : List UInt8) (P : List (List UInt8 × Nat)) : List UInt8 := P.flatMap fun x => [32, 32, 10] ++ looseT x.1 note x.2 ++ [10]
theorem looseA_snoc (note : List UInt8) (P : List (List UInt8 × Nat)) (x : List UInt8 × Nat) : looseA note (P ++ [x]) = looseA note P ++ ([32, 32, 10] ++ looseT x.1 note x.2 ++ [10]) := by simp [looseA]
def wsA (note : List UInt8) (P : List (List UInt8 × Nat)) : List (List (List UInt8)) := P.flatMap fun x => [[], wordsL (looseT x.1 note x.2)]
theorem allW_app (l r : List UInt8) (h : ∀ c ∈ l, c ≠ 10) : allW (l ++ 10 :: r) = wordsL l :: allW r := by
  unfold allW
  rw [linesP_app r l h, List.map_cons]
theorem allW_last (l : List UInt8) (h : ∀ c ∈ l, c ≠ 10) (h0 : l ≠ []) : allW l = [wordsL l] := by
  unfold allW linesP
  rw [splitL_none _ _ h]
  simp [h0]
theorem allW_one (l : List UInt8) (h : ∀ c ∈ l, c ≠ 10) : allW (l ++ [10]) = [wordsL l] := by rw [allW_app l [] h, allW_nil']
where allW_nil' : allW [] = [] := by simp [allW, linesP_nil]
theorem allW_loose (note : List UInt8) : ∀ (P : List (List UInt8 × Nat)) (r : List UInt8), (∀ x ∈ P, ∀ c ∈ looseT x.1 note x.2, c ≠ 10) → allW (looseA note P ++ r) = wsA note P ++ allW r
  | [], r, _ => rfl
  | x :: P, r, h => by
    have ih := allW_loose note P r fun y hy => h y (by simp [hy])
    have e : looseA note (x :: P) ++ r = [32, 32] ++ 10 :: (looseT x.1 note x.2 ++ 10 :: (looseA note P ++ r)) := by simp [looseA]
    rw [e, allW_app _ _ (by decide), allW_app _ _ (h x (by simp)), ih]
    have e2 : wordsL [32, 32] = [] := by decide
    rw [e2]
    simp [wsA]
theorem colL_loose (note : List UInt8) (hn : ∀ c ∈ note, c ≠ 10) : ∀ (K : List Mod) (P : List (List UInt8 × Nat)) (p : List Mod), p ≠ [] → (∀ x ∈ K, okM x) → P.map (·.1) = K.map (lineB wReq) → colL (some p) (wsA note P) = some (p ++ K)
  | [], P, p, _, _, h => by
    obtain rfl : P = [] := by simpa using h
    simp [wsA, colL]
  | x :: K, [], p, _, _, h => by simp at h
  | x :: K, y :: P, p, hp, hK, h => by
    simp only [List.map_cons, List.cons.injEq] at h
    have hx := hK x (by simp)
    have ih := colL_loose note hn K P (p ++ [x]) (by simp) (fun z hz => hK z (by simp [hz])) h.2
    have e : wsA note (y :: P) = [[], wordsL (looseT y.1 note y.2)] ++ wsA note P := by simp [wsA]
    rw [e, colL_append, h.1, (looseT_words note y.2 (by decide) req_chars hx hn).1]
    have e2 : colL (some p) [[], [wReq, x.1, vtext x.2.1 x.2.2.1 x.2.2.2]] = some (p ++ [x]) := by
      show ((stepL p []).bind fun l => stepL l [wReq, x.1, vtext x.2.1 x.2.2.1 x.2.2.2]) = _
      have e3 : stepL p [] = some p := by simp [stepL]
      rw [e3, Option.bind_some]
      unfold stepL firstW
      rw [if_neg (by simp), if_neg hp, word_lineB hx]
      rfl
    rw [e2, ih]
    simp
/-- the loosened text -/
def looseD (m : Mod) (note : List UInt8) (n : Nat) (P : List (List UInt8 × Nat)) : List UInt8 := [47, 47] ++ note ++ [10, 10] ++ looseT (lineB wMod m) note n ++ [10] ++ looseA note P
theorem looseD_split (m : Mod) (note : List UInt8) (n : Nat) (P : List (List UInt8 × Nat)) : ∃ X y, looseD m note n P = X ++ y ++ [10] ∧ (P = [] ∧ X = [47, 47] ++ note ++ [10, 10] ∧ y = looseT (lineB wMod m) note n ∨ ∃ P' x, P = P' ++ [x] ∧ X = [47, 47] ++ note ++ [10, 10] ++ looseT (lineB wMod m) note n ++ [10] ++ looseA note P' ++ [32, 32, 10] ∧ y = looseT x.1 note x.2) := by
  rcases List.eq_nil_or_concat P with rfl | ⟨P', x, rfl⟩
  · exact ⟨_, _, by simp [looseD, looseA], .inl ⟨rfl, rfl, rfl⟩⟩
  · exact ⟨_, _, by simp [looseD, looseA], .inr ⟨P', x, by simp, rfl, rfl⟩⟩
theorem words_note (note : List UInt8) : wordsL ([47, 47] ++ note) = [] := by
  have : cmt ([47, 47] ++ note) = [] := cmt_note note [] (by decide)
  unfold wordsL
  rw [this]
  simp [splitL]
theorem looseD_words (m : Mod) (note : List UInt8) (n : Nat) (K : List Mod) (P : List (List UInt8 × Nat)) (hn : ∀ c ∈ note, c ≠ 10) (hm : ∀ x ∈ m :: K, okM x) (hP : P.map (·.1) = K.map (lineB wReq)) :
    allW (looseD m note n P) = [[], [], [wMod, m.1, vtext m.2.1 m.2.2.1 m.2.2.2]] ++ wsA note P ∧ allW (looseD m note n P).dropLast = allW (looseD m note n P) := by
  have hm0 := looseT_words note n (by decide) mod_chars (hm m (by simp)) hn
  have hPc : ∀ x ∈ P, (∀ c ∈ looseT x.1 note x.2, c ≠ 10) ∧ looseT x.1 note x.2 ≠ [] := by
    intro x hx
    have : x.1 ∈ P.map (·.1) := List.mem_map.2 ⟨x, hx, rfl⟩
    rw [hP] at this
    obtain ⟨k, hk, he⟩ := List.mem_map.1 this
    have h := looseT_words note x.2 (by decide) req_chars (hm k (by simp [hk])) hn
    rw [← he]
    exact h.2
  have hN : ∀ c ∈ [47, 47] ++ note, c ≠ 10 := by
    intro c hc
    simp only [List.mem_append, List.mem_cons, List.not_mem_nil, or_false] at hc
    rcases hc with (rfl | rfl) | h
    · decide
    · decide
    · exact hn c h
  have hX : ∀ r, allW ([47, 47] ++ note ++ [10, 10] ++ r) = [] :: [] :: allW r := fun r => by
    have e : [47, 47] ++ note ++ [10, 10] ++ r = ([47, 47] ++ note) ++ 10 :: ([] ++ 10 :: r) := by simp
    rw [e, allW_app _ _ hN, allW_app _ _ (by simp), words_note]
    have : wordsL [] = [] := by decide
    rw [this]
  have hY : ∀ r, allW ([47, 47] ++ note ++ [10, 10] ++ looseT (lineB wMod m) note n ++ [10] ++ r) = [] :: [] :: [wMod, m.1, vtext m.2.1 m.2.2.1 m.2.2.2] :: allW r := fun r => by
    have e : [47, 47] ++ note ++ [10, 10] ++ looseT (lineB wMod m) note n ++ [10] ++ r = [47, 47] ++ note ++ [10, 10] ++ (looseT (lineB wMod m) note n ++ 10 :: r) := by simp
    rw [e, hX, allW_app _ _ hm0.2.1, hm0.1]
  have h1 : allW (looseD m note n P) = [[], [], [wMod, m.1, vtext m.2.1 m.2.2.1 m.2.2.2]] ++ wsA note P := by
    unfold looseD
    rw [hY]
    have := allW_loose note P [] fun x hx => (hPc x hx).1
    rw [List.append_nil, show allW [] = [] by simp [allW, linesP_nil], List.append_nil] at this
    rw [this]
    rfl
  refine ⟨h1, ?_⟩
  obtain ⟨X, y, e, h⟩ := looseD_split m note n P
  rw [e, List.dropLast_concat]
  rcases h with ⟨rfl, rfl, rfl⟩ | ⟨P', x, rfl, rfl, rfl⟩
  · rw [hX, List.append_assoc, hX, allW_one _ hm0.2.1, allW_last _ hm0.2.1 hm0.2.2]
  · have hx := hPc x (by simp)
    have hA : ∀ r, allW ([47, 47] ++ note ++ [10, 10] ++ looseT (lineB wMod m) note n ++ [10] ++ looseA note P' ++ [32, 32, 10] ++ r) = [] :: [] :: [wMod, m.1, vtext m.2.1 m.2.2.1 m.2.2.2] :: (wsA note P' ++ ([] :: allW r)) := fun r => by
      rw [List.append_assoc, List.append_assoc, hY, allW_loose note P' _ fun z hz => (hPc z (by simp [hz])).1, show [32, 32, 10] ++ r = [32, 32] ++ 10 :: r by simp, allW_app _ _ (by decide)]
      have e2 : wordsL [32, 32] = [] := by decide
      rw [e2]
    rw [hA, List.append_assoc, hA, allW_one _ hx.1, allW_last _ hx.1 hx.2]
/-- it describes the same manifest -/
theorem mparse_loose {m : Mod} {l : List Mod} (h : mcheck m l = 0) (note : List UInt8) (hn : ∀ c ∈ note, c ≠ 10) (n : Nat) (P : List (List UInt8 × Nat)) (hP : P.map (·.1) = (msort l).reverse.map (lineB wReq)) (t : List UInt8) (ht : t = looseD m note n P ∨ t = (looseD m note n P).dropLast) (hl : t.length ≤ 65536) :
    mparse t = ((m, msort l), 0, 0) := by
  have hok := okM_of h
  have hp1 : (msort l).reverse.Perm l := (List.reverse_perm _).trans (msort_perm l)
  have hok' : ∀ x ∈ m :: (msort l).reverse, okM x := fun x hx => hok x (by
    rcases List.mem_cons.1 hx with rfl | hx
    · simp
    · exact List.mem_cons_of_mem _ (hp1.mem_iff.1 hx))
  obtain ⟨h1, h2⟩ := looseD_words m note n (msort l).reverse P hn hok' hP
  have hw : allW t = [[], [], [wMod, m.1, vtext m.2.1 m.2.2.1 m.2.2.2]] ++ wsA note P := by
    rcases ht with rfl | rfl
    · exact h1
    · rw [h2, h1]
  have hc : colL (some []) (allW t) = some (m :: (msort l).reverse) := by
    rw [hw, colL_append]
    have e : colL (some []) [[], [], [wMod, m.1, vtext m.2.1 m.2.2.1 m.2.2.2]] = some [m] := by
      show (stepL [] [wMod, m.1, vtext m.2.1 m.2.2.1 m.2.2.2]) = _
      unfold stepL firstW
      rw [if_neg (by simp), if_pos rfl, word_lineB (hok' m (by simp))]
      rfl
    rw [e, colL_loose note hn _ P [m] (by simp) (fun x hx => hok' x (by simp [hx])) hP]
    rfl
  rw [mparse_ok (by omega) hc, if_pos (by rw [mcheck_perm m hp1]; exact h), msort_rev hp1]
/-- the lines of the text of a manifest -/
theorem linesP_reqs : ∀ K : List Mod, (∀ x ∈ K, okM x) → linesP (linesM K) = K.map (lineB wReq)
  | [], _ => by simp [linesM, linesP_nil]
  | x :: K, h => by
    rw [show linesM (x :: K) = lineM wReq x ++ linesM K by simp [linesM], lineM_B, List.append_assoc]
    show linesP (lineB wReq x ++ 10 :: linesM K) = _
    rw [linesP_app _ _ (lineB_chars req_chars (h x (by simp))).1, linesP_reqs K fun y hy => h y (by simp [hy])]
    rfl
theorem linesP_mtext {m : Mod} {l : List Mod} (h : mcheck m l = 0) : linesP (mtext m l) = lineB wMod m :: (msort l).map (lineB wReq) := by
  have hok := okM_of h
  unfold mtext
  rw [if_pos h, lineM_B, List.append_assoc]
  show linesP (lineB wMod m ++ 10 :: linesM (msort l)) = _
  rw [linesP_app _ _ (lineB_chars mod_chars (hok m (by simp))).1, linesP_reqs _ fun x hx => hok x (List.mem_cons_of_mem _ ((msort_perm l).mem_iff.1 hx))]
theorem looseA_len (note : List UInt8) (hn : note.length ≤ 100) : ∀ P : List (List UInt8 × Nat), (∀ x ∈ P, x.1.length ≤ 100) → (looseA note P).length ≤ 500 * P.length
  | [], _ => by simp [looseA]
  | x :: P, h => by
    have ih := looseA_len note hn P fun y hy => h y (by simp [hy])
    have h1 := looseT_len x.1 note x.2
    have h2 := h x (by simp)
    have e : looseA note (x :: P) = [32, 32, 10] ++ looseT x.1 note x.2 ++ [10] ++ looseA note P := by simp [looseA]
    rw [e]
    simp
    omega
end Go.Proofs.YtbbdoibmcmkmnaaGreatDoor
