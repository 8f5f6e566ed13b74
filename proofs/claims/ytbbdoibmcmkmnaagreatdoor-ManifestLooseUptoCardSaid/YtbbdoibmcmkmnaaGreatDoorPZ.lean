/- Plain law: the text of a manifest describes the manifest. -/
import Derived.Test.YtbbdoibmcmkmnaaGreatDoorPX
import Derived.Test.YtbbdoibmcmkmnaaGreatDoorPV
import Derived.Test.YtbbdoibmcmkmnaaGreatDoorPY
namespace Go.Proofs.YtbbdoibmcmkmnaaGreatDoor
open Go.RowKit Go.Sort Go.Lib

/-- two slashes side by side -/
def dd : List UInt8 → Bool
  | [] => false
  | b :: l => ([47, 47] : List UInt8).isPrefixOf (b :: l) || dd l
theorem index_dd : ∀ l : List UInt8, dd l = false → index l [47, 47] = -1
  | [], _ => by decide
  | b :: l, h => by
    unfold dd at h
    rw [Bool.or_eq_false_iff] at h
    have ih := index_dd l h.2
    unfold index
    rw [if_neg (by rw [h.1]; simp), ih]
    rfl
theorem cmt_dd {l : List UInt8} (h : dd l = false) : cmt l = l := by
  unfold cmt cut
  rw [index_dd l h]
  rfl
theorem dd_no : ∀ l : List UInt8, (∀ c ∈ l, c ≠ 47) → dd l = false
  | [], _ => rfl
  | b :: l, h => by
    have h1 : b ≠ 47 := h b (by simp)
    unfold dd
    rw [dd_no l fun c hc => h c (by simp [hc])]
    simp [List.isPrefixOf]
    intro h2
    exact absurd h2.symm h1
theorem dd_sep (y : List UInt8) (hy : dd y = false) : ∀ x : List UInt8, dd x = false → dd (x ++ 32 :: y) = false
  | [], _ => by simp [dd, List.isPrefixOf, hy]
  | [b], _ => by simp [dd, List.isPrefixOf, hy]
  | b :: c :: x, h => by
    unfold dd at h
    rw [Bool.or_eq_false_iff] at h
    have ih := dd_sep y hy (c :: x) h.2
    show dd (b :: (c :: x ++ 32 :: y)) = false
    unfold dd
    rw [Bool.or_eq_false_iff]
    refine ⟨?_, ih⟩
    simpa [List.isPrefixOf] using h.1
theorem dd_split : ∀ l : List UInt8, dd l = true → [] ∈ (splitL 47 l).tail
  | [], h => by simp [dd] at h
  | [b], h => by simp [dd, List.isPrefixOf] at h
  | b :: c :: l, h => by
    have hne := splitL_ne 47 (c :: l)
    unfold dd at h
    rw [Bool.or_eq_true] at h
    rcases h with h | h
    · simp [List.isPrefixOf] at h
      obtain ⟨rfl, rfl⟩ := h
      simp [splitL]
    · have ih := dd_split (c :: l) h
      unfold splitL
      split
      · exact List.mem_of_mem_tail ih
      · split
        · rename_i e
          rw [e] at ih
          exact ih
        · rename_i e
          exact absurd e hne
theorem split_mem : ∀ (l : List UInt8) (c : UInt8), c ∈ l → c = 47 ∨ ∃ x ∈ splitL 47 l, c ∈ x
  | [], c, h => by simp at h
  | b :: l, c, h => by
    have hne := splitL_ne 47 l
    unfold splitL
    by_cases hb : b = 47
    · rw [if_pos hb]
      rcases List.mem_cons.1 h with rfl | h
      · exact .inl hb
      · rcases split_mem l c h with h | ⟨x, hx, hc⟩
        · exact .inl h
        · exact .inr ⟨x, List.mem_cons_of_mem _ hx, hc⟩
    · rw [if_neg hb]
      split
      · rename_i e
        rcases List.mem_cons.1 h with rfl | h
        · exact .inr ⟨_, List.mem_cons_self .., List.mem_cons_self ..⟩
        · rcases split_mem l c h with h | ⟨x, hx, hc⟩
          · exact .inl h
          · rw [e] at hx
            rcases List.mem_cons.1 hx with rfl | hx
            · exact .inr ⟨_, List.mem_cons_self .., List.mem_cons_of_mem _ hc⟩
            · exact .inr ⟨x, List.mem_cons_of_mem _ hx, hc⟩
      · rename_i e
        exact absurd e hne
theorem part_chars {x : List UInt8} (h : partOk x = true) : ∀ c ∈ x, c ≠ 32 ∧ c ≠ 10 := by
  intro c hc
  obtain ⟨i, hi, rfl⟩ := List.mem_iff_getElem.1 hc
  unfold partOk partK at h
  rw [Bool.and_eq_true, List.all_eq_true] at h
  have h1 := h.1 i (List.mem_range.2 hi)
  rw [List.getD_eq_getElem?_getD, List.getElem?_eq_getElem hi, Option.getD_some] at h1
  generalize x[i] = c at h1
  constructor
  · rintro rfl
    simp [pok, lowc, othc] at h1
  · rintro rfl
    simp [pok, lowc, othc] at h1
theorem path_chars {p : List UInt8} (h : pathOk p = true) : (∀ c ∈ p, c ≠ 32 ∧ c ≠ 10) ∧ dd p = false ∧ p ≠ [] := by
  unfold pathOk at h
  rw [Bool.and_eq_true, List.all_eq_true] at h
  refine ⟨fun c hc => ?_, ?_, ?_⟩
  · rcases split_mem p c hc with rfl | ⟨x, hx, hcx⟩
    · decide
    · exact part_chars (h.2 x hx) c hcx
  · cases hd : dd p
    · rfl
    · have := h.2 [] (List.mem_of_mem_tail (dd_split p hd))
      simp [partOk] at this
  · rintro rfl
    have := h.2 [] (by simp [splitL])
    simp [partOk] at this
theorem text_chars {x y z : Int} (h : vok x y z = true) : (∀ c ∈ vtext x y z, c ≠ 32 ∧ c ≠ 10 ∧ c ≠ 47) ∧ vtext x y z ≠ [] := by
  have hl := (vtext_len15 h).2
  rw [vtext_ok h] at *
  refine ⟨fun c hc => ?_, by simp⟩
  obtain ⟨a, b, e, rfl, rfl, rfl, _⟩ := vok_nat h
  simp only [dec_nat] at hc
  have hd : (∃ n : Nat, c ∈ decDigits n) ∨ c = 118 ∨ c = 46 := by
    simp only [List.mem_cons, List.mem_append] at hc
    rcases hc with h | h | h | h | h | h
    · exact .inr (.inl h)
    · exact .inl ⟨_, h⟩
    · exact .inr (.inr h)
    · exact .inl ⟨_, h⟩
    · exact .inr (.inr h)
    · exact .inl ⟨_, h⟩
  rcases hd with ⟨n, hn⟩ | rfl | rfl
  · have := dec_digit n c hn
    refine ⟨?_, ?_, ?_⟩ <;> (rintro rfl; simp at this)
  · decide
  · decide
/-- a module that may stand in a manifest -/
def okM (m : Mod) : Prop := pathOk m.1 = true ∧ vok m.2.1 m.2.2.1 m.2.2.2 = true
theorem okM_of {m : Mod} {l : List Mod} (h : mcheck m l = 0) : ∀ x ∈ m :: l, okM x := by
  unfold mcheck at h
  split at h
  · omega
  · rename_i h1
    split at h
    · omega
    · rename_i h2
      intro x hx
      refine ⟨?_, ?_⟩
      · have : ¬ badPath x = true := fun hb => h1 (List.any_eq_true.2 ⟨x, hx, hb⟩)
        simpa [badPath] using this
      · have : ¬ badVer x = true := fun hb => h2 (List.any_eq_true.2 ⟨x, hx, hb⟩)
        simpa [badVer] using this
/-- the line of a module, without its end -/
def lineB (s : List UInt8) (m : Mod) : List UInt8 := s ++ 32 :: (m.1 ++ 32 :: vtext m.2.1 m.2.2.1 m.2.2.2)
theorem lineM_B (s : List UInt8) (m : Mod) : lineM s m = lineB s m ++ [10] := by
  simp [lineM, lineT, lineB]
theorem lineB_chars {s : List UInt8} {m : Mod} (hs : ∀ c ∈ s, c ≠ 32 ∧ c ≠ 10 ∧ c ≠ 47) (hm : okM m) : (∀ c ∈ lineB s m, c ≠ 10) ∧ dd (lineB s m) = false := by
  obtain ⟨h1, h2, _⟩ := path_chars hm.1
  obtain ⟨h4, _⟩ := text_chars hm.2
  refine ⟨fun c hc => ?_, ?_⟩
  · unfold lineB at hc
    simp only [List.mem_cons, List.mem_append] at hc
    rcases hc with h | rfl | h | rfl | h
    · exact (hs c h).2.1
    · decide
    · exact (h1 c h).2
    · decide
    · exact (h4 c h).2.1
  · exact dd_sep _ (dd_sep _ (dd_no _ fun c hc => (h4 c hc).2.2) _ h2) _ (dd_no _ fun c hc => (hs c hc).2.2)
theorem words_lineB {s : List UInt8} {m : Mod} (h0 : s ≠ []) (hs : ∀ c ∈ s, c ≠ 32 ∧ c ≠ 10 ∧ c ≠ 47) (hm : okM m) : wordsL (lineB s m) = [s, m.1, vtext m.2.1 m.2.2.1 m.2.2.2] := by
  obtain ⟨h1, _, h3⟩ := path_chars hm.1
  obtain ⟨h4, h5⟩ := text_chars hm.2
  unfold wordsL
  rw [cmt_dd (lineB_chars hs hm).2]
  unfold lineB
  rw [splitL_app _ _ _ (fun c hc => (hs c hc).1), splitL_app _ _ _ (fun c hc => (h1 c hc).1), splitL_none _ _ (fun c hc => (h4 c hc).1)]
  simp [h0, h3, h5]
theorem word_lineB {s : List UInt8} {m : Mod} (hm : okM m) : wordM s [s, m.1, vtext m.2.1 m.2.2.1 m.2.2.2] = some m := by
  rw [wordM_three, if_pos ⟨rfl, hm.1⟩, vparse_text hm.2]
  rfl
theorem linesP_app (r : List UInt8) (l : List UInt8) (h : ∀ c ∈ l, c ≠ 10) : linesP (l ++ 10 :: r) = l :: linesP r := by
  unfold linesP
  rw [splitL_app 10 r l h]
  have hne := splitL_ne 10 r
  generalize splitL 10 r = L at hne
  cases L with
  | nil => exact absurd rfl hne
  | cons a L =>
    rw [List.getLast?_cons_cons]
    split <;> simp_all
theorem req_chars : ∀ c ∈ wReq, c ≠ 32 ∧ c ≠ 10 ∧ c ≠ 47 := by decide
theorem mod_chars : ∀ c ∈ wMod, c ≠ 32 ∧ c ≠ 10 ∧ c ≠ 47 := by decide
theorem allW_line (s : List UInt8) (m : Mod) (r : List UInt8) (h0 : s ≠ []) (hs : ∀ c ∈ s, c ≠ 32 ∧ c ≠ 10 ∧ c ≠ 47) (hm : okM m) : allW (lineM s m ++ r) = [s, m.1, vtext m.2.1 m.2.2.1 m.2.2.2] :: allW r := by
  unfold allW
  rw [lineM_B, List.append_assoc]
  show List.map wordsL (linesP (lineB s m ++ 10 :: r)) = _
  rw [linesP_app _ _ (lineB_chars hs hm).1, List.map_cons, words_lineB h0 hs hm]
theorem colL_reqs : ∀ (l p : List Mod), p ≠ [] → (∀ x ∈ l, okM x) → colL (some p) (allW (linesM l)) = some (p ++ l)
  | [], p, _, _ => by simp [linesM, allW, linesP_nil, colL]
  | x :: l, p, hp, h => by
    have hx := h x (by simp)
    rw [show linesM (x :: l) = lineM wReq x ++ linesM l by simp [linesM], allW_line wReq x _ (by decide) req_chars hx]
    show colL (stepL p [wReq, x.1, vtext x.2.1 x.2.2.1 x.2.2.2]) (allW (linesM l)) = _
    have e : stepL p [wReq, x.1, vtext x.2.1 x.2.2.1 x.2.2.2] = some (p ++ [x]) := by
      unfold stepL firstW
      rw [if_neg (by simp), if_neg hp, word_lineB hx]
      rfl
    rw [e, colL_reqs l (p ++ [x]) (by simp) fun y hy => h y (by simp [hy])]
    simp
theorem colL_text {m : Mod} {l : List Mod} (h : ∀ x ∈ m :: l, okM x) : colL (some []) (allW (lineM wMod m ++ linesM l)) = some (m :: l) := by
  rw [allW_line wMod m _ (by decide) mod_chars (h m (by simp))]
  show colL (stepL [] [wMod, m.1, vtext m.2.1 m.2.2.1 m.2.2.2]) (allW (linesM l)) = _
  have e : stepL [] [wMod, m.1, vtext m.2.1 m.2.2.1 m.2.2.2] = some [m] := by
    unfold stepL firstW
    rw [if_neg (by simp), if_pos rfl, word_lineB (h m (by simp))]
    rfl
  rw [e, colL_reqs l [m] (by simp) fun y hy => h y (by simp [hy])]
  rfl
theorem msort_perm (l : List Mod) : (msort l).Perm l := List.mergeSort_perm l _
theorem msort_twice (l : List Mod) : msort (msort l) = msort l := msort_rev (msort_perm l)
theorem mtext_len {m : Mod} {l : List Mod} : (mtext m l).length ≤ 65536 := by
  unfold mtext
  split
  · rename_i h
    obtain ⟨h1, h2⟩ := mcheck_ok m l h
    have h3 := lineM_len wMod m (by decide) (h2 m (by simp))
    have h4 := linesM_len (msort l) fun x hx => h2 x (List.mem_cons_of_mem _ ((msort_perm l).mem_iff.1 hx))
    rw [msort_len] at h4
    rw [List.length_append]
    omega
  · simp
/-- parsing undoes printing -/
theorem mparse_mtext {m : Mod} {l : List Mod} (h : mcheck m l = 0) : mparse (mtext m l) = ((m, msort l), 0, 0) := by
  have hok := okM_of h
  have hlen := mtext_len (m := m) (l := l)
  have hp : mcheck m (msort l) = 0 := by rw [mcheck_perm m (msort_perm l)]; exact h
  have hok' : ∀ x ∈ m :: msort l, okM x := fun x hx => hok x (by
    rcases List.mem_cons.1 hx with rfl | hx
    · simp
    · exact List.mem_cons_of_mem _ ((msort_perm l).mem_iff.1 hx))
  have hc := colL_text hok'
  have e : mtext m l = lineM wMod m ++ linesM (msort l) := by unfold mtext; rw [if_pos h]
  rw [← e] at hc
  rw [mparse_ok (by omega) hc, if_pos hp, msort_twice]
theorem msort_lt {m : Mod} {l : List Mod} (h : mcheck m l = 0) (i : Nat) (hi : i + 1 < (msort l).length) : mcmp (msort l)[i] (msort l)[i + 1] < 0 := by
  have hd : dupK (m :: l) (l.length + 1) = false := by
    unfold mcheck at h
    split at h
    · omega
    · split at h
      · omega
      · split at h
        · omega
        · rename_i h3
          simpa using h3
  have hn : ((m :: l).map (·.1)).Nodup := by
    have := dupK_full (m :: l)
    rw [List.length_cons, hd] at this
    simpa using this.symm
  have hn1 : (l.map (·.1)).Nodup := (List.nodup_cons.1 (by simpa using hn)).2
  have hn2 : ((msort l).map (·.1)).Nodup := (((msort_perm l).map _).nodup_iff).2 hn1
  have hto : ∀ a b : Mod, ((!(ltOf mcmp) b a) || (!(ltOf mcmp) a b)) = true := fun a b => by
    cases hab : (ltOf mcmp) a b
    · simp
    · have := le_of_lt mlt_swo hab
      unfold leOf at this
      simp [this]
  have htr : ∀ a b c : Mod, (!(ltOf mcmp) b a) = true → (!(ltOf mcmp) c b) = true → (!(ltOf mcmp) c a) = true := fun a b c h1 h2 => by
    simp at *; exact mlt_swo.ntrans c b a h2 h1
  have hp := List.pairwise_iff_getElem.1 (List.pairwise_mergeSort htr hto l) i (i + 1) (by unfold msort at hi; omega) hi (by omega)
  have h1 : ltOf mcmp (msort l)[i + 1] (msort l)[i] = false := by
    have hp' : (!ltOf mcmp (msort l)[i + 1] (msort l)[i]) = true := hp
    simpa using hp'
  unfold ltOf at h1
  have h2 := of_decide_eq_false h1
  have h3 := mcmp_anti (msort l)[i] (msort l)[i + 1]
  have h4 : mcmp (msort l)[i] (msort l)[i + 1] ≠ 0 := fun e => by
    have e' := (mcmp_eq _ _).1 e
    have := nodup_inj hn2 (i := i) (j := i + 1) (by simp; omega) (by simpa using hi) (by simp [e'])
    omega
  omega
end Go.Proofs.YtbbdoibmcmkmnaaGreatDoor
