/- Plain definitions and laws: lines and words of a text, the manifest that a text describes. -/
import Derived.Test.YtbbdoibmcmkmnaaGreatDoorPU
import Derived.Test.YtbbdoibmcmkmnaaGreatDoorWN
import Derived.Lib.IndexMore
namespace Go.Proofs.YtbbdoibmcmkmnaaGreatDoor
open Go.RowKit Go.Sort Go.Lib

/-- the lines of a text -/
def linesP (s : List UInt8) : List (List UInt8) := if (splitL 10 s).getLast? = some [] then (splitL 10 s).dropLast else splitL 10 s
theorem linesP_nil : linesP [] = [] := by simp [linesP, splitL]
theorem linesP_cut (s : List UInt8) (h : s ≠ []) : linesP s = (cut s [10]).1 :: linesP (cut s [10]).2.1 := by
  unfold cut
  rw [index_one]
  have hg := indexByte_ge s 10
  by_cases hm : indexByte s 10 = -1
  · rw [if_neg (by omega)]
    simp only [linesP_nil]
    unfold linesP
    rw [splitL_miss 10 s hm]
    simp [h]
  · obtain ⟨i, hi⟩ : ∃ i : Nat, indexByte s 10 = i := ⟨(indexByte s 10).toNat, by omega⟩
    rw [if_pos (by omega), hi]
    simp only [Int.toNat_natCast, List.length_singleton]
    unfold linesP
    rw [splitL_hit 10 s i hi]
    have hne := splitL_ne 10 (s.drop (i + 1))
    generalize splitL 10 (s.drop (i + 1)) = L at hne
    cases L with
    | nil => exact absurd rfl hne
    | cons a L =>
      rw [List.getLast?_cons_cons]
      split <;> simp_all
theorem cut_rest (s : List UInt8) : (cut s [10]).2.1.length ≤ s.length ∧ (s ≠ [] → (cut s [10]).2.1.length < s.length) ∧ (cut s [10]).1.length ≤ s.length := by
  unfold cut
  split
  · rename_i h
    have := index_room s [10] h
    simp at this ⊢
    omega
  · refine ⟨by simp, fun h => ?_, by simp⟩
    simpa using List.length_pos_iff.2 h
theorem linesP_len : ∀ (k : Nat) (s : List UInt8), s.length ≤ k → (linesP s).length ≤ s.length
  | 0, s, h => by
    obtain rfl : s = [] := List.eq_nil_of_length_eq_zero (by omega)
    simp [linesP_nil]
  | k + 1, s, h => by
    by_cases hs : s = []
    · subst hs; simp [linesP_nil]
    · have h1 := (cut_rest s).2.1 hs
      have ih := linesP_len k (cut s [10]).2.1 (by omega)
      rw [linesP_cut s hs]
      simp
      omega
/-- a line without its comment -/
def cmt (s : List UInt8) : List UInt8 := (cut s [47, 47]).1
theorem cmt_len (s : List UInt8) : (cmt s).length ≤ s.length := by
  unfold cmt cut
  split
  · simp only [List.length_take]; omega
  · exact Nat.le_refl _
/-- the words of a line -/
def wordsL (s : List UInt8) : List (List UInt8) := (splitL 32 (cmt s)).filter fun w => decide (w ≠ [])
theorem splitL_word (b : UInt8) : ∀ l : List UInt8, ∀ x ∈ splitL b l, x.length ≤ l.length
  | [] => by simp [splitL]
  | c :: l => by
    have ih := splitL_word b l
    unfold splitL
    split
    · intro x hx
      rcases List.mem_cons.1 hx with rfl | hx
      · simp
      · have := ih x hx; simp; omega
    · split
      · rename_i h
        rw [h] at ih
        intro x hx
        rcases List.mem_cons.1 hx with rfl | hx
        · have := ih _ (List.mem_cons_self ..); simp at this ⊢; omega
        · have := ih x (List.mem_cons_of_mem _ hx); simp; omega
      · intro x hx
        obtain rfl : x = [c] := by simpa using hx
        simp
theorem wordsL_len (s : List UInt8) : (wordsL s).length ≤ s.length + 1 ∧ ∀ x ∈ wordsL s, x.length ≤ s.length := by
  have h1 := splitL_len 32 (cmt s)
  have h2 := splitL_word 32 (cmt s)
  have h3 := cmt_len s
  have h4 := List.length_filter_le (fun w : List UInt8 => decide (w ≠ [])) (splitL 32 (cmt s))
  refine ⟨by unfold wordsL; omega, fun x hx => ?_⟩
  have := h2 x ((List.mem_filter.1 hx).1)
  omega

/-- the module of a line -/
def wordM (first : List UInt8) : List (List UInt8) → Option Mod
  | [a, p, v] => if a = first ∧ pathOk p = true then (vparse v).map fun x => (p, x) else none
  | _ => none
theorem wordM_len {first : List UInt8} {ws : List (List UInt8)} (h : ws.length ≠ 3) : wordM first ws = none := by
  unfold wordM
  split
  · simp at h
  · rfl
theorem wordM_three (first a p v : List UInt8) : wordM first [a, p, v] = if a = first ∧ pathOk p = true then (vparse v).map fun x => (p, x) else none := rfl
def firstW (l : List Mod) : List UInt8 := if l = [] then wMod else wReq
/-- one line more -/
def stepL (l : List Mod) (ws : List (List UInt8)) : Option (List Mod) := if ws = [] then some l else (wordM (firstW l) ws).map fun m => l ++ [m]
/-- the modules of lines, or the line at fault -/
def runL : List (List (List UInt8)) → Nat → List Mod → List Mod × Nat
  | [], _, l => (l, 0)
  | ws :: r, at_, l => match stepL l ws with
    | none => ([], at_ + 1)
    | some l' => runL r (at_ + 1) l'
def colL (q : Option (List Mod)) (pre : List (List (List UInt8))) : Option (List Mod) := pre.foldl (fun q ws => q.bind (stepL · ws)) q
theorem colL_snoc (q : Option (List Mod)) (pre : List (List (List UInt8))) (x : List (List UInt8)) : colL q (pre ++ [x]) = (colL q pre).bind (stepL · x) := by simp [colL]
theorem colL_append (q : Option (List Mod)) (pre r : List (List (List UInt8))) : colL q (pre ++ r) = colL (colL q pre) r := by simp [colL]
theorem runL_ok : ∀ (L : List (List (List UInt8))) (a : Nat) (l l' : List Mod), colL (some l) L = some l' → runL L a l = (l', 0)
  | [], a, l, l', h => by simp [colL] at h; subst h; rfl
  | ws :: r, a, l, l', h => by
    have h' : colL (stepL l ws) r = some l' := h
    unfold runL
    cases hs : stepL l ws with
    | none =>
      rw [hs] at h'
      exfalso
      have : ∀ r, colL none r = none := fun r => by
        induction r with
        | nil => rfl
        | cons x r ih => exact ih
      rw [this] at h'
      cases h'
    | some l2 =>
      rw [hs] at h'
      exact runL_ok r (a + 1) l2 l' h'
theorem runL_bad : ∀ (pre : List (List (List UInt8))) (x : List (List UInt8)) (r : List (List (List UInt8))) (a : Nat) (l l' : List Mod), colL (some l) pre = some l' → stepL l' x = none → runL (pre ++ x :: r) a l = ([], a + pre.length + 1)
  | [], x, r, a, l, l', h, hx => by
    simp [colL] at h
    subst h
    show runL (x :: r) a l = _
    unfold runL
    rw [hx]
    rfl
  | ws :: pre, x, r, a, l, l', h, hx => by
    have h' : colL (stepL l ws) pre = some l' := h
    show runL (ws :: (pre ++ x :: r)) a l = _
    unfold runL
    cases hs : stepL l ws with
    | none =>
      rw [hs] at h'
      exfalso
      have : ∀ r, colL none r = none := fun r => by
        induction r with
        | nil => rfl
        | cons x r ih => exact ih
      rw [this] at h'
      cases h'
    | some l2 =>
      rw [hs] at h'
      have ih := runL_bad pre x r (a + 1) l2 l' h' hx
      show runL (pre ++ x :: r) (a + 1) l2 = _
      rw [ih]
      simp
      omega
def allW (s : List UInt8) : List (List (List UInt8)) := (linesP s).map wordsL
/-- a manifest, an error, a line -/
abbrev MRes := (Mod × List Mod) × Int × Nat
def zeroM : Mod := ([], 0, 0, 0)
/-- what the lines give -/
def fin (n : Nat) : List Mod × Nat → MRes
  | (_, k + 1) => ((zeroM, []), 8, k + 1)
  | ([], 0) => ((zeroM, []), 8, n + 1)
  | (m :: l, 0) => if mcheck m l = 0 then ((m, msort l), 0, 0) else ((zeroM, []), mcheck m l, 0)
/-- the manifest that a text describes, or the fault -/
def mparse (s : List UInt8) : MRes := if 65536 < s.length then ((zeroM, []), 2, 0) else fin (linesP s).length (runL (allW s) 0 [])
theorem mparse_long {s : List UInt8} (h : 65536 < s.length) : mparse s = ((zeroM, []), 2, 0) := by unfold mparse; rw [if_pos h]
theorem mparse_bad {s : List UInt8} (h : ¬ 65536 < s.length) {pre : List (List (List UInt8))} {x : List (List UInt8)} {r : List (List (List UInt8))} {l : List Mod} (ha : allW s = pre ++ x :: r) (hc : colL (some []) pre = some l) (hx : stepL l x = none) : mparse s = ((zeroM, []), 8, pre.length + 1) := by
  unfold mparse
  rw [if_neg h, ha, runL_bad pre x r 0 [] l hc hx, Nat.zero_add]
  rfl
theorem mparse_none {s : List UInt8} (h : ¬ 65536 < s.length) (hc : colL (some []) (allW s) = some []) : mparse s = ((zeroM, []), 8, (linesP s).length + 1) := by
  unfold mparse
  rw [if_neg h, runL_ok _ _ _ _ hc]
  rfl
theorem mparse_ok {s : List UInt8} (h : ¬ 65536 < s.length) {m : Mod} {l : List Mod} (hc : colL (some []) (allW s) = some (m :: l)) : mparse s = if mcheck m l = 0 then ((m, msort l), 0, 0) else ((zeroM, []), mcheck m l, 0) := by
  unfold mparse
  rw [if_neg h, runL_ok _ _ _ _ hc]
  rfl
end Go.Proofs.YtbbdoibmcmkmnaaGreatDoor
