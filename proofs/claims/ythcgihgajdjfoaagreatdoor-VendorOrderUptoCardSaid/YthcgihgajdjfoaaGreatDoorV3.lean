/- What the claim needs of: WD PC. -/
import Derived.Test.YthcgihgajdjfoaaGreatDoorV2
import Derived.StillTailTactics
namespace Go.Proofs.YthcgihgajdjfoaaGreatDoor
open Go.RowKit
set_option maxRecDepth 100000 in
set_option maxHeartbeats 1000000 in
theorem Valid_any (x y z : Int) (w : World) :
  Calls Tryz.prog 112 #[.agg #[.int .i64 x, .int .i64 y, .int .i64 z]] w fun e w' => e = .returned (.bool (vok x y z)) ∧ Below w.heap.size w w' := by
 go_enter Tryz.func112, Tryz.ntmps112
 go_wp2_with (go_at_call 120; refine (numbers_any _ _ _ _).mono ?_; rintro e w' ⟨rfl, hb⟩)
 have hB : Below w.heap.size w w' := ((Below.refl _ _).alloc (Nat.le_refl _) _).trans (hb.toBelow.mono (by simp))
 clear hb
 go_loop [7] (fun i => i = .int .i64 0 ∨ (i = .int .i64 1 ∧ 0 ≤ x ∧ x ≤ 9999) ∨ (i = .int .i64 2 ∧ 0 ≤ x ∧ x ≤ 9999 ∧ 0 ≤ y ∧ y ≤ 9999) ∨ (i = .int .i64 3 ∧ 0 ≤ x ∧ x ≤ 9999 ∧ 0 ≤ y ∧ y ≤ 9999 ∧ 0 ≤ z ∧ z ≤ 9999)) (fun i => (4 - intOf i).toNat)
 case atStart => exact .inl rfl
 case round =>
  have i0 : ∀ w, (Instr.index 167 (.agg #[.int .i64 x, .int .i64 y, .int .i64 z]) (.int .i64 0)).run Tryz.prog w = .ok (.int .i64 x) w := fun _ => by kernel_rfl
  have i1 : ∀ w, (Instr.index 167 (.agg #[.int .i64 x, .int .i64 y, .int .i64 z]) (.int .i64 1)).run Tryz.prog w = .ok (.int .i64 y) w := fun _ => by kernel_rfl
  have i2 : ∀ w, (Instr.index 167 (.agg #[.int .i64 x, .int .i64 y, .int .i64 z]) (.int .i64 2)).run Tryz.prog w = .ok (.int .i64 z) w := fun _ => by kernel_rfl
  rcases hrel with rfl | ⟨rfl, h1, h2⟩ | ⟨rfl, h1, h2, h3, h4⟩ | ⟨rfl, h1, h2, h3, h4, h5, h6⟩
  ·rcases (show x < 0 ∨ (0 ≤ x ∧ 9999 < x) ∨ (0 ≤ x ∧ x ≤ 9999) by omega) with h | ⟨h, h'⟩ | ⟨h, h'⟩
   ·go_wp2
    go_ret
    exact ⟨by simp [vok]; omega, hB⟩
   ·go_wp2
    go_ret
    exact ⟨by simp [vok]; omega, hB⟩
   ·go_wp2
    go_round
    case rel => exact .inr (.inl ⟨rfl, h, h'⟩)
    case measure => simp [intOf]
  ·rcases (show y < 0 ∨ (0 ≤ y ∧ 9999 < y) ∨ (0 ≤ y ∧ y ≤ 9999) by omega) with h | ⟨h, h'⟩ | ⟨h, h'⟩
   ·go_wp2
    go_ret
    exact ⟨by simp [vok]; omega, hB⟩
   ·go_wp2
    go_ret
    exact ⟨by simp [vok]; omega, hB⟩
   ·go_wp2
    go_round
    case rel => exact .inr (.inr (.inl ⟨rfl, h1, h2, h, h'⟩))
    case measure => simp [intOf]
  ·rcases (show z < 0 ∨ (0 ≤ z ∧ 9999 < z) ∨ (0 ≤ z ∧ z ≤ 9999) by omega) with h | ⟨h, h'⟩ | ⟨h, h'⟩
   ·go_wp2
    go_ret
    exact ⟨by simp [vok]; omega, hB⟩
   ·go_wp2
    go_ret
    exact ⟨by simp [vok]; omega, hB⟩
   ·go_wp2
    go_round
    case rel => exact .inr (.inr (.inr ⟨rfl, h1, h2, h3, h4, h, h'⟩))
    case measure => simp [intOf]
  ·go_wp2
   go_ret
   exact ⟨by simp [vok, *], hB⟩
theorem isNaN_any (a : List UInt8) (w : World) :
  Calls Tryz.prog 93 #[.string ⟨a.toArray⟩] w fun e w' => e = .returned (.bool false) ∧ w = w' := by
 go_enter Tryz.func93, Tryz.ntmps93
 go_wp2
 go_ret
 exact ⟨by simp, rfl⟩
theorem cmpS_any (a b : List UInt8) (w : World) :
  Calls Tryz.prog 47 #[.string ⟨a.toArray⟩, .string ⟨b.toArray⟩] w fun e w' => e = .returned (.int .i64 (scmp a b)) ∧ w = w' := by
 go_enter Tryz.func47, Tryz.ntmps47
 go_wp2_with (go_at_call 93; refine (isNaN_any _ _).mono ?_; rintro e w' ⟨rfl, rfl⟩)
 ·have h : Op.bytesLess a b = true := by assumption
  go_ret
  exact ⟨by simp [scmp, h], rfl⟩
 ·have h : Op.bytesLess a b = false := by assumption
  have h' : (!a == b) = true := by assumption
  go_ret
  have h2 : ¬ a = b := by simpa using h'
  exact ⟨by simp [scmp, h, h2], rfl⟩
 ·have h : Op.bytesLess a b = false := by assumption
  have h' : (!a == b) = false := by assumption
  go_ret
  have h2 : a = b := by simpa using h'
  exact ⟨by simp only [scmp, h]; simp [h2], rfl⟩
theorem refCompare_any (x y z x' y' z' : Int) (w : World) :
  Calls Tryz.prog 55 #[.agg #[.int .i64 x, .int .i64 y, .int .i64 z], .agg #[.int .i64 x', .int .i64 y', .int .i64 z']] w fun e w' => e = .returned (.int .i64 (vcmp x y z x' y' z')) ∧ Below w.heap.size w w' := by
 have hB : ∀ o1 o2, Below w.heap.size w ((w.alloc o1).alloc o2) := fun o1 o2 => ((Below.refl _ _).alloc (Nat.le_refl _) _).alloc (by simp) _
 by_cases h1 : x = x'
 ·subst h1
  by_cases h2 : y = y'
  ·subst h2
   go_enter Tryz.func55, Tryz.ntmps55
   go_wp2_with (go_at_call 99; refine (one_any _ _ _).mono ?_; rintro e w' ⟨rfl, rfl⟩)
   all_goals
    go_ret
    exact ⟨ret_int (by unfold vcmp; (repeat' split) <;> omega), hB _ _⟩
  ·have h2' : (y != y') = true := by simpa using h2
   go_enter Tryz.func55, Tryz.ntmps55
   go_wp2_with (go_at_call 99; refine (one_any _ _ _).mono ?_; rintro e w' ⟨rfl, rfl⟩)
   all_goals
    go_ret
    exact ⟨ret_int (by unfold vcmp; (repeat' split) <;> omega), hB _ _⟩
 ·have h1' : (x != x') = true := by simpa using h1
  go_enter Tryz.func55, Tryz.ntmps55
  go_wp2_with (go_at_call 99; refine (one_any _ _ _).mono ?_; rintro e w' ⟨rfl, rfl⟩)
  all_goals
   go_ret
   exact ⟨ret_int (by unfold vcmp; (repeat' split) <;> omega), hB _ _⟩
theorem mrefCompare_any (p p' : List UInt8) (x y z x' y' z' : Int) (w : World) :
  Calls Tryz.prog 24 #[.agg #[.string ⟨p.toArray⟩, .int .i64 x, .int .i64 y, .int .i64 z], .agg #[.string ⟨p'.toArray⟩, .int .i64 x', .int .i64 y', .int .i64 z']] w fun e w' => e = .returned (.int .i64 (mcmp (p, x, y, z) (p', x', y', z'))) ∧ Below w.heap.size w w' := by
 have hB : ∀ o1 o2, Below w.heap.size w ((w.alloc o1).alloc o2) := fun o1 o2 => ((Below.refl _ _).alloc (Nat.le_refl _) _).alloc (by simp) _
 go_enter Tryz.func24, Tryz.ntmps24
 go_wp2_with (go_at_call 55; refine (refCompare_any _ _ _ _ _ _ _).mono ?_; rintro e w' ⟨rfl, hb⟩)
 ·have h : Op.bytesLess p p' = true := by assumption
  go_ret
  exact ⟨by simp [mcmp, h], hB _ _⟩
 ·have h : Op.bytesLess p p' = false := by assumption
  have h' : (!p == p') = true := by assumption
  go_ret
  have h2 : ¬ p = p' := by simpa using h'
  exact ⟨by simp [mcmp, h, h2], hB _ _⟩
 ·have h : Op.bytesLess p p' = false := by assumption
  have h' : (!p == p') = false := by assumption
  go_ret
  have h2 : p = p' := by simpa using h'
  exact ⟨by simp only [mcmp, h]; simp [h2], (hB _ _).trans (hb.mono (by simp; omega))⟩
set_option maxHeartbeats 400000 in
theorem Or2_any (b off c : Nat) (u v : Int) (w : World) (h0 : w.cell? ⟨b, off, none⟩ = some (.int .i64 u)) (h1 : w.cell? ⟨b, off + 1, none⟩ = some (.int .i64 v)) :
  Calls Tryz.prog 46 #[.slice (some ⟨b, off, none⟩) 2 c] w fun e w' => e = .returned (.int .i64 (if u = 0 then v else u)) ∧ w = w' := by
 go_enter Tryz.func46, Tryz.ntmps46
 go_wp2
 go_loop [8] (fun i => i = .int .i64 0 ∨ (i = .int .i64 1 ∧ u = 0) ∨ (i = .int .i64 2 ∧ u = 0 ∧ v = 0)) (fun i => (3 - intOf i).toNat)
 case atStart => exact .inl rfl
 case round =>
  rcases hrel with rfl | ⟨rfl, rfl⟩ | ⟨rfl, rfl, rfl⟩
  ·by_cases hu : u = 0
   ·subst hu
    go_wp2
    go_round
    case rel => simp
    case measure => simp [intOf]
   ·have hu' : (u != 0) = true := by simpa using hu
    clear hu
    go_wp2
    all_goals
     go_ret
     exact ⟨ret_int (by simp at hu'; omega), rfl⟩
  ·by_cases hv : v = 0
   ·subst hv
    go_wp2
    go_round
    case rel => simp
    case measure => simp [intOf]
   ·have hv' : (v != 0) = true := by simpa using hv
    clear hv
    go_wp2
    go_ret
    exact ⟨ret_int (by simp), rfl⟩
  ·go_wp2
   go_ret
   exact ⟨rfl, rfl⟩
theorem mcmp_or (p p' : List UInt8) (x y z x' y' z' : Int) : (if scmp p p' = 0 then vcmp x y z x' y' z' else scmp p p') = mcmp (p, x, y, z) (p', x', y', z') := by
 simp only [scmp, mcmp]
 by_cases h1 : Op.bytesLess p p' = true
 ·simp [h1]
 ·by_cases h2 : p = p'
  ·subst h2; simp [bl_irrefl]
  ·simp [h1, h2]
theorem OrM_any (b off c : Nat) (p p' : List UInt8) (x y z x' y' z' : Int) (w : World) (h0 : w.cell? ⟨b, off, none⟩ = some (.int .i64 (scmp p p'))) (h1 : w.cell? ⟨b, off + 1, none⟩ = some (.int .i64 (vcmp x y z x' y' z'))) :
  Calls Tryz.prog 46 #[.slice (some ⟨b, off, none⟩) 2 c] w fun e w' => e = .returned (.int .i64 (mcmp (p, x, y, z) (p', x', y', z'))) ∧ w = w' := by
 have h := Or2_any b off c _ _ w h0 h1
 rw [mcmp_or] at h
 exact h
set_option maxRecDepth 100000 in
theorem eq_mod (p p' : List UInt8) (x y z x' y' z' : Int) (w : World) :
  (Op.equalIn 10000 26 (.agg #[.string ⟨p.toArray⟩, .int .i64 x, .int .i64 y, .int .i64 z]) (.agg #[.string ⟨p'.toArray⟩, .int .i64 x', .int .i64 y', .int .i64 z'])).run Tryz.prog w = .ok (decide ((p, x, y, z) = (p', x', y', z'))) w := by
 by_cases hp : p = p' <;> by_cases hx : x = x' <;> by_cases hy : y = y' <;> by_cases hz : z = z' <;> simp [go_sem, hp, hx, hy, hz]
set_option maxRecDepth 100000 in
set_option maxHeartbeats 4000000 in
theorem mCompare_any (p p' : List UInt8) (x y z x' y' z' : Int) (w : World) :
  Calls Tryz.prog 41 #[.agg #[.string ⟨p.toArray⟩, .int .i64 x, .int .i64 y, .int .i64 z], .agg #[.string ⟨p'.toArray⟩, .int .i64 x', .int .i64 y', .int .i64 z']] w fun e w' => e = .returned (.int .i64 (mcmp (p, x, y, z) (p', x', y', z'))) ∧ BelowD w.heap.size w w' := by
 have hB : ∀ o1 o2, BelowD w.heap.size w ((w.alloc o1).alloc o2) := fun o1 o2 => ((BelowD.refl _ _).alloc (Nat.le_refl _) _).alloc (by simp) _
 have heq := fun W => eq_mod p p' x y z x' y' z' W
 by_cases h : (p, x, y, z) = (p', x', y', z')
 ·have HC := Lib.hid ((mcmp_eq (p, x, y, z) (p', x', y', z')).2 h)
  rw [decide_eq_true h] at heq
  clear h
  go_enter Tryz.func41, Tryz.ntmps41
  go_wp2
  go_ret
  exact ⟨ret_int HC.out.symm, hB _ _⟩
 ·rw [decide_eq_false h] at heq
  clear h
  go_enter Tryz.func41, Tryz.ntmps41
  go_wp2
  go_region_held3 (fun W => W.cell? ⟨w.heap.size, 0, none⟩ = some (.string ⟨p.toArray⟩) ∧ W.cell? ⟨w.heap.size, 1, none⟩ = some (.int .i64 x) ∧ W.cell? ⟨w.heap.size, 2, none⟩ = some (.int .i64 y) ∧ W.cell? ⟨w.heap.size, 3, none⟩ = some (.int .i64 z) ∧
    W.cell? ⟨w.heap.size + 1, 0, none⟩ = some (.string ⟨p'.toArray⟩) ∧ W.cell? ⟨w.heap.size + 1, 1, none⟩ = some (.int .i64 x') ∧ W.cell? ⟨w.heap.size + 1, 2, none⟩ = some (.int .i64 y') ∧ W.cell? ⟨w.heap.size + 1, 3, none⟩ = some (.int .i64 z')) (first | (simp; done) | (go_split_ands; (repeat' apply And.intro) <;> (first | assumption | (apply cell_keep; assumption; assumption) | (apply cell_keep_alloc; assumption))))
   (first | (go_at_call 47; refine (cmpS_any _ _ _).mono ?_; rintro e w' ⟨rfl, rfl⟩) | (go_at_call 87; refine (Compare_any _ _ _ _ _ _ _).mono ?_; rintro e w' ⟨rfl, hb⟩; have hbB := hb.toBelow)  | (go_at_call 46; refine (OrM_any _ _ _ p p' x y z x' y' z' _ ?_ ?_).mono ?_; (simp); (simp); rintro e w' ⟨rfl, rfl⟩))
  go_wp2
  go_ret
  have h2 := ((hB (.cells #[.string ⟨p.toArray⟩, .int .i64 x, .int .i64 y, .int .i64 z] 26) (.cells #[.string ⟨p'.toArray⟩, .int .i64 x', .int .i64 y', .int .i64 z'] 26)).drew).trans (hb.mono (by simp; omega))
  exact ⟨rfl, h2.alloc h2.size _⟩
end Go.Proofs.YthcgihgajdjfoaaGreatDoor
namespace Go.Proofs.YthcgihgajdjfoaaGreatDoor
def lowc (c : UInt8) : Bool := decide (97 ≤ c.toNat ∧ c.toNat ≤ 122)
def othc (c : UInt8) : Bool := decide (48 ≤ c.toNat ∧ c.toNat ≤ 57 ∨ c.toNat = 45 ∨ c.toNat = 46 ∨ c.toNat = 95)
def pok (i : Nat) (c : UInt8) : Bool := lowc c || (othc c && decide (i ≠ 0))
def partK (l : List UInt8) (k : Nat) : Bool := (List.range k).all fun i => pok i (l.getD i 0)
def partOk (l : List UInt8) : Bool := partK l l.length && decide (l ≠ [])
theorem partK_succ (l : List UInt8) (k : Nat) : partK l (k + 1) = (partK l k && pok k (l.getD k 0)) := by
 simp [partK, List.range_succ]
theorem partK_false (l : List UInt8) (k n : Nat) (h : k < n) (hp : pok k (l.getD k 0) = false) : partK l n = false := by
 unfold partK
 rw [List.all_eq_false]
 exact ⟨k, List.mem_range.2 h, by rw [hp]; simp⟩
theorem pok_low {i : Nat} {c : UInt8} (h : (97 : Int) ≤ (c.toNat : Int)) (h' : (c.toNat : Int) ≤ 122) : pok i c = true := by
 have : lowc c = true := by simp [lowc]; omega
 simp [pok, this]
theorem pok_oth {i : Nat} {c : UInt8} (hi : 0 < i) (h : (48 ≤ (c.toNat : Int) ∧ (c.toNat : Int) ≤ 57) ∨ (c.toNat : Int) = 45 ∨ (c.toNat : Int) = 46 ∨ (c.toNat : Int) = 95) : pok i c = true := by
 have h1 : othc c = true := by simp [othc]; omega
 have h2 : i ≠ 0 := by omega
 simp [pok, h1, h2]
theorem pok_zero {i : Nat} {c : UInt8} (hi : i = 0) (h : (c.toNat : Int) < 97 ∨ 122 < (c.toNat : Int)) : pok i c = false := by
 have h1 : lowc c = false := by simp [lowc]; omega
 simp [pok, h1, hi]
theorem pok_bad {i : Nat} {c : UInt8} (h : (c.toNat : Int) < 45 ∨ (c.toNat : Int) = 47 ∨ (58 ≤ (c.toNat : Int) ∧ (c.toNat : Int) ≤ 94) ∨ (c.toNat : Int) = 96 ∨ 122 < (c.toNat : Int)) : pok i c = false := by
 have h1 : lowc c = false := by simp [lowc]; omega
 have h2 : othc c = false := by simp [othc]; omega
 simp [pok, h1, h2]
def splitL (b : UInt8) : List UInt8 → List (List UInt8)
 | [] => [[]]
 | c :: l => if c = b then [] :: splitL b l else match splitL b l with
   | h :: t => (c :: h) :: t
   | [] => [[c]]
def pathOk (l : List UInt8) : Bool := decide (l.length ≤ 60) && (splitL 47 l).all partOk
end Go.Proofs.YthcgihgajdjfoaaGreatDoor
