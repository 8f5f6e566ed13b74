/- A region that appends a module to a list in a box, inside a fence (manifest.Parse). -/
import Derived.Test.YtbbdoibmcmkmnaaGreatDoorRegIn
import Derived.Test.YtbbdoibmcmkmnaaGreatDoorWJ
import Derived.Test.YtbbdoibmcmkmnaaGreatDoorWM
import Derived.Test.YtbbdoibmcmkmnaaGreatDoorMem3
import Derived.OwnWalkIn
import Derived.TacticsInMore
import Derived.RangeFuncBox
namespace Go.Proofs.YtbbdoibmcmkmnaaGreatDoor
open Go.RowKit
attribute [local go_sem] Oper.semAt_some

section
variable {F : Fence} {n : Nat} {id : Nat} {ops : Array Oper} {Q : Exit → Act → World → Prop} {a : Act} {W : World}
/-- the operations: their slots, what they are -/
def ops17 : List (Option Tmp × Op × Option (Tmp × Bool)) :=
  [(some 60, .load 26 (.tmp 4), none), (some 61, .move (.tmp 6), none), (some 62, .indexAddr 43 (.tmp 61) (.const (.int .i64 1)), none), (some 63, .load 9 (.tmp 62), none), (some 64, .load 23 (.tmp 8), none),
   (some 65, .build 25 #[(0, .tmp 63), (1, .tmp 64)], none), (some 66, .buildSlice 26 1 #[(0, .tmp 65)], none), (some 67, .call { callee := .builtin .append, args := #[.tmp 60, .tmp 66], argTypes := #[26, 26] }, none), (none, .store 26 (.tmp 4) (.tmp 67), none)]
/-- what waits for what -/
def deps17 : List (Nat × Nat) := [(2, 1), (3, 2), (5, 3), (5, 4), (6, 5), (7, 0), (7, 6), (8, 7)]
/-- the value has been appended -/
def App17 (W : World) (base : Nat) (v : Value) (k : Nat) (xs : List Value) (m : Mod) (v' : Value) (X : World) : Prop :=
  X.ownsRow base 25 4 v' (k + 1) (xs ++ encM m) ∧ ((W.alloc (.cells (encM m).toArray 25)).drew).grownBy X v.ownBlock
def Inv17 (a : Act) (W : World) (B2 b off c base k : Nat) (v : Value) (xs : List Value) (m : Mod) (L : Array Bool) (a' : Act) (X : World) : Prop :=
  L.size = 9 ∧ a'.tmps.size = a.tmps.size ∧ a'.defers = a.defers ∧ (∀ i, i < 60 → a'.tmps.getD i undef = a.tmps.getD i undef) ∧
  (L.getD 0 false = true → a'.tmps.getD 60 undef = v) ∧ (L.getD 1 false = true → a'.tmps.getD 61 undef = .slice (some ⟨b, off, none⟩) 3 c) ∧ (L.getD 2 false = true → a'.tmps.getD 62 undef = .pointer (some ⟨b, off + 1, none⟩)) ∧
  (L.getD 3 false = true → a'.tmps.getD 63 undef = .string ⟨m.1.toArray⟩) ∧ (L.getD 4 false = true → a'.tmps.getD 64 undef = .agg #[.int .i64 m.2.1, .int .i64 m.2.2.1, .int .i64 m.2.2.2]) ∧
  (L.getD 5 false = true → a'.tmps.getD 65 undef = .agg #[.string ⟨m.1.toArray⟩, .int .i64 m.2.1, .int .i64 m.2.2.1, .int .i64 m.2.2.2]) ∧ (L.getD 6 false = true → a'.tmps.getD 66 undef = .slice (some ⟨W.heap.size, 0, none⟩) 1 1) ∧
  (∀ i j, (i, j) ∈ deps17 → L.getD i false = true → L.getD j false = true) ∧
  (L.getD 6 false = false → X = W.drew) ∧ (L.getD 6 false = true → L.getD 7 false = false → X = (W.alloc (.cells (encM m).toArray 25)).drew) ∧
  (L.getD 7 false = true → L.getD 8 false = false → ∃ v', a'.tmps.getD 67 undef = v' ∧ App17 W base v k xs m v' X) ∧
  (L.getD 8 false = true → ∃ v' Y, App17 W base v k xs m v' Y ∧ X = Y.setCell ⟨B2, 0, none⟩ v')

theorem getD_set (T : Array Value) (d j : Nat) (u : Value) : (T.setIfInBounds d u).getD j undef = if j = d ∧ d < T.size then u else T.getD j undef := by
  by_cases h : j = d
  · subst h
    by_cases h2 : j < T.size
    · simp [h2, Array.getD]
    · simp [h2, Array.getD]
  · rw [if_neg (fun hc => h hc.1)]
    simp only [Array.getD_eq_getD_getElem?]
    rw [Array.getElem?_setIfInBounds_ne (fun e => h e.symm)]
theorem getB_set (L : Array Bool) (i j : Nat) (h : i < L.size) : (L.setIfInBounds i true).getD j false = if j = i then true else L.getD j false := by
  by_cases hj : j = i
  · subst hj
    simp [h, Array.getD]
  · rw [if_neg hj]
    simp only [Array.getD_eq_getD_getElem?]
    rw [Array.getElem?_setIfInBounds_ne (fun e => hj e.symm)]
theorem getB_true (L : Array Bool) (i : Nat) (h : L.getD i true = false) : L.getD i false = false := by
  simp only [Array.getD_eq_getD_getElem?] at *
  cases hq : L[i]? with
  | none => rfl
  | some b => rw [hq] at h; exact h

set_option maxHeartbeats 4000000 in
theorem region17 (_ : F.round ≠ none) {l : Nat} (_ : F.round = some l) (hops : ops.toList.map (fun o => (o.dst, o.op, o.guard)) = ops17) (hwf : wfOps ops = true)
    (hdep : ∀ (L : Array Bool) (i j : Nat), (i, j) ∈ deps17 → ∀ o, ops[i]? = some o → (o.after.all fun e => !Region.binds .any e || L.getD e.on false) = true → L.getD j false = true)
    {B2 B8 b off c base k : Nat} {v : Value} {xs : List Value} {m : Mod} (hsz : 68 ≤ a.tmps.size)
    (h4 : a.tmps.getD 4 undef = .pointer (some ⟨B2, 0, none⟩)) (h6 : a.tmps.getD 6 undef = .slice (some ⟨b, off, none⟩) 3 c) (h8 : a.tmps.getD 8 undef = .pointer (some ⟨B8, 0, none⟩))
    (cV : W.cell? ⟨B2, 0, none⟩ = some v) (fV : W.frozen? ⟨B2, 0, none⟩ = false) (hB2 : B2 < base) (cP : W.cell? ⟨b, off + 1, none⟩ = some (.string ⟨m.1.toArray⟩))
    (c0 : W.cell? ⟨B8, 0, none⟩ = some (.int .i64 m.2.1)) (c1 : W.cell? ⟨B8, 1, none⟩ = some (.int .i64 m.2.2.1)) (c2 : W.cell? ⟨B8, 2, none⟩ = some (.int .i64 m.2.2.2))
    (hown : W.ownsRow base 25 4 v k xs) (hk : k ≤ 100000) (hbase : base ≤ W.heap.size) (hv1 : ∃ A c', v = .slice A k c')
    (hQ : ∀ a' v' Y, App17 W base v k xs m v' Y → Q .normal a' (Y.setCell ⟨B2, 0, none⟩ v')) :
    (Code.region id ops true).wpIn F n Tryz.prog Q a W := by
  have hlen : ops.size = 9 := by
    have := congrArg List.length hops
    simpa [ops17] using this
  refine wpIn_region_each (by kernel_rfl) (Inv17 a W B2 b off c base k v xs m) (fun L a' X h => by rw [h.1, hlen]) ?start ?step hwf ?fin
  case start =>
    rw [hlen]
    have hz : ∀ i, (Array.replicate 9 false).getD i false = false := fun i => by
      simp only [Array.getD_eq_getD_getElem?, Array.getElem?_replicate]
      split <;> rfl
    exact ⟨rfl, rfl, rfl, fun _ _ => rfl, fun h => (by rw [hz] at h; cases h), fun h => (by rw [hz] at h; cases h), fun h => (by rw [hz] at h; cases h), fun h => (by rw [hz] at h; cases h), fun h => (by rw [hz] at h; cases h), fun h => (by rw [hz] at h; cases h), fun h => (by rw [hz] at h; cases h), fun i j _ h => (by rw [hz] at h; cases h), fun _ => rfl, fun h => (by rw [hz] at h; cases h), fun h => (by rw [hz] at h; cases h), fun h => (by rw [hz] at h; cases h)⟩
  case fin =>
    rintro L a' X hall ⟨_, _, _, _, _, _, _, _, _, _, _, _, _, _, _, h8'⟩
    obtain ⟨v', Y, hA, rfl⟩ := h8' (hall 8 (by omega))
    exact hQ _ _ _ hA
  case step =>
    rintro i ⟨dst, op, ty, pos, aft, gd⟩ ho L a' X hn hd ⟨hL, hs, hdf, hpre, k0, k1, k2, k3, k4, k5, k6, kd, w0, w1, w7, w8⟩
    have hi : i < 9 := by
      have := (Array.getElem?_eq_some_iff.1 ho).1
      omega
    have hq : ∀ j, (i, j) ∈ deps17 → L.getD j false = true := fun j hj => hdep L i j hj _ ho hd
    have he : ops17[i]? = some (dst, op, gd) := by
      rw [← hops, List.getElem?_map]
      have : ops.toList[i]? = some ⟨dst, op, ty, pos, aft, gd⟩ := by simpa using ho
      rw [this]
      rfl
    have hB : ∀ j, (L.setIfInBounds i true).getD j false = if j = i then true else L.getD j false := fun j => getB_set L i j (by omega)
    have hli := getB_true L i hn
    have p4 : a'.tmps.getD 4 undef = .pointer (some ⟨B2, 0, none⟩) := (hpre 4 (by decide)).trans h4
    have p6 : a'.tmps.getD 6 undef = .slice (some ⟨b, off, none⟩) 3 c := (hpre 6 (by decide)).trans h6
    have p8 : a'.tmps.getD 8 undef = .pointer (some ⟨B8, 0, none⟩) := (hpre 8 (by decide)).trans h8
    have dk : ∀ i' j', (i', j') ∈ deps17 → (L.setIfInBounds i true).getD i' false = true → (L.setIfInBounds i true).getD j' false = true := fun i' j' hij h => by
      rw [hB] at h ⊢
      by_cases hj : j' = i
      · rw [if_pos hj]
      · rw [if_neg hj]
        by_cases hi' : i' = i
        · subst hi'; exact hq j' hij
        · rw [if_neg hi'] at h; exact kd i' j' hij h
    have u6 : L.getD 7 false = true → L.getD 6 false = true := kd 7 6 (by simp [deps17])
    have u5 : L.getD 6 false = true → L.getD 5 false = true := kd 6 5 (by simp [deps17])
    have u3 : L.getD 5 false = true → L.getD 3 false = true := kd 5 3 (by simp [deps17])
    have u4 : L.getD 5 false = true → L.getD 4 false = true := kd 5 4 (by simp [deps17])
    have u2 : L.getD 3 false = true → L.getD 2 false = true := kd 3 2 (by simp [deps17])
    have u1 : L.getD 2 false = true → L.getD 1 false = true := kd 2 1 (by simp [deps17])
    have u0 : L.getD 7 false = true → L.getD 0 false = true := kd 7 0 (by simp [deps17])
    rcases (show i = 0 ∨ i = 1 ∨ i = 2 ∨ i = 3 ∨ i = 4 ∨ i = 5 ∨ i = 6 ∨ i = 7 ∨ i = 8 by omega) with rfl | rfl | rfl | rfl | rfl | rfl | rfl | rfl | rfl
    all_goals
      simp only [ops17, List.getElem?_cons_zero, List.getElem?_cons_succ, Option.some.injEq, Prod.mk.injEq] at he
      obtain ⟨rfl, rfl, rfl⟩ := he
      rw [if_pos (by simp [Region.wanted])]
    · have h7 : L.getD 7 false = false := Bool.eq_false_iff.2 fun h => by have := u0 h; rw [hli] at this; cases this
      have hX : X.cell? ⟨B2, 0, none⟩ = some v := by
        cases h6' : L.getD 6 false with
        | false => rw [w0 h6']; exact cV
        | true => rw [w1 h6' h7]; exact cell_keep_alloc (w := W) _ cV
      unfold Oper.wpIn
      refine ⟨by simp [Oper.about], ?_⟩
      rw [Oper.semAt_plain F _ _ (by intro c h; cases h)]
      go_simp
      refine ⟨by simp [hL], by simp [hs], (by first | rfl | exact hdf), (fun j hj => by show (a'.tmps.setIfInBounds 60 _).getD j undef = _; rw [getD_set, if_neg (by omega)]; exact hpre j hj), ?_, ?_, ?_, ?_, ?_, ?_, ?_, dk, ?_, ?_, ?_, ?_⟩
      · intro _; show (a'.tmps.setIfInBounds 60 _).getD 60 undef = _; rw [getD_set, if_pos ⟨rfl, by omega⟩]
      · intro h; rw [hB, if_neg (by decide)] at h; show (a'.tmps.setIfInBounds 60 _).getD 61 undef = _; rw [getD_set, if_neg (by omega)]; exact k1 h
      · intro h; rw [hB, if_neg (by decide)] at h; show (a'.tmps.setIfInBounds 60 _).getD 62 undef = _; rw [getD_set, if_neg (by omega)]; exact k2 h
      · intro h; rw [hB, if_neg (by decide)] at h; show (a'.tmps.setIfInBounds 60 _).getD 63 undef = _; rw [getD_set, if_neg (by omega)]; exact k3 h
      · intro h; rw [hB, if_neg (by decide)] at h; show (a'.tmps.setIfInBounds 60 _).getD 64 undef = _; rw [getD_set, if_neg (by omega)]; exact k4 h
      · intro h; rw [hB, if_neg (by decide)] at h; show (a'.tmps.setIfInBounds 60 _).getD 65 undef = _; rw [getD_set, if_neg (by omega)]; exact k5 h
      · intro h; rw [hB, if_neg (by decide)] at h; show (a'.tmps.setIfInBounds 60 _).getD 66 undef = _; rw [getD_set, if_neg (by omega)]; exact k6 h
      · intro h; rw [hB, if_neg (by decide)] at h; first | done | exact w0 h
      · intro h h'; rw [hB, if_neg (by decide)] at h h'; exact w1 h h'
      · intro h h'; rw [hB, if_neg (by decide)] at h; exact absurd h (by rw [h7]; simp)
      · intro h; rw [hB, if_neg (by decide)] at h; exact absurd (kd 8 7 (by simp [deps17]) h) (by rw [h7]; simp)
    · have h7 : L.getD 7 false = false := Bool.eq_false_iff.2 fun h => by have := u1 (u2 (u3 (u5 (u6 h)))); rw [hli] at this; cases this
      unfold Oper.wpIn
      refine ⟨by simp [Oper.about], ?_⟩
      rw [Oper.semAt_plain F _ _ (by intro c h; cases h)]
      go_simp
      refine ⟨by simp [hL], by simp [hs], (by first | rfl | exact hdf), (fun j hj => by show (a'.tmps.setIfInBounds 61 _).getD j undef = _; rw [getD_set, if_neg (by omega)]; exact hpre j hj), ?_, ?_, ?_, ?_, ?_, ?_, ?_, dk, ?_, ?_, ?_, ?_⟩
      · intro h; rw [hB, if_neg (by decide)] at h; show (a'.tmps.setIfInBounds 61 _).getD 60 undef = _; rw [getD_set, if_neg (by omega)]; exact k0 h
      · intro _; show (a'.tmps.setIfInBounds 61 _).getD 61 undef = _; rw [getD_set, if_pos ⟨rfl, by omega⟩]
      · intro h; rw [hB, if_neg (by decide)] at h; show (a'.tmps.setIfInBounds 61 _).getD 62 undef = _; rw [getD_set, if_neg (by omega)]; exact k2 h
      · intro h; rw [hB, if_neg (by decide)] at h; show (a'.tmps.setIfInBounds 61 _).getD 63 undef = _; rw [getD_set, if_neg (by omega)]; exact k3 h
      · intro h; rw [hB, if_neg (by decide)] at h; show (a'.tmps.setIfInBounds 61 _).getD 64 undef = _; rw [getD_set, if_neg (by omega)]; exact k4 h
      · intro h; rw [hB, if_neg (by decide)] at h; show (a'.tmps.setIfInBounds 61 _).getD 65 undef = _; rw [getD_set, if_neg (by omega)]; exact k5 h
      · intro h; rw [hB, if_neg (by decide)] at h; show (a'.tmps.setIfInBounds 61 _).getD 66 undef = _; rw [getD_set, if_neg (by omega)]; exact k6 h
      · intro h; rw [hB, if_neg (by decide)] at h; first | done | exact w0 h
      · intro h h'; rw [hB, if_neg (by decide)] at h h'; exact w1 h h'
      · intro h h'; rw [hB, if_neg (by decide)] at h; exact absurd h (by rw [h7]; simp)
      · intro h; rw [hB, if_neg (by decide)] at h; exact absurd (kd 8 7 (by simp [deps17]) h) (by rw [h7]; simp)
    · have h7 : L.getD 7 false = false := Bool.eq_false_iff.2 fun h => by have := u2 (u3 (u5 (u6 h))); rw [hli] at this; cases this
      have k1' := k1 (hq 1 (by simp [deps17]))
      unfold Oper.wpIn
      refine ⟨by simp [Oper.about], ?_⟩
      rw [Oper.semAt_plain F _ _ (by intro c h; cases h)]
      go_simp
      refine ⟨by simp [hL], by simp [hs], (by first | rfl | exact hdf), (fun j hj => by show (a'.tmps.setIfInBounds 62 _).getD j undef = _; rw [getD_set, if_neg (by omega)]; exact hpre j hj), ?_, ?_, ?_, ?_, ?_, ?_, ?_, dk, ?_, ?_, ?_, ?_⟩
      · intro h; rw [hB, if_neg (by decide)] at h; show (a'.tmps.setIfInBounds 62 _).getD 60 undef = _; rw [getD_set, if_neg (by omega)]; exact k0 h
      · intro h; rw [hB, if_neg (by decide)] at h; show (a'.tmps.setIfInBounds 62 _).getD 61 undef = _; rw [getD_set, if_neg (by omega)]; exact k1 h
      · intro _; show (a'.tmps.setIfInBounds 62 _).getD 62 undef = _; rw [getD_set, if_pos ⟨rfl, by omega⟩]
      · intro h; rw [hB, if_neg (by decide)] at h; show (a'.tmps.setIfInBounds 62 _).getD 63 undef = _; rw [getD_set, if_neg (by omega)]; exact k3 h
      · intro h; rw [hB, if_neg (by decide)] at h; show (a'.tmps.setIfInBounds 62 _).getD 64 undef = _; rw [getD_set, if_neg (by omega)]; exact k4 h
      · intro h; rw [hB, if_neg (by decide)] at h; show (a'.tmps.setIfInBounds 62 _).getD 65 undef = _; rw [getD_set, if_neg (by omega)]; exact k5 h
      · intro h; rw [hB, if_neg (by decide)] at h; show (a'.tmps.setIfInBounds 62 _).getD 66 undef = _; rw [getD_set, if_neg (by omega)]; exact k6 h
      · intro h; rw [hB, if_neg (by decide)] at h; first | done | exact w0 h
      · intro h h'; rw [hB, if_neg (by decide)] at h h'; exact w1 h h'
      · intro h h'; rw [hB, if_neg (by decide)] at h; exact absurd h (by rw [h7]; simp)
      · intro h; rw [hB, if_neg (by decide)] at h; exact absurd (kd 8 7 (by simp [deps17]) h) (by rw [h7]; simp)
    · have h7 : L.getD 7 false = false := Bool.eq_false_iff.2 fun h => by have := u3 (u5 (u6 h)); rw [hli] at this; cases this
      have h6n : L.getD 6 false = false := Bool.eq_false_iff.2 fun h => by have := u3 (u5 h); rw [hli] at this; cases this
      have hXW := w0 h6n
      subst hXW
      have k2' := k2 (hq 2 (by simp [deps17]))
      unfold Oper.wpIn
      refine ⟨by simp [Oper.about], ?_⟩
      rw [Oper.semAt_plain F _ _ (by intro c h; cases h)]
      go_simp
      refine ⟨by simp [hL], by simp [hs], (by first | rfl | exact hdf), (fun j hj => by show (a'.tmps.setIfInBounds 63 _).getD j undef = _; rw [getD_set, if_neg (by omega)]; exact hpre j hj), ?_, ?_, ?_, ?_, ?_, ?_, ?_, dk, ?_, ?_, ?_, ?_⟩
      · intro h; rw [hB, if_neg (by decide)] at h; show (a'.tmps.setIfInBounds 63 _).getD 60 undef = _; rw [getD_set, if_neg (by omega)]; exact k0 h
      · intro h; rw [hB, if_neg (by decide)] at h; show (a'.tmps.setIfInBounds 63 _).getD 61 undef = _; rw [getD_set, if_neg (by omega)]; exact k1 h
      · intro h; rw [hB, if_neg (by decide)] at h; show (a'.tmps.setIfInBounds 63 _).getD 62 undef = _; rw [getD_set, if_neg (by omega)]; exact k2 h
      · intro _; show (a'.tmps.setIfInBounds 63 _).getD 63 undef = _; rw [getD_set, if_pos ⟨rfl, by omega⟩]
      · intro h; rw [hB, if_neg (by decide)] at h; show (a'.tmps.setIfInBounds 63 _).getD 64 undef = _; rw [getD_set, if_neg (by omega)]; exact k4 h
      · intro h; rw [hB, if_neg (by decide)] at h; show (a'.tmps.setIfInBounds 63 _).getD 65 undef = _; rw [getD_set, if_neg (by omega)]; exact k5 h
      · intro h; rw [hB, if_neg (by decide)] at h; show (a'.tmps.setIfInBounds 63 _).getD 66 undef = _; rw [getD_set, if_neg (by omega)]; exact k6 h
      · intro h; rw [hB, if_neg (by decide)] at h; first | done | exact w0 h
      · intro h h'; rw [hB, if_neg (by decide)] at h h'; exact w1 h h'
      · intro h h'; rw [hB, if_neg (by decide)] at h; exact absurd h (by rw [h7]; simp)
      · intro h; rw [hB, if_neg (by decide)] at h; exact absurd (kd 8 7 (by simp [deps17]) h) (by rw [h7]; simp)
    · have h7 : L.getD 7 false = false := Bool.eq_false_iff.2 fun h => by have := u4 (u5 (u6 h)); rw [hli] at this; cases this
      have h6n : L.getD 6 false = false := Bool.eq_false_iff.2 fun h => by have := u4 (u5 h); rw [hli] at this; cases this
      have hXW := w0 h6n
      subst hXW
      unfold Oper.wpIn
      refine ⟨by simp [Oper.about], ?_⟩
      rw [Oper.semAt_plain F _ _ (by intro c h; cases h)]
      go_simp
      refine ⟨by simp [hL], by simp [hs], (by first | rfl | exact hdf), (fun j hj => by show (a'.tmps.setIfInBounds 64 _).getD j undef = _; rw [getD_set, if_neg (by omega)]; exact hpre j hj), ?_, ?_, ?_, ?_, ?_, ?_, ?_, dk, ?_, ?_, ?_, ?_⟩
      · intro h; rw [hB, if_neg (by decide)] at h; show (a'.tmps.setIfInBounds 64 _).getD 60 undef = _; rw [getD_set, if_neg (by omega)]; exact k0 h
      · intro h; rw [hB, if_neg (by decide)] at h; show (a'.tmps.setIfInBounds 64 _).getD 61 undef = _; rw [getD_set, if_neg (by omega)]; exact k1 h
      · intro h; rw [hB, if_neg (by decide)] at h; show (a'.tmps.setIfInBounds 64 _).getD 62 undef = _; rw [getD_set, if_neg (by omega)]; exact k2 h
      · intro h; rw [hB, if_neg (by decide)] at h; show (a'.tmps.setIfInBounds 64 _).getD 63 undef = _; rw [getD_set, if_neg (by omega)]; exact k3 h
      · intro _; show (a'.tmps.setIfInBounds 64 _).getD 64 undef = _; rw [getD_set, if_pos ⟨rfl, by omega⟩]
      · intro h; rw [hB, if_neg (by decide)] at h; show (a'.tmps.setIfInBounds 64 _).getD 65 undef = _; rw [getD_set, if_neg (by omega)]; exact k5 h
      · intro h; rw [hB, if_neg (by decide)] at h; show (a'.tmps.setIfInBounds 64 _).getD 66 undef = _; rw [getD_set, if_neg (by omega)]; exact k6 h
      · intro h; rw [hB, if_neg (by decide)] at h; first | done | exact w0 h
      · intro h h'; rw [hB, if_neg (by decide)] at h h'; exact w1 h h'
      · intro h h'; rw [hB, if_neg (by decide)] at h; exact absurd h (by rw [h7]; simp)
      · intro h; rw [hB, if_neg (by decide)] at h; exact absurd (kd 8 7 (by simp [deps17]) h) (by rw [h7]; simp)
    · have h7 : L.getD 7 false = false := Bool.eq_false_iff.2 fun h => by have := u5 (u6 h); rw [hli] at this; cases this
      have k3' := k3 (hq 3 (by simp [deps17]))
      have k4' := k4 (hq 4 (by simp [deps17]))
      rw [Array.getD_eq_getD_getElem?] at k3' k4'
      unfold Oper.wpIn
      refine ⟨by simp [Oper.about], ?_⟩
      rw [Oper.semAt_plain F _ _ (by intro c h; cases h)]
      go_simp
      refine ⟨by simp [hL], by simp [hs], (by first | rfl | exact hdf), (fun j hj => by show (a'.tmps.setIfInBounds 65 _).getD j undef = _; rw [getD_set, if_neg (by omega)]; exact hpre j hj), ?_, ?_, ?_, ?_, ?_, ?_, ?_, dk, ?_, ?_, ?_, ?_⟩
      · intro h; rw [hB, if_neg (by decide)] at h; show (a'.tmps.setIfInBounds 65 _).getD 60 undef = _; rw [getD_set, if_neg (by omega)]; exact k0 h
      · intro h; rw [hB, if_neg (by decide)] at h; show (a'.tmps.setIfInBounds 65 _).getD 61 undef = _; rw [getD_set, if_neg (by omega)]; exact k1 h
      · intro h; rw [hB, if_neg (by decide)] at h; show (a'.tmps.setIfInBounds 65 _).getD 62 undef = _; rw [getD_set, if_neg (by omega)]; exact k2 h
      · intro h; rw [hB, if_neg (by decide)] at h; show (a'.tmps.setIfInBounds 65 _).getD 63 undef = _; rw [getD_set, if_neg (by omega)]; exact k3 h
      · intro h; rw [hB, if_neg (by decide)] at h; show (a'.tmps.setIfInBounds 65 _).getD 64 undef = _; rw [getD_set, if_neg (by omega)]; exact k4 h
      · intro _; show (a'.tmps.setIfInBounds 65 _).getD 65 undef = _; rw [getD_set, if_pos ⟨rfl, by omega⟩]
      · intro h; rw [hB, if_neg (by decide)] at h; show (a'.tmps.setIfInBounds 65 _).getD 66 undef = _; rw [getD_set, if_neg (by omega)]; exact k6 h
      · intro h; rw [hB, if_neg (by decide)] at h; first | done | exact w0 h
      · intro h h'; rw [hB, if_neg (by decide)] at h h'; exact w1 h h'
      · intro h h'; rw [hB, if_neg (by decide)] at h; exact absurd h (by rw [h7]; simp)
      · intro h; rw [hB, if_neg (by decide)] at h; exact absurd (kd 8 7 (by simp [deps17]) h) (by rw [h7]; simp)
    · have h7 : L.getD 7 false = false := Bool.eq_false_iff.2 fun h => by have := u6 h; rw [hli] at this; cases this
      have hXW := w0 hli
      subst hXW
      have k5' := k5 (hq 5 (by simp [deps17]))
      rw [Array.getD_eq_getD_getElem?] at k5'
      unfold Oper.wpIn
      refine ⟨by simp [Oper.about], ?_⟩
      rw [Oper.semAt_plain F _ _ (by intro c h; cases h)]
      go_simp
      refine ⟨by simp [hL], by simp [hs], (by first | rfl | exact hdf), (fun j hj => by show (a'.tmps.setIfInBounds 66 _).getD j undef = _; rw [getD_set, if_neg (by omega)]; exact hpre j hj), ?_, ?_, ?_, ?_, ?_, ?_, ?_, dk, ?_, ?_, ?_, ?_⟩
      · intro h; rw [hB, if_neg (by decide)] at h; show (a'.tmps.setIfInBounds 66 _).getD 60 undef = _; rw [getD_set, if_neg (by omega)]; exact k0 h
      · intro h; rw [hB, if_neg (by decide)] at h; show (a'.tmps.setIfInBounds 66 _).getD 61 undef = _; rw [getD_set, if_neg (by omega)]; exact k1 h
      · intro h; rw [hB, if_neg (by decide)] at h; show (a'.tmps.setIfInBounds 66 _).getD 62 undef = _; rw [getD_set, if_neg (by omega)]; exact k2 h
      · intro h; rw [hB, if_neg (by decide)] at h; show (a'.tmps.setIfInBounds 66 _).getD 63 undef = _; rw [getD_set, if_neg (by omega)]; exact k3 h
      · intro h; rw [hB, if_neg (by decide)] at h; show (a'.tmps.setIfInBounds 66 _).getD 64 undef = _; rw [getD_set, if_neg (by omega)]; exact k4 h
      · intro h; rw [hB, if_neg (by decide)] at h; show (a'.tmps.setIfInBounds 66 _).getD 65 undef = _; rw [getD_set, if_neg (by omega)]; exact k5 h
      · intro _; show (a'.tmps.setIfInBounds 66 _).getD 66 undef = _; rw [getD_set, if_pos ⟨rfl, by omega⟩]
      · intro h; rw [hB, if_pos rfl] at h; cases h
      · intro _ _; rfl
      · intro h h'; rw [hB, if_neg (by decide)] at h; exact absurd h (by rw [h7]; simp)
      · intro h; rw [hB, if_neg (by decide)] at h; exact absurd (kd 8 7 (by simp [deps17]) h) (by rw [h7]; simp)
    · have hX := w1 (hq 6 (by simp [deps17])) hli
      subst hX
      have hs0 : a'.eval (.tmp 60) = v := k0 (hq 0 (by simp [deps17]))
      have hx0 : a'.eval (.tmp 66) = .slice (some ⟨W.heap.size, 0, none⟩) 1 1 := k6 (hq 6 (by simp [deps17]))
      obtain ⟨v', Y, hrun, r1, r2, r3⟩ := run_own (P := Tryz.prog) ((W.alloc (.cells (encM m).toArray 25)).drew) elMod base ty v k xs (show ((W.alloc (.cells (encM m).toArray 25)).drew).ownsRow _ _ _ _ _ _ from hown.alloc _) (some ⟨W.heap.size, 0, none⟩) 1 1 (encM m)
        (show Src ((W.alloc (.cells (encM m).toArray 25)).drew) 4 (some ⟨W.heap.size, 0, none⟩) 1 (encM m) from Src.lit W 4 _ (encM m).toArray 1 (by simp [encM])) (by decide) (fun u hu => encM_one [m] u (by simpa using hu)) (by unfold maxLen; omega) (by omega) (by show base ≤ (W.alloc _).heap.size; simp; omega)
      unfold Oper.wpIn
      refine ⟨by simp [Oper.about, resolve, Target.leads, Sem.run_pure], ?_⟩
      rw [Oper.semAt_plain F _ _ (by intro c h; cases h)]
      simp only [execOp, resolve, invoke, builtin, Sem.run_bind, Sem.run_pure, Result.andThen_ok, List.map_toArray, List.map_cons, List.map_nil, hs0, hx0, hrun]
      show Inv17 a W B2 b off c base k v xs m (L.setIfInBounds 7 true) (a'.put (some 67) v') Y
      refine ⟨by simp [hL], by simp [Act.put, hs], hdf, (fun j hj => by show (a'.tmps.setIfInBounds 67 _).getD j undef = _; rw [getD_set, if_neg (by omega)]; exact hpre j hj), ?_, ?_, ?_, ?_, ?_, ?_, ?_, dk, ?_, ?_, ?_, ?_⟩
      · intro h; rw [hB, if_neg (by decide)] at h; show (a'.tmps.setIfInBounds 67 _).getD 60 undef = _; rw [getD_set, if_neg (by omega)]; exact k0 h
      · intro h; rw [hB, if_neg (by decide)] at h; show (a'.tmps.setIfInBounds 67 _).getD 61 undef = _; rw [getD_set, if_neg (by omega)]; exact k1 h
      · intro h; rw [hB, if_neg (by decide)] at h; show (a'.tmps.setIfInBounds 67 _).getD 62 undef = _; rw [getD_set, if_neg (by omega)]; exact k2 h
      · intro h; rw [hB, if_neg (by decide)] at h; show (a'.tmps.setIfInBounds 67 _).getD 63 undef = _; rw [getD_set, if_neg (by omega)]; exact k3 h
      · intro h; rw [hB, if_neg (by decide)] at h; show (a'.tmps.setIfInBounds 67 _).getD 64 undef = _; rw [getD_set, if_neg (by omega)]; exact k4 h
      · intro h; rw [hB, if_neg (by decide)] at h; show (a'.tmps.setIfInBounds 67 _).getD 65 undef = _; rw [getD_set, if_neg (by omega)]; exact k5 h
      · intro h; rw [hB, if_neg (by decide)] at h; show (a'.tmps.setIfInBounds 67 _).getD 66 undef = _; rw [getD_set, if_neg (by omega)]; exact k6 h
      · intro h; rw [hB, if_neg (by decide), hq 6 (by simp [deps17])] at h; cases h
      · intro _ h; rw [hB, if_pos rfl] at h; cases h
      · intro _ _; exact ⟨v', by show (a'.tmps.setIfInBounds 67 _).getD 67 undef = _; rw [getD_set, if_pos ⟨rfl, by omega⟩], r1, r2⟩
      · intro h; rw [hB, if_neg (by decide)] at h; exact absurd (kd 8 7 (by simp [deps17]) h) (by rw [hli]; simp)
    · have h7 := hq 7 (by simp [deps17])
      obtain ⟨v', kv, hA⟩ := w7 h7 hli
      have hne : some B2 ≠ v.ownBlock := fun e => by have := (hown.lt _ e.symm).1; omega
      have hXc : X.cell? ⟨B2, 0, none⟩ = some v := hA.2.cell (show ((W.alloc _).drew).cell? ⟨B2, 0, none⟩ = some v from cell_keep_alloc (w := W) _ cV) hne
      have hXf : X.frozen? ⟨B2, 0, none⟩ = false := (World.frozen?_of_block (hA.2.block B2 (by show B2 < (W.alloc _).heap.size; simp; omega) hne)).trans
        (((((Below.refl _ _).alloc (Nat.le_refl _) _).frozen (show (⟨B2, 0, none⟩ : Addr).block < W.heap.size from by show B2 < _; omega)) : ((W.alloc _)).frozen? _ = W.frozen? _).trans fV)
      obtain ⟨g', cap', rfl⟩ := ownsRow_succ hA.1
      obtain ⟨A0, c0', rfl⟩ := hv1
      rw [Array.getD_eq_getD_getElem?] at kv
      unfold Oper.wpIn
      refine ⟨by simp [Oper.about], ?_⟩
      rw [Oper.semAt_plain F _ _ (by intro c h; cases h)]
      go_simp
      refine ⟨by simp [hL], by simp [hs], (by first | rfl | exact hdf), hpre, ?_, ?_, ?_, ?_, ?_, ?_, ?_, dk, ?_, ?_, ?_, ?_⟩
      · intro h; rw [hB, if_neg (by decide)] at h; exact k0 h
      · intro h; rw [hB, if_neg (by decide)] at h; exact k1 h
      · intro h; rw [hB, if_neg (by decide)] at h; exact k2 h
      · intro h; rw [hB, if_neg (by decide)] at h; exact k3 h
      · intro h; rw [hB, if_neg (by decide)] at h; exact k4 h
      · intro h; rw [hB, if_neg (by decide)] at h; exact k5 h
      · intro h; rw [hB, if_neg (by decide)] at h; exact k6 h
      · intro h; rw [hB, if_neg (by decide)] at h; rw [u6 h7] at h; cases h
      · intro _ h; rw [hB, if_neg (by decide), h7] at h; cases h
      · intro _ h; rw [hB, if_pos rfl] at h; cases h
      · intro _; exact ⟨_, X, hA, rfl⟩
end
end Go.Proofs.YtbbdoibmcmkmnaaGreatDoor
