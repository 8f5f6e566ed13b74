/- What the claim needs of: Reg PB WC. -/
import Derived.Test.YthcgihgajdjfoaaGreatDoorV1
import Derived.Orders
import GoSem.Step
import Derived.Deep.QuietTactic
import Derived.BigQuiet
import Derived.Deep.RegionHeld3
import Derived.Deep.DeepCutAuto
import Derived.RegionCalls
import Derived.Deep.RegionWith
import Derived.ChangeKeysEq
namespace Go.Proofs.YthcgihgajdjfoaaGreatDoor
open Go.RowKit
section
variable {P : Program} {ops : Array Oper} {Q : Exit → Act → World → Prop}
def unlisted (ops : Array Oper) (L : Array Bool) : Nat := ((List.range ops.size).filter fun i => !L.getD i true).length
theorem filter_le {p q : Nat → Bool} (h : ∀ j, p j = true → q j = true) : ∀ l : List Nat, (l.filter p).length ≤ (l.filter q).length
 | [] => by simp
 | x :: l => by
   have ih := filter_le h l
   cases hp : p x
   ·cases hq : q x
    ·simpa [List.filter_cons, hp, hq] using ih
    ·simp only [List.filter_cons, hp, hq, if_true, List.length_cons, Bool.false_eq_true, if_false]; omega
   ·simp only [List.filter_cons, hp, h x hp, if_true, List.length_cons]; omega
theorem filter_lt {p q : Nat → Bool} {i : Nat} (h : ∀ j, p j = true → q j = true) (hp : p i = false) (hq : q i = true) : ∀ l : List Nat, i ∈ l → (l.filter p).length < (l.filter q).length
 | [], h => by cases h
 | x :: l, hm => by
   have hle := filter_le h l
   by_cases hx : i = x
   ·subst hx
    simp only [List.filter_cons, hp, hq, if_true, List.length_cons, Bool.false_eq_true, if_false]; omega
   ·have hm' : i ∈ l := by
     rcases List.mem_cons.1 hm with e | e
     ·exact absurd e hx
     ·exact e
    have ih := filter_lt h hp hq l hm'
    cases hp' : p x
    ·cases hq' : q x
     ·simpa [List.filter_cons, hp', hq'] using ih
     ·simp only [List.filter_cons, hp', hq', if_true, List.length_cons, Bool.false_eq_true, if_false]; omega
    ·simp only [List.filter_cons, hp', h x hp', if_true, List.length_cons]; omega
theorem unlisted_set {L : Array Bool} {i : Nat} (hi : i < ops.size) (hL : L.size = ops.size) (hf : L.getD i true = false) : unlisted ops (L.setIfInBounds i true) < unlisted ops L := by
 refine filter_lt (i := i) (fun j h => ?_) ?_ (by simp [hf]) _ (List.mem_range.2 hi)
 ·by_cases hj : i = j
  ·subst hj
   simp [hL, hi] at h
  ·simpa [Array.getElem?_setIfInBounds_ne hj] using h
 ·simp [hL, hi]
theorem wpAny_inv {md : Region.Mode} (Inv : Array Bool → Act → World → Prop) (hsz : ∀ L a w, Inv L a w → L.size = ops.size)
  (step : ∀ L a w i, i ∈ Region.ready md ops L → Inv L a w → wpOp P ops Q i (Inv (L.setIfInBounds i true)) a w)
  (fin : ∀ L a w, Region.ready md ops L = [] → Inv L a w → Q .normal a w) :
  ∀ fuel L a w, unlisted ops L ≤ fuel → Inv L a w → wpAny P md ops Q fuel L a w := by
 intro fuel
 induction fuel with
 | zero =>
   intro L a w hu hI
   have hr : Region.ready md ops L = [] := by
    unfold unlisted at hu
    have h0 : ((List.range ops.size).filter fun i => !L.getD i true) = [] := List.eq_nil_of_length_eq_zero (by omega)
    unfold Region.ready
    rw [List.filter_eq_nil_iff] at h0 ⊢
    intro i hi hc
    have := h0 i hi
    simp only [Bool.and_eq_true] at hc
    exact this hc.1
   exact ⟨hr, fin L a w hr hI⟩
 | succ fuel ih =>
   intro L a w hu hI
   refine ⟨fun hr => fin L a w hr hI, fun i hi => ?_⟩
   have hi' := hi
   unfold Region.ready at hi'
   obtain ⟨h1, h2⟩ := List.mem_filter.1 hi'
   simp only [Bool.and_eq_true, Bool.not_eq_true'] at h2
   refine wpOp_mono (fun a' w' h => ?_) (step L a w i hi hI)
   refine ih _ _ _ ?_ h
   have := unlisted_set (ops := ops) (List.mem_range.1 h1) (hsz L a w hI) h2.1
   omega
theorem wp_region_inv {id : Nat} {a : Act} {w : World} (hm : P.follows .mixedOrders = true) (Inv : Array Bool → Act → World → Prop) (hsz : ∀ L a w, Inv L a w → L.size = ops.size)
  (h0 : Inv (Array.replicate ops.size false) a w.drew)
  (step : ∀ L a w i, i ∈ Region.ready .any ops L → Inv L a w → wpOp P ops Q i (Inv (L.setIfInBounds i true)) a w)
  (fin : ∀ L a w, Region.ready .any ops L = [] → Inv L a w → Q .normal a w) : (Code.region id ops true).wp P Q a w :=
 wp_region_any hm (wpAny_inv Inv hsz step fin _ _ _ _ (by
  unfold unlisted
  exact Nat.le_trans (List.length_filter_le _ _) (by simp)) h0)
def wfOps (ops : Array Oper) : Bool := (List.range ops.size).all fun i => ((ops[i]?).map fun o => o.after.all fun e => !Region.binds .any e || decide (e.on < i)).getD false
theorem all_listed {L : Array Bool} (hwf : wfOps ops = true) (hr : Region.ready .any ops L = []) (hL : L.size = ops.size) : ∀ i, i < ops.size → L.getD i false = true := by
 intro i
 induction i using Nat.strongRecOn with
 | _ i ih =>
   intro hi
   cases hb : L.getD i false with
   | true => rfl
   | false =>
     exfalso
     have hb' : L.getD i true = false := by
      have : i < L.size := by omega
      simpa [this] using hb
     unfold Region.ready at hr
     rw [List.filter_eq_nil_iff] at hr
     refine hr i (List.mem_range.2 hi) ?_
     have ho : ops[i]? = some ops[i] := Array.getElem?_eq_getElem hi
     unfold wfOps at hwf
     have h1 := (List.all_eq_true.1 hwf) i (List.mem_range.2 hi)
     rw [ho] at h1 ⊢
     simp only [Option.map_some, Option.getD_some, hb', Bool.not_false, Bool.true_and] at h1 ⊢
     rw [Array.all_eq_true'] at h1 ⊢
     intro e he
     have h2 := h1 e he
     simp only [Bool.or_eq_true, Bool.not_eq_true', decide_eq_true_eq] at h2 ⊢
     rcases h2 with h2 | h2
     ·exact .inl h2
     ·exact .inr (ih e.on h2 (by omega))
theorem wp_region_each {id : Nat} {a : Act} {w : World} (hm : P.follows .mixedOrders = true) (Inv : Array Bool → Act → World → Prop) (hsz : ∀ L a w, Inv L a w → L.size = ops.size)
  (h0 : Inv (Array.replicate ops.size false) a w.drew)
  (step : ∀ i o, ops[i]? = some o → ∀ L a w, L.getD i true = false → (o.after.all fun e => !Region.binds .any e || L.getD e.on false) = true → Inv L a w →
   if Region.wanted o (yielded ops a.tmps) then o.wp P a w (Inv (L.setIfInBounds i true)) Q ∨ (o.asks P a w ∧ LetsOut Q) else Inv (L.setIfInBounds i true) (a.put o.dst undef) w)
  (hwf : wfOps ops = true) (fin : ∀ L a w, (∀ i, i < ops.size → L.getD i false = true) → Inv L a w → Q .normal a w) : (Code.region id ops true).wp P Q a w :=
 wp_region_inv hm Inv hsz h0 (fun L a w i hi hI => by
  unfold Region.ready at hi
  obtain ⟨h1, h2⟩ := List.mem_filter.1 hi
  simp only [Bool.and_eq_true, Bool.not_eq_true'] at h2
  have hlt := List.mem_range.1 h1
  have ho : ops[i]? = some ops[i] := Array.getElem?_eq_getElem hlt
  have h3 := h2.2
  rw [ho] at h3
  simp only [Option.map_some, Option.getD_some] at h3
  unfold wpOp
  rw [ho]
  exact step i _ ho L a w h2.1 h3 hI) (fun L a w hr hI => fin L a w (all_listed hwf hr (hsz L a w hI)) hI)
end
end Go.Proofs.YthcgihgajdjfoaaGreatDoor
namespace Go.Proofs.YthcgihgajdjfoaaGreatDoor
open Go (Op.bytesLess)
theorem bl_irrefl : ∀ a : List UInt8, Op.bytesLess a a = false
 | [] => rfl
 | c :: a => by simp [Op.bytesLess, bl_irrefl a]
theorem bl_trans : ∀ a b c : List UInt8, Op.bytesLess a b = true → Op.bytesLess b c = true → Op.bytesLess a c = true
 | _, [], _, h, _ => by simp [Op.bytesLess] at h
 | _, _ :: _, [], _, h => by simp [Op.bytesLess] at h
 | [], _ :: _, _ :: _, _, _ => rfl
 | x :: a, y :: b, z :: c, h1, h2 => by
   simp only [Op.bytesLess, Bool.or_eq_true, decide_eq_true_eq, Bool.and_eq_true, beq_iff_eq] at *
   rcases h1 with h1 | ⟨rfl, h1⟩
   ·rcases h2 with h2 | ⟨rfl, h2⟩
    ·exact .inl (UInt8.lt_trans h1 h2)
    ·exact .inl h1
   ·rcases h2 with h2 | ⟨rfl, h2⟩
    ·exact .inl h2
    ·exact .inr ⟨rfl, bl_trans a b c h1 h2⟩
theorem bl_total : ∀ a b : List UInt8, Op.bytesLess a b = false → Op.bytesLess b a = false → a = b
 | [], [], _, _ => rfl
 | [], _ :: _, h, _ => by simp [Op.bytesLess] at h
 | _ :: _, [], _, h => by simp [Op.bytesLess] at h
 | x :: a, y :: b, h1, h2 => by
   simp only [Op.bytesLess, Bool.or_eq_false_iff, decide_eq_false_iff_not, Bool.and_eq_false_iff, beq_eq_false_iff_ne] at *
   have hxy : x = y := by
    rcases h1 with ⟨h1, _⟩
    rcases h2 with ⟨h2, _⟩
    exact UInt8.le_antisymm (UInt8.not_lt.1 h2) (UInt8.not_lt.1 h1)
   subst hxy
   rcases h1.2 with h | h
   ·exact absurd rfl h
   ·rcases h2.2 with h' | h'
    ·exact absurd rfl h'
    ·rw [bl_total a b h h']
theorem bl_asymm (a b : List UInt8) (h : Op.bytesLess a b = true) : Op.bytesLess b a = false := by
 cases hb : Op.bytesLess b a
 ·rfl
 ·have := bl_trans a b a h hb
  rw [bl_irrefl] at this
  cases this
def scmp (a b : List UInt8) : Int := if Op.bytesLess a b = true then -1 else if a = b then 0 else 1
def vcmp (x y z x' y' z' : Int) : Int := if x < x' then -1 else if x' < x then 1 else if y < y' then -1 else if y' < y then 1 else if z < z' then -1 else if z' < z then 1 else 0
abbrev Mod := List UInt8 × Int × Int × Int
def mcmp (m n : Mod) : Int := if Op.bytesLess m.1 n.1 = true then -1 else if m.1 = n.1 then vcmp m.2.1 m.2.2.1 m.2.2.2 n.2.1 n.2.2.1 n.2.2.2 else 1
def vok (x y z : Int) : Bool := decide (0 ≤ x ∧ x ≤ 9999) && decide (0 ≤ y ∧ y ≤ 9999) && decide (0 ≤ z ∧ z ≤ 9999)
theorem mcmp_refl (m : Mod) : mcmp m m = 0 := by simp [mcmp, bl_irrefl, vcmp]
theorem mcmp_eq (m n : Mod) : mcmp m n = 0 ↔ m = n := by
 constructor
 ·intro h
  unfold mcmp at h
  split at h
  ·omega
  ·split at h
   ·rename_i h2
    unfold vcmp at h
    obtain ⟨p, x, y, z⟩ := m
    obtain ⟨p', x', y', z'⟩ := n
    simp only at *
    subst h2
    have : x = x' ∧ y = y' ∧ z = z' := by
     (try (split at h <;> try omega))
     (try (split at h <;> try omega))
     (try (split at h <;> try omega))
     (try (split at h <;> try omega))
     (try (split at h <;> try omega))
     (try (split at h <;> try omega))
    obtain ⟨rfl, rfl, rfl⟩ := this
    rfl
   ·omega
 ·rintro rfl; exact mcmp_refl m
theorem vcmp_neg (x y z x' y' z' : Int) : vcmp x y z x' y' z' < 0 ↔ x < x' ∨ x = x' ∧ (y < y' ∨ y = y' ∧ z < z') := by
 unfold vcmp; repeat' split
 all_goals omega
end Go.Proofs.YthcgihgajdjfoaaGreatDoor
namespace Go.Proofs.YthcgihgajdjfoaaGreatDoor
open Go.RowKit
theorem numbers_any (x y z : Int) (w : World) :
  Calls Tryz.prog 120 #[.agg #[.int .i64 x, .int .i64 y, .int .i64 z]] w fun e w' => e = .returned (.agg #[.int .i64 x, .int .i64 y, .int .i64 z]) ∧ BelowD w.heap.size w w' := by
 go_enter Tryz.func120, Tryz.ntmps120
 go_wp2
 exact bodyPost_ret (v := .agg #[.int .i64 x, .int .i64 y, .int .i64 z]) (by simp [results, Tryz.results120, go_sem]) rfl ⟨rfl, ((BelowD.refl _ _).alloc (Nat.le_refl _) _).alloc (by simp) _⟩
theorem number_any (n : Int) (w : World) :
  Calls Tryz.prog 145 #[.int .i64 n] w fun e w' => e = .returned (.bool (decide (0 ≤ n ∧ n ≤ 9999))) ∧ w = w' := by
 by_cases h1 : 0 ≤ n <;> by_cases h2 : n ≤ 9999 <;>
 ·go_enter Tryz.func145, Tryz.ntmps145
  go_wp2
  go_ret
  exact ⟨by simp [h1, h2], rfl⟩
theorem one_any (a b : Int) (w : World) :
  Calls Tryz.prog 99 #[.int .i64 a, .int .i64 b] w fun e w' => e = .returned (.int .i64 (if a < b then -1 else if b < a then 1 else 0)) ∧ w = w' := by
 rcases (show (a < b ∧ ¬ b < a) ∨ (¬ a < b ∧ b < a) ∨ (¬ a < b ∧ ¬ b < a) by omega) with ⟨h1, h2⟩ | ⟨h1, h2⟩ | ⟨h1, h2⟩ <;>
 ·go_enter Tryz.func99, Tryz.ntmps99
  go_wp2
  go_ret
  exact ⟨by simp [*], rfl⟩
theorem refValid_any (x y z : Int) (w : World) :
  Calls Tryz.prog 117 #[.agg #[.int .i64 x, .int .i64 y, .int .i64 z]] w fun e w' => e = .returned (.bool (vok x y z)) ∧ Below w.heap.size w w' := by
 by_cases h1 : 0 ≤ x ∧ x ≤ 9999 <;> by_cases h2 : 0 ≤ y ∧ y ≤ 9999 <;>
 ·go_enter Tryz.func117, Tryz.ntmps117
  go_wp2_with (go_at_call 145; refine (number_any _ _).mono ?_; rintro e w' ⟨rfl, rfl⟩)
  go_ret
  exact ⟨by simp [vok, h1, h2], (Below.refl _ _).alloc (Nat.le_refl _) _⟩
def Blk (w : World) (g : Nat) (t : TypeId) (cs : Array Value) : Prop := w.heap[g]? = some (.cells cs t (0, 0))
theorem Blk.lt {w : World} {g : Nat} {t : TypeId} {cs : Array Value} (h : Blk w g t cs) : g < w.heap.size := by
 rcases Nat.lt_or_ge g w.heap.size with hlt | hge
 ·exact hlt
 ·unfold Blk at h; rw [Array.getElem?_eq_none hge] at h; cases h
theorem Blk.cell {w : World} {g : Nat} {t : TypeId} {cs : Array Value} (h : Blk w g t cs) (i : Nat) : w.cell? ⟨g, i, none⟩ = cs[i]? := cell_of_row w g i cs t (0, 0) h
theorem Blk.free {w : World} {g : Nat} {t : TypeId} {cs : Array Value} (h : Blk w g t cs) (i : Nat) : w.frozen? ⟨g, i, none⟩ = false := by
 unfold Blk at h
 simp [World.frozen?, h]
theorem Blk.keep {w w' : World} {g : Nat} {t : TypeId} {cs : Array Value} (h : Blk w g t cs) (hb : Below w.heap.size w w') : Blk w' g t cs := (hb.block g h.lt).trans h
theorem Blk.new (w : World) (t : TypeId) (cs : Array Value) : Blk (w.alloc (.cells cs t)) w.heap.size t cs := heap_alloc_new w _
theorem Blk.set_ {w : World} {g : Nat} {t : TypeId} {cs : Array Value} (h : Blk w g t cs) (i : Nat) (u : Value) : Blk (w.setCell ⟨g, i, none⟩ u) g t (cs.setIfInBounds i u) := by
 unfold Blk at h ⊢
 simp [World.setCell, Array.getElem?_modify, h]
theorem Blk.far {w : World} {g : Nat} {t : TypeId} {cs : Array Value} (h : Blk w g t cs) {p : Addr} (hp : g ≠ p.block) (u : Value) : Blk (w.setCell p u) g t cs := (Below.heap_setCell w p u g hp).trans h
theorem eq_arr3 (x y z x' y' z' : Int) (w : World) :
  (Op.equalIn 10000 167 (.agg #[.int .i64 x, .int .i64 y, .int .i64 z]) (.agg #[.int .i64 x', .int .i64 y', .int .i64 z'])).run Tryz.prog w = .ok (x == x' && (y == y' && z == z')) w := by
 obtain ⟨i, hi⟩ : ∃ i, Tryz.prog.info? 3 = some i := by
  cases h : Tryz.prog.info? 3 with
  | some i => exact ⟨i, rfl⟩
  | none => exact absurd h (by have : (Tryz.prog.info? 3).isSome = true := by kernel_rfl
                               intro h; rw [h] at this; cases this)
 have hp : ∀ (n : Int) (xs : Array Value) (off : Nat) (w : World), xs[off]? = some (.int .i64 n) → (part 3 xs off).run Tryz.prog w = .ok (.int .i64 n) w := fun n xs off w h => run_part_plain w (by kernel_rfl) h
 have hc : Tryz.prog.cellsOf 3 = 1 := by kernel_rfl
 rw [show (10000 : Nat) = 9999 + 1 from rfl, run_equalIn_array w 9999 _ _ Tryz.underlying167 hi, hc]
 simp only [List.range, List.range.loop, Op.eqItems, Sem.run_bind]
 rw [hp x _ _ _ rfl, Result.andThen_ok, hp x' _ _ _ rfl, Result.andThen_ok, show (9999 : Nat) = 9998 + 1 from rfl, run_equalIn_int _ _ _ _ _ _ _ Tryz.underlying3, Result.andThen_ok]
 cases hx : x == x'
 ·simp [Sem.run_pure]
 ·simp only [Bool.not_true, Bool.false_eq_true, if_false, Sem.run_bind]
  rw [hp y _ _ _ rfl, Result.andThen_ok, hp y' _ _ _ rfl, Result.andThen_ok, run_equalIn_int _ _ _ _ _ _ _ Tryz.underlying3, Result.andThen_ok]
  cases hy : y == y'
  ·simp [Sem.run_pure]
  ·simp only [Bool.not_true, Bool.false_eq_true, if_false, Sem.run_bind]
   rw [hp z _ _ _ rfl, Result.andThen_ok, hp z' _ _ _ rfl, Result.andThen_ok, run_equalIn_int _ _ _ _ _ _ _ Tryz.underlying3, Result.andThen_ok]
   cases hz : z == z' <;> simp [Sem.run_pure]
theorem below_drewN {B : Nat} {a w : World} (h : Below B a w) (n : Nat) : Below B a (w.drewN n) := ⟨h.os, h.tape, h.output, h.size, h.block⟩
def CmpInv (B : Nat) (W0 : World) (x y z x' y' z' : Int) (L : Array Bool) (a : Act) (W : World) : Prop :=
 ∃ (b0 b1 b2 b3 b4 b5 b6 b7 : Bool) (s5 s6 s8 s9 s10 s11 : Value) (g5 g6 : Nat), L = #[b0, b1, b2, b3, b4, b5, b6, b7] ∧
   a = ⟨#[.agg #[.int .i64 x, .int .i64 y, .int .i64 z], .agg #[.int .i64 x', .int .i64 y', .int .i64 z'], .pointer (some ⟨B, 0, none⟩), .pointer (some ⟨B + 1, 0, none⟩), .int .i64 0, s5, s6, undef, s8, s9, s10, s11,
     undef, undef, undef, undef, undef, undef, undef, undef, undef, undef, undef, undef, undef, undef, undef, undef, undef, undef, undef, undef, undef, undef, undef], []⟩ ∧
   BelowD (B + 2) W0 W ∧ (b0 = true → s8 = .agg #[.int .i64 x, .int .i64 y, .int .i64 z]) ∧ (b1 = true → s9 = .agg #[.int .i64 x, .int .i64 y, .int .i64 z]) ∧
   (b2 = true → s10 = .agg #[.int .i64 x', .int .i64 y', .int .i64 z']) ∧ (b3 = true → s11 = .agg #[.int .i64 x', .int .i64 y', .int .i64 z']) ∧
   (b4 = true → s5 = .pointer (some ⟨g5, 0, none⟩) ∧ B + 2 ≤ g5 ∧ ∃ c0 c1 c2 : Value, Blk W g5 167 #[c0, c1, c2] ∧ (b6 = true → c0 = .int .i64 x ∧ c1 = .int .i64 y ∧ c2 = .int .i64 z)) ∧
   (b5 = true → s6 = .pointer (some ⟨g6, 0, none⟩) ∧ B + 2 ≤ g6 ∧ ∃ c0 c1 c2 : Value, Blk W g6 167 #[c0, c1, c2] ∧ (b7 = true → c0 = .int .i64 x' ∧ c1 = .int .i64 y' ∧ c2 = .int .i64 z')) ∧
   (b4 = true → b5 = true → g5 ≠ g6) ∧ (b6 = true → b4 = true) ∧ (b7 = true → b5 = true)
set_option maxRecDepth 100000 in
set_option maxHeartbeats 4000000 in
theorem Compare_any (x y z x' y' z' : Int) (w : World) :
  Calls Tryz.prog 87 #[.agg #[.int .i64 x, .int .i64 y, .int .i64 z], .agg #[.int .i64 x', .int .i64 y', .int .i64 z']] w fun e w' => e = .returned (.int .i64 (vcmp x y z x' y' z')) ∧ BelowD w.heap.size w w' := by
 go_enter Tryz.func87, Tryz.ntmps87
 go_wp2
 refine wp_region_each (by kernel_rfl) (CmpInv w.heap.size ((w.alloc (.cells #[.int .i64 x, .int .i64 y, .int .i64 z] 24)).alloc (.cells #[.int .i64 x', .int .i64 y', .int .i64 z'] 24)) x y z x' y' z') ?_ ?_ ?_ (by kernel_rfl) ?_
 ·rintro L a w ⟨b0, b1, b2, b3, b4, b5, b6, b7, s5, s6, s8, s9, s10, s11, g5, g6, rfl, _⟩
  rfl
 ·exact ⟨false, false, false, false, false, false, false, false, undef, undef, undef, undef, undef, undef, 0, 0, rfl, rfl, (BelowD.refl _ _).drew, by simp, by simp, by simp, by simp, by simp, by simp, by simp, by simp, by simp⟩
 ·rintro i o ho L a W hn hd ⟨b0, b1, b2, b3, b4, b5, b6, b7, s5, s6, s8, s9, s10, s11, g5, g6, rfl, rfl, hB, h0, h1, h2, h3, h4, h5, h45, h64, h75⟩
  have hx0 : W.cell? ⟨w.heap.size, 0, none⟩ = some (.int .i64 x) := by rw [hB.cell (p := ⟨w.heap.size, 0, none⟩) (by simp)]; simp
  have hx1 : W.cell? ⟨w.heap.size, 1, none⟩ = some (.int .i64 y) := by rw [hB.cell (p := ⟨w.heap.size, 1, none⟩) (by simp)]; simp
  have hx2 : W.cell? ⟨w.heap.size, 2, none⟩ = some (.int .i64 z) := by rw [hB.cell (p := ⟨w.heap.size, 2, none⟩) (by simp)]; simp
  have hy0 : W.cell? ⟨w.heap.size + 1, 0, none⟩ = some (.int .i64 x') := by rw [hB.cell (p := ⟨w.heap.size + 1, 0, none⟩) (by simp)]; simp
  have hy1 : W.cell? ⟨w.heap.size + 1, 1, none⟩ = some (.int .i64 y') := by rw [hB.cell (p := ⟨w.heap.size + 1, 1, none⟩) (by simp)]; simp
  have hy2 : W.cell? ⟨w.heap.size + 1, 2, none⟩ = some (.int .i64 z') := by rw [hB.cell (p := ⟨w.heap.size + 1, 2, none⟩) (by simp)]; simp
  have hBz : w.heap.size + 2 ≤ W.heap.size := by have := hB.size; simpa using this
  match i, ho with
  | 0, ho =>
    simp at ho; subst ho
    simp only [Region.wanted, if_true]
    left
    go_simp
    exact ⟨true, b1, b2, b3, b4, b5, b6, b7, _, _, _, _, _, _, g5, g6, rfl, rfl, hB, fun _ => rfl, (by first | exact h1 | exact fun _ => rfl), (by first | exact h2 | exact fun _ => rfl), (by first | exact h3 | exact fun _ => rfl), h4, h5, h45, h64, h75⟩
  | 1, ho =>
    simp at ho; subst ho
    simp [Region.binds] at hd
    subst hd
    obtain rfl := h0 rfl
    simp only [Region.wanted, if_true]
    left
    go_simp
    refine (numbers_any _ _ _ _).mono ?_
    rintro e w1 ⟨rfl, hb⟩
    refine ⟨true, true, b2, b3, b4, b5, b6, b7, _, _, _, _, _, _, g5, g6, rfl, rfl, hB.trans (hb.mono hBz), fun _ => rfl, fun _ => rfl, (by first | exact h2 | exact fun _ => rfl), (by first | exact h3 | exact fun _ => rfl), fun h => ?_, fun h => ?_, h45, h64, h75⟩
    ·obtain ⟨p1, p2, c0, c1, c2, p3, p4⟩ := h4 h
     exact ⟨by first | exact p1 | rfl, p2, c0, c1, c2, p3.keep hb.toBelow, p4⟩
    ·obtain ⟨p1, p2, c0, c1, c2, p3, p4⟩ := h5 h
     exact ⟨by first | exact p1 | rfl, p2, c0, c1, c2, p3.keep hb.toBelow, p4⟩
  | 2, ho =>
    simp at ho; subst ho
    simp only [Region.wanted, if_true]
    left
    go_simp
    exact ⟨b0, b1, true, b3, b4, b5, b6, b7, _, _, _, _, _, _, g5, g6, rfl, rfl, hB, (by first | exact h0 | exact fun _ => rfl), (by first | exact h1 | exact fun _ => rfl), fun _ => rfl, (by first | exact h3 | exact fun _ => rfl), h4, h5, h45, h64, h75⟩
  | 3, ho =>
    simp at ho; subst ho
    simp [Region.binds] at hd
    obtain ⟨rfl, rfl⟩ := hd
    obtain rfl := h2 rfl
    simp only [Region.wanted, if_true]
    left
    go_simp
    refine (numbers_any _ _ _ _).mono ?_
    rintro e w1 ⟨rfl, hb⟩
    refine ⟨b0, true, true, true, b4, b5, b6, b7, _, _, _, _, _, _, g5, g6, rfl, rfl, hB.trans (hb.mono hBz), (by first | exact h0 | exact fun _ => rfl), (by first | exact h1 | exact fun _ => rfl), fun _ => rfl, fun _ => rfl, fun h => ?_, fun h => ?_, h45, h64, h75⟩
    ·obtain ⟨p1, p2, c0, c1, c2, p3, p4⟩ := h4 h
     exact ⟨by first | exact p1 | rfl, p2, c0, c1, c2, p3.keep hb.toBelow, p4⟩
    ·obtain ⟨p1, p2, c0, c1, c2, p3, p4⟩ := h5 h
     exact ⟨by first | exact p1 | rfl, p2, c0, c1, c2, p3.keep hb.toBelow, p4⟩
  | 4, ho =>
    simp at ho; subst ho
    simp at hn
    simp only [Region.wanted, if_true]
    left
    go_simp
    have hal : ∀ o, Below W.heap.size W (W.alloc o) := fun o => (Below.refl _ _).alloc (Nat.le_refl _) _
    refine ⟨b0, b1, b2, b3, true, b5, b6, b7, _, _, _, _, _, _, W.heap.size, g6, rfl, rfl, hB.alloc hBz _, (by first | exact h0 | exact fun _ => rfl), (by first | exact h1 | exact fun _ => rfl), (by first | exact h2 | exact fun _ => rfl), (by first | exact h3 | exact fun _ => rfl), fun _ => ⟨rfl, hBz, _, _, _, Blk.new _ _ _, fun h => absurd (h64 h) (by simp [hn])⟩, fun h => ?_, fun _ h => ?_, fun _ => rfl, h75⟩
    ·obtain ⟨p1, p2, c0, c1, c2, p3, p4⟩ := h5 h
     exact ⟨by first | exact p1 | rfl, p2, c0, c1, c2, p3.keep (hal _), p4⟩
    ·obtain ⟨p1, p2, c0, c1, c2, p3, p4⟩ := h5 h
     have := p3.lt
     omega
  | 5, ho =>
    simp at ho; subst ho
    simp at hn
    simp only [Region.wanted, if_true]
    left
    go_simp
    have hal : ∀ o, Below W.heap.size W (W.alloc o) := fun o => (Below.refl _ _).alloc (Nat.le_refl _) _
    refine ⟨b0, b1, b2, b3, b4, true, b6, b7, _, _, _, _, _, _, g5, W.heap.size, rfl, rfl, hB.alloc hBz _, (by first | exact h0 | exact fun _ => rfl), (by first | exact h1 | exact fun _ => rfl), (by first | exact h2 | exact fun _ => rfl), (by first | exact h3 | exact fun _ => rfl), fun h => ?_, fun _ => ⟨rfl, hBz, _, _, _, Blk.new _ _ _, fun h => absurd (h75 h) (by simp [hn])⟩, fun h _ => ?_, h64, fun _ => rfl⟩
    ·obtain ⟨p1, p2, c0, c1, c2, p3, p4⟩ := h4 h
     exact ⟨by first | exact p1 | rfl, p2, c0, c1, c2, p3.keep (hal _), p4⟩
    ·obtain ⟨p1, p2, c0, c1, c2, p3, p4⟩ := h4 h
     have := p3.lt
     omega
  | 6, ho =>
    simp at ho; subst ho
    simp [Region.binds] at hd
    obtain ⟨e4, e1, e3, e0, _, _, e5⟩ := hd
    subst e4 e1 e3 e0 e5
    obtain rfl := h1 rfl
    obtain ⟨rfl, p2, c0, c1, c2, p3, p4⟩ := h4 rfl
    have k0 := p3.cell 0
    have k1 := p3.cell 1
    have k2 := p3.cell 2
    have f0 := p3.free 0
    have f1 := p3.free 1
    have f2 := p3.free 2
    simp at k0 k1 k2
    simp only [Region.wanted, if_true]
    left
    go_simp
    refine ⟨true, true, b2, true, true, true, true, b7, _, _, _, _, _, _, g5, g6, rfl, rfl, ((hB.setCell (p := ⟨g5, 0, none⟩) p2 _).setCell (p := ⟨g5, 1, none⟩) p2 _).setCell (p := ⟨g5, 2, none⟩) p2 _, (by first | exact h0 | exact fun _ => rfl), fun _ => rfl, (by first | exact h2 | exact fun _ => rfl), (by first | exact h3 | exact fun _ => rfl),
     fun _ => ⟨rfl, p2, _, _, _, ((p3.set_ 0 _).set_ 1 _).set_ 2 _, fun _ => ⟨rfl, rfl, rfl⟩⟩, fun h => ?_, h45, fun _ => rfl, h75⟩
    obtain ⟨q1, q2, d0, d1, d2, q3, q4⟩ := h5 h
    have hne := h45 rfl h
    exact ⟨by first | exact q1 | rfl, q2, d0, d1, d2, ((q3.far (p := ⟨g5, 0, none⟩) (Ne.symm hne) _).far (p := ⟨g5, 1, none⟩) (Ne.symm hne) _).far (p := ⟨g5, 2, none⟩) (Ne.symm hne) _, q4⟩
  | 7, ho =>
    simp at ho; subst ho
    simp [Region.binds] at hd
    obtain ⟨e5, e3, e6, e0, e1, e2, _, e4, _⟩ := hd
    subst e5 e3 e6 e0 e1 e2 e4
    obtain rfl := h3 rfl
    obtain ⟨rfl, p2, c0, c1, c2, p3, p4⟩ := h5 rfl
    have k0 := p3.cell 0
    have k1 := p3.cell 1
    have k2 := p3.cell 2
    have f0 := p3.free 0
    have f1 := p3.free 1
    have f2 := p3.free 2
    simp at k0 k1 k2
    simp only [Region.wanted, if_true]
    left
    go_simp
    refine ⟨true, true, true, true, true, true, true, true, _, _, _, _, _, _, g5, g6, rfl, rfl, ((hB.setCell (p := ⟨g6, 0, none⟩) p2 _).setCell (p := ⟨g6, 1, none⟩) p2 _).setCell (p := ⟨g6, 2, none⟩) p2 _, (by first | exact h0 | exact fun _ => rfl), (by first | exact h1 | exact fun _ => rfl), (by first | exact h2 | exact fun _ => rfl), fun _ => rfl,
     fun h => ?_, fun _ => ⟨rfl, p2, _, _, _, ((p3.set_ 0 _).set_ 1 _).set_ 2 _, fun _ => ⟨rfl, rfl, rfl⟩⟩, h45, h64, fun _ => rfl⟩
    obtain ⟨q1, q2, d0, d1, d2, q3, q4⟩ := h4 h
    have hne := h45 h rfl
    exact ⟨by first | exact q1 | rfl, q2, d0, d1, d2, ((q3.far (p := ⟨g6, 0, none⟩) hne _).far (p := ⟨g6, 1, none⟩) hne _).far (p := ⟨g6, 2, none⟩) hne _, q4⟩
  | i + 8, ho => simp at ho
 ·rintro L a W hr ⟨b0, b1, b2, b3, b4, b5, b6, b7, s5, s6, s8, s9, s10, s11, g5, g6, hL, rfl, hB, h0, h1, h2, h3, h4, h5, h45, h64, h75⟩
  subst hL
  have hall : b0 = true ∧ b1 = true ∧ b2 = true ∧ b3 = true ∧ b4 = true ∧ b5 = true ∧ b6 = true ∧ b7 = true :=
   ⟨hr 0 (by decide), hr 1 (by decide), hr 2 (by decide), hr 3 (by decide), hr 4 (by decide), hr 5 (by decide), hr 6 (by decide), hr 7 (by decide)⟩
  obtain ⟨rfl, rfl, rfl, rfl, rfl, rfl, rfl, rfl⟩ := hall
  obtain ⟨rfl, p2, c0, c1, c2, p3, p4⟩ := h4 rfl
  obtain ⟨rfl, p2', c0', c1', c2', p3', p4'⟩ := h5 rfl
  obtain ⟨rfl, rfl, rfl⟩ := p4 rfl
  obtain ⟨rfl, rfl, rfl⟩ := p4' rfl
  obtain rfl := h0 rfl
  obtain rfl := h1 rfl
  obtain rfl := h2 rfl
  obtain rfl := h3 rfl
  clear h0 h1 h2 h3 h4 h5 h45 h64 h75 p4 p4' hr
  have k0 := p3.cell 0
  have k1 := p3.cell 1
  have k2 := p3.cell 2
  have k0' := p3'.cell 0
  have k1' := p3'.cell 1
  have k2' := p3'.cell 2
  simp at k0 k1 k2 k0' k1' k2'
  have hB' : BelowD w.heap.size w W := (((BelowD.refl w.heap.size w).alloc (Nat.le_refl _) _).alloc (by simp) _).trans (hB.mono (by omega))
  clear p2 p2' p3 p3' hB
  have heq := fun W => eq_arr3 x y z x' y' z' W
  have hcase : ((x == x' && (y == y' && z == z')) = true ∧ vcmp x y z x' y' z' = 0) ∨ ((x == x' && (y == y' && z == z')) = false) := by
   cases h : (x == x' && (y == y' && z == z'))
   ·exact .inr rfl
   ·refine .inl ⟨rfl, ?_⟩
    simp at h
    obtain ⟨rfl, rfl, rfl⟩ := h
    simp [vcmp]
  rcases hcase with ⟨hc, hv⟩ | hc
  ·have HV := Lib.hid hv; clear hv
   go_wp2
   go_ret
   exact ⟨by rw [HV.out]; rfl, hB'⟩
  ·have Hc := Lib.hid hc
   rw [hc] at heq
   clear hc
   go_wp2
   clear heq
   go_loopw [15] (fun i wr => (∃ q, wr = W.drewN q) ∧ (i = .int .i64 0 ∨ (i = .int .i64 1 ∧ x = x') ∨ (i = .int .i64 2 ∧ x = x' ∧ y = y'))) (fun i _ => (3 - intOf i).toNat)
   case atStart => exact ⟨⟨0, rfl⟩, .inl rfl⟩
   case round =>
    obtain ⟨⟨q, rfl⟩, hrel⟩ := hrel
    rcases hrel with rfl | ⟨rfl, rfl⟩ | ⟨rfl, rfl, rfl⟩
    ·rcases (show x < x' ∨ x' < x ∨ x = x' by omega) with hx | hx | hx
     ·go_wp2
      go_quiet (fail)
      go_wp2
      go_ret
      exact ⟨by simp [vcmp, hx], by (repeat apply BelowD.drewN); exact hB'⟩
     ·go_wp2
      go_quiet (fail)
      go_wp2
      go_quiet (fail)
      go_wp2
      go_ret
      exact ⟨by simp [vcmp, hx]; omega, by (repeat apply BelowD.drewN); exact hB'⟩
     ·subst hx
      go_wp2
      go_quiet (fail)
      go_wp2
      go_quiet (fail)
      go_wp2
      go_roundw
      case rel => exact ⟨⟨_, rfl⟩, by simp⟩
      case measure => simp [intOf]
    ·rcases (show y < y' ∨ y' < y ∨ y = y' by omega) with hx | hx | hx
     ·go_wp2
      go_quiet (fail)
      go_wp2
      go_ret
      exact ⟨by simp [vcmp, hx], by (repeat apply BelowD.drewN); exact hB'⟩
     ·go_wp2
      go_quiet (fail)
      go_wp2
      go_quiet (fail)
      go_wp2
      go_ret
      exact ⟨by simp [vcmp, hx]; omega, by (repeat apply BelowD.drewN); exact hB'⟩
     ·subst hx
      go_wp2
      go_quiet (fail)
      go_wp2
      go_quiet (fail)
      go_wp2
      go_roundw
      case rel => exact ⟨⟨_, rfl⟩, by simp⟩
      case measure => simp [intOf]
    ·rcases (show z < z' ∨ z' < z ∨ z = z' by omega) with hx | hx | hx
     ·go_wp2
      go_quiet (fail)
      go_wp2
      go_ret
      exact ⟨by simp [vcmp, hx], by (repeat apply BelowD.drewN); exact hB'⟩
     ·go_wp2
      go_quiet (fail)
      go_wp2
      go_quiet (fail)
      go_wp2
      go_ret
      exact ⟨by simp [vcmp, hx]; omega, by (repeat apply BelowD.drewN); exact hB'⟩
     ·exact absurd Hc.out (by simp [hx])
end Go.Proofs.YthcgihgajdjfoaaGreatDoor
