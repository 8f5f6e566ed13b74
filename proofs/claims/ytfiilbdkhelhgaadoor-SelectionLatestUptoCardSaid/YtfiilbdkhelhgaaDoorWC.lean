/- Walks: versions (semver and its reference), small helpers. -/
import Derived.Test.YtfiilbdkhelhgaaDoorG1
import Derived.Deep.QuietTactic
import Derived.BigQuiet
import Derived.Deep.RegionHeld3
import Derived.Deep.DeepCutAuto
import Derived.RegionCalls
import Derived.Deep.RegionWith
import Derived.ChangeKeysEq
namespace Go.Proofs.YtfiilbdkhelhgaaDoor
open Go.RowKit

theorem bcell {W w1 : World} (hb : Below W.heap.size W w1) : (∀ b o, b < W.heap.size → w1.cell? ⟨b, o, none⟩ = W.cell? ⟨b, o, none⟩) ∧ (∀ b o, b < W.heap.size → w1.frozen? ⟨b, o, none⟩ = W.frozen? ⟨b, o, none⟩) :=
  ⟨fun b o h => hb.cell (p := ⟨b, o, none⟩) h, fun b o h => hb.frozen (p := ⟨b, o, none⟩) h⟩

theorem numbers_any (x y z : Int) (w : World) :
    Calls Tryd.prog 51 #[.agg #[.int .i64 x, .int .i64 y, .int .i64 z]] w fun e w' => e = .returned (.agg #[.int .i64 x, .int .i64 y, .int .i64 z]) ∧ BelowD w.heap.size w w' := by
  go_enter Tryd.func51, Tryd.ntmps51
  go_wp2
  exact bodyPost_ret (v := .agg #[.int .i64 x, .int .i64 y, .int .i64 z]) (by simp [results, Tryd.results51, go_sem]) rfl ⟨rfl, ((BelowD.refl _ _).alloc (Nat.le_refl _) _).alloc (by simp) _⟩

theorem one_any (a b : Int) (w : World) :
    Calls Tryd.prog 40 #[.int .i64 a, .int .i64 b] w fun e w' => e = .returned (.int .i64 (if a < b then -1 else if b < a then 1 else 0)) ∧ w = w' := by
  rcases (show (a < b ∧ ¬ b < a) ∨ (¬ a < b ∧ b < a) ∨ (¬ a < b ∧ ¬ b < a) by omega) with ⟨h1, h2⟩ | ⟨h1, h2⟩ | ⟨h1, h2⟩ <;>
  · go_enter Tryd.func40, Tryd.ntmps40
    go_wp2
    go_ret
    exact ⟨by simp [*], rfl⟩


/-- a block known whole -/
def Blk (w : World) (g : Nat) (t : TypeId) (cs : Array Value) : Prop := w.heap[g]? = some (.cells cs t (0, 0))
theorem Blk.lt {w : World} {g : Nat} {t : TypeId} {cs : Array Value} (h : Blk w g t cs) : g < w.heap.size := by
  rcases Nat.lt_or_ge g w.heap.size with hlt | hge
  · exact hlt
  · unfold Blk at h; rw [Array.getElem?_eq_none hge] at h; cases h
theorem Blk.cell {w : World} {g : Nat} {t : TypeId} {cs : Array Value} (h : Blk w g t cs) (i : Nat) : w.cell? ⟨g, i, none⟩ = cs[i]? := cell_of_row w g i cs t (0, 0) h
theorem Blk.free {w : World} {g : Nat} {t : TypeId} {cs : Array Value} (h : Blk w g t cs) (i : Nat) : w.frozen? ⟨g, i, none⟩ = false := by
  unfold Blk at h
  simp [World.frozen?, h]
theorem Blk.keep {w w' : World} {g : Nat} {t : TypeId} {cs : Array Value} (h : Blk w g t cs) (hb : Below w.heap.size w w') : Blk w' g t cs := (hb.block g h.lt).trans h
theorem Blk.new (w : World) (t : TypeId) (cs : Array Value) : Blk (w.alloc (.cells cs t)) w.heap.size t cs := heap_alloc_new w _
theorem Blk.set_ {w : World} {g : Nat} {t : TypeId} {cs : Array Value} (h : Blk w g t cs) (i : Nat) (u : Value) : Blk (w.setCell ⟨g, i, none⟩ u) g t (cs.setIfInBounds i u) := by
  unfold Blk at h ⊢
  simp [World.setCell, Array.getElem?_modify, h]
theorem Blk.far {w : World} {g : Nat} {t : TypeId} {cs : Array Value} (h : Blk w g t cs) {p : Addr} (hp : g ≠ p.block) (u : Value) : Blk (w.setCell p u) g t cs := (Below.heap_setCell w p u g hp).trans h


theorem eq_arr3 (x y z x' y' z' : Int) (w : World) :
    (Op.equalIn 10000 85 (.agg #[.int .i64 x, .int .i64 y, .int .i64 z]) (.agg #[.int .i64 x', .int .i64 y', .int .i64 z'])).run Tryd.prog w = .ok (x == x' && (y == y' && z == z')) w := by
  obtain ⟨i, hi⟩ : ∃ i, Tryd.prog.info? 3 = some i := by
    cases h : Tryd.prog.info? 3 with
    | some i => exact ⟨i, rfl⟩
    | none => exact absurd h (by have : (Tryd.prog.info? 3).isSome = true := by kernel_rfl
                                 intro h; rw [h] at this; cases this)
  have hp : ∀ (n : Int) (xs : Array Value) (off : Nat) (w : World), xs[off]? = some (.int .i64 n) → (part 3 xs off).run Tryd.prog w = .ok (.int .i64 n) w := fun n xs off w h => run_part_plain w (by kernel_rfl) h
  have hc : Tryd.prog.cellsOf 3 = 1 := by kernel_rfl
  rw [show (10000 : Nat) = 9999 + 1 from rfl, run_equalIn_array w 9999 _ _ Tryd.underlying85 hi, hc]
  simp only [List.range, List.range.loop, Op.eqItems, Sem.run_bind]
  rw [hp x _ _ _ rfl, Result.andThen_ok, hp x' _ _ _ rfl, Result.andThen_ok, show (9999 : Nat) = 9998 + 1 from rfl, run_equalIn_int _ _ _ _ _ _ _ Tryd.underlying3, Result.andThen_ok]
  cases hx : x == x'
  · simp [Sem.run_pure]
  · simp only [Bool.not_true, Bool.false_eq_true, if_false, Sem.run_bind]
    rw [hp y _ _ _ rfl, Result.andThen_ok, hp y' _ _ _ rfl, Result.andThen_ok, run_equalIn_int _ _ _ _ _ _ _ Tryd.underlying3, Result.andThen_ok]
    cases hy : y == y'
    · simp [Sem.run_pure]
    · simp only [Bool.not_true, Bool.false_eq_true, if_false, Sem.run_bind]
      rw [hp z _ _ _ rfl, Result.andThen_ok, hp z' _ _ _ rfl, Result.andThen_ok, run_equalIn_int _ _ _ _ _ _ _ Tryd.underlying3, Result.andThen_ok]
      cases hz : z == z' <;> simp [Sem.run_pure]

theorem below_drewN {B : Nat} {a w : World} (h : Below B a w) (n : Nat) : Below B a (w.drewN n) := ⟨h.os, h.tape, h.output, h.size, h.block⟩

def CmpInv (B : Nat) (W0 : World) (x y z x' y' z' : Int) (L : Array Bool) (a : Act) (W : World) : Prop :=
  ∃ (b0 b1 b2 b3 b4 b5 b6 b7 : Bool) (s5 s6 s8 s9 s10 s11 : Value) (g5 g6 : Nat), L = #[b0, b1, b2, b3, b4, b5, b6, b7] ∧
    a = ⟨#[.agg #[.int .i64 x, .int .i64 y, .int .i64 z], .agg #[.int .i64 x', .int .i64 y', .int .i64 z'], .pointer (some ⟨B, 0, none⟩), .pointer (some ⟨B + 1, 0, none⟩), .int .i64 0, s5, s6, undef, s8, s9, s10, s11,
      undef, undef, undef, undef, undef, undef, undef, undef, undef, undef, undef, undef, undef, undef, undef, undef, undef, undef, undef, undef, undef, undef, undef], []⟩ ∧
    BelowD (B + 2) W0 W ∧ (b0 = true → s8 = .agg #[.int .i64 x, .int .i64 y, .int .i64 z]) ∧ (b1 = true → s9 = .agg #[.int .i64 x, .int .i64 y, .int .i64 z]) ∧
    (b2 = true → s10 = .agg #[.int .i64 x', .int .i64 y', .int .i64 z']) ∧ (b3 = true → s11 = .agg #[.int .i64 x', .int .i64 y', .int .i64 z']) ∧
    (b4 = true → s5 = .pointer (some ⟨g5, 0, none⟩) ∧ B + 2 ≤ g5 ∧ ∃ c0 c1 c2 : Value, Blk W g5 85 #[c0, c1, c2] ∧ (b6 = true → c0 = .int .i64 x ∧ c1 = .int .i64 y ∧ c2 = .int .i64 z)) ∧
    (b5 = true → s6 = .pointer (some ⟨g6, 0, none⟩) ∧ B + 2 ≤ g6 ∧ ∃ c0 c1 c2 : Value, Blk W g6 85 #[c0, c1, c2] ∧ (b7 = true → c0 = .int .i64 x' ∧ c1 = .int .i64 y' ∧ c2 = .int .i64 z')) ∧
    (b4 = true → b5 = true → g5 ≠ g6) ∧ (b6 = true → b4 = true) ∧ (b7 = true → b5 = true)

set_option maxRecDepth 100000 in
set_option maxHeartbeats 4000000 in
theorem Compare_any (x y z x' y' z' : Int) (w : World) :
    Calls Tryd.prog 33 #[.agg #[.int .i64 x, .int .i64 y, .int .i64 z], .agg #[.int .i64 x', .int .i64 y', .int .i64 z']] w fun e w' => e = .returned (.int .i64 (vcmp x y z x' y' z')) ∧ BelowD w.heap.size w w' := by
  go_enter Tryd.func33, Tryd.ntmps33
  go_wp2
  refine wp_region_each (by kernel_rfl) (CmpInv w.heap.size ((w.alloc (.cells #[.int .i64 x, .int .i64 y, .int .i64 z] 24)).alloc (.cells #[.int .i64 x', .int .i64 y', .int .i64 z'] 24)) x y z x' y' z') ?_ ?_ ?_ (by kernel_rfl) ?_
  · rintro L a w ⟨b0, b1, b2, b3, b4, b5, b6, b7, s5, s6, s8, s9, s10, s11, g5, g6, rfl, _⟩
    rfl
  · exact ⟨false, false, false, false, false, false, false, false, undef, undef, undef, undef, undef, undef, 0, 0, rfl, rfl, (BelowD.refl _ _).drew, by simp, by simp, by simp, by simp, by simp, by simp, by simp, by simp, by simp⟩
  · rintro i o ho L a W hn hd ⟨b0, b1, b2, b3, b4, b5, b6, b7, s5, s6, s8, s9, s10, s11, g5, g6, rfl, rfl, hB, h0, h1, h2, h3, h4, h5, h45, h64, h75⟩
    have hx0 : W.cell? ⟨w.heap.size, 0, none⟩ = some (.int .i64 x) := by rw [hB.cell (p := ⟨w.heap.size, 0, none⟩) (by simp)]; simp
    have hx1 : W.cell? ⟨w.heap.size, 1, none⟩ = some (.int .i64 y) := by rw [hB.cell (p := ⟨w.heap.size, 1, none⟩) (by simp)]; simp
    have hx2 : W.cell? ⟨w.heap.size, 2, none⟩ = some (.int .i64 z) := by rw [hB.cell (p := ⟨w.heap.size, 2, none⟩) (by simp)]; simp
    have hy0 : W.cell? ⟨w.heap.size + 1, 0, none⟩ = some (.int .i64 x') := by rw [hB.cell (p := ⟨w.heap.size + 1, 0, none⟩) (by simp)]; simp
    have hy1 : W.cell? ⟨w.heap.size + 1, 1, none⟩ = some (.int .i64 y') := by rw [hB.cell (p := ⟨w.heap.size + 1, 1, none⟩) (by simp)]; simp
    have hy2 : W.cell? ⟨w.heap.size + 1, 2, none⟩ = some (.int .i64 z') := by rw [hB.cell (p := ⟨w.heap.size + 1, 2, none⟩) (by simp)]; simp
    have hBz : w.heap.size + 2 ≤ W.heap.size := by have := hB.size; simpa using this
    match i, ho with
    | 0, ho =>
      simp at ho; subst ho
      simp only [Region.wanted, if_true]
      left
      go_simp
      exact ⟨true, b1, b2, b3, b4, b5, b6, b7, _, _, _, _, _, _, g5, g6, rfl, rfl, hB, fun _ => rfl, (by first | exact h1 | exact fun _ => rfl), (by first | exact h2 | exact fun _ => rfl), (by first | exact h3 | exact fun _ => rfl), h4, h5, h45, h64, h75⟩
    | 1, ho =>
      simp at ho; subst ho
      simp [Region.binds] at hd
      subst hd
      obtain rfl := h0 rfl
      simp only [Region.wanted, if_true]
      left
      go_simp
      refine (numbers_any _ _ _ _).mono ?_
      rintro e w1 ⟨rfl, hb⟩
      refine ⟨true, true, b2, b3, b4, b5, b6, b7, _, _, _, _, _, _, g5, g6, rfl, rfl, hB.trans (hb.mono hBz), fun _ => rfl, fun _ => rfl, (by first | exact h2 | exact fun _ => rfl), (by first | exact h3 | exact fun _ => rfl), fun h => ?_, fun h => ?_, h45, h64, h75⟩
      · obtain ⟨p1, p2, c0, c1, c2, p3, p4⟩ := h4 h
        exact ⟨by first | exact p1 | rfl, p2, c0, c1, c2, p3.keep hb.toBelow, p4⟩
      · obtain ⟨p1, p2, c0, c1, c2, p3, p4⟩ := h5 h
        exact ⟨by first | exact p1 | rfl, p2, c0, c1, c2, p3.keep hb.toBelow, p4⟩
    | 2, ho =>
      simp at ho; subst ho
      simp only [Region.wanted, if_true]
      left
      go_simp
      exact ⟨b0, b1, true, b3, b4, b5, b6, b7, _, _, _, _, _, _, g5, g6, rfl, rfl, hB, (by first | exact h0 | exact fun _ => rfl), (by first | exact h1 | exact fun _ => rfl), fun _ => rfl, (by first | exact h3 | exact fun _ => rfl), h4, h5, h45, h64, h75⟩
    | 3, ho =>
      simp at ho; subst ho
      simp [Region.binds] at hd
      obtain ⟨rfl, rfl⟩ := hd
      obtain rfl := h2 rfl
      simp only [Region.wanted, if_true]
      left
      go_simp
      refine (numbers_any _ _ _ _).mono ?_
      rintro e w1 ⟨rfl, hb⟩
      refine ⟨b0, true, true, true, b4, b5, b6, b7, _, _, _, _, _, _, g5, g6, rfl, rfl, hB.trans (hb.mono hBz), (by first | exact h0 | exact fun _ => rfl), (by first | exact h1 | exact fun _ => rfl), fun _ => rfl, fun _ => rfl, fun h => ?_, fun h => ?_, h45, h64, h75⟩
      · obtain ⟨p1, p2, c0, c1, c2, p3, p4⟩ := h4 h
        exact ⟨by first | exact p1 | rfl, p2, c0, c1, c2, p3.keep hb.toBelow, p4⟩
      · obtain ⟨p1, p2, c0, c1, c2, p3, p4⟩ := h5 h
        exact ⟨by first | exact p1 | rfl, p2, c0, c1, c2, p3.keep hb.toBelow, p4⟩
    | 4, ho =>
      simp at ho; subst ho
      simp at hn
      simp only [Region.wanted, if_true]
      left
      go_simp
      have hal : ∀ o, Below W.heap.size W (W.alloc o) := fun o => (Below.refl _ _).alloc (Nat.le_refl _) _
      refine ⟨b0, b1, b2, b3, true, b5, b6, b7, _, _, _, _, _, _, W.heap.size, g6, rfl, rfl, hB.alloc hBz _, (by first | exact h0 | exact fun _ => rfl), (by first | exact h1 | exact fun _ => rfl), (by first | exact h2 | exact fun _ => rfl), (by first | exact h3 | exact fun _ => rfl), fun _ => ⟨rfl, hBz, _, _, _, Blk.new _ _ _, fun h => absurd (h64 h) (by simp [hn])⟩, fun h => ?_, fun _ h => ?_, fun _ => rfl, h75⟩
      · obtain ⟨p1, p2, c0, c1, c2, p3, p4⟩ := h5 h
        exact ⟨by first | exact p1 | rfl, p2, c0, c1, c2, p3.keep (hal _), p4⟩
      · obtain ⟨p1, p2, c0, c1, c2, p3, p4⟩ := h5 h
        have := p3.lt
        omega
    | 5, ho =>
      simp at ho; subst ho
      simp at hn
      simp only [Region.wanted, if_true]
      left
      go_simp
      have hal : ∀ o, Below W.heap.size W (W.alloc o) := fun o => (Below.refl _ _).alloc (Nat.le_refl _) _
      refine ⟨b0, b1, b2, b3, b4, true, b6, b7, _, _, _, _, _, _, g5, W.heap.size, rfl, rfl, hB.alloc hBz _, (by first | exact h0 | exact fun _ => rfl), (by first | exact h1 | exact fun _ => rfl), (by first | exact h2 | exact fun _ => rfl), (by first | exact h3 | exact fun _ => rfl), fun h => ?_, fun _ => ⟨rfl, hBz, _, _, _, Blk.new _ _ _, fun h => absurd (h75 h) (by simp [hn])⟩, fun h _ => ?_, h64, fun _ => rfl⟩
      · obtain ⟨p1, p2, c0, c1, c2, p3, p4⟩ := h4 h
        exact ⟨by first | exact p1 | rfl, p2, c0, c1, c2, p3.keep (hal _), p4⟩
      · obtain ⟨p1, p2, c0, c1, c2, p3, p4⟩ := h4 h
        have := p3.lt
        omega
    | 6, ho =>
      simp at ho; subst ho
      simp [Region.binds] at hd
      obtain ⟨e4, e1, e3, e0, _, _, e5⟩ := hd
      subst e4 e1 e3 e0 e5
      obtain rfl := h1 rfl
      obtain ⟨rfl, p2, c0, c1, c2, p3, p4⟩ := h4 rfl
      have k0 := p3.cell 0
      have k1 := p3.cell 1
      have k2 := p3.cell 2
      have f0 := p3.free 0
      have f1 := p3.free 1
      have f2 := p3.free 2
      simp at k0 k1 k2
      simp only [Region.wanted, if_true]
      left
      go_simp
      refine ⟨true, true, b2, true, true, true, true, b7, _, _, _, _, _, _, g5, g6, rfl, rfl, ((hB.setCell (p := ⟨g5, 0, none⟩) p2 _).setCell (p := ⟨g5, 1, none⟩) p2 _).setCell (p := ⟨g5, 2, none⟩) p2 _, (by first | exact h0 | exact fun _ => rfl), fun _ => rfl, (by first | exact h2 | exact fun _ => rfl), (by first | exact h3 | exact fun _ => rfl),
        fun _ => ⟨rfl, p2, _, _, _, ((p3.set_ 0 _).set_ 1 _).set_ 2 _, fun _ => ⟨rfl, rfl, rfl⟩⟩, fun h => ?_, h45, fun _ => rfl, h75⟩
      obtain ⟨q1, q2, d0, d1, d2, q3, q4⟩ := h5 h
      have hne := h45 rfl h
      exact ⟨by first | exact q1 | rfl, q2, d0, d1, d2, ((q3.far (p := ⟨g5, 0, none⟩) (Ne.symm hne) _).far (p := ⟨g5, 1, none⟩) (Ne.symm hne) _).far (p := ⟨g5, 2, none⟩) (Ne.symm hne) _, q4⟩
    | 7, ho =>
      simp at ho; subst ho
      simp [Region.binds] at hd
      obtain ⟨e5, e3, e6, e0, e1, e2, _, e4, _⟩ := hd
      subst e5 e3 e6 e0 e1 e2 e4
      obtain rfl := h3 rfl
      obtain ⟨rfl, p2, c0, c1, c2, p3, p4⟩ := h5 rfl
      have k0 := p3.cell 0
      have k1 := p3.cell 1
      have k2 := p3.cell 2
      have f0 := p3.free 0
      have f1 := p3.free 1
      have f2 := p3.free 2
      simp at k0 k1 k2
      simp only [Region.wanted, if_true]
      left
      go_simp
      refine ⟨true, true, true, true, true, true, true, true, _, _, _, _, _, _, g5, g6, rfl, rfl, ((hB.setCell (p := ⟨g6, 0, none⟩) p2 _).setCell (p := ⟨g6, 1, none⟩) p2 _).setCell (p := ⟨g6, 2, none⟩) p2 _, (by first | exact h0 | exact fun _ => rfl), (by first | exact h1 | exact fun _ => rfl), (by first | exact h2 | exact fun _ => rfl), fun _ => rfl,
        fun h => ?_, fun _ => ⟨rfl, p2, _, _, _, ((p3.set_ 0 _).set_ 1 _).set_ 2 _, fun _ => ⟨rfl, rfl, rfl⟩⟩, h45, h64, fun _ => rfl⟩
      obtain ⟨q1, q2, d0, d1, d2, q3, q4⟩ := h4 h
      have hne := h45 h rfl
      exact ⟨by first | exact q1 | rfl, q2, d0, d1, d2, ((q3.far (p := ⟨g6, 0, none⟩) hne _).far (p := ⟨g6, 1, none⟩) hne _).far (p := ⟨g6, 2, none⟩) hne _, q4⟩
    | i + 8, ho => simp at ho
  · rintro L a W hr ⟨b0, b1, b2, b3, b4, b5, b6, b7, s5, s6, s8, s9, s10, s11, g5, g6, hL, rfl, hB, h0, h1, h2, h3, h4, h5, h45, h64, h75⟩
    subst hL
    have hall : b0 = true ∧ b1 = true ∧ b2 = true ∧ b3 = true ∧ b4 = true ∧ b5 = true ∧ b6 = true ∧ b7 = true :=
      ⟨hr 0 (by decide), hr 1 (by decide), hr 2 (by decide), hr 3 (by decide), hr 4 (by decide), hr 5 (by decide), hr 6 (by decide), hr 7 (by decide)⟩
    obtain ⟨rfl, rfl, rfl, rfl, rfl, rfl, rfl, rfl⟩ := hall
    obtain ⟨rfl, p2, c0, c1, c2, p3, p4⟩ := h4 rfl
    obtain ⟨rfl, p2', c0', c1', c2', p3', p4'⟩ := h5 rfl
    obtain ⟨rfl, rfl, rfl⟩ := p4 rfl
    obtain ⟨rfl, rfl, rfl⟩ := p4' rfl
    obtain rfl := h0 rfl
    obtain rfl := h1 rfl
    obtain rfl := h2 rfl
    obtain rfl := h3 rfl
    clear h0 h1 h2 h3 h4 h5 h45 h64 h75 p4 p4' hr
    have k0 := p3.cell 0
    have k1 := p3.cell 1
    have k2 := p3.cell 2
    have k0' := p3'.cell 0
    have k1' := p3'.cell 1
    have k2' := p3'.cell 2
    simp at k0 k1 k2 k0' k1' k2'
    have hB' : BelowD w.heap.size w W := (((BelowD.refl w.heap.size w).alloc (Nat.le_refl _) _).alloc (by simp) _).trans (hB.mono (by omega))
    clear p2 p2' p3 p3' hB
    have heq := fun W => eq_arr3 x y z x' y' z' W
    have hcase : ((x == x' && (y == y' && z == z')) = true ∧ vcmp x y z x' y' z' = 0) ∨ ((x == x' && (y == y' && z == z')) = false) := by
      cases h : (x == x' && (y == y' && z == z'))
      · exact .inr rfl
      · refine .inl ⟨rfl, ?_⟩
        simp at h
        obtain ⟨rfl, rfl, rfl⟩ := h
        simp [vcmp]
    rcases hcase with ⟨hc, hv⟩ | hc
    · have HV := Lib.hid hv; clear hv
      go_wp2
      go_ret
      exact ⟨by rw [HV.out]; rfl, hB'⟩
    · have Hc := Lib.hid hc
      rw [hc] at heq
      clear hc
      go_wp2
      clear heq
      go_loopw [15] (fun i wr => (∃ q, wr = W.drewN q) ∧ (i = .int .i64 0 ∨ (i = .int .i64 1 ∧ x = x') ∨ (i = .int .i64 2 ∧ x = x' ∧ y = y'))) (fun i _ => (3 - intOf i).toNat)
      case atStart => exact ⟨⟨0, rfl⟩, .inl rfl⟩
      case round =>
        obtain ⟨⟨q, rfl⟩, hrel⟩ := hrel
        rcases hrel with rfl | ⟨rfl, rfl⟩ | ⟨rfl, rfl, rfl⟩
        · rcases (show x < x' ∨ x' < x ∨ x = x' by omega) with hx | hx | hx
          · go_wp2
            go_quiet (fail)
            go_wp2
            go_ret
            exact ⟨by simp [vcmp, hx], by (repeat apply BelowD.drewN); exact hB'⟩
          · go_wp2
            go_quiet (fail)
            go_wp2
            go_quiet (fail)
            go_wp2
            go_ret
            exact ⟨by simp [vcmp, hx]; omega, by (repeat apply BelowD.drewN); exact hB'⟩
          · subst hx
            go_wp2
            go_quiet (fail)
            go_wp2
            go_quiet (fail)
            go_wp2
            go_roundw
            case rel => exact ⟨⟨_, rfl⟩, by simp⟩
            case measure => simp [intOf]
        · rcases (show y < y' ∨ y' < y ∨ y = y' by omega) with hx | hx | hx
          · go_wp2
            go_quiet (fail)
            go_wp2
            go_ret
            exact ⟨by simp [vcmp, hx], by (repeat apply BelowD.drewN); exact hB'⟩
          · go_wp2
            go_quiet (fail)
            go_wp2
            go_quiet (fail)
            go_wp2
            go_ret
            exact ⟨by simp [vcmp, hx]; omega, by (repeat apply BelowD.drewN); exact hB'⟩
          · subst hx
            go_wp2
            go_quiet (fail)
            go_wp2
            go_quiet (fail)
            go_wp2
            go_roundw
            case rel => exact ⟨⟨_, rfl⟩, by simp⟩
            case measure => simp [intOf]
        · rcases (show z < z' ∨ z' < z ∨ z = z' by omega) with hx | hx | hx
          · go_wp2
            go_quiet (fail)
            go_wp2
            go_ret
            exact ⟨by simp [vcmp, hx], by (repeat apply BelowD.drewN); exact hB'⟩
          · go_wp2
            go_quiet (fail)
            go_wp2
            go_quiet (fail)
            go_wp2
            go_ret
            exact ⟨by simp [vcmp, hx]; omega, by (repeat apply BelowD.drewN); exact hB'⟩
          · exact absurd Hc.out (by simp [hx])
end Go.Proofs.YtfiilbdkhelhgaaDoor
