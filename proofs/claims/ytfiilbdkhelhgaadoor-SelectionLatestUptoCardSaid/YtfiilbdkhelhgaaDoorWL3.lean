/- Walk: the chapter's example. -/
import Derived.Test.YtfiilbdkhelhgaaDoorPE1
namespace Go.Proofs.YtfiilbdkhelhgaaDoor
open Go.RowKit Go.Sort

def manZ : Array Value := #[.string ⟨#[]⟩, .int .i64 0, .int .i64 0, .int .i64 0, .slice none 0 0]
theorem ptr_inj {g g' n : Nat} (h : Value.pointer (some ⟨g, n, none⟩) = .pointer (some ⟨g', n, none⟩)) : g = g' := by
  injection h with h
  injection h with h
  injection h
theorem sl_lt {α : Type} {w : World} {B k : Nat} {enc : α → List Value} {A : Option Addr} {l : List α} (h : Sl w B k enc A l) (hl : l ≠ []) (a : Addr) (ha : A = some a) : a.block < B := by
  rcases h with h | ⟨b, off, e, hb, _⟩
  · exact absurd h hl
  · have := Option.some.inj (ha.symm.trans e)
    rw [this]; exact hb
theorem sl_set5 {α : Type} {W : World} {k g : Nat} {enc : α → List Value} {A : Option Addr} {l : List α} (h : Sl W W.heap.size k enc A l) (hf : ∀ a, A = some a → a.block ≠ g) (v0 v1 v2 v3 v4 : Value) :
    Sl (((((W.setCell ⟨g, 0, none⟩ v0).setCell ⟨g, 1, none⟩ v1).setCell ⟨g, 2, none⟩ v2).setCell ⟨g, 3, none⟩ v3).setCell ⟨g, 4, none⟩ v4) (((((W.setCell ⟨g, 0, none⟩ v0).setCell ⟨g, 1, none⟩ v1).setCell ⟨g, 2, none⟩ v2).setCell ⟨g, 3, none⟩ v3).setCell ⟨g, 4, none⟩ v4).heap.size k enc A l := by
  have hsz : ∀ (W : World) p u, (W.setCell p u).heap.size = W.heap.size := fun W p u => by simp [World.setCell]
  simp only [hsz]
  exact ((((h.setCell _ _ (.inr hf)).setCell _ _ (.inr hf)).setCell _ _ (.inr hf)).setCell _ _ (.inr hf)).setCell _ _ (.inr hf)
theorem ex_man {W : World} {g : Nat} {A : Option Addr} {n c : Nat} (h : Blk W g 29 #[.string ⟨#[109]⟩, .int .i64 1, .int .i64 0, .int .i64 0, .slice A n c]) : W.cell? ⟨g, 0, none⟩ = some (.string ⟨#[109]⟩) ∧ W.cell? ⟨g, 1, none⟩ = some (.int .i64 1) ∧ W.cell? ⟨g, 2, none⟩ = some (.int .i64 0) ∧ W.cell? ⟨g, 3, none⟩ = some (.int .i64 0) ∧ W.cell? ⟨g, 4, none⟩ = some (.slice A n c) := ⟨h.cell 0, h.cell 1, h.cell 2, h.cell 3, h.cell 4⟩
def ExInv4 (z : Nat) (w0 : World) (v4 : Value) (t0 t1 t2 t3 t4 t5 t6 t9 t10 t11 t12 t13 t14 t15 t16 t17 t18 t19 t20 t21 t22 t23 t24 t25 t33 t34 t35 t36 t37 t38 t39 t40 t41 t42 t43 t44 t45 t46 t47 t48 t49 t50 t51 t52 t53 t54 t55 t56 t57 t58 t59 t60 t61 t62 t63 t64 t65 : Value) (L : Array Bool) (a : Act) (W : World) : Prop :=
  ∃ (b0 b1 b2 b3 b4 b5 b6 b7 b8 b9 : Bool) (s7 s8 s26 s27 s28 s29 s30 s31 s32 : Value), L = #[b0, b1, b2, b3, b4, b5, b6, b7, b8, b9] ∧ a = ⟨#[t0, t1, t2, t3, t4, t5, t6, s7, s8, t9, t10, t11, t12, t13, t14, t15, t16, t17, t18, t19, t20, t21, t22, t23, t24, t25, s26, s27, s28, s29, s30, s31, s32, t33, t34, t35, t36, t37, t38, t39, t40, t41, t42, t43, t44, t45, t46, t47, t48, t49, t50, t51, t52, t53, t54, t55, t56, t57, t58, t59, t60, t61, t62, t63, t64, t65], []⟩ ∧ Below z w0 W ∧ (b0 = true → s27 = t1) ∧ (b1 = true → s28 = .agg #[.string ⟨#[109]⟩, .int .i64 1, .int .i64 0, .int .i64 0, v4]) ∧ (b2 = true → s29 = .agg #[.string ⟨#[97]⟩, .int .i64 1, .int .i64 1, .int .i64 0]) ∧ (b3 = true → ∃ (A : Option Addr) (c : Nat), s30 = .tuple #[.agg #[.string ⟨#[109]⟩, .int .i64 1, .int .i64 0, .int .i64 0, .slice A 1 c], .int .i64 0] ∧ Sl W W.heap.size 4 encM A [modP [97] 1] ∧ (b7 = true → ∀ g, s7 = .pointer (some ⟨g, 0, none⟩) → ∀ a, A = some a → a.block ≠ g)) ∧ (b4 = true → ∃ (A : Option Addr) (c : Nat), s26 = .tuple #[.agg #[.string ⟨#[109]⟩, .int .i64 1, .int .i64 0, .int .i64 0, .slice A 1 c], .int .i64 0] ∧ Sl W W.heap.size 4 encM A [modP [97] 1] ∧ (b7 = true → ∀ g, s7 = .pointer (some ⟨g, 0, none⟩) → ∀ a, A = some a → a.block ≠ g)) ∧ (b5 = true → ∃ (A : Option Addr) (c : Nat), s31 = .agg #[.string ⟨#[109]⟩, .int .i64 1, .int .i64 0, .int .i64 0, .slice A 1 c] ∧ Sl W W.heap.size 4 encM A [modP [97] 1] ∧ (b7 = true → ∀ g, s7 = .pointer (some ⟨g, 0, none⟩) → ∀ a, A = some a → a.block ≠ g)) ∧ (b6 = true → s32 = .int .i64 0) ∧ (b7 = true → ∃ g c0 c1 c2 c3 c4, s7 = .pointer (some ⟨g, 0, none⟩) ∧ z ≤ g ∧ Blk W g 29 #[c0, c1, c2, c3, c4]) ∧ (b8 = true → b7 = true ∧ ∃ (g : Nat) (A : Option Addr) (c : Nat), s7 = .pointer (some ⟨g, 0, none⟩) ∧ z ≤ g ∧ Blk W g 29 #[.string ⟨#[109]⟩, .int .i64 1, .int .i64 0, .int .i64 0, .slice A 1 c] ∧ Sl W W.heap.size 4 encM A [modP [97] 1]) ∧ (b9 = true → s8 = .int .i64 0)
def ExInv6 (z : Nat) (w0 : World) (g7 : Nat) (A7 : Option Addr) (c7 : Nat) (t1 t2 t3 t4 t5 t6 t7 t8 t9 t10 t11 t12 t13 t14 t15 t16 t17 t18 t19 t20 t21 t22 t23 t24 t25 t26 t27 t28 t29 t30 t31 t32 t33 t34 t35 t36 t37 t38 t39 t40 t41 t42 t43 t44 t45 t46 t47 t48 t49 t50 : Value) (L : Array Bool) (a : Act) (W : World) : Prop :=
  ∃ (b0 b1 b2 b3 b4 b5 b6 b7 b8 b9 b10 b11 b12 b13 b14 b15 : Bool) (s0 s51 s52 s53 s54 s55 s56 s57 s58 s59 s60 s61 s62 s63 s64 s65 : Value), L = #[b0, b1, b2, b3, b4, b5, b6, b7, b8, b9, b10, b11, b12, b13, b14, b15] ∧ a = ⟨#[s0, t1, t2, t3, t4, t5, t6, t7, t8, t9, t10, t11, t12, t13, t14, t15, t16, t17, t18, t19, t20, t21, t22, t23, t24, t25, t26, t27, t28, t29, t30, t31, t32, t33, t34, t35, t36, t37, t38, t39, t40, t41, t42, t43, t44, t45, t46, t47, t48, t49, t50, s51, s52, s53, s54, s55, s56, s57, s58, s59, s60, s61, s62, s63, s64, s65], []⟩ ∧ Below z w0 W ∧ (b0 = true → s51 = .bool true) ∧ (b1 = true → s52 = .bool true) ∧ (b2 = true → s53 = t5) ∧ (b3 = true → s54 = .agg #[.string ⟨#[98]⟩, .int .i64 1, .int .i64 0, .int .i64 0]) ∧ (b4 = true → s55 = .agg #[.string ⟨#[97]⟩, .int .i64 1, .int .i64 2, .int .i64 0]) ∧ (b5 = true → ∃ g, s56 = .slice (some ⟨g, 0, none⟩) 2 2 ∧ Sl W W.heap.size 4 encM (some ⟨g, 0, none⟩) [modP [98] 0, modP [97] 2]) ∧ (b6 = true → s57 = .bool true) ∧ (b7 = true → s58 = .bool true) ∧ (b8 = true → s59 = .bool true) ∧ (b9 = true → s60 = .pointer (some ⟨g7, 4, none⟩)) ∧ (b10 = true → s61 = .slice A7 1 c7) ∧ (b11 = true → s62 = .agg #[.string ⟨#[97]⟩, .int .i64 1, .int .i64 1, .int .i64 0]) ∧ (b12 = true → ∃ g, s63 = .slice (some ⟨g, 0, none⟩) 1 1 ∧ Sl W W.heap.size 4 encM (some ⟨g, 0, none⟩) [modP [97] 1]) ∧ (b13 = true → s64 = .bool true) ∧ (b14 = true → s65 = .bool true) ∧ (b15 = true → s0 = .bool true)

set_option maxRecDepth 100000 in
set_option maxHeartbeats 4000000 in
theorem example_any (w : World) (hG : Glob w) : Calls Tryd.prog 9 #[] w fun e w' => e = .returned (.bool true) ∧ Below w.heap.size w w' := by
  have HG := Lib.hid hG
  clear hG
  go_enter Tryd.func9, Tryd.ntmps9
  go_wp2_with fail
  refine (registry_any _).mono ?_
  rintro e w1 ⟨Y, A, c, y0, rfl, hR, h1, h2, hY, h0, hb1⟩
  obtain ⟨rm, A0, c0, l0⟩ := y0
  simp only at h1 h2
  subst h1 h2
  have hYl : Y.length = 3 := by have := congrArg List.length hR; simpa [regW, exR] using this
  have cB := Lib.hid (show ∀ W, Below w1.heap.size w1 W → Calls Tryd.prog 10 #[.slice A 3 c, .agg #[.string ⟨#[109]⟩, .int .i64 1, .int .i64 0, .int .i64 0, .slice A0 2 c0]] W fun e w' => ∃ A c, e = .returned (.tuple #[.slice A 3 c, .int .i64 0]) ∧ Sl w' w'.heap.size 4 encM A [exRoot, modP [97] 2, modP [98] 0] ∧ Below W.heap.size W w' from fun W hW => by
    have h := BuildList_any A c Y (exRoot, A0, c0, exL) W (hY.step hW) ((h0.keep hW).more hW.size) ((HG.out.keep hb1).keep hW)
    rw [hYl] at h
    simp only at h
    rw [hR, ex_b] at h
    exact h.mono fun e w' ⟨A, c, he, _, hS, hb⟩ => ⟨A, c, he, hS, hb⟩)
  have cR := Lib.hid (show ∀ W, Below w1.heap.size w1 W → Calls Tryd.prog 16 #[.slice A 3 c, .agg #[.string ⟨#[109]⟩, .int .i64 1, .int .i64 0, .int .i64 0, .slice A0 2 c0], .string ⟨#[97]⟩] W fun e w' => ∃ A c, e = .returned (.tuple #[.slice A 2 c, .int .i64 0]) ∧ Sl w' w'.heap.size 4 encM A [modP [98] 0, modP [97] 2] ∧ Below W.heap.size W w' from fun W hW => by
    have h := Reason_any A c Y (exRoot, A0, c0, exL) [97] W (hY.step hW) ((h0.keep hW).more hW.size) ((HG.out.keep hb1).keep hW)
    rw [hYl] at h
    simp only at h
    rw [hR, ex_r] at h
    exact h.mono fun e w' ⟨A, c, he, _, hS, hb⟩ => ⟨A, c, he, hS, hb⟩)
  have cD := Lib.hid (show ∀ W, Below w1.heap.size w1 W → Calls Tryd.prog 13 #[.slice A 3 c, .agg #[.string ⟨#[109]⟩, .int .i64 1, .int .i64 0, .int .i64 0, .slice A0 2 c0], .agg #[.string ⟨#[97]⟩, .int .i64 1, .int .i64 1, .int .i64 0]] W fun e w' => ∃ A c, e = .returned (.tuple #[.agg #[.string ⟨#[109]⟩, .int .i64 1, .int .i64 0, .int .i64 0, .slice A 1 c], .int .i64 0]) ∧ Sl w' w'.heap.size 4 encM A [modP [97] 1] ∧ (∀ a, A = some a → W.heap.size ≤ a.block) ∧ Below W.heap.size W w' from fun W hW => by
    have h := Downgrade_any A c Y (exRoot, A0, c0, exL) (modP [97] 1) W (hY.step hW) ((h0.keep hW).more hW.size) (okB_ex (by simp) (by decide)) ((HG.out.keep hb1).keep hW)
    rw [hYl] at h
    simp only at h
    rw [hR, ex_d] at h
    exact h.mono fun e w' ⟨A, c, he, hS, hF, hb⟩ => ⟨A, c, he, hS, hF.resolve_left (by simp), hb⟩)
  rw [hYl]
  simp only [exRoot, exL, modP, List.length_cons, List.length_nil]
  have HB1 := Lib.hid (show Below w.heap.size w w1 from hb1)
  have HA1 := Lib.hid (show Below w1.heap.size w1 (w1.alloc (.cells #[.string ⟨#[109]⟩, .int .i64 1, .int .i64 0, .int .i64 0, .slice A0 2 c0] 29)) from (Below.refl _ _).alloc (Nat.le_refl _) _)
  have Q1 := Lib.hid (Blk.new w1 29 #[.string ⟨#[109]⟩, .int .i64 1, .int .i64 0, .int .i64 0, .slice A0 2 c0])
  clear hR hY h0 hYl hb1
  go_wp2_with fail
  refine (cB.out _ HA1.out).mono ?_
  rintro e w2 ⟨A2, c2, rfl, hS2, hb2⟩
  have HB2 := Lib.hid (HA1.out.trans (hb2.mono HA1.out.size))
  have Q2 := Lib.hid (Q1.out.keep hb2)
  have HS2 := Lib.hid hS2
  obtain ⟨r0, r1, r2, r3, r4⟩ := ex_man Q2.out
  clear hb2 hS2
  go_wp2_with fail
  refine (cR.out _ HB2.out).mono ?_
  rintro e w3 ⟨A3, c3, rfl, hS3, hb3⟩
  have HB3 := Lib.hid (HB2.out.trans (hb3.mono HB2.out.size))
  have Q3 := Lib.hid (Q2.out.keep hb3)
  have HS2b := Lib.hid ((HS2.out.below hb3).more hb3.size)
  have HS3 := Lib.hid hS3
  clear r0 r1 r2 r3 r4 hb3 hS3
  obtain ⟨r0, r1, r2, r3, r4⟩ := ex_man Q3.out
  have hG2 : w1.heap.size < w3.heap.size := Q3.out.lt
  go_upto_region 4 with fail
  apply wp_region_each (by kernel_rfl) (ExInv4 w3.heap.size w3 (.slice A0 2 c0) _ _ _ _ _ _ _ _ _ _ _ _ _ _ _ _ _ _ _ _ _ _ _ _ _ _ _ _ _ _ _ _ _ _ _ _ _ _ _ _ _ _ _ _ _ _ _ _ _ _ _ _ _ _ _ _ _) ?hsz ?h0 ?step (by kernel_rfl) ?fin
  case h0 =>
    exact ⟨false, false, false, false, false, false, false, false, false, false, _, _, _, _, _, _, _, _, _, rfl, rfl, (Below.refl _ _).drew, fun h => absurd h (by decide), fun h => absurd h (by decide), fun h => absurd h (by decide), fun h => absurd h (by decide), fun h => absurd h (by decide), fun h => absurd h (by decide), fun h => absurd h (by decide), fun h => absurd h (by decide), fun h => absurd h (by decide), fun h => absurd h (by decide)⟩
  case hsz =>
    rintro L a w ⟨b0, b1, b2, b3, b4, b5, b6, b7, b8, b9, s7, s8, s26, s27, s28, s29, s30, s31, s32, rfl, _⟩
    rfl
  case step =>
    rintro i o ho L a W hn hd ⟨b0, b1, b2, b3, b4, b5, b6, b7, b8, b9, s7, s8, s26, s27, s28, s29, s30, s31, s32, rfl, rfl, hB, h0, h1, h2, h3, h4, h5, h6, h7, h8, h9⟩
    have hBz := hB.size
    match i, ho with
    | 0, ho =>
      simp at ho; subst ho
      simp only [Region.wanted, if_true]
      left
      go_simp
      exact ⟨true, b1, b2, b3, b4, b5, b6, b7, b8, b9, _, _, _, _, _, _, _, _, _, rfl, rfl, hB, fun _ => rfl, (by first | exact h1 | exact fun _ => rfl), (by first | exact h2 | exact fun _ => rfl), (by first | exact h3 | exact fun _ => rfl), (by first | exact h4 | exact fun _ => rfl), (by first | exact h5 | exact fun _ => rfl), (by first | exact h6 | exact fun _ => rfl), (by first | exact h7 | exact fun _ => rfl), (by first | exact h8 | exact fun _ => rfl), (by first | exact h9 | exact fun _ => rfl)⟩
    | 1, ho =>
      simp at ho; subst ho
      have hx0 := hB.cell (p := ⟨w1.heap.size, 0, none⟩) hG2
      have hx1 := hB.cell (p := ⟨w1.heap.size, 1, none⟩) hG2
      have hx2 := hB.cell (p := ⟨w1.heap.size, 2, none⟩) hG2
      have hx3 := hB.cell (p := ⟨w1.heap.size, 3, none⟩) hG2
      have hx4 := hB.cell (p := ⟨w1.heap.size, 4, none⟩) hG2
      rw [r0] at hx0
      rw [r1] at hx1
      rw [r2] at hx2
      rw [r3] at hx3
      rw [r4] at hx4
      simp only [Region.wanted, if_true]
      left
      go_simp
      exact ⟨b0, true, b2, b3, b4, b5, b6, b7, b8, b9, _, _, _, _, _, _, _, _, _, rfl, rfl, hB, (by first | exact h0 | exact fun _ => rfl), fun _ => rfl, (by first | exact h2 | exact fun _ => rfl), (by first | exact h3 | exact fun _ => rfl), (by first | exact h4 | exact fun _ => rfl), (by first | exact h5 | exact fun _ => rfl), (by first | exact h6 | exact fun _ => rfl), (by first | exact h7 | exact fun _ => rfl), (by first | exact h8 | exact fun _ => rfl), (by first | exact h9 | exact fun _ => rfl)⟩
    | 2, ho =>
      simp at ho; subst ho
      simp only [Region.wanted, if_true]
      left
      go_simp
      refine (mod_any _ _ _).mono ?_
      rintro e W2 ⟨rfl, hb2⟩
      exact ⟨b0, b1, true, b3, b4, b5, b6, b7, b8, b9, _, _, _, _, _, _, _, _, _, rfl, rfl, hB.trans ((hb2).mono hBz), (by first | exact h0 | exact fun _ => rfl), (by first | exact h1 | exact fun _ => rfl), fun _ => rfl, (by first | exact fun hh => (match (h3 hh) with | ⟨A, c, e, h1, h2⟩ => ⟨A, c, e, (h1.below hb2).more (hb2).size, h2⟩) | exact fun _ => rfl), (by first | exact fun hh => (match (h4 hh) with | ⟨A, c, e, h1, h2⟩ => ⟨A, c, e, (h1.below hb2).more (hb2).size, h2⟩) | exact fun _ => rfl), (by first | exact fun hh => (match (h5 hh) with | ⟨A, c, e, h1, h2⟩ => ⟨A, c, e, (h1.below hb2).more (hb2).size, h2⟩) | exact fun _ => rfl), (by first | exact h6 | exact fun _ => rfl), (by first | exact fun hh => (match (h7 hh) with | ⟨g, c0, c1, c2, c3, c4, e, h1, h2⟩ => ⟨g, c0, c1, c2, c3, c4, e, h1, h2.keep hb2⟩) | exact fun _ => rfl), (by first | exact fun hh => (match (h8 hh) with | ⟨q, g, A, c, e, hz, h1, h2⟩ => ⟨q, g, A, c, e, hz, h1.keep hb2, (h2.below hb2).more (hb2).size⟩) | exact fun _ => rfl), (by first | exact h9 | exact fun _ => rfl)⟩
    | 3, ho =>
      simp at ho; subst ho
      have e0 : b0 = true := by simp [Region.binds] at hd; simp [hd]
      have e1 : b1 = true := by simp [Region.binds] at hd; simp [hd]
      have e2 : b2 = true := by simp [Region.binds] at hd; simp [hd]
      subst e0
      subst e1
      subst e2
      obtain rfl := h0 rfl
      obtain rfl := h1 rfl
      obtain rfl := h2 rfl
      simp only [Region.wanted, if_true]
      left
      go_simp
      refine (cD.out W (HB3.out.trans (hB.mono HB3.out.size)) ).mono ?_
      rintro e W2 ⟨A, c, rfl, hS, hF, hb2⟩
      have hF1 := hF
      exact ⟨true, true, true, true, b4, b5, b6, b7, b8, b9, _, _, _, _, _, _, _, _, _, rfl, rfl, hB.trans ((hb2).mono hBz), (by first | exact h0 | exact fun _ => rfl), (by first | exact h1 | exact fun _ => rfl), (by first | exact h2 | exact fun _ => rfl), fun _ => ⟨A, c, rfl, hS, fun hb7 g hg a ha => by have h7 := h7 hb7; obtain ⟨g7, c0, c1, c2, c3, c4, e7, _, h8⟩ := h7; have h9 := h8.lt; have h10 := hF1 a ha; have h11 := ptr_inj (e7.symm.trans hg); omega⟩, (by first | exact fun hh => (match (h4 hh) with | ⟨A, c, e, h1, h2⟩ => ⟨A, c, e, (h1.below hb2).more (hb2).size, h2⟩) | exact fun _ => rfl), (by first | exact fun hh => (match (h5 hh) with | ⟨A, c, e, h1, h2⟩ => ⟨A, c, e, (h1.below hb2).more (hb2).size, h2⟩) | exact fun _ => rfl), (by first | exact h6 | exact fun _ => rfl), (by first | exact fun hh => (match (h7 hh) with | ⟨g, c0, c1, c2, c3, c4, e, h1, h2⟩ => ⟨g, c0, c1, c2, c3, c4, e, h1, h2.keep hb2⟩) | exact fun _ => rfl), (by first | exact fun hh => (match (h8 hh) with | ⟨q, g, A, c, e, hz, h1, h2⟩ => ⟨q, g, A, c, e, hz, h1.keep hb2, (h2.below hb2).more (hb2).size⟩) | exact fun _ => rfl), (by first | exact h9 | exact fun _ => rfl)⟩
    | 4, ho =>
      simp at ho; subst ho
      have e3 : b3 = true := by simp [Region.binds] at hd; simp [hd]
      subst e3
      obtain ⟨A, c, rfl, hS, hF⟩ := h3 rfl
      simp only [Region.wanted, if_true]
      left
      go_simp
      exact ⟨b0, b1, b2, true, true, b5, b6, b7, b8, b9, _, _, _, _, _, _, _, _, _, rfl, rfl, hB, (by first | exact h0 | exact fun _ => rfl), (by first | exact h1 | exact fun _ => rfl), (by first | exact h2 | exact fun _ => rfl), (by first | exact h3 | exact fun _ => rfl), fun _ => ⟨A, c, rfl, hS, hF⟩, (by first | exact h5 | exact fun _ => rfl), (by first | exact h6 | exact fun _ => rfl), (by first | exact h7 | exact fun _ => rfl), (by first | exact h8 | exact fun _ => rfl), (by first | exact h9 | exact fun _ => rfl)⟩
    | 5, ho =>
      simp at ho; subst ho
      have e4 : b4 = true := by simp [Region.binds] at hd; simp [hd]
      subst e4
      obtain ⟨A, c, rfl, hS, hF⟩ := h4 rfl
      simp only [Region.wanted, if_true]
      left
      go_simp
      exact ⟨b0, b1, b2, b3, true, true, b6, b7, b8, b9, _, _, _, _, _, _, _, _, _, rfl, rfl, hB, (by first | exact h0 | exact fun _ => rfl), (by first | exact h1 | exact fun _ => rfl), (by first | exact h2 | exact fun _ => rfl), (by first | exact h3 | exact fun _ => rfl), (by first | exact h4 | exact fun _ => rfl), fun _ => ⟨A, c, rfl, hS, hF⟩, (by first | exact h6 | exact fun _ => rfl), (by first | exact h7 | exact fun _ => rfl), (by first | exact h8 | exact fun _ => rfl), (by first | exact h9 | exact fun _ => rfl)⟩
    | 6, ho =>
      simp at ho; subst ho
      have e4 : b4 = true := by simp [Region.binds] at hd; simp [hd]
      subst e4
      obtain ⟨A, c, rfl, hS, hF⟩ := h4 rfl
      simp only [Region.wanted, if_true]
      left
      go_simp
      exact ⟨b0, b1, b2, b3, true, b5, true, b7, b8, b9, _, _, _, _, _, _, _, _, _, rfl, rfl, hB, (by first | exact h0 | exact fun _ => rfl), (by first | exact h1 | exact fun _ => rfl), (by first | exact h2 | exact fun _ => rfl), (by first | exact h3 | exact fun _ => rfl), (by first | exact h4 | exact fun _ => rfl), (by first | exact h5 | exact fun _ => rfl), fun _ => rfl, (by first | exact h7 | exact fun _ => rfl), (by first | exact h8 | exact fun _ => rfl), (by first | exact h9 | exact fun _ => rfl)⟩
    | 7, ho =>
      simp at ho; subst ho
      simp at hn
      simp only [Region.wanted, if_true]
      left
      go_simp
      exact ⟨b0, b1, b2, b3, b4, b5, b6, true, b8, b9, _, _, _, _, _, _, _, _, _, rfl, rfl, hB.trans ((((Below.refl W.heap.size W).alloc (Nat.le_refl _) (.cells manZ 29))).mono hBz), (by first | exact h0 | exact fun _ => rfl), (by first | exact h1 | exact fun _ => rfl), (by first | exact h2 | exact fun _ => rfl), fun hh => (match (h3 hh) with | ⟨A, c, e, h1, _⟩ => ⟨A, c, e, (h1.below ((Below.refl W.heap.size W).alloc (Nat.le_refl _) (.cells manZ 29))).more (((Below.refl W.heap.size W).alloc (Nat.le_refl _) (.cells manZ 29))).size, fun _ g hg a ha => by have h5 := sl_lt h1 (by simp) a ha; have h6 := ptr_inj hg; omega⟩), fun hh => (match (h4 hh) with | ⟨A, c, e, h1, _⟩ => ⟨A, c, e, (h1.below ((Below.refl W.heap.size W).alloc (Nat.le_refl _) (.cells manZ 29))).more (((Below.refl W.heap.size W).alloc (Nat.le_refl _) (.cells manZ 29))).size, fun _ g hg a ha => by have h5 := sl_lt h1 (by simp) a ha; have h6 := ptr_inj hg; omega⟩), fun hh => (match (h5 hh) with | ⟨A, c, e, h1, _⟩ => ⟨A, c, e, (h1.below ((Below.refl W.heap.size W).alloc (Nat.le_refl _) (.cells manZ 29))).more (((Below.refl W.heap.size W).alloc (Nat.le_refl _) (.cells manZ 29))).size, fun _ g hg a ha => by have h5 := sl_lt h1 (by simp) a ha; have h6 := ptr_inj hg; omega⟩), (by first | exact h6 | exact fun _ => rfl), fun _ => ⟨_, _, _, _, _, _, rfl, hBz, Blk.new W 29 manZ⟩, fun hh => absurd (h8 hh).1 (by rw [hn]; decide), (by first | exact h9 | exact fun _ => rfl)⟩
    | 8, ho =>
      simp at ho; subst ho
      have e5 : b5 = true := by simp [Region.binds] at hd; simp [hd]
      have e7 : b7 = true := by simp [Region.binds] at hd; simp [hd]
      subst e5
      subst e7
      obtain ⟨A, c, rfl, hS, hF⟩ := h5 rfl
      obtain ⟨g7, c0, c1, c2, c3, c4, rfl, hz7, p8⟩ := h7 rfl
      have k0 := p8.cell 0
      have k1 := p8.cell 1
      have k2 := p8.cell 2
      have k3 := p8.cell 3
      have k4 := p8.cell 4
      have f0 := p8.free 0
      have f1 := p8.free 1
      have f2 := p8.free 2
      have f3 := p8.free 3
      have f4 := p8.free 4
      simp at k0 k1 k2 k3 k4
      have hF2 := hF rfl g7 rfl
      simp only [Region.wanted, if_true]
      left
      go_simp
      exact ⟨b0, b1, b2, b3, b4, true, b6, true, true, b9, _, _, _, _, _, _, _, _, _, rfl, rfl, ((((hB.setCell (p := ⟨g7, 0, none⟩) hz7 _).setCell (p := ⟨g7, 1, none⟩) hz7 _).setCell (p := ⟨g7, 2, none⟩) hz7 _).setCell (p := ⟨g7, 3, none⟩) hz7 _).setCell (p := ⟨g7, 4, none⟩) hz7 _, (by first | exact h0 | exact fun _ => rfl), (by first | exact h1 | exact fun _ => rfl), (by first | exact h2 | exact fun _ => rfl), fun hh => (match (h3 hh) with | ⟨A, c, e, h1, h2⟩ => ⟨A, c, e, sl_set5 h1 (h2 rfl g7 rfl) _ _ _ _ _, h2⟩), fun hh => (match (h4 hh) with | ⟨A, c, e, h1, h2⟩ => ⟨A, c, e, sl_set5 h1 (h2 rfl g7 rfl) _ _ _ _ _, h2⟩), fun _ => ⟨A, c, rfl, sl_set5 hS hF2 _ _ _ _ _, hF⟩, (by first | exact h6 | exact fun _ => rfl), fun _ => ⟨g7, _, _, _, _, _, rfl, hz7, ((((p8.set_ 0 _).set_ 1 _).set_ 2 _).set_ 3 _).set_ 4 _⟩, fun _ => ⟨rfl, g7, A, c, rfl, hz7, ((((p8.set_ 0 _).set_ 1 _).set_ 2 _).set_ 3 _).set_ 4 _, sl_set5 hS hF2 _ _ _ _ _⟩, (by first | exact h9 | exact fun _ => rfl)⟩
    | 9, ho =>
      simp at ho; subst ho
      have e6 : b6 = true := by simp [Region.binds] at hd; simp [hd]
      subst e6
      obtain rfl := h6 rfl
      simp only [Region.wanted, if_true]
      left
      go_simp
      exact ⟨b0, b1, b2, b3, b4, b5, true, b7, b8, true, _, _, _, _, _, _, _, _, _, rfl, rfl, hB, (by first | exact h0 | exact fun _ => rfl), (by first | exact h1 | exact fun _ => rfl), (by first | exact h2 | exact fun _ => rfl), (by first | exact h3 | exact fun _ => rfl), (by first | exact h4 | exact fun _ => rfl), (by first | exact h5 | exact fun _ => rfl), (by first | exact h6 | exact fun _ => rfl), (by first | exact h7 | exact fun _ => rfl), (by first | exact h8 | exact fun _ => rfl), fun _ => rfl⟩
    | i + 10, ho => simp at ho
  case fin =>
    rintro L a w4 hr ⟨b0, b1, b2, b3, b4, b5, b6, b7, b8, b9, s7, s8, s26, s27, s28, s29, s30, s31, s32, hL, rfl, hB, h0, h1, h2, h3, h4, h5, h6, h7, h8, h9⟩
    subst hL
    obtain rfl : b8 = true := hr 8 (by decide)
    obtain rfl : b9 = true := hr 9 (by decide)
    obtain ⟨_, g7, A7, c7, e7, hz7, hb7, hs7⟩ := h8 rfl
    obtain rfl := h9 rfl
    clear hr h0 h1 h2 h3 h4 h5 h6 h7 h8 h9
    have hb7' := Lib.hid hb7
    have HS2c := Lib.hid ((HS2b.out.below hB).more hB.size)
    have HS3c := Lib.hid ((HS3.out.below hB).more hB.size)
    have HB4 := Lib.hid (HB3.out.trans (hB.mono HB3.out.size))
    have HS7 := Lib.hid hs7
    subst e7
    have hg7 := hb7.lt
    clear hb7 hs7 hB r0 r1 r2 r3 r4
    go_wp2_with fail
    refine (mod_any _ _ _).mono ?_
    rintro e w5 ⟨rfl, hb5⟩
    go_wp2_with fail
    refine (mod_any _ _ _).mono ?_
    rintro e w6 ⟨rfl, hb6⟩
    go_wp2_with fail
    refine (mod_any _ _ _).mono ?_
    rintro e w7 ⟨rfl, hb7⟩
    have HB47 := Lib.hid (hb5.trans ((hb6.trans (hb7.mono hb6.size)).mono hb5.size))
    have hal := (Below.refl w7.heap.size w7).alloc (Nat.le_refl _) (.cells #[.string ⟨#[109]⟩, .int .i64 1, .int .i64 0, .int .i64 0, .string ⟨#[97]⟩, .int .i64 1, .int .i64 2, .int .i64 0, .string ⟨#[98]⟩, .int .i64 1, .int .i64 0, .int .i64 0] 26)
    have HB48 := Lib.hid (HB47.out.trans (hal.mono HB47.out.size))
    have cE := rSame_any A2 c2 [modP [109] 0, modP [97] 2, modP [98] 0] (some ⟨w7.heap.size, 0, none⟩) 3 [modP [109] 0, modP [97] 2, modP [98] 0] _ ((HS2c.out.below HB48.out).more HB48.out.size) (sl_of_blk (Blk.new w7 26 #[.string ⟨#[109]⟩, .int .i64 1, .int .i64 0, .int .i64 0, .string ⟨#[97]⟩, .int .i64 1, .int .i64 2, .int .i64 0, .string ⟨#[98]⟩, .int .i64 1, .int .i64 0, .int .i64 0]) encM_len (by decide) rfl) (by simp) (by simp)
    have CE := Lib.hid cE
    clear hb5 hb6 hb7 hal cE
    go_wp2_with fail
    refine CE.out.mono ?_
    rintro e w9 ⟨rfl, hb9⟩
    have HB9 := Lib.hid (HB48.out.trans (hb9.mono HB48.out.size))
    have HB7 := Lib.hid (hb7'.out.keep HB9.out)
    have HS5 := Lib.hid ((HS3c.out.below HB9.out).more HB9.out.size)
    have HS7 := Lib.hid ((HS7.out.below HB9.out).more HB9.out.size)
    have hg7 := HB7.out.lt
    have HBZ := Lib.hid (HB4.out.trans (HB9.out.mono HB4.out.size))
    simp only [decide_true]
    clear hb9 CE
    go_upto_region 6 with fail
    apply wp_region_each (by kernel_rfl) (ExInv6 w9.heap.size w9 g7 A7 c7 _ _ _ _ _ _ _ _ _ _ _ _ _ _ _ _ _ _ _ _ _ _ _ _ _ _ _ _ _ _ _ _ _ _ _ _ _ _ _ _ _ _ _ _ _ _ _ _ _ _) ?hsz ?h0 ?step (by kernel_rfl) ?fin
    case h0 =>
      exact ⟨false, false, false, false, false, false, false, false, false, false, false, false, false, false, false, false, _, _, _, _, _, _, _, _, _, _, _, _, _, _, _, _, rfl, rfl, (Below.refl _ _).drew, fun h => absurd h (by decide), fun h => absurd h (by decide), fun h => absurd h (by decide), fun h => absurd h (by decide), fun h => absurd h (by decide), fun h => absurd h (by decide), fun h => absurd h (by decide), fun h => absurd h (by decide), fun h => absurd h (by decide), fun h => absurd h (by decide), fun h => absurd h (by decide), fun h => absurd h (by decide), fun h => absurd h (by decide), fun h => absurd h (by decide), fun h => absurd h (by decide), fun h => absurd h (by decide)⟩
    case hsz =>
      rintro L a w ⟨b0, b1, b2, b3, b4, b5, b6, b7, b8, b9, b10, b11, b12, b13, b14, b15, s0, s51, s52, s53, s54, s55, s56, s57, s58, s59, s60, s61, s62, s63, s64, s65, rfl, _⟩
      rfl
    case step =>
      rintro i o ho L a W hn hd ⟨b0, b1, b2, b3, b4, b5, b6, b7, b8, b9, b10, b11, b12, b13, b14, b15, s0, s51, s52, s53, s54, s55, s56, s57, s58, s59, s60, s61, s62, s63, s64, s65, rfl, rfl, hB, h0, h1, h2, h3, h4, h5, h6, h7, h8, h9, h10, h11, h12, h13, h14, h15⟩
      have hBz := hB.size
      match i, ho with
      | 0, ho =>
        simp at ho; subst ho
        simp only [Region.wanted, if_true]
        left
        go_simp
        exact ⟨true, b1, b2, b3, b4, b5, b6, b7, b8, b9, b10, b11, b12, b13, b14, b15, _, _, _, _, _, _, _, _, _, _, _, _, _, _, _, _, rfl, rfl, hB, fun _ => rfl, (by first | exact h1 | exact fun _ => rfl), (by first | exact h2 | exact fun _ => rfl), (by first | exact h3 | exact fun _ => rfl), (by first | exact h4 | exact fun _ => rfl), (by first | exact h5 | exact fun _ => rfl), (by first | exact h6 | exact fun _ => rfl), (by first | exact h7 | exact fun _ => rfl), (by first | exact h8 | exact fun _ => rfl), (by first | exact h9 | exact fun _ => rfl), (by first | exact h10 | exact fun _ => rfl), (by first | exact h11 | exact fun _ => rfl), (by first | exact h12 | exact fun _ => rfl), (by first | exact h13 | exact fun _ => rfl), (by first | exact h14 | exact fun _ => rfl), (by first | exact h15 | exact fun _ => rfl)⟩
      | 1, ho =>
        simp at ho; subst ho
        have e0 : b0 = true := by simp [Region.binds] at hd; simp [hd]
        subst e0
        obtain rfl := h0 rfl
        simp only [Region.wanted, if_true]
        left
        go_simp
        exact ⟨true, true, b2, b3, b4, b5, b6, b7, b8, b9, b10, b11, b12, b13, b14, b15, _, _, _, _, _, _, _, _, _, _, _, _, _, _, _, _, rfl, rfl, hB, (by first | exact h0 | exact fun _ => rfl), fun _ => rfl, (by first | exact h2 | exact fun _ => rfl), (by first | exact h3 | exact fun _ => rfl), (by first | exact h4 | exact fun _ => rfl), (by first | exact h5 | exact fun _ => rfl), (by first | exact h6 | exact fun _ => rfl), (by first | exact h7 | exact fun _ => rfl), (by first | exact h8 | exact fun _ => rfl), (by first | exact h9 | exact fun _ => rfl), (by first | exact h10 | exact fun _ => rfl), (by first | exact h11 | exact fun _ => rfl), (by first | exact h12 | exact fun _ => rfl), (by first | exact h13 | exact fun _ => rfl), (by first | exact h14 | exact fun _ => rfl), (by first | exact h15 | exact fun _ => rfl)⟩
      | 2, ho =>
        simp at ho; subst ho
        have e1 : b1 = true := by simp [Region.binds] at hd; simp [hd]
        subst e1
        obtain rfl := h1 rfl
        rw [if_pos (show Region.wanted _ _ = true from by kernel_rfl)]
        left
        go_simp
        exact ⟨b0, true, true, b3, b4, b5, b6, b7, b8, b9, b10, b11, b12, b13, b14, b15, _, _, _, _, _, _, _, _, _, _, _, _, _, _, _, _, rfl, rfl, hB, (by first | exact h0 | exact fun _ => rfl), (by first | exact h1 | exact fun _ => rfl), fun _ => rfl, (by first | exact h3 | exact fun _ => rfl), (by first | exact h4 | exact fun _ => rfl), (by first | exact h5 | exact fun _ => rfl), (by first | exact h6 | exact fun _ => rfl), (by first | exact h7 | exact fun _ => rfl), (by first | exact h8 | exact fun _ => rfl), (by first | exact h9 | exact fun _ => rfl), (by first | exact h10 | exact fun _ => rfl), (by first | exact h11 | exact fun _ => rfl), (by first | exact h12 | exact fun _ => rfl), (by first | exact h13 | exact fun _ => rfl), (by first | exact h14 | exact fun _ => rfl), (by first | exact h15 | exact fun _ => rfl)⟩
      | 3, ho =>
        simp at ho; subst ho
        have e1 : b1 = true := by simp [Region.binds] at hd; simp [hd]
        subst e1
        obtain rfl := h1 rfl
        rw [if_pos (show Region.wanted _ _ = true from by kernel_rfl)]
        left
        go_simp
        refine (mod_any _ _ _).mono ?_
        rintro e W2 ⟨rfl, hb2⟩
        exact ⟨b0, true, b2, true, b4, b5, b6, b7, b8, b9, b10, b11, b12, b13, b14, b15, _, _, _, _, _, _, _, _, _, _, _, _, _, _, _, _, rfl, rfl, hB.trans ((hb2).mono hBz), (by first | exact h0 | exact fun _ => rfl), (by first | exact h1 | exact fun _ => rfl), (by first | exact h2 | exact fun _ => rfl), fun _ => rfl, (by first | exact h4 | exact fun _ => rfl), (by first | exact fun hh => (match (h5 hh) with | ⟨g, e, h1⟩ => ⟨g, e, (h1.below hb2).more (hb2).size⟩) | exact fun _ => rfl), (by first | exact h6 | exact fun _ => rfl), (by first | exact h7 | exact fun _ => rfl), (by first | exact h8 | exact fun _ => rfl), (by first | exact h9 | exact fun _ => rfl), (by first | exact h10 | exact fun _ => rfl), (by first | exact h11 | exact fun _ => rfl), (by first | exact fun hh => (match (h12 hh) with | ⟨g, e, h1⟩ => ⟨g, e, (h1.below hb2).more (hb2).size⟩) | exact fun _ => rfl), (by first | exact h13 | exact fun _ => rfl), (by first | exact h14 | exact fun _ => rfl), (by first | exact h15 | exact fun _ => rfl)⟩
      | 4, ho =>
        simp at ho; subst ho
        have e1 : b1 = true := by simp [Region.binds] at hd; simp [hd]
        subst e1
        obtain rfl := h1 rfl
        rw [if_pos (show Region.wanted _ _ = true from by kernel_rfl)]
        left
        go_simp
        refine (mod_any _ _ _).mono ?_
        rintro e W2 ⟨rfl, hb2⟩
        exact ⟨b0, true, b2, b3, true, b5, b6, b7, b8, b9, b10, b11, b12, b13, b14, b15, _, _, _, _, _, _, _, _, _, _, _, _, _, _, _, _, rfl, rfl, hB.trans ((hb2).mono hBz), (by first | exact h0 | exact fun _ => rfl), (by first | exact h1 | exact fun _ => rfl), (by first | exact h2 | exact fun _ => rfl), (by first | exact h3 | exact fun _ => rfl), fun _ => rfl, (by first | exact fun hh => (match (h5 hh) with | ⟨g, e, h1⟩ => ⟨g, e, (h1.below hb2).more (hb2).size⟩) | exact fun _ => rfl), (by first | exact h6 | exact fun _ => rfl), (by first | exact h7 | exact fun _ => rfl), (by first | exact h8 | exact fun _ => rfl), (by first | exact h9 | exact fun _ => rfl), (by first | exact h10 | exact fun _ => rfl), (by first | exact h11 | exact fun _ => rfl), (by first | exact fun hh => (match (h12 hh) with | ⟨g, e, h1⟩ => ⟨g, e, (h1.below hb2).more (hb2).size⟩) | exact fun _ => rfl), (by first | exact h13 | exact fun _ => rfl), (by first | exact h14 | exact fun _ => rfl), (by first | exact h15 | exact fun _ => rfl)⟩
      | 5, ho =>
        simp at ho; subst ho
        have e1 : b1 = true := by simp [Region.binds] at hd; simp [hd]
        have e3 : b3 = true := by simp [Region.binds] at hd; simp [hd]
        have e4 : b4 = true := by simp [Region.binds] at hd; simp [hd]
        subst e1
        subst e3
        subst e4
        obtain rfl := h1 rfl
        obtain rfl := h3 rfl
        obtain rfl := h4 rfl
        rw [if_pos (show Region.wanted _ _ = true from by kernel_rfl)]
        left
        go_simp
        exact ⟨b0, true, b2, true, true, true, b6, b7, b8, b9, b10, b11, b12, b13, b14, b15, _, _, _, _, _, _, _, _, _, _, _, _, _, _, _, _, rfl, rfl, hB.trans ((((Below.refl W.heap.size W).alloc (Nat.le_refl _) (.cells #[.string ⟨#[98]⟩, .int .i64 1, .int .i64 0, .int .i64 0, .string ⟨#[97]⟩, .int .i64 1, .int .i64 2, .int .i64 0] 26))).mono hBz), (by first | exact h0 | exact fun _ => rfl), (by first | exact h1 | exact fun _ => rfl), (by first | exact h2 | exact fun _ => rfl), (by first | exact h3 | exact fun _ => rfl), (by first | exact h4 | exact fun _ => rfl), fun _ => ⟨_, rfl, sl_of_blk (Blk.new W 26 #[.string ⟨#[98]⟩, .int .i64 1, .int .i64 0, .int .i64 0, .string ⟨#[97]⟩, .int .i64 1, .int .i64 2, .int .i64 0]) encM_len (by decide) rfl⟩, (by first | exact h6 | exact fun _ => rfl), (by first | exact h7 | exact fun _ => rfl), (by first | exact h8 | exact fun _ => rfl), (by first | exact h9 | exact fun _ => rfl), (by first | exact h10 | exact fun _ => rfl), (by first | exact h11 | exact fun _ => rfl), (by first | exact fun hh => (match (h12 hh) with | ⟨g, e, h1⟩ => ⟨g, e, (h1.below ((Below.refl W.heap.size W).alloc (Nat.le_refl _) (.cells #[.string ⟨#[98]⟩, .int .i64 1, .int .i64 0, .int .i64 0, .string ⟨#[97]⟩, .int .i64 1, .int .i64 2, .int .i64 0] 26))).more (((Below.refl W.heap.size W).alloc (Nat.le_refl _) (.cells #[.string ⟨#[98]⟩, .int .i64 1, .int .i64 0, .int .i64 0, .string ⟨#[97]⟩, .int .i64 1, .int .i64 2, .int .i64 0] 26))).size⟩) | exact fun _ => rfl), (by first | exact h13 | exact fun _ => rfl), (by first | exact h14 | exact fun _ => rfl), (by first | exact h15 | exact fun _ => rfl)⟩
      | 6, ho =>
        simp at ho; subst ho
        have e1 : b1 = true := by simp [Region.binds] at hd; simp [hd]
        have e2 : b2 = true := by simp [Region.binds] at hd; simp [hd]
        have e5 : b5 = true := by simp [Region.binds] at hd; simp [hd]
        subst e1
        subst e2
        subst e5
        obtain rfl := h1 rfl
        obtain rfl := h2 rfl
        obtain ⟨g, rfl, hS⟩ := h5 rfl
        rw [if_pos (show Region.wanted _ _ = true from by kernel_rfl)]
        left
        go_simp
        refine (rSame_any _ _ [modP [98] 0, modP [97] 2] (some ⟨g, 0, none⟩) 2 [modP [98] 0, modP [97] 2] W ((HS5.out.below hB).more hB.size) hS (by simp) (by simp)).mono ?_
        rintro e W2 ⟨rfl, hb2⟩
        exact ⟨b0, true, true, b3, b4, true, true, b7, b8, b9, b10, b11, b12, b13, b14, b15, _, _, _, _, _, _, _, _, _, _, _, _, _, _, _, _, rfl, rfl, hB.trans ((hb2).mono hBz), (by first | exact h0 | exact fun _ => rfl), (by first | exact h1 | exact fun _ => rfl), (by first | exact h2 | exact fun _ => rfl), (by first | exact h3 | exact fun _ => rfl), (by first | exact h4 | exact fun _ => rfl), (by first | exact fun hh => (match (h5 hh) with | ⟨g, e, h1⟩ => ⟨g, e, (h1.below hb2).more (hb2).size⟩) | exact fun _ => rfl), fun _ => (by simp), (by first | exact h7 | exact fun _ => rfl), (by first | exact h8 | exact fun _ => rfl), (by first | exact h9 | exact fun _ => rfl), (by first | exact h10 | exact fun _ => rfl), (by first | exact h11 | exact fun _ => rfl), (by first | exact fun hh => (match (h12 hh) with | ⟨g, e, h1⟩ => ⟨g, e, (h1.below hb2).more (hb2).size⟩) | exact fun _ => rfl), (by first | exact h13 | exact fun _ => rfl), (by first | exact h14 | exact fun _ => rfl), (by first | exact h15 | exact fun _ => rfl)⟩
      | 7, ho =>
        simp at ho; subst ho
        have e1 : b1 = true := by simp [Region.binds] at hd; simp [hd]
        have e6 : b6 = true := by simp [Region.binds] at hd; simp [hd]
        subst e1
        subst e6
        obtain rfl := h1 rfl
        obtain rfl := h6 rfl
        simp only [Region.wanted, if_true]
        left
        go_simp
        exact ⟨b0, true, b2, b3, b4, b5, true, true, b8, b9, b10, b11, b12, b13, b14, b15, _, _, _, _, _, _, _, _, _, _, _, _, _, _, _, _, rfl, rfl, hB, (by first | exact h0 | exact fun _ => rfl), (by first | exact h1 | exact fun _ => rfl), (by first | exact h2 | exact fun _ => rfl), (by first | exact h3 | exact fun _ => rfl), (by first | exact h4 | exact fun _ => rfl), (by first | exact h5 | exact fun _ => rfl), (by first | exact h6 | exact fun _ => rfl), fun _ => rfl, (by first | exact h8 | exact fun _ => rfl), (by first | exact h9 | exact fun _ => rfl), (by first | exact h10 | exact fun _ => rfl), (by first | exact h11 | exact fun _ => rfl), (by first | exact h12 | exact fun _ => rfl), (by first | exact h13 | exact fun _ => rfl), (by first | exact h14 | exact fun _ => rfl), (by first | exact h15 | exact fun _ => rfl)⟩
      | 8, ho =>
        simp at ho; subst ho
        have e7 : b7 = true := by simp [Region.binds] at hd; simp [hd]
        subst e7
        obtain rfl := h7 rfl
        simp only [Region.wanted, if_true]
        left
        go_simp
        exact ⟨b0, b1, b2, b3, b4, b5, b6, true, true, b9, b10, b11, b12, b13, b14, b15, _, _, _, _, _, _, _, _, _, _, _, _, _, _, _, _, rfl, rfl, hB, (by first | exact h0 | exact fun _ => rfl), (by first | exact h1 | exact fun _ => rfl), (by first | exact h2 | exact fun _ => rfl), (by first | exact h3 | exact fun _ => rfl), (by first | exact h4 | exact fun _ => rfl), (by first | exact h5 | exact fun _ => rfl), (by first | exact h6 | exact fun _ => rfl), (by first | exact h7 | exact fun _ => rfl), fun _ => rfl, (by first | exact h9 | exact fun _ => rfl), (by first | exact h10 | exact fun _ => rfl), (by first | exact h11 | exact fun _ => rfl), (by first | exact h12 | exact fun _ => rfl), (by first | exact h13 | exact fun _ => rfl), (by first | exact h14 | exact fun _ => rfl), (by first | exact h15 | exact fun _ => rfl)⟩
      | 9, ho =>
        simp at ho; subst ho
        have e8 : b8 = true := by simp [Region.binds] at hd; simp [hd]
        subst e8
        obtain rfl := h8 rfl
        rw [if_pos (show Region.wanted _ _ = true from by kernel_rfl)]
        left
        go_simp
        exact ⟨b0, b1, b2, b3, b4, b5, b6, b7, true, true, b10, b11, b12, b13, b14, b15, _, _, _, _, _, _, _, _, _, _, _, _, _, _, _, _, rfl, rfl, hB, (by first | exact h0 | exact fun _ => rfl), (by first | exact h1 | exact fun _ => rfl), (by first | exact h2 | exact fun _ => rfl), (by first | exact h3 | exact fun _ => rfl), (by first | exact h4 | exact fun _ => rfl), (by first | exact h5 | exact fun _ => rfl), (by first | exact h6 | exact fun _ => rfl), (by first | exact h7 | exact fun _ => rfl), (by first | exact h8 | exact fun _ => rfl), fun _ => rfl, (by first | exact h10 | exact fun _ => rfl), (by first | exact h11 | exact fun _ => rfl), (by first | exact h12 | exact fun _ => rfl), (by first | exact h13 | exact fun _ => rfl), (by first | exact h14 | exact fun _ => rfl), (by first | exact h15 | exact fun _ => rfl)⟩
      | 10, ho =>
        simp at ho; subst ho
        have e8 : b8 = true := by simp [Region.binds] at hd; simp [hd]
        have e9 : b9 = true := by simp [Region.binds] at hd; simp [hd]
        subst e8
        subst e9
        obtain rfl := h8 rfl
        obtain rfl := h9 rfl
        have hx4 := hB.cell (p := ⟨g7, 4, none⟩) hg7
        rw [HB7.out.cell 4] at hx4
        simp at hx4
        rw [if_pos (show Region.wanted _ _ = true from by kernel_rfl)]
        left
        go_simp
        exact ⟨b0, b1, b2, b3, b4, b5, b6, b7, true, true, true, b11, b12, b13, b14, b15, _, _, _, _, _, _, _, _, _, _, _, _, _, _, _, _, rfl, rfl, hB, (by first | exact h0 | exact fun _ => rfl), (by first | exact h1 | exact fun _ => rfl), (by first | exact h2 | exact fun _ => rfl), (by first | exact h3 | exact fun _ => rfl), (by first | exact h4 | exact fun _ => rfl), (by first | exact h5 | exact fun _ => rfl), (by first | exact h6 | exact fun _ => rfl), (by first | exact h7 | exact fun _ => rfl), (by first | exact h8 | exact fun _ => rfl), (by first | exact h9 | exact fun _ => rfl), fun _ => rfl, (by first | exact h11 | exact fun _ => rfl), (by first | exact h12 | exact fun _ => rfl), (by first | exact h13 | exact fun _ => rfl), (by first | exact h14 | exact fun _ => rfl), (by first | exact h15 | exact fun _ => rfl)⟩
      | 11, ho =>
        simp at ho; subst ho
        have e8 : b8 = true := by simp [Region.binds] at hd; simp [hd]
        subst e8
        obtain rfl := h8 rfl
        rw [if_pos (show Region.wanted _ _ = true from by kernel_rfl)]
        left
        go_simp
        refine (mod_any _ _ _).mono ?_
        rintro e W2 ⟨rfl, hb2⟩
        exact ⟨b0, b1, b2, b3, b4, b5, b6, b7, true, b9, b10, true, b12, b13, b14, b15, _, _, _, _, _, _, _, _, _, _, _, _, _, _, _, _, rfl, rfl, hB.trans ((hb2).mono hBz), (by first | exact h0 | exact fun _ => rfl), (by first | exact h1 | exact fun _ => rfl), (by first | exact h2 | exact fun _ => rfl), (by first | exact h3 | exact fun _ => rfl), (by first | exact h4 | exact fun _ => rfl), (by first | exact fun hh => (match (h5 hh) with | ⟨g, e, h1⟩ => ⟨g, e, (h1.below hb2).more (hb2).size⟩) | exact fun _ => rfl), (by first | exact h6 | exact fun _ => rfl), (by first | exact h7 | exact fun _ => rfl), (by first | exact h8 | exact fun _ => rfl), (by first | exact h9 | exact fun _ => rfl), (by first | exact h10 | exact fun _ => rfl), fun _ => rfl, (by first | exact fun hh => (match (h12 hh) with | ⟨g, e, h1⟩ => ⟨g, e, (h1.below hb2).more (hb2).size⟩) | exact fun _ => rfl), (by first | exact h13 | exact fun _ => rfl), (by first | exact h14 | exact fun _ => rfl), (by first | exact h15 | exact fun _ => rfl)⟩
      | 12, ho =>
        simp at ho; subst ho
        have e8 : b8 = true := by simp [Region.binds] at hd; simp [hd]
        have e11 : b11 = true := by simp [Region.binds] at hd; simp [hd]
        subst e8
        subst e11
        obtain rfl := h8 rfl
        obtain rfl := h11 rfl
        rw [if_pos (show Region.wanted _ _ = true from by kernel_rfl)]
        left
        go_simp
        exact ⟨b0, b1, b2, b3, b4, b5, b6, b7, true, b9, b10, true, true, b13, b14, b15, _, _, _, _, _, _, _, _, _, _, _, _, _, _, _, _, rfl, rfl, hB.trans ((((Below.refl W.heap.size W).alloc (Nat.le_refl _) (.cells #[.string ⟨#[97]⟩, .int .i64 1, .int .i64 1, .int .i64 0] 26))).mono hBz), (by first | exact h0 | exact fun _ => rfl), (by first | exact h1 | exact fun _ => rfl), (by first | exact h2 | exact fun _ => rfl), (by first | exact h3 | exact fun _ => rfl), (by first | exact h4 | exact fun _ => rfl), (by first | exact fun hh => (match (h5 hh) with | ⟨g, e, h1⟩ => ⟨g, e, (h1.below ((Below.refl W.heap.size W).alloc (Nat.le_refl _) (.cells #[.string ⟨#[97]⟩, .int .i64 1, .int .i64 1, .int .i64 0] 26))).more (((Below.refl W.heap.size W).alloc (Nat.le_refl _) (.cells #[.string ⟨#[97]⟩, .int .i64 1, .int .i64 1, .int .i64 0] 26))).size⟩) | exact fun _ => rfl), (by first | exact h6 | exact fun _ => rfl), (by first | exact h7 | exact fun _ => rfl), (by first | exact h8 | exact fun _ => rfl), (by first | exact h9 | exact fun _ => rfl), (by first | exact h10 | exact fun _ => rfl), (by first | exact h11 | exact fun _ => rfl), fun _ => ⟨_, rfl, sl_of_blk (Blk.new W 26 #[.string ⟨#[97]⟩, .int .i64 1, .int .i64 1, .int .i64 0]) encM_len (by decide) rfl⟩, (by first | exact h13 | exact fun _ => rfl), (by first | exact h14 | exact fun _ => rfl), (by first | exact h15 | exact fun _ => rfl)⟩
      | 13, ho =>
        simp at ho; subst ho
        have e8 : b8 = true := by simp [Region.binds] at hd; simp [hd]
        have e10 : b10 = true := by simp [Region.binds] at hd; simp [hd]
        have e12 : b12 = true := by simp [Region.binds] at hd; simp [hd]
        subst e8
        subst e10
        subst e12
        obtain rfl := h8 rfl
        obtain rfl := h10 rfl
        obtain ⟨g, rfl, hS⟩ := h12 rfl
        rw [if_pos (show Region.wanted _ _ = true from by kernel_rfl)]
        left
        go_simp
        refine (rSame_any _ _ [modP [97] 1] (some ⟨g, 0, none⟩) 1 [modP [97] 1] W ((HS7.out.below hB).more hB.size) hS (by simp) (by simp)).mono ?_
        rintro e W2 ⟨rfl, hb2⟩
        exact ⟨b0, b1, b2, b3, b4, b5, b6, b7, true, b9, true, b11, true, true, b14, b15, _, _, _, _, _, _, _, _, _, _, _, _, _, _, _, _, rfl, rfl, hB.trans ((hb2).mono hBz), (by first | exact h0 | exact fun _ => rfl), (by first | exact h1 | exact fun _ => rfl), (by first | exact h2 | exact fun _ => rfl), (by first | exact h3 | exact fun _ => rfl), (by first | exact h4 | exact fun _ => rfl), (by first | exact fun hh => (match (h5 hh) with | ⟨g, e, h1⟩ => ⟨g, e, (h1.below hb2).more (hb2).size⟩) | exact fun _ => rfl), (by first | exact h6 | exact fun _ => rfl), (by first | exact h7 | exact fun _ => rfl), (by first | exact h8 | exact fun _ => rfl), (by first | exact h9 | exact fun _ => rfl), (by first | exact h10 | exact fun _ => rfl), (by first | exact h11 | exact fun _ => rfl), (by first | exact fun hh => (match (h12 hh) with | ⟨g, e, h1⟩ => ⟨g, e, (h1.below hb2).more (hb2).size⟩) | exact fun _ => rfl), fun _ => (by simp), (by first | exact h14 | exact fun _ => rfl), (by first | exact h15 | exact fun _ => rfl)⟩
      | 14, ho =>
        simp at ho; subst ho
        have e8 : b8 = true := by simp [Region.binds] at hd; simp [hd]
        have e13 : b13 = true := by simp [Region.binds] at hd; simp [hd]
        subst e8
        subst e13
        obtain rfl := h8 rfl
        obtain rfl := h13 rfl
        simp only [Region.wanted, if_true]
        left
        go_simp
        exact ⟨b0, b1, b2, b3, b4, b5, b6, b7, true, b9, b10, b11, b12, true, true, b15, _, _, _, _, _, _, _, _, _, _, _, _, _, _, _, _, rfl, rfl, hB, (by first | exact h0 | exact fun _ => rfl), (by first | exact h1 | exact fun _ => rfl), (by first | exact h2 | exact fun _ => rfl), (by first | exact h3 | exact fun _ => rfl), (by first | exact h4 | exact fun _ => rfl), (by first | exact h5 | exact fun _ => rfl), (by first | exact h6 | exact fun _ => rfl), (by first | exact h7 | exact fun _ => rfl), (by first | exact h8 | exact fun _ => rfl), (by first | exact h9 | exact fun _ => rfl), (by first | exact h10 | exact fun _ => rfl), (by first | exact h11 | exact fun _ => rfl), (by first | exact h12 | exact fun _ => rfl), (by first | exact h13 | exact fun _ => rfl), fun _ => rfl, (by first | exact h15 | exact fun _ => rfl)⟩
      | 15, ho =>
        simp at ho; subst ho
        have e14 : b14 = true := by simp [Region.binds] at hd; simp [hd]
        subst e14
        obtain rfl := h14 rfl
        simp only [Region.wanted, if_true]
        left
        go_simp
        exact ⟨b0, b1, b2, b3, b4, b5, b6, b7, b8, b9, b10, b11, b12, b13, true, true, _, _, _, _, _, _, _, _, _, _, _, _, _, _, _, _, rfl, rfl, hB, (by first | exact h0 | exact fun _ => rfl), (by first | exact h1 | exact fun _ => rfl), (by first | exact h2 | exact fun _ => rfl), (by first | exact h3 | exact fun _ => rfl), (by first | exact h4 | exact fun _ => rfl), (by first | exact h5 | exact fun _ => rfl), (by first | exact h6 | exact fun _ => rfl), (by first | exact h7 | exact fun _ => rfl), (by first | exact h8 | exact fun _ => rfl), (by first | exact h9 | exact fun _ => rfl), (by first | exact h10 | exact fun _ => rfl), (by first | exact h11 | exact fun _ => rfl), (by first | exact h12 | exact fun _ => rfl), (by first | exact h13 | exact fun _ => rfl), (by first | exact h14 | exact fun _ => rfl), fun _ => rfl⟩
      | i + 16, ho => simp at ho
    case fin =>
      rintro L a wf hr ⟨b0, b1, b2, b3, b4, b5, b6, b7, b8, b9, b10, b11, b12, b13, b14, b15, s0, s51, s52, s53, s54, s55, s56, s57, s58, s59, s60, s61, s62, s63, s64, s65, hL, rfl, hB, h0, h1, h2, h3, h4, h5, h6, h7, h8, h9, h10, h11, h12, h13, h14, h15⟩
      subst hL
      obtain rfl : b15 = true := hr 15 (by decide)
      obtain rfl := h15 rfl
      clear hr h0 h1 h2 h3 h4 h5 h6 h7 h8 h9 h10 h11 h12 h13 h14 h15
      have HBF := Lib.hid (HBZ.out.trans (hB.mono HBZ.out.size))
      clear hB
      go_wp2
      go_ret
      exact ⟨rfl, (HB1.out.trans (HBF.out.mono HB1.out.size))⟩
end Go.Proofs.YtfiilbdkhelhgaaDoor
