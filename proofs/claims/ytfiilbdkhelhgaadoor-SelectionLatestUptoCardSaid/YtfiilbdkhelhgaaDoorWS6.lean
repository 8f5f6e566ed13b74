/- Walk: may a root be changed with a module? (selection.may) -/
import Derived.Test.YtfiilbdkhelhgaaDoorWS5
import Derived.Test.YtfiilbdkhelhgaaDoorG3
namespace Go.Proofs.YtfiilbdkhelhgaaDoor
open Go.RowKit Go.Sort

theorem reg_nodup {Y : List ManW} (h : checkR (regW Y) = 0) : (Y.map (·.1)).Nodup := by
  have := (checkR_ok h).2
  unfold regW at this
  rw [List.map_map] at this
  exact this
theorem buildP_check {R : Regy} {root : Mod} {l : List Mod} (h : (buildP R root l).2 = 0) : checkR R = 0 := by
  unfold buildP at h
  split at h
  · assumption
  · rename_i h1
    exact absurd h h1

theorem lk_none {W : World} {b n : Nat} {Y : List ManW} {m : Mod} (hm : OMap KM W b n (findF Y)) (hk : okMod m) (hf : findF Y m = none) :
    (Instr.lookup 55 (.map (some b)) (.agg #[.string ⟨m.1.toArray⟩, .int .i64 m.2.1, .int .i64 m.2.2.1, .int .i64 m.2.2.2]) true).run Tryd.prog W = .ok (.tuple #[.agg #[.string ⟨#[]⟩, .int .i64 0, .int .i64 0, .int .i64 0, .slice none 0 0], .bool false]) W := by
  have h := hm.look_ok Tryd.underlying55 (manZero _) m hk
  rw [hf] at h
  exact h
theorem lk_some {W : World} {b n : Nat} {Y : List ManW} {m m1 : Mod} {A1 : Option Addr} {c1 : Nat} {l1 : List Mod} (hm : OMap KM W b n (findF Y)) (hk : okMod m) (hf : findF Y m = some (manV (m1, A1, c1, l1))) :
    (Instr.lookup 55 (.map (some b)) (.agg #[.string ⟨m.1.toArray⟩, .int .i64 m.2.1, .int .i64 m.2.2.1, .int .i64 m.2.2.2]) true).run Tryd.prog W = .ok (.tuple #[.agg #[.string ⟨m1.1.toArray⟩, .int .i64 m1.2.1, .int .i64 m1.2.2.1, .int .i64 m1.2.2.2, .slice A1 l1.length c1], .bool true]) W := by
  have h := hm.look_ok Tryd.underlying55 (manZero _) m hk
  rw [hf] at h
  exact h
def MayInv (z1 B : Nat) (w1 : World) (Y : List ManW) (v0 v1 v2 v7 v11 vm vr : Value) (has : Bool) (L : Array Bool) (a : Act) (W : World) : Prop :=
  ∃ (b0 b1 b2 b3 b4 b5 b6 b7 b8 b9 : Bool) (s9 s10 s20 s21 s22 s23 s24 s25 s26 : Value) (gm g9 : Nat), L = #[b0, b1, b2, b3, b4, b5, b6, b7, b8, b9] ∧
    a = ⟨#[v0, v1, v2, undef, .pointer (some ⟨B, 0, none⟩), .pointer (some ⟨B + 1, 0, none⟩), .int .i64 0, v7, .int .i64 0, s9, s10, v11, v0, v1, v11, v7, .int .i64 0, .int .i64 0, .bool false, undef,
      s20, s21, s22, s23, s24, s25, s26, undef, undef, undef, undef, undef, undef, undef, undef], []⟩ ∧
    Below z1 w1 W ∧ (b0 = true → s21 = v0) ∧ (b1 = true → s22 = .map (some gm) ∧ (b3 = false → OMap KM W gm Y.length (findF Y))) ∧
    (b2 = true → s23 = vm) ∧ (b3 = true → s24 = .tuple #[vr, .bool has]) ∧ (b4 = true → s20 = .tuple #[vr, .bool has]) ∧ (b5 = true → s25 = vr) ∧ (b6 = true → s26 = .bool has) ∧
    (b7 = true → s9 = .pointer (some ⟨g9, 0, none⟩) ∧ z1 ≤ g9 ∧ ∃ c0 c1 c2 c3 c4 : Value, Blk W g9 29 #[c0, c1, c2, c3, c4]) ∧ (b9 = true → s10 = .bool has)

set_option maxRecDepth 100000 in
set_option maxHeartbeats 1000000 in
theorem may_any (A : Option Addr) (c : Nat) (Y : List ManW) (y0 : ManW) (m : Mod) (w : World) (hY : RegOk w w.heap.size A Y) (h0 : ManOk w w.heap.size y0) (hm : okB m) (hG : Glob w) :
    Calls Tryd.prog 30 #[.slice A Y.length c, .agg #[.string ⟨y0.1.1.toArray⟩, .int .i64 y0.1.2.1, .int .i64 y0.1.2.2.1, .int .i64 y0.1.2.2.2, .slice y0.2.1 y0.2.2.2.length y0.2.2.1], .agg #[.string ⟨m.1.toArray⟩, .int .i64 m.2.1, .int .i64 m.2.2.1, .int .i64 m.2.2.2]] w fun e w' => e = .returned (.int .i64 (mayP (regW Y) y0.1 y0.2.2.2 m)) ∧ Below w.heap.size w w' := by
  obtain ⟨rm, A0, c0, l0⟩ := y0
  simp only
  have HY := Lib.hid hY
  have H0 := Lib.hid h0
  have HG := Lib.hid hG
  have HOK := Lib.hid hm.ok
  have Q0 := Lib.hid ((Blk.new w 29 (manA rm A0 l0.length c0)).keep ((Below.refl _ _).alloc (Nat.le_refl _) (.cells #[.string ⟨m.1.toArray⟩, .int .i64 m.2.1, .int .i64 m.2.2.1, .int .i64 m.2.2.2] 26)))
  have q1 := Blk.new (w.alloc (.cells (manA rm A0 l0.length c0) 29)) 26 #[.string ⟨m.1.toArray⟩, .int .i64 m.2.1, .int .i64 m.2.2.1, .int .i64 m.2.2.2]
  rw [World.size_alloc] at q1
  have Q1 := Lib.hid q1
  have HB0 := Lib.hid (show Below w.heap.size w ((w.alloc (.cells (manA rm A0 l0.length c0) 29)).alloc (.cells #[.string ⟨m.1.toArray⟩, .int .i64 m.2.1, .int .i64 m.2.2.1, .int .i64 m.2.2.2] 26)) from ((Below.refl _ _).alloc (Nat.le_refl _) _).alloc (by simp) _)
  have cB0 := fun W (hW : Below w.heap.size w W) => BuildList_any A c Y (rm, A0, c0, l0) W (HY.out.step hW) ((H0.out.keep hW).more hW.size) (HG.out.keep hW)
  obtain ⟨E, hE⟩ : ∃ E, E = mayP (regW Y) rm l0 m := ⟨_, rfl⟩
  rw [← hE]
  unfold mayP at hE
  have hnd := fun h => reg_nodup (buildP_check (R := regW Y) (root := rm) (l := l0) h)
  simp only at cB0
  generalize buildP (regW Y) rm l0 = r at cB0 hE hnd
  obtain ⟨L, e1⟩ := r
  unfold RetB at cB0
  simp only at cB0 hE hnd
  rw [hasR_find] at hE
  have cB := Lib.hid cB0
  have HE := Lib.hid hE
  unfold manA at Q0 Q1 HB0
  clear hY h0 hG hm q1 cB0 hE
  by_cases he1 : e1 = 0
  · subst he1
    have HND := Lib.hid (hnd rfl)
    have HE1 := Lib.hid (HE.out.trans (if_pos rfl))
    clear hnd HE
    go_enter Tryd.func30, Tryd.ntmps30
    go_wp2_with fail
    refine (cB.out _ HB0.out).mono ?_
    rintro e w1 ⟨A1, c1, rfl, _, _, hb1⟩
    have HB1 := Lib.hid (HB0.out.trans (hb1.mono HB0.out.size))
    have P0 := Q0.out.keep hb1
    have P1 := Q1.out.keep hb1
    have hB1 := HB1.out
    have x0 : w1.cell? ⟨w.heap.size, 0, none⟩ = some (.string ⟨rm.1.toArray⟩) := P0.cell 0
    have y0 : w1.cell? ⟨w.heap.size + 1, 0, none⟩ = some (.string ⟨m.1.toArray⟩) := P1.cell 0
    have y1 : w1.cell? ⟨w.heap.size + 1, 1, none⟩ = some (.int .i64 m.2.1) := P1.cell 1
    have y2 : w1.cell? ⟨w.heap.size + 1, 2, none⟩ = some (.int .i64 m.2.2.1) := P1.cell 2
    have y3 : w1.cell? ⟨w.heap.size + 1, 3, none⟩ = some (.int .i64 m.2.2.2) := P1.cell 3
    have hb1s := hb1.size
    clear P0 P1 hb1 cB
    go_upto_region 4 with fail
    obtain ⟨ps, p1, p2, p3, A2, n2, c2, has, hhas, hlk⟩ : ∃ (ps : ByteArray) (p1 p2 p3 : Int) (A2 : Option Addr) (n2 c2 : Nat) (has : Bool), (has = (Y.find? fun y => decide (y.1 = m)).isSome) ∧ ∀ W gm, OMap KM W gm Y.length (findF Y) →
        (Instr.lookup 55 (.map (some gm)) (.agg #[.string ⟨m.1.toArray⟩, .int .i64 m.2.1, .int .i64 m.2.2.1, .int .i64 m.2.2.2]) true).run Tryd.prog W = .ok (.tuple #[.agg #[.string ps, .int .i64 p1, .int .i64 p2, .int .i64 p3, .slice A2 n2 c2], .bool has]) W := by
      have hff : findF Y m = (Y.find? fun y => decide (y.1 = m)).map manV := rfl
      cases hfy : Y.find? fun y => decide (y.1 = m) with
      | none =>
        rw [hfy] at hff
        exact ⟨_, _, _, _, _, _, _, _, rfl, fun W gm h => lk_none h HOK.out hff⟩
      | some y =>
        obtain ⟨m1, A2, c2, l2⟩ := y
        rw [hfy] at hff
        exact ⟨_, _, _, _, _, _, _, _, rfl, fun W gm h => lk_some h HOK.out hff⟩
    rw [← hhas] at HE1
    clear hhas
    have hz1 := hB1.size
    have hz0 := HB0.out.size
    simp only [World.size_alloc] at hz0
    have hz2 : w.heap.size + 2 ≤ w1.heap.size := by
      have := hb1s
      simp only [World.size_alloc] at this
      exact this
    refine wp_region_each (by kernel_rfl) (MayInv w1.heap.size w.heap.size w1 Y (.slice A Y.length c) (.agg #[.string ⟨rm.1.toArray⟩, .int .i64 rm.2.1, .int .i64 rm.2.2.1, .int .i64 rm.2.2.2, .slice A0 l0.length c0]) (.agg #[.string ⟨m.1.toArray⟩, .int .i64 m.2.1, .int .i64 m.2.2.1, .int .i64 m.2.2.2]) (.slice A1 L.length c1) (.tuple #[.slice A1 L.length c1, .int .i64 0]) (.agg #[.string ⟨m.1.toArray⟩, .int .i64 m.2.1, .int .i64 m.2.2.1, .int .i64 m.2.2.2]) (.agg #[.string ps, .int .i64 p1, .int .i64 p2, .int .i64 p3, .slice A2 n2 c2]) has) ?_ ?_ ?_ (by kernel_rfl) ?_
    · rintro L a w ⟨b0, b1, b2, b3, b4, b5, b6, b7, b8, b9, s9, s10, s20, s21, s22, s23, s24, s25, s26, gm, g9, rfl, _⟩
      rfl
    · exact ⟨false, false, false, false, false, false, false, false, false, false, undef, undef, undef, undef, undef, undef, undef, undef, undef, 0, 0, rfl, rfl, (Below.refl _ _).drew, by simp, by simp, by simp, by simp, by simp, by simp, by simp, by simp, by simp⟩
    · rintro i o ho L a W hn hd ⟨b0, b1, b2, b3, b4, b5, b6, b7, b8, b9, s9, s10, s20, s21, s22, s23, s24, s25, s26, gm, g9, rfl, rfl, hB, h0, h1, h2, h3, h4, h5, h6, h7, h9⟩
      have hx0 := hB.cell (p := ⟨w.heap.size + 1, 0, none⟩) (by simp; omega)
      have hx1 := hB.cell (p := ⟨w.heap.size + 1, 1, none⟩) (by simp; omega)
      have hx2 := hB.cell (p := ⟨w.heap.size + 1, 2, none⟩) (by simp; omega)
      have hx3 := hB.cell (p := ⟨w.heap.size + 1, 3, none⟩) (by simp; omega)
      rw [y0] at hx0
      rw [y1] at hx1
      rw [y2] at hx2
      rw [y3] at hx3
      have hBz := hB.size
      have hBW := HB1.out.trans (hB.mono hz1)
      match i, ho with
      | 0, ho =>
        simp at ho; subst ho
        simp only [Region.wanted, if_true]
        left
        go_simp
        exact ⟨true, b1, b2, b3, b4, b5, b6, b7, b8, b9, _, _, _, _, _, _, _, _, _, gm, g9, rfl, rfl, hB, fun _ => rfl, h1, (by first | exact h2 | exact fun _ => rfl), (by first | exact h3 | exact fun _ => rfl), (by first | exact h4 | exact fun _ => rfl), (by first | exact h5 | exact fun _ => rfl), (by first | exact h6 | exact fun _ => rfl), (by first | exact h7 | exact fun _ => rfl), (by first | exact h9 | exact fun _ => rfl)⟩
      | 1, ho =>
        simp at ho; subst ho
        simp [Region.binds] at hd
        subst hd
        obtain rfl := h0 rfl
        simp only [Region.wanted, if_true]
        left
        go_simp
        refine (selIndex_any A c Y W (HY.out.step hBW) HND.out).mono ?_
        rintro e w2 ⟨rfl, hm2, hb2⟩
        exact ⟨true, true, b2, b3, b4, b5, b6, b7, b8, b9, _, _, _, _, _, _, _, _, _, W.heap.size, g9, rfl, rfl, hB.trans (hb2.mono hBz), (by first | exact h0 | exact fun _ => rfl), fun _ => ⟨rfl, fun _ => hm2⟩, h2, h3, h4, h5, h6, fun h => by
          obtain ⟨q1, q2, c0, c1, c2, c3, c4, q3⟩ := h7 h
          exact ⟨q1, q2, c0, c1, c2, c3, c4, q3.keep hb2⟩, h9⟩
      | 2, ho =>
        simp at ho; subst ho
        simp only [Region.wanted, if_true]
        left
        go_simp
        exact ⟨b0, b1, true, b3, b4, b5, b6, b7, b8, b9, _, _, _, _, _, _, _, _, _, gm, g9, rfl, rfl, hB, (by first | exact h0 | exact fun _ => rfl), h1, fun _ => rfl, (by first | exact h3 | exact fun _ => rfl), (by first | exact h4 | exact fun _ => rfl), (by first | exact h5 | exact fun _ => rfl), (by first | exact h6 | exact fun _ => rfl), (by first | exact h7 | exact fun _ => rfl), (by first | exact h9 | exact fun _ => rfl)⟩
      | 3, ho =>
        simp at ho; subst ho
        simp [Region.binds] at hd
        obtain ⟨e1, e2⟩ := hd
        subst e1 e2
        simp at hn
        subst hn
        obtain ⟨rfl, hm⟩ := h1 rfl
        have hlk' := hlk W gm (hm rfl)
        obtain rfl := h2 rfl
        simp only [Region.wanted, if_true]
        left
        go_simp
        exact ⟨b0, true, true, true, b4, b5, b6, b7, b8, b9, _, _, _, _, _, _, _, _, _, gm, g9, rfl, rfl, hB, (by first | exact h0 | exact fun _ => rfl), fun _ => ⟨rfl, fun h => absurd h (by decide)⟩, (by first | exact h2 | exact fun _ => rfl), fun _ => rfl, (by first | exact h4 | exact fun _ => rfl), (by first | exact h5 | exact fun _ => rfl), (by first | exact h6 | exact fun _ => rfl), (by first | exact h7 | exact fun _ => rfl), (by first | exact h9 | exact fun _ => rfl)⟩
      | 4, ho =>
        simp at ho; subst ho
        simp [Region.binds] at hd
        subst hd
        obtain rfl := h3 rfl
        simp only [Region.wanted, if_true]
        left
        go_simp
        exact ⟨b0, b1, b2, true, true, b5, b6, b7, b8, b9, _, _, _, _, _, _, _, _, _, gm, g9, rfl, rfl, hB, (by first | exact h0 | exact fun _ => rfl), h1, (by first | exact h2 | exact fun _ => rfl), (by first | exact h3 | exact fun _ => rfl), fun _ => rfl, (by first | exact h5 | exact fun _ => rfl), (by first | exact h6 | exact fun _ => rfl), (by first | exact h7 | exact fun _ => rfl), (by first | exact h9 | exact fun _ => rfl)⟩
      | 5, ho =>
        simp at ho; subst ho
        simp [Region.binds] at hd
        subst hd
        obtain rfl := h4 rfl
        simp only [Region.wanted, if_true]
        left
        go_simp
        exact ⟨b0, b1, b2, b3, true, true, b6, b7, b8, b9, _, _, _, _, _, _, _, _, _, gm, g9, rfl, rfl, hB, (by first | exact h0 | exact fun _ => rfl), h1, (by first | exact h2 | exact fun _ => rfl), (by first | exact h3 | exact fun _ => rfl), (by first | exact h4 | exact fun _ => rfl), fun _ => rfl, (by first | exact h6 | exact fun _ => rfl), (by first | exact h7 | exact fun _ => rfl), (by first | exact h9 | exact fun _ => rfl)⟩
      | 6, ho =>
        simp at ho; subst ho
        simp [Region.binds] at hd
        subst hd
        obtain rfl := h4 rfl
        simp only [Region.wanted, if_true]
        left
        go_simp
        exact ⟨b0, b1, b2, b3, true, b5, true, b7, b8, b9, _, _, _, _, _, _, _, _, _, gm, g9, rfl, rfl, hB, (by first | exact h0 | exact fun _ => rfl), h1, (by first | exact h2 | exact fun _ => rfl), (by first | exact h3 | exact fun _ => rfl), (by first | exact h4 | exact fun _ => rfl), (by first | exact h5 | exact fun _ => rfl), fun _ => rfl, (by first | exact h7 | exact fun _ => rfl), (by first | exact h9 | exact fun _ => rfl)⟩
      | 7, ho =>
        simp at ho; subst ho
        simp only [Region.wanted, if_true]
        left
        go_simp
        exact ⟨b0, b1, b2, b3, b4, b5, b6, true, b8, b9, _, _, _, _, _, _, _, _, _, gm, W.heap.size, rfl, rfl, hB.alloc hBz _, (by first | exact h0 | exact fun _ => rfl), fun h => ⟨(h1 h).1, fun h3 => ((h1 h).2 h3).alloc _⟩, (by first | exact h2 | exact fun _ => rfl), (by first | exact h3 | exact fun _ => rfl), (by first | exact h4 | exact fun _ => rfl), (by first | exact h5 | exact fun _ => rfl), (by first | exact h6 | exact fun _ => rfl), fun _ => ⟨rfl, hBz, _, _, _, _, _, Blk.new _ _ _⟩, (by first | exact h9 | exact fun _ => rfl)⟩
      | 8, ho =>
        simp at ho; subst ho
        simp [Region.binds] at hd
        obtain ⟨e7, e5, e1, e0, _, e2, e3, e4, _⟩ := hd
        subst e7 e5 e1 e0 e2 e3 e4
        obtain rfl := h5 rfl
        obtain ⟨rfl, q2, c0, c1, c2, c3, c4, p3⟩ := h7 rfl
        have k0 := p3.cell 0
        have k1 := p3.cell 1
        have k2 := p3.cell 2
        have k3 := p3.cell 3
        have k4 := p3.cell 4
        have f0 := p3.free 0
        have f1 := p3.free 1
        have f2 := p3.free 2
        have f3 := p3.free 3
        have f4 := p3.free 4
        simp at k0 k1 k2 k3 k4
        simp only [Region.wanted, if_true]
        left
        go_simp
        exact ⟨true, true, true, true, true, true, b6, true, true, b9, _, _, _, _, _, _, _, _, _, gm, g9, rfl, rfl, ((((hB.setCell (p := ⟨g9, 0, none⟩) q2 _).setCell (p := ⟨g9, 1, none⟩) q2 _).setCell (p := ⟨g9, 2, none⟩) q2 _).setCell (p := ⟨g9, 3, none⟩) q2 _).setCell (p := ⟨g9, 4, none⟩) q2 _, (by first | exact h0 | exact fun _ => rfl), fun _ => ⟨by first | rfl | exact (h1 rfl).1, fun h => absurd h (by decide)⟩, (by first | exact h2 | exact fun _ => rfl), (by first | exact h3 | exact fun _ => rfl), (by first | exact h4 | exact fun _ => rfl), (by first | exact h5 | exact fun _ => rfl), (by first | exact h6 | exact fun _ => rfl), fun _ => ⟨rfl, q2, _, _, _, _, _, ((((p3.set_ 0 _).set_ 1 _).set_ 2 _).set_ 3 _).set_ 4 _⟩, (by first | exact h9 | exact fun _ => rfl)⟩
      | 9, ho =>
        simp at ho; subst ho
        simp [Region.binds] at hd
        obtain ⟨e6, e8, e0, e1, e2, e3, e4, e5, _, e7, _⟩ := hd
        subst e6 e8 e0 e1 e2 e3 e4 e5 e7
        obtain rfl := h6 rfl
        simp only [Region.wanted, if_true]
        left
        go_simp
        exact ⟨true, true, true, true, true, true, true, true, true, true, _, _, _, _, _, _, _, _, _, gm, g9, rfl, rfl, hB, (by first | exact h0 | exact fun _ => rfl), fun _ => ⟨by first | rfl | exact (h1 rfl).1, fun h => absurd h (by decide)⟩, (by first | exact h2 | exact fun _ => rfl), (by first | exact h3 | exact fun _ => rfl), (by first | exact h4 | exact fun _ => rfl), (by first | exact h5 | exact fun _ => rfl), (by first | exact h6 | exact fun _ => rfl), fun _ => by first | exact ⟨rfl, (h7 rfl).2⟩ | exact h7 rfl, fun _ => rfl⟩
      | i + 10, ho => simp at ho
    · rintro L a W hr ⟨b0, b1, b2, b3, b4, b5, b6, b7, b8, b9, s9, s10, s20, s21, s22, s23, s24, s25, s26, gm, g9, hL, rfl, hB, h0, h1, h2, h3, h4, h5, h6, h7, h9⟩
      subst hL
      obtain rfl : b9 = true := hr 9 (by decide)
      obtain rfl := h9 rfl
      have HBW := Lib.hid (HB1.out.trans (hB.mono hz1))
      have hx0 := hB.cell (p := ⟨w.heap.size, 0, none⟩) (by simp; omega)
      have hy0 := hB.cell (p := ⟨w.heap.size + 1, 0, none⟩) (by simp; omega)
      rw [x0] at hx0
      rw [y0] at hy0
      clear h0 h1 h2 h3 h4 h5 h6 h7 h9 hB hr hlk hz1 hz0 hz2 hb1s x0 y0 y1 y2 y3 hB1
      cases has
      · have HE2 := Lib.hid (HE1.out.trans (if_neg (by simp)))
        go_wp2
        go_ret
        exact ⟨by rw [HE2.out]; rfl, HBW.out⟩
      · have HE2 := Lib.hid (HE1.out.trans (if_pos rfl))
        by_cases hp : m.1 = rm.1
        · have HE3 := Lib.hid (HE2.out.trans (if_pos hp))
          have hp1 : (m.1 == rm.1) = true := by rw [hp]; exact beq_self_eq_true _
          have HP := Lib.hid hp
          clear hp
          go_wp2
          go_ret
          exact ⟨by rw [HE3.out]; rfl, HBW.out⟩
        · have HE3 := Lib.hid (HE2.out.trans (if_neg hp))
          have hp1 : (m.1 == rm.1) = false := beq_eq_false_iff_ne.2 hp
          have HP := Lib.hid hp
          clear hp
          go_wp2
          go_ret
          exact ⟨by rw [HE3.out]; rfl, HBW.out⟩
  · have he : (e1 != 0) = true := by simpa using he1
    have HE1 := Lib.hid (HE.out.trans (if_neg he1))
    clear HE he1 hnd
    go_enter Tryd.func30, Tryd.ntmps30
    go_wp2_with fail
    refine (cB.out _ HB0.out).mono ?_
    rintro e w1 ⟨A1, c1, rfl, _, _, hb1⟩
    have HB1 := Lib.hid (HB0.out.trans (hb1.mono HB0.out.size))
    clear hb1 cB
    go_wp2
    go_ret
    exact ⟨by rw [HE1.out]; rfl, HB1.out⟩
end Go.Proofs.YtfiilbdkhelhgaaDoor
