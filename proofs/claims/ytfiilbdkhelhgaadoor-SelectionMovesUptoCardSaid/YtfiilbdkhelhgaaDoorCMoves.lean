/- The law SelectionMoves holds of every registry, root and module of bulk at most 1048576: the tied card of the second form. No condition beside the row's own. -/
import Derived.Test.YtfiilbdkhelhgaaDoorG2
import Derived.Test.YtfiilbdkhelhgaaDoorOpen2
import Derived.Test.YtfiilbdkhelhgaaDoorWH1
import Derived.Test.YtfiilbdkhelhgaaDoorWL3
import Derived.Test.YtfiilbdkhelhgaaDoorWU2
import Derived.Test.YtfiilbdkhelhgaaDoorPL9
import Derived.Test.YtfiilbdkhelhgaaDoorLA6
import Derived.Test.YtfiilbdkhelhgaaDoorLB6
namespace Go.Proofs.YtfiilbdkhelhgaaDoor.lawMoves
open Go.ChangeShapes Go.WideShapes Go.ChangeAt Go.RowKit
open Go.ChangeMaps (open_string shut_string)

theorem upgradeP_okB {R : Regy} {root m : Mod} {l : List Mod} (hl : ∀ x ∈ l, okB x) (hm : okB m) : ∀ x ∈ (upgradeP R root l m).1.2, okB x := by
  intro x hx
  unfold upgradeP at hx
  split at hx
  · split at hx
    · rcases upL_mem (msort_mem.1 hx) with h | rfl
      · exact hl x h
      · exact hm
    · simp at hx
  · simp at hx
theorem downP_okB {R : Regy} {root m : Mod} {l : List Mod} (hR : ∀ y ∈ R, okB y.1) : ∀ x ∈ (downP R root l m).1.2, okB x := by
  intro x hx
  unfold downP at hx
  split at hx
  · have h1 : x ∈ downL R root.1 m l := msort_mem.1 hx
    unfold downL at h1
    obtain ⟨y, _, h2⟩ := List.mem_filterMap.1 h1
    obtain ⟨z, hz, rfl⟩ := List.mem_map.1 (downB_some h2).1
    exact hR z hz
  · simp at hx
theorem build64 {R : Regy} {root : Mod} {l : List Mod} (h : (buildP R root l).2 = 0) : l.length ≤ 64 := (mcheck_ok root l (buildP_ok h).2.1).1
/-- what is asked of an upgraded root -/
theorem up_ok {R : Regy} {root m : Mod} {l o : List Mod} {M : Mod} (h : upgradeP R root l m = ((M, o), 0)) : M = root ∧ (buildP R root o).2 = 0 ∧ ∃ g, hasV (buildP R root o).1 m.1 = some g ∧ 0 ≤ vcmpV g.2 m.2 := by
  obtain ⟨o', h1, h2, h3⟩ := upgradeP_ok (R := R) (root := root) (m := m) (l := l) (by rw [h])
  rw [h] at h1
  injection h1 with h4
  injection h4 with h5 h6
  subst h5 h6
  exact ⟨rfl, h2, h3⟩
theorem down_ok {R : Regy} {root m : Mod} {l o : List Mod} {M : Mod} (h : downP R root l m = ((M, o), 0)) : M = root ∧ (buildP R root o).2 = 0 ∧ (∀ g, hasV (buildP R root o).1 m.1 = some g → vcmpV g.2 m.2 ≤ 0) ∧ o.length ≤ l.length := by
  obtain ⟨o', h1, h2, h3, h7⟩ := downP_ok (R := R) (root := root) (m := m) (l := l) (by rw [h])
  rw [h] at h1
  injection h1 with h4
  injection h4 with h5 h6
  subst h5 h6
  exact ⟨rfl, h2, h3, h7⟩
set_option maxRecDepth 100000 in
set_option maxHeartbeats 4000000 in
theorem walk (A : Option Addr) (c : Nat) (L : List ManW) (y0 : ManW) (x : Mod) (w : World) (hS : Sl w w.heap.size 5 encW A L) (hO : ∀ y ∈ L, inW w 1048576 y) (hl : L.length ≤ 1048576) (hO1 : inW w 1048576 y0) (hO2 : x.1.length ≤ 1048576 ∧ okI x.2.1 ∧ okI x.2.2.1 ∧ okI x.2.2.2) (hG : Glob w) :
    Calls Tryd.prog 7 #[.slice A L.length c, .agg (encW y0).toArray, .agg (encM x).toArray] w fun e w' => e = .returned (.bool true) ∧ Below w.heap.size w w' := by
  have HL := Lib.hid (reg_in hS hO hl)
  have H1 := Lib.hid (man_in hO1)
  have HG := Lib.hid hG
  have HX := Lib.hid (show okB x from hO2)
  clear hS hO hG hl hO1 hO2
  have HB0 := Lib.hid (show Below w.heap.size w ((w.alloc (.cells (encW y0).toArray 29)).alloc (.cells (encM x).toArray 26)) from ((Below.refl _ _).alloc (Nat.le_refl _) _).alloc (by simp) _)
  have Q0 := Lib.hid ((Blk.new w 29 (encW y0).toArray).keep ((Below.refl _ _).alloc (Nat.le_refl _) (.cells (encM x).toArray 26)))
  have r0 := Blk.new (w.alloc (.cells (encW y0).toArray 29)) 26 (encM x).toArray
  rw [World.size_alloc] at r0
  have R0 := Lib.hid r0
  have cS := Lib.hid (fun W (hW : Below w.heap.size w W) => small_any A c L y0 W (HL.out.step hW) (H1.out.step hW))
  have HOK := Lib.hid (fun (h : smallP (regW L) ∧ smallP [plainW y0]) W (hW : Below w.heap.size w W) => (HL.out.ok h.1).step hW)
  have HOM := Lib.hid (fun (h : smallP (regW L) ∧ smallP [plainW y0]) => H1.out.ok h.2)
  have cX := Lib.hid (fun W (hW : Below w.heap.size w W) => example_any W (HG.out.keep hW))
  have hlen0 : y0.2.2.2.length ≤ 1048576 := H1.out.2.1
  obtain ⟨rm, A0, c0, l0⟩ := y0
  simp only at cS HOM hlen0
  generalize (smallP (regW L) ∧ smallP [plainW (rm, A0, c0, l0)]) = P at cS HOK HOM
  simp only [encW, encM] at Q0 HB0 R0 ⊢
  clear r0
  go_enter Tryd.func7, Tryd.ntmps7
  go_wp2_with fail
  refine (cS.out _ HB0.out).mono ?_
  rintro e w1 ⟨b, rfl, hbi, hb1⟩
  have HB1 := Lib.hid (HB0.out.trans (hb1.mono HB0.out.size))
  have Q1 := Lib.hid (Q0.out.keep hb1)
  have R1 := Lib.hid (R0.out.keep hb1)
  have HBI := Lib.hid hbi
  clear hb1 hbi cS
  cases b
  · go_wp2_with fail
    refine (cX.out _ HB1.out).mono ?_
    rintro e w2 ⟨rfl, hb2⟩
    have HB2 := Lib.hid (HB1.out.trans (hb2.mono HB1.out.size))
    clear hb2 cX
    go_wp2
    go_ret
    exact ⟨rfl, HB2.out⟩
  · have HP := Lib.hid (show P from by have h := HBI.out; simpa using h)
    clear HBI
    have HR := Lib.hid (fun W (hW : Below w.heap.size w W) => HOK.out HP.out W hW)
    have HM0 := Lib.hid (HOM.out HP.out)
    have hLl : L.length ≤ 100 := (HR.out _ (Below.refl _ _)).2.2
    have HRB := Lib.hid (show ∀ y ∈ regW L, okB y.1 from fun y hy => by
      obtain ⟨u, hu, rfl⟩ := List.mem_map.1 hy
      exact ((HR.out _ (Below.refl _ _)).2.1 u hu).2.2 _ (by simp [plainW]))
    have HMB := Lib.hid (show ∀ y ∈ l0, okB y from fun y hy => HM0.out.2.2 _ (List.mem_cons_of_mem _ hy))
    have HRM := Lib.hid (show okB rm from HM0.out.2.2 _ (by simp))
    have HUB := Lib.hid (upgradeP_okB (R := regW L) (root := rm) HMB.out HX.out)
    have HDB := Lib.hid (downP_okB (R := regW L) (root := rm) (m := x) (l := l0) HRB.out)
    have HUO := Lib.hid (fun (o : List Mod) (M : Mod) (h : upgradeP (regW L) rm l0 x = ((M, o), 0)) => up_ok h)
    have HDO := Lib.hid (fun (o : List Mod) (M : Mod) (h : downP (regW L) rm l0 x = ((M, o), 0)) => down_ok h)
    have cU := Lib.hid (fun W (hW : Below w.heap.size w W) => Upgrade_any A c L (rm, A0, c0, l0) x W (HR.out W hW) ((HM0.out.keep hW).more hW.size) HX.out (HG.out.keep hW))
    have cD := Lib.hid (fun W (hW : Below w.heap.size w W) => Downgrade_any A c L (rm, A0, c0, l0) x W (HR.out W hW) ((HM0.out.keep hW).more hW.size) HX.out (HG.out.keep hW))
    have cBL := Lib.hid (fun (A1 : Option Addr) (c1 : Nat) (o : List Mod) (ho : ∀ y ∈ o, okB y) (hn : o.length ≤ 100) W (hW : Below w.heap.size w W) (hS : Sl W W.heap.size 4 encM A1 o) => BuildList_any A c L (rm, A1, c1, o) W (HR.out W hW) ⟨hS, hn, fun y hy => by
      rcases List.mem_cons.1 hy with rfl | hy
      · exact HRM.out
      · exact ho y hy⟩ (HG.out.keep hW))
    have HBl := Lib.hid (fun (o : List Mod) (hn : o.length ≤ 100) => show (buildP (regW L) rm o).1.length ≤ 100000 from by
      have h1 := buildP_len (regW L) rm o
      have h2 := univ_len (regW L) o (by simpa [regW] using hLl) (fun z hz => by
        obtain ⟨y, hy, rfl⟩ := List.mem_map.1 hz
        exact ((HR.out _ (Below.refl _ _)).2.1 y hy).2.1)
      omega)
    simp only at cU cD cBL
    generalize upgradeP (regW L) rm l0 x = r at cU HUB HUO
    generalize downP (regW L) rm l0 x = q at cD HDB HDO
    unfold RetMF at cU cD
    obtain ⟨⟨m1, D1⟩, e1⟩ := r
    obtain ⟨⟨m2, D2⟩, e2⟩ := q
    simp only at cU cD HUB HDB
    obtain ⟨y0, y1, y2, y3, y4⟩ := manC Q1.out
    obtain ⟨v0, v1, v2, v3⟩ := modC R1.out
    go_wp2_with fail
    refine (cU.out _ HB1.out).mono ?_
    rintro e w2 ⟨A2, c2, rfl, hS2, _, hb2⟩
    have HX2 := Lib.hid (HB1.out.trans (hb2.mono HB1.out.size))
    have HA2 := Lib.hid (show Below w2.heap.size w2 (w2.alloc (.cells #[.string ⟨m1.1.toArray⟩, .int .i64 m1.2.1, .int .i64 m1.2.2.1, .int .i64 m1.2.2.2, .slice A2 D1.length c2] 29)) from (Below.refl _ _).alloc (Nat.le_refl _) _)
    have HB2 := Lib.hid (HX2.out.trans (HA2.out.mono HX2.out.size))
    have Q2 := Lib.hid ((Q1.out.keep hb2).keep HA2.out)
    have R2 := Lib.hid ((R1.out.keep hb2).keep HA2.out)
    have S2 := Lib.hid ((hS2.below HA2.out).more HA2.out.size)
    have BB2 := Lib.hid (Blk.new w2 29 (manA m1 A2 D1.length c2))
    unfold manA at BB2
    clear hb2 cU y0 y1 y2 y3 y4 v0 v1 v2 v3 hS2
    by_cases he1 : e1 = 0
    · obtain ⟨rfl, hbd, hgd⟩ := HUO.out D1 m1 (by rw [he1])
      have hd64 : D1.length ≤ 64 := build64 hbd
      subst he1
      have cB2 := cBL.out A2 c2 D1 HUB.out (by omega) _ HB2.out S2.out
      have hbl2 := HBl.out D1 (by omega)
      generalize hbp : buildP (regW L) m1 D1 = bp at cB2 hbd hgd hbl2
      unfold RetB at cB2
      obtain ⟨bl, e3⟩ := bp
      simp only at cB2 hbd hgd hbl2
      subst hbd
      obtain ⟨g, hg1, hg2⟩ := hgd
      have cB2h := Lib.hid cB2
      obtain ⟨z0, z1, z2, z3, z4⟩ := manC BB2.out
      clear cB2 hbp
      go_wp2_with fail
      refine cB2h.out.mono ?_
      rintro e w3 ⟨A3, c3, rfl, _, hS3, hb3⟩
      have HB3 := Lib.hid (HB2.out.trans (hb3.mono HB2.out.size))
      have R3 := Lib.hid (R2.out.keep hb3)
      have Q3 := Lib.hid (Q2.out.keep hb3)
      have cH0 := has_any A3 c3 bl x.1 w3 hS3 (by omega)
      rw [hg1] at cH0
      have cH := Lib.hid (show Calls Tryd.prog 20 #[.slice A3 bl.length c3, .string ⟨x.1.toArray⟩] w3 fun e w' => e = .returned (.tuple #[.agg #[.int .i64 g.2.1, .int .i64 g.2.2.1, .int .i64 g.2.2.2], .bool true]) ∧ Below w3.heap.size w3 w' from cH0)
      obtain ⟨v0, v1, v2, v3⟩ := modC R3.out
      clear hb3 hS3 cH0 cB2h z0 z1 z2 z3 z4 hg1
      go_wp2_with fail
      refine cH.out.mono ?_
      rintro e w4 ⟨rfl, hb4⟩
      have HX4 := Lib.hid (HB3.out.trans (hb4.mono HB3.out.size))
      have HA4 := Lib.hid (show Below w4.heap.size w4 (w4.alloc (.cells #[.int .i64 g.2.1, .int .i64 g.2.2.1, .int .i64 g.2.2.2] 24)) from (Below.refl _ _).alloc (Nat.le_refl _) _)
      have V4 := Lib.hid (Blk.new w4 24 #[.int .i64 g.2.1, .int .i64 g.2.2.1, .int .i64 g.2.2.2])
      have HB4 := Lib.hid (HX4.out.trans (HA4.out.mono HX4.out.size))
      have R4 := Lib.hid ((R3.out.keep hb4).keep HA4.out)
      have Q4 := Lib.hid ((Q3.out.keep hb4).keep HA4.out)
      clear hb4 cH v0 v1 v2 v3
      obtain ⟨v0, v1, v2, v3⟩ := modC R4.out
      have t0 := V4.out.cell 0
      have t1 := V4.out.cell 1
      have t2 := V4.out.cell 2
      simp at t0 t1 t2
      have cc0 : ∀ W, Calls Tryd.prog 21 #[.agg #[.int .i64 g.2.1, .int .i64 g.2.2.1, .int .i64 g.2.2.2], .agg #[.int .i64 x.2.1, .int .i64 x.2.2.1, .int .i64 x.2.2.2]] W fun e w' => e = .returned (.int .i64 (vcmpV g.2 x.2)) ∧ Below W.heap.size W w' := fun W => refCompare_any _ _ _ _ _ _ W
      generalize vcmpV g.2 x.2 = d at cc0 hg2
      have hg3 : ¬ d < 0 := by omega
      have cm := Lib.hid cc0
      clear cc0 hg2
      go_wp2_with fail
      refine (cm.out _).mono ?_
      rintro e w5 ⟨rfl, hb5⟩
      have HB5 := Lib.hid (HB4.out.trans (hb5.mono HB4.out.size))
      have Q5 := Lib.hid (Q4.out.keep hb5)
      have R5 := Lib.hid (R4.out.keep hb5)
      clear hb5 cm v0 v1 v2 v3 t0 t1 t2
      obtain ⟨y0, y1, y2, y3, y4⟩ := manC Q5.out
      obtain ⟨v0, v1, v2, v3⟩ := modC R5.out
      go_wp2_with fail
      refine (cD.out _ HB5.out).mono ?_
      rintro e w6 ⟨A6, c6, rfl, hS6, _, hb6⟩
      have HX6 := Lib.hid (HB5.out.trans (hb6.mono HB5.out.size))
      have HA6 := Lib.hid (show Below w6.heap.size w6 (w6.alloc (.cells #[.string ⟨m2.1.toArray⟩, .int .i64 m2.2.1, .int .i64 m2.2.2.1, .int .i64 m2.2.2.2, .slice A6 D2.length c6] 29)) from (Below.refl _ _).alloc (Nat.le_refl _) _)
      have HB6 := Lib.hid (HX6.out.trans (HA6.out.mono HX6.out.size))
      have Q6 := Lib.hid ((Q5.out.keep hb6).keep HA6.out)
      have R6 := Lib.hid ((R5.out.keep hb6).keep HA6.out)
      have S6 := Lib.hid ((hS6.below HA6.out).more HA6.out.size)
      have BB6 := Lib.hid (Blk.new w6 29 (manA m2 A6 D2.length c6))
      unfold manA at BB6
      clear hb6 cD y0 y1 y2 y3 y4 v0 v1 v2 v3 hS6
      by_cases he2 : e2 = 0
      · have hd := HDO.out D2 m2 (by rw [he2])
        obtain ⟨rfl, hbd, hgd, hld⟩ := hd
        have hd64 : D2.length ≤ 64 := build64 hbd
        subst he2
        have cB6 := cBL.out A6 c6 D2 HDB.out (by omega) _ HB6.out S6.out
        have hbl6 := HBl.out D2 (by omega)
        generalize buildP (regW L) m2 D2 = bp at cB6 hbd hgd hbl6
        unfold RetB at cB6
        obtain ⟨bl, e3⟩ := bp
        simp only at cB6 hbd hgd hbl6
        subst hbd
        have HGD := Lib.hid hgd
        have cB6h := Lib.hid cB6
        obtain ⟨z0, z1, z2, z3, z4⟩ := manC BB6.out
        clear hgd cB6
        go_wp2_with fail
        refine cB6h.out.mono ?_
        rintro e w7 ⟨A7, c7, rfl, _, hS7, hb7⟩
        have HB7 := Lib.hid (HB6.out.trans (hb7.mono HB6.out.size))
        have R7 := Lib.hid (R6.out.keep hb7)
        have Q7 := Lib.hid (Q6.out.keep hb7)
        have BB7 := Lib.hid (BB6.out.keep hb7)
        have cH0 := has_any A7 c7 bl x.1 w7 hS7 (by omega)
        unfold RetH at cH0
        generalize hasV bl x.1 = hv at cH0 HGD
        have cH := Lib.hid cH0
        obtain ⟨v0, v1, v2, v3⟩ := modC R7.out
        clear hb7 hS7 cH0 cB6h z0 z1 z2 z3 z4
        go_wp2_with fail
        refine cH.out.mono ?_
        rintro e w8 ⟨rfl, hb8⟩
        have HB8 := Lib.hid (HB7.out.trans (hb8.mono HB7.out.size))
        obtain ⟨g, hg⟩ : ∃ g, g = hv.getD zmod := ⟨_, rfl⟩
        rw [← hg]
        have HGG := Lib.hid hg
        have HA8 := Lib.hid (show Below w8.heap.size w8 (w8.alloc (.cells #[.int .i64 g.2.1, .int .i64 g.2.2.1, .int .i64 g.2.2.2] 24)) from (Below.refl _ _).alloc (Nat.le_refl _) _)
        have V8 := Lib.hid (Blk.new w8 24 #[.int .i64 g.2.1, .int .i64 g.2.2.1, .int .i64 g.2.2.2])
        have HB9 := Lib.hid (HB8.out.trans (HA8.out.mono HB8.out.size))
        have R9 := Lib.hid ((R7.out.keep hb8).keep HA8.out)
        have Q9 := Lib.hid ((Q7.out.keep hb8).keep HA8.out)
        have BB9 := Lib.hid ((BB7.out.keep hb8).keep HA8.out)
        clear hb8 cH v0 v1 v2 v3 hg
        obtain ⟨y0, y1, y2, y3, y4⟩ := manC Q9.out
        obtain ⟨z0, z1, z2, z3, z4⟩ := manC BB9.out
        obtain ⟨v0, v1, v2, v3⟩ := modC R9.out
        have t0 := V8.out.cell 0
        have t1 := V8.out.cell 1
        have t2 := V8.out.cell 2
        simp at t0 t1 t2
        have hldi : ¬ (l0.length : Int) < (D2.length : Int) := by omega
        cases hv with
        | none =>
          clear HGD HGG
          go_wp2_with fail
          refine (cX.out _ HB9.out).mono ?_
          rintro e w10 ⟨rfl, hb10⟩
          have HBF := Lib.hid (HB9.out.trans (hb10.mono HB9.out.size))
          clear hb10 cX
          go_wp2
          go_ret
          exact ⟨rfl, HBF.out⟩
        | some u =>
          obtain rfl : g = u := HGG.out
          have hle := HGD.out g rfl
          have cc0 : ∀ W, Calls Tryd.prog 21 #[.agg #[.int .i64 g.2.1, .int .i64 g.2.2.1, .int .i64 g.2.2.2], .agg #[.int .i64 x.2.1, .int .i64 x.2.2.1, .int .i64 x.2.2.2]] W fun e w' => e = .returned (.int .i64 (vcmpV g.2 x.2)) ∧ Below W.heap.size W w' := fun W => refCompare_any _ _ _ _ _ _ W
          generalize vcmpV g.2 x.2 = d at cc0 hle
          have hle2 : ¬ (0 : Int) < d := by omega
          have cm := Lib.hid cc0
          clear HGD HGG cc0 hle
          go_wp2_with fail
          refine (cm.out _).mono ?_
          rintro e w10 ⟨rfl, hb10⟩
          have HB10 := Lib.hid (HB9.out.trans (hb10.mono HB9.out.size))
          have Q10 := Lib.hid (Q9.out.keep hb10)
          have BB10 := Lib.hid (BB9.out.keep hb10)
          clear hb10 cm y0 y1 y2 y3 y4 z0 z1 z2 z3 z4 v0 v1 v2 v3 t0 t1 t2
          obtain ⟨y0, y1, y2, y3, y4⟩ := manC Q10.out
          obtain ⟨z0, z1, z2, z3, z4⟩ := manC BB10.out
          go_wp2_with fail
          refine (cX.out _ HB10.out).mono ?_
          rintro e w11 ⟨rfl, hb11⟩
          have HBF := Lib.hid (HB10.out.trans (hb11.mono HB10.out.size))
          clear hb11 cX
          go_wp2
          go_ret
          exact ⟨rfl, HBF.out⟩
      · have he : (e2 == 0) = false := by simpa using he2
        clear he2
        go_wp2_with fail
        refine (cX.out _ HB6.out).mono ?_
        rintro e w10 ⟨rfl, hb10⟩
        have HBF := Lib.hid (HB6.out.trans (hb10.mono HB6.out.size))
        clear hb10 cX
        go_wp2
        go_ret
        exact ⟨rfl, HBF.out⟩
    · have he : (e1 == 0) = false := by simpa using he1
      clear he1
      obtain ⟨y0, y1, y2, y3, y4⟩ := manC Q2.out
      obtain ⟨v0, v1, v2, v3⟩ := modC R2.out
      go_wp2_with fail
      refine (cD.out _ HB2.out).mono ?_
      rintro e w6 ⟨A6, c6, rfl, hS6, _, hb6⟩
      have HX6 := Lib.hid (HB2.out.trans (hb6.mono HB2.out.size))
      have HA6 := Lib.hid (show Below w6.heap.size w6 (w6.alloc (.cells #[.string ⟨m2.1.toArray⟩, .int .i64 m2.2.1, .int .i64 m2.2.2.1, .int .i64 m2.2.2.2, .slice A6 D2.length c6] 29)) from (Below.refl _ _).alloc (Nat.le_refl _) _)
      have HB6 := Lib.hid (HX6.out.trans (HA6.out.mono HX6.out.size))
      have Q6 := Lib.hid ((Q2.out.keep hb6).keep HA6.out)
      have R6 := Lib.hid ((R2.out.keep hb6).keep HA6.out)
      have S6 := Lib.hid ((hS6.below HA6.out).more HA6.out.size)
      have BB6 := Lib.hid (Blk.new w6 29 (manA m2 A6 D2.length c6))
      unfold manA at BB6
      clear hb6 cD y0 y1 y2 y3 y4 v0 v1 v2 v3 hS6
      by_cases he2 : e2 = 0
      · have hd := HDO.out D2 m2 (by rw [he2])
        obtain ⟨rfl, hbd, hgd, hld⟩ := hd
        have hd64 : D2.length ≤ 64 := build64 hbd
        subst he2
        have cB6 := cBL.out A6 c6 D2 HDB.out (by omega) _ HB6.out S6.out
        have hbl6 := HBl.out D2 (by omega)
        generalize buildP (regW L) m2 D2 = bp at cB6 hbd hgd hbl6
        unfold RetB at cB6
        obtain ⟨bl, e3⟩ := bp
        simp only at cB6 hbd hgd hbl6
        subst hbd
        have HGD := Lib.hid hgd
        have cB6h := Lib.hid cB6
        obtain ⟨z0, z1, z2, z3, z4⟩ := manC BB6.out
        clear hgd cB6
        go_wp2_with fail
        refine cB6h.out.mono ?_
        rintro e w7 ⟨A7, c7, rfl, _, hS7, hb7⟩
        have HB7 := Lib.hid (HB6.out.trans (hb7.mono HB6.out.size))
        have R7 := Lib.hid (R6.out.keep hb7)
        have Q7 := Lib.hid (Q6.out.keep hb7)
        have BB7 := Lib.hid (BB6.out.keep hb7)
        have cH0 := has_any A7 c7 bl x.1 w7 hS7 (by omega)
        unfold RetH at cH0
        generalize hasV bl x.1 = hv at cH0 HGD
        have cH := Lib.hid cH0
        obtain ⟨v0, v1, v2, v3⟩ := modC R7.out
        clear hb7 hS7 cH0 cB6h z0 z1 z2 z3 z4
        go_wp2_with fail
        refine cH.out.mono ?_
        rintro e w8 ⟨rfl, hb8⟩
        have HB8 := Lib.hid (HB7.out.trans (hb8.mono HB7.out.size))
        obtain ⟨g, hg⟩ : ∃ g, g = hv.getD zmod := ⟨_, rfl⟩
        rw [← hg]
        have HGG := Lib.hid hg
        have HA8 := Lib.hid (show Below w8.heap.size w8 (w8.alloc (.cells #[.int .i64 g.2.1, .int .i64 g.2.2.1, .int .i64 g.2.2.2] 24)) from (Below.refl _ _).alloc (Nat.le_refl _) _)
        have V8 := Lib.hid (Blk.new w8 24 #[.int .i64 g.2.1, .int .i64 g.2.2.1, .int .i64 g.2.2.2])
        have HB9 := Lib.hid (HB8.out.trans (HA8.out.mono HB8.out.size))
        have R9 := Lib.hid ((R7.out.keep hb8).keep HA8.out)
        have Q9 := Lib.hid ((Q7.out.keep hb8).keep HA8.out)
        have BB9 := Lib.hid ((BB7.out.keep hb8).keep HA8.out)
        clear hb8 cH v0 v1 v2 v3 hg
        obtain ⟨y0, y1, y2, y3, y4⟩ := manC Q9.out
        obtain ⟨z0, z1, z2, z3, z4⟩ := manC BB9.out
        obtain ⟨v0, v1, v2, v3⟩ := modC R9.out
        have t0 := V8.out.cell 0
        have t1 := V8.out.cell 1
        have t2 := V8.out.cell 2
        simp at t0 t1 t2
        have hldi : ¬ (l0.length : Int) < (D2.length : Int) := by omega
        cases hv with
        | none =>
          clear HGD HGG
          go_wp2_with fail
          refine (cX.out _ HB9.out).mono ?_
          rintro e w10 ⟨rfl, hb10⟩
          have HBF := Lib.hid (HB9.out.trans (hb10.mono HB9.out.size))
          clear hb10 cX
          go_wp2
          go_ret
          exact ⟨rfl, HBF.out⟩
        | some u =>
          obtain rfl : g = u := HGG.out
          have hle := HGD.out g rfl
          have cc0 : ∀ W, Calls Tryd.prog 21 #[.agg #[.int .i64 g.2.1, .int .i64 g.2.2.1, .int .i64 g.2.2.2], .agg #[.int .i64 x.2.1, .int .i64 x.2.2.1, .int .i64 x.2.2.2]] W fun e w' => e = .returned (.int .i64 (vcmpV g.2 x.2)) ∧ Below W.heap.size W w' := fun W => refCompare_any _ _ _ _ _ _ W
          generalize vcmpV g.2 x.2 = d at cc0 hle
          have hle2 : ¬ (0 : Int) < d := by omega
          have cm := Lib.hid cc0
          clear HGD HGG cc0 hle
          go_wp2_with fail
          refine (cm.out _).mono ?_
          rintro e w10 ⟨rfl, hb10⟩
          have HB10 := Lib.hid (HB9.out.trans (hb10.mono HB9.out.size))
          have Q10 := Lib.hid (Q9.out.keep hb10)
          have BB10 := Lib.hid (BB9.out.keep hb10)
          clear hb10 cm y0 y1 y2 y3 y4 z0 z1 z2 z3 z4 v0 v1 v2 v3 t0 t1 t2
          obtain ⟨y0, y1, y2, y3, y4⟩ := manC Q10.out
          obtain ⟨z0, z1, z2, z3, z4⟩ := manC BB10.out
          go_wp2_with fail
          refine (cX.out _ HB10.out).mono ?_
          rintro e w11 ⟨rfl, hb11⟩
          have HBF := Lib.hid (HB10.out.trans (hb11.mono HB10.out.size))
          clear hb11 cX
          go_wp2
          go_ret
          exact ⟨rfl, HBF.out⟩
      · have he : (e2 == 0) = false := by simpa using he2
        clear he2
        go_wp2_with fail
        refine (cX.out _ HB6.out).mono ?_
        rintro e w10 ⟨rfl, hb10⟩
        have HBF := Lib.hid (HB6.out.trans (hb10.mono HB6.out.size))
        clear hb10 cX
        go_wp2
        go_ret
        exact ⟨rfl, HBF.out⟩

set_option maxRecDepth 100000 in
theorem contract (H : Type) (enc : TypeId × Value → H) (W : World) (base : Nat) (args : Array Value) (ds gs : List (DataW H)) (before : List MemPlace)
    (hval : ∀ (j : Nat) t v, Tryd.f7.params[j]? = some t → args[j]? = some v → Value.okWide Tryd.prog W .any base t v)
    (hW : DataW.Whole enc Tryd.prog Tryd.f7.params.toList Rows.selectionMovesSpec.vars false W args.toList ds gs before) (hk : Rows.uptoSmall H (ds ++ gs) = true) (hG : Glob W) :
    Calls Tryd.prog 7 args W fun e W' => ∃ v, e = .returned v ∧ Rows.selectionMovesSpec.post enc Tryd.prog Tryd.f7 false true false false W args v W' := by
  have hW' := hW
  obtain ⟨p, q, hA0, hV, rfl, hfz, hnd⟩ := hW
  have hA : DataW.TrodAll enc Tryd.prog W 0 (fun _ => true) true Tryd.f7.params.toList args.toList ds p := hA0
  rw [Tryd.params7] at hA hval
  obtain ⟨v0, vs0, d0, ds0, p0, q0, hargs, rfl, rfl, h0, r0⟩ := trodAll_cons hA
  obtain ⟨v1, vs1, d1, ds1, p1, q1, rfl, rfl, rfl, h1, r1⟩ := trodAll_cons r0
  obtain ⟨v2, vs2, d2, ds2, p2, q2, rfl, rfl, rfl, h2, r2⟩ := trodAll_cons r1
  obtain ⟨rfl, rfl, rfl⟩ := trodAll_nil r2
  obtain rfl : args = #[v0, v1, v2] := by cases args; simp_all
  obtain ⟨rfl, rfl⟩ := trodVars_none hV
  obtain ⟨A0, c0, L0, rfl, hS0, hO0, _, hN0⟩ := open_sl Tryd.underlying22 (opens_manifests W 1048576) (hval 0 22 v0 rfl rfl) h0 (by have := bulk_of hk; simp only [List.append_nil, Rows.uptoBulkAll] at this; omega)
  have hl0 : L0.length ≤ 1048576 := by omega
  obtain ⟨r1x, rfl, hO1⟩ := open_st Tryd.underlying29 (opens_manifest W 1048576) (hval 1 29 v1 rfl rfl) h1 (by have := bulk_of hk; simp only [List.append_nil, Rows.uptoBulkAll] at this; omega)
  obtain ⟨r2x, rfl, hO2⟩ := open_st Tryd.underlying26 (opens_module W 1048576) (hval 2 26 v2 rfl rfl) h2 (by have := bulk_of hk; simp only [List.append_nil, Rows.uptoBulkAll] at this; omega)
  clear hA0
  have hw := walk A0 c0 L0 r1x r2x W hS0 hO0 hl0 hO1 hO2 hG
  refine hw.mono fun e W' ⟨he, hb⟩ => ?_
  subst he
  exact ⟨_, rfl, law_post hW' rfl (by kernel_rfl) (by kernel_rfl) rfl rfl rfl hb⟩

set_option maxRecDepth 100000 in
theorem reads (os : Os) {H : Type} (enc : TypeId × Value → H) : ∃ places, DataW.whole enc Tryd.prog ((laidWorld os).forCall (fun _ _ => 0) ⟨#[], #[.slice none 0 0, .agg #[.string ByteArray.empty, .int .i64 0, .int .i64 0, .int .i64 0, .slice none 0 0], .agg #[.string ByteArray.empty, .int .i64 0, .int .i64 0, .int .i64 0]], []⟩).memory Tryd.f7.params.toList Rows.selectionMovesSpec.vars false (#[.slice none 0 0, .agg #[.string ByteArray.empty, .int .i64 0, .int .i64 0, .int .i64 0, .slice none 0 0], .agg #[.string ByteArray.empty, .int .i64 0, .int .i64 0, .int .i64 0]] : Array Value).toList 8 = some ([.nil, .agg [.agg [.lit (.string []), .agg [.lit (.int .i64 0), .lit (.int .i64 0), .lit (.int .i64 0)]], .nil], .agg [.lit (.string []), .agg [.lit (.int .i64 0), .lit (.int .i64 0), .lit (.int .i64 0)]]], [], places) :=
  ⟨[], by kernel_rfl⟩

set_option maxRecDepth 100000 in
theorem lifted (os : Os) (started : os.Started) (H : Type) (enc : TypeId × Value → H) (F : Stop.Interp) :
    ReturnsInHanded {} Tryd.checked os 7 .any ((Rows.OpenSpec.upto Rows.selectionMovesSpec).preRow enc Tryd.prog Tryd.f7 Rows.selectionMovesUptoRow.domain false Rows.selectionMovesUptoRow.laid) (((Rows.OpenSpec.upto Rows.selectionMovesSpec).at F).post enc Tryd.prog Tryd.f7 false true false false) := by
  obtain ⟨places, hx⟩ := reads os enc
  refine returnsInHanded_of_row (C := Tryd.checked) (s := Rows.OpenSpec.upto Rows.selectionMovesSpec) own started (by kernel_rfl) Tryd.func7
    (witness_row_at (enc := enc) (C := Tryd.checked) false (laidWorld os) #[.slice none 0 0, .agg #[.string ByteArray.empty, .int .i64 0, .int .i64 0, .int .i64 0, .slice none 0 0], .agg #[.string ByteArray.empty, .int .i64 0, .int .i64 0, .int .i64 0]] (World.laidAll_os _ _ _) (by kernel_rfl) (by kernel_rfl) (by kernel_rfl)
      (OpenSpec.preRow_of_cond 8 hx (by kernel_rfl) (fun k hk => by cases hk; kernel_rfl) (by kernel_rfl) (laid_met os _))) ?_
  intro W base args ds gs before hval hW _ hcond _ hL hsh _
  exact contract H enc W base args ds gs before hval hW (hcond _ rfl) (glob_of hL hsh)

set_option maxRecDepth 100000 in
theorem said : Rows.SelectionMovesUptoSaid :=
  OpenClaim.holds_of_cond 7 Tryd.f7 rfl rfl rfl rfl rfl rfl rfl ⟨rfl, rfl, rfl, rfl, rfl⟩ rfl rfl rfl rfl rfl (by kernel_rfl) Tryd.func7 (by kernel_rfl)
    (of_decide_eq_true (by kernel_rfl)) (by unfold Func.isWrapper; first | (rw [if_pos (by decide +kernel)]; kernel_rfl) | (rw [if_neg (by decide +kernel)]; exact ⟨rfl, rfl⟩))
    (fun os started H enc _ F => by rw [OpenClaim.pre_eq_preRow]; exact lifted os started H enc F)

set_option maxRecDepth 100000 in
theorem plain (f : FuncId) (fn : Func) (hf : Tryd.pinned.checked.prog.funcNamed "configlang/configlanglaw46.SelectionMoves" = some f) (hfn : Tryd.pinned.checked.prog.funcs[f]? = some fn) :
    false = Tryd.pinned.checked.prog.looks [] ∧ ∀ (j : Nat) t, fn.params[j]? = some t → Tryd.pinned.checked.prog.wantsStandIn t = false := by
  obtain rfl : f = 7 := Option.some.inj ((show Tryd.prog.funcNamed "configlang/configlanglaw46.SelectionMoves" = some 7 by kernel_rfl).symm.trans hf) |>.symm
  obtain rfl : fn = Tryd.f7 := (Option.some.inj (Tryd.func7.symm.trans hfn)).symm
  refine ⟨by kernel_rfl, fun j t ht => ?_⟩
  rw [Tryd.params7] at ht
  have hm : t = 22 ∨ t = 29 ∨ t = 26 := by simpa using Array.mem_of_getElem? ht
  rcases hm with rfl | rfl | rfl
  · exact (show Tryd.prog.wantsStandIn 22 = false by kernel_rfl)
  · exact (show Tryd.prog.wantsStandIn 29 = false by kernel_rfl)
  · exact (show Tryd.prog.wantsStandIn 26 = false by kernel_rfl)

set_option maxRecDepth 100000 in
theorem card : Rows.SelectionMovesUptoCardSaid :=
  Claim7.holds_tied_plain_at .later [] _ _ _ _ said (fun _ h => by cases h) (by kernel_rfl) (fun _ h => by cases h) selectionMovesUpto_row_tie rfl ⟨rfl, rfl⟩ (by kernel_rfl) rfl plain (by kernel_rfl)
end Go.Proofs.YtfiilbdkhelhgaaDoor.lawMoves
