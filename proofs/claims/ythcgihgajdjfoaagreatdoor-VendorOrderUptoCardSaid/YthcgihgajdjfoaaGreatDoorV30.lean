/- What the claim needs of: VI. -/
import Derived.Test.YthcgihgajdjfoaaGreatDoorV28
import Derived.Test.YthcgihgajdjfoaaGreatDoorV29
namespace Go.Proofs.YthcgihgajdjfoaaGreatDoor
open Go.RowKit Go.Sort
def RetE (w : World) (r : Option EntV) (e : Ending) (w' : World) : Prop :=
 ∃ x : EntV, e = .returned (.tuple #[.agg #[.string ⟨x.1.1.toArray⟩, .int .i64 x.1.2.1, .int .i64 x.1.2.2.1, .int .i64 x.1.2.2.2, .string ⟨x.2.toArray⟩], .bool r.isSome]) ∧ (∀ y, r = some y → x = y) ∧ Below w.heap.size w w'
def entryL (l : List (List UInt8)) : Option EntV :=
 match l with
 | [a, b, c] => if pathOk a = true ∧ verr b = 0 ∧ presE c = 0 then some ((a, vver b), c) else none
 | _ => none
def EntC (W : World) (g : Nat) (v0 v1 v2 v3 v4 : Value) : Prop :=
 W.cell? ⟨g, 0, none⟩ = some v0 ∧ W.cell? ⟨g, 1, none⟩ = some v1 ∧ W.cell? ⟨g, 2, none⟩ = some v2 ∧ W.cell? ⟨g, 3, none⟩ = some v3 ∧ W.cell? ⟨g, 4, none⟩ = some v4
theorem entC {W : World} {g : Nat} {t : TypeId} {v0 v1 v2 v3 v4 : Value} (h : Blk W g t #[v0, v1, v2, v3, v4]) : EntC W g v0 v1 v2 v3 v4 :=
 ⟨h.cell 0, h.cell 1, h.cell 2, h.cell 3, h.cell 4⟩
theorem entF {W : World} {g : Nat} {t : TypeId} {cs : Array Value} (h : Blk W g t cs) : W.frozen? ⟨g, 0, none⟩ = false ∧ W.frozen? ⟨g, 1, none⟩ = false ∧ W.frozen? ⟨g, 2, none⟩ = false ∧ W.frozen? ⟨g, 3, none⟩ = false ∧ W.frozen? ⟨g, 4, none⟩ = false :=
 ⟨h.free 0, h.free 1, h.free 2, h.free 3, h.free 4⟩
set_option maxRecDepth 100000 in
set_option maxHeartbeats 4000000 in
theorem entry_any (s : List UInt8) (w : World) (hs : s.length ≤ 65536) (hG : Glob w) :
  Calls Tryz.prog 40 #[.string ⟨s.toArray⟩] w (RetE w (entryP s)) := by
 have HB0 := Lib.hid (show Below w.heap.size w (w.alloc (.cells #[.string ⟨#[]⟩, .int .i64 0, .int .i64 0, .int .i64 0, .string ⟨#[]⟩] 49)) from (Below.refl _ _).alloc (Nat.le_refl _) _)
 have Q0 := Lib.hid (Blk.new w 49 #[.string ⟨#[]⟩, .int .i64 0, .int .i64 0, .int .i64 0, .string ⟨#[]⟩])
 have hzE := Tryz.zeroValue49
 have HSp := Lib.hid (splitL_len 32 s).2
 have HE := Lib.hid (show entryP s = entryL (splitL 32 s) from rfl)
 have HLn := Lib.hid (splitL_len 32 s).1
 have cW := Lib.hid (fun W (hW : Below w.heap.size w W) => show Calls Tryz.prog 83 #[.string ⟨s.toArray⟩, .string ⟨#[32]⟩] W fun e w' => ∃ A c, e = .returned (.slice A (splitL 32 s).length c) ∧ Sl w' w'.heap.size 1 encS A (splitL 32 s) ∧ Below W.heap.size W w' from (Split_any s 32 W (by omega) (hG.keep hW)).mono fun e w' ⟨A, h1, h2⟩ => ⟨A, _, h1, h2⟩)
 have HG := Lib.hid hG
 clear hG
 generalize splitL 32 s = l at cW HSp HE HLn
 generalize entryP s = r at HE
 go_enter Tryz.func40, Tryz.ntmps40
 go_wp2_with fail
 refine (cW.out _ HB0.out).mono ?_
 rintro e w1 ⟨A, c, rfl, hS, hb1⟩
 have HB1 := Lib.hid (HB0.out.trans (hb1.mono HB0.out.size))
 have Q1 := Lib.hid (Q0.out.keep hb1)
 have S1 := Lib.hid hS
 clear hb1 hS cW
 by_cases h3 : l.length = 3
 ·obtain ⟨p, v, d, rfl⟩ : ∃ p v d, l = [p, v, d] := by
   match l, h3 with
   | [p, v, d], _ => exact ⟨p, v, d, rfl⟩
  clear h3
  have hpl := HSp.out p (by simp)
  have hvl := HSp.out v (by simp)
  have hdl := HSp.out d (by simp)
  obtain ⟨b, off, hA, hbB, g0⟩ := S1.out.str (i := 0) (by simp)
  obtain ⟨b', off', hA', _, g1⟩ := S1.out.str (i := 1) (by simp)
  obtain ⟨rfl, rfl⟩ : b = b' ∧ off = off' := by rw [hA] at hA'; injection hA' with h; injection h with h1 h2; exact ⟨h1, h2⟩
  obtain ⟨b', off', hA', _, g2⟩ := S1.out.str (i := 2) (by simp)
  obtain ⟨rfl, rfl⟩ : b = b' ∧ off = off' := by rw [hA] at hA'; injection hA' with h; injection h with h1 h2; exact ⟨h1, h2⟩
  simp only [List.getElem_cons_zero, List.getElem_cons_succ, Nat.add_zero] at g0 g1 g2
  have G0 := Lib.hid g0
  have G1 := Lib.hid g1
  have G2 := Lib.hid g2
  have cP0 := Path_any p w1 (by have := hs; simp only [maxLen]; omega) (HG.out.keep HB1.out)
  have HA := Lib.hid hA
  subst hA
  clear hA' g1 g2
  have hr : r = if pathOk p = true ∧ verr v = 0 ∧ presE d = 0 then some ((p, vver v), d) else none := HE.out
  cases hp : pathOk p
  ·rw [hp] at cP0 hr
   have cP := Lib.hid cP0
   have hr0 : r = none := by rw [hr]; simp
   subst hr0
   clear hr cP0
   go_wp2_with fail
   refine (cP.out).mono ?_
   rintro e w2 ⟨rfl, hb2⟩
   have HB2 := Lib.hid (HB1.out.trans (hb2.mono HB1.out.size))
   have Q2 := Q1.out.keep hb2
   obtain ⟨k0, k1, k2, k3, k4⟩ := entC Q2
   obtain ⟨f0, f1, f2, f3, f4⟩ := entF Q2
   clear hb2 cP Q2 g0
   have HBF := Lib.hid (((((HB2.out.setCell (p := ⟨w.heap.size, 0, none⟩) (Nat.le_refl _) (.string ⟨#[]⟩)).setCell (p := ⟨w.heap.size, 1, none⟩) (Nat.le_refl _) (.int .i64 0)).setCell (p := ⟨w.heap.size, 2, none⟩) (Nat.le_refl _) (.int .i64 0)).setCell (p := ⟨w.heap.size, 3, none⟩) (Nat.le_refl _) (.int .i64 0)).setCell (p := ⟨w.heap.size, 4, none⟩) (Nat.le_refl _) (.string ⟨#[]⟩))
   go_wp2
   refine bodyPost_ret (v := .tuple #[.agg #[.string ⟨#[]⟩, .int .i64 0, .int .i64 0, .int .i64 0, .string ⟨#[]⟩], .bool false]) (by simp [results, Tryz.results40, go_sem, k0, k1, k2, k3, k4]) rfl ⟨(([], 0, 0, 0), []), rfl, (fun e h => by cases h), HBF.out⟩
  ·rw [hp] at cP0 hr
   have cP := Lib.hid cP0
   have HR := Lib.hid hr
   clear hr cP0
   go_wp2_with fail
   refine (cP.out).mono ?_
   rintro e w2 ⟨rfl, hb2⟩
   have HX2 := Lib.hid hb2
   have HB2 := Lib.hid (HB1.out.trans (hb2.mono HB1.out.size))
   have g1' := (hb2.cell (p := ⟨b, off + 1, none⟩) hbB).trans G1.out
   have cV0 := vParse_any v w2 (by have := hs; simp only [maxLen]; omega) (HG.out.keep HB2.out)
   unfold RetVer at cV0
   generalize vver v = vv at cV0 HR
   generalize verr v = ve at cV0 HR
   have cV := Lib.hid cV0
   clear hb2 cP g0 cV0
   go_wp2_with fail
   refine cV.out.mono ?_
   rintro e w3 ⟨rfl, hb3⟩
   have HA3 := Lib.hid (show Below w3.heap.size w3 (w3.alloc (.cells #[.int .i64 vv.1, .int .i64 vv.2.1, .int .i64 vv.2.2] 24)) from (Below.refl _ _).alloc (Nat.le_refl _) _)
   have HX3 := Lib.hid ((HX2.out.trans (hb3.mono HX2.out.size)).trans (HA3.out.mono (Nat.le_trans HX2.out.size hb3.size)))
   have HB3 := Lib.hid (HB1.out.trans (HX3.out.mono HB1.out.size))
   have V3 := Lib.hid (Blk.new w3 24 #[.int .i64 vv.1, .int .i64 vv.2.1, .int .i64 vv.2.2])
   have g2' := (HX3.out.cell (p := ⟨b, off + 2, none⟩) hbB).trans G2.out
   have cN0 := Parse_any d (w3.alloc (.cells #[.int .i64 vv.1, .int .i64 vv.2.1, .int .i64 vv.2.2] 24)) (by have := hs; simp only [maxLen]; omega)
   unfold RetNum at cN0
   generalize presE d = de at cN0 HR
   generalize presN d = dn at cN0
   have cN := Lib.hid cN0
   clear hb3 cV g1' cN0
   go_wp2_with fail
   refine cN.out.mono ?_
   rintro e w4 ⟨rfl, hb4⟩
   have HX4 := Lib.hid (HX3.out.trans (hb4.mono HX3.out.size))
   have HB4 := Lib.hid (HB3.out.trans (hb4.mono HB3.out.size))
   have V4 := V3.out.keep hb4
   have Q4 := Q1.out.keep HX4.out
   have y0 := (HX4.out.cell (p := ⟨b, off, none⟩) hbB).trans G0.out
   have y2 := (HX4.out.cell (p := ⟨b, off + 2, none⟩) hbB).trans G2.out
   obtain ⟨k0, k1, k2, k3, k4⟩ := entC Q4
   obtain ⟨f0, f1, f2, f3, f4⟩ := entF Q4
   have t0 : w4.cell? ⟨w3.heap.size, 0, none⟩ = some (.int .i64 vv.1) := V4.cell 0
   have t1 : w4.cell? ⟨w3.heap.size, 1, none⟩ = some (.int .i64 vv.2.1) := V4.cell 1
   have t2 : w4.cell? ⟨w3.heap.size, 2, none⟩ = some (.int .i64 vv.2.2) := V4.cell 2
   have HBF := Lib.hid (((((HB4.out.drew.setCell (p := ⟨w.heap.size, 0, none⟩) (Nat.le_refl _) (.string ⟨p.toArray⟩)).setCell (p := ⟨w.heap.size, 1, none⟩) (Nat.le_refl _) (.int .i64 vv.1)).setCell (p := ⟨w.heap.size, 2, none⟩) (Nat.le_refl _) (.int .i64 vv.2.1)).setCell (p := ⟨w.heap.size, 3, none⟩) (Nat.le_refl _) (.int .i64 vv.2.2)).setCell (p := ⟨w.heap.size, 4, none⟩) (Nat.le_refl _) (.string ⟨d.toArray⟩))
   clear hb4 cN g2' V4 Q4
   by_cases hve : ve = 0
   ·by_cases hde : de = 0
    ·have hr1 : r = some ((p, vv), d) := by rw [HR.out, if_pos ⟨by first | rfl | trivial, hve, hde⟩]
     subst hve hde hr1
     have HY := Lib.hid (show ∀ y, some ((p, vv), d) = some y → ((p, vv), d) = y from fun y h => Option.some.inj h)
     go_upto_region 6 with fail
     go_region
     go_wp2
     refine bodyPost_ret (v := .tuple #[.agg #[.string ⟨p.toArray⟩, .int .i64 vv.1, .int .i64 vv.2.1, .int .i64 vv.2.2, .string ⟨d.toArray⟩], .bool true]) (by simp [results, Tryz.results40, go_sem, k0, k1, k2, k3, k4]) rfl ⟨((p, vv), d), rfl, HY.out, HBF.out⟩
    ·have hr0 : r = none := by rw [HR.out, if_neg (fun h => hde h.2.2)]
     have hdn : (de == 0) = false := by simpa using hde
     subst hve hr0
     have HY := Lib.hid (show ∀ y, (none : Option EntV) = some y → ((p, vv), d) = y from fun y h => by cases h)
     clear hde
     go_upto_region 6 with fail
     go_region
     go_wp2
     refine bodyPost_ret (v := .tuple #[.agg #[.string ⟨p.toArray⟩, .int .i64 vv.1, .int .i64 vv.2.1, .int .i64 vv.2.2, .string ⟨d.toArray⟩], .bool false]) (by simp [results, Tryz.results40, go_sem, k0, k1, k2, k3, k4]) rfl ⟨((p, vv), d), rfl, HY.out, HBF.out⟩
   ·have hr0 : r = none := by rw [HR.out, if_neg (fun h => hve h.2.1)]
    have hvn : (ve == 0) = false := by simpa using hve
    subst hr0
    have HY := Lib.hid (show ∀ y, (none : Option EntV) = some y → ((p, vv), d) = y from fun y h => by cases h)
    clear hve
    go_upto_region 6 with fail
    go_region
    go_wp2
    refine bodyPost_ret (v := .tuple #[.agg #[.string ⟨p.toArray⟩, .int .i64 vv.1, .int .i64 vv.2.1, .int .i64 vv.2.2, .string ⟨d.toArray⟩], .bool false]) (by simp [results, Tryz.results40, go_sem, k0, k1, k2, k3, k4]) rfl ⟨((p, vv), d), rfl, HY.out, HBF.out⟩
 ·have hr0 : r = none := by
   rw [HE.out]
   unfold entryL
   match l, h3 with
   | [], _ => rfl
   | [_], _ => rfl
   | [_, _], _ => rfl
   | _ :: _ :: _ :: _ :: _, _ => rfl
   | [_, _, _], h => simp at h
  subst hr0
  have hn3 : ((l.length : Int) == 3) = false := beq_eq_false_iff_ne.2 (by omega)
  have hn4 : ((l.length : Int) != 3) = true := by rw [bne, hn3]; rfl
  have hn5 : ¬ ((l.length : Int) = 3) := by omega
  obtain ⟨k0, k1, k2, k3, k4⟩ := entC Q1.out
  obtain ⟨f0, f1, f2, f3, f4⟩ := entF Q1.out
  have HBF := Lib.hid (((((HB1.out.setCell (p := ⟨w.heap.size, 0, none⟩) (Nat.le_refl _) (.string ⟨#[]⟩)).setCell (p := ⟨w.heap.size, 1, none⟩) (Nat.le_refl _) (.int .i64 0)).setCell (p := ⟨w.heap.size, 2, none⟩) (Nat.le_refl _) (.int .i64 0)).setCell (p := ⟨w.heap.size, 3, none⟩) (Nat.le_refl _) (.int .i64 0)).setCell (p := ⟨w.heap.size, 4, none⟩) (Nat.le_refl _) (.string ⟨#[]⟩))
  clear h3
  go_wp2
  refine bodyPost_ret (v := .tuple #[.agg #[.string ⟨#[]⟩, .int .i64 0, .int .i64 0, .int .i64 0, .string ⟨#[]⟩], .bool false]) (by simp [results, Tryz.results40, go_sem, k0, k1, k2, k3, k4]) rfl ⟨(([], 0, 0, 0), []), rfl, (fun e h => by cases h), HBF.out⟩
set_option maxRecDepth 100000 in
set_option maxHeartbeats 4000000 in
theorem refEntry_any (s : List UInt8) (w : World) (hs : s.length ≤ 65536) :
  Calls Tryz.prog 42 #[.string ⟨s.toArray⟩] w (RetE w (entryP s)) := by
 have HB0 := Lib.hid (show Below w.heap.size w (w.alloc (.cells #[.string ⟨#[]⟩, .int .i64 0, .int .i64 0, .int .i64 0, .string ⟨#[]⟩] 50)) from (Below.refl _ _).alloc (Nat.le_refl _) _)
 have Q0 := Lib.hid (Blk.new w 50 #[.string ⟨#[]⟩, .int .i64 0, .int .i64 0, .int .i64 0, .string ⟨#[]⟩])
 have hzE := Tryz.zeroValue50
 have HSp := Lib.hid (splitL_len 32 s).2
 have HE := Lib.hid (show entryP s = entryL (splitL 32 s) from rfl)
 have HLn := Lib.hid (splitL_len 32 s).1
 have cW := Lib.hid (fun W (_ : Below w.heap.size w W) => words_any s W hs)
 generalize splitL 32 s = l at cW HSp HE HLn
 generalize entryP s = r at HE
 go_enter Tryz.func42, Tryz.ntmps42
 go_wp2_with fail
 refine (cW.out _ HB0.out).mono ?_
 rintro e w1 ⟨A, c, rfl, hS, hb1⟩
 have HB1 := Lib.hid (HB0.out.trans (hb1.mono HB0.out.size))
 have Q1 := Lib.hid (Q0.out.keep hb1)
 have S1 := Lib.hid hS
 clear hb1 hS cW
 by_cases h3 : l.length = 3
 ·obtain ⟨p, v, d, rfl⟩ : ∃ p v d, l = [p, v, d] := by
   match l, h3 with
   | [p, v, d], _ => exact ⟨p, v, d, rfl⟩
  clear h3
  have hpl := HSp.out p (by simp)
  have hvl := HSp.out v (by simp)
  have hdl := HSp.out d (by simp)
  obtain ⟨b, off, hA, hbB, g0⟩ := S1.out.str (i := 0) (by simp)
  obtain ⟨b', off', hA', _, g1⟩ := S1.out.str (i := 1) (by simp)
  obtain ⟨rfl, rfl⟩ : b = b' ∧ off = off' := by rw [hA] at hA'; injection hA' with h; injection h with h1 h2; exact ⟨h1, h2⟩
  obtain ⟨b', off', hA', _, g2⟩ := S1.out.str (i := 2) (by simp)
  obtain ⟨rfl, rfl⟩ : b = b' ∧ off = off' := by rw [hA] at hA'; injection hA' with h; injection h with h1 h2; exact ⟨h1, h2⟩
  simp only [List.getElem_cons_zero, List.getElem_cons_succ, Nat.add_zero] at g0 g1 g2
  have G0 := Lib.hid g0
  have G1 := Lib.hid g1
  have G2 := Lib.hid g2
  have cP0 := refPath_any p w1 (by omega)
  have HA := Lib.hid hA
  subst hA
  clear hA' g1 g2
  have hr : r = if pathOk p = true ∧ verr v = 0 ∧ presE d = 0 then some ((p, vver v), d) else none := HE.out
  cases hp : pathOk p
  ·rw [hp] at cP0 hr
   have cP := Lib.hid cP0
   have hr0 : r = none := by rw [hr]; simp
   subst hr0
   clear hr cP0
   go_wp2_with fail
   refine (cP.out).mono ?_
   rintro e w2 ⟨rfl, hb2⟩
   have HB2 := Lib.hid (HB1.out.trans (hb2.mono HB1.out.size))
   have Q2 := Q1.out.keep hb2
   obtain ⟨k0, k1, k2, k3, k4⟩ := entC Q2
   obtain ⟨f0, f1, f2, f3, f4⟩ := entF Q2
   clear hb2 cP Q2 g0
   have HBF := Lib.hid (((((HB2.out.setCell (p := ⟨w.heap.size, 0, none⟩) (Nat.le_refl _) (.string ⟨#[]⟩)).setCell (p := ⟨w.heap.size, 1, none⟩) (Nat.le_refl _) (.int .i64 0)).setCell (p := ⟨w.heap.size, 2, none⟩) (Nat.le_refl _) (.int .i64 0)).setCell (p := ⟨w.heap.size, 3, none⟩) (Nat.le_refl _) (.int .i64 0)).setCell (p := ⟨w.heap.size, 4, none⟩) (Nat.le_refl _) (.string ⟨#[]⟩))
   go_wp2
   refine bodyPost_ret (v := .tuple #[.agg #[.string ⟨#[]⟩, .int .i64 0, .int .i64 0, .int .i64 0, .string ⟨#[]⟩], .bool false]) (by simp [results, Tryz.results42, go_sem, k0, k1, k2, k3, k4]) rfl ⟨(([], 0, 0, 0), []), rfl, (fun e h => by cases h), HBF.out⟩
  ·rw [hp] at cP0 hr
   have cP := Lib.hid cP0
   have HR := Lib.hid hr
   clear hr cP0
   go_wp2_with fail
   refine (cP.out).mono ?_
   rintro e w2 ⟨rfl, hb2⟩
   have HX2 := Lib.hid hb2
   have HB2 := Lib.hid (HB1.out.trans (hb2.mono HB1.out.size))
   have g1' := (hb2.cell (p := ⟨b, off + 1, none⟩) hbB).trans G1.out
   have cV0 := refvParse_any v w2 (by have := hs; simp only [maxLen]; omega)
   unfold RetVer at cV0
   generalize vver v = vv at cV0 HR
   generalize verr v = ve at cV0 HR
   have cV := Lib.hid cV0
   clear hb2 cP g0 cV0
   go_wp2_with fail
   refine cV.out.mono ?_
   rintro e w3 ⟨rfl, hb3⟩
   have HA3 := Lib.hid (show Below w3.heap.size w3 (w3.alloc (.cells #[.int .i64 vv.1, .int .i64 vv.2.1, .int .i64 vv.2.2] 24)) from (Below.refl _ _).alloc (Nat.le_refl _) _)
   have HX3 := Lib.hid ((HX2.out.trans (hb3.mono HX2.out.size)).trans (HA3.out.mono (Nat.le_trans HX2.out.size hb3.size)))
   have HB3 := Lib.hid (HB1.out.trans (HX3.out.mono HB1.out.size))
   have V3 := Lib.hid (Blk.new w3 24 #[.int .i64 vv.1, .int .i64 vv.2.1, .int .i64 vv.2.2])
   have g2' := (HX3.out.cell (p := ⟨b, off + 2, none⟩) hbB).trans G2.out
   have cN0 := refParse_any d (w3.alloc (.cells #[.int .i64 vv.1, .int .i64 vv.2.1, .int .i64 vv.2.2] 24)) (by omega)
   unfold RetNum at cN0
   generalize presE d = de at cN0 HR
   generalize presN d = dn at cN0
   have cN := Lib.hid cN0
   clear hb3 cV g1' cN0
   go_wp2_with fail
   refine cN.out.mono ?_
   rintro e w4 ⟨rfl, hb4⟩
   have HX4 := Lib.hid (HX3.out.trans (hb4.mono HX3.out.size))
   have HB4 := Lib.hid (HB3.out.trans (hb4.mono HB3.out.size))
   have V4 := V3.out.keep hb4
   have Q4 := Q1.out.keep HX4.out
   have y0 := (HX4.out.cell (p := ⟨b, off, none⟩) hbB).trans G0.out
   have y2 := (HX4.out.cell (p := ⟨b, off + 2, none⟩) hbB).trans G2.out
   obtain ⟨k0, k1, k2, k3, k4⟩ := entC Q4
   obtain ⟨f0, f1, f2, f3, f4⟩ := entF Q4
   have t0 : w4.cell? ⟨w3.heap.size, 0, none⟩ = some (.int .i64 vv.1) := V4.cell 0
   have t1 : w4.cell? ⟨w3.heap.size, 1, none⟩ = some (.int .i64 vv.2.1) := V4.cell 1
   have t2 : w4.cell? ⟨w3.heap.size, 2, none⟩ = some (.int .i64 vv.2.2) := V4.cell 2
   have HBF := Lib.hid (((((HB4.out.drew.setCell (p := ⟨w.heap.size, 0, none⟩) (Nat.le_refl _) (.string ⟨p.toArray⟩)).setCell (p := ⟨w.heap.size, 1, none⟩) (Nat.le_refl _) (.int .i64 vv.1)).setCell (p := ⟨w.heap.size, 2, none⟩) (Nat.le_refl _) (.int .i64 vv.2.1)).setCell (p := ⟨w.heap.size, 3, none⟩) (Nat.le_refl _) (.int .i64 vv.2.2)).setCell (p := ⟨w.heap.size, 4, none⟩) (Nat.le_refl _) (.string ⟨d.toArray⟩))
   clear hb4 cN g2' V4 Q4
   by_cases hve : ve = 0
   ·by_cases hde : de = 0
    ·have hr1 : r = some ((p, vv), d) := by rw [HR.out, if_pos ⟨by first | rfl | trivial, hve, hde⟩]
     subst hve hde hr1
     have HY := Lib.hid (show ∀ y, some ((p, vv), d) = some y → ((p, vv), d) = y from fun y h => Option.some.inj h)
     go_upto_region 6 with fail
     go_region
     go_wp2
     refine bodyPost_ret (v := .tuple #[.agg #[.string ⟨p.toArray⟩, .int .i64 vv.1, .int .i64 vv.2.1, .int .i64 vv.2.2, .string ⟨d.toArray⟩], .bool true]) (by simp [results, Tryz.results42, go_sem, k0, k1, k2, k3, k4]) rfl ⟨((p, vv), d), rfl, HY.out, HBF.out⟩
    ·have hr0 : r = none := by rw [HR.out, if_neg (fun h => hde h.2.2)]
     have hdn : (de == 0) = false := by simpa using hde
     subst hve hr0
     have HY := Lib.hid (show ∀ y, (none : Option EntV) = some y → ((p, vv), d) = y from fun y h => by cases h)
     clear hde
     go_upto_region 6 with fail
     go_region
     go_wp2
     refine bodyPost_ret (v := .tuple #[.agg #[.string ⟨p.toArray⟩, .int .i64 vv.1, .int .i64 vv.2.1, .int .i64 vv.2.2, .string ⟨d.toArray⟩], .bool false]) (by simp [results, Tryz.results42, go_sem, k0, k1, k2, k3, k4]) rfl ⟨((p, vv), d), rfl, HY.out, HBF.out⟩
   ·have hr0 : r = none := by rw [HR.out, if_neg (fun h => hve h.2.1)]
    have hvn : (ve == 0) = false := by simpa using hve
    subst hr0
    have HY := Lib.hid (show ∀ y, (none : Option EntV) = some y → ((p, vv), d) = y from fun y h => by cases h)
    clear hve
    go_upto_region 6 with fail
    go_region
    go_wp2
    refine bodyPost_ret (v := .tuple #[.agg #[.string ⟨p.toArray⟩, .int .i64 vv.1, .int .i64 vv.2.1, .int .i64 vv.2.2, .string ⟨d.toArray⟩], .bool false]) (by simp [results, Tryz.results42, go_sem, k0, k1, k2, k3, k4]) rfl ⟨((p, vv), d), rfl, HY.out, HBF.out⟩
 ·have hr0 : r = none := by
   rw [HE.out]
   unfold entryL
   match l, h3 with
   | [], _ => rfl
   | [_], _ => rfl
   | [_, _], _ => rfl
   | _ :: _ :: _ :: _ :: _, _ => rfl
   | [_, _, _], h => simp at h
  subst hr0
  have hn3 : ((l.length : Int) == 3) = false := beq_eq_false_iff_ne.2 (by omega)
  have hn4 : ((l.length : Int) != 3) = true := by rw [bne, hn3]; rfl
  have hn5 : ¬ ((l.length : Int) = 3) := by omega
  obtain ⟨k0, k1, k2, k3, k4⟩ := entC Q1.out
  obtain ⟨f0, f1, f2, f3, f4⟩ := entF Q1.out
  have HBF := Lib.hid (((((HB1.out.setCell (p := ⟨w.heap.size, 0, none⟩) (Nat.le_refl _) (.string ⟨#[]⟩)).setCell (p := ⟨w.heap.size, 1, none⟩) (Nat.le_refl _) (.int .i64 0)).setCell (p := ⟨w.heap.size, 2, none⟩) (Nat.le_refl _) (.int .i64 0)).setCell (p := ⟨w.heap.size, 3, none⟩) (Nat.le_refl _) (.int .i64 0)).setCell (p := ⟨w.heap.size, 4, none⟩) (Nat.le_refl _) (.string ⟨#[]⟩))
  clear h3
  go_wp2
  refine bodyPost_ret (v := .tuple #[.agg #[.string ⟨#[]⟩, .int .i64 0, .int .i64 0, .int .i64 0, .string ⟨#[]⟩], .bool false]) (by simp [results, Tryz.results42, go_sem, k0, k1, k2, k3, k4]) rfl ⟨(([], 0, 0, 0), []), rfl, (fun e h => by cases h), HBF.out⟩
end Go.Proofs.YthcgihgajdjfoaaGreatDoor
