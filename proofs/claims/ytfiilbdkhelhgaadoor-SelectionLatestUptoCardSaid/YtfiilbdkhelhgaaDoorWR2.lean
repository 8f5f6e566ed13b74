/- Walks: what the document does with registries: Requires, Check, known. -/
import Derived.Test.YtfiilbdkhelhgaaDoorWR1
import Derived.Test.YtfiilbdkhelhgaaDoorG3
namespace Go.Proofs.YtfiilbdkhelhgaaDoor
open Go.RowKit Go.Sort

theorem hasR_findI (Y : List ManW) (m : Mod) : (findI Y m < 0 ↔ hasR (regW Y) m = false) := by
  rw [hasR_find, find_at]
  unfold findI
  by_cases h : Y.findIdx (isM m) < Y.length
  · rw [if_pos h, List.getElem?_eq_getElem h]
    simp
  · rw [if_neg h, List.getElem?_eq_none (by omega)]
    simp
theorem findI_at {Y : List ManW} {m : Mod} {i : Nat} (h : findI Y m = i) : ∃ hi : i < Y.length, reqOf (regW Y) m = Y[i].2.2.2 := by
  unfold findI at h
  by_cases hl : Y.findIdx (isM m) < Y.length
  · rw [if_pos hl] at h
    obtain rfl : Y.findIdx (isM m) = i := by omega
    refine ⟨hl, ?_⟩
    rw [reqOf_find, find_at, List.getElem?_eq_getElem hl]
    rfl
  · rw [if_neg hl] at h
    omega
theorem findI_none {Y : List ManW} {m : Mod} (h : findI Y m < 0) : reqOf (regW Y) m = [] := by
  have := (hasR_findI Y m).1 h
  rw [hasR_find] at this
  rw [reqOf_find]
  cases hf : Y.find? fun y => decide (y.1 = m) with
  | none => rfl
  | some y => rw [hf] at this; cases this
theorem findI_range (Y : List ManW) (m : Mod) : findI Y m = -1 ∨ ∃ i : Nat, findI Y m = i ∧ i < Y.length := by
  unfold findI
  split
  · exact .inr ⟨_, rfl, by assumption⟩
  · exact .inl rfl

set_option maxRecDepth 100000 in
set_option maxHeartbeats 4000000 in
theorem Requires_b (A : Option Addr) (c : Nat) (Y : List ManW) (m : Mod) (w : World) (B : Nat) (hB : B ≤ w.heap.size) (hY : RegOk w B A Y) :
    Calls Tryd.prog 18 #[.slice A Y.length c, .agg #[.string ⟨m.1.toArray⟩, .int .i64 m.2.1, .int .i64 m.2.2.1, .int .i64 m.2.2.2]] w fun e w' => ∃ A' c', e = .returned (.slice A' (reqOf (regW Y) m).length c') ∧ Sl w' B 4 encM A' (reqOf (regW Y) m) ∧ Below w.heap.size w w' := by
  have HY := Lib.hid hY
  have hYl := hY.2.2
  have HB0 := Lib.hid (show Below w.heap.size w (w.alloc (.cells #[.string ⟨m.1.toArray⟩, .int .i64 m.2.1, .int .i64 m.2.2.1, .int .i64 m.2.2.2] 26)) from (Below.refl _ _).alloc (Nat.le_refl _) _)
  have cF0 := fun W (hW : Below w.heap.size w W) => find_any A c Y m W ((HY.out.keep (hW.mono hB)).1.more (Nat.le_trans hB hW.size)) (by omega)
  have HI := Lib.hid (findI_range Y m)
  have HA := Lib.hid (fun i h => findI_at (Y := Y) (m := m) (i := i) h)
  have HN := Lib.hid (fun h => findI_none (Y := Y) (m := m) h)
  generalize findI Y m = f at cF0 HI HA HN
  generalize hL : reqOf (regW Y) m = L at HA HN
  have cF := Lib.hid cF0
  clear hY cF0 hL
  rcases HI.out with rfl | ⟨i, rfl, hi⟩
  · have hn := HN.out (by omega)
    subst hn
    clear HA HN HI
    go_enter Tryd.func18, Tryd.ntmps18
    go_wp2_with fail
    refine (cF.out _ HB0.out).mono ?_
    rintro e w1 ⟨rfl, hb1⟩
    have HB1 := Lib.hid (HB0.out.trans (hb1.mono HB0.out.size))
    clear hb1 cF
    go_wp2
    go_ret
    exact ⟨none, 0, rfl, Sl.nil_, HB1.out⟩
  · obtain ⟨_, hr⟩ := HA.out i rfl
    have hi' : (i : Int) < (Y.length : Int) := by omega
    have hi0 : ¬ (i : Int) < 0 := by omega
    clear HA HN HI
    go_enter Tryd.func18, Tryd.ntmps18
    go_wp2_with fail
    refine (cF.out _ HB0.out).mono ?_
    rintro e w1 ⟨rfl, hb1⟩
    have HB1 := Lib.hid (HB0.out.trans (hb1.mono HB0.out.size))
    have hY1 := HY.out.keep (HB1.out.mono hB)
    obtain ⟨b, off, rfl, hbB, g0, g1, g2, g3, g4⟩ := hY1.1.man hi
    have HS := Lib.hid (hY1.2.1 _ (List.getElem_mem hi)).1
    rw [← hr] at g4 HS
    generalize (Y[i]).2.1 = A1 at g4 HS
    generalize (Y[i]).2.2.1 = c1 at g4
    clear hr hb1 cF hY1 g0 g1 g2 g3
    go_wp2
    go_ret
    exact ⟨A1, c1, rfl, HS.out, HB1.out⟩
theorem Requires_any (A : Option Addr) (c : Nat) (Y : List ManW) (m : Mod) (w : World) (hY : RegOk w w.heap.size A Y) :
    Calls Tryd.prog 18 #[.slice A Y.length c, .agg #[.string ⟨m.1.toArray⟩, .int .i64 m.2.1, .int .i64 m.2.2.1, .int .i64 m.2.2.2]] w fun e w' => ∃ A' c', e = .returned (.slice A' (reqOf (regW Y) m).length c') ∧ Sl w' w'.heap.size 4 encM A' (reqOf (regW Y) m) ∧ Below w.heap.size w w' :=
  (Requires_b A c Y m w _ (Nat.le_refl _) hY).mono fun _ _ ⟨A', c', he, hS, hb⟩ => ⟨A', c', he, hS.more hb.size, hb⟩

end Go.Proofs.YtfiilbdkhelhgaaDoor
