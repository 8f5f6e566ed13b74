/- Walks: what the document does with registries: Requires, Check, known. -/
import Derived.Test.YtfiilbdkhelhgaaGreatDoorWR1
import Derived.Test.YtfiilbdkhelhgaaGreatDoorG3
namespace Go.Proofs.YtfiilbdkhelhgaaGreatDoor
open Go.RowKit Go.Sort

theorem hasR_findI (Y : List ManW) (m : Mod) : (findI Y m < 0 ↔ hasR (regW Y) m = false) := by
  rw [hasR_find, find_at]
  unfold findI
  by_cases h : Y.findIdx (isM m) < Y.length
  · rw [if_pos h, List.getElem?_eq_getElem h]
    simp
  · rw [if_neg h, List.getElem?_eq_none (by omega)]
    simp
theorem findI_at {Y : List ManW} {m : Mod} {i : Nat} (h : findI Y m = i) : ∃ hi : i < Y.length, reqOf (regW Y) m = Y[i].2.2.2 := by
  unfold findI at h
  by_cases hl : Y.findIdx (isM m) < Y.length
  · rw [if_pos hl] at h
    obtain rfl : Y.findIdx (isM m) = i := by omega
    refine ⟨hl, ?_⟩
    rw [reqOf_find, find_at, List.getElem?_eq_getElem hl]
    rfl
  · rw [if_neg hl] at h
    omega
theorem findI_none {Y : List ManW} {m : Mod} (h : findI Y m < 0) : reqOf (regW Y) m = [] := by
  have := (hasR_findI Y m).1 h
  rw [hasR_find] at this
  rw [reqOf_find]
  cases hf : Y.find? fun y => decide (y.1 = m) with
  | none => rfl
  | some y => rw [hf] at this; cases this
theorem findI_range (Y : List ManW) (m : Mod) : findI Y m = -1 ∨ ∃ i : Nat, findI Y m = i ∧ i < Y.length := by
  unfold findI
  split
  · exact .inr ⟨_, rfl, by assumption⟩
  · exact .inl rfl

set_option maxRecDepth 100000 in
set_option maxHeartbeats 4000000 in
theorem Requires_b (A : Option Addr) (c : Nat) (Y : List ManW) (m : Mod) (w : World) (B : Nat) (hB : B ≤ w.heap.size) (hY : RegOk w B A Y) :
    Calls Tryz.prog 49 #[.slice A Y.length c, .agg #[.string ⟨m.1.toArray⟩, .int .i64 m.2.1, .int .i64 m.2.2.1, .int .i64 m.2.2.2]] w fun e w' => ∃ A' c', e = .returned (.slice A' (reqOf (regW Y) m).length c') ∧ Sl w' B 4 encM A' (reqOf (regW Y) m) ∧ Below w.heap.size w w' := by
  have HY := Lib.hid hY
  have hYl := hY.2.2
  have HB0 := Lib.hid (show Below w.heap.size w (w.alloc (.cells #[.string ⟨m.1.toArray⟩, .int .i64 m.2.1, .int .i64 m.2.2.1, .int .i64 m.2.2.2] 30)) from (Below.refl _ _).alloc (Nat.le_refl _) _)
  have cF0 := fun W (hW : Below w.heap.size w W) => find_any A c Y m W ((HY.out.keep (hW.mono hB)).1.more (Nat.le_trans hB hW.size)) (by omega)
  have HI := Lib.hid (findI_range Y m)
  have HA := Lib.hid (fun i h => findI_at (Y := Y) (m := m) (i := i) h)
  have HN := Lib.hid (fun h => findI_none (Y := Y) (m := m) h)
  generalize findI Y m = f at cF0 HI HA HN
  generalize hL : reqOf (regW Y) m = L at HA HN
  have cF := Lib.hid cF0
  clear hY cF0 hL
  rcases HI.out with rfl | ⟨i, rfl, hi⟩
  · have hn := HN.out (by omega)
    subst hn
    clear HA HN HI
    go_enter Tryz.func49, Tryz.ntmps49
    go_wp2_with fail
    refine (cF.out _ HB0.out).mono ?_
    rintro e w1 ⟨rfl, hb1⟩
    have HB1 := Lib.hid (HB0.out.trans (hb1.mono HB0.out.size))
    clear hb1 cF
    go_wp2
    go_ret
    exact ⟨none, 0, rfl, Sl.nil_, HB1.out⟩
  · obtain ⟨_, hr⟩ := HA.out i rfl
    have hi' : (i : Int) < (Y.length : Int) := by omega
    have hi0 : ¬ (i : Int) < 0 := by omega
    clear HA HN HI
    go_enter Tryz.func49, Tryz.ntmps49
    go_wp2_with fail
    refine (cF.out _ HB0.out).mono ?_
    rintro e w1 ⟨rfl, hb1⟩
    have HB1 := Lib.hid (HB0.out.trans (hb1.mono HB0.out.size))
    have hY1 := HY.out.keep (HB1.out.mono hB)
    obtain ⟨b, off, rfl, hbB, g0, g1, g2, g3, g4⟩ := hY1.1.man hi
    have HS := Lib.hid (hY1.2.1 _ (List.getElem_mem hi)).1
    rw [← hr] at g4 HS
    generalize (Y[i]).2.1 = A1 at g4 HS
    generalize (Y[i]).2.2.1 = c1 at g4
    clear hr hb1 cF hY1 g0 g1 g2 g3
    go_wp2
    go_ret
    exact ⟨A1, c1, rfl, HS.out, HB1.out⟩
theorem Requires_any (A : Option Addr) (c : Nat) (Y : List ManW) (m : Mod) (w : World) (hY : RegOk w w.heap.size A Y) :
    Calls Tryz.prog 49 #[.slice A Y.length c, .agg #[.string ⟨m.1.toArray⟩, .int .i64 m.2.1, .int .i64 m.2.2.1, .int .i64 m.2.2.2]] w fun e w' => ∃ A' c', e = .returned (.slice A' (reqOf (regW Y) m).length c') ∧ Sl w' w'.heap.size 4 encM A' (reqOf (regW Y) m) ∧ Below w.heap.size w w' :=
  (Requires_b A c Y m w _ (Nat.le_refl _) hY).mono fun _ _ ⟨A', c', he, hS, hb⟩ => ⟨A', c', he, hS.more hb.size, hb⟩

set_option maxRecDepth 100000 in
set_option maxHeartbeats 4000000 in
theorem rCheck_any (A : Option Addr) (c : Nat) (Y : List ManW) (w : World) (hY : RegOk w w.heap.size A Y) :
    Calls Tryz.prog 10 #[.slice A Y.length c] w fun e w' => e = .returned (.int .i64 (checkR (regW Y))) ∧ Below w.heap.size w w' := by
  have HY := Lib.hid hY
  have hYl := hY.2.2
  have hRl : (regW Y).length = Y.length := by simp [regW]
  have HRat := Lib.hid (fun i (hi : i < Y.length) (hr : i < (regW Y).length) => show (regW Y)[i] = (Y[i].1, Y[i].2.2.2) by simp [regW, plainW])
  have HRL := Lib.hid hRl
  have HFI := Lib.hid (fun k (hk : k < Y.length) => show findI Y Y[k].1 = k ↔ Y[k].1 ∉ ((regW Y).take k).map (·.1) from by
    have e : ((regW Y).take k).map (·.1) = (Y.take k).map (·.1) := by unfold regW; rw [← List.map_take, List.map_map]; rfl
    rw [e]
    constructor
    · intro h hm
      obtain ⟨y, hy, hye⟩ := List.mem_map.1 hm
      obtain ⟨j, hj, rfl⟩ := List.mem_iff_getElem.1 hy
      rw [List.length_take] at hj
      rw [List.getElem_take] at hye
      unfold findI at h
      split at h
      · rename_i hl
        have h1 : Y.findIdx (isM Y[k].1) = k := by omega
        have h2 := (List.findIdx_eq hk).1 h1
        have h3 := h2.2 j (by omega)
        unfold isM at h3
        exact (of_decide_eq_false h3) hye
      · omega
    · intro h
      refine findI_hit hk rfl fun j hj hl e => h (List.mem_map.2 ⟨Y[j], ?_, e⟩)
      exact List.mem_iff_getElem.2 ⟨j, by rw [List.length_take]; omega, List.getElem_take ..⟩)
  obtain ⟨E, hE⟩ : ∃ E, E = checkR (regW Y) := ⟨_, rfl⟩
  rw [← hE]
  unfold checkR at hE
  have hCR := Lib.hid hE
  clear hE
  generalize regW Y = R at HRat HRL hCR HFI
  clear hY hRl
  go_enter Tryz.func10, Tryz.ntmps10
  go_wp2
  go_loopw [3] (fun i wr => ∃ k : Nat, k ≤ Y.length ∧ i = .int .i64 (k : Nat) ∧ Hid (firstBad (R.take k) = 0) ∧ Hid (Below w.heap.size w wr)) (fun i _ => Y.length - (intOf i).toNat)
  case atStart => exact ⟨0, Nat.zero_le _, rfl, Lib.hid rfl, Lib.hid (Below.refl _ _)⟩
  case round =>
    obtain ⟨wo, hwo⟩ : ∃ wo, wo = wr := ⟨_, rfl⟩
    subst hwo
    obtain ⟨k, hk, rfl, HF, HB⟩ := hrel
    by_cases hlt : k < Y.length
    · have hlt' : (k : Int) < (Y.length : Int) := by omega
      obtain ⟨b, off, rfl, hbB, g0, g1, g2, g3, g4⟩ := (HY.out.step HB.out).1.man hlt
      obtain ⟨hy1, hy2, hy3⟩ := (HY.out.step HB.out).2.1 _ (List.getElem_mem hlt)
      have hkR : k < R.length := by rw [HRL.out]; exact hlt
      have hRk := HRat.out k hlt hkR
      have HHit := Lib.hid (firstBad_hit R k hkR HF.out)
      have HStep := Lib.hid (firstBad_step R k hkR HF.out)
      rw [hRk] at HHit HStep
      generalize Y[k] = y at g0 g1 g2 g3 g4 hy1 hy2 hy3 HHit HStep
      obtain ⟨m, A1, c1, l1⟩ := y
      simp only at g0 g1 g2 g3 g4 hy1 hy2 hy3 HHit HStep
      have cC := Lib.hid (refCheck_any m A1 c1 l1 wo hy1 (by omega) (fun x hx => by have := (hy3 x hx).1; omega))
      generalize mcheck m l1 = e0 at cC HHit HStep
      clear hy1 hy3
      by_cases he0 : e0 = 0
      · subst he0
        have HF2 := Lib.hid (HStep.out rfl)
        clear HHit HStep
        go_wp2_with fail
        refine cC.out.mono ?_
        rintro e w2 ⟨rfl, hb2⟩
        have HB2 := Lib.hid (HB.out.trans (hb2.mono HB.out.size))
        clear hb2 cC
        go_wp2
        go_roundw
        case rel => exact ⟨k + 1, by omega, by go_num, HF2, HB2⟩
        case measure => simp [intOf]; omega
      · have hfin := Lib.hid (show E = e0 by
          have h := HHit.out he0
          rw [hCR.out, if_neg (by rw [h]; exact he0), h])
        have he1 : (e0 != 0) = true := by simpa using he0
        clear he0 HHit HStep
        go_wp2_with fail
        refine cC.out.mono ?_
        rintro e w2 ⟨rfl, hb2⟩
        have HB2 := Lib.hid (HB.out.trans (hb2.mono HB.out.size))
        clear hb2 cC
        go_wp2
        go_ret
        exact ⟨by rw [hfin.out]; rfl, HB2.out⟩
    · obtain rfl : k = Y.length := by omega
      have hf := HF.out
      rw [← HRL.out, List.take_of_length_le (Nat.le_refl _)] at hf
      have HE := Lib.hid (show E = if dupR R = true then 6 else 0 by rw [hCR.out, if_pos hf])
      clear hf HF hCR
      go_wp2
      go_loopw [5] (fun i wr => ∃ k : Nat, k ≤ Y.length ∧ i = .int .i64 (k : Nat) ∧ Hid (dupR (R.take k) = false) ∧ Hid (Below w.heap.size w wr)) (fun i _ => Y.length - (intOf i).toNat)
      case atStart => exact ⟨0, Nat.zero_le _, rfl, Lib.hid rfl, HB⟩
      case round =>
        obtain ⟨j, hj, rfl, HD, HB⟩ := hrel
        by_cases hlt : j < Y.length
        · have hlt' : (j : Int) < (Y.length : Int) := by omega
          have hjR : j < R.length := by rw [HRL.out]; exact hlt
          have hRj := HRat.out j hlt hjR
          have HDS := Lib.hid (dupR_step R j hjR)
          rw [hRj] at HDS
          have HFJ := Lib.hid (HFI.out j hlt)
          obtain ⟨b, off, rfl, hbB, g0, g1, g2, g3, g4⟩ := (HY.out.step HB.out).1.man hlt
          have cF0 := find_any (some ⟨b, off, none⟩) c Y Y[j].1 wr (HY.out.step HB.out).1 (by omega)
          have HFR := Lib.hid (findI_range Y Y[j].1)
          generalize findI Y Y[j].1 = f at cF0 HFJ HFR
          generalize Y[j].1 = x at g0 g1 g2 g3 cF0 HDS HFJ
          have cF := Lib.hid cF0
          clear cF0 g4
          by_cases hf : f = (j : Int)
          · have HD2 := Lib.hid (show dupR (R.take (j + 1)) = false by rw [HDS.out, HD.out, decide_eq_false (HFJ.out.1 hf)]; rfl)
            subst hf
            clear HDS HFJ HFR
            go_wp2_with fail
            refine cF.out.mono ?_
            rintro e w2 ⟨rfl, hb2⟩
            have HB2 := Lib.hid (HB.out.trans (hb2.mono HB.out.size))
            clear hb2 cF
            go_wp2
            go_roundw
            case rel => exact ⟨j + 1, by omega, by go_num, HD2, HB2⟩
            case measure => simp [intOf]; omega
          · have HD2 := Lib.hid (show dupR R = true by
              have h1 : dupR (R.take (j + 1)) = true := by
                rw [HDS.out, decide_eq_true (Classical.byContradiction fun h => hf (HFJ.out.2 h))]
                simp
              unfold dupR at h1 ⊢
              simp only [Bool.not_eq_true', decide_eq_false_iff_not] at h1 ⊢
              exact fun h => h1 (List.Nodup.sublist (List.Sublist.map _ (List.take_sublist _ _)) h))
            have hfin := Lib.hid (HE.out.trans (if_pos HD2.out))
            have hf1 : (f != (j : Int)) = true := by simpa using hf
            have hf2 : (f == (j : Int)) = false := by simpa using hf
            clear HDS HFJ HFR hf HD2
            go_wp2_with fail
            refine cF.out.mono ?_
            rintro e w2 ⟨rfl, hb2⟩
            have HB2 := Lib.hid (HB.out.trans (hb2.mono HB.out.size))
            clear hb2 cF
            go_wp2
            go_ret
            exact ⟨by rw [hfin.out]; rfl, HB2.out⟩
        · obtain rfl : j = Y.length := by omega
          have hd := HD.out
          rw [← HRL.out, List.take_of_length_le (Nat.le_refl _)] at hd
          have hfin := Lib.hid (HE.out.trans (if_neg (by rw [hd]; simp)))
          clear hd HD
          go_wp2
          go_ret
          exact ⟨by rw [hfin.out]; rfl, HB.out⟩
end Go.Proofs.YtfiilbdkhelhgaaGreatDoor
