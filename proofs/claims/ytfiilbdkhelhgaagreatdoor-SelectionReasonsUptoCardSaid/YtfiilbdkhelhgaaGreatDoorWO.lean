/- Walks: the check of a manifest (reference). -/
import Derived.Test.YtfiilbdkhelhgaaGreatDoorG3
namespace Go.Proofs.YtfiilbdkhelhgaaGreatDoor
open Go.RowKit Go.Sort

set_option maxRecDepth 100000 in
set_option maxHeartbeats 4000000 in
theorem refCheck_any (m : Mod) (A : Option Addr) (c : Nat) (l : List Mod) (w : World) (hA : Sl w w.heap.size 4 encM A l) (hl : l.length ≤ 1099511627776) (hs : ∀ x ∈ m :: l, x.1.length ≤ 1099511627776) :
    Calls Tryz.prog 26 #[.agg #[.string ⟨m.1.toArray⟩, .int .i64 m.2.1, .int .i64 m.2.2.1, .int .i64 m.2.2.2, .slice A l.length c]] w fun e w' => e = .returned (.int .i64 (mcheck m l)) ∧ Below w.heap.size w w' := by
  have hac := Acc.marked (w.alloc (.cells #[.string ⟨m.1.toArray⟩, .int .i64 m.2.1, .int .i64 m.2.2.1, .int .i64 m.2.2.2, .slice A l.length c] 33)) #[.string ⟨m.1.toArray⟩, .int .i64 m.2.1, .int .i64 m.2.2.1, .int .i64 m.2.2.2] (w.heap.size + 1) 30 4 1 (0, 0) rfl
  simp only [World.size_alloc] at hac
  have hsr := (hA.below (((Below.refl _ _).alloc (Nat.le_refl _) (.cells #[.string ⟨m.1.toArray⟩, .int .i64 m.2.1, .int .i64 m.2.2.1, .int .i64 m.2.2.2, .slice A l.length c] 33)).alloc (by simp) (.cells #[.string ⟨m.1.toArray⟩, .int .i64 m.2.1, .int .i64 m.2.2.1, .int .i64 m.2.2.2] 30))).src encM_len
  have hmc := Lib.hid (mcheck.eq_1 m l)
  go_enter Tryz.func26, Tryz.ntmps26
  go_wp2_with (at_builtin; refine wpList_app _ rfl (.tmp 14) (.tmp 16) 31 rfl (w.heap.size + 1) 30 4 40 elMod (.slice (some ⟨w.heap.size + 1, 0, none⟩) 1 1) 1 _ rfl hac A l.length c (l.flatMap encM) rfl hsr (encM_one l) (by simp only [maxLen]; omega) (by omega) (by simp) ?_; intro v' w1 hacc' _ hb' _ _)
  obtain ⟨A1, c1, rfl⟩ := hacc'.shape
  have e1 : (#[Value.string ⟨m.1.toArray⟩, .int .i64 m.2.1, .int .i64 m.2.2.1, .int .i64 m.2.2.2] : Array Value).toList ++ l.flatMap encM = (m :: l).flatMap encM := rfl
  rw [e1] at hacc'
  have hcap := hacc'.le_cap
  obtain ⟨hn1, hS1⟩ := hacc'.sl encM_len (by decide)
  have kreq : w1.cell? ⟨w.heap.size, 4, none⟩ = some (.slice A l.length c) := by rw [hb'.cell (p := ⟨w.heap.size, 4, none⟩) (by simp)]; simp
  have hB1 : Below w.heap.size w w1 := (((Below.refl _ _).alloc (Nat.le_refl _) _).alloc (by simp) _).trans (hb'.mono (by omega))
  clear hacc' hb' hac hsr e1
  have hLl : (m :: l).length = 1 + l.length := by simp; omega
  have hsB := hs
  generalize hL : m :: l = L at hS1 hs hLl hmc ⊢
  clear hL hA hsB
  have hBl := lt_of_cell kreq
  have hsz1 := hB1.size
  go_wp2
  go_loopw [20] (fun i wr => ∃ k, k ≤ L.length ∧ i = .int .i64 (k : Nat) ∧ Hid ((L.take k).any badPath = false) ∧ Below w1.heap.size w1 wr)
    (fun i _ => L.length - (intOf i).toNat)
  case atStart => exact ⟨0, Nat.zero_le _, rfl, rfl, Below.refl _ _⟩
  case round =>
    obtain ⟨k, hk, rfl, HI, hb⟩ := hrel
    have hbz := hb.size
    by_cases hlt : k < L.length
    · have hlt' : (k : Int) < 1 + (l.length : Int) := by omega
      obtain ⟨b, off, rfl, hbB, g0, g1, g2, g3⟩ := (hS1.below hb).mod hlt
      have HT := Lib.hid (any_take_succ badPath L k hlt)
      have HF := Lib.hid (fun h => List.any_eq_true.2 ⟨L[k], List.getElem_mem hlt, h⟩ : badPath L[k] = true → L.any badPath = true)
      have hxs := hs L[k] (List.getElem_mem hlt)
      generalize L[k] = x at g0 g1 g2 g3 HT HF hxs
      obtain ⟨s, x1, x2, x3⟩ := x
      simp only at g0 g1 g2 g3 hxs
      have cp := Lib.hid (refPath_any s (wr.alloc (.cells #[.string ⟨s.toArray⟩, .int .i64 x1, .int .i64 x2, .int .i64 x3] 30)) hxs)
      have hbp : badPath (s, x1, x2, x3) = !pathOk s := rfl
      rw [hbp] at HT HF
      clear hbp
      cases hp : pathOk s
      · rw [hp] at cp HF
        have hfin := Lib.hid (show mcheck m l = 5 by rw [hmc.out, if_pos (HF.out rfl)])
        clear hp
        go_wp2_with (go_at_call 58; refine cp.out.mono ?_; rintro e w4 ⟨rfl, hb4⟩)
        go_ret
        exact ⟨by rw [hfin.out]; rfl, hB1.trans ((hb.mono hsz1).trans (((Below.refl _ _).alloc (Nat.le_trans hsz1 hbz) _).trans (hb4.mono (by simp; omega))))⟩
      · rw [hp] at cp HT
        clear hp
        go_wp2_with (go_at_call 58; refine cp.out.mono ?_; rintro e w4 ⟨rfl, hb4⟩)
        go_roundw
        case rel => exact ⟨k + 1, by omega, by go_num, by rw [HT.out, HI.out]; rfl, (hb.alloc hbz _).trans (hb4.mono (by simp; omega))⟩
        case measure => simp [intOf]; omega
    · have HP : Hid (L.any badPath = false) := by rw [← HI.out, List.take_of_length_le (by omega)]; exact Lib.hid rfl
      have hbS := Lib.hid hb
      have hlt' : ¬ (k : Int) < 1 + (l.length : Int) := by omega
      clear HI hb hbz hk hlt
      go_wp2
      go_loopw [31] (fun i wr => ∃ k, k ≤ L.length ∧ i = .int .i64 (k : Nat) ∧ Hid ((L.take k).any badVer = false) ∧ Below w1.heap.size w1 wr)
        (fun i _ => L.length - (intOf i).toNat)
      case atStart => exact ⟨0, Nat.zero_le _, rfl, rfl, hbS.out⟩
      case round =>
        obtain ⟨k, hk, rfl, HI, hb⟩ := hrel
        have hbz := hb.size
        by_cases hlt : k < L.length
        · have hlt' : (k : Int) < 1 + (l.length : Int) := by omega
          obtain ⟨b, off, rfl, hbB, g0, g1, g2, g3⟩ := (hS1.below hb).mod hlt
          have HT := Lib.hid (any_take_succ badVer L k hlt)
          have HF := Lib.hid (fun h => List.any_eq_true.2 ⟨L[k], List.getElem_mem hlt, h⟩ : badVer L[k] = true → L.any badVer = true)
          generalize L[k] = x at g0 g1 g2 g3 HT HF
          obtain ⟨s, x1, x2, x3⟩ := x
          simp only at g0 g1 g2 g3
          have cp := Lib.hid (refValid_any x1 x2 x3 (wr.alloc (.cells #[.string ⟨s.toArray⟩, .int .i64 x1, .int .i64 x2, .int .i64 x3] 30)))
          have hbp : badVer (s, x1, x2, x3) = !vok x1 x2 x3 := rfl
          rw [hbp] at HT HF
          clear hbp
          cases hp : vok x1 x2 x3
          · rw [hp] at cp HF
            have hfin := Lib.hid (show mcheck m l = 11 by rw [hmc.out, HP.out, HF.out rfl]; rfl)
            clear hp
            go_wp2_with (go_at_call 59; refine cp.out.mono ?_; rintro e w4 ⟨rfl, hb4⟩)
            go_ret
            exact ⟨by rw [hfin.out]; rfl, hB1.trans ((hb.mono hsz1).trans (((Below.refl _ _).alloc (Nat.le_trans hsz1 hbz) _).trans (hb4.mono (by simp; omega))))⟩
          · rw [hp] at cp HT
            clear hp
            go_wp2_with (go_at_call 59; refine cp.out.mono ?_; rintro e w4 ⟨rfl, hb4⟩)
            go_roundw
            case rel => exact ⟨k + 1, by omega, by go_num, by rw [HT.out, HI.out]; rfl, (hb.alloc hbz _).trans (hb4.mono (by simp; omega))⟩
            case measure => simp [intOf]; omega
        · have HV : Hid (L.any badVer = false) := by rw [← HI.out, List.take_of_length_le (by omega)]; exact Lib.hid rfl
          have hbT := Lib.hid hb
          have hlt' : ¬ (k : Int) < 1 + (l.length : Int) := by omega
          clear HI hb hbz hk hlt hbS
          go_wp2
          go_loopw [42] (fun i wr => ∃ k, k ≤ L.length ∧ i = .int .i64 (k : Nat) ∧ Hid (dupK L k = false) ∧ Below w1.heap.size w1 wr)
            (fun i _ => L.length - (intOf i).toNat)
          case atStart => exact ⟨0, Nat.zero_le _, rfl, rfl, hbT.out⟩
          case round =>
            obtain ⟨wo, hwo⟩ : ∃ wo, wo = wr := ⟨_, rfl⟩
            subst hwo
            obtain ⟨k, hk, rfl, HI, hb⟩ := hrel
            have hbz := hb.size
            by_cases hlt : k < L.length
            · have hlt' : (k : Int) < 1 + (l.length : Int) := by omega
              obtain ⟨b, off, rfl, hbB, g0, g1, g2, g3⟩ := (hS1.below hb).mod hlt
              have hg : L.getD k default = L[k] := by simp [hlt]
              have HD := Lib.hid (dupK_succ L k)
              have HF := Lib.hid (dupK_true L k (l.length + 1) (by omega))
              unfold dupAt at HD HF
              rw [hg] at HD HF
              clear hg
              generalize L[k] = x at g0 g1 g2 g3 HD HF
              obtain ⟨s, x1, x2, x3⟩ := x
              simp only at g0 g1 g2 g3 HD HF
              have hbI := Lib.hid hb
              have hkl : (k : Int) ≤ c1 := by omega
              go_wp2
              clear hb g0 g1 g2 g3
              go_loopw [51] (fun i wr => ∃ j, j ≤ k ∧ i = .int .i64 (j : Nat) ∧ Hid (((L.take j).any fun y => decide (y.1 = s)) = false) ∧ Below (wo.heap.size + 1) (wo.alloc (.cells #[.string ⟨s.toArray⟩, .int .i64 x1, .int .i64 x2, .int .i64 x3] 30)) wr)
                (fun i _ => k - (intOf i).toNat)
              case atStart => exact ⟨0, Nat.zero_le _, rfl, rfl, Below.refl _ _⟩
              case round =>
                obtain ⟨j, hj, rfl, HJ, hbq⟩ := hrel
                have hbqz := hbq.size
                simp at hbqz
                have hB3 := Lib.hid ((hbI.out.alloc hbz _).trans (hbq.mono (show w1.heap.size ≤ wo.heap.size + 1 by omega)))
                have b0 : wr.cell? ⟨wo.heap.size, 0, none⟩ = some (.string ⟨s.toArray⟩) := by rw [hbq.cell (p := ⟨wo.heap.size, 0, none⟩) (by simp)]; simp
                by_cases hjt : j < k
                · have hjt' : (j : Int) < (k : Int) := by omega
                  have hjl : j < L.length := by omega
                  obtain ⟨b', off', hA1, hbB', g0, g1, g2, g3⟩ := (hS1.below hB3.out).mod hjl
                  injection hA1 with hA1
                  injection hA1 with hA1 hA2
                  subst hA1 hA2
                  have HT := Lib.hid (any_take_succ (fun y : Mod => decide (y.1 = s)) L j hjl)
                  have HM := Lib.hid (fun (h : L[j].1 = s) => (show ((L.take k).any fun y => decide (y.1 = s)) = true from List.any_eq_true.2 ⟨L[j], List.mem_take_iff_getElem.2 ⟨j, by omega, rfl⟩, by simp [h]⟩))
                  generalize L[j] = y at g0 g1 g2 g3 HT HM
                  obtain ⟨s', y1, y2, y3⟩ := y
                  simp only at g0 g1 g2 g3 HT HM
                  have b1 := cell_keep_alloc (.cells #[.string ⟨s'.toArray⟩, .int .i64 y1, .int .i64 y2, .int .i64 y3] 30) b0
                  by_cases hq : s = s'
                  · subst hq
                    have hfin := Lib.hid (show mcheck m l = 6 by rw [hmc.out, HP.out, HV.out, HF.out (HM.out rfl)]; rfl)
                    go_wp2
                    go_ret
                    exact ⟨by rw [hfin.out]; rfl, hB1.trans ((hB3.out.mono hsz1).alloc (by omega) _)⟩
                  · have hq' : (s == s') = false := by simpa using hq
                    have hd : decide (s' = s) = false := by simpa using fun h : s' = s => hq h.symm
                    have hJ2 : Hid (((L.take (j + 1)).any fun y => decide (y.1 = s)) = false) := by rw [HT.out, HJ.out, hd]; exact Lib.hid rfl
                    clear hd hq
                    go_wp2
                    go_roundw
                    case rel => exact ⟨j + 1, by omega, by go_num, hJ2, hbq.alloc (by omega) _⟩
                    case measure => simp [intOf]; omega
                · have hjt' : ¬ (j : Int) < (k : Int) := by omega
                  have hD2 : Hid (dupK L (k + 1) = false) := by rw [HD.out, HI.out, show k = j by omega, HJ.out]; exact Lib.hid rfl
                  go_wp2
                  go_roundw
                  case rel => exact ⟨k + 1, by omega, by go_num, hD2, hB3.out⟩
                  case measure => simp [intOf]; omega
            · have HI' : Hid (dupK L (l.length + 1) = false) := by rw [show l.length + 1 = k by omega]; exact HI
              have kq := below_cell (hb.mono (Nat.le_refl _)) kreq hBl
              have hlt' : ¬ (k : Int) < 1 + (l.length : Int) := by omega
              by_cases h64 : 64 < l.length
              · have h64' : (64 : Int) < l.length := by omega
                have hfin := Lib.hid (show mcheck m l = 2 by rw [hmc.out, HP.out, HV.out, HI'.out]; simp [h64])
                go_wp2
                go_ret
                exact ⟨by rw [hfin.out]; rfl, hB1.trans (hb.mono hsz1)⟩
              · have h64' : ¬ (64 : Int) < l.length := by omega
                have hfin := Lib.hid (show mcheck m l = 0 by rw [hmc.out, HP.out, HV.out, HI'.out]; simp [h64])
                go_wp2
                go_ret
                exact ⟨by rw [hfin.out]; rfl, hB1.trans (hb.mono hsz1)⟩
end Go.Proofs.YtfiilbdkhelhgaaGreatDoor
