/- What the claim needs of: WO WR1 WR2 WL1. -/
import Derived.Test.YthcgihgajdjfoaaGreatDoorU9
import Derived.Test.YthcgihgajdjfoaaGreatDoorU17
import Derived.BigQuiet
import Derived.Deep.QuietTactic
import Derived.Test.YthcgihgajdjfoaaGreatDoorU10
namespace Go.Proofs.YthcgihgajdjfoaaGreatDoor
open Go.RowKit Go.Sort
set_option maxRecDepth 100000 in
set_option maxHeartbeats 4000000 in
theorem refCheck_any (m : Mod) (A : Option Addr) (c : Nat) (l : List Mod) (w : World) (hA : Sl w w.heap.size 4 encM A l) (hl : l.length ≤ 1099511627776) (hs : ∀ x ∈ m :: l, x.1.length ≤ 1099511627776) :
    Calls Tryz.prog 73 #[.agg #[.string ⟨m.1.toArray⟩, .int .i64 m.2.1, .int .i64 m.2.2.1, .int .i64 m.2.2.2, .slice A l.length c]] w fun e w' => e = .returned (.int .i64 (mcheck m l)) ∧ Below w.heap.size w w' := by
  have hac := Acc.marked (w.alloc (.cells #[.string ⟨m.1.toArray⟩, .int .i64 m.2.1, .int .i64 m.2.2.1, .int .i64 m.2.2.2, .slice A l.length c] 29)) #[.string ⟨m.1.toArray⟩, .int .i64 m.2.1, .int .i64 m.2.2.1, .int .i64 m.2.2.2] (w.heap.size + 1) 26 4 1 (0, 0) rfl
  simp only [World.size_alloc] at hac
  have hsr := (hA.below (((Below.refl _ _).alloc (Nat.le_refl _) (.cells #[.string ⟨m.1.toArray⟩, .int .i64 m.2.1, .int .i64 m.2.2.1, .int .i64 m.2.2.2, .slice A l.length c] 29)).alloc (by simp) (.cells #[.string ⟨m.1.toArray⟩, .int .i64 m.2.1, .int .i64 m.2.2.1, .int .i64 m.2.2.2] 26))).src encM_len
  have hmc := Lib.hid (mcheck.eq_1 m l)
  go_enter Tryz.func73, Tryz.ntmps73
  go_wp2_with (at_builtin; refine wpList_app _ rfl (.tmp 14) (.tmp 16) 27 rfl (w.heap.size + 1) 26 4 40 elMod (.slice (some ⟨w.heap.size + 1, 0, none⟩) 1 1) 1 _ rfl hac A l.length c (l.flatMap encM) rfl hsr (encM_one l) (by simp only [maxLen]; omega) (by omega) (by simp) ?_; intro v' w1 hacc' _ hb' _ _)
  obtain ⟨A1, c1, rfl⟩ := hacc'.shape
  have e1 : (#[Value.string ⟨m.1.toArray⟩, .int .i64 m.2.1, .int .i64 m.2.2.1, .int .i64 m.2.2.2] : Array Value).toList ++ l.flatMap encM = (m :: l).flatMap encM := rfl
  rw [e1] at hacc'
  have hcap := hacc'.le_cap
  obtain ⟨hn1, hS1⟩ := hacc'.sl encM_len (by decide)
  have kreq : w1.cell? ⟨w.heap.size, 4, none⟩ = some (.slice A l.length c) := by rw [hb'.cell (p := ⟨w.heap.size, 4, none⟩) (by simp)]; simp
  have hB1 : Below w.heap.size w w1 := (((Below.refl _ _).alloc (Nat.le_refl _) _).alloc (by simp) _).trans (hb'.mono (by omega))
  clear hacc' hb' hac hsr e1
  have hLl : (m :: l).length = 1 + l.length := by simp; omega
  have hsB := hs
  generalize hL : m :: l = L at hS1 hs hLl hmc ⊢
  clear hL hA hsB
  have hBl := lt_of_cell kreq
  have hsz1 := hB1.size
  go_wp2
  go_loopw [20] (fun i wr => ∃ k, k ≤ L.length ∧ i = .int .i64 (k : Nat) ∧ Hid ((L.take k).any badPath = false) ∧ Below w1.heap.size w1 wr)
    (fun i _ => L.length - (intOf i).toNat)
  case atStart => exact ⟨0, Nat.zero_le _, rfl, rfl, Below.refl _ _⟩
  case round =>
    obtain ⟨k, hk, rfl, HI, hb⟩ := hrel
    have hbz := hb.size
    by_cases hlt : k < L.length
    · have hlt' : (k : Int) < 1 + (l.length : Int) := by omega
      obtain ⟨b, off, rfl, hbB, g0, g1, g2, g3⟩ := (hS1.below hb).mod hlt
      have HT := Lib.hid (any_take_succ badPath L k hlt)
      have HF := Lib.hid (fun h => List.any_eq_true.2 ⟨L[k], List.getElem_mem hlt, h⟩ : badPath L[k] = true → L.any badPath = true)
      have hxs := hs L[k] (List.getElem_mem hlt)
      generalize L[k] = x at g0 g1 g2 g3 HT HF hxs
      obtain ⟨s, x1, x2, x3⟩ := x
      simp only at g0 g1 g2 g3 hxs
      have cp := Lib.hid (refPath_any s (wr.alloc (.cells #[.string ⟨s.toArray⟩, .int .i64 x1, .int .i64 x2, .int .i64 x3] 26)) hxs)
      have hbp : badPath (s, x1, x2, x3) = !pathOk s := rfl
      rw [hbp] at HT HF
      clear hbp
      cases hp : pathOk s
      · rw [hp] at cp HF
        have hfin := Lib.hid (show mcheck m l = 5 by rw [hmc.out, if_pos (HF.out rfl)])
        clear hp
        go_wp2_with (go_at_call 89; refine cp.out.mono ?_; rintro e w4 ⟨rfl, hb4⟩)
        go_ret
        exact ⟨by rw [hfin.out]; rfl, hB1.trans ((hb.mono hsz1).trans (((Below.refl _ _).alloc (Nat.le_trans hsz1 hbz) _).trans (hb4.mono (by simp; omega))))⟩
      · rw [hp] at cp HT
        clear hp
        go_wp2_with (go_at_call 89; refine cp.out.mono ?_; rintro e w4 ⟨rfl, hb4⟩)
        go_roundw
        case rel => exact ⟨k + 1, by omega, by go_num, by rw [HT.out, HI.out]; rfl, (hb.alloc hbz _).trans (hb4.mono (by simp; omega))⟩
        case measure => simp [intOf]; omega
    · have HP : Hid (L.any badPath = false) := by rw [← HI.out, List.take_of_length_le (by omega)]; exact Lib.hid rfl
      have hbS := Lib.hid hb
      have hlt' : ¬ (k : Int) < 1 + (l.length : Int) := by omega
      clear HI hb hbz hk hlt
      go_wp2
      go_loopw [31] (fun i wr => ∃ k, k ≤ L.length ∧ i = .int .i64 (k : Nat) ∧ Hid ((L.take k).any badVer = false) ∧ Below w1.heap.size w1 wr)
        (fun i _ => L.length - (intOf i).toNat)
      case atStart => exact ⟨0, Nat.zero_le _, rfl, rfl, hbS.out⟩
      case round =>
        obtain ⟨k, hk, rfl, HI, hb⟩ := hrel
        have hbz := hb.size
        by_cases hlt : k < L.length
        · have hlt' : (k : Int) < 1 + (l.length : Int) := by omega
          obtain ⟨b, off, rfl, hbB, g0, g1, g2, g3⟩ := (hS1.below hb).mod hlt
          have HT := Lib.hid (any_take_succ badVer L k hlt)
          have HF := Lib.hid (fun h => List.any_eq_true.2 ⟨L[k], List.getElem_mem hlt, h⟩ : badVer L[k] = true → L.any badVer = true)
          generalize L[k] = x at g0 g1 g2 g3 HT HF
          obtain ⟨s, x1, x2, x3⟩ := x
          simp only at g0 g1 g2 g3
          have cp := Lib.hid (refValid_any x1 x2 x3 (wr.alloc (.cells #[.string ⟨s.toArray⟩, .int .i64 x1, .int .i64 x2, .int .i64 x3] 26)))
          have hbp : badVer (s, x1, x2, x3) = !vok x1 x2 x3 := rfl
          rw [hbp] at HT HF
          clear hbp
          cases hp : vok x1 x2 x3
          · rw [hp] at cp HF
            have hfin := Lib.hid (show mcheck m l = 11 by rw [hmc.out, HP.out, HF.out rfl]; rfl)
            clear hp
            go_wp2_with (go_at_call 117; refine cp.out.mono ?_; rintro e w4 ⟨rfl, hb4⟩)
            go_ret
            exact ⟨by rw [hfin.out]; rfl, hB1.trans ((hb.mono hsz1).trans (((Below.refl _ _).alloc (Nat.le_trans hsz1 hbz) _).trans (hb4.mono (by simp; omega))))⟩
          · rw [hp] at cp HT
            clear hp
            go_wp2_with (go_at_call 117; refine cp.out.mono ?_; rintro e w4 ⟨rfl, hb4⟩)
            go_roundw
            case rel => exact ⟨k + 1, by omega, by go_num, by rw [HT.out, HI.out]; rfl, (hb.alloc hbz _).trans (hb4.mono (by simp; omega))⟩
            case measure => simp [intOf]; omega
        · have HV : Hid (L.any badVer = false) := by rw [← HI.out, List.take_of_length_le (by omega)]; exact Lib.hid rfl
          have hbT := Lib.hid hb
          have hlt' : ¬ (k : Int) < 1 + (l.length : Int) := by omega
          clear HI hb hbz hk hlt hbS
          go_wp2
          go_loopw [42] (fun i wr => ∃ k, k ≤ L.length ∧ i = .int .i64 (k : Nat) ∧ Hid (dupK L k = false) ∧ Below w1.heap.size w1 wr)
            (fun i _ => L.length - (intOf i).toNat)
          case atStart => exact ⟨0, Nat.zero_le _, rfl, rfl, hbT.out⟩
          case round =>
            obtain ⟨wo, hwo⟩ : ∃ wo, wo = wr := ⟨_, rfl⟩
            subst hwo
            obtain ⟨k, hk, rfl, HI, hb⟩ := hrel
            have hbz := hb.size
            by_cases hlt : k < L.length
            · have hlt' : (k : Int) < 1 + (l.length : Int) := by omega
              obtain ⟨b, off, rfl, hbB, g0, g1, g2, g3⟩ := (hS1.below hb).mod hlt
              have hg : L.getD k default = L[k] := by simp [hlt]
              have HD := Lib.hid (dupK_succ L k)
              have HF := Lib.hid (dupK_true L k (l.length + 1) (by omega))
              unfold dupAt at HD HF
              rw [hg] at HD HF
              clear hg
              generalize L[k] = x at g0 g1 g2 g3 HD HF
              obtain ⟨s, x1, x2, x3⟩ := x
              simp only at g0 g1 g2 g3 HD HF
              have hbI := Lib.hid hb
              have hkl : (k : Int) ≤ c1 := by omega
              go_wp2
              clear hb g0 g1 g2 g3
              go_loopw [51] (fun i wr => ∃ j, j ≤ k ∧ i = .int .i64 (j : Nat) ∧ Hid (((L.take j).any fun y => decide (y.1 = s)) = false) ∧ Below (wo.heap.size + 1) (wo.alloc (.cells #[.string ⟨s.toArray⟩, .int .i64 x1, .int .i64 x2, .int .i64 x3] 26)) wr)
                (fun i _ => k - (intOf i).toNat)
              case atStart => exact ⟨0, Nat.zero_le _, rfl, rfl, Below.refl _ _⟩
              case round =>
                obtain ⟨j, hj, rfl, HJ, hbq⟩ := hrel
                have hbqz := hbq.size
                simp at hbqz
                have hB3 := Lib.hid ((hbI.out.alloc hbz _).trans (hbq.mono (show w1.heap.size ≤ wo.heap.size + 1 by omega)))
                have b0 : wr.cell? ⟨wo.heap.size, 0, none⟩ = some (.string ⟨s.toArray⟩) := by rw [hbq.cell (p := ⟨wo.heap.size, 0, none⟩) (by simp)]; simp
                by_cases hjt : j < k
                · have hjt' : (j : Int) < (k : Int) := by omega
                  have hjl : j < L.length := by omega
                  obtain ⟨b', off', hA1, hbB', g0, g1, g2, g3⟩ := (hS1.below hB3.out).mod hjl
                  injection hA1 with hA1
                  injection hA1 with hA1 hA2
                  subst hA1 hA2
                  have HT := Lib.hid (any_take_succ (fun y : Mod => decide (y.1 = s)) L j hjl)
                  have HM := Lib.hid (fun (h : L[j].1 = s) => (show ((L.take k).any fun y => decide (y.1 = s)) = true from List.any_eq_true.2 ⟨L[j], List.mem_take_iff_getElem.2 ⟨j, by omega, rfl⟩, by simp [h]⟩))
                  generalize L[j] = y at g0 g1 g2 g3 HT HM
                  obtain ⟨s', y1, y2, y3⟩ := y
                  simp only at g0 g1 g2 g3 HT HM
                  have b1 := cell_keep_alloc (.cells #[.string ⟨s'.toArray⟩, .int .i64 y1, .int .i64 y2, .int .i64 y3] 26) b0
                  by_cases hq : s = s'
                  · subst hq
                    have hfin := Lib.hid (show mcheck m l = 6 by rw [hmc.out, HP.out, HV.out, HF.out (HM.out rfl)]; rfl)
                    go_wp2
                    go_ret
                    exact ⟨by rw [hfin.out]; rfl, hB1.trans ((hB3.out.mono hsz1).alloc (by omega) _)⟩
                  · have hq' : (s == s') = false := by simpa using hq
                    have hd : decide (s' = s) = false := by simpa using fun h : s' = s => hq h.symm
                    have hJ2 : Hid (((L.take (j + 1)).any fun y => decide (y.1 = s)) = false) := by rw [HT.out, HJ.out, hd]; exact Lib.hid rfl
                    clear hd hq
                    go_wp2
                    go_roundw
                    case rel => exact ⟨j + 1, by omega, by go_num, hJ2, hbq.alloc (by omega) _⟩
                    case measure => simp [intOf]; omega
                · have hjt' : ¬ (j : Int) < (k : Int) := by omega
                  have hD2 : Hid (dupK L (k + 1) = false) := by rw [HD.out, HI.out, show k = j by omega, HJ.out]; exact Lib.hid rfl
                  go_wp2
                  go_roundw
                  case rel => exact ⟨k + 1, by omega, by go_num, hD2, hB3.out⟩
                  case measure => simp [intOf]; omega
            · have HI' : Hid (dupK L (l.length + 1) = false) := by rw [show l.length + 1 = k by omega]; exact HI
              have kq := below_cell (hb.mono (Nat.le_refl _)) kreq hBl
              have hlt' : ¬ (k : Int) < 1 + (l.length : Int) := by omega
              by_cases h64 : 64 < l.length
              · have h64' : (64 : Int) < l.length := by omega
                have hfin := Lib.hid (show mcheck m l = 2 by rw [hmc.out, HP.out, HV.out, HI'.out]; simp [h64])
                go_wp2
                go_ret
                exact ⟨by rw [hfin.out]; rfl, hB1.trans (hb.mono hsz1)⟩
              · have h64' : ¬ (64 : Int) < l.length := by omega
                have hfin := Lib.hid (show mcheck m l = 0 by rw [hmc.out, HP.out, HV.out, HI'.out]; simp [h64])
                go_wp2
                go_ret
                exact ⟨by rw [hfin.out]; rfl, hB1.trans (hb.mono hsz1)⟩
end Go.Proofs.YthcgihgajdjfoaaGreatDoor
namespace Go.Proofs.YthcgihgajdjfoaaGreatDoor
open Go.RowKit Go.Sort
def isM (m : Mod) (y : ManW) : Bool := decide (y.1 = m)
def findI (Y : List ManW) (m : Mod) : Int := if Y.findIdx (isM m) < Y.length then (Y.findIdx (isM m) : Int) else -1
theorem findI_hit {Y : List ManW} {m : Mod} {k : Nat} (hk : k < Y.length) (h : Y[k].1 = m) (hn : ∀ j (_ : j < k) (hj : j < Y.length), Y[j].1 ≠ m) : findI Y m = k := by
  have e : Y.findIdx (isM m) = k := (List.findIdx_eq hk).2 ⟨decide_eq_true h, fun j hj => decide_eq_false (hn j hj (by omega))⟩
  unfold findI
  rw [e, if_pos hk]
theorem findI_miss {Y : List ManW} {m : Mod} (hn : ∀ j (hj : j < Y.length), Y[j].1 ≠ m) : findI Y m = -1 := by
  have e : Y.findIdx (isM m) = Y.length := List.findIdx_eq_length.2 fun x hx => by
    obtain ⟨j, hj, rfl⟩ := List.mem_iff_getElem.1 hx
    exact decide_eq_false (hn j hj)
  unfold findI
  rw [e, if_neg (Nat.lt_irrefl _)]
theorem find_at : ∀ (Y : List ManW) (m : Mod), Y.find? (fun y => decide (y.1 = m)) = Y[Y.findIdx (isM m)]?
  | [], _ => rfl
  | y :: Y, m => by
    have ih := find_at Y m
    rw [List.find?_cons, List.findIdx_cons]
    cases h : decide (y.1 = m) with
    | true => simp [isM, h]
    | false => simp [isM, h, ih]
theorem mod_eta (m : Mod) : (m.1, m.2.1, m.2.2.1, m.2.2.2) = m := rfl
set_option maxRecDepth 100000 in
set_option maxHeartbeats 4000000 in
theorem find_any (A : Option Addr) (c : Nat) (Y : List ManW) (m : Mod) (w : World) (hA : Sl w w.heap.size 5 encW A Y) (hl : Y.length ≤ 1048576) :
    Calls Tryz.prog 116 #[.slice A Y.length c, .agg #[.string ⟨m.1.toArray⟩, .int .i64 m.2.1, .int .i64 m.2.2.1, .int .i64 m.2.2.2]] w fun e w' => e = .returned (.int .i64 (findI Y m)) ∧ Below w.heap.size w w' := by
  have HA := Lib.hid hA
  have q0 := Blk.new w 26 #[.string ⟨m.1.toArray⟩, .int .i64 m.2.1, .int .i64 m.2.2.1, .int .i64 m.2.2.2]
  have Q0 := Lib.hid q0
  have HB0 := Lib.hid (show Below w.heap.size w (w.alloc (.cells #[.string ⟨m.1.toArray⟩, .int .i64 m.2.1, .int .i64 m.2.2.1, .int .i64 m.2.2.2] 26)) from (Below.refl _ _).alloc (Nat.le_refl _) _)
  clear hA q0
  go_enter Tryz.func116, Tryz.ntmps116
  go_wp2
  go_loopw [5] (fun i wr => ∃ k : Nat, k ≤ Y.length ∧ i = .int .i64 (k : Nat) ∧ Hid (∀ j (_ : j < k) (hj : j < Y.length), Y[j].1 ≠ m) ∧ Hid (Blk wr w.heap.size 26 #[.string ⟨m.1.toArray⟩, .int .i64 m.2.1, .int .i64 m.2.2.1, .int .i64 m.2.2.2]) ∧ Hid (Below w.heap.size w wr)) (fun i _ => Y.length - (intOf i).toNat)
  case atStart => exact ⟨0, Nat.zero_le _, rfl, Lib.hid (fun j h => by omega), Q0, HB0⟩
  case round =>
    obtain ⟨k, hk, rfl, HJ, HQ, HB⟩ := hrel
    by_cases hlt : k < Y.length
    · have hlt' : (k : Int) < (Y.length : Int) := by omega
      obtain ⟨b, off, rfl, hbB, g0, g1, g2, g3, g4⟩ := (HA.out.below HB.out).man hlt
      have heq := fun W => eq_mod Y[k].1.1 m.1 Y[k].1.2.1 Y[k].1.2.2.1 Y[k].1.2.2.2 m.2.1 m.2.2.1 m.2.2.2 W
      rw [mod_eta, mod_eta] at heq
      have HY := Lib.hid (fun (h : Y[k].1 = m) => findI_hit hlt h HJ.out)
      have HN := Lib.hid (fun (h : Y[k].1 ≠ m) => show ∀ j (_ : j < k + 1) (hj : j < Y.length), Y[j].1 ≠ m from fun j hj hl => by
        by_cases hjk : j < k
        · exact HJ.out j hjk hl
        · obtain rfl : j = k := by omega
          exact h)
      generalize Y[k].1 = x at g0 g1 g2 g3 heq HY HN
      have y0 := HQ.out.cell 0
      have y1 := HQ.out.cell 1
      have y2 := HQ.out.cell 2
      have y3 := HQ.out.cell 3
      simp at y0 y1 y2 y3
      have HQ2 := Lib.hid (HQ.out.keep ((Below.refl _ _).drew))
      have HQ3 := Lib.hid (fun n => HQ.out.keep ((Below.refl _ _).drewN n))
      clear HJ g4
      by_cases hx : x = m
      · rw [decide_eq_true hx] at heq
        have HF := Lib.hid (HY.out hx)
        clear hx HY HN
        go_wp2
        go_quiet (fail)
        go_wp2
        go_ret
        exact ⟨by rw [HF.out]; rfl, by first | exact HB.out | exact HB.out.drew | exact HB.out.drewN _⟩
      · rw [decide_eq_false hx] at heq
        have HN2 := Lib.hid (HN.out hx)
        clear hx HY HN
        go_wp2
        go_quiet (fail)
        go_wp2
        go_roundw
        case rel => exact ⟨k + 1, by omega, by go_num, HN2, by first | exact HQ2 | exact HQ | exact Lib.hid (HQ3.out _), by first | exact HB | exact Lib.hid HB.out.drew | exact Lib.hid (HB.out.drewN _)⟩
        case measure => simp [intOf]; omega
    · obtain rfl : k = Y.length := by omega
      have HF := Lib.hid (findI_miss (fun j hj => HJ.out j hj hj))
      clear HJ
      go_wp2
      go_ret
      exact ⟨by rw [HF.out]; rfl, HB.out⟩
set_option maxRecDepth 100000 in
set_option maxHeartbeats 4000000 in
theorem Has_any (A : Option Addr) (c : Nat) (l : List Mod) (m : Mod) (w : World) (hA : Sl w w.heap.size 4 encM A l) (hl : l.length ≤ 1099511627776) :
    Calls Tryz.prog 118 #[.slice A l.length c, .agg #[.string ⟨m.1.toArray⟩, .int .i64 m.2.1, .int .i64 m.2.2.1, .int .i64 m.2.2.2]] w fun e w' => e = .returned (.bool (decide (m ∈ l))) ∧ Below w.heap.size w w' := by
  have HA := Lib.hid hA
  have q0 := Blk.new w 26 #[.string ⟨m.1.toArray⟩, .int .i64 m.2.1, .int .i64 m.2.2.1, .int .i64 m.2.2.2]
  have Q0 := Lib.hid q0
  have HB0 := Lib.hid (show Below w.heap.size w (w.alloc (.cells #[.string ⟨m.1.toArray⟩, .int .i64 m.2.1, .int .i64 m.2.2.1, .int .i64 m.2.2.2] 26)) from (Below.refl _ _).alloc (Nat.le_refl _) _)
  clear hA q0
  go_enter Tryz.func118, Tryz.ntmps118
  go_wp2
  go_loopw [5] (fun i wr => ∃ k : Nat, k ≤ l.length ∧ i = .int .i64 (k : Nat) ∧ Hid (m ∉ l.take k) ∧ Hid (Blk wr w.heap.size 26 #[.string ⟨m.1.toArray⟩, .int .i64 m.2.1, .int .i64 m.2.2.1, .int .i64 m.2.2.2]) ∧ Hid (Below w.heap.size w wr)) (fun i _ => l.length - (intOf i).toNat)
  case atStart => exact ⟨0, Nat.zero_le _, rfl, Lib.hid (by simp), Q0, HB0⟩
  case round =>
    obtain ⟨k, hk, rfl, HJ, HQ, HB⟩ := hrel
    by_cases hlt : k < l.length
    · have hlt' : (k : Int) < (l.length : Int) := by omega
      obtain ⟨b, off, rfl, hbB, g0, g1, g2, g3⟩ := (HA.out.below HB.out).mod hlt
      have heq := fun W => eq_mod l[k].1 m.1 l[k].2.1 l[k].2.2.1 l[k].2.2.2 m.2.1 m.2.2.1 m.2.2.2 W
      rw [mod_eta, mod_eta] at heq
      have HY := Lib.hid (fun (h : l[k] = m) => show m ∈ l by rw [← h]; exact List.getElem_mem hlt)
      have HN := Lib.hid (fun (h : l[k] ≠ m) => show m ∉ l.take (k + 1) by
        rw [List.take_succ_eq_append_getElem hlt]
        simp only [List.mem_append, List.mem_singleton, not_or]
        exact ⟨HJ.out, fun e => h e.symm⟩)
      generalize l[k] = x at g0 g1 g2 g3 heq HY HN
      have y0 := HQ.out.cell 0
      have y1 := HQ.out.cell 1
      have y2 := HQ.out.cell 2
      have y3 := HQ.out.cell 3
      simp at y0 y1 y2 y3
      have HQ2 := Lib.hid (HQ.out.keep ((Below.refl _ _).drew))
      have HQ3 := Lib.hid (fun n => HQ.out.keep ((Below.refl _ _).drewN n))
      clear HJ
      by_cases hx : x = m
      · rw [decide_eq_true hx] at heq
        have HF := Lib.hid (decide_eq_true (HY.out hx))
        clear hx HY HN
        go_wp2
        go_quiet (fail)
        go_wp2
        go_ret
        exact ⟨by rw [HF.out]; rfl, by first | exact HB.out | exact HB.out.drew | exact HB.out.drewN _⟩
      · rw [decide_eq_false hx] at heq
        have HN2 := Lib.hid (HN.out hx)
        clear hx HY HN
        go_wp2
        go_quiet (fail)
        go_wp2
        go_roundw
        case rel => exact ⟨k + 1, by omega, by go_num, HN2, by first | exact HQ2 | exact HQ | exact Lib.hid (HQ3.out _), by first | exact HB | exact Lib.hid HB.out.drew | exact Lib.hid (HB.out.drewN _)⟩
        case measure => simp [intOf]; omega
    · obtain rfl : k = l.length := by omega
      have hj := HJ.out
      rw [List.take_of_length_le (Nat.le_refl _)] at hj
      have HF := Lib.hid (decide_eq_false hj)
      clear HJ hj
      go_wp2
      go_ret
      exact ⟨by rw [HF.out]; rfl, HB.out⟩
end Go.Proofs.YthcgihgajdjfoaaGreatDoor
namespace Go.Proofs.YthcgihgajdjfoaaGreatDoor
open Go.RowKit Go.Sort
theorem hasR_findI (Y : List ManW) (m : Mod) : (findI Y m < 0 ↔ hasR (regW Y) m = false) := by
  rw [hasR_find, find_at]
  unfold findI
  by_cases h : Y.findIdx (isM m) < Y.length
  · rw [if_pos h, List.getElem?_eq_getElem h]
    simp
  · rw [if_neg h, List.getElem?_eq_none (by omega)]
    simp
theorem findI_at {Y : List ManW} {m : Mod} {i : Nat} (h : findI Y m = i) : ∃ hi : i < Y.length, reqOf (regW Y) m = Y[i].2.2.2 := by
  unfold findI at h
  by_cases hl : Y.findIdx (isM m) < Y.length
  · rw [if_pos hl] at h
    obtain rfl : Y.findIdx (isM m) = i := by omega
    refine ⟨hl, ?_⟩
    rw [reqOf_find, find_at, List.getElem?_eq_getElem hl]
    rfl
  · rw [if_neg hl] at h
    omega
theorem findI_none {Y : List ManW} {m : Mod} (h : findI Y m < 0) : reqOf (regW Y) m = [] := by
  have := (hasR_findI Y m).1 h
  rw [hasR_find] at this
  rw [reqOf_find]
  cases hf : Y.find? fun y => decide (y.1 = m) with
  | none => rfl
  | some y => rw [hf] at this; cases this
theorem findI_range (Y : List ManW) (m : Mod) : findI Y m = -1 ∨ ∃ i : Nat, findI Y m = i ∧ i < Y.length := by
  unfold findI
  split
  · exact .inr ⟨_, rfl, by assumption⟩
  · exact .inl rfl
set_option maxRecDepth 100000 in
set_option maxHeartbeats 4000000 in
theorem Requires_b (A : Option Addr) (c : Nat) (Y : List ManW) (m : Mod) (w : World) (B : Nat) (hB : B ≤ w.heap.size) (hY : RegOk w B A Y) :
    Calls Tryz.prog 119 #[.slice A Y.length c, .agg #[.string ⟨m.1.toArray⟩, .int .i64 m.2.1, .int .i64 m.2.2.1, .int .i64 m.2.2.2]] w fun e w' => ∃ A' c', e = .returned (.slice A' (reqOf (regW Y) m).length c') ∧ Sl w' B 4 encM A' (reqOf (regW Y) m) ∧ Below w.heap.size w w' := by
  have HY := Lib.hid hY
  have hYl := hY.2.2
  have HB0 := Lib.hid (show Below w.heap.size w (w.alloc (.cells #[.string ⟨m.1.toArray⟩, .int .i64 m.2.1, .int .i64 m.2.2.1, .int .i64 m.2.2.2] 26)) from (Below.refl _ _).alloc (Nat.le_refl _) _)
  have cF0 := fun W (hW : Below w.heap.size w W) => find_any A c Y m W ((HY.out.keep (hW.mono hB)).1.more (Nat.le_trans hB hW.size)) (by omega)
  have HI := Lib.hid (findI_range Y m)
  have HA := Lib.hid (fun i h => findI_at (Y := Y) (m := m) (i := i) h)
  have HN := Lib.hid (fun h => findI_none (Y := Y) (m := m) h)
  generalize findI Y m = f at cF0 HI HA HN
  generalize hL : reqOf (regW Y) m = L at HA HN
  have cF := Lib.hid cF0
  clear hY cF0 hL
  rcases HI.out with rfl | ⟨i, rfl, hi⟩
  · have hn := HN.out (by omega)
    subst hn
    clear HA HN HI
    go_enter Tryz.func119, Tryz.ntmps119
    go_wp2_with fail
    refine (cF.out _ HB0.out).mono ?_
    rintro e w1 ⟨rfl, hb1⟩
    have HB1 := Lib.hid (HB0.out.trans (hb1.mono HB0.out.size))
    clear hb1 cF
    go_wp2
    go_ret
    exact ⟨none, 0, rfl, Sl.nil_, HB1.out⟩
  · obtain ⟨_, hr⟩ := HA.out i rfl
    have hi' : (i : Int) < (Y.length : Int) := by omega
    have hi0 : ¬ (i : Int) < 0 := by omega
    clear HA HN HI
    go_enter Tryz.func119, Tryz.ntmps119
    go_wp2_with fail
    refine (cF.out _ HB0.out).mono ?_
    rintro e w1 ⟨rfl, hb1⟩
    have HB1 := Lib.hid (HB0.out.trans (hb1.mono HB0.out.size))
    have hY1 := HY.out.keep (HB1.out.mono hB)
    obtain ⟨b, off, rfl, hbB, g0, g1, g2, g3, g4⟩ := hY1.1.man hi
    have HS := Lib.hid (hY1.2.1 _ (List.getElem_mem hi)).1
    rw [← hr] at g4 HS
    generalize (Y[i]).2.1 = A1 at g4 HS
    generalize (Y[i]).2.2.1 = c1 at g4
    clear hr hb1 cF hY1 g0 g1 g2 g3
    go_wp2
    go_ret
    exact ⟨A1, c1, rfl, HS.out, HB1.out⟩
set_option maxRecDepth 100000 in
set_option maxHeartbeats 4000000 in
theorem rCheck_any (A : Option Addr) (c : Nat) (Y : List ManW) (w : World) (hY : RegOk w w.heap.size A Y) :
    Calls Tryz.prog 72 #[.slice A Y.length c] w fun e w' => e = .returned (.int .i64 (checkR (regW Y))) ∧ Below w.heap.size w w' := by
  have HY := Lib.hid hY
  have hYl := hY.2.2
  have hRl : (regW Y).length = Y.length := by simp [regW]
  have HRat := Lib.hid (fun i (hi : i < Y.length) (hr : i < (regW Y).length) => show (regW Y)[i] = (Y[i].1, Y[i].2.2.2) by simp [regW, plainW])
  have HRL := Lib.hid hRl
  have HFI := Lib.hid (fun k (hk : k < Y.length) => show findI Y Y[k].1 = k ↔ Y[k].1 ∉ ((regW Y).take k).map (·.1) from by
    have e : ((regW Y).take k).map (·.1) = (Y.take k).map (·.1) := by unfold regW; rw [← List.map_take, List.map_map]; rfl
    rw [e]
    constructor
    · intro h hm
      obtain ⟨y, hy, hye⟩ := List.mem_map.1 hm
      obtain ⟨j, hj, rfl⟩ := List.mem_iff_getElem.1 hy
      rw [List.length_take] at hj
      rw [List.getElem_take] at hye
      unfold findI at h
      split at h
      · rename_i hl
        have h1 : Y.findIdx (isM Y[k].1) = k := by omega
        have h2 := (List.findIdx_eq hk).1 h1
        have h3 := h2.2 j (by omega)
        unfold isM at h3
        exact (of_decide_eq_false h3) hye
      · omega
    · intro h
      refine findI_hit hk rfl fun j hj hl e => h (List.mem_map.2 ⟨Y[j], ?_, e⟩)
      exact List.mem_iff_getElem.2 ⟨j, by rw [List.length_take]; omega, List.getElem_take ..⟩)
  obtain ⟨E, hE⟩ : ∃ E, E = checkR (regW Y) := ⟨_, rfl⟩
  rw [← hE]
  unfold checkR at hE
  have hCR := Lib.hid hE
  clear hE
  generalize regW Y = R at HRat HRL hCR HFI
  clear hY hRl
  go_enter Tryz.func72, Tryz.ntmps72
  go_wp2
  go_loopw [3] (fun i wr => ∃ k : Nat, k ≤ Y.length ∧ i = .int .i64 (k : Nat) ∧ Hid (firstBad (R.take k) = 0) ∧ Hid (Below w.heap.size w wr)) (fun i _ => Y.length - (intOf i).toNat)
  case atStart => exact ⟨0, Nat.zero_le _, rfl, Lib.hid rfl, Lib.hid (Below.refl _ _)⟩
  case round =>
    obtain ⟨wo, hwo⟩ : ∃ wo, wo = wr := ⟨_, rfl⟩
    subst hwo
    obtain ⟨k, hk, rfl, HF, HB⟩ := hrel
    by_cases hlt : k < Y.length
    · have hlt' : (k : Int) < (Y.length : Int) := by omega
      obtain ⟨b, off, rfl, hbB, g0, g1, g2, g3, g4⟩ := (HY.out.step HB.out).1.man hlt
      obtain ⟨hy1, hy2, hy3⟩ := (HY.out.step HB.out).2.1 _ (List.getElem_mem hlt)
      have hkR : k < R.length := by rw [HRL.out]; exact hlt
      have hRk := HRat.out k hlt hkR
      have HHit := Lib.hid (firstBad_hit R k hkR HF.out)
      have HStep := Lib.hid (firstBad_step R k hkR HF.out)
      rw [hRk] at HHit HStep
      generalize Y[k] = y at g0 g1 g2 g3 g4 hy1 hy2 hy3 HHit HStep
      obtain ⟨m, A1, c1, l1⟩ := y
      simp only at g0 g1 g2 g3 g4 hy1 hy2 hy3 HHit HStep
      have cC := Lib.hid (refCheck_any m A1 c1 l1 wo hy1 (by omega) (fun x hx => by have := (hy3 x hx).1; omega))
      generalize mcheck m l1 = e0 at cC HHit HStep
      clear hy1 hy3
      by_cases he0 : e0 = 0
      · subst he0
        have HF2 := Lib.hid (HStep.out rfl)
        clear HHit HStep
        go_wp2_with fail
        refine cC.out.mono ?_
        rintro e w2 ⟨rfl, hb2⟩
        have HB2 := Lib.hid (HB.out.trans (hb2.mono HB.out.size))
        clear hb2 cC
        go_wp2
        go_roundw
        case rel => exact ⟨k + 1, by omega, by go_num, HF2, HB2⟩
        case measure => simp [intOf]; omega
      · have hfin := Lib.hid (show E = e0 by
          have h := HHit.out he0
          rw [hCR.out, if_neg (by rw [h]; exact he0), h])
        have he1 : (e0 != 0) = true := by simpa using he0
        clear he0 HHit HStep
        go_wp2_with fail
        refine cC.out.mono ?_
        rintro e w2 ⟨rfl, hb2⟩
        have HB2 := Lib.hid (HB.out.trans (hb2.mono HB.out.size))
        clear hb2 cC
        go_wp2
        go_ret
        exact ⟨by rw [hfin.out]; rfl, HB2.out⟩
    · obtain rfl : k = Y.length := by omega
      have hf := HF.out
      rw [← HRL.out, List.take_of_length_le (Nat.le_refl _)] at hf
      have HE := Lib.hid (show E = if dupR R = true then 6 else 0 by rw [hCR.out, if_pos hf])
      clear hf HF hCR
      go_wp2
      go_loopw [5] (fun i wr => ∃ k : Nat, k ≤ Y.length ∧ i = .int .i64 (k : Nat) ∧ Hid (dupR (R.take k) = false) ∧ Hid (Below w.heap.size w wr)) (fun i _ => Y.length - (intOf i).toNat)
      case atStart => exact ⟨0, Nat.zero_le _, rfl, Lib.hid rfl, HB⟩
      case round =>
        obtain ⟨j, hj, rfl, HD, HB⟩ := hrel
        by_cases hlt : j < Y.length
        · have hlt' : (j : Int) < (Y.length : Int) := by omega
          have hjR : j < R.length := by rw [HRL.out]; exact hlt
          have hRj := HRat.out j hlt hjR
          have HDS := Lib.hid (dupR_step R j hjR)
          rw [hRj] at HDS
          have HFJ := Lib.hid (HFI.out j hlt)
          obtain ⟨b, off, rfl, hbB, g0, g1, g2, g3, g4⟩ := (HY.out.step HB.out).1.man hlt
          have cF0 := find_any (some ⟨b, off, none⟩) c Y Y[j].1 wr (HY.out.step HB.out).1 (by omega)
          have HFR := Lib.hid (findI_range Y Y[j].1)
          generalize findI Y Y[j].1 = f at cF0 HFJ HFR
          generalize Y[j].1 = x at g0 g1 g2 g3 cF0 HDS HFJ
          have cF := Lib.hid cF0
          clear cF0 g4
          by_cases hf : f = (j : Int)
          · have HD2 := Lib.hid (show dupR (R.take (j + 1)) = false by rw [HDS.out, HD.out, decide_eq_false (HFJ.out.1 hf)]; rfl)
            subst hf
            clear HDS HFJ HFR
            go_wp2_with fail
            refine cF.out.mono ?_
            rintro e w2 ⟨rfl, hb2⟩
            have HB2 := Lib.hid (HB.out.trans (hb2.mono HB.out.size))
            clear hb2 cF
            go_wp2
            go_roundw
            case rel => exact ⟨j + 1, by omega, by go_num, HD2, HB2⟩
            case measure => simp [intOf]; omega
          · have HD2 := Lib.hid (show dupR R = true by
              have h1 : dupR (R.take (j + 1)) = true := by
                rw [HDS.out, decide_eq_true (Classical.byContradiction fun h => hf (HFJ.out.2 h))]
                simp
              unfold dupR at h1 ⊢
              simp only [Bool.not_eq_true', decide_eq_false_iff_not] at h1 ⊢
              exact fun h => h1 (List.Nodup.sublist (List.Sublist.map _ (List.take_sublist _ _)) h))
            have hfin := Lib.hid (HE.out.trans (if_pos HD2.out))
            have hf1 : (f != (j : Int)) = true := by simpa using hf
            have hf2 : (f == (j : Int)) = false := by simpa using hf
            clear HDS HFJ HFR hf HD2
            go_wp2_with fail
            refine cF.out.mono ?_
            rintro e w2 ⟨rfl, hb2⟩
            have HB2 := Lib.hid (HB.out.trans (hb2.mono HB.out.size))
            clear hb2 cF
            go_wp2
            go_ret
            exact ⟨by rw [hfin.out]; rfl, HB2.out⟩
        · obtain rfl : j = Y.length := by omega
          have hd := HD.out
          rw [← HRL.out, List.take_of_length_le (Nat.le_refl _)] at hd
          have hfin := Lib.hid (HE.out.trans (if_neg (by rw [hd]; simp)))
          clear hd HD
          go_wp2
          go_ret
          exact ⟨by rw [hfin.out]; rfl, HB.out⟩
end Go.Proofs.YthcgihgajdjfoaaGreatDoor
namespace Go.Proofs.YthcgihgajdjfoaaGreatDoor
open Go.RowKit Go.Sort
def okS (x : Mod × List Mod) : Prop := x.2.length ≤ 8 ∧ x.1.1.length ≤ 61 ∧ ∀ m ∈ x.2, m.1.length ≤ 61
def smallP (R : Regy) : Prop := (∀ x ∈ R, okS x) ∧ R.length ≤ 10
def ManLoose (w : World) (y : ManW) : Prop := Sl w w.heap.size 4 encM y.2.1 y.2.2.2 ∧ y.2.2.2.length ≤ 1048576 ∧ ∀ m ∈ y.1 :: y.2.2.2, okB m
theorem ManLoose.step {w w' : World} {y : ManW} (h : ManLoose w y) (hb : Below w.heap.size w w') : ManLoose w' y := ⟨(h.1.below hb).more hb.size, h.2⟩
theorem ManLoose.ok {w : World} {y : ManW} (h : ManLoose w y) (hs : smallP [plainW y]) : ManOk w w.heap.size y := ⟨h.1, by
  have := (hs.1 (plainW y) List.mem_cons_self).1
  unfold plainW at this
  simp only at this
  omega, h.2.2⟩
def RegLoose (w : World) (A : Option Addr) (Y : List ManW) : Prop :=
  Sl w w.heap.size 5 encW A Y ∧ (∀ y ∈ Y, ManLoose w y) ∧ Y.length ≤ 1048576
theorem RegLoose.step {w w' : World} {A : Option Addr} {Y : List ManW} (h : RegLoose w A Y) (hb : Below w.heap.size w w') : RegLoose w' A Y :=
  ⟨(h.1.below hb).more hb.size, fun y hy => (h.2.1 y hy).step hb, h.2.2⟩
theorem RegLoose.ok {w : World} {A : Option Addr} {Y : List ManW} (h : RegLoose w A Y) (hs : smallP (regW Y)) : RegOk w w.heap.size A Y := by
  refine ⟨h.1, fun y hy => ⟨(h.2.1 y hy).1, ?_, (h.2.1 y hy).2.2⟩, ?_⟩
  · have := (hs.1 (plainW y) (List.mem_map_of_mem hy)).1
    unfold plainW at this
    simp only at this
    omega
  · have := hs.2
    unfold regW at this
    rw [List.length_map] at this
    omega
end Go.Proofs.YthcgihgajdjfoaaGreatDoor
