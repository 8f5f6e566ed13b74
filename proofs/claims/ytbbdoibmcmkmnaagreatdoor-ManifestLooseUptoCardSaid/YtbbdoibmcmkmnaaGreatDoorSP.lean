/- Walks: versions out of texts (semver.Parse). -/
import Derived.Test.YtbbdoibmcmkmnaaGreatDoorPU
import Derived.Test.YtbbdoibmcmkmnaaGreatDoorWH
import Derived.Test.YtbbdoibmcmkmnaaGreatDoorLN
import Derived.Lib.AtoiErrMem
namespace Go.Proofs.YtbbdoibmcmkmnaaGreatDoor
open Go.RowKit

theorem version_any (x y z : Int) (w : World) :
    Calls Tryz.prog 64 #[.agg #[.int .i64 x, .int .i64 y, .int .i64 z]] w fun e w' => e = .returned (.agg #[.int .i64 x, .int .i64 y, .int .i64 z]) ∧ Below w.heap.size w w' := by
  go_enter Tryz.func64, Tryz.ntmps64
  go_wp2
  refine bodyPost_ret (v := .agg #[.int .i64 x, .int .i64 y, .int .i64 z]) (by simp [results, Tryz.results64, go_sem]) rfl ?_
  exact ⟨rfl, ((Below.refl _ _).alloc (Nat.le_refl _) _).alloc (by simp) _⟩
theorem Atoi_any (t : List UInt8) (w : World) (ht : t.length ≤ 18) (hG : Glob w) :
    Calls Tryz.prog 63 #[.string ⟨t.toArray⟩] w fun e w' => ∃ er, e = .returned (.tuple #[.int .i64 ((Lib.atoi t).getD 0), er]) ∧ Below w.heap.size w w' := by
  have hs : (⟨t.toArray⟩ : ByteArray).size ≤ 18 := by simpa [ByteArray.size] using ht
  cases h : Lib.atoi t with
  | some n =>
    refine (Tryz.strconv_Atoi ⟨t.toArray⟩ n hs h w).mono ?_
    rintro e w' ⟨rfl, t', rfl⟩
    exact ⟨_, rfl, Lib.bytesWorld_below _ _ _⟩
  | none =>
    obtain ⟨_, ⟨te, pe, he⟩, _⟩ := hG
    refine (Tryz.strconv_Atoi_err ⟨t.toArray⟩ hs h _ w he (.inr ⟨te, pe, rfl⟩)).mono ?_
    rintro e w' ⟨N, rfl, _, _, hb⟩
    exact ⟨_, rfl, hb⟩
/-- the version and the error -/
def vver (s : List UInt8) : Ver := (vparse s).getD (0, 0, 0)
def verr (s : List UInt8) : Int := if (vparse s).isSome = true then 0 else 8
def RetVer (w : World) (s : List UInt8) (e : Ending) (w' : World) : Prop := e = .returned (.tuple #[.agg #[.int .i64 (vver s).1, .int .i64 (vver s).2.1, .int .i64 (vver s).2.2], .int .i64 (verr s)]) ∧ Below w.heap.size w w'
theorem ret_none {w w' : World} {s : List UInt8} (h : vparse s = none) (hb : Below w.heap.size w w') : RetVer w s (.returned (.tuple #[.agg #[.int .i64 0, .int .i64 0, .int .i64 0], .int .i64 8])) w' := by
  unfold RetVer vver verr
  rw [h]
  exact ⟨rfl, hb⟩
theorem ret_some {w w' : World} {s : List UInt8} {x y z : Int} (h : vparse s = some (x, y, z)) (hb : Below w.heap.size w w') : RetVer w s (.returned (.tuple #[.agg #[.int .i64 x, .int .i64 y, .int .i64 z], .int .i64 0])) w' := by
  unfold RetVer vver verr
  rw [h]
  exact ⟨rfl, hb⟩
/-- the numbers that have been read -/
def nk (L : List (List UInt8)) (k i : Nat) : Int := if i < k then vnum L i else 0
theorem nk_fin (L : List (List UInt8)) (k i : Nat) (hk : k = min L.length 3) (hi : i < 3) : nk L k i = vnum L i := by
  unfold nk
  split
  · rfl
  · unfold vnum
    rw [List.getElem?_eq_none (by omega)]
theorem vnum_at (L : List (List UInt8)) (k : Nat) (h : k < L.length) : vnum L k = (Lib.atoi L[k]).getD 0 := by
  unfold vnum
  rw [List.getElem?_eq_getElem h]

set_option maxRecDepth 100000 in
set_option maxHeartbeats 4000000 in
theorem vParse_any (s : List UInt8) (w : World) (hs : s.length ≤ maxLen) (hG : Glob w) :
    Calls Tryz.prog 45 #[.string ⟨s.toArray⟩] w (RetVer w s) := by
  unfold maxLen at hs
  by_cases h15 : 15 < s.length
  · have d15 : decide ((15 : Int) < (s.length : Int)) = true := decide_eq_true (by omega)
    have hn := Lib.hid (show vparse s = none by unfold vparse; simp only; rw [if_neg (by omega)])
    generalize hR : RetVer w s = R
    go_enter Tryz.func45, Tryz.ntmps45
    go_wp2
    refine bodyPost_ret (v := .tuple #[.agg #[.int .i64 0, .int .i64 0, .int .i64 0], .int .i64 8]) (by simp [results, Tryz.results45, go_sem]) rfl ?_
    rw [← hR]
    exact ret_none hn.out ((Below.refl _ _).alloc (Nat.le_refl _) _)
  · have d15 : decide ((15 : Int) < (s.length : Int)) = false := decide_eq_false (by omega)
    have hp0 := fun W => Tryz.strings_HasPrefix ⟨s.toArray⟩ ⟨#[118]⟩ W
    by_cases hv : s.take 1 = [118]
    · have hpb : Lib.hasPrefix s [118] = true := by
        cases s with
        | nil => simp at hv
        | cons c u => simp at hv; subst hv; simp [Lib.hasPrefix]
      have hp1 : ∀ W, Calls Tryz.prog 52 #[.string ⟨s.toArray⟩, .string ⟨#[118]⟩] W fun e w' => e = .returned (.bool true) ∧ w' = W := fun W => by
        have h := hp0 W
        rw [show Lib.hasPrefix (⟨s.toArray⟩ : ByteArray).data.toList (⟨#[118]⟩ : ByteArray).data.toList = true from hpb] at h
        exact h
      have hp := Lib.hid hp1
      obtain ⟨u, hu⟩ : ∃ u, s = 118 :: u := by
        cases s with
        | nil => simp at hv
        | cons c u => simp at hv; subst hv; exact ⟨u, rfl⟩
      have hul : u.length ≤ 14 := by subst hu; simp at h15; omega
      have hx : (⟨s.toArray⟩ : ByteArray).extract 1 s.length = ⟨u.toArray⟩ := by subst hu; rw [ByteArray.extract_mk]; simp
      have hdrop : s.drop 1 = u := by subst hu; rfl
      have hsl1 : (1 : Int) ≤ (s.length : Int) := by subst hu; simp; omega
      have HV := Lib.hid (show vparse s = (let l := splitL 46 u; if vtext (vnum l 0) (vnum l 1) (vnum l 2) = s then some (vnum l 0, vnum l 1, vnum l 2) else none) by
        unfold vparse
        rw [hdrop]
        simp only
        by_cases ht : vtext (vnum (splitL 46 u) 0) (vnum (splitL 46 u) 1) (vnum (splitL 46 u) 2) = s
        · rw [if_pos ⟨by omega, hv, ht⟩, if_pos ht]
        · rw [if_neg (fun h => ht h.2.2), if_neg ht])
      simp only at HV
      have cS := Lib.hid (fun W hW => Split_any u 46 W (by omega) hW)
      obtain ⟨hLl, hLx⟩ := splitL_len 46 u
      have hLne : 0 < (splitL 46 u).length := List.length_pos_iff.2 (splitL_ne 46 u)
      generalize splitL 46 u = L at HV cS hLl hLx hLne
      have HG := Lib.hid hG
      generalize hR : RetVer w s = R
      clear hp0 hp1 hpb hv hu hdrop hG
      go_enter Tryz.func45, Tryz.ntmps45
      go_wp2_with fail
      refine (hp.out _).mono ?_
      rintro e w1 ⟨rfl, rfl⟩
      go_wp2_with fail
      refine (cS.out _ (HG.out.alloc _)).mono ?_
      rintro e w2 ⟨A2, rfl, hS2, hb2⟩
      have Q0 := Lib.hid ((Blk.new w 23 #[.int .i64 0, .int .i64 0, .int .i64 0]).keep hb2)
      have hB2 := Lib.hid (((Below.refl _ _).alloc (Nat.le_refl _) (.cells #[.int .i64 0, .int .i64 0, .int .i64 0] 23)).trans (hb2.mono (by simp)))
      have hz2 := hb2.size
      simp at hz2
      clear hb2 hp cS
      go_wp2_with fail
      have hm : min (L.length : Int) 3 = ((min L.length 3 : Nat) : Int) := by omega
      rw [hm]
      clear hm
      have hmL : min L.length 3 ≤ L.length ∧ min L.length 3 ≤ 3 := by omega
      have HM := Lib.hid (show min L.length 3 = min L.length 3 from rfl)
      generalize hmm : min L.length 3 = m at HM hmL
      have HM' := Lib.hid hmm
      clear HM hmm
      obtain ⟨hmL1, hmL2⟩ := hmL
      have hb3 : Below w2.heap.size w2 (w2.alloc (.cells #[.int .i64 0, .int .i64 0, .int .i64 0] 74)) := (Below.refl _ _).alloc (Nat.le_refl _) _
      go_loopw [23] (fun i wr => ∃ k : Nat, k ≤ m ∧ i = .int .i64 (k : Nat) ∧ Hid (Blk wr w2.heap.size 74 #[.int .i64 (nk L k 0), .int .i64 (nk L k 1), .int .i64 (nk L k 2)]) ∧ Below w2.heap.size w2 wr) (fun i _ => m - (intOf i).toNat)
      case atStart => exact ⟨0, Nat.zero_le _, rfl, Blk.new _ _ _, hb3⟩
      case round =>
        obtain ⟨k, hk, rfl, HB, hb⟩ := hrel
        have hbz := hb.size
        have HW := Lib.hid (hB2.out.trans (hb.mono hB2.out.size))
        by_cases hlt : k < m
        · have hlt' : (k : Int) < (m : Int) := by omega
          have hkL : k < L.length := by omega
          have hkL' : (k : Int) < (L.length : Int) := by omega
          obtain ⟨b, off, rfl, hbB, g0⟩ := (hS2.below hb).str hkL
          have hxl := hLx _ (List.getElem_mem hkL)
          have HN := Lib.hid (vnum_at L k hkL)
          generalize L[k] = t at g0 hxl HN
          have cA := Lib.hid (Atoi_any t wr (by omega) (HG.out.keep HW.out))
          go_wp2_with fail
          refine cA.out.mono ?_
          rintro e w3 ⟨er, rfl, hb3⟩
          have KB := HB.out.keep hb3
          rw [← HN.out]
          have HB3 := Lib.hid (hb.trans (hb3.mono hbz))
          clear hb3 cA
          have f : ∀ i, w3.frozen? ⟨w2.heap.size, i, none⟩ = false := fun i => KB.free i
          have c0 := KB.cell 0
          have c1 := KB.cell 1
          have c2 := KB.cell 2
          simp at c0 c1 c2
          have f0 := f 0
          have f1 := f 1
          have f2 := f 2
          have KH := Lib.hid KB
          clear KB f
          rcases (show k = 0 ∨ k = 1 ∨ k = 2 by omega) with rfl | rfl | rfl
          · go_wp2
            go_roundw
            case rel => exact ⟨1, by omega, by go_num, KH.out.set_ 0 _, HB3.out.setCell (p := ⟨w2.heap.size, 0, none⟩) (Nat.le_refl _) _⟩
            case measure => simp [intOf]; omega
          · go_wp2
            go_roundw
            case rel => exact ⟨2, by omega, by go_num, KH.out.set_ 1 _, HB3.out.setCell (p := ⟨w2.heap.size, 1, none⟩) (Nat.le_refl _) _⟩
            case measure => simp [intOf]; omega
          · go_wp2
            go_roundw
            case rel => exact ⟨3, by omega, by go_num, KH.out.set_ 2 _, HB3.out.setCell (p := ⟨w2.heap.size, 2, none⟩) (Nat.le_refl _) _⟩
            case measure => simp [intOf]; omega
        · have hlt' : ¬ (k : Int) < (m : Int) := by omega
          have hkm : k = min L.length 3 := by rw [HM'.out]; omega
          have KB := HB.out
          rw [nk_fin L k 0 hkm (by decide), nk_fin L k 1 hkm (by decide), nk_fin L k 2 hkm (by decide)] at KB
          generalize vnum L 0 = x at KB HV
          generalize vnum L 1 = y at KB HV
          generalize vnum L 2 = z at KB HV
          have c0 := KB.cell 0
          have c1 := KB.cell 1
          have c2 := KB.cell 2
          simp at c0 c1 c2
          have QB := Lib.hid (Q0.out.keep (hb.mono (Nat.le_refl _)))
          have cV := Lib.hid (fun W => version_any x y z W)
          have cT := Lib.hid (fun W hW => vText_any x y z W hW)
          clear c0 c1 c2
          have c0 := KB.cell 0
          have c1 := KB.cell 1
          have c2 := KB.cell 2
          simp at c0 c1 c2
          clear hkm
          go_wp2_with fail
          refine (cV.out _).mono ?_
          rintro e w3 ⟨rfl, hb3⟩
          have HB3 := Lib.hid (HW.out.trans (hb3.mono HW.out.size))
          have QB3 := Lib.hid (QB.out.keep hb3)
          have hz3 := HB3.out.size
          have hz4 := hb3.size
          have hq := QB.out.lt
          clear hb3 cV QB
          go_wp2_with fail
          have Bx := (Blk.new w3 23 #[.int .i64 x, .int .i64 y, .int .i64 z])
          refine (cT.out _ ((HG.out.keep HB3.out).alloc _)).mono ?_
          rintro e w4 ⟨rfl, hb4⟩
          have Bx4 := Bx.keep hb4
          have QB4 := (QB3.out.keep ((Below.refl _ _).alloc (Nat.le_refl _) _)).keep hb4
          have HB4 := Lib.hid ((HB3.out.alloc HB3.out.size _).trans (hb4.mono (by simp; omega)))
          have y0 := Bx4.cell 0
          have y1 := Bx4.cell 1
          have y2 := Bx4.cell 2
          have z0 := QB4.cell 0
          have z1 := QB4.cell 1
          have z2 := QB4.cell 2
          have f0 := QB4.free 0
          have f1 := QB4.free 1
          have f2 := QB4.free 2
          simp at y0 y1 y2 z0 z1 z2
          clear Bx4 QB4 hb4 cT Bx
          by_cases ht : vtext x y z = s
          · have HV' := Lib.hid (show vparse s = some (x, y, z) by rw [HV.out, if_pos ht])
            rw [ht]
            clear ht HV
            go_wp2
            refine bodyPost_ret (v := .tuple #[.agg #[.int .i64 x, .int .i64 y, .int .i64 z], .int .i64 0]) (by simp [results, Tryz.results45, go_sem, z0, z1, z2]) rfl ?_
            rw [← hR]
            exact ret_some HV'.out (((HB4.out.setCell (by simp) _).setCell (by simp) _).setCell (by simp) _)
          · have HV' := Lib.hid (show vparse s = none by rw [HV.out, if_neg ht])
            have ht' : (vtext x y z == s) = false := beq_eq_false_iff_ne.2 ht
            clear ht HV
            go_wp2
            refine bodyPost_ret (v := .tuple #[.agg #[.int .i64 0, .int .i64 0, .int .i64 0], .int .i64 8]) (by simp [results, Tryz.results45, go_sem, z0, z1, z2]) rfl ?_
            rw [← hR]
            exact ret_none HV'.out (((HB4.out.setCell (by simp) _).setCell (by simp) _).setCell (by simp) _)
    · have hpb : Lib.hasPrefix s [118] = false := by
        cases s with
        | nil => rfl
        | cons c u => simp at hv; show ((118 : UInt8) == c && List.isPrefixOf [] u) = false; rw [beq_eq_false_iff_ne.2 (fun (h : (118 : UInt8) = c) => hv h.symm)]; rfl
      have hp1 : ∀ W, Calls Tryz.prog 52 #[.string ⟨s.toArray⟩, .string ⟨#[118]⟩] W fun e w' => e = .returned (.bool false) ∧ w' = W := fun W => by
        have h := hp0 W
        rw [show Lib.hasPrefix (⟨s.toArray⟩ : ByteArray).data.toList (⟨#[118]⟩ : ByteArray).data.toList = false from hpb] at h
        exact h
      have hp := Lib.hid hp1
      have hn := Lib.hid (show vparse s = none by unfold vparse; simp only; rw [if_neg (fun h => hv h.2.1)])
      clear hp0 hp1 hpb hv
      generalize hR : RetVer w s = R
      go_enter Tryz.func45, Tryz.ntmps45
      go_wp2_with fail
      refine (hp.out _).mono ?_
      rintro e w1 ⟨rfl, rfl⟩
      go_wp2
      refine bodyPost_ret (v := .tuple #[.agg #[.int .i64 0, .int .i64 0, .int .i64 0], .int .i64 8]) (by simp [results, Tryz.results45, go_sem]) rfl ?_
      rw [← hR]
      exact ret_none hn.out ((Below.refl _ _).alloc (Nat.le_refl _) _)
end Go.Proofs.YtbbdoibmcmkmnaaGreatDoor
