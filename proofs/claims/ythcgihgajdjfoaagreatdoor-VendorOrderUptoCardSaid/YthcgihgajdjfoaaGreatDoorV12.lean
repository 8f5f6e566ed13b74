/- What the claim needs of: LN SP VA IA Sort. -/
import Derived.Test.YthcgihgajdjfoaaGreatDoorV11
import Derived.Test.YthcgihgajdjfoaaGreatDoorV7
import Derived.RangeFuncFrom
import Derived.RangeFuncBox
import Derived.Test.YthcgihgajdjfoaaGreatDoorV6
import Derived.RangeFuncNested
import Derived.RangeFuncBound
import Derived.RangeFuncCalls
import Derived.RangeFuncLeaves
import Derived.Shelf.Abstract
import Derived.Shelf.RegionOpen
import Derived.OwnWalkIn
import Derived.TacticsInMore
import Derived.LoopNIn
import Derived.LoopIn
import Derived.Maps.AppendAt
import Derived.Deep.DeepMust
import Derived.Lib.AtoiErrMem
import Derived.Test.YthcgihgajdjfoaaGreatDoorV9
import Derived.Test.YthcgihgajdjfoaaGreatDoorV10
import Derived.Test.YthcgihgajdjfoaaGreatDoorV8
namespace Go.Proofs.YthcgihgajdjfoaaGreatDoor
open Go.RowKit Go.Shelf
attribute [local go_sem] Oper.semAt_some
theorem Cut_any (s sep : List UInt8) (w : World) (hs : s.length ≤ 1000000) (hG : Glob w) :
  Calls Tryz.prog 39 #[.string ⟨s.toArray⟩, .string ⟨sep.toArray⟩] w fun e w' => e = .returned (.tuple #[.string ⟨(Lib.cut s sep).1.toArray⟩, .string ⟨(Lib.cut s sep).2.1.toArray⟩, .bool (Lib.cut s sep).2.2]) ∧ ∃ n, w' = w.drewN n := by
 obtain ⟨⟨m, hm⟩, _⟩ := hG
 exact Tryz.strings_Cut ⟨s.toArray⟩ ⟨sep.toArray⟩ m w (by simp [ByteArray.size]; omega) hm
theorem Split_any (s : List UInt8) (b : UInt8) (w : World) (hs : s.length ≤ 1000000) (hG : Glob w) :
  Calls Tryz.prog 83 #[.string ⟨s.toArray⟩, .string ⟨#[b]⟩] w fun e w' => ∃ A, e = .returned (.slice A (splitL b s).length (splitL b s).length) ∧ Sl w' w'.heap.size 1 encS A (splitL b s) ∧ Below w.heap.size w w' := by
 obtain ⟨⟨m, hm⟩, _⟩ := hG
 obtain ⟨he1, he2⟩ := splitB_eq b s.length s (Nat.le_refl _)
 have hcall := Tryz.strings_Split ⟨s.toArray⟩ ⟨#[b]⟩ m w (by simp [ByteArray.size]; omega) hm (by simp [ByteArray.size])
 rw [he1, he2] at hcall
 generalize splitL b s = L at hcall
 refine hcall.mono ?_
 rintro e w' ⟨rfl, rfl⟩
 refine ⟨_, rfl, .inr ⟨w.heap.size, 0, rfl, by simp, fun i hi j v hv => ?_⟩, (Below.refl _ _).alloc (Nat.le_refl _) _⟩
 match j, hv with
 | 0, hv =>
   simp [encS] at hv
   subst hv
   simp [hi]
theorem grown_of_below {w w' : World} (hb : Below w.heap.size w w') (row : Option Nat) : w.grownBy w' row := ⟨hb.os, hb.tape, hb.output, hb.size, fun k hk _ => hb.block k hk⟩
end Go.Proofs.YthcgihgajdjfoaaGreatDoor
namespace Go.Proofs.YthcgihgajdjfoaaGreatDoor
open Go.RowKit
theorem version_any (x y z : Int) (w : World) :
  Calls Tryz.prog 131 #[.agg #[.int .i64 x, .int .i64 y, .int .i64 z]] w fun e w' => e = .returned (.agg #[.int .i64 x, .int .i64 y, .int .i64 z]) ∧ Below w.heap.size w w' := by
 go_enter Tryz.func131, Tryz.ntmps131
 go_wp2
 refine bodyPost_ret (v := .agg #[.int .i64 x, .int .i64 y, .int .i64 z]) (by simp [results, Tryz.results131, go_sem]) rfl ?_
 exact ⟨rfl, ((Below.refl _ _).alloc (Nat.le_refl _) _).alloc (by simp) _⟩
theorem Atoi_any (t : List UInt8) (w : World) (ht : t.length ≤ 18) (hG : Glob w) :
  Calls Tryz.prog 130 #[.string ⟨t.toArray⟩] w fun e w' => ∃ er, e = .returned (.tuple #[.int .i64 ((Lib.atoi t).getD 0), er]) ∧ Below w.heap.size w w' := by
 have hs : (⟨t.toArray⟩ : ByteArray).size ≤ 18 := by simpa [ByteArray.size] using ht
 cases h : Lib.atoi t with
 | some n =>
   refine (Tryz.strconv_Atoi ⟨t.toArray⟩ n hs h w).mono ?_
   rintro e w' ⟨rfl, t', rfl⟩
   exact ⟨_, rfl, Lib.bytesWorld_below _ _ _⟩
 | none =>
   obtain ⟨_, ⟨te, pe, he⟩, _⟩ := hG
   refine (Tryz.strconv_Atoi_err ⟨t.toArray⟩ hs h _ w he (.inr ⟨te, pe, rfl⟩)).mono ?_
   rintro e w' ⟨N, rfl, _, _, hb⟩
   exact ⟨_, rfl, hb⟩
def vver (s : List UInt8) : Ver := (vparse s).getD (0, 0, 0)
def verr (s : List UInt8) : Int := if (vparse s).isSome = true then 0 else 8
def RetVer (w : World) (s : List UInt8) (e : Ending) (w' : World) : Prop := e = .returned (.tuple #[.agg #[.int .i64 (vver s).1, .int .i64 (vver s).2.1, .int .i64 (vver s).2.2], .int .i64 (verr s)]) ∧ Below w.heap.size w w'
theorem ret_none {w w' : World} {s : List UInt8} (h : vparse s = none) (hb : Below w.heap.size w w') : RetVer w s (.returned (.tuple #[.agg #[.int .i64 0, .int .i64 0, .int .i64 0], .int .i64 8])) w' := by
 unfold RetVer vver verr
 rw [h]
 exact ⟨rfl, hb⟩
theorem ret_some {w w' : World} {s : List UInt8} {x y z : Int} (h : vparse s = some (x, y, z)) (hb : Below w.heap.size w w') : RetVer w s (.returned (.tuple #[.agg #[.int .i64 x, .int .i64 y, .int .i64 z], .int .i64 0])) w' := by
 unfold RetVer vver verr
 rw [h]
 exact ⟨rfl, hb⟩
def nk (L : List (List UInt8)) (k i : Nat) : Int := if i < k then vnum L i else 0
theorem nk_fin (L : List (List UInt8)) (k i : Nat) (hk : k = min L.length 3) (hi : i < 3) : nk L k i = vnum L i := by
 unfold nk
 split
 ·rfl
 ·unfold vnum
  rw [List.getElem?_eq_none (by omega)]
theorem vnum_at (L : List (List UInt8)) (k : Nat) (h : k < L.length) : vnum L k = (Lib.atoi L[k]).getD 0 := by
 unfold vnum
 rw [List.getElem?_eq_getElem h]
set_option maxRecDepth 100000 in
set_option maxHeartbeats 4000000 in
theorem vParse_any (s : List UInt8) (w : World) (hs : s.length ≤ maxLen) (hG : Glob w) :
  Calls Tryz.prog 85 #[.string ⟨s.toArray⟩] w (RetVer w s) := by
 unfold maxLen at hs
 by_cases h15 : 15 < s.length
 ·have d15 : decide ((15 : Int) < (s.length : Int)) = true := decide_eq_true (by omega)
  have hn := Lib.hid (show vparse s = none by unfold vparse; simp only; rw [if_neg (by omega)])
  generalize hR : RetVer w s = R
  go_enter Tryz.func85, Tryz.ntmps85
  go_wp2
  refine bodyPost_ret (v := .tuple #[.agg #[.int .i64 0, .int .i64 0, .int .i64 0], .int .i64 8]) (by simp [results, Tryz.results85, go_sem]) rfl ?_
  rw [← hR]
  exact ret_none hn.out ((Below.refl _ _).alloc (Nat.le_refl _) _)
 ·have d15 : decide ((15 : Int) < (s.length : Int)) = false := decide_eq_false (by omega)
  have hp0 := fun W => Tryz.strings_HasPrefix ⟨s.toArray⟩ ⟨#[118]⟩ W
  by_cases hv : s.take 1 = [118]
  ·have hpb : Lib.hasPrefix s [118] = true := by
    cases s with
    | nil => simp at hv
    | cons c u => simp at hv; subst hv; simp [Lib.hasPrefix]
   have hp1 : ∀ W, Calls Tryz.prog 129 #[.string ⟨s.toArray⟩, .string ⟨#[118]⟩] W fun e w' => e = .returned (.bool true) ∧ w' = W := fun W => by
    have h := hp0 W
    rw [show Lib.hasPrefix (⟨s.toArray⟩ : ByteArray).data.toList (⟨#[118]⟩ : ByteArray).data.toList = true from hpb] at h
    exact h
   have hp := Lib.hid hp1
   obtain ⟨u, hu⟩ : ∃ u, s = 118 :: u := by
    cases s with
    | nil => simp at hv
    | cons c u => simp at hv; subst hv; exact ⟨u, rfl⟩
   have hul : u.length ≤ 14 := by subst hu; simp at h15; omega
   have hx : (⟨s.toArray⟩ : ByteArray).extract 1 s.length = ⟨u.toArray⟩ := by subst hu; rw [ByteArray.extract_mk]; simp
   have hdrop : s.drop 1 = u := by subst hu; rfl
   have hsl1 : (1 : Int) ≤ (s.length : Int) := by subst hu; simp; omega
   have HV := Lib.hid (show vparse s = (let l := splitL 46 u; if vtext (vnum l 0) (vnum l 1) (vnum l 2) = s then some (vnum l 0, vnum l 1, vnum l 2) else none) by
    unfold vparse
    rw [hdrop]
    simp only
    by_cases ht : vtext (vnum (splitL 46 u) 0) (vnum (splitL 46 u) 1) (vnum (splitL 46 u) 2) = s
    ·rw [if_pos ⟨by omega, hv, ht⟩, if_pos ht]
    ·rw [if_neg (fun h => ht h.2.2), if_neg ht])
   simp only at HV
   have cS := Lib.hid (fun W hW => Split_any u 46 W (by omega) hW)
   obtain ⟨hLl, hLx⟩ := splitL_len 46 u
   have hLne : 0 < (splitL 46 u).length := List.length_pos_iff.2 (splitL_ne 46 u)
   generalize splitL 46 u = L at HV cS hLl hLx hLne
   have HG := Lib.hid hG
   generalize hR : RetVer w s = R
   clear hp0 hp1 hpb hv hu hdrop hG
   go_enter Tryz.func85, Tryz.ntmps85
   go_wp2_with fail
   refine (hp.out _).mono ?_
   rintro e w1 ⟨rfl, rfl⟩
   go_wp2_with fail
   refine (cS.out _ (HG.out.alloc _)).mono ?_
   rintro e w2 ⟨A2, rfl, hS2, hb2⟩
   have Q0 := Lib.hid ((Blk.new w 24 #[.int .i64 0, .int .i64 0, .int .i64 0]).keep hb2)
   have hB2 := Lib.hid (((Below.refl _ _).alloc (Nat.le_refl _) (.cells #[.int .i64 0, .int .i64 0, .int .i64 0] 24)).trans (hb2.mono (by simp)))
   have hz2 := hb2.size
   simp at hz2
   clear hb2 hp cS
   go_wp2_with fail
   have hm : min (L.length : Int) 3 = ((min L.length 3 : Nat) : Int) := by omega
   rw [hm]
   clear hm
   have hmL : min L.length 3 ≤ L.length ∧ min L.length 3 ≤ 3 := by omega
   have HM := Lib.hid (show min L.length 3 = min L.length 3 from rfl)
   generalize hmm : min L.length 3 = m at HM hmL
   have HM' := Lib.hid hmm
   clear HM hmm
   obtain ⟨hmL1, hmL2⟩ := hmL
   have hb3 : Below w2.heap.size w2 (w2.alloc (.cells #[.int .i64 0, .int .i64 0, .int .i64 0] 167)) := (Below.refl _ _).alloc (Nat.le_refl _) _
   go_loopw [23] (fun i wr => ∃ k : Nat, k ≤ m ∧ i = .int .i64 (k : Nat) ∧ Hid (Blk wr w2.heap.size 167 #[.int .i64 (nk L k 0), .int .i64 (nk L k 1), .int .i64 (nk L k 2)]) ∧ Below w2.heap.size w2 wr) (fun i _ => m - (intOf i).toNat)
   case atStart => exact ⟨0, Nat.zero_le _, rfl, Blk.new _ _ _, hb3⟩
   case round =>
    obtain ⟨k, hk, rfl, HB, hb⟩ := hrel
    have hbz := hb.size
    have HW := Lib.hid (hB2.out.trans (hb.mono hB2.out.size))
    by_cases hlt : k < m
    ·have hlt' : (k : Int) < (m : Int) := by omega
     have hkL : k < L.length := by omega
     have hkL' : (k : Int) < (L.length : Int) := by omega
     obtain ⟨b, off, rfl, hbB, g0⟩ := (hS2.below hb).str hkL
     have hxl := hLx _ (List.getElem_mem hkL)
     have HN := Lib.hid (vnum_at L k hkL)
     generalize L[k] = t at g0 hxl HN
     have cA := Lib.hid (Atoi_any t wr (by omega) (HG.out.keep HW.out))
     go_wp2_with fail
     refine cA.out.mono ?_
     rintro e w3 ⟨er, rfl, hb3⟩
     have KB := HB.out.keep hb3
     rw [← HN.out]
     have HB3 := Lib.hid (hb.trans (hb3.mono hbz))
     clear hb3 cA
     have f : ∀ i, w3.frozen? ⟨w2.heap.size, i, none⟩ = false := fun i => KB.free i
     have c0 := KB.cell 0
     have c1 := KB.cell 1
     have c2 := KB.cell 2
     simp at c0 c1 c2
     have f0 := f 0
     have f1 := f 1
     have f2 := f 2
     have KH := Lib.hid KB
     clear KB f
     rcases (show k = 0 ∨ k = 1 ∨ k = 2 by omega) with rfl | rfl | rfl
     ·go_wp2
      go_roundw
      case rel => exact ⟨1, by omega, by go_num, KH.out.set_ 0 _, HB3.out.setCell (p := ⟨w2.heap.size, 0, none⟩) (Nat.le_refl _) _⟩
      case measure => simp [intOf]; omega
     ·go_wp2
      go_roundw
      case rel => exact ⟨2, by omega, by go_num, KH.out.set_ 1 _, HB3.out.setCell (p := ⟨w2.heap.size, 1, none⟩) (Nat.le_refl _) _⟩
      case measure => simp [intOf]; omega
     ·go_wp2
      go_roundw
      case rel => exact ⟨3, by omega, by go_num, KH.out.set_ 2 _, HB3.out.setCell (p := ⟨w2.heap.size, 2, none⟩) (Nat.le_refl _) _⟩
      case measure => simp [intOf]; omega
    ·have hlt' : ¬ (k : Int) < (m : Int) := by omega
     have hkm : k = min L.length 3 := by rw [HM'.out]; omega
     have KB := HB.out
     rw [nk_fin L k 0 hkm (by decide), nk_fin L k 1 hkm (by decide), nk_fin L k 2 hkm (by decide)] at KB
     generalize vnum L 0 = x at KB HV
     generalize vnum L 1 = y at KB HV
     generalize vnum L 2 = z at KB HV
     have c0 := KB.cell 0
     have c1 := KB.cell 1
     have c2 := KB.cell 2
     simp at c0 c1 c2
     have QB := Lib.hid (Q0.out.keep (hb.mono (Nat.le_refl _)))
     have cV := Lib.hid (fun W => version_any x y z W)
     have cT := Lib.hid (fun W hW => vText_any x y z W hW)
     clear c0 c1 c2
     have c0 := KB.cell 0
     have c1 := KB.cell 1
     have c2 := KB.cell 2
     simp at c0 c1 c2
     clear hkm
     go_wp2_with fail
     refine (cV.out _).mono ?_
     rintro e w3 ⟨rfl, hb3⟩
     have HB3 := Lib.hid (HW.out.trans (hb3.mono HW.out.size))
     have QB3 := Lib.hid (QB.out.keep hb3)
     have hz3 := HB3.out.size
     have hz4 := hb3.size
     have hq := QB.out.lt
     clear hb3 cV QB
     go_wp2_with fail
     have Bx := (Blk.new w3 24 #[.int .i64 x, .int .i64 y, .int .i64 z])
     refine (cT.out _ ((HG.out.keep HB3.out).alloc _)).mono ?_
     rintro e w4 ⟨rfl, hb4⟩
     have Bx4 := Bx.keep hb4
     have QB4 := (QB3.out.keep ((Below.refl _ _).alloc (Nat.le_refl _) _)).keep hb4
     have HB4 := Lib.hid ((HB3.out.alloc HB3.out.size _).trans (hb4.mono (by simp; omega)))
     have y0 := Bx4.cell 0
     have y1 := Bx4.cell 1
     have y2 := Bx4.cell 2
     have z0 := QB4.cell 0
     have z1 := QB4.cell 1
     have z2 := QB4.cell 2
     have f0 := QB4.free 0
     have f1 := QB4.free 1
     have f2 := QB4.free 2
     simp at y0 y1 y2 z0 z1 z2
     clear Bx4 QB4 hb4 cT Bx
     by_cases ht : vtext x y z = s
     ·have HV' := Lib.hid (show vparse s = some (x, y, z) by rw [HV.out, if_pos ht])
      rw [ht]
      clear ht HV
      go_wp2
      refine bodyPost_ret (v := .tuple #[.agg #[.int .i64 x, .int .i64 y, .int .i64 z], .int .i64 0]) (by simp [results, Tryz.results85, go_sem, z0, z1, z2]) rfl ?_
      rw [← hR]
      exact ret_some HV'.out (((HB4.out.setCell (by simp) _).setCell (by simp) _).setCell (by simp) _)
     ·have HV' := Lib.hid (show vparse s = none by rw [HV.out, if_neg ht])
      have ht' : (vtext x y z == s) = false := beq_eq_false_iff_ne.2 ht
      clear ht HV
      go_wp2
      refine bodyPost_ret (v := .tuple #[.agg #[.int .i64 0, .int .i64 0, .int .i64 0], .int .i64 8]) (by simp [results, Tryz.results85, go_sem, z0, z1, z2]) rfl ?_
      rw [← hR]
      exact ret_none HV'.out (((HB4.out.setCell (by simp) _).setCell (by simp) _).setCell (by simp) _)
  ·have hpb : Lib.hasPrefix s [118] = false := by
    cases s with
    | nil => rfl
    | cons c u => simp at hv; show ((118 : UInt8) == c && List.isPrefixOf [] u) = false; rw [beq_eq_false_iff_ne.2 (fun (h : (118 : UInt8) = c) => hv h.symm)]; rfl
   have hp1 : ∀ W, Calls Tryz.prog 129 #[.string ⟨s.toArray⟩, .string ⟨#[118]⟩] W fun e w' => e = .returned (.bool false) ∧ w' = W := fun W => by
    have h := hp0 W
    rw [show Lib.hasPrefix (⟨s.toArray⟩ : ByteArray).data.toList (⟨#[118]⟩ : ByteArray).data.toList = false from hpb] at h
    exact h
   have hp := Lib.hid hp1
   have hn := Lib.hid (show vparse s = none by unfold vparse; simp only; rw [if_neg (fun h => hv h.2.1)])
   clear hp0 hp1 hpb hv
   generalize hR : RetVer w s = R
   go_enter Tryz.func85, Tryz.ntmps85
   go_wp2_with fail
   refine (hp.out _).mono ?_
   rintro e w1 ⟨rfl, rfl⟩
   go_wp2
   refine bodyPost_ret (v := .tuple #[.agg #[.int .i64 0, .int .i64 0, .int .i64 0], .int .i64 8]) (by simp [results, Tryz.results85, go_sem]) rfl ?_
   rw [← hR]
   exact ret_none hn.out ((Below.refl _ _).alloc (Nat.le_refl _) _)
end Go.Proofs.YthcgihgajdjfoaaGreatDoor
namespace Go.Proofs.YthcgihgajdjfoaaGreatDoor
open Go.RowKit Go.Sort
abbrev EntV := Mod × List UInt8
abbrev Iss := List UInt8 × Int
def manR (r : Rel) : Mod × List Mod := (r.1, r.2.1)
def findR (R : List Rel) (m : Mod) : Option Rel := R.find? fun r => decide (r.1 = m)
def collectP (R : List Rel) (root : Mod) (l : List Mod) : List Rel × Int :=
 if ferr R ≠ 0 then ([], ferr R)
 else if (buildP (R.map manR) root l).2 ≠ 0 then ([], (buildP (R.map manR) root l).2)
 else (((buildP (R.map manR) root l).1.drop 1).filterMap (findR R), 0)
def nlL (l : List (List UInt8)) : List UInt8 := l.flatMap fun x => x ++ [10]
def lockP (L : List Rel) : List UInt8 × Int := if lerr L ≠ 0 then ([], lerr L) else (nlL (lout L), 0)
def entryP (s : List UInt8) : Option EntV :=
 match splitL 32 s with
 | [a, b, c] => if pathOk a = true ∧ verr b = 0 ∧ presE c = 0 then some ((a, vver b), c) else none
 | _ => none
def fitsE (out : List EntV) (e : EntV) : Bool := match out.getLast? with
 | none => true
 | some y => decide (mcmp y.1 e.1 < 0)
def unlL : List EntV → List (List UInt8) → List EntV × Int × Nat
 | out, [] => (out, 0, 0)
 | out, [x] => if x = [] then (out, 0, 0) else ([], 8, out.length + 1)
 | out, x :: y :: r => match entryP x with
   | some e => if fitsE out e = true then unlL (out ++ [e]) (y :: r) else ([], 8, out.length + 1)
   | none => ([], 8, out.length + 1)
def unlockP (s : List UInt8) : List EntV × Int × Nat := if 65536 < s.length then ([], 2, 0) else unlL [] (splitL 10 s)
end Go.Proofs.YthcgihgajdjfoaaGreatDoor
namespace Go.Proofs.YthcgihgajdjfoaaGreatDoor
open Go.RowKit Go.Sort
def irk (e : Int) : Int := if e = 7 ∨ e = 13 then 0 else if e = 6 ∨ e = 20 then 1 else 2
def prk (e : Int) : Int := if e = 7 then 0 else if e = 6 then 1 else if e = 17 then 2 else if e = 13 then 3 else if e = 20 then 4 else -1
def ile (x y : Iss) : Bool := Op.bytesLess x.1 y.1 || (decide (x.1 = y.1) && decide (irk x.2 ≤ irk y.2))
def putI (l : List Iss) (x : Iss) : List Iss := l.takeWhile (ile · x) ++ x :: l.dropWhile (ile · x)
def isort (l : List Iss) : List Iss := l.foldl putI []
theorem ile_iff (x y : Iss) : ile x y = true ↔ Op.bytesLess x.1 y.1 = true ∨ (x.1 = y.1 ∧ irk x.2 ≤ irk y.2) := by simp [ile]
theorem ile_total (x y : Iss) : ile x y = true ∨ ile y x = true := by
 rw [ile_iff, ile_iff]
 cases h1 : Op.bytesLess x.1 y.1 with
 | true => exact .inl (.inl rfl)
 | false =>
   cases h2 : Op.bytesLess y.1 x.1 with
   | true => exact .inr (.inl rfl)
   | false =>
     have he := bl_total _ _ h1 h2
     rcases Int.le_total (irk x.2) (irk y.2) with h | h
     ·exact .inl (.inr ⟨he, h⟩)
     ·exact .inr (.inr ⟨he.symm, h⟩)
theorem ile_trans {x y z : Iss} (h1 : ile x y = true) (h2 : ile y z = true) : ile x z = true := by
 rw [ile_iff] at *
 rcases h1 with h1 | ⟨e1, h1⟩
 ·rcases h2 with h2 | ⟨e2, h2⟩
  ·exact .inl (bl_trans _ _ _ h1 h2)
  ·exact .inl (e2 ▸ h1)
 ·rcases h2 with h2 | ⟨e2, h2⟩
  ·exact .inl (e1 ▸ h2)
  ·exact .inr ⟨e1.trans e2, Int.le_trans h1 h2⟩
theorem ile_anti {x y : Iss} (h1 : ile x y = true) (h2 : ile y x = true) : x.1 = y.1 ∧ irk x.2 = irk y.2 := by
 rw [ile_iff] at *
 rcases h1 with h1 | ⟨e1, h1⟩
 ·rcases h2 with h2 | ⟨e2, h2⟩
  ·have := bl_asymm _ _ h1
   rw [h2] at this
   cases this
  ·rw [e2, bl_irrefl] at h1
   cases h1
 ·rcases h2 with h2 | ⟨e2, h2⟩
  ·rw [e1, bl_irrefl] at h2
   cases h2
  ·exact ⟨e1, Int.le_antisymm h1 h2⟩
def ph1 (x : Iss) : Prop := x.2 = 7 ∨ x.2 = 6 ∨ x.2 = 17
def ph2 (x : Iss) : Prop := x.2 = 13 ∨ x.2 = 20
theorem ile_eq1 {x y : Iss} (hx : ph1 x) (hy : ph1 y) (h1 : ile x y = true) (h2 : ile y x = true) : x = y := by
 obtain ⟨e1, e2⟩ := ile_anti h1 h2
 refine Prod.ext e1 ?_
 rcases hx with h | h | h <;> rcases hy with h' | h' | h' <;> rw [h, h'] at e2 ⊢ <;> simp [irk] at e2
theorem ile_eq2 {x y : Iss} (hx : ph2 x) (hy : ph2 y) (h1 : ile x y = true) (h2 : ile y x = true) : x = y := by
 obtain ⟨e1, e2⟩ := ile_anti h1 h2
 refine Prod.ext e1 ?_
 rcases hx with h | h <;> rcases hy with h' | h' <;> rw [h, h'] at e2 ⊢ <;> simp [irk] at e2
theorem putI_cons (y : Iss) (l : List Iss) (x : Iss) : putI (y :: l) x = if ile y x = true then y :: putI l x else x :: y :: l := by
 unfold putI
 by_cases h : ile y x = true
 ·simp [h]
 ·simp [h]
theorem putI_perm (l : List Iss) (x : Iss) : (putI l x).Perm (l ++ [x]) := by
 induction l with
 | nil => exact List.Perm.refl _
 | cons y l ih =>
   rw [putI_cons]
   split
   ·exact ih.cons y
   ·exact (List.perm_append_comm (l₁ := [x]) (l₂ := y :: l))
theorem putI_sorted {l : List Iss} (h : l.Pairwise fun a b => ile a b = true) (x : Iss) : (putI l x).Pairwise fun a b => ile a b = true := by
 induction l with
 | nil => exact List.pairwise_singleton _ _
 | cons y l ih =>
   rw [putI_cons]
   rw [List.pairwise_cons] at h
   split
   ·rename_i hy
    rw [List.pairwise_cons]
    refine ⟨fun z hz => ?_, ih h.2⟩
    rcases List.mem_append.1 ((putI_perm l x).mem_iff.1 hz) with h' | h'
    ·exact h.1 z h'
    ·rw [List.mem_singleton.1 h']
     exact hy
   ·rename_i hy
    have hxy : ile x y = true := (ile_total x y).resolve_right hy
    rw [List.pairwise_cons, List.pairwise_cons]
    refine ⟨fun z hz => ?_, h⟩
    rcases List.mem_cons.1 hz with rfl | hz
    ·exact hxy
    ·exact ile_trans hxy (h.1 z hz)
theorem puts_perm : ∀ (l P : List Iss), (l.foldl putI P).Perm (P ++ l)
 | [], P => by simp
 | x :: l, P => by
   rw [List.foldl_cons]
   have h1 := puts_perm l (putI P x)
   have h2 := (putI_perm P x).append_right l
   simpa using h1.trans h2
theorem puts_sorted : ∀ (l : List Iss) {P : List Iss}, (P.Pairwise fun a b => ile a b = true) → (l.foldl putI P).Pairwise fun a b => ile a b = true
 | [], _, h => h
 | x :: l, _, h => puts_sorted l (putI_sorted h x)
theorem isort_perm (l : List Iss) : (isort l).Perm l := by
 have h := puts_perm l []
 rwa [List.nil_append] at h
theorem isort_sorted (l : List Iss) : (isort l).Pairwise fun a b => ile a b = true := puts_sorted l List.Pairwise.nil
theorem isort_snoc (l : List Iss) (x : Iss) : isort (l ++ [x]) = putI (isort l) x := by simp [isort]
theorem iss_unique {l l' : List Iss} (hp : l.Perm l') (hs : l.Pairwise fun a b => ile a b = true) (hs' : l'.Pairwise fun a b => ile a b = true) (h : (∀ x ∈ l, ph1 x) ∨ (∀ x ∈ l, ph2 x)) : l = l' := by
 refine List.Perm.eq_of_pairwise (le := fun a b => ile a b = true) (fun a b ha hb h1 h2 => ?_) hs hs' hp
 have hb' := hp.mem_iff.2 hb
 rcases h with h | h
 ·exact ile_eq1 (h a ha) (h b hb') h1 h2
 ·exact ile_eq2 (h a ha) (h b hb') h1 h2
def cmpI (a b : Int) : Int := if a < b then -1 else if b < a then 1 else 0
def icmp (x y : Iss) : Int := if scmp x.1 y.1 ≠ 0 then scmp x.1 y.1 else cmpI (prk x.2) (prk y.2)
theorem icmp_lt (x y : Iss) : ltOf icmp x y = true ↔ Op.bytesLess x.1 y.1 = true ∨ (x.1 = y.1 ∧ prk x.2 < prk y.2) := by
 unfold ltOf icmp
 rw [decide_eq_true_iff]
 unfold scmp cmpI
 by_cases h1 : Op.bytesLess x.1 y.1 = true
 ·simp [h1]
 ·by_cases h2 : x.1 = y.1
  ·rw [h2]
   simp only [bl_irrefl]
   simp only [Bool.false_eq_true, if_false, if_true, ne_eq, not_true, if_false, false_or, true_and]
   by_cases h3 : prk x.2 < prk y.2
   ·simp [h3]
   ·by_cases h4 : prk y.2 < prk x.2 <;> simp [h3, h4]
  ·simp [h1, h2]
theorem ilt_swo : SWO (ltOf icmp) where
 irrefl a := by
  cases h : ltOf icmp a a with
  | false => rfl
  | true =>
    rcases (icmp_lt a a).1 h with h | h
    ·rw [bl_irrefl] at h; cases h
    ·omega
 trans a b c h1 h2 := by
  rw [icmp_lt] at *
  rcases h1 with h1 | ⟨e1, h1⟩
  ·rcases h2 with h2 | ⟨e2, h2⟩
   ·exact .inl (bl_trans _ _ _ h1 h2)
   ·exact .inl (e2 ▸ h1)
  ·rcases h2 with h2 | ⟨e2, h2⟩
   ·exact .inl (e1 ▸ h2)
   ·exact .inr ⟨e1.trans e2, Int.lt_trans h1 h2⟩
 ntrans a b c h1 h2 := by
  cases h3 : ltOf icmp a c with
  | false => rfl
  | true =>
    exfalso
    have n1 : ¬ (ltOf icmp a b = true) := by rw [h1]; decide
    have n2 : ¬ (ltOf icmp b c = true) := by rw [h2]; decide
    rw [icmp_lt, not_or] at n1 n2
    rw [icmp_lt] at h3
    have q1 : Op.bytesLess a.1 b.1 = false := by simpa using n1.1
    have q2 : Op.bytesLess b.1 c.1 = false := by simpa using n2.1
    rcases h3 with h3 | ⟨e3, h3⟩
    ·cases h4 : Op.bytesLess b.1 a.1 with
     | true => have := bl_trans _ _ _ h4 h3; rw [q2] at this; cases this
     | false =>
       have e := bl_total _ _ q1 h4
       rw [e, q2] at h3
       cases h3
    ·cases h4 : Op.bytesLess b.1 a.1 with
     | true => rw [e3, q2] at h4; cases h4
     | false =>
       have e := bl_total _ _ q1 h4
       have n1' : ¬ prk a.2 < prk b.2 := fun h => n1.2 ⟨e, h⟩
       have n2' : ¬ prk b.2 < prk c.2 := fun h => n2.2 ⟨e.symm.trans e3, h⟩
       omega
theorem ile_of1 {x y : Iss} (hx : ph1 x) (hy : ph1 y) (h : ltOf icmp y x = false) : ile x y = true := by
 have n : ¬ (ltOf icmp y x = true) := by rw [h]; decide
 rw [icmp_lt, not_or] at n
 rcases ile_total x y with h' | h'
 ·exact h'
 ·rw [ile_iff] at h' ⊢
  rcases h' with h' | ⟨e, h'⟩
  ·exact absurd h' n.1
  ·refine .inr ⟨e.symm, ?_⟩
   have n2 : ¬ prk y.2 < prk x.2 := fun q => n.2 ⟨e, q⟩
   rcases hx with h | h | h <;> rcases hy with q | q | q <;> rw [h, q] at n2 ⊢ <;> simp [irk, prk] at n2 ⊢
theorem ile_of2 {x y : Iss} (hx : ph2 x) (hy : ph2 y) (h : ltOf icmp y x = false) : ile x y = true := by
 have n : ¬ (ltOf icmp y x = true) := by rw [h]; decide
 rw [icmp_lt, not_or] at n
 rcases ile_total x y with h' | h'
 ·exact h'
 ·rw [ile_iff] at h' ⊢
  rcases h' with h' | ⟨e, h'⟩
  ·exact absurd h' n.1
  ·refine .inr ⟨e.symm, ?_⟩
   have n2 : ¬ prk y.2 < prk x.2 := fun q => n.2 ⟨e, q⟩
   rcases hx with h | h <;> rcases hy with q | q <;> rw [h, q] at n2 ⊢ <;> simp [irk, prk] at n2 ⊢
theorem iss_sorted {l l' : List Iss} (hp : l'.Perm l) (hs : l'.Pairwise (leOf (ltOf icmp))) (h : (∀ x ∈ l, ph1 x) ∨ (∀ x ∈ l, ph2 x)) : l' = isort l := by
 have hm : (∀ x ∈ l', ph1 x) ∨ (∀ x ∈ l', ph2 x) := h.imp (fun h x hx => h x (hp.mem_iff.1 hx)) fun h x hx => h x (hp.mem_iff.1 hx)
 refine iss_unique (hp.trans (isort_perm l).symm) ?_ (isort_sorted l) hm
 refine hs.imp_of_mem fun {a b} ha hb hab => ?_
 rcases hm with hm | hm
 ·exact ile_of1 (hm a ha) (hm b hb) hab
 ·exact ile_of2 (hm a ha) (hm b hb) hab
theorem isort_perm_eq {l l' : List Iss} (hp : l'.Perm l) (h : (∀ x ∈ l, ph1 x) ∨ (∀ x ∈ l, ph2 x)) : isort l' = isort l := by
 refine iss_unique (((isort_perm l').trans hp).trans (isort_perm l).symm) (isort_sorted _) (isort_sorted _) ?_
 exact h.imp (fun h x hx => h x (hp.mem_iff.1 ((isort_perm l').mem_iff.1 hx))) fun h x hx => h x (hp.mem_iff.1 ((isort_perm l').mem_iff.1 hx))
def lookE (E : List EntV) (m : Mod) : Option (List UInt8) := (E.find? fun e => decide (e.1 = m)).map (·.2)
def diffR (E : List EntV) (r : Rel) : Option Iss := match lookE E r.1 with
 | none => some (r.1.1, 6)
 | some s => if s = rtext r then none else some (r.1.1, 17)
def diffE (L : List Rel) (e : EntV) : Option Iss := if e.1 ∈ L.map (·.1) then none else some (e.1.1, 7)
def diffP (L : List Rel) (E : List EntV) : List Iss := L.filterMap (diffR E) ++ E.filterMap (diffE L)
def rdiffE (L : List Rel) (e : EntV) : Option Iss := match findR L e.1 with
 | none => some (e.1.1, 7)
 | some r => if rtext r = e.2 then none else some (e.1.1, 17)
def rdiffR (E : List EntV) (r : Rel) : Option Iss := if r.1 ∈ E.map (·.1) then none else some (r.1.1, 6)
def rdiffP (L : List Rel) (E : List EntV) : List Iss := E.filterMap (rdiffE L) ++ L.filterMap (rdiffR E)
def metP (L : List Rel) (m : Mod) (g : Bool) : Bool := L.any fun r => decide (r.1.1 = m.1) && decide (if g = true then 0 < vcmpV r.1.2 m.2 else 0 ≤ vcmpV r.1.2 m.2)
def staleR (L : List Rel) (r : Rel) : Option Iss := if metP L r.1 true = true then some (r.1.1, 20) else none
def reqsP (rl : List Mod) (L : List Rel) : List Mod := rl ++ L.flatMap fun r => r.2.1
def absR (L : List Rel) (rp : List UInt8) (out : List Iss) (m : Mod) : List Iss := if m.1 ≠ rp ∧ metP L m false = false ∧ (m.1, (13 : Int)) ∉ out then putI out (m.1, 13) else out
def outR (rp : List UInt8) (rl : List Mod) (L : List Rel) : List Iss := (L.filterMap (staleR L)).foldl putI ((reqsP rl L).foldl (absR L rp) [])
def absStep (L : List Rel) (rp : List UInt8) (S : List (List UInt8)) (m : Mod) : List (List UInt8) := if m.1 ≠ rp ∧ m.1 ∉ S ∧ metP L m false = false then S ++ [m.1] else S
def absP (L : List Rel) (rp : List UInt8) (q : List Mod) : List (List UInt8) := q.foldl (absStep L rp) []
def outP (rp : List UInt8) (rl : List Mod) (L : List Rel) : List Iss := L.filterMap (staleR L) ++ (absP L rp (reqsP rl L)).map fun p => (p, 13)
def verifyP (rp : List UInt8) (rl : List Mod) (L : List Rel) (s : List UInt8) : List Iss :=
 if (unlockP s).2.1 ≠ 0 then [([], 19)]
 else if lerr L ≠ 0 then [([], lerr L)]
 else if rdiffP L (unlockP s).1 ≠ [] then isort (rdiffP L (unlockP s).1)
 else outR rp rl L
end Go.Proofs.YthcgihgajdjfoaaGreatDoor
namespace Go.Proofs.YthcgihgajdjfoaaGreatDoor
open Go.RowKit Go.Sort Go.Shelf
section
variable {α : Type}
theorem perm_of_permIn [Inhabited α] {l : List α} {d' : Array α} (h : PermIn 0 l.toArray.size l.toArray d') : d'.toList.Perm l := by
 obtain ⟨hsz, _, hperm⟩ := h
 have e1 : d'.extract 0 l.toArray.size = d' := by rw [← hsz]; exact Array.extract_size
 rw [e1, Array.extract_size] at hperm
 simpa using hperm
theorem pairwise_of_sortedIn [Inhabited α] {lt : α → α → Bool} {n : Nat} {d' : Array α} (h : SortedIn lt 0 n d') (hn : d'.size = n) : d'.toList.Pairwise (leOf lt) := by
 rw [List.pairwise_iff_getElem]
 intro i j hi hj hij
 have hi' : i < d'.size := by simpa using hi
 have hj' : j < d'.size := by simpa using hj
 have := h i j (Nat.zero_le _) hij (by omega)
 rw [getElem!_pos d' j hj', getElem!_pos d' i hi'] at this
 simpa [leOf] using this
def NewRowK (w : World) (base e k : Nat) (enc : α → List Value) (v : Value) (l : List α) : Prop :=
 (l = [] ∧ ∃ A c, v = .slice A 0 c) ∨ (v ≠ .slice none 0 0 ∧ w.ownsRow base e k v l.length (l.flatMap enc))
theorem NewRowK.slice {w : World} {base e k : Nat} {enc : α → List Value} {v : Value} {l : List α} (h : NewRowK w base e k enc v l) : ∃ A c, v = .slice A l.length c ∧ l.length ≤ c := by
 rcases h with ⟨rfl, A, c, rfl⟩ | ⟨_, h⟩
 ·exact ⟨A, c, rfl, Nat.zero_le _⟩
 ·obtain ⟨A, c, rfl⟩ := Acc.shape (.inl h)
  exact ⟨A, c, rfl, Acc.cap (.inl h)⟩
theorem NewRowK.of_owns {w : World} {base e k : Nat} {enc : α → List Value} {v : Value} {l : List α} (h : w.ownsRow base e k v l.length (l.flatMap enc)) : NewRowK w base e k enc v l := by
 by_cases hv : v = .slice none 0 0
 ·subst hv
  rcases h.2 with ⟨_, h0⟩ | ⟨g, cap, cur, h, _⟩
  ·exact .inl ⟨List.eq_nil_of_length_eq_zero h0, _, _, rfl⟩
  ·cases h
 ·exact .inr ⟨hv, h⟩
def SortedTo (w : World) (base k : Nat) (enc : α → List Value) (lt : α → α → Bool) (v : Value) (l : List α) (e : Ending) (w' : World) : Prop :=
 e = .returned (.tuple #[]) ∧ (∃ A c l', v = .slice A l.length c ∧ l.length ≤ c ∧ l'.Perm l ∧ l'.Pairwise (leOf lt) ∧ Sl w' w'.heap.size k enc A l') ∧ Below base w w'
variable {P : Program} {ρ : Ren}
theorem sortK_any [Inhabited α] (L : SlLaysF0.n6 P ρ) (k e0 : Nat) (aE : ∀ w, (isAgg (ρ.t 24)).run P w = .ok true w) (zE : ∀ w, (Go.sizeOf (ρ.t 24)).run P w = .ok k w) (enc : α → List Value) (hk : ∀ x, (enc x).length = k) (h1 : ∀ x, ∀ v ∈ enc x, v.oneCell' = true)
  (cf : α → α → Int) (hO : SWO (ltOf cf)) (g : Nat) (eg : ∀ args w, (callFunc g args).run P w = .ok (.enter g args) w)
  (hcmp : ∀ x y W, Calls P g #[.agg (enc x).toArray, .agg (enc y).toArray] W fun e w' => e = .returned (.int .i64 (cf x y)) ∧ BelowD W.heap.size W w')
  (Ln : ∀ (p : Option Addr) (cap : Nat) (fv : Value) (w : World), Calls P (ρ.f 6) #[.slice p 0 cap, fv] w fun e w' => e = .returned (.tuple #[]) ∧ w = w')
  (v : Value) (l : List α) (w : World) (base : Nat) (h : NewRowK w base e0 k enc v l) (hl : l.length ≤ 1099511627776) :
  Calls P (ρ.f 6) #[v, .func (.func g) #[] #[]] w (SortedTo w base k enc (ltOf cf) v l) := by
 rcases h with ⟨rfl, A, c, rfl⟩ | ⟨hv, h⟩
 ·refine (Ln A c _ w).mono ?_
  rintro e w' ⟨rfl, rfl⟩
  exact ⟨rfl, ⟨A, c, [], rfl, Nat.zero_le _, List.Perm.refl _, List.Pairwise.nil, .inl rfl⟩, Below.refl _ _⟩
 ·have hcap : ∀ A n c, v = .slice A n c → l.length ≤ c := by
   rcases h.2 with ⟨rfl, _⟩ | ⟨g, cap, cur, rfl, _, _, hc, _⟩
   ·exact absurd rfl hv
   ·intro A n c e
    injection e with _ _ e3
    omega
  obtain ⟨g', cap, rfl, hbase, hlt, hH⟩ := holdsK_of_owns hk h hv
  refine (AnyQ.slices_SortFunc L k aE zE enc hk h1 cf hO g #[] g' 0 cap l.toArray w eg (fun m os dk _ x y => (hcmp x y _).mono fun e w' ⟨h1, h2⟩ => ⟨h1, grow_of_belowD h2⟩) hH hlt (by simp; omega)).mono ?_
  rintro e w' ⟨rfl, d', n, os, hp, hs, rfl⟩
  have hsz : d'.size = l.length := by simpa using hp.1
  refine ⟨rfl, ⟨_, _, d'.toList, rfl, hcap _ _ _ rfl, perm_of_permIn hp, pairwise_of_sortedIn hs (by simpa using hsz), ?_⟩, below_sortWorldK hbase hlt⟩
  refine sl_of_holdsK hk (l := d'.toList) (by have := holdsK_sortWorldK_c enc k w g' 0 l.toArray d' n os hH hlt (by simpa using hsz); simpa using this) ?_
  exact Nat.lt_of_lt_of_le hlt (size_sortWorldK_c enc k w g' 0 n _ os)
end
end Go.Proofs.YthcgihgajdjfoaaGreatDoor
