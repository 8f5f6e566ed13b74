/- What the claim needs of: WO WL1 WR3 WR4 WPF. -/
import Derived.Test.YthcgihgajdjfoaaGreatDoorV9
import Derived.Test.YthcgihgajdjfoaaGreatDoorV16
import Derived.BigQuiet
import Derived.Deep.QuietTactic
import Derived.Test.YthcgihgajdjfoaaGreatDoorV10
import Derived.Test.YthcgihgajdjfoaaGreatDoorV23
import Derived.Deep.RegionHeld3
import Derived.Test.YthcgihgajdjfoaaGreatDoorV11
import Derived.Test.YthcgihgajdjfoaaGreatDoorV8
import Derived.Deep.CutBlock
namespace Go.Proofs.YthcgihgajdjfoaaGreatDoor
open Go.RowKit Go.Sort
set_option maxRecDepth 100000 in
set_option maxHeartbeats 4000000 in
theorem refCheck_any (m : Mod) (A : Option Addr) (c : Nat) (l : List Mod) (w : World) (hA : Sl w w.heap.size 4 encM A l) (hl : l.length ≤ 1099511627776) (hs : ∀ x ∈ m :: l, x.1.length ≤ 1099511627776) :
  Calls Tryz.prog 73 #[.agg #[.string ⟨m.1.toArray⟩, .int .i64 m.2.1, .int .i64 m.2.2.1, .int .i64 m.2.2.2, .slice A l.length c]] w fun e w' => e = .returned (.int .i64 (mcheck m l)) ∧ Below w.heap.size w w' := by
 have hac := Acc.marked (w.alloc (.cells #[.string ⟨m.1.toArray⟩, .int .i64 m.2.1, .int .i64 m.2.2.1, .int .i64 m.2.2.2, .slice A l.length c] 29)) #[.string ⟨m.1.toArray⟩, .int .i64 m.2.1, .int .i64 m.2.2.1, .int .i64 m.2.2.2] (w.heap.size + 1) 26 4 1 (0, 0) rfl
 simp only [World.size_alloc] at hac
 have hsr := (hA.below (((Below.refl _ _).alloc (Nat.le_refl _) (.cells #[.string ⟨m.1.toArray⟩, .int .i64 m.2.1, .int .i64 m.2.2.1, .int .i64 m.2.2.2, .slice A l.length c] 29)).alloc (by simp) (.cells #[.string ⟨m.1.toArray⟩, .int .i64 m.2.1, .int .i64 m.2.2.1, .int .i64 m.2.2.2] 26))).src encM_len
 have hmc := Lib.hid (mcheck.eq_1 m l)
 go_enter Tryz.func73, Tryz.ntmps73
 go_wp2_with (at_builtin; refine wpList_app _ rfl (.tmp 14) (.tmp 16) 27 rfl (w.heap.size + 1) 26 4 40 elMod (.slice (some ⟨w.heap.size + 1, 0, none⟩) 1 1) 1 _ rfl hac A l.length c (l.flatMap encM) rfl hsr (encM_one l) (by simp only [maxLen]; omega) (by omega) (by simp) ?_; intro v' w1 hacc' _ hb' _ _)
 obtain ⟨A1, c1, rfl⟩ := hacc'.shape
 have e1 : (#[Value.string ⟨m.1.toArray⟩, .int .i64 m.2.1, .int .i64 m.2.2.1, .int .i64 m.2.2.2] : Array Value).toList ++ l.flatMap encM = (m :: l).flatMap encM := rfl
 rw [e1] at hacc'
 have hcap := hacc'.le_cap
 obtain ⟨hn1, hS1⟩ := hacc'.sl encM_len (by decide)
 have kreq : w1.cell? ⟨w.heap.size, 4, none⟩ = some (.slice A l.length c) := by rw [hb'.cell (p := ⟨w.heap.size, 4, none⟩) (by simp)]; simp
 have hB1 : Below w.heap.size w w1 := (((Below.refl _ _).alloc (Nat.le_refl _) _).alloc (by simp) _).trans (hb'.mono (by omega))
 clear hacc' hb' hac hsr e1
 have hLl : (m :: l).length = 1 + l.length := by simp; omega
 have hsB := hs
 generalize hL : m :: l = L at hS1 hs hLl hmc ⊢
 clear hL hA hsB
 have hBl := lt_of_cell kreq
 have hsz1 := hB1.size
 go_wp2
 go_loopw [20] (fun i wr => ∃ k, k ≤ L.length ∧ i = .int .i64 (k : Nat) ∧ Hid ((L.take k).any badPath = false) ∧ Below w1.heap.size w1 wr)
  (fun i _ => L.length - (intOf i).toNat)
 case atStart => exact ⟨0, Nat.zero_le _, rfl, rfl, Below.refl _ _⟩
 case round =>
  obtain ⟨k, hk, rfl, HI, hb⟩ := hrel
  have hbz := hb.size
  by_cases hlt : k < L.length
  ·have hlt' : (k : Int) < 1 + (l.length : Int) := by omega
   obtain ⟨b, off, rfl, hbB, g0, g1, g2, g3⟩ := (hS1.below hb).mod hlt
   have HT := Lib.hid (any_take_succ badPath L k hlt)
   have HF := Lib.hid (fun h => List.any_eq_true.2 ⟨L[k], List.getElem_mem hlt, h⟩ : badPath L[k] = true → L.any badPath = true)
   have hxs := hs L[k] (List.getElem_mem hlt)
   generalize L[k] = x at g0 g1 g2 g3 HT HF hxs
   obtain ⟨s, x1, x2, x3⟩ := x
   simp only at g0 g1 g2 g3 hxs
   have cp := Lib.hid (refPath_any s (wr.alloc (.cells #[.string ⟨s.toArray⟩, .int .i64 x1, .int .i64 x2, .int .i64 x3] 26)) hxs)
   have hbp : badPath (s, x1, x2, x3) = !pathOk s := rfl
   rw [hbp] at HT HF
   clear hbp
   cases hp : pathOk s
   ·rw [hp] at cp HF
    have hfin := Lib.hid (show mcheck m l = 5 by rw [hmc.out, if_pos (HF.out rfl)])
    clear hp
    go_wp2_with (go_at_call 89; refine cp.out.mono ?_; rintro e w4 ⟨rfl, hb4⟩)
    go_ret
    exact ⟨by rw [hfin.out]; rfl, hB1.trans ((hb.mono hsz1).trans (((Below.refl _ _).alloc (Nat.le_trans hsz1 hbz) _).trans (hb4.mono (by simp; omega))))⟩
   ·rw [hp] at cp HT
    clear hp
    go_wp2_with (go_at_call 89; refine cp.out.mono ?_; rintro e w4 ⟨rfl, hb4⟩)
    go_roundw
    case rel => exact ⟨k + 1, by omega, by go_num, by rw [HT.out, HI.out]; rfl, (hb.alloc hbz _).trans (hb4.mono (by simp; omega))⟩
    case measure => simp [intOf]; omega
  ·have HP : Hid (L.any badPath = false) := by rw [← HI.out, List.take_of_length_le (by omega)]; exact Lib.hid rfl
   have hbS := Lib.hid hb
   have hlt' : ¬ (k : Int) < 1 + (l.length : Int) := by omega
   clear HI hb hbz hk hlt
   go_wp2
   go_loopw [31] (fun i wr => ∃ k, k ≤ L.length ∧ i = .int .i64 (k : Nat) ∧ Hid ((L.take k).any badVer = false) ∧ Below w1.heap.size w1 wr)
    (fun i _ => L.length - (intOf i).toNat)
   case atStart => exact ⟨0, Nat.zero_le _, rfl, rfl, hbS.out⟩
   case round =>
    obtain ⟨k, hk, rfl, HI, hb⟩ := hrel
    have hbz := hb.size
    by_cases hlt : k < L.length
    ·have hlt' : (k : Int) < 1 + (l.length : Int) := by omega
     obtain ⟨b, off, rfl, hbB, g0, g1, g2, g3⟩ := (hS1.below hb).mod hlt
     have HT := Lib.hid (any_take_succ badVer L k hlt)
     have HF := Lib.hid (fun h => List.any_eq_true.2 ⟨L[k], List.getElem_mem hlt, h⟩ : badVer L[k] = true → L.any badVer = true)
     generalize L[k] = x at g0 g1 g2 g3 HT HF
     obtain ⟨s, x1, x2, x3⟩ := x
     simp only at g0 g1 g2 g3
     have cp := Lib.hid (refValid_any x1 x2 x3 (wr.alloc (.cells #[.string ⟨s.toArray⟩, .int .i64 x1, .int .i64 x2, .int .i64 x3] 26)))
     have hbp : badVer (s, x1, x2, x3) = !vok x1 x2 x3 := rfl
     rw [hbp] at HT HF
     clear hbp
     cases hp : vok x1 x2 x3
     ·rw [hp] at cp HF
      have hfin := Lib.hid (show mcheck m l = 11 by rw [hmc.out, HP.out, HF.out rfl]; rfl)
      clear hp
      go_wp2_with (go_at_call 117; refine cp.out.mono ?_; rintro e w4 ⟨rfl, hb4⟩)
      go_ret
      exact ⟨by rw [hfin.out]; rfl, hB1.trans ((hb.mono hsz1).trans (((Below.refl _ _).alloc (Nat.le_trans hsz1 hbz) _).trans (hb4.mono (by simp; omega))))⟩
     ·rw [hp] at cp HT
      clear hp
      go_wp2_with (go_at_call 117; refine cp.out.mono ?_; rintro e w4 ⟨rfl, hb4⟩)
      go_roundw
      case rel => exact ⟨k + 1, by omega, by go_num, by rw [HT.out, HI.out]; rfl, (hb.alloc hbz _).trans (hb4.mono (by simp; omega))⟩
      case measure => simp [intOf]; omega
    ·have HV : Hid (L.any badVer = false) := by rw [← HI.out, List.take_of_length_le (by omega)]; exact Lib.hid rfl
     have hbT := Lib.hid hb
     have hlt' : ¬ (k : Int) < 1 + (l.length : Int) := by omega
     clear HI hb hbz hk hlt hbS
     go_wp2
     go_loopw [42] (fun i wr => ∃ k, k ≤ L.length ∧ i = .int .i64 (k : Nat) ∧ Hid (dupK L k = false) ∧ Below w1.heap.size w1 wr)
      (fun i _ => L.length - (intOf i).toNat)
     case atStart => exact ⟨0, Nat.zero_le _, rfl, rfl, hbT.out⟩
     case round =>
      obtain ⟨wo, hwo⟩ : ∃ wo, wo = wr := ⟨_, rfl⟩
      subst hwo
      obtain ⟨k, hk, rfl, HI, hb⟩ := hrel
      have hbz := hb.size
      by_cases hlt : k < L.length
      ·have hlt' : (k : Int) < 1 + (l.length : Int) := by omega
       obtain ⟨b, off, rfl, hbB, g0, g1, g2, g3⟩ := (hS1.below hb).mod hlt
       have hg : L.getD k default = L[k] := by simp [hlt]
       have HD := Lib.hid (dupK_succ L k)
       have HF := Lib.hid (dupK_true L k (l.length + 1) (by omega))
       unfold dupAt at HD HF
       rw [hg] at HD HF
       clear hg
       generalize L[k] = x at g0 g1 g2 g3 HD HF
       obtain ⟨s, x1, x2, x3⟩ := x
       simp only at g0 g1 g2 g3 HD HF
       have hbI := Lib.hid hb
       have hkl : (k : Int) ≤ c1 := by omega
       go_wp2
       clear hb g0 g1 g2 g3
       go_loopw [51] (fun i wr => ∃ j, j ≤ k ∧ i = .int .i64 (j : Nat) ∧ Hid (((L.take j).any fun y => decide (y.1 = s)) = false) ∧ Below (wo.heap.size + 1) (wo.alloc (.cells #[.string ⟨s.toArray⟩, .int .i64 x1, .int .i64 x2, .int .i64 x3] 26)) wr)
        (fun i _ => k - (intOf i).toNat)
       case atStart => exact ⟨0, Nat.zero_le _, rfl, rfl, Below.refl _ _⟩
       case round =>
        obtain ⟨j, hj, rfl, HJ, hbq⟩ := hrel
        have hbqz := hbq.size
        simp at hbqz
        have hB3 := Lib.hid ((hbI.out.alloc hbz _).trans (hbq.mono (show w1.heap.size ≤ wo.heap.size + 1 by omega)))
        have b0 : wr.cell? ⟨wo.heap.size, 0, none⟩ = some (.string ⟨s.toArray⟩) := by rw [hbq.cell (p := ⟨wo.heap.size, 0, none⟩) (by simp)]; simp
        by_cases hjt : j < k
        ·have hjt' : (j : Int) < (k : Int) := by omega
         have hjl : j < L.length := by omega
         obtain ⟨b', off', hA1, hbB', g0, g1, g2, g3⟩ := (hS1.below hB3.out).mod hjl
         injection hA1 with hA1
         injection hA1 with hA1 hA2
         subst hA1 hA2
         have HT := Lib.hid (any_take_succ (fun y : Mod => decide (y.1 = s)) L j hjl)
         have HM := Lib.hid (fun (h : L[j].1 = s) => (show ((L.take k).any fun y => decide (y.1 = s)) = true from List.any_eq_true.2 ⟨L[j], List.mem_take_iff_getElem.2 ⟨j, by omega, rfl⟩, by simp [h]⟩))
         generalize L[j] = y at g0 g1 g2 g3 HT HM
         obtain ⟨s', y1, y2, y3⟩ := y
         simp only at g0 g1 g2 g3 HT HM
         have b1 := cell_keep_alloc (.cells #[.string ⟨s'.toArray⟩, .int .i64 y1, .int .i64 y2, .int .i64 y3] 26) b0
         by_cases hq : s = s'
         ·subst hq
          have hfin := Lib.hid (show mcheck m l = 6 by rw [hmc.out, HP.out, HV.out, HF.out (HM.out rfl)]; rfl)
          go_wp2
          go_ret
          exact ⟨by rw [hfin.out]; rfl, hB1.trans ((hB3.out.mono hsz1).alloc (by omega) _)⟩
         ·have hq' : (s == s') = false := by simpa using hq
          have hd : decide (s' = s) = false := by simpa using fun h : s' = s => hq h.symm
          have hJ2 : Hid (((L.take (j + 1)).any fun y => decide (y.1 = s)) = false) := by rw [HT.out, HJ.out, hd]; exact Lib.hid rfl
          clear hd hq
          go_wp2
          go_roundw
          case rel => exact ⟨j + 1, by omega, by go_num, hJ2, hbq.alloc (by omega) _⟩
          case measure => simp [intOf]; omega
        ·have hjt' : ¬ (j : Int) < (k : Int) := by omega
         have hD2 : Hid (dupK L (k + 1) = false) := by rw [HD.out, HI.out, show k = j by omega, HJ.out]; exact Lib.hid rfl
         go_wp2
         go_roundw
         case rel => exact ⟨k + 1, by omega, by go_num, hD2, hB3.out⟩
         case measure => simp [intOf]; omega
      ·have HI' : Hid (dupK L (l.length + 1) = false) := by rw [show l.length + 1 = k by omega]; exact HI
       have kq := below_cell (hb.mono (Nat.le_refl _)) kreq hBl
       have hlt' : ¬ (k : Int) < 1 + (l.length : Int) := by omega
       by_cases h64 : 64 < l.length
       ·have h64' : (64 : Int) < l.length := by omega
        have hfin := Lib.hid (show mcheck m l = 2 by rw [hmc.out, HP.out, HV.out, HI'.out]; simp [h64])
        go_wp2
        go_ret
        exact ⟨by rw [hfin.out]; rfl, hB1.trans (hb.mono hsz1)⟩
       ·have h64' : ¬ (64 : Int) < l.length := by omega
        have hfin := Lib.hid (show mcheck m l = 0 by rw [hmc.out, HP.out, HV.out, HI'.out]; simp [h64])
        go_wp2
        go_ret
        exact ⟨by rw [hfin.out]; rfl, hB1.trans (hb.mono hsz1)⟩
end Go.Proofs.YthcgihgajdjfoaaGreatDoor
namespace Go.Proofs.YthcgihgajdjfoaaGreatDoor
open Go.RowKit Go.Sort
def okS (x : Mod × List Mod) : Prop := x.2.length ≤ 8 ∧ x.1.1.length ≤ 61 ∧ ∀ m ∈ x.2, m.1.length ≤ 61
def smallP (R : Regy) : Prop := (∀ x ∈ R, okS x) ∧ R.length ≤ 10
def ManLoose (w : World) (y : ManW) : Prop := Sl w w.heap.size 4 encM y.2.1 y.2.2.2 ∧ y.2.2.2.length ≤ 1048576 ∧ ∀ m ∈ y.1 :: y.2.2.2, okB m
theorem ManLoose.step {w w' : World} {y : ManW} (h : ManLoose w y) (hb : Below w.heap.size w w') : ManLoose w' y := ⟨(h.1.below hb).more hb.size, h.2⟩
theorem ManLoose.ok {w : World} {y : ManW} (h : ManLoose w y) (hs : smallP [plainW y]) : ManOk w w.heap.size y := ⟨h.1, by
 have := (hs.1 (plainW y) List.mem_cons_self).1
 unfold plainW at this
 simp only at this
 omega, h.2.2⟩
def RegLoose (w : World) (A : Option Addr) (Y : List ManW) : Prop :=
 Sl w w.heap.size 5 encW A Y ∧ (∀ y ∈ Y, ManLoose w y) ∧ Y.length ≤ 1048576
theorem RegLoose.step {w w' : World} {A : Option Addr} {Y : List ManW} (h : RegLoose w A Y) (hb : Below w.heap.size w w') : RegLoose w' A Y :=
 ⟨(h.1.below hb).more hb.size, fun y hy => (h.2.1 y hy).step hb, h.2.2⟩
theorem RegLoose.ok {w : World} {A : Option Addr} {Y : List ManW} (h : RegLoose w A Y) (hs : smallP (regW Y)) : RegOk w w.heap.size A Y := by
 refine ⟨h.1, fun y hy => ⟨(h.2.1 y hy).1, ?_, (h.2.1 y hy).2.2⟩, ?_⟩
 ·have := (hs.1 (plainW y) (List.mem_map_of_mem hy)).1
  unfold plainW at this
  simp only at this
  omega
 ·have := hs.2
  unfold regW at this
  rw [List.length_map] at this
  omega
end Go.Proofs.YthcgihgajdjfoaaGreatDoor
namespace Go.Proofs.YthcgihgajdjfoaaGreatDoor
open Go.RowKit Go.Sort
def gstep (p : List UInt8) (b : Option Mod) (x : Mod) : Option Mod := if x.1 = p then (match b with | none => some x | some u => if vcmpV u.2 x.2 < 0 then some x else some u) else b
def greatestP (l : List Mod) (p : List UInt8) : Option Mod := l.foldl (gstep p) none
end Go.Proofs.YthcgihgajdjfoaaGreatDoor
namespace Go.Proofs.YthcgihgajdjfoaaGreatDoor
open Go.RowKit Go.Sort
section
variable {P : Program}
end
theorem run_own2 {P : Program} {t e size bytes : Nat} (w : World) (hT : ElT P t e size bytes) (base ty : Nat) (v : Value) (n : Nat) (xs : List Value) (hown : w.ownsRow base e size v n xs)
  (A : Option Addr) (m c : Nat) (news : List Value) (hsrc : Src w size A m news) (hm : 0 < m) (h1 : ∀ u ∈ news, u.oneCell' = true)
  (h63 : n + m ≤ maxLen) (hbytes : (n + m) * bytes ≤ 140737488355328) (hbase : base ≤ w.heap.size) :
  ∃ A' c' w', (Builtin.append_ #[t, t] ty #[v, .slice A m c]).run P w = .ok (.slice A' (n + m) c') w' ∧ w'.ownsRow base e size (.slice A' (n + m) c') (n + m) (xs ++ news) ∧ w.grownBy w' v.ownBlock ∧ Below base w w' ∧
    ((Value.slice A' (n + m) c').ownBlock = v.ownBlock ∨ ∃ g, (Value.slice A' (n + m) c').ownBlock = some g ∧ w.heap.size ≤ g) := by
 obtain ⟨ht, hsz, i, z, hi, hz, hs, hby, hzs⟩ := hT
 obtain ⟨ad, rfl, hc⟩ := hsrc.2 hm
 obtain ⟨v', w', hr, h2, h3, h4, h5⟩ := run_append_own_at (P := P) w base t ty e i z size bytes ht hi hz hs hby hzs hsz v n xs hown ad m c news hsrc.1 hc h1 h63 hbytes hbase
 obtain ⟨A', c', rfl⟩ := Acc.shape (.inl h2)
 refine ⟨A', c', w', hr, h2, h3, (Below.refl _ _).grown h3 hbase (fun k hk => (hown.lt k hk).1), ?_⟩
 rcases h5 with h5 | h5
 ·exact .inl h5
 ·exact .inr ⟨_, h5, Nat.le_refl _⟩
structure N1 (l : List Mod) (k : Nat) (O : List Mod) : Prop where
 nod : O.Nodup
 mem : ∀ m, m ∈ O ↔ m ∈ l.take k
theorem N1.old {l O : List Mod} {k : Nat} (h : N1 l k O) (hk : k < l.length) (hm : l[k] ∈ O) : N1 l (k + 1) O :=
 ⟨h.nod, fun m => by
  rw [List.take_succ_eq_append_getElem hk, List.mem_append, List.mem_singleton, ← h.mem]
  exact ⟨.inl, fun h => h.elim id fun e => e ▸ hm⟩⟩
theorem N1.new {l O : List Mod} {k : Nat} (h : N1 l k O) (hk : k < l.length) (hm : l[k] ∉ O) : N1 l (k + 1) (O ++ [l[k]]) :=
 ⟨List.nodup_append.2 ⟨h.nod, by simp, fun a ha b hb e => hm (by rw [List.mem_singleton.1 hb] at e; exact e ▸ ha)⟩, fun m => by
  rw [List.take_succ_eq_append_getElem hk, List.mem_append, List.mem_append, ← h.mem]⟩
structure N2 (R : Regy) (l : List Mod) (k : Nat) (O : List Mod) : Prop where
 nod : O.Nodup
 rch : ∀ m ∈ O, Reach R l m
 base : ∀ m ∈ l, m ∈ O
 clos : ∀ j (hj : j < O.length), j < k → ∀ m ∈ reqOf R O[j], m ∈ O
theorem N2.start {R : Regy} {l O : List Mod} (h : N1 l l.length O) : N2 R l 0 O :=
 ⟨h.nod, fun m hm => .base (by have := (h.mem m).1 hm; rwa [List.take_of_length_le (Nat.le_refl _)] at this), fun m hm => (h.mem m).2 (by rwa [List.take_of_length_le (Nat.le_refl _)]), fun j _ h => by omega⟩
theorem N2.len {R : Regy} {l O : List Mod} {k : Nat} (h : N2 R l k O) : O.length ≤ (univ R l).length := nodup_len O _ h.nod fun m hm => (h.rch m hm).univ
theorem N2.fin {R : Regy} {l O : List Mod} (h : N2 R l O.length O) (m : Mod) : m ∈ O ↔ Reach R l m := by
 refine ⟨h.rch m, fun hr => ?_⟩
 induction hr with
 | base h1 => exact h.base _ h1
 | step _ h2 ih =>
   obtain ⟨j, hj, rfl⟩ := List.mem_iff_getElem.1 ih
   exact h.clos j hj hj _ h2
structure N3 (R : Regy) (l : List Mod) (k : Nat) (p : Mod) (q : Nat) (O : List Mod) : Prop where
 inv : N2 R l k O
 at_ : O[k]? = some p
 seen : ∀ m ∈ (reqOf R p).take q, m ∈ O
theorem N3.old {R : Regy} {l O : List Mod} {k q : Nat} {p : Mod} (h : N3 R l k p q O) (hq : q < (reqOf R p).length) (hm : (reqOf R p)[q] ∈ O) : N3 R l k p (q + 1) O :=
 ⟨h.inv, h.at_, fun m hmm => by
  rw [List.take_succ_eq_append_getElem hq, List.mem_append, List.mem_singleton] at hmm
  exact hmm.elim (h.seen m) fun e => e ▸ hm⟩
theorem N3.new {R : Regy} {l O : List Mod} {k q : Nat} {p : Mod} (h : N3 R l k p q O) (hq : q < (reqOf R p).length) (hm : (reqOf R p)[q] ∉ O) : N3 R l k p (q + 1) (O ++ [(reqOf R p)[q]]) := by
 have hkl : k < O.length := (List.getElem?_eq_some_iff.1 h.at_).1
 have hp : p ∈ O := List.mem_of_getElem? h.at_
 refine ⟨⟨List.nodup_append.2 ⟨h.inv.nod, by simp, fun a ha b hb e => hm (by rw [List.mem_singleton.1 hb] at e; exact e ▸ ha)⟩, ?_, fun m h1 => List.mem_append_left _ (h.inv.base m h1), ?_⟩, ?_, ?_⟩
 ·intro m h1
  rcases List.mem_append.1 h1 with h1 | h1
  ·exact h.inv.rch m h1
  ·rw [List.mem_singleton.1 h1]
   exact .step (h.inv.rch p hp) (List.getElem_mem hq)
 ·intro j hj hjk m h1
  have hjl : j < O.length := by omega
  rw [List.getElem_append_left hjl] at h1
  exact List.mem_append_left _ (h.inv.clos j hjl hjk m h1)
 ·rw [List.getElem?_append_left hkl]; exact h.at_
 ·intro m hmm
  rw [List.take_succ_eq_append_getElem hq, List.mem_append, List.mem_singleton] at hmm
  rcases hmm with h1 | h1
  ·exact List.mem_append_left _ (h.seen m h1)
  ·rw [h1]; simp
theorem N3.done {R : Regy} {l O : List Mod} {k : Nat} {p : Mod} (h : N3 R l k p (reqOf R p).length O) : N2 R l (k + 1) O :=
 ⟨h.inv.nod, h.inv.rch, h.inv.base, fun j hj hjk m hm => by
  by_cases hlt : j < k
  ·exact h.inv.clos j hj hlt m hm
  ·obtain rfl : j = k := by omega
   have e : O[j] = p := by
    have h1 := h.at_
    rw [List.getElem?_eq_getElem hj] at h1
    exact Option.some.inj h1
   rw [e] at hm
   exact h.seen m (by rw [List.take_of_length_le (Nat.le_refl _)]; exact hm)⟩
end Go.Proofs.YthcgihgajdjfoaaGreatDoor
namespace Go.Proofs.YthcgihgajdjfoaaGreatDoor
open Go.RowKit Go.Sort
def InsAt (P : List Mod) (x : Mod) (a : Nat) : Prop := (∀ i, i + 1 = a → ∀ h : i < P.length, ltOf mcmp x P[i] = false) ∧ (∀ i, a ≤ i → ∀ h : i < P.length, ltOf mcmp x P[i] = true)
theorem flat_ins (P : List Mod) (x : Mod) (a : Nat) : (P.take a ++ x :: P.drop a).flatMap encM = ((P.take a).flatMap encM ++ encM x) ++ (P.drop a).flatMap encM := by simp
set_option maxRecDepth 100000 in
set_option maxHeartbeats 4000000 in
theorem refSorted_far (A : Option Addr) (c : Nat) (l : List Mod) (w : World) (hA : Sl w w.heap.size 4 encM A l) (hl : l.length ≤ 1099511627776) :
  Calls Tryz.prog 77 #[.slice A l.length c] w fun e w' => ∃ A' c', e = .returned (.slice A' l.length c') ∧ (∀ a, A' = some a → w.heap.size ≤ a.block) ∧ Sl w' w'.heap.size 4 encM A' (msort l) ∧ Below w.heap.size w w' := by
 go_enter Tryz.func77, Tryz.ntmps77
 go_wp2
 go_loopw [3, 10] (fun v i wr => ∃ (k : Nat) (P : List Mod), k ≤ l.length ∧ i = .int .i64 (k : Nat) ∧ P.length = k ∧ Acc wr w.heap.size 26 4 v k (P.flatMap encM) ∧ Hid (P.Perm (l.take k)) ∧ Hid (P.Pairwise (leOf (ltOf mcmp))) ∧ Hid (∀ b, v.ownBlock = some b → w.heap.size ≤ b) ∧ Below w.heap.size w wr)
  (fun _ i _ => l.length - (intOf i).toNat)
 case atStart => exact ⟨0, [], Nat.zero_le _, rfl, rfl, Acc.nil_ _ _ _ _, List.Perm.refl [], List.Pairwise.nil, Lib.hid (fun b h => by simp [Value.ownBlock] at h), Below.refl _ _⟩
 case round =>
  obtain ⟨wo, hwo⟩ : ∃ wo, wo = wr := ⟨_, rfl⟩
  subst hwo
  obtain ⟨k, P, hk, rfl, hPk, hacc, HP, HS, HF, hb⟩ := hrel
  have hbz := hb.size
  obtain ⟨A1, c1, rfl⟩ := hacc.shape
  have hcap := hacc.cap
  by_cases hlt : k < l.length
  ·have hlt' : (k : Int) < (l.length : Int) := by omega
   obtain ⟨b, off, rfl, hbB, g0, g1, g2, g3⟩ := (hA.below hb).mod hlt
   have HN := Lib.hid (fun a => ins_perm P (l.take k) l[k] a HP.out)
   have HK := Lib.hid (List.take_succ_eq_append_getElem hlt)
   have HI := Lib.hid (fun a (ha : a ≤ P.length) (h : InsAt P l[k] a) => ins_sorted mlt_swo P l[k] a ha HS.out h.1 h.2)
   have HPk := Lib.hid hPk
   have hp1 : P.length ≤ k := by omega
   have hp2 : k ≤ P.length := by omega
   clear hPk
   generalize l[k] = x at g0 g1 g2 g3 HN HK HI
   obtain ⟨s, x1, x2, x3⟩ := x
   simp only at g0 g1 g2 g3
   go_upto_block 2 with fail
   have hB1 := Lib.hid (hb.alloc hbz (.cells #[.string ⟨s.toArray⟩, .int .i64 x1, .int .i64 x2, .int .i64 x3] 26))
   have hacc1 := hacc.alloc (.cells #[.string ⟨s.toArray⟩, .int .i64 x1, .int .i64 x2, .int .i64 x3] 26)
   have q0 := Blk.new wo 26 #[.string ⟨s.toArray⟩, .int .i64 x1, .int .i64 x2, .int .i64 x3]
   have hzz : (wo.alloc (.cells #[.string ⟨s.toArray⟩, .int .i64 x1, .int .i64 x2, .int .i64 x3] 26)).heap.size = wo.heap.size + 1 := by simp
   clear g0 g1 g2 g3 hacc hb
   generalize wo.alloc (.cells #[.string ⟨s.toArray⟩, .int .i64 x1, .int .i64 x2, .int .i64 x3] 26) = W0 at hB1 hacc1 q0 hzz ⊢
   generalize wo.heap.size = g at q0 hbz hzz ⊢
   have Q0 := Lib.hid q0
   have HA0 := Lib.hid hacc1
   clear q0
   go_cut [6] (fun i wx => ∃ a : Nat, a ≤ P.length ∧ i = .int .i64 (a : Nat) ∧ Hid (InsAt P (s, x1, x2, x3) a) ∧ Below W0.heap.size W0 wx)
   case first =>
    go_wp2_with fail
    go_loopw [6] (fun i wx => ∃ a : Nat, a ≤ P.length ∧ i = .int .i64 (a : Nat) ∧ Hid (∀ i, a ≤ i → ∀ h : i < P.length, ltOf mcmp (s, x1, x2, x3) P[i] = true) ∧ Below W0.heap.size W0 wx) (fun i _ => (intOf i).toNat)
    case atStart => exact ⟨k, hp2, rfl, fun i hi h => by omega, Below.refl _ _⟩
    case round =>
     obtain ⟨a, ha, rfl, HJ, hbx⟩ := hrel
     have hxz := hbx.size
     have q1 := (Q0.out.keep hbx).cell
     have p0 := q1 0
     have p1 := q1 1
     have p2 := q1 2
     have p3 := q1 3
     simp at p0 p1 p2 p3
     clear q1
     by_cases h0 : 0 < a
     ·obtain ⟨n, hn⟩ : ∃ n, n + 1 = a := ⟨a - 1, by omega⟩
      have d0 : decide (0 < a) = true := decide_eq_true h0
      have d1 : decide ((0 : Int) < (a : Int)) = true := decide_eq_true (by omega)
      have hw : IntKind.i64.wrap ((a : Int) - 1) = (n : Int) := by simp [IntKind.wrap, IntKind.bits, IntKind.signed]; omega
      have hnP : n < P.length := by omega
      have hnk : (n : Int) < (k : Int) := by omega
      obtain ⟨b1, off1, e1, hbB1, f0, f1, f2, f3⟩ := (((HA0.out).sl encM_len (by decide)).2.below hbx).mod hnP
      have HX := Lib.hid (show ltOf mcmp (s, x1, x2, x3) P[n] = decide (mcmp (s, x1, x2, x3) P[n] < 0) from rfl)
      have cc0 : ∀ W, Calls Tryz.prog 24 #[.agg #[.string ⟨s.toArray⟩, .int .i64 x1, .int .i64 x2, .int .i64 x3], .agg #[.string ⟨(P[n]).1.toArray⟩, .int .i64 (P[n]).2.1, .int .i64 (P[n]).2.2.1, .int .i64 (P[n]).2.2.2]] W fun e w' => e = .returned (.int .i64 (mcmp (s, x1, x2, x3) P[n])) ∧ Below W.heap.size W w' := fun W => mrefCompare_any _ _ _ _ _ _ _ _ W
      have HJ2 := Lib.hid (show ltOf mcmp (s, x1, x2, x3) P[n] = true → ∀ i, n ≤ i → ∀ h : i < P.length, ltOf mcmp (s, x1, x2, x3) P[i] = true from fun h i hi hP => by
       rcases Nat.lt_or_ge n i with h' | h'
       ·exact HJ.out i (by omega) hP
       ·obtain rfl : i = n := by omega
        exact h)
      have HJ3 := Lib.hid (show ltOf mcmp (s, x1, x2, x3) P[n] = false → InsAt P (s, x1, x2, x3) a from fun h => ⟨fun i hi hP => by
       obtain rfl : i = n := by omega
       exact h, HJ.out⟩)
      generalize P[n] = y at f0 f1 f2 f3 HX cc0 HJ2 HJ3
      generalize mcmp (s, x1, x2, x3) y = q at HX cc0
      generalize ltOf mcmp (s, x1, x2, x3) y = Q at HX HJ2 HJ3
      have cm := Lib.hid cc0
      clear cc0
      clear HJ
      by_cases hq : q < 0
      ·have dq : decide (q < 0) = true := decide_eq_true hq
       have HJ4 := Lib.hid (HJ2.out (by rw [HX.out]; exact dq))
       clear HJ2 HJ3 HX hq
       subst e1
       go_wp2
       go_region_held3 (fun W => W.cell? ⟨g, 0, none⟩ = some (.string ⟨s.toArray⟩) ∧ W.cell? ⟨g, 1, none⟩ = some (.int .i64 x1) ∧ W.cell? ⟨g, 2, none⟩ = some (.int .i64 x2) ∧ W.cell? ⟨g, 3, none⟩ = some (.int .i64 x3) ∧ W.cell? ⟨b1, off1 + n * 4, none⟩ = some (.string ⟨y.1.toArray⟩) ∧ W.cell? ⟨b1, off1 + n * 4 + 1, none⟩ = some (.int .i64 y.2.1) ∧ W.cell? ⟨b1, off1 + n * 4 + 2, none⟩ = some (.int .i64 y.2.2.1) ∧ W.cell? ⟨b1, off1 + n * 4 + 3, none⟩ = some (.int .i64 y.2.2.2)) (first | (simp; done) | (go_split_ands; (repeat' apply And.intro) <;> (first | assumption | (apply cell_keep; assumption; assumption) | (apply cell_keep_alloc; assumption))))
        (first | (go_at_call 24; refine (cm.out _).mono ?_; rintro e w4 ⟨rfl, hb4⟩))
       all_goals go_wp2
       all_goals go_roundw
       case rel => exact ⟨n, by omega, rfl, HJ4.out, hbx.drew.trans (hb4.mono hxz)⟩
       case measure => simp [intOf]; omega
      ·have dq : decide (q < 0) = false := decide_eq_false hq
       have HJ4 := Lib.hid (HJ3.out (by rw [HX.out]; exact dq))
       clear HJ2 HJ3 HX hq
       subst e1
       go_wp2
       go_region_held3 (fun W => W.cell? ⟨g, 0, none⟩ = some (.string ⟨s.toArray⟩) ∧ W.cell? ⟨g, 1, none⟩ = some (.int .i64 x1) ∧ W.cell? ⟨g, 2, none⟩ = some (.int .i64 x2) ∧ W.cell? ⟨g, 3, none⟩ = some (.int .i64 x3) ∧ W.cell? ⟨b1, off1 + n * 4, none⟩ = some (.string ⟨y.1.toArray⟩) ∧ W.cell? ⟨b1, off1 + n * 4 + 1, none⟩ = some (.int .i64 y.2.1) ∧ W.cell? ⟨b1, off1 + n * 4 + 2, none⟩ = some (.int .i64 y.2.2.1) ∧ W.cell? ⟨b1, off1 + n * 4 + 3, none⟩ = some (.int .i64 y.2.2.2)) (first | (simp; done) | (go_split_ands; (repeat' apply And.intro) <;> (first | assumption | (apply cell_keep; assumption; assumption) | (apply cell_keep_alloc; assumption))))
        (first | (go_at_call 24; refine (cm.out _).mono ?_; rintro e w4 ⟨rfl, hb4⟩))
       all_goals go_wp2
       all_goals go_meet
       case rel => exact ⟨a, ha, rfl, HJ4.out, hbx.drew.trans (hb4.mono hxz)⟩
     ·obtain rfl : a = 0 := by omega
      have HI0 := Lib.hid (show InsAt P (s, x1, x2, x3) 0 from ⟨fun i hi => by omega, HJ.out⟩)
      clear HJ
      go_wp2
      go_quiet (fail)
      go_wp2
      go_meet
      case rel => exact ⟨0, Nat.zero_le _, rfl, HI0.out, hbx.drewN _⟩
   case rest =>
    obtain ⟨a, ha, rfl, HIA, hbx⟩ := hcut
    have hxz := hbx.size
    have hak : a ≤ k := by omega
    have hS := (HA0.out.sl encM_len (by decide)).2.below hbx
    have hS' := hS.more hxz
    have rc1 := fun W => run_cut_hi elMod A1 k c1 a (by omega) W
    have rc2 := fun W => run_cut_lo elMod A1 k c1 a hak W
    have hac0 := Acc.marked wc #[] wc.heap.size 26 4 0 (0, 0) rfl
    have hs1 : Src (wc.alloc (.cells #[] 26)) 4 A1 a ((P.take a).flatMap encM) := by
     have := ((hS'.take a).below ((Below.refl _ _).alloc (Nat.le_refl _) (.cells #[] 26))).src encM_len
     rwa [List.length_take, Nat.min_eq_left ha] at this
    have hS3 := hS'.drop c1 a (by omega)
    have hdl : (P.drop a).length = k - a := by simp; omega
    have q1 := (Q0.out.keep hbx).cell
    have p0 := q1 0
    have p1 := q1 1
    have p2 := q1 2
    have p3 := q1 3
    simp at p0 p1 p2 p3
    clear q1
    have hgz : g < wc.heap.size := by omega
    have HS3 := Lib.hid hS3
    have HBX := Lib.hid hbx
    clear hS hS' hS3 hacc1 hbx
    go_wp2_with (first
     | (at_builtin; refine wpList_app _ rfl (.tmp 30) (.tmp 33) 27 rfl wc.heap.size 26 4 40 elMod _ 0 _ rfl hac0 A1 a c1 ((P.take a).flatMap encM) rfl hs1 (encM_one _) (by simp only [maxLen]; omega) (by omega) (by simp) ?_; intro v1 w1 hacc1 _ hb1 _ ho1; have HO1 := Lib.hid ho1; clear ho1; (have hb1' := ((Below.refl wc.heap.size wc).alloc (Nat.le_refl _) _).trans hb1); (have f0 := cell_keep hb1' p0); (have f1 := cell_keep hb1' p1); (have f2 := cell_keep hb1' p2); (have f3 := cell_keep hb1' p3); (have HY1 := Lib.hid hb1'); clear hb1 hb1')
     | (at_builtin; refine wpList_app _ rfl (.tmp 35) (.tmp 37) 27 rfl wc.heap.size 26 4 40 elMod _ (0 + a) _ rfl (hacc1.alloc _) _ 1 _ _ rfl (Src.lit _ 4 _ _ 1 rfl) (by simp [Value.oneCell']) (by simp only [maxLen]; omega) (by omega) (by have := HY1.out.size; simp; omega) ?_; intro v2 w2 hacc2 _ hb2 _ ho2; have HO2 := Lib.hid ho2; clear ho2; (have HY2 := Lib.hid (HY1.out.trans (((Below.refl wc.heap.size w1).alloc HY1.out.size _).trans hb2))); clear hb2; (have hs3 := (HS3.out.below HY2.out).src encM_len); rw [hdl] at hs3)
     | (at_builtin; refine wpList_app _ rfl (.tmp 39) (.tmp 42) 27 rfl wc.heap.size 26 4 40 elMod _ (0 + a + 1) _ rfl hacc2 _ (k - a) _ _ rfl hs3 (encM_one _) (by simp only [maxLen]; omega) (by omega) HY2.out.size ?_; intro v3 w3 hacc3 _ hb3 _ ho3; have HO3 := Lib.hid ho3; clear ho3; (have HY3 := Lib.hid (HY2.out.trans hb3)); clear hb3))
    go_roundw
    case rel =>
     have hwb : w.heap.size ≤ wc.heap.size := by omega
     have hP' : (P.take a ++ (s, x1, x2, x3) :: P.drop a).length = k + 1 := by simp; omega
     have e3 : 0 + a + 1 + (k - a) = k + 1 := by omega
     have hacc4 := hacc3.less hwb
     rw [e3] at hacc4
     have hf1 : ∀ b, v1.ownBlock = some b → w.heap.size ≤ b := fun b h => by
      rcases HO1.out with h' | ⟨g', h', hg'⟩
      ·have h2 : some wc.heap.size = some b := h'.symm.trans h
       injection h2 with h2
       omega
      ·rw [h'] at h; injection h with h; simp at hg'; omega
     have hf2 : ∀ b, v2.ownBlock = some b → w.heap.size ≤ b := fun b h => by
      rcases HO2.out with h' | ⟨g', h', hg'⟩
      ·rw [h'] at h; exact hf1 b h
      ·rw [h'] at h; injection h with h; have := HY1.out.size; simp at hg'; omega
     have hf3 : ∀ b, v3.ownBlock = some b → w.heap.size ≤ b := fun b h => by
      rcases HO3.out with h' | ⟨g', h', hg'⟩
      ·rw [h'] at h; exact hf2 b h
      ·rw [h'] at h; injection h with h; have := HY2.out.size; omega
     refine ⟨k + 1, P.take a ++ (s, x1, x2, x3) :: P.drop a, by omega, by go_num, hP', ?_, ?_, HI.out a ha HIA.out, Lib.hid hf3, hB1.out.trans ((HBX.out.mono (by omega)).trans (HY3.out.mono hwb))⟩
     ·rw [flat_ins]
      exact hacc4
     ·have := HN.out a
      rw [HK.out]
      exact this
    case measure => simp [intOf]; omega
  ·go_wp2
   go_ret
   obtain ⟨hn, hS⟩ := hacc.sl encM_len (by decide)
   have hms : P = msort l := sorted_eq mlt_swo mlt_total P l HS.out (by have := HP.out; rwa [List.take_of_length_le (by omega)] at this)
   rw [hms] at hS
   have hkl : k = l.length := by omega
   exact ⟨A1, c1, by rw [hkl]; rfl, fun a ha => HF.out a.block (by rw [ha]; rfl), hS, hb⟩
end Go.Proofs.YthcgihgajdjfoaaGreatDoor
