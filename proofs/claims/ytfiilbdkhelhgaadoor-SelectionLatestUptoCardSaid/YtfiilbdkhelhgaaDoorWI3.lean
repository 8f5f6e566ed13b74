/- Walks: the place of a path in a list (slices.IndexFunc with Reason's closure). -/
import Derived.Test.YtfiilbdkhelhgaaDoorWS8
namespace Go.Proofs.YtfiilbdkhelhgaaDoor
open Go.RowKit Go.Sort

/-- the place of the first module with a path, or -1 -/
def idxP (l : List Mod) (path : List UInt8) : Int := if l.findIdx (fun m => decide (m.1 = path)) < l.length then (l.findIdx (fun m => decide (m.1 = path)) : Int) else -1
theorem idxP_hit {l : List Mod} {path : List UInt8} {k : Nat} (hk : k < l.length) (h : l[k].1 = path) (hn : ∀ j (_ : j < k) (hj : j < l.length), l[j].1 ≠ path) : idxP l path = k := by
  have : l.findIdx (fun m => decide (m.1 = path)) = k := (List.findIdx_eq hk).2 ⟨by simpa using h, fun j hj => by simpa using hn j hj (by omega)⟩
  unfold idxP
  rw [this, if_pos hk]
theorem idxP_miss {l : List Mod} {path : List UInt8} (hn : ∀ j (hj : j < l.length), l[j].1 ≠ path) : idxP l path = -1 := by
  have : l.findIdx (fun m => decide (m.1 = path)) = l.length := List.findIdx_eq_length.2 fun x hx => by
    obtain ⟨j, hj, rfl⟩ := List.mem_iff_getElem.1 hx
    simpa using hn j hj
  unfold idxP
  rw [this, if_neg (Nat.lt_irrefl _)]

set_option maxRecDepth 100000 in
set_option maxHeartbeats 1000000 in
theorem isPath_any (g : Nat) (path : List UInt8) (x : Mod) (w : World) (hg : w.cell? ⟨g, 0, none⟩ = some (.string ⟨path.toArray⟩)) :
    Calls Tryd.prog 37 #[.agg #[.string ⟨x.1.toArray⟩, .int .i64 x.2.1, .int .i64 x.2.2.1, .int .i64 x.2.2.2], .pointer (some ⟨g, 0, none⟩)] w fun e w' => e = .returned (.bool (decide (x.1 = path))) ∧ Below w.heap.size w w' := by
  have g1 := cell_keep_alloc (.cells #[.string ⟨x.1.toArray⟩, .int .i64 x.2.1, .int .i64 x.2.2.1, .int .i64 x.2.2.2] 26) hg
  by_cases hp : x.1 = path
  · have hp1 : (x.1 == path) = true := by rw [hp]; exact beq_self_eq_true _
    have HP := Lib.hid hp
    clear hp
    go_enter Tryd.func37, Tryd.ntmps37
    go_wp2
    go_ret
    exact ⟨by rw [decide_eq_true HP.out]; rfl, (Below.refl _ _).alloc (Nat.le_refl _) _⟩
  · have hp1 : (x.1 == path) = false := beq_eq_false_iff_ne.2 hp
    have HP := Lib.hid hp
    clear hp
    go_enter Tryd.func37, Tryd.ntmps37
    go_wp2
    go_ret
    exact ⟨by rw [decide_eq_false HP.out]; rfl, (Below.refl _ _).alloc (Nat.le_refl _) _⟩

set_option maxRecDepth 100000 in
set_option maxHeartbeats 4000000 in
theorem indexPath_any (A : Option Addr) (c g : Nat) (l : List Mod) (path : List UInt8) (w : World) (hA : Sl w w.heap.size 4 encM A l) (hl : l.length ≤ 1099511627776) (hg : w.cell? ⟨g, 0, none⟩ = some (.string ⟨path.toArray⟩)) :
    Calls Tryd.prog 36 #[.slice A l.length c, .func (.func 37) #[] #[.pointer (some ⟨g, 0, none⟩)]] w fun e w' => e = .returned (.int .i64 (idxP l path)) ∧ Below w.heap.size w w' := by
  have HA := Lib.hid hA
  have HG := Lib.hid hg
  clear hA hg
  go_enter Tryd.func36, Tryd.ntmps36
  go_wp2
  go_loopw [8] (fun i wr => ∃ k : Nat, k ≤ l.length ∧ i = .int .i64 (k : Nat) ∧ Hid (∀ j (_ : j < k) (hj : j < l.length), l[j].1 ≠ path) ∧ Hid (Below w.heap.size w wr)) (fun i _ => l.length - (intOf i).toNat)
  case atStart => exact ⟨0, Nat.zero_le _, rfl, Lib.hid (by omega), Lib.hid (Below.refl _ _)⟩
  case round =>
    obtain ⟨k, hk, rfl, HN, HB⟩ := hrel
    by_cases hlt : k < l.length
    · have hlt' : (k : Int) < (l.length : Int) := by omega
      obtain ⟨b, off, rfl, hb, g0, g1, g2, g3⟩ := (HA.out.below HB.out).mod hlt
      have HK := Lib.hid (fun h => idxP_hit (path := path) hlt h HN.out)
      have HN2 := Lib.hid (fun (h : l[k].1 ≠ path) j (hj : j < k + 1) (hjl : j < l.length) => show l[j].1 ≠ path from by
        rcases Nat.lt_or_ge j k with h1 | h1
        · exact HN.out j h1 hjl
        · obtain rfl : j = k := by omega
          exact h)
      generalize l[k] = x at g0 g1 g2 g3 HK HN2
      have cP := Lib.hid (fun W (hW : Below w.heap.size w W) => isPath_any g path x W (cell_keep hW HG.out))
      by_cases hp : x.1 = path
      · have HE := Lib.hid (HK.out hp)
        rw [decide_eq_true hp] at cP
        clear hp HK HN2
        go_wp2_with fail
        refine (cP.out _ HB.out).mono ?_
        rintro e w2 ⟨rfl, hb2⟩
        have HB2 := Lib.hid (HB.out.trans (hb2.mono HB.out.size))
        clear hb2 cP
        go_wp2
        go_ret
        exact ⟨by rw [HE.out]; rfl, HB2.out⟩
      · have HN3 := Lib.hid (HN2.out hp)
        rw [decide_eq_false hp] at cP
        clear hp HK HN2
        go_wp2_with fail
        refine (cP.out _ HB.out).mono ?_
        rintro e w2 ⟨rfl, hb2⟩
        have HB2 := Lib.hid (HB.out.trans (hb2.mono HB.out.size))
        clear hb2 cP
        go_wp2
        go_roundw
        case rel => exact ⟨k + 1, by omega, by go_num, HN3, HB2⟩
        case measure => simp [intOf]; omega
    · obtain rfl : k = l.length := by omega
      have HE := Lib.hid (idxP_miss (path := path) fun j hj => HN.out j hj hj)
      clear HN
      go_wp2
      go_ret
      exact ⟨by rw [HE.out]; rfl, HB.out⟩
end Go.Proofs.YtfiilbdkhelhgaaDoor
