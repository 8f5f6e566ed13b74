/- Walk: the version of a path in a list (law46.has). -/
import Derived.Test.YtfiilbdkhelhgaaDoorWL2
import Derived.Test.YtfiilbdkhelhgaaDoorPL8
namespace Go.Proofs.YtfiilbdkhelhgaaDoor
open Go.RowKit Go.Sort

/-- a version and whether there is one -/
def RetH (w : World) (b : Option Mod) (e : Ending) (w' : World) : Prop := e = .returned (.tuple #[.agg #[.int .i64 (b.getD zmod).2.1, .int .i64 (b.getD zmod).2.2.1, .int .i64 (b.getD zmod).2.2.2], .bool b.isSome]) ∧ Below w.heap.size w w'
theorem hasV_hit {l : List Mod} {p : List UInt8} {k : Nat} (hk : k < l.length) (hn : ∀ j (hj : j < l.length), j < k → l[j].1 ≠ p) (h : l[k].1 = p) : hasV l p = some l[k] := by
  unfold hasV
  rw [List.find?_eq_some_iff_getElem]
  exact ⟨by simpa using h, k, hk, rfl, fun j hj => by simpa using hn j (by omega) hj⟩
theorem hasV_no {l : List Mod} {p : List UInt8} (hn : ∀ j (hj : j < l.length), l[j].1 ≠ p) : hasV l p = none := by
  unfold hasV
  rw [List.find?_eq_none]
  intro x hx
  obtain ⟨j, hj, rfl⟩ := List.mem_iff_getElem.1 hx
  simpa using hn j hj

set_option maxRecDepth 100000 in
set_option maxHeartbeats 4000000 in
theorem has_any (A : Option Addr) (c : Nat) (l : List Mod) (p : List UInt8) (w : World) (hA : Sl w w.heap.size 4 encM A l) (hl : l.length ≤ 1099511627776) :
    Calls Tryd.prog 20 #[.slice A l.length c, .string ⟨p.toArray⟩] w (RetH w (hasV l p)) := by
  have HA := Lib.hid hA
  have HB0 := Lib.hid (show Below w.heap.size w (w.alloc (.cells #[.int .i64 0, .int .i64 0, .int .i64 0] 24)) from (Below.refl _ _).alloc (Nat.le_refl _) _)
  have Q0 := Lib.hid (Blk.new w 24 #[.int .i64 0, .int .i64 0, .int .i64 0])
  obtain ⟨r, hr⟩ : ∃ r, r = hasV l p := ⟨_, rfl⟩
  rw [← hr]
  have HR := Lib.hid hr
  generalize hQ : RetH w r = Q
  clear hA hr
  go_enter Tryd.func20, Tryd.ntmps20
  go_wp2
  go_loopw [6] (fun i wr => ∃ k : Nat, k ≤ l.length ∧ i = .int .i64 (k : Nat) ∧ Hid (∀ j (hj : j < l.length), j < k → l[j].1 ≠ p) ∧ Hid (Blk wr w.heap.size 24 #[.int .i64 0, .int .i64 0, .int .i64 0]) ∧ Hid (Below w.heap.size w wr)) (fun i _ => l.length - (intOf i).toNat)
  case atStart => exact ⟨0, Nat.zero_le _, rfl, Lib.hid (fun j _ h => absurd h (Nat.not_lt_zero _)), Q0, HB0⟩
  case round =>
    obtain ⟨k, hk, rfl, HJ, HQ, HB⟩ := hrel
    have k0 := HQ.out.cell 0
    have k1 := HQ.out.cell 1
    have k2 := HQ.out.cell 2
    have f0 := HQ.out.free 0
    have f1 := HQ.out.free 1
    have f2 := HQ.out.free 2
    simp at k0 k1 k2
    by_cases hlt : k < l.length
    · have hlt' : (k : Int) < (l.length : Int) := by omega
      obtain ⟨b, off, hA1, hbB, g0, g1, g2, g3⟩ := (HA.out.below HB.out).mod hlt
      have HY := Lib.hid (fun h => hasV_hit (p := p) hlt HJ.out h)
      have HN := Lib.hid (fun (h : l[k].1 ≠ p) => show ∀ j (hj : j < l.length), j < k + 1 → l[j].1 ≠ p from fun j hj hjk => by
        by_cases e : j < k
        · exact HJ.out j hj e
        · obtain rfl : j = k := by omega
          exact h)
      generalize l[k] = x at g0 g1 g2 g3 HY HN
      subst hA1
      by_cases hp : x.1 = p
      · have hp1 : (x.1 == p) = true := by rw [hp]; exact beq_self_eq_true _
        have HF := Lib.hid (show Q (.returned (.tuple #[.agg #[.int .i64 x.2.1, .int .i64 x.2.2.1, .int .i64 x.2.2.2], .bool true])) (((wr.setCell ⟨w.heap.size, 0, none⟩ (.int .i64 x.2.1)).setCell ⟨w.heap.size, 1, none⟩ (.int .i64 x.2.2.1)).setCell ⟨w.heap.size, 2, none⟩ (.int .i64 x.2.2.2)) from by
          rw [← hQ, HR.out, HY.out hp]
          exact ⟨rfl, ((HB.out.setCell (p := ⟨w.heap.size, 0, none⟩) (Nat.le_refl _) _).setCell (p := ⟨w.heap.size, 1, none⟩) (Nat.le_refl _) _).setCell (p := ⟨w.heap.size, 2, none⟩) (Nat.le_refl _) _⟩)
        have HP := Lib.hid hp
        clear HY HN HJ hp
        go_wp2
        refine bodyPost_ret (v := .tuple #[.agg #[.int .i64 x.2.1, .int .i64 x.2.2.1, .int .i64 x.2.2.2], .bool true]) (by simp [results, Tryd.results20, go_sem, k0, k1, k2]) rfl HF.out
      · have hp1 : (x.1 == p) = false := beq_eq_false_iff_ne.2 hp
        have HN2 := Lib.hid (HN.out hp)
        clear HY HN HJ hp
        go_wp2
        go_roundw
        case rel => exact ⟨k + 1, by omega, by go_num, HN2, HQ, HB⟩
        case measure => simp [intOf]; omega
    · obtain rfl : k = l.length := by omega
      have HF := Lib.hid (show Q (.returned (.tuple #[.agg #[.int .i64 0, .int .i64 0, .int .i64 0], .bool false])) (((wr.setCell ⟨w.heap.size, 0, none⟩ (.int .i64 0)).setCell ⟨w.heap.size, 1, none⟩ (.int .i64 0)).setCell ⟨w.heap.size, 2, none⟩ (.int .i64 0)) from by
        rw [← hQ, HR.out, hasV_no (fun j hj => HJ.out j hj hj)]
        exact ⟨rfl, ((HB.out.setCell (p := ⟨w.heap.size, 0, none⟩) (Nat.le_refl _) _).setCell (p := ⟨w.heap.size, 1, none⟩) (Nat.le_refl _) _).setCell (p := ⟨w.heap.size, 2, none⟩) (Nat.le_refl _) _⟩)
      clear HJ
      go_wp2
      refine bodyPost_ret (v := .tuple #[.agg #[.int .i64 0, .int .i64 0, .int .i64 0], .bool false]) (by simp [results, Tryd.results20, go_sem, k0, k1, k2]; try rfl) rfl HF.out
end Go.Proofs.YtfiilbdkhelhgaaDoor
