/- Walks: what the document does with registries: find, Has, Requires. -/
import Derived.Test.YtfiilbdkhelhgaaDoorWS3
import Derived.Test.YtfiilbdkhelhgaaDoorWO
import Derived.BigQuiet
import Derived.Deep.QuietTactic
namespace Go.Proofs.YtfiilbdkhelhgaaDoor
open Go.RowKit Go.Sort

def isM (m : Mod) (y : ManW) : Bool := decide (y.1 = m)
/-- the place of a module's manifest, or -1 -/
def findI (Y : List ManW) (m : Mod) : Int := if Y.findIdx (isM m) < Y.length then (Y.findIdx (isM m) : Int) else -1
theorem findI_hit {Y : List ManW} {m : Mod} {k : Nat} (hk : k < Y.length) (h : Y[k].1 = m) (hn : ∀ j (_ : j < k) (hj : j < Y.length), Y[j].1 ≠ m) : findI Y m = k := by
  have e : Y.findIdx (isM m) = k := (List.findIdx_eq hk).2 ⟨decide_eq_true h, fun j hj => decide_eq_false (hn j hj (by omega))⟩
  unfold findI
  rw [e, if_pos hk]
theorem findI_miss {Y : List ManW} {m : Mod} (hn : ∀ j (hj : j < Y.length), Y[j].1 ≠ m) : findI Y m = -1 := by
  have e : Y.findIdx (isM m) = Y.length := List.findIdx_eq_length.2 fun x hx => by
    obtain ⟨j, hj, rfl⟩ := List.mem_iff_getElem.1 hx
    exact decide_eq_false (hn j hj)
  unfold findI
  rw [e, if_neg (Nat.lt_irrefl _)]
theorem find_at : ∀ (Y : List ManW) (m : Mod), Y.find? (fun y => decide (y.1 = m)) = Y[Y.findIdx (isM m)]?
  | [], _ => rfl
  | y :: Y, m => by
    have ih := find_at Y m
    rw [List.find?_cons, List.findIdx_cons]
    cases h : decide (y.1 = m) with
    | true => simp [isM, h]
    | false => simp [isM, h, ih]
theorem mod_eta (m : Mod) : (m.1, m.2.1, m.2.2.1, m.2.2.2) = m := rfl

set_option maxRecDepth 100000 in
set_option maxHeartbeats 4000000 in
theorem find_any (A : Option Addr) (c : Nat) (Y : List ManW) (m : Mod) (w : World) (hA : Sl w w.heap.size 5 encW A Y) (hl : Y.length ≤ 1048576) :
    Calls Tryd.prog 39 #[.slice A Y.length c, .agg #[.string ⟨m.1.toArray⟩, .int .i64 m.2.1, .int .i64 m.2.2.1, .int .i64 m.2.2.2]] w fun e w' => e = .returned (.int .i64 (findI Y m)) ∧ Below w.heap.size w w' := by
  have HA := Lib.hid hA
  have q0 := Blk.new w 26 #[.string ⟨m.1.toArray⟩, .int .i64 m.2.1, .int .i64 m.2.2.1, .int .i64 m.2.2.2]
  have Q0 := Lib.hid q0
  have HB0 := Lib.hid (show Below w.heap.size w (w.alloc (.cells #[.string ⟨m.1.toArray⟩, .int .i64 m.2.1, .int .i64 m.2.2.1, .int .i64 m.2.2.2] 26)) from (Below.refl _ _).alloc (Nat.le_refl _) _)
  clear hA q0
  go_enter Tryd.func39, Tryd.ntmps39
  go_wp2
  go_loopw [5] (fun i wr => ∃ k : Nat, k ≤ Y.length ∧ i = .int .i64 (k : Nat) ∧ Hid (∀ j (_ : j < k) (hj : j < Y.length), Y[j].1 ≠ m) ∧ Hid (Blk wr w.heap.size 26 #[.string ⟨m.1.toArray⟩, .int .i64 m.2.1, .int .i64 m.2.2.1, .int .i64 m.2.2.2]) ∧ Hid (Below w.heap.size w wr)) (fun i _ => Y.length - (intOf i).toNat)
  case atStart => exact ⟨0, Nat.zero_le _, rfl, Lib.hid (fun j h => by omega), Q0, HB0⟩
  case round =>
    obtain ⟨k, hk, rfl, HJ, HQ, HB⟩ := hrel
    by_cases hlt : k < Y.length
    · have hlt' : (k : Int) < (Y.length : Int) := by omega
      obtain ⟨b, off, rfl, hbB, g0, g1, g2, g3, g4⟩ := (HA.out.below HB.out).man hlt
      have heq := fun W => eq_mod Y[k].1.1 m.1 Y[k].1.2.1 Y[k].1.2.2.1 Y[k].1.2.2.2 m.2.1 m.2.2.1 m.2.2.2 W
      rw [mod_eta, mod_eta] at heq
      have HY := Lib.hid (fun (h : Y[k].1 = m) => findI_hit hlt h HJ.out)
      have HN := Lib.hid (fun (h : Y[k].1 ≠ m) => show ∀ j (_ : j < k + 1) (hj : j < Y.length), Y[j].1 ≠ m from fun j hj hl => by
        by_cases hjk : j < k
        · exact HJ.out j hjk hl
        · obtain rfl : j = k := by omega
          exact h)
      generalize Y[k].1 = x at g0 g1 g2 g3 heq HY HN
      have y0 := HQ.out.cell 0
      have y1 := HQ.out.cell 1
      have y2 := HQ.out.cell 2
      have y3 := HQ.out.cell 3
      simp at y0 y1 y2 y3
      have HQ2 := Lib.hid (HQ.out.keep ((Below.refl _ _).drew))
      have HQ3 := Lib.hid (fun n => HQ.out.keep ((Below.refl _ _).drewN n))
      clear HJ g4
      by_cases hx : x = m
      · rw [decide_eq_true hx] at heq
        have HF := Lib.hid (HY.out hx)
        clear hx HY HN
        go_wp2
        go_quiet (fail)
        go_wp2
        go_ret
        exact ⟨by rw [HF.out]; rfl, by first | exact HB.out | exact HB.out.drew | exact HB.out.drewN _⟩
      · rw [decide_eq_false hx] at heq
        have HN2 := Lib.hid (HN.out hx)
        clear hx HY HN
        go_wp2
        go_quiet (fail)
        go_wp2
        go_roundw
        case rel => exact ⟨k + 1, by omega, by go_num, HN2, by first | exact HQ2 | exact HQ | exact Lib.hid (HQ3.out _), by first | exact HB | exact Lib.hid HB.out.drew | exact Lib.hid (HB.out.drewN _)⟩
        case measure => simp [intOf]; omega
    · obtain rfl : k = Y.length := by omega
      have HF := Lib.hid (findI_miss (fun j hj => HJ.out j hj hj))
      clear HJ
      go_wp2
      go_ret
      exact ⟨by rw [HF.out]; rfl, HB.out⟩

set_option maxRecDepth 100000 in
set_option maxHeartbeats 4000000 in
theorem Has_any (A : Option Addr) (c : Nat) (l : List Mod) (m : Mod) (w : World) (hA : Sl w w.heap.size 4 encM A l) (hl : l.length ≤ 1099511627776) :
    Calls Tryd.prog 17 #[.slice A l.length c, .agg #[.string ⟨m.1.toArray⟩, .int .i64 m.2.1, .int .i64 m.2.2.1, .int .i64 m.2.2.2]] w fun e w' => e = .returned (.bool (decide (m ∈ l))) ∧ Below w.heap.size w w' := by
  have HA := Lib.hid hA
  have q0 := Blk.new w 26 #[.string ⟨m.1.toArray⟩, .int .i64 m.2.1, .int .i64 m.2.2.1, .int .i64 m.2.2.2]
  have Q0 := Lib.hid q0
  have HB0 := Lib.hid (show Below w.heap.size w (w.alloc (.cells #[.string ⟨m.1.toArray⟩, .int .i64 m.2.1, .int .i64 m.2.2.1, .int .i64 m.2.2.2] 26)) from (Below.refl _ _).alloc (Nat.le_refl _) _)
  clear hA q0
  go_enter Tryd.func17, Tryd.ntmps17
  go_wp2
  go_loopw [5] (fun i wr => ∃ k : Nat, k ≤ l.length ∧ i = .int .i64 (k : Nat) ∧ Hid (m ∉ l.take k) ∧ Hid (Blk wr w.heap.size 26 #[.string ⟨m.1.toArray⟩, .int .i64 m.2.1, .int .i64 m.2.2.1, .int .i64 m.2.2.2]) ∧ Hid (Below w.heap.size w wr)) (fun i _ => l.length - (intOf i).toNat)
  case atStart => exact ⟨0, Nat.zero_le _, rfl, Lib.hid (by simp), Q0, HB0⟩
  case round =>
    obtain ⟨k, hk, rfl, HJ, HQ, HB⟩ := hrel
    by_cases hlt : k < l.length
    · have hlt' : (k : Int) < (l.length : Int) := by omega
      obtain ⟨b, off, rfl, hbB, g0, g1, g2, g3⟩ := (HA.out.below HB.out).mod hlt
      have heq := fun W => eq_mod l[k].1 m.1 l[k].2.1 l[k].2.2.1 l[k].2.2.2 m.2.1 m.2.2.1 m.2.2.2 W
      rw [mod_eta, mod_eta] at heq
      have HY := Lib.hid (fun (h : l[k] = m) => show m ∈ l by rw [← h]; exact List.getElem_mem hlt)
      have HN := Lib.hid (fun (h : l[k] ≠ m) => show m ∉ l.take (k + 1) by
        rw [List.take_succ_eq_append_getElem hlt]
        simp only [List.mem_append, List.mem_singleton, not_or]
        exact ⟨HJ.out, fun e => h e.symm⟩)
      generalize l[k] = x at g0 g1 g2 g3 heq HY HN
      have y0 := HQ.out.cell 0
      have y1 := HQ.out.cell 1
      have y2 := HQ.out.cell 2
      have y3 := HQ.out.cell 3
      simp at y0 y1 y2 y3
      have HQ2 := Lib.hid (HQ.out.keep ((Below.refl _ _).drew))
      have HQ3 := Lib.hid (fun n => HQ.out.keep ((Below.refl _ _).drewN n))
      clear HJ
      by_cases hx : x = m
      · rw [decide_eq_true hx] at heq
        have HF := Lib.hid (decide_eq_true (HY.out hx))
        clear hx HY HN
        go_wp2
        go_quiet (fail)
        go_wp2
        go_ret
        exact ⟨by rw [HF.out]; rfl, by first | exact HB.out | exact HB.out.drew | exact HB.out.drewN _⟩
      · rw [decide_eq_false hx] at heq
        have HN2 := Lib.hid (HN.out hx)
        clear hx HY HN
        go_wp2
        go_quiet (fail)
        go_wp2
        go_roundw
        case rel => exact ⟨k + 1, by omega, by go_num, HN2, by first | exact HQ2 | exact HQ | exact Lib.hid (HQ3.out _), by first | exact HB | exact Lib.hid HB.out.drew | exact Lib.hid (HB.out.drewN _)⟩
        case measure => simp [intOf]; omega
    · obtain rfl : k = l.length := by omega
      have hj := HJ.out
      rw [List.take_of_length_le (Nat.le_refl _)] at hj
      have HF := Lib.hid (decide_eq_false hj)
      clear HJ hj
      go_wp2
      go_ret
      exact ⟨by rw [HF.out]; rfl, HB.out⟩
end Go.Proofs.YtfiilbdkhelhgaaDoor
