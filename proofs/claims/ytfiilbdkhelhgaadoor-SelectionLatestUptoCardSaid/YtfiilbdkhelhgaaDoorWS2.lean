/- Walk: the manifests of a registry by their modules (selection.index). -/
import Derived.Test.YtfiilbdkhelhgaaDoorWS1
import Derived.Test.YtfiilbdkhelhgaaDoorG3
namespace Go.Proofs.YtfiilbdkhelhgaaDoor
open Go.RowKit Go.Sort

def manV (y : ManW) : Value := .agg (encW y).toArray
/-- the manifest of a module -/
def findF (Y : List ManW) (m : Mod) : Option Value := (Y.find? fun y => decide (y.1 = m)).map manV
theorem findF_put (L : List ManW) (y : ManW) (h : y.1 ∉ L.map (·.1)) : (fun x => if x = y.1 then some (manV y) else findF L x) = findF (L ++ [y]) := by
  funext x
  unfold findF
  rw [List.find?_append]
  by_cases hx : x = y.1
  · subst hx
    have : L.find? (fun z => decide (z.1 = y.1)) = none := by
      rw [List.find?_eq_none]
      intro z hz hd
      exact h (List.mem_map.2 ⟨z, hz, of_decide_eq_true hd⟩)
    simp [this]
  · cases hf : L.find? fun z => decide (z.1 = x) with
    | some z => simp [hx]
    | none => simp [hx, Ne.symm hx]
theorem manZero (w : World) : (zeroValue 29).run Tryd.prog w = .ok (.agg #[.string ByteArray.empty, .int .i64 0, .int .i64 0, .int .i64 0, .slice none 0 0]) w := Tryd.zeroValue29 w

set_option maxRecDepth 100000 in
set_option maxHeartbeats 4000000 in
theorem selIndex_any (A : Option Addr) (c : Nat) (Y : List ManW) (w : World) (hY : RegOk w w.heap.size A Y) (hn : (Y.map (·.1)).Nodup) :
    Calls Tryd.prog 28 #[.slice A Y.length c] w fun e w' => e = .returned (.map (some w.heap.size)) ∧ OMap KM w' w.heap.size Y.length (findF Y) ∧ Below w.heap.size w w' := by
  have HY := Lib.hid hY
  have HND := Lib.hid hn
  have hYl := hY.2.2
  have hm0 : OMap KM (w.alloc (.map #[] 0)) w.heap.size 0 (findF []) := OMap.made KM w
  have hmm := @run_makeMap Tryd.prog
  clear hY hn
  go_enter Tryd.func28, Tryd.ntmps28
  go_wp2
  go_loopw [9] (fun i wr => ∃ k : Nat, k ≤ Y.length ∧ i = .int .i64 (k : Nat) ∧ OMap KM wr w.heap.size k (findF (Y.take k)) ∧ Below w.heap.size w wr) (fun i _ => Y.length - (intOf i).toNat)
  case atStart => exact ⟨0, Nat.zero_le _, rfl, hm0, (Below.refl _ _).alloc (Nat.le_refl _) _⟩
  case round =>
    obtain ⟨k, hk, rfl, hm, hb⟩ := hrel
    have hbz := hb.size
    by_cases hlt : k < Y.length
    · have hlt' : (k : Int) < (Y.length : Int) := by omega
      obtain ⟨b, off, rfl, hbB, g0, g1, g2, g3, g4⟩ := (HY.out.keep hb).1.man hlt
      obtain ⟨_, _, hy3⟩ := HY.out.2.1 _ (List.getElem_mem hlt)
      have HTk := Lib.hid (List.take_succ_eq_append_getElem hlt)
      have HNot := Lib.hid (show Y[k].1 ∉ (Y.take k).map (·.1) by
        have h := HND.out
        rw [← List.take_append_drop k Y, List.drop_eq_getElem_cons hlt, List.map_append, List.map_cons, List.nodup_append] at h
        exact fun hx => h.2.2 _ hx _ (by simp) rfl)
      generalize Y[k] = y at g0 g1 g2 g3 g4 hy3 HTk HNot
      have HOK := Lib.hid (show okMod y.1 from (hy3 y.1 (by simp)).ok)
      have HP := Lib.hid (findF_put (Y.take k) y HNot.out)
      obtain ⟨m, A1, c1, l1⟩ := y
      simp only at g0 g1 g2 g3 g4 HOK
      have hm1 := hm.alloc (.cells #[.string ⟨m.1.toArray⟩, .int .i64 m.2.1, .int .i64 m.2.2.1, .int .i64 m.2.2.2, .slice A1 l1.length c1] 29)
      obtain ⟨w3, hput, hm3, hg3⟩ := hm1.put Tryd.underlying55 (by unfold maxLen; omega) m HOK.out (manV (m, A1, c1, l1))
      have hput' : (Instr.mapUpdate 55 (.map (some w.heap.size)) (.agg #[.string ⟨m.1.toArray⟩, .int .i64 m.2.1, .int .i64 m.2.2.1, .int .i64 m.2.2.2]) (.agg #[.string ⟨m.1.toArray⟩, .int .i64 m.2.1, .int .i64 m.2.2.1, .int .i64 m.2.2.2, .slice A1 l1.length c1])).run Tryd.prog (wr.alloc (.cells #[.string ⟨m.1.toArray⟩, .int .i64 m.2.1, .int .i64 m.2.2.1, .int .i64 m.2.2.2, .slice A1 l1.length c1] 29)) = _ := hput
      have M3 := Lib.hid hm3
      have HB3 := Lib.hid ((hb.alloc hbz _).grown hg3 (by simp; omega) (by simp))
      clear hput hm3 hg3 hm hm1 hy3
      go_wp2
      go_roundw
      case rel => exact ⟨k + 1, by omega, by go_num, by rw [HTk.out, ← HP.out]; exact M3.out, HB3.out⟩
      case measure => simp [intOf]; omega
    · obtain rfl : k = Y.length := by omega
      rw [List.take_of_length_le (Nat.le_refl _)] at hm
      have HM := Lib.hid hm
      clear hm
      go_wp2
      go_ret
      exact ⟨rfl, HM.out, hb⟩
end Go.Proofs.YtfiilbdkhelhgaaDoor
