/- Walks: the modules of a manifest; Check's closures. -/
import Derived.Test.YtfiilbdkhelhgaaDoorWF
import Derived.Test.YtfiilbdkhelhgaaDoorG1
namespace Go.Proofs.YtfiilbdkhelhgaaDoor
open Go.RowKit

theorem Acc.le_cap {w : World} {base e size n c : Nat} {A : Option Addr} {xs : List Value} (h : Acc w base e size (.slice A n c) n xs) : n ≤ c := by
  rcases h with h | ⟨_, g, off, hv, _, _⟩
  · rcases h.2 with ⟨hv, rfl⟩ | ⟨g, cap, cur, hv, _, _, hnc, _⟩
    · exact Nat.zero_le _
    · injection hv with _ _ h3
      omega
  · injection hv with _ _ h3
    omega

theorem elMod : ElT Tryd.prog 27 26 4 40 := ElT.mk_ (z := .agg #[.string ByteArray.empty, .int .i64 0, .int .i64 0, .int .i64 0]) Tryd.underlying27 (by kernel_rfl) rfl (by decide)

set_option maxRecDepth 100000 in
set_option maxHeartbeats 1000000 in
theorem modules_any (m : Mod) (A : Option Addr) (c : Nat) (l : List Mod) (w : World) (hA : Sl w w.heap.size 4 encM A l) (hl : l.length ≤ 1099511627776) :
    Calls Tryd.prog 42 #[.agg #[.string ⟨m.1.toArray⟩, .int .i64 m.2.1, .int .i64 m.2.2.1, .int .i64 m.2.2.2, .slice A l.length c]] w (RetMods w (m :: l)) := by
  have hac := Acc.marked (w.alloc (.cells #[.string ⟨m.1.toArray⟩, .int .i64 m.2.1, .int .i64 m.2.2.1, .int .i64 m.2.2.2, .slice A l.length c] 29)) #[.string ⟨m.1.toArray⟩, .int .i64 m.2.1, .int .i64 m.2.2.1, .int .i64 m.2.2.2] w.heap.size 26 4 1 (0, 0) rfl
  simp only [World.size_alloc] at hac
  have hsr := (hA.below (((Below.refl _ _).alloc (Nat.le_refl _) (.cells #[.string ⟨m.1.toArray⟩, .int .i64 m.2.1, .int .i64 m.2.2.1, .int .i64 m.2.2.2, .slice A l.length c] 29)).alloc (by simp) (.cells #[.string ⟨m.1.toArray⟩, .int .i64 m.2.1, .int .i64 m.2.2.1, .int .i64 m.2.2.2] 26))).src encM_len
  go_enter Tryd.func42, Tryd.ntmps42
  go_wp2_with (at_builtin; refine wpList_app _ rfl (.tmp 5) (.tmp 7) 27 rfl w.heap.size 26 4 40 elMod (.slice (some ⟨w.heap.size + 1, 0, none⟩) 1 1) 1 _ rfl hac A l.length c (l.flatMap encM) rfl hsr (encM_one l) (by simp only [maxLen]; omega) (by omega) (by simp; omega) ?_; intro v' w1 hacc' _ hb' _ _)
  go_ret
  obtain ⟨A', c', rfl⟩ := hacc'.shape
  have e1 : (#[Value.string ⟨m.1.toArray⟩, .int .i64 m.2.1, .int .i64 m.2.2.1, .int .i64 m.2.2.2] : Array Value).toList ++ l.flatMap encM = (m :: l).flatMap encM := rfl
  rw [e1] at hacc'
  have hcap := hacc'.le_cap
  obtain ⟨h1, h2⟩ := hacc'.sl encM_len (by decide)
  rw [h1] at hcap ⊢
  exact ⟨A', c', rfl, hcap, h2, (((Below.refl _ _).alloc (Nat.le_refl _) _).alloc (by simp) _).trans hb'⟩

set_option maxHeartbeats 1000000 in
theorem bad1_any (m : Mod) (w : World) (hs : m.1.length ≤ maxLen) (hG : Glob w) :
    Calls Tryd.prog 44 #[.agg #[.string ⟨m.1.toArray⟩, .int .i64 m.2.1, .int .i64 m.2.2.1, .int .i64 m.2.2.2]] w fun e w' => e = .returned (.bool (!pathOk m.1)) ∧ Below w.heap.size w w' := by
  have hc := Lib.hid (Path_any m.1 (w.alloc (.cells #[.string ⟨m.1.toArray⟩, .int .i64 m.2.1, .int .i64 m.2.2.1, .int .i64 m.2.2.2] 26)) hs (hG.alloc _))
  clear hG
  go_enter Tryd.func44, Tryd.ntmps44
  go_wp2_with (go_at_call 45; refine hc.out.mono ?_; rintro e w1 ⟨rfl, hb⟩)
  go_ret
  exact ⟨rfl, ((Below.refl _ _).alloc (Nat.le_refl _) _).trans (hb.mono (by simp))⟩
set_option maxHeartbeats 1000000 in
theorem bad2_any (m : Mod) (w : World) :
    Calls Tryd.prog 46 #[.agg #[.string ⟨m.1.toArray⟩, .int .i64 m.2.1, .int .i64 m.2.2.1, .int .i64 m.2.2.2]] w fun e w' => e = .returned (.bool (!vok m.2.1 m.2.2.1 m.2.2.2)) ∧ Below w.heap.size w w' := by
  have hc := Lib.hid (fun W => Valid_any m.2.1 m.2.2.1 m.2.2.2 W)
  go_enter Tryd.func46, Tryd.ntmps46
  go_wp2_with (go_at_call 47; refine (hc.out _).mono ?_; rintro e w1 ⟨rfl, hb⟩)
  go_ret
  exact ⟨rfl, ((Below.refl _ _).alloc (Nat.le_refl _) _).trans (hb.mono (by simp))⟩
end Go.Proofs.YtfiilbdkhelhgaaDoor
