/- Walks: lines of manifests. -/
import Derived.Test.YtbbdoibmcmkmnaaGreatDoorWH
namespace Go.Proofs.YtbbdoibmcmkmnaaGreatDoor
open Go.RowKit

/-- the line of a module -/
def lineT (s p : List UInt8) (x y z : Int) : List UInt8 := s ++ [32] ++ p ++ [32] ++ vtext x y z ++ [10]

set_option maxRecDepth 100000 in
set_option maxHeartbeats 4000000 in
theorem refline_any (s p : List UInt8) (x y z : Int) (w : World) (hs : s.length ≤ 1000) (hp : p.length ≤ 1099511627776) :
    Calls Tryz.prog 42 #[.string ⟨s.toArray⟩, .agg #[.string ⟨p.toArray⟩, .int .i64 x, .int .i64 y, .int .i64 z]] w fun e w' => e = .returned (.string ⟨(lineT s p x y z).toArray⟩) ∧ Below w.heap.size w w' := by
  have lt := vtext_len x y z
  have hl := Lib.hid (show lineT s p x y z = s ++ [32] ++ p ++ [32] ++ vtext x y z ++ [10] from rfl)
  have ht := Lib.hid (fun W => refvText_any x y z W)
  generalize vtext x y z = t at lt hl ht
  have n1 : ¬ 9223372036854775807 < s.length + 1 := by omega
  have n2 : ¬ 9223372036854775807 < s.length + 1 + p.length := by omega
  have n3 : ¬ 9223372036854775807 < s.length + 1 + p.length + 1 := by omega
  have n4 : ¬ 9223372036854775807 < s.length + 1 + p.length + 1 + t.length := by omega
  have n5 : ¬ 9223372036854775807 < s.length + 1 + p.length + 1 + t.length + 1 := by omega
  go_enter Tryz.func42, Tryz.ntmps42
  go_wp2
  go_region_held3 (fun W => W.cell? ⟨w.heap.size, 0, none⟩ = some (.string ⟨p.toArray⟩) ∧ W.cell? ⟨w.heap.size, 1, none⟩ = some (.int .i64 x) ∧ W.cell? ⟨w.heap.size, 2, none⟩ = some (.int .i64 y) ∧ W.cell? ⟨w.heap.size, 3, none⟩ = some (.int .i64 z)) (first | (simp; done) | (go_split_ands; (repeat' apply And.intro) <;> (first | assumption | (apply cell_keep; assumption; assumption) | (apply cell_keep_alloc; assumption))))
    (first | (go_at_call 60; refine (ht.out _).mono ?_; rintro e w2 ⟨rfl, hb2⟩))
  go_wp2
  go_ret
  refine ⟨?_, ((Below.refl _ _).alloc (Nat.le_refl _) _).drew.trans (hb2.mono (by simp))⟩
  rw [hl.out, show ({ data := #[32] } : ByteArray) = ⟨([32] : List UInt8).toArray⟩ from rfl, show ({ data := #[10] } : ByteArray) = ⟨([10] : List UInt8).toArray⟩ from rfl]
  simp only [ByteArray.mk_append_mk]
  rfl

set_option maxRecDepth 100000 in
set_option maxHeartbeats 4000000 in
theorem line_any (s p : List UInt8) (x y z : Int) (w : World) (hs : s.length ≤ 1000) (hp : p.length ≤ 1099511627776) (hG : Glob w) :
    Calls Tryz.prog 40 #[.string ⟨s.toArray⟩, .agg #[.string ⟨p.toArray⟩, .int .i64 x, .int .i64 y, .int .i64 z]] w fun e w' => e = .returned (.string ⟨(lineT s p x y z).toArray⟩) ∧ Below w.heap.size w w' := by
  have lt := vtext_len x y z
  have hl := Lib.hid (show lineT s p x y z = s ++ [32] ++ p ++ [32] ++ vtext x y z ++ [10] from rfl)
  have ht := Lib.hid (fun W (hG : Glob W) => vText_any x y z W hG)
  have HG := Lib.hid ((hG.alloc (.cells #[.string ⟨p.toArray⟩, .int .i64 x, .int .i64 y, .int .i64 z] 25)).drew); clear hG
  generalize vtext x y z = t at lt hl ht
  have n1 : ¬ 9223372036854775807 < s.length + 1 := by omega
  have n2 : ¬ 9223372036854775807 < s.length + 1 + p.length := by omega
  have n3 : ¬ 9223372036854775807 < s.length + 1 + p.length + 1 := by omega
  have n4 : ¬ 9223372036854775807 < s.length + 1 + p.length + 1 + t.length := by omega
  have n5 : ¬ 9223372036854775807 < s.length + 1 + p.length + 1 + t.length + 1 := by omega
  go_enter Tryz.func40, Tryz.ntmps40
  go_wp2
  go_region_held3 (fun W => W.cell? ⟨w.heap.size, 0, none⟩ = some (.string ⟨p.toArray⟩) ∧ W.cell? ⟨w.heap.size, 1, none⟩ = some (.int .i64 x) ∧ W.cell? ⟨w.heap.size, 2, none⟩ = some (.int .i64 y) ∧ W.cell? ⟨w.heap.size, 3, none⟩ = some (.int .i64 z)) (first | (simp; done) | (go_split_ands; (repeat' apply And.intro) <;> (first | assumption | (apply cell_keep; assumption; assumption) | (apply cell_keep_alloc; assumption))))
    (first | (go_at_call 57; refine (ht.out _ HG.out).mono ?_; rintro e w2 ⟨rfl, hb2⟩))
  go_wp2
  go_ret
  refine ⟨?_, ((Below.refl _ _).alloc (Nat.le_refl _) _).drew.trans (hb2.mono (by simp))⟩
  rw [hl.out, show ({ data := #[32] } : ByteArray) = ⟨([32] : List UInt8).toArray⟩ from rfl, show ({ data := #[10] } : ByteArray) = ⟨([10] : List UInt8).toArray⟩ from rfl]
  simp only [ByteArray.mk_append_mk]
  rfl

end Go.Proofs.YtbbdoibmcmkmnaaGreatDoor
