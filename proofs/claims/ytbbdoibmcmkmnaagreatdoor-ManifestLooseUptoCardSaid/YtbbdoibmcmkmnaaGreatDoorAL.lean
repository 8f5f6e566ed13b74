/- Walks: the examples of the chapter on manifests (law44.alive), and what the laws share. -/
import Derived.Test.YtbbdoibmcmkmnaaGreatDoorAK
import Derived.Test.YtbbdoibmcmkmnaaGreatDoorSA
import Derived.Test.YtbbdoibmcmkmnaaGreatDoorOW
namespace Go.Proofs.YtbbdoibmcmkmnaaGreatDoor
open Go.RowKit Go.Sort

theorem lawVersion_any (x y z : Int) (w : World) :
    Calls Tryz.prog 29 #[.int .i64 x, .int .i64 y, .int .i64 z] w fun e w' => e = .returned (.agg #[.int .i64 x, .int .i64 y, .int .i64 z]) ∧ Below w.heap.size w w' := by
  go_enter Tryz.func29, Tryz.ntmps29
  go_wp2
  refine bodyPost_ret (v := .agg #[.int .i64 x, .int .i64 y, .int .i64 z]) (by simp [results, Tryz.results29, go_sem]) rfl ?_
  exact ⟨rfl, (Below.refl _ _).alloc (Nat.le_refl _) _⟩
theorem eq_fault (a b c d : Int) (w : World) :
    (Op.equalIn 10000 38 (.agg #[.int .i64 a, .int .i64 b]) (.agg #[.int .i64 c, .int .i64 d])).run Tryz.prog w = .ok (decide ((a, b) = (c, d))) w := by
  by_cases h1 : a = c <;> by_cases h2 : b = d <;> simp [go_sem, h1, h2]
theorem mParse_any (s : List UInt8) (hs : s.length ≤ 65536) (w : World) (hG : Glob w) :
    Calls Tryz.prog 20 #[.string ⟨s.toArray⟩] w (RetMan w (mparse s)) := callsIn_wide.1 (Parse_in s hs w hG)
theorem slM1 (w : World) (m : Mod) (t : Nat) : Sl (w.alloc (.cells (encM m).toArray t)) (w.alloc (.cells (encM m).toArray t)).heap.size 4 encM (some ⟨w.heap.size, 0, none⟩) [m] := by
  refine .inr ⟨w.heap.size, 0, rfl, by simp, fun i hi j v hv => ?_⟩
  obtain rfl : i = 0 := by simpa using hi
  simp at hv ⊢
  exact hv

theorem slM2 (w : World) (B g t : Nat) (a b : List UInt8) (h : Blk w g t #[.string ⟨a.toArray⟩, .int .i64 0, .int .i64 0, .int .i64 0, .string ⟨b.toArray⟩, .int .i64 0, .int .i64 0, .int .i64 0]) (hB : g < B) : Sl w B 4 encM (some ⟨g, 0, none⟩) [(a, 0, 0, 0), (b, 0, 0, 0)] := by
  refine .inr ⟨g, 0, rfl, hB, fun i hi j v hv => ?_⟩
  rw [h.cell]
  match i, hi, j, hv with
  | 0, _, 0, hv | 0, _, 1, hv | 0, _, 2, hv | 0, _, 3, hv | 1, _, 0, hv | 1, _, 1, hv | 1, _, 2, hv | 1, _, 3, hv => simpa [encM] using hv
  | 0, _, j + 4, hv | 1, _, j + 4, hv => simp [encM] at hv

set_option maxRecDepth 100000 in
set_option maxHeartbeats 4000000 in
theorem alive_any (w : World) (hG : Glob w) : Calls Tryz.prog 13 #[] w fun e w' => e = .returned (.bool true) ∧ Below w.heap.size w w' := by
  have HG := Lib.hid hG
  have c1 := Lib.hid (fun W => lawVersion_any 1 0 0 W)
  have c2 := Lib.hid (fun W => lawVersion_any 0 2 1 W)
  clear hG
  go_enter Tryz.func13, Tryz.ntmps13
  go_wp2_with fail
  refine (c1.out _).mono ?_
  rintro e w1 ⟨rfl, hb1⟩
  go_wp2_with fail
  refine (c2.out _).mono ?_
  rintro e w2 ⟨rfl, hb2⟩
  have hB2 := Lib.hid (hb1.trans (hb2.mono hb1.size))
  clear hb1 hb2 c1 c2
  go_wp2_with fail
  have q0 := (Blk.new w2 25 #[.string ⟨#[97, 46, 98, 47, 99]⟩, .int .i64 0, .int .i64 2, .int .i64 1]).keep ((Below.refl _ _).alloc (Nat.le_refl _) (.cells #[.string ⟨#[109]⟩, .int .i64 1, .int .i64 0, .int .i64 0, .slice (some ⟨w2.heap.size, 0, none⟩) 1 1] 28))
  have q1 := Blk.new (w2.alloc (.cells #[.string ⟨#[97, 46, 98, 47, 99]⟩, .int .i64 0, .int .i64 2, .int .i64 1] 25)) 28 #[.string ⟨#[109]⟩, .int .i64 1, .int .i64 0, .int .i64 0, .slice (some ⟨w2.heap.size, 0, none⟩) 1 1]
  rw [World.size_alloc] at q1
  have hB3 : Below w.heap.size w ((w2.alloc (.cells #[.string ⟨#[97, 46, 98, 47, 99]⟩, .int .i64 0, .int .i64 2, .int .i64 1] 25)).alloc (.cells #[.string ⟨#[109]⟩, .int .i64 1, .int .i64 0, .int .i64 0, .slice (some ⟨w2.heap.size, 0, none⟩) 1 1] 28)) := (hB2.out.alloc hB2.out.size _).alloc (by have := hB2.out.size; simp; omega) _
  have hz3 : ((w2.alloc (.cells #[.string ⟨#[97, 46, 98, 47, 99]⟩, .int .i64 0, .int .i64 2, .int .i64 1] 25)).alloc (.cells #[.string ⟨#[109]⟩, .int .i64 1, .int .i64 0, .int .i64 0, .slice (some ⟨w2.heap.size, 0, none⟩) 1 1] 28)).heap.size = w2.heap.size + 2 := by simp
  generalize ((w2.alloc (.cells #[.string ⟨#[97, 46, 98, 47, 99]⟩, .int .i64 0, .int .i64 2, .int .i64 1] 25)).alloc (.cells #[.string ⟨#[109]⟩, .int .i64 1, .int .i64 0, .int .i64 0, .slice (some ⟨w2.heap.size, 0, none⟩) 1 1] 28)) = W3 at q0 q1 hB3 hz3 ⊢
  have sl0 : Sl W3 W3.heap.size 4 encM (some ⟨w2.heap.size, 0, none⟩) [kX] := by
    refine .inr ⟨w2.heap.size, 0, rfl, by omega, fun i hi j v hv => ?_⟩
    obtain rfl : i = 0 := by simpa using hi
    have hv' : (encM kX)[j]? = some v := by simpa using hv
    rw [show 0 + 0 * 4 + j = j by omega, q0.cell, ← hv', ← List.getElem?_toArray]
    rfl
  have HB3 := Lib.hid hB3
  have p1 : Calls Tryz.prog 20 #[.string ⟨kT1.toArray⟩] W3 fun e w' => ∃ A c, e = .returned (.tuple #[.agg #[.string ⟨#[109]⟩, .int .i64 1, .int .i64 0, .int .i64 0, .slice A 1 c], .agg #[.int .i64 0, .int .i64 0]]) ∧ Sl w' w'.heap.size 4 encM A [kX] ∧ Below W3.heap.size W3 w' := by
    have h := mParse_any kT1 (by decide) W3 (HG.out.keep hB3)
    rw [kR1] at h
    exact h.mono (fun e w' ⟨A, c, h1, h2, h3⟩ => ⟨A, c, h1, h2, h3⟩)
  have p2 : Hid (∀ W, Glob W → Calls Tryz.prog 20 #[.string ⟨kT2.toArray⟩] W fun e w' => ∃ A c, e = .returned (.tuple #[.agg #[.string ⟨#[]⟩, .int .i64 0, .int .i64 0, .int .i64 0, .slice A 0 c], .agg #[.int .i64 8, .int .i64 1]]) ∧ Below W.heap.size W w') := fun W hW => by
    have h := mParse_any kT2 (by decide) W hW
    rw [kR2] at h
    exact h.mono (fun e w' ⟨A, c, h1, _, h3⟩ => ⟨A, c, h1, h3⟩)
  have p3 : Hid (∀ W, Glob W → Calls Tryz.prog 20 #[.string ⟨([10] : List UInt8).toArray⟩] W fun e w' => ∃ A c, e = .returned (.tuple #[.agg #[.string ⟨#[]⟩, .int .i64 0, .int .i64 0, .int .i64 0, .slice A 0 c], .agg #[.int .i64 8, .int .i64 2]]) ∧ Below W.heap.size W w') := fun W hW => by
    have h := mParse_any ([10] : List UInt8) (by decide) W hW
    rw [kR3] at h
    exact h.mono (fun e w' ⟨A, c, h1, _, h3⟩ => ⟨A, c, h1, h3⟩)
  have Q1 := Lib.hid q1
  have SL0 := Lib.hid sl0
  clear q0 q1 sl0 hB3
  refine p1.mono ?_
  rintro e w4 ⟨A, c, rfl, hS4, hb4⟩
  have hB4 := Lib.hid (HB3.out.trans (hb4.mono HB3.out.size))
  have Q14 := Lib.hid (Q1.out.keep hb4)
  have SL4 := Lib.hid ((SL0.out.below hb4).more hb4.size)
  clear hb4 p1
  go_wp2_with fail
  have m5 := (Blk.new w4 28 #[.string ⟨#[109]⟩, .int .i64 1, .int .i64 0, .int .i64 0, .slice A 1 c]).keep ((Below.refl _ _).alloc (Nat.le_refl _) (.cells #[.int .i64 0, .int .i64 0] 38))
  have f5 := Blk.new (w4.alloc (.cells #[.string ⟨#[109]⟩, .int .i64 1, .int .i64 0, .int .i64 0, .slice A 1 c] 28)) 38 #[.int .i64 0, .int .i64 0]
  rw [World.size_alloc] at f5
  have b5 : Below w4.heap.size w4 ((w4.alloc (.cells #[.string ⟨#[109]⟩, .int .i64 1, .int .i64 0, .int .i64 0, .slice A 1 c] 28)).alloc (.cells #[.int .i64 0, .int .i64 0] 38)) := ((Below.refl _ _).alloc (Nat.le_refl _) _).alloc (by simp) _
  have z5 : ((w4.alloc (.cells #[.string ⟨#[109]⟩, .int .i64 1, .int .i64 0, .int .i64 0, .slice A 1 c] 28)).alloc (.cells #[.int .i64 0, .int .i64 0] 38)).heap.size = w4.heap.size + 2 := by simp
  generalize ((w4.alloc (.cells #[.string ⟨#[109]⟩, .int .i64 1, .int .i64 0, .int .i64 0, .slice A 1 c] 28)).alloc (.cells #[.int .i64 0, .int .i64 0] 38)) = W5 at m5 f5 b5 z5 ⊢
  have hB5 := Lib.hid (hB4.out.trans (b5.mono hB4.out.size))
  have Q15 := Lib.hid (Q14.out.keep b5)
  have SL5 := Lib.hid ((SL4.out.below b5).more b5.size)
  have SA5 := Lib.hid ((hS4.below b5).more b5.size)
  have M5 := Lib.hid m5
  have F5 := Lib.hid f5
  clear b5 hS4
  have t1 := mText_any kM A c [kX] W5 SA5.out (by simp) (by simp [kM, kX, maxLen]) (HG.out.keep hB5.out)
  rw [kTx, kE] at t1
  refine t1.mono ?_
  rintro e w6 ⟨rfl, hb6⟩
  have hB6 := Lib.hid (hB5.out.trans (hb6.mono hB5.out.size))
  have Q16 := Lib.hid (Q15.out.keep hb6)
  have SL6 := Lib.hid ((SL5.out.below hb6).more hb6.size)
  have SA6 := Lib.hid ((SA5.out.below hb6).more hb6.size)
  have M6 := Lib.hid (M5.out.keep hb6)
  have F6 := Lib.hid (F5.out.keep hb6)
  clear hb6 t1 m5 f5
  go_wp2_with fail
  refine (p2.out _ (HG.out.keep hB6.out)).mono ?_
  rintro e w7 ⟨A7, c7, rfl, hb7⟩
  have hB7 := Lib.hid (hB6.out.trans (hb7.mono hB6.out.size))
  have Q17 := Lib.hid (Q16.out.keep hb7)
  have SL7 := Lib.hid ((SL6.out.below hb7).more hb7.size)
  have SA7 := Lib.hid ((SA6.out.below hb7).more hb7.size)
  have M7 := Lib.hid (M6.out.keep hb7)
  have F7 := Lib.hid (F6.out.keep hb7)
  clear hb7
  go_wp2_with fail
  have m8 := (Blk.new w7 28 #[.string ⟨#[]⟩, .int .i64 0, .int .i64 0, .int .i64 0, .slice A7 0 c7]).keep ((Below.refl _ _).alloc (Nat.le_refl _) (.cells #[.int .i64 8, .int .i64 1] 38))
  have f8 := Blk.new (w7.alloc (.cells #[.string ⟨#[]⟩, .int .i64 0, .int .i64 0, .int .i64 0, .slice A7 0 c7] 28)) 38 #[.int .i64 8, .int .i64 1]
  rw [World.size_alloc] at f8
  have b8 : Below w7.heap.size w7 ((w7.alloc (.cells #[.string ⟨#[]⟩, .int .i64 0, .int .i64 0, .int .i64 0, .slice A7 0 c7] 28)).alloc (.cells #[.int .i64 8, .int .i64 1] 38)) := ((Below.refl _ _).alloc (Nat.le_refl _) _).alloc (by simp) _
  have z8 : ((w7.alloc (.cells #[.string ⟨#[]⟩, .int .i64 0, .int .i64 0, .int .i64 0, .slice A7 0 c7] 28)).alloc (.cells #[.int .i64 8, .int .i64 1] 38)).heap.size = w7.heap.size + 2 := by simp
  generalize ((w7.alloc (.cells #[.string ⟨#[]⟩, .int .i64 0, .int .i64 0, .int .i64 0, .slice A7 0 c7] 28)).alloc (.cells #[.int .i64 8, .int .i64 1] 38)) = W8 at m8 f8 b8 z8 ⊢
  have hB8 := Lib.hid (hB7.out.trans (b8.mono hB7.out.size))
  have Q18 := Lib.hid (Q17.out.keep b8)
  have SL8 := Lib.hid ((SL7.out.below b8).more b8.size)
  have SA8 := Lib.hid ((SA7.out.below b8).more b8.size)
  have M8 := Lib.hid (M7.out.keep b8)
  have F8 := Lib.hid (F7.out.keep b8)
  have G8 := Lib.hid f8
  clear b8 m8 f8
  refine (p3.out _ (HG.out.keep hB8.out)).mono ?_
  rintro e w9 ⟨A9, c9, rfl, hb9⟩
  have hB9 := Lib.hid (hB8.out.trans (hb9.mono hB8.out.size))
  have Q19 := Lib.hid (Q18.out.keep hb9)
  have SL9 := Lib.hid ((SL8.out.below hb9).more hb9.size)
  have SA9 := Lib.hid ((SA8.out.below hb9).more hb9.size)
  have M9 := Lib.hid (M8.out.keep hb9)
  have F9 := Lib.hid (F8.out.keep hb9)
  have G9 := Lib.hid (G8.out.keep hb9)
  clear hb9
  go_wp2_with fail
  -- REST2
  have m10 := (Blk.new w9 28 #[.string ⟨#[]⟩, .int .i64 0, .int .i64 0, .int .i64 0, .slice A9 0 c9]).keep ((Below.refl _ _).alloc (Nat.le_refl _) (.cells #[.int .i64 8, .int .i64 2] 38))
  have f10 := Blk.new (w9.alloc (.cells #[.string ⟨#[]⟩, .int .i64 0, .int .i64 0, .int .i64 0, .slice A9 0 c9] 28)) 38 #[.int .i64 8, .int .i64 2]
  rw [World.size_alloc] at f10
  have b10 : Below w9.heap.size w9 ((w9.alloc (.cells #[.string ⟨#[]⟩, .int .i64 0, .int .i64 0, .int .i64 0, .slice A9 0 c9] 28)).alloc (.cells #[.int .i64 8, .int .i64 2] 38)) := ((Below.refl _ _).alloc (Nat.le_refl _) _).alloc (by simp) _
  have z10 : ((w9.alloc (.cells #[.string ⟨#[]⟩, .int .i64 0, .int .i64 0, .int .i64 0, .slice A9 0 c9] 28)).alloc (.cells #[.int .i64 8, .int .i64 2] 38)).heap.size = w9.heap.size + 1 + 1 := by simp
  generalize ((w9.alloc (.cells #[.string ⟨#[]⟩, .int .i64 0, .int .i64 0, .int .i64 0, .slice A9 0 c9] 28)).alloc (.cells #[.int .i64 8, .int .i64 2] 38)) = W10 at m10 f10 b10 z10 ⊢
  have hB10 := Lib.hid (hB9.out.trans (b10.mono hB9.out.size))
  have Q110 := Lib.hid (Q19.out.keep b10)
  have SL10 := Lib.hid ((SL9.out.below b10).more b10.size)
  have SA10 := Lib.hid ((SA9.out.below b10).more b10.size)
  have M10 := Lib.hid (M9.out.keep b10)
  have F10 := Lib.hid (F9.out.keep b10)
  have G10 := Lib.hid (G9.out.keep b10)
  have H10 := Lib.hid f10
  clear b10 m10 f10
  have o10 := Blk.new W10 25 #[.string ⟨#[97, 46, 98]⟩, .int .i64 0, .int .i64 0, .int .i64 0, .string ⟨#[97, 46, 98, 47, 99]⟩, .int .i64 0, .int .i64 0, .int .i64 0]
  rw [z10] at o10
  have b11 : Below W10.heap.size W10 (W10.alloc (.cells #[.string ⟨#[97, 46, 98]⟩, .int .i64 0, .int .i64 0, .int .i64 0, .string ⟨#[97, 46, 98, 47, 99]⟩, .int .i64 0, .int .i64 0, .int .i64 0] 25)) := (Below.refl _ _).alloc (Nat.le_refl _) _
  have z11 : (W10.alloc (.cells #[.string ⟨#[97, 46, 98]⟩, .int .i64 0, .int .i64 0, .int .i64 0, .string ⟨#[97, 46, 98, 47, 99]⟩, .int .i64 0, .int .i64 0, .int .i64 0] 25)).heap.size = W10.heap.size + 1 := by simp
  generalize (W10.alloc (.cells #[.string ⟨#[97, 46, 98]⟩, .int .i64 0, .int .i64 0, .int .i64 0, .string ⟨#[97, 46, 98, 47, 99]⟩, .int .i64 0, .int .i64 0, .int .i64 0] 25)) = W11 at o10 b11 z11 ⊢
  have hB11 := Lib.hid (hB10.out.trans (b11.mono hB10.out.size))
  have Q111 := Lib.hid (Q110.out.keep b11)
  have SL11 := Lib.hid ((SL10.out.below b11).more b11.size)
  have SA11 := Lib.hid ((SA10.out.below b11).more b11.size)
  have M11 := Lib.hid (M10.out.keep b11)
  have F11 := Lib.hid (F10.out.keep b11)
  have G11 := Lib.hid (G10.out.keep b11)
  have H11 := Lib.hid (H10.out.keep b11)
  have so := slM2 W11 W11.heap.size (w9.heap.size + 1 + 1) _ [97, 46, 98] [97, 46, 98, 47, 99] o10 (by omega)
  have o1 := Owner_any (some ⟨w9.heap.size + 1 + 1, 0, none⟩) 2 [([97, 46, 98], 0, 0, 0), ([97, 46, 98, 47, 99], 0, 0, 0)] [97, 46, 98, 47, 99, 47, 100] W11 so (by simp) (by simp) (by simp)
  rw [show ([([97, 46, 98], 0, 0, 0), ([97, 46, 98, 47, 99], 0, 0, 0)] : List Mod).length = 2 from rfl, kO] at o1
  clear b11 o10 so
  refine o1.mono ?_
  rintro e w12 ⟨rfl, hb12⟩
  have hB12 := Lib.hid (hB11.out.trans (hb12.mono hB11.out.size))
  have Q112 := Lib.hid (Q111.out.keep hb12)
  have SL12 := Lib.hid ((SL11.out.below hb12).more hb12.size)
  have SA12 := Lib.hid ((SA11.out.below hb12).more hb12.size)
  have M12 := Lib.hid (M11.out.keep hb12)
  have F12 := Lib.hid (F11.out.keep hb12)
  have G12 := Lib.hid (G11.out.keep hb12)
  have H12 := Lib.hid (H11.out.keep hb12)
  clear hb12 o1
  have i0 : w12.cell? ⟨w4.heap.size, 0, none⟩ = some (.string ⟨#[109]⟩) := M12.out.cell 0
  have i1 : w12.cell? ⟨w4.heap.size, 1, none⟩ = some (.int .i64 1) := M12.out.cell 1
  have i2 : w12.cell? ⟨w4.heap.size, 2, none⟩ = some (.int .i64 0) := M12.out.cell 2
  have i3 : w12.cell? ⟨w4.heap.size, 3, none⟩ = some (.int .i64 0) := M12.out.cell 3
  have i4 : w12.cell? ⟨w4.heap.size, 4, none⟩ = some (.slice A 1 c) := M12.out.cell 4
  have j0 : w12.cell? ⟨w2.heap.size + 1, 0, none⟩ = some (.string ⟨#[109]⟩) := Q112.out.cell 0
  have j1 : w12.cell? ⟨w2.heap.size + 1, 1, none⟩ = some (.int .i64 1) := Q112.out.cell 1
  have j2 : w12.cell? ⟨w2.heap.size + 1, 2, none⟩ = some (.int .i64 0) := Q112.out.cell 2
  have j3 : w12.cell? ⟨w2.heap.size + 1, 3, none⟩ = some (.int .i64 0) := Q112.out.cell 3
  have j4 : w12.cell? ⟨w2.heap.size + 1, 4, none⟩ = some (.slice (some ⟨w2.heap.size, 0, none⟩) 1 1) := Q112.out.cell 4
  have s1 := Same_any kM A c [kX] kM (some ⟨w2.heap.size, 0, none⟩) 1 [kX] w12 SA12.out SL12.out (by simp) (by simp)
  rw [decide_eq_true (show kM = kM ∧ [kX] = [kX] from ⟨rfl, rfl⟩)] at s1
  have S1 := Lib.hid s1
  clear s1
  go_wp2_with fail
  refine S1.out.mono ?_
  rintro e w13 ⟨rfl, hb13⟩
  have hB13 := Lib.hid (hB12.out.trans (hb13.mono hB12.out.size))
  have k0 : w13.cell? ⟨w4.heap.size + 1, 0, none⟩ = some (.int .i64 0) := (F12.out.keep hb13).cell 0
  have l0 : w13.cell? ⟨w7.heap.size + 1, 0, none⟩ = some (.int .i64 8) := (G12.out.keep hb13).cell 0
  have l1 : w13.cell? ⟨w7.heap.size + 1, 1, none⟩ = some (.int .i64 1) := (G12.out.keep hb13).cell 1
  have n0 : w13.cell? ⟨w9.heap.size + 1, 0, none⟩ = some (.int .i64 8) := (H12.out.keep hb13).cell 0
  have n1 : w13.cell? ⟨w9.heap.size + 1, 1, none⟩ = some (.int .i64 2) := (H12.out.keep hb13).cell 1
  clear hb13 i0 i1 i2 i3 i4 j0 j1 j2 j3 j4
  have heq1 := fun W => eq_fault 8 1 8 1 W
  have heq2 := fun W => eq_fault 8 2 8 2 W
  rw [decide_eq_true rfl] at heq1 heq2
  have r1 := Lib.hid (fun W hW => Path_any [97, 46, 98, 47, 99] W (by simp [maxLen]) hW)
  have r2 := Lib.hid (fun W hW => Path_any [97, 47, 47, 98] W (by simp [maxLen]) hW)
  have r3 := Lib.hid (fun W hW => Path_any [97, 47, 49] W (by simp [maxLen]) hW)
  rw [kQ1] at r1
  rw [kQ2] at r2
  rw [kQ3] at r3
  have hks : (kS == [109, 111, 100, 117, 108, 101, 32, 109, 32, 118, 49, 46, 48, 46, 48, 10, 114, 101, 113, 117, 105, 114, 101, 32, 97, 46, 98, 47, 99, 32, 118, 48, 46, 50, 46, 49, 10]) = true := by rw [kS]; rfl
  go_wp2_with fail
  refine (r1.out _ (HG.out.keep hB13.out)).mono ?_
  rintro e w14 ⟨rfl, hb14⟩
  have hB14 := Lib.hid (hB13.out.trans (hb14.mono hB13.out.size))
  go_wp2_with fail
  refine (r2.out _ (HG.out.keep hB14.out)).mono ?_
  rintro e w15 ⟨rfl, hb15⟩
  have hB15 := Lib.hid (hB14.out.trans (hb15.mono hB14.out.size))
  go_wp2_with fail
  refine (r3.out _ (HG.out.keep hB15.out)).mono ?_
  rintro e w16 ⟨rfl, hb16⟩
  go_wp2
  go_ret
  exact ⟨rfl, hB15.out.trans (hb16.mono hB15.out.size)⟩
end Go.Proofs.YtbbdoibmcmkmnaaGreatDoor
