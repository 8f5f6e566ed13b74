/- Walk: the law on parsing every text. -/
import Derived.Test.YtbbdoibmcmkmnaaGreatDoorRP
import Derived.Test.YtbbdoibmcmkmnaaGreatDoorAL
namespace Go.Proofs.YtbbdoibmcmkmnaaGreatDoor
open Go.RowKit Go.Sort

/-- the cells of a manifest's box -/
def BoxD (W : World) (g : Nat) (m : Mod) (A : Option Addr) (n c : Nat) : Prop :=
  W.cell? ⟨g, 0, none⟩ = some (.string ⟨m.1.toArray⟩) ∧ W.cell? ⟨g, 1, none⟩ = some (.int .i64 m.2.1) ∧ W.cell? ⟨g, 2, none⟩ = some (.int .i64 m.2.2.1) ∧ W.cell? ⟨g, 3, none⟩ = some (.int .i64 m.2.2.2) ∧ W.cell? ⟨g, 4, none⟩ = some (.slice A n c)
theorem boxD {W : World} {g : Nat} {m : Mod} {A : Option Addr} {n c : Nat} (h : Blk W g 28 (manB m A n c)) : BoxD W g m A n c :=
  ⟨h.cell 0, h.cell 1, h.cell 2, h.cell 3, h.cell 4⟩
theorem runL_len : ∀ (L : List (List (List UInt8))) (a : Nat) (l : List Mod), (runL L a l).1.length ≤ l.length + L.length
  | [], a, l => by simp [runL]
  | ws :: r, a, l => by
    unfold runL
    cases hs : stepL l ws with
    | none => simp
    | some l' =>
      have ih := runL_len r (a + 1) l'
      have h1 : l'.length ≤ l.length + 1 := by
        unfold stepL at hs
        split at hs
        · injection hs with hs; subst hs; omega
        · cases hw : wordM (firstW l) ws with
          | none => rw [hw] at hs; cases hs
          | some m =>
            rw [hw] at hs
            injection hs with hs
            subst hs
            simp
      simp only [List.length_cons] at ih ⊢
      omega
theorem fin_len (n : Nat) (p : List Mod × Nat) : (fin n p).1.2.length ≤ p.1.length := by
  unfold fin
  split
  · simp
  · simp
  · split
    · simp only [msort_len, List.length_cons]; omega
    · simp
theorem mparse_len (s : List UInt8) : (mparse s).1.2.length ≤ s.length := by
  unfold mparse
  split
  · simp
  · have h1 := fin_len (linesP s).length (runL (allW s) 0 [])
    have h2 := runL_len (allW s) 0 []
    have h3 := linesP_len s.length s (Nat.le_refl _)
    have h4 : (allW s).length = (linesP s).length := by simp [allW]
    simp only [List.length_nil] at h2
    omega

set_option maxRecDepth 100000 in
set_option maxHeartbeats 4000000 in
theorem parse_walk (s : List UInt8) (w : World) (hG : Glob w) (hs : s.length ≤ 1048576) :
    Calls Tryz.prog 5 #[.string ⟨s.toArray⟩] w fun e w' => e = .returned (.bool true) ∧ Below w.heap.size w w' := by
  have HG := Lib.hid hG
  have ca := Lib.hid (fun W (hW : Below w.heap.size w W) => alive_any W (HG.out.keep hW))
  clear hG
  by_cases h4 : 4000 < s.length
  · have d0 : (4000 : Int) < (s.length : Int) := by omega
    clear h4
    go_enter Tryz.func5, Tryz.ntmps5
    go_wp2_with fail
    refine (ca.out _ (Below.refl _ _)).mono ?_
    rintro e w1 ⟨rfl, hb⟩
    go_wp2
    go_ret
    exact ⟨rfl, hb⟩
  have d0 : ¬ (4000 : Int) < (s.length : Int) := by omega
  have cP0 := fun W (hW : Below w.heap.size w W) => mParse_any s (by omega) W (HG.out.keep hW)
  have cR0 := fun W => refParse_any s W (by omega)
  have hlen := mparse_len s
  unfold RetMan at cP0 cR0
  generalize mparse s = r at cP0 cR0 hlen
  obtain ⟨⟨m, l⟩, q, n⟩ := r
  simp only at cP0 cR0 hlen
  have cP := Lib.hid cP0
  have cR := Lib.hid cR0
  have cS0 := fun A c A' c' W (h1 : Sl W W.heap.size 4 encM A l) (h2 : Sl W W.heap.size 4 encM A' l) => Same_any m A c l m A' c' l W h1 h2 (by omega) (by omega)
  simp only [and_self, decide_true] at cS0
  have cS := Lib.hid cS0
  have heq := fun W => eq_fault q (n : Int) q (n : Int) W
  rw [decide_eq_true rfl] at heq
  clear cP0 cR0 cS0 h4
  go_enter Tryz.func5, Tryz.ntmps5
  go_wp2_with fail
  refine (cP.out _ (Below.refl _ _)).mono ?_
  rintro e w1 ⟨A1, c1, rfl, hS1, hb1⟩
  have HB1 := Lib.hid hb1
  have S1 := Lib.hid hS1
  clear hS1 hb1 cP
  go_wp2_with fail
  have m2 := (Blk.new w1 28 (manB m A1 l.length c1)).keep ((Below.refl _ _).alloc (Nat.le_refl _) (.cells #[.int .i64 q, .int .i64 (n : Nat)] 38))
  have f2 := Blk.new (w1.alloc (.cells (manB m A1 l.length c1) 28)) 38 #[.int .i64 q, .int .i64 (n : Nat)]
  rw [World.size_alloc] at f2
  have b2 : Below w1.heap.size w1 ((w1.alloc (.cells (manB m A1 l.length c1) 28)).alloc (.cells #[.int .i64 q, .int .i64 (n : Nat)] 38)) := ((Below.refl _ _).alloc (Nat.le_refl _) _).alloc (by simp) _
  have hmA : manB m A1 l.length c1 = #[.string ⟨m.1.toArray⟩, .int .i64 m.2.1, .int .i64 m.2.2.1, .int .i64 m.2.2.2, .slice A1 l.length c1] := rfl
  rw [hmA] at m2 f2 b2
  generalize ((w1.alloc (.cells #[.string ⟨m.1.toArray⟩, .int .i64 m.2.1, .int .i64 m.2.2.1, .int .i64 m.2.2.2, .slice A1 l.length c1] 28)).alloc (.cells #[.int .i64 q, .int .i64 (n : Nat)] 38)) = w2 at m2 f2 b2 ⊢
  have HB2 := Lib.hid (HB1.out.trans (b2.mono HB1.out.size))
  have S2 := Lib.hid ((S1.out.below b2).more b2.size)
  clear b2 hmA
  refine (cR.out w2).mono ?_
  rintro e w3 ⟨A3, c3, rfl, hS3, hb3⟩
  have HB3 := Lib.hid (HB2.out.trans (hb3.mono HB2.out.size))
  have M3 := Lib.hid (m2.keep hb3)
  have F3 := Lib.hid (f2.keep hb3)
  have S3 := Lib.hid ((S2.out.below hb3).more hb3.size)
  have R3 := Lib.hid hS3
  clear hS3 hb3 m2 f2 cR
  go_upto_region 5 with fail
  have m4 := (Blk.new w3 28 (manB m A3 l.length c3)).keep ((Below.refl _ _).alloc (Nat.le_refl _) (.cells #[.int .i64 q, .int .i64 (n : Nat)] 38))
  have f4 := Blk.new (w3.alloc (.cells (manB m A3 l.length c3) 28)) 38 #[.int .i64 q, .int .i64 (n : Nat)]
  rw [World.size_alloc] at f4
  have b4 : Below w3.heap.size w3 ((w3.alloc (.cells (manB m A3 l.length c3) 28)).alloc (.cells #[.int .i64 q, .int .i64 (n : Nat)] 38)) := ((Below.refl _ _).alloc (Nat.le_refl _) _).alloc (by simp) _
  have hmA : manB m A3 l.length c3 = #[.string ⟨m.1.toArray⟩, .int .i64 m.2.1, .int .i64 m.2.2.1, .int .i64 m.2.2.2, .slice A3 l.length c3] := rfl
  rw [hmA] at m4 f4 b4
  generalize ((w3.alloc (.cells #[.string ⟨m.1.toArray⟩, .int .i64 m.2.1, .int .i64 m.2.2.1, .int .i64 m.2.2.2, .slice A3 l.length c3] 28)).alloc (.cells #[.int .i64 q, .int .i64 (n : Nat)] 38)) = w4 at m4 f4 b4 ⊢
  have HB4 := Lib.hid (HB3.out.trans (b4.mono HB3.out.size))
  have S4 := Lib.hid ((S3.out.below b4).more b4.size)
  have R4 := Lib.hid ((R3.out.below b4).more b4.size)
  obtain ⟨y0, y1, y2, y3, y4⟩ := boxD (M3.out.keep b4)
  obtain ⟨z0, z1, z2, z3, z4⟩ := boxD (m := m) (A := A3) (n := l.length) (c := c3) m4
  have F4 := Lib.hid (F3.out.keep b4)
  have G4 := Lib.hid f4
  clear b4 hmA m4 f4
  go_wp2_with (first
    | (go_at_call 22; refine (cS.out A1 c1 A3 c3 _ S4.out R4.out).mono ?_; rintro e w5 ⟨rfl, hb5⟩; have HB5 := Lib.hid (HB4.out.trans (hb5.mono HB4.out.size)); have k0 := (F4.out.keep hb5).cell 0; have k1 := (F4.out.keep hb5).cell 1; have j0 := (G4.out.keep hb5).cell 0; have j1 := (G4.out.keep hb5).cell 1; simp at k0 k1 j0 j1; clear y0 y1 y2 y3 y4 z0 z1 z2 z3 z4 hb5)
    | (go_at_call 13; refine (ca.out _ HB5.out).mono ?_; rintro e w6 ⟨rfl, hb6⟩))
  go_ret
  exact ⟨by first | rfl | simp, HB5.out.trans (hb6.mono HB5.out.size)⟩
end Go.Proofs.YtbbdoibmcmkmnaaGreatDoor
