/- Walk: the law on the order of modules. -/
import Derived.Test.YtbbdoibmcmkmnaaGreatDoorLP
namespace Go.Proofs.YtbbdoibmcmkmnaaGreatDoor
open Go.RowKit Go.Sort

/-- three boxes hold three modules -/
def Box3 (n : Nat) (a b c : Mod) (W : World) : Prop :=
  Blk W n 25 #[.string ⟨a.1.toArray⟩, .int .i64 a.2.1, .int .i64 a.2.2.1, .int .i64 a.2.2.2] ∧
  Blk W (n + 1) 25 #[.string ⟨b.1.toArray⟩, .int .i64 b.2.1, .int .i64 b.2.2.1, .int .i64 b.2.2.2] ∧
  Blk W (n + 1 + 1) 25 #[.string ⟨c.1.toArray⟩, .int .i64 c.2.1, .int .i64 c.2.2.1, .int .i64 c.2.2.2]
theorem Box3.keep {n : Nat} {a b c : Mod} {W W' : World} (h : Box3 n a b c W) (k : Below W.heap.size W W') : Box3 n a b c W' :=
  ⟨h.1.keep k, h.2.1.keep k, h.2.2.keep k⟩
theorem Box3.cells {n : Nat} {a b c : Mod} {W : World} (h : Box3 n a b c W) :
    (W.cell? ⟨n, 0, none⟩ = some (.string ⟨a.1.toArray⟩) ∧ W.cell? ⟨n, 1, none⟩ = some (.int .i64 a.2.1) ∧ W.cell? ⟨n, 2, none⟩ = some (.int .i64 a.2.2.1) ∧ W.cell? ⟨n, 3, none⟩ = some (.int .i64 a.2.2.2)) ∧
    (W.cell? ⟨n + 1, 0, none⟩ = some (.string ⟨b.1.toArray⟩) ∧ W.cell? ⟨n + 1, 1, none⟩ = some (.int .i64 b.2.1) ∧ W.cell? ⟨n + 1, 2, none⟩ = some (.int .i64 b.2.2.1) ∧ W.cell? ⟨n + 1, 3, none⟩ = some (.int .i64 b.2.2.2)) ∧
    (W.cell? ⟨n + 1 + 1, 0, none⟩ = some (.string ⟨c.1.toArray⟩) ∧ W.cell? ⟨n + 1 + 1, 1, none⟩ = some (.int .i64 c.2.1) ∧ W.cell? ⟨n + 1 + 1, 2, none⟩ = some (.int .i64 c.2.2.1) ∧ W.cell? ⟨n + 1 + 1, 3, none⟩ = some (.int .i64 c.2.2.2)) :=
  ⟨⟨h.1.cell 0, h.1.cell 1, h.1.cell 2, h.1.cell 3⟩, ⟨h.2.1.cell 0, h.2.1.cell 1, h.2.1.cell 2, h.2.1.cell 3⟩, ⟨h.2.2.cell 0, h.2.2.cell 1, h.2.2.cell 2, h.2.2.cell 3⟩⟩
theorem box3 (w : World) (a b c : Mod) (o1 o2 o3 : Array Value) (h1 : o1 = #[.string ⟨a.1.toArray⟩, .int .i64 a.2.1, .int .i64 a.2.2.1, .int .i64 a.2.2.2]) (h2 : o2 = #[.string ⟨b.1.toArray⟩, .int .i64 b.2.1, .int .i64 b.2.2.1, .int .i64 b.2.2.2]) (h3 : o3 = #[.string ⟨c.1.toArray⟩, .int .i64 c.2.1, .int .i64 c.2.2.1, .int .i64 c.2.2.2]) :
    Box3 w.heap.size a b c (((w.alloc (.cells o1 25)).alloc (.cells o2 25)).alloc (.cells o3 25)) := by
  subst h1 h2 h3
  have A1 := fun (W : World) o => (Below.refl W.heap.size W).alloc (Nat.le_refl _) o
  refine ⟨((Blk.new w _ _).keep (A1 _ _)).keep (A1 _ _), ?_, ?_⟩
  · have h := (Blk.new (w.alloc (.cells #[.string ⟨a.1.toArray⟩, .int .i64 a.2.1, .int .i64 a.2.2.1, .int .i64 a.2.2.2] 25)) 25 #[.string ⟨b.1.toArray⟩, .int .i64 b.2.1, .int .i64 b.2.2.1, .int .i64 b.2.2.2]).keep (A1 _ (.cells #[.string ⟨c.1.toArray⟩, .int .i64 c.2.1, .int .i64 c.2.2.1, .int .i64 c.2.2.2] 25))
    simpa using h
  · have h := Blk.new ((w.alloc (.cells #[.string ⟨a.1.toArray⟩, .int .i64 a.2.1, .int .i64 a.2.2.1, .int .i64 a.2.2.2] 25)).alloc (.cells #[.string ⟨b.1.toArray⟩, .int .i64 b.2.1, .int .i64 b.2.2.1, .int .i64 b.2.2.2] 25)) 25 #[.string ⟨c.1.toArray⟩, .int .i64 c.2.1, .int .i64 c.2.2.1, .int .i64 c.2.2.2]
    simpa using h
theorem step3 {n : Nat} {w W W' : World} {a b c : Mod} (k : Below W.heap.size W W') (h : Below w.heap.size w W ∧ Box3 n a b c W) : Below w.heap.size w W' ∧ Box3 n a b c W' := ⟨h.1.trans (k.mono h.1.size), h.2.keep k⟩

theorem keep0 {n : Nat} {w W : World} {a b c : Mod} (h : Below w.heap.size w W ∧ Box3 n a b c W) : (Below w.heap.size w W.drew ∧ Box3 n a b c W.drew) ∧
    (W.drew.cell? ⟨n, 0, none⟩ = some (.string ⟨a.1.toArray⟩) ∧ W.drew.cell? ⟨n, 1, none⟩ = some (.int .i64 a.2.1) ∧ W.drew.cell? ⟨n, 2, none⟩ = some (.int .i64 a.2.2.1) ∧ W.drew.cell? ⟨n, 3, none⟩ = some (.int .i64 a.2.2.2)) ∧
    (W.drew.cell? ⟨n + 1, 0, none⟩ = some (.string ⟨b.1.toArray⟩) ∧ W.drew.cell? ⟨n + 1, 1, none⟩ = some (.int .i64 b.2.1) ∧ W.drew.cell? ⟨n + 1, 2, none⟩ = some (.int .i64 b.2.2.1) ∧ W.drew.cell? ⟨n + 1, 3, none⟩ = some (.int .i64 b.2.2.2)) ∧
    (W.drew.cell? ⟨n + 1 + 1, 0, none⟩ = some (.string ⟨c.1.toArray⟩) ∧ W.drew.cell? ⟨n + 1 + 1, 1, none⟩ = some (.int .i64 c.2.1) ∧ W.drew.cell? ⟨n + 1 + 1, 2, none⟩ = some (.int .i64 c.2.2.1) ∧ W.drew.cell? ⟨n + 1 + 1, 3, none⟩ = some (.int .i64 c.2.2.2)) :=
  have hD : Box3 n a b c W.drew := h.2
  ⟨⟨h.1.drew, hD⟩, hD.cells⟩
theorem keep1 {n : Nat} {w W W' : World} {a b c : Mod} (k : Below W.heap.size W W') (h : Below w.heap.size w W ∧ Box3 n a b c W) : (Below w.heap.size w W' ∧ Box3 n a b c W') ∧
    (W'.cell? ⟨n, 0, none⟩ = some (.string ⟨a.1.toArray⟩) ∧ W'.cell? ⟨n, 1, none⟩ = some (.int .i64 a.2.1) ∧ W'.cell? ⟨n, 2, none⟩ = some (.int .i64 a.2.2.1) ∧ W'.cell? ⟨n, 3, none⟩ = some (.int .i64 a.2.2.2)) ∧
    (W'.cell? ⟨n + 1, 0, none⟩ = some (.string ⟨b.1.toArray⟩) ∧ W'.cell? ⟨n + 1, 1, none⟩ = some (.int .i64 b.2.1) ∧ W'.cell? ⟨n + 1, 2, none⟩ = some (.int .i64 b.2.2.1) ∧ W'.cell? ⟨n + 1, 3, none⟩ = some (.int .i64 b.2.2.2)) ∧
    (W'.cell? ⟨n + 1 + 1, 0, none⟩ = some (.string ⟨c.1.toArray⟩) ∧ W'.cell? ⟨n + 1 + 1, 1, none⟩ = some (.int .i64 c.2.1) ∧ W'.cell? ⟨n + 1 + 1, 2, none⟩ = some (.int .i64 c.2.2.1) ∧ W'.cell? ⟨n + 1 + 1, 3, none⟩ = some (.int .i64 c.2.2.2)) :=
  have hD := h.2.keep k
  ⟨⟨h.1.trans (k.mono h.1.size), hD⟩, hD.cells⟩

set_option maxRecDepth 100000 in
set_option maxHeartbeats 4000000 in
theorem order_walk (a b c : Mod) (w : World) (hG : Glob w) :
    Calls Tryz.prog 8 #[.agg #[.string ⟨a.1.toArray⟩, .int .i64 a.2.1, .int .i64 a.2.2.1, .int .i64 a.2.2.2], .agg #[.string ⟨b.1.toArray⟩, .int .i64 b.2.1, .int .i64 b.2.2.1, .int .i64 b.2.2.2], .agg #[.string ⟨c.1.toArray⟩, .int .i64 c.2.1, .int .i64 c.2.2.1, .int .i64 c.2.2.2]] w fun e w' => e = .returned (.bool true) ∧ Below w.heap.size w w' := by
  have HG := Lib.hid hG
  have ca := Lib.hid (fun W (hW : Below w.heap.size w W) => alive_any W (HG.out.keep hW))
  clear hG
  have hm := fun (x y : Mod) W => (mCompare_any x.1 y.1 x.2.1 x.2.2.1 x.2.2.2 y.2.1 y.2.2.1 y.2.2.2 W).mono (fun e w' h => (⟨h.1, h.2.toBelow⟩ : e = .returned (.int .i64 (mcmp x y)) ∧ Below W.heap.size W w'))
  have cab := Lib.hid (hm a b)
  have cbc := Lib.hid (hm b c)
  have cac := Lib.hid (hm a c)
  have cba := Lib.hid (hm b a)
  have crf := Lib.hid (fun W => (mrefCompare_any a.1 b.1 a.2.1 a.2.2.1 a.2.2.2 b.2.1 b.2.2.1 b.2.2.2 W).mono (fun e w' h => (⟨h.1, h.2⟩ : e = .returned (.int .i64 (mcmp a b)) ∧ Below W.heap.size W w')))
  have heq := fun W => eq_mod a.1 b.1 a.2.1 a.2.2.1 a.2.2.2 b.2.1 b.2.2.1 b.2.2.2 W
  have hq0 : decide ((a.1, a.2.1, a.2.2.1, a.2.2.2) = (b.1, b.2.1, b.2.2.1, b.2.2.2)) = decide (mcmp a b = 0) := decide_eq_decide.2 ((mcmp_eq a b).symm)
  have hanti := mcmp_anti a b
  have hr1 := mcmp_range a b
  have hr2 := mcmp_range b c
  have hr3 := mcmp_range a c
  have hlaw := mcmp_law a b c
  have hb3 := box3 w a b c _ _ _ rfl rfl rfl
  have hB3 : Below w.heap.size w (((w.alloc (.cells #[.string ⟨a.1.toArray⟩, .int .i64 a.2.1, .int .i64 a.2.2.1, .int .i64 a.2.2.2] 25)).alloc (.cells #[.string ⟨b.1.toArray⟩, .int .i64 b.2.1, .int .i64 b.2.2.1, .int .i64 b.2.2.2] 25)).alloc (.cells #[.string ⟨c.1.toArray⟩, .int .i64 c.2.1, .int .i64 c.2.2.1, .int .i64 c.2.2.2] 25)) :=
    (((Below.refl _ _).alloc (Nat.le_refl _) _).alloc (by simp) _).alloc (by simp; omega) _
  have hqq : mcmp b a = - mcmp a b := mcmp_anti b a
  rw [hqq] at cba
  rw [hq0] at heq
  clear hm hq0 hanti hqq
  generalize mcmp a b = X at *
  generalize mcmp b c = Y at *
  generalize mcmp a c = Z at *
  have HB3 := Lib.hid (And.intro hB3 hb3)
  have HL := Lib.hid (And.intro hr1 (And.intro hr2 (And.intro hr3 hlaw)))
  clear hb3 hB3 hr1 hr2 hr3 hlaw
  go_enter Tryz.func8, Tryz.ntmps8
  go_upto_region 1 with fail
  have hs1 := HB3.out
  generalize (((w.alloc (.cells #[.string ⟨a.1.toArray⟩, .int .i64 a.2.1, .int .i64 a.2.2.1, .int .i64 a.2.2.2] 25)).alloc (.cells #[.string ⟨b.1.toArray⟩, .int .i64 b.2.1, .int .i64 b.2.2.1, .int .i64 b.2.2.2] 25)).alloc (.cells #[.string ⟨c.1.toArray⟩, .int .i64 c.2.1, .int .i64 c.2.2.1, .int .i64 c.2.2.2] 25)) = w3 at *
  go_region_held3 (fun W => (Below w.heap.size w W ∧ Box3 w.heap.size a b c W) ∧ ((W.cell? ⟨w.heap.size, 0, none⟩ = some (.string ⟨a.1.toArray⟩) ∧ W.cell? ⟨w.heap.size, 1, none⟩ = some (.int .i64 a.2.1) ∧ W.cell? ⟨w.heap.size, 2, none⟩ = some (.int .i64 a.2.2.1) ∧ W.cell? ⟨w.heap.size, 3, none⟩ = some (.int .i64 a.2.2.2)) ∧ (W.cell? ⟨w.heap.size + 1, 0, none⟩ = some (.string ⟨b.1.toArray⟩) ∧ W.cell? ⟨w.heap.size + 1, 1, none⟩ = some (.int .i64 b.2.1) ∧ W.cell? ⟨w.heap.size + 1, 2, none⟩ = some (.int .i64 b.2.2.1) ∧ W.cell? ⟨w.heap.size + 1, 3, none⟩ = some (.int .i64 b.2.2.2)) ∧ (W.cell? ⟨w.heap.size + 1 + 1, 0, none⟩ = some (.string ⟨c.1.toArray⟩) ∧ W.cell? ⟨w.heap.size + 1 + 1, 1, none⟩ = some (.int .i64 c.2.1) ∧ W.cell? ⟨w.heap.size + 1 + 1, 2, none⟩ = some (.int .i64 c.2.2.1) ∧ W.cell? ⟨w.heap.size + 1 + 1, 3, none⟩ = some (.int .i64 c.2.2.2))))
    (first | exact keep0 (by assumption) | exact keep1 (by assumption) (And.left (by assumption)))
    (first | (go_at_call 23; with_reducible refine (cab.out _).mono ?_; rintro e w2 ⟨rfl, hb2⟩) | (go_at_call 23; with_reducible refine (cbc.out _).mono ?_; rintro e w2 ⟨rfl, hb2⟩) | (go_at_call 23; with_reducible refine (cac.out _).mono ?_; rintro e w2 ⟨rfl, hb2⟩))
  rename_i hH
  obtain ⟨hS, ⟨u0, u1, u2, u3⟩, ⟨v0, v1, v2, v3⟩, -⟩ := hH
  have HS := Lib.hid hS
  obtain ⟨hr1, hr2, hr3, hlaw⟩ := HL.out
  clear HL hs1 HB3 hS
  have HR := Lib.hid (And.intro hr2 (And.intro hr3 hlaw))
  clear hr2 hr3 hlaw
  rcases hr1 with rfl | rfl | rfl
  all_goals
    go_wp2_with fail
    refine (crf.out _).mono ?_
    rintro e w5 ⟨rfl, hb5⟩
    have hS5 := step3 hb5 HS.out
    have HS5 := Lib.hid hS5
    obtain ⟨⟨p0, p1, p2, p3⟩, ⟨q0, q1, q2, q3⟩, -⟩ := hS5.2.cells
    clear hS5 hb5 u0 u1 u2 u3 v0 v1 v2 v3
    go_wp2_with fail
    refine (cba.out _).mono ?_
    rintro e w6 ⟨rfl, hb6⟩
    have hS6 := step3 hb6 HS5.out
    have HS6 := Lib.hid hS6
    obtain ⟨⟨u0, u1, u2, u3⟩, ⟨v0, v1, v2, v3⟩, -⟩ := hS6.2.cells
    clear hS6 hb6 p0 p1 p2 p3 q0 q1 q2 q3
    go_upto_region 4 with fail
    have cl := Lib.hid (ca.out _ HS6.out.1)
    obtain ⟨hr2, hr3, hlaw⟩ := HR.out
    clear u0 u1 u2 u3 v0 v1 v2 v3 cab cba cbc cac crf heq HR HS HS5
    rcases hr2 with rfl | rfl | rfl <;> rcases hr3 with rfl | rfl | rfl
    all_goals first
    | (exfalso; revert hlaw; decide)
    | (clear hlaw
       go_wp2_with fail
       refine cl.out.mono ?_
       rintro e w7 ⟨rfl, hb7⟩
       go_wp2
       go_ret
       exact ⟨by first | rfl | simp, HS6.out.1.trans (hb7.mono HS6.out.1.size)⟩)
end Go.Proofs.YtbbdoibmcmkmnaaGreatDoor
