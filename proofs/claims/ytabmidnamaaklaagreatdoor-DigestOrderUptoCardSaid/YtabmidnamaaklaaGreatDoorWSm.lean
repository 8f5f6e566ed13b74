/- Walks: small releases; lists of texts compared. -/
import Derived.Test.YtabmidnamaaklaaGreatDoorWX
namespace Go.Proofs.YtabmidnamaaklaaGreatDoor
open Go.RowKit Go.Sort

def smallS (x : Src2) : Bool := decide (x.1.length ≤ 200) && decide (x.2.length ≤ 1000)
def smallR (r : Rel) : Bool := r.2.2.all smallS && (decide (r.2.2.length ≤ 8) && decide (r.2.1.length ≤ 20))
theorem all_take_next (s : List Src2) (k : Nat) (h : k < s.length) : (s.take (k + 1)).all smallS = ((s.take k).all smallS && smallS s[k]) := by
  rw [List.take_succ_eq_append_getElem h, List.all_append]
  simp
set_option maxRecDepth 100000 in
set_option maxHeartbeats 4000000 in
theorem small_any (r : RelA) (w : World) (hok : RelOk w r) :
    Calls Tryz.prog 18 #[.agg #[.string ⟨r.m.1.toArray⟩, .int .i64 r.m.2.1, .int .i64 r.m.2.2.1, .int .i64 r.m.2.2.2, .slice r.A r.l.length r.c, .slice r.A' r.s.length r.c']] w fun e w' => e = .returned (.bool (smallR r.rel)) ∧ Below w.heap.size w w' := by
  obtain ⟨m, A, c, l, A', c', s⟩ := r
  obtain ⟨_, hS, hl, hsl, _, hsx⟩ := hok
  simp only at hS hl hsl hsx
  have hB0 : Below w.heap.size w (w.alloc (.cells #[.string ⟨m.1.toArray⟩, .int .i64 m.2.1, .int .i64 m.2.2.1, .int .i64 m.2.2.2, .slice A l.length c, .slice A' s.length c'] 40)) := (Below.refl _ _).alloc (Nat.le_refl _) _
  have hR := Lib.hid (show smallR (RelA.rel ⟨m, A, c, l, A', c', s⟩) = (s.all smallS && (decide (s.length ≤ 8) && decide (l.length ≤ 20))) from rfl)
  generalize smallR (RelA.rel ⟨m, A, c, l, A', c', s⟩) = R at hR ⊢
  have Q0 := Lib.hid (Blk.new w 40 #[.string ⟨m.1.toArray⟩, .int .i64 m.2.1, .int .i64 m.2.2.1, .int .i64 m.2.2.2, .slice A l.length c, .slice A' s.length c'])
  simp only
  have hS0 := (hS.below hB0).more (B' := (w.alloc (.cells #[.string ⟨m.1.toArray⟩, .int .i64 m.2.1, .int .i64 m.2.2.1, .int .i64 m.2.2.2, .slice A l.length c, .slice A' s.length c'] 40)).heap.size) (by simp)
  go_enter Tryz.func18, Tryz.ntmps18
  go_wp2
  have HB := Lib.hid hB0
  clear hB0 hS
  generalize w.alloc (.cells #[.string ⟨m.1.toArray⟩, .int .i64 m.2.1, .int .i64 m.2.2.1, .int .i64 m.2.2.2, .slice A l.length c, .slice A' s.length c'] 40) = W at hS0 HB Q0 ⊢
  generalize hg : w.heap.size = g at HB Q0
  have hgW : g ≤ W.heap.size := by have := HB.out.size; omega
  have HGG := Lib.hid hg
  clear hg
  go_loopw [8] (fun i wr => ∃ k, k ≤ s.length ∧ i = .int .i64 (k : Nat) ∧ Hid ((s.take k).all smallS = true) ∧ Below W.heap.size W wr) (fun i _ => s.length - (intOf i).toNat)
  case atStart => exact ⟨0, Nat.zero_le _, rfl, rfl, Below.refl _ _⟩
  case round =>
    obtain ⟨k, hk, rfl, HA, hb⟩ := hrel
    have hbz := hb.size
    by_cases hlt : k < s.length
    · have hlt' : (k : Int) < (s.length : Int) := by omega
      obtain ⟨b, off, rfl, hbB, g0, g1⟩ := (hS0.below hb).src2 hlt
      have HN := Lib.hid (all_take_next s k hlt)
      have HM := Lib.hid (show smallS s[k] = false → s.all smallS = false from fun h => List.all_eq_false.2 ⟨_, List.getElem_mem hlt, by rw [h]; simp⟩)
      have HX := Lib.hid (show smallS s[k] = (decide ((s[k]).1.length ≤ 200) && decide ((s[k]).2.length ≤ 1000)) from rfl)
      obtain ⟨hx1, hx2⟩ := hsx s[k] (List.getElem_mem hlt)
      unfold maxLen at hx2
      generalize s[k] = x at g0 g1 HN HM HX hx1 hx2
      obtain ⟨nm, tx⟩ := x
      simp only at g0 g1 hx1 hx2
      by_cases h1 : 200 < nm.length
      · have d1 : decide ((200 : Int) < (nm.length : Int)) = true := decide_eq_true (by omega)
        have HF := Lib.hid (show R = false by rw [hR.out, HM.out (by rw [HX.out, decide_eq_false (show ¬ nm.length ≤ 200 by omega)]; rfl)]; rfl)
        clear HN HM HX hR
        go_wp2
        go_ret
        exact ⟨by rw [HF.out]; rfl, by rw [HGG.out]; exact HB.out.trans ((hb.alloc hbz _).mono hgW)⟩
      · have d1 : decide ((200 : Int) < (nm.length : Int)) = false := decide_eq_false (by omega)
        by_cases h2 : 1000 < tx.length
        · have d2 : decide ((1000 : Int) < (tx.length : Int)) = true := decide_eq_true (by omega)
          have HF := Lib.hid (show R = false by rw [hR.out, HM.out (by rw [HX.out, decide_eq_false (show ¬ tx.length ≤ 1000 by omega)]; simp)]; rfl)
          clear HN HM HX hR
          go_wp2
          go_ret
          exact ⟨by rw [HF.out]; rfl, by rw [HGG.out]; exact HB.out.trans ((hb.alloc hbz _).mono hgW)⟩
        · have d2 : decide ((1000 : Int) < (tx.length : Int)) = false := decide_eq_false (by omega)
          have HF := Lib.hid (show (s.take (k + 1)).all smallS = true by rw [HN.out, HA.out, HX.out, decide_eq_true (show nm.length ≤ 200 by omega), decide_eq_true (show tx.length ≤ 1000 by omega)]; rfl)
          clear HN HM HX
          go_wp2
          go_roundw
          case rel => exact ⟨k + 1, by omega, by go_num, HF.out, hb.alloc hbz _⟩
          case measure => simp [intOf]; omega
    · have hlt' : ¬ (k : Int) < (s.length : Int) := by omega
      have HF := Lib.hid (show R = (decide (s.length ≤ 8) && decide (l.length ≤ 20)) by rw [hR.out, show s.all smallS = true by have := HA.out; rwa [List.take_of_length_le (by omega)] at this]; rfl)
      have q0 := Q0.out.keep hb
      have k4 := q0.cell 4
      have k5 := q0.cell 5
      simp at k4 k5
      clear hR HA q0
      by_cases h8 : s.length ≤ 8
      · have d1 : decide ((s.length : Int) ≤ 8) = true := decide_eq_true (by omega)
        by_cases h20 : l.length ≤ 20
        · have d2 : decide ((l.length : Int) ≤ 20) = true := decide_eq_true (by omega)
          have HF2 := Lib.hid (show R = true by rw [HF.out, decide_eq_true h8, decide_eq_true h20]; rfl)
          clear HF
          go_wp2
          go_ret
          exact ⟨by rw [HF2.out]; rfl, by rw [HGG.out]; exact HB.out.trans (hb.mono hgW)⟩
        · have d2 : decide ((l.length : Int) ≤ 20) = false := decide_eq_false (by omega)
          have HF2 := Lib.hid (show R = false by rw [HF.out, decide_eq_true h8, decide_eq_false h20]; rfl)
          clear HF
          go_wp2
          go_ret
          exact ⟨by rw [HF2.out]; rfl, by rw [HGG.out]; exact HB.out.trans (hb.mono hgW)⟩
      · have d1 : decide ((s.length : Int) ≤ 8) = false := decide_eq_false (by omega)
        have HF2 := Lib.hid (show R = false by rw [HF.out, decide_eq_false h8]; rfl)
        clear HF
        go_wp2
        go_ret
        exact ⟨by rw [HF2.out]; rfl, by rw [HGG.out]; exact HB.out.trans (hb.mono hgW)⟩

set_option maxRecDepth 100000 in
set_option maxHeartbeats 1000000 in
/-- two lists of strings are compared -/
theorem same_any (A A' : Option Addr) (c c' : Nat) (x y : List (List UInt8)) (w : World) (hA : Sl w w.heap.size 1 encS A x) (hA' : Sl w w.heap.size 1 encS A' y) (hx : x.length ≤ 1099511627776) (hy : y.length ≤ 1099511627776) :
    Calls Tryz.prog 23 #[.slice A x.length c, .slice A' y.length c'] w fun e w' => e = .returned (.bool (decide (x = y))) ∧ Below w.heap.size w w' := by
  by_cases hne : x.length = y.length
  · have n1 : (x.length != y.length) = false := by rw [hne]; simp
    have n2 : ((x.length : Int) != (y.length : Int)) = false := by rw [hne]; simp
    have HNE := Lib.hid hne
    have hle : x.length ≤ y.length := by omega
    have hge : y.length ≤ x.length := by omega
    clear hne
    generalize hD : decide (x = y) = D
    have HD := Lib.hid hD
    clear hD
    go_enter Tryz.func23, Tryz.ntmps23
    go_wp2
    go_loopw [13] (fun i wr => ∃ k, k ≤ x.length ∧ i = .int .i64 (k : Nat) ∧ Hid (x.take k = y.take k) ∧ Below w.heap.size w wr) (fun i _ => x.length - (intOf i).toNat)
    case atStart => exact ⟨0, Nat.zero_le _, rfl, rfl, Below.refl _ _⟩
    case round =>
      obtain ⟨k, hk, rfl, HA, hb⟩ := hrel
      have hbz := hb.size
      by_cases hlt : k < x.length
      · have hlt' : (k : Int) < (x.length : Int) := by omega
        have hlt2 : k < y.length := by omega
        obtain ⟨b, off, rfl, hbB, g0⟩ := (hA.below hb).str hlt
        obtain ⟨b', off', rfl, hbB', g1⟩ := (hA'.below hb).str hlt2
        have HN := Lib.hid (show x[k] = y[k] → x.take (k + 1) = y.take (k + 1) from fun h => by rw [List.take_succ_eq_append_getElem hlt, List.take_succ_eq_append_getElem hlt2, HA.out, h])
        have HF := Lib.hid (show x[k] ≠ y[k] → D = false from fun h => by rw [← HD.out]; exact decide_eq_false (fun e => h (by subst e; rfl)))
        generalize x[k] = s1 at g0 HN HF
        generalize y[k] = s2 at g1 HN HF
        by_cases hs : s1 = s2
        · have HN' := Lib.hid (HN.out hs)
          clear HN HF
          subst hs
          go_wp2
          go_quiet (fail)
          go_wp2
          go_roundw
          case rel => exact ⟨k + 1, by omega, by go_num, HN'.out, hb.drewN _⟩
          case measure => simp [intOf]; omega
        · have HF' := Lib.hid (HF.out hs)
          have hs' : (s1 == s2) = false := beq_eq_false_iff_ne.2 hs
          clear HN HF hs
          go_wp2
          go_quiet (fail)
          go_wp2
          go_ret
          exact ⟨by rw [HF'.out]; rfl, hb.drewN _⟩
      · have hlt' : ¬ (k : Int) < (x.length : Int) := by omega
        have HF := Lib.hid (show D = true by rw [← HD.out]; refine decide_eq_true ?_; have := HA.out; rwa [List.take_of_length_le (by omega), List.take_of_length_le (by omega)] at this)
        go_wp2
        go_ret
        exact ⟨by rw [HF.out]; rfl, hb⟩
  · have n1 : (x.length != y.length) = true := by simpa using hne
    have n2 : ((x.length : Int) != (y.length : Int)) = true := by simp; omega
    have hD : decide (x = y) = false := decide_eq_false (fun e => hne (by rw [e]))
    rw [hD]
    clear hne hD
    go_enter Tryz.func23, Tryz.ntmps23
    go_wp2
    go_ret
    exact ⟨rfl, Below.refl _ _⟩
end Go.Proofs.YtabmidnamaaklaaGreatDoor
