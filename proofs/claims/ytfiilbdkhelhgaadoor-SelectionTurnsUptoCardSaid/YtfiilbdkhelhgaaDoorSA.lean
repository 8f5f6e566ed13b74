/- Walks: whether two manifests are equal (ref44.Same). -/
import Derived.Test.YtfiilbdkhelhgaaDoorG3
import Derived.Test.YtfiilbdkhelhgaaDoorG1
namespace Go.Proofs.YtfiilbdkhelhgaaDoor
open Go.RowKit

set_option maxRecDepth 100000 in
set_option maxHeartbeats 4000000 in
theorem Same_any (m : Mod) (A : Option Addr) (c : Nat) (l : List Mod) (m' : Mod) (A' : Option Addr) (c' : Nat) (l' : List Mod) (w : World) (hA : Sl w w.heap.size 4 encM A l) (hA' : Sl w w.heap.size 4 encM A' l') (hl : l.length ≤ 1099511627776) (hl' : l'.length ≤ 1099511627776) :
    Calls Tryd.prog 15 #[.agg #[.string ⟨m.1.toArray⟩, .int .i64 m.2.1, .int .i64 m.2.2.1, .int .i64 m.2.2.2, .slice A l.length c], .agg #[.string ⟨m'.1.toArray⟩, .int .i64 m'.2.1, .int .i64 m'.2.2.1, .int .i64 m'.2.2.2, .slice A' l'.length c']] w fun e w' => e = .returned (.bool (decide (m = m' ∧ l = l'))) ∧ Below w.heap.size w w' := by
  have HA := Lib.hid hA
  have HA' := Lib.hid hA'
  have heq := fun W => eq_mod m.1 m'.1 m.2.1 m.2.2.1 m.2.2.2 m'.2.1 m'.2.2.1 m'.2.2.2 W
  have hb2 : ∀ o o', Below w.heap.size w ((w.alloc o).alloc o') := fun o o' => ((Below.refl _ _).alloc (Nat.le_refl _) _).alloc (by simp) _
  clear hA hA'
  by_cases hm : m = m'
  · by_cases hn : l.length = l'.length
    · have d1 : decide ((m.1, m.2.1, m.2.2.1, m.2.2.2) = (m'.1, m'.2.1, m'.2.2.1, m'.2.2.2)) = true := decide_eq_true (by rw [hm])
      rw [d1] at heq
      have dn : ((l.length : Int) != (l'.length : Int)) = false := by rw [hn]; simp
      have HT := Lib.hid (show l = l' → decide (m = m' ∧ l = l') = true from fun h => decide_eq_true ⟨hm, h⟩)
      have HF := Lib.hid (show l ≠ l' → decide (m = m' ∧ l = l') = false from fun h => decide_eq_false (fun hc => h hc.2))
      generalize decide (m = m' ∧ l = l') = D at HT HF ⊢
      have Q0 := Lib.hid ((Blk.new w 29 #[.string ⟨m.1.toArray⟩, .int .i64 m.2.1, .int .i64 m.2.2.1, .int .i64 m.2.2.2, .slice A l.length c]).keep ((Below.refl _ _).alloc (Nat.le_refl _) (.cells #[.string ⟨m'.1.toArray⟩, .int .i64 m'.2.1, .int .i64 m'.2.2.1, .int .i64 m'.2.2.2, .slice A' l'.length c'] 29)))
      have Q1 := Blk.new (w.alloc (.cells #[.string ⟨m.1.toArray⟩, .int .i64 m.2.1, .int .i64 m.2.2.1, .int .i64 m.2.2.2, .slice A l.length c] 29)) 29 #[.string ⟨m'.1.toArray⟩, .int .i64 m'.2.1, .int .i64 m'.2.2.1, .int .i64 m'.2.2.2, .slice A' l'.length c']
      rw [World.size_alloc] at Q1
      have Q1' := Lib.hid Q1
      have HNL := Lib.hid hn
      clear d1 Q1 hn hm
      go_enter Tryd.func15, Tryd.ntmps15
      go_wp2
      have HB0 := Lib.hid (hb2 (.cells #[.string ⟨m.1.toArray⟩, .int .i64 m.2.1, .int .i64 m.2.2.1, .int .i64 m.2.2.2, .slice A l.length c] 29) (.cells #[.string ⟨m'.1.toArray⟩, .int .i64 m'.2.1, .int .i64 m'.2.2.1, .int .i64 m'.2.2.2, .slice A' l'.length c'] 29))
      have hz0 : ((w.alloc (.cells #[.string ⟨m.1.toArray⟩, .int .i64 m.2.1, .int .i64 m.2.2.1, .int .i64 m.2.2.2, .slice A l.length c] 29)).alloc (.cells #[.string ⟨m'.1.toArray⟩, .int .i64 m'.2.1, .int .i64 m'.2.2.1, .int .i64 m'.2.2.2, .slice A' l'.length c'] 29)).heap.size = w.heap.size + 2 := by simp
      generalize ((w.alloc (.cells #[.string ⟨m.1.toArray⟩, .int .i64 m.2.1, .int .i64 m.2.2.1, .int .i64 m.2.2.2, .slice A l.length c] 29)).alloc (.cells #[.string ⟨m'.1.toArray⟩, .int .i64 m'.2.1, .int .i64 m'.2.2.1, .int .i64 m'.2.2.2, .slice A' l'.length c'] 29)) = w1 at Q0 Q1' HB0 hz0 ⊢
      clear heq hb2 dn
      go_loopw [23] (fun i wr => ∃ k : Nat, k ≤ l.length ∧ i = .int .i64 (k : Nat) ∧ Hid (l.take k = l'.take k) ∧ Below w1.heap.size w1 wr) (fun i _ => l.length - (intOf i).toNat)
      case atStart => exact ⟨0, Nat.zero_le _, rfl, rfl, Below.refl _ _⟩
      case round =>
        obtain ⟨k, hk, rfl, HK, hb⟩ := hrel
        have hbw := HB0.out.trans (hb.mono (by omega))
        by_cases hlt : k < l.length
        · have hlt' : (k : Int) < (l.length : Int) := by omega
          have hlt2 : k < l'.length := by have := HNL.out; omega
          have hlt2' : (k : Int) < (l'.length : Int) := by omega
          obtain ⟨b, off, rfl, hbB, g0, g1, g2, g3⟩ := (HA.out.below hbw).mod hlt
          obtain ⟨b', off', rfl, hbB', r0, r1, r2, r3⟩ := (HA'.out.below hbw).mod hlt2
          have HN := Lib.hid (show l[k] = l'[k] → l.take (k + 1) = l'.take (k + 1) from fun h => by rw [List.take_succ_eq_append_getElem hlt, List.take_succ_eq_append_getElem hlt2, HK.out, h])
          have HD := Lib.hid (show l[k] ≠ l'[k] → D = false from fun h => HF.out (fun e => h (by subst e; rfl)))
          generalize l[k] = x at g0 g1 g2 g3 HN HD
          generalize l'[k] = y at r0 r1 r2 r3 HN HD
          have a5 : wr.cell? ⟨w.heap.size, 4, none⟩ = some (.slice (some ⟨b, off, none⟩) l.length c) := (Q0.out.keep hb).cell 4
          have b5 : wr.cell? ⟨w.heap.size + 1, 4, none⟩ = some (.slice (some ⟨b', off', none⟩) l'.length c') := (Q1'.out.keep hb).cell 4
          have hq := fun W => eq_mod x.1 y.1 x.2.1 x.2.2.1 x.2.2.2 y.2.1 y.2.2.1 y.2.2.2 W
          by_cases hxy : x = y
          · have dq : decide ((x.1, x.2.1, x.2.2.1, x.2.2.2) = (y.1, y.2.1, y.2.2.1, y.2.2.2)) = true := decide_eq_true (by rw [hxy])
            rw [dq] at hq
            have HN' := Lib.hid (HN.out hxy)
            clear dq hxy HN HD
            go_wp2
            go_quiet (fail)
            go_wp2
            go_roundw
            case rel => exact ⟨k + 1, by omega, by go_num, HN'.out, hb.drewN _⟩
            case measure => simp [intOf]; omega
          · have dq : decide ((x.1, x.2.1, x.2.2.1, x.2.2.2) = (y.1, y.2.1, y.2.2.1, y.2.2.2)) = false := decide_eq_false (fun h => hxy (by
              obtain ⟨h1, h2, h3, h4⟩ : x.1 = y.1 ∧ x.2.1 = y.2.1 ∧ x.2.2.1 = y.2.2.1 ∧ x.2.2.2 = y.2.2.2 := by simpa using h
              exact Prod.ext h1 (Prod.ext h2 (Prod.ext h3 h4))))
            rw [dq] at hq
            have HD' := Lib.hid (HD.out hxy)
            clear dq hxy HN HD
            go_wp2
            go_quiet (fail)
            go_wp2
            go_ret
            exact ⟨by rw [HD'.out]; rfl, hbw.drewN _⟩
        · obtain rfl : k = l.length := by omega
          have HD' := Lib.hid (HT.out (by have := HK.out; rwa [List.take_of_length_le (Nat.le_refl _), List.take_of_length_le (by have := HNL.out; omega)] at this))
          go_wp2
          go_ret
          exact ⟨by rw [HD'.out]; rfl, hbw⟩
    · have d1 : decide ((m.1, m.2.1, m.2.2.1, m.2.2.2) = (m'.1, m'.2.1, m'.2.2.1, m'.2.2.2)) = true := decide_eq_true (by rw [hm])
      rw [d1] at heq
      have dn : ((l.length : Int) != (l'.length : Int)) = true := by simp; omega
      have HD := Lib.hid (show decide (m = m' ∧ l = l') = false from decide_eq_false (fun h => hn (by rw [h.2])))
      clear hn hm d1
      generalize decide (m = m' ∧ l = l') = D at HD ⊢
      go_enter Tryd.func15, Tryd.ntmps15
      go_wp2
      go_ret
      exact ⟨by rw [HD.out]; rfl, hb2 _ _⟩
  · have d1 : decide ((m.1, m.2.1, m.2.2.1, m.2.2.2) = (m'.1, m'.2.1, m'.2.2.1, m'.2.2.2)) = false := decide_eq_false (fun h => hm (by
      obtain ⟨h1, h2, h3, h4⟩ : m.1 = m'.1 ∧ m.2.1 = m'.2.1 ∧ m.2.2.1 = m'.2.2.1 ∧ m.2.2.2 = m'.2.2.2 := by simpa using h
      exact Prod.ext h1 (Prod.ext h2 (Prod.ext h3 h4))))
    rw [d1] at heq
    have HD := Lib.hid (show decide (m = m' ∧ l = l') = false from decide_eq_false (fun h => hm h.1))
    clear hm d1
    generalize decide (m = m' ∧ l = l') = D at HD ⊢
    go_enter Tryd.func15, Tryd.ntmps15
    go_wp2
    go_ret
    exact ⟨by rw [HD.out]; rfl, hb2 _ _⟩
end Go.Proofs.YtfiilbdkhelhgaaDoor
