/- Walks: when a registry is small (Small), and equal lists of modules (Same). -/
import Derived.Test.YtfiilbdkhelhgaaDoorWR2
namespace Go.Proofs.YtfiilbdkhelhgaaDoor
open Go.RowKit Go.Sort

/-- a manifest that the statements speak of -/
def okS (x : Mod × List Mod) : Prop := x.2.length ≤ 8 ∧ x.1.1.length ≤ 61 ∧ ∀ m ∈ x.2, m.1.length ≤ 61
def smallP (R : Regy) : Prop := (∀ x ∈ R, okS x) ∧ R.length ≤ 10
/-- a manifest that can be read -/
def ManLoose (w : World) (y : ManW) : Prop := Sl w w.heap.size 4 encM y.2.1 y.2.2.2 ∧ y.2.2.2.length ≤ 1048576 ∧ ∀ m ∈ y.1 :: y.2.2.2, okB m
theorem ManLoose.step {w w' : World} {y : ManW} (h : ManLoose w y) (hb : Below w.heap.size w w') : ManLoose w' y := ⟨(h.1.below hb).more hb.size, h.2⟩
theorem ManLoose.ok {w : World} {y : ManW} (h : ManLoose w y) (hs : smallP [plainW y]) : ManOk w w.heap.size y := ⟨h.1, by
  have := (hs.1 (plainW y) List.mem_cons_self).1
  unfold plainW at this
  simp only at this
  omega, h.2.2⟩
/-- a registry that can be read -/
def RegLoose (w : World) (A : Option Addr) (Y : List ManW) : Prop :=
  Sl w w.heap.size 5 encW A Y ∧ (∀ y ∈ Y, ManLoose w y) ∧ Y.length ≤ 1048576
theorem RegLoose.step {w w' : World} {A : Option Addr} {Y : List ManW} (h : RegLoose w A Y) (hb : Below w.heap.size w w') : RegLoose w' A Y :=
  ⟨(h.1.below hb).more hb.size, fun y hy => (h.2.1 y hy).step hb, h.2.2⟩
theorem RegLoose.ok {w : World} {A : Option Addr} {Y : List ManW} (h : RegLoose w A Y) (hs : smallP (regW Y)) : RegOk w w.heap.size A Y := by
  refine ⟨h.1, fun y hy => ⟨(h.2.1 y hy).1, ?_, (h.2.1 y hy).2.2⟩, ?_⟩
  · have := (hs.1 (plainW y) (List.mem_map_of_mem hy)).1
    unfold plainW at this
    simp only at this
    omega
  · have := hs.2
    unfold regW at this
    rw [List.length_map] at this
    omega
theorem okS_at {Y : List ManW} {i : Nat} (hi : i < Y.length) : okS (plainW Y[i]) ↔ Y[i].2.2.2.length ≤ 8 ∧ Y[i].1.1.length ≤ 61 ∧ ∀ k (hk : k < Y[i].2.2.2.length), Y[i].2.2.2[k].1.length ≤ 61 := by
  unfold okS plainW
  constructor
  · rintro ⟨h1, h2, h3⟩
    exact ⟨h1, h2, fun k hk => h3 _ (List.getElem_mem hk)⟩
  · rintro ⟨h1, h2, h3⟩
    refine ⟨h1, h2, fun m hm => ?_⟩
    obtain ⟨k, hk, rfl⟩ := List.mem_iff_getElem.1 hm
    exact h3 k hk
theorem smallP_iff {Y : List ManW} : smallP (regW Y) ↔ (∀ i (hi : i < Y.length), okS (plainW Y[i])) ∧ Y.length ≤ 10 := by
  unfold smallP regW
  rw [List.length_map]
  refine and_congr ⟨fun h i hi => h _ (List.mem_map_of_mem (List.getElem_mem hi)), fun h x hx => ?_⟩ Iff.rfl
  obtain ⟨y, hy, rfl⟩ := List.mem_map.1 hx
  obtain ⟨i, hi, rfl⟩ := List.mem_iff_getElem.1 hy
  exact h i hi

/-- a yes or no about something -/
def RetIf (w : World) (p : Prop) (e : Ending) (w' : World) : Prop := ∃ b : Bool, e = .returned (.bool b) ∧ (b = true ↔ p) ∧ Below w.heap.size w w'
theorem retIf_no {w w' : World} {p : Prop} {v : Value} (h : false = true ↔ p) (hv : v = .bool false) (hb : Below w.heap.size w w') : RetIf w p (.returned v) w' := ⟨false, by rw [hv], h, hb⟩
theorem retIf {w w' : World} {p : Prop} {v : Value} {b : Bool} (h : b = true ↔ p) (hv : v = .bool b) (hb : Below w.heap.size w w') : RetIf w p (.returned v) w' := ⟨b, by rw [hv], h, hb⟩

set_option maxRecDepth 100000 in
set_option maxHeartbeats 4000000 in
theorem Small_any (A : Option Addr) (c : Nat) (Y : List ManW) (w : World) (hY : RegLoose w A Y) :
    Calls Tryd.prog 23 #[.slice A Y.length c] w (RetIf w (smallP (regW Y))) := by
  have HY := Lib.hid hY
  have hYl := hY.2.2
  have HS := Lib.hid (smallP_iff (Y := Y))
  have HI := Lib.hid (fun i hi => okS_at (Y := Y) (i := i) hi)
  clear hY
  go_enter Tryd.func23, Tryd.ntmps23
  go_wp2
  go_loopw [3] (fun i wr => ∃ k : Nat, k ≤ Y.length ∧ i = .int .i64 (k : Nat) ∧ Hid (∀ j (_ : j < k) (hj : j < Y.length), okS (plainW Y[j])) ∧ wr = w) (fun i _ => Y.length - (intOf i).toNat)
  case atStart => exact ⟨0, Nat.zero_le _, rfl, Lib.hid (fun j h => by omega), rfl⟩
  case round =>
    obtain ⟨k, hk, rfl, HJ, rfl⟩ := hrel
    by_cases hlt : k < Y.length
    · have hlt' : (k : Int) < (Y.length : Int) := by omega
      obtain ⟨b, off, hA, hbB, g0, g1, g2, g3, g4⟩ := HY.out.1.man hlt
      obtain ⟨hSq, hq, hmm⟩ := HY.out.2.1 _ (List.getElem_mem hlt)
      have hp := (hmm _ List.mem_cons_self).1
      have hpm := fun m hm => (hmm m (List.mem_cons_of_mem _ hm)).1
      have HK := Lib.hid (HI.out k hlt)
      have HNO := Lib.hid (show ¬ okS (plainW Y[k]) → ¬ smallP (regW Y) from fun h e => absurd ((HS.out.1 e).1 k hlt) h)
      have HST := Lib.hid (show okS (plainW Y[k]) → ∀ j (_ : j < k + 1) (hj : j < Y.length), okS (plainW Y[j]) from fun h j hj hl => by
        by_cases hjk : j < k
        · exact HJ.out j hjk hl
        · obtain rfl : j = k := by omega
          exact h)
      generalize hyk : Y[k] = y at g0 g1 g2 g3 g4 hSq hq hp hpm HK HNO HST
      obtain ⟨m, A1, c1, l1⟩ := y
      simp only at g0 g1 g2 g3 g4 hSq hq hp hpm
      have HK2 := Lib.hid (show okS (plainW (m, A1, c1, l1)) ↔ l1.length ≤ 8 ∧ m.1.length ≤ 61 ∧ ∀ k (hk : k < l1.length), l1[k].1.length ≤ 61 from HK.out)
      have HSq := Lib.hid hSq
      have HPM := Lib.hid hpm
      subst hA
      clear HK hyk hmm hSq hpm HJ
      have hp63 : m.1.length < 9223372036854775808 := by omega
      have hl63 : l1.length < 9223372036854775808 := by omega
      by_cases h8 : l1.length ≤ 8
      · have h8' : ¬ (8 : Int) < (l1.length : Int) := by omega
        have h8'' : ¬ 8 < l1.length := by omega
        by_cases h61 : m.1.length ≤ 61
        · have h61' : ¬ (61 : Int) < (m.1.length : Int) := by omega
          have h61'' : ¬ 61 < m.1.length := by omega
          obtain ⟨wo, hwo⟩ : ∃ wo, wo = wr := ⟨_, rfl⟩
          subst hwo
          go_wp2
          go_loopw [4] (fun i wr => ∃ q : Nat, q ≤ l1.length ∧ i = .int .i64 (q : Nat) ∧ Hid (∀ j (_ : j < q) (hj : j < l1.length), l1[j].1.length ≤ 61) ∧ wr = wo) (fun i _ => l1.length - (intOf i).toNat)
          case atStart => exact ⟨0, Nat.zero_le _, rfl, Lib.hid (fun j h => by omega), rfl⟩
          case round =>
            obtain ⟨q, hq2, rfl, HQ, rfl⟩ := hrel
            by_cases hqlt : q < l1.length
            · have hqlt' : (q : Int) < (l1.length : Int) := by omega
              obtain ⟨b2, off2, hA2, hb2, e0, e1, e2, e3⟩ := HSq.out.mod hqlt
              have hx := HPM.out _ (List.getElem_mem hqlt)
              have HX := Lib.hid (show l1[q].1.length ≤ 61 → ∀ j (_ : j < q + 1) (hj : j < l1.length), l1[j].1.length ≤ 61 from fun h j hj hl => by
                by_cases hjk : j < q
                · exact HQ.out j hjk hl
                · obtain rfl : j = q := by omega
                  exact h)
              have HN := Lib.hid (show ¬ l1[q].1.length ≤ 61 → ¬ okS (plainW (m, A1, c1, l1)) from fun h e => h ((HK2.out.1 e).2.2 q hqlt))
              generalize l1[q] = x at e0 e1 e2 e3 hx HX HN
              subst hA2
              have hx63 : x.1.length < 9223372036854775808 := by omega
              by_cases hx61 : x.1.length ≤ 61
              · have hx1 : ¬ (61 : Int) < (x.1.length : Int) := by omega
                have hx2 : ¬ 61 < x.1.length := by omega
                have HX2 := Lib.hid (HX.out hx61)
                clear HX HN
                go_wp2
                go_roundw
                case rel => exact ⟨q + 1, by omega, by go_num, HX2, trivial⟩
                case measure => simp [intOf]; omega
              · have hx1 : (61 : Int) < (x.1.length : Int) := by omega
                have hx2 : 61 < x.1.length := by omega
                have HF := Lib.hid (HNO.out (HN.out hx61))
                clear HX HN
                go_wp2
                go_ret
                exact retIf_no ⟨fun e => by simp at e, fun e => absurd e HF.out⟩ rfl (Below.refl _ _)
            · obtain rfl : q = l1.length := by omega
              have HST2 := Lib.hid (HST.out (HK2.out.2 ⟨h8, h61, fun k hk => HQ.out k hk hk⟩))
              clear HQ
              go_wp2
              go_roundw
              case rel => exact ⟨k + 1, by omega, by go_num, HST2, trivial⟩
              case measure => simp [intOf]; omega
        · have h61' : (61 : Int) < (m.1.length : Int) := by omega
          have h61'' : 61 < m.1.length := by omega
          have HF := Lib.hid (HNO.out (fun e => h61 (HK2.out.1 e).2.1))
          go_wp2
          go_ret
          exact retIf_no ⟨fun e => by simp at e, fun e => absurd e HF.out⟩ rfl (Below.refl _ _)
      · have h8' : (8 : Int) < (l1.length : Int) := by omega
        have h8'' : 8 < l1.length := by omega
        have HF := Lib.hid (HNO.out (fun e => h8 (HK2.out.1 e).1))
        go_wp2
        go_ret
        exact retIf_no ⟨fun e => by simp at e, fun e => absurd e HF.out⟩ rfl (Below.refl _ _)
    · obtain rfl : k = Y.length := by omega
      have HF := Lib.hid (show (decide ((Y.length : Int) ≤ 10) = true ↔ smallP (regW Y)) by
        rw [HS.out, decide_eq_true_iff]
        exact ⟨fun h => ⟨fun i hi => HJ.out i hi hi, by omega⟩, fun h => by have := h.2; omega⟩)
      clear HJ
      go_wp2
      go_ret
      exact retIf HF.out rfl (Below.refl _ _)

set_option maxRecDepth 100000 in
set_option maxHeartbeats 4000000 in
theorem rSame_any (A1 : Option Addr) (c1 : Nat) (l1 : List Mod) (A2 : Option Addr) (c2 : Nat) (l2 : List Mod) (w : World) (h1 : Sl w w.heap.size 4 encM A1 l1) (h2 : Sl w w.heap.size 4 encM A2 l2) (hl1 : l1.length ≤ 1099511627776) (_ : l2.length ≤ 1099511627776) :
    Calls Tryd.prog 14 #[.slice A1 l1.length c1, .slice A2 l2.length c2] w fun e w' => e = .returned (.bool (decide (l1 = l2))) ∧ Below w.heap.size w w' := by
  have H1 := Lib.hid h1
  have H2 := Lib.hid h2
  clear h1 h2
  by_cases hll : l1.length = l2.length
  · rw [← hll]
    have HLL := Lib.hid hll
    clear hll
    go_enter Tryd.func14, Tryd.ntmps14
    go_wp2
    go_loopw [5] (fun i wr => ∃ k : Nat, k ≤ l1.length ∧ i = .int .i64 (k : Nat) ∧ Hid (l1.take k = l2.take k) ∧ Hid (Below w.heap.size w wr)) (fun i _ => l1.length - (intOf i).toNat)
    case atStart => exact ⟨0, Nat.zero_le _, rfl, Lib.hid rfl, Lib.hid (Below.refl _ _)⟩
    case round =>
      obtain ⟨k, hk, rfl, HJ, HB⟩ := hrel
      by_cases hlt : k < l1.length
      · have hlt' : (k : Int) < (l1.length : Int) := by omega
        have hlt2 : k < l2.length := by rw [← HLL.out]; exact hlt
        obtain ⟨b1, off1, hA1, hb1, g0, g1, g2, g3⟩ := (H1.out.below HB.out).mod hlt
        obtain ⟨b2, off2, hA2, hb2, e0, e1, e2, e3⟩ := (H2.out.below HB.out).mod hlt2
        have heq := fun W => eq_mod l1[k].1 l2[k].1 l1[k].2.1 l1[k].2.2.1 l1[k].2.2.2 l2[k].2.1 l2[k].2.2.1 l2[k].2.2.2 W
        rw [mod_eta, mod_eta] at heq
        have HY := Lib.hid (fun (h : l1[k] = l2[k]) => show l1.take (k + 1) = l2.take (k + 1) by rw [List.take_succ_eq_append_getElem hlt, List.take_succ_eq_append_getElem hlt2, HJ.out, h])
        have HN := Lib.hid (fun (h : l1[k] ≠ l2[k]) => show decide (l1 = l2) = false from decide_eq_false fun e => h (by subst e; rfl))
        generalize l1[k] = x at g0 g1 g2 g3 heq HY HN
        generalize l2[k] = y at e0 e1 e2 e3 heq HY HN
        subst hA1 hA2
        clear HJ
        by_cases hx : x = y
        · rw [decide_eq_true hx] at heq
          have HF := Lib.hid (HY.out hx)
          clear hx HY HN
          go_wp2
          go_quiet (fail)
          go_wp2
          go_roundw
          case rel => exact ⟨k + 1, by omega, by go_num, HF, by first | exact HB | exact Lib.hid HB.out.drew | exact Lib.hid (HB.out.drewN _)⟩
          case measure => simp [intOf]; omega
        · rw [decide_eq_false hx] at heq
          have HF := Lib.hid (HN.out hx)
          clear hx HY HN
          go_wp2
          go_quiet (fail)
          go_wp2
          go_ret
          exact ⟨by rw [HF.out]; rfl, by first | exact HB.out | exact HB.out.drew | exact HB.out.drewN _⟩
      · obtain rfl : k = l1.length := by omega
        have HF := Lib.hid (show decide (l1 = l2) = true from decide_eq_true (by
          have h := HJ.out
          rw [List.take_of_length_le (Nat.le_refl _), HLL.out, List.take_of_length_le (Nat.le_refl _)] at h
          exact h))
        clear HJ
        go_wp2
        go_ret
        exact ⟨by rw [HF.out]; rfl, HB.out⟩
  · have HF := Lib.hid (show decide (l1 = l2) = false from decide_eq_false fun e => hll (by rw [e]))
    have hll' : ¬ (l1.length : Int) = (l2.length : Int) := by omega
    have hll2 : ((l1.length : Int) != (l2.length : Int)) = true := by simpa using hll'
    clear hll
    go_enter Tryd.func14, Tryd.ntmps14
    go_wp2
    go_ret
    exact ⟨by rw [HF.out]; rfl, Below.refl _ _⟩
end Go.Proofs.YtfiilbdkhelhgaaDoor
