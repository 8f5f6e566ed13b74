/- Walk: the document's less. -/
import Derived.Test.YtfiilbdkhelhgaaGreatDoorWR5
import Derived.Test.YtfiilbdkhelhgaaGreatDoorPL12
namespace Go.Proofs.YtfiilbdkhelhgaaGreatDoor
open Go.RowKit Go.Sort

def LeInv (z : Nat) (w0 : World) (PA PB : Value) (x y : Mod) (d : Int) (t0 t1 t2 t3 t4 t5 t7 t8 t9 t10 t11 t12 t13 t14 t15 t16 t17 t18 t28 t29 t30 t31 : Value) (L : Array Bool) (a : Act) (W : World) : Prop :=
  ∃ (b0 b1 b2 b3 b4 b5 b6 b7 b8 b9 : Bool) (s6 s19 s20 s21 s22 s23 s24 s25 s26 s27 : Value), L = #[b0, b1, b2, b3, b4, b5, b6, b7, b8, b9] ∧ a = ⟨#[t0, t1, t2, t3, t4, t5, s6, t7, t8, t9, t10, t11, t12, t13, t14, t15, t16, t17, t18, s19, s20, s21, s22, s23, s24, s25, s26, s27, t28, t29, t30, t31], []⟩ ∧ Below z w0 W ∧ (b0 = true → s19 = t0) ∧ (b1 = true → s20 = t5) ∧ (b2 = true → s21 = PA) ∧ (b3 = true → s22 = .agg #[.string ⟨x.1.toArray⟩, .int .i64 x.2.1, .int .i64 x.2.2.1, .int .i64 x.2.2.2]) ∧ (b4 = true → s23 = t1) ∧ (b5 = true → s24 = t5) ∧ (b6 = true → s25 = PB) ∧ (b7 = true → s26 = .agg #[.string ⟨y.1.toArray⟩, .int .i64 y.2.1, .int .i64 y.2.2.1, .int .i64 y.2.2.2]) ∧ (b8 = true → s27 = .int .i64 d) ∧ (b9 = true → s6 = .int .i64 d)
theorem lexB_drop {a b : List Mod} {k : Nat} (ha : k < a.length) (hb : k < b.length) : lexB (a.drop k) (b.drop k) = if mcmp a[k] b[k] = 0 then lexB (a.drop (k + 1)) (b.drop (k + 1)) else decide (mcmp a[k] b[k] < 0) := by
  rw [List.drop_eq_getElem_cons ha, List.drop_eq_getElem_cons hb]
  rfl
theorem lexB_nil : ∀ (a : List Mod), lexB a [] = false
  | [] => rfl
  | _ :: _ => rfl

set_option maxRecDepth 100000 in
set_option maxHeartbeats 4000000 in
theorem less_any (A : Option Addr) (ca : Nat) (a : List Mod) (B : Option Addr) (cb : Nat) (b : List Mod) (w : World) (hA : Sl w w.heap.size 4 encM A a) (hB : Sl w w.heap.size 4 encM B b) (hla : a.length ≤ 1000000) (hlb : b.length ≤ 1000000) :
    Calls Tryz.prog 72 #[.slice A a.length ca, .slice B b.length cb] w fun e w' => e = .returned (.bool (lexB a b)) ∧ Below w.heap.size w w' := by
  have HA := Lib.hid hA
  have HB := Lib.hid hB
  obtain ⟨E, hE⟩ : ∃ E, E = lexB a b := ⟨_, rfl⟩
  rw [← hE]
  have HE := Lib.hid (show E = lexB (a.drop 0) (b.drop 0) from hE)
  clear hA hB hE
  go_enter Tryz.func72, Tryz.ntmps72
  go_wp2
  go_loopw [5] (fun i wr => ∃ k : Nat, k ≤ a.length ∧ k ≤ b.length ∧ i = .int .i64 (k : Nat) ∧ Hid (E = lexB (a.drop k) (b.drop k)) ∧ Hid (Below w.heap.size w wr)) (fun i _ => a.length - (intOf i).toNat)
  case atStart => exact ⟨0, Nat.zero_le _, Nat.zero_le _, rfl, HE, Lib.hid (Below.refl _ _)⟩
  case round =>
    obtain ⟨wo, hwo⟩ : ∃ wo, wo = wr := ⟨_, rfl⟩
    subst hwo
    obtain ⟨k, hk, hk2, rfl, HK, HW⟩ := hrel
    by_cases hlt : k < a.length
    · have hlt' : (k : Int) < (a.length : Int) := by omega
      by_cases hlt2 : k < b.length
      · have hlt2' : (k : Int) < (b.length : Int) := by omega
        have hk0 : (0 : Int) ≤ (k : Int) := by omega
        obtain ⟨p1, o1, hA1, hbp1, g0, g1, g2, g3⟩ := ((HA.out.below HW.out).more HW.out.size).mod hlt
        obtain ⟨p2, o2, hB1, hbp2, r0, r1, r2, r3⟩ := ((HB.out.below HW.out).more HW.out.size).mod hlt2
        have HL := Lib.hid (HK.out.trans (lexB_drop hlt hlt2))
        generalize a[k] = x at g0 g1 g2 g3 HL
        generalize b[k] = y at r0 r1 r2 r3 HL
        have cC0 := fun W => mrefCompare_any x.1 y.1 x.2.1 x.2.2.1 x.2.2.2 y.2.1 y.2.2.1 y.2.2.2 W
        have hmm : mcmp (x.1, x.2.1, x.2.2.1, x.2.2.2) (y.1, y.2.1, y.2.2.1, y.2.2.2) = mcmp x y := rfl
        rw [hmm] at cC0
        generalize mcmp x y = d at cC0 HL
        have cC := Lib.hid cC0
        subst hA1 hB1
        clear cC0 hmm
        go_upto_region 4 with fail
        apply wp_region_each (by kernel_rfl) (LeInv wo.heap.size wo (.pointer (some ⟨p1, o1 + k * 4, none⟩)) (.pointer (some ⟨p2, o2 + k * 4, none⟩)) x y d _ _ _ _ _ _ _ _ _ _ _ _ _ _ _ _ _ _ _ _ _ _) ?hsz ?h0 ?step (by kernel_rfl) ?fin
        case h0 =>
          exact ⟨false, false, false, false, false, false, false, false, false, false, _, _, _, _, _, _, _, _, _, _, rfl, rfl, (Below.refl _ _).drew, fun h => absurd h (by decide), fun h => absurd h (by decide), fun h => absurd h (by decide), fun h => absurd h (by decide), fun h => absurd h (by decide), fun h => absurd h (by decide), fun h => absurd h (by decide), fun h => absurd h (by decide), fun h => absurd h (by decide), fun h => absurd h (by decide)⟩
        case hsz =>
          rintro L a w ⟨b0, b1, b2, b3, b4, b5, b6, b7, b8, b9, s6, s19, s20, s21, s22, s23, s24, s25, s26, s27, rfl, _⟩
          rfl
        case step =>
          rintro i o ho L a W hn hd ⟨b0, b1, b2, b3, b4, b5, b6, b7, b8, b9, s6, s19, s20, s21, s22, s23, s24, s25, s26, s27, rfl, rfl, hB, h0, h1, h2, h3, h4, h5, h6, h7, h8, h9⟩
          have hBz := hB.size
          match i, ho with
          | 0, ho =>
            simp at ho; subst ho
            simp only [Region.wanted, if_true]
            left
            go_simp
            exact ⟨true, b1, b2, b3, b4, b5, b6, b7, b8, b9, _, _, _, _, _, _, _, _, _, _, rfl, rfl, hB, fun _ => rfl, (by first | exact h1 | exact fun _ => rfl), (by first | exact h2 | exact fun _ => rfl), (by first | exact h3 | exact fun _ => rfl), (by first | exact h4 | exact fun _ => rfl), (by first | exact h5 | exact fun _ => rfl), (by first | exact h6 | exact fun _ => rfl), (by first | exact h7 | exact fun _ => rfl), (by first | exact h8 | exact fun _ => rfl), (by first | exact h9 | exact fun _ => rfl)⟩
          | 1, ho =>
            simp at ho; subst ho
            simp only [Region.wanted, if_true]
            left
            go_simp
            exact ⟨b0, true, b2, b3, b4, b5, b6, b7, b8, b9, _, _, _, _, _, _, _, _, _, _, rfl, rfl, hB, (by first | exact h0 | exact fun _ => rfl), fun _ => rfl, (by first | exact h2 | exact fun _ => rfl), (by first | exact h3 | exact fun _ => rfl), (by first | exact h4 | exact fun _ => rfl), (by first | exact h5 | exact fun _ => rfl), (by first | exact h6 | exact fun _ => rfl), (by first | exact h7 | exact fun _ => rfl), (by first | exact h8 | exact fun _ => rfl), (by first | exact h9 | exact fun _ => rfl)⟩
          | 2, ho =>
            simp at ho; subst ho
            have e0 : b0 = true := by simp [Region.binds] at hd; simp [hd]
            have e1 : b1 = true := by simp [Region.binds] at hd; simp [hd]
            subst e0
            subst e1
            obtain rfl := h0 rfl
            obtain rfl := h1 rfl
            simp only [Region.wanted, if_true]
            left
            go_simp
            exact ⟨true, true, true, b3, b4, b5, b6, b7, b8, b9, _, _, _, _, _, _, _, _, _, _, rfl, rfl, hB, (by first | exact h0 | exact fun _ => rfl), (by first | exact h1 | exact fun _ => rfl), fun _ => rfl, (by first | exact h3 | exact fun _ => rfl), (by first | exact h4 | exact fun _ => rfl), (by first | exact h5 | exact fun _ => rfl), (by first | exact h6 | exact fun _ => rfl), (by first | exact h7 | exact fun _ => rfl), (by first | exact h8 | exact fun _ => rfl), (by first | exact h9 | exact fun _ => rfl)⟩
          | 3, ho =>
            simp at ho; subst ho
            have e2 : b2 = true := by simp [Region.binds] at hd; simp [hd]
            subst e2
            obtain rfl := h2 rfl
            have hx0 := hB.cell (p := ⟨p1, o1 + k * 4, none⟩) hbp1
            have hx1 := hB.cell (p := ⟨p1, o1 + k * 4 + 1, none⟩) hbp1
            have hx2 := hB.cell (p := ⟨p1, o1 + k * 4 + 2, none⟩) hbp1
            have hx3 := hB.cell (p := ⟨p1, o1 + k * 4 + 3, none⟩) hbp1
            rw [g0] at hx0
            rw [g1] at hx1
            rw [g2] at hx2
            rw [g3] at hx3
            simp only [Region.wanted, if_true]
            left
            go_simp
            exact ⟨b0, b1, true, true, b4, b5, b6, b7, b8, b9, _, _, _, _, _, _, _, _, _, _, rfl, rfl, hB, (by first | exact h0 | exact fun _ => rfl), (by first | exact h1 | exact fun _ => rfl), (by first | exact h2 | exact fun _ => rfl), fun _ => rfl, (by first | exact h4 | exact fun _ => rfl), (by first | exact h5 | exact fun _ => rfl), (by first | exact h6 | exact fun _ => rfl), (by first | exact h7 | exact fun _ => rfl), (by first | exact h8 | exact fun _ => rfl), (by first | exact h9 | exact fun _ => rfl)⟩
          | 4, ho =>
            simp at ho; subst ho
            simp only [Region.wanted, if_true]
            left
            go_simp
            exact ⟨b0, b1, b2, b3, true, b5, b6, b7, b8, b9, _, _, _, _, _, _, _, _, _, _, rfl, rfl, hB, (by first | exact h0 | exact fun _ => rfl), (by first | exact h1 | exact fun _ => rfl), (by first | exact h2 | exact fun _ => rfl), (by first | exact h3 | exact fun _ => rfl), fun _ => rfl, (by first | exact h5 | exact fun _ => rfl), (by first | exact h6 | exact fun _ => rfl), (by first | exact h7 | exact fun _ => rfl), (by first | exact h8 | exact fun _ => rfl), (by first | exact h9 | exact fun _ => rfl)⟩
          | 5, ho =>
            simp at ho; subst ho
            simp only [Region.wanted, if_true]
            left
            go_simp
            exact ⟨b0, b1, b2, b3, b4, true, b6, b7, b8, b9, _, _, _, _, _, _, _, _, _, _, rfl, rfl, hB, (by first | exact h0 | exact fun _ => rfl), (by first | exact h1 | exact fun _ => rfl), (by first | exact h2 | exact fun _ => rfl), (by first | exact h3 | exact fun _ => rfl), (by first | exact h4 | exact fun _ => rfl), fun _ => rfl, (by first | exact h6 | exact fun _ => rfl), (by first | exact h7 | exact fun _ => rfl), (by first | exact h8 | exact fun _ => rfl), (by first | exact h9 | exact fun _ => rfl)⟩
          | 6, ho =>
            simp at ho; subst ho
            have e4 : b4 = true := by simp [Region.binds] at hd; simp [hd]
            have e5 : b5 = true := by simp [Region.binds] at hd; simp [hd]
            subst e4
            subst e5
            obtain rfl := h4 rfl
            obtain rfl := h5 rfl
            simp only [Region.wanted, if_true]
            left
            go_simp
            exact ⟨b0, b1, b2, b3, true, true, true, b7, b8, b9, _, _, _, _, _, _, _, _, _, _, rfl, rfl, hB, (by first | exact h0 | exact fun _ => rfl), (by first | exact h1 | exact fun _ => rfl), (by first | exact h2 | exact fun _ => rfl), (by first | exact h3 | exact fun _ => rfl), (by first | exact h4 | exact fun _ => rfl), (by first | exact h5 | exact fun _ => rfl), fun _ => rfl, (by first | exact h7 | exact fun _ => rfl), (by first | exact h8 | exact fun _ => rfl), (by first | exact h9 | exact fun _ => rfl)⟩
          | 7, ho =>
            simp at ho; subst ho
            have e6 : b6 = true := by simp [Region.binds] at hd; simp [hd]
            subst e6
            obtain rfl := h6 rfl
            have hx0 := hB.cell (p := ⟨p2, o2 + k * 4, none⟩) hbp2
            have hx1 := hB.cell (p := ⟨p2, o2 + k * 4 + 1, none⟩) hbp2
            have hx2 := hB.cell (p := ⟨p2, o2 + k * 4 + 2, none⟩) hbp2
            have hx3 := hB.cell (p := ⟨p2, o2 + k * 4 + 3, none⟩) hbp2
            rw [r0] at hx0
            rw [r1] at hx1
            rw [r2] at hx2
            rw [r3] at hx3
            simp only [Region.wanted, if_true]
            left
            go_simp
            exact ⟨b0, b1, b2, b3, b4, b5, true, true, b8, b9, _, _, _, _, _, _, _, _, _, _, rfl, rfl, hB, (by first | exact h0 | exact fun _ => rfl), (by first | exact h1 | exact fun _ => rfl), (by first | exact h2 | exact fun _ => rfl), (by first | exact h3 | exact fun _ => rfl), (by first | exact h4 | exact fun _ => rfl), (by first | exact h5 | exact fun _ => rfl), (by first | exact h6 | exact fun _ => rfl), fun _ => rfl, (by first | exact h8 | exact fun _ => rfl), (by first | exact h9 | exact fun _ => rfl)⟩
          | 8, ho =>
            simp at ho; subst ho
            have e3 : b3 = true := by simp [Region.binds] at hd; simp [hd]
            have e7 : b7 = true := by simp [Region.binds] at hd; simp [hd]
            subst e3
            subst e7
            obtain rfl := h3 rfl
            obtain rfl := h7 rfl
            simp only [Region.wanted, if_true]
            left
            go_simp
            refine (cC.out W).mono ?_
            rintro e W2 ⟨rfl, hb2⟩
            exact ⟨b0, b1, b2, true, b4, b5, b6, true, true, b9, _, _, _, _, _, _, _, _, _, _, rfl, rfl, hB.trans ((hb2).mono hBz), (by first | exact h0 | exact fun _ => rfl), (by first | exact h1 | exact fun _ => rfl), (by first | exact h2 | exact fun _ => rfl), (by first | exact h3 | exact fun _ => rfl), (by first | exact h4 | exact fun _ => rfl), (by first | exact h5 | exact fun _ => rfl), (by first | exact h6 | exact fun _ => rfl), (by first | exact h7 | exact fun _ => rfl), fun _ => rfl, (by first | exact h9 | exact fun _ => rfl)⟩
          | 9, ho =>
            simp at ho; subst ho
            have e8 : b8 = true := by simp [Region.binds] at hd; simp [hd]
            subst e8
            obtain rfl := h8 rfl
            simp only [Region.wanted, if_true]
            left
            go_simp
            exact ⟨b0, b1, b2, b3, b4, b5, b6, b7, true, true, _, _, _, _, _, _, _, _, _, _, rfl, rfl, hB, (by first | exact h0 | exact fun _ => rfl), (by first | exact h1 | exact fun _ => rfl), (by first | exact h2 | exact fun _ => rfl), (by first | exact h3 | exact fun _ => rfl), (by first | exact h4 | exact fun _ => rfl), (by first | exact h5 | exact fun _ => rfl), (by first | exact h6 | exact fun _ => rfl), (by first | exact h7 | exact fun _ => rfl), (by first | exact h8 | exact fun _ => rfl), fun _ => rfl⟩
          | i + 10, ho => simp at ho
        case fin =>
          rintro L a wf hr ⟨b0, b1, b2, b3, b4, b5, b6, b7, b8, b9, s6, s19, s20, s21, s22, s23, s24, s25, s26, s27, hL, rfl, hB, h0, h1, h2, h3, h4, h5, h6, h7, h8, h9⟩
          subst hL
          obtain rfl : b9 = true := hr 9 (by decide)
          obtain rfl := h9 rfl
          clear hr h0 h1 h2 h3 h4 h5 h6 h7 h8 h9
          have HF := Lib.hid (HW.out.trans (hB.mono HW.out.size))
          clear hB
          by_cases hd : d = 0
          · have HL2 := Lib.hid (HL.out.trans (if_pos hd))
            subst hd
            go_wp2
            go_roundw
            case rel => exact ⟨k + 1, by omega, by omega, by go_num, HL2, HF⟩
            case measure => simp [intOf]; omega
          · have HL2 := Lib.hid (HL.out.trans (if_neg hd))
            have hd1 : (d != 0) = true := by simpa using hd
            clear hd
            go_wp2
            go_ret
            exact ⟨by rw [HL2.out]; rfl, HF.out⟩
      · obtain rfl : k = b.length := by omega
        have HL := Lib.hid (show E = false from by rw [HK.out, List.drop_eq_nil_of_le (Nat.le_refl b.length)]; exact lexB_nil _)
        go_wp2
        go_ret
        exact ⟨by rw [HL.out]; rfl, HW.out⟩
    · obtain rfl : k = a.length := by omega
      have HL := Lib.hid (show E = false from by rw [HK.out, List.drop_eq_nil_of_le (Nat.le_refl a.length)]; rfl)
      go_wp2
      go_ret
      exact ⟨by rw [HL.out]; rfl, HW.out⟩

theorem addC_at {c : List Mod} : ∀ {L : List (List Mod)} {i : Nat} (hi : i < L.length), (∀ j (hj : j < L.length), j < i → endM L[j] ≠ endM c) → endM L[i] = endM c → addC L c = if lexB c L[i] = true then L.set i c else L
  | [], i, hi, _, _ => by simp at hi
  | d :: L, 0, _, _, h => by
    unfold addC
    simp only [List.getElem_cons_zero] at h ⊢
    rw [if_pos h]
    rfl
  | d :: L, i + 1, hi, hn, h => by
    have h0 : endM d ≠ endM c := hn 0 (by simp) (by omega)
    unfold addC
    rw [if_neg h0]
    simp only [List.getElem_cons_succ] at h ⊢
    rw [addC_at (L := L) (by simpa using hi) (fun j hj hji => by have := hn (j + 1) (by simpa using hj) (by omega); simpa using this) h]
    split <;> rfl
theorem addC_none {c : List Mod} : ∀ {L : List (List Mod)}, (∀ j (hj : j < L.length), endM L[j] ≠ endM c) → addC L c = L ++ [c]
  | [], _ => rfl
  | d :: L, hn => by
    have h0 : endM d ≠ endM c := hn 0 (by simp)
    unfold addC
    rw [if_neg h0, addC_none (L := L) fun j hj => by have := hn (j + 1) (by simpa using hj); simpa using this]
    rfl
theorem endM_at {c : List Mod} (h : 1 ≤ c.length) : endM c = c[c.length - 1]'(by omega) := by
  unfold endM
  rw [List.getLastD_eq_getLast?, List.getLast?_eq_getElem?, List.getElem?_eq_getElem (by omega)]
  rfl
end Go.Proofs.YtfiilbdkhelhgaaGreatDoor
