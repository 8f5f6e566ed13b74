/- Walk: the document's add. -/
import Derived.Test.YtfiilbdkhelhgaaGreatDoorWQ1
namespace Go.Proofs.YtfiilbdkhelhgaaGreatDoor
open Go.RowKit Go.Sort

theorem elRows : ElT Tryz.prog 72 31 1 24 := ElT.mk_ (z := .slice none 0 0) Tryz.underlying72 (by kernel_rfl) rfl (by decide)
/-- a chain: where it lies, its capacity, its modules -/
abbrev CW := Option Addr × Nat × List Mod
def encC (y : CW) : List Value := [.slice y.1 y.2.2.length y.2.1]
theorem encC_len (y : CW) : (encC y).length = 1 := rfl
/-- a chain in a row of its own -/
def OwnC (w : World) (b : Nat) (y : CW) : Prop := w.ownsRow b 30 4 (.slice y.1 y.2.2.length y.2.1) y.2.2.length (y.2.2.flatMap encM) ∧ 1 ≤ y.2.2.length ∧ y.2.2.length ≤ 1000000
/-- a row of chains -/
def ChR (w : World) (b : Nat) (v : Value) (L : List CW) : Prop := w.ownsRow b 31 1 v L.length (L.flatMap encC) ∧ ∀ y ∈ L, OwnC w b y
theorem OwnC.keep {w w' : World} {b : Nat} {y : CW} (h : OwnC w b y) (hb : Below w.heap.size w w') : OwnC w' b y := ⟨own_below2 h.1 hb, h.2⟩
theorem ChR.keep {w w' : World} {b : Nat} {v : Value} {L : List CW} (h : ChR w b v L) (hb : Below w.heap.size w w') : ChR w' b v L := ⟨own_below2 h.1 hb, fun y hy => (h.2 y hy).keep hb⟩
theorem ne_types {w : World} {b b' e e' s s' n n' : Nat} {v v' : Value} {xs xs' : List Value} (h : w.ownsRow b e s v n xs) (h' : w.ownsRow b' e' s' v' n' xs') (hne : e ≠ e') : v.ownBlock = none ∨ v.ownBlock ≠ v'.ownBlock := by
  rcases h.2 with ⟨rfl, _⟩ | ⟨g, cap, cur, rfl, _, hg, _⟩
  · exact .inl rfl
  · right
    rcases h'.2 with ⟨rfl, _⟩ | ⟨g', cap', cur', rfl, _, hg', _⟩
    · simp [Value.ownBlock]
    · intro e1
      obtain rfl : g = g' := by simpa [Value.ownBlock] using e1
      rw [hg] at hg'
      injection hg' with h1
      injection h1 with h2 h3
      exact hne h3
theorem OwnC.grown {w w' : World} {b b' n : Nat} {y : CW} {v : Value} {xs : List Value} (h : OwnC w b y) (hO : w.ownsRow b' 31 1 v n xs) (hg : w.grownBy w' v.ownBlock) : OwnC w' b y :=
  ⟨h.1.kept hg (ne_types h.1 hO (by decide)), h.2⟩
theorem OwnC.sl {w : World} {b : Nat} {y : CW} (h : OwnC w b y) : Sl w w.heap.size 4 encM y.1 y.2.2 := Acc.slAny (.inl h.1) encM_len (by decide)
theorem set_flat (L : List CW) (k : Nat) (x : CW) (_ : k < L.length) : (L.set k x).flatMap encC = (L.flatMap encC).set k (.slice x.1 x.2.2.length x.2.1) := by
  have h : ∀ L : List CW, L.flatMap encC = L.map fun y => Value.slice y.1 y.2.2.length y.2.1 := fun L => by
    induction L with
    | nil => rfl
    | cons y L ih => rw [List.flatMap_cons, ih]; rfl
  rw [h, h, List.map_set]
theorem flatc_at (L : List CW) (k : Nat) (hk : k < L.length) : (L.flatMap encC)[k]? = some (.slice L[k].1 L[k].2.2.length L[k].2.1) := by
  have h : ∀ L : List CW, L.flatMap encC = L.map fun y => Value.slice y.1 y.2.2.length y.2.1 := fun L => by
    induction L with
    | nil => rfl
    | cons y L ih => rw [List.flatMap_cons, ih]; rfl
  rw [h, List.getElem?_map, List.getElem?_eq_getElem hk]
  rfl

/-- what add hands back -/
def RetAdd (b : Nat) (w : World) (L : List (List Mod)) (e : Ending) (w' : World) : Prop := ∃ (A : Option Addr) (c : Nat) (L' : List CW), e = .returned (.slice A L'.length c) ∧ ChR w' b (.slice A L'.length c) L' ∧ L'.map (·.2.2) = L ∧ Below b w w'

theorem retAdd_old {b : Nat} {w w' : World} {A : Option Addr} {c : Nat} {L : List CW} {E : List (List Mod)} (h : ChR w' b (.slice A L.length c) L) (hE : E = L.map (·.2.2)) (hb : Below b w w') : RetAdd b w E (.returned (.slice A L.length c)) w' := ⟨A, c, L, rfl, h, hE.symm, hb⟩
theorem retAdd_set {b : Nat} {w w' : World} {g c k : Nat} {L : List CW} {x : CW} {E : List (List Mod)} (hk : k < L.length) (h : ChR w' b (.slice (some ⟨g, 0, none⟩) L.length c) L) (hx : OwnC w' b x) (hE : E = (L.map (·.2.2)).set k x.2.2) (hb : Below b w w') :
    RetAdd b w E (.returned (.slice (some ⟨g, 0, none⟩) L.length c)) (w'.setCell ⟨g, k, none⟩ (.slice x.1 x.2.2.length x.2.1)) := by
  obtain ⟨h1, h2⟩ := h.1.stored k (.slice x.1 x.2.2.length x.2.1)
  have hg : b ≤ g := (h.1.lt g rfl).1
  refine ⟨some ⟨g, 0, none⟩, c, L.set k x, by rw [List.length_set], ⟨?_, fun y hy => ?_⟩, by rw [hE, List.map_set], hb.setCell hg _⟩
  · rw [List.length_set, set_flat L k x hk]
    exact h1
  · rcases List.mem_or_eq_of_mem_set hy with h3 | rfl
    · exact (h.2 y h3).grown h.1 h2
    · exact hx.grown h.1 h2
theorem retAdd_new {b : Nat} {w W w' : World} {A A' : Option Addr} {c c' : Nat} {L : List CW} {x : CW} {E : List (List Mod)} (h : ChR W b (.slice A L.length c) L) (hx : OwnC W b x) (hE : E = L.map (·.2.2) ++ [x.2.2])
    (hO : w'.ownsRow b 31 1 (.slice A' (L.length + 1) c') (L.length + 1) (L.flatMap encC ++ [.slice x.1 x.2.2.length x.2.1])) (hg : W.grownBy w' (Value.slice A L.length c).ownBlock) (hb : Below b w w') :
    RetAdd b w E (.returned (.slice A' (L.length + 1) c')) w' := by
  refine ⟨A', c', L ++ [x], by simp, ⟨?_, fun y hy => ?_⟩, by rw [hE]; simp, hb⟩
  · rw [List.length_append, List.length_singleton, List.flatMap_append]
    exact hO
  · rcases List.mem_append.1 hy with h3 | h3
    · exact (h.2 y h3).grown h.1 hg
    · rw [List.mem_singleton.1 h3]
      exact hx.grown h.1 hg

set_option maxRecDepth 100000 in
set_option maxHeartbeats 4000000 in
theorem add_any (b : Nat) (A : Option Addr) (c : Nat) (L : List CW) (x : CW) (w : World) (hR : ChR w b (.slice A L.length c) L) (hx : OwnC w b x) (hb : b ≤ w.heap.size) (hL : L.length ≤ 100000) :
    Calls Tryz.prog 48 #[.slice A L.length c, .slice x.1 x.2.2.length x.2.1] w (RetAdd b w (addC (L.map (·.2.2)) x.2.2)) := by
  have HR := Lib.hid hR
  obtain ⟨Ax, cx, lx⟩ := x
  have HX := Lib.hid hx
  simp only
  generalize hQ : RetAdd b w (addC (L.map (·.2.2)) lx) = Q
  have hx1 : 1 ≤ lx.length := hx.2.1
  have hx2 : lx.length ≤ 1000000 := hx.2.2
  obtain ⟨nx, hnx⟩ : ∃ nx, nx = lx.length := ⟨_, rfl⟩
  obtain ⟨qx, hqx⟩ : ∃ qx, qx + 1 = lx.length := ⟨lx.length - 1, by omega⟩
  have HQX := Lib.hid hqx
  have hqlt : qx < lx.length := by omega
  have hxi : (qx : Int) < (lx.length : Int) := by omega
  have hxw : IntKind.i64.wrap ((lx.length : Int) - 1) = (qx : Int) := by simp [IntKind.wrap, IntKind.bits, IntKind.signed]; omega
  clear hR hx hnx hqx
  go_enter Tryz.func48, Tryz.ntmps48
  go_wp2
  go_loopw [5] (fun i wr => ∃ k : Nat, k ≤ L.length ∧ i = .int .i64 (k : Nat) ∧ Hid (∀ j (hj : j < L.length), j < k → endM L[j].2.2 ≠ endM lx) ∧ Hid (Below w.heap.size w wr)) (fun i _ => L.length - (intOf i).toNat)
  case atStart => exact ⟨0, Nat.zero_le _, rfl, Lib.hid (fun j _ h => absurd h (Nat.not_lt_zero _)), Lib.hid (Below.refl _ _)⟩
  case round =>
    obtain ⟨wo, hwo⟩ : ∃ wo, wo = wr := ⟨_, rfl⟩
    subst hwo
    obtain ⟨k, hk, rfl, HK, HW⟩ := hrel
    by_cases hlt : k < L.length
    · have hlt' : (k : Int) < (L.length : Int) := by omega
      have hk0 : (0 : Int) ≤ (k : Int) := by omega
      have HRw := Lib.hid (HR.out.keep HW.out)
      have HXw := Lib.hid (HX.out.keep HW.out)
      obtain ⟨g, cap, hAg, hgb, _⟩ := HRw.out.1.form (by omega)
      obtain ⟨rfl, rfl⟩ : A = some ⟨g, 0, none⟩ ∧ c = cap := by injection hAg with h1 _ h2; exact ⟨h1, h2⟩
      have hcell := HRw.out.1.cellAt k (by omega)
      rw [flatc_at L k hlt] at hcell
      have hfr := HRw.out.1.frozenAt k
      have HYw := Lib.hid (HRw.out.2 _ (List.getElem_mem hlt))
      have HAt := Lib.hid (fun (h : endM L[k].2.2 = endM lx) => addC_at (c := lx) (L := L.map (·.2.2)) (i := k) (by simpa using hlt) (fun j hj hjk => by simpa using HK.out j (by simpa using hj) hjk) (by simpa using h))
      have HNx := Lib.hid (fun (h : endM L[k].2.2 ≠ endM lx) => show ∀ j (hj : j < L.length), j < k + 1 → endM L[j].2.2 ≠ endM lx from fun j hj hjk => by
        by_cases e : j < k
        · exact HK.out j hj e
        · obtain rfl : j = k := by omega
          exact h)
      simp only [List.getElem_map] at HAt
      generalize hyk : L[k] = y at hcell HYw HAt HNx
      have HYK := Lib.hid hyk
      obtain ⟨Ay, cy, ly⟩ := y
      have hy1 : 1 ≤ ly.length := HYw.out.2.1
      have hy2 : ly.length ≤ 1000000 := HYw.out.2.2
      obtain ⟨qy, hqy⟩ : ∃ qy, qy + 1 = ly.length := ⟨ly.length - 1, by omega⟩
      have hyl : qy < ly.length := by omega
      have hyi : (qy : Int) < (ly.length : Int) := by omega
      have hyw : IntKind.i64.wrap ((ly.length : Int) - 1) = (qy : Int) := by simp [IntKind.wrap, IntKind.bits, IntKind.signed]; omega
      have hy0 : (0 : Int) ≤ (qy : Int) := by omega
      have hx0 : (0 : Int) ≤ (qx : Int) := by omega
      obtain ⟨b1, o1, hA1, _, g0, g1, g2, g3⟩ := HYw.out.sl.mod hyl
      obtain ⟨b2, o2, hA2, _, r0, r1, r2, r3⟩ := HXw.out.sl.mod hqlt
      have hey : endM ly = ly[qy] := by rw [endM_at hy1]; congr 1; omega
      have hex : endM lx = lx[qx] := by have := HQX.out; rw [endM_at hx1]; congr 1; omega
      simp only at HAt HNx hA1 hA2
      rw [hey, hex] at HAt
      have HNx2 := Lib.hid (fun (h : ly[qy] ≠ lx[qx]) => HNx.out (by rw [hey, hex]; exact h))
      clear HNx
      have heq := fun W => eq_mod ly[qy].1 lx[qx].1 ly[qy].2.1 ly[qy].2.2.1 ly[qy].2.2.2 lx[qx].2.1 lx[qx].2.2.1 lx[qx].2.2.2 W
      rw [mod_eta, mod_eta] at heq
      simp only at g0 g1 g2 g3 r0 r1 r2 r3
      generalize ly[qy] = ey at g0 g1 g2 g3 HAt HNx2 heq
      generalize lx[qx] = ex at r0 r1 r2 r3 HAt HNx2 heq
      have cLe := Lib.hid (fun W (hW : Below wo.heap.size wo W) => less_any Ax cx lx Ay cy ly W ((HXw.out.sl.below hW).more hW.size) ((HYw.out.sl.below hW).more hW.size) hx2 hy2)
      have hA2' := Lib.hid hA2
      have hA1' := Lib.hid hA1
      subst hA1 hA2
      clear hqy hey hex hyk
      by_cases he : ey = ex
      · rw [decide_eq_true he] at heq
        have hAt2 := HAt.out he
        generalize lexB lx ly = bq at cLe hAt2
        have HAt2 := Lib.hid hAt2
        clear he HAt HNx2 HK hAt2
        go_wp2
        go_quiet (fail)
        go_wp2_with fail
        refine (cLe.out _ (by first | exact Below.refl _ _ | exact (Below.refl _ _).drew | exact (Below.refl _ _).drewN _)).mono ?_
        rintro e w4 ⟨rfl, hb4⟩
        have HX4 := Lib.hid (show Below wo.heap.size wo w4 from by first | exact hb4 | exact (Below.refl _ _).drew.trans hb4 | exact ((Below.refl _ _).drewN _).trans hb4)
        have HR4 := Lib.hid (HRw.out.keep HX4.out)
        have HXx := Lib.hid (HXw.out.keep HX4.out)
        have HB4 := Lib.hid ((HW.out.trans (HX4.out.mono HW.out.size)).mono hb)
        clear hb4 cLe hcell hfr g0 g1 g2 g3 r0 r1 r2 r3 heq
        cases bq with
        | true =>
          have HE := Lib.hid (HAt2.out.trans (if_pos rfl))
          have hcell := HR4.out.1.cellAt k (by omega)
          rw [flatc_at L k hlt, HYK.out] at hcell
          have hfr := HR4.out.1.frozenAt k
          simp only at hcell
          have HF := Lib.hid (show Q (.returned (.slice (some ⟨g, 0, none⟩) L.length c)) (w4.setCell ⟨g, k, none⟩ (.slice (some ⟨b2, o2, none⟩) lx.length cx)) from by
            rw [← hQ]
            exact retAdd_set (x := (some ⟨b2, o2, none⟩, cx, lx)) hlt HR4.out HXx.out HE.out HB4.out)
          clear HAt2
          go_wp2
          exact HF.out
        | false =>
          have HE := Lib.hid (HAt2.out.trans (if_neg (by simp)))
          have HF := Lib.hid (show Q (.returned (.slice (some ⟨g, 0, none⟩) L.length c)) w4 from by
            rw [← hQ]
            exact retAdd_old HR4.out HE.out HB4.out)
          clear HAt2
          go_wp2
          exact HF.out
      · rw [decide_eq_false he] at heq
        have HN2 := Lib.hid (HNx2.out he)
        clear he HAt HNx2 HK
        go_wp2
        go_quiet (fail)
        go_wp2
        go_roundw
        case rel => exact ⟨k + 1, by omega, by go_num, HN2, by first | exact HW | exact Lib.hid HW.out.drew | exact Lib.hid (HW.out.drewN _)⟩
        case measure => simp [intOf]; omega
    · obtain rfl : k = L.length := by omega
      have HE := Lib.hid (addC_none (c := lx) (L := L.map (·.2.2)) (fun j hj => by simpa using HK.out j (by simpa using hj) (by simpa using hj)))
      have HWA := Lib.hid (show Below wo.heap.size wo (wo.alloc (.cells #[.slice Ax lx.length cx] 31)) from (Below.refl _ _).alloc (Nat.le_refl _) _)
      have HRA := Lib.hid ((HR.out.keep HW.out).keep HWA.out)
      have HXA := Lib.hid ((HX.out.keep HW.out).keep HWA.out)
      have HBA := Lib.hid ((HW.out.trans (HWA.out.mono HW.out.size)).mono hb)
      have b0 : L.length + 1 ≤ maxLen := by unfold maxLen; omega
      have b1 : (L.length + 1) * 24 ≤ 140737488355328 := by omega
      have hbz : b ≤ (wo.alloc (.cells #[.slice Ax lx.length cx] 31)).heap.size := Nat.le_trans hb HBA.out.size
      clear HK
      go_wp2_with (at_builtin; refine wpList_own rfl (.tmp 42) (.tmp 44) rfl b elRows (.slice A L.length c) L.length _ rfl HRA.out.1 _ 1 _ _ rfl (Src.lit _ 1 _ _ 1 rfl) (by decide) (by simp [Value.oneCell']) b0 b1 hbz ?_; intro v' w7 hown7 hgrow7 hb7; obtain ⟨A7, c7, rfl⟩ := Acc.shape (.inl hown7); have HOWN := Lib.hid hown7; have HGR := Lib.hid hgrow7; have HB7 := Lib.hid hb7; clear hown7 hgrow7 hb7)
      have HF := Lib.hid (show Q (.returned (.slice A7 (L.length + 1) c7)) w7 from by
        rw [← hQ]
        exact retAdd_new HRA.out HXA.out HE.out HOWN.out HGR.out (HBA.out.trans HB7.out))
      exact HF.out
end Go.Proofs.YtfiilbdkhelhgaaGreatDoor
