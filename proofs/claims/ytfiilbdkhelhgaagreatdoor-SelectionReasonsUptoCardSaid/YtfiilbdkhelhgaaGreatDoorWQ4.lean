/- Walk: the document's Reason. -/
import Derived.Test.YtfiilbdkhelhgaaGreatDoorWQ3
namespace Go.Proofs.YtfiilbdkhelhgaaGreatDoor
open Go.RowKit Go.Sort

theorem own_mono {w : World} {b b' e s n : Nat} {v : Value} {xs : List Value} (h : w.ownsRow b e s v n xs) (hb : b' ≤ b) : w.ownsRow b' e s v n xs := by
  refine ⟨h.1, ?_⟩
  rcases h.2 with h1 | ⟨g, cap, cur, h1, h2, h3⟩
  · exact .inl h1
  · exact .inr ⟨g, cap, cur, h1, Nat.le_trans hb h2, h3⟩
theorem OwnC.mono {w : World} {b b' : Nat} {y : CW} (h : OwnC w b y) (hb : b' ≤ b) : OwnC w b' y := ⟨own_mono h.1 hb, h.2⟩
theorem ChR.mono {w : World} {b b' : Nat} {v : Value} {L : List CW} (h : ChR w b v L) (hb : b' ≤ b) : ChR w b' v L := ⟨own_mono h.1 hb, fun y hy => (h.2 y hy).mono hb⟩
theorem ChR.nil (w : World) (b : Nat) : ChR w b (.slice none 0 0) [] := ⟨World.ownsRow_nil _ _ _ _, by simp⟩
theorem OwnC.lit (w : World) (b : Nat) (x : Mod) (hb : b ≤ w.heap.size) : OwnC (w.alloc (.cells #[.string ⟨x.1.toArray⟩, .int .i64 x.2.1, .int .i64 x.2.2.1, .int .i64 x.2.2.2] 30)) b (some ⟨w.heap.size, 0, none⟩, 1, [x]) :=
  ⟨World.ownsRow_lit (base := b) (e := 30) (size := 4) w #[.string ⟨x.1.toArray⟩, .int .i64 x.2.1, .int .i64 x.2.2.1, .int .i64 x.2.2.2] 1 hb (by decide) rfl, by simp, by simp⟩
theorem layer0_take {l : List Mod} {k : Nat} (hk : k < l.length) : layer0 (l.take (k + 1)) = addC (layer0 (l.take k)) [l[k]] := by
  unfold layer0
  rw [List.take_succ_eq_append_getElem hk, List.foldl_append]
  rfl
theorem nextC_take {R : Regy} {L : List (List Mod)} {k : Nat} (hk : k < L.length) : nextC R (L.take (k + 1)) = (reqOf R (endM L[k])).foldl (fun N x => addC N (L[k] ++ [x])) (nextC R (L.take k)) := by
  unfold nextC
  rw [List.take_succ_eq_append_getElem hk, List.foldl_append]
  rfl
theorem ffold_take {l : List Mod} {c : List Mod} {N : List (List Mod)} {k : Nat} (hk : k < l.length) : (l.take (k + 1)).foldl (fun N x => addC N (c ++ [x])) N = addC ((l.take k).foldl (fun N x => addC N (c ++ [x])) N) (c ++ [l[k]]) := by
  rw [List.take_succ_eq_append_getElem hk, List.foldl_append]
  rfl
def sres : Option (List Mod) → List Mod × Int
  | some c => (c, 0)
  | none => ([], 7)
theorem find_end {L : List CW} {g : Mod} {k : Nat} (hk : k < L.length) (hn : ∀ j (hj : j < L.length), j < k → endM L[j].2.2 ≠ g) (h : endM L[k].2.2 = g) : (L.map (·.2.2)).find? (fun c => decide (endM c = g)) = some L[k].2.2 := by
  rw [List.find?_eq_some_iff_getElem]
  exact ⟨by simpa using h, k, by simpa using hk, by simp, fun j hj => by simpa using hn j (by omega) hj⟩
theorem find_no {L : List CW} {g : Mod} (hn : ∀ j (hj : j < L.length), endM L[j].2.2 ≠ g) : (L.map (·.2.2)).find? (fun c => decide (endM c = g)) = none := by
  rw [List.find?_eq_none]
  intro c hc
  obtain ⟨y, hy, rfl⟩ := List.mem_map.1 hc
  obtain ⟨j, hj, rfl⟩ := List.mem_iff_getElem.1 hy
  simpa using hn j hj
theorem search_hit {R : Regy} {g : Mod} {n : Nat} {L : List (List Mod)} {c : List Mod} (h : L.find? (fun c => decide (endM c = g)) = some c) : search R g (n + 1) L = some c := by
  unfold search
  rw [h]
theorem search_no {R : Regy} {g : Mod} {n : Nat} {L : List (List Mod)} (h : L.find? (fun c => decide (endM c = g)) = none) : search R g (n + 1) L = search R g n (nextC R L) := by
  conv => lhs; unfold search
  rw [h]
theorem nodup_same {A B : List Mod} (ha : A.Nodup) (hb : B.Nodup) (h : ∀ x, x ∈ A ↔ x ∈ B) : A.length = B.length := ((List.perm_ext_iff_of_nodup ha hb).2 h).length_eq
theorem retB_ch {w w' : World} {b : Nat} {r : List Mod × Int} {y : CW} (h : r = (y.2.2, 0)) (hy : OwnC w' b y) (hb : Below w.heap.size w w') : RetB w r (.returned (.tuple #[.slice y.1 y.2.2.length y.2.1, .int .i64 0])) w' := by
  subst h
  have hA : Acc w' b 30 4 (.slice y.1 y.2.2.length y.2.1) y.2.2.length (y.2.2.flatMap encM) := .inl hy.1
  exact ⟨y.1, y.2.1, rfl, hA.cap, hy.sl, hb⟩

set_option maxRecDepth 100000 in
set_option maxHeartbeats 8000000 in
theorem rReason_any (A : Option Addr) (c : Nat) (Y : List ManW) (y0 : ManW) (path : List UInt8) (w : World) (hY : RegOk w w.heap.size A Y) (h0 : ManOk w w.heap.size y0) :
    Calls Tryz.prog 20 #[.slice A Y.length c, .agg #[.string ⟨y0.1.1.toArray⟩, .int .i64 y0.1.2.1, .int .i64 y0.1.2.2.1, .int .i64 y0.1.2.2.2, .slice y0.2.1 y0.2.2.2.length y0.2.2.1], .string ⟨path.toArray⟩] w
      (RetB w (rreasonP (regW Y) y0.1 y0.2.2.2 path)) := by
  obtain ⟨rm, A0, c0, l0⟩ := y0
  simp only
  have HY := Lib.hid hY
  have H0 := Lib.hid h0
  have hYl := hY.2.2
  have hl0 : l0.length ≤ 100 := h0.2.1
  have hb0 : Below w.heap.size w (w.alloc (.cells (manA rm A0 l0.length c0) 33)) := (Below.refl _ _).alloc (Nat.le_refl _) _
  have q0 : Blk (w.alloc (.cells (manA rm A0 l0.length c0) 33)) w.heap.size 33 (manA rm A0 l0.length c0) := Blk.new _ _ _
  have cB0 := fun W (hW : Below w.heap.size w W) => rBuildList_any A c Y (rm, A0, c0, l0) W (HY.out.step hW) ((H0.out.keep hW).more hW.size)
  obtain ⟨r, hr⟩ : ∃ r, r = rreasonP (regW Y) rm l0 path := ⟨_, rfl⟩
  rw [← hr]
  unfold rreasonP at hr
  simp only at cB0
  have hL0 : (buildP (regW Y) rm l0).2 = 0 → 1 ≤ (buildP (regW Y) rm l0).1.length := fun h => by
    rw [(buildP_ok h).2.2.2]
    simp [listP]
  have hU : (univ (regW Y) l0).length ≤ 10100 := by
    have h3 := univ_len (regW Y) l0 (by simpa [regW] using hYl) (fun x hx => by
      obtain ⟨y, hy, rfl⟩ := List.mem_map.1 hx
      exact (HY.out.2.1 y hy).2.1)
    omega
  have hLl : (buildP (regW Y) rm l0).1.length ≤ 10200 := by
    have h1 : (listP (regW Y) rm l0).length ≤ (univ (regW Y) l0).length + 1 := by
      unfold listP
      rw [List.length_cons, msort_len]
      have h1 : (topL rm.1 (needL (regW Y) l0)).length ≤ (needL (regW Y) l0).length := List.length_filter_le _ _
      have h2 := nodup_len (needL (regW Y) l0) (univ (regW Y) l0) (needL_nodup _ _) fun x hx => ((needL_mem _ _ _).1 hx).univ
      omega
    unfold buildP
    split
    · split
      · split
        · show (listP (regW Y) rm l0).length ≤ _
          omega
        · simp
      · simp
    · simp
  generalize buildP (regW Y) rm l0 = B at cB0 hr hL0 hLl
  obtain ⟨L, e1⟩ := B
  unfold RetB at cB0
  simp only at cB0 hr hL0 hLl
  have HR := Lib.hid hr
  have cB := Lib.hid cB0
  have Q0 := Lib.hid q0
  have HB0 := Lib.hid hb0
  clear hY h0 hb0 q0 cB0 hr
  unfold manA at HB0 Q0
  generalize hQ : RetB w r = Q
  by_cases he1 : e1 = 0
  · subst he1
    have hL1 := hL0 rfl
    have HR1 := Lib.hid (HR.out.trans (if_pos rfl))
    clear hL0 HR
    go_enter Tryz.func20, Tryz.ntmps20
    go_wp2_with fail
    refine (cB.out _ HB0.out).mono ?_
    rintro e w1 ⟨A1, c1, rfl, hc1, hS1, hb1⟩
    have HB1 := Lib.hid (HB0.out.trans (hb1.mono HB0.out.size))
    have R0 := Lib.hid (Q0.out.keep hb1)
    have rc : ∀ X, (Instr.slice 31 (.slice A1 L.length c1) (some (.int .i64 1)) none none).run Tryz.prog X = .ok (.slice (cutA A1 c1 1 4) (L.length - 1) (c1 - 1)) X := fun X => run_cut_lo elMod A1 L.length c1 1 hL1 X
    have hdl : (L.drop 1).length = L.length - 1 := by rw [List.length_drop]
    have cG0 := greatest_any (cutA A1 c1 1 4) (c1 - 1) (L.drop 1) path w1 (Sl.drop hS1 c1 1 hc1) (by omega)
    rw [hdl] at cG0
    unfold RetG at cG0
    generalize greatestP (L.drop 1) path = go at cG0 HR1
    have cG := Lib.hid cG0
    clear hb1 cB Q0 HB0 hS1 hc1 cG0 hdl hL1
    go_wp2_with fail
    refine cG.out.mono ?_
    rintro e w2 ⟨rfl, hb2⟩
    have HB2 := Lib.hid (HB1.out.trans (hb2.mono HB1.out.size))
    have S0 := Lib.hid (R0.out.keep hb2)
    clear hb2 cG R0 rc
    cases go with
    | none =>
      have HR2 := Lib.hid (show r = ([], 7) from HR1.out)
      have HF := Lib.hid (HB2.out.alloc HB2.out.size (.cells (modA ((none : Option Mod).getD zmod)) 30))
      unfold modA at HF
      clear HR1
      go_wp2
      rw [← hQ]
      exact retB_nil HR2.out HF.out
    | some g =>
      have hgs : (some g : Option Mod).getD zmod = g := rfl
      have hgi : (some g : Option Mod).isSome = true := rfl
      rw [hgs, hgi]
      have HR2 := Lib.hid (show r = sres (search (regW Y) g (needL (regW Y) l0).length (layer0 l0)) from by
        rw [HR1.out]
        show (match search (regW Y) g (needL (regW Y) l0).length (layer0 l0) with | some c => (c, (0 : Int)) | none => ([], 7)) = _
        cases search (regW Y) g (needL (regW Y) l0).length (layer0 l0) <;> rfl)
      have HA2 := Lib.hid (show Below w2.heap.size w2 (w2.alloc (.cells #[.string ⟨g.1.toArray⟩, .int .i64 g.2.1, .int .i64 g.2.2.1, .int .i64 g.2.2.2] 30)) from (Below.refl _ _).alloc (Nat.le_refl _) _)
      have U0 := Lib.hid (S0.out.keep HA2.out)
      have UG := Lib.hid (show Blk (w2.alloc (.cells #[.string ⟨g.1.toArray⟩, .int .i64 g.2.1, .int .i64 g.2.2.1, .int .i64 g.2.2.2] 30)) w2.heap.size 30 (modA g) from Blk.new _ _ _)
      have HBG := Lib.hid (HB2.out.trans (HA2.out.mono HB2.out.size))
      have hzG : (w2.alloc (.cells #[.string ⟨g.1.toArray⟩, .int .i64 g.2.1, .int .i64 g.2.2.1, .int .i64 g.2.2.2] 30)).heap.size = w2.heap.size + 1 := World.size_alloc _ _
      have hw2 := HB2.out.size
      obtain ⟨W2, hW2⟩ : ∃ W, W = w2.alloc (.cells #[.string ⟨g.1.toArray⟩, .int .i64 g.2.1, .int .i64 g.2.2.1, .int .i64 g.2.2.2] 30) := ⟨_, rfl⟩
      rw [← hW2] at U0 UG HBG hzG
      have HW2 := Lib.hid hW2
      clear hgs hgi HR1 S0 HA2 hW2
      go_wp2_with fail
      go_loopw [12, 13] (fun v i wr => ∃ (k : Nat) (Av : Option Addr) (cv : Nat) (LC : List CW), k ≤ l0.length ∧ i = .int .i64 (k : Nat) ∧ v = .slice Av LC.length cv ∧ Hid (ChR wr (w2.heap.size + 1) (.slice Av LC.length cv) LC) ∧ Hid (LC.map (·.2.2) = layer0 (l0.take k)) ∧ Hid (GoodL (regW Y) l0 1 (LC.map (·.2.2))) ∧ Hid (Below (w2.heap.size + 1) W2 wr)) (fun _ i _ => l0.length - (intOf i).toNat)
      case atStart =>
        rw [← HW2.out]
        exact ⟨0, none, 0, [], Nat.zero_le _, rfl, rfl, Lib.hid (ChR.nil _ _), Lib.hid rfl, Lib.hid (GoodL.nil _ _ _), Lib.hid (Below.refl _ _)⟩
      case round =>
        obtain ⟨wo, hwo⟩ : ∃ wo, wo = wr := ⟨_, rfl⟩
        subst hwo
        obtain ⟨k, Av, cv, LC, hk, rfl, rfl, HC, HE, HGd, HB⟩ := hrel
        have HBN := Lib.hid (HBG.out.trans (HB.out.mono (by omega)))
        have hzo := HB.out.size
        have UW := Lib.hid (U0.out.keep (by rw [hzG]; exact HB.out))
        obtain ⟨r0, r1, r2, r3, r4⟩ := manC (A := A0) (n := l0.length) (c := c0) (m := rm) UW.out
        by_cases hlt : k < l0.length
        · have hlt' : (k : Int) < (l0.length : Int) := by omega
          have HSl : Sl wo w.heap.size 4 encM A0 l0 := H0.out.1.below HBN.out
          obtain ⟨bb, off, hA0, hbB, g0, g1, g2, g3⟩ := HSl.mod hlt
          clear HSl
          have HT := Lib.hid (layer0_take hlt)
          have HX0 := Lib.hid (show l0[k] ∈ l0 from List.getElem_mem hlt)
          generalize l0[k] = x at g0 g1 g2 g3 HT HX0
          have HA0 := Lib.hid hA0
          rw [hA0] at r4
          clear hA0
          have HX := Lib.hid (show Below wo.heap.size wo (wo.alloc (.cells #[.string ⟨x.1.toArray⟩, .int .i64 x.2.1, .int .i64 x.2.2.1, .int .i64 x.2.2.2] 30)) from (Below.refl _ _).alloc (Nat.le_refl _) _)
          have hLC := HGd.out.len
          rw [List.length_map] at hLC
          have cA := Lib.hid (show Calls Tryz.prog 48 #[.slice Av LC.length cv, .slice (some ⟨wo.heap.size, 0, none⟩) 1 1] (wo.alloc (.cells #[.string ⟨x.1.toArray⟩, .int .i64 x.2.1, .int .i64 x.2.2.1, .int .i64 x.2.2.2] 30)) (RetAdd (w2.heap.size + 1) (wo.alloc (.cells #[.string ⟨x.1.toArray⟩, .int .i64 x.2.1, .int .i64 x.2.2.1, .int .i64 x.2.2.2] 30)) (addC (LC.map (·.2.2)) [x])) from
            add_any (w2.heap.size + 1) Av cv LC (some ⟨wo.heap.size, 0, none⟩, 1, [x]) _ (HC.out.keep HX.out) (OwnC.lit wo _ x (by omega)) (by have := HX.out.size; omega) (by omega))
          have HGn := Lib.hid (HGd.out.add (c := [x]) ⟨x, .one HX0.out⟩ rfl)
          clear hLC
          go_wp2_with fail
          refine cA.out.mono ?_
          rintro e w4 ⟨A8, c8, NC, rfl, hR8, hE8, hb8⟩
          have HR8 := Lib.hid hR8
          have HE8 := Lib.hid hE8
          have HB8 := Lib.hid ((HB.out.trans (HX.out.mono (by omega))).trans hb8)
          clear hR8 hE8 hb8 cA
          go_wp2
          go_roundw
          case rel => exact ⟨k + 1, A8, c8, NC, by omega, by go_num, rfl, HR8, Lib.hid (by rw [HE8.out, HT.out, ← HE.out]), Lib.hid (by rw [HE8.out]; exact HGn.out), HB8⟩
          case measure => simp [intOf]; omega
        · obtain rfl : k = l0.length := by omega
          rw [List.take_of_length_le (Nat.le_refl _)] at HE
          have cN := Lib.hid (Needed_any A c Y A0 c0 l0 wo (HY.out.step HBN.out) ((H0.out.1.below HBN.out).more HBN.out.size) hl0)
          go_wp2_with fail
          refine cN.out.mono ?_
          rintro e w3 ⟨S, AS, cS, rfl, hnd, hmem, _, hb3⟩
          have HMO := Lib.hid (show S.length = (needL (regW Y) l0).length from nodup_same hnd (needL_nodup _ _) fun m => (hmem m).trans (needL_mem _ _ _).symm)
          have hSl : S.length ≤ 10100 := Nat.le_trans (nodup_len S _ hnd fun m hm => ((hmem m).1 hm).univ) hU
          rw [← HMO.out] at HR2
          generalize S.length = mo at HR2 hSl
          have HB3 := Lib.hid (HB.out.trans (hb3.mono (by omega)))
          have HC3 := Lib.hid (HC.out.keep hb3)
          have HR3 := Lib.hid (show r = sres (search (regW Y) g (mo - 0) (LC.map (·.2.2))) from by rw [HE.out]; exact HR2.out)
          clear hb3 cN hnd hmem HR2 HE HMO HC UW r0 r1 r2 r3 r4
          go_wp2_with fail
          go_loopw [12, 15] (fun v i wr => ∃ (n : Nat) (Av : Option Addr) (cv : Nat) (LC : List CW), n ≤ mo ∧ i = .int .i64 (n : Nat) ∧ v = .slice Av LC.length cv ∧ Hid (ChR wr (w2.heap.size + 1) (.slice Av LC.length cv) LC) ∧ Hid (GoodL (regW Y) l0 (n + 1) (LC.map (·.2.2))) ∧ Hid (r = sres (search (regW Y) g (mo - n) (LC.map (·.2.2)))) ∧ Hid (Below (w2.heap.size + 1) W2 wr)) (fun _ i _ => mo - (intOf i).toNat)
          case atStart => exact ⟨0, Av, cv, LC, Nat.zero_le _, rfl, rfl, HC3, HGd, HR3, HB3⟩
          case round =>
            obtain ⟨wl, hwl⟩ : ∃ wl, wl = wr := ⟨_, rfl⟩
            subst hwl
            clear HR3 HC3 HGd HB3 HB HBN hzo
            obtain ⟨n, Av, cv, LC, hn, rfl, rfl, HC, HGd, HRn, HB⟩ := hrel
            have HBN := Lib.hid (HBG.out.trans (HB.out.mono (by omega)))
            have hzo := HB.out.size
            by_cases hlt : n < mo
            · have hlt' : (n : Int) < (mo : Int) := by omega
              have HRs := Lib.hid (show r = sres (search (regW Y) g ((mo - (n + 1)) + 1) (LC.map (·.2.2))) from by rw [HRn.out]; congr 2; omega)
              have hLC : LC.length ≤ 10100 := by have := HGd.out.len; rw [List.length_map] at this; omega
              clear HRn
              go_wp2_with fail
              go_loopw [16, 17] (fun v i wr => ∃ (k : Nat) (An : Option Addr) (cn : Nat) (NC : List CW), k ≤ LC.length ∧ i = .int .i64 (k : Nat) ∧ v = .slice An NC.length cn ∧ Hid (ChR wr wl.heap.size (.slice An NC.length cn) NC) ∧ Hid (GoodL (regW Y) l0 (n + 2) (NC.map (·.2.2))) ∧ Hid (NC.map (·.2.2) = nextC (regW Y) ((LC.map (·.2.2)).take k)) ∧ Hid (∀ j (hj : j < LC.length), j < k → endM LC[j].2.2 ≠ g) ∧ Hid (Below wl.heap.size wl wr)) (fun _ i _ => LC.length - (intOf i).toNat)
              case atStart => exact ⟨0, none, 0, [], Nat.zero_le _, rfl, rfl, Lib.hid (ChR.nil _ _), Lib.hid (GoodL.nil _ _ _), Lib.hid rfl, Lib.hid (fun j _ h => absurd h (Nat.not_lt_zero _)), Lib.hid (Below.refl _ _)⟩
              case round =>
                obtain ⟨wi, hwi⟩ : ∃ wi, wi = wr := ⟨_, rfl⟩
                subst hwi
                obtain ⟨k, An, cn, NC, hk, rfl, rfl, HNC, HNG, HNE, HNO, HBi⟩ := hrel
                have hzi := HBi.out.size
                by_cases hklt : k < LC.length
                · have hklt' : (k : Int) < (LC.length : Int) := by omega
                  have hk0 : (0 : Int) ≤ (k : Int) := by omega
                  obtain ⟨gc, cap, hAg, _, hgl⟩ := HC.out.1.form (by omega)
                  obtain ⟨rfl, rfl⟩ : Av = some ⟨gc, 0, none⟩ ∧ cv = cap := by injection hAg with h1 _ h2; exact ⟨h1, h2⟩
                  have HCi := Lib.hid (HC.out.keep HBi.out)
                  have hcell := HCi.out.1.cellAt k (by omega)
                  rw [flatc_at LC k hklt] at hcell
                  have hgc : gc < wi.heap.size := by omega
                  have hcell0 := HC.out.1.cellAt k (by omega)
                  rw [flatc_at LC k hklt] at hcell0
                  have HYw := Lib.hid (HCi.out.2 _ (List.getElem_mem hklt))
                  have HYl := Lib.hid (HC.out.2 _ (List.getElem_mem hklt))
                  have HWk := Lib.hid (HGd.out.wk LC[k].2.2 (List.mem_map.2 ⟨_, List.getElem_mem hklt, rfl⟩))
                  have HFd := Lib.hid (fun h => find_end (L := LC) (g := g) hklt HNO.out h)
                  have HNx := Lib.hid (show nextC (regW Y) ((LC.map (·.2.2)).take (k + 1)) = (reqOf (regW Y) (endM LC[k].2.2)).foldl (fun N x => addC N (LC[k].2.2 ++ [x])) (nextC (regW Y) ((LC.map (·.2.2)).take k)) from by
                    rw [nextC_take (by simpa using hklt)]
                    simp)
                  have HNk := Lib.hid (fun (h : endM LC[k].2.2 ≠ g) => show ∀ j (hj : j < LC.length), j < k + 1 → endM LC[j].2.2 ≠ g from fun j hj hjk => by
                    by_cases e : j < k
                    · exact HNO.out j hj e
                    · obtain rfl : j = k := by omega
                      exact h)
                  generalize LC[k] = y at hcell hcell0 HYw HYl HWk HFd HNx HNk
                  obtain ⟨Ay, cy, ly⟩ := y
                  simp only at hcell hcell0 HFd HNx HNk HWk
                  have hy1 : 1 ≤ ly.length := HYw.out.2.1
                  have hy2 : ly.length ≤ 1000000 := HYw.out.2.2
                  have hyn : ly.length = n + 1 := HWk.out.2
                  have HYN := Lib.hid hyn
                  clear hyn
                  obtain ⟨q, hq⟩ : ∃ q, q + 1 = ly.length := ⟨ly.length - 1, by omega⟩
                  have hql : q < ly.length := by omega
                  have hqi : (q : Int) < (ly.length : Int) := by omega
                  have hqw : IntKind.i64.wrap ((ly.length : Int) - 1) = (q : Int) := by simp [IntKind.wrap, IntKind.bits, IntKind.signed]; omega
                  have hq0 : (0 : Int) ≤ (q : Int) := by omega
                  obtain ⟨p1, o1, hA1, hp1, g0, g1, g2, g3⟩ := HYw.out.sl.mod hql
                  have hey : endM ly = ly[q] := by rw [endM_at hy1]; congr 1; omega
                  simp only at hA1 g0 g1 g2 g3
                  rw [hey] at HFd HNx HNk
                  have HEY := Lib.hid hey
                  generalize ly[q] = x at g0 g1 g2 g3 HFd HNx HNk HEY
                  have HA1 := Lib.hid hA1
                  subst hA1
                  have H0c := Lib.hid hcell0
                  clear hcell0
                  have heq := fun W => eq_mod x.1 g.1 x.2.1 x.2.2.1 x.2.2.2 g.2.1 g.2.2.1 g.2.2.2 W
                  rw [mod_eta, mod_eta] at heq
                  clear hq hey hAg
                  go_upto_region 20 with fail
                  apply wp_region_each (by kernel_rfl) (EndInv wi.heap.size wi (.pointer (some ⟨gc, k, none⟩)) (.pointer (some ⟨p1, o1 + q * 4, none⟩)) (.slice (some ⟨p1, o1, none⟩) ly.length cy) x ly.length q _ _ _ _ _ _ _ _ _ _ _ _ _ _ _ _ _ _ _ _ _ _ _ _ _ _ _ _ _ _ _ _ _ _ _ _ _ _ _ _ _ _ _ _ _ _ _ _ _ _ _ _ _ _ _ _ _ _ _ _ _ _ _ _ _ _ _ _ _ _ _ _ _ _ _ _ _ _ _ _ _ _ _ _ _ _ _ _ _ _ _ _ _ _ _ _ _ _ _ _) ?hsz ?h0 ?step (by kernel_rfl) ?fin
                  case h0 =>
                    exact ⟨false, false, false, false, false, false, false, false, false, false, false, false, false, false, _, _, _, _, _, _, _, _, _, _, _, _, _, rfl, rfl, (Below.refl _ _).drew, fun h => absurd h (by decide), fun h => absurd h (by decide), fun h => absurd h (by decide), fun h => absurd h (by decide), fun h => absurd h (by decide), fun h => absurd h (by decide), fun h => absurd h (by decide), fun h => absurd h (by decide), fun h => absurd h (by decide), fun h => absurd h (by decide), fun h => absurd h (by decide), fun h => absurd h (by decide), fun h => absurd h (by decide), fun h => absurd h (by decide)⟩
                  case hsz =>
                    rintro L a w ⟨b0, b1, b2, b3, b4, b5, b6, b7, b8, b9, b10, b11, b12, b13, s18, s70, s71, s72, s73, s74, s75, s76, s77, s78, s79, s80, s81, rfl, _⟩
                    rfl
                  case step =>
                    rintro i o ho L a W hn hd ⟨b0, b1, b2, b3, b4, b5, b6, b7, b8, b9, b10, b11, b12, b13, s18, s70, s71, s72, s73, s74, s75, s76, s77, s78, s79, s80, s81, rfl, rfl, hB, h0, h1, h2, h3, h4, h5, h6, h7, h8, h9, h10, h11, h12, h13⟩
                    have hBz := hB.size
                    match i, ho with
                    | 0, ho =>
                      simp at ho; subst ho
                      simp only [Region.wanted, if_true]
                      left
                      go_simp
                      exact ⟨true, b1, b2, b3, b4, b5, b6, b7, b8, b9, b10, b11, b12, b13, _, _, _, _, _, _, _, _, _, _, _, _, _, rfl, rfl, hB, fun _ => rfl, (by first | exact h1 | exact fun _ => rfl), (by first | exact h2 | exact fun _ => rfl), (by first | exact h3 | exact fun _ => rfl), (by first | exact h4 | exact fun _ => rfl), (by first | exact h5 | exact fun _ => rfl), (by first | exact h6 | exact fun _ => rfl), (by first | exact h7 | exact fun _ => rfl), (by first | exact h8 | exact fun _ => rfl), (by first | exact h9 | exact fun _ => rfl), (by first | exact h10 | exact fun _ => rfl), (by first | exact h11 | exact fun _ => rfl), (by first | exact h12 | exact fun _ => rfl), (by first | exact h13 | exact fun _ => rfl)⟩
                    | 1, ho =>
                      simp at ho; subst ho
                      simp only [Region.wanted, if_true]
                      left
                      go_simp
                      exact ⟨b0, true, b2, b3, b4, b5, b6, b7, b8, b9, b10, b11, b12, b13, _, _, _, _, _, _, _, _, _, _, _, _, _, rfl, rfl, hB, (by first | exact h0 | exact fun _ => rfl), fun _ => rfl, (by first | exact h2 | exact fun _ => rfl), (by first | exact h3 | exact fun _ => rfl), (by first | exact h4 | exact fun _ => rfl), (by first | exact h5 | exact fun _ => rfl), (by first | exact h6 | exact fun _ => rfl), (by first | exact h7 | exact fun _ => rfl), (by first | exact h8 | exact fun _ => rfl), (by first | exact h9 | exact fun _ => rfl), (by first | exact h10 | exact fun _ => rfl), (by first | exact h11 | exact fun _ => rfl), (by first | exact h12 | exact fun _ => rfl), (by first | exact h13 | exact fun _ => rfl)⟩
                    | 2, ho =>
                      simp at ho; subst ho
                      have e0 : b0 = true := by simp [Region.binds] at hd; simp [hd]
                      have e1 : b1 = true := by simp [Region.binds] at hd; simp [hd]
                      subst e0
                      subst e1
                      obtain rfl := h0 rfl
                      obtain rfl := h1 rfl
                      simp only [Region.wanted, if_true]
                      left
                      go_simp
                      exact ⟨true, true, true, b3, b4, b5, b6, b7, b8, b9, b10, b11, b12, b13, _, _, _, _, _, _, _, _, _, _, _, _, _, rfl, rfl, hB, (by first | exact h0 | exact fun _ => rfl), (by first | exact h1 | exact fun _ => rfl), fun _ => rfl, (by first | exact h3 | exact fun _ => rfl), (by first | exact h4 | exact fun _ => rfl), (by first | exact h5 | exact fun _ => rfl), (by first | exact h6 | exact fun _ => rfl), (by first | exact h7 | exact fun _ => rfl), (by first | exact h8 | exact fun _ => rfl), (by first | exact h9 | exact fun _ => rfl), (by first | exact h10 | exact fun _ => rfl), (by first | exact h11 | exact fun _ => rfl), (by first | exact h12 | exact fun _ => rfl), (by first | exact h13 | exact fun _ => rfl)⟩
                    | 3, ho =>
                      simp at ho; subst ho
                      have e2 : b2 = true := by simp [Region.binds] at hd; simp [hd]
                      subst e2
                      obtain rfl := h2 rfl
                      have hy0 := hB.cell (p := ⟨gc, k, none⟩) hgc
                      rw [hcell] at hy0
                      simp only [Region.wanted, if_true]
                      left
                      go_simp
                      exact ⟨b0, b1, true, true, b4, b5, b6, b7, b8, b9, b10, b11, b12, b13, _, _, _, _, _, _, _, _, _, _, _, _, _, rfl, rfl, hB, (by first | exact h0 | exact fun _ => rfl), (by first | exact h1 | exact fun _ => rfl), (by first | exact h2 | exact fun _ => rfl), fun _ => rfl, (by first | exact h4 | exact fun _ => rfl), (by first | exact h5 | exact fun _ => rfl), (by first | exact h6 | exact fun _ => rfl), (by first | exact h7 | exact fun _ => rfl), (by first | exact h8 | exact fun _ => rfl), (by first | exact h9 | exact fun _ => rfl), (by first | exact h10 | exact fun _ => rfl), (by first | exact h11 | exact fun _ => rfl), (by first | exact h12 | exact fun _ => rfl), (by first | exact h13 | exact fun _ => rfl)⟩
                    | 4, ho =>
                      simp at ho; subst ho
                      simp only [Region.wanted, if_true]
                      left
                      go_simp
                      exact ⟨b0, b1, b2, b3, true, b5, b6, b7, b8, b9, b10, b11, b12, b13, _, _, _, _, _, _, _, _, _, _, _, _, _, rfl, rfl, hB, (by first | exact h0 | exact fun _ => rfl), (by first | exact h1 | exact fun _ => rfl), (by first | exact h2 | exact fun _ => rfl), (by first | exact h3 | exact fun _ => rfl), fun _ => rfl, (by first | exact h5 | exact fun _ => rfl), (by first | exact h6 | exact fun _ => rfl), (by first | exact h7 | exact fun _ => rfl), (by first | exact h8 | exact fun _ => rfl), (by first | exact h9 | exact fun _ => rfl), (by first | exact h10 | exact fun _ => rfl), (by first | exact h11 | exact fun _ => rfl), (by first | exact h12 | exact fun _ => rfl), (by first | exact h13 | exact fun _ => rfl)⟩
                    | 5, ho =>
                      simp at ho; subst ho
                      simp only [Region.wanted, if_true]
                      left
                      go_simp
                      exact ⟨b0, b1, b2, b3, b4, true, b6, b7, b8, b9, b10, b11, b12, b13, _, _, _, _, _, _, _, _, _, _, _, _, _, rfl, rfl, hB, (by first | exact h0 | exact fun _ => rfl), (by first | exact h1 | exact fun _ => rfl), (by first | exact h2 | exact fun _ => rfl), (by first | exact h3 | exact fun _ => rfl), (by first | exact h4 | exact fun _ => rfl), fun _ => rfl, (by first | exact h6 | exact fun _ => rfl), (by first | exact h7 | exact fun _ => rfl), (by first | exact h8 | exact fun _ => rfl), (by first | exact h9 | exact fun _ => rfl), (by first | exact h10 | exact fun _ => rfl), (by first | exact h11 | exact fun _ => rfl), (by first | exact h12 | exact fun _ => rfl), (by first | exact h13 | exact fun _ => rfl)⟩
                    | 6, ho =>
                      simp at ho; subst ho
                      have e4 : b4 = true := by simp [Region.binds] at hd; simp [hd]
                      have e5 : b5 = true := by simp [Region.binds] at hd; simp [hd]
                      subst e4
                      subst e5
                      obtain rfl := h4 rfl
                      obtain rfl := h5 rfl
                      simp only [Region.wanted, if_true]
                      left
                      go_simp
                      exact ⟨b0, b1, b2, b3, true, true, true, b7, b8, b9, b10, b11, b12, b13, _, _, _, _, _, _, _, _, _, _, _, _, _, rfl, rfl, hB, (by first | exact h0 | exact fun _ => rfl), (by first | exact h1 | exact fun _ => rfl), (by first | exact h2 | exact fun _ => rfl), (by first | exact h3 | exact fun _ => rfl), (by first | exact h4 | exact fun _ => rfl), (by first | exact h5 | exact fun _ => rfl), fun _ => rfl, (by first | exact h7 | exact fun _ => rfl), (by first | exact h8 | exact fun _ => rfl), (by first | exact h9 | exact fun _ => rfl), (by first | exact h10 | exact fun _ => rfl), (by first | exact h11 | exact fun _ => rfl), (by first | exact h12 | exact fun _ => rfl), (by first | exact h13 | exact fun _ => rfl)⟩
                    | 7, ho =>
                      simp at ho; subst ho
                      have e6 : b6 = true := by simp [Region.binds] at hd; simp [hd]
                      subst e6
                      obtain rfl := h6 rfl
                      have hy0 := hB.cell (p := ⟨gc, k, none⟩) hgc
                      rw [hcell] at hy0
                      simp only [Region.wanted, if_true]
                      left
                      go_simp
                      exact ⟨b0, b1, b2, b3, b4, b5, true, true, b8, b9, b10, b11, b12, b13, _, _, _, _, _, _, _, _, _, _, _, _, _, rfl, rfl, hB, (by first | exact h0 | exact fun _ => rfl), (by first | exact h1 | exact fun _ => rfl), (by first | exact h2 | exact fun _ => rfl), (by first | exact h3 | exact fun _ => rfl), (by first | exact h4 | exact fun _ => rfl), (by first | exact h5 | exact fun _ => rfl), (by first | exact h6 | exact fun _ => rfl), fun _ => rfl, (by first | exact h8 | exact fun _ => rfl), (by first | exact h9 | exact fun _ => rfl), (by first | exact h10 | exact fun _ => rfl), (by first | exact h11 | exact fun _ => rfl), (by first | exact h12 | exact fun _ => rfl), (by first | exact h13 | exact fun _ => rfl)⟩
                    | 8, ho =>
                      simp at ho; subst ho
                      have e7 : b7 = true := by simp [Region.binds] at hd; simp [hd]
                      subst e7
                      obtain rfl := h7 rfl
                      simp only [Region.wanted, if_true]
                      left
                      go_simp
                      exact ⟨b0, b1, b2, b3, b4, b5, b6, true, true, b9, b10, b11, b12, b13, _, _, _, _, _, _, _, _, _, _, _, _, _, rfl, rfl, hB, (by first | exact h0 | exact fun _ => rfl), (by first | exact h1 | exact fun _ => rfl), (by first | exact h2 | exact fun _ => rfl), (by first | exact h3 | exact fun _ => rfl), (by first | exact h4 | exact fun _ => rfl), (by first | exact h5 | exact fun _ => rfl), (by first | exact h6 | exact fun _ => rfl), (by first | exact h7 | exact fun _ => rfl), fun _ => rfl, (by first | exact h9 | exact fun _ => rfl), (by first | exact h10 | exact fun _ => rfl), (by first | exact h11 | exact fun _ => rfl), (by first | exact h12 | exact fun _ => rfl), (by first | exact h13 | exact fun _ => rfl)⟩
                    | 9, ho =>
                      simp at ho; subst ho
                      have e8 : b8 = true := by simp [Region.binds] at hd; simp [hd]
                      subst e8
                      obtain rfl := h8 rfl
                      simp only [Region.wanted, if_true]
                      left
                      go_simp
                      exact ⟨b0, b1, b2, b3, b4, b5, b6, b7, true, true, b10, b11, b12, b13, _, _, _, _, _, _, _, _, _, _, _, _, _, rfl, rfl, hB, (by first | exact h0 | exact fun _ => rfl), (by first | exact h1 | exact fun _ => rfl), (by first | exact h2 | exact fun _ => rfl), (by first | exact h3 | exact fun _ => rfl), (by first | exact h4 | exact fun _ => rfl), (by first | exact h5 | exact fun _ => rfl), (by first | exact h6 | exact fun _ => rfl), (by first | exact h7 | exact fun _ => rfl), (by first | exact h8 | exact fun _ => rfl), fun _ => rfl, (by first | exact h10 | exact fun _ => rfl), (by first | exact h11 | exact fun _ => rfl), (by first | exact h12 | exact fun _ => rfl), (by first | exact h13 | exact fun _ => rfl)⟩
                    | 10, ho =>
                      simp at ho; subst ho
                      have e3 : b3 = true := by simp [Region.binds] at hd; simp [hd]
                      have e9 : b9 = true := by simp [Region.binds] at hd; simp [hd]
                      subst e3
                      subst e9
                      obtain rfl := h3 rfl
                      obtain rfl := h9 rfl
                      simp only [Region.wanted, if_true]
                      left
                      go_simp
                      exact ⟨b0, b1, b2, true, b4, b5, b6, b7, b8, true, true, b11, b12, b13, _, _, _, _, _, _, _, _, _, _, _, _, _, rfl, rfl, hB, (by first | exact h0 | exact fun _ => rfl), (by first | exact h1 | exact fun _ => rfl), (by first | exact h2 | exact fun _ => rfl), (by first | exact h3 | exact fun _ => rfl), (by first | exact h4 | exact fun _ => rfl), (by first | exact h5 | exact fun _ => rfl), (by first | exact h6 | exact fun _ => rfl), (by first | exact h7 | exact fun _ => rfl), (by first | exact h8 | exact fun _ => rfl), (by first | exact h9 | exact fun _ => rfl), fun _ => rfl, (by first | exact h11 | exact fun _ => rfl), (by first | exact h12 | exact fun _ => rfl), (by first | exact h13 | exact fun _ => rfl)⟩
                    | 11, ho =>
                      simp at ho; subst ho
                      have e10 : b10 = true := by simp [Region.binds] at hd; simp [hd]
                      subst e10
                      obtain rfl := h10 rfl
                      have hx0 := hB.cell (p := ⟨p1, o1 + q * 4, none⟩) hp1
                      have hx1 := hB.cell (p := ⟨p1, o1 + q * 4 + 1, none⟩) hp1
                      have hx2 := hB.cell (p := ⟨p1, o1 + q * 4 + 2, none⟩) hp1
                      have hx3 := hB.cell (p := ⟨p1, o1 + q * 4 + 3, none⟩) hp1
                      rw [g0] at hx0
                      rw [g1] at hx1
                      rw [g2] at hx2
                      rw [g3] at hx3
                      simp only [Region.wanted, if_true]
                      left
                      go_simp
                      exact ⟨b0, b1, b2, b3, b4, b5, b6, b7, b8, b9, true, true, b12, b13, _, _, _, _, _, _, _, _, _, _, _, _, _, rfl, rfl, hB, (by first | exact h0 | exact fun _ => rfl), (by first | exact h1 | exact fun _ => rfl), (by first | exact h2 | exact fun _ => rfl), (by first | exact h3 | exact fun _ => rfl), (by first | exact h4 | exact fun _ => rfl), (by first | exact h5 | exact fun _ => rfl), (by first | exact h6 | exact fun _ => rfl), (by first | exact h7 | exact fun _ => rfl), (by first | exact h8 | exact fun _ => rfl), (by first | exact h9 | exact fun _ => rfl), (by first | exact h10 | exact fun _ => rfl), fun _ => rfl, (by first | exact h12 | exact fun _ => rfl), (by first | exact h13 | exact fun _ => rfl)⟩
                    | 12, ho =>
                      simp at ho; subst ho
                      simp at hn
                      simp only [Region.wanted, if_true]
                      left
                      go_simp
                      exact ⟨b0, b1, b2, b3, b4, b5, b6, b7, b8, b9, b10, b11, true, b13, _, _, _, _, _, _, _, _, _, _, _, _, _, rfl, rfl, hB.trans ((((Below.refl W.heap.size W).alloc (Nat.le_refl _) (.cells (modA zmod) 30))).mono hBz), (by first | exact h0 | exact fun _ => rfl), (by first | exact h1 | exact fun _ => rfl), (by first | exact h2 | exact fun _ => rfl), (by first | exact h3 | exact fun _ => rfl), (by first | exact h4 | exact fun _ => rfl), (by first | exact h5 | exact fun _ => rfl), (by first | exact h6 | exact fun _ => rfl), (by first | exact h7 | exact fun _ => rfl), (by first | exact h8 | exact fun _ => rfl), (by first | exact h9 | exact fun _ => rfl), (by first | exact h10 | exact fun _ => rfl), (by first | exact h11 | exact fun _ => rfl), fun _ => ⟨_, _, _, _, _, rfl, hBz, Blk.new W 30 (modA zmod)⟩, fun hh => absurd (h13 hh).1 (by rw [hn]; decide)⟩
                    | 13, ho =>
                      simp at ho; subst ho
                      have e11 : b11 = true := by simp [Region.binds] at hd; simp [hd]
                      have e12 : b12 = true := by simp [Region.binds] at hd; simp [hd]
                      subst e11
                      subst e12
                      obtain rfl := h11 rfl
                      obtain ⟨g7, c0, c1, c2, c3, rfl, hz7, p8⟩ := h12 rfl
                      have k0 := p8.cell 0
                      have k1 := p8.cell 1
                      have k2 := p8.cell 2
                      have k3 := p8.cell 3
                      have f0 := p8.free 0
                      have f1 := p8.free 1
                      have f2 := p8.free 2
                      have f3 := p8.free 3
                      simp at k0 k1 k2 k3
                      simp only [Region.wanted, if_true]
                      left
                      go_simp
                      exact ⟨b0, b1, b2, b3, b4, b5, b6, b7, b8, b9, b10, true, true, true, _, _, _, _, _, _, _, _, _, _, _, _, _, rfl, rfl, (((hB.setCell (p := ⟨g7, 0, none⟩) hz7 _).setCell (p := ⟨g7, 1, none⟩) hz7 _).setCell (p := ⟨g7, 2, none⟩) hz7 _).setCell (p := ⟨g7, 3, none⟩) hz7 _, (by first | exact h0 | exact fun _ => rfl), (by first | exact h1 | exact fun _ => rfl), (by first | exact h2 | exact fun _ => rfl), (by first | exact h3 | exact fun _ => rfl), (by first | exact h4 | exact fun _ => rfl), (by first | exact h5 | exact fun _ => rfl), (by first | exact h6 | exact fun _ => rfl), (by first | exact h7 | exact fun _ => rfl), (by first | exact h8 | exact fun _ => rfl), (by first | exact h9 | exact fun _ => rfl), (by first | exact h10 | exact fun _ => rfl), (by first | exact h11 | exact fun _ => rfl), fun _ => ⟨g7, _, _, _, _, rfl, hz7, (((p8.set_ 0 _).set_ 1 _).set_ 2 _).set_ 3 _⟩, fun _ => ⟨rfl, g7, rfl, hz7, (((p8.set_ 0 _).set_ 1 _).set_ 2 _).set_ 3 _⟩⟩
                    | i + 14, ho => simp at ho
                  case fin =>
                    rintro L a wf hr ⟨b0, b1, b2, b3, b4, b5, b6, b7, b8, b9, b10, b11, b12, b13, s18, s70, s71, s72, s73, s74, s75, s76, s77, s78, s79, s80, s81, hL, rfl, hB, h0, h1, h2, h3, h4, h5, h6, h7, h8, h9, h10, h11, h12, h13⟩
                    subst hL
                    obtain rfl : b13 = true := hr 13 (by decide)
                    obtain ⟨_, g7, rfl, hz7, hb7⟩ := h13 rfl
                    clear hr h0 h1 h2 h3 h4 h5 h6 h7 h8 h9 h10 h11 h12 h13
                    have HBf := Lib.hid hB
                    have HX7 := Lib.hid hb7
                    have HCf := Lib.hid (HCi.out.keep hB)
                    have HYf := Lib.hid (HYw.out.keep hB)
                    have HBlf := Lib.hid (HBi.out.trans (hB.mono hzi))
                    have HBF := Lib.hid (HBN.out.trans (HBlf.out.mono HBN.out.size))
                    have hzf := HBlf.out.size
                    have UGf := Lib.hid ((UG.out.keep (by rw [hzG]; exact HB.out)).keep HBlf.out)
                    have hcf := HCf.out.1.cellAt k (by omega)
                    have hcc := hB.cell (p := ⟨gc, k, none⟩) hgc
                    rw [hcell] at hcc
                    obtain ⟨x0, x1, x2, x3⟩ := modC HX7.out
                    obtain ⟨v0, v1, v2, v3⟩ := modC UGf.out
                    clear hcf hb7 hcell g0 g1 g2 g3
                    by_cases he : x = g
                    · rw [decide_eq_true he] at heq
                      have HFIN := Lib.hid (show r = (ly, 0) from by rw [HRs.out, search_hit (HFd.out he)]; rfl)
                      have HF := Lib.hid (show Q (.returned (.tuple #[.slice (some ⟨p1, o1, none⟩) ly.length cy, .int .i64 0])) wf from by
                        rw [← hQ]
                        exact retB_ch (y := (some ⟨p1, o1, none⟩, cy, ly)) HFIN.out HYf.out HBF.out)
                      clear he hB
                      go_wp2
                      exact HF.out
                    · rw [decide_eq_false he] at heq
                      have HNk2 := Lib.hid (HNk.out he)
                      have cRq := Lib.hid (fun W (hW : Below wf.heap.size wf W) => Requires_b A c Y x W w.heap.size (HBF.out.trans (hW.mono HBF.out.size)).size (HY.out.keep (HBF.out.trans (hW.mono HBF.out.size))))
                      clear he HNk HFd
                      go_wp2_with fail
                      refine (cRq.out _ (Below.refl _ _)).mono ?_
                      rintro e w5 ⟨A5, c5, rfl, hS5, hb5⟩
                      have HS5 := Lib.hid hS5
                      have HB5 := Lib.hid (HBlf.out.trans (hb5.mono hzf))
                      have HR5 := Lib.hid (HNC.out.keep (HBf.out.trans (hb5.mono HBf.out.size)))
                      have hz5 := HB5.out.size
                      obtain ⟨N0, hN0⟩ : ∃ N0, N0 = nextC (regW Y) ((LC.map (·.2.2)).take k) := ⟨_, rfl⟩
                      rw [← hN0] at HNx HNE
                      obtain ⟨rq, hrq⟩ : ∃ rq, rq = reqOf (regW Y) x := ⟨_, rfl⟩
                      have HRQ := Lib.hid hrq
                      have hrl : rq.length ≤ 10100 := by rw [hrq]; exact Nat.le_trans (reqOf_len (regW Y) l0 x) hU
                      rw [← hrq] at HS5 HNx ⊢
                      clear hS5 hb5 cRq x0 x1 x2 x3 v0 v1 v2 v3 hcc hN0 hB heq hrq HX7 HCf HYf UGf HBf HBF
                      go_wp2_with fail
                      go_loopw [16, 20] (fun v i wr => ∃ (q : Nat) (An : Option Addr) (cn : Nat) (NC : List CW), q ≤ rq.length ∧ i = .int .i64 (q : Nat) ∧ v = .slice An NC.length cn ∧ Hid (ChR wr wl.heap.size (.slice An NC.length cn) NC) ∧ Hid (GoodL (regW Y) l0 (n + 2) (NC.map (·.2.2))) ∧ Hid (NC.map (·.2.2) = (rq.take q).foldl (fun N x => addC N (ly ++ [x])) N0) ∧ Hid (Below wl.heap.size w5 wr)) (fun _ i _ => rq.length - (intOf i).toNat)
                      case atStart => exact ⟨0, An, cn, NC, Nat.zero_le _, rfl, rfl, HR5, HNG, HNE, Lib.hid (Below.refl _ _)⟩
                      case round =>
                        obtain ⟨wk, hwk⟩ : ∃ wk, wk = wr := ⟨_, rfl⟩
                        subst hwk
                        clear HNC HNG HNE HR5
                        obtain ⟨qm, An, cn, NC, hqm, rfl, rfl, HNC, HNG, HNE, HBk⟩ := hrel
                        have HBlk := Lib.hid (HB5.out.trans HBk.out)
                        have hzk := HBlk.out.size
                        by_cases hqlt : qm < rq.length
                        · have hqlt' : (qm : Int) < (rq.length : Int) := by omega
                          have hqm0 : (0 : Int) ≤ (qm : Int) := by omega
                          have hwl : w.heap.size ≤ wl.heap.size := HBN.out.size
                          obtain ⟨pm, om, hAm, hpm0, r0, r1, r2, r3⟩ := (HS5.out.below (HBk.out.mono hwl)).mod hqlt
                          have hpm : pm < wl.heap.size := Nat.lt_of_lt_of_le hpm0 hwl
                          have HTq := Lib.hid (ffold_take (c := ly) (N := N0) hqlt)
                          have HMr := Lib.hid (show rq[qm] ∈ reqOf (regW Y) x from by rw [← HRQ.out]; exact List.getElem_mem hqlt)
                          generalize rq[qm] = m at r0 r1 r2 r3 HTq HMr
                          have HAm := Lib.hid hAm
                          subst hAm
                          have hcell := (HBlk.out.cell (p := ⟨gc, k, none⟩) hgl).trans H0c.out
                          have HSY := Lib.hid (show Sl wk wl.heap.size 4 encM (some ⟨p1, o1, none⟩) ly from HYl.out.sl.below HBlk.out)
                          have hNl : NC.length ≤ 100000 := by have := HNG.out.len; rw [List.length_map] at this; omega
                          have hyl2 : ly.length + 1 ≤ 1000000 := by have := HYN.out; omega
                          have cAd := Lib.hid (fun (A7 : Option Addr) (c7 : Nat) W (hW : Below wk.heap.size wk W) (hO : OwnC W wk.heap.size (A7, c7, ly ++ [m])) => show Calls Tryz.prog 48 #[.slice An NC.length cn, .slice A7 (ly.length + 1) c7] W (RetAdd wl.heap.size W (addC (NC.map (·.2.2)) (ly ++ [m]))) by
                            have h := add_any wl.heap.size An cn NC (A7, c7, ly ++ [m]) W (HNC.out.keep hW) (hO.mono hzk) (Nat.le_trans hzk hW.size) hNl
                            simp only [List.length_append, List.length_singleton] at h
                            exact h)
                          have HGn := Lib.hid (HNG.out.add (c := ly ++ [m]) ⟨m, .snoc (y := x) (by
                            obtain ⟨⟨m', hm'⟩, _⟩ := HWk.out
                            have e1 := hm'.end
                            rw [HEY.out] at e1
                            rw [e1]
                            exact hm') HMr.out⟩ (by rw [List.length_append, List.length_singleton, HYN.out]))
                          go_upto_region 27 with fail
                          apply wp_region_each (by kernel_rfl) (MoreInv wl.heap.size wk wk.heap.size (.slice An NC.length cn) (.pointer (some ⟨gc, k, none⟩)) (.slice (some ⟨p1, o1, none⟩) ly.length cy) (.pointer (some ⟨pm, om + qm * 4, none⟩)) m ly (addC (NC.map (·.2.2)) (ly ++ [m])) _ _ _ _ _ _ _ _ _ _ _ _ _ _ _ _ _ _ _ _ _ _ _ _ _ _ _ _ _ _ _ _ _ _ _ _ _ _ _ _ _ _ _ _ _ _ _ _ _ _ _ _ _ _ _ _ _ _ _ _ _ _ _ _ _ _ _ _ _ _ _ _ _ _ _ _ _ _ _ _ _ _ _ _ _ _ _ _ _ _ _ _ _ _ _ _ _ _) ?hsz ?h0 ?step (by kernel_rfl) ?fin
                          case h0 =>
                            exact ⟨false, false, false, false, false, false, false, false, false, false, false, false, false, false, false, _, _, _, _, _, _, _, _, _, _, _, _, _, _, _, rfl, rfl, (Below.refl _ _).drew, fun h => absurd h (by decide), fun h => absurd h (by decide), fun h => absurd h (by decide), fun h => absurd h (by decide), fun h => absurd h (by decide), fun h => absurd h (by decide), fun h => absurd h (by decide), fun h => absurd h (by decide), fun h => absurd h (by decide), fun h => absurd h (by decide), fun h => absurd h (by decide), fun h => absurd h (by decide), fun h => absurd h (by decide), fun h => absurd h (by decide), fun h => absurd h (by decide), fun _ => (Below.refl _ _).drew, fun _ => rfl⟩
                          case hsz =>
                            rintro L a w ⟨b0, b1, b2, b3, b4, b5, b6, b7, b8, b9, b10, b11, b12, b13, b14, s16, s98, s99, s100, s101, s102, s103, s104, s105, s106, s107, s108, s109, s110, s111, rfl, _⟩
                            rfl
                          case step =>
                            rintro i o ho L a W hn hd ⟨b0, b1, b2, b3, b4, b5, b6, b7, b8, b9, b10, b11, b12, b13, b14, s16, s98, s99, s100, s101, s102, s103, s104, s105, s106, s107, s108, s109, s110, s111, rfl, rfl, hB, h0, h1, h2, h3, h4, h5, h6, h7, h8, h9, h10, h11, h12, h13, h14, x0, x1⟩
                            have hz1 : wk.heap.size ≤ W.heap.size := hB.size
                            have hBz := Nat.le_trans (hzk) hB.size
                            match i, ho with
                            | 0, ho =>
                              simp at ho; subst ho
                              simp at hn
                              subst hn
                              have hb14 : b14 = false := by cases b14 with | false => rfl | true => exact absurd (h14 rfl).1 (by decide)
                              subst hb14
                              obtain rfl := x1 rfl
                              simp only [Region.wanted, if_true]
                              left
                              go_simp
                              exact ⟨true, b1, b2, b3, b4, b5, b6, b7, b8, b9, b10, b11, b12, b13, false, _, _, _, _, _, _, _, _, _, _, _, _, _, _, _, rfl, rfl, hB, fun _ => rfl, (by first | exact h1 | exact fun _ => rfl), (by first | exact h2 | exact fun _ => rfl), (by first | exact h3 | exact fun _ => rfl), (by first | exact h4 | exact fun _ => rfl), (by first | exact h5 | exact fun _ => rfl), (by first | exact h6 | exact fun _ => rfl), (by first | exact h7 | exact fun _ => rfl), (by first | exact h8 | exact fun _ => rfl), (by first | exact h9 | exact fun _ => rfl), (by first | exact h10 | exact fun _ => rfl), (by first | exact h11 | exact fun _ => rfl), (by first | exact h12 | exact fun _ => rfl), fun hh => absurd (h13 hh).2.2.1 (by decide), fun hh => absurd hh (by decide), x0, x1⟩
                            | 1, ho =>
                              simp at ho; subst ho
                              simp only [Region.wanted, if_true]
                              left
                              go_simp
                              exact ⟨b0, true, b2, b3, b4, b5, b6, b7, b8, b9, b10, b11, b12, b13, b14, _, _, _, _, _, _, _, _, _, _, _, _, _, _, _, rfl, rfl, hB.trans ((((Below.refl W.heap.size W).alloc (Nat.le_refl _) (.cells #[] 30))).mono hBz), (by first | exact h0 | exact fun _ => rfl), fun _ => fun _ => ⟨_, rfl, World.ownsRow_lit (base := wk.heap.size) (e := 30) (size := 4) W #[] 0 hz1 (by decide) rfl⟩, (by first | exact h2 | exact fun _ => rfl), (by first | exact h3 | exact fun _ => rfl), (by first | exact h4 | exact fun _ => rfl), (by first | exact h5 | exact fun _ => rfl), (by first | exact fun hh => (fun hc => match (h6 hh) hc with | ⟨A, c, e, h1⟩ => ⟨A, c, e, own_below2 h1 ((Below.refl W.heap.size W).alloc (Nat.le_refl _) (.cells #[] 30))⟩) | exact fun _ => rfl), (by first | exact h7 | exact fun _ => rfl), (by first | exact h8 | exact fun _ => rfl), (by first | exact h9 | exact fun _ => rfl), (by first | exact h10 | exact fun _ => rfl), (by first | exact fun hh => (fun hc => match (h11 hh) hc with | ⟨g, e, h1⟩ => ⟨g, e, h1.keep ((Below.refl W.heap.size W).alloc (Nat.le_refl _) (.cells #[] 30))⟩) | exact fun _ => rfl), (by first | exact fun hh => (⟨((h12 hh)).1, fun hc => match ((h12 hh)).2 hc with | ⟨A, c, e, h1⟩ => ⟨A, c, e, h1.keep ((Below.refl W.heap.size W).alloc (Nat.le_refl _) (.cells #[] 30))⟩⟩) | exact fun _ => rfl), (by first | exact fun hh => (match (h13 hh) with | ⟨q1, q2, q3, A, c, NC, e, h1, h2⟩ => ⟨q1, q2, q3, A, c, NC, e, h1.keep ((Below.refl W.heap.size W).alloc (Nat.le_refl _) (.cells #[] 30)), h2⟩) | exact fun _ => rfl), (by first | exact fun hh => (match (h14 hh) with | ⟨q, q2, A, c, NC, e, h1, h2⟩ => ⟨q, q2, A, c, NC, e, h1.keep ((Below.refl W.heap.size W).alloc (Nat.le_refl _) (.cells #[] 30)), h2⟩) | exact fun _ => rfl), fun hc => (x0 hc).trans ((((Below.refl W.heap.size W).alloc (Nat.le_refl _) (.cells #[] 30))).mono hz1), x1⟩
                            | 2, ho =>
                              simp at ho; subst ho
                              simp only [Region.wanted, if_true]
                              left
                              go_simp
                              exact ⟨b0, b1, true, b3, b4, b5, b6, b7, b8, b9, b10, b11, b12, b13, b14, _, _, _, _, _, _, _, _, _, _, _, _, _, _, _, rfl, rfl, hB, (by first | exact h0 | exact fun _ => rfl), (by first | exact h1 | exact fun _ => rfl), fun _ => rfl, (by first | exact h3 | exact fun _ => rfl), (by first | exact h4 | exact fun _ => rfl), (by first | exact h5 | exact fun _ => rfl), (by first | exact h6 | exact fun _ => rfl), (by first | exact h7 | exact fun _ => rfl), (by first | exact h8 | exact fun _ => rfl), (by first | exact h9 | exact fun _ => rfl), (by first | exact h10 | exact fun _ => rfl), (by first | exact h11 | exact fun _ => rfl), (by first | exact h12 | exact fun _ => rfl), (by first | exact h13 | exact fun _ => rfl), (by first | exact h14 | exact fun _ => rfl), x0, x1⟩
                            | 3, ho =>
                              simp at ho; subst ho
                              simp only [Region.wanted, if_true]
                              left
                              go_simp
                              exact ⟨b0, b1, b2, true, b4, b5, b6, b7, b8, b9, b10, b11, b12, b13, b14, _, _, _, _, _, _, _, _, _, _, _, _, _, _, _, rfl, rfl, hB, (by first | exact h0 | exact fun _ => rfl), (by first | exact h1 | exact fun _ => rfl), (by first | exact h2 | exact fun _ => rfl), fun _ => rfl, (by first | exact h4 | exact fun _ => rfl), (by first | exact h5 | exact fun _ => rfl), (by first | exact h6 | exact fun _ => rfl), (by first | exact h7 | exact fun _ => rfl), (by first | exact h8 | exact fun _ => rfl), (by first | exact h9 | exact fun _ => rfl), (by first | exact h10 | exact fun _ => rfl), (by first | exact h11 | exact fun _ => rfl), (by first | exact h12 | exact fun _ => rfl), (by first | exact h13 | exact fun _ => rfl), (by first | exact h14 | exact fun _ => rfl), x0, x1⟩
                            | 4, ho =>
                              simp at ho; subst ho
                              have e2 : b2 = true := by simp [Region.binds] at hd; simp [hd]
                              have e3 : b3 = true := by simp [Region.binds] at hd; simp [hd]
                              subst e2
                              subst e3
                              obtain rfl := h2 rfl
                              obtain rfl := h3 rfl
                              simp only [Region.wanted, if_true]
                              left
                              go_simp
                              exact ⟨b0, b1, true, true, true, b5, b6, b7, b8, b9, b10, b11, b12, b13, b14, _, _, _, _, _, _, _, _, _, _, _, _, _, _, _, rfl, rfl, hB, (by first | exact h0 | exact fun _ => rfl), (by first | exact h1 | exact fun _ => rfl), (by first | exact h2 | exact fun _ => rfl), (by first | exact h3 | exact fun _ => rfl), fun _ => rfl, (by first | exact h5 | exact fun _ => rfl), (by first | exact h6 | exact fun _ => rfl), (by first | exact h7 | exact fun _ => rfl), (by first | exact h8 | exact fun _ => rfl), (by first | exact h9 | exact fun _ => rfl), (by first | exact h10 | exact fun _ => rfl), (by first | exact h11 | exact fun _ => rfl), (by first | exact h12 | exact fun _ => rfl), (by first | exact h13 | exact fun _ => rfl), (by first | exact h14 | exact fun _ => rfl), x0, x1⟩
                            | 5, ho =>
                              simp at ho; subst ho
                              have e4 : b4 = true := by simp [Region.binds] at hd; simp [hd]
                              subst e4
                              obtain rfl := h4 rfl
                              have hy0 := hB.cell (p := ⟨gc, k, none⟩) hgl
                              rw [hcell] at hy0
                              simp only [Region.wanted, if_true]
                              left
                              go_simp
                              exact ⟨b0, b1, b2, b3, true, true, b6, b7, b8, b9, b10, b11, b12, b13, b14, _, _, _, _, _, _, _, _, _, _, _, _, _, _, _, rfl, rfl, hB, (by first | exact h0 | exact fun _ => rfl), (by first | exact h1 | exact fun _ => rfl), (by first | exact h2 | exact fun _ => rfl), (by first | exact h3 | exact fun _ => rfl), (by first | exact h4 | exact fun _ => rfl), fun _ => rfl, (by first | exact h6 | exact fun _ => rfl), (by first | exact h7 | exact fun _ => rfl), (by first | exact h8 | exact fun _ => rfl), (by first | exact h9 | exact fun _ => rfl), (by first | exact h10 | exact fun _ => rfl), (by first | exact h11 | exact fun _ => rfl), (by first | exact h12 | exact fun _ => rfl), (by first | exact h13 | exact fun _ => rfl), (by first | exact h14 | exact fun _ => rfl), x0, x1⟩
                            | 6, ho =>
                              simp at ho; subst ho
                              have e1 : b1 = true := by simp [Region.binds] at hd; simp [hd]
                              have e5 : b5 = true := by simp [Region.binds] at hd; simp [hd]
                              subst e1
                              subst e5
                              obtain rfl := h5 rfl
                              simp at hn
                              subst hn
                              have hb13 : b13 = false := by cases b13 with | false => rfl | true => exact absurd (h13 rfl).1 (by decide)
                              subst hb13
                              obtain ⟨g99, rfl, hO99⟩ := h1 rfl ⟨rfl, rfl⟩
                              obtain ⟨A6, c6, W2, hap, hO6, hg6, hb6⟩ := chain_copy (c := cy) hO99 (HSY.out.below hB) hBz hz1 (by omega)
                              simp only [Region.wanted, if_true]
                              left
                              refine wp_app1 (.tmp 99) (.tmp 103) _ _ rfl _ _ (by simp [Act.eval]) (by simp [Act.eval]) hap ?_
                              exact ⟨b0, true, b2, b3, b4, true, true, b7, b8, b9, b10, b11, b12, false, b14, _, _, _, _, _, _, _, _, _, _, _, _, _, _, _, rfl, rfl, hB.trans (hb6.mono hzk), (by first | exact h0 | exact fun _ => rfl), fun _ hc => absurd hc.1 (by decide), (by first | exact h2 | exact fun _ => rfl), (by first | exact h3 | exact fun _ => rfl), (by first | exact h4 | exact fun _ => rfl), (by first | exact h5 | exact fun _ => rfl), fun _ => fun _ => ⟨A6, c6, rfl, hO6⟩, (by first | exact h7 | exact fun _ => rfl), (by first | exact h8 | exact fun _ => rfl), (by first | exact h9 | exact fun _ => rfl), (by first | exact h10 | exact fun _ => rfl), fun hh hc => (match h11 hh hc with | ⟨g, e, h1⟩ => ⟨g, e, lit_kept h1 hO99 hg6⟩), fun hh => absurd (h12 hh).1 (by decide), fun hh => absurd hh (by decide), fun hh => absurd (h14 hh).2.1 (by decide), fun hc => (x0 hc).trans hb6, x1⟩
                            | 7, ho =>
                              simp at ho; subst ho
                              simp only [Region.wanted, if_true]
                              left
                              go_simp
                              exact ⟨b0, b1, b2, b3, b4, b5, b6, true, b8, b9, b10, b11, b12, b13, b14, _, _, _, _, _, _, _, _, _, _, _, _, _, _, _, rfl, rfl, hB, (by first | exact h0 | exact fun _ => rfl), (by first | exact h1 | exact fun _ => rfl), (by first | exact h2 | exact fun _ => rfl), (by first | exact h3 | exact fun _ => rfl), (by first | exact h4 | exact fun _ => rfl), (by first | exact h5 | exact fun _ => rfl), (by first | exact h6 | exact fun _ => rfl), fun _ => rfl, (by first | exact h8 | exact fun _ => rfl), (by first | exact h9 | exact fun _ => rfl), (by first | exact h10 | exact fun _ => rfl), (by first | exact h11 | exact fun _ => rfl), (by first | exact h12 | exact fun _ => rfl), (by first | exact h13 | exact fun _ => rfl), (by first | exact h14 | exact fun _ => rfl), x0, x1⟩
                            | 8, ho =>
                              simp at ho; subst ho
                              simp only [Region.wanted, if_true]
                              left
                              go_simp
                              exact ⟨b0, b1, b2, b3, b4, b5, b6, b7, true, b9, b10, b11, b12, b13, b14, _, _, _, _, _, _, _, _, _, _, _, _, _, _, _, rfl, rfl, hB, (by first | exact h0 | exact fun _ => rfl), (by first | exact h1 | exact fun _ => rfl), (by first | exact h2 | exact fun _ => rfl), (by first | exact h3 | exact fun _ => rfl), (by first | exact h4 | exact fun _ => rfl), (by first | exact h5 | exact fun _ => rfl), (by first | exact h6 | exact fun _ => rfl), (by first | exact h7 | exact fun _ => rfl), fun _ => rfl, (by first | exact h9 | exact fun _ => rfl), (by first | exact h10 | exact fun _ => rfl), (by first | exact h11 | exact fun _ => rfl), (by first | exact h12 | exact fun _ => rfl), (by first | exact h13 | exact fun _ => rfl), (by first | exact h14 | exact fun _ => rfl), x0, x1⟩
                            | 9, ho =>
                              simp at ho; subst ho
                              have e7 : b7 = true := by simp [Region.binds] at hd; simp [hd]
                              have e8 : b8 = true := by simp [Region.binds] at hd; simp [hd]
                              subst e7
                              subst e8
                              obtain rfl := h7 rfl
                              obtain rfl := h8 rfl
                              simp only [Region.wanted, if_true]
                              left
                              go_simp
                              exact ⟨b0, b1, b2, b3, b4, b5, b6, true, true, true, b10, b11, b12, b13, b14, _, _, _, _, _, _, _, _, _, _, _, _, _, _, _, rfl, rfl, hB, (by first | exact h0 | exact fun _ => rfl), (by first | exact h1 | exact fun _ => rfl), (by first | exact h2 | exact fun _ => rfl), (by first | exact h3 | exact fun _ => rfl), (by first | exact h4 | exact fun _ => rfl), (by first | exact h5 | exact fun _ => rfl), (by first | exact h6 | exact fun _ => rfl), (by first | exact h7 | exact fun _ => rfl), (by first | exact h8 | exact fun _ => rfl), fun _ => rfl, (by first | exact h10 | exact fun _ => rfl), (by first | exact h11 | exact fun _ => rfl), (by first | exact h12 | exact fun _ => rfl), (by first | exact h13 | exact fun _ => rfl), (by first | exact h14 | exact fun _ => rfl), x0, x1⟩
                            | 10, ho =>
                              simp at ho; subst ho
                              have e9 : b9 = true := by simp [Region.binds] at hd; simp [hd]
                              subst e9
                              obtain rfl := h9 rfl
                              have hx0 := hB.cell (p := ⟨pm, om + qm * 4, none⟩) hpm
                              have hx1 := hB.cell (p := ⟨pm, om + qm * 4 + 1, none⟩) hpm
                              have hx2 := hB.cell (p := ⟨pm, om + qm * 4 + 2, none⟩) hpm
                              have hx3 := hB.cell (p := ⟨pm, om + qm * 4 + 3, none⟩) hpm
                              rw [r0] at hx0
                              rw [r1] at hx1
                              rw [r2] at hx2
                              rw [r3] at hx3
                              simp only [Region.wanted, if_true]
                              left
                              go_simp
                              exact ⟨b0, b1, b2, b3, b4, b5, b6, b7, b8, true, true, b11, b12, b13, b14, _, _, _, _, _, _, _, _, _, _, _, _, _, _, _, rfl, rfl, hB, (by first | exact h0 | exact fun _ => rfl), (by first | exact h1 | exact fun _ => rfl), (by first | exact h2 | exact fun _ => rfl), (by first | exact h3 | exact fun _ => rfl), (by first | exact h4 | exact fun _ => rfl), (by first | exact h5 | exact fun _ => rfl), (by first | exact h6 | exact fun _ => rfl), (by first | exact h7 | exact fun _ => rfl), (by first | exact h8 | exact fun _ => rfl), (by first | exact h9 | exact fun _ => rfl), fun _ => rfl, (by first | exact h11 | exact fun _ => rfl), (by first | exact h12 | exact fun _ => rfl), (by first | exact h13 | exact fun _ => rfl), (by first | exact h14 | exact fun _ => rfl), x0, x1⟩
                            | 11, ho =>
                              simp at ho; subst ho
                              have e10 : b10 = true := by simp [Region.binds] at hd; simp [hd]
                              subst e10
                              obtain rfl := h10 rfl
                              simp only [Region.wanted, if_true]
                              left
                              go_simp
                              exact ⟨b0, b1, b2, b3, b4, b5, b6, b7, b8, b9, true, true, b12, b13, b14, _, _, _, _, _, _, _, _, _, _, _, _, _, _, _, rfl, rfl, hB.trans ((((Below.refl W.heap.size W).alloc (Nat.le_refl _) (.cells #[.string ⟨m.1.toArray⟩, .int .i64 m.2.1, .int .i64 m.2.2.1, .int .i64 m.2.2.2] 30))).mono hBz), (by first | exact h0 | exact fun _ => rfl), (by first | exact fun hh => (fun hc => match (h1 hh) hc with | ⟨g, e, h1⟩ => ⟨g, e, own_below2 h1 ((Below.refl W.heap.size W).alloc (Nat.le_refl _) (.cells #[.string ⟨m.1.toArray⟩, .int .i64 m.2.1, .int .i64 m.2.2.1, .int .i64 m.2.2.2] 30))⟩) | exact fun _ => rfl), (by first | exact h2 | exact fun _ => rfl), (by first | exact h3 | exact fun _ => rfl), (by first | exact h4 | exact fun _ => rfl), (by first | exact h5 | exact fun _ => rfl), (by first | exact fun hh => (fun hc => match (h6 hh) hc with | ⟨A, c, e, h1⟩ => ⟨A, c, e, own_below2 h1 ((Below.refl W.heap.size W).alloc (Nat.le_refl _) (.cells #[.string ⟨m.1.toArray⟩, .int .i64 m.2.1, .int .i64 m.2.2.1, .int .i64 m.2.2.2] 30))⟩) | exact fun _ => rfl), (by first | exact h7 | exact fun _ => rfl), (by first | exact h8 | exact fun _ => rfl), (by first | exact h9 | exact fun _ => rfl), (by first | exact h10 | exact fun _ => rfl), fun _ => fun _ => ⟨_, rfl, Blk.new W 30 (modA m)⟩, (by first | exact fun hh => (⟨((h12 hh)).1, fun hc => match ((h12 hh)).2 hc with | ⟨A, c, e, h1⟩ => ⟨A, c, e, h1.keep ((Below.refl W.heap.size W).alloc (Nat.le_refl _) (.cells #[.string ⟨m.1.toArray⟩, .int .i64 m.2.1, .int .i64 m.2.2.1, .int .i64 m.2.2.2] 30))⟩⟩) | exact fun _ => rfl), (by first | exact fun hh => (match (h13 hh) with | ⟨q1, q2, q3, A, c, NC, e, h1, h2⟩ => ⟨q1, q2, q3, A, c, NC, e, h1.keep ((Below.refl W.heap.size W).alloc (Nat.le_refl _) (.cells #[.string ⟨m.1.toArray⟩, .int .i64 m.2.1, .int .i64 m.2.2.1, .int .i64 m.2.2.2] 30)), h2⟩) | exact fun _ => rfl), (by first | exact fun hh => (match (h14 hh) with | ⟨q, q2, A, c, NC, e, h1, h2⟩ => ⟨q, q2, A, c, NC, e, h1.keep ((Below.refl W.heap.size W).alloc (Nat.le_refl _) (.cells #[.string ⟨m.1.toArray⟩, .int .i64 m.2.1, .int .i64 m.2.2.1, .int .i64 m.2.2.2] 30)), h2⟩) | exact fun _ => rfl), fun hc => (x0 hc).trans ((((Below.refl W.heap.size W).alloc (Nat.le_refl _) (.cells #[.string ⟨m.1.toArray⟩, .int .i64 m.2.1, .int .i64 m.2.2.1, .int .i64 m.2.2.2] 30))).mono hz1), x1⟩
                            | 12, ho =>
                              simp at ho; subst ho
                              have e6 : b6 = true := by simp [Region.binds] at hd; simp [hd]
                              have e11 : b11 = true := by simp [Region.binds] at hd; simp [hd]
                              subst e6
                              subst e11
                              simp at hn
                              subst hn
                              have hb13 : b13 = false := by cases b13 with | false => rfl | true => exact absurd (h13 rfl).2.1 (by decide)
                              subst hb13
                              obtain ⟨A6, c6, rfl, hO6⟩ := h6 rfl ⟨rfl, rfl⟩
                              obtain ⟨g9, rfl, hk9⟩ := h11 rfl ⟨rfl, rfl⟩
                              obtain ⟨A7, c7, W2, hap, hO7, hb7⟩ := chain_snoc hO6 hk9 hz1 (by omega)
                              simp only [Region.wanted, if_true]
                              left
                              refine wp_app1 (.tmp 104) (.tmp 109) _ _ rfl _ _ (by simp [Act.eval]) (by simp [Act.eval]) hap ?_
                              exact ⟨b0, b1, b2, b3, b4, b5, true, b7, b8, b9, b10, true, true, false, b14, _, _, _, _, _, _, _, _, _, _, _, _, _, _, _, rfl, rfl, hB.trans (hb7.mono hzk), (by first | exact h0 | exact fun _ => rfl), fun _ hc => absurd hc.1 (by decide), (by first | exact h2 | exact fun _ => rfl), (by first | exact h3 | exact fun _ => rfl), (by first | exact h4 | exact fun _ => rfl), (by first | exact h5 | exact fun _ => rfl), fun _ hc => absurd hc.1 (by decide), (by first | exact h7 | exact fun _ => rfl), (by first | exact h8 | exact fun _ => rfl), (by first | exact h9 | exact fun _ => rfl), (by first | exact h10 | exact fun _ => rfl), fun _ hc => absurd hc.1 (by decide), fun _ => ⟨rfl, fun _ => ⟨A7, c7, rfl, hO7⟩⟩, fun hh => absurd hh (by decide), fun hh => absurd (h14 hh).2.1 (by decide), fun hc => (x0 hc).trans hb7, x1⟩
                            | 13, ho =>
                              simp at ho; subst ho
                              have e0 : b0 = true := by simp [Region.binds] at hd; simp [hd]
                              have e12 : b12 = true := by simp [Region.binds] at hd; simp [hd]
                              subst e0
                              subst e12
                              obtain rfl := h0 rfl
                              simp at hn
                              subst hn
                              obtain ⟨e6, h12b⟩ := h12 rfl
                              subst e6
                              obtain ⟨A7, c7, rfl, hO7⟩ := h12b rfl
                              simp only [Region.wanted, if_true]
                              left
                              go_simp
                              refine (cAd.out A7 c7 W (x0 rfl) hO7).mono ?_
                              rintro e W2 ⟨A8, c8, NC, rfl, hR8, hE8, hb8⟩
                              exact ⟨true, b1, b2, b3, b4, b5, true, b7, b8, b9, b10, b11, true, true, b14, _, _, _, _, _, _, _, _, _, _, _, _, _, _, _, rfl, rfl, hB.trans hb8, (by first | exact h0 | exact fun _ => rfl), fun _ hc => absurd hc.2 (by decide), (by first | exact h2 | exact fun _ => rfl), (by first | exact h3 | exact fun _ => rfl), (by first | exact h4 | exact fun _ => rfl), (by first | exact h5 | exact fun _ => rfl), fun _ hc => absurd hc.2 (by decide), (by first | exact h7 | exact fun _ => rfl), (by first | exact h8 | exact fun _ => rfl), (by first | exact h9 | exact fun _ => rfl), (by first | exact h10 | exact fun _ => rfl), fun _ hc => absurd hc.2 (by decide), fun _ => ⟨rfl, fun hc => absurd hc (by decide)⟩, fun _ => ⟨rfl, rfl, rfl, A8, c8, NC, rfl, hR8, hE8⟩, fun hh => absurd (h14 hh).2.1 (by decide), fun hc => absurd hc (by decide), x1⟩
                            | 14, ho =>
                              simp at ho; subst ho
                              have e13 : b13 = true := by simp [Region.binds] at hd; simp [hd]
                              subst e13
                              obtain ⟨e6, e12, e0, A8, c8, NC8, rfl, hR8, hE8⟩ := h13 rfl
                              subst e6
                              subst e12
                              subst e0
                              simp only [Region.wanted, if_true]
                              left
                              go_simp
                              exact ⟨true, b1, b2, b3, b4, b5, true, b7, b8, b9, b10, b11, true, true, true, _, _, _, _, _, _, _, _, _, _, _, _, _, _, _, rfl, rfl, hB, (by first | exact h0 | exact fun _ => rfl), (by first | exact h1 | exact fun _ => rfl), (by first | exact h2 | exact fun _ => rfl), (by first | exact h3 | exact fun _ => rfl), (by first | exact h4 | exact fun _ => rfl), (by first | exact h5 | exact fun _ => rfl), (by first | exact h6 | exact fun _ => rfl), (by first | exact h7 | exact fun _ => rfl), (by first | exact h8 | exact fun _ => rfl), (by first | exact h9 | exact fun _ => rfl), (by first | exact h10 | exact fun _ => rfl), (by first | exact h11 | exact fun _ => rfl), (by first | exact h12 | exact fun _ => rfl), (by first | exact h13 | exact fun _ => rfl), fun _ => ⟨rfl, rfl, A8, c8, NC8, rfl, hR8, hE8⟩, x0, fun hc => absurd hc (by decide)⟩
                            | i + 15, ho => simp at ho
                          case fin =>
                            rintro L a wg hr ⟨b0, b1, b2, b3, b4, b5, b6, b7, b8, b9, b10, b11, b12, b13, b14, s16, s98, s99, s100, s101, s102, s103, s104, s105, s106, s107, s108, s109, s110, s111, hL, rfl, hB, h0, h1, h2, h3, h4, h5, h6, h7, h8, h9, h10, h11, h12, h13, h14, x0, x1⟩
                            subst hL
                            obtain rfl : b14 = true := hr 14 (by decide)
                            obtain ⟨_, _, A9, c9, NC9, rfl, hR9, hE9⟩ := h14 rfl
                            clear hr h0 h1 h2 h3 h4 h5 h6 h7 h8 h9 h10 h11 h12 h13 h14 x0 x1
                            have HR9 := Lib.hid hR9
                            have HE9 := Lib.hid hE9
                            have HB9 := Lib.hid (HBk.out.trans hB)
                            clear hB hR9 hE9
                            go_wp2
                            go_roundw
                            case rel => exact ⟨qm + 1, A9, c9, NC9, by omega, by go_num, rfl, HR9, Lib.hid (by rw [HE9.out]; exact HGn.out), Lib.hid (by rw [HE9.out, HTq.out, ← HNE.out]), HB9⟩
                            case measure => simp [intOf]; omega
                        · obtain rfl : qm = rq.length := by omega
                          rw [List.take_of_length_le (Nat.le_refl _)] at HNE
                          go_wp2
                          go_roundw
                          case rel => exact ⟨k + 1, An, cn, NC, by omega, by go_num, rfl, HNC, HNG, Lib.hid (by rw [HNE.out, HNx.out]), HNk2, HBlk⟩
                          case measure => simp [intOf]; omega
                · obtain rfl : k = LC.length := by omega
                  rw [List.take_of_length_le (by simp)] at HNE
                  have HRx := Lib.hid (show r = sres (search (regW Y) g (mo - (n + 1)) (NC.map (·.2.2))) from by
                    rw [HRs.out, search_no (find_no fun j hj => HNO.out j hj hj), HNE.out])
                  go_wp2
                  go_roundw
                  case rel => exact ⟨n + 1, An, cn, NC, by omega, by go_num, rfl, Lib.hid (HNC.out.mono (by omega)), HNG, HRx, Lib.hid (HB.out.trans (HBi.out.mono (by omega)))⟩
                  case measure => simp [intOf]; omega
            · obtain rfl : n = mo := by omega
              have HRz := Lib.hid (show r = ([], 7) from by rw [HRn.out, Nat.sub_self]; rfl)
              go_wp2
              rw [← hQ]
              exact retB_nil HRz.out HBN.out
  · have he : (e1 != 0) = true := by simpa using he1
    have HR1 := Lib.hid (HR.out.trans (if_neg he1))
    clear HR he1 hL0
    go_enter Tryz.func20, Tryz.ntmps20
    go_wp2_with fail
    refine (cB.out _ HB0.out).mono ?_
    rintro e w1 ⟨A1, c1, rfl, _, _, hb1⟩
    have HB1 := Lib.hid (HB0.out.trans (hb1.mono HB0.out.size))
    clear hb1 cB Q0 HB0
    go_wp2
    rw [← hQ]
    exact retB_nil HR1.out HB1.out
end Go.Proofs.YtfiilbdkhelhgaaGreatDoor
