/- Walk: UpgradeAll. -/
import Derived.Test.YtfiilbdkhelhgaaDoorWU1
import Derived.Test.YtfiilbdkhelhgaaDoorPL7
namespace Go.Proofs.YtfiilbdkhelhgaaDoor
open Go.RowKit Go.Sort

set_option maxRecDepth 100000 in
set_option maxHeartbeats 4000000 in
theorem UpgradeAll_any (A : Option Addr) (c : Nat) (Y : List ManW) (y0 : ManW) (w : World) (hY : RegOk w w.heap.size A Y) (h0 : ManOk w w.heap.size y0) (hG : Glob w) :
    Calls Tryd.prog 19 #[.slice A Y.length c, .agg #[.string ⟨y0.1.1.toArray⟩, .int .i64 y0.1.2.1, .int .i64 y0.1.2.2.1, .int .i64 y0.1.2.2.2, .slice y0.2.1 y0.2.2.2.length y0.2.2.1]] w
      (RetMF w (upallP (regW Y) y0.1 y0.2.2.2)) := by
  obtain ⟨rm, A0, c0, l0⟩ := y0
  simp only
  have HY := Lib.hid hY
  have H0 := Lib.hid h0
  have HG := Lib.hid hG
  have hYl := hY.2.2
  have hb0 : Below w.heap.size w ((w.alloc (.cells (manA rm A0 l0.length c0) 29)).alloc (.cells (manA zmod none 0 0) 29)) := ((Below.refl _ _).alloc (Nat.le_refl _) _).alloc (by simp) _
  have q0 : Blk ((w.alloc (.cells (manA rm A0 l0.length c0) 29)).alloc (.cells (manA zmod none 0 0) 29)) w.heap.size 29 (manA rm A0 l0.length c0) := (Blk.new w 29 (manA rm A0 l0.length c0)).keep ((Below.refl _ _).alloc (Nat.le_refl _) _)
  have q1 : Blk ((w.alloc (.cells (manA rm A0 l0.length c0) 29)).alloc (.cells (manA zmod none 0 0) 29)) (w.heap.size + 1) 29 (manA zmod none 0 0) := by
    have h := Blk.new (w.alloc (.cells (manA rm A0 l0.length c0) 29)) 29 (manA zmod none 0 0)
    rw [World.size_alloc] at h
    exact h
  have cB0 := fun W (hW : Below w.heap.size w W) => BuildList_any A c Y (rm, A0, c0, l0) W (HY.out.step hW) ((H0.out.keep hW).more hW.size) (HG.out.keep hW)
  obtain ⟨r, hr⟩ : ∃ r, r = upallP (regW Y) rm l0 := ⟨_, rfl⟩
  rw [← hr]
  unfold upallP at hr
  simp only at cB0
  have hT0 := fun h => build_tail (R := regW Y) (root := rm) (l := l0) h
  have hL0 : (buildP (regW Y) rm l0).2 = 0 → 1 ≤ (buildP (regW Y) rm l0).1.length := fun h => by
    rw [(buildP_ok h).2.2.2]
    simp [listP]
  generalize buildP (regW Y) rm l0 = B at cB0 hr hT0 hL0
  obtain ⟨L, e1⟩ := B
  unfold RetB at cB0
  simp only at cB0 hr hT0 hL0
  have HR := Lib.hid hr
  have cB := Lib.hid cB0
  have Q0 := Lib.hid q0
  have Q1 := Lib.hid q1
  have HB0 := Lib.hid hb0
  clear hY h0 hG hb0 q0 q1 cB0 hr
  unfold manA zmod at HB0 Q0 Q1
  generalize hQ : RetMF w r = Q
  have hge : w.heap.size ≤ w.heap.size + 1 := by omega
  by_cases he1 : e1 = 0
  · subst he1
    have hT := hT0 rfl
    have hL1 := hL0 rfl
    have HR1 := Lib.hid (HR.out.trans (if_pos rfl))
    have hdl : (L.drop 1).length = L.length - 1 := by rw [List.length_drop]
    have HDin := Lib.hid hT.mem
    have hDl : (L.drop 1).length ≤ Y.length := by have := hT.len; simpa [regW] using this
    have hUp := hT.up.mem
    clear hT0 hL0 hT HR
    go_enter Tryd.func19, Tryd.ntmps19
    go_wp2_with fail
    refine (cB.out _ HB0.out).mono ?_
    rintro e w1 ⟨A1, c1, rfl, hc1, hS1, hb1⟩
    have HB1 := Lib.hid (HB0.out.trans (hb1.mono HB0.out.size))
    have R0 := Lib.hid (Q0.out.keep hb1)
    have R1 := Lib.hid (Q1.out.keep hb1)
    have rc : ∀ X, (Instr.slice 27 (.slice A1 L.length c1) (some (.int .i64 1)) none none).run Tryd.prog X = .ok (.slice (cutA A1 c1 1 4) (L.length - 1) (c1 - 1)) X := fun X => run_cut_lo elMod A1 L.length c1 1 hL1 X
    have HSD := Lib.hid (Sl.drop hS1 c1 1 hc1)
    rw [← hdl] at rc
    generalize cutA A1 c1 1 4 = AD at rc HSD
    generalize c1 - 1 = cD at rc
    generalize L.drop 1 = D at rc HSD HR1 HDin hDl hUp
    have HU := Lib.hid hUp
    have HA2 := Lib.hid (show Below w1.heap.size w1 (w1.alloc (.cells #[.string ⟨rm.1.toArray⟩, .int .i64 rm.2.1, .int .i64 rm.2.2.1, .int .i64 rm.2.2.2, .slice none 0 0] 29)) from (Below.refl _ _).alloc (Nat.le_refl _) _)
    have S1 := Lib.hid (R1.out.keep HA2.out)
    have S2 := Lib.hid (show Blk (w1.alloc (.cells #[.string ⟨rm.1.toArray⟩, .int .i64 rm.2.1, .int .i64 rm.2.2.1, .int .i64 rm.2.2.2, .slice none 0 0] 29)) w1.heap.size 29 (manA rm none 0 0) from Blk.new w1 29 (manA rm none 0 0))
    have HB2 := Lib.hid (HB1.out.trans (HA2.out.mono HB1.out.size))
    have hz2 : (w1.alloc (.cells #[.string ⟨rm.1.toArray⟩, .int .i64 rm.2.1, .int .i64 rm.2.2.1, .int .i64 rm.2.2.2, .slice none 0 0] 29)).heap.size = w1.heap.size + 1 := World.size_alloc _ _
    obtain ⟨W2, hW2⟩ : ∃ W, W = w1.alloc (.cells #[.string ⟨rm.1.toArray⟩, .int .i64 rm.2.1, .int .i64 rm.2.2.1, .int .i64 rm.2.2.2, .slice none 0 0] 29) := ⟨_, rfl⟩
    rw [← hW2] at S1 S2 HB2 hz2
    have HW2 := Lib.hid hW2
    have HSD2 := Lib.hid (show Sl W2 w1.heap.size 4 encM AD D from by rw [hW2]; exact HSD.out.below HA2.out)
    have hz1 : w.heap.size + 1 < w1.heap.size := by have h1 := R1.out.lt; omega
    obtain ⟨s0, s1, s2, s3, s4⟩ := manC (A := A0) (n := l0.length) (c := c0) (m := rm) R0.out
    clear hb1 cB Q0 Q1 HB0 hS1 hc1 hUp hdl hL1 hW2 HSD HA2
    go_wp2_with fail
    go_loopw [29] (fun i wr => ∃ (k : Nat) (Av : Option Addr) (cv : Nat), k ≤ D.length ∧ i = .int .i64 (k : Nat) ∧ Hid (Blk wr w1.heap.size 29 #[.string ⟨rm.1.toArray⟩, .int .i64 rm.2.1, .int .i64 rm.2.2.1, .int .i64 rm.2.2.2, .slice Av k cv]) ∧
      Hid (wr.ownsRow (w1.heap.size + 1) 26 4 (.slice Av k cv) k ((allL (regW Y) (D.take k)).flatMap encM)) ∧ Hid (Below w1.heap.size W2 wr)) (fun i _ => D.length - (intOf i).toNat)
    case atStart =>
      rw [← HW2.out]
      exact ⟨0, none, 0, Nat.zero_le _, rfl, S2, Lib.hid (World.ownsRow_nil _ _ _ _), Lib.hid (Below.refl _ _)⟩
    case round =>
      obtain ⟨wo, hwo⟩ : ∃ wo, wo = wr := ⟨_, rfl⟩
      subst hwo
      obtain ⟨k, Av, cv, hk, rfl, HO, HA, HB⟩ := hrel
      have HBN := Lib.hid (HB2.out.trans (HB.out.mono (by omega)))
      have hzB := HB.out.size
      have HT2 := Lib.hid (blk_below S1.out HB.out (by omega))
      by_cases hlt : k < D.length
      · have hlt' : (k : Int) < (D.length : Int) := by omega
        obtain ⟨b0, off0, hA0, hb0, g0, g1, g2, g3⟩ := ((HSD2.out.below HB.out).mod (i := k) hlt)
        have HTk := Lib.hid (allL_take (R := regW Y) hlt)
        generalize D[k] = x at g0 g1 g2 g3 HTk
        subst hA0
        obtain ⟨BF, HBF0, HBFS, HBFE⟩ : ∃ BF : Nat → Mod, Hid (BF 0 = x) ∧ Hid (∀ j (hj : j < Y.length), BF (j + 1) = topS (BF j) Y[j].1) ∧ Hid (topX (regW Y) x = BF Y.length) := by
          refine ⟨fun j => ((Y.map (·.1)).take j).foldl topS x, Lib.hid rfl, Lib.hid fun j hj => ?_, Lib.hid ?_⟩
          · have h := topS_take (x := x) (L := Y.map (·.1)) (k := j) (by simpa using hj)
            rw [List.getElem_map] at h
            exact h
          · show _ = ((Y.map (·.1)).take Y.length).foldl _ _
            rw [List.take_of_length_le (by simp)]
            unfold topX regW
            rw [List.map_map]
            rfl
        have XX := Lib.hid (show Blk (wo.alloc (.cells #[.string ⟨x.1.toArray⟩, .int .i64 x.2.1, .int .i64 x.2.2.1, .int .i64 x.2.2.2] 26)) wo.heap.size 26 (modA x) from Blk.new _ _ _)
        have XB0 := Lib.hid (show Below wo.heap.size wo (wo.alloc (.cells #[.string ⟨x.1.toArray⟩, .int .i64 x.2.1, .int .i64 x.2.2.1, .int .i64 x.2.2.2] 26)) from (Below.refl _ _).alloc (Nat.le_refl _) _)
        have xz : (wo.alloc (.cells #[.string ⟨x.1.toArray⟩, .int .i64 x.2.1, .int .i64 x.2.2.1, .int .i64 x.2.2.2] 26)).heap.size = wo.heap.size + 1 := World.size_alloc _ _
        obtain ⟨WX, hWX⟩ : ∃ W, W = wo.alloc (.cells #[.string ⟨x.1.toArray⟩, .int .i64 x.2.1, .int .i64 x.2.2.1, .int .i64 x.2.2.2] 26) := ⟨_, rfl⟩
        rw [← hWX] at XX XB0 xz
        have HWX := Lib.hid hWX
        clear hWX
        go_wp2_with fail
        go_loopw [35] (fun i wr => ∃ j : Nat, j ≤ Y.length ∧ i = .int .i64 (j : Nat) ∧ Hid (Blk wr wo.heap.size 26 (modA (BF j))) ∧ Hid (Below wo.heap.size WX wr)) (fun i _ => Y.length - (intOf i).toNat)
        case atStart =>
          rw [← HWX.out]
          exact ⟨0, Nat.zero_le _, rfl, Lib.hid (by rw [HBF0.out]; exact XX.out), Lib.hid (Below.refl _ _)⟩
        case round =>
          obtain ⟨j, hj, rfl, HBB, HBW⟩ := hrel
          have hzw := HBW.out.size
          have HBx := Lib.hid (XB0.out.trans HBW.out)
          have HB2W := Lib.hid (HB.out.trans (HBx.out.mono (by omega)))
          have HBNW := Lib.hid (HBN.out.trans (HBx.out.mono HBN.out.size))
          by_cases hlj : j < Y.length
          · have hlj' : (j : Int) < (Y.length : Int) := by omega
            obtain ⟨b1, off1, hA1, hb1, g0, g1, g2, g3, g4⟩ := (HY.out.step HBNW.out).1.man hlj
            have HS0 := HBFS.out j hlj
            subst hA1
            generalize Y[j] = yj at g0 g1 g2 g3 g4 HS0
            obtain ⟨z, A1, c1, l1⟩ := yj
            simp only at g0 g1 g2 g3 g4 HS0
            generalize BF j = u at HS0 HBB
            have HXW := Lib.hid (show Below wr.heap.size wr (wr.alloc (.cells #[.string ⟨z.1.toArray⟩, .int .i64 z.2.1, .int .i64 z.2.2.1, .int .i64 z.2.2.2, .slice A1 l1.length c1] 29)) from (Below.refl _ _).alloc (Nat.le_refl _) _)
            have ZW := Lib.hid (show Blk (wr.alloc (.cells #[.string ⟨z.1.toArray⟩, .int .i64 z.2.1, .int .i64 z.2.2.1, .int .i64 z.2.2.2, .slice A1 l1.length c1] 29)) wr.heap.size 29 (manA z A1 l1.length c1) from Blk.new _ _ _)
            have UW := Lib.hid (HBB.out.keep HXW.out)
            obtain ⟨z0, z1, z2, z3, z4⟩ := manC ZW.out
            obtain ⟨x0, x1, x2, x3⟩ := modC UW.out
            unfold topS at HS0
            by_cases hp : z.1 = u.1
            · have hp1 : (z.1 == u.1) = true := by rw [hp]; exact beq_self_eq_true _
              have cC0 := fun W => Compare_any z.2.1 z.2.2.1 z.2.2.2 u.2.1 u.2.2.1 u.2.2.2 W
              have hvc : vcmp z.2.1 z.2.2.1 z.2.2.2 u.2.1 u.2.2.1 u.2.2.2 = vcmpV z.2 u.2 := rfl
              rw [hvc] at cC0
              simp only [hp, true_and] at HS0
              generalize vcmpV z.2 u.2 = d at cC0 HS0
              have cC := Lib.hid cC0
              have HS := Lib.hid HS0
              clear hp hvc cC0 HS0
              go_wp2_with fail
              refine (cC.out _).mono ?_
              rintro e w4 ⟨rfl, hb4⟩
              have HB4 := Lib.hid (HXW.out.trans (hb4.toBelow.mono HXW.out.size))
              have ZW4 := Lib.hid (ZW.out.keep hb4.toBelow)
              have UW4 := Lib.hid (UW.out.keep hb4.toBelow)
              have hz4 := HB4.out.size
              obtain ⟨y0, y1, y2, y3, y4⟩ := manC ZW4.out
              clear hb4 cC x0 x1 x2 x3 z0 z1 z2 z3 z4 g0 g1 g2 g3 g4 ZW UW
              by_cases hd : 0 < d
              · have HS2 := Lib.hid (HS.out.trans (if_pos hd))
                have k0 := UW4.out.cell 0
                have k1 := UW4.out.cell 1
                have k2 := UW4.out.cell 2
                have k3 := UW4.out.cell 3
                have f0 := UW4.out.free 0
                have f1 := UW4.out.free 1
                have f2 := UW4.out.free 2
                have f3 := UW4.out.free 3
                unfold modA at k0 k1 k2 k3
                simp at k0 k1 k2 k3
                go_wp2
                go_roundw
                case rel => exact ⟨j + 1, by omega, by go_num, Lib.hid (by rw [HS2.out]; exact (((UW4.out.set_ 0 _).set_ 1 _).set_ 2 _).set_ 3 _), Lib.hid (((((HBW.out.trans (HB4.out.mono (by omega))).setCell (p := ⟨wo.heap.size, 0, none⟩) (Nat.le_refl _) _).setCell (p := ⟨wo.heap.size, 1, none⟩) (Nat.le_refl _) _).setCell (p := ⟨wo.heap.size, 2, none⟩) (Nat.le_refl _) _).setCell (p := ⟨wo.heap.size, 3, none⟩) (Nat.le_refl _) _)⟩
                case measure => simp [intOf]; omega
              · have HS2 := Lib.hid (HS.out.trans (if_neg hd))
                go_wp2
                go_roundw
                case rel => exact ⟨j + 1, by omega, by go_num, Lib.hid (by rw [HS2.out]; exact UW4.out), Lib.hid (HBW.out.trans (HB4.out.mono (by omega)))⟩
                case measure => simp [intOf]; omega
            · have hp1 : (z.1 == u.1) = false := beq_eq_false_iff_ne.2 hp
              have HS2 := Lib.hid (HS0.trans (if_neg (fun h => hp h.1)))
              clear HS0 hp
              go_wp2
              go_roundw
              case rel => exact ⟨j + 1, by omega, by go_num, Lib.hid (by rw [HS2.out]; exact UW.out), Lib.hid (HBW.out.trans (HXW.out.mono (by omega)))⟩
              case measure => simp [intOf]; omega
          · obtain rfl : j = Y.length := by omega
            have HTk2 := HTk.out
            rw [HBFE.out] at HTk2
            generalize BF Y.length = u at HTk2 HBB
            have HT3 := Lib.hid HTk2
            have HOW := Lib.hid (blk_below HO.out HBx.out (by omega))
            have HAW := Lib.hid (own_below2 HA.out HBx.out)
            obtain ⟨p0, p1, p2, p3, p4⟩ := manC HOW.out
            obtain ⟨k0, k1, k2, k3⟩ := modC HBB.out
            have b0 : k + 1 ≤ maxLen := by unfold maxLen; omega
            have b1 : (k + 1) * 40 ≤ 140737488355328 := by omega
            have HWA := Lib.hid (show Below wr.heap.size wr (wr.alloc (.cells #[.string ⟨u.1.toArray⟩, .int .i64 u.2.1, .int .i64 u.2.2.1, .int .i64 u.2.2.2] 26)) from (Below.refl _ _).alloc (Nat.le_refl _) _)
            have HAA := Lib.hid (own_below2 HAW.out HWA.out)
            have hbz : w1.heap.size + 1 ≤ (wr.alloc (.cells #[.string ⟨u.1.toArray⟩, .int .i64 u.2.1, .int .i64 u.2.2.1, .int .i64 u.2.2.2] 26)).heap.size := by have := HWA.out.size; omega
            clear HTk2 HAW
            go_wp2_with (at_builtin; refine wpList_own rfl (.tmp 58) (.tmp 60) rfl (w1.heap.size + 1) elMod (.slice Av k cv) k _ rfl HAA.out _ 1 _ _ rfl (Src.lit _ 4 _ _ 1 rfl) (by decide) (by simp [Value.oneCell']) b0 b1 hbz ?_; intro v' w7 hown7 hgrow7 hb7; obtain ⟨A7, c7, rfl⟩ := Acc.shape (.inl hown7); have HO7 := Lib.hid (blk_below (HOW.out.keep HWA.out) hb7 (by omega)); have HOWN := Lib.hid hown7; have HB7 := Lib.hid hb7; have o4 := HO7.out.cell 4; have f4 := HO7.out.free 4; have hz7 := hb7.size; simp at o4; clear hown7 hgrow7 hb7)
            go_roundw
            case rel => exact ⟨k + 1, A7, c7, by omega, by go_num, Lib.hid (HO7.out.set_ 4 _), Lib.hid (by rw [HT3.out, List.flatMap_append]; exact HOWN.out.kept (grown_set w7 _ _) (.inr (own_apart HOWN.out (by show w1.heap.size < _; omega)))),
              Lib.hid (((HB2W.out.trans (HWA.out.mono (by omega))).trans (HB7.out.mono (by omega))).setCell (p := ⟨w1.heap.size, 4, none⟩) (by show w1.heap.size ≤ w1.heap.size; omega) _)⟩
            case measure => simp [intOf]; omega
      · obtain rfl : k = D.length := by omega
        rw [List.take_of_length_le (Nat.le_refl _)] at HA
        have hel : (allL (regW Y) D).length = D.length := List.length_map _
        generalize allL (regW Y) D = E at HA HU HR1 hel
        rw [← hel] at HA HO hDl ⊢
        clear hk
        have hS := (Acc.sl (.inl HA.out) encM_len (by decide)).2
        have hEY : E.length ≤ 100 := by omega
        clear hel
        have cK := Lib.hid (Check_any rm Av cv E wo hS (by omega) (fun x hx => by
          rcases List.mem_cons.1 hx with rfl | hx
          · have := (H0.out.2.2 x (by simp)).ok; exact this.1
          · obtain ⟨y, hy, he⟩ := List.mem_map.1 (HU.out x hx).1
            obtain ⟨u, hu, rfl⟩ := List.mem_map.1 hy
            have := ((HY.out.2.1 u hu).2.2 u.1 (by simp)).ok
            have e2 : u.1 = x := he
            rw [← e2]
            exact this.1) (HG.out.keep HBN.out))
        have HS := Lib.hid hS
        obtain ⟨p0, p1, p2, p3, p4⟩ := manC HO.out
        generalize mcheck rm E = q at cK HR1
        clear hS HA
        go_wp2_with fail
        refine cK.out.mono ?_
        rintro e w5 ⟨rfl, hb5⟩
        have HB5 := Lib.hid (HBN.out.trans (hb5.mono HBN.out.size))
        have HT5 := Lib.hid (HT2.out.keep hb5)
        have HO5 := Lib.hid (HO.out.keep hb5)
        have HS5 := Lib.hid ((HS.out.below hb5).more hb5.size)
        have hz5 := hb5.size
        clear hb5 cK p0 p1 p2 p3 p4
        by_cases hq : q = 0
        · have HR2 := Lib.hid (HR1.out.trans (if_pos hq))
          subst hq
          have cS := Lib.hid (sorted_far rm Av cv E w5 HS5.out (by omega))
          obtain ⟨p0, p1, p2, p3, p4⟩ := manC HO5.out
          go_wp2_with fail
          refine cS.out.mono ?_
          rintro e w8 ⟨A8, c8, rfl, hS8, hb8, hfar⟩
          have HB8 := Lib.hid (HB5.out.trans (hb8.mono HB5.out.size))
          have HT8 := Lib.hid (HT5.out.keep hb8)
          have HS8 := Lib.hid hS8
          have HF8 := Lib.hid (show msort E = [] ∨ ∀ a, A8 = some a → a.block ≠ w.heap.size + 1 from by
            rcases hfar with h | h
            · exact .inl (by rw [h]; simp [msort])
            · exact .inr fun a ha => by have := h a ha; omega)
          have HG8 := Lib.hid (show msort E = [] ∨ ∀ a, A8 = some a → w.heap.size ≤ a.block from by
            rcases hfar with h | h
            · exact .inl (by rw [h]; simp [msort])
            · exact .inr fun a ha => by have := h a ha; omega)
          have k0 := HT8.out.cell 0
          have k1 := HT8.out.cell 1
          have k2 := HT8.out.cell 2
          have k3 := HT8.out.cell 3
          have k4 := HT8.out.cell 4
          have f0 := HT8.out.free 0
          have f1 := HT8.out.free 1
          have f2 := HT8.out.free 2
          have f3 := HT8.out.free 3
          have f4 := HT8.out.free 4
          simp at k0 k1 k2 k3 k4
          clear hS8 hb8 hfar cS p0 p1 p2 p3 p4
          go_wp2
          refine bodyPost_ret (v := .tuple #[.agg #[.string ⟨rm.1.toArray⟩, .int .i64 rm.2.1, .int .i64 rm.2.2.1, .int .i64 rm.2.2.2, .slice A8 E.length c8], .int .i64 0]) (by simp [results, Tryd.results19, go_sem, k0, k1, k2, k3, k4]) rfl ?_
          rw [← hQ]
          refine retMF_some HR2.out (msort_len E).symm ?_ HG8.out ?_
          · have hsz : ∀ (W : World) p u, (W.setCell p u).heap.size = W.heap.size := fun W p u => by simp [World.setCell]
            simp only [hsz]
            exact ((((HS8.out.setCell _ _ HF8.out).setCell _ _ HF8.out).setCell _ _ HF8.out).setCell _ _ HF8.out).setCell _ _ HF8.out
          · exact ((((HB8.out.setCell hge _).setCell hge _).setCell hge _).setCell hge _).setCell hge _
        · have he : (q != 0) = true := by simpa using hq
          have HR2 := Lib.hid (HR1.out.trans (if_neg hq))
          have k0 := HT5.out.cell 0
          have k1 := HT5.out.cell 1
          have k2 := HT5.out.cell 2
          have k3 := HT5.out.cell 3
          have k4 := HT5.out.cell 4
          have f0 := HT5.out.free 0
          have f1 := HT5.out.free 1
          have f2 := HT5.out.free 2
          have f3 := HT5.out.free 3
          have f4 := HT5.out.free 4
          simp at k0 k1 k2 k3 k4
          clear hq
          go_wp2
          refine bodyPost_ret (v := .tuple #[.agg #[.string ⟨#[]⟩, .int .i64 0, .int .i64 0, .int .i64 0, .slice none 0 0], .int .i64 2]) (by simp [results, Tryd.results19, go_sem, k0, k1, k2, k3, k4]; try rfl) rfl ?_
          rw [← hQ]
          refine retMF_zero HR2.out ?_
          exact ((((HB5.out.setCell hge _).setCell hge _).setCell hge _).setCell hge _).setCell hge _
  · have he : (e1 != 0) = true := by simpa using he1
    have HR1 := Lib.hid (HR.out.trans (if_neg he1))
    clear HR he1 hT0 hL0
    go_enter Tryd.func19, Tryd.ntmps19
    go_wp2_with fail
    refine (cB.out _ HB0.out).mono ?_
    rintro e w1 ⟨A1, c1, rfl, _, _, hb1⟩
    have HB1 := Lib.hid (HB0.out.trans (hb1.mono HB0.out.size))
    have R1 := Lib.hid (Q1.out.keep hb1)
    have k0 := R1.out.cell 0
    have k1 := R1.out.cell 1
    have k2 := R1.out.cell 2
    have k3 := R1.out.cell 3
    have k4 := R1.out.cell 4
    have f0 := R1.out.free 0
    have f1 := R1.out.free 1
    have f2 := R1.out.free 2
    have f3 := R1.out.free 3
    have f4 := R1.out.free 4
    simp at k0 k1 k2 k3 k4
    clear hb1 cB Q0 Q1 HB0
    go_wp2
    refine bodyPost_ret (v := .tuple #[.agg #[.string ⟨#[]⟩, .int .i64 0, .int .i64 0, .int .i64 0, .slice none 0 0], .int .i64 e1]) (by simp [results, Tryd.results19, go_sem, k0, k1, k2, k3, k4]; try rfl) rfl ?_
    rw [← hQ]
    refine retMF_zero HR1.out ?_
    exact ((((HB1.out.setCell hge _).setCell hge _).setCell hge _).setCell hge _).setCell hge _
end Go.Proofs.YtfiilbdkhelhgaaDoor
