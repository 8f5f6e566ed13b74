/- Walk: a root whose build list has at most a version (selection.Downgrade). -/
import Derived.Test.YtfiilbdkhelhgaaDoorWS7
import Derived.Test.YtfiilbdkhelhgaaDoorG3
namespace Go.Proofs.YtfiilbdkhelhgaaDoor
open Go.RowKit Go.Sort

def modA (m : Mod) : Array Value := #[.string ⟨m.1.toArray⟩, .int .i64 m.2.1, .int .i64 m.2.2.1, .int .i64 m.2.2.2]
/-- the cells of a module's box -/
def ModC (W : World) (g : Nat) (m : Mod) : Prop :=
  W.cell? ⟨g, 0, none⟩ = some (.string ⟨m.1.toArray⟩) ∧ W.cell? ⟨g, 1, none⟩ = some (.int .i64 m.2.1) ∧ W.cell? ⟨g, 2, none⟩ = some (.int .i64 m.2.2.1) ∧ W.cell? ⟨g, 3, none⟩ = some (.int .i64 m.2.2.2)
theorem modC {W : World} {g : Nat} {m : Mod} (h : Blk W g 26 (modA m)) : ModC W g m := ⟨h.cell 0, h.cell 1, h.cell 2, h.cell 3⟩
theorem blk_below {W W' : World} {g z : Nat} {t : TypeId} {cs : Array Value} (h : Blk W g t cs) (hb : Below z W W') (hg : g < z) : Blk W' g t cs := (hb.block g hg).trans h
/-- a manifest in new memory and an error -/
def RetMF (w : World) (r : (Mod × List Mod) × Int) (e : Ending) (w' : World) : Prop :=
  ∃ A c, e = .returned (.tuple #[.agg #[.string ⟨r.1.1.1.toArray⟩, .int .i64 r.1.1.2.1, .int .i64 r.1.1.2.2.1, .int .i64 r.1.1.2.2.2, .slice A r.1.2.length c], .int .i64 r.2]) ∧ Sl w' w'.heap.size 4 encM A r.1.2 ∧ (r.1.2 = [] ∨ ∀ a, A = some a → w.heap.size ≤ a.block) ∧ Below w.heap.size w w'

theorem retMF_some {w w' : World} {r : (Mod × List Mod) × Int} {M : Mod} {L : List Mod} {n c : Nat} {A : Option Addr} (h : r = ((M, L), 0)) (hn : n = L.length) (hS : Sl w' w'.heap.size 4 encM A L) (hf : L = [] ∨ ∀ a, A = some a → w.heap.size ≤ a.block) (hb : Below w.heap.size w w') :
    RetMF w r (.returned (.tuple #[.agg #[.string ⟨M.1.toArray⟩, .int .i64 M.2.1, .int .i64 M.2.2.1, .int .i64 M.2.2.2, .slice A n c], .int .i64 0])) w' := by
  subst h hn
  exact ⟨A, c, rfl, hS, hf, hb⟩
theorem retMF_zero {w w' : World} {r : (Mod × List Mod) × Int} {E : Int} (h : r = ((zmod, []), E)) (hb : Below w.heap.size w w') :
    RetMF w r (.returned (.tuple #[.agg #[.string ⟨#[]⟩, .int .i64 0, .int .i64 0, .int .i64 0, .slice none 0 0], .int .i64 E])) w' := by
  subst h
  exact ⟨none, 0, rfl, .inl rfl, .inl rfl, hb⟩

set_option maxRecDepth 100000 in
set_option maxHeartbeats 4000000 in
theorem Downgrade_any (A : Option Addr) (c : Nat) (Y : List ManW) (y0 : ManW) (m : Mod) (w : World) (hY : RegOk w w.heap.size A Y) (h0 : ManOk w w.heap.size y0) (hm : okB m) (hG : Glob w) :
    Calls Tryd.prog 13 #[.slice A Y.length c, .agg #[.string ⟨y0.1.1.toArray⟩, .int .i64 y0.1.2.1, .int .i64 y0.1.2.2.1, .int .i64 y0.1.2.2.2, .slice y0.2.1 y0.2.2.2.length y0.2.2.1], .agg #[.string ⟨m.1.toArray⟩, .int .i64 m.2.1, .int .i64 m.2.2.1, .int .i64 m.2.2.2]] w
      (RetMF w (downP (regW Y) y0.1 y0.2.2.2 m)) := by
  obtain ⟨rm, A0, c0, l0⟩ := y0
  simp only
  have HY := Lib.hid hY
  have H0 := Lib.hid h0
  have HG := Lib.hid hG
  have HM := Lib.hid hm
  have hYl := hY.2.2
  have hb0 : Below w.heap.size w (((w.alloc (.cells (manA rm A0 l0.length c0) 29)).alloc (.cells (modA m) 26)).alloc (.cells #[.string ⟨#[]⟩, .int .i64 0, .int .i64 0, .int .i64 0, .slice none 0 0] 29)) := (((Below.refl _ _).alloc (Nat.le_refl _) _).alloc (by simp) _).alloc (by simp; omega) _
  have q0 : Blk (((w.alloc (.cells (manA rm A0 l0.length c0) 29)).alloc (.cells (modA m) 26)).alloc (.cells #[.string ⟨#[]⟩, .int .i64 0, .int .i64 0, .int .i64 0, .slice none 0 0] 29)) w.heap.size 29 (manA rm A0 l0.length c0) :=
    (Blk.new w 29 (manA rm A0 l0.length c0)).keep (((Below.refl _ _).alloc (Nat.le_refl _) _).alloc (by simp) _)
  have q1 := (Blk.new (w.alloc (.cells (manA rm A0 l0.length c0) 29)) 26 (modA m)).keep ((Below.refl _ _).alloc (Nat.le_refl _) (.cells #[.string ⟨#[]⟩, .int .i64 0, .int .i64 0, .int .i64 0, .slice none 0 0] 29))
  have q2 := Blk.new ((w.alloc (.cells (manA rm A0 l0.length c0) 29)).alloc (.cells (modA m) 26)) 29 #[.string ⟨#[]⟩, .int .i64 0, .int .i64 0, .int .i64 0, .slice none 0 0]
  simp only [World.size_alloc] at q1 q2
  have cM0 := fun W (hW : Below w.heap.size w W) => may_any A c Y (rm, A0, c0, l0) m W (HY.out.step hW) ((H0.out.keep hW).more hW.size) HM.out (HG.out.keep hW)
  obtain ⟨r, hr⟩ : ∃ r, r = downP (regW Y) rm l0 m := ⟨_, rfl⟩
  rw [← hr]
  unfold downP at hr
  simp only at cM0
  have hnd : mayP (regW Y) rm l0 m = 0 → (Y.map (·.1)).Nodup := fun h => by
    refine reg_nodup (buildP_check (R := regW Y) (root := rm) (l := l0) ?_)
    unfold mayP at h
    split at h
    · assumption
    · exact h
  generalize mayP (regW Y) rm l0 m = E at cM0 hr hnd
  have HR := Lib.hid hr
  have cM := Lib.hid cM0
  have Q0 := Lib.hid q0
  have Q1 := Lib.hid q1
  have Q2 := Lib.hid q2
  have HB0 := Lib.hid hb0
  unfold manA modA at Q0 Q1 Q2 HB0
  clear hY h0 hG hm hb0 q0 q1 q2 cM0 hr
  have hmf : ∀ (fn : Fn) (first cap : Array Value) (w : World), (Instr.makeFunc fn first cap).run Tryd.prog w = .ok (.func fn first cap) w := fun _ _ _ _ => rfl
  generalize hQ : RetMF w r = Q
  by_cases hE : E = 0
  · subst hE
    have HND := Lib.hid (hnd rfl)
    have HR1 := Lib.hid (HR.out.trans (if_pos rfl))
    clear hnd HR
    go_enter Tryd.func13, Tryd.ntmps13
    go_wp2_with fail
    refine (cM.out _ HB0.out).mono ?_
    rintro e w1 ⟨rfl, hb1⟩
    have HB1 := Lib.hid (HB0.out.trans (hb1.mono HB0.out.size))
    have R0 := Lib.hid (Q0.out.keep hb1)
    have R1 := Lib.hid (Q1.out.keep hb1)
    have R2 := Lib.hid (Q2.out.keep hb1)
    clear hb1 cM Q0 Q1 Q2 HB0
    have cI := Lib.hid (selIndex_any A c Y w1 (HY.out.step HB1.out) HND.out)
    go_wp2_with fail
    refine cI.out.mono ?_
    rintro e w2 ⟨rfl, hm2, hb2⟩
    have HB2 := Lib.hid (HB1.out.trans (hb2.mono HB1.out.size))
    have S0 := (R0.out.keep hb2).keep ((Below.refl _ _).alloc (Nat.le_refl _) (.cells #[.map (some w1.heap.size)] 55))
    have S1 := (R1.out.keep hb2).keep ((Below.refl _ _).alloc (Nat.le_refl _) (.cells #[.map (some w1.heap.size)] 55))
    have S2 := (R2.out.keep hb2).keep ((Below.refl _ _).alloc (Nat.le_refl _) (.cells #[.map (some w1.heap.size)] 55))
    have S9 := Blk.new w2 55 #[.map (some w1.heap.size)]
    have SM := hm2.alloc (.cells #[.map (some w1.heap.size)] 55)
    have hB9 : Below w.heap.size w (w2.alloc (.cells #[.map (some w1.heap.size)] 55)) := HB2.out.alloc HB2.out.size _
    have hz9 : (w2.alloc (.cells #[.map (some w1.heap.size)] 55)).heap.size = w2.heap.size + 1 := by simp
    obtain ⟨W9, hW9⟩ : ∃ W, W = w2.alloc (.cells #[.map (some w1.heap.size)] 55) := ⟨_, rfl⟩
    rw [← hW9] at S0 S1 S2 S9 SM hB9 hz9
    have hlt0 := S2.lt
    have hz02 : w.heap.size + 1 + 1 < w2.heap.size := by
      have h1 := R2.out.lt
      have h2 := hb2.size
      omega
    obtain ⟨s0, s1, s2, s3, s4⟩ := manC (A := A0) (n := l0.length) (c := c0) (m := rm) S0
    obtain ⟨t0, t1, t2, t3⟩ := modC (m := m) S1
    have cL := Lib.hid (fun W (hW : Below W9.heap.size W9 W) (x : Mod) (hx : okB x) => low_any w1.heap.size Y.length w2.heap.size w.heap.size (w.heap.size + 1) Y rm.1 m x W (SM.below hW) (fun y hy => ((HY.out.2.1 y hy).keep (hB9.trans (hW.mono hB9.size))).more (Nat.le_trans hB9.size hW.size)) hYl hx
      (cell_keep hW (S9.cell 0)) (cell_keep hW s0) (cell_keep hW t0) (cell_keep hW t1) (cell_keep hW t2) (cell_keep hW t3))
    have T2 := Lib.hid S2
    have HB9 := Lib.hid hB9
    have HW9 := Lib.hid hW9
    have o0 := cell_keep_alloc (.cells #[.string ⟨rm.1.toArray⟩, .int .i64 rm.2.1, .int .i64 rm.2.2.1, .int .i64 rm.2.2.2, .slice none 0 0] 29) s4
    rw [hW9] at s0 s1 s2 s3 s4 o0
    clear hm2 hb2 S0 S1 S2 S9 SM R0 R1 R2 hB9 hW9 hlt0 t0 t1 t2 t3 cI HB2
    go_wp2_with fail
    go_loopw [36] (fun i wr => ∃ (k n : Nat) (Av : Option Addr) (cv : Nat), k ≤ l0.length ∧ i = .int .i64 (k : Nat) ∧ n ≤ k ∧ Hid (n = (downL (regW Y) rm.1 m (l0.take k)).length) ∧ Hid (Blk wr W9.heap.size 29 #[.string ⟨rm.1.toArray⟩, .int .i64 rm.2.1, .int .i64 rm.2.2.1, .int .i64 rm.2.2.2, .slice Av n cv]) ∧
      Hid (wr.ownsRow (W9.heap.size + 1) 26 4 (.slice Av n cv) n ((downL (regW Y) rm.1 m (l0.take k)).flatMap encM)) ∧ Hid (Below W9.heap.size W9 wr) ∧ W9.heap.size + 1 ≤ wr.heap.size) (fun i _ => l0.length - (intOf i).toNat)
    case atStart =>
      rw [← HW9.out]
      exact ⟨0, 0, none, 0, Nat.zero_le _, rfl, Nat.le_refl _, Lib.hid rfl, Lib.hid (Blk.new W9 29 _), Lib.hid (World.ownsRow_nil _ _ _ _), Lib.hid ((Below.refl _ _).alloc (Nat.le_refl _) _), by simp⟩
    case round =>
      obtain ⟨wo, hwo⟩ : ∃ wo, wo = wr := ⟨_, rfl⟩
      subst hwo
      obtain ⟨k, n, Av, cv, hk, rfl, hnk, HN, HO, HA, HB, hzr⟩ := hrel
      have HBN := Lib.hid (HB9.out.trans (HB.out.mono HB9.out.size))
      by_cases hlt : k < l0.length
      · have hlt' : (k : Int) < (l0.length : Int) := by omega
        obtain ⟨b0, off0, hA0, hb0, g0, g1, g2, g3⟩ := ((H0.out.1.below HBN.out).mod (i := k) hlt)
        have HXok := Lib.hid (show okB l0[k] from H0.out.2.2 _ (List.mem_cons_of_mem _ (List.getElem_mem hlt)))
        have HTk := Lib.hid (downL_take (R := regW Y) (rp := rm.1) (m := m) hlt)
        have hl0 : l0.length ≤ 100 := H0.out.2.1
        generalize l0[k] = x at g0 g1 g2 g3 HXok HTk
        simp only at g0 g1 g2 g3 hA0
        subst hA0
        obtain ⟨BF, HBF0, HBFS, HBFE⟩ : ∃ BF : Nat → Option Mod, Hid (BF 0 = none) ∧ Hid (∀ j (hj : j < Y.length), BF (j + 1) = dstep (regW Y) rm.1 m x (BF j) Y[j].1) ∧ Hid (downB (regW Y) rm.1 m x = BF Y.length) := by
          refine ⟨fun j => ((Y.map (·.1)).take j).foldl (dstep (regW Y) rm.1 m x) none, Lib.hid rfl, Lib.hid fun j hj => ?_, Lib.hid ?_⟩
          · have h := dfold_take (R := regW Y) (rp := rm.1) (m := m) (x := x) (b := none) (L := Y.map (·.1)) (k := j) (by simpa using hj)
            rw [List.getElem_map] at h
            exact h
          · show _ = ((Y.map (·.1)).take Y.length).foldl _ _
            rw [List.take_of_length_le (by simp)]
            unfold downB regW
            rw [List.map_map]
            rfl
        have xz : (wo.alloc (.cells #[.string ⟨x.1.toArray⟩, .int .i64 x.2.1, .int .i64 x.2.2.1, .int .i64 x.2.2.2] 26)).heap.size = wo.heap.size + 1 := by simp
        have XX := Lib.hid (show Blk (wo.alloc (.cells #[.string ⟨x.1.toArray⟩, .int .i64 x.2.1, .int .i64 x.2.2.1, .int .i64 x.2.2.2] 26)) wo.heap.size 26 (modA x) from Blk.new _ _ _)
        have XM := Lib.hid (Blk.new (wo.alloc (.cells #[.string ⟨x.1.toArray⟩, .int .i64 x.2.1, .int .i64 x.2.2.1, .int .i64 x.2.2.2] 26)) 26 (modA zmod))
        have XB0 := Lib.hid (show Below wo.heap.size wo (wo.alloc (.cells #[.string ⟨x.1.toArray⟩, .int .i64 x.2.1, .int .i64 x.2.2.1, .int .i64 x.2.2.2] 26)) from (Below.refl _ _).alloc (Nat.le_refl _) _)
        obtain ⟨WX, hWX⟩ : ∃ W, W = wo.alloc (.cells #[.string ⟨x.1.toArray⟩, .int .i64 x.2.1, .int .i64 x.2.2.1, .int .i64 x.2.2.2] 26) := ⟨_, rfl⟩
        rw [← hWX] at xz XX XM XB0
        rw [xz] at XM
        have HWX := Lib.hid hWX
        clear hWX
        go_wp2_with fail
        go_loopw [15, 43] (fun b i wr => ∃ j : Nat, j ≤ Y.length ∧ i = .int .i64 (j : Nat) ∧ b = .bool (BF j).isSome ∧ Hid (Blk wr (wo.heap.size + 1) 26 (modA ((BF j).getD zmod))) ∧ Hid (Below (wo.heap.size + 1) WX wr) ∧ (wo.heap.size + 1) + 1 ≤ wr.heap.size) (fun _ i _ => Y.length - (intOf i).toNat)
        case atStart =>
          rw [← HWX.out]
          exact ⟨0, Nat.zero_le _, rfl, by rw [HBF0.out]; rfl, Lib.hid (by rw [HBF0.out]; exact XM.out), Lib.hid ((Below.refl _ _).alloc (by omega) _), by simp; omega⟩
        case round =>
          obtain ⟨j, hj, rfl, rfl, HBB, HBW, hzw⟩ := hrel
          have HB9W := Lib.hid (HB.out.trans ((XB0.out.mono HB.out.size).trans (HBW.out.mono (by have := HB.out.size; omega))))
          have HBNW := Lib.hid (HB9.out.trans (HB9W.out.mono HB9.out.size))
          by_cases hlj : j < Y.length
          · have hlj' : (j : Int) < (Y.length : Int) := by omega
            obtain ⟨b1, off1, hA1, hb1, g0, g1, g2, g3, g4⟩ := (HY.out.step HBNW.out).1.man hlj
            have HZok := Lib.hid (show okB Y[j].1 from (HY.out.2.1 _ (List.getElem_mem hlj)).2.2 _ (by simp))
            have HS0 := HBFS.out j hlj
            subst hA1
            generalize Y[j] = yj at g0 g1 g2 g3 g4 HZok HS0
            obtain ⟨z, A1, c1, l1⟩ := yj
            simp only at g0 g1 g2 g3 g4 HZok HS0
            generalize BF j = bj at HS0 HBB
            have HXW := Lib.hid (show Below wr.heap.size wr ((wr.alloc (.cells #[.string ⟨z.1.toArray⟩, .int .i64 z.2.1, .int .i64 z.2.2.1, .int .i64 z.2.2.2, .slice A1 l1.length c1] 29)).alloc (.cells #[.string ⟨z.1.toArray⟩, .int .i64 z.2.1, .int .i64 z.2.2.1, .int .i64 z.2.2.2] 26)) from ((Below.refl _ _).alloc (Nat.le_refl _) _).alloc (by simp) _)
            have ZW := Lib.hid (show Blk ((wr.alloc (.cells #[.string ⟨z.1.toArray⟩, .int .i64 z.2.1, .int .i64 z.2.2.1, .int .i64 z.2.2.2, .slice A1 l1.length c1] 29)).alloc (.cells #[.string ⟨z.1.toArray⟩, .int .i64 z.2.1, .int .i64 z.2.2.1, .int .i64 z.2.2.2] 26)) (wr.heap.size + 1) 26 (modA z) from by have := Blk.new (wr.alloc (.cells #[.string ⟨z.1.toArray⟩, .int .i64 z.2.1, .int .i64 z.2.2.1, .int .i64 z.2.2.2, .slice A1 l1.length c1] 29)) 26 (modA z); rw [World.size_alloc] at this; exact this)
            have XXW := Lib.hid ((blk_below XX.out (HBW.out) (by have := XX.out.lt; omega)).keep HXW.out)
            have HBBW := Lib.hid (HBB.out.keep HXW.out)
            obtain ⟨x0, x1, x2, x3⟩ := modC XXW.out
            unfold dstep fitP at HS0
            by_cases hp : z.1 = x.1
            · have hp1 : (z.1 == x.1) = true := by rw [hp]; exact beq_self_eq_true _
              rw [decide_eq_true hp, Bool.true_and] at HS0
              have cC0 := fun W => Compare_any z.2.1 z.2.2.1 z.2.2.2 x.2.1 x.2.2.1 x.2.2.2 W
              have hvc : vcmp z.2.1 z.2.2.1 z.2.2.2 x.2.1 x.2.2.1 x.2.2.2 = vcmpV z.2 x.2 := rfl
              rw [hvc] at cC0
              generalize vcmpV z.2 x.2 = d at cC0 HS0
              have cC := Lib.hid cC0
              have HPP := Lib.hid hp
              clear hp hvc cC0
              by_cases hd : d ≤ 0
              · rw [decide_eq_true hd, Bool.true_and] at HS0
                have cL1 := fun W hW => cL.out W hW z HZok.out
                generalize lowP (regW Y) rm.1 m z = lo at cL1 HS0
                have cLo := Lib.hid cL1
                have HS := Lib.hid HS0
                clear cL1 HS0
                go_wp2_with fail
                refine (cC.out _).mono ?_
                rintro e w4 ⟨rfl, hb4⟩
                have HB4 := Lib.hid (HXW.out.trans (hb4.toBelow.mono (by simp; omega)))
                have ZW4 := Lib.hid (ZW.out.keep hb4.toBelow)
                have HBB4 := Lib.hid (HBBW.out.keep hb4.toBelow)
                obtain ⟨y0, y1, y2, y3⟩ := modC ZW4.out
                clear hb4 cC x0 x1 x2 x3 g0 g1 g2 g3 g4 ZW HBBW XXW
                go_wp2_with fail
                refine (cLo.out _ (HB9W.out.trans (HB4.out.mono HB9W.out.size))).mono ?_
                rintro e w5 ⟨rfl, hb5⟩
                have HB5 := Lib.hid (HB4.out.trans (hb5.mono HB4.out.size))
                have ZW5 := Lib.hid (ZW4.out.keep hb5)
                have HBB5 := Lib.hid (HBB4.out.keep hb5)
                clear hb5 cLo y0 y1 y2 y3 ZW4 HBB4 HB4
                obtain ⟨y0, y1, y2, y3⟩ := modC ZW5.out
                have hz5 := HB5.out.size
                cases lo
                · have HS2 := Lib.hid (HS.out.trans (if_neg (by simp)))
                  clear HS
                  go_wp2
                  go_roundw
                  case rel => exact ⟨j + 1, by omega, by go_num, by rw [HS2.out] <;> rfl, Lib.hid (by rw [HS2.out]; exact HBB5.out), Lib.hid (HBW.out.trans (HB5.out.mono (by omega))), by omega⟩
                  case measure => simp [intOf]; omega
                · have HS1 := Lib.hid (HS.out.trans (if_pos rfl))
                  clear HS
                  cases bj with
                  | none =>
                    have HS2 : Hid (BF (j + 1) = some z) := HS1
                    clear HS1
                    have hnone : (none : Option Mod).getD zmod = zmod := rfl
                    rw [hnone] at HBB5
                    obtain ⟨k0, k1, k2, k3⟩ := modC HBB5.out
                    have f0 := HBB5.out.free 0
                    have f1 := HBB5.out.free 1
                    have f2 := HBB5.out.free 2
                    have f3 := HBB5.out.free 3
                    go_wp2
                    go_roundw
                    case rel => exact ⟨j + 1, by omega, by go_num, by rw [HS2.out] <;> rfl, Lib.hid (by rw [HS2.out]; exact (((HBB5.out.set_ 0 _).set_ 1 _).set_ 2 _).set_ 3 _), Lib.hid (((((HBW.out.trans (HB5.out.mono (by omega))).setCell (p := ⟨(wo.heap.size + 1), 0, none⟩) (Nat.le_refl _) _).setCell (p := ⟨(wo.heap.size + 1), 1, none⟩) (Nat.le_refl _) _).setCell (p := ⟨(wo.heap.size + 1), 2, none⟩) (Nat.le_refl _) _).setCell (p := ⟨(wo.heap.size + 1), 3, none⟩) (Nat.le_refl _) _), by simp; omega⟩
                    case measure => simp [intOf]; omega
                  | some u =>
                    have HS2' : Hid (BF (j + 1) = if 0 < mcmp z u then some z else some u) := HS1
                    have hsome : (some u : Option Mod).getD zmod = u := rfl
                    rw [hsome] at HBB5
                    obtain ⟨k0, k1, k2, k3⟩ := modC HBB5.out
                    have cK0 := fun W => mCompare_any z.1 u.1 z.2.1 z.2.2.1 z.2.2.2 u.2.1 u.2.2.1 u.2.2.2 W
                    have hmm : mcmp (z.1, z.2.1, z.2.2.1, z.2.2.2) (u.1, u.2.1, u.2.2.1, u.2.2.2) = mcmp z u := rfl
                    rw [hmm] at cK0
                    generalize mcmp z u = q at cK0 HS2'
                    have cK := Lib.hid cK0
                    clear cK0 HS1 hmm
                    go_wp2_with fail
                    refine (cK.out _).mono ?_
                    rintro e w6 ⟨rfl, hb6⟩
                    have HB6 := Lib.hid (HB5.out.trans (hb6.toBelow.mono HB5.out.size))
                    have ZW6 := Lib.hid (ZW5.out.keep hb6.toBelow)
                    have HBB6 := Lib.hid (HBB5.out.keep hb6.toBelow)
                    have hz6 := HB6.out.size
                    clear hb6 cK y0 y1 y2 y3 k0 k1 k2 k3 ZW5 HBB5 HB5
                    obtain ⟨y0, y1, y2, y3⟩ := modC ZW6.out
                    by_cases hq : 0 < q
                    · have HS2 := Lib.hid (HS2'.out.trans (if_pos hq))
                      clear HS2'
                      obtain ⟨k0, k1, k2, k3⟩ := modC HBB6.out
                      have f0 := HBB6.out.free 0
                      have f1 := HBB6.out.free 1
                      have f2 := HBB6.out.free 2
                      have f3 := HBB6.out.free 3
                      go_wp2
                      go_roundw
                      case rel => exact ⟨j + 1, by omega, by go_num, by rw [HS2.out] <;> rfl, Lib.hid (by rw [HS2.out]; exact (((HBB6.out.set_ 0 _).set_ 1 _).set_ 2 _).set_ 3 _), Lib.hid (((((HBW.out.trans (HB6.out.mono (by omega))).setCell (p := ⟨(wo.heap.size + 1), 0, none⟩) (Nat.le_refl _) _).setCell (p := ⟨(wo.heap.size + 1), 1, none⟩) (Nat.le_refl _) _).setCell (p := ⟨(wo.heap.size + 1), 2, none⟩) (Nat.le_refl _) _).setCell (p := ⟨(wo.heap.size + 1), 3, none⟩) (Nat.le_refl _) _), by simp; omega⟩
                      case measure => simp [intOf]; omega
                    · have HS2 := Lib.hid (HS2'.out.trans (if_neg hq))
                      clear HS2'
                      go_wp2
                      go_roundw
                      case rel => exact ⟨j + 1, by omega, by go_num, by rw [HS2.out] <;> rfl, Lib.hid (by rw [HS2.out]; exact HBB6.out), Lib.hid (HBW.out.trans (HB6.out.mono (by omega))), by omega⟩
                      case measure => simp [intOf]; omega
              · rw [decide_eq_false hd, Bool.false_and] at HS0
                have HS2 := Lib.hid (HS0.trans (if_neg (by simp)))
                clear HS0
                go_wp2_with fail
                refine (cC.out _).mono ?_
                rintro e w4 ⟨rfl, hb4⟩
                have HB4 := Lib.hid (HXW.out.trans (hb4.toBelow.mono (by simp; omega)))
                have HBB4 := Lib.hid (HBBW.out.keep hb4.toBelow)
                have hz4 := HB4.out.size
                clear hb4 cC x0 x1 x2 x3 g0 g1 g2 g3 g4 ZW HBBW XXW
                go_wp2
                go_roundw
                case rel => exact ⟨j + 1, by omega, by go_num, by rw [HS2.out] <;> rfl, Lib.hid (by rw [HS2.out]; exact HBB4.out), Lib.hid (HBW.out.trans (HB4.out.mono (by omega))), by omega⟩
                case measure => simp [intOf]; omega
            · have hp1 : (z.1 == x.1) = false := beq_eq_false_iff_ne.2 hp
              rw [decide_eq_false hp, Bool.false_and] at HS0
              have HS2 := Lib.hid (HS0.trans (if_neg (by simp)))
              clear HS0 hp
              go_wp2
              go_roundw
              case rel => exact ⟨j + 1, by omega, by go_num, by rw [HS2.out] <;> rfl, Lib.hid (by rw [HS2.out]; exact HBBW.out), Lib.hid (HBW.out.trans (HXW.out.mono (by omega))), by simp; omega⟩
              case measure => simp [intOf]; omega
          · obtain rfl : j = Y.length := by omega
            have HE := HBFE.out
            have HTk2 := HTk.out
            rw [HE] at HTk2
            generalize BF Y.length = bj at HTk2 HBB
            have HOW := Lib.hid (blk_below HO.out ((XB0.out.mono (Nat.le_refl _)).trans (HBW.out.mono (by have := XB0.out.size; omega))) (by omega))
            have HAW := Lib.hid (own_below2 HA.out (XB0.out.trans (HBW.out.mono (by have := XB0.out.size; omega))))
            cases bj with
            | none =>
              have HT3 := Lib.hid (HTk2.trans (by simp : _ = downL (regW Y) rm.1 m (l0.take k)))
              clear HTk2 HE
              go_wp2
              go_roundw
              case rel => exact ⟨k + 1, n, Av, cv, by omega, by go_num, by omega, by rw [HT3.out]; exact HN, HOW, by rw [HT3.out]; exact HAW, HB9W, by omega⟩
              case measure => simp [intOf]; omega
            | some u =>
              have HT3 := Lib.hid (show downL (regW Y) rm.1 m (l0.take (k + 1)) = downL (regW Y) rm.1 m (l0.take k) ++ [u] from HTk2)
              have hsome : (some u : Option Mod).getD zmod = u := rfl
              rw [hsome] at HBB
              rw [hz9] at HOW
              obtain ⟨p0, p1, p2, p3, p4⟩ := manC HOW.out
              obtain ⟨k0, k1, k2, k3⟩ := modC HBB.out
              have b0 : n + 1 ≤ maxLen := by unfold maxLen; omega
              have b1 : (n + 1) * 40 ≤ 140737488355328 := by omega
              have HWA := Lib.hid (show Below wr.heap.size wr (wr.alloc (.cells #[.string ⟨u.1.toArray⟩, .int .i64 u.2.1, .int .i64 u.2.2.1, .int .i64 u.2.2.2] 26)) from (Below.refl _ _).alloc (Nat.le_refl _) _)
              have HAA := Lib.hid (own_below2 HAW.out HWA.out)
              have hbz : W9.heap.size + 1 ≤ (wr.alloc (.cells #[.string ⟨u.1.toArray⟩, .int .i64 u.2.1, .int .i64 u.2.2.1, .int .i64 u.2.2.2] 26)).heap.size := by simp; omega
              clear HTk2 HE hsome HAW
              go_wp2_with (at_builtin; refine wpList_own rfl (.tmp 81) (.tmp 83) rfl (W9.heap.size + 1) elMod (.slice Av n cv) n _ rfl HAA.out _ 1 _ _ rfl (Src.lit _ 4 _ _ 1 rfl) (by decide) (by simp [Value.oneCell']) b0 b1 hbz ?_; intro v' w7 hown7 hgrow7 hb7; obtain ⟨A7, c7, rfl⟩ := Acc.shape (.inl hown7); have HO7 := Lib.hid (blk_below (HOW.out.keep HWA.out) hb7 (by omega)); have HOWN := Lib.hid hown7; have HB7 := Lib.hid hb7; have o4 := HO7.out.cell 4; have f4 := HO7.out.free 4; have hz7 := hb7.size; simp at o4; clear hown7 hgrow7 hb7)
              go_roundw
              case rel => exact ⟨k + 1, n + 1, A7, c7, by omega, by go_num, by omega, Lib.hid (by rw [HT3.out, List.length_append, ← HN.out]; rfl), Lib.hid (by rw [hz9]; exact HO7.out.set_ 4 _), Lib.hid (by rw [HT3.out, List.flatMap_append]; exact HOWN.out.kept (grown_set w7 _ _) (.inr (own_apart HOWN.out (by show w2.heap.size + 1 < _; omega)))),
                Lib.hid (((HB9W.out.trans (HWA.out.mono (by omega))).trans (HB7.out.mono (Nat.le_succ _))).setCell (p := ⟨w2.heap.size + 1, 4, none⟩) (by show W9.heap.size ≤ w2.heap.size + 1; omega) _), by simp at hz7 ⊢; omega⟩
              case measure => simp [intOf]; omega
      · obtain rfl : k = l0.length := by omega
        rw [List.take_of_length_le (Nat.le_refl _)] at HN HA
        generalize hD : downL (regW Y) rm.1 m l0 = D at HN HA
        have HDD := Lib.hid hD
        obtain rfl := HN.out
        have hS := (Acc.sl (.inl HA.out) encM_len (by decide)).2
        have hDl : D.length ≤ 100 := Nat.le_trans hnk H0.out.2.1
        have cS := Lib.hid (sorted_far rm Av cv D wo hS (by omega))
        rw [hz9] at HO
        obtain ⟨p0, p1, p2, p3, p4⟩ := manC HO.out
        have HT2 := Lib.hid (blk_below T2.out HB.out (by omega))
        clear hS hD HN HA
        go_wp2_with fail
        refine cS.out.mono ?_
        rintro e w8 ⟨A8, c8, rfl, hS8, hb8, hfar⟩
        have HB8 := Lib.hid (HBN.out.trans (hb8.mono HBN.out.size))
        have HT8 := Lib.hid (HT2.out.keep hb8)
        have HS8 := Lib.hid hS8
        have hzz := HT2.out.lt
        have HF8 := Lib.hid (show msort D = [] ∨ ∀ a, A8 = some a → a.block ≠ w.heap.size + 1 + 1 from by
          rcases hfar with h | h
          · exact .inl (by rw [h]; simp [msort])
          · exact .inr fun a ha => by have := h a ha; omega)
        have HG8 := Lib.hid (show msort D = [] ∨ ∀ a, A8 = some a → w.heap.size ≤ a.block from by
          rcases hfar with h | h
          · exact .inl (by rw [h]; simp [msort])
          · exact .inr fun a ha => by have := h a ha; omega)
        have k0 := HT8.out.cell 0
        have k1 := HT8.out.cell 1
        have k2 := HT8.out.cell 2
        have k3 := HT8.out.cell 3
        have k4 := HT8.out.cell 4
        have f0 := HT8.out.free 0
        have f1 := HT8.out.free 1
        have f2 := HT8.out.free 2
        have f3 := HT8.out.free 3
        have f4 := HT8.out.free 4
        simp at k0 k1 k2 k3 k4
        clear hS8 hb8 hfar cS p0 p1 p2 p3 p4
        go_wp2
        refine bodyPost_ret (v := .tuple #[.agg #[.string ⟨rm.1.toArray⟩, .int .i64 rm.2.1, .int .i64 rm.2.2.1, .int .i64 rm.2.2.2, .slice A8 D.length c8], .int .i64 0]) (by simp [results, Tryd.results13, go_sem, k0, k1, k2, k3, k4]) rfl ?_
        rw [← hQ]
        refine retMF_some (by rw [HR1.out, HDD.out]) (msort_len D).symm ?_ HG8.out ?_
        · have hsz : ∀ (W : World) p u, (W.setCell p u).heap.size = W.heap.size := fun W p u => by simp [World.setCell]
          simp only [hsz]
          exact ((((HS8.out.setCell _ _ HF8.out).setCell _ _ HF8.out).setCell _ _ HF8.out).setCell _ _ HF8.out).setCell _ _ HF8.out
        · have hge : w.heap.size ≤ w.heap.size + 1 + 1 := by omega
          exact ((((HB8.out.setCell hge _).setCell hge _).setCell hge _).setCell hge _).setCell hge _
  · have he : (E != 0) = true := by simpa using hE
    have HR1 := Lib.hid (HR.out.trans (if_neg hE))
    clear HR hE hnd
    go_enter Tryd.func13, Tryd.ntmps13
    go_wp2_with fail
    refine (cM.out _ HB0.out).mono ?_
    rintro e w1 ⟨rfl, hb1⟩
    have HB1 := Lib.hid (HB0.out.trans (hb1.mono HB0.out.size))
    have R2 := Lib.hid (Q2.out.keep hb1)
    have k0 := R2.out.cell 0
    have k1 := R2.out.cell 1
    have k2 := R2.out.cell 2
    have k3 := R2.out.cell 3
    have k4 := R2.out.cell 4
    have f0 := R2.out.free 0
    have f1 := R2.out.free 1
    have f2 := R2.out.free 2
    have f3 := R2.out.free 3
    have f4 := R2.out.free 4
    simp at k0 k1 k2 k3 k4
    clear hb1 cM Q0 Q1 Q2 HB0
    go_wp2
    refine bodyPost_ret (v := .tuple #[.agg #[.string ⟨#[]⟩, .int .i64 0, .int .i64 0, .int .i64 0, .slice none 0 0], .int .i64 E]) (by simp [results, Tryd.results13, go_sem, k0, k1, k2, k3, k4]; try rfl) rfl ?_
    rw [← hQ]
    refine retMF_zero HR1.out ?_
    have hge : w.heap.size ≤ w.heap.size + 1 + 1 := by omega
    exact ((((HB1.out.setCell hge _).setCell hge _).setCell hge _).setCell hge _).setCell hge _
end Go.Proofs.YtfiilbdkhelhgaaDoor
