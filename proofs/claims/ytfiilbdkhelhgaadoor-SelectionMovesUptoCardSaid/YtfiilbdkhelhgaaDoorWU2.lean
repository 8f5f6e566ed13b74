/- Walk: Upgrade. -/
import Derived.Test.YtfiilbdkhelhgaaDoorWU1
namespace Go.Proofs.YtfiilbdkhelhgaaDoor
open Go.RowKit Go.Sort

theorem upL_mem {m x : Mod} {l : List Mod} (h : x ∈ upL m l) : x ∈ l ∨ x = m := by
  unfold upL at h
  rcases List.mem_append.1 h with h | h
  · obtain ⟨y, hy, rfl⟩ := List.mem_map.1 h
    unfold upX
    split
    · exact .inr rfl
    · exact .inl hy
  · split at h
    · simp at h
    · exact .inr (by simpa using h)
theorem upL_len (m : Mod) (l : List Mod) : (upL m l).length ≤ l.length + 1 := by
  unfold upL
  rw [List.length_append, List.length_map]
  split <;> simp
theorem mayP_len {R : Regy} {root m : Mod} {l : List Mod} (h : mayP R root l m = 0) : l.length ≤ 64 := by
  unfold mayP at h
  split at h
  · rename_i hb
    unfold buildP at hb
    split at hb
    · split at hb
      · exact (mcheck_ok root l ‹_›).1
      · rename_i h1; exact absurd hb h1
    · rename_i h1; exact absurd hb h1
  · rename_i h1; exact absurd h h1

set_option maxRecDepth 100000 in
set_option maxHeartbeats 4000000 in
theorem Upgrade_any (A : Option Addr) (c : Nat) (Y : List ManW) (y0 : ManW) (m : Mod) (w : World) (hY : RegOk w w.heap.size A Y) (h0 : ManOk w w.heap.size y0) (hm : okB m) (hG : Glob w) :
    Calls Tryd.prog 22 #[.slice A Y.length c, .agg #[.string ⟨y0.1.1.toArray⟩, .int .i64 y0.1.2.1, .int .i64 y0.1.2.2.1, .int .i64 y0.1.2.2.2, .slice y0.2.1 y0.2.2.2.length y0.2.2.1], .agg #[.string ⟨m.1.toArray⟩, .int .i64 m.2.1, .int .i64 m.2.2.1, .int .i64 m.2.2.2]] w
      (RetMF w (upgradeP (regW Y) y0.1 y0.2.2.2 m)) := by
  obtain ⟨rm, A0, c0, l0⟩ := y0
  simp only
  have HY := Lib.hid hY
  have H0 := Lib.hid h0
  have HG := Lib.hid hG
  have HM := Lib.hid hm
  have hb0 : Below w.heap.size w (((w.alloc (.cells (manA rm A0 l0.length c0) 29)).alloc (.cells (modA m) 26)).alloc (.cells (manA zmod none 0 0) 29)) := (((Below.refl _ _).alloc (Nat.le_refl _) _).alloc (by simp) _).alloc (by simp; omega) _
  have q0 : Blk (((w.alloc (.cells (manA rm A0 l0.length c0) 29)).alloc (.cells (modA m) 26)).alloc (.cells (manA zmod none 0 0) 29)) w.heap.size 29 (manA rm A0 l0.length c0) := ((Blk.new w 29 (manA rm A0 l0.length c0)).keep ((Below.refl _ _).alloc (Nat.le_refl _) _)).keep ((Below.refl _ _).alloc (Nat.le_refl _) _)
  have q1 : Blk (((w.alloc (.cells (manA rm A0 l0.length c0) 29)).alloc (.cells (modA m) 26)).alloc (.cells (manA zmod none 0 0) 29)) (w.heap.size + 1) 26 (modA m) := by
    have h := (Blk.new (w.alloc (.cells (manA rm A0 l0.length c0) 29)) 26 (modA m)).keep ((Below.refl _ _).alloc (Nat.le_refl _) (.cells (manA zmod none 0 0) 29))
    rw [World.size_alloc] at h
    exact h
  have q2 : Blk (((w.alloc (.cells (manA rm A0 l0.length c0) 29)).alloc (.cells (modA m) 26)).alloc (.cells (manA zmod none 0 0) 29)) (w.heap.size + 1 + 1) 29 (manA zmod none 0 0) := by
    have h := Blk.new ((w.alloc (.cells (manA rm A0 l0.length c0) 29)).alloc (.cells (modA m) 26)) 29 (manA zmod none 0 0)
    simp only [World.size_alloc] at h
    exact h
  have HB0 := Lib.hid hb0
  have Q0 := Lib.hid q0
  have Q1 := Lib.hid q1
  have Q2 := Lib.hid q2
  obtain ⟨r, hr⟩ : ∃ r, r = upgradeP (regW Y) rm l0 m := ⟨_, rfl⟩
  rw [← hr]
  unfold upgradeP at hr
  have cM := Lib.hid (fun W (hW : Below w.heap.size w W) => may_any A c Y (rm, A0, c0, l0) m W (HY.out.step hW) ((H0.out.keep hW).more hW.size) HM.out (HG.out.keep hW))
  have HL := Lib.hid (fun h => mayP_len (R := regW Y) (root := rm) (m := m) (l := l0) h)
  simp only at cM
  generalize mayP (regW Y) rm l0 m = E at cM hr HL
  have HOKD := Lib.hid (show ∀ x ∈ msort (upL m l0), okB x from fun x hx => by
    rcases upL_mem (msort_mem.1 hx) with h | rfl
    · exact H0.out.2.2 x (List.mem_cons_of_mem _ h)
    · exact HM.out)
  have cQ := Lib.hid (fun W (hW : Below w.heap.size w W) => show Calls Tryd.prog 41 #[.agg #[.string ⟨rm.1.toArray⟩, .int .i64 rm.2.1, .int .i64 rm.2.2.1, .int .i64 rm.2.2.2, .slice A0 l0.length c0], .agg #[.string ⟨m.1.toArray⟩, .int .i64 m.2.1, .int .i64 m.2.2.1, .int .i64 m.2.2.2]] W fun e w' => ∃ A' c', e = .returned (.agg #[.string ⟨rm.1.toArray⟩, .int .i64 rm.2.1, .int .i64 rm.2.2.1, .int .i64 rm.2.2.2, .slice A' (msort (upL m l0)).length c']) ∧ Sl w' w'.heap.size 4 encM A' (msort (upL m l0)) ∧ (∀ a, A' = some a → W.heap.size ≤ a.block) ∧ Below W.heap.size W w' by
    have h := require_any A0 c0 l0 rm m W ((H0.out.1.below hW).more hW.size) H0.out.2.1
    rw [msort_len]
    exact h)
  have HDL := Lib.hid (show (msort (upL m l0)).length ≤ l0.length + 1 from by rw [msort_len]; exact upL_len m l0)
  have HR := Lib.hid hr
  clear hY h0 hG hm hb0 q0 q1 q2 hr
  generalize msort (upL m l0) = D at HR HOKD cQ HDL
  unfold manA modA zmod at HB0 Q0 Q1 Q2
  generalize hQ : RetMF w r = Q
  go_enter Tryd.func22, Tryd.ntmps22
  go_wp2_with fail
  refine (cM.out _ HB0.out).mono ?_
  rintro e w1 ⟨rfl, hb1⟩
  have HB1 := Lib.hid (HB0.out.trans (hb1.mono HB0.out.size))
  have R0 := Lib.hid (Q0.out.keep hb1)
  have R1 := Lib.hid (Q1.out.keep hb1)
  have R2 := Lib.hid (Q2.out.keep hb1)
  clear hb1 cM Q0 Q1 Q2 HB0
  by_cases hE : E = 0
  · have hl64 := HL.out hE
    have HR1 := Lib.hid (HR.out.trans (if_pos hE))
    subst hE
    obtain ⟨s0, s1, s2, s3, s4⟩ := manC (A := A0) (n := l0.length) (c := c0) (m := rm) R0.out
    obtain ⟨t0, t1, t2, t3⟩ := modC (m := m) R1.out
    clear HR HL
    go_wp2_with fail
    refine (cQ.out _ HB1.out).mono ?_
    rintro e w2 ⟨A2, c2, rfl, hS2, hF2, hb2⟩
    have HA2 := Lib.hid (show Below w2.heap.size w2 (w2.alloc (.cells #[.string ⟨rm.1.toArray⟩, .int .i64 rm.2.1, .int .i64 rm.2.2.1, .int .i64 rm.2.2.2, .slice A2 D.length c2] 29)) from (Below.refl _ _).alloc (Nat.le_refl _) _)
    have HB2 := Lib.hid (HB1.out.trans (hb2.mono HB1.out.size))
    have HB3 := Lib.hid (HB2.out.trans (HA2.out.mono HB2.out.size))
    have S2 := Lib.hid ((R2.out.keep hb2).keep HA2.out)
    have S3 := Lib.hid (Blk.new w2 29 (manA rm A2 D.length c2))
    have HS2 := Lib.hid ((hS2.below HA2.out).more HA2.out.size)
    have HF2 := Lib.hid (show ∀ a, A2 = some a → w.heap.size + 1 + 1 + 1 ≤ a.block from fun a ha => by
      have h := hF2 a ha
      have h2 := R2.out.lt
      omega)
    have hz2 : w.heap.size + 1 + 1 < w2.heap.size := by have h1 := R2.out.lt; have h2 := hb2.size; omega
    have hDl := HDL.out
    have cB0 := fun W (hW : Below (w2.alloc (.cells #[.string ⟨rm.1.toArray⟩, .int .i64 rm.2.1, .int .i64 rm.2.2.1, .int .i64 rm.2.2.2, .slice A2 D.length c2] 29)).heap.size (w2.alloc (.cells #[.string ⟨rm.1.toArray⟩, .int .i64 rm.2.1, .int .i64 rm.2.2.1, .int .i64 rm.2.2.2, .slice A2 D.length c2] 29)) W) => BuildList_any A c Y (rm, A2, c2, D) W (HY.out.step (HB3.out.trans (hW.mono HB3.out.size))) ⟨(HS2.out.below hW).more hW.size, by show D.length ≤ 100; omega, fun x hx => by
      rcases List.mem_cons.1 hx with rfl | hx
      · exact H0.out.2.2 _ (by simp)
      · exact HOKD.out x hx⟩ (HG.out.keep (HB3.out.trans (hW.mono HB3.out.size)))
    simp only at cB0
    generalize buildP (regW Y) rm D = b at cB0 HR1
    obtain ⟨bl, E2⟩ := b
    unfold RetB at cB0
    simp only at cB0 HR1
    have cB := Lib.hid (cB0 _ (Below.refl _ _))
    unfold manA at S3
    clear hS2 hF2 hb2 cQ R0 R1 R2 s0 s1 s2 s3 s4 t0 t1 t2 t3 cB0
    obtain ⟨s0, s1, s2, s3, s4⟩ := manC (A := A2) (n := D.length) (c := c2) (m := rm) S3.out
    go_wp2_with fail
    refine cB.out.mono ?_
    rintro e w3 ⟨A3, c3, rfl, _, _, hb3⟩
    have HB4 := Lib.hid (HB3.out.trans (hb3.mono HB3.out.size))
    have T2 := Lib.hid (S2.out.keep hb3)
    have T3 := Lib.hid (S3.out.keep hb3)
    have HS3 := Lib.hid ((HS2.out.below hb3).more hb3.size)
    clear hb3 cB s0 s1 s2 s3 s4 S2 S3 HS2 HB3 HA2
    have k0 := T2.out.cell 0
    have k1 := T2.out.cell 1
    have k2 := T2.out.cell 2
    have k3 := T2.out.cell 3
    have k4 := T2.out.cell 4
    have f0 := T2.out.free 0
    have f1 := T2.out.free 1
    have f2 := T2.out.free 2
    have f3 := T2.out.free 3
    have f4 := T2.out.free 4
    simp at k0 k1 k2 k3 k4
    have hge : w.heap.size ≤ w.heap.size + 1 + 1 := by omega
    by_cases hE2 : E2 = 0
    · have HR2 := Lib.hid (HR1.out.trans (if_pos hE2))
      subst hE2
      clear HR1
      obtain ⟨s0, s1, s2, s3, s4⟩ := manC (A := A2) (n := D.length) (c := c2) (m := rm) T3.out
      have HNE := Lib.hid (show ∀ a, A2 = some a → a.block ≠ w.heap.size + 1 + 1 from fun a ha => by have := HF2.out a ha; omega)
      have HGE := Lib.hid (show ∀ a, A2 = some a → w.heap.size ≤ a.block from fun a ha => by have := HF2.out a ha; omega)
      go_wp2
      refine bodyPost_ret (v := .tuple #[.agg #[.string ⟨rm.1.toArray⟩, .int .i64 rm.2.1, .int .i64 rm.2.2.1, .int .i64 rm.2.2.2, .slice A2 D.length c2], .int .i64 0]) (by simp [results, Tryd.results22, go_sem, k0, k1, k2, k3, k4]) rfl ?_
      rw [← hQ]
      refine retMF_some HR2.out rfl ?_ (.inr HGE.out) ?_
      · have hsz : ∀ (W : World) p u, (W.setCell p u).heap.size = W.heap.size := fun W p u => by simp [World.setCell]
        simp only [hsz]
        exact ((((HS3.out.setCell _ _ (.inr HNE.out)).setCell _ _ (.inr HNE.out)).setCell _ _ (.inr HNE.out)).setCell _ _ (.inr HNE.out)).setCell _ _ (.inr HNE.out)
      · exact ((((HB4.out.setCell hge _).setCell hge _).setCell hge _).setCell hge _).setCell hge _
    · have he : (E2 != 0) = true := by simpa using hE2
      have HR2 := Lib.hid (HR1.out.trans (if_neg hE2))
      clear HR1 hE2
      go_wp2
      refine bodyPost_ret (v := .tuple #[.agg #[.string ⟨#[]⟩, .int .i64 0, .int .i64 0, .int .i64 0, .slice none 0 0], .int .i64 E2]) (by simp [results, Tryd.results22, go_sem, k0, k1, k2, k3, k4]; try rfl) rfl ?_
      rw [← hQ]
      refine retMF_zero HR2.out ?_
      exact ((((HB4.out.setCell hge _).setCell hge _).setCell hge _).setCell hge _).setCell hge _
  · have he : (E != 0) = true := by simpa using hE
    have HR1 := Lib.hid (HR.out.trans (if_neg hE))
    clear HR hE HL
    have k0 := R2.out.cell 0
    have k1 := R2.out.cell 1
    have k2 := R2.out.cell 2
    have k3 := R2.out.cell 3
    have k4 := R2.out.cell 4
    have f0 := R2.out.free 0
    have f1 := R2.out.free 1
    have f2 := R2.out.free 2
    have f3 := R2.out.free 3
    have f4 := R2.out.free 4
    simp at k0 k1 k2 k3 k4
    go_wp2
    refine bodyPost_ret (v := .tuple #[.agg #[.string ⟨#[]⟩, .int .i64 0, .int .i64 0, .int .i64 0, .slice none 0 0], .int .i64 E]) (by simp [results, Tryd.results22, go_sem, k0, k1, k2, k3, k4]; try rfl) rfl ?_
    rw [← hQ]
    refine retMF_zero HR1.out ?_
    have hge : w.heap.size ≤ w.heap.size + 1 + 1 := by omega
    exact ((((HB1.out.setCell hge _).setCell hge _).setCell hge _).setCell hge _).setCell hge _
end Go.Proofs.YtfiilbdkhelhgaaDoor
