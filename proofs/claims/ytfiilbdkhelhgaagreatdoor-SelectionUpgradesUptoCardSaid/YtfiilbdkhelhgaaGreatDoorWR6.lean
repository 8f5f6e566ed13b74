/- Walks: the document's may and low. -/
import Derived.Test.YtfiilbdkhelhgaaGreatDoorWR5
import Derived.Test.YtfiilbdkhelhgaaGreatDoorWL2
namespace Go.Proofs.YtfiilbdkhelhgaaGreatDoor
open Go.RowKit Go.Sort

set_option maxRecDepth 100000 in
set_option maxHeartbeats 4000000 in
theorem rmay_any (A : Option Addr) (c : Nat) (Y : List ManW) (y0 : ManW) (m : Mod) (w : World) (hY : RegOk w w.heap.size A Y) (h0 : ManOk w w.heap.size y0) :
    Calls Tryz.prog 42 #[.slice A Y.length c, .agg #[.string ⟨y0.1.1.toArray⟩, .int .i64 y0.1.2.1, .int .i64 y0.1.2.2.1, .int .i64 y0.1.2.2.2, .slice y0.2.1 y0.2.2.2.length y0.2.2.1], .agg #[.string ⟨m.1.toArray⟩, .int .i64 m.2.1, .int .i64 m.2.2.1, .int .i64 m.2.2.2]] w fun e w' => e = .returned (.int .i64 (mayP (regW Y) y0.1 y0.2.2.2 m)) ∧ Below w.heap.size w w' := by
  obtain ⟨rm, A0, c0, l0⟩ := y0
  simp only
  have HY := Lib.hid hY
  have H0 := Lib.hid h0
  have hYl := hY.2.2
  have Q0 := Lib.hid ((Blk.new w 33 (manA rm A0 l0.length c0)).keep ((Below.refl _ _).alloc (Nat.le_refl _) (.cells #[.string ⟨m.1.toArray⟩, .int .i64 m.2.1, .int .i64 m.2.2.1, .int .i64 m.2.2.2] 30)))
  have q1 := Blk.new (w.alloc (.cells (manA rm A0 l0.length c0) 33)) 30 #[.string ⟨m.1.toArray⟩, .int .i64 m.2.1, .int .i64 m.2.2.1, .int .i64 m.2.2.2]
  rw [World.size_alloc] at q1
  have Q1 := Lib.hid q1
  have HB0 := Lib.hid (show Below w.heap.size w ((w.alloc (.cells (manA rm A0 l0.length c0) 33)).alloc (.cells #[.string ⟨m.1.toArray⟩, .int .i64 m.2.1, .int .i64 m.2.2.1, .int .i64 m.2.2.2] 30)) from ((Below.refl _ _).alloc (Nat.le_refl _) _).alloc (by simp) _)
  have cB0 := fun W (hW : Below w.heap.size w W) => rBuildList_any A c Y (rm, A0, c0, l0) W (HY.out.step hW) ((H0.out.keep hW).more hW.size)
  have cF := Lib.hid (fun W (hW : Below w.heap.size w W) => find_any A c Y m W ((HY.out.step hW).1) (by omega))
  obtain ⟨E, hE⟩ : ∃ E, E = mayP (regW Y) rm l0 m := ⟨_, rfl⟩
  rw [← hE]
  unfold mayP at hE
  simp only at cB0
  generalize buildP (regW Y) rm l0 = r at cB0 hE
  obtain ⟨L, e1⟩ := r
  unfold RetB at cB0
  simp only at cB0 hE
  have hfi := hasR_findI Y m
  generalize findI Y m = f at cF hfi
  have cB := Lib.hid cB0
  have HE := Lib.hid hE
  unfold manA at Q0 Q1 HB0
  clear hY h0 q1 cB0 hE
  by_cases he1 : e1 = 0
  · subst he1
    have HE1 := Lib.hid (HE.out.trans (if_pos rfl))
    clear HE
    go_enter Tryz.func42, Tryz.ntmps42
    go_wp2_with fail
    refine (cB.out _ HB0.out).mono ?_
    rintro e w1 ⟨A1, c1, rfl, _, _, hb1⟩
    have HB1 := Lib.hid (HB0.out.trans (hb1.mono HB0.out.size))
    have P0 := Lib.hid (Q0.out.keep hb1)
    have P1 := Lib.hid (Q1.out.keep hb1)
    obtain ⟨y0, y1, y2, y3⟩ := modC P1.out
    clear hb1 cB
    go_wp2_with fail
    refine (cF.out _ HB1.out).mono ?_
    rintro e w2 ⟨rfl, hb2⟩
    have HB2 := Lib.hid (HB1.out.trans (hb2.mono HB1.out.size))
    obtain ⟨x0, x1, x2, x3, x4⟩ := manC (P0.out.keep hb2)
    obtain ⟨z0, z1, z2, z3⟩ := modC (P1.out.keep hb2)
    clear hb2 cF y0 y1 y2 y3
    cases hh : hasR (regW Y) m with
    | false =>
      have hf : f < 0 := hfi.2 hh
      have HE2 := Lib.hid (HE1.out.trans (if_neg (by rw [hh]; simp)))
      clear hh hfi
      go_wp2
      go_ret
      exact ⟨by rw [HE2.out]; rfl, HB2.out⟩
    | true =>
      have hf : ¬ f < 0 := fun h => by rw [hfi.1 h] at hh; cases hh
      have HE2 := Lib.hid (HE1.out.trans (if_pos hh))
      clear hh hfi
      by_cases hp : m.1 = rm.1
      · have HE3 := Lib.hid (HE2.out.trans (if_pos hp))
        have hp1 : (m.1 == rm.1) = true := by rw [hp]; exact beq_self_eq_true _
        have HP := Lib.hid hp
        clear hp
        go_wp2
        go_ret
        exact ⟨by rw [HE3.out]; rfl, HB2.out⟩
      · have HE3 := Lib.hid (HE2.out.trans (if_neg hp))
        have hp1 : (m.1 == rm.1) = false := beq_eq_false_iff_ne.2 hp
        have HP := Lib.hid hp
        clear hp
        go_wp2
        go_ret
        exact ⟨by rw [HE3.out]; rfl, HB2.out⟩
  · have he : (e1 != 0) = true := by simpa using he1
    have HE1 := Lib.hid (HE.out.trans (if_neg he1))
    clear HE he1
    go_enter Tryz.func42, Tryz.ntmps42
    go_wp2_with fail
    refine (cB.out _ HB0.out).mono ?_
    rintro e w1 ⟨A1, c1, rfl, _, _, hb1⟩
    have HB1 := Lib.hid (HB0.out.trans (hb1.mono HB0.out.size))
    clear hb1 cB
    go_wp2
    go_ret
    exact ⟨by rw [HE1.out]; rfl, HB1.out⟩

/-- what the document's low asks, of the needed modules -/
def lowR (R : Regy) (S : List Mod) (rp : List UInt8) (m : Mod) : Bool := knownP R S rp && (match greatestP S m.1 with | none => true | some g => decide (vcmpV g.2 m.2 ≤ 0))
theorem lowR_eq {R : Regy} {S : List Mod} {rp : List UInt8} {m x : Mod} (hS : ∀ y, y ∈ S ↔ Reach R [x] y) : lowR R S rp m = lowP R rp m x := by
  rw [Bool.eq_iff_iff]
  unfold lowR lowP knownP
  simp only [Bool.and_eq_true, List.all_eq_true, Bool.or_eq_true, decide_eq_true_eq, Bool.not_eq_true', decide_eq_false_iff_not]
  have hm : ∀ y, y ∈ needL R [x] ↔ y ∈ S := fun y => (needL_mem _ _ _).trans (hS y).symm
  constructor
  · rintro ⟨h1, h2⟩ y hy
    have hy2 := (hm y).1 hy
    refine ⟨h1 y hy2, ?_⟩
    by_cases hp : y.1 = m.1
    · right
      cases hg : greatestP S m.1 with
      | none => exact absurd hp ((greatest_spec m.1 S).1.1 hg y hy2)
      | some g =>
        rw [hg] at h2
        have h3 := ((greatest_spec m.1 S).2 g hg).2.2 y hy2 hp
        exact vcmpV_trans h3 (by simpa using h2)
    · exact .inl hp
  · intro h
    refine ⟨fun y hy => (h y ((hm y).2 hy)).1, ?_⟩
    cases hg : greatestP S m.1 with
    | none => rfl
    | some g =>
      obtain ⟨h1, h2, _⟩ := (greatest_spec m.1 S).2 g hg
      have := (h g ((hm g).2 h1)).2
      simp only [decide_eq_true_eq]
      rcases this with h3 | h3
      · exact absurd h2 h3
      · exact h3

set_option maxRecDepth 100000 in
set_option maxHeartbeats 4000000 in
theorem rlow_any (A : Option Addr) (c : Nat) (Y : List ManW) (x m : Mod) (path : List UInt8) (w : World) (hY : RegOk w w.heap.size A Y) :
    Calls Tryz.prog 44 #[.slice A Y.length c, .agg #[.string ⟨x.1.toArray⟩, .int .i64 x.2.1, .int .i64 x.2.2.1, .int .i64 x.2.2.2], .agg #[.string ⟨m.1.toArray⟩, .int .i64 m.2.1, .int .i64 m.2.2.1, .int .i64 m.2.2.2], .string ⟨path.toArray⟩] w fun e w' => e = .returned (.bool (lowP (regW Y) path m x)) ∧ Below w.heap.size w w' := by
  have HY := Lib.hid hY
  have hYl := hY.2.2
  have HU := Lib.hid (show (univ (regW Y) [x]).length ≤ 10100 from by
    have h3 := univ_len (regW Y) [x] (by simpa [regW] using hYl) (fun z hz => by
      obtain ⟨y, hy, rfl⟩ := List.mem_map.1 hz
      exact (HY.out.2.1 y hy).2.1)
    simp at h3 ⊢
    omega)
  have hb0 : Below w.heap.size w (((w.alloc (.cells (modA x) 30)).alloc (.cells (modA m) 30)).alloc (.cells (modA x) 30)) := (((Below.refl _ _).alloc (Nat.le_refl _) _).alloc (by simp) _).alloc (by simp; omega) _
  have q1 : Blk ((w.alloc (.cells (modA x) 30)).alloc (.cells (modA m) 30)) (w.heap.size + 1) 30 (modA m) := by
    have h := Blk.new (w.alloc (.cells (modA x) 30)) 30 (modA m)
    rw [World.size_alloc] at h
    exact h
  have q1' := q1.keep ((Below.refl _ _).alloc (Nat.le_refl _) (.cells (modA x) 30))
  have q2 := Blk.new ((w.alloc (.cells (modA x) 30)).alloc (.cells (modA m) 30)) 30 (modA x)
  have hsx := sl_of_blk (enc := encM) (l := [x]) q2 encM_len (by decide) (by simp [modA, encM])
  have hz : ((w.alloc (.cells (modA x) 30)).alloc (.cells (modA m) 30)).heap.size = w.heap.size + 1 + 1 := by simp
  rw [hz] at hsx
  have cN0 := Needed_any A c Y (some ⟨w.heap.size + 1 + 1, 0, none⟩) 1 [x] _ (HY.out.step hb0) hsx (by simp)
  have cN := Lib.hid cN0
  have HB0 := Lib.hid hb0
  have Q1 := Lib.hid q1'
  clear hY hb0 q1 q1' q2 hsx hz cN0
  simp only [List.length_cons, List.length_nil] at cN
  unfold modA at cN HB0 Q1
  obtain ⟨E, hE⟩ : ∃ E, E = lowP (regW Y) path m x := ⟨_, rfl⟩
  rw [← hE]
  have HE := Lib.hid hE
  clear hE
  go_enter Tryz.func44, Tryz.ntmps44
  go_wp2_with fail
  refine cN.out.mono ?_
  rintro e w1 ⟨S, AS, cS, rfl, hnd, hmem, hSS, hb1⟩
  have HB1 := Lib.hid (HB0.out.trans (hb1.mono HB0.out.size))
  have P1 := Lib.hid (Q1.out.keep hb1)
  obtain ⟨y0, y1, y2, y3⟩ := modC P1.out
  have hSl : S.length ≤ 10100 := Nat.le_trans (nodup_len S _ hnd fun m hm => ((hmem m).1 hm).univ) HU.out
  have HLE := Lib.hid (lowR_eq (rp := path) (m := m) hmem)
  have HSS := Lib.hid hSS
  have cG0 := greatest_any AS cS S m.1 w1 hSS (by omega)
  have cK := Lib.hid (fun W (hW : Below w1.heap.size w1 W) => known_any A c Y AS cS S path W (HY.out.step (HB1.out.trans (hW.mono HB1.out.size))) ((HSS.out.below hW).more hW.size) (by omega))
  unfold lowR at HLE
  unfold RetG at cG0
  generalize greatestP S m.1 = go at cG0 HLE
  generalize knownP (regW Y) S path = kn at cK HLE
  have cG := Lib.hid cG0
  clear hnd hmem hSS hb1 cN cG0
  go_wp2_with fail
  refine cG.out.mono ?_
  rintro e w2 ⟨rfl, hb2⟩
  obtain ⟨g, hg⟩ : ∃ g, g = go.getD zmod := ⟨_, rfl⟩
  rw [← hg]
  have HGG := Lib.hid hg
  clear hg
  have HA := Lib.hid (show Below w1.heap.size w1 (w2.alloc (.cells #[.string ⟨g.1.toArray⟩, .int .i64 g.2.1, .int .i64 g.2.2.1, .int .i64 g.2.2.2] 30)) from hb2.alloc hb2.size _)
  have G1 := Lib.hid (Blk.new w2 30 (modA g))
  unfold modA at G1
  have cK2 := Lib.hid (cK.out _ HA.out)
  clear hb2 cG cK y0 y1 y2 y3
  go_wp2_with fail
  refine cK2.out.mono ?_
  rintro e w3 ⟨rfl, hb3⟩
  have hzz := HA.out.size
  have HB3 := Lib.hid (HA.out.trans (hb3.mono hzz))
  have HBF := Lib.hid (HB1.out.trans (HB3.out.mono HB1.out.size))
  have G3 := Lib.hid (G1.out.keep hb3)
  have P3 := Lib.hid (P1.out.keep HB3.out)
  obtain ⟨x0, x1, x2, x3⟩ := modC G3.out
  obtain ⟨z0, z1, z2, z3⟩ := modC P3.out
  clear hb3 cK2 hzz
  cases kn with
  | false =>
    have HF := Lib.hid (show E = false by rw [HE.out, ← HLE.out]; rfl)
    clear HGG HLE
    go_wp2
    go_ret
    exact ⟨by rw [HF.out]; rfl, HBF.out⟩
  | true =>
    cases go with
    | none =>
      have HF := Lib.hid (show E = true by rw [HE.out, ← HLE.out]; rfl)
      clear HGG HLE
      go_wp2
      go_ret
      exact ⟨by rw [HF.out]; rfl, HBF.out⟩
    | some u =>
      have hgu : g = u := HGG.out
      subst hgu
      have cc0 : ∀ W, Calls Tryz.prog 43 #[.agg #[.int .i64 g.2.1, .int .i64 g.2.2.1, .int .i64 g.2.2.2], .agg #[.int .i64 m.2.1, .int .i64 m.2.2.1, .int .i64 m.2.2.2]] W fun e w' => e = .returned (.int .i64 (vcmpV g.2 m.2)) ∧ Below W.heap.size W w' := fun W => refCompare_any _ _ _ _ _ _ W
      have HF := Lib.hid (show E = decide (vcmpV g.2 m.2 ≤ 0) by rw [HE.out, ← HLE.out]; rfl)
      generalize vcmpV g.2 m.2 = d at cc0 HF
      have cm := Lib.hid cc0
      clear HGG HLE cc0
      go_wp2_with fail
      refine (cm.out _).mono ?_
      rintro e w4 ⟨rfl, hb4⟩
      have HB4 := Lib.hid (HBF.out.trans (hb4.mono HBF.out.size))
      clear hb4 cm
      go_wp2
      go_ret
      exact ⟨by rw [HF.out]; rfl, HB4.out⟩
end Go.Proofs.YtfiilbdkhelhgaaGreatDoor
