/- The law SelectionUpgrades holds of every registry, root and module of bulk at most 1048576: the tied card of the second form. No condition beside the row's own. -/
import Derived.Test.YtfiilbdkhelhgaaGreatDoorG2
import Derived.Test.YtfiilbdkhelhgaaGreatDoorOpen2
import Derived.Test.YtfiilbdkhelhgaaGreatDoorSA
import Derived.Test.YtfiilbdkhelhgaaGreatDoorWU3
import Derived.Test.YtfiilbdkhelhgaaGreatDoorWU5
import Derived.Test.YtfiilbdkhelhgaaGreatDoorLA6
import Derived.Test.YtfiilbdkhelhgaaGreatDoorLB6
namespace Go.Proofs.YtfiilbdkhelhgaaGreatDoor.lawUps
open Go.ChangeShapes Go.WideShapes Go.ChangeAt Go.RowKit
open Go.ChangeMaps (open_string shut_string)

theorem upgradeP_len (R : Regy) (root : Mod) (l : List Mod) (m : Mod) : (upgradeP R root l m).1.2.length ≤ l.length + 1 := by
  unfold upgradeP
  split
  · split
    · show (msort (upL m l)).length ≤ _
      rw [msort_len]
      exact upL_len m l
    · simp
  · simp
theorem upallP_len (R : Regy) (root : Mod) (l : List Mod) : (upallP R root l).1.2.length ≤ (buildP R root l).1.length := by
  unfold upallP
  split
  · split
    · show (msort (allL R ((buildP R root l).1.drop 1))).length ≤ _
      rw [msort_len]
      unfold allL
      rw [List.length_map, List.length_drop]
      omega
    · simp
  · simp
theorem walk (A : Option Addr) (c : Nat) (L : List ManW) (y0 : ManW) (x : Mod) (w : World) (hS : Sl w w.heap.size 5 encW A L) (hO : ∀ y ∈ L, inW w 1048576 y) (hl : L.length ≤ 1048576) (hO1 : inW w 1048576 y0) (hO2 : x.1.length ≤ 1048576 ∧ okI x.2.1 ∧ okI x.2.2.1 ∧ okI x.2.2.2) (hG : Glob w) :
    Calls Tryz.prog 7 #[.slice A L.length c, .agg (encW y0).toArray, .agg (encM x).toArray] w fun e w' => e = .returned (.bool true) ∧ Below w.heap.size w w' := by
  have HL := Lib.hid (reg_in hS hO hl)
  have H1 := Lib.hid (man_in hO1)
  have HG := Lib.hid hG
  have HX := Lib.hid (show okB x from hO2)
  clear hS hO hG hl hO1 hO2
  have HB0 := Lib.hid (show Below w.heap.size w ((w.alloc (.cells (encW y0).toArray 33)).alloc (.cells (encM x).toArray 30)) from ((Below.refl _ _).alloc (Nat.le_refl _) _).alloc (by simp) _)
  have Q0 := Lib.hid ((Blk.new w 33 (encW y0).toArray).keep ((Below.refl _ _).alloc (Nat.le_refl _) (.cells (encM x).toArray 30)))
  have r0 := Blk.new (w.alloc (.cells (encW y0).toArray 33)) 30 (encM x).toArray
  rw [World.size_alloc] at r0
  have R0 := Lib.hid r0
  have cS := Lib.hid (fun W (hW : Below w.heap.size w W) => small_any A c L y0 W (HL.out.step hW) (H1.out.step hW))
  have cB := Lib.hid (fun (h : smallP (regW L) ∧ smallP [plainW y0]) W (hW : Below w.heap.size w W) => Upgrade_any A c L y0 x W ((HL.out.ok h.1).step hW) (((H1.out.ok h.2).keep hW).more hW.size) HX.out (HG.out.keep hW))
  have cR := Lib.hid (fun (h : smallP (regW L) ∧ smallP [plainW y0]) W (hW : Below w.heap.size w W) => rUpgrade_any A c L y0 x W ((HL.out.ok h.1).step hW) (((H1.out.ok h.2).keep hW).more hW.size) HX.out)
  have cC := Lib.hid (fun (h : smallP (regW L) ∧ smallP [plainW y0]) W (hW : Below w.heap.size w W) => UpgradeAll_any A c L y0 W ((HL.out.ok h.1).step hW) (((H1.out.ok h.2).keep hW).more hW.size) (HG.out.keep hW))
  have cD := Lib.hid (fun (h : smallP (regW L) ∧ smallP [plainW y0]) W (hW : Below w.heap.size w W) => show Calls Tryz.prog 24 _ W (RetMF W (upallP (regW L) y0.1 y0.2.2.2)) by
    rw [← rupall_eq (by have := h.1.2; omega)]
    exact rUpgradeAll_any A c L y0 W ((HL.out.ok h.1).step hW) (((H1.out.ok h.2).keep hW).more hW.size))
  have cX := Lib.hid (fun W (hW : Below w.heap.size w W) => example_any W (HG.out.keep hW))
  have hlen := Nat.le_trans (upgradeP_len (regW L) y0.1 y0.2.2.2 x) (Nat.succ_le_succ H1.out.2.1)
  have HLen2 := Lib.hid (fun (h : smallP (regW L) ∧ smallP [plainW y0]) => Nat.le_trans (upallP_len (regW L) y0.1 y0.2.2.2) (buildP_small h.1 h.2))
  obtain ⟨rm, A0, c0, l0⟩ := y0
  simp only at cS cB cR cC cD hlen HLen2
  generalize (smallP (regW L) ∧ smallP [plainW (rm, A0, c0, l0)]) = P at cS cB cR cC cD HLen2
  generalize upgradeP (regW L) rm l0 x = r at cB cR hlen
  generalize upallP (regW L) rm l0 = q at cC cD HLen2
  unfold RetMF at cB cR cC cD
  simp only [encW, encM] at Q0 HB0 R0 ⊢
  obtain ⟨⟨m, D⟩, e1⟩ := r
  obtain ⟨⟨m2, D2⟩, e2⟩ := q
  simp only at cB cR cC cD hlen HLen2
  clear r0
  go_enter Tryz.func7, Tryz.ntmps7
  go_wp2_with fail
  refine (cS.out _ HB0.out).mono ?_
  rintro e w1 ⟨b, rfl, hbi, hb1⟩
  have HB1 := Lib.hid (HB0.out.trans (hb1.mono HB0.out.size))
  have Q1 := Lib.hid (Q0.out.keep hb1)
  have R1 := Lib.hid (R0.out.keep hb1)
  have HBI := Lib.hid hbi
  clear hb1 hbi cS
  cases b
  · go_wp2_with fail
    refine (cX.out _ HB1.out).mono ?_
    rintro e w2 ⟨rfl, hb2⟩
    have HB2 := Lib.hid (HB1.out.trans (hb2.mono HB1.out.size))
    clear hb2 cX
    go_wp2
    go_ret
    exact ⟨rfl, HB2.out⟩
  · have HP := Lib.hid (show P from by have h := HBI.out; simpa using h)
    have hlen2 := HLen2.out HP.out
    clear HBI HLen2
    obtain ⟨y0, y1, y2, y3, y4⟩ := manC Q1.out
    obtain ⟨v0, v1, v2, v3⟩ := modC R1.out
    go_wp2_with fail
    refine (cB.out HP.out _ HB1.out).mono ?_
    rintro e w2 ⟨A2, c2, rfl, hS2, _, hb2⟩
    have HX2 := Lib.hid (HB1.out.trans (hb2.mono HB1.out.size))
    have HA2 := Lib.hid (show Below w2.heap.size w2 (w2.alloc (.cells #[.string ⟨m.1.toArray⟩, .int .i64 m.2.1, .int .i64 m.2.2.1, .int .i64 m.2.2.2, .slice A2 D.length c2] 33)) from (Below.refl _ _).alloc (Nat.le_refl _) _)
    have HB2 := Lib.hid (HX2.out.trans (HA2.out.mono HX2.out.size))
    have Q2 := Lib.hid ((Q1.out.keep hb2).keep HA2.out)
    have R2 := Lib.hid ((R1.out.keep hb2).keep HA2.out)
    have S2_2 := Lib.hid ((hS2.below HA2.out).more HA2.out.size)
    have B2_2 := Lib.hid (Blk.new w2 33 (manA m A2 D.length c2))
    unfold manA at B2_2
    clear hb2 cB y0 y1 y2 y3 y4 v0 v1 v2 v3 hS2
    obtain ⟨y0, y1, y2, y3, y4⟩ := manC Q2.out
    obtain ⟨v0, v1, v2, v3⟩ := modC R2.out
    go_wp2_with fail
    refine (cR.out HP.out _ HB2.out).mono ?_
    rintro e w3 ⟨A3, c3, rfl, hS3, _, hb3⟩
    have HX3 := Lib.hid (HB2.out.trans (hb3.mono HB2.out.size))
    have HA3 := Lib.hid (show Below w3.heap.size w3 (w3.alloc (.cells #[.string ⟨m.1.toArray⟩, .int .i64 m.2.1, .int .i64 m.2.2.1, .int .i64 m.2.2.2, .slice A3 D.length c3] 33)) from (Below.refl _ _).alloc (Nat.le_refl _) _)
    have HB3 := Lib.hid (HX3.out.trans (HA3.out.mono HX3.out.size))
    have Q3 := Lib.hid ((Q2.out.keep hb3).keep HA3.out)
    have R3 := Lib.hid ((R2.out.keep hb3).keep HA3.out)
    have S3_3 := Lib.hid ((hS3.below HA3.out).more HA3.out.size)
    have B3_3 := Lib.hid (Blk.new w3 33 (manA m A3 D.length c3))
    unfold manA at B3_3
    have S2_3 := Lib.hid (((S2_2.out.below hb3).more hb3.size).below HA3.out |>.more HA3.out.size)
    have B2_3 := Lib.hid ((B2_2.out.keep hb3).keep HA3.out)
    clear hb3 cR y0 y1 y2 y3 y4 v0 v1 v2 v3 hS3
    obtain ⟨y0, y1, y2, y3, y4⟩ := manC Q3.out
    obtain ⟨v0, v1, v2, v3⟩ := modC R3.out
    go_wp2_with fail
    refine (cC.out HP.out _ HB3.out).mono ?_
    rintro e w4 ⟨A4, c4, rfl, hS4, _, hb4⟩
    have HX4 := Lib.hid (HB3.out.trans (hb4.mono HB3.out.size))
    have HA4 := Lib.hid (show Below w4.heap.size w4 (w4.alloc (.cells #[.string ⟨m2.1.toArray⟩, .int .i64 m2.2.1, .int .i64 m2.2.2.1, .int .i64 m2.2.2.2, .slice A4 D2.length c4] 33)) from (Below.refl _ _).alloc (Nat.le_refl _) _)
    have HB4 := Lib.hid (HX4.out.trans (HA4.out.mono HX4.out.size))
    have Q4 := Lib.hid ((Q3.out.keep hb4).keep HA4.out)
    have R4 := Lib.hid ((R3.out.keep hb4).keep HA4.out)
    have S4_4 := Lib.hid ((hS4.below HA4.out).more HA4.out.size)
    have B4_4 := Lib.hid (Blk.new w4 33 (manA m2 A4 D2.length c4))
    unfold manA at B4_4
    have S2_4 := Lib.hid (((S2_3.out.below hb4).more hb4.size).below HA4.out |>.more HA4.out.size)
    have B2_4 := Lib.hid ((B2_3.out.keep hb4).keep HA4.out)
    have S3_4 := Lib.hid (((S3_3.out.below hb4).more hb4.size).below HA4.out |>.more HA4.out.size)
    have B3_4 := Lib.hid ((B3_3.out.keep hb4).keep HA4.out)
    clear hb4 cC y0 y1 y2 y3 y4 v0 v1 v2 v3 hS4
    obtain ⟨y0, y1, y2, y3, y4⟩ := manC Q4.out
    obtain ⟨v0, v1, v2, v3⟩ := modC R4.out
    go_wp2_with fail
    refine (cD.out HP.out _ HB4.out).mono ?_
    rintro e w5 ⟨A5, c5, rfl, hS5, _, hb5⟩
    have HX5 := Lib.hid (HB4.out.trans (hb5.mono HB4.out.size))
    have HA5 := Lib.hid (show Below w5.heap.size w5 (w5.alloc (.cells #[.string ⟨m2.1.toArray⟩, .int .i64 m2.2.1, .int .i64 m2.2.2.1, .int .i64 m2.2.2.2, .slice A5 D2.length c5] 33)) from (Below.refl _ _).alloc (Nat.le_refl _) _)
    have HB5 := Lib.hid (HX5.out.trans (HA5.out.mono HX5.out.size))
    have Q5 := Lib.hid ((Q4.out.keep hb5).keep HA5.out)
    have R5 := Lib.hid ((R4.out.keep hb5).keep HA5.out)
    have S5_5 := Lib.hid ((hS5.below HA5.out).more HA5.out.size)
    have B5_5 := Lib.hid (Blk.new w5 33 (manA m2 A5 D2.length c5))
    unfold manA at B5_5
    have S2_5 := Lib.hid (((S2_4.out.below hb5).more hb5.size).below HA5.out |>.more HA5.out.size)
    have B2_5 := Lib.hid ((B2_4.out.keep hb5).keep HA5.out)
    have S3_5 := Lib.hid (((S3_4.out.below hb5).more hb5.size).below HA5.out |>.more HA5.out.size)
    have B3_5 := Lib.hid ((B3_4.out.keep hb5).keep HA5.out)
    have S4_5 := Lib.hid (((S4_4.out.below hb5).more hb5.size).below HA5.out |>.more HA5.out.size)
    have B4_5 := Lib.hid ((B4_4.out.keep hb5).keep HA5.out)
    clear hb5 cD y0 y1 y2 y3 y4 v0 v1 v2 v3 hS5
    have hle : D.length ≤ 1099511627776 := by omega
    have cE := Lib.hid (fun W (hW : Below _ _ W) => Same_any m A2 c2 D m A3 c3 D W ((S2_5.out.below hW).more hW.size) ((S3_5.out.below hW).more hW.size) hle hle)
    have cF := Lib.hid (fun W (hW : Below _ _ W) => Same_any m2 A4 c4 D2 m2 A5 c5 D2 W ((S4_5.out.below hW).more hW.size) ((S5_5.out.below hW).more hW.size) hlen2 hlen2)
    obtain ⟨y0, y1, y2, y3, y4⟩ := manC B2_5.out
    obtain ⟨z0, z1, z2, z3, z4⟩ := manC B3_5.out
    go_wp2_with fail
    refine (cE.out _ (Below.refl _ _)).mono ?_
    rintro e w6 ⟨rfl, hb6⟩
    have HB6 := Lib.hid (HB5.out.trans (hb6.mono HB5.out.size))
    have B4_6 := Lib.hid (B4_5.out.keep hb6)
    have B5_6 := Lib.hid (B5_5.out.keep hb6)
    have cF6 := Lib.hid (cF.out _ hb6)
    clear hb6 cE cF y0 y1 y2 y3 y4 z0 z1 z2 z3 z4
    obtain ⟨y0, y1, y2, y3, y4⟩ := manC B4_6.out
    obtain ⟨z0, z1, z2, z3, z4⟩ := manC B5_6.out
    simp only [and_self, decide_true]
    go_wp2_with fail
    refine cF6.out.mono ?_
    rintro e w7 ⟨rfl, hb7⟩
    have HB7 := Lib.hid (HB6.out.trans (hb7.mono HB6.out.size))
    clear hb7 cF6 y0 y1 y2 y3 y4 z0 z1 z2 z3 z4
    simp only [and_self, decide_true]
    go_wp2_with fail
    refine (cX.out _ HB7.out).mono ?_
    rintro e w8 ⟨rfl, hb8⟩
    have HB8 := Lib.hid (HB7.out.trans (hb8.mono HB7.out.size))
    clear hb8 cX
    go_wp2
    go_ret
    exact ⟨rfl, HB8.out⟩

set_option maxRecDepth 100000 in
theorem contract (H : Type) (enc : TypeId × Value → H) (W : World) (base : Nat) (args : Array Value) (ds gs : List (DataW H)) (before : List MemPlace)
    (hval : ∀ (j : Nat) t v, Tryz.f7.params[j]? = some t → args[j]? = some v → Value.okWide Tryz.prog W .any base t v)
    (hW : DataW.Whole enc Tryz.prog Tryz.f7.params.toList Rows.selectionUpgradesSpec.vars false W args.toList ds gs before) (hk : Rows.uptoSmall H (ds ++ gs) = true) (hG : Glob W) :
    Calls Tryz.prog 7 args W fun e W' => ∃ v, e = .returned v ∧ Rows.selectionUpgradesSpec.post enc Tryz.prog Tryz.f7 false true false false W args v W' := by
  have hW' := hW
  obtain ⟨p, q, hA0, hV, rfl, hfz, hnd⟩ := hW
  have hA : DataW.TrodAll enc Tryz.prog W 0 (fun _ => true) true Tryz.f7.params.toList args.toList ds p := hA0
  rw [Tryz.params7] at hA hval
  obtain ⟨v0, vs0, d0, ds0, p0, q0, hargs, rfl, rfl, h0, r0⟩ := trodAll_cons hA
  obtain ⟨v1, vs1, d1, ds1, p1, q1, rfl, rfl, rfl, h1, r1⟩ := trodAll_cons r0
  obtain ⟨v2, vs2, d2, ds2, p2, q2, rfl, rfl, rfl, h2, r2⟩ := trodAll_cons r1
  obtain ⟨rfl, rfl, rfl⟩ := trodAll_nil r2
  obtain rfl : args = #[v0, v1, v2] := by cases args; simp_all
  obtain ⟨rfl, rfl⟩ := trodVars_none hV
  obtain ⟨A0, c0, L0, rfl, hS0, hO0, _, hN0⟩ := open_sl Tryz.underlying22 (opens_manifests W 1048576) (hval 0 22 v0 rfl rfl) h0 (by have := bulk_of hk; simp only [List.append_nil, Rows.uptoBulkAll] at this; omega)
  have hl0 : L0.length ≤ 1048576 := by omega
  obtain ⟨r1x, rfl, hO1⟩ := open_st Tryz.underlying33 (opens_manifest W 1048576) (hval 1 33 v1 rfl rfl) h1 (by have := bulk_of hk; simp only [List.append_nil, Rows.uptoBulkAll] at this; omega)
  obtain ⟨r2x, rfl, hO2⟩ := open_st Tryz.underlying30 (opens_module W 1048576) (hval 2 30 v2 rfl rfl) h2 (by have := bulk_of hk; simp only [List.append_nil, Rows.uptoBulkAll] at this; omega)
  clear hA0
  have hw := walk A0 c0 L0 r1x r2x W hS0 hO0 hl0 hO1 hO2 hG
  refine hw.mono fun e W' ⟨he, hb⟩ => ?_
  subst he
  exact ⟨_, rfl, law_post hW' rfl (by kernel_rfl) (by kernel_rfl) rfl rfl rfl hb⟩

set_option maxRecDepth 100000 in
theorem reads (os : Os) {H : Type} (enc : TypeId × Value → H) : ∃ places, DataW.whole enc Tryz.prog ((laidWorld os).forCall (fun _ _ => 0) ⟨#[], #[.slice none 0 0, .agg #[.string ByteArray.empty, .int .i64 0, .int .i64 0, .int .i64 0, .slice none 0 0], .agg #[.string ByteArray.empty, .int .i64 0, .int .i64 0, .int .i64 0]], []⟩).memory Tryz.f7.params.toList Rows.selectionUpgradesSpec.vars false (#[.slice none 0 0, .agg #[.string ByteArray.empty, .int .i64 0, .int .i64 0, .int .i64 0, .slice none 0 0], .agg #[.string ByteArray.empty, .int .i64 0, .int .i64 0, .int .i64 0]] : Array Value).toList 8 = some ([.nil, .agg [.agg [.lit (.string []), .agg [.lit (.int .i64 0), .lit (.int .i64 0), .lit (.int .i64 0)]], .nil], .agg [.lit (.string []), .agg [.lit (.int .i64 0), .lit (.int .i64 0), .lit (.int .i64 0)]]], [], places) :=
  ⟨[], by kernel_rfl⟩

set_option maxRecDepth 100000 in
theorem lifted (os : Os) (started : os.Started) (H : Type) (enc : TypeId × Value → H) (F : Stop.Interp) :
    ReturnsInHanded {} Tryz.checked os 7 .any ((Rows.OpenSpec.upto Rows.selectionUpgradesSpec).preRow enc Tryz.prog Tryz.f7 Rows.selectionUpgradesUptoRow.domain false Rows.selectionUpgradesUptoRow.laid) (((Rows.OpenSpec.upto Rows.selectionUpgradesSpec).at F).post enc Tryz.prog Tryz.f7 false true false false) := by
  obtain ⟨places, hx⟩ := reads os enc
  refine returnsInHanded_of_row (C := Tryz.checked) (s := Rows.OpenSpec.upto Rows.selectionUpgradesSpec) own started (by kernel_rfl) Tryz.func7
    (witness_row_at (enc := enc) (C := Tryz.checked) false (laidWorld os) #[.slice none 0 0, .agg #[.string ByteArray.empty, .int .i64 0, .int .i64 0, .int .i64 0, .slice none 0 0], .agg #[.string ByteArray.empty, .int .i64 0, .int .i64 0, .int .i64 0]] (World.laidAll_os _ _ _) (by kernel_rfl) (by kernel_rfl) (by kernel_rfl)
      (OpenSpec.preRow_of_cond 8 hx (by kernel_rfl) (fun k hk => by cases hk; kernel_rfl) (by kernel_rfl) (laid_met os _))) ?_
  intro W base args ds gs before hval hW _ hcond _ hL hsh _
  exact contract H enc W base args ds gs before hval hW (hcond _ rfl) (glob_of hL hsh)

set_option maxRecDepth 100000 in
theorem said : Rows.SelectionUpgradesUptoSaid :=
  OpenClaim.holds_of_cond 7 Tryz.f7 rfl rfl rfl rfl rfl rfl rfl ⟨rfl, rfl, rfl, rfl, rfl⟩ rfl rfl rfl rfl rfl (by kernel_rfl) Tryz.func7 (by kernel_rfl)
    (of_decide_eq_true (by kernel_rfl)) (by unfold Func.isWrapper; first | (rw [if_pos (by decide +kernel)]; kernel_rfl) | (rw [if_neg (by decide +kernel)]; exact ⟨rfl, rfl⟩))
    (fun os started H enc _ F => by rw [OpenClaim.pre_eq_preRow]; exact lifted os started H enc F)

set_option maxRecDepth 100000 in
theorem plain (f : FuncId) (fn : Func) (hf : Tryz.pinned.checked.prog.funcNamed "configlang/configlanglaw46.SelectionUpgrades" = some f) (hfn : Tryz.pinned.checked.prog.funcs[f]? = some fn) :
    false = Tryz.pinned.checked.prog.looks [] ∧ ∀ (j : Nat) t, fn.params[j]? = some t → Tryz.pinned.checked.prog.wantsStandIn t = false := by
  obtain rfl : f = 7 := Option.some.inj ((show Tryz.prog.funcNamed "configlang/configlanglaw46.SelectionUpgrades" = some 7 by kernel_rfl).symm.trans hf) |>.symm
  obtain rfl : fn = Tryz.f7 := (Option.some.inj (Tryz.func7.symm.trans hfn)).symm
  refine ⟨by kernel_rfl, fun j t ht => ?_⟩
  rw [Tryz.params7] at ht
  have hm : t = 22 ∨ t = 33 ∨ t = 30 := by simpa using Array.mem_of_getElem? ht
  rcases hm with rfl | rfl | rfl
  · exact (show Tryz.prog.wantsStandIn 22 = false by kernel_rfl)
  · exact (show Tryz.prog.wantsStandIn 33 = false by kernel_rfl)
  · exact (show Tryz.prog.wantsStandIn 30 = false by kernel_rfl)

set_option maxRecDepth 100000 in
theorem card : Rows.SelectionUpgradesUptoCardSaid :=
  Claim7.holds_tied_plain_at .later [] _ _ _ _ said (fun _ h => by cases h) (by kernel_rfl) (fun _ h => by cases h) selectionUpgradesUpto_row_tie rfl ⟨rfl, rfl⟩ (by kernel_rfl) rfl plain (by kernel_rfl)
end Go.Proofs.YtfiilbdkhelhgaaGreatDoor.lawUps
