/- The law SelectionDowngrades holds of every registry, root and module of bulk at most 1048576: the tied card of the second form. No condition beside the row's own. -/
import Derived.Test.YtfiilbdkhelhgaaGreatDoorG2
import Derived.Test.YtfiilbdkhelhgaaGreatDoorOpen2
import Derived.Test.YtfiilbdkhelhgaaGreatDoorLB6
import Derived.Test.YtfiilbdkhelhgaaGreatDoorWR7
import Derived.Test.YtfiilbdkhelhgaaGreatDoorSA
namespace Go.Proofs.YtfiilbdkhelhgaaGreatDoor.lawDowns
open Go.ChangeShapes Go.WideShapes Go.ChangeAt Go.RowKit
open Go.ChangeMaps (open_string shut_string)

theorem downP_len (R : Regy) (root : Mod) (l : List Mod) (m : Mod) : (downP R root l m).1.2.length ≤ l.length := by
  unfold downP
  split
  · show (msort (downL R root.1 m l)).length ≤ _
    rw [msort_len]
    exact List.length_filterMap_le _ _
  · simp
theorem walk (A : Option Addr) (c : Nat) (L : List ManW) (y0 : ManW) (x : Mod) (w : World) (hS : Sl w w.heap.size 5 encW A L) (hO : ∀ y ∈ L, inW w 1048576 y) (hl : L.length ≤ 1048576) (hO1 : inW w 1048576 y0) (hO2 : x.1.length ≤ 1048576 ∧ okI x.2.1 ∧ okI x.2.2.1 ∧ okI x.2.2.2) (hG : Glob w) :
    Calls Tryz.prog 5 #[.slice A L.length c, .agg (encW y0).toArray, .agg (encM x).toArray] w fun e w' => e = .returned (.bool true) ∧ Below w.heap.size w w' := by
  have HL := Lib.hid (reg_in hS hO hl)
  have H1 := Lib.hid (man_in hO1)
  have HG := Lib.hid hG
  have HX := Lib.hid (show okB x from hO2)
  clear hS hO hG hl hO1 hO2
  have HB0 := Lib.hid (show Below w.heap.size w ((w.alloc (.cells (encW y0).toArray 33)).alloc (.cells (encM x).toArray 30)) from ((Below.refl _ _).alloc (Nat.le_refl _) _).alloc (by simp) _)
  have Q0 := Lib.hid ((Blk.new w 33 (encW y0).toArray).keep ((Below.refl _ _).alloc (Nat.le_refl _) (.cells (encM x).toArray 30)))
  have r0 := Blk.new (w.alloc (.cells (encW y0).toArray 33)) 30 (encM x).toArray
  rw [World.size_alloc] at r0
  have R0 := Lib.hid r0
  have cS := Lib.hid (fun W (hW : Below w.heap.size w W) => small_any A c L y0 W (HL.out.step hW) (H1.out.step hW))
  have cB := Lib.hid (fun (h : smallP (regW L) ∧ smallP [plainW y0]) W (hW : Below w.heap.size w W) => Downgrade_any A c L y0 x W ((HL.out.ok h.1).step hW) (((H1.out.ok h.2).keep hW).more hW.size) HX.out (HG.out.keep hW))
  have cR := Lib.hid (fun (h : smallP (regW L) ∧ smallP [plainW y0]) W (hW : Below w.heap.size w W) => rDowngrade_any A c L y0 x W ((HL.out.ok h.1).step hW) (((H1.out.ok h.2).keep hW).more hW.size))
  have cX := Lib.hid (fun W (hW : Below w.heap.size w W) => example_any W (HG.out.keep hW))
  have hlen := Nat.le_trans (downP_len (regW L) y0.1 y0.2.2.2 x) H1.out.2.1
  obtain ⟨rm, A0, c0, l0⟩ := y0
  simp only at cS cB cR hlen
  generalize (smallP (regW L) ∧ smallP [plainW (rm, A0, c0, l0)]) = P at cS cB cR
  generalize downP (regW L) rm l0 x = r at cB cR hlen
  unfold RetMF at cB cR
  simp only [encW, encM] at Q0 HB0 R0 ⊢
  obtain ⟨⟨m, D⟩, e1⟩ := r
  simp only at cB cR hlen
  clear r0
  go_enter Tryz.func5, Tryz.ntmps5
  go_wp2_with fail
  refine (cS.out _ HB0.out).mono ?_
  rintro e w1 ⟨b, rfl, hbi, hb1⟩
  have HB1 := Lib.hid (HB0.out.trans (hb1.mono HB0.out.size))
  have Q1 := Lib.hid (Q0.out.keep hb1)
  have R1 := Lib.hid (R0.out.keep hb1)
  have HBI := Lib.hid hbi
  clear hb1 hbi cS
  cases b
  · go_wp2_with fail
    refine (cX.out _ HB1.out).mono ?_
    rintro e w2 ⟨rfl, hb2⟩
    have HB2 := Lib.hid (HB1.out.trans (hb2.mono HB1.out.size))
    clear hb2 cX
    go_wp2
    go_ret
    exact ⟨rfl, HB2.out⟩
  · have HP := Lib.hid (show P from by have h := HBI.out; simpa using h)
    clear HBI
    obtain ⟨y0, y1, y2, y3, y4⟩ := manC Q1.out
    obtain ⟨v0, v1, v2, v3⟩ := modC R1.out
    go_wp2_with fail
    refine (cB.out HP.out _ HB1.out).mono ?_
    rintro e w2 ⟨A2, c2, rfl, hS2, _, hb2⟩
    have HB2 := Lib.hid (HB1.out.trans (hb2.mono HB1.out.size))
    have HA2 := Lib.hid (show Below w2.heap.size w2 (w2.alloc (.cells #[.string ⟨m.1.toArray⟩, .int .i64 m.2.1, .int .i64 m.2.2.1, .int .i64 m.2.2.2, .slice A2 D.length c2] 33)) from (Below.refl _ _).alloc (Nat.le_refl _) _)
    have HB2a := Lib.hid (HB2.out.trans (HA2.out.mono HB2.out.size))
    have Q2 := Lib.hid ((Q1.out.keep hb2).keep HA2.out)
    have R2 := Lib.hid ((R1.out.keep hb2).keep HA2.out)
    have HS2 := Lib.hid ((hS2.below HA2.out).more HA2.out.size)
    have BA := Lib.hid (Blk.new w2 33 (manA m A2 D.length c2))
    unfold manA at BA
    clear hb2 cB y0 y1 y2 y3 y4 v0 v1 v2 v3 hS2
    obtain ⟨y0, y1, y2, y3, y4⟩ := manC Q2.out
    obtain ⟨v0, v1, v2, v3⟩ := modC R2.out
    go_wp2_with fail
    refine (cR.out HP.out _ HB2a.out).mono ?_
    rintro e w3 ⟨A3, c3, rfl, hS3, _, hb3⟩
    have HB3 := Lib.hid (HB2a.out.trans (hb3.mono HB2a.out.size))
    have HA3 := Lib.hid (show Below w3.heap.size w3 (w3.alloc (.cells #[.string ⟨m.1.toArray⟩, .int .i64 m.2.1, .int .i64 m.2.2.1, .int .i64 m.2.2.2, .slice A3 D.length c3] 33)) from (Below.refl _ _).alloc (Nat.le_refl _) _)
    have HB3a := Lib.hid (HB3.out.trans (HA3.out.mono HB3.out.size))
    have HS3 := Lib.hid ((hS3.below HA3.out).more HA3.out.size)
    have HS2b := Lib.hid ((((HS2.out.below hb3).more hb3.size).below HA3.out).more HA3.out.size)
    have BB := Lib.hid (Blk.new w3 33 (manA m A3 D.length c3))
    have BA3 := Lib.hid ((BA.out.keep hb3).keep HA3.out)
    unfold manA at BB
    have hle : D.length ≤ 1099511627776 := by omega
    have cE := Lib.hid (Same_any m A2 c2 D m A3 c3 D _ HS2b.out HS3.out hle hle)
    clear hb3 cR y0 y1 y2 y3 y4 v0 v1 v2 v3 hS3
    obtain ⟨y0, y1, y2, y3, y4⟩ := manC BA3.out
    obtain ⟨z0, z1, z2, z3, z4⟩ := manC BB.out
    go_wp2_with fail
    refine cE.out.mono ?_
    rintro e w4 ⟨rfl, hb4⟩
    have HB4 := Lib.hid (HB3a.out.trans (hb4.mono HB3a.out.size))
    clear hb4 cE y0 y1 y2 y3 y4 z0 z1 z2 z3 z4
    simp only [and_self, decide_true]
    go_wp2_with fail
    refine (cX.out _ HB4.out).mono ?_
    rintro e w5 ⟨rfl, hb5⟩
    have HB5 := Lib.hid (HB4.out.trans (hb5.mono HB4.out.size))
    clear hb5 cX
    go_wp2
    go_ret
    exact ⟨rfl, HB5.out⟩

set_option maxRecDepth 100000 in
theorem contract (H : Type) (enc : TypeId × Value → H) (W : World) (base : Nat) (args : Array Value) (ds gs : List (DataW H)) (before : List MemPlace)
    (hval : ∀ (j : Nat) t v, Tryz.f5.params[j]? = some t → args[j]? = some v → Value.okWide Tryz.prog W .any base t v)
    (hW : DataW.Whole enc Tryz.prog Tryz.f5.params.toList Rows.selectionDowngradesSpec.vars false W args.toList ds gs before) (hk : Rows.uptoSmall H (ds ++ gs) = true) (hG : Glob W) :
    Calls Tryz.prog 5 args W fun e W' => ∃ v, e = .returned v ∧ Rows.selectionDowngradesSpec.post enc Tryz.prog Tryz.f5 false true false false W args v W' := by
  have hW' := hW
  obtain ⟨p, q, hA0, hV, rfl, hfz, hnd⟩ := hW
  have hA : DataW.TrodAll enc Tryz.prog W 0 (fun _ => true) true Tryz.f5.params.toList args.toList ds p := hA0
  rw [Tryz.params5] at hA hval
  obtain ⟨v0, vs0, d0, ds0, p0, q0, hargs, rfl, rfl, h0, r0⟩ := trodAll_cons hA
  obtain ⟨v1, vs1, d1, ds1, p1, q1, rfl, rfl, rfl, h1, r1⟩ := trodAll_cons r0
  obtain ⟨v2, vs2, d2, ds2, p2, q2, rfl, rfl, rfl, h2, r2⟩ := trodAll_cons r1
  obtain ⟨rfl, rfl, rfl⟩ := trodAll_nil r2
  obtain rfl : args = #[v0, v1, v2] := by cases args; simp_all
  obtain ⟨rfl, rfl⟩ := trodVars_none hV
  obtain ⟨A0, c0, L0, rfl, hS0, hO0, _, hN0⟩ := open_sl Tryz.underlying22 (opens_manifests W 1048576) (hval 0 22 v0 rfl rfl) h0 (by have := bulk_of hk; simp only [List.append_nil, Rows.uptoBulkAll] at this; omega)
  have hl0 : L0.length ≤ 1048576 := by omega
  obtain ⟨r1x, rfl, hO1⟩ := open_st Tryz.underlying33 (opens_manifest W 1048576) (hval 1 33 v1 rfl rfl) h1 (by have := bulk_of hk; simp only [List.append_nil, Rows.uptoBulkAll] at this; omega)
  obtain ⟨r2x, rfl, hO2⟩ := open_st Tryz.underlying30 (opens_module W 1048576) (hval 2 30 v2 rfl rfl) h2 (by have := bulk_of hk; simp only [List.append_nil, Rows.uptoBulkAll] at this; omega)
  clear hA0
  have hw := walk A0 c0 L0 r1x r2x W hS0 hO0 hl0 hO1 hO2 hG
  refine hw.mono fun e W' ⟨he, hb⟩ => ?_
  subst he
  exact ⟨_, rfl, law_post hW' rfl (by kernel_rfl) (by kernel_rfl) rfl rfl rfl hb⟩

set_option maxRecDepth 100000 in
theorem reads (os : Os) {H : Type} (enc : TypeId × Value → H) : ∃ places, DataW.whole enc Tryz.prog ((laidWorld os).forCall (fun _ _ => 0) ⟨#[], #[.slice none 0 0, .agg #[.string ByteArray.empty, .int .i64 0, .int .i64 0, .int .i64 0, .slice none 0 0], .agg #[.string ByteArray.empty, .int .i64 0, .int .i64 0, .int .i64 0]], []⟩).memory Tryz.f5.params.toList Rows.selectionDowngradesSpec.vars false (#[.slice none 0 0, .agg #[.string ByteArray.empty, .int .i64 0, .int .i64 0, .int .i64 0, .slice none 0 0], .agg #[.string ByteArray.empty, .int .i64 0, .int .i64 0, .int .i64 0]] : Array Value).toList 8 = some ([.nil, .agg [.agg [.lit (.string []), .agg [.lit (.int .i64 0), .lit (.int .i64 0), .lit (.int .i64 0)]], .nil], .agg [.lit (.string []), .agg [.lit (.int .i64 0), .lit (.int .i64 0), .lit (.int .i64 0)]]], [], places) :=
  ⟨[], by kernel_rfl⟩

set_option maxRecDepth 100000 in
theorem lifted (os : Os) (started : os.Started) (H : Type) (enc : TypeId × Value → H) (F : Stop.Interp) :
    ReturnsInHanded {} Tryz.checked os 5 .any ((Rows.OpenSpec.upto Rows.selectionDowngradesSpec).preRow enc Tryz.prog Tryz.f5 Rows.selectionDowngradesUptoRow.domain false Rows.selectionDowngradesUptoRow.laid) (((Rows.OpenSpec.upto Rows.selectionDowngradesSpec).at F).post enc Tryz.prog Tryz.f5 false true false false) := by
  obtain ⟨places, hx⟩ := reads os enc
  refine returnsInHanded_of_row (C := Tryz.checked) (s := Rows.OpenSpec.upto Rows.selectionDowngradesSpec) own started (by kernel_rfl) Tryz.func5
    (witness_row_at (enc := enc) (C := Tryz.checked) false (laidWorld os) #[.slice none 0 0, .agg #[.string ByteArray.empty, .int .i64 0, .int .i64 0, .int .i64 0, .slice none 0 0], .agg #[.string ByteArray.empty, .int .i64 0, .int .i64 0, .int .i64 0]] (World.laidAll_os _ _ _) (by kernel_rfl) (by kernel_rfl) (by kernel_rfl)
      (OpenSpec.preRow_of_cond 8 hx (by kernel_rfl) (fun k hk => by cases hk; kernel_rfl) (by kernel_rfl) (laid_met os _))) ?_
  intro W base args ds gs before hval hW _ hcond _ hL hsh _
  exact contract H enc W base args ds gs before hval hW (hcond _ rfl) (glob_of hL hsh)

set_option maxRecDepth 100000 in
theorem said : Rows.SelectionDowngradesUptoSaid :=
  OpenClaim.holds_of_cond 5 Tryz.f5 rfl rfl rfl rfl rfl rfl rfl ⟨rfl, rfl, rfl, rfl, rfl⟩ rfl rfl rfl rfl rfl (by kernel_rfl) Tryz.func5 (by kernel_rfl)
    (of_decide_eq_true (by kernel_rfl)) (by unfold Func.isWrapper; first | (rw [if_pos (by decide +kernel)]; kernel_rfl) | (rw [if_neg (by decide +kernel)]; exact ⟨rfl, rfl⟩))
    (fun os started H enc _ F => by rw [OpenClaim.pre_eq_preRow]; exact lifted os started H enc F)

set_option maxRecDepth 100000 in
theorem plain (f : FuncId) (fn : Func) (hf : Tryz.pinned.checked.prog.funcNamed "configlang/configlanglaw46.SelectionDowngrades" = some f) (hfn : Tryz.pinned.checked.prog.funcs[f]? = some fn) :
    false = Tryz.pinned.checked.prog.looks [] ∧ ∀ (j : Nat) t, fn.params[j]? = some t → Tryz.pinned.checked.prog.wantsStandIn t = false := by
  obtain rfl : f = 5 := Option.some.inj ((show Tryz.prog.funcNamed "configlang/configlanglaw46.SelectionDowngrades" = some 5 by kernel_rfl).symm.trans hf) |>.symm
  obtain rfl : fn = Tryz.f5 := (Option.some.inj (Tryz.func5.symm.trans hfn)).symm
  refine ⟨by kernel_rfl, fun j t ht => ?_⟩
  rw [Tryz.params5] at ht
  have hm : t = 22 ∨ t = 33 ∨ t = 30 := by simpa using Array.mem_of_getElem? ht
  rcases hm with rfl | rfl | rfl
  · exact (show Tryz.prog.wantsStandIn 22 = false by kernel_rfl)
  · exact (show Tryz.prog.wantsStandIn 33 = false by kernel_rfl)
  · exact (show Tryz.prog.wantsStandIn 30 = false by kernel_rfl)

set_option maxRecDepth 100000 in
theorem card : Rows.SelectionDowngradesUptoCardSaid :=
  Claim7.holds_tied_plain_at .later [] _ _ _ _ said (fun _ h => by cases h) (by kernel_rfl) (fun _ h => by cases h) selectionDowngradesUpto_row_tie rfl ⟨rfl, rfl⟩ (by kernel_rfl) rfl plain (by kernel_rfl)
end Go.Proofs.YtfiilbdkhelhgaaGreatDoor.lawDowns
