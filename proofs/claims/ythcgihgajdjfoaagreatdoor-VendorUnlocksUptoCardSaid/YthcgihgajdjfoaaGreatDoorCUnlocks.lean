/- The law VendorUnlocks holds of every text of bulk at most 1048576: the tied card of the second form. No condition beside the row's own. -/
import Derived.Test.YthcgihgajdjfoaaGreatDoorU47
import Derived.Test.YthcgihgajdjfoaaGreatDoorU46
import Derived.BigQuiet
namespace Go.Proofs.YthcgihgajdjfoaaGreatDoor.lawUnlocks
open Go.ChangeShapes Go.WideShapes Go.ChangeAt Go.RowKit
open Go.ChangeMaps (open_string shut_string)

set_option maxRecDepth 100000 in
theorem eq_fltV (a b : Int) (w : World) : (Op.equalIn 10000 42 (.agg #[.int .i64 a, .int .i64 b]) (.agg #[.int .i64 a, .int .i64 b])).run Tryz.prog w = .ok true w := by simp [go_sem]
set_option maxRecDepth 100000 in
set_option maxHeartbeats 4000000 in
theorem walk (s : List UInt8) (w : World) (hs : s.length ≤ 1048576) (hG : Glob w) :
    Calls Tryz.prog 5 #[.string ⟨s.toArray⟩] w fun e w' => e = .returned (.bool true) ∧ Below w.heap.size w w' := by
  have HG := Lib.hid hG
  clear hG
  have cX := Lib.hid (fun W (hW : Below w.heap.size w W) => awake_any W (HG.out.keep hW))
  have cU := Lib.hid (fun W (hW : Below w.heap.size w W) => Unlock_any s W (HG.out.keep hW) (by omega))
  have cR := Lib.hid (fun W (hW : Below w.heap.size w W) => refUnlock_any s W (by omega))
  have HB0 := Lib.hid (Below.refl w.heap.size w)
  have hEl : (unlockP s).1.length ≤ 100000 := (unlock_inv s).2.2
  generalize unlockP s = r at cU cR hEl
  obtain ⟨E, ec, ea⟩ := r
  unfold RetU at cU cR
  simp only at cU cR hEl
  go_enter Tryz.func5, Tryz.ntmps5
  by_cases h6 : 600 < s.length
  · have hd : decide ((600 : Int) < (s.length : Int)) = true := decide_eq_true (by omega)
    have hd' : (600 : Int) < (s.length : Int) := by omega
    clear cU cR
    go_wp2_with fail
    refine (cX.out _ HB0.out).mono ?_
    rintro e w2 ⟨rfl, hb2⟩
    have HB2 := Lib.hid (HB0.out.trans (hb2.mono HB0.out.size))
    clear hb2 cX
    go_wp2
    go_ret
    exact ⟨rfl, HB2.out⟩
  have hd : decide ((600 : Int) < (s.length : Int)) = false := decide_eq_false (by omega)
  have hd' : (s.length : Int) ≤ (600 : Int) := by omega
  clear h6 hs
  go_wp2_with fail
  refine (cU.out _ HB0.out).mono ?_
  rintro e w2 ⟨A2, c2, rfl, hS2, hb2⟩
  have HB2 := Lib.hid (HB0.out.trans (hb2.mono HB0.out.size))
  have HW3 := Lib.hid (show Below w2.heap.size w2 (w2.alloc (.cells #[.int .i64 ec, .int .i64 (ea : Nat)] 42)) from (Below.refl _ _).alloc (Nat.le_refl _) _)
  have HB3 := Lib.hid (HB2.out.trans (HW3.out.mono HB2.out.size))
  have HS3 := Lib.hid ((hS2.below HW3.out).more HW3.out.size)
  have V3 := Lib.hid (Blk.new w2 42 #[.int .i64 ec, .int .i64 (ea : Nat)])
  obtain ⟨k0, k1⟩ := fltC V3.out
  have f0 := fltF V3.out
  clear hS2 hb2 cU
  go_wp2_with fail
  refine (cR.out _ HB3.out).mono ?_
  rintro e w4 ⟨A4, c4, rfl, hS4, hb4⟩
  have HB4 := Lib.hid (HB3.out.trans (hb4.mono HB3.out.size))
  have HW5 := Lib.hid (show Below w4.heap.size w4 (w4.alloc (.cells #[.int .i64 ec, .int .i64 (ea : Nat)] 42)) from (Below.refl _ _).alloc (Nat.le_refl _) _)
  have HB5 := Lib.hid (HB4.out.trans (HW5.out.mono HB4.out.size))
  have HS5 := Lib.hid ((hS4.below HW5.out).more HW5.out.size)
  have HS35 := Lib.hid ((((HS3.out.below hb4).more hb4.size).below HW5.out).more HW5.out.size)
  have V5 := Lib.hid (Blk.new w4 42 #[.int .i64 ec, .int .i64 (ea : Nat)])
  have V35 := Lib.hid ((V3.out.keep hb4).keep HW5.out)
  clear k0 k1 f0 V3 hb4 cR hS4 HS3
  obtain ⟨k0, k1⟩ := fltC V35.out
  obtain ⟨m0, m1⟩ := fltC V5.out
  have heq := fun W => eq_fltV ec (ea : Nat) W
  have hne : decide ((E.length : Int) = (E.length : Int)) = true := decide_eq_true rfl
  go_wp2_with fail
  clear k0 k1 m0 m1 heq
  go_loopw [7] (fun i wr => ∃ k : Nat, k ≤ E.length ∧ i = .int .i64 (k : Nat) ∧ Hid (Below (w4.alloc (.cells #[.int .i64 ec, .int .i64 (ea : Nat)] 42)).heap.size (w4.alloc (.cells #[.int .i64 ec, .int .i64 (ea : Nat)] 42)) wr)) (fun i _ => E.length - (intOf i).toNat)
  case atStart => exact ⟨0, Nat.zero_le _, rfl, Lib.hid (Below.refl _ _)⟩
  case round =>
    obtain ⟨k, hk, rfl, HB⟩ := hrel
    by_cases hlt : k < E.length
    · have hlt' : (k : Int) < (E.length : Int) := by omega
      obtain ⟨b1, o1, hA1, hb1, g0, g1, g2, g3, g4⟩ := ((HS35.out.below HB.out).more HB.out.size).ent hlt
      obtain ⟨b2, o2, hA2, hb2, e0, e1, e2, e3, e4⟩ := ((HS5.out.below HB.out).more HB.out.size).ent hlt
      generalize E[k] = x at g0 g1 g2 g3 g4 e0 e1 e2 e3 e4
      obtain ⟨x, xs⟩ := x
      subst hA1 hA2
      have hx : ∀ W, (Op.equalIn 10000 26 (.agg #[.string ⟨x.1.toArray⟩, .int .i64 x.2.1, .int .i64 x.2.2.1, .int .i64 x.2.2.2]) (.agg #[.string ⟨x.1.toArray⟩, .int .i64 x.2.1, .int .i64 x.2.2.1, .int .i64 x.2.2.2])).run Tryz.prog W = .ok true W := fun W => by
        have h := eq_mod x.1 x.1 x.2.1 x.2.2.1 x.2.2.2 x.2.1 x.2.2.1 x.2.2.2 W
        rw [decide_eq_true rfl] at h
        exact h
      have hxs : (xs == xs) = true := by simp
      simp only at g0 g1 g2 g3 g4 e0 e1 e2 e3 e4
      go_wp2
      go_quiet (fail)
      go_wp2
      go_roundw
      case rel => exact ⟨k + 1, by omega, by go_num, Lib.hid (HB.out.drewN _)⟩
      case measure => simp [intOf]; omega
    · obtain rfl : k = E.length := by omega
      have HB6 := Lib.hid (HB5.out.trans (HB.out.mono HB5.out.size))
      go_wp2_with fail
      refine (cX.out _ HB6.out).mono ?_
      rintro e w6 ⟨rfl, hb6⟩
      have HB7 := Lib.hid (HB6.out.trans (hb6.mono HB6.out.size))
      clear hb6 cX
      go_wp2
      go_ret
      exact ⟨rfl, HB7.out⟩

set_option maxRecDepth 100000 in
theorem contract (H : Type) (enc : TypeId × Value → H) (W : World) (base : Nat) (args : Array Value) (ds gs : List (DataW H)) (before : List MemPlace)
    (hval : ∀ (j : Nat) t v, Tryz.f5.params[j]? = some t → args[j]? = some v → Value.okWide Tryz.prog W .any base t v)
    (hW : DataW.Whole enc Tryz.prog Tryz.f5.params.toList Rows.vendorUnlocksSpec.vars false W args.toList ds gs before) (hk : Rows.uptoSmall H (ds ++ gs) = true) (hG : Glob W) :
    Calls Tryz.prog 5 args W fun e W' => ∃ v, e = .returned v ∧ Rows.vendorUnlocksSpec.post enc Tryz.prog Tryz.f5 false true false false W args v W' := by
  have hW' := hW
  obtain ⟨p, q, hA0, hV, rfl, hfz, hnd⟩ := hW
  have hA : DataW.TrodAll enc Tryz.prog W 0 (fun _ => true) true Tryz.f5.params.toList args.toList ds p := hA0
  rw [Tryz.params5] at hA hval
  obtain ⟨v0, vs0, d0, ds0, p0, q0, hargs, rfl, rfl, h0, r0⟩ := trodAll_cons hA
  obtain ⟨rfl, rfl, rfl⟩ := trodAll_nil r0
  obtain rfl : args = #[v0] := by cases args; simp_all
  obtain ⟨rfl, rfl⟩ := trodVars_none hV
  obtain ⟨s0, rfl, rfl, rfl, hmax0⟩ := open_string Tryz.underlying9 (hval 0 9 v0 rfl rfl) h0
  have hl0 : s0.data.toList.length ≤ 1048576 := by have := bulk_of hk; simp only [List.append_nil, Rows.uptoBulkAll, Rows.uptoBulk] at this; omega
  clear hA0
  have hw := walk s0.data.toList W hl0 hG
  refine hw.mono fun e W' ⟨he, hb⟩ => ?_
  subst he
  exact ⟨_, rfl, law_post hW' rfl (by kernel_rfl) (by kernel_rfl) rfl rfl rfl hb⟩

set_option maxRecDepth 100000 in
theorem reads (os : Os) {H : Type} (enc : TypeId × Value → H) : ∃ places, DataW.whole enc Tryz.prog ((laidWorld os).forCall (fun _ _ => 0) ⟨#[], #[.string ByteArray.empty], []⟩).memory Tryz.f5.params.toList Rows.vendorUnlocksSpec.vars false (#[.string ByteArray.empty] : Array Value).toList 8 = some ([.lit (.string [])], [], places) :=
  ⟨[], by kernel_rfl⟩

set_option maxRecDepth 100000 in
theorem lifted (os : Os) (started : os.Started) (H : Type) (enc : TypeId × Value → H) (F : Stop.Interp) :
    ReturnsInHanded {} Tryz.checked os 5 .any ((Rows.OpenSpec.upto Rows.vendorUnlocksSpec).preRow enc Tryz.prog Tryz.f5 Rows.vendorUnlocksUptoRow.domain false Rows.vendorUnlocksUptoRow.laid) (((Rows.OpenSpec.upto Rows.vendorUnlocksSpec).at F).post enc Tryz.prog Tryz.f5 false true false false) := by
  obtain ⟨places, hx⟩ := reads os enc
  refine returnsInHanded_of_row (C := Tryz.checked) (s := Rows.OpenSpec.upto Rows.vendorUnlocksSpec) own started (by kernel_rfl) Tryz.func5
    (witness_row_at (enc := enc) (C := Tryz.checked) false (laidWorld os) #[.string ByteArray.empty] (World.laidAll_os _ _ _) (by kernel_rfl) (by kernel_rfl) (by kernel_rfl)
      (OpenSpec.preRow_of_cond 8 hx (by kernel_rfl) (fun k hk => by cases hk; kernel_rfl) (by kernel_rfl) (laid_met os _))) ?_
  intro W base args ds gs before hval hW _ hcond _ hL hsh _
  exact contract H enc W base args ds gs before hval hW (hcond _ rfl) (glob_of hL hsh)


set_option maxRecDepth 100000 in
theorem pf_inPlace : (Rows.vendorUnlocksUptoRow.inPlace == Tryz.pinned.checked.prog.inPlace 5) = true := by kernel_rfl
set_option maxRecDepth 100000 in
theorem pf_unf : (Rows.vendorUnlocksUptoRow.unfollowed == Tryz.pinned.checked.prog.unfollowed 5) = true := by kernel_rfl
set_option maxRecDepth 100000 in
theorem pf_rec : (Rows.vendorUnlocksUptoRow.recurses == Tryz.pinned.checked.prog.recurses 5) = true := by kernel_rfl
set_option maxRecDepth 100000 in
theorem pf_named : (Rows.vendorUnlocksUptoRow.named == Tryz.pinned.checked.prog.varsNamed 5) = true := by kernel_rfl
set_option maxRecDepth 100000 in
theorem pf_closed : joinedFacts Tryz.pinned.checked.prog 5 Tryz.f5 (Rows.OpenSpec.upto Rows.vendorUnlocksSpec).bare Rows.vendorUnlocksUptoRow = true := by
  unfold joinedFacts
  exact (and2 (and2 (and2 (and2 (and2 (and2 (and2 (and2 (and2 (and2 (and2 (and2 (and2 (and2 (and2 (and2 (and2 (and2 (and2 (and2 (and2 (and2 (and2 (and2 (and2 (and2 (and2 (and2 (and2 (and2 (and2 (by kernel_rfl) pf_laid) pf_rowed) (by kernel_rfl)) (by kernel_rfl)) (by kernel_rfl)) (by kernel_rfl)) (by kernel_rfl)) (by kernel_rfl)) pf_inPlace) pf_unf) pf_rec) pf_named) (by kernel_rfl)) (by kernel_rfl)) (by kernel_rfl)) (by kernel_rfl)) (by kernel_rfl)) (by kernel_rfl)) (by kernel_rfl)) (by kernel_rfl)) (by kernel_rfl)) (by kernel_rfl)) (by kernel_rfl)) pf_heard) pf_enter) (pf_lifts Rows.vendorUnlocksUptoRow rfl)) (pf_make Rows.vendorUnlocksUptoRow rfl)) (by kernel_rfl)) (by kernel_rfl)) (by kernel_rfl)) (by kernel_rfl))

set_option maxRecDepth 100000 in
theorem said : Rows.VendorUnlocksUptoSaid :=
  OpenClaim.holds_of_cond 5 Tryz.f5 rfl rfl rfl rfl rfl rfl rfl ⟨rfl, rfl, rfl, rfl, rfl⟩ rfl rfl rfl rfl rfl (by kernel_rfl) Tryz.func5 pf_closed
    (of_decide_eq_true (by kernel_rfl)) (by unfold Func.isWrapper; first | (rw [if_pos (by decide +kernel)]; kernel_rfl) | (rw [if_neg (by decide +kernel)]; exact ⟨rfl, rfl⟩))
    (fun os started H enc _ F => by rw [OpenClaim.pre_eq_preRow]; exact lifted os started H enc F)

set_option maxRecDepth 100000 in
theorem plain (f : FuncId) (fn : Func) (hf : Tryz.pinned.checked.prog.funcNamed "configlang/configlanglaw48.VendorUnlocks" = some f) (hfn : Tryz.pinned.checked.prog.funcs[f]? = some fn) :
    true = Tryz.pinned.checked.prog.looks [] ∧ ∀ (j : Nat) t, fn.params[j]? = some t → Tryz.pinned.checked.prog.wantsStandIn t = false := by
  obtain rfl : f = 5 := Option.some.inj ((show Tryz.prog.funcNamed "configlang/configlanglaw48.VendorUnlocks" = some 5 by kernel_rfl).symm.trans hf) |>.symm
  obtain rfl : fn = Tryz.f5 := (Option.some.inj (Tryz.func5.symm.trans hfn)).symm
  refine ⟨by kernel_rfl, fun j t ht => ?_⟩
  rw [Tryz.params5] at ht
  obtain rfl : t = 9 := by simpa using Array.mem_of_getElem? ht
  exact (show Tryz.prog.wantsStandIn 9 = false by kernel_rfl)

set_option maxRecDepth 100000 in
theorem card : Rows.VendorUnlocksUptoCardSaid :=
  Claim7.holds_tied_plain_at .later [] _ _ _ _ said (fun _ h => by cases h) (by kernel_rfl) (fun _ h => by cases h) vendorUnlocksUpto_row_tie rfl ⟨rfl, rfl⟩ (by kernel_rfl) rfl plain (by kernel_rfl)
end Go.Proofs.YthcgihgajdjfoaaGreatDoor.lawUnlocks
