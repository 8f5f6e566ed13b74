/- The law VendorClean holds of every registry and root of bulk at most 1048576: the tied card of the second form. No condition beside the row's own. -/
import Derived.Test.YthcgihgajdjfoaaGreatDoorU47
namespace Go.Proofs.YthcgihgajdjfoaaGreatDoor.lawClean
open Go.ChangeShapes Go.WideShapes Go.ChangeAt Go.RowKit
open Go.ChangeMaps (open_string shut_string)

set_option maxRecDepth 100000 in
set_option maxHeartbeats 4000000 in
theorem walk (A : Option Addr) (c : Nat) (L : List RelA) (y0 : ManW) (w : World) (hS : Sl w w.heap.size 6 encR A L) (hO : ∀ r ∈ L, inR w 1048576 r) (_hl : L.length ≤ 1099511627776) (hO1 : inW w 1048576 y0) (hG : Glob w) :
    Calls Tryz.prog 7 #[.slice A L.length c, .agg (encW y0).toArray] w fun e w' => e = .returned (.bool true) ∧ Below w.heap.size w w' := by
  have HS := Lib.hid hS
  have HO := Lib.hid hO
  have H1 := Lib.hid hO1
  have HG := Lib.hid hG
  clear hS hO hG _hl hO1
  have HB0 := Lib.hid (show Below w.heap.size w (w.alloc (.cells (encW y0).toArray 29)) from (Below.refl _ _).alloc (Nat.le_refl _) _)
  have Q0 := Lib.hid (Blk.new w 29 (encW y0).toArray)
  have cS := Lib.hid (fun W (hW : Below w.heap.size w W) => smallL_any A c L W ((HS.out.below hW).more hW.size) fun r hr => (HO.out r hr).ok.below hW)
  have cM := Lib.hid (fun W (hW : Below w.heap.size w W) => smallMan_any y0.1 y0.2.1 y0.2.2.1 y0.2.2.2 W ((H1.out.2.1.below hW).more hW.size))
  have cC := Lib.hid (fun (h : smallL L) (h1 : smallM y0.1 y0.2.2.2) W (hW : Below w.heap.size w W) => Collect_any A c L y0 W ((HS.out.below hW).more hW.size) (fun r hr => (h.rels HO.out r hr).below hW) (Nat.le_trans h.1 (by decide)) (((h1.manOk H1.out).keep hW).more hW.size) (HG.out.keep hW))
  have HLen := Lib.hid (fun (h : smallL L) => show (collectP (L.map RelA.rel) y0.1 y0.2.2.2).1.length ≤ 10 from by
    have := @collected_len (L.map RelA.rel) y0.1 y0.2.2.2
    rw [List.length_map] at this
    exact Nat.le_trans this h.1)
  have HEr := Lib.hid (@collected_bad (L.map RelA.rel) y0.1 y0.2.2.2)
  have HCl := Lib.hid (fun (h : smallL L) (h0 : (collectP (L.map RelA.rel) y0.1 y0.2.2.2).2 = 0) => show lockP (collectP (L.map RelA.rel) y0.1 y0.2.2.2).1 = (nlL (lout (collectP (L.map RelA.rel) y0.1 y0.2.2.2).1), 0) ∧ verifyP y0.1.1 y0.2.2.2 (collectP (L.map RelA.rel) y0.1 y0.2.2.2).1 (lockP (collectP (L.map RelA.rel) y0.1 y0.2.2.2).1).1 = [] ∧ rdiffP (collectP (L.map RelA.rel) y0.1 y0.2.2.2).1 (unlockP (lockP (collectP (L.map RelA.rel) y0.1 y0.2.2.2).1).1).1 = [] ∧ outR y0.1.1 y0.2.2.2 (collectP (L.map RelA.rel) y0.1 y0.2.2.2).1 = [] ∧ (lockP (collectP (L.map RelA.rel) y0.1 y0.2.2.2).1).1.length ≤ 140737488355327 from by
    obtain ⟨D, C, hC⟩ := collected h0
    have hLL : (L.map RelA.rel).length ≤ 600 := by rw [List.length_map]; exact Nat.le_trans h.1 (by decide)
    have hCl := Nat.le_trans hC.len hLL
    rw [hC.eq]
    refine ⟨lockP_ok hC.lerr, hC.clean hLL, ?_, hC.out, ?_⟩
    · show rdiffP C (unlockP (lockP C).1).1 = []
      rw [lockP_ok hC.lerr]
      show rdiffP C (unlockP (nlL (lout C))).1 = []
      rw [unlock_lock hC.lerr hCl]
      exact clean_diff (lerr_nodup hC.lerr).2
    · show (lockP C).1.length ≤ _
      rw [lockP_ok hC.lerr]
      have h1 := nlL_len (lout C) (lout_small C)
      have h2 := lout_le C
      have h3 : 101 * (lout C).length ≤ 101 * 600 := Nat.mul_le_mul_left _ (by omega)
      show (nlL (lout C)).length ≤ _
      omega)
  have HSub := Lib.hid (fun (h : smallL L) W (Q : List RelA) (hm : Q.map RelA.rel = (collectP (L.map RelA.rel) y0.1 y0.2.2.2).1) (hk : ∀ q ∈ Q, RelOk W q) => relS_of (w' := W) (h.rels HO.out) hm (fun c hc => collected_sub hc) hk)
  have cX := Lib.hid (fun W (hW : Below w.heap.size w W) => awake_any W (HG.out.keep hW))
  have cV := Lib.hid (fun (h1 : smallM y0.1 y0.2.2.2) W (hW : Below w.heap.size w W) A2 c2 (Q : List RelA) s (hA : Sl W W.heap.size 6 encR A2 Q) (hq : ∀ q ∈ Q, RelM W q) (hl : Q.length ≤ 100) (hs : s.length ≤ 140737488355327) hc1 hc2 => Verify_any y0 A2 c2 Q s W ((((h1.manOk H1.out).keep hW).more hW.size)).manS hA hq ((h1.manOk H1.out).mods) hl hs (HG.out.keep hW) hc1 hc2)
  obtain ⟨rm, A0, c0, l0⟩ := y0
  simp only at cS cM cC HLen HEr HCl HSub cV
  generalize smallL L = P at cS cC HLen HCl HSub
  generalize smallM rm l0 = P1 at cM cC cV
  generalize collectP (L.map RelA.rel) rm l0 = r at cC HLen HEr HCl HSub
  unfold RetSm at cS cM
  unfold RetC at cC
  simp only [encW] at Q0 HB0 ⊢
  obtain ⟨m, e1⟩ := r
  simp only at cC HLen HEr HCl HSub
  go_enter Tryz.func7, Tryz.ntmps7
  go_wp2_with fail
  refine (cS.out _ HB0.out).mono ?_
  rintro e w1 ⟨b, rfl, hbi, hb1⟩
  have HB1 := Lib.hid (HB0.out.trans (hb1.mono HB0.out.size))
  have Q1 := Lib.hid (Q0.out.keep hb1)
  have HBI := Lib.hid hbi
  clear hb1 hbi cS
  cases b
  · go_wp2_with fail
    refine (cX.out _ HB1.out).mono ?_
    rintro e w2 ⟨rfl, hb2⟩
    have HB2 := Lib.hid (HB1.out.trans (hb2.mono HB1.out.size))
    clear hb2 cX
    go_wp2
    go_ret
    exact ⟨rfl, HB2.out⟩
  have HP := Lib.hid (show P from HBI.out rfl)
  clear HBI
  obtain ⟨y0, y1, y2, y3, y4⟩ := manC Q1.out
  go_wp2_with fail
  refine (cM.out _ HB1.out).mono ?_
  rintro e w1' ⟨b, rfl, hbi, hb1'⟩
  have HB1' := Lib.hid (HB1.out.trans (hb1'.mono HB1.out.size))
  have Q1' := Lib.hid (Q1.out.keep hb1')
  have HBI := Lib.hid hbi
  clear hb1' hbi cM y0 y1 y2 y3 y4
  cases b
  · go_wp2_with fail
    refine (cX.out _ HB1'.out).mono ?_
    rintro e w2 ⟨rfl, hb2⟩
    have HB2 := Lib.hid (HB1'.out.trans (hb2.mono HB1'.out.size))
    clear hb2 cX
    go_wp2
    go_ret
    exact ⟨rfl, HB2.out⟩
  have HP1 := Lib.hid (show P1 from HBI.out rfl)
  clear HBI
  obtain ⟨y0, y1, y2, y3, y4⟩ := manC Q1'.out
  go_wp2_with fail
  refine (cC.out HP.out HP1.out _ HB1'.out).mono ?_
  rintro e w2 ⟨A2, c2, K2, rfl, hm2, hS2, hk2, hb2⟩
  have HB2 := Lib.hid (HB1'.out.trans (hb2.mono HB1'.out.size))
  have Q2 := Lib.hid (Q1'.out.keep hb2)
  have HS2 := Lib.hid hS2
  have HM2 := Lib.hid hm2
  have HK2 := Lib.hid (HSub.out HP.out w2 K2 hm2 hk2)
  have HKl := Lib.hid (show K2.length ≤ 10 from by have := HLen.out HP.out; rw [← hm2, List.length_map] at this; exact this)
  clear hb2 cC y0 y1 y2 y3 y4 hS2 hm2 hk2 HSub HLen
  by_cases h0 : e1 = 0
  rotate_left
  · have hd : decide (e1 = 0) = false := decide_eq_false h0
    have hbe : (e1 == 0) = false := beq_eq_false_iff_ne.2 h0
    have hn : (K2.length : Int) = 0 := by have := HEr.out h0; rw [← HM2.out] at this; rw [List.map_eq_nil_iff.1 this]; rfl
    have hdn : decide ((K2.length : Int) = 0) = true := decide_eq_true hn
    clear h0
    go_wp2_with fail
    refine (cX.out _ HB2.out).mono ?_
    rintro e w3 ⟨rfl, hb3⟩
    have HB3 := Lib.hid (HB2.out.trans (hb3.mono HB2.out.size))
    clear hb3 cX
    go_wp2
    go_ret
    exact ⟨rfl, HB3.out⟩
  subst h0
  obtain ⟨hlk, hv, hrd, hout, hlen⟩ := HCl.out HP.out rfl
  have HLK := Lib.hid hlk
  have HV := Lib.hid hv
  have HRD := Lib.hid hrd
  have HOUT := Lib.hid hout
  have HSL := Lib.hid hlen
  clear hlk hv hrd hout hlen HCl HEr
  have cL := Lib.hid (Lock_any A2 c2 K2 w2 HS2.out (fun q hq => (HK2.out q hq).ok) (HG.out.keep HB2.out) (Nat.le_trans HKl.out (by decide)))
  rw [HM2.out] at cL
  unfold RetLk at cL
  rw [show (lockP m).2 = 0 from by rw [HLK.out]] at cL
  obtain ⟨s, hs⟩ : ∃ s, s = (lockP m).1 := ⟨_, rfl⟩
  rw [← hs] at cL HV HRD HSL
  clear hs HLK
  have hd0 : decide ((0 : Int) = 0) = true := by decide
  go_wp2_with fail
  refine cL.out.mono ?_
  rintro e w3 ⟨rfl, hb3⟩
  have HB3 := Lib.hid (HB2.out.trans (hb3.mono HB2.out.size))
  have Q3 := Lib.hid (Q2.out.keep hb3)
  have cV3 := Lib.hid (cV.out HP1.out w3 HB3.out A2 c2 K2 s ((HS2.out.below hb3).more hb3.size) (fun q hq => ((HK2.out q hq).below hb3).relM) (Nat.le_trans HKl.out (by decide)) HSL.out (by rw [HM2.out, HRD.out]; decide) (fun _ => by rw [HM2.out, HOUT.out]; decide))
  rw [HM2.out, HV.out] at cV3
  clear hb3 cL cV HV HRD HOUT HSL HS2 HK2 HKl HM2
  unfold RetI at cV3
  obtain ⟨y0, y1, y2, y3, y4⟩ := manC Q3.out
  go_wp2_with fail
  refine cV3.out.mono ?_
  rintro e w4 ⟨A4, c4, rfl, _, _, hb4⟩
  have HB4 := Lib.hid (HB3.out.trans (hb4.mono HB3.out.size))
  clear hb4 cV3
  go_wp2_with fail
  refine (cX.out _ HB4.out).mono ?_
  rintro e w5 ⟨rfl, hb5⟩
  have HB5 := Lib.hid (HB4.out.trans (hb5.mono HB4.out.size))
  clear hb5 cX
  go_wp2
  go_ret
  exact ⟨rfl, HB5.out⟩

set_option maxRecDepth 100000 in
theorem contract (H : Type) (enc : TypeId × Value → H) (W : World) (base : Nat) (args : Array Value) (ds gs : List (DataW H)) (before : List MemPlace)
    (hval : ∀ (j : Nat) t v, Tryz.f7.params[j]? = some t → args[j]? = some v → Value.okWide Tryz.prog W .any base t v)
    (hW : DataW.Whole enc Tryz.prog Tryz.f7.params.toList Rows.vendorCleanSpec.vars false W args.toList ds gs before) (hk : Rows.uptoSmall H (ds ++ gs) = true) (hG : Glob W) :
    Calls Tryz.prog 7 args W fun e W' => ∃ v, e = .returned v ∧ Rows.vendorCleanSpec.post enc Tryz.prog Tryz.f7 false true false false W args v W' := by
  have hW' := hW
  obtain ⟨p, q, hA0, hV, rfl, hfz, hnd⟩ := hW
  have hA : DataW.TrodAll enc Tryz.prog W 0 (fun _ => true) true Tryz.f7.params.toList args.toList ds p := hA0
  rw [Tryz.params7] at hA hval
  obtain ⟨v0, vs0, d0, ds0, p0, q0, hargs, rfl, rfl, h0, r0⟩ := trodAll_cons hA
  obtain ⟨v1, vs1, d1, ds1, p1, q1, rfl, rfl, rfl, h1, r1⟩ := trodAll_cons r0
  obtain ⟨rfl, rfl, rfl⟩ := trodAll_nil r1
  obtain rfl : args = #[v0, v1] := by cases args; simp_all
  obtain ⟨rfl, rfl⟩ := trodVars_none hV
  obtain ⟨A0, c0, L0, rfl, hS0, hO0, _, hN0⟩ := open_sl Tryz.underlying22 (opens_releases W 1048576 (by decide)) (hval 0 22 v0 rfl rfl) h0 (by have := bulk_of hk; simp only [List.append_nil, Rows.uptoBulkAll] at this; omega)
  have hl0 : L0.length ≤ 1099511627776 := by omega
  obtain ⟨r1x, rfl, hO1⟩ := open_st Tryz.underlying29 (opens_manifest W 1048576) (hval 1 29 v1 rfl rfl) h1 (by have := bulk_of hk; simp only [List.append_nil, Rows.uptoBulkAll] at this; omega)
  clear hA0
  have hw := walk A0 c0 L0 r1x W hS0 hO0 hl0 hO1 hG
  refine hw.mono fun e W' ⟨he, hb⟩ => ?_
  subst he
  exact ⟨_, rfl, law_post hW' rfl (by kernel_rfl) (by kernel_rfl) rfl rfl rfl hb⟩

set_option maxRecDepth 100000 in
theorem reads (os : Os) {H : Type} (enc : TypeId × Value → H) : ∃ places, DataW.whole enc Tryz.prog ((laidWorld os).forCall (fun _ _ => 0) ⟨#[], #[.slice none 0 0, .agg #[.string ByteArray.empty, .int .i64 0, .int .i64 0, .int .i64 0, .slice none 0 0]], []⟩).memory Tryz.f7.params.toList Rows.vendorCleanSpec.vars false (#[.slice none 0 0, .agg #[.string ByteArray.empty, .int .i64 0, .int .i64 0, .int .i64 0, .slice none 0 0]] : Array Value).toList 8 = some ([.nil, .agg [.agg [.lit (.string []), .agg [.lit (.int .i64 0), .lit (.int .i64 0), .lit (.int .i64 0)]], .nil]], [], places) :=
  ⟨[], by kernel_rfl⟩

set_option maxRecDepth 100000 in
theorem lifted (os : Os) (started : os.Started) (H : Type) (enc : TypeId × Value → H) (F : Stop.Interp) :
    ReturnsInHanded {} Tryz.checked os 7 .any ((Rows.OpenSpec.upto Rows.vendorCleanSpec).preRow enc Tryz.prog Tryz.f7 Rows.vendorCleanUptoRow.domain false Rows.vendorCleanUptoRow.laid) (((Rows.OpenSpec.upto Rows.vendorCleanSpec).at F).post enc Tryz.prog Tryz.f7 false true false false) := by
  obtain ⟨places, hx⟩ := reads os enc
  refine returnsInHanded_of_row (C := Tryz.checked) (s := Rows.OpenSpec.upto Rows.vendorCleanSpec) own started (by kernel_rfl) Tryz.func7
    (witness_row_at (enc := enc) (C := Tryz.checked) false (laidWorld os) #[.slice none 0 0, .agg #[.string ByteArray.empty, .int .i64 0, .int .i64 0, .int .i64 0, .slice none 0 0]] (World.laidAll_os _ _ _) (by kernel_rfl) (by kernel_rfl) (by kernel_rfl)
      (OpenSpec.preRow_of_cond 8 hx (by kernel_rfl) (fun k hk => by cases hk; kernel_rfl) (by kernel_rfl) (laid_met os _))) ?_
  intro W base args ds gs before hval hW _ hcond _ hL hsh _
  exact contract H enc W base args ds gs before hval hW (hcond _ rfl) (glob_of hL hsh)


set_option maxRecDepth 100000 in
theorem pf_inPlace : (Rows.vendorCleanUptoRow.inPlace == Tryz.pinned.checked.prog.inPlace 7) = true := by kernel_rfl
set_option maxRecDepth 100000 in
theorem pf_unf : (Rows.vendorCleanUptoRow.unfollowed == Tryz.pinned.checked.prog.unfollowed 7) = true := by kernel_rfl
set_option maxRecDepth 100000 in
theorem pf_rec : (Rows.vendorCleanUptoRow.recurses == Tryz.pinned.checked.prog.recurses 7) = true := by kernel_rfl
set_option maxRecDepth 100000 in
theorem pf_named : (Rows.vendorCleanUptoRow.named == Tryz.pinned.checked.prog.varsNamed 7) = true := by kernel_rfl
set_option maxRecDepth 100000 in
theorem pf_closed : joinedFacts Tryz.pinned.checked.prog 7 Tryz.f7 (Rows.OpenSpec.upto Rows.vendorCleanSpec).bare Rows.vendorCleanUptoRow = true := by
  unfold joinedFacts
  exact (and2 (and2 (and2 (and2 (and2 (and2 (and2 (and2 (and2 (and2 (and2 (and2 (and2 (and2 (and2 (and2 (and2 (and2 (and2 (and2 (and2 (and2 (and2 (and2 (and2 (and2 (and2 (and2 (and2 (and2 (and2 (by kernel_rfl) pf_laid) pf_rowed) (by kernel_rfl)) (by kernel_rfl)) (by kernel_rfl)) (by kernel_rfl)) (by kernel_rfl)) (by kernel_rfl)) pf_inPlace) pf_unf) pf_rec) pf_named) (by kernel_rfl)) (by kernel_rfl)) (by kernel_rfl)) (by kernel_rfl)) (by kernel_rfl)) (by kernel_rfl)) (by kernel_rfl)) (by kernel_rfl)) (by kernel_rfl)) (by kernel_rfl)) (by kernel_rfl)) pf_heard) pf_enter) (pf_lifts Rows.vendorCleanUptoRow rfl)) (pf_make Rows.vendorCleanUptoRow rfl)) (by kernel_rfl)) (by kernel_rfl)) (by kernel_rfl)) (by kernel_rfl))

set_option maxRecDepth 100000 in
theorem said : Rows.VendorCleanUptoSaid :=
  OpenClaim.holds_of_cond 7 Tryz.f7 rfl rfl rfl rfl rfl rfl rfl ⟨rfl, rfl, rfl, rfl, rfl⟩ rfl rfl rfl rfl rfl (by kernel_rfl) Tryz.func7 pf_closed
    (of_decide_eq_true (by kernel_rfl)) (by unfold Func.isWrapper; first | (rw [if_pos (by decide +kernel)]; kernel_rfl) | (rw [if_neg (by decide +kernel)]; exact ⟨rfl, rfl⟩))
    (fun os started H enc _ F => by rw [OpenClaim.pre_eq_preRow]; exact lifted os started H enc F)

set_option maxRecDepth 100000 in
theorem plain (f : FuncId) (fn : Func) (hf : Tryz.pinned.checked.prog.funcNamed "configlang/configlanglaw48.VendorClean" = some f) (hfn : Tryz.pinned.checked.prog.funcs[f]? = some fn) :
    true = Tryz.pinned.checked.prog.looks [] ∧ ∀ (j : Nat) t, fn.params[j]? = some t → Tryz.pinned.checked.prog.wantsStandIn t = false := by
  obtain rfl : f = 7 := Option.some.inj ((show Tryz.prog.funcNamed "configlang/configlanglaw48.VendorClean" = some 7 by kernel_rfl).symm.trans hf) |>.symm
  obtain rfl : fn = Tryz.f7 := (Option.some.inj (Tryz.func7.symm.trans hfn)).symm
  refine ⟨by kernel_rfl, fun j t ht => ?_⟩
  rw [Tryz.params7] at ht
  have hm : t = 22 ∨ t = 29 := by simpa using Array.mem_of_getElem? ht
  rcases hm with rfl | rfl
  · exact (show Tryz.prog.wantsStandIn 22 = false by kernel_rfl)
  · exact (show Tryz.prog.wantsStandIn 29 = false by kernel_rfl)

set_option maxRecDepth 100000 in
theorem card : Rows.VendorCleanUptoCardSaid :=
  Claim7.holds_tied_plain_at .later [] _ _ _ _ said (fun _ h => by cases h) (by kernel_rfl) (fun _ h => by cases h) vendorCleanUpto_row_tie rfl ⟨rfl, rfl⟩ (by kernel_rfl) rfl plain (by kernel_rfl)
end Go.Proofs.YthcgihgajdjfoaaGreatDoor.lawClean
