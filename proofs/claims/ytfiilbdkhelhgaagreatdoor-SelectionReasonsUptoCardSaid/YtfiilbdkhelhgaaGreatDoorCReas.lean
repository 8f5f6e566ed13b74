/- The law SelectionReasons holds of every registry, root and path of bulk at most 1048576: the tied card of the second form. No condition beside the row's own. -/
import Derived.Test.YtfiilbdkhelhgaaGreatDoorG2
import Derived.Test.YtfiilbdkhelhgaaGreatDoorOpen2
import Derived.Test.YtfiilbdkhelhgaaGreatDoorWL3
import Derived.Test.YtfiilbdkhelhgaaGreatDoorWQ4
import Derived.Test.YtfiilbdkhelhgaaGreatDoorLA6
import Derived.Test.YtfiilbdkhelhgaaGreatDoorLB6
namespace Go.Proofs.YtfiilbdkhelhgaaGreatDoor.lawReas
open Go.ChangeShapes Go.WideShapes Go.ChangeAt Go.RowKit
open Go.ChangeMaps (open_string shut_string)

theorem search_len {R : Regy} {l : List Mod} {g : Mod} : ∀ {n N : Nat} {L : List (List Mod)} {c : List Mod}, search R g n L = some c → Best (N + 1) (WkN R l (N + 1)) L → c.length ≤ N + n
  | 0, N, L, c, h, _ => by simp [search] at h
  | n + 1, N, L, c, h, hL => by
    unfold search at h
    split at h
    · rename_i d hd
      obtain rfl := Option.some.inj h
      have := (hL.sub _ (List.mem_of_find?_eq_some hd)).2
      omega
    · have := search_len h (hL.next (Nat.succ_le_succ (Nat.zero_le _)))
      omega
theorem reasonP_len (R : Regy) (root : Mod) (l : List Mod) (p : List UInt8) : (reasonP R root l p).1.length ≤ (univ R l).length + 1 := by
  rw [← rreason_eq]
  unfold rreasonP
  split
  · split
    · simp
    · rename_i g _
      cases hs : search R g (needL R l).length (layer0 l) with
      | none => simp
      | some c =>
        have := search_len hs (best0 R l)
        have h2 := needL_len R l
        show c.length ≤ _
        omega
  · simp
theorem walk (A : Option Addr) (c : Nat) (L : List ManW) (y0 : ManW) (path : List UInt8) (w : World) (hS : Sl w w.heap.size 5 encW A L) (hO : ∀ y ∈ L, inW w 1048576 y) (hl : L.length ≤ 1048576) (hO1 : inW w 1048576 y0) (hp : path.length ≤ 1048576) (hG : Glob w) :
    Calls Tryz.prog 6 #[.slice A L.length c, .agg (encW y0).toArray, .string ⟨path.toArray⟩] w fun e w' => e = .returned (.bool true) ∧ Below w.heap.size w w' := by
  have HL := Lib.hid (reg_in hS hO hl)
  have H1 := Lib.hid (man_in hO1)
  have HG := Lib.hid hG
  clear hS hO hG hl hO1
  have HB0 := Lib.hid (show Below w.heap.size w (w.alloc (.cells (encW y0).toArray 33)) from (Below.refl _ _).alloc (Nat.le_refl _) _)
  have Q0 := Lib.hid (Blk.new w 33 (encW y0).toArray)
  have cS := Lib.hid (fun W (hW : Below w.heap.size w W) => small_any A c L y0 W (HL.out.step hW) (H1.out.step hW))
  have cB := Lib.hid (fun (h : smallP (regW L) ∧ smallP [plainW y0]) W (hW : Below w.heap.size w W) => Reason_any A c L y0 path W ((HL.out.ok h.1).step hW) (((H1.out.ok h.2).keep hW).more hW.size) (HG.out.keep hW))
  have cR := Lib.hid (fun (h : smallP (regW L) ∧ smallP [plainW y0]) W (hW : Below w.heap.size w W) => show Calls Tryz.prog 20 _ W (RetB W (reasonP (regW L) y0.1 y0.2.2.2 path)) by
    rw [← rreason_eq]
    exact rReason_any A c L y0 path W ((HL.out.ok h.1).step hW) (((H1.out.ok h.2).keep hW).more hW.size))
  have cX := Lib.hid (fun W (hW : Below w.heap.size w W) => example_any W (HG.out.keep hW))
  have HLen := Lib.hid (fun (h : smallP (regW L) ∧ smallP [plainW y0]) => show (reasonP (regW L) y0.1 y0.2.2.2 path).1.length ≤ 1099511627776 from Nat.le_trans (reasonP_len _ _ _ _) (by
    have := univ_small h.1 h.2
    unfold plainW at this
    simp only at this
    omega))
  obtain ⟨rm, A0, c0, l0⟩ := y0
  simp only at cS cB cR HLen
  generalize (smallP (regW L) ∧ smallP [plainW (rm, A0, c0, l0)]) = P at cS cB cR HLen
  generalize reasonP (regW L) rm l0 path = r at cB cR HLen
  unfold RetB at cB cR
  simp only [encW] at Q0 HB0 ⊢
  obtain ⟨m, e1⟩ := r
  simp only at cB cR HLen
  go_enter Tryz.func6, Tryz.ntmps6
  go_wp2_with fail
  refine (cS.out _ HB0.out).mono ?_
  rintro e w1 ⟨b, rfl, hbi, hb1⟩
  have HB1 := Lib.hid (HB0.out.trans (hb1.mono HB0.out.size))
  have Q1 := Lib.hid (Q0.out.keep hb1)
  have HBI := Lib.hid hbi
  clear hb1 hbi cS
  cases b
  · go_wp2_with fail
    refine (cX.out _ HB1.out).mono ?_
    rintro e w2 ⟨rfl, hb2⟩
    have HB2 := Lib.hid (HB1.out.trans (hb2.mono HB1.out.size))
    clear hb2 cX
    go_wp2
    go_ret
    exact ⟨rfl, HB2.out⟩
  · have HP := Lib.hid (show P from by have h := HBI.out; simpa using h)
    clear HBI
    by_cases h61 : 61 < path.length
    · have h61' : (61 : Int) < (path.length : Int) := by omega
      go_wp2_with fail
      refine (cX.out _ HB1.out).mono ?_
      rintro e w2 ⟨rfl, hb2⟩
      have HB2 := Lib.hid (HB1.out.trans (hb2.mono HB1.out.size))
      clear hb2 cX
      go_wp2
      go_ret
      exact ⟨rfl, HB2.out⟩
    · have h61' : ¬ (61 : Int) < (path.length : Int) := by omega
      obtain ⟨y0, y1, y2, y3, y4⟩ := manC Q1.out
      go_wp2_with fail
      refine (cB.out HP.out _ HB1.out).mono ?_
      rintro e w2 ⟨A2, c2, rfl, _, hS2, hb2⟩
      have HB2 := Lib.hid (HB1.out.trans (hb2.mono HB1.out.size))
      have Q2 := Lib.hid (Q1.out.keep hb2)
      have HS2 := Lib.hid hS2
      clear hb2 cB y0 y1 y2 y3 y4 hS2
      obtain ⟨y0, y1, y2, y3, y4⟩ := manC Q2.out
      go_wp2_with fail
      refine (cR.out HP.out _ HB2.out).mono ?_
      rintro e w3 ⟨A3, c3, rfl, _, hS3, hb3⟩
      have HB3 := Lib.hid (HB2.out.trans (hb3.mono HB2.out.size))
      have HS3 := Lib.hid hS3
      have HS2b := Lib.hid ((HS2.out.below hb3).more hb3.size)
      have cE := Lib.hid (rSame_any A2 c2 m A3 c3 m w3 HS2b.out hS3 (HLen.out HP.out) (HLen.out HP.out))
      clear hb3 cR y0 y1 y2 y3 y4 hS3
      go_wp2_with fail
      refine cE.out.mono ?_
      rintro e w4 ⟨rfl, hb4⟩
      have HB4 := Lib.hid (HB3.out.trans (hb4.mono HB3.out.size))
      clear hb4 cE
      simp only [decide_true]
      go_wp2_with fail
      refine (cX.out _ HB4.out).mono ?_
      rintro e w5 ⟨rfl, hb5⟩
      have HB5 := Lib.hid (HB4.out.trans (hb5.mono HB4.out.size))
      clear hb5 cX
      go_wp2
      go_ret
      exact ⟨rfl, HB5.out⟩

set_option maxRecDepth 100000 in
theorem contract (H : Type) (enc : TypeId × Value → H) (W : World) (base : Nat) (args : Array Value) (ds gs : List (DataW H)) (before : List MemPlace)
    (hval : ∀ (j : Nat) t v, Tryz.f6.params[j]? = some t → args[j]? = some v → Value.okWide Tryz.prog W .any base t v)
    (hW : DataW.Whole enc Tryz.prog Tryz.f6.params.toList Rows.selectionReasonsSpec.vars false W args.toList ds gs before) (hk : Rows.uptoSmall H (ds ++ gs) = true) (hG : Glob W) :
    Calls Tryz.prog 6 args W fun e W' => ∃ v, e = .returned v ∧ Rows.selectionReasonsSpec.post enc Tryz.prog Tryz.f6 false true false false W args v W' := by
  have hW' := hW
  obtain ⟨p, q, hA0, hV, rfl, hfz, hnd⟩ := hW
  have hA : DataW.TrodAll enc Tryz.prog W 0 (fun _ => true) true Tryz.f6.params.toList args.toList ds p := hA0
  rw [Tryz.params6] at hA hval
  obtain ⟨v0, vs0, d0, ds0, p0, q0, hargs, rfl, rfl, h0, r0⟩ := trodAll_cons hA
  obtain ⟨v1, vs1, d1, ds1, p1, q1, rfl, rfl, rfl, h1, r1⟩ := trodAll_cons r0
  obtain ⟨v2, vs2, d2, ds2, p2, q2, rfl, rfl, rfl, h2, r2⟩ := trodAll_cons r1
  obtain ⟨rfl, rfl, rfl⟩ := trodAll_nil r2
  obtain rfl : args = #[v0, v1, v2] := by cases args; simp_all
  obtain ⟨rfl, rfl⟩ := trodVars_none hV
  obtain ⟨A0, c0, L0, rfl, hS0, hO0, _, hN0⟩ := open_sl Tryz.underlying22 (opens_manifests W 1048576) (hval 0 22 v0 rfl rfl) h0 (by have := bulk_of hk; simp only [List.append_nil, Rows.uptoBulkAll] at this; omega)
  have hl0 : L0.length ≤ 1048576 := by omega
  obtain ⟨r1x, rfl, hO1⟩ := open_st Tryz.underlying33 (opens_manifest W 1048576) (hval 1 33 v1 rfl rfl) h1 (by have := bulk_of hk; simp only [List.append_nil, Rows.uptoBulkAll] at this; omega)
  obtain ⟨s2, rfl, rfl, rfl, hmax2⟩ := open_string Tryz.underlying9 (hval 2 9 v2 rfl rfl) h2
  have hl2 : s2.data.toList.length ≤ 1048576 := by have := bulk_of hk; simp only [List.append_nil, Rows.uptoBulkAll, Rows.uptoBulk] at this; omega
  clear hA0
  have hw := walk A0 c0 L0 r1x s2.data.toList W hS0 hO0 hl0 hO1 hl2 hG
  refine hw.mono fun e W' ⟨he, hb⟩ => ?_
  subst he
  exact ⟨_, rfl, law_post hW' rfl (by kernel_rfl) (by kernel_rfl) rfl rfl rfl hb⟩

set_option maxRecDepth 100000 in
theorem reads (os : Os) {H : Type} (enc : TypeId × Value → H) : ∃ places, DataW.whole enc Tryz.prog ((laidWorld os).forCall (fun _ _ => 0) ⟨#[], #[.slice none 0 0, .agg #[.string ByteArray.empty, .int .i64 0, .int .i64 0, .int .i64 0, .slice none 0 0], .string ByteArray.empty], []⟩).memory Tryz.f6.params.toList Rows.selectionReasonsSpec.vars false (#[.slice none 0 0, .agg #[.string ByteArray.empty, .int .i64 0, .int .i64 0, .int .i64 0, .slice none 0 0], .string ByteArray.empty] : Array Value).toList 8 = some ([.nil, .agg [.agg [.lit (.string []), .agg [.lit (.int .i64 0), .lit (.int .i64 0), .lit (.int .i64 0)]], .nil], .lit (.string [])], [], places) :=
  ⟨[], by kernel_rfl⟩

set_option maxRecDepth 100000 in
theorem lifted (os : Os) (started : os.Started) (H : Type) (enc : TypeId × Value → H) (F : Stop.Interp) :
    ReturnsInHanded {} Tryz.checked os 6 .any ((Rows.OpenSpec.upto Rows.selectionReasonsSpec).preRow enc Tryz.prog Tryz.f6 Rows.selectionReasonsUptoRow.domain false Rows.selectionReasonsUptoRow.laid) (((Rows.OpenSpec.upto Rows.selectionReasonsSpec).at F).post enc Tryz.prog Tryz.f6 false true false false) := by
  obtain ⟨places, hx⟩ := reads os enc
  refine returnsInHanded_of_row (C := Tryz.checked) (s := Rows.OpenSpec.upto Rows.selectionReasonsSpec) own started (by kernel_rfl) Tryz.func6
    (witness_row_at (enc := enc) (C := Tryz.checked) false (laidWorld os) #[.slice none 0 0, .agg #[.string ByteArray.empty, .int .i64 0, .int .i64 0, .int .i64 0, .slice none 0 0], .string ByteArray.empty] (World.laidAll_os _ _ _) (by kernel_rfl) (by kernel_rfl) (by kernel_rfl)
      (OpenSpec.preRow_of_cond 8 hx (by kernel_rfl) (fun k hk => by cases hk; kernel_rfl) (by kernel_rfl) (laid_met os _))) ?_
  intro W base args ds gs before hval hW _ hcond _ hL hsh _
  exact contract H enc W base args ds gs before hval hW (hcond _ rfl) (glob_of hL hsh)

set_option maxRecDepth 100000 in
theorem said : Rows.SelectionReasonsUptoSaid :=
  OpenClaim.holds_of_cond 6 Tryz.f6 rfl rfl rfl rfl rfl rfl rfl ⟨rfl, rfl, rfl, rfl, rfl⟩ rfl rfl rfl rfl rfl (by kernel_rfl) Tryz.func6 (by kernel_rfl)
    (of_decide_eq_true (by kernel_rfl)) (by unfold Func.isWrapper; first | (rw [if_pos (by decide +kernel)]; kernel_rfl) | (rw [if_neg (by decide +kernel)]; exact ⟨rfl, rfl⟩))
    (fun os started H enc _ F => by rw [OpenClaim.pre_eq_preRow]; exact lifted os started H enc F)

set_option maxRecDepth 100000 in
theorem plain (f : FuncId) (fn : Func) (hf : Tryz.pinned.checked.prog.funcNamed "configlang/configlanglaw46.SelectionReasons" = some f) (hfn : Tryz.pinned.checked.prog.funcs[f]? = some fn) :
    false = Tryz.pinned.checked.prog.looks [] ∧ ∀ (j : Nat) t, fn.params[j]? = some t → Tryz.pinned.checked.prog.wantsStandIn t = false := by
  obtain rfl : f = 6 := Option.some.inj ((show Tryz.prog.funcNamed "configlang/configlanglaw46.SelectionReasons" = some 6 by kernel_rfl).symm.trans hf) |>.symm
  obtain rfl : fn = Tryz.f6 := (Option.some.inj (Tryz.func6.symm.trans hfn)).symm
  refine ⟨by kernel_rfl, fun j t ht => ?_⟩
  rw [Tryz.params6] at ht
  have hm : t = 22 ∨ t = 33 ∨ t = 9 := by simpa using Array.mem_of_getElem? ht
  rcases hm with rfl | rfl | rfl
  · exact (show Tryz.prog.wantsStandIn 22 = false by kernel_rfl)
  · exact (show Tryz.prog.wantsStandIn 33 = false by kernel_rfl)
  · exact (show Tryz.prog.wantsStandIn 9 = false by kernel_rfl)

set_option maxRecDepth 100000 in
theorem card : Rows.SelectionReasonsUptoCardSaid :=
  Claim7.holds_tied_plain_at .later [] _ _ _ _ said (fun _ h => by cases h) (by kernel_rfl) (fun _ h => by cases h) selectionReasonsUpto_row_tie rfl ⟨rfl, rfl⟩ (by kernel_rfl) rfl plain (by kernel_rfl)
end Go.Proofs.YtfiilbdkhelhgaaGreatDoor.lawReas
