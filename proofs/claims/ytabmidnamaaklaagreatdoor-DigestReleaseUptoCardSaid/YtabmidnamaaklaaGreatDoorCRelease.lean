/- The law DigestRelease holds of every release of bulk at most 1048576: the tied card of the second form. No condition beside the row's own. -/
import Derived.Test.YtabmidnamaaklaaGreatDoorKeep
import Derived.Test.YtabmidnamaaklaaGreatDoorOpen2
import Derived.Test.YtabmidnamaaklaaGreatDoorWSm
import Derived.Test.YtabmidnamaaklaaGreatDoorWRl
namespace Go.Proofs.YtabmidnamaaklaaGreatDoor.lawRelease
open Go.ChangeShapes Go.WideShapes Go.ChangeAt Go.RowKit
open Go.ChangeMaps (open_string shut_string)

set_option maxRecDepth 100000 in
set_option maxHeartbeats 4000000 in
theorem walk (r : RelA) (w : World) (hO : RelOk w r ∧ r.l.length ≤ 1048576 ∧ r.s.length ≤ 1048576 ∧ (∀ x ∈ r.m :: r.l, x.1.length ≤ 1048576) ∧ ∀ x ∈ r.s, x.1.length ≤ 1048576 ∧ x.2.length ≤ 1048576) (hG : Glob w) :
    Calls Tryz.prog 6 #[.agg #[.string ⟨r.m.1.toArray⟩, .int .i64 r.m.2.1, .int .i64 r.m.2.2.1, .int .i64 r.m.2.2.2, .slice r.A r.l.length r.c, .slice r.A' r.s.length r.c']] w fun e w' => e = .returned (.bool true) ∧ Below w.heap.size w w' := by
  obtain ⟨hok, h1, h2, h3, h4⟩ := hO
  have hb0 : Below w.heap.size w (w.alloc (.cells #[.string ⟨r.m.1.toArray⟩, .int .i64 r.m.2.1, .int .i64 r.m.2.2.1, .int .i64 r.m.2.2.2, .slice r.A r.l.length r.c, .slice r.A' r.s.length r.c'] 40)) := (Below.refl _ _).alloc (Nat.le_refl _) _
  have hB0 := Lib.hid hb0
  have Q0 := Lib.hid (Blk.new w 40 #[.string ⟨r.m.1.toArray⟩, .int .i64 r.m.2.1, .int .i64 r.m.2.2.1, .int .i64 r.m.2.2.2, .slice r.A r.l.length r.c, .slice r.A' r.s.length r.c'])
  have cS := small_any r _ (hok.below hb0)
  have ca := Lib.hid (fun W (hb : Below w.heap.size w W) => alive_any W (hG.keep hb))
  have cR0 := fun W (hb : Below w.heap.size w W) => relA_any r W (hok.below hb) (hG.keep hb)
  have cF0 : ∀ W (_ : Below w.heap.size w W), Calls Tryz.prog 20 #[.agg #[.string ⟨r.m.1.toArray⟩, .int .i64 r.m.2.1, .int .i64 r.m.2.2.1, .int .i64 r.m.2.2.2, .slice r.A r.l.length r.c, .slice r.A' r.s.length r.c']] W fun e w' => e = .returned (.tuple #[.string ⟨(rtext r.rel).toArray⟩, .int .i64 (rerr r.rel)]) ∧ Below W.heap.size W w' :=
    fun W hb => refRelease_any r.m r.A r.c r.l r.A' r.c' r.s W (hok.below hb).hA (hok.below hb).hS (by omega) h2 (fun x hx => by have := h3 x hx; omega) (fun x hx => ⟨(h4 x hx).1, by have := (h4 x hx).2; unfold maxLen; omega⟩)
  generalize rtext r.rel = tx at cR0 cF0
  generalize rerr r.rel = er at cR0 cF0
  have cR := Lib.hid cR0
  have cF := Lib.hid cF0
  clear cR0 cF0 h1 h2 h3 h4 hok hG hb0
  cases hsm : smallR r.rel
  · rw [hsm] at cS
    have cS' := Lib.hid cS
    clear cS hsm
    go_enter Tryz.func6, Tryz.ntmps6
    go_wp2_with fail
    refine cS'.out.mono ?_
    rintro e w1 ⟨rfl, hb1⟩
    have hB1 := Lib.hid (hB0.out.trans (hb1.mono (by simp)))
    clear hb1
    go_wp2_with fail
    refine (ca.out _ hB1.out).mono ?_
    rintro e w2 ⟨rfl, hb2⟩
    go_wp2_with fail
    go_ret
    exact ⟨rfl, hB1.out.trans (hb2.mono hB1.out.size)⟩
  · rw [hsm] at cS
    have cS' := Lib.hid cS
    clear cS hsm
    go_enter Tryz.func6, Tryz.ntmps6
    go_wp2_with fail
    refine cS'.out.mono ?_
    rintro e w1 ⟨rfl, hb1⟩
    have Q1 := Lib.hid (Q0.out.keep hb1)
    have hB1 := Lib.hid (hB0.out.trans (hb1.mono (by simp)))
    have q := Q1.out.cell
    have p0 := q 0; have p1 := q 1; have p2 := q 2; have p3 := q 3; have p4 := q 4; have p5 := q 5
    simp at p0 p1 p2 p3 p4 p5
    clear hb1 q
    go_wp2_with fail
    refine (cR.out _ hB1.out).mono ?_
    rintro e w2 ⟨rfl, hb2⟩
    have Q2 := Lib.hid (Q1.out.keep hb2)
    have hB2 := Lib.hid (hB1.out.trans (hb2.mono hB1.out.size))
    have q := Q2.out.cell
    have k0 := q 0; have k1 := q 1; have k2 := q 2; have k3 := q 3; have k4 := q 4; have k5 := q 5
    simp at k0 k1 k2 k3 k4 k5
    clear hb2 q p0 p1 p2 p3 p4 p5
    go_wp2_with fail
    refine (cF.out _ hB2.out).mono ?_
    rintro e w3 ⟨rfl, hb3⟩
    have hB3 := Lib.hid (hB2.out.trans (hb3.mono hB2.out.size))
    clear hb3
    go_wp2_with fail
    refine (ca.out _ hB3.out).mono ?_
    rintro e w4 ⟨rfl, hb4⟩
    go_wp2_with fail
    go_ret
    exact ⟨rfl, hB3.out.trans (hb4.mono hB3.out.size)⟩

set_option maxRecDepth 100000 in
theorem contract (H : Type) (enc : TypeId × Value → H) (W : World) (base : Nat) (args : Array Value) (ds gs : List (DataW H)) (before : List MemPlace)
    (hval : ∀ (j : Nat) t v, Tryz.f6.params[j]? = some t → args[j]? = some v → Value.okWide Tryz.prog W .any base t v)
    (hW : DataW.Whole enc Tryz.prog Tryz.f6.params.toList Rows.digestReleaseSpec.vars false W args.toList ds gs before) (hk : Rows.uptoSmall H (ds ++ gs) = true) (hG : Glob W) :
    Calls Tryz.prog 6 args W fun e W' => ∃ v, e = .returned v ∧ Rows.digestReleaseSpec.post enc Tryz.prog Tryz.f6 false true false false W args v W' := by
  have hW' := hW
  obtain ⟨p, q, hA0, hV, rfl, hfz, hnd⟩ := hW
  have hA : DataW.TrodAll enc Tryz.prog W 0 (fun _ => true) true Tryz.f6.params.toList args.toList ds p := hA0
  rw [Tryz.params6] at hA hval
  obtain ⟨v0, vs0, d0, ds0, p0, q0, hargs, rfl, rfl, h0, r0⟩ := trodAll_cons hA
  obtain ⟨rfl, rfl, rfl⟩ := trodAll_nil r0
  obtain rfl : args = #[v0] := by cases args; simp_all
  obtain ⟨rfl, rfl⟩ := trodVars_none hV
  obtain ⟨r0x, rfl, hO0⟩ := open_st Tryz.underlying40 (opens_release W 1048576 (by decide)) (hval 0 40 v0 rfl rfl) h0 (by have := bulk_of hk; simp only [List.append_nil, Rows.uptoBulkAll] at this; omega)
  clear hA0
  have hw := walk r0x W hO0 hG
  refine hw.mono fun e W' ⟨he, hb⟩ => ?_
  subst he
  exact ⟨_, rfl, law_post hW' rfl (by kernel_rfl) (by kernel_rfl) rfl rfl rfl hb⟩

set_option maxRecDepth 100000 in
theorem reads (os : Os) {H : Type} (enc : TypeId × Value → H) : ∃ places, DataW.whole enc Tryz.prog ((laidWorld os).forCall (fun _ _ => 0) ⟨#[], #[.agg #[.string ByteArray.empty, .int .i64 0, .int .i64 0, .int .i64 0, .slice none 0 0, .slice none 0 0]], []⟩).memory Tryz.f6.params.toList Rows.digestReleaseSpec.vars false (#[.agg #[.string ByteArray.empty, .int .i64 0, .int .i64 0, .int .i64 0, .slice none 0 0, .slice none 0 0]] : Array Value).toList 8 = some ([.agg [.agg [.agg [.lit (.string []), .agg [.lit (.int .i64 0), .lit (.int .i64 0), .lit (.int .i64 0)]], .nil], .nil]], [], places) :=
  ⟨[], by kernel_rfl⟩

set_option maxRecDepth 100000 in
theorem lifted (os : Os) (started : os.Started) (H : Type) (enc : TypeId × Value → H) (F : Stop.Interp) :
    ReturnsInHanded {} Tryz.checked os 6 .any ((Rows.OpenSpec.upto Rows.digestReleaseSpec).preRow enc Tryz.prog Tryz.f6 Rows.digestReleaseUptoRow.domain false Rows.digestReleaseUptoRow.laid) (((Rows.OpenSpec.upto Rows.digestReleaseSpec).at F).post enc Tryz.prog Tryz.f6 false true false false) := by
  obtain ⟨places, hx⟩ := reads os enc
  refine returnsInHanded_of_row (C := Tryz.checked) (s := Rows.OpenSpec.upto Rows.digestReleaseSpec) own started (by kernel_rfl) Tryz.func6
    (witness_row_at (enc := enc) (C := Tryz.checked) false (laidWorld os) #[.agg #[.string ByteArray.empty, .int .i64 0, .int .i64 0, .int .i64 0, .slice none 0 0, .slice none 0 0]] (World.laidAll_os _ _ _) (by kernel_rfl) (by kernel_rfl) (by kernel_rfl)
      (OpenSpec.preRow_of_cond 8 hx (by kernel_rfl) (fun k hk => by cases hk; kernel_rfl) (by kernel_rfl) (laid_met os _))) ?_
  intro W base args ds gs before hval hW _ hcond _ hL hsh _
  exact contract H enc W base args ds gs before hval hW (hcond _ rfl) (glob_of hL hsh)

set_option maxRecDepth 100000 in
theorem said : Rows.DigestReleaseUptoSaid :=
  OpenClaim.holds_of_cond 6 Tryz.f6 rfl rfl rfl rfl rfl rfl rfl ⟨rfl, rfl, rfl, rfl, rfl⟩ rfl rfl rfl rfl rfl (by kernel_rfl) Tryz.func6 (by kernel_rfl)
    (of_decide_eq_true (by kernel_rfl)) (by unfold Func.isWrapper; first | (rw [if_pos (by decide +kernel)]; kernel_rfl) | (rw [if_neg (by decide +kernel)]; exact ⟨rfl, rfl⟩))
    (fun os started H enc _ F => by rw [OpenClaim.pre_eq_preRow]; exact lifted os started H enc F)

set_option maxRecDepth 100000 in
theorem plain (f : FuncId) (fn : Func) (hf : Tryz.pinned.checked.prog.funcNamed "configlang/configlanglaw47.DigestRelease" = some f) (hfn : Tryz.pinned.checked.prog.funcs[f]? = some fn) :
    false = Tryz.pinned.checked.prog.looks [] ∧ ∀ (j : Nat) t, fn.params[j]? = some t → Tryz.pinned.checked.prog.wantsStandIn t = false := by
  obtain rfl : f = 6 := Option.some.inj ((show Tryz.prog.funcNamed "configlang/configlanglaw47.DigestRelease" = some 6 by kernel_rfl).symm.trans hf) |>.symm
  obtain rfl : fn = Tryz.f6 := (Option.some.inj (Tryz.func6.symm.trans hfn)).symm
  refine ⟨by kernel_rfl, fun j t ht => ?_⟩
  rw [Tryz.params6] at ht
  obtain rfl : t = 40 := by simpa using Array.mem_of_getElem? ht
  exact (show Tryz.prog.wantsStandIn 40 = false by kernel_rfl)

set_option maxRecDepth 100000 in
theorem card : Rows.DigestReleaseUptoCardSaid :=
  Claim7.holds_tied_plain_at .later [] _ _ _ _ said (fun _ h => by cases h) (by kernel_rfl) (fun _ h => by cases h) digestReleaseUpto_row_tie rfl ⟨rfl, rfl⟩ (by kernel_rfl) rfl plain (by kernel_rfl)
end Go.Proofs.YtabmidnamaaklaaGreatDoor.lawRelease
