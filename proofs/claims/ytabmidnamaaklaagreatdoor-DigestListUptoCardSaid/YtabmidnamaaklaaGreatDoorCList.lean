/- The law DigestList holds of every list of releases of bulk at most 1048576: the tied card of the second form. No condition beside the row's own. -/
import Derived.Test.YtabmidnamaaklaaGreatDoorKeep
import Derived.Test.YtabmidnamaaklaaGreatDoorOpen2
import Derived.Test.YtabmidnamaaklaaGreatDoorWSm
import Derived.Test.YtabmidnamaaklaaGreatDoorMRef
namespace Go.Proofs.YtabmidnamaaklaaGreatDoor.lawList
open Go.ChangeShapes Go.WideShapes Go.ChangeAt Go.RowKit
open Go.ChangeMaps (open_string shut_string)

set_option maxRecDepth 100000 in
set_option maxHeartbeats 4000000 in
theorem walk (A : Option Addr) (c : Nat) (L : List RelA) (w : World) (hA : Sl w w.heap.size 6 encR A L) (hO : ∀ r ∈ L, RelOk w r ∧ r.l.length ≤ 1048576 ∧ r.s.length ≤ 1048576 ∧ (∀ x ∈ r.m :: r.l, x.1.length ≤ 1048576) ∧ ∀ x ∈ r.s, x.1.length ≤ 1048576 ∧ x.2.length ≤ 1048576) (hl : L.length ≤ 1099511627776) (hG : Glob w) :
    Calls Tryz.prog 7 #[.slice A L.length c] w fun e w' => e = .returned (.bool true) ∧ Below w.heap.size w w' := by
  have HOK := Lib.hid (show ∀ r ∈ L, RelOk w r from fun r hr => (hO r hr).1)
  have HOB := Lib.hid (show ∀ r ∈ L, RelB w r from fun r hr => ⟨(hO r hr).1, (hO r hr).2.2.1, fun x hx => ((hO r hr).2.2.2.2 x hx).1⟩)
  have HG := Lib.hid hG
  clear hG hO
  have ca := Lib.hid (fun W (hb : Below w.heap.size w W) => alive_any W (HG.out.keep hb))
  go_enter Tryz.func7, Tryz.ntmps7
  go_wp2_with fail
  go_loopw [11] (fun i wr => ∃ k, k ≤ L.length ∧ i = .int .i64 (k : Nat) ∧ Below w.heap.size w wr) (fun i _ => L.length - (intOf i).toNat)
  case atStart => exact ⟨0, Nat.zero_le _, rfl, Below.refl _ _⟩
  case round =>
    obtain ⟨k, hk, rfl, hb⟩ := hrel
    have hbz := hb.size
    by_cases hlt : k < L.length
    · have hlt' : (k : Int) < (L.length : Int) := by omega
      obtain ⟨b, off, rfl, hbB, g0, g1, g2, g3, g4, g5⟩ := (hA.below hb).rel hlt
      have hrk := (HOK.out L[k] (List.getElem_mem hlt)).below hb
      generalize L[k] = r at g0 g1 g2 g3 g4 g5 hrk
      have cS := small_any r (wr.alloc (.cells #[.string ⟨r.m.1.toArray⟩, .int .i64 r.m.2.1, .int .i64 r.m.2.2.1, .int .i64 r.m.2.2.2, .slice r.A r.l.length r.c, .slice r.A' r.s.length r.c'] 40)) (hrk.below ((Below.refl _ _).alloc (Nat.le_refl _) _))
      cases hsm : smallR r.rel
      · rw [hsm] at cS
        have cS' := Lib.hid cS
        clear cS hsm hrk
        go_wp2_with fail
        refine cS'.out.mono ?_
        rintro e w1 ⟨rfl, hb1⟩
        have hB1 := Lib.hid ((hb.alloc hbz _).trans (hb1.mono (by simp; omega)))
        go_wp2_with fail
        refine (ca.out _ hB1.out).mono ?_
        rintro e w2 ⟨rfl, hb2⟩
        go_wp2_with fail
        go_ret
        exact ⟨rfl, hB1.out.trans (hb2.mono hB1.out.size)⟩
      · rw [hsm] at cS
        have cS' := Lib.hid cS
        clear cS hsm hrk
        go_wp2_with fail
        refine cS'.out.mono ?_
        rintro e w1 ⟨rfl, hb1⟩
        have hB1 := Lib.hid ((hb.alloc hbz _).trans (hb1.mono (by simp; omega)))
        go_wp2_with fail
        go_roundw
        case rel => exact ⟨k + 1, by omega, by go_num, hB1.out⟩
        case measure => simp [intOf]; omega
    · have hlt' : ¬ (k : Int) < (L.length : Int) := by omega
      by_cases h6 : 6 < L.length
      · have d6 : decide ((6 : Int) < (L.length : Int)) = true := decide_eq_true (by omega)
        have HB := Lib.hid hb
        go_wp2_with fail
        refine (ca.out _ HB.out).mono ?_
        rintro e w1 ⟨rfl, hb1⟩
        go_wp2_with fail
        go_ret
        exact ⟨rfl, hb.trans (hb1.mono hbz)⟩
      · have d6 : decide ((6 : Int) < (L.length : Int)) = false := decide_eq_false (by omega)
        have hl6 : L.length ≤ 6 := by omega
        have hxl : (lout (L.map RelA.rel)).length ≤ 6 := by
          by_cases hE : lerr (L.map RelA.rel) = 0
          · rw [lout_len _ hE]; simpa using hl6
          · rw [lout_ne _ hE]; simp
        have cL0 := fun W (hb : Below w.heap.size w W) => List_any A c L W ((hA.below hb).more hb.size) (fun r hr => (HOK.out r hr).below hb) (by omega) (HG.out.keep hb)
        have cF0 := fun W (hb : Below w.heap.size w W) => refList_any A c L W ((hA.below hb).more hb.size) (fun r hr => (HOB.out r hr).below hb) (by omega)
        generalize lerr (L.map RelA.rel) = E at cL0 cF0
        generalize lout (L.map RelA.rel) = X at cL0 cF0 hxl
        have cL := Lib.hid cL0
        have cF := Lib.hid cF0
        have HB := Lib.hid hb
        clear cL0 cF0 hb h6
        go_wp2_with fail
        refine (cL.out _ HB.out).mono ?_
        rintro e w2 ⟨A2, c2, rfl, hS2, hb2, _⟩
        have hB2 := Lib.hid (HB.out.trans (hb2.mono HB.out.size))
        clear hb2
        go_wp2_with fail
        refine (cF.out _ hB2.out).mono ?_
        rintro e w3 ⟨A3, c3, rfl, hS3, hb3⟩
        have hB3 := Lib.hid (hB2.out.trans (hb3.mono hB2.out.size))
        have cq0 := same_any A2 A3 c2 c3 X X w3 ((hS2.below hb3).more hb3.size) hS3 (by omega) (by omega)
        rw [decide_eq_true rfl] at cq0
        have cq := Lib.hid cq0
        clear hb3 cq0
        go_wp2_with fail
        refine cq.out.mono ?_
        rintro e w4 ⟨rfl, hb4⟩
        have hB4 := Lib.hid (hB3.out.trans (hb4.mono hB3.out.size))
        clear hb4
        go_wp2_with fail
        refine (ca.out _ hB4.out).mono ?_
        rintro e w5 ⟨rfl, hb5⟩
        go_wp2_with fail
        go_ret
        exact ⟨rfl, hB4.out.trans (hb5.mono hB4.out.size)⟩

set_option maxRecDepth 100000 in
theorem contract (H : Type) (enc : TypeId × Value → H) (W : World) (base : Nat) (args : Array Value) (ds gs : List (DataW H)) (before : List MemPlace)
    (hval : ∀ (j : Nat) t v, Tryz.f7.params[j]? = some t → args[j]? = some v → Value.okWide Tryz.prog W .any base t v)
    (hW : DataW.Whole enc Tryz.prog Tryz.f7.params.toList Rows.digestListSpec.vars false W args.toList ds gs before) (hk : Rows.uptoSmall H (ds ++ gs) = true) (hG : Glob W) :
    Calls Tryz.prog 7 args W fun e W' => ∃ v, e = .returned v ∧ Rows.digestListSpec.post enc Tryz.prog Tryz.f7 false true false false W args v W' := by
  have hW' := hW
  obtain ⟨p, q, hA0, hV, rfl, hfz, hnd⟩ := hW
  have hA : DataW.TrodAll enc Tryz.prog W 0 (fun _ => true) true Tryz.f7.params.toList args.toList ds p := hA0
  rw [Tryz.params7] at hA hval
  obtain ⟨v0, vs0, d0, ds0, p0, q0, hargs, rfl, rfl, h0, r0⟩ := trodAll_cons hA
  obtain ⟨rfl, rfl, rfl⟩ := trodAll_nil r0
  obtain rfl : args = #[v0] := by cases args; simp_all
  obtain ⟨rfl, rfl⟩ := trodVars_none hV
  obtain ⟨A0, c0, L0, rfl, hS0, hO0, _, hN0⟩ := open_sl Tryz.underlying44 (opens_releases W 1048576 (by decide)) (hval 0 44 v0 rfl rfl) h0 (by have := bulk_of hk; simp only [List.append_nil, Rows.uptoBulkAll] at this; omega)
  have hl0 : L0.length ≤ 1099511627776 := by omega
  clear hA0
  have hw := walk A0 c0 L0 W hS0 hO0 hl0 hG
  refine hw.mono fun e W' ⟨he, hb⟩ => ?_
  subst he
  exact ⟨_, rfl, law_post hW' rfl (by kernel_rfl) (by kernel_rfl) rfl rfl rfl hb⟩

set_option maxRecDepth 100000 in
theorem reads (os : Os) {H : Type} (enc : TypeId × Value → H) : ∃ places, DataW.whole enc Tryz.prog ((laidWorld os).forCall (fun _ _ => 0) ⟨#[], #[.slice none 0 0], []⟩).memory Tryz.f7.params.toList Rows.digestListSpec.vars false (#[.slice none 0 0] : Array Value).toList 8 = some ([.nil], [], places) :=
  ⟨[], by kernel_rfl⟩

set_option maxRecDepth 100000 in
theorem lifted (os : Os) (started : os.Started) (H : Type) (enc : TypeId × Value → H) (F : Stop.Interp) :
    ReturnsInHanded {} Tryz.checked os 7 .any ((Rows.OpenSpec.upto Rows.digestListSpec).preRow enc Tryz.prog Tryz.f7 Rows.digestListUptoRow.domain false Rows.digestListUptoRow.laid) (((Rows.OpenSpec.upto Rows.digestListSpec).at F).post enc Tryz.prog Tryz.f7 false true false false) := by
  obtain ⟨places, hx⟩ := reads os enc
  refine returnsInHanded_of_row (C := Tryz.checked) (s := Rows.OpenSpec.upto Rows.digestListSpec) own started (by kernel_rfl) Tryz.func7
    (witness_row_at (enc := enc) (C := Tryz.checked) false (laidWorld os) #[.slice none 0 0] (World.laidAll_os _ _ _) (by kernel_rfl) (by kernel_rfl) (by kernel_rfl)
      (OpenSpec.preRow_of_cond 8 hx (by kernel_rfl) (fun k hk => by cases hk; kernel_rfl) (by kernel_rfl) (laid_met os _))) ?_
  intro W base args ds gs before hval hW _ hcond _ hL hsh _
  exact contract H enc W base args ds gs before hval hW (hcond _ rfl) (glob_of hL hsh)

set_option maxRecDepth 100000 in
theorem said : Rows.DigestListUptoSaid :=
  OpenClaim.holds_of_cond 7 Tryz.f7 rfl rfl rfl rfl rfl rfl rfl ⟨rfl, rfl, rfl, rfl, rfl⟩ rfl rfl rfl rfl rfl (by kernel_rfl) Tryz.func7 (by kernel_rfl)
    (of_decide_eq_true (by kernel_rfl)) (by unfold Func.isWrapper; first | (rw [if_pos (by decide +kernel)]; kernel_rfl) | (rw [if_neg (by decide +kernel)]; exact ⟨rfl, rfl⟩))
    (fun os started H enc _ F => by rw [OpenClaim.pre_eq_preRow]; exact lifted os started H enc F)

set_option maxRecDepth 100000 in
theorem plain (f : FuncId) (fn : Func) (hf : Tryz.pinned.checked.prog.funcNamed "configlang/configlanglaw47.DigestList" = some f) (hfn : Tryz.pinned.checked.prog.funcs[f]? = some fn) :
    false = Tryz.pinned.checked.prog.looks [] ∧ ∀ (j : Nat) t, fn.params[j]? = some t → Tryz.pinned.checked.prog.wantsStandIn t = false := by
  obtain rfl : f = 7 := Option.some.inj ((show Tryz.prog.funcNamed "configlang/configlanglaw47.DigestList" = some 7 by kernel_rfl).symm.trans hf) |>.symm
  obtain rfl : fn = Tryz.f7 := (Option.some.inj (Tryz.func7.symm.trans hfn)).symm
  refine ⟨by kernel_rfl, fun j t ht => ?_⟩
  rw [Tryz.params7] at ht
  obtain rfl : t = 44 := by simpa using Array.mem_of_getElem? ht
  exact (show Tryz.prog.wantsStandIn 44 = false by kernel_rfl)

set_option maxRecDepth 100000 in
theorem card : Rows.DigestListUptoCardSaid :=
  Claim7.holds_tied_plain_at .later [] _ _ _ _ said (fun _ h => by cases h) (by kernel_rfl) (fun _ h => by cases h) digestListUpto_row_tie rfl ⟨rfl, rfl⟩ (by kernel_rfl) rfl plain (by kernel_rfl)
end Go.Proofs.YtabmidnamaaklaaGreatDoor.lawList
