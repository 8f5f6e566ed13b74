/- The law DigestPrefix holds of every two texts and two bytes: the tied card. No condition beside the row's own. -/
import Derived.Test.YtabmidnamaaklaaGreatDoorKeep
import Derived.Test.YtabmidnamaaklaaGreatDoorOpen
import Derived.Test.YtabmidnamaaklaaGreatDoorPL
namespace Go.Proofs.YtabmidnamaaklaaGreatDoor.lawPrefix
open Go.ChangeShapes Go.WideShapes Go.ChangeAt Go.RowKit
open Go.ChangeMaps (open_string shut_string)

theorem conv_one (c : UInt8) (W : World) (b : Nat) (h : W.cell? ⟨b, 0, none⟩ = some (.int .u8 c.toNat)) : (convert 52 9 (.slice (some ⟨b, 0, none⟩) 1 1)).run Tryz.prog W = .ok (.string ⟨#[c]⟩) W := by
  have hlt := lt_of_cell h
  have := (show Acc W W.heap.size 5 1 (.slice (some ⟨b, 0, none⟩) 1 1) 1 (u8s [c]) from .inr ⟨rfl, b, 0, rfl, hlt, fun j u hu => by
    match j, hu with
    | 0, hu => simp [u8s] at hu; subst hu; exact h⟩).str 52 9 Tryz.underlying52 Tryz.underlying5 Tryz.underlying9
  exact this
theorem cat3 (s t : List UInt8) (c : UInt8) : (({ data := s.toArray } : ByteArray) ++ { data := #[c] } ++ { data := t.toArray }) = ⟨(s ++ [c] ++ t).toArray⟩ := by
  rw [show ({ data := #[c] } : ByteArray) = ⟨([c] : List UInt8).toArray⟩ from rfl]
  simp only [ByteArray.mk_append_mk]
set_option maxRecDepth 100000 in
set_option maxHeartbeats 4000000 in
theorem walk (s t : List UInt8) (a b : UInt8) (w : World) (hs : s.length ≤ maxLen) (ht : t.length ≤ maxLen) (_ : True) (hG : Glob w) :
    Calls Tryz.prog 9 #[.string ⟨s.toArray⟩, .string ⟨t.toArray⟩, .agg #[.int .u8 a.toNat, .int .u8 b.toNat]] w fun e w' => e = .returned (.bool true) ∧ Below w.heap.size w w' := by
  unfold maxLen at hs ht
  have HGw := Lib.hid hG
  have HG := Lib.hid (hG.alloc (.cells #[.int .u8 a.toNat, .int .u8 b.toNat] 51))
  clear hG
  have hB0 := Lib.hid ((Below.refl w.heap.size w).alloc (Nat.le_refl _) (.cells #[.int .u8 a.toNat, .int .u8 b.toNat] 51))
  have ca := Lib.hid (fun W hW => alive_any W hW)
  by_cases h1 : 500 < s.length
  · have d1 : decide ((500 : Int) < (s.length : Int)) = true := decide_eq_true (by omega)
    go_enter Tryz.func9, Tryz.ntmps9
    go_wp2_with fail
    refine (ca.out _ HG.out).mono ?_
    rintro e w1 ⟨rfl, hb⟩
    go_wp2_with fail
    go_ret
    exact ⟨rfl, hB0.out.trans (hb.mono (by simp))⟩
  by_cases h2 : 500 < t.length
  · have d1 : decide ((500 : Int) < (s.length : Int)) = false := decide_eq_false (by omega)
    have d2 : decide ((500 : Int) < (t.length : Int)) = true := decide_eq_true (by omega)
    go_enter Tryz.func9, Tryz.ntmps9
    go_wp2_with fail
    refine (ca.out _ HG.out).mono ?_
    rintro e w1 ⟨rfl, hb⟩
    go_wp2_with fail
    go_ret
    exact ⟨rfl, hB0.out.trans (hb.mono (by simp))⟩
  have d1 : decide ((500 : Int) < (s.length : Int)) = false := decide_eq_false (by omega)
  have d2 : decide ((500 : Int) < (t.length : Int)) = false := decide_eq_false (by omega)
  have cS := Lib.hid (fun W => Sum_any s W (by unfold maxLen; omega))
  have hf0 := fnv_lt fstart s (by decide)
  have H0 := Lib.hid (show fnv fstart (s ++ t) = fnv (fnv fstart s) t from fnv_append _ _ _)
  have H1 := Lib.hid (fnv_one s t a b)
  have cA0 := fun W => Sum_any (s ++ [a] ++ t) W (by simp; unfold maxLen; omega)
  have cB0 := fun W => Sum_any (s ++ [b] ++ t) W (by simp; unfold maxLen; omega)
  rw [← cat3] at cA0 cB0
  have cA := Lib.hid cA0
  have cB := Lib.hid cB0
  have cC0 := fun W => Sum_any (s ++ t) W (by simp; unfold maxLen; omega)
  rw [← ByteArray.mk_append_mk, H0.out] at cC0
  have cC := Lib.hid cC0
  clear cA0 cB0 cC0
  generalize fnv fstart (s ++ [a] ++ t) = x at cA H1
  generalize fnv fstart (s ++ [b] ++ t) = y at cB H1
  generalize fnv fstart s = m0 at cS hf0 cC H0
  clear H0
  have n1 : ¬ 9223372036854775807 < s.length + 1 := by omega
  have n2 : ¬ 9223372036854775807 < s.length + 1 + t.length := by omega
  have n3 : ¬ 9223372036854775807 < s.length + t.length := by omega
  go_enter Tryz.func9, Tryz.ntmps9
  go_wp2_with fail
  refine (cS.out _).mono ?_
  rintro e w1 ⟨rfl, hb1⟩
  have k0 := cell_keep (p := ⟨w.heap.size, 0, none⟩) (v := .int .u8 a.toNat) hb1 (by simp)
  have k1 := cell_keep (p := ⟨w.heap.size, 1, none⟩) (v := .int .u8 b.toNat) hb1 (by simp)
  have hB1 := Lib.hid (hB0.out.trans (hb1.mono (by simp)))
  have hz1 := hb1.size
  simp at hz1
  clear hb1
  go_wp2_with fail
  go_loop [7, 8] (fun u i => ∃ k m : Nat, k ≤ t.length ∧ m < 18446744073709551616 ∧ Hid (m = fnv m0 (t.take k)) ∧ i = .int .i64 k ∧ u = .int .u64 m) (fun _ i => t.length - (intOf i).toNat)
  case atStart => exact ⟨0, m0, Nat.zero_le _, hf0, rfl, rfl, rfl⟩
  case round =>
    obtain ⟨k, m, hk, hm, HF, rfl, rfl⟩ := hrel
    by_cases hlt : k < t.length
    · have HT := Lib.hid (take_snoc t k hlt)
      have HV := Lib.hid (fstep_val m t[k] hm)
      go_wp2
      go_round
      case rel => exact ⟨k + 1, fstep m t[k], by omega, fstep_lt _ _, by show _ = _; rw [HT.out, fnv_snoc, ← HF.out], by go_num, by rw [← HV.out]; rfl⟩
      case measure => simp [intOf]; omega
    · have HM := Lib.hid (show m = fnv m0 t by rw [HF.out, List.take_of_length_le (by omega)])
      have cD0 := cC.out
      rw [← HM.out] at cD0
      have cD := Lib.hid cD0
      clear HM HF cC cD0
      have va := Lib.hid (fun W b' h => conv_one a W b' h)
      have vb := Lib.hid (fun W b' h => conv_one b W b' h)
      go_upto_region 8 with fail
      go_cut [9, 10] (fun x' y' wx => x' = .int .u64 (x : Nat) ∧ y' = .int .u64 (y : Nat) ∧ wx.cell? ⟨w.heap.size, 0, none⟩ = some (.int .u8 a.toNat) ∧ wx.cell? ⟨w.heap.size, 1, none⟩ = some (.int .u8 b.toNat) ∧ Below w.heap.size w wx)
      case first =>
        have l2 : w1.heap.size < w1.heap.size + 1 + 1 := by omega
        have va' := va.out
        have vb' := vb.out
        go_region_held (fun W => W.cell? ⟨w.heap.size, 0, none⟩ = some (.int .u8 a.toNat) ∧ W.cell? ⟨w.heap.size, 1, none⟩ = some (.int .u8 b.toNat)) (first | (simp; done) | (go_split_ands; (repeat' apply And.intro) <;> (first | assumption | (apply cell_keep; assumption; assumption) | (apply cell_keep_alloc; assumption))))
          (first | (go_at_call 12; refine (cA.out _).mono ?_; rintro e w4 ⟨rfl, hb4⟩; have z4 : w.heap.size < w4.heap.size := (by have := hb4.size; (try simp at this); omega); have hq4 := bcell hb4) | (go_at_call 12; refine (cB.out _).mono ?_; rintro e w5 ⟨rfl, hb5⟩; have z5 : w.heap.size < w5.heap.size := (by have := hb5.size; (try simp at this); omega); have hq5 := bcell hb5))
        all_goals rename_i hh
        all_goals obtain ⟨hh0, hh1⟩ := hh
        all_goals go_wp2_with fail
        all_goals go_meet
        all_goals refine ⟨rfl, rfl, ?_, ?_, ?_⟩
        all_goals first
          | exact hh0
          | exact hh1
          | (repeat' (first | exact hB1.out | apply Below.drew | apply Below.alloc | (refine Below.trans ?_ (Below.mono (by assumption) ?_)) | (simp; omega) | omega))
      case rest =>
        obtain ⟨rfl, rfl, e0, e1, hbx⟩ := hcut
        have HBX := Lib.hid hbx
        have hzx := hbx.size
        clear hbx
        by_cases hab : a = b
        · subst hab
          have hxy := H1.out.2 rfl
          subst hxy
          have b1 : ((x : Int) == (x : Int)) = true := by simp
          have b2 : ((a.toNat : Int) == (a.toNat : Int)) = true := by simp
          have b3 : ((m : Int) == (m : Int)) = true := by simp
          go_wp2_with fail
          refine (cD.out _).mono ?_
          rintro e w6 ⟨rfl, hb6⟩
          have f0 := cell_keep hb6 e0
          have f1 := cell_keep hb6 e1
          have HB6 := Lib.hid (HBX.out.trans (hb6.mono hzx))
          have HG6 := Lib.hid (HGw.out.keep HB6.out)
          clear hb6
          go_wp2_with fail
          refine (ca.out _ HG6.out).mono ?_
          rintro e w7 ⟨rfl, hb7⟩
          go_wp2_with fail
          go_ret
          exact ⟨rfl, HB6.out.trans (hb7.mono HB6.out.size)⟩
        · have hxy : ¬ x = y := fun h => hab (H1.out.1 h)
          have b1 : ((x : Int) == (y : Int)) = false := by simp; omega
          have b1' : (x == y) = false := by simp [hxy]
          have hab' : a.toNat ≠ b.toNat := fun h => hab (UInt8.toNat_inj.1 h)
          have b2 : ((a.toNat : Int) == (b.toNat : Int)) = false := by simp; omega
          have b2' : (a.toNat == b.toNat) = false := by simp [hab']
          have b2'' : (a == b) = false := by simp [hab]
          have b3 : ((m : Int) == (m : Int)) = true := by simp
          clear hab hxy hab' H1
          go_wp2_with fail
          refine (cD.out _).mono ?_
          rintro e w6 ⟨rfl, hb6⟩
          have f0 := cell_keep hb6 e0
          have f1 := cell_keep hb6 e1
          have HB6 := Lib.hid (HBX.out.trans (hb6.mono hzx))
          have HG6 := Lib.hid (HGw.out.keep HB6.out)
          clear hb6
          go_wp2_with fail
          refine (ca.out _ HG6.out).mono ?_
          rintro e w7 ⟨rfl, hb7⟩
          go_wp2_with fail
          go_ret
          exact ⟨rfl, HB6.out.trans (hb7.mono HB6.out.size)⟩

set_option maxRecDepth 100000 in
theorem contract (H : Type) (enc : TypeId × Value → H) (W : World) (base : Nat) (args : Array Value) (ds gs : List (DataW H)) (before : List MemPlace)
    (hval : ∀ (j : Nat) t v, Tryz.f9.params[j]? = some t → args[j]? = some v → Value.okWide Tryz.prog W .any base t v)
    (hW : DataW.Whole enc Tryz.prog Tryz.f9.params.toList Rows.digestPrefixSpec.vars false W args.toList ds gs before) (hG : Glob W) :
    Calls Tryz.prog 9 args W fun e W' => ∃ v, e = .returned v ∧ Rows.digestPrefixSpec.post enc Tryz.prog Tryz.f9 false true false false W args v W' := by
  have hW' := hW
  obtain ⟨p, q, hA0, hV, rfl, hfz, hnd⟩ := hW
  have hA : DataW.TrodAll enc Tryz.prog W 0 (fun _ => true) true Tryz.f9.params.toList args.toList ds p := hA0
  rw [Tryz.params9] at hA hval
  obtain ⟨v0, vs0, d0, ds0, p0, q0, hargs, rfl, rfl, h0, r0⟩ := trodAll_cons hA
  obtain ⟨v1, vs1, d1, ds1, p1, q1, rfl, rfl, rfl, h1, r1⟩ := trodAll_cons r0
  obtain ⟨v2, vs2, d2, ds2, p2, q2, rfl, rfl, rfl, h2, r2⟩ := trodAll_cons r1
  obtain ⟨rfl, rfl, rfl⟩ := trodAll_nil r2
  obtain rfl : args = #[v0, v1, v2] := by cases args; simp_all
  obtain ⟨rfl, rfl⟩ := trodVars_none hV
  obtain ⟨s0, rfl, rfl, rfl, hmax0⟩ := open_string Tryz.underlying9 (hval 0 9 v0 rfl rfl) h0
  have hl0 : s0.data.toList.length ≤ maxLen := by rw [Array.length_toList]; exact hmax0
  obtain ⟨s1, rfl, rfl, rfl, hmax1⟩ := open_string Tryz.underlying9 (hval 1 9 v1 rfl rfl) h1
  have hl1 : s1.data.toList.length ≤ maxLen := by rw [Array.length_toList]; exact hmax1
  obtain ⟨x2, y2, rfl⟩ := open_arr2 Tryz.underlying51 Tryz.underlying5 (by kernel_rfl) (by kernel_rfl) (hval 2 51 v2 rfl rfl) h2
  have hl2 : True := trivial
  clear hA0
  have hw := walk s0.data.toList s1.data.toList x2 y2 W hl0 hl1 hl2 hG
  refine hw.mono fun e W' ⟨he, hb⟩ => ?_
  subst he
  exact ⟨_, rfl, law_post hW' rfl (by kernel_rfl) (by kernel_rfl) rfl rfl rfl hb⟩

set_option maxRecDepth 100000 in
theorem reads (os : Os) {H : Type} (enc : TypeId × Value → H) : ∃ places, DataW.whole enc Tryz.prog ((laidWorld os).forCall (fun _ _ => 0) ⟨#[], #[.string ByteArray.empty, .string ByteArray.empty, .agg #[.int .u8 0, .int .u8 0]], []⟩).memory Tryz.f9.params.toList Rows.digestPrefixSpec.vars false (#[.string ByteArray.empty, .string ByteArray.empty, .agg #[.int .u8 0, .int .u8 0]] : Array Value).toList 8 = some ([.lit (.string []), .lit (.string []), .agg [.lit (.int .u8 0), .lit (.int .u8 0)]], [], places) :=
  ⟨[], by kernel_rfl⟩

set_option maxRecDepth 100000 in
theorem lifted (os : Os) (started : os.Started) (H : Type) (enc : TypeId × Value → H) (F : Stop.Interp) :
    ReturnsInHanded {} Tryz.checked os 9 .any ((OpenSpec.ofChange Rows.digestPrefixSpec).preRow enc Tryz.prog Tryz.f9 Rows.digestPrefixRow.domain false Rows.digestPrefixRow.laid) (((OpenSpec.ofChange Rows.digestPrefixSpec).at F).post enc Tryz.prog Tryz.f9 false true false false) := by
  obtain ⟨places, hx⟩ := reads os enc
  refine returnsInHanded_of_row (C := Tryz.checked) (s := OpenSpec.ofChange Rows.digestPrefixSpec) own started (by kernel_rfl) Tryz.func9
    (witness_row_at (enc := enc) (C := Tryz.checked) false (laidWorld os) #[.string ByteArray.empty, .string ByteArray.empty, .agg #[.int .u8 0, .int .u8 0]] (World.laidAll_os _ _ _) (by kernel_rfl) (by kernel_rfl) (by kernel_rfl)
      (OpenSpec.preRow_of_cond 8 hx (by kernel_rfl) (fun k hk => by cases hk) (by kernel_rfl) (laid_met os _))) ?_
  intro W base args ds gs before hval hW _ _ _ hL hsh _
  exact contract H enc W base args ds gs before hval hW (glob_of hL hsh)

set_option maxRecDepth 100000 in
theorem said : Rows.DigestPrefixSaid :=
  OpenClaim.holds_of_cond 9 Tryz.f9 rfl rfl rfl rfl rfl rfl rfl ⟨rfl, rfl, rfl, rfl, rfl⟩ rfl rfl rfl rfl rfl (by kernel_rfl) Tryz.func9 (by kernel_rfl)
    (of_decide_eq_true (by kernel_rfl)) (by unfold Func.isWrapper; first | (rw [if_pos (by decide +kernel)]; kernel_rfl) | (rw [if_neg (by decide +kernel)]; exact ⟨rfl, rfl⟩))
    (fun os started H enc _ F => by rw [OpenClaim.pre_eq_preRow]; exact lifted os started H enc F)

set_option maxRecDepth 100000 in
theorem plain (f : FuncId) (fn : Func) (hf : Tryz.pinned.checked.prog.funcNamed "configlang/configlanglaw47.DigestPrefix" = some f) (hfn : Tryz.pinned.checked.prog.funcs[f]? = some fn) :
    false = Tryz.pinned.checked.prog.looks [] ∧ ∀ (j : Nat) t, fn.params[j]? = some t → Tryz.pinned.checked.prog.wantsStandIn t = false := by
  obtain rfl : f = 9 := Option.some.inj ((show Tryz.prog.funcNamed "configlang/configlanglaw47.DigestPrefix" = some 9 by kernel_rfl).symm.trans hf) |>.symm
  obtain rfl : fn = Tryz.f9 := (Option.some.inj (Tryz.func9.symm.trans hfn)).symm
  refine ⟨by kernel_rfl, fun j t ht => ?_⟩
  rw [Tryz.params9] at ht
  have hm : t = 9 ∨ t = 9 ∨ t = 51 := by simpa using Array.mem_of_getElem? ht
  rcases hm with rfl | rfl | rfl
  · exact (show Tryz.prog.wantsStandIn 9 = false by kernel_rfl)
  · exact (show Tryz.prog.wantsStandIn 9 = false by kernel_rfl)
  · exact (show Tryz.prog.wantsStandIn 51 = false by kernel_rfl)

set_option maxRecDepth 100000 in
theorem card : Rows.DigestPrefixCardSaid :=
  Claim7.holds_tied_plain_at .later [] _ _ _ _ said (fun _ h => by cases h) (by kernel_rfl) (fun _ h => by cases h) digestPrefix_row_tie rfl ⟨rfl, rfl⟩ (by kernel_rfl) rfl plain (by kernel_rfl)
end Go.Proofs.YtabmidnamaaklaaGreatDoor.lawPrefix
