/- Walks: splitting, module paths. -/
import Derived.Test.YtfiilbdkhelhgaaGreatDoorWE
import Derived.Test.YtfiilbdkhelhgaaGreatDoorG1
import Derived.Test.YtfiilbdkhelhgaaGreatDoorGlob
namespace Go.Proofs.YtfiilbdkhelhgaaGreatDoor
open Go.RowKit

theorem elStr : ElT Tryz.prog 84 9 1 16 := ElT.mk_ (z := .string ByteArray.empty) Tryz.underlying84 (by kernel_rfl) rfl (by decide)

set_option maxRecDepth 100000 in
set_option maxHeartbeats 4000000 in
theorem refSplit_any (l : List UInt8) (b : UInt8) (w : World) (hs : l.length ≤ 1099511627776) :
    Calls Tryz.prog 75 #[.string ⟨l.toArray⟩, .int .u8 b.toNat] w (RetStrs w (splitL b l)) := by
  go_enter Tryz.func75, Tryz.ntmps75
  go_wp2
  go_loopw [5, 6, 7] (fun v fr i wr => ∃ k f P, k ≤ l.length ∧ f ≤ k ∧ P.length ≤ f ∧ i = .int .i64 (k : Nat) ∧ fr = .int .i64 (f : Nat) ∧ Acc wr w.heap.size 9 1 v P.length (strs P) ∧ Below w.heap.size w wr ∧ Hid (splitL b l = P ++ splitL b (l.drop f)) ∧ Hid (∀ j, f ≤ j → j < k → l.getD j 0 ≠ b))
    (fun _ _ i _ => l.length - (intOf i).toNat)
  case atStart => exact ⟨0, 0, [], Nat.zero_le _, Nat.le_refl _, Nat.le_refl _, rfl, rfl, Acc.nil_ _ _ _ _, Below.refl _ _, rfl, fun j h1 h2 => by omega⟩
  case round =>
    obtain ⟨k, f, P, hk, hfk, hPf, rfl, rfl, hacc, hb, HS, HN⟩ := hrel
    obtain ⟨A, c, rfl⟩ := hacc.shape
    have hbz := hb.size
    by_cases hlt : k < l.length
    · have hg : l.getD k 0 = (({ data := l.toArray } : ByteArray)[k]) := by simp [hlt]; rfl
      have HG := Lib.hid hg; clear hg
      cases he : ((({ data := l.toArray } : ByteArray)[k].toNat : Int) == (b.toNat : Int))
      · go_wp2
        go_roundw
        case rel =>
          have hne : ¬ l.getD k 0 = b := by
            rw [HG.out]; intro e; rw [e] at he; simp at he
          exact ⟨k + 1, f, P, by omega, by omega, hPf, by go_num, rfl, hacc, hb, HS, fun j h1 h2 => by
            by_cases hj : j = k
            · subst hj; exact hne
            · exact HN.out j h1 (by omega)⟩
        case measure => simp [intOf]; omega
      · go_wp2_with (at_builtin; refine wpList_app _ rfl (.tmp 19) (.tmp 24) 84 rfl w.heap.size 9 1 16 elStr _ _ _ rfl (hacc.alloc _) _ 1 _ _ rfl (Src.lit _ 1 _ _ 1 rfl) (by simp [Value.oneCell']) (by simp only [maxLen]; omega) (by omega) (by simp; omega) ?_; intro v' w1 hacc' _ hb' _ _)
        go_roundw
        case rel =>
          have heq : l.getD k 0 = b := by
            rw [HG.out]
            have : (({ data := l.toArray } : ByteArray)[k]).toNat = b.toNat := by
              have := beq_iff_eq.1 he
              omega
            exact UInt8.toNat_inj.1 this
          refine ⟨k + 1, k + 1, P ++ [(l.drop f).take (k - f)], by omega, by omega, by simp; omega, by go_num, by go_num, ?_, (hb.alloc hbz _).trans hb', split_step b l P f k hfk hlt HS.out HN.out heq, fun j h1 h2 => by omega⟩
          rw [strs_snoc, ← ByteArray.extract_mk]
          simpa using hacc'
        case measure => simp [intOf]; omega
    · obtain rfl : k = l.length := by omega
      have hf2 : f ≤ l.length := hfk
      go_wp2_with (at_builtin; refine wpList_app _ rfl (.tmp 28) (.tmp 32) 84 rfl w.heap.size 9 1 16 elStr _ _ _ rfl (hacc.alloc _) _ 1 _ _ rfl (Src.lit _ 1 _ _ 1 rfl) (by simp [Value.oneCell']) (by simp only [maxLen]; omega) (by omega) (by simp; omega) ?_; intro v' w1 hacc' _ hb' _ _)
      go_ret
      have hsp := split_end b l P f HS.out HN.out
      have e1 : strs P ++ [Value.string (({ data := l.toArray } : ByteArray).extract f l.length)] = strs (splitL b l) := by
        rw [hsp, strs_snoc, ByteArray.extract_mk, List.take_of_length_le (by simp)]
      rw [e1] at hacc'
      obtain ⟨A', c', rfl⟩ := hacc'.shape
      obtain ⟨h1, h2⟩ := hacc'.strs_
      rw [h1]
      exact ⟨A', c', rfl, h2, (hb.alloc hbz _).trans hb'⟩

/-- a list of which each is a part -/
def partsK (L : List (List UInt8)) (k : Nat) : Bool := (L.take k).all partOk
theorem partsK_succ (L : List (List UInt8)) (k : Nat) (h : k < L.length) : partsK L (k + 1) = (partsK L k && partOk L[k]) := by
  unfold partsK
  rw [List.take_succ_eq_append_getElem h, List.all_append]
  simp
theorem partsK_false (L : List (List UInt8)) (k : Nat) (h : k < L.length) (hp : partOk L[k] = false) : L.all partOk = false := by
  rw [List.all_eq_false]
  exact ⟨L[k], List.getElem_mem h, by rw [hp]; simp⟩
theorem splitL_len (b : UInt8) : ∀ l : List UInt8, (splitL b l).length ≤ l.length + 1 ∧ ∀ x ∈ splitL b l, x.length ≤ l.length
  | [] => by simp [splitL]
  | c :: l => by
    have ih := splitL_len b l
    unfold splitL
    split
    · refine ⟨by simp; omega, fun x hx => ?_⟩
      rcases List.mem_cons.1 hx with rfl | hx
      · simp
      · have := ih.2 x hx; simp; omega
    · split
      · rename_i h t heq
        rw [heq] at ih
        refine ⟨by simp at *; omega, fun x hx => ?_⟩
        rcases List.mem_cons.1 hx with rfl | hx
        · have := ih.2 h (by simp); simp; omega
        · have := ih.2 x (by simp [hx]); simp; omega
      · refine ⟨by simp, fun x hx => ?_⟩
        simp at hx; subst hx; simp

set_option maxRecDepth 100000 in
set_option maxHeartbeats 4000000 in
theorem refPath_any (l : List UInt8) (w : World) (hs : l.length ≤ 1099511627776) :
    Calls Tryz.prog 58 #[.string ⟨l.toArray⟩] w fun e w' => e = .returned (.bool (pathOk l)) ∧ Below w.heap.size w w' := by
  obtain ⟨hsl, hsx⟩ := splitL_len 47 l
  generalize hL : splitL 47 l = L at hsl hsx
  have HL := Lib.hid hL
  have hcall := Lib.hid (refSplit_any l 47 w hs)
  rw [hL] at hcall
  clear hL
  go_enter Tryz.func58, Tryz.ntmps58
  go_wp2_with (go_at_call 75; refine hcall.out.mono ?_; rintro e w1 ⟨A, c, rfl, hA, hb⟩)
  clear hcall
  go_loop [8] (fun i => ∃ k : Nat, k ≤ L.length ∧ Hid (partsK L k = true) ∧ i = .int .i64 k) (fun i => L.length - (intOf i).toNat)
  case atStart => exact ⟨0, Nat.zero_le _, rfl, rfl⟩
  case round =>
    obtain ⟨k, hk, HK, rfl⟩ := hrel
    by_cases hlt : k < L.length
    · obtain ⟨bk, off, rfl, hbk, hc⟩ := hA.str hlt
      have hpl : L[k].length ≤ maxLen := by have := hsx _ (List.getElem_mem hlt); simp only [maxLen]; omega
      have hsucc := Lib.hid (partsK_succ L k hlt)
      have hfalse := Lib.hid (partsK_false L k hlt)
      generalize L[k] = s at hc hpl hsucc hfalse
      cases hp : partOk s
      · have HP := Lib.hid hp
        have hcp := Lib.hid (refpart_any s w1 hpl)
        rw [hp] at hcp
        clear hp
        go_wp2_with (go_at_call 76; refine hcp.out.mono ?_; rintro e w2 ⟨rfl, rfl⟩)
        go_ret
        exact ⟨ret_bool (by rw [pathOk, HL.out, hfalse.out HP.out]; simp), hb⟩
      · have HP := Lib.hid hp
        have hcp := Lib.hid (refpart_any s w1 hpl)
        rw [hp] at hcp
        clear hp
        go_wp2_with (go_at_call 76; refine hcp.out.mono ?_; rintro e w2 ⟨rfl, rfl⟩)
        go_round
        case rel => exact ⟨k + 1, by omega, (by rw [hsucc.out, HK.out, HP.out]; rfl : partsK L (k + 1) = true), by go_num⟩
        case measure => simp [intOf]; omega
    · obtain rfl : k = L.length := by omega
      have hall := Lib.hid (show L.all partOk = true by have := HK.out; unfold partsK at this; rwa [List.take_of_length_le (Nat.le_refl _)] at this)
      go_wp2
      go_ret
      exact ⟨ret_bool (by rw [pathOk, HL.out, hall.out]; simp; omega), hb⟩

set_option maxRecDepth 100000 in
set_option maxHeartbeats 4000000 in
theorem Path_any (l : List UInt8) (w : World) (hs : l.length ≤ maxLen) (hG : Glob w) :
    Calls Tryz.prog 55 #[.string ⟨l.toArray⟩] w fun e w' => e = .returned (.bool (pathOk l)) ∧ Below w.heap.size w w' := by
  unfold maxLen at hs
  by_cases h60 : (60 : Int) < (l.length : Int)
  · go_enter Tryz.func55, Tryz.ntmps55
    go_wp2
    go_ret
    exact ⟨ret_bool (by rw [pathOk, decide_eq_false (by omega)]; rfl), Below.refl _ _⟩
  · obtain ⟨⟨m, hm⟩, _⟩ := hG
    obtain ⟨hsl, hsx⟩ := splitL_len 47 l
    obtain ⟨he1, he2⟩ := splitB_eq 47 l.length l (Nat.le_refl _)
    have hcall := Tryz.strings_Split ⟨l.toArray⟩ ⟨#[47]⟩ m w (by simp [ByteArray.size]; omega) hm (by decide)
    rw [he1, he2] at hcall
    generalize hL : splitL 47 l = L at hsl hsx hcall
    have HL := Lib.hid hL
    have hcall := Lib.hid hcall
    clear hL he1 he2
    have hrd : Sl (w.alloc (.cells ((L.map (fun x => (⟨x.toArray⟩ : ByteArray))).map Value.string).toArray 9)) (w.heap.size + 1) 1 encS (some ⟨w.heap.size, 0, none⟩) L := by
      refine .inr ⟨w.heap.size, 0, rfl, by omega, fun i hi j v hv => ?_⟩
      match j, hv with
      | 0, hv =>
        simp [encS] at hv
        subst hv
        simp [hi]
    have hb : Below w.heap.size w (w.alloc (.cells ((L.map (fun x => (⟨x.toArray⟩ : ByteArray))).map Value.string).toArray 9)) := (Below.refl _ _).alloc (Nat.le_refl _) _
    generalize w.alloc (.cells ((L.map (fun x => (⟨x.toArray⟩ : ByteArray))).map Value.string).toArray 9) = w1 at hcall hrd hb
    go_enter Tryz.func55, Tryz.ntmps55
    go_wp2_with (go_at_call 73; refine hcall.out.mono ?_; rintro e w2 ⟨rfl, rfl⟩)
    clear hcall
    go_loop [11] (fun i => ∃ k : Nat, k ≤ L.length ∧ Hid (partsK L k = true) ∧ i = .int .i64 k) (fun i => L.length - (intOf i).toNat)
    case atStart => exact ⟨0, Nat.zero_le _, rfl, rfl⟩
    case round =>
      obtain ⟨k, hk, HK, rfl⟩ := hrel
      by_cases hlt : k < L.length
      · obtain ⟨bk, off, hAe, hbk, hc⟩ := hrd.str hlt
        injection hAe with hAe
        injection hAe with e1 e2
        subst e1
        subst e2
        rw [Nat.zero_add] at hc
        have hpl : L[k].length ≤ maxLen := by have := hsx _ (List.getElem_mem hlt); simp only [maxLen]; omega
        have hsucc := Lib.hid (partsK_succ L k hlt)
        have hfalse := Lib.hid (partsK_false L k hlt)
        generalize L[k] = s at hc hpl hsucc hfalse
        cases hp : partOk s
        · have HP := Lib.hid hp
          have hcp := Lib.hid (part_any s w2 hpl)
          rw [hp] at hcp
          clear hp
          go_wp2_with (go_at_call 74; refine hcp.out.mono ?_; rintro e w3 ⟨rfl, rfl⟩)
          go_ret
          exact ⟨ret_bool (by rw [pathOk, HL.out, hfalse.out HP.out]; simp), hb⟩
        · have HP := Lib.hid hp
          have hcp := Lib.hid (part_any s w2 hpl)
          rw [hp] at hcp
          clear hp
          go_wp2_with (go_at_call 74; refine hcp.out.mono ?_; rintro e w3 ⟨rfl, rfl⟩)
          go_round
          case rel => exact ⟨k + 1, by omega, (by rw [hsucc.out, HK.out, HP.out]; rfl : partsK L (k + 1) = true), by go_num⟩
          case measure => simp [intOf]; omega
      · obtain rfl : k = L.length := by omega
        have hall := Lib.hid (show L.all partOk = true by have := HK.out; unfold partsK at this; rwa [List.take_of_length_le (Nat.le_refl _)] at this)
        go_wp2
        go_ret
        exact ⟨ret_bool (by rw [pathOk, HL.out, hall.out]; simp; omega), hb⟩
end Go.Proofs.YtfiilbdkhelhgaaGreatDoor
