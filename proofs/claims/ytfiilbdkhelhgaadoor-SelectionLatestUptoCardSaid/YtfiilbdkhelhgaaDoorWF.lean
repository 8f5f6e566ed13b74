/- Walks: splitting, module paths. -/
import Derived.Test.YtfiilbdkhelhgaaDoorWE
import Derived.Test.YtfiilbdkhelhgaaDoorG1
import Derived.Test.YtfiilbdkhelhgaaDoorGlob
namespace Go.Proofs.YtfiilbdkhelhgaaDoor
open Go.RowKit

theorem elStr : ElT Tryd.prog 78 9 1 16 := ElT.mk_ (z := .string ByteArray.empty) Tryd.underlying78 (by kernel_rfl) rfl (by decide)

/-- a list of which each is a part -/
def partsK (L : List (List UInt8)) (k : Nat) : Bool := (L.take k).all partOk
theorem partsK_succ (L : List (List UInt8)) (k : Nat) (h : k < L.length) : partsK L (k + 1) = (partsK L k && partOk L[k]) := by
  unfold partsK
  rw [List.take_succ_eq_append_getElem h, List.all_append]
  simp
theorem partsK_false (L : List (List UInt8)) (k : Nat) (h : k < L.length) (hp : partOk L[k] = false) : L.all partOk = false := by
  rw [List.all_eq_false]
  exact ⟨L[k], List.getElem_mem h, by rw [hp]; simp⟩
theorem splitL_len (b : UInt8) : ∀ l : List UInt8, (splitL b l).length ≤ l.length + 1 ∧ ∀ x ∈ splitL b l, x.length ≤ l.length
  | [] => by simp [splitL]
  | c :: l => by
    have ih := splitL_len b l
    unfold splitL
    split
    · refine ⟨by simp; omega, fun x hx => ?_⟩
      rcases List.mem_cons.1 hx with rfl | hx
      · simp
      · have := ih.2 x hx; simp; omega
    · split
      · rename_i h t heq
        rw [heq] at ih
        refine ⟨by simp at *; omega, fun x hx => ?_⟩
        rcases List.mem_cons.1 hx with rfl | hx
        · have := ih.2 h (by simp); simp; omega
        · have := ih.2 x (by simp [hx]); simp; omega
      · refine ⟨by simp, fun x hx => ?_⟩
        simp at hx; subst hx; simp

set_option maxRecDepth 100000 in
set_option maxHeartbeats 4000000 in
theorem Path_any (l : List UInt8) (w : World) (hs : l.length ≤ maxLen) (hG : Glob w) :
    Calls Tryd.prog 45 #[.string ⟨l.toArray⟩] w fun e w' => e = .returned (.bool (pathOk l)) ∧ Below w.heap.size w w' := by
  unfold maxLen at hs
  by_cases h60 : (60 : Int) < (l.length : Int)
  · go_enter Tryd.func45, Tryd.ntmps45
    go_wp2
    go_ret
    exact ⟨ret_bool (by rw [pathOk, decide_eq_false (by omega)]; rfl), Below.refl _ _⟩
  · obtain ⟨⟨m, hm⟩, _⟩ := hG
    obtain ⟨hsl, hsx⟩ := splitL_len 47 l
    obtain ⟨he1, he2⟩ := splitB_eq 47 l.length l (Nat.le_refl _)
    have hcall := Tryd.strings_Split ⟨l.toArray⟩ ⟨#[47]⟩ m w (by simp [ByteArray.size]; omega) hm (by decide)
    rw [he1, he2] at hcall
    generalize hL : splitL 47 l = L at hsl hsx hcall
    have HL := Lib.hid hL
    have hcall := Lib.hid hcall
    clear hL he1 he2
    have hrd : Sl (w.alloc (.cells ((L.map (fun x => (⟨x.toArray⟩ : ByteArray))).map Value.string).toArray 9)) (w.heap.size + 1) 1 encS (some ⟨w.heap.size, 0, none⟩) L := by
      refine .inr ⟨w.heap.size, 0, rfl, by omega, fun i hi j v hv => ?_⟩
      match j, hv with
      | 0, hv =>
        simp [encS] at hv
        subst hv
        simp [hi]
    have hb : Below w.heap.size w (w.alloc (.cells ((L.map (fun x => (⟨x.toArray⟩ : ByteArray))).map Value.string).toArray 9)) := (Below.refl _ _).alloc (Nat.le_refl _) _
    generalize w.alloc (.cells ((L.map (fun x => (⟨x.toArray⟩ : ByteArray))).map Value.string).toArray 9) = w1 at hcall hrd hb
    go_enter Tryd.func45, Tryd.ntmps45
    go_wp2_with (go_at_call 57; refine hcall.out.mono ?_; rintro e w2 ⟨rfl, rfl⟩)
    clear hcall
    go_loop [11] (fun i => ∃ k : Nat, k ≤ L.length ∧ Hid (partsK L k = true) ∧ i = .int .i64 k) (fun i => L.length - (intOf i).toNat)
    case atStart => exact ⟨0, Nat.zero_le _, rfl, rfl⟩
    case round =>
      obtain ⟨k, hk, HK, rfl⟩ := hrel
      by_cases hlt : k < L.length
      · obtain ⟨bk, off, hAe, hbk, hc⟩ := hrd.str hlt
        injection hAe with hAe
        injection hAe with e1 e2
        subst e1
        subst e2
        rw [Nat.zero_add] at hc
        have hpl : L[k].length ≤ maxLen := by have := hsx _ (List.getElem_mem hlt); simp only [maxLen]; omega
        have hsucc := Lib.hid (partsK_succ L k hlt)
        have hfalse := Lib.hid (partsK_false L k hlt)
        generalize L[k] = s at hc hpl hsucc hfalse
        cases hp : partOk s
        · have HP := Lib.hid hp
          have hcp := Lib.hid (part_any s w2 hpl)
          rw [hp] at hcp
          clear hp
          go_wp2_with (go_at_call 58; refine hcp.out.mono ?_; rintro e w3 ⟨rfl, rfl⟩)
          go_ret
          exact ⟨ret_bool (by rw [pathOk, HL.out, hfalse.out HP.out]; simp), hb⟩
        · have HP := Lib.hid hp
          have hcp := Lib.hid (part_any s w2 hpl)
          rw [hp] at hcp
          clear hp
          go_wp2_with (go_at_call 58; refine hcp.out.mono ?_; rintro e w3 ⟨rfl, rfl⟩)
          go_round
          case rel => exact ⟨k + 1, by omega, (by rw [hsucc.out, HK.out, HP.out]; rfl : partsK L (k + 1) = true), by go_num⟩
          case measure => simp [intOf]; omega
      · obtain rfl : k = L.length := by omega
        have hall := Lib.hid (show L.all partOk = true by have := HK.out; unfold partsK at this; rwa [List.take_of_length_le (Nat.le_refl _)] at this)
        go_wp2
        go_ret
        exact ⟨ret_bool (by rw [pathOk, HL.out, hall.out]; simp; omega), hb⟩
end Go.Proofs.YtfiilbdkhelhgaaDoor
