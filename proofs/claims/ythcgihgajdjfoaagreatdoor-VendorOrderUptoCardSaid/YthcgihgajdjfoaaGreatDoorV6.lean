/- What the claim needs of: Glob WF PE WG WH WI. -/
import Derived.Test.YthcgihgajdjfoaaGreatDoorV5
import Derived.Test.YthcgihgajdjfoaaGreatDoorV1
import Derived.Lib.SmallJoins
import Derived.Test.YthcgihgajdjfoaaGreatDoorV4
import Derived.Test.YthcgihgajdjfoaaGreatDoorV3
import Derived.Lib.ItoaNum
import Derived.Lib.AppendIntMem
import Derived.Deep.DeepFit
namespace Go.Proofs.YthcgihgajdjfoaaGreatDoor
open Go.RowKit
def Glob (w : World) : Prop :=
 (∃ m, w.cell? ⟨0, 0, none⟩ = some (.int .i64 m)) ∧ (∃ te pe, w.cell? ⟨1, 0, none⟩ = some (.iface te pe)) ∧ Lib.TabIs Tryz.prog w "internal/strconv.uint64pow10" .u64 Lib.pow10Tab
theorem gPow : Tryz.prog.globalNamed "internal/strconv.uint64pow10" = some 3 := by kernel_rfl
theorem Glob.keep {w w' : World} (h : Glob w) (hb : Below w.heap.size w w') : Glob w' := by
 obtain ⟨⟨m, hm⟩, ⟨te, pe, he⟩, ht⟩ := h
 exact ⟨⟨m, cell_keep hb hm⟩, ⟨te, pe, cell_keep hb he⟩, Go.Joins.tab_stays gPow ht hb (Nat.le_refl _)⟩
theorem Glob.alloc {w : World} (h : Glob w) (o : Obj) : Glob (w.alloc o) := h.keep ((Below.refl _ _).alloc (Nat.le_refl _) _)
theorem Glob.drew {w : World} (h : Glob w) : Glob w.drew := h.keep (Below.refl _ _).drew
end Go.Proofs.YthcgihgajdjfoaaGreatDoor
namespace Go.Proofs.YthcgihgajdjfoaaGreatDoor
open Go.RowKit
theorem elStr : ElT Tryz.prog 79 9 1 16 := ElT.mk_ (z := .string ByteArray.empty) Tryz.underlying79 (by kernel_rfl) rfl (by decide)
set_option maxRecDepth 100000 in
set_option maxHeartbeats 4000000 in
theorem refSplit_any (l : List UInt8) (b : UInt8) (w : World) (hs : l.length ≤ 1099511627776) :
  Calls Tryz.prog 132 #[.string ⟨l.toArray⟩, .int .u8 b.toNat] w (RetStrs w (splitL b l)) := by
 go_enter Tryz.func132, Tryz.ntmps132
 go_wp2
 go_loopw [5, 6, 7] (fun v fr i wr => ∃ k f P, k ≤ l.length ∧ f ≤ k ∧ P.length ≤ f ∧ i = .int .i64 (k : Nat) ∧ fr = .int .i64 (f : Nat) ∧ Acc wr w.heap.size 9 1 v P.length (strs P) ∧ Below w.heap.size w wr ∧ Hid (splitL b l = P ++ splitL b (l.drop f)) ∧ Hid (∀ j, f ≤ j → j < k → l.getD j 0 ≠ b))
  (fun _ _ i _ => l.length - (intOf i).toNat)
 case atStart => exact ⟨0, 0, [], Nat.zero_le _, Nat.le_refl _, Nat.le_refl _, rfl, rfl, Acc.nil_ _ _ _ _, Below.refl _ _, rfl, fun j h1 h2 => by omega⟩
 case round =>
  obtain ⟨k, f, P, hk, hfk, hPf, rfl, rfl, hacc, hb, HS, HN⟩ := hrel
  obtain ⟨A, c, rfl⟩ := hacc.shape
  have hbz := hb.size
  by_cases hlt : k < l.length
  ·have hg : l.getD k 0 = (({ data := l.toArray } : ByteArray)[k]) := by simp [hlt]; rfl
   have HG := Lib.hid hg; clear hg
   cases he : ((({ data := l.toArray } : ByteArray)[k].toNat : Int) == (b.toNat : Int))
   ·go_wp2
    go_roundw
    case rel =>
     have hne : ¬ l.getD k 0 = b := by
      rw [HG.out]; intro e; rw [e] at he; simp at he
     exact ⟨k + 1, f, P, by omega, by omega, hPf, by go_num, rfl, hacc, hb, HS, fun j h1 h2 => by
      by_cases hj : j = k
      ·subst hj; exact hne
      ·exact HN.out j h1 (by omega)⟩
    case measure => simp [intOf]; omega
   ·go_wp2_with (at_builtin; refine wpList_app _ rfl (.tmp 19) (.tmp 24) 79 rfl w.heap.size 9 1 16 elStr _ _ _ rfl (hacc.alloc _) _ 1 _ _ rfl (Src.lit _ 1 _ _ 1 rfl) (by simp [Value.oneCell']) (by simp only [maxLen]; omega) (by omega) (by simp; omega) ?_; intro v' w1 hacc' _ hb' _ _)
    go_roundw
    case rel =>
     have heq : l.getD k 0 = b := by
      rw [HG.out]
      have : (({ data := l.toArray } : ByteArray)[k]).toNat = b.toNat := by
       have := beq_iff_eq.1 he
       omega
      exact UInt8.toNat_inj.1 this
     refine ⟨k + 1, k + 1, P ++ [(l.drop f).take (k - f)], by omega, by omega, by simp; omega, by go_num, by go_num, ?_, (hb.alloc hbz _).trans hb', split_step b l P f k hfk hlt HS.out HN.out heq, fun j h1 h2 => by omega⟩
     rw [strs_snoc, ← ByteArray.extract_mk]
     simpa using hacc'
    case measure => simp [intOf]; omega
  ·obtain rfl : k = l.length := by omega
   have hf2 : f ≤ l.length := hfk
   go_wp2_with (at_builtin; refine wpList_app _ rfl (.tmp 28) (.tmp 32) 79 rfl w.heap.size 9 1 16 elStr _ _ _ rfl (hacc.alloc _) _ 1 _ _ rfl (Src.lit _ 1 _ _ 1 rfl) (by simp [Value.oneCell']) (by simp only [maxLen]; omega) (by omega) (by simp; omega) ?_; intro v' w1 hacc' _ hb' _ _)
   go_ret
   have hsp := split_end b l P f HS.out HN.out
   have e1 : strs P ++ [Value.string (({ data := l.toArray } : ByteArray).extract f l.length)] = strs (splitL b l) := by
    rw [hsp, strs_snoc, ByteArray.extract_mk, List.take_of_length_le (by simp)]
   rw [e1] at hacc'
   obtain ⟨A', c', rfl⟩ := hacc'.shape
   obtain ⟨h1, h2⟩ := hacc'.strs_
   rw [h1]
   exact ⟨A', c', rfl, h2, (hb.alloc hbz _).trans hb'⟩
def partsK (L : List (List UInt8)) (k : Nat) : Bool := (L.take k).all partOk
theorem partsK_succ (L : List (List UInt8)) (k : Nat) (h : k < L.length) : partsK L (k + 1) = (partsK L k && partOk L[k]) := by
 unfold partsK
 rw [List.take_succ_eq_append_getElem h, List.all_append]
 simp
theorem partsK_false (L : List (List UInt8)) (k : Nat) (h : k < L.length) (hp : partOk L[k] = false) : L.all partOk = false := by
 rw [List.all_eq_false]
 exact ⟨L[k], List.getElem_mem h, by rw [hp]; simp⟩
theorem splitL_len (b : UInt8) : ∀ l : List UInt8, (splitL b l).length ≤ l.length + 1 ∧ ∀ x ∈ splitL b l, x.length ≤ l.length
 | [] => by simp [splitL]
 | c :: l => by
   have ih := splitL_len b l
   unfold splitL
   split
   ·refine ⟨by simp; omega, fun x hx => ?_⟩
    rcases List.mem_cons.1 hx with rfl | hx
    ·simp
    ·have := ih.2 x hx; simp; omega
   ·split
    ·rename_i h t heq
     rw [heq] at ih
     refine ⟨by simp at *; omega, fun x hx => ?_⟩
     rcases List.mem_cons.1 hx with rfl | hx
     ·have := ih.2 h (by simp); simp; omega
     ·have := ih.2 x (by simp [hx]); simp; omega
    ·refine ⟨by simp, fun x hx => ?_⟩
     simp at hx; subst hx; simp
set_option maxRecDepth 100000 in
set_option maxHeartbeats 4000000 in
theorem refPath_any (l : List UInt8) (w : World) (hs : l.length ≤ 1099511627776) :
  Calls Tryz.prog 89 #[.string ⟨l.toArray⟩] w fun e w' => e = .returned (.bool (pathOk l)) ∧ Below w.heap.size w w' := by
 obtain ⟨hsl, hsx⟩ := splitL_len 47 l
 generalize hL : splitL 47 l = L at hsl hsx
 have HL := Lib.hid hL
 have hcall := Lib.hid (refSplit_any l 47 w hs)
 rw [hL] at hcall
 clear hL
 go_enter Tryz.func89, Tryz.ntmps89
 go_wp2_with (go_at_call 132; refine hcall.out.mono ?_; rintro e w1 ⟨A, c, rfl, hA, hb⟩)
 clear hcall
 go_loop [8] (fun i => ∃ k : Nat, k ≤ L.length ∧ Hid (partsK L k = true) ∧ i = .int .i64 k) (fun i => L.length - (intOf i).toNat)
 case atStart => exact ⟨0, Nat.zero_le _, rfl, rfl⟩
 case round =>
  obtain ⟨k, hk, HK, rfl⟩ := hrel
  by_cases hlt : k < L.length
  ·obtain ⟨bk, off, rfl, hbk, hc⟩ := hA.str hlt
   have hpl : L[k].length ≤ maxLen := by have := hsx _ (List.getElem_mem hlt); simp only [maxLen]; omega
   have hsucc := Lib.hid (partsK_succ L k hlt)
   have hfalse := Lib.hid (partsK_false L k hlt)
   generalize L[k] = s at hc hpl hsucc hfalse
   cases hp : partOk s
   ·have HP := Lib.hid hp
    have hcp := Lib.hid (refpart_any s w1 hpl)
    rw [hp] at hcp
    clear hp
    go_wp2_with (go_at_call 133; refine hcp.out.mono ?_; rintro e w2 ⟨rfl, rfl⟩)
    go_ret
    exact ⟨ret_bool (by rw [pathOk, HL.out, hfalse.out HP.out]; simp), hb⟩
   ·have HP := Lib.hid hp
    have hcp := Lib.hid (refpart_any s w1 hpl)
    rw [hp] at hcp
    clear hp
    go_wp2_with (go_at_call 133; refine hcp.out.mono ?_; rintro e w2 ⟨rfl, rfl⟩)
    go_round
    case rel => exact ⟨k + 1, by omega, (by rw [hsucc.out, HK.out, HP.out]; rfl : partsK L (k + 1) = true), by go_num⟩
    case measure => simp [intOf]; omega
  ·obtain rfl : k = L.length := by omega
   have hall := Lib.hid (show L.all partOk = true by have := HK.out; unfold partsK at this; rwa [List.take_of_length_le (Nat.le_refl _)] at this)
   go_wp2
   go_ret
   exact ⟨ret_bool (by rw [pathOk, HL.out, hall.out]; simp; omega), hb⟩
set_option maxRecDepth 100000 in
set_option maxHeartbeats 4000000 in
theorem Path_any (l : List UInt8) (w : World) (hs : l.length ≤ maxLen) (hG : Glob w) :
  Calls Tryz.prog 84 #[.string ⟨l.toArray⟩] w fun e w' => e = .returned (.bool (pathOk l)) ∧ Below w.heap.size w w' := by
 unfold maxLen at hs
 by_cases h60 : (60 : Int) < (l.length : Int)
 ·go_enter Tryz.func84, Tryz.ntmps84
  go_wp2
  go_ret
  exact ⟨ret_bool (by rw [pathOk, decide_eq_false (by omega)]; rfl), Below.refl _ _⟩
 ·obtain ⟨⟨m, hm⟩, _⟩ := hG
  obtain ⟨hsl, hsx⟩ := splitL_len 47 l
  obtain ⟨he1, he2⟩ := splitB_eq 47 l.length l (Nat.le_refl _)
  have hcall := Tryz.strings_Split ⟨l.toArray⟩ ⟨#[47]⟩ m w (by simp [ByteArray.size]; omega) hm (by decide)
  rw [he1, he2] at hcall
  generalize hL : splitL 47 l = L at hsl hsx hcall
  have HL := Lib.hid hL
  have hcall := Lib.hid hcall
  clear hL he1 he2
  have hrd : Sl (w.alloc (.cells ((L.map (fun x => (⟨x.toArray⟩ : ByteArray))).map Value.string).toArray 9)) (w.heap.size + 1) 1 encS (some ⟨w.heap.size, 0, none⟩) L := by
   refine .inr ⟨w.heap.size, 0, rfl, by omega, fun i hi j v hv => ?_⟩
   match j, hv with
   | 0, hv =>
     simp [encS] at hv
     subst hv
     simp [hi]
  have hb : Below w.heap.size w (w.alloc (.cells ((L.map (fun x => (⟨x.toArray⟩ : ByteArray))).map Value.string).toArray 9)) := (Below.refl _ _).alloc (Nat.le_refl _) _
  generalize w.alloc (.cells ((L.map (fun x => (⟨x.toArray⟩ : ByteArray))).map Value.string).toArray 9) = w1 at hcall hrd hb
  go_enter Tryz.func84, Tryz.ntmps84
  go_wp2_with (go_at_call 83; refine hcall.out.mono ?_; rintro e w2 ⟨rfl, rfl⟩)
  clear hcall
  go_loop [11] (fun i => ∃ k : Nat, k ≤ L.length ∧ Hid (partsK L k = true) ∧ i = .int .i64 k) (fun i => L.length - (intOf i).toNat)
  case atStart => exact ⟨0, Nat.zero_le _, rfl, rfl⟩
  case round =>
   obtain ⟨k, hk, HK, rfl⟩ := hrel
   by_cases hlt : k < L.length
   ·obtain ⟨bk, off, hAe, hbk, hc⟩ := hrd.str hlt
    injection hAe with hAe
    injection hAe with e1 e2
    subst e1
    subst e2
    rw [Nat.zero_add] at hc
    have hpl : L[k].length ≤ maxLen := by have := hsx _ (List.getElem_mem hlt); simp only [maxLen]; omega
    have hsucc := Lib.hid (partsK_succ L k hlt)
    have hfalse := Lib.hid (partsK_false L k hlt)
    generalize L[k] = s at hc hpl hsucc hfalse
    cases hp : partOk s
    ·have HP := Lib.hid hp
     have hcp := Lib.hid (part_any s w2 hpl)
     rw [hp] at hcp
     clear hp
     go_wp2_with (go_at_call 128; refine hcp.out.mono ?_; rintro e w3 ⟨rfl, rfl⟩)
     go_ret
     exact ⟨ret_bool (by rw [pathOk, HL.out, hfalse.out HP.out]; simp), hb⟩
    ·have HP := Lib.hid hp
     have hcp := Lib.hid (part_any s w2 hpl)
     rw [hp] at hcp
     clear hp
     go_wp2_with (go_at_call 128; refine hcp.out.mono ?_; rintro e w3 ⟨rfl, rfl⟩)
     go_round
     case rel => exact ⟨k + 1, by omega, (by rw [hsucc.out, HK.out, HP.out]; rfl : partsK L (k + 1) = true), by go_num⟩
     case measure => simp [intOf]; omega
   ·obtain rfl : k = L.length := by omega
    have hall := Lib.hid (show L.all partOk = true by have := HK.out; unfold partsK at this; rwa [List.take_of_length_le (Nat.le_refl _)] at this)
    go_wp2
    go_ret
    exact ⟨ret_bool (by rw [pathOk, HL.out, hall.out]; simp; omega), hb⟩
end Go.Proofs.YthcgihgajdjfoaaGreatDoor
namespace Go.Proofs.YthcgihgajdjfoaaGreatDoor
def dec (n : Int) : List UInt8 := Lib.decDigits n.toNat
def dig (m : Nat) : UInt8 := UInt8.ofNat (48 + m % 10)
theorem decDigits_step (n : Nat) : Lib.decDigits n = (if n / 10 = 0 then [] else Lib.decDigits (n / 10)) ++ [dig n] := by
 unfold dig
 rw [Lib.decDigits]
 by_cases h : n < 10
 ·have h1 : n / 10 = 0 := by omega
  have h2 : n % 10 = n := by omega
  simp [h, h1, h2]
 ·have h1 : ¬ n / 10 = 0 := by omega
  simp [h, h1]
theorem decDigits_len : ∀ (k n : Nat), n < 10 ^ (k + 1) → (Lib.decDigits n).length ≤ k + 1
 | 0, n, h => by
   have : n < 10 := by simpa using h
   rw [Lib.decDigits]; simp [this]
 | k + 1, n, h => by
   rw [decDigits_step]
   split
   ·simp
   ·have : n / 10 < 10 ^ (k + 1) := by
     rw [Nat.pow_succ] at h
     omega
    have := decDigits_len k (n / 10) this
    simp; omega
theorem dec_len (n : Int) (h : n ≤ 9999) : (dec n).length ≤ 4 := decDigits_len 3 n.toNat (by simp; omega)
def vtext (x y z : Int) : List UInt8 := if vok x y z = true then [118] ++ dec x ++ [46] ++ dec y ++ [46] ++ dec z else [63]
theorem vtext_len (x y z : Int) : (vtext x y z).length ≤ 20 := by
 unfold vtext
 split
 ·rename_i h
  simp [vok] at h
  have h1 := dec_len x (by omega)
  have h2 := dec_len y (by omega)
  have h3 := dec_len z (by omega)
  simp; omega
 ·simp
end Go.Proofs.YthcgihgajdjfoaaGreatDoor
namespace Go.Proofs.YthcgihgajdjfoaaGreatDoor
open Go.RowKit
theorem digit_str (m : Nat) (w : World) : (convert 65 9 (.slice (some ⟨w.heap.size, 0, none⟩) 1 1)).run Tryz.prog (w.alloc (.cells #[.int .u8 (48 + (m : Int) % 10)] 5)) = .ok (.string ⟨([dig m] : List UInt8).toArray⟩) (w.alloc (.cells #[.int .u8 (48 + (m : Int) % 10)] 5)) := by
 have e : (48 + (m : Int) % 10) = ((dig m).toNat : Int) := by
  unfold dig
  rw [UInt8.toNat_ofNat']
  omega
 rw [e]
 exact (Acc.marked w #[.int .u8 ((dig m).toNat : Int)] 0 5 1 1 (0, 0) rfl).str (l := [dig m]) 65 9 Tryz.underlying65 Tryz.underlying5 Tryz.underlying9
theorem digit_str0 (w : World) : (convert 65 9 (.slice (some ⟨w.heap.size, 0, none⟩) 1 1)).run Tryz.prog (w.alloc (.cells #[.int .u8 48] 5)) = .ok (.string ⟨([48] : List UInt8).toArray⟩) (w.alloc (.cells #[.int .u8 48] 5)) := digit_str 0 w
def emptyS : Value → Nat
 | .string b => if b.size = 0 then 1 else 0
 | _ => 0
set_option maxRecDepth 100000 in
set_option maxHeartbeats 1000000 in
theorem Digits_any (n : Int) (w : World) (h0 : 0 ≤ n) (h1 : n ≤ 9999) :
  Calls Tryz.prog 160 #[.int .i64 n, .int .i64 1] w fun e w' => e = .returned (.string ⟨(dec n).toArray⟩) ∧ Below w.heap.size w w' := by
 obtain ⟨N, rfl⟩ := Int.eq_ofNat_of_zero_le h0
 have hd : dec (N : Int) = Lib.decDigits N := rfl
 rw [hd]
 clear hd
 go_enter Tryz.func160, Tryz.ntmps160
 go_wp2
 go_loopw [0, 5] (fun u s wr => ∃ (m j : Nat) (l : List UInt8), u = .int .i64 (m : Nat) ∧ s = .string ⟨l.toArray⟩ ∧ j + l.length = 4 ∧ m < 10 ^ j ∧ m ≤ 9999 ∧ Hid ((l = [] ∧ m = N) ∨ (l ≠ [] ∧ Lib.decDigits N = (if m = 0 then [] else Lib.decDigits m) ++ l)) ∧ Below w.heap.size w wr)
  (fun u s _ => 2 * (intOf u).toNat + emptyS s)
 case atStart => exact ⟨N, 4, [], rfl, rfl, rfl, by simp; omega, by omega, .inl ⟨rfl, rfl⟩, Below.refl _ _⟩
 case round =>
  obtain ⟨m, j, l, rfl, rfl, hj, hm, hm9, HI, hb⟩ := hrel
  have hbz := hb.size
  rcases (show 0 < m ∨ (m = 0 ∧ l = []) ∨ (m = 0 ∧ 0 < l.length) by
   cases l with
   | nil => simp; omega
   | cons c l => simp; omega) with h | ⟨rfl, rfl⟩ | ⟨rfl, h⟩
  ·have h' : (0 : Int) < m := by omega
   have hl : l.length ≤ 3 := by
    rcases Nat.lt_or_ge l.length 4 with h4 | h4
    ·omega
    ·obtain rfl : j = 0 := by omega
     simp at hm; omega
   have hcv := digit_str m wr
   go_wp2
   go_roundw
   case rel =>
    refine ⟨m / 10, j - 1, dig m :: l, by go_num, by rw [ByteArray.mk_append_mk]; rfl, by simp; omega, ?_, by omega, .inr ⟨by simp, ?_⟩, hb.alloc hbz _⟩
    ·obtain ⟨j', rfl⟩ : ∃ j', j = j' + 1 := ⟨j - 1, by omega⟩
     rw [Nat.pow_succ] at hm
     simp only [Nat.add_sub_cancel]
     omega
    ·have hs := decDigits_step m
     rcases HI.out with ⟨rfl, e⟩ | ⟨_, e⟩
     ·rw [← e, hs]
     ·rw [if_neg (by omega)] at e
      rw [e, hs]
      simp
   case measure => simp [intOf, emptyS, ByteArray.size]; omega
  ·have hcv := digit_str0 wr
   go_wp2
   go_roundw
   case rel =>
    refine ⟨0, 3, [48], rfl, rfl, rfl, by simp, by omega, .inr ⟨by simp, ?_⟩, hb.alloc hbz _⟩
    rcases HI.out with ⟨_, e⟩ | ⟨e, _⟩
    ·rw [← e, decDigits_step]; rfl
    ·exact absurd rfl e
   case measure => simp [intOf, emptyS, ByteArray.size]
  ·have h' : ¬ (l.length : Int) < 1 := by omega
   go_wp2
   go_ret
   refine ⟨?_, hb⟩
   rcases HI.out with ⟨e, _⟩ | ⟨_, e⟩
   ·rw [e] at h; simp at h
   ·rw [e]; rfl
theorem digits_any (n : Int) (w : World) (h0 : 0 ≤ n) (h1 : n ≤ 9999) :
  Calls Tryz.prog 125 #[.int .i64 n] w fun e w' => e = .returned (.string ⟨(dec n).toArray⟩) ∧ Below w.heap.size w w' := by
 go_enter Tryz.func125, Tryz.ntmps125
 go_wp2_with (go_at_call 160; refine (Digits_any _ _ h0 h1).mono ?_; rintro e w' ⟨rfl, hb⟩)
 go_ret
 exact ⟨rfl, hb⟩
set_option maxRecDepth 100000 in
set_option maxHeartbeats 4000000 in
theorem refvText_any (x y z : Int) (w : World) :
  Calls Tryz.prog 81 #[.agg #[.int .i64 x, .int .i64 y, .int .i64 z]] w fun e w' => e = .returned (.string ⟨(vtext x y z).toArray⟩) ∧ Below w.heap.size w w' := by
 have hcall := fun W => refValid_any x y z W
 cases hv : vok x y z
 ·have hvt := Lib.hid (show vtext x y z = [63] by simp [vtext, hv])
  rw [hv] at hcall
  clear hv
  go_enter Tryz.func81, Tryz.ntmps81
  go_wp2_with (go_at_call 117; refine (hcall _).mono ?_; rintro e w' ⟨rfl, hb⟩)
  go_ret
  exact ⟨by rw [hvt.out]; rfl, ((Below.refl _ _).alloc (Nat.le_refl _) _).trans (hb.mono (by simp))⟩
 ·have hvt := Lib.hid (show vtext x y z = [118] ++ dec x ++ [46] ++ dec y ++ [46] ++ dec z by simp [vtext, hv])
  rw [hv] at hcall
  simp [vok] at hv
  obtain ⟨⟨⟨hx0, hx1⟩, hy0, hy1⟩, hz0, hz1⟩ := hv
  have lx := dec_len x hx1
  have ly := dec_len y hy1
  have lz := dec_len z hz1
  have cx := Lib.hid (fun W => digits_any x W hx0 hx1)
  have cy := Lib.hid (fun W => digits_any y W hy0 hy1)
  have cz := Lib.hid (fun W => digits_any z W hz0 hz1)
  generalize dec x = dx at lx hvt cx
  generalize dec y = dy at ly hvt cy
  generalize dec z = dz at lz hvt cz
  go_enter Tryz.func81, Tryz.ntmps81
  go_wp2_with (go_at_call 117; refine (hcall _).mono ?_; rintro e w1 ⟨rfl, hb1⟩)
  have k0 := cell_keep (p := ⟨w.heap.size, 0, none⟩) (v := .int .i64 x) hb1 (by simp)
  have k1 := cell_keep (p := ⟨w.heap.size, 1, none⟩) (v := .int .i64 y) hb1 (by simp)
  have k2 := cell_keep (p := ⟨w.heap.size, 2, none⟩) (v := .int .i64 z) hb1 (by simp)
  have hB : Below w.heap.size w w1 := ((Below.refl _ _).alloc (Nat.le_refl _) _).trans (hb1.mono (by simp))
  clear hb1 hcall
  have n1 : ¬ 9223372036854775807 < 1 + dx.length := by omega
  have n2 : ¬ 9223372036854775807 < 1 + dx.length + 1 := by omega
  have n3 : ¬ 9223372036854775807 < 1 + dx.length + 1 + dy.length := by omega
  have n4 : ¬ 9223372036854775807 < 1 + dx.length + 1 + dy.length + 1 := by omega
  have n5 : ¬ 9223372036854775807 < 1 + dx.length + 1 + dy.length + 1 + dz.length := by omega
  go_region_held3 (fun W => W.cell? ⟨w.heap.size, 0, none⟩ = some (.int .i64 x) ∧ W.cell? ⟨w.heap.size, 1, none⟩ = some (.int .i64 y) ∧ W.cell? ⟨w.heap.size, 2, none⟩ = some (.int .i64 z)) (first | (simp; done) | (go_split_ands; (repeat' apply And.intro) <;> (first | assumption | (apply cell_keep; assumption; assumption) | (apply cell_keep_alloc; assumption))))
   (first | (go_at_call 125; refine (cx.out _).mono ?_; rintro e w2 ⟨rfl, hb2⟩) | (go_at_call 125; refine (cy.out _).mono ?_; rintro e w3 ⟨rfl, hb3⟩) | (go_at_call 125; refine (cz.out _).mono ?_; rintro e w4 ⟨rfl, hb4⟩))
  go_wp2
  go_ret
  refine ⟨?_, (((hB.drew.trans (hb2.mono (by have := hB.size; simpa using this))).trans (hb3.mono ?_)).trans (hb4.mono ?_))⟩
  ·rw [hvt.out, show ({ data := #[118] } : ByteArray) = ⟨([118] : List UInt8).toArray⟩ from rfl, show ({ data := #[46] } : ByteArray) = ⟨([46] : List UInt8).toArray⟩ from rfl]
   simp only [ByteArray.mk_append_mk]
   rfl
  ·have := hB.size; have := hb2.size; simp at *; omega
  ·have := hB.size; have := hb2.size; have := hb3.size; simp at *; omega
end Go.Proofs.YthcgihgajdjfoaaGreatDoor
namespace Go.Proofs.YthcgihgajdjfoaaGreatDoor
open Go.RowKit
theorem Acc.le_cap {w : World} {base e size n c : Nat} {A : Option Addr} {xs : List Value} (h : Acc w base e size (.slice A n c) n xs) : n ≤ c := by
 rcases h with h | ⟨_, g, off, hv, _, _⟩
 ·rcases h.2 with ⟨hv, rfl⟩ | ⟨g, cap, cur, hv, _, _, hnc, _⟩
  ·exact Nat.zero_le _
  ·injection hv with _ _ h3
   omega
 ·injection hv with _ _ h3
  omega
theorem itoa_any (n : Int) (w : World) (h0 : 0 ≤ n) (h1 : n ≤ 9999) (hG : Glob w) :
  Calls Tryz.prog 121 #[.int .i64 n] w fun e w' => e = .returned (.string ⟨(dec n).toArray⟩) ∧ Below w.heap.size w w' :=
 (Tryz.strconv_Itoa n (by omega) (by omega) w hG.2.2).mono fun e w' ⟨he, k, os, hw⟩ => by
  refine ⟨?_, ?_⟩
  ·rw [he, Lib.itoa, if_neg (by omega)]; rfl
  ·rw [hw]; exact Lib.below_grow _ _ (Nat.le_refl _) k os
theorem join3 (a b c : List UInt8) : Lib.join [a, b, c] [46] = a ++ [46] ++ b ++ [46] ++ c := by
 simp [Lib.join, List.intercalate, List.intersperse]
theorem join_any (g off c : Nat) (a b d : List UInt8) (w : World) (hg : g < w.heap.size) (h3 : 3 ≤ c) (ha : a.length ≤ 4) (hb : b.length ≤ 4) (hd : d.length ≤ 4)
  (hc : ∀ j u, (strs [a, b, d])[j]? = some u → w.cell? ⟨g, off + j, none⟩ = some u) :
  Calls Tryz.prog 122 #[.slice (some ⟨g, off, none⟩) 3 c, .string ⟨#[46]⟩] w fun e w' => e = .returned (.string ⟨(a ++ [46] ++ b ++ [46] ++ d).toArray⟩) ∧ Below w.heap.size w w' := by
 have h := Tryz.strings_Join g off c [⟨a.toArray⟩, ⟨b.toArray⟩, ⟨d.toArray⟩] ⟨#[46]⟩ w (fun j x hx => hc j _ (by
  match j, hx with
  | 0, hx => simp at hx; subst hx; rfl
  | 1, hx => simp at hx; subst hx; rfl
  | 2, hx => simp at hx; subst hx; rfl)) hg (by simp) h3 (by
    show (Lib.join [a, b, d] [46]).length ≤ _
    rw [join3]; simp; omega)
 have e : Lib.join (([⟨a.toArray⟩, ⟨b.toArray⟩, ⟨d.toArray⟩] : List ByteArray).map (·.data.toList)) ((⟨#[46]⟩ : ByteArray).data.toList) = a ++ [46] ++ b ++ [46] ++ d := join3 a b d
 rw [e] at h
 exact h
set_option maxRecDepth 100000 in
set_option maxHeartbeats 4000000 in
theorem vText_any (x y z : Int) (w : World) (hG : Glob w) :
  Calls Tryz.prog 78 #[.agg #[.int .i64 x, .int .i64 y, .int .i64 z]] w fun e w' => e = .returned (.string ⟨(vtext x y z).toArray⟩) ∧ Below w.heap.size w w' := by
 have hcall := fun W => Valid_any x y z W
 cases hv : vok x y z
 ·have hvt := Lib.hid (show vtext x y z = [63] by simp [vtext, hv])
  rw [hv] at hcall
  clear hv
  go_enter Tryz.func78, Tryz.ntmps78
  go_wp2_with (go_at_call 112; refine (hcall _).mono ?_; rintro e w' ⟨rfl, hb⟩)
  go_ret
  exact ⟨by rw [hvt.out]; rfl, ((Below.refl _ _).alloc (Nat.le_refl _) _).trans (hb.mono (by simp))⟩
 ·have hvt := Lib.hid (show vtext x y z = [118] ++ dec x ++ [46] ++ dec y ++ [46] ++ dec z by simp [vtext, hv])
  rw [hv] at hcall
  simp [vok] at hv
  obtain ⟨⟨⟨hx0, hx1⟩, hy0, hy1⟩, hz0, hz1⟩ := hv
  have lx := dec_len x hx1
  have ly := dec_len y hy1
  have lz := dec_len z hz1
  have cx := Lib.hid (fun W => itoa_any x W hx0 hx1)
  have cy := Lib.hid (fun W => itoa_any y W hy0 hy1)
  have cz := Lib.hid (fun W => itoa_any z W hz0 hz1)
  have HG := Lib.hid hG
  clear hG
  generalize dec x = dx at lx hvt cx
  generalize dec y = dy at ly hvt cy
  generalize dec z = dz at lz hvt cz
  go_enter Tryz.func78, Tryz.ntmps78
  go_wp2_with (first
   | (go_at_call 112; refine (hcall _).mono ?_; rintro e w1 ⟨rfl, hb1⟩; have k0 := cell_keep (p := ⟨w.heap.size, 0, none⟩) (v := .int .i64 x) hb1 (by simp); have k1 := cell_keep (p := ⟨w.heap.size, 1, none⟩) (v := .int .i64 y) hb1 (by simp); have k2 := cell_keep (p := ⟨w.heap.size, 2, none⟩) (v := .int .i64 z) hb1 (by simp))
   | (go_at_call 120; refine (numbers_any _ _ _ _).mono ?_; rintro e w2 ⟨rfl, hb2⟩))
  have hB : Below w.heap.size w w1 := ((Below.refl _ _).alloc (Nat.le_refl _) _).trans (hb1.mono (by simp))
  have hB2 : Below w.heap.size w w2 := hB.trans (hb2.toBelow.mono hB.size)
  clear hB hb1 hcall hb2 k0 k1 k2
  have i0 : ∀ w, (Instr.index 167 (.agg #[.int .i64 x, .int .i64 y, .int .i64 z]) (.int .i64 0)).run Tryz.prog w = .ok (.int .i64 x) w := fun _ => by kernel_rfl
  have i1 : ∀ w, (Instr.index 167 (.agg #[.int .i64 x, .int .i64 y, .int .i64 z]) (.int .i64 1)).run Tryz.prog w = .ok (.int .i64 y) w := fun _ => by kernel_rfl
  have i2 : ∀ w, (Instr.index 167 (.agg #[.int .i64 x, .int .i64 y, .int .i64 z]) (.int .i64 2)).run Tryz.prog w = .ok (.int .i64 z) w := fun _ => by kernel_rfl
  go_loopw [3, 11] (fun v i wr => ∃ k : Nat, k ≤ 3 ∧ i = .int .i64 (k : Nat) ∧ Acc wr w.heap.size 9 1 v k (strs ([dx, dy, dz].take k)) ∧ Below w.heap.size w wr) (fun _ i _ => (3 - intOf i).toNat)
  case atStart => exact ⟨0, by omega, rfl, Acc.nil_ _ _ _ _, hB2⟩
  case round =>
   obtain ⟨k, hk, rfl, hacc, hb⟩ := hrel
   obtain ⟨A, c, rfl⟩ := hacc.shape
   have hbz := hb.size
   rcases (show k = 0 ∨ k = 1 ∨ k = 2 ∨ k = 3 by omega) with rfl | rfl | rfl | rfl
   ·go_wp2_with (first
     | (go_at_call 121; refine (cx.out _ (HG.out.keep hb)).mono ?_; rintro e w3 ⟨rfl, hb3⟩; have hacc3 := hacc.below hb3)
     | (at_builtin; refine wpList_app _ rfl (.tmp 14) (.tmp 17) 79 rfl w.heap.size 9 1 16 elStr _ _ _ rfl (hacc3.alloc _) _ 1 _ _ rfl (Src.lit _ 1 _ _ 1 rfl) (by simp [Value.oneCell']) (by simp only [maxLen]; omega) (by omega) (by have := hb3.size; simp; omega) ?_; intro v' w4 hacc' _ hb' _ _))
    go_roundw
    case rel => exact ⟨1, by omega, rfl, hacc', ((hb.trans (hb3.mono hbz)).alloc (Nat.le_trans hbz hb3.size) _).trans hb'⟩
    case measure => simp [intOf]
   ·go_wp2_with (first
     | (go_at_call 121; refine (cy.out _ (HG.out.keep hb)).mono ?_; rintro e w3 ⟨rfl, hb3⟩; have hacc3 := hacc.below hb3)
     | (at_builtin; refine wpList_app _ rfl (.tmp 14) (.tmp 17) 79 rfl w.heap.size 9 1 16 elStr _ _ _ rfl (hacc3.alloc _) _ 1 _ _ rfl (Src.lit _ 1 _ _ 1 rfl) (by simp [Value.oneCell']) (by simp only [maxLen]; omega) (by omega) (by have := hb3.size; simp; omega) ?_; intro v' w4 hacc' _ hb' _ _))
    go_roundw
    case rel => exact ⟨2, by omega, rfl, hacc', ((hb.trans (hb3.mono hbz)).alloc (Nat.le_trans hbz hb3.size) _).trans hb'⟩
    case measure => simp [intOf]
   ·go_wp2_with (first
     | (go_at_call 121; refine (cz.out _ (HG.out.keep hb)).mono ?_; rintro e w3 ⟨rfl, hb3⟩; have hacc3 := hacc.below hb3)
     | (at_builtin; refine wpList_app _ rfl (.tmp 14) (.tmp 17) 79 rfl w.heap.size 9 1 16 elStr _ _ _ rfl (hacc3.alloc _) _ 1 _ _ rfl (Src.lit _ 1 _ _ 1 rfl) (by simp [Value.oneCell']) (by simp only [maxLen]; omega) (by omega) (by have := hb3.size; simp; omega) ?_; intro v' w4 hacc' _ hb' _ _))
    go_roundw
    case rel => exact ⟨3, by omega, rfl, hacc', ((hb.trans (hb3.mono hbz)).alloc (Nat.le_trans hbz hb3.size) _).trans hb'⟩
    case measure => simp [intOf]
   ·rcases hacc.cells with h0 | ⟨g, off, c', hv, hg, hc⟩
    ·omega
    ·simp only [Value.slice.injEq, true_and] at hv
     obtain ⟨rfl, rfl⟩ := hv
     have hcap := hacc.le_cap
     have hj := Lib.hid (join_any g off c dx dy dz wr hg hcap lx ly lz hc)
     clear hacc hc
     have n1 : ¬ 9223372036854775807 < 1 + (dx ++ [46] ++ dy ++ [46] ++ dz).length := by simp; omega
     go_wp2_with (go_at_call 122; refine hj.out.mono ?_; rintro e w5 ⟨rfl, hb5⟩)
     go_ret
     refine ⟨?_, hb.trans (hb5.mono hbz)⟩
     rw [hvt.out, show ({ data := #[118] } : ByteArray) = ⟨([118] : List UInt8).toArray⟩ from rfl]
     rw [ByteArray.mk_append_mk]
     simp
end Go.Proofs.YthcgihgajdjfoaaGreatDoor
namespace Go.Proofs.YthcgihgajdjfoaaGreatDoor
open Go.RowKit
def lineT (s p : List UInt8) (x y z : Int) : List UInt8 := s ++ [32] ++ p ++ [32] ++ vtext x y z ++ [10]
set_option maxRecDepth 100000 in
set_option maxHeartbeats 4000000 in
theorem refline_any (s p : List UInt8) (x y z : Int) (w : World) (hs : s.length ≤ 1000) (hp : p.length ≤ 1099511627776) :
  Calls Tryz.prog 100 #[.string ⟨s.toArray⟩, .agg #[.string ⟨p.toArray⟩, .int .i64 x, .int .i64 y, .int .i64 z]] w fun e w' => e = .returned (.string ⟨(lineT s p x y z).toArray⟩) ∧ Below w.heap.size w w' := by
 have lt := vtext_len x y z
 have hl := Lib.hid (show lineT s p x y z = s ++ [32] ++ p ++ [32] ++ vtext x y z ++ [10] from rfl)
 have ht := Lib.hid (fun W => refvText_any x y z W)
 generalize vtext x y z = t at lt hl ht
 have n1 : ¬ 9223372036854775807 < s.length + 1 := by omega
 have n2 : ¬ 9223372036854775807 < s.length + 1 + p.length := by omega
 have n3 : ¬ 9223372036854775807 < s.length + 1 + p.length + 1 := by omega
 have n4 : ¬ 9223372036854775807 < s.length + 1 + p.length + 1 + t.length := by omega
 have n5 : ¬ 9223372036854775807 < s.length + 1 + p.length + 1 + t.length + 1 := by omega
 go_enter Tryz.func100, Tryz.ntmps100
 go_wp2
 go_region_held3 (fun W => W.cell? ⟨w.heap.size, 0, none⟩ = some (.string ⟨p.toArray⟩) ∧ W.cell? ⟨w.heap.size, 1, none⟩ = some (.int .i64 x) ∧ W.cell? ⟨w.heap.size, 2, none⟩ = some (.int .i64 y) ∧ W.cell? ⟨w.heap.size, 3, none⟩ = some (.int .i64 z)) (first | (simp; done) | (go_split_ands; (repeat' apply And.intro) <;> (first | assumption | (apply cell_keep; assumption; assumption) | (apply cell_keep_alloc; assumption))))
  (first | (go_at_call 81; refine (ht.out _).mono ?_; rintro e w2 ⟨rfl, hb2⟩))
 go_wp2
 go_ret
 refine ⟨?_, ((Below.refl _ _).alloc (Nat.le_refl _) _).drew.trans (hb2.mono (by simp))⟩
 rw [hl.out, show ({ data := #[32] } : ByteArray) = ⟨([32] : List UInt8).toArray⟩ from rfl, show ({ data := #[10] } : ByteArray) = ⟨([10] : List UInt8).toArray⟩ from rfl]
 simp only [ByteArray.mk_append_mk]
 rfl
set_option maxRecDepth 100000 in
set_option maxHeartbeats 4000000 in
theorem line_any (s p : List UInt8) (x y z : Int) (w : World) (hs : s.length ≤ 1000) (hp : p.length ≤ 1099511627776) (hG : Glob w) :
  Calls Tryz.prog 103 #[.string ⟨s.toArray⟩, .agg #[.string ⟨p.toArray⟩, .int .i64 x, .int .i64 y, .int .i64 z]] w fun e w' => e = .returned (.string ⟨(lineT s p x y z).toArray⟩) ∧ Below w.heap.size w w' := by
 have lt := vtext_len x y z
 have hl := Lib.hid (show lineT s p x y z = s ++ [32] ++ p ++ [32] ++ vtext x y z ++ [10] from rfl)
 have ht := Lib.hid (fun W (hG : Glob W) => vText_any x y z W hG)
 have HG := Lib.hid ((hG.alloc (.cells #[.string ⟨p.toArray⟩, .int .i64 x, .int .i64 y, .int .i64 z] 26)).drew); clear hG
 generalize vtext x y z = t at lt hl ht
 have n1 : ¬ 9223372036854775807 < s.length + 1 := by omega
 have n2 : ¬ 9223372036854775807 < s.length + 1 + p.length := by omega
 have n3 : ¬ 9223372036854775807 < s.length + 1 + p.length + 1 := by omega
 have n4 : ¬ 9223372036854775807 < s.length + 1 + p.length + 1 + t.length := by omega
 have n5 : ¬ 9223372036854775807 < s.length + 1 + p.length + 1 + t.length + 1 := by omega
 go_enter Tryz.func103, Tryz.ntmps103
 go_wp2
 go_region_held3 (fun W => W.cell? ⟨w.heap.size, 0, none⟩ = some (.string ⟨p.toArray⟩) ∧ W.cell? ⟨w.heap.size, 1, none⟩ = some (.int .i64 x) ∧ W.cell? ⟨w.heap.size, 2, none⟩ = some (.int .i64 y) ∧ W.cell? ⟨w.heap.size, 3, none⟩ = some (.int .i64 z)) (first | (simp; done) | (go_split_ands; (repeat' apply And.intro) <;> (first | assumption | (apply cell_keep; assumption; assumption) | (apply cell_keep_alloc; assumption))))
  (first | (go_at_call 78; refine (ht.out _ HG.out).mono ?_; rintro e w2 ⟨rfl, hb2⟩))
 go_wp2
 go_ret
 refine ⟨?_, ((Below.refl _ _).alloc (Nat.le_refl _) _).drew.trans (hb2.mono (by simp))⟩
 rw [hl.out, show ({ data := #[32] } : ByteArray) = ⟨([32] : List UInt8).toArray⟩ from rfl, show ({ data := #[10] } : ByteArray) = ⟨([10] : List UInt8).toArray⟩ from rfl]
 simp only [ByteArray.mk_append_mk]
 rfl
end Go.Proofs.YthcgihgajdjfoaaGreatDoor
