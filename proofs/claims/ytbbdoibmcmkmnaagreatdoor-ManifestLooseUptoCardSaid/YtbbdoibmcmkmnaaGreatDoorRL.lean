/- Walks: the lines of a text, and the words of a line, by the document (ref44.Lines, ref44.Words). -/
import Derived.Test.YtbbdoibmcmkmnaaGreatDoorPCm
import Derived.Test.YtbbdoibmcmkmnaaGreatDoorWF
import Derived.Test.YtbbdoibmcmkmnaaGreatDoorMem3
import Derived.Test.YtbbdoibmcmkmnaaGreatDoorLN
namespace Go.Proofs.YtbbdoibmcmkmnaaGreatDoor
open Go.RowKit

theorem extr0 (s : List UInt8) (n : Nat) : (({ data := s.toArray } : ByteArray).extract 0 n) = { data := (s.take n).toArray } := by
  rw [ByteArray.extract_mk]
  simp
theorem ret_strs {w w' : World} {l : List (List UInt8)} {A : Option Addr} {n c : Nat} (hn : n = l.length) (h : Sl w' w'.heap.size 1 encS A l) (hb : Below w.heap.size w w') : RetStrs w l (.returned (.slice A n c)) w' := by
  subst hn
  exact ⟨A, c, rfl, h, hb⟩

set_option maxRecDepth 100000 in
set_option maxHeartbeats 4000000 in
theorem refSplitC_any (l : List UInt8) (b : UInt8) (w : World) (hs : l.length ≤ 1099511627776) :
    Calls Tryz.prog 38 #[.string ⟨l.toArray⟩, .int .u8 b.toNat] w fun e w' => ∃ A c, e = .returned (.slice A (splitL b l).length c) ∧ (splitL b l).length ≤ c ∧ (∀ a, A = some a → w.heap.size ≤ a.block) ∧ Sl w' w'.heap.size 1 encS A (splitL b l) ∧ Below w.heap.size w w' := by
  go_enter Tryz.func38, Tryz.ntmps38
  go_wp2
  go_loopw [5, 6, 7] (fun v fr i wr => ∃ k f P, k ≤ l.length ∧ f ≤ k ∧ P.length ≤ f ∧ i = .int .i64 (k : Nat) ∧ fr = .int .i64 (f : Nat) ∧ wr.ownsRow w.heap.size 9 1 v P.length (strs P) ∧ Below w.heap.size w wr ∧ Hid (splitL b l = P ++ splitL b (l.drop f)) ∧ Hid (∀ j, f ≤ j → j < k → l.getD j 0 ≠ b))
    (fun _ _ i _ => l.length - (intOf i).toNat)
  case atStart => exact ⟨0, 0, [], Nat.zero_le _, Nat.le_refl _, Nat.le_refl _, rfl, rfl, World.ownsRow_nil _ _ _ _, Below.refl _ _, rfl, fun j h1 h2 => by omega⟩
  case round =>
    obtain ⟨k, f, P, hk, hfk, hPf, rfl, rfl, hacc, hb, HS, HN⟩ := hrel
    obtain ⟨A, c, rfl⟩ := Acc.shape (.inl hacc)
    have hbz := hb.size
    by_cases hlt : k < l.length
    · have hg : l.getD k 0 = (({ data := l.toArray } : ByteArray)[k]) := by simp [hlt]; rfl
      have HG := Lib.hid hg; clear hg
      cases he : ((({ data := l.toArray } : ByteArray)[k].toNat : Int) == (b.toNat : Int))
      · go_wp2
        go_roundw
        case rel =>
          have hne : ¬ l.getD k 0 = b := by
            rw [HG.out]; intro e; rw [e] at he; simp at he
          exact ⟨k + 1, f, P, by omega, by omega, hPf, by go_num, rfl, hacc, hb, HS, fun j h1 h2 => by
            by_cases hj : j = k
            · subst hj; exact hne
            · exact HN.out j h1 (by omega)⟩
        case measure => simp [intOf]; omega
      · go_wp2_with (at_builtin; refine wpList_own rfl (.tmp 19) (.tmp 24) rfl w.heap.size elStr _ _ _ rfl (own_below2 hacc ((Below.refl _ _).alloc (Nat.le_refl _) _)) _ 1 1 _ rfl (Src.lit _ 1 _ _ 1 rfl) (by decide) (by simp [Value.oneCell']) (by simp only [maxLen]; omega) (by omega) (by simp; omega) ?_; intro v' w1 hacc' _ hb')
        go_roundw
        case rel =>
          have heq : l.getD k 0 = b := by
            rw [HG.out]
            have : (({ data := l.toArray } : ByteArray)[k]).toNat = b.toNat := by
              have := beq_iff_eq.1 he
              omega
            exact UInt8.toNat_inj.1 this
          refine ⟨k + 1, k + 1, P ++ [(l.drop f).take (k - f)], by omega, by omega, by simp; omega, by go_num, by go_num, ?_, (hb.alloc hbz _).trans hb', split_step b l P f k hfk hlt HS.out HN.out heq, fun j h1 h2 => by omega⟩
          rw [strs_snoc, ← ByteArray.extract_mk]
          simpa using hacc'
        case measure => simp [intOf]; omega
    · obtain rfl : k = l.length := by omega
      have hf2 : f ≤ l.length := hfk
      go_wp2_with (at_builtin; refine wpList_own rfl (.tmp 28) (.tmp 32) rfl w.heap.size elStr _ _ _ rfl (own_below2 hacc ((Below.refl _ _).alloc (Nat.le_refl _) _)) _ 1 1 _ rfl (Src.lit _ 1 _ _ 1 rfl) (by decide) (by simp [Value.oneCell']) (by simp only [maxLen]; omega) (by omega) (by simp; omega) ?_; intro v' w1 hacc' _ hb')
      go_ret
      have hsp := split_end b l P f HS.out HN.out
      have e1 : strs P ++ [Value.string (({ data := l.toArray } : ByteArray).extract f l.length)] = strs (splitL b l) := by
        rw [hsp, strs_snoc, ByteArray.extract_mk, List.take_of_length_le (by simp)]
      rw [e1] at hacc'
      obtain ⟨A', c', rfl⟩ := Acc.shape (.inl hacc')
      obtain ⟨h1, h2⟩ := Acc.strs_ (.inl hacc')
      have h3 := Acc.cap (.inl hacc')
      have h4 := own_at hacc'
      rw [h1] at h3 ⊢
      exact ⟨A', c', rfl, h3, h4, h2, (hb.alloc hbz _).trans hb'⟩

/-- a function hands back a slice of strings in new memory, and none of it is old -/
def RetNew (w : World) (l : List (List UInt8)) (e : Ending) (w' : World) : Prop :=
  ∃ A c, e = .returned (.slice A l.length c) ∧ (∀ a, A = some a → w.heap.size ≤ a.block) ∧ Sl w' w'.heap.size 1 encS A l ∧ Below w.heap.size w w'
theorem ret_new {w w' : World} {l : List (List UInt8)} {A : Option Addr} {n c : Nat} (hn : n = l.length) (ha : ∀ a, A = some a → w.heap.size ≤ a.block) (h : Sl w' w'.heap.size 1 encS A l) (hb : Below w.heap.size w w') : RetNew w l (.returned (.slice A n c)) w' := by
  subst hn
  exact ⟨A, c, rfl, ha, h, hb⟩

set_option maxRecDepth 100000 in
set_option maxHeartbeats 4000000 in
theorem refLines_any (s : List UInt8) (w : World) (hs : s.length ≤ 1099511627776) :
    Calls Tryz.prog 24 #[.string ⟨s.toArray⟩] w (RetNew w (linesP s)) := by
  obtain ⟨hsl, _⟩ := splitL_len 10 s
  have hne := List.length_pos_iff.2 (splitL_ne 10 s)
  have hL : linesP s = if (splitL 10 s).getLast? = some [] then (splitL 10 s).dropLast else splitL 10 s := rfl
  have hcall := Lib.hid (refSplitC_any s 10 w hs)
  generalize linesP s = R at hL ⊢
  generalize splitL 10 s = L at hsl hne hL hcall
  obtain ⟨m, hm⟩ : ∃ m, m = L.length - 1 := ⟨_, rfl⟩
  have hmL : m < L.length := by omega
  have hmI : (m : Int) < (L.length : Int) := by omega
  have hw : IntKind.i64.wrap ((L.length : Int) - 1) = (m : Int) := by simp [IntKind.wrap, IntKind.bits, IntKind.signed]; omega
  have hlast : L.getLast? = some L[m] := by rw [List.getLast?_eq_getElem?, ← hm, List.getElem?_eq_getElem hmL]
  have hdl : L.dropLast = L.take m := by rw [List.dropLast_eq_take, ← hm]
  rw [hlast, hdl] at hL
  have HR := Lib.hid hL
  clear hL hlast hdl hm
  go_enter Tryz.func24, Tryz.ntmps24
  go_wp2_with fail
  refine hcall.out.mono ?_
  rintro e w1 ⟨A, c, rfl, hcap, hnew, hA, hb⟩
  have HB := Lib.hid hb
  have HNW := Lib.hid hnew
  have HA := Lib.hid hA
  obtain ⟨b, off, rfl, hbB, g0⟩ := hA.str hmL
  have rc := fun X => run_cut_hi elStr (some ⟨b, off, none⟩) L.length c m (by omega) X
  clear hb hA hcall hnew
  generalize hT : L[m] = t at g0 HR
  by_cases ht : t = []
  · have hR := Lib.hid (show R = L.take m by rw [HR.out, if_pos (by rw [ht])])
    subst ht
    clear hT HR
    go_wp2
    go_ret
    rw [hR.out]
    exact ret_new (by simp; omega) HNW.out (HA.out.take m) HB.out
  · have hR := Lib.hid (show R = L by rw [HR.out, if_neg (fun e => ht (by injection e))])
    have ht' : (t == []) = false := beq_eq_false_iff_ne.2 ht
    clear ht hT HR
    go_wp2
    go_ret
    rw [hR.out]
    exact ret_new rfl HNW.out HA.out HB.out

set_option maxRecDepth 100000 in
set_option maxHeartbeats 4000000 in
theorem refWords_any (s : List UInt8) (w : World) (hs : s.length ≤ 1099511627776) :
    Calls Tryz.prog 46 #[.string ⟨s.toArray⟩] w (RetStrs w (wordsL s)) := by
  go_enter Tryz.func46, Tryz.ntmps46
  go_wp2
  go_loop [0, 3] (fun t i => ∃ (k : Nat) (u : List UInt8), t = .string ⟨u.toArray⟩ ∧ i = .int .i64 (k : Nat) ∧ u.length ≤ s.length ∧ k ≤ s.length ∧ Hid (cmt u = cmt s) ∧ Hid (∀ j, j < k → ¬ ccAt u j)) (fun _ i => s.length + 1 - (intOf i).toNat)
  case atStart => exact ⟨0, s, rfl, rfl, Nat.le_refl _, Nat.zero_le _, Lib.hid rfl, Lib.hid (fun j h => by omega)⟩
  case round =>
    obtain ⟨k, u, rfl, rfl, hu, hk, HU, HJ⟩ := hrel
    by_cases hlt : k + 1 < u.length
    · have hlt' : (k : Int) + 1 < (u.length : Int) := by omega
      have hk0 : k < u.length := by omega
      have e1 : ({ data := u.toArray } : ByteArray)[k]'hk0 = u[k] := rfl
      have e2 : ({ data := u.toArray } : ByteArray)[k + 1]'hlt = u[k + 1] := rfl
      have HE1 := Lib.hid e1
      have HE2 := Lib.hid e2
      clear e1 e2
      have HH := Lib.hid (show ∀ h1 : u[k].toNat = 47, ∀ h2 : u[k + 1].toNat = 47, cmt (u.take k) = cmt s ∧ (∀ j, j < k + 1 → ¬ ccAt (u.take k) j) from fun h1 h2 => by
        have q1 : u[k] = 47 := UInt8.toNat_inj.1 h1
        have q2 : u[k + 1] = 47 := UInt8.toNat_inj.1 h2
        have hc : ccAt u k := ⟨by rw [List.getElem?_eq_getElem (by omega), q1], by rw [List.getElem?_eq_getElem hlt, q2]⟩
        have hn : ∀ j, ¬ ccAt (u.take k) j := fun j hj => by
          have hj2 : j + 1 < (u.take k).length := (List.getElem?_eq_some_iff.1 hj.2).1
          simp at hj2
          refine HJ.out j (by omega) ⟨?_, ?_⟩
          · rw [← hj.1, List.getElem?_take, if_pos (by omega)]
          · rw [← hj.2, List.getElem?_take, if_pos (by omega)]
        refine ⟨?_, fun j _ => hn j⟩
        rw [cmt_miss _ hn, ← HU.out, cmt_hit u k hc HJ.out])
      have HM := Lib.hid (show ∀ h : ¬ (u[k].toNat = 47 ∧ u[k + 1].toNat = 47), ∀ j, j < k + 1 → ¬ ccAt u j from fun h j hj hc => by
        by_cases hjk : j < k
        · exact HJ.out j hjk hc
        · obtain rfl : j = k := by omega
          have h1 := hc.1
          have h2 := hc.2
          rw [List.getElem?_eq_getElem (by omega)] at h1
          rw [List.getElem?_eq_getElem hlt] at h2
          injection h1 with h1
          injection h2 with h2
          exact h ⟨by rw [h1]; rfl, by rw [h2]; rfl⟩)
      cases h1 : (((({ data := u.toArray } : ByteArray)[k]'hk0).toNat : Int) == 47)
      · have N1 := Lib.hid (show ∀ j, j < k + 1 → ¬ ccAt u j from HM.out fun h => by
          have h3 := h.1
          rw [← HE1.out] at h3
          rw [h3] at h1
          revert h1
          decide)
        go_wp2
        go_round
        case rel => exact ⟨k + 1, u, rfl, by go_num, hu, by omega, HU, N1⟩
        case measure => simp [intOf]; omega
      · cases h2 : (((({ data := u.toArray } : ByteArray)[k + 1]'hlt).toNat : Int) == 47)
        · have N1 := Lib.hid (show ∀ j, j < k + 1 → ¬ ccAt u j from HM.out fun h => by
            have h3 := h.2
            rw [← HE2.out] at h3
            rw [h3] at h2
            revert h2
            decide)
          go_wp2
          go_round
          case rel => exact ⟨k + 1, u, rfl, by go_num, hu, by omega, HU, N1⟩
          case measure => simp [intOf]; omega
        · have hh := HH.out (by rw [← HE1.out]; have := beq_iff_eq.1 h1; omega) (by rw [← HE2.out]; have := beq_iff_eq.1 h2; omega)
          have HHH := Lib.hid hh
          clear hh
          go_wp2
          go_round
          case rel => exact ⟨k + 1, u.take k, by rw [extr0], by go_num, by simp; omega, by omega, Lib.hid HHH.out.1, Lib.hid HHH.out.2⟩
          case measure => simp [intOf]; omega
    · have hlt' : ¬ (k : Int) + 1 < (u.length : Int) := by omega
      have hcm : u = cmt s := by
        rw [← HU.out, cmt_miss]
        intro j hj
        have hj2 : j + 1 < u.length := (List.getElem?_eq_some_iff.1 hj.2).1
        exact HJ.out j (by omega) hj
      have hW : wordsL s = keepW (splitL 32 u) := by rw [hcm]; rfl
      clear HU HJ hcm
      obtain ⟨hsl, _⟩ := splitL_len 32 u
      have hcall := Lib.hid (fun W => refSplit_any u 32 W (by omega))
      generalize splitL 32 u = L at hW hsl hcall
      have HW := Lib.hid hW
      clear hW
      go_wp2_with (go_at_call 38; refine (hcall.out _).mono ?_; rintro e w1 ⟨A, c, rfl, hA, hb1⟩)
      clear hcall
      have hz1 := hb1.size
      go_loopw [4, 31] (fun v i wr => ∃ j, j ≤ L.length ∧ i = .int .i64 (j : Nat) ∧ Acc wr w1.heap.size 9 1 v (keepW (L.take j)).length (strs (keepW (L.take j))) ∧ Below w1.heap.size w1 wr ∧ Below w.heap.size w wr) (fun _ i _ => L.length - (intOf i).toNat)
      case atStart => exact ⟨0, Nat.zero_le _, rfl, Acc.nil_ _ _ _ _, Below.refl _ _, hb1⟩
      case round =>
        obtain ⟨j, hj, rfl, hacc, hbr, hb⟩ := hrel
        have hbz := hb.size
        have hbrz := hbr.size
        have hkl := keepW_len (L.take j)
        have hk2 : (L.take j).length ≤ j := by simp; omega
        by_cases hjt : j < L.length
        · have hjt' : (j : Int) < (L.length : Int) := by omega
          obtain ⟨b, off, rfl, hbB, g0⟩ := (hA.below hbr).str hjt
          have HS := Lib.hid (keepW_snoc L j hjt)
          generalize L[j] = t at g0 HS
          generalize keepW (L.take j) = P at hacc HS hkl
          by_cases ht : t = []
          · subst ht
            go_wp2
            go_roundw
            case rel =>
              refine ⟨j + 1, by omega, by go_num, ?_, hbr, hb⟩
              rw [HS.out, if_pos rfl]
              exact hacc
            case measure => simp [intOf]; omega
          · have ht' : (t == []) = false := beq_eq_false_iff_ne.2 ht
            have ht2 : (t != []) = true := by simpa using ht
            obtain ⟨A2, c2, rfl⟩ := hacc.shape
            have HT := Lib.hid ht
            clear ht
            go_wp2_with (at_builtin; refine wpList_app _ rfl (.tmp 37) (.tmp 39) 43 rfl w1.heap.size 9 1 16 elStr _ _ _ rfl (hacc.alloc _) _ 1 _ _ rfl (Src.lit _ 1 _ _ 1 rfl) (by simp [Value.oneCell']) (by simp only [maxLen]; omega) (by omega) (by simp; omega) ?_; intro v' w3 hacc' _ hb' _ _)
            go_roundw
            case rel =>
              refine ⟨j + 1, by omega, by go_num, ?_, (hbr.alloc hbr.size _).trans hb', (hb.alloc hbz _).trans (hb'.mono hz1)⟩
              rw [HS.out, if_neg HT.out, strs_snoc]
              simpa using hacc'
            case measure => simp [intOf]; omega
        · obtain rfl : j = L.length := by omega
          rw [List.take_of_length_le (Nat.le_refl _)] at hacc
          obtain ⟨A2, c2, rfl⟩ := hacc.shape
          obtain ⟨_, h2⟩ := hacc.strs_
          have H2 := Lib.hid h2
          have HBB := Lib.hid hb
          clear h2 hacc hb
          go_wp2
          go_ret
          rw [HW.out]
          exact ret_strs rfl H2.out HBB.out
end Go.Proofs.YtbbdoibmcmkmnaaGreatDoor
