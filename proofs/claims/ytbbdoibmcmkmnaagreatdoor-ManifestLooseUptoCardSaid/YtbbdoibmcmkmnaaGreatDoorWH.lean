/- Walks: the texts of versions and of lines. -/
import Derived.Test.YtbbdoibmcmkmnaaGreatDoorWG
import Derived.Lib.AppendIntMem
import Derived.Deep.DeepFit
namespace Go.Proofs.YtbbdoibmcmkmnaaGreatDoor
open Go.RowKit

theorem Acc.le_cap {w : World} {base e size n c : Nat} {A : Option Addr} {xs : List Value} (h : Acc w base e size (.slice A n c) n xs) : n ≤ c := by
  rcases h with h | ⟨_, g, off, hv, _, _⟩
  · rcases h.2 with ⟨hv, rfl⟩ | ⟨g, cap, cur, hv, _, _, hnc, _⟩
    · exact Nat.zero_le _
    · injection hv with _ _ h3
      omega
  · injection hv with _ _ h3
    omega

theorem itoa_any (n : Int) (w : World) (h0 : 0 ≤ n) (h1 : n ≤ 9999) (hG : Glob w) :
    Calls Tryz.prog 72 #[.int .i64 n] w fun e w' => e = .returned (.string ⟨(dec n).toArray⟩) ∧ Below w.heap.size w w' :=
  (Tryz.strconv_Itoa n (by omega) (by omega) w hG.2.2).mono fun e w' ⟨he, k, os, hw⟩ => by
    refine ⟨?_, ?_⟩
    · rw [he, Lib.itoa, if_neg (by omega)]; rfl
    · rw [hw]; exact Lib.below_grow _ _ (Nat.le_refl _) k os

theorem join3 (a b c : List UInt8) : Lib.join [a, b, c] [46] = a ++ [46] ++ b ++ [46] ++ c := by
  simp [Lib.join, List.intercalate, List.intersperse]

theorem join_any (g off c : Nat) (a b d : List UInt8) (w : World) (hg : g < w.heap.size) (h3 : 3 ≤ c) (ha : a.length ≤ 4) (hb : b.length ≤ 4) (hd : d.length ≤ 4)
    (hc : ∀ j u, (strs [a, b, d])[j]? = some u → w.cell? ⟨g, off + j, none⟩ = some u) :
    Calls Tryz.prog 73 #[.slice (some ⟨g, off, none⟩) 3 c, .string ⟨#[46]⟩] w fun e w' => e = .returned (.string ⟨(a ++ [46] ++ b ++ [46] ++ d).toArray⟩) ∧ Below w.heap.size w w' := by
  have h := Tryz.strings_Join g off c [⟨a.toArray⟩, ⟨b.toArray⟩, ⟨d.toArray⟩] ⟨#[46]⟩ w (fun j x hx => hc j _ (by
    match j, hx with
    | 0, hx => simp at hx; subst hx; rfl
    | 1, hx => simp at hx; subst hx; rfl
    | 2, hx => simp at hx; subst hx; rfl)) hg (by simp) h3 (by
      show (Lib.join [a, b, d] [46]).length ≤ _
      rw [join3]; simp; omega)
  have e : Lib.join (([⟨a.toArray⟩, ⟨b.toArray⟩, ⟨d.toArray⟩] : List ByteArray).map (·.data.toList)) ((⟨#[46]⟩ : ByteArray).data.toList) = a ++ [46] ++ b ++ [46] ++ d := join3 a b d
  rw [e] at h
  exact h

set_option maxRecDepth 100000 in
set_option maxHeartbeats 4000000 in
theorem vText_any (x y z : Int) (w : World) (hG : Glob w) :
    Calls Tryz.prog 57 #[.agg #[.int .i64 x, .int .i64 y, .int .i64 z]] w fun e w' => e = .returned (.string ⟨(vtext x y z).toArray⟩) ∧ Below w.heap.size w w' := by
  have hcall := fun W => Valid_any x y z W
  cases hv : vok x y z
  · have hvt := Lib.hid (show vtext x y z = [63] by simp [vtext, hv])
    rw [hv] at hcall
    clear hv
    go_enter Tryz.func57, Tryz.ntmps57
    go_wp2_with (go_at_call 34; refine (hcall _).mono ?_; rintro e w' ⟨rfl, hb⟩)
    go_ret
    exact ⟨by rw [hvt.out]; rfl, ((Below.refl _ _).alloc (Nat.le_refl _) _).trans (hb.mono (by simp))⟩
  · have hvt := Lib.hid (show vtext x y z = [118] ++ dec x ++ [46] ++ dec y ++ [46] ++ dec z by simp [vtext, hv])
    rw [hv] at hcall
    simp [vok] at hv
    obtain ⟨⟨⟨hx0, hx1⟩, hy0, hy1⟩, hz0, hz1⟩ := hv
    have lx := dec_len x hx1
    have ly := dec_len y hy1
    have lz := dec_len z hz1
    have cx := Lib.hid (fun W => itoa_any x W hx0 hx1)
    have cy := Lib.hid (fun W => itoa_any y W hy0 hy1)
    have cz := Lib.hid (fun W => itoa_any z W hz0 hz1)
    have HG := Lib.hid hG
    clear hG
    generalize dec x = dx at lx hvt cx
    generalize dec y = dy at ly hvt cy
    generalize dec z = dz at lz hvt cz
    go_enter Tryz.func57, Tryz.ntmps57
    go_wp2_with (first
      | (go_at_call 34; refine (hcall _).mono ?_; rintro e w1 ⟨rfl, hb1⟩; have k0 := cell_keep (p := ⟨w.heap.size, 0, none⟩) (v := .int .i64 x) hb1 (by simp); have k1 := cell_keep (p := ⟨w.heap.size, 1, none⟩) (v := .int .i64 y) hb1 (by simp); have k2 := cell_keep (p := ⟨w.heap.size, 2, none⟩) (v := .int .i64 z) hb1 (by simp))
      | (go_at_call 54; refine (numbers_any _ _ _ _).mono ?_; rintro e w2 ⟨rfl, hb2⟩))
    have hB : Below w.heap.size w w1 := ((Below.refl _ _).alloc (Nat.le_refl _) _).trans (hb1.mono (by simp))
    have hB2 : Below w.heap.size w w2 := hB.trans (hb2.toBelow.mono hB.size)
    clear hB hb1 hcall hb2 k0 k1 k2
    have i0 : ∀ w, (Instr.index 74 (.agg #[.int .i64 x, .int .i64 y, .int .i64 z]) (.int .i64 0)).run Tryz.prog w = .ok (.int .i64 x) w := fun _ => by kernel_rfl
    have i1 : ∀ w, (Instr.index 74 (.agg #[.int .i64 x, .int .i64 y, .int .i64 z]) (.int .i64 1)).run Tryz.prog w = .ok (.int .i64 y) w := fun _ => by kernel_rfl
    have i2 : ∀ w, (Instr.index 74 (.agg #[.int .i64 x, .int .i64 y, .int .i64 z]) (.int .i64 2)).run Tryz.prog w = .ok (.int .i64 z) w := fun _ => by kernel_rfl
    go_loopw [3, 11] (fun v i wr => ∃ k : Nat, k ≤ 3 ∧ i = .int .i64 (k : Nat) ∧ Acc wr w.heap.size 9 1 v k (strs ([dx, dy, dz].take k)) ∧ Below w.heap.size w wr) (fun _ i _ => (3 - intOf i).toNat)
    case atStart => exact ⟨0, by omega, rfl, Acc.nil_ _ _ _ _, hB2⟩
    case round =>
      obtain ⟨k, hk, rfl, hacc, hb⟩ := hrel
      obtain ⟨A, c, rfl⟩ := hacc.shape
      have hbz := hb.size
      rcases (show k = 0 ∨ k = 1 ∨ k = 2 ∨ k = 3 by omega) with rfl | rfl | rfl | rfl
      · go_wp2_with (first
          | (go_at_call 72; refine (cx.out _ (HG.out.keep hb)).mono ?_; rintro e w3 ⟨rfl, hb3⟩; have hacc3 := hacc.below hb3)
          | (at_builtin; refine wpList_app _ rfl (.tmp 14) (.tmp 17) 43 rfl w.heap.size 9 1 16 elStr _ _ _ rfl (hacc3.alloc _) _ 1 _ _ rfl (Src.lit _ 1 _ _ 1 rfl) (by simp [Value.oneCell']) (by simp only [maxLen]; omega) (by omega) (by have := hb3.size; simp; omega) ?_; intro v' w4 hacc' _ hb' _ _))
        go_roundw
        case rel => exact ⟨1, by omega, rfl, hacc', ((hb.trans (hb3.mono hbz)).alloc (Nat.le_trans hbz hb3.size) _).trans hb'⟩
        case measure => simp [intOf]
      · go_wp2_with (first
          | (go_at_call 72; refine (cy.out _ (HG.out.keep hb)).mono ?_; rintro e w3 ⟨rfl, hb3⟩; have hacc3 := hacc.below hb3)
          | (at_builtin; refine wpList_app _ rfl (.tmp 14) (.tmp 17) 43 rfl w.heap.size 9 1 16 elStr _ _ _ rfl (hacc3.alloc _) _ 1 _ _ rfl (Src.lit _ 1 _ _ 1 rfl) (by simp [Value.oneCell']) (by simp only [maxLen]; omega) (by omega) (by have := hb3.size; simp; omega) ?_; intro v' w4 hacc' _ hb' _ _))
        go_roundw
        case rel => exact ⟨2, by omega, rfl, hacc', ((hb.trans (hb3.mono hbz)).alloc (Nat.le_trans hbz hb3.size) _).trans hb'⟩
        case measure => simp [intOf]
      · go_wp2_with (first
          | (go_at_call 72; refine (cz.out _ (HG.out.keep hb)).mono ?_; rintro e w3 ⟨rfl, hb3⟩; have hacc3 := hacc.below hb3)
          | (at_builtin; refine wpList_app _ rfl (.tmp 14) (.tmp 17) 43 rfl w.heap.size 9 1 16 elStr _ _ _ rfl (hacc3.alloc _) _ 1 _ _ rfl (Src.lit _ 1 _ _ 1 rfl) (by simp [Value.oneCell']) (by simp only [maxLen]; omega) (by omega) (by have := hb3.size; simp; omega) ?_; intro v' w4 hacc' _ hb' _ _))
        go_roundw
        case rel => exact ⟨3, by omega, rfl, hacc', ((hb.trans (hb3.mono hbz)).alloc (Nat.le_trans hbz hb3.size) _).trans hb'⟩
        case measure => simp [intOf]
      · rcases hacc.cells with h0 | ⟨g, off, c', hv, hg, hc⟩
        · omega
        · simp only [Value.slice.injEq, true_and] at hv
          obtain ⟨rfl, rfl⟩ := hv
          have hcap := hacc.le_cap
          have hj := Lib.hid (join_any g off c dx dy dz wr hg hcap lx ly lz hc)
          clear hacc hc
          have n1 : ¬ 9223372036854775807 < 1 + (dx ++ [46] ++ dy ++ [46] ++ dz).length := by simp; omega
          go_wp2_with (go_at_call 73; refine hj.out.mono ?_; rintro e w5 ⟨rfl, hb5⟩)
          go_ret
          refine ⟨?_, hb.trans (hb5.mono hbz)⟩
          rw [hvt.out, show ({ data := #[118] } : ByteArray) = ⟨([118] : List UInt8).toArray⟩ from rfl]
          rw [ByteArray.mk_append_mk]
          simp
end Go.Proofs.YtbbdoibmcmkmnaaGreatDoor
