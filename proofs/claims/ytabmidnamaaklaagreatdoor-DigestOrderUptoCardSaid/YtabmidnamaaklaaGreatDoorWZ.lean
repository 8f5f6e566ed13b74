/- Walks: the examples of the chapter (alive). -/
import Derived.Test.YtabmidnamaaklaaGreatDoorPK
namespace Go.Proofs.YtabmidnamaaklaaGreatDoor
open Go.RowKit Go.Sort

theorem slS (w : World) (B g t : Nat) (a b c d : List UInt8) (h : Blk w g t #[.string ⟨a.toArray⟩, .string ⟨b.toArray⟩, .string ⟨c.toArray⟩, .string ⟨d.toArray⟩]) (hB : g < B) : Sl w B 2 encT (some ⟨g, 0, none⟩) [(a, b), (c, d)] := by
  refine .inr ⟨g, 0, rfl, hB, fun i hi j v hv => ?_⟩
  rw [h.cell]
  match i, hi, j, hv with
  | 0, _, 0, hv | 0, _, 1, hv | 1, _, 0, hv | 1, _, 1, hv => simpa [encT] using hv
  | 0, _, j + 2, hv | 1, _, j + 2, hv => simp [encT] at hv
theorem slR1 (w : World) (r : RelA) (t : Nat) : Sl (w.alloc (.cells (encR r).toArray t)) (w.alloc (.cells (encR r).toArray t)).heap.size 6 encR (some ⟨w.heap.size, 0, none⟩) [r] := by
  refine .inr ⟨w.heap.size, 0, rfl, by simp, fun i hi j v hv => ?_⟩
  obtain rfl : i = 0 := by simpa using hi
  simp at hv ⊢
  exact hv

set_option maxRecDepth 100000 in
set_option maxHeartbeats 4000000 in
theorem alive_any (w : World) (hG : Glob w) : Calls Tryz.prog 11 #[] w fun e w' => e = .returned (.bool true) ∧ Below w.heap.size w w' := by
  have c1 := Lib.hid (fun W => Parse_any aH W (by simp [aH, maxLen]))
  have c2 := Lib.hid (fun W => Parse_any aU W (by simp [aU, maxLen]))
  have HG := Lib.hid hG
  clear hG
  go_enter Tryz.func11, Tryz.ntmps11
  go_wp2_with fail
  refine (c1.out _).mono ?_
  rintro e w1 ⟨rfl, hb1⟩
  rw [aH_n, aH_e]
  go_wp2_with fail
  refine (c2.out _).mono ?_
  rintro e w2 ⟨rfl, hb2⟩
  rw [aU_e]
  generalize presN aU = nU
  have hB2 := Lib.hid (hb1.trans (hb2.mono hb1.size))
  clear hb1 hb2 c1 c2
  go_wp2_with fail
  have q0 : Blk ((w2.alloc (.cells #[.string ⟨#[98]⟩, .string ⟨#[]⟩, .string ⟨#[97]⟩, .string ⟨#[120]⟩] 56)).alloc (.cells #[.string ⟨#[109]⟩, .int .i64 1, .int .i64 0, .int .i64 0, .slice none 0 0, .slice (some ⟨w2.heap.size, 0, none⟩) 2 2] 40)) w2.heap.size 56 #[.string ⟨#[98]⟩, .string ⟨#[]⟩, .string ⟨#[97]⟩, .string ⟨#[120]⟩] :=
    (Blk.new w2 _ _).keep ((Below.refl _ _).alloc (Nat.le_refl _) _)
  have q1 : Blk ((w2.alloc (.cells #[.string ⟨#[98]⟩, .string ⟨#[]⟩, .string ⟨#[97]⟩, .string ⟨#[120]⟩] 56)).alloc (.cells #[.string ⟨#[109]⟩, .int .i64 1, .int .i64 0, .int .i64 0, .slice none 0 0, .slice (some ⟨w2.heap.size, 0, none⟩) 2 2] 40)) (w2.heap.size + 1) 40 #[.string ⟨#[109]⟩, .int .i64 1, .int .i64 0, .int .i64 0, .slice none 0 0, .slice (some ⟨w2.heap.size, 0, none⟩) 2 2] := by
    have := Blk.new (w2.alloc (.cells #[.string ⟨#[98]⟩, .string ⟨#[]⟩, .string ⟨#[97]⟩, .string ⟨#[120]⟩] 56)) 40 #[.string ⟨#[109]⟩, .int .i64 1, .int .i64 0, .int .i64 0, .slice none 0 0, .slice (some ⟨w2.heap.size, 0, none⟩) 2 2]
    rwa [World.size_alloc] at this
  have hB3 := (hB2.out.alloc hB2.out.size (.cells #[.string ⟨#[98]⟩, .string ⟨#[]⟩, .string ⟨#[97]⟩, .string ⟨#[120]⟩] 56)).alloc (by have := hB2.out.size; simp; omega) (.cells #[.string ⟨#[109]⟩, .int .i64 1, .int .i64 0, .int .i64 0, .slice none 0 0, .slice (some ⟨w2.heap.size, 0, none⟩) 2 2] 40)
  have hz3 : ((w2.alloc (.cells #[.string ⟨#[98]⟩, .string ⟨#[]⟩, .string ⟨#[97]⟩, .string ⟨#[120]⟩] 56)).alloc (.cells #[.string ⟨#[109]⟩, .int .i64 1, .int .i64 0, .int .i64 0, .slice none 0 0, .slice (some ⟨w2.heap.size, 0, none⟩) 2 2] 40)).heap.size = w2.heap.size + 2 := by simp
  generalize ((w2.alloc (.cells #[.string ⟨#[98]⟩, .string ⟨#[]⟩, .string ⟨#[97]⟩, .string ⟨#[120]⟩] 56)).alloc (.cells #[.string ⟨#[109]⟩, .int .i64 1, .int .i64 0, .int .i64 0, .slice none 0 0, .slice (some ⟨w2.heap.size, 0, none⟩) 2 2] 40)) = W3 at q0 q1 hB3 hz3 ⊢
  have hg0 := hB2.out.size
  generalize w2.heap.size = g at q0 q1 hz3 hg0 ⊢
  have hs0 : Sl W3 W3.heap.size 2 encT (some ⟨g, 0, none⟩) aS := slS W3 _ g _ [98] [] [97] [120] q0 (by omega)
  have HG3 := HG.out.keep hB3
  have cR := relA_any ⟨aM, none, 0, [], some ⟨g, 0, none⟩, 2, aS⟩ W3 ⟨.inl rfl, hs0, by simp, by simp [aS], by simp [aM], by simp [aS, maxLen]⟩ HG3
  rw [show RelA.rel ⟨aM, none, 0, [], some ⟨g, 0, none⟩, 2, aS⟩ = aR from rfl, aR_e] at cR
  have hlen := aR_len
  have hline := Lib.hid aR_line
  generalize rtext aR = rt at cR hlen hline
  refine cR.mono ?_
  rintro e w4 ⟨rfl, hb4⟩
  have p0 := q0.keep hb4
  have p1 := q1.keep hb4
  have hz4 := hb4.size
  have hB4 := Lib.hid (hB3.trans (hb4.mono hB3.size))
  have HLN := Lib.hid hlen
  clear cR q0 q1 hs0 HG3 hb4 hB3 hlen
  have k0 := p1.cell 0
  have k1 := p1.cell 1
  have k2 := p1.cell 2
  have k3 := p1.cell 3
  have k4 := p1.cell 4
  have k5 := p1.cell 5
  simp at k0 k1 k2 k3 k4 k5
  have P0 := Lib.hid p0
  have P1 := Lib.hid p1
  clear p0 p1
  go_wp2_with fail
  have hs1 : Sl (w4.alloc (.cells (encR ⟨aM, none, 0, [], some ⟨g, 0, none⟩, 2, aS⟩).toArray 40)) (w4.alloc (.cells (encR ⟨aM, none, 0, [], some ⟨g, 0, none⟩, 2, aS⟩).toArray 40)).heap.size 2 encT (some ⟨g, 0, none⟩) aS := slS _ _ g _ [98] [] [97] [120] (P0.out.keep ((Below.refl _ _).alloc (Nat.le_refl _) _)) (by simp; omega)
  have cL := List_any (some ⟨w4.heap.size, 0, none⟩) 1 [⟨aM, none, 0, [], some ⟨g, 0, none⟩, 2, aS⟩] (w4.alloc (.cells (encR ⟨aM, none, 0, [], some ⟨g, 0, none⟩, 2, aS⟩).toArray 40)) (slR1 _ _ _)
    (by
      intro r hr
      obtain rfl : r = ⟨aM, none, 0, [], some ⟨g, 0, none⟩, 2, aS⟩ := by simpa using hr
      exact ⟨.inl rfl, hs1, by simp, by simp [aS], by simp [aM], by simp [aS, maxLen]⟩) (by simp) ((HG.out.keep hB4.out).alloc _)
  rw [show [(⟨aM, none, 0, [], some ⟨g, 0, none⟩, 2, aS⟩ : RelA)].map RelA.rel = [aR] from rfl, aL_e, aL_o] at cL
  refine cL.mono ?_
  rintro e w5 ⟨A5, c5, rfl, hS5, hb5, hn5⟩
  have p0 := (P0.out.keep ((Below.refl _ _).alloc (Nat.le_refl _) _)).keep hb5
  have p1 := (P1.out.keep ((Below.refl _ _).alloc (Nat.le_refl _) _)).keep hb5
  have hz5 := hb5.size
  simp at hz5
  have hB5 := Lib.hid ((hB4.out.alloc hB4.out.size _).trans (hb5.mono (by have := hB4.out.size; simp; omega)))
  obtain ⟨b5, off5, rfl, hb5l, hc5⟩ := hS5.str (i := 0) (by simp)
  have hn5' := hn5 _ rfl
  simp at hn5' hc5
  rw [hline.out] at hc5
  clear hn5 hS5 hb5 cL hs1 k0 k1 k2 k3 k4 k5 hline
  have k0 := p1.cell 0
  have k1 := p1.cell 1
  have k2 := p1.cell 2
  have k3 := p1.cell 3
  have k4 := p1.cell 4
  have k5 := p1.cell 5
  have j2 := p0.cell 2
  have f2 := p0.free 2
  simp at k0 k1 k2 k3 k4 k5 j2
  have P0' := Lib.hid p0
  have P1' := Lib.hid p1
  clear p0 p1 P0 P1
  go_wp2_with fail
  have p0 : Blk (w5.setCell ⟨g, 2, none⟩ (.string ⟨#[98]⟩)) g 56 #[.string ⟨#[98]⟩, .string ⟨#[]⟩, .string ⟨#[98]⟩, .string ⟨#[120]⟩] := P0'.out.set_ 2 (.string ⟨#[98]⟩)
  have hc6 : (w5.setCell ⟨g, 2, none⟩ (.string ⟨#[98]⟩)).cell? ⟨b5, off5, none⟩ = some (.string ⟨([109, 32, 118, 49, 46, 48, 46, 48, 32] ++ rt).toArray⟩) := (World.cell?_of_block (Below.heap_setCell w5 ⟨g, 2, none⟩ _ b5 (by show b5 ≠ g; omega))).trans hc5
  have hB6 : Below w.heap.size w (w5.setCell ⟨g, 2, none⟩ (.string ⟨#[98]⟩)) := hB5.out.setCell (p := ⟨g, 2, none⟩) (by show w.heap.size ≤ g; omega) _
  have hz6 : (w5.setCell ⟨g, 2, none⟩ (.string ⟨#[98]⟩)).heap.size = w5.heap.size := by simp [World.setCell]
  generalize w5.setCell ⟨g, 2, none⟩ (.string ⟨#[98]⟩) = W6 at p0 hc6 hB6 hz6 ⊢
  have hs1 : Sl W6 W6.heap.size 2 encT (some ⟨g, 0, none⟩) aS' := slS _ _ g _ [98] [] [98] [120] p0 (by omega)
  have cR := relA_any ⟨aM, none, 0, [], some ⟨g, 0, none⟩, 2, aS'⟩ W6 ⟨.inl rfl, hs1, by simp, by simp [aS'], by simp [aM], by simp [aS', maxLen]⟩ (HG.out.keep hB6)
  rw [show RelA.rel ⟨aM, none, 0, [], some ⟨g, 0, none⟩, 2, aS'⟩ = (aM, [], aS') from rfl, aR_e'] at cR
  generalize rtext (aM, [], aS') = rt' at cR
  refine cR.mono ?_
  rintro e w7 ⟨rfl, hb7⟩
  have hc7 := cell_keep hb7 hc6
  have hB7 := Lib.hid (hB6.trans (hb7.mono hB6.size))
  clear hs1 p0 hc6 hb7 cR hB6 k0 k1 k2 k3 k4 k5 j2 f2 hc5 hz6 hz5 hz4
  have cs0 := Lib.hid (fun W => Sum_any [] W (by simp [maxLen]))
  have cs1 := Lib.hid (fun W => Sum_any [97] W (by simp [maxLen]))
  have ct := Lib.hid (fun W => Text_any (fnv fstart [97]) W (fnv_lt _ _ (by decide)))
  rw [aT] at ct
  rw [fnv_nil] at cs0
  generalize fnv fstart [97] = f1 at cs1 ct
  have hfs : ((fstart : Int) == 14695981039346656037) = true := by decide
  have hln : ((rt.length : Int) == 18) = true := by rw [HLN.out]; rfl
  have hov : ¬ 9223372036854775807 < 9 + rt.length := by rw [HLN.out]; decide
  have heq : (({ data := #[109, 32, 118, 49, 46, 48, 46, 48, 32] } : ByteArray) ++ { data := rt.toArray }) = { data := ([109, 32, 118, 49, 46, 48, 46, 48, 32] ++ rt).toArray } := by
    rw [show ({ data := #[109, 32, 118, 49, 46, 48, 46, 48, 32] } : ByteArray) = ⟨([109, 32, 118, 49, 46, 48, 46, 48, 32] : List UInt8).toArray⟩ from rfl, ByteArray.mk_append_mk]
  generalize fstart = fs at hfs cs0 ⊢
  go_wp2_with fail
  refine (cs0.out _).mono ?_
  rintro e w8 ⟨rfl, hb8⟩
  have hc8 := cell_keep hb8 hc7
  go_wp2_with fail
  refine (cs1.out _).mono ?_
  rintro e w9 ⟨rfl, hb9⟩
  have hc9 := cell_keep hb9 hc8
  go_wp2_with fail
  refine (ct.out _).mono ?_
  rintro e w10 ⟨rfl, hb10⟩
  have hc10 := cell_keep hb10 hc9
  go_wp2_with fail
  go_ret
  exact ⟨rfl, hB7.out.trans (((hb8.trans (hb9.mono hb8.size)).trans (hb10.mono (Nat.le_trans hb8.size hb9.size))).mono hB7.out.size)⟩
end Go.Proofs.YtabmidnamaaklaaGreatDoor
