/- Walks: small modules and the chapter's registry (mod, registry), small. -/
import Derived.Test.YtfiilbdkhelhgaaDoorWL1
import Derived.Test.YtfiilbdkhelhgaaDoorWS8
import Derived.Test.YtfiilbdkhelhgaaDoorG3
namespace Go.Proofs.YtfiilbdkhelhgaaDoor
open Go.RowKit Go.Sort

/-- a module with a version 1.n.0 -/
def modP (p : List UInt8) (n : Int) : Mod := (p, 1, n, 0)
def exR : Regy := [(modP [98] 0, [modP [97] 2]), (modP [97] 2, []), (modP [97] 1, [])]
def exRoot : Mod := modP [109] 0
def exL : List Mod := [modP [97] 1, modP [98] 0]
set_option maxRecDepth 100000 in
set_option maxHeartbeats 1000000 in
theorem mod_any (p : ByteArray) (n : Int) (w : World) :
    Calls Tryd.prog 25 #[.string p, .int .i64 n] w fun e w' => e = .returned (.agg #[.string p, .int .i64 1, .int .i64 n, .int .i64 0]) ∧ Below w.heap.size w w' := by
  go_enter Tryd.func25, Tryd.ntmps25
  go_wp2
  refine bodyPost_ret (v := .agg #[.string p, .int .i64 1, .int .i64 n, .int .i64 0]) (by simp [results, Tryd.results25, go_sem]) rfl ⟨rfl, (Below.refl _ _).alloc (Nat.le_refl _) _⟩

theorem blk_far {W : World} {g : Nat} {t : TypeId} {cs : Array Value} (h : Blk W g t cs) (p : Addr) (v : Value) (hne : g ≠ p.block) : Blk (W.setCell p v) g t cs := (Below.heap_setCell W p v g hne).trans h
theorem sl_of_blk {α : Type} {enc : α → List Value} {W : World} {g k : Nat} {t : TypeId} {cs : Array Value} {l : List α} (h : Blk W g t cs) (hk : ∀ x, (enc x).length = k) (h0 : 0 < k) (he : cs.toList = l.flatMap enc) : Sl W W.heap.size k enc (some ⟨g, 0, none⟩) l := by
  have hA : Acc W 0 t k (.slice (some ⟨g, 0, none⟩) l.length l.length) l.length (l.flatMap enc) := .inr ⟨flat_len hk l, g, 0, rfl, h.lt, fun j u hu => by
    rw [Nat.zero_add, h.cell j]
    rw [← he] at hu
    simpa using hu⟩
  exact (hA.sl hk h0).2
theorem okB_ex {p : List UInt8} {n : Int} (hp : p.length ≤ 1) (hn : (Lit.int .i64 n).wf = true) : okB (modP p n) := ⟨Nat.le_trans hp (by decide), show okI 1 from (show (Lit.int .i64 1).wf = true by decide), hn, show okI 0 from (show (Lit.int .i64 0).wf = true by decide)⟩
set_option maxRecDepth 100000 in
set_option maxHeartbeats 4000000 in
theorem registry_any (w : World) :
    Calls Tryd.prog 24 #[] w fun e w' => ∃ (Y : List ManW) (A : Option Addr) (c : Nat) (y0 : ManW), e = .returned (.tuple #[.slice A Y.length c, .agg #[.string ⟨y0.1.1.toArray⟩, .int .i64 y0.1.2.1, .int .i64 y0.1.2.2.1, .int .i64 y0.1.2.2.2, .slice y0.2.1 y0.2.2.2.length y0.2.2.1]]) ∧
      regW Y = exR ∧ y0.1 = exRoot ∧ y0.2.2.2 = exL ∧ RegOk w' w'.heap.size A Y ∧ ManOk w' w'.heap.size y0 ∧ Below w.heap.size w w' := by
  have R0 := Lib.hid (Blk.new w 29 #[.string ⟨#[]⟩, .int .i64 0, .int .i64 0, .int .i64 0, .slice none 0 0])
  have HB0 := Lib.hid (show Below w.heap.size w (w.alloc (.cells #[.string ⟨#[]⟩, .int .i64 0, .int .i64 0, .int .i64 0, .slice none 0 0] 29)) from (Below.refl _ _).alloc (Nat.le_refl _) _)
  have hz0 : w.heap.size + 1 ≤ (w.alloc (.cells #[.string ⟨#[]⟩, .int .i64 0, .int .i64 0, .int .i64 0, .slice none 0 0] 29)).heap.size := by simp
  go_enter Tryd.func24, Tryd.ntmps24
  go_wp2_with fail
  refine (mod_any _ _ _).mono ?_
  rintro e w1 ⟨rfl, hb1⟩
  have R1 := Lib.hid (R0.out.keep hb1)
  have HB1 := Lib.hid (HB0.out.trans (hb1.mono HB0.out.size))
  have hz1 := Nat.le_trans hz0 hb1.size
  clear hb1
  go_wp2_with fail
  refine (mod_any _ _ _).mono ?_
  rintro e w2 ⟨rfl, hb2⟩
  have R2 := Lib.hid (R1.out.keep hb2)
  have HB2 := Lib.hid (HB1.out.trans (hb2.mono HB1.out.size))
  have hz2 := Nat.le_trans hz1 hb2.size
  clear hb2
  have ha3 : Below w2.heap.size w2 (w2.alloc (.cells #[.string ⟨#[97]⟩, .int .i64 1, .int .i64 2, .int .i64 0] 26)) := (Below.refl _ _).alloc (Nat.le_refl _) _
  have R3 := Lib.hid (R2.out.keep ha3)
  have P3 := Lib.hid (Blk.new w2 26 #[.string ⟨#[97]⟩, .int .i64 1, .int .i64 2, .int .i64 0])
  have HB3 := Lib.hid (HB2.out.trans (ha3.mono HB2.out.size))
  have hz3 := Nat.le_trans hz2 ha3.size
  clear ha3
  go_wp2_with fail
  refine (mod_any _ _ _).mono ?_
  rintro e w4 ⟨rfl, hb4⟩
  have R4 := Lib.hid (R3.out.keep hb4)
  have P4 := Lib.hid (P3.out.keep hb4)
  have HB4 := Lib.hid (HB3.out.trans (hb4.mono HB3.out.size))
  have hz4 := Nat.le_trans hz3 hb4.size
  clear hb4
  go_wp2_with fail
  refine (mod_any _ _ _).mono ?_
  rintro e w5 ⟨rfl, hb5⟩
  have R5 := Lib.hid (R4.out.keep hb5)
  have P5 := Lib.hid (P4.out.keep hb5)
  have HB5 := Lib.hid (HB4.out.trans (hb5.mono HB4.out.size))
  have hz5 := Nat.le_trans hz4 hb5.size
  clear hb5
  have ha6 : Below w5.heap.size w5 (w5.alloc (.cells #[.string ⟨#[98]⟩, .int .i64 1, .int .i64 0, .int .i64 0, .slice (some ⟨w2.heap.size, 0, none⟩) 1 1, .string ⟨#[97]⟩, .int .i64 1, .int .i64 2, .int .i64 0, .slice none 0 0, .string ⟨#[97]⟩, .int .i64 1, .int .i64 1, .int .i64 0, .slice none 0 0] 29)) := (Below.refl _ _).alloc (Nat.le_refl _) _
  have R6 := Lib.hid (R5.out.keep ha6)
  have P6 := Lib.hid (P5.out.keep ha6)
  have Q6 := Lib.hid (Blk.new w5 29 #[.string ⟨#[98]⟩, .int .i64 1, .int .i64 0, .int .i64 0, .slice (some ⟨w2.heap.size, 0, none⟩) 1 1, .string ⟨#[97]⟩, .int .i64 1, .int .i64 2, .int .i64 0, .slice none 0 0, .string ⟨#[97]⟩, .int .i64 1, .int .i64 1, .int .i64 0, .slice none 0 0])
  have HB6 := Lib.hid (HB5.out.trans (ha6.mono HB5.out.size))
  have hz6 := Nat.le_trans hz5 ha6.size
  clear ha6
  go_wp2_with fail
  refine (mod_any _ _ _).mono ?_
  rintro e w7 ⟨rfl, hb7⟩
  have R7 := Lib.hid (R6.out.keep hb7)
  have P7 := Lib.hid (P6.out.keep hb7)
  have Q7 := Lib.hid (Q6.out.keep hb7)
  have HB7 := Lib.hid (HB6.out.trans (hb7.mono HB6.out.size))
  have hz7 := Nat.le_trans hz6 hb7.size
  clear hb7
  go_wp2_with fail
  refine (mod_any _ _ _).mono ?_
  rintro e w8 ⟨rfl, hb8⟩
  have R8 := Lib.hid (R7.out.keep hb8)
  have P8 := Lib.hid (P7.out.keep hb8)
  have Q8 := Lib.hid (Q7.out.keep hb8)
  have HB8 := Lib.hid (HB7.out.trans (hb8.mono HB7.out.size))
  have hz8 := Nat.le_trans hz7 hb8.size
  clear hb8
  go_wp2_with fail
  refine (mod_any _ _ _).mono ?_
  rintro e w9 ⟨rfl, hb9⟩
  have R9 := Lib.hid (R8.out.keep hb9)
  have P9 := Lib.hid (P8.out.keep hb9)
  have Q9 := Lib.hid (Q8.out.keep hb9)
  have HB9 := Lib.hid (HB8.out.trans (hb9.mono HB8.out.size))
  have hz9 := Nat.le_trans hz8 hb9.size
  clear hb9
  have ha10 : Below w9.heap.size w9 (w9.alloc (.cells #[.string ⟨#[97]⟩, .int .i64 1, .int .i64 1, .int .i64 0, .string ⟨#[98]⟩, .int .i64 1, .int .i64 0, .int .i64 0] 26)) := (Below.refl _ _).alloc (Nat.le_refl _) _
  have R10 := Lib.hid (R9.out.keep ha10)
  have P10 := Lib.hid (P9.out.keep ha10)
  have Q10 := Lib.hid (Q9.out.keep ha10)
  have S10 := Lib.hid (Blk.new w9 26 #[.string ⟨#[97]⟩, .int .i64 1, .int .i64 1, .int .i64 0, .string ⟨#[98]⟩, .int .i64 1, .int .i64 0, .int .i64 0])
  have HB10 := Lib.hid (HB9.out.trans (ha10.mono HB9.out.size))
  have hz10 := Nat.le_trans hz9 ha10.size
  clear ha10
  have k0 := R10.out.cell 0
  have k1 := R10.out.cell 1
  have k2 := R10.out.cell 2
  have k3 := R10.out.cell 3
  have k4 := R10.out.cell 4
  have f0 := R10.out.free 0
  have f1 := R10.out.free 1
  have f2 := R10.out.free 2
  have f3 := R10.out.free 3
  have f4 := R10.out.free 4
  simp at k0 k1 k2 k3 k4
  go_wp2
  refine bodyPost_ret (v := .tuple #[.slice (some ⟨w5.heap.size, 0, none⟩) 3 3, .agg #[.string ⟨#[109]⟩, .int .i64 1, .int .i64 0, .int .i64 0, .slice (some ⟨w9.heap.size, 0, none⟩) 2 2]]) (by simp [results, Tryd.results24, go_sem, k0, k1, k2, k3, k4]) rfl ?_
  have hn2 : w2.heap.size ≠ w.heap.size := by omega
  have hn5 : w5.heap.size ≠ w.heap.size := by omega
  have hn9 : w9.heap.size ≠ w.heap.size := by omega
  refine ⟨[(modP [98] 0, some ⟨w2.heap.size, 0, none⟩, 1, [modP [97] 2]), (modP [97] 2, none, 0, []), (modP [97] 1, none, 0, [])], some ⟨w5.heap.size, 0, none⟩, 3, (exRoot, some ⟨w9.heap.size, 0, none⟩, 2, exL), rfl, rfl, rfl, rfl, ⟨sl_of_blk (blk_far (blk_far (blk_far (blk_far (blk_far Q10.out _ _ hn5) _ _ hn5) _ _ hn5) _ _ hn5) _ _ hn5) encW_len (by decide) rfl, ?_, by simp⟩, ⟨sl_of_blk (blk_far (blk_far (blk_far (blk_far (blk_far S10.out _ _ hn9) _ _ hn9) _ _ hn9) _ _ hn9) _ _ hn9) encM_len (by decide) rfl, by simp [exL], ?_⟩, ?_⟩
  · intro y hy
    simp only [List.mem_cons, List.not_mem_nil, or_false] at hy
    rcases hy with rfl | rfl | rfl
    · refine ⟨sl_of_blk (blk_far (blk_far (blk_far (blk_far (blk_far P10.out _ _ hn2) _ _ hn2) _ _ hn2) _ _ hn2) _ _ hn2) encM_len (by decide) rfl, by simp, ?_⟩
      intro m hm
      simp only [List.mem_cons, List.not_mem_nil, or_false] at hm
      rcases hm with rfl | rfl <;> exact okB_ex (by simp) (by decide)
    · refine ⟨Sl.nil_, by simp, ?_⟩
      intro m hm
      simp only [List.mem_cons, List.not_mem_nil, or_false] at hm
      rcases hm with rfl; exact okB_ex (by simp) (by decide)
    · refine ⟨Sl.nil_, by simp, ?_⟩
      intro m hm
      simp only [List.mem_cons, List.not_mem_nil, or_false] at hm
      rcases hm with rfl; exact okB_ex (by simp) (by decide)
  · intro m hm
    simp only [exL, List.mem_cons, List.not_mem_nil, or_false] at hm
    rcases hm with rfl | rfl | rfl <;> exact okB_ex (by simp) (by decide)
  · exact ((((HB10.out.setCell (Nat.le_refl _) _).setCell (Nat.le_refl _) _).setCell (Nat.le_refl _) _).setCell (Nat.le_refl _) _).setCell (Nat.le_refl _) _

theorem regLoose_one {w : World} {y : ManW} (h : ManLoose w y) : RegLoose (w.alloc (.cells (encW y).toArray 29)) (some ⟨w.heap.size, 0, none⟩) [y] := by
  have hb : Below w.heap.size w (w.alloc (.cells (encW y).toArray 29)) := (Below.refl _ _).alloc (Nat.le_refl _) _
  refine ⟨sl_of_blk (Blk.new w 29 (encW y).toArray) encW_len (by decide) (by simp), ?_, by simp⟩
  intro z hz
  obtain rfl := List.mem_singleton.1 hz
  exact h.step hb

set_option maxRecDepth 100000 in
set_option maxHeartbeats 4000000 in
theorem small_any (A : Option Addr) (c : Nat) (Y : List ManW) (y0 : ManW) (w : World) (hY : RegLoose w A Y) (h0 : ManLoose w y0) :
    Calls Tryd.prog 8 #[.slice A Y.length c, .agg #[.string ⟨y0.1.1.toArray⟩, .int .i64 y0.1.2.1, .int .i64 y0.1.2.2.1, .int .i64 y0.1.2.2.2, .slice y0.2.1 y0.2.2.2.length y0.2.2.1]] w (RetIf w (smallP (regW Y) ∧ smallP [plainW y0])) := by
  have hb0 : Below w.heap.size w (w.alloc (.cells (encW y0).toArray 29)) := (Below.refl _ _).alloc (Nat.le_refl _) _
  have HB0 := Lib.hid hb0
  have H0 := Lib.hid h0
  have Q0 := Lib.hid (Blk.new w 29 (encW y0).toArray)
  have cS := Lib.hid (Small_any A c Y _ (hY.step hb0))
  have cT := Lib.hid (fun W (h : ManLoose W y0) => Small_any (some ⟨W.heap.size, 0, none⟩) 1 [y0] _ (regLoose_one h))
  clear hY h0 hb0
  generalize hP : smallP (regW Y) = P at cS
  have hreg : regW [y0] = [plainW y0] := rfl
  rw [hreg] at cT
  generalize hP2 : smallP [plainW y0] = P2 at cT
  clear hP hP2 hreg
  obtain ⟨rm, A0, c0, l0⟩ := y0
  simp only [encW] at *
  go_enter Tryd.func8, Tryd.ntmps8
  go_wp2_with fail
  refine cS.out.mono ?_
  rintro e w1 ⟨b, rfl, hbi, hb1⟩
  have HB1 := Lib.hid (HB0.out.trans (hb1.mono HB0.out.size))
  have Q1 := Lib.hid (Q0.out.keep hb1)
  have HBI := Lib.hid hbi
  clear hb1 hbi
  cases b
  · go_wp2
    go_ret
    exact ⟨false, rfl, ⟨fun e => by simp at e, fun e => HBI.out.2 e.1⟩, HB1.out⟩
  · have k0 := Q1.out.cell 0
    have k1 := Q1.out.cell 1
    have k2 := Q1.out.cell 2
    have k3 := Q1.out.cell 3
    have k4 := Q1.out.cell 4
    simp at k0 k1 k2 k3 k4
    have cT1 := cT.out w1 (H0.out.step HB1.out)
    have CT1 := Lib.hid cT1
    clear cT cS cT1
    go_wp2_with fail
    refine CT1.out.mono ?_
    rintro e w2 ⟨b2, rfl, hbi2, hb2⟩
    have HB2 := Lib.hid ((HB1.out.alloc HB1.out.size (.cells (encW (rm, A0, c0, l0)).toArray 29)).trans (hb2.mono (by have := HB1.out.size; simp; omega)))
    have HBI2 := Lib.hid hbi2
    clear hb2 hbi2
    go_wp2
    go_ret
    exact ⟨b2, rfl, ⟨fun e => ⟨by have h := HBI.out; simpa using h, HBI2.out.1 e⟩, fun e => HBI2.out.2 e.2⟩, HB2.out⟩

end Go.Proofs.YtfiilbdkhelhgaaDoor
