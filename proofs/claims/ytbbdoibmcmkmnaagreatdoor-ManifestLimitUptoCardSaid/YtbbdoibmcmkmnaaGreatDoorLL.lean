/- Walk: the law on the number of requirements. -/
import Derived.Test.YtbbdoibmcmkmnaaGreatDoorLC
import Derived.Test.YtbbdoibmcmkmnaaGreatDoorPN
namespace Go.Proofs.YtbbdoibmcmkmnaaGreatDoor
open Go.RowKit Go.Sort

theorem grown_set (W : World) (p : Addr) (v : Value) : W.grownBy (W.setCell p v) (some p.block) := ⟨rfl, rfl, rfl, by simp [World.setCell], fun k _ hk => Below.heap_setCell W p v k (fun e => hk (by rw [e]))⟩
theorem ownsRow_pos {W : World} {base : Nat} {e : TypeId} {size : Nat} {v : Value} {k : Nat} {xs : List Value} (h : W.ownsRow base e size v k xs) (hk : 0 < k) : ∃ g cap, v = .slice (some ⟨g, 0, none⟩) k cap := by
  rcases h.2 with ⟨_, h0⟩ | ⟨g, cap, _, rfl, _⟩
  · omega
  · exact ⟨g, cap, rfl⟩
def verA (x y z : Int) : Array Value := #[.int .i64 x, .int .i64 y, .int .i64 z]

set_option maxRecDepth 100000 in
set_option maxHeartbeats 4000000 in
theorem limit_bad (n : Nat) (x y z : Int) (w : World) (hG : Glob w)
    (hbad : (70 : Int) < (n : Int) ∨ (¬ (70 : Int) < (n : Int) ∧ x < 0) ∨ (¬ (70 : Int) < (n : Int) ∧ ¬ x < 0 ∧ 9999 < x) ∨ (¬ (70 : Int) < (n : Int) ∧ ¬ x < 0 ∧ ¬ 9999 < x ∧ y < 0) ∨ (¬ (70 : Int) < (n : Int) ∧ ¬ x < 0 ∧ ¬ 9999 < x ∧ ¬ y < 0 ∧ 9999 < y) ∨ (¬ (70 : Int) < (n : Int) ∧ ¬ x < 0 ∧ ¬ 9999 < x ∧ ¬ y < 0 ∧ ¬ 9999 < y ∧ z < 0) ∨ (¬ (70 : Int) < (n : Int) ∧ ¬ x < 0 ∧ ¬ 9999 < x ∧ ¬ y < 0 ∧ ¬ 9999 < y ∧ ¬ z < 0 ∧ 9999 < z)) :
    Calls Tryz.prog 10 #[.int .u8 n, .agg #[.int .i64 x, .int .i64 y, .int .i64 z]] w fun e w' => e = .returned (.bool true) ∧ Below w.heap.size w w' := by
  have HG := Lib.hid hG
  have ca := Lib.hid (fun W (hW : Below w.heap.size w W) => alive_any W (HG.out.keep hW))
  clear hG
  have HB0 := Lib.hid (show Below w.heap.size w (w.alloc (.cells #[.int .i64 x, .int .i64 y, .int .i64 z] 23)) from (Below.refl _ _).alloc (Nat.le_refl _) _)
  rcases hbad with h0 | ⟨h0, h1⟩ | ⟨h0, h1, h2⟩ | ⟨h0, h1, h2, h3⟩ | ⟨h0, h1, h2, h3, h4⟩ | ⟨h0, h1, h2, h3, h4, h5⟩ | ⟨h0, h1, h2, h3, h4, h5, h6⟩
  all_goals
    go_enter Tryz.func10, Tryz.ntmps10
    go_wp2_with fail
    refine (ca.out _ HB0.out).mono ?_
    rintro e w1 ⟨rfl, hb⟩
    go_wp2
    go_ret
    exact ⟨rfl, HB0.out.trans (hb.mono HB0.out.size)⟩

set_option maxRecDepth 100000 in
set_option maxHeartbeats 4000000 in
theorem limit_ok (n : Nat) (x y z : Int) (w : World) (hG : Glob w) (h0 : ¬ (70 : Int) < (n : Int)) (h1 : ¬ x < 0) (h2 : ¬ 9999 < x) (h3 : ¬ y < 0) (h4 : ¬ 9999 < y) (h5 : ¬ z < 0) (h6 : ¬ 9999 < z) :
    Calls Tryz.prog 10 #[.int .u8 n, .agg #[.int .i64 x, .int .i64 y, .int .i64 z]] w fun e w' => e = .returned (.bool true) ∧ Below w.heap.size w w' := by
  have HG := Lib.hid hG
  have ca := Lib.hid (fun W (hW : Below w.heap.size w W) => alive_any W (HG.out.keep hW))
  clear hG
  have hv : vok x y z = true := by simp [vok]; omega
  have HV := Lib.hid hv
  clear hv
  have q0 := (Blk.new w 23 (verA x y z)).keep ((Below.refl _ _).alloc (Nat.le_refl _) (.cells (manA ([109], x, y, z) none 0 0) 28))
  have q1 := Blk.new (w.alloc (.cells (verA x y z) 23)) 28 (manA ([109], x, y, z) none 0 0)
  rw [World.size_alloc] at q1
  have Q0 := Lib.hid q0
  have Q1 := Lib.hid q1
  clear q0 q1
  go_enter Tryz.func10, Tryz.ntmps10
  go_wp2_with fail
  clear h1 h2 h3 h4 h5 h6
  go_loopw [6] (fun i wr => ∃ (k : Nat) (A4 : Option Addr) (c4 : Nat), k ≤ n ∧ i = .int .i64 (k : Nat) ∧ Blk wr w.heap.size 23 (verA x y z) ∧ Blk wr (w.heap.size + 1) 28 (manA ([109], x, y, z) A4 k c4) ∧ Hid (wr.ownsRow (w.heap.size + 2) 25 4 (.slice A4 k c4) k ((limL k (x, y, z)).flatMap encM)) ∧ w.heap.size + 2 ≤ wr.heap.size ∧ Below w.heap.size w wr) (fun i _ => n - (intOf i).toNat)
  case atStart => exact ⟨0, none, 0, Nat.zero_le _, rfl, Q0.out, Q1.out, Lib.hid (World.ownsRow_nil _ _ _ _), by simp, ((Below.refl _ _).alloc (Nat.le_refl _) _).alloc (by simp) _⟩
  case round =>
    obtain ⟨k, A4, c4, hk, rfl, u0, u1, HO, hz, hb⟩ := hrel
    have U0 := Lib.hid u0
    have U1 := Lib.hid u1
    clear u0 u1
    by_cases hlt : k < n
    · have hlt' : (k : Int) < (n : Int) := by omega
      obtain ⟨a, ha⟩ : ∃ a, a = k / 10 := ⟨_, rfl⟩
      obtain ⟨b, hb_⟩ : ∃ b, b = k % 10 := ⟨_, rfl⟩
      have v0 : wr.cell? ⟨w.heap.size, 0, none⟩ = some (.int .i64 x) := U0.out.cell 0
      have v1 : wr.cell? ⟨w.heap.size, 1, none⟩ = some (.int .i64 y) := U0.out.cell 1
      have v2 : wr.cell? ⟨w.heap.size, 2, none⟩ = some (.int .i64 z) := U0.out.cell 2
      have s4 : wr.cell? ⟨w.heap.size + 1, 4, none⟩ = some (.slice A4 k c4) := U1.out.cell 4
      have hq' : IntKind.i64.wrap ((k : Int) / 10) = (a : Int) := by rw [ha]; simp [IntKind.wrap, IntKind.bits, IntKind.signed]; omega
      have hm' : IntKind.i64.wrap ((k : Int) % 10) = (b : Int) := by rw [hb_]; simp [IntKind.wrap, IntKind.bits, IntKind.signed]; omega
      have hm2 : (k : Int).tmod 10 = (b : Int) := by rw [Int.tmod_eq_emod_of_nonneg (by omega), hb_]; omega
      clear hm'
      have hqs : IntKind.i64.wrap ((a : Int) + 1) = (a : Int) + 1 := by simp [IntKind.wrap, IntKind.bits, IntKind.signed]; omega
      have hms : IntKind.i64.wrap ((b : Int) + 1) = (b : Int) + 1 := by simp [IntKind.wrap, IntKind.bits, IntKind.signed]; omega
      have ha1 : (a : Int) + 1 ≤ 10 := by omega
      have n1 : ¬ 9223372036854775807 < 1 + (min (a + 1) 10 - a) := by omega
      have n2 : ¬ 9223372036854775807 < 1 + (min (a + 1) 10 - a) + (min (b + 1) 10 - b) := by omega
      have ha2 : 0 ≤ (a : Int) + 1 := by omega
      have ha3 : (a : Int) ≤ (a : Int) + 1 := by omega
      have hb2 : 0 ≤ (b : Int) + 1 := by omega
      have hb3 : (b : Int) ≤ (b : Int) + 1 := by omega
      have hb1 : (b : Int) + 1 ≤ 10 := by omega
      have ht := nm_text0 k (by omega)
      rw [← ha, ← hb_] at ht
      unfold lettersA at ht
      have HT := Lib.hid ht
      have s4a : (wr.alloc (.cells #[.string (({ data := #[120] } : ByteArray) ++ ({ data := #[97, 98, 99, 100, 101, 102, 103, 104, 105, 106] } : ByteArray).extract a (a + 1) ++ ({ data := #[97, 98, 99, 100, 101, 102, 103, 104, 105, 106] } : ByteArray).extract b (b + 1)), .int .i64 x, .int .i64 y, .int .i64 z] 25)).cell? ⟨w.heap.size + 1, 4, none⟩ = some (.slice A4 k c4) := cell_keep_alloc _ s4
      clear ht ha hb_
      have b0 : k + 1 ≤ maxLen := by unfold maxLen; omega
      have b1 : (k + 1) * 40 ≤ 140737488355328 := by omega
      go_upto_region 8 with fail
      go_region_law (first | (refine step_own rfl (.tmp 55) (.tmp 74) rfl (w.heap.size + 2) elMod (.slice A4 k c4) k _ rfl (HO.out.alloc _) _ 1 1 _ rfl (Src.lit _ 4 _ _ 1 rfl) (by decide) (by simp [Value.oneCell']) b0 b1 (by simp; omega) ?_; intro v' w3 hown3 hgrow3 hb3; obtain ⟨g', cap', rfl⟩ := ownsRow_pos hown3 (by omega); have qB := (hb3.block (w.heap.size + 1) (by omega)).trans (U1.out.keep ((Below.refl _ _).drew.alloc (Nat.le_refl _) _)); have z6 : w3.cell? ⟨w.heap.size + 1, 4, none⟩ = some (.slice A4 k c4) := Blk.cell qB 4; have z5 : w3.frozen? ⟨w.heap.size + 1, 4, none⟩ = false := Blk.free qB 4))
      all_goals
        have qV := (hb3.block w.heap.size (by omega)).trans (U0.out.keep (((Below.refl _ _).alloc (Nat.le_refl _) _).drew))
        have KV := Lib.hid qV
        have KB := Lib.hid qB
        have HB3 := Lib.hid ((hb.alloc hb.size _).drew.trans (hb3.mono (by omega)))
        have e3 : (limL k (x, y, z)).flatMap encM ++ [.string ⟨(nmL k).toArray⟩, .int .i64 x, .int .i64 y, .int .i64 z] = (limL (k + 1) (x, y, z)).flatMap encM := by rw [limL_succ]; simp [encM]
        rw [HT.out] at hown3
        have HO3 := Lib.hid (show w3.ownsRow (w.heap.size + 2) 25 4 _ (k + 1) ((limL (k + 1) (x, y, z)).flatMap encM) from e3 ▸ hown3)
        have hz3 := hgrow3.size
        simp at hz3
        clear qV qB hown3 hb3 e3
        go_wp2
        go_roundw
        case rel =>
          refine ⟨k + 1, some ⟨g', 0, none⟩, cap', by omega, by go_num, ?_, ?_, ?_, ?_, ?_⟩
          · exact Blk.far (t := 23) KV.out (p := ⟨w.heap.size + 1, 4, none⟩) (by show w.heap.size ≠ w.heap.size + 1; omega) _
          · exact Blk.set_ (t := 28) KB.out 4 _
          · exact Lib.hid (HO3.out.kept (grown_set w3 _ _) (.inr (fun e => by have := (HO3.out.lt _ e).1; simp only at this; omega)))
          · simp; omega
          · exact HB3.out.setCell (p := ⟨w.heap.size + 1, 4, none⟩) (by show w.heap.size ≤ w.heap.size + 1; omega) _
        case measure => simp [intOf]; omega
    · obtain rfl : k = n := by omega
      have hS := Lib.hid (Acc.slAny (.inl HO.out) encM_len (by decide))
      have hck := lim_check (k := k) (v := (x, y, z)) (by omega) HV.out
      have hso := lim_sort (k := k) (by omega) (x, y, z)
      have hln := limL_len k (x, y, z)
      obtain ⟨y0, y1, y2, y3, y4⟩ := manC U1.out
      have hxl : ∀ m ∈ (([109], x, y, z) :: limL k (x, y, z) : List Mod), m.1.length ≤ maxLen := fun m hm => by
        rcases List.mem_cons.1 hm with rfl | hm
        · simp [maxLen]
        · obtain ⟨i, _, rfl⟩ := limL_mem hm
          simp [nmL, maxLen]
      by_cases h64 : 64 < k
      · rw [if_pos h64] at hck
        have d64 : (64 : Int) < (k : Int) := by omega
        have cT0 := mText_any ([109], x, y, z) A4 c4 (limL k (x, y, z)) wr hS.out (by omega) hxl (HG.out.keep hb)
        have hT : mtext ([109], x, y, z) (limL k (x, y, z)) = [] := by unfold mtext; rw [hck]; rfl
        have cC0 := fun W (hW : Below wr.heap.size wr W) => Check_any ([109], x, y, z) A4 c4 (limL k (x, y, z)) W ((hS.out.below hW).more hW.size) (by omega) hxl (HG.out.keep (hb.trans (hW.mono hb.size)))
        rw [hT, hck, hln] at cT0
        rw [hck] at cC0
        simp only [hln] at cC0
        have cT := Lib.hid cT0
        have cC := Lib.hid cC0
        clear cT0 cC0 hxl hln hso hck hT
        go_wp2_with fail
        refine cT.out.mono ?_
        rintro e w5 ⟨rfl, hb5⟩
        have HB5 := Lib.hid (hb.trans (hb5.mono hb.size))
        obtain ⟨z0, z1, z2, z3, z4⟩ := manC (U1.out.keep hb5)
        clear y0 y1 y2 y3 y4
        go_wp2_with fail
        refine (cC.out _ hb5).mono ?_
        rintro e w6 ⟨rfl, hb6⟩
        have HB6 := Lib.hid (HB5.out.trans (hb6.mono HB5.out.size))
        clear z0 z1 z2 z3 z4 hb5 hb6
        go_wp2_with fail
        refine (ca.out _ HB6.out).mono ?_
        rintro e w7 ⟨rfl, hb7⟩
        go_wp2
        go_ret
        exact ⟨by first | rfl | simp, HB6.out.trans (hb7.mono HB6.out.size)⟩
      · rw [if_neg h64] at hck
        have d64 : ¬ (64 : Int) < (k : Int) := by omega
        have cT0 := mText_any ([109], x, y, z) A4 c4 (limL k (x, y, z)) wr hS.out (by omega) hxl (HG.out.keep hb)
        have cP0 := fun W (hW : Below w.heap.size w W) => parse_back hck W (HG.out.keep hW)
        rw [hck, hln] at cT0
        simp only [hso, hln] at cP0
        have hTl := mtext_len (m := ([109], x, y, z)) (l := limL k (x, y, z))
        generalize mtext ([109], x, y, z) (limL k (x, y, z)) = T at cT0 cP0 hTl
        have cT := Lib.hid cT0
        have cP := Lib.hid cP0
        have cS0 := fun A' c' W (h1 : Sl W W.heap.size 4 encM A' (limL k (x, y, z))) (h2 : Sl W W.heap.size 4 encM A4 (limL k (x, y, z))) => Same_any ([109], x, y, z) A' c' (limL k (x, y, z)) ([109], x, y, z) A4 c4 (limL k (x, y, z)) W h1 h2 (by omega) (by omega)
        simp only [hln, and_self, decide_true] at cS0
        have cS := Lib.hid cS0
        clear cT0 cP0 cS0 hxl hln hso hck
        go_wp2_with fail
        refine cT.out.mono ?_
        rintro e w5 ⟨rfl, hb5⟩
        have HB5 := Lib.hid (hb.trans (hb5.mono hb.size))
        have U5 := Lib.hid (U1.out.keep hb5)
        have S5 := Lib.hid ((hS.out.below hb5).more hb5.size)
        clear y0 y1 y2 y3 y4 hb5
        go_wp2_with fail
        refine (cP.out _ HB5.out).mono ?_
        rintro e w6 ⟨A6, c6, rfl, hS6, hb6⟩
        have HB6 := Lib.hid (HB5.out.trans (hb6.mono HB5.out.size))
        have U6 := Lib.hid (U5.out.keep hb6)
        have S6 := Lib.hid ((S5.out.below hb6).more hb6.size)
        have R6 := Lib.hid hS6
        clear hS6 hb6
        go_upto_region 13 with fail
        have m7 := (Blk.new w6 28 (manA ([109], x, y, z) A6 k c6)).keep ((Below.refl _ _).alloc (Nat.le_refl _) (.cells #[.int .i64 0, .int .i64 0] 38))
        have f7 := Blk.new (w6.alloc (.cells (manA ([109], x, y, z) A6 k c6) 28)) 38 #[.int .i64 0, .int .i64 0]
        rw [World.size_alloc] at f7
        have b7 : Below w6.heap.size w6 ((w6.alloc (.cells (manA ([109], x, y, z) A6 k c6) 28)).alloc (.cells #[.int .i64 0, .int .i64 0] 38)) := ((Below.refl _ _).alloc (Nat.le_refl _) _).alloc (by simp) _
        have hmA : manA ([109], x, y, z) A6 k c6 = #[.string ⟨#[109]⟩, .int .i64 x, .int .i64 y, .int .i64 z, .slice A6 k c6] := rfl
        rw [hmA] at m7 f7 b7
        generalize ((w6.alloc (.cells #[.string ⟨#[109]⟩, .int .i64 x, .int .i64 y, .int .i64 z, .slice A6 k c6] 28)).alloc (.cells #[.int .i64 0, .int .i64 0] 38)) = w7 at m7 f7 b7 ⊢
        have HB7 := Lib.hid (HB6.out.trans (b7.mono HB6.out.size))
        have S7 := Lib.hid ((S6.out.below b7).more b7.size)
        have R7 := Lib.hid ((R6.out.below b7).more b7.size)
        obtain ⟨y0, y1, y2, y3, y4⟩ := manC (U6.out.keep b7)
        have g0 : w7.cell? ⟨w6.heap.size, 0, none⟩ = some (.string ⟨#[109]⟩) := m7.cell 0
        have g1 : w7.cell? ⟨w6.heap.size, 1, none⟩ = some (.int .i64 x) := m7.cell 1
        have g2 : w7.cell? ⟨w6.heap.size, 2, none⟩ = some (.int .i64 y) := m7.cell 2
        have g3 : w7.cell? ⟨w6.heap.size, 3, none⟩ = some (.int .i64 z) := m7.cell 3
        have g4 : w7.cell? ⟨w6.heap.size, 4, none⟩ = some (.slice A6 k c6) := m7.cell 4
        have f0 : w7.cell? ⟨w6.heap.size + 1, 0, none⟩ = some (.int .i64 0) := f7.cell 0
        clear m7 f7 b7 hmA
        go_wp2_with fail
        refine (cS.out A6 c6 _ R7.out S7.out).mono ?_
        rintro e w8 ⟨rfl, hb8⟩
        have HB8 := Lib.hid (HB7.out.trans (hb8.mono HB7.out.size))
        clear y0 y1 y2 y3 y4 g0 g1 g2 g3 g4 f0 hb8
        go_wp2_with fail
        refine (ca.out _ HB8.out).mono ?_
        rintro e w9 ⟨rfl, hb9⟩
        go_wp2
        go_ret
        exact ⟨by first | rfl | simp, HB8.out.trans (hb9.mono HB8.out.size)⟩
theorem limit_walk (n : Nat) (v : Ver) (w : World) (hG : Glob w) :
    Calls Tryz.prog 10 #[.int .u8 n, .agg #[.int .i64 v.1, .int .i64 v.2.1, .int .i64 v.2.2]] w fun e w' => e = .returned (.bool true) ∧ Below w.heap.size w w' := by
  obtain ⟨x, y, z⟩ := v
  by_cases h : ¬ (70 : Int) < (n : Int) ∧ ¬ x < 0 ∧ ¬ 9999 < x ∧ ¬ y < 0 ∧ ¬ 9999 < y ∧ ¬ z < 0 ∧ ¬ 9999 < z
  · obtain ⟨h0, h1, h2, h3, h4, h5, h6⟩ := h
    exact limit_ok n x y z w hG h0 h1 h2 h3 h4 h5 h6
  · exact limit_bad n x y z w hG (by omega)
end Go.Proofs.YtbbdoibmcmkmnaaGreatDoor
