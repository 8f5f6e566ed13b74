/- Walk: the law that parsing undoes printing. -/
import Derived.Test.YtbbdoibmcmkmnaaGreatDoorLP
import Derived.Test.YtbbdoibmcmkmnaaGreatDoorPZ
import Derived.Test.YtbbdoibmcmkmnaaGreatDoorWTx
namespace Go.Proofs.YtbbdoibmcmkmnaaGreatDoor
open Go.RowKit Go.Sort

def manA (m : Mod) (A : Option Addr) (n c : Nat) : Array Value := #[.string ⟨m.1.toArray⟩, .int .i64 m.2.1, .int .i64 m.2.2.1, .int .i64 m.2.2.2, .slice A n c]
/-- the cells of a manifest's box -/
def ManC (W : World) (g : Nat) (m : Mod) (A : Option Addr) (n c : Nat) : Prop :=
  W.cell? ⟨g, 0, none⟩ = some (.string ⟨m.1.toArray⟩) ∧ W.cell? ⟨g, 1, none⟩ = some (.int .i64 m.2.1) ∧ W.cell? ⟨g, 2, none⟩ = some (.int .i64 m.2.2.1) ∧ W.cell? ⟨g, 3, none⟩ = some (.int .i64 m.2.2.2) ∧ W.cell? ⟨g, 4, none⟩ = some (.slice A n c)
theorem manC {W : World} {g : Nat} {m : Mod} {A : Option Addr} {n c : Nat} (h : Blk W g 28 (manA m A n c)) : ManC W g m A n c :=
  ⟨h.cell 0, h.cell 1, h.cell 2, h.cell 3, h.cell 4⟩
def ModC (W : World) (b o : Nat) (p : Mod) : Prop :=
  W.cell? ⟨b, o, none⟩ = some (.string ⟨p.1.toArray⟩) ∧ W.cell? ⟨b, o + 1, none⟩ = some (.int .i64 p.2.1) ∧ W.cell? ⟨b, o + 2, none⟩ = some (.int .i64 p.2.2.1) ∧ W.cell? ⟨b, o + 3, none⟩ = some (.int .i64 p.2.2.2)
theorem ModC.keep {W W' : World} {b o : Nat} {p : Mod} (h : ModC W b o p) (k : Below W.heap.size W W') : ModC W' b o p :=
  ⟨cell_keep k h.1, cell_keep k h.2.1, cell_keep k h.2.2.1, cell_keep k h.2.2.2⟩
theorem modC {W : World} {g : Nat} {p : Mod} (h : Blk W g 25 #[.string ⟨p.1.toArray⟩, .int .i64 p.2.1, .int .i64 p.2.2.1, .int .i64 p.2.2.2]) : ModC W g 0 p :=
  ⟨h.cell 0, h.cell 1, h.cell 2, h.cell 3⟩
theorem hB7 {wx wy W : World} (h : Below wx.heap.size wx wy) (k : Below wy.heap.size wy W) : Below wx.heap.size wx W := h.trans (k.mono h.size)
theorem dec_snoc (x y : Mod) (l : List Mod) : decide (x ∈ l ++ [y]) = (decide (x ∈ l) || decide (x = y)) := by
  rw [Bool.eq_iff_iff]
  simp
/-- what a parse of a printed manifest gives -/
theorem parse_back {m : Mod} {l : List Mod} (h : mcheck m l = 0) (W : World) (hG : Glob W) :
    Calls Tryz.prog 20 #[.string ⟨(mtext m l).toArray⟩] W fun e w' => ∃ A c, e = .returned (.tuple #[.agg #[.string ⟨m.1.toArray⟩, .int .i64 m.2.1, .int .i64 m.2.2.1, .int .i64 m.2.2.2, .slice A (msort l).length c], .agg #[.int .i64 0, .int .i64 0]]) ∧ Sl w' w'.heap.size 4 encM A (msort l) ∧ Below W.heap.size W w' := by
  have hp := mParse_any (mtext m l) mtext_len W hG
  unfold RetMan at hp
  rw [mparse_mtext h] at hp
  exact hp

set_option maxRecDepth 100000 in
set_option maxHeartbeats 4000000 in
theorem back_bad (m : Mod) (A : Option Addr) (c : Nat) (l : List Mod) (w : World) (hA : Sl w w.heap.size 4 encM A l) (hl : l.length ≤ 1048576) (hx : ∀ x ∈ m :: l, x.1.length ≤ 1048576) (hG : Glob w) (hE : l.length ≤ 80 → mcheck m l ≠ 0) :
    Calls Tryz.prog 6 #[.agg #[.string ⟨m.1.toArray⟩, .int .i64 m.2.1, .int .i64 m.2.2.1, .int .i64 m.2.2.2, .slice A l.length c]] w fun e w' => e = .returned (.bool true) ∧ Below w.heap.size w w' := by
  have HA := Lib.hid hA
  have HG := Lib.hid hG
  have HX := Lib.hid hx
  have ca := Lib.hid (fun W (hW : Below w.heap.size w W) => alive_any W (HG.out.keep hW))
  have cs0 := fun W => lsmall_any m A c l W
  have q0 := Blk.new w 28 #[.string ⟨m.1.toArray⟩, .int .i64 m.2.1, .int .i64 m.2.2.1, .int .i64 m.2.2.2, .slice A l.length c]
  have b0 : Below w.heap.size w (w.alloc (.cells #[.string ⟨m.1.toArray⟩, .int .i64 m.2.1, .int .i64 m.2.2.1, .int .i64 m.2.2.2, .slice A l.length c] 28)) := (Below.refl _ _).alloc (Nat.le_refl _) _
  have Q0 := Lib.hid q0
  have HB0 := Lib.hid b0
  clear hA hG hx q0 b0
  by_cases h80 : l.length ≤ 80
  · rw [decide_eq_true h80] at cs0
    have cs := Lib.hid cs0
    have hE := hE h80
    have hT : mtext m l = [] := by unfold mtext; rw [if_neg hE]
    have cT0 := fun W (hW : Below w.heap.size w W) => mText_any m A c l W ((HA.out.below hW).more hW.size) (by omega) (fun x hx' => by have := HX.out x hx'; unfold maxLen; omega) (HG.out.keep hW)
    rw [hT] at cT0
    have cT := Lib.hid cT0
    have cC := Lib.hid (fun W (hW : Below w.heap.size w W) => Check_any m A c l W ((HA.out.below hW).more hW.size) (by omega) (fun x hx' => by have := HX.out x hx'; unfold maxLen; omega) (HG.out.keep hW))
    clear cT0 hT cs0 h80
    generalize mcheck m l = E at cT cC hE
    go_enter Tryz.func6, Tryz.ntmps6
    go_wp2_with fail
    refine (cs.out _).mono ?_
    rintro e w1 ⟨rfl, hb1⟩
    have Q1 := Lib.hid (Q0.out.keep hb1)
    have HB1 := Lib.hid (HB0.out.trans (hb1.mono HB0.out.size))
    obtain ⟨y0, y1, y2, y3, y4⟩ := manC Q1.out
    clear hb1
    go_wp2_with fail
    refine (cT.out _ HB1.out).mono ?_
    rintro e w2 ⟨rfl, hb2⟩
    have Q2 := Lib.hid (Q1.out.keep hb2)
    have HB2 := Lib.hid (HB1.out.trans (hb2.mono HB1.out.size))
    obtain ⟨z0, z1, z2, z3, z4⟩ := manC Q2.out
    clear hb2 y0 y1 y2 y3 y4
    go_wp2_with fail
    refine (cC.out _ HB2.out).mono ?_
    rintro e w3 ⟨rfl, hb3⟩
    have HB3 := Lib.hid (HB2.out.trans (hb3.mono HB2.out.size))
    clear hb3 z0 z1 z2 z3 z4
    go_wp2_with fail
    refine (ca.out _ HB3.out).mono ?_
    rintro e w4 ⟨rfl, hb4⟩
    go_wp2
    go_ret
    exact ⟨by first | rfl | simp, HB3.out.trans (hb4.mono HB3.out.size)⟩
  · rw [decide_eq_false h80] at cs0
    have cs := Lib.hid cs0
    clear cs0 h80
    go_enter Tryz.func6, Tryz.ntmps6
    go_wp2_with fail
    refine (cs.out _).mono ?_
    rintro e w1 ⟨rfl, hb1⟩
    have hB1 := Lib.hid (HB0.out.trans (hb1.mono HB0.out.size))
    clear hb1
    go_wp2_with fail
    refine (ca.out _ hB1.out).mono ?_
    rintro e w4 ⟨rfl, hb4⟩
    go_wp2
    go_ret
    exact ⟨rfl, hB1.out.trans (hb4.mono hB1.out.size)⟩

set_option maxRecDepth 100000 in
set_option maxHeartbeats 4000000 in
theorem back_ok (m : Mod) (A : Option Addr) (c : Nat) (l : List Mod) (w : World) (hA : Sl w w.heap.size 4 encM A l) (hx : ∀ x ∈ m :: l, x.1.length ≤ 1048576) (hG : Glob w) (h80 : l.length ≤ 80) (hE : mcheck m l = 0) :
    Calls Tryz.prog 6 #[.agg #[.string ⟨m.1.toArray⟩, .int .i64 m.2.1, .int .i64 m.2.2.1, .int .i64 m.2.2.2, .slice A l.length c]] w fun e w' => e = .returned (.bool true) ∧ Below w.heap.size w w' := by
  have HA := Lib.hid hA
  have HG := Lib.hid hG
  have HX := Lib.hid hx
  have ca := Lib.hid (fun W (hW : Below w.heap.size w W) => alive_any W (HG.out.keep hW))
  have cs0 := fun W => lsmall_any m A c l W
  have Q0 := Lib.hid (Blk.new w 28 (manA m A l.length c))
  have HB0 := Lib.hid (show Below w.heap.size w (w.alloc (.cells #[.string ⟨m.1.toArray⟩, .int .i64 m.2.1, .int .i64 m.2.2.1, .int .i64 m.2.2.2, .slice A l.length c] 28)) from (Below.refl _ _).alloc (Nat.le_refl _) _)
  clear hA hG hx
  rw [decide_eq_true h80] at cs0
  have cs := Lib.hid cs0
  have cT0 := fun W (hW : Below w.heap.size w W) => mText_any m A c l W ((HA.out.below hW).more hW.size) (by omega) (fun x hx' => by have := HX.out x hx'; unfold maxLen; omega) (HG.out.keep hW)
  have cP0 := fun W (hW : Below w.heap.size w W) => parse_back hE W (HG.out.keep hW)
  have cU0 := fun W (hW : Below w.heap.size w W) A' c' (hS : Sl W W.heap.size 4 encM A' (msort l)) => mText_any m A' c' (msort l) W hS (by rw [msort_len]; omega) (fun x hx' => by
    have h : x ∈ m :: l := by
      rcases List.mem_cons.1 hx' with rfl | h
      · simp
      · exact List.mem_cons_of_mem _ ((msort_perm l).mem_iff.1 h)
    have := HX.out x h; unfold maxLen; omega) (HG.out.keep hW)
  rw [mtext_perm m (msort_perm l), mcheck_perm m (msort_perm l), hE] at cU0
  rw [hE] at cT0
  have hlt : ∀ L' : List Mod, L' = msort l → ∀ i (hi : i + 1 < L'.length), mcmp L'[i] L'[i + 1] < 0 := by rintro _ rfl; exact msort_lt hE
  have HLT := Lib.hid (hlt (msort l) rfl)
  clear hlt
  have HMEM := Lib.hid (fun x => (msort_perm l).mem_iff (a := x))
  have hlen := msort_len l
  have heq := fun W => eq_mod m.1 m.1 m.2.1 m.2.2.1 m.2.2.2 m.2.1 m.2.2.1 m.2.2.2 W
  rw [decide_eq_true rfl] at heq
  have hTl := mtext_len (m := m) (l := l)
  generalize mtext m l = T at cT0 cP0 cU0 hTl
  generalize msort l = L at cP0 cU0 HLT HMEM hlen
  simp only [hlen] at cP0 cU0
  have cT := Lib.hid cT0
  have cP := Lib.hid cP0
  have cU := Lib.hid cU0
  clear cs0 cT0 cP0 cU0 hE
  go_enter Tryz.func6, Tryz.ntmps6
  go_wp2_with fail
  refine (cs.out _).mono ?_
  rintro e w1 ⟨rfl, hb1⟩
  have Q1 := Lib.hid (Q0.out.keep hb1)
  have HB1 := Lib.hid (HB0.out.trans (hb1.mono HB0.out.size))
  obtain ⟨y0, y1, y2, y3, y4⟩ := manC Q1.out
  clear hb1
  go_wp2_with fail
  refine (cT.out _ HB1.out).mono ?_
  rintro e w2 ⟨rfl, hb2⟩
  have Q2 := Lib.hid (Q1.out.keep hb2)
  have HB2 := Lib.hid (HB1.out.trans (hb2.mono HB1.out.size))
  clear hb2 y0 y1 y2 y3 y4
  go_wp2_with fail
  refine (cP.out _ HB2.out).mono ?_
  rintro e w3 ⟨A3, c3, rfl, hS3, hb3⟩
  have Q3 := Lib.hid (Q2.out.keep hb3)
  have HB3 := Lib.hid (HB2.out.trans (hb3.mono HB2.out.size))
  have SL3 := Lib.hid hS3
  clear hb3 hS3
  go_wp2_with fail
  have m5 := (Blk.new w3 28 (manA m A3 l.length c3)).keep ((Below.refl _ _).alloc (Nat.le_refl _) (.cells #[.int .i64 0, .int .i64 0] 38))
  have f5 := Blk.new (w3.alloc (.cells (manA m A3 l.length c3) 28)) 38 #[.int .i64 0, .int .i64 0]
  rw [World.size_alloc] at f5
  have b5 : Below w3.heap.size w3 ((w3.alloc (.cells (manA m A3 l.length c3) 28)).alloc (.cells #[.int .i64 0, .int .i64 0] 38)) := ((Below.refl _ _).alloc (Nat.le_refl _) _).alloc (by simp) _
  unfold manA at m5 f5 b5
  generalize ((w3.alloc (.cells #[.string ⟨m.1.toArray⟩, .int .i64 m.2.1, .int .i64 m.2.2.1, .int .i64 m.2.2.2, .slice A3 l.length c3] 28)).alloc (.cells #[.int .i64 0, .int .i64 0] 38)) = W5 at m5 f5 b5 ⊢
  have HB5 := Lib.hid (HB3.out.trans (b5.mono HB3.out.size))
  have Q5 := Lib.hid (Q3.out.keep b5)
  have SA5 := Lib.hid ((SL3.out.below b5).more b5.size)
  have M5 := Lib.hid m5
  have F5 := Lib.hid f5
  clear b5
  refine (cU.out W5 HB5.out A3 c3 SA5.out).mono ?_
  rintro e w6 ⟨rfl, hb6⟩
  have HB6 := Lib.hid (HB5.out.trans (hb6.mono HB5.out.size))
  have Q6 := Lib.hid (Q5.out.keep hb6)
  have SA6 := Lib.hid ((SA5.out.below hb6).more hb6.size)
  have SL6 := Lib.hid ((HA.out.below HB6.out).more HB6.out.size)
  have M6 := Lib.hid (M5.out.keep hb6)
  have F6 := Lib.hid (F5.out.keep hb6)
  clear hb6 m5 f5 Q0 Q1 Q2 Q3 Q5 SA5 SL3 M5 F5 HB0 HB1 HB2 HB3 HB5 HA cs cT cP cU
  obtain ⟨y0, y1, y2, y3, y4⟩ := manC Q6.out
  obtain ⟨z0, z1, z2, z3, z4⟩ := manC M6.out
  have f0 : w6.cell? ⟨w3.heap.size + 1, 0, none⟩ = some (.int .i64 0) := F6.out.cell 0
  have f1 : w6.cell? ⟨w3.heap.size + 1, 1, none⟩ = some (.int .i64 0) := F6.out.cell 1
  have hcm := Lib.hid (fun (x y : Mod) W => (mCompare_any x.1 y.1 x.2.1 x.2.2.1 x.2.2.2 y.2.1 y.2.2.1 y.2.2.2 W).mono (fun e w' h => (⟨h.1, h.2.toBelow⟩ : e = .returned (.int .i64 (mcmp x y)) ∧ Below W.heap.size W w')))
  go_wp2_with fail
  clear y0 y1 y2 y3 y4 z0 z1 z2 z3 z4 f0 f1
  go_loopw [77] (fun i wr => ∃ k : Nat, k ≤ l.length ∧ i = .int .i64 (k : Nat) ∧ Below w6.heap.size w6 wr) (fun i _ => l.length - (intOf i).toNat)
  case atStart => exact ⟨0, Nat.zero_le _, rfl, Below.refl _ _⟩
  case round =>
    obtain ⟨wo, hwo⟩ : ∃ wo, wo = wr := ⟨_, rfl⟩
    subst hwo
    obtain ⟨k, hk, rfl, hb⟩ := hrel
    have hbz := hb.size
    have hbI := Lib.hid hb
    by_cases hlt : k < l.length
    · have hlt' : (k : Int) < (l.length : Int) := by omega
      obtain ⟨b, off, hA1, hbB, g0, g1, g2, g3⟩ := (SL6.out.below hb).mod hlt
      have HX1 := Lib.hid (show l[k] ∈ L from (HMEM.out _).2 (List.getElem_mem hlt))
      generalize l[k] = x at g0 g1 g2 g3 HX1
      subst hA1
      obtain ⟨n0, n1, n2, n3, n4⟩ := manC (M6.out.keep hb)
      have n4' := cell_keep_alloc (.cells #[.string ⟨x.1.toArray⟩, .int .i64 x.2.1, .int .i64 x.2.2.1, .int .i64 x.2.2.2] 25) n4
      clear hb
      go_wp2_with fail
      have xb := Blk.new wo 25 #[.string ⟨x.1.toArray⟩, .int .i64 x.2.1, .int .i64 x.2.2.1, .int .i64 x.2.2.2]
      have HBX := Lib.hid (hbI.out.alloc hbz (.cells #[.string ⟨x.1.toArray⟩, .int .i64 x.2.1, .int .i64 x.2.2.1, .int .i64 x.2.2.2] 25))
      have hwz : (wo.alloc (.cells #[.string ⟨x.1.toArray⟩, .int .i64 x.2.1, .int .i64 x.2.2.1, .int .i64 x.2.2.2] 25)).heap.size = wo.heap.size + 1 := by simp
      generalize (wo.alloc (.cells #[.string ⟨x.1.toArray⟩, .int .i64 x.2.1, .int .i64 x.2.2.1, .int .i64 x.2.2.2] 25)) = wx at xb HBX hwz n4' ⊢
      have XB := Lib.hid xb
      clear g0 g1 g2 g3 n0 n1 n2 n3 n4 n4' xb
      go_loopw [11, 84] (fun f i wr => ∃ (j : Nat) (q : Bool), j ≤ l.length ∧ i = .int .i64 (j : Nat) ∧ f = .bool q ∧ Hid (q = decide (x ∈ L.take j)) ∧ Below wx.heap.size wx wr) (fun _ i _ => l.length - (intOf i).toNat)
      case atStart => exact ⟨0, false, Nat.zero_le _, rfl, rfl, Lib.hid (by simp), Below.refl _ _⟩
      case round =>
        obtain ⟨j, q, hj, rfl, rfl, HQ, hbq⟩ := hrel
        have hbqz := hbq.size
        have HBQ := Lib.hid (HBX.out.trans (hbq.mono HBX.out.size))
        have XQ := Lib.hid (XB.out.keep hbq)
        by_cases hjt : j < l.length
        · have hjt' : (j : Int) < (l.length : Int) := by omega
          obtain ⟨b', off', hA2, hbB', e0, e1, e2, e3⟩ := (SA6.out.below HBQ.out).mod (i := j) (by omega)
          subst hA2
          have HT := Lib.hid (show decide (x ∈ L.take (j + 1)) = (decide (x ∈ L.take j) || decide (x = L[j])) by rw [List.take_succ_eq_append_getElem (by omega)]; exact dec_snoc _ _ _)
          have HC := Lib.hid (fun (h : 0 < j) => show mcmp L[j - 1] L[j] < 0 by have := HLT.out (j - 1) (by omega); simpa [show j - 1 + 1 = j by omega] using this)
          have HC' : Hid (0 < j → ∃ (n : Nat) (p : Mod), (j : Int) - 1 = (n : Int) ∧ n < l.length ∧ ModC wr b' (off' + n * 4) p ∧ mcmp p L[j] < 0) := by
            refine Lib.hid fun h => ⟨j - 1, L[j - 1], by omega, by omega, ?_, HC.out h⟩
            obtain ⟨b2, off2, hA3, _, hv⟩ := (SA6.out.below HBQ.out).at_ (i := j - 1) (by omega)
            injection hA3 with hA3
            injection hA3 with h1 h2
            subst h1 h2
            exact ⟨hv 0 _ rfl, hv 1 _ rfl, hv 2 _ rfl, hv 3 _ rfl⟩
          generalize L[j] = y at e0 e1 e2 e3 HT HC' 
          have heqy := eq_mod x.1 y.1 x.2.1 x.2.2.1 x.2.2.2 y.2.1 y.2.2.1 y.2.2.2
          have hdy : decide ((x.1, x.2.1, x.2.2.1, x.2.2.2) = (y.1, y.2.1, y.2.2.1, y.2.2.2)) = decide (x = y) := rfl
          rw [hdy] at heqy
          rw [← HQ.out] at HT
          generalize decide (x = y) = d at heqy HT
          have HT' := Lib.hid HT.out
          clear HT
          go_upto_region 17 with fail
          have yb := Blk.new wr 25 #[.string ⟨y.1.toArray⟩, .int .i64 y.2.1, .int .i64 y.2.2.1, .int .i64 y.2.2.2]
          have by_ : Below wr.heap.size wr (wr.alloc (.cells #[.string ⟨y.1.toArray⟩, .int .i64 y.2.1, .int .i64 y.2.2.1, .int .i64 y.2.2.2] 25)) := (Below.refl _ _).alloc (Nat.le_refl _) _
          generalize (wr.alloc (.cells #[.string ⟨y.1.toArray⟩, .int .i64 y.2.1, .int .i64 y.2.2.1, .int .i64 y.2.2.2] 25)) = wy at yb by_ ⊢
          have BY := Lib.hid (HBQ.out.trans (by_.mono HBQ.out.size))
          have BYX := Lib.hid (hbq.trans (by_.mono hbqz))
          have XY := XQ.out.keep by_
          obtain ⟨n0, n1, n2, n3, n4⟩ := manC (M6.out.keep BY.out)
          have HC2 : Hid (0 < j → ∃ (n : Nat) (p : Mod), (j : Int) - 1 = (n : Int) ∧ n < l.length ∧ ModC wy b' (off' + n * 4) p ∧ mcmp p y < 0) := Lib.hid fun h => let ⟨n, p, h1, h2, h3, h4⟩ := HC'.out h; ⟨n, p, h1, h2, h3.keep by_, h4⟩
          have x0 : wy.cell? ⟨wo.heap.size, 0, none⟩ = some (.string ⟨x.1.toArray⟩) := XY.cell 0
          have x1 : wy.cell? ⟨wo.heap.size, 1, none⟩ = some (.int .i64 x.2.1) := XY.cell 1
          have x2 : wy.cell? ⟨wo.heap.size, 2, none⟩ = some (.int .i64 x.2.2.1) := XY.cell 2
          have x3 : wy.cell? ⟨wo.heap.size, 3, none⟩ = some (.int .i64 x.2.2.2) := XY.cell 3
          have y0 : wy.cell? ⟨wr.heap.size, 0, none⟩ = some (.string ⟨y.1.toArray⟩) := yb.cell 0
          have y1 : wy.cell? ⟨wr.heap.size, 1, none⟩ = some (.int .i64 y.2.1) := yb.cell 1
          have y2 : wy.cell? ⟨wr.heap.size, 2, none⟩ = some (.int .i64 y.2.2.1) := yb.cell 2
          have y3 : wy.cell? ⟨wr.heap.size, 3, none⟩ = some (.int .i64 y.2.2.2) := yb.cell 3
          have YB := Lib.hid yb
          clear e0 e1 e2 e3 yb by_ XY HC' hbq XQ
          have hcy := Lib.hid (fun (p : Mod) W => (mCompare_any p.1 y.1 p.2.1 p.2.2.1 p.2.2.2 y.2.1 y.2.2.1 y.2.2.2 W).mono (fun e w' h => (⟨h.1, h.2.toBelow⟩ : e = .returned (.int .i64 (mcmp p y)) ∧ Below W.heap.size W w')))
          by_cases hj0 : 0 < j
          · have d0 : decide (0 < j) = true := decide_eq_true hj0
            have d1 : decide ((0 : Int) < (j : Int)) = true := decide_eq_true (by omega)
            obtain ⟨n, p, hjn, hnl, ⟨p0, p1, p2, p3⟩, hlt⟩ := HC2.out hj0
            have hnl' : (n : Int) < (l.length : Int) := by omega
            have hjw : IntKind.i64.wrap ((j : Int) - 1) = (n : Int) := by simp [IntKind.wrap, IntKind.bits, IntKind.signed]; omega
            have hcp := hcy.out p
            generalize mcmp p y = C at hcp hlt
            have HCP := Lib.hid hcp
            have hge : decide (0 ≤ C) = false := decide_eq_false (by omega)
            clear hcy hcp HC2 hj0 hlt hjn
            cases q <;> cases d
            all_goals
              go_upto_region 18 with fail
              go_region_held3 (fun W => Below wy.heap.size wy W ∧ W.cell? ⟨w3.heap.size, 4, none⟩ = some (.slice (some ⟨b', off', none⟩) l.length c3) ∧ (W.cell? ⟨wr.heap.size, 0, none⟩ = some (.string ⟨y.1.toArray⟩) ∧ W.cell? ⟨wr.heap.size, 1, none⟩ = some (.int .i64 y.2.1) ∧ W.cell? ⟨wr.heap.size, 2, none⟩ = some (.int .i64 y.2.2.1) ∧ W.cell? ⟨wr.heap.size, 3, none⟩ = some (.int .i64 y.2.2.2)) ∧ W.cell? ⟨b', off' + n * 4, none⟩ = some (.string ⟨p.1.toArray⟩) ∧ W.cell? ⟨b', off' + n * 4 + 1, none⟩ = some (.int .i64 p.2.1) ∧ W.cell? ⟨b', off' + n * 4 + 2, none⟩ = some (.int .i64 p.2.2.1) ∧ W.cell? ⟨b', off' + n * 4 + 3, none⟩ = some (.int .i64 p.2.2.2))
                (first | (simp; done) | (go_split_ands; (repeat' apply And.intro) <;> (first | assumption | (apply cell_keep; assumption; assumption) | exact Below.refl _ _ | exact (Below.refl _ _).drew | (apply below_step; assumption; assumption) | exact Below.drew (by assumption) | (apply below_stepD; assumption; assumption))))
                (first | (go_at_call 23; refine (HCP.out _).mono ?_; rintro e w7 ⟨rfl, hb7⟩))
              have hfin := Lib.hid (hB7 (BYX.out) (And.left (by assumption)))
              go_wp2
              go_roundw
              case rel => exact ⟨j + 1, _, by omega, by go_num, rfl, Lib.hid (by rw [HT'.out]; rfl), hfin.out⟩
              case measure => simp [intOf]; omega
          · have d0 : decide (0 < j) = false := decide_eq_false hj0
            have d1 : decide ((0 : Int) < (j : Int)) = false := decide_eq_false (by omega)
            clear hj0
            clear HC2
            cases q <;> cases d
            all_goals
              go_upto_region 18 with fail
              go_quiet (fail)
              go_wp2
              go_roundw
              case rel => exact ⟨j + 1, _, by omega, by go_num, rfl, Lib.hid (by rw [HT'.out]; rfl), by first | exact BYX.out | exact BYX.out.drew | exact BYX.out.drewN _⟩
              case measure => simp [intOf]; omega
        · have hjt' : ¬ (j : Int) < (l.length : Int) := by omega
          have hq : q = true := by
            rw [HQ.out, List.take_of_length_le (by omega)]
            exact decide_eq_true HX1.out
          subst hq
          go_wp2
          go_roundw
          case rel => exact ⟨k + 1, by omega, by go_num, HBQ.out⟩
          case measure => simp [intOf]; omega
    · have hlt' : ¬ (k : Int) < (l.length : Int) := by omega
      have hB := Lib.hid (HB6.out.trans (hb.mono HB6.out.size))
      go_wp2_with fail
      refine (ca.out _ hB.out).mono ?_
      rintro e w9 ⟨rfl, hb9⟩
      go_wp2
      go_ret
      exact ⟨rfl, hB.out.trans (hb9.mono hB.out.size)⟩
theorem back_walk (m : Mod) (A : Option Addr) (c : Nat) (l : List Mod) (w : World) (hA : Sl w w.heap.size 4 encM A l) (hl : l.length ≤ 1048576) (hx : ∀ x ∈ m :: l, x.1.length ≤ 1048576) (hG : Glob w) :
    Calls Tryz.prog 6 #[.agg #[.string ⟨m.1.toArray⟩, .int .i64 m.2.1, .int .i64 m.2.2.1, .int .i64 m.2.2.2, .slice A l.length c]] w fun e w' => e = .returned (.bool true) ∧ Below w.heap.size w w' := by
  by_cases h : l.length ≤ 80 ∧ mcheck m l = 0
  · exact back_ok m A c l w hA hx hG h.1 h.2
  · exact back_bad m A c l w hA hl hx hG fun h80 h0 => h ⟨h80, h0⟩
end Go.Proofs.YtbbdoibmcmkmnaaGreatDoor
