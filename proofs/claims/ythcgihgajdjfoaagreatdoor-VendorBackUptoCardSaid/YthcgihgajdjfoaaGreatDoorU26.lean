/- What the claim needs of: WR3. -/
import Derived.Test.YthcgihgajdjfoaaGreatDoorU25
import Derived.Test.YthcgihgajdjfoaaGreatDoorU23
import Derived.Deep.RegionHeld3
namespace Go.Proofs.YthcgihgajdjfoaaGreatDoor
open Go.RowKit Go.Sort
def knownP (R : Regy) (l : List Mod) (p : List UInt8) : Bool := l.all fun x => decide (x.1 = p) || hasR R x
set_option maxRecDepth 100000 in
set_option maxHeartbeats 4000000 in
theorem known_any (A : Option Addr) (c : Nat) (Y : List ManW) (A2 : Option Addr) (c2 : Nat) (l : List Mod) (path : List UInt8) (w : World) (hY : RegOk w w.heap.size A Y) (hS : Sl w w.heap.size 4 encM A2 l) (hl : l.length ≤ 1099511627776) :
    Calls Tryz.prog 75 #[.slice A Y.length c, .slice A2 l.length c2, .string ⟨path.toArray⟩] w fun e w' => e = .returned (.bool (knownP (regW Y) l path)) ∧ Below w.heap.size w w' := by
  have HY := Lib.hid hY
  have HS := Lib.hid hS
  have hYl := hY.2.2
  have cF := Lib.hid (fun m W (hW : Below w.heap.size w W) => find_any A c Y m W ((HY.out.step hW).1) (by omega))
  clear hY hS
  obtain ⟨E, hE⟩ : ∃ E, E = knownP (regW Y) l path := ⟨_, rfl⟩
  rw [← hE]
  have HE := Lib.hid hE
  clear hE
  go_enter Tryz.func75, Tryz.ntmps75
  go_wp2
  go_loopw [7] (fun i wr => ∃ k : Nat, k ≤ l.length ∧ i = .int .i64 (k : Nat) ∧ Hid (∀ j (_ : j < k) (hj : j < l.length), l[j].1 = path ∨ hasR (regW Y) l[j] = true) ∧ Hid (Below w.heap.size w wr)) (fun i _ => l.length - (intOf i).toNat)
  case atStart => exact ⟨0, Nat.zero_le _, rfl, Lib.hid (fun j h => by omega), Lib.hid (Below.refl _ _)⟩
  case round =>
    obtain ⟨k, hk, rfl, HJ, HB⟩ := hrel
    by_cases hlt : k < l.length
    · have hlt' : (k : Int) < (l.length : Int) := by omega
      obtain ⟨b, off, hA2, hbB, g0, g1, g2, g3⟩ := (HS.out.below HB.out).mod hlt
      have HN := Lib.hid (show l[k].1 = path ∨ hasR (regW Y) l[k] = true → ∀ j (_ : j < k + 1) (hj : j < l.length), l[j].1 = path ∨ hasR (regW Y) l[j] = true from fun h j hj hl2 => by
        by_cases hjk : j < k
        · exact HJ.out j hjk hl2
        · obtain rfl : j = k := by omega
          exact h)
      have HX := Lib.hid (show ¬ (l[k].1 = path ∨ hasR (regW Y) l[k] = true) → E = false from fun h => by
        rw [HE.out]
        unfold knownP
        rw [List.all_eq_false]
        exact ⟨l[k], List.getElem_mem hlt, by simpa using h⟩)
      generalize l[k] = x at g0 g1 g2 g3 HN HX
      have cX := Lib.hid (cF.out x)
      have hfi := hasR_findI Y x
      have hfr := findI_range Y x
      generalize findI Y x = f at cX hfi hfr
      subst hA2
      clear HJ
      by_cases hp : x.1 = path
      · have hp1 : (x.1 == path) = true := by rw [hp]; exact beq_self_eq_true _
        have hp2 : (x.1 != path) = false := by rw [hp]; simp
        have HN2 := Lib.hid (HN.out (.inl hp))
        clear hp HN HX hfi hfr cX
        go_wp2
        go_roundw
        case rel => exact ⟨k + 1, by omega, by go_num, HN2, HB⟩
        case measure => simp [intOf]; omega
      · have hp1 : (x.1 == path) = false := beq_eq_false_iff_ne.2 hp
        have hp2 : (x.1 != path) = true := bne_iff_ne.2 hp
        cases hr : hasR (regW Y) x with
        | true =>
          have hf0 : ¬ f < 0 := fun h => by rw [hfi.1 h] at hr; cases hr
          have HN2 := Lib.hid (HN.out (.inr hr))
          have HP := Lib.hid hp
          clear hp HN HX hfi hfr hr
          go_wp2_with fail
          refine (cX.out _ HB.out).mono ?_
          rintro e w2 ⟨rfl, hb2⟩
          have HB2 := Lib.hid (HB.out.trans (hb2.mono HB.out.size))
          clear hb2 cX
          go_wp2
          go_roundw
          case rel => exact ⟨k + 1, by omega, by go_num, HN2, HB2⟩
          case measure => simp [intOf]; omega
        | false =>
          have hf0 : f < 0 := hfi.2 hr
          have HX2 := Lib.hid (HX.out (fun h => by rcases h with h | h; exact hp h; rw [hr] at h; cases h))
          have HP := Lib.hid hp
          clear hp HN HX hfi hfr hr
          go_wp2_with fail
          refine (cX.out _ HB.out).mono ?_
          rintro e w2 ⟨rfl, hb2⟩
          have HB2 := Lib.hid (HB.out.trans (hb2.mono HB.out.size))
          clear hb2 cX
          go_wp2
          go_ret
          exact ⟨by rw [HX2.out]; rfl, HB2.out⟩
    · obtain rfl : k = l.length := by omega
      have HF := Lib.hid (show E = true from by
        rw [HE.out]
        unfold knownP
        rw [List.all_eq_true]
        intro x hx
        obtain ⟨j, hj, rfl⟩ := List.mem_iff_getElem.1 hx
        have := HJ.out j hj hj
        simpa using this)
      clear HJ
      go_wp2
      go_ret
      exact ⟨by rw [HF.out]; rfl, HB.out⟩
def gstep (p : List UInt8) (b : Option Mod) (x : Mod) : Option Mod := if x.1 = p then (match b with | none => some x | some u => if vcmpV u.2 x.2 < 0 then some x else some u) else b
def greatestP (l : List Mod) (p : List UInt8) : Option Mod := l.foldl (gstep p) none
theorem gfold_take {p : List UInt8} {l : List Mod} {k : Nat} (hk : k < l.length) : (l.take (k + 1)).foldl (gstep p) none = gstep p ((l.take k).foldl (gstep p) none) l[k] := by
  rw [List.take_succ_eq_append_getElem hk, List.foldl_append]; rfl
theorem blk_far' {W : World} {g : Nat} {t : TypeId} {cs : Array Value} (h : Blk W g t cs) (p : Addr) (v : Value) (hne : g ≠ p.block) : Blk (W.setCell p v) g t cs := (Below.heap_setCell W p v g hne).trans h
def RetG (w : World) (b : Option Mod) (e : Ending) (w' : World) : Prop := e = .returned (.tuple #[.agg #[.string ⟨(b.getD zmod).1.toArray⟩, .int .i64 (b.getD zmod).2.1, .int .i64 (b.getD zmod).2.2.1, .int .i64 (b.getD zmod).2.2.2], .bool b.isSome]) ∧ Below w.heap.size w w'
set_option maxRecDepth 100000 in
set_option maxHeartbeats 4000000 in
theorem greatest_any (A2 : Option Addr) (c2 : Nat) (l : List Mod) (path : List UInt8) (w : World) (hS : Sl w w.heap.size 4 encM A2 l) (hl : l.length ≤ 1099511627776) :
    Calls Tryz.prog 76 #[.slice A2 l.length c2, .string ⟨path.toArray⟩] w (RetG w (greatestP l path)) := by
  have HS := Lib.hid hS
  clear hS
  obtain ⟨E, hE⟩ : ∃ E, E = greatestP l path := ⟨_, rfl⟩
  rw [← hE]
  have HE := Lib.hid hE
  clear hE
  have hb0 : Below w.heap.size w ((w.alloc (.cells (modA zmod) 26)).alloc (.cells (modA zmod) 26)) := ((Below.refl _ _).alloc (Nat.le_refl _) _).alloc (by simp) _
  have HB0 := Lib.hid hb0
  have q0 : Blk ((w.alloc (.cells (modA zmod) 26)).alloc (.cells (modA zmod) 26)) w.heap.size 26 (modA zmod) := (Blk.new w 26 (modA zmod)).keep ((Below.refl _ _).alloc (Nat.le_refl _) _)
  have q1 := Blk.new (w.alloc (.cells (modA zmod) 26)) 26 (modA zmod)
  rw [World.size_alloc] at q1
  have Q0 := Lib.hid q0
  have Q1 := Lib.hid q1
  clear hb0 q0 q1
  generalize hQ : RetG w E = Q
  go_enter Tryz.func76, Tryz.ntmps76
  go_wp2
  go_loopw [7, 8] (fun o i wr => ∃ (k : Nat) (b : Option Mod), k ≤ l.length ∧ i = .int .i64 (k : Nat) ∧ o = .bool b.isSome ∧ Hid (b = (l.take k).foldl (gstep path) none) ∧ Hid (Blk wr w.heap.size 26 (modA zmod)) ∧ Hid (Blk wr (w.heap.size + 1) 26 (modA (b.getD zmod))) ∧ Hid (Below w.heap.size w wr) ∧ w.heap.size + 2 ≤ wr.heap.size) (fun _ i _ => l.length - (intOf i).toNat)
  case atStart => exact ⟨0, none, Nat.zero_le _, rfl, rfl, Lib.hid rfl, Q0, Q1, HB0, by simp⟩
  case round =>
    obtain ⟨k, b, hk, rfl, rfl, HJ, H0, H1, HB, hzr⟩ := hrel
    by_cases hlt : k < l.length
    · have hlt' : (k : Int) < (l.length : Int) := by omega
      have HSk := Lib.hid (fun W (hW : Below w.heap.size w W) => (HS.out.below hW).mod hlt)
      obtain ⟨bb, off, hA2, hbB, g0, g1, g2, g3⟩ := (HS.out.below HB.out).mod hlt
      have HT := Lib.hid (gfold_take (p := path) hlt)
      rw [← HJ.out] at HT
      generalize l[k] = x at g0 g1 g2 g3 HSk HT
      subst hA2
      have HDn := Lib.hid (fun n => ((Below.refl wr.heap.size wr).drewN n))
      by_cases hp : x.1 = path
      · have hp1 : (x.1 == path) = true := by rw [hp]; exact beq_self_eq_true _
        have HP := Lib.hid hp
        cases b with
        | none =>
          have HT2 := Lib.hid (show some x = (l.take (k + 1)).foldl (gstep path) none by rw [HT.out]; unfold gstep; rw [if_pos hp])
          have H1' := Lib.hid (fun n => (show Blk wr (w.heap.size + 1) 26 (modA zmod) from H1.out).keep (HDn.out n))
          clear hp HJ HT H1
          go_wp2
          go_quiet (fail)
          obtain ⟨X, hX⟩ : ∃ X, X = wr.drewN nq := ⟨_, rfl⟩
          rw [← hX]
          have H0X := Lib.hid (H0.out.keep (HDn.out nq))
          have H1X := Lib.hid (H1'.out nq)
          have HBX := Lib.hid (HB.out.trans ((HDn.out nq).mono HB.out.size))
          rw [← hX] at H0X H1X HBX
          have hzX : w.heap.size + 2 ≤ X.heap.size := by rw [hX]; exact hzr
          clear hX g0 g1 g2 g3
          obtain ⟨b2, off2, hA3, hb3, e0, e1, e2, e3⟩ := HSk.out X HBX.out
          injection hA3 with hA3
          injection hA3 with e4 e5
          subst e4 e5
          have k0 := H1X.out.cell 0
          have k1 := H1X.out.cell 1
          have k2 := H1X.out.cell 2
          have k3 := H1X.out.cell 3
          have f0 := H1X.out.free 0
          have f1 := H1X.out.free 1
          have f2 := H1X.out.free 2
          have f3 := H1X.out.free 3
          simp [modA] at k0 k1 k2 k3
          have hne : w.heap.size ≠ w.heap.size + 1 := by omega
          have hge : w.heap.size ≤ w.heap.size + 1 := by omega
          go_wp2
          go_roundw
          case rel => exact ⟨k + 1, some x, by omega, by go_num, rfl, HT2, Lib.hid (blk_far' (blk_far' (blk_far' (blk_far' H0X.out _ _ hne) _ _ hne) _ _ hne) _ _ hne), Lib.hid ((((H1X.out.set_ 0 _).set_ 1 _).set_ 2 _).set_ 3 _), Lib.hid ((((HBX.out.setCell (p := ⟨w.heap.size + 1, 0, none⟩) hge _).setCell (p := ⟨w.heap.size + 1, 1, none⟩) hge _).setCell (p := ⟨w.heap.size + 1, 2, none⟩) hge _).setCell (p := ⟨w.heap.size + 1, 3, none⟩) hge _), by simpa [World.setCell] using hzX⟩
          case measure => simp [intOf]; omega
        | some u =>
          have hcc : ∀ W, Calls Tryz.prog 55 #[.agg #[.int .i64 u.2.1, .int .i64 u.2.2.1, .int .i64 u.2.2.2], .agg #[.int .i64 x.2.1, .int .i64 x.2.2.1, .int .i64 x.2.2.2]] W fun e w' => e = .returned (.int .i64 (vcmpV u.2 x.2)) ∧ Below W.heap.size W w' := fun W => refCompare_any _ _ _ _ _ _ W
          have HT2 := Lib.hid (show (if vcmpV u.2 x.2 < 0 then some x else some u) = (l.take (k + 1)).foldl (gstep path) none by rw [HT.out]; unfold gstep; rw [if_pos hp])
          generalize vcmpV u.2 x.2 = d at hcc HT2
          have cm := Lib.hid hcc
          have H1' := Lib.hid (show Blk wr (w.heap.size + 1) 26 (modA u) from H1.out)
          obtain ⟨y0, y1, y2, y3⟩ := modC H1'.out
          clear hp HJ HT H1 hcc y0
          by_cases hd : d < 0
          · have hd1 : decide (d < 0) = true := decide_eq_true hd
            have HT3 := Lib.hid (show some x = (l.take (k + 1)).foldl (gstep path) none by rw [← HT2.out, if_pos hd])
            clear hd HT2
            go_wp2
            go_region_held3 (fun W => W.cell? ⟨w.heap.size + 1, 1, none⟩ = some (.int .i64 u.2.1) ∧ W.cell? ⟨w.heap.size + 1, 2, none⟩ = some (.int .i64 u.2.2.1) ∧ W.cell? ⟨w.heap.size + 1, 3, none⟩ = some (.int .i64 u.2.2.2) ∧ W.cell? ⟨bb, off + k * 4, none⟩ = some (.string ⟨x.1.toArray⟩) ∧ W.cell? ⟨bb, off + k * 4 + 1, none⟩ = some (.int .i64 x.2.1) ∧ W.cell? ⟨bb, off + k * 4 + 2, none⟩ = some (.int .i64 x.2.2.1) ∧ W.cell? ⟨bb, off + k * 4 + 3, none⟩ = some (.int .i64 x.2.2.2)) (first | (simp; done) | (go_split_ands; (repeat' apply And.intro) <;> (first | assumption | (apply cell_keep; assumption; assumption) | (apply cell_keep_alloc; assumption))))
              (first | (go_at_call 55; refine (cm.out _).mono ?_; rintro e w4 ⟨rfl, hb4⟩))
            have HBX := Lib.hid (HB.out.drew.trans (hb4.mono HB.out.size))
            have H0X := Lib.hid ((H0.out.keep ((Below.refl _ _).drew)).keep hb4)
            have H1X := Lib.hid ((H1'.out.keep ((Below.refl _ _).drew)).keep hb4)
            have HT2 := HT3
            have hzX : w.heap.size + 2 ≤ w4.heap.size := by have := hb4.size; have h2 : wr.drew.heap.size = wr.heap.size := rfl; omega
            obtain ⟨X, hX⟩ : ∃ X, X = w4 := ⟨_, rfl⟩
            subst hX
            obtain ⟨b2, off2, hA3, hb3, e0, e1, e2, e3⟩ := HSk.out X HBX.out
            injection hA3 with hA3
            injection hA3 with e4 e5
            subst e4 e5
            clear hb4 g0 g1 g2 g3 y1 y2 y3
            have k0 := H1X.out.cell 0
            have k1 := H1X.out.cell 1
            have k2 := H1X.out.cell 2
            have k3 := H1X.out.cell 3
            have f0 := H1X.out.free 0
            have f1 := H1X.out.free 1
            have f2 := H1X.out.free 2
            have f3 := H1X.out.free 3
            simp [modA] at k0 k1 k2 k3
            have hne : w.heap.size ≠ w.heap.size + 1 := by omega
            have hge : w.heap.size ≤ w.heap.size + 1 := by omega
            go_wp2
            go_roundw
            case rel => exact ⟨k + 1, some x, by omega, by go_num, rfl, HT2, Lib.hid (blk_far' (blk_far' (blk_far' (blk_far' H0X.out _ _ hne) _ _ hne) _ _ hne) _ _ hne), Lib.hid ((((H1X.out.set_ 0 _).set_ 1 _).set_ 2 _).set_ 3 _), Lib.hid ((((HBX.out.setCell (p := ⟨w.heap.size + 1, 0, none⟩) hge _).setCell (p := ⟨w.heap.size + 1, 1, none⟩) hge _).setCell (p := ⟨w.heap.size + 1, 2, none⟩) hge _).setCell (p := ⟨w.heap.size + 1, 3, none⟩) hge _), by simpa [World.setCell] using hzX⟩
            case measure => simp [intOf]; omega
          · have hd1 : decide (d < 0) = false := decide_eq_false hd
            have HT3 := Lib.hid (show some u = (l.take (k + 1)).foldl (gstep path) none by rw [← HT2.out, if_neg hd])
            clear hd HT2
            go_wp2
            go_region_held3 (fun W => W.cell? ⟨w.heap.size + 1, 1, none⟩ = some (.int .i64 u.2.1) ∧ W.cell? ⟨w.heap.size + 1, 2, none⟩ = some (.int .i64 u.2.2.1) ∧ W.cell? ⟨w.heap.size + 1, 3, none⟩ = some (.int .i64 u.2.2.2) ∧ W.cell? ⟨bb, off + k * 4, none⟩ = some (.string ⟨x.1.toArray⟩) ∧ W.cell? ⟨bb, off + k * 4 + 1, none⟩ = some (.int .i64 x.2.1) ∧ W.cell? ⟨bb, off + k * 4 + 2, none⟩ = some (.int .i64 x.2.2.1) ∧ W.cell? ⟨bb, off + k * 4 + 3, none⟩ = some (.int .i64 x.2.2.2)) (first | (simp; done) | (go_split_ands; (repeat' apply And.intro) <;> (first | assumption | (apply cell_keep; assumption; assumption) | (apply cell_keep_alloc; assumption))))
              (first | (go_at_call 55; refine (cm.out _).mono ?_; rintro e w4 ⟨rfl, hb4⟩))
            have HBX := Lib.hid (HB.out.drew.trans (hb4.mono HB.out.size))
            have H0X := Lib.hid ((H0.out.keep ((Below.refl _ _).drew)).keep hb4)
            have H1X := Lib.hid ((H1'.out.keep ((Below.refl _ _).drew)).keep hb4)
            have hzX : w.heap.size + 2 ≤ w4.heap.size := by have := hb4.size; have h2 : wr.drew.heap.size = wr.heap.size := rfl; omega
            clear hb4 g0 g1 g2 g3 y1 y2 y3
            go_wp2
            go_roundw
            case rel => exact ⟨k + 1, some u, by omega, by go_num, rfl, HT3, H0X, H1X, HBX, hzX⟩
            case measure => simp [intOf]; omega
      · have hp1 : (x.1 == path) = false := beq_eq_false_iff_ne.2 hp
        have HT2 := Lib.hid (show b = (l.take (k + 1)).foldl (gstep path) none by rw [HT.out]; unfold gstep; rw [if_neg hp])
        clear hp HJ HT
        go_wp2
        go_quiet (fail)
        go_wp2
        go_roundw
        case rel => exact ⟨k + 1, b, by omega, by go_num, rfl, HT2, Lib.hid (H0.out.keep (HDn.out nq)), Lib.hid (H1.out.keep (HDn.out nq)), Lib.hid (HB.out.trans ((HDn.out nq).mono HB.out.size)), hzr⟩
        case measure => simp [intOf]; omega
    · obtain rfl : k = l.length := by omega
      rw [List.take_of_length_le (Nat.le_refl _)] at HJ
      have HF := Lib.hid (show E = b by rw [HE.out, HJ.out]; rfl)
      have k0 := H0.out.cell 0
      have k1 := H0.out.cell 1
      have k2 := H0.out.cell 2
      have k3 := H0.out.cell 3
      have f0 := H0.out.free 0
      have f1 := H0.out.free 1
      have f2 := H0.out.free 2
      have f3 := H0.out.free 3
      simp [modA] at k0 k1 k2 k3
      obtain ⟨y0, y1, y2, y3⟩ := modC H1.out
      clear HJ
      go_wp2
      refine bodyPost_ret (v := .tuple #[.agg #[.string ⟨(b.getD zmod).1.toArray⟩, .int .i64 (b.getD zmod).2.1, .int .i64 (b.getD zmod).2.2.1, .int .i64 (b.getD zmod).2.2.2], .bool b.isSome]) (by simp [results, Tryz.results76, go_sem, k0, k1, k2, k3]) rfl ?_
      rw [← hQ]
      refine ⟨by rw [HF.out], ?_⟩
      have hge : w.heap.size ≤ w.heap.size := Nat.le_refl _
      exact (((HB.out.setCell hge _).setCell hge _).setCell hge _).setCell hge _
end Go.Proofs.YthcgihgajdjfoaaGreatDoor
