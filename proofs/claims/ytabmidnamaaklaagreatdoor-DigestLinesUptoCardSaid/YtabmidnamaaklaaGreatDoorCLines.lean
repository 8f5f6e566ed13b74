/- The law DigestLines holds of every list of releases of bulk at most 1048576: the tied card of the second form. No condition beside the row's own. -/
import Derived.Test.YtabmidnamaaklaaGreatDoorKeep
import Derived.Test.YtabmidnamaaklaaGreatDoorOpen2
import Derived.Test.YtabmidnamaaklaaGreatDoorWSm
import Derived.Test.YtabmidnamaaklaaGreatDoorPM
namespace Go.Proofs.YtabmidnamaaklaaGreatDoor.lawLines
open Go.ChangeShapes Go.WideShapes Go.ChangeAt Go.RowKit
open Go.ChangeMaps (open_string shut_string)

theorem List1_any (r : RelA) (w : World) (hok : RelOk w r) (hG : Glob w) (he : rerr r.rel = 0) :
    Calls Tryz.prog 21 #[.slice (some ⟨w.heap.size, 0, none⟩) 1 1] (w.alloc (.cells #[.string ⟨r.m.1.toArray⟩, .int .i64 r.m.2.1, .int .i64 r.m.2.2.1, .int .i64 r.m.2.2.2, .slice r.A r.l.length r.c, .slice r.A' r.s.length r.c'] 40)) fun e w' =>
      ∃ b off c, e = .returned (.tuple #[.slice (some ⟨b, off, none⟩) 1 c, .int .i64 0]) ∧ w'.cell? ⟨b, off, none⟩ = some (.string ⟨(rline r.rel).toArray⟩) ∧ Below w.heap.size w w' := by
  have hb0 : Below w.heap.size w (w.alloc (.cells #[.string ⟨r.m.1.toArray⟩, .int .i64 r.m.2.1, .int .i64 r.m.2.2.1, .int .i64 r.m.2.2.2, .slice r.A r.l.length r.c, .slice r.A' r.s.length r.c'] 40)) := (Below.refl _ _).alloc (Nat.le_refl _) _
  have h := List_any (some ⟨w.heap.size, 0, none⟩) 1 [r] (w.alloc (.cells #[.string ⟨r.m.1.toArray⟩, .int .i64 r.m.2.1, .int .i64 r.m.2.2.1, .int .i64 r.m.2.2.2, .slice r.A r.l.length r.c, .slice r.A' r.s.length r.c'] 40)) (slR1 w r 40)
    (by
      intro x hx
      obtain rfl : x = r := by simpa using hx
      exact hok.below hb0) (by simp) (hG.alloc _)
  rw [show [r].map RelA.rel = [r.rel] from rfl, lerr_one _ he, lout_one _ he] at h
  refine h.mono ?_
  rintro e w' ⟨A, c, rfl, hS, hb, _⟩
  obtain ⟨b, off, rfl, _, hc⟩ := hS.str (i := 0) (by simp)
  exact ⟨b, off, c, rfl, by simpa using hc, hb0.trans (hb.mono (by simp))⟩

set_option maxRecDepth 100000 in
set_option maxHeartbeats 4000000 in
theorem walk (A : Option Addr) (c : Nat) (L : List RelA) (w : World) (hA : Sl w w.heap.size 6 encR A L) (hO : ∀ r ∈ L, RelOk w r ∧ r.l.length ≤ 1048576 ∧ r.s.length ≤ 1048576 ∧ (∀ x ∈ r.m :: r.l, x.1.length ≤ 1048576) ∧ ∀ x ∈ r.s, x.1.length ≤ 1048576 ∧ x.2.length ≤ 1048576) (hl : L.length ≤ 1099511627776) (hG : Glob w) :
    Calls Tryz.prog 10 #[.slice A L.length c] w fun e w' => e = .returned (.bool true) ∧ Below w.heap.size w w' := by
  have hok : ∀ r ∈ L, RelOk w r := fun r hr => (hO r hr).1
  have HG := Lib.hid hG
  have HOK := Lib.hid hok
  clear hG hok hO
  have ca := Lib.hid (fun W hW => alive_any W hW)
  by_cases h6 : 6 < L.length
  · have d6 : decide ((6 : Int) < (L.length : Int)) = true := decide_eq_true (by omega)
    go_enter Tryz.func10, Tryz.ntmps10
    go_wp2_with fail
    refine (ca.out _ HG.out).mono ?_
    rintro e w1 ⟨rfl, hb⟩
    go_wp2_with fail
    go_ret
    exact ⟨rfl, hb⟩
  have d6 : decide ((6 : Int) < (L.length : Int)) = false := decide_eq_false (by omega)
  go_enter Tryz.func10, Tryz.ntmps10
  go_wp2_with fail
  go_loopw [20] (fun i wr => ∃ k, k ≤ L.length ∧ i = .int .i64 (k : Nat) ∧ Below w.heap.size w wr) (fun i _ => L.length - (intOf i).toNat)
  case atStart => exact ⟨0, Nat.zero_le _, rfl, Below.refl _ _⟩
  case round =>
    obtain ⟨k, hk, rfl, hb⟩ := hrel
    have hbz := hb.size
    by_cases hlt : k < L.length
    · have hlt' : (k : Int) < (L.length : Int) := by omega
      obtain ⟨b, off, rfl, hbB, g0, g1, g2, g3, g4, g5⟩ := (hA.below hb).rel hlt
      have hrk := (HOK.out L[k] (List.getElem_mem hlt)).below hb
      generalize L[k] = r at g0 g1 g2 g3 g4 g5 hrk
      have cS := small_any r (wr.alloc (.cells #[.string ⟨r.m.1.toArray⟩, .int .i64 r.m.2.1, .int .i64 r.m.2.2.1, .int .i64 r.m.2.2.2, .slice r.A r.l.length r.c, .slice r.A' r.s.length r.c'] 40)) (hrk.below ((Below.refl _ _).alloc (Nat.le_refl _) _))
      cases hsm : smallR r.rel
      · rw [hsm] at cS
        have cS' := Lib.hid cS
        clear cS hsm hrk
        go_wp2_with fail
        refine cS'.out.mono ?_
        rintro e w1 ⟨rfl, hb1⟩
        have hB1 := Lib.hid ((hb.alloc hbz _).trans (hb1.mono (by simp; omega)))
        go_wp2_with fail
        refine (ca.out _ (HG.out.keep hB1.out)).mono ?_
        rintro e w2 ⟨rfl, hb2⟩
        go_wp2_with fail
        go_ret
        exact ⟨rfl, hB1.out.trans (hb2.mono hB1.out.size)⟩
      · rw [hsm] at cS
        have cS' := Lib.hid cS
        clear cS hsm hrk
        go_wp2_with fail
        refine cS'.out.mono ?_
        rintro e w1 ⟨rfl, hb1⟩
        have hB1 := Lib.hid ((hb.alloc hbz _).trans (hb1.mono (by simp; omega)))
        go_wp2_with fail
        go_roundw
        case rel => exact ⟨k + 1, by omega, by go_num, hB1.out⟩
        case measure => simp [intOf]; omega
    · have hlt' : ¬ (k : Int) < (L.length : Int) := by omega
      have HGr := Lib.hid (HG.out.keep hb)
      have cL := Lib.hid (List_any A c L wr ((hA.below hb).more hbz) (fun r hr => (HOK.out r hr).below hb) (by omega) HGr.out)
      have HB := Lib.hid hb
      clear hb
      by_cases hE : lerr (L.map RelA.rel) = 0
      · have cL2 := cL.out
        rw [hE] at cL2
        have cL' := Lib.hid cL2
        clear cL2 cL
        have HE := Lib.hid hE
        clear hE
        go_wp2_with fail
        refine cL'.out.mono ?_
        rintro e w2 ⟨A2, c2, rfl, hS2, hb2, _⟩
        have hB2r := Lib.hid hb2
        have hxl := lout_len (L.map RelA.rel) HE.out
        have HLA := Lib.hid (fun r hr => lines_at (L.map RelA.rel) HE.out r hr)
        have HFZ := Lib.hid (ferr_zero (L.map RelA.rel) (lerr_zero _ HE.out).1)
        generalize lout (L.map RelA.rel) = X at hS2 hxl HLA
        have hxl' : X.length = L.length := by simpa using hxl
        have HXL := Lib.hid hxl'
        have hx1 : X.length ≤ L.length := by omega
        have hx2 : L.length ≤ X.length := by omega
        clear hxl hxl' hb2
        go_wp2_with fail
        go_loopw [44] (fun i wr2 => ∃ k, k ≤ L.length ∧ i = .int .i64 (k : Nat) ∧ Below w2.heap.size w2 wr2) (fun i _ => L.length - (intOf i).toNat)
        case atStart => exact ⟨0, Nat.zero_le _, rfl, Below.refl _ _⟩
        case round =>
          rename World => wr2
          obtain ⟨j, hj, rfl, hbq⟩ := hrel
          have hqz := hbq.size
          have HB3 := Lib.hid (HB.out.trans ((hB2r.out.trans (hbq.mono hB2r.out.size)).mono HB.out.size))
          by_cases hjt : j < L.length
          · have hjt' : (j : Int) < (L.length : Int) := by omega
            obtain ⟨b, off, rfl, hbB, g0, g1, g2, g3, g4, g5⟩ := (hA.below HB3.out).rel hjt
            have hrk := (HOK.out L[j] (List.getElem_mem hjt)).below HB3.out
            have HER := Lib.hid (HFZ.out (L[j]).rel (List.mem_map.2 ⟨_, List.getElem_mem hjt, rfl⟩))
            have HLR := Lib.hid (HLA.out (L[j]).rel (List.mem_map.2 ⟨_, List.getElem_mem hjt, rfl⟩))
            generalize L[j] = r at g0 g1 g2 g3 g4 g5 hrk HER HLR
            have hb0 : Below wr2.heap.size wr2 (wr2.alloc (.cells #[.string ⟨r.m.1.toArray⟩, .int .i64 r.m.2.1, .int .i64 r.m.2.2.1, .int .i64 r.m.2.2.2, .slice r.A r.l.length r.c, .slice r.A' r.s.length r.c'] 40)) := (Below.refl _ _).alloc (Nat.le_refl _) _
            have Q0 := Lib.hid (Blk.new wr2 40 #[.string ⟨r.m.1.toArray⟩, .int .i64 r.m.2.1, .int .i64 r.m.2.2.1, .int .i64 r.m.2.2.2, .slice r.A r.l.length r.c, .slice r.A' r.s.length r.c'])
            have c0 := List1_any r _ (hrk.below hb0) ((HG.out.keep HB3.out).alloc _) HER.out
            simp only [World.size_alloc] at c0
            have c1 := Lib.hid c0
            clear hrk c0
            go_wp2_with fail
            refine c1.out.mono ?_
            rintro e w3 ⟨b1, off1, cc, rfl, hc1, hb3⟩
            have q0 := (Q0.out.keep (hb3.mono (by simp))).cell
            have p0 := q0 0
            have p1 := q0 1
            have p2 := q0 2
            have p3 := q0 3
            simp at p0 p1 p2 p3
            have hz3 := hb3.size
            simp at hz3
            have hx3 := Lib.hid (hb0.trans (hb3.mono (by simp)))
            have HB4 := Lib.hid (HB3.out.trans (hx3.out.mono HB3.out.size))
            have HC1 := Lib.hid hc1
            have hlt1 : b1 < w3.heap.size := lt_of_cell hc1
            clear c1 q0 Q0 HER hb0 hb3 g0 g1 g2 g3 g4 g5 hc1
            go_wp2_with fail
            go_loopw [11, 63] (fun u i wr3 => ∃ k n : Nat, k ≤ L.length ∧ n ≤ k ∧ u = .int .i64 (n : Nat) ∧ i = .int .i64 (k : Nat) ∧ Hid (n = before ((L.map RelA.rel).take k) r.m) ∧ Below w3.heap.size w3 wr3) (fun _ i _ => L.length - (intOf i).toNat)
            case atStart => exact ⟨0, 0, Nat.zero_le _, Nat.zero_le _, rfl, rfl, rfl, Below.refl _ _⟩
            case round =>
              obtain ⟨k, n, hk, hnk, rfl, rfl, HN, hbi⟩ := hrel
              have hiz := hbi.size
              have HB5 := Lib.hid (HB4.out.trans (hbi.mono HB4.out.size))
              have f0 := cell_keep hbi (p := ⟨wr2.heap.size, 0, none⟩) p0
              have f1 := cell_keep hbi (p := ⟨wr2.heap.size, 1, none⟩) p1
              have f2 := cell_keep hbi (p := ⟨wr2.heap.size, 2, none⟩) p2
              have f3 := cell_keep hbi (p := ⟨wr2.heap.size, 3, none⟩) p3
              have hlq := lt_of_cell f0
              by_cases hkt : k < L.length
              · have hkt' : (k : Int) < (L.length : Int) := by omega
                obtain ⟨b', off', e', hbB', q0, q1, q2, q3, q4, q5⟩ := (hA.below HB5.out).rel hkt
                obtain ⟨rfl, rfl⟩ : b = b' ∧ off = off' := by simpa using e'
                have HNX := Lib.hid (show before ((L.map RelA.rel).take (k + 1)) r.m = before ((L.map RelA.rel).take k) r.m + if mcmp (L[k]).m r.m < 0 then 1 else 0 by rw [before_take _ _ _ (by simpa using hkt)]; simp [RelA.rel])
                rw [← HN.out] at HNX
                clear HN e'
                generalize L[k] = x at q0 q1 q2 q3 q4 q5 HNX
                have cc0 : ∀ W, Calls Tryz.prog 25 #[.agg #[.string ⟨x.m.1.toArray⟩, .int .i64 x.m.2.1, .int .i64 x.m.2.2.1, .int .i64 x.m.2.2.2], .agg #[.string ⟨r.m.1.toArray⟩, .int .i64 r.m.2.1, .int .i64 r.m.2.2.1, .int .i64 r.m.2.2.2]] W fun e w' => e = .returned (.int .i64 (mcmp x.m r.m)) ∧ BelowD W.heap.size W w' := fun W => mCompare_any _ _ _ _ _ _ _ _ W
                generalize mcmp x.m r.m = q at cc0 HNX
                have cm := Lib.hid cc0
                clear cc0
                by_cases hq : q < 0
                · have dq : decide (q < 0) = true := decide_eq_true hq
                  have HNX' := Lib.hid (show n + 1 = before ((L.map RelA.rel).take (k + 1)) r.m by rw [HNX.out, if_pos hq])
                  clear HNX hq
                  go_wp2_with fail
                  refine (cm.out _).mono ?_
                  rintro e w4 ⟨rfl, hb4⟩
                  have hB4 := Lib.hid ((hbi.alloc hiz _).trans (hb4.toBelow.mono (by simp; omega)))
                  clear hb4
                  go_wp2
                  go_roundw
                  case rel => exact ⟨k + 1, n + 1, by omega, by omega, by go_num, by go_num, HNX'.out, hB4.out⟩
                  case measure => simp [intOf]; omega
                · have dq : decide (q < 0) = false := decide_eq_false hq
                  have HNX' := Lib.hid (show n = before ((L.map RelA.rel).take (k + 1)) r.m by rw [HNX.out, if_neg hq]; simp)
                  clear HNX hq
                  go_wp2_with fail
                  refine (cm.out _).mono ?_
                  rintro e w4 ⟨rfl, hb4⟩
                  have hB4 := Lib.hid ((hbi.alloc hiz _).trans (hb4.toBelow.mono (by simp; omega)))
                  clear hb4
                  go_wp2
                  go_roundw
                  case rel => exact ⟨k + 1, n, by omega, by omega, rfl, by go_num, HNX'.out, hB4.out⟩
                  case measure => simp [intOf]; omega
              · have hkt' : ¬ (k : Int) < (L.length : Int) := by omega
                have hne : n = before (L.map RelA.rel) r.m := by have := HN.out; rwa [List.take_of_length_le (by simp; omega)] at this
                obtain ⟨hi0, he0⟩ : ∃ hi : n < X.length, X[n] = rline r.rel := by
                  have := HLR.out
                  simp only [show before (L.map RelA.rel) r.rel.1 = n from hne.symm] at this
                  exact this
                clear hne HN
                have dn : decide ((n : Int) ≥ (X.length : Int)) = false := decide_eq_false (by omega)
                have dn2 : decide (n ≥ X.length) = false := decide_eq_false (by omega)
                have dn3 : decide (X.length ≤ n) = false := decide_eq_false (by omega)
                have dn4 : decide ((X.length : Int) ≤ (n : Int)) = false := decide_eq_false (by omega)
                have hiN : (n : Int) < (X.length : Int) := by omega
                have hBx := Lib.hid ((hbq.trans (hx3.out.mono hqz)).trans (hbi.mono (by omega)))
                obtain ⟨b2, off2, rfl, _, gx⟩ := (hS2.below hBx.out).str hi0
                rw [he0] at gx
                have g1' := cell_keep hbi (p := ⟨b1, off1, none⟩) HC1.out
                generalize rline r.rel = ln at gx g1'
                clear HLR he0
                go_wp2
                go_quiet (fail)
                go_wp2
                go_roundw
                case rel => exact ⟨j + 1, by omega, by go_num, hBx.out.drewN _⟩
                case measure => simp [intOf]; omega
          · have hjt' : ¬ (j : Int) < (L.length : Int) := by omega
            have HG3 := Lib.hid (HG.out.keep HB3.out)
            have dl : ((X.length : Int) == (L.length : Int)) = true := by rw [HXL.out]; simp
            have dl2 : (X.length == L.length) = true := by rw [HXL.out]; simp
            go_wp2_with fail
            refine (ca.out _ HG3.out).mono ?_
            rintro e w5 ⟨rfl, hb5⟩
            go_wp2_with fail
            go_ret
            exact ⟨rfl, HB3.out.trans (hb5.mono HB3.out.size)⟩
      · have cL2 := cL.out
        rw [lout_ne _ hE] at cL2
        generalize lerr (L.map RelA.rel) = E at cL2 hE
        have cL' := Lib.hid cL2
        have dE : (E != 0) = true := by simpa using hE
        clear cL2 cL hE
        go_wp2_with fail
        refine cL'.out.mono ?_
        rintro e w2 ⟨A2, c2, rfl, hS2, hb2, _⟩
        have hB2 := Lib.hid (HB.out.trans (hb2.mono HB.out.size))
        have HG3 := Lib.hid (HG.out.keep hB2.out)
        go_wp2_with fail
        refine (ca.out _ HG3.out).mono ?_
        rintro e w5 ⟨rfl, hb5⟩
        go_wp2_with fail
        go_ret
        exact ⟨rfl, hB2.out.trans (hb5.mono hB2.out.size)⟩

set_option maxRecDepth 100000 in
theorem contract (H : Type) (enc : TypeId × Value → H) (W : World) (base : Nat) (args : Array Value) (ds gs : List (DataW H)) (before : List MemPlace)
    (hval : ∀ (j : Nat) t v, Tryz.f10.params[j]? = some t → args[j]? = some v → Value.okWide Tryz.prog W .any base t v)
    (hW : DataW.Whole enc Tryz.prog Tryz.f10.params.toList Rows.digestLinesSpec.vars false W args.toList ds gs before) (hk : Rows.uptoSmall H (ds ++ gs) = true) (hG : Glob W) :
    Calls Tryz.prog 10 args W fun e W' => ∃ v, e = .returned v ∧ Rows.digestLinesSpec.post enc Tryz.prog Tryz.f10 false true false false W args v W' := by
  have hW' := hW
  obtain ⟨p, q, hA0, hV, rfl, hfz, hnd⟩ := hW
  have hA : DataW.TrodAll enc Tryz.prog W 0 (fun _ => true) true Tryz.f10.params.toList args.toList ds p := hA0
  rw [Tryz.params10] at hA hval
  obtain ⟨v0, vs0, d0, ds0, p0, q0, hargs, rfl, rfl, h0, r0⟩ := trodAll_cons hA
  obtain ⟨rfl, rfl, rfl⟩ := trodAll_nil r0
  obtain rfl : args = #[v0] := by cases args; simp_all
  obtain ⟨rfl, rfl⟩ := trodVars_none hV
  obtain ⟨A0, c0, L0, rfl, hS0, hO0, _, hN0⟩ := open_sl Tryz.underlying44 (opens_releases W 1048576 (by decide)) (hval 0 44 v0 rfl rfl) h0 (by have := bulk_of hk; simp only [List.append_nil, Rows.uptoBulkAll] at this; omega)
  have hl0 : L0.length ≤ 1099511627776 := by omega
  clear hA0
  have hw := walk A0 c0 L0 W hS0 hO0 hl0 hG
  refine hw.mono fun e W' ⟨he, hb⟩ => ?_
  subst he
  exact ⟨_, rfl, law_post hW' rfl (by kernel_rfl) (by kernel_rfl) rfl rfl rfl hb⟩

set_option maxRecDepth 100000 in
theorem reads (os : Os) {H : Type} (enc : TypeId × Value → H) : ∃ places, DataW.whole enc Tryz.prog ((laidWorld os).forCall (fun _ _ => 0) ⟨#[], #[.slice none 0 0], []⟩).memory Tryz.f10.params.toList Rows.digestLinesSpec.vars false (#[.slice none 0 0] : Array Value).toList 8 = some ([.nil], [], places) :=
  ⟨[], by kernel_rfl⟩

set_option maxRecDepth 100000 in
theorem lifted (os : Os) (started : os.Started) (H : Type) (enc : TypeId × Value → H) (F : Stop.Interp) :
    ReturnsInHanded {} Tryz.checked os 10 .any ((Rows.OpenSpec.upto Rows.digestLinesSpec).preRow enc Tryz.prog Tryz.f10 Rows.digestLinesUptoRow.domain false Rows.digestLinesUptoRow.laid) (((Rows.OpenSpec.upto Rows.digestLinesSpec).at F).post enc Tryz.prog Tryz.f10 false true false false) := by
  obtain ⟨places, hx⟩ := reads os enc
  refine returnsInHanded_of_row (C := Tryz.checked) (s := Rows.OpenSpec.upto Rows.digestLinesSpec) own started (by kernel_rfl) Tryz.func10
    (witness_row_at (enc := enc) (C := Tryz.checked) false (laidWorld os) #[.slice none 0 0] (World.laidAll_os _ _ _) (by kernel_rfl) (by kernel_rfl) (by kernel_rfl)
      (OpenSpec.preRow_of_cond 8 hx (by kernel_rfl) (fun k hk => by cases hk; kernel_rfl) (by kernel_rfl) (laid_met os _))) ?_
  intro W base args ds gs before hval hW _ hcond _ hL hsh _
  exact contract H enc W base args ds gs before hval hW (hcond _ rfl) (glob_of hL hsh)

set_option maxRecDepth 100000 in
theorem said : Rows.DigestLinesUptoSaid :=
  OpenClaim.holds_of_cond 10 Tryz.f10 rfl rfl rfl rfl rfl rfl rfl ⟨rfl, rfl, rfl, rfl, rfl⟩ rfl rfl rfl rfl rfl (by kernel_rfl) Tryz.func10 (by kernel_rfl)
    (of_decide_eq_true (by kernel_rfl)) (by unfold Func.isWrapper; first | (rw [if_pos (by decide +kernel)]; kernel_rfl) | (rw [if_neg (by decide +kernel)]; exact ⟨rfl, rfl⟩))
    (fun os started H enc _ F => by rw [OpenClaim.pre_eq_preRow]; exact lifted os started H enc F)

set_option maxRecDepth 100000 in
theorem plain (f : FuncId) (fn : Func) (hf : Tryz.pinned.checked.prog.funcNamed "configlang/configlanglaw47.DigestLines" = some f) (hfn : Tryz.pinned.checked.prog.funcs[f]? = some fn) :
    false = Tryz.pinned.checked.prog.looks [] ∧ ∀ (j : Nat) t, fn.params[j]? = some t → Tryz.pinned.checked.prog.wantsStandIn t = false := by
  obtain rfl : f = 10 := Option.some.inj ((show Tryz.prog.funcNamed "configlang/configlanglaw47.DigestLines" = some 10 by kernel_rfl).symm.trans hf) |>.symm
  obtain rfl : fn = Tryz.f10 := (Option.some.inj (Tryz.func10.symm.trans hfn)).symm
  refine ⟨by kernel_rfl, fun j t ht => ?_⟩
  rw [Tryz.params10] at ht
  obtain rfl : t = 44 := by simpa using Array.mem_of_getElem? ht
  exact (show Tryz.prog.wantsStandIn 44 = false by kernel_rfl)

set_option maxRecDepth 100000 in
theorem card : Rows.DigestLinesUptoCardSaid :=
  Claim7.holds_tied_plain_at .later [] _ _ _ _ said (fun _ h => by cases h) (by kernel_rfl) (fun _ h => by cases h) digestLinesUpto_row_tie rfl ⟨rfl, rfl⟩ (by kernel_rfl) rfl plain (by kernel_rfl)
end Go.Proofs.YtabmidnamaaklaaGreatDoor.lawLines
