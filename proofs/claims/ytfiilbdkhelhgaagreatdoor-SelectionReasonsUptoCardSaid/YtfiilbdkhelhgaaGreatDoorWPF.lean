/- Walk: sorting by insertion (reference), with the place of the result. -/
import Derived.Test.YtfiilbdkhelhgaaGreatDoorWO
import Derived.Test.YtfiilbdkhelhgaaGreatDoorG1
import Derived.Test.YtfiilbdkhelhgaaGreatDoorG3
import Derived.Deep.CutBlock
namespace Go.Proofs.YtfiilbdkhelhgaaGreatDoor
open Go.RowKit Go.Sort

/-- where an element is inserted -/
def InsAt (P : List Mod) (x : Mod) (a : Nat) : Prop := (∀ i, i + 1 = a → ∀ h : i < P.length, ltOf mcmp x P[i] = false) ∧ (∀ i, a ≤ i → ∀ h : i < P.length, ltOf mcmp x P[i] = true)
theorem flat_ins (P : List Mod) (x : Mod) (a : Nat) : (P.take a ++ x :: P.drop a).flatMap encM = ((P.take a).flatMap encM ++ encM x) ++ (P.drop a).flatMap encM := by simp

set_option maxRecDepth 100000 in
set_option maxHeartbeats 4000000 in
theorem refSorted_far (A : Option Addr) (c : Nat) (l : List Mod) (w : World) (hA : Sl w w.heap.size 4 encM A l) (hl : l.length ≤ 1099511627776) :
    Calls Tryz.prog 35 #[.slice A l.length c] w fun e w' => ∃ A' c', e = .returned (.slice A' l.length c') ∧ (∀ a, A' = some a → w.heap.size ≤ a.block) ∧ Sl w' w'.heap.size 4 encM A' (msort l) ∧ Below w.heap.size w w' := by
  go_enter Tryz.func35, Tryz.ntmps35
  go_wp2
  go_loopw [3, 10] (fun v i wr => ∃ (k : Nat) (P : List Mod), k ≤ l.length ∧ i = .int .i64 (k : Nat) ∧ P.length = k ∧ Acc wr w.heap.size 30 4 v k (P.flatMap encM) ∧ Hid (P.Perm (l.take k)) ∧ Hid (P.Pairwise (leOf (ltOf mcmp))) ∧ Hid (∀ b, v.ownBlock = some b → w.heap.size ≤ b) ∧ Below w.heap.size w wr)
    (fun _ i _ => l.length - (intOf i).toNat)
  case atStart => exact ⟨0, [], Nat.zero_le _, rfl, rfl, Acc.nil_ _ _ _ _, List.Perm.refl [], List.Pairwise.nil, Lib.hid (fun b h => by simp [Value.ownBlock] at h), Below.refl _ _⟩
  case round =>
    obtain ⟨wo, hwo⟩ : ∃ wo, wo = wr := ⟨_, rfl⟩
    subst hwo
    obtain ⟨k, P, hk, rfl, hPk, hacc, HP, HS, HF, hb⟩ := hrel
    have hbz := hb.size
    obtain ⟨A1, c1, rfl⟩ := hacc.shape
    have hcap := hacc.cap
    by_cases hlt : k < l.length
    · have hlt' : (k : Int) < (l.length : Int) := by omega
      obtain ⟨b, off, rfl, hbB, g0, g1, g2, g3⟩ := (hA.below hb).mod hlt
      have HN := Lib.hid (fun a => ins_perm P (l.take k) l[k] a HP.out)
      have HK := Lib.hid (List.take_succ_eq_append_getElem hlt)
      have HI := Lib.hid (fun a (ha : a ≤ P.length) (h : InsAt P l[k] a) => ins_sorted mlt_swo P l[k] a ha HS.out h.1 h.2)
      have HPk := Lib.hid hPk
      have hp1 : P.length ≤ k := by omega
      have hp2 : k ≤ P.length := by omega
      clear hPk
      generalize l[k] = x at g0 g1 g2 g3 HN HK HI
      obtain ⟨s, x1, x2, x3⟩ := x
      simp only at g0 g1 g2 g3
      go_upto_block 2 with fail
      have hB1 := Lib.hid (hb.alloc hbz (.cells #[.string ⟨s.toArray⟩, .int .i64 x1, .int .i64 x2, .int .i64 x3] 30))
      have hacc1 := hacc.alloc (.cells #[.string ⟨s.toArray⟩, .int .i64 x1, .int .i64 x2, .int .i64 x3] 30)
      have q0 := Blk.new wo 30 #[.string ⟨s.toArray⟩, .int .i64 x1, .int .i64 x2, .int .i64 x3]
      have hzz : (wo.alloc (.cells #[.string ⟨s.toArray⟩, .int .i64 x1, .int .i64 x2, .int .i64 x3] 30)).heap.size = wo.heap.size + 1 := by simp
      clear g0 g1 g2 g3 hacc hb
      generalize wo.alloc (.cells #[.string ⟨s.toArray⟩, .int .i64 x1, .int .i64 x2, .int .i64 x3] 30) = W0 at hB1 hacc1 q0 hzz ⊢
      generalize wo.heap.size = g at q0 hbz hzz ⊢
      have Q0 := Lib.hid q0
      have HA0 := Lib.hid hacc1
      clear q0
      go_cut [6] (fun i wx => ∃ a : Nat, a ≤ P.length ∧ i = .int .i64 (a : Nat) ∧ Hid (InsAt P (s, x1, x2, x3) a) ∧ Below W0.heap.size W0 wx)
      case first =>
        go_wp2_with fail
        go_loopw [6] (fun i wx => ∃ a : Nat, a ≤ P.length ∧ i = .int .i64 (a : Nat) ∧ Hid (∀ i, a ≤ i → ∀ h : i < P.length, ltOf mcmp (s, x1, x2, x3) P[i] = true) ∧ Below W0.heap.size W0 wx) (fun i _ => (intOf i).toNat)
        case atStart => exact ⟨k, hp2, rfl, fun i hi h => by omega, Below.refl _ _⟩
        case round =>
          obtain ⟨a, ha, rfl, HJ, hbx⟩ := hrel
          have hxz := hbx.size
          have q1 := (Q0.out.keep hbx).cell
          have p0 := q1 0
          have p1 := q1 1
          have p2 := q1 2
          have p3 := q1 3
          simp at p0 p1 p2 p3
          clear q1
          by_cases h0 : 0 < a
          · obtain ⟨n, hn⟩ : ∃ n, n + 1 = a := ⟨a - 1, by omega⟩
            have d0 : decide (0 < a) = true := decide_eq_true h0
            have d1 : decide ((0 : Int) < (a : Int)) = true := decide_eq_true (by omega)
            have hw : IntKind.i64.wrap ((a : Int) - 1) = (n : Int) := by simp [IntKind.wrap, IntKind.bits, IntKind.signed]; omega
            have hnP : n < P.length := by omega
            have hnk : (n : Int) < (k : Int) := by omega
            obtain ⟨b1, off1, e1, hbB1, f0, f1, f2, f3⟩ := (((HA0.out).sl encM_len (by decide)).2.below hbx).mod hnP
            have HX := Lib.hid (show ltOf mcmp (s, x1, x2, x3) P[n] = decide (mcmp (s, x1, x2, x3) P[n] < 0) from rfl)
            have cc0 : ∀ W, Calls Tryz.prog 63 #[.agg #[.string ⟨s.toArray⟩, .int .i64 x1, .int .i64 x2, .int .i64 x3], .agg #[.string ⟨(P[n]).1.toArray⟩, .int .i64 (P[n]).2.1, .int .i64 (P[n]).2.2.1, .int .i64 (P[n]).2.2.2]] W fun e w' => e = .returned (.int .i64 (mcmp (s, x1, x2, x3) P[n])) ∧ Below W.heap.size W w' := fun W => mrefCompare_any _ _ _ _ _ _ _ _ W
            have HJ2 := Lib.hid (show ltOf mcmp (s, x1, x2, x3) P[n] = true → ∀ i, n ≤ i → ∀ h : i < P.length, ltOf mcmp (s, x1, x2, x3) P[i] = true from fun h i hi hP => by
              rcases Nat.lt_or_ge n i with h' | h'
              · exact HJ.out i (by omega) hP
              · obtain rfl : i = n := by omega
                exact h)
            have HJ3 := Lib.hid (show ltOf mcmp (s, x1, x2, x3) P[n] = false → InsAt P (s, x1, x2, x3) a from fun h => ⟨fun i hi hP => by
              obtain rfl : i = n := by omega
              exact h, HJ.out⟩)
            generalize P[n] = y at f0 f1 f2 f3 HX cc0 HJ2 HJ3
            generalize mcmp (s, x1, x2, x3) y = q at HX cc0
            generalize ltOf mcmp (s, x1, x2, x3) y = Q at HX HJ2 HJ3
            have cm := Lib.hid cc0
            clear cc0
            clear HJ
            by_cases hq : q < 0
            · have dq : decide (q < 0) = true := decide_eq_true hq
              have HJ4 := Lib.hid (HJ2.out (by rw [HX.out]; exact dq))
              clear HJ2 HJ3 HX hq
              subst e1
              go_wp2
              go_region_held3 (fun W => W.cell? ⟨g, 0, none⟩ = some (.string ⟨s.toArray⟩) ∧ W.cell? ⟨g, 1, none⟩ = some (.int .i64 x1) ∧ W.cell? ⟨g, 2, none⟩ = some (.int .i64 x2) ∧ W.cell? ⟨g, 3, none⟩ = some (.int .i64 x3) ∧ W.cell? ⟨b1, off1 + n * 4, none⟩ = some (.string ⟨y.1.toArray⟩) ∧ W.cell? ⟨b1, off1 + n * 4 + 1, none⟩ = some (.int .i64 y.2.1) ∧ W.cell? ⟨b1, off1 + n * 4 + 2, none⟩ = some (.int .i64 y.2.2.1) ∧ W.cell? ⟨b1, off1 + n * 4 + 3, none⟩ = some (.int .i64 y.2.2.2)) (first | (simp; done) | (go_split_ands; (repeat' apply And.intro) <;> (first | assumption | (apply cell_keep; assumption; assumption) | (apply cell_keep_alloc; assumption))))
                (first | (go_at_call 63; refine (cm.out _).mono ?_; rintro e w4 ⟨rfl, hb4⟩))
              all_goals go_wp2
              all_goals go_roundw
              case rel => exact ⟨n, by omega, rfl, HJ4.out, hbx.drew.trans (hb4.mono hxz)⟩
              case measure => simp [intOf]; omega
            · have dq : decide (q < 0) = false := decide_eq_false hq
              have HJ4 := Lib.hid (HJ3.out (by rw [HX.out]; exact dq))
              clear HJ2 HJ3 HX hq
              subst e1
              go_wp2
              go_region_held3 (fun W => W.cell? ⟨g, 0, none⟩ = some (.string ⟨s.toArray⟩) ∧ W.cell? ⟨g, 1, none⟩ = some (.int .i64 x1) ∧ W.cell? ⟨g, 2, none⟩ = some (.int .i64 x2) ∧ W.cell? ⟨g, 3, none⟩ = some (.int .i64 x3) ∧ W.cell? ⟨b1, off1 + n * 4, none⟩ = some (.string ⟨y.1.toArray⟩) ∧ W.cell? ⟨b1, off1 + n * 4 + 1, none⟩ = some (.int .i64 y.2.1) ∧ W.cell? ⟨b1, off1 + n * 4 + 2, none⟩ = some (.int .i64 y.2.2.1) ∧ W.cell? ⟨b1, off1 + n * 4 + 3, none⟩ = some (.int .i64 y.2.2.2)) (first | (simp; done) | (go_split_ands; (repeat' apply And.intro) <;> (first | assumption | (apply cell_keep; assumption; assumption) | (apply cell_keep_alloc; assumption))))
                (first | (go_at_call 63; refine (cm.out _).mono ?_; rintro e w4 ⟨rfl, hb4⟩))
              all_goals go_wp2
              all_goals go_meet
              case rel => exact ⟨a, ha, rfl, HJ4.out, hbx.drew.trans (hb4.mono hxz)⟩
          · obtain rfl : a = 0 := by omega
            have HI0 := Lib.hid (show InsAt P (s, x1, x2, x3) 0 from ⟨fun i hi => by omega, HJ.out⟩)
            clear HJ
            go_wp2
            go_quiet (fail)
            go_wp2
            go_meet
            case rel => exact ⟨0, Nat.zero_le _, rfl, HI0.out, hbx.drewN _⟩
      case rest =>
        obtain ⟨a, ha, rfl, HIA, hbx⟩ := hcut
        have hxz := hbx.size
        have hak : a ≤ k := by omega
        have hS := (HA0.out.sl encM_len (by decide)).2.below hbx
        have hS' := hS.more hxz
        have rc1 := fun W => run_cut_hi elMod A1 k c1 a (by omega) W
        have rc2 := fun W => run_cut_lo elMod A1 k c1 a hak W
        have hac0 := Acc.marked wc #[] wc.heap.size 30 4 0 (0, 0) rfl
        have hs1 : Src (wc.alloc (.cells #[] 30)) 4 A1 a ((P.take a).flatMap encM) := by
          have := ((hS'.take a).below ((Below.refl _ _).alloc (Nat.le_refl _) (.cells #[] 30))).src encM_len
          rwa [List.length_take, Nat.min_eq_left ha] at this
        have hS3 := hS'.drop c1 a (by omega)
        have hdl : (P.drop a).length = k - a := by simp; omega
        have q1 := (Q0.out.keep hbx).cell
        have p0 := q1 0
        have p1 := q1 1
        have p2 := q1 2
        have p3 := q1 3
        simp at p0 p1 p2 p3
        clear q1
        have hgz : g < wc.heap.size := by omega
        have HS3 := Lib.hid hS3
        have HBX := Lib.hid hbx
        clear hS hS' hS3 hacc1 hbx
        go_wp2_with (first
          | (at_builtin; refine wpList_app _ rfl (.tmp 30) (.tmp 33) 31 rfl wc.heap.size 30 4 40 elMod _ 0 _ rfl hac0 A1 a c1 ((P.take a).flatMap encM) rfl hs1 (encM_one _) (by simp only [maxLen]; omega) (by omega) (by simp) ?_; intro v1 w1 hacc1 _ hb1 _ ho1; have HO1 := Lib.hid ho1; clear ho1; (have hb1' := ((Below.refl wc.heap.size wc).alloc (Nat.le_refl _) _).trans hb1); (have f0 := cell_keep hb1' p0); (have f1 := cell_keep hb1' p1); (have f2 := cell_keep hb1' p2); (have f3 := cell_keep hb1' p3); (have HY1 := Lib.hid hb1'); clear hb1 hb1')
          | (at_builtin; refine wpList_app _ rfl (.tmp 35) (.tmp 37) 31 rfl wc.heap.size 30 4 40 elMod _ (0 + a) _ rfl (hacc1.alloc _) _ 1 _ _ rfl (Src.lit _ 4 _ _ 1 rfl) (by simp [Value.oneCell']) (by simp only [maxLen]; omega) (by omega) (by have := HY1.out.size; simp; omega) ?_; intro v2 w2 hacc2 _ hb2 _ ho2; have HO2 := Lib.hid ho2; clear ho2; (have HY2 := Lib.hid (HY1.out.trans (((Below.refl wc.heap.size w1).alloc HY1.out.size _).trans hb2))); clear hb2; (have hs3 := (HS3.out.below HY2.out).src encM_len); rw [hdl] at hs3)
          | (at_builtin; refine wpList_app _ rfl (.tmp 39) (.tmp 42) 31 rfl wc.heap.size 30 4 40 elMod _ (0 + a + 1) _ rfl hacc2 _ (k - a) _ _ rfl hs3 (encM_one _) (by simp only [maxLen]; omega) (by omega) HY2.out.size ?_; intro v3 w3 hacc3 _ hb3 _ ho3; have HO3 := Lib.hid ho3; clear ho3; (have HY3 := Lib.hid (HY2.out.trans hb3)); clear hb3))
        go_roundw
        case rel =>
          have hwb : w.heap.size ≤ wc.heap.size := by omega
          have hP' : (P.take a ++ (s, x1, x2, x3) :: P.drop a).length = k + 1 := by simp; omega
          have e3 : 0 + a + 1 + (k - a) = k + 1 := by omega
          have hacc4 := hacc3.less hwb
          rw [e3] at hacc4
          have hf1 : ∀ b, v1.ownBlock = some b → w.heap.size ≤ b := fun b h => by
            rcases HO1.out with h' | ⟨g', h', hg'⟩
            · have h2 : some wc.heap.size = some b := h'.symm.trans h
              injection h2 with h2
              omega
            · rw [h'] at h; injection h with h; simp at hg'; omega
          have hf2 : ∀ b, v2.ownBlock = some b → w.heap.size ≤ b := fun b h => by
            rcases HO2.out with h' | ⟨g', h', hg'⟩
            · rw [h'] at h; exact hf1 b h
            · rw [h'] at h; injection h with h; have := HY1.out.size; simp at hg'; omega
          have hf3 : ∀ b, v3.ownBlock = some b → w.heap.size ≤ b := fun b h => by
            rcases HO3.out with h' | ⟨g', h', hg'⟩
            · rw [h'] at h; exact hf2 b h
            · rw [h'] at h; injection h with h; have := HY2.out.size; omega
          refine ⟨k + 1, P.take a ++ (s, x1, x2, x3) :: P.drop a, by omega, by go_num, hP', ?_, ?_, HI.out a ha HIA.out, Lib.hid hf3, hB1.out.trans ((HBX.out.mono (by omega)).trans (HY3.out.mono hwb))⟩
          · rw [flat_ins]
            exact hacc4
          · have := HN.out a
            rw [HK.out]
            exact this
        case measure => simp [intOf]; omega
    · go_wp2
      go_ret
      obtain ⟨hn, hS⟩ := hacc.sl encM_len (by decide)
      have hms : P = msort l := sorted_eq mlt_swo mlt_total P l HS.out (by have := HP.out; rwa [List.take_of_length_le (by omega)] at this)
      rw [hms] at hS
      have hkl : k = l.length := by omega
      exact ⟨A1, c1, by rw [hkl]; rfl, fun a ha => HF.out a.block (by rw [ha]; rfl), hS, hb⟩
end Go.Proofs.YtfiilbdkhelhgaaGreatDoor
