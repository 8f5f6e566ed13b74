/- What the claim needs of: VG. -/
import Derived.Test.YthcgihgajdjfoaaGreatDoorU30
import Derived.Test.YthcgihgajdjfoaaGreatDoorU37
namespace Go.Proofs.YthcgihgajdjfoaaGreatDoor
open Go.RowKit Go.Sort
set_option maxRecDepth 100000 in
theorem frame63_32_33_34_35_31_36_37_9_10 {Q : Exit → Act → World → Prop} {W : World} {fs : List Fact} (t0 t1 t2 t3 t4 t5 t6 t7 t8 t9 t10 t11 t12 t13 t14 t15 t16 t17 t18 t19 t20 t21 t22 t23 t24 t25 t26 t27 t28 t29 t30 t31 t32 t33 t34 t35 t36 t37 t38 t39 t40 t41 t42 t43 t44 t45 t46 t47 t48 t49 t50 t51 t52 t53 t54 t55 t56 t57 t58 t59 t60 t61 t62 v0 v1 v2 v3 v4 v5 v6 v7 v8 : Value) (h : Q .normal (Act.mk #[t0, t1, t2, t3, t4, t5, t6, t7, t8, v7, v8, t11, t12, t13, t14, t15, t16, t17, t18, t19, t20, t21, t22, t23, t24, t25, t26, t27, t28, t29, t30, v4, v0, v1, v2, v3, v5, v6, t38, t39, t40, t41, t42, t43, t44, t45, t46, t47, t48, t49, t50, t51, t52, t53, t54, t55, t56, t57, t58, t59, t60, t61, t62] []) W) : FinAll W (fun A => Q .normal A W) [] fs (Act.put (Act.put (Act.put (Act.put (Act.put (Act.put (Act.put (Act.put (Act.put (Act.mk #[t0, t1, t2, t3, t4, t5, t6, t7, t8, t9, t10, t11, t12, t13, t14, t15, t16, t17, t18, t19, t20, t21, t22, t23, t24, t25, t26, t27, t28, t29, t30, t31, t32, t33, t34, t35, t36, t37, t38, t39, t40, t41, t42, t43, t44, t45, t46, t47, t48, t49, t50, t51, t52, t53, t54, t55, t56, t57, t58, t59, t60, t61, t62] []) (some 32) v0) (some 33) v1) (some 34) v2) (some 35) v3) (some 31) v4) (some 36) v5) (some 37) v6) (some 9) v7) (some 10) v8) :=
  fin_end (by kernel_rfl) h
set_option maxRecDepth 100000 in
set_option maxHeartbeats 4000000 in
theorem refCollect_any (A : Option Addr) (c : Nat) (L : List RelA) (y0 : ManW) (w : World) (hA : Sl w w.heap.size 6 encR A L) (hok : ∀ r ∈ L, RelS w r) (hokB : ∀ r ∈ L, RelB w r) (hl : L.length ≤ 100) (h0 : ManOk w w.heap.size y0) :
    Calls Tryz.prog 15 #[.slice A L.length c, .agg #[.string ⟨y0.1.1.toArray⟩, .int .i64 y0.1.2.1, .int .i64 y0.1.2.2.1, .int .i64 y0.1.2.2.2, .slice y0.2.1 y0.2.2.2.length y0.2.2.1]] w (RetC w (collectP (L.map RelA.rel) y0.1 y0.2.2.2)) := by
  obtain ⟨rm, A0, c0, l0⟩ := y0
  simp only
  have HA := Lib.hid hA
  have HOK := Lib.hid hok
  have HOB := Lib.hid hokB
  have H0 := Lib.hid h0
  have HB0 := Lib.hid (show Below w.heap.size w (w.alloc (.cells (manA rm A0 l0.length c0) 29)) from (Below.refl _ _).alloc (Nat.le_refl _) _)
  have Q0 := Lib.hid (Blk.new w 29 (manA rm A0 l0.length c0))
  unfold manA at HB0 Q0
  have HFe := Lib.hid (fun k (hk : k < L.length) (hz : ∀ j (_ : j < k) (hj : j < L.length), rerr L[j].rel = 0) (hn : rerr L[k].rel ≠ 0) => show ferr (L.map RelA.rel) = rerr L[k].rel by
    have h := ferr_at (L.map RelA.rel) k (by simpa using hk) (fun j hj => by have := hz j hj (by omega); simpa using this) (by simpa using hn)
    simpa using h)
  have HFz := Lib.hid (fun (hz : ∀ j (hj : j < L.length), rerr L[j].rel = 0) => show ferr (L.map RelA.rel) = 0 by
    have : ∀ l : List Rel, (∀ r ∈ l, rerr r = 0) → ferr l = 0 := by
      intro l
      induction l with
      | nil => intro _; rfl
      | cons x l ih => intro h; unfold ferr; rw [if_pos (h x (by simp))]; exact ih fun r hr => h r (by simp [hr])
    refine this _ fun r hr => ?_
    obtain ⟨q, hq, rfl⟩ := List.mem_map.1 hr
    obtain ⟨j, hj, rfl⟩ := List.mem_iff_getElem.1 hq
    exact hz j hj)
  obtain ⟨res, hres⟩ : ∃ res, res = collectP (L.map RelA.rel) rm l0 := ⟨_, rfl⟩
  rw [← hres]
  unfold collectP at hres
  have HRES := Lib.hid hres
  clear hA hok hokB h0 hres
  go_enter Tryz.func15, Tryz.ntmps15
  go_wp2_with fail
  go_loopw [6] (fun i wr => ∃ k : Nat, k ≤ L.length ∧ i = .int .i64 (k : Nat) ∧ Hid (∀ j (_ : j < k) (hj : j < L.length), rerr L[j].rel = 0) ∧ Hid (Below w.heap.size w wr) ∧ Hid (Blk wr w.heap.size 29 #[.string ⟨rm.1.toArray⟩, .int .i64 rm.2.1, .int .i64 rm.2.2.1, .int .i64 rm.2.2.2, .slice A0 l0.length c0])) (fun i _ => L.length - (intOf i).toNat)
  case atStart => exact ⟨0, Nat.zero_le _, rfl, Lib.hid (by omega), HB0, Q0⟩
  case round =>
    obtain ⟨wo, hwo⟩ : ∃ wo, wo = wr := ⟨_, rfl⟩
    subst hwo
    obtain ⟨k, hk, rfl, HZ, HB, HQ⟩ := hrel
    by_cases hlt : k < L.length
    · have hlt' : (k : Int) < (L.length : Int) := by omega
      obtain ⟨b, off, hA1, hbB, g0, g1, g2, g3, g4, g5⟩ := (HA.out.below HB.out).rel hlt
      have hrk := (HOB.out L[k] (List.getElem_mem hlt)).below HB.out
      have HE := Lib.hid (fun h => HFe.out k hlt HZ.out h)
      have HZ2 := Lib.hid (fun (h : rerr L[k].rel = 0) j (hj : j < k + 1) (hjl : j < L.length) => show rerr L[j].rel = 0 from by
        rcases Nat.lt_or_ge j k with h1 | h1
        · exact HZ.out j h1 hjl
        · obtain rfl : j = k := by omega
          exact h)
      have HA1 := Lib.hid hA1
      subst hA1
      generalize L[k] = r at g0 g1 g2 g3 g4 g5 hrk HE HZ2
      have cR0 := refRel_any r wo hrk
      generalize rtext r.rel = rt at cR0
      generalize rerr r.rel = re at cR0 HE HZ2
      have cR := Lib.hid cR0
      clear cR0 hrk
      go_wp2_with fail
      refine cR.out.mono ?_
      rintro e w2 ⟨rfl, hb2⟩
      have HX := Lib.hid hb2
      have HB2 := Lib.hid (HB.out.trans (HX.out.mono HB.out.size))
      have HQ2 := Lib.hid (HQ.out.keep HX.out)
      clear hb2 cR g0 g1 g2 g3 g4 g5
      by_cases he : re = 0
      · have HZ3 := Lib.hid (HZ2.out he)
        subst he
        clear HE HZ2
        go_wp2
        go_roundw
        case rel => exact ⟨k + 1, by omega, by go_num, HZ3, HB2, HQ2⟩
        case measure => simp [intOf]; omega
      · have hr : res = ([], re) := by
          have h1 := HE.out he
          rw [HRES.out, h1, if_pos he]
        have hen : (re == 0) = false := by simpa using he
        subst hr
        clear HE HZ2 he
        go_wp2
        refine bodyPost_ret (v := .tuple #[.slice none 0 0, .int .i64 re]) (by simp [results, Tryz.results15, go_sem]) rfl ⟨none, 0, [], rfl, rfl, Sl.nil_, (fun q hq => by cases hq), HB2.out⟩
    · obtain rfl : k = L.length := by omega
      have hfz := HFz.out fun j hj => HZ.out j hj hj
      have hres := HRES.out
      rw [hfz, if_neg (by simp)] at hres
      have HSo := Lib.hid (show Sl wo wo.heap.size 6 encR A L from (HA.out.below HB.out).more HB.out.size)
      have HOo := Lib.hid (fun r hr => (HOK.out r hr).below HB.out)
      have cM := Lib.hid (fun W (hW : Below wo.heap.size wo W) => refManifests_any A c L W ((HSo.out.below hW).more hW.size) (by omega))
      have cB0 := fun (A1 : Option Addr) (c1 : Nat) W (hW : Below wo.heap.size wo W) (hS : Sl W W.heap.size 5 encW A1 (L.map manW)) => rBuildList_any A1 c1 (L.map manW) (rm, A0, c0, l0) W (regOk_of hS (fun r hr => (HOo.out r hr).below hW) hl) ((H0.out.keep (HB.out.trans (hW.mono HB.out.size))).more (Nat.le_trans HB.out.size hW.size))
      rw [regW_man] at cB0
      have HIn := Lib.hid (fun h => build_in (R := (L.map RelA.rel).map manR) (root := rm) (l := l0) h)
      simp only [List.length_map] at cB0
      have hbln := build_small HOo.out (by omega) H0.out.2.1 (rm := rm) (l := l0)
      generalize buildP ((L.map RelA.rel).map manR) rm l0 = B at cB0 hres HIn hbln
      obtain ⟨bl, eb⟩ := B
      unfold RetB at cB0
      simp only at cB0 hres HIn hbln
      have cB := Lib.hid cB0
      have HRES2 := Lib.hid hres
      obtain ⟨q0, q1, q2, q3, q4⟩ := manC (m := rm) (A := A0) (n := l0.length) (c := c0) HQ.out
      have hwz : w.heap.size < wo.heap.size := HQ.out.lt
      clear cB0 hres hfz
      go_upto_region 7 with fail
      apply wp_region_facts (by kernel_rfl) [isv _, (fun v W => ∃ (A : Option Addr) (c : Nat), v = .slice A L.length c ∧ Sl W W.heap.size 5 encW A (L.map manW)), isv _, (fun v W => ∃ (A : Option Addr) (c : Nat), v = .tuple #[.slice A bl.length c, .int .i64 eb] ∧ bl.length ≤ c ∧ Sl W W.heap.size 4 encM A bl), (fun v W => ∃ (A : Option Addr) (c : Nat), v = .tuple #[.slice A bl.length c, .int .i64 eb] ∧ bl.length ≤ c ∧ Sl W W.heap.size 4 encM A bl), (fun v W => ∃ (A : Option Addr) (c : Nat), v = .slice A bl.length c ∧ bl.length ≤ c ∧ Sl W W.heap.size 4 encM A bl), isv _, (fun v W => ∃ (A : Option Addr) (c : Nat), v = .slice A bl.length c ∧ bl.length ≤ c ∧ Sl W W.heap.size 4 encM A bl), isv _] wo.heap.size wo (Nat.le_refl _) (Below.refl _ _).drew (by kernel_rfl) (by kernel_rfl) (by kernel_rfl) (And.intro (isv_mono _) (And.intro (fun _ _ _ ⟨A, c, e, h1⟩ hb => ⟨A, c, e, (h1.below hb).more hb.size⟩) (And.intro (isv_mono _) (And.intro (fun _ _ _ ⟨A, c, e, h0, h1⟩ hb => ⟨A, c, e, h0, (h1.below hb).more hb.size⟩) (And.intro (fun _ _ _ ⟨A, c, e, h0, h1⟩ hb => ⟨A, c, e, h0, (h1.below hb).more hb.size⟩) (And.intro (fun _ _ _ ⟨A, c, e, h0, h1⟩ hb => ⟨A, c, e, h0, (h1.below hb).more hb.size⟩) (And.intro (isv_mono _) (And.intro (fun _ _ _ ⟨A, c, e, h0, h1⟩ hb => ⟨A, c, e, h0, (h1.below hb).more hb.size⟩) (And.intro (isv_mono _) trivial))))))))) ?steps (by rfl) ?fin
      case steps =>
        refine (And.intro ?o0 (And.intro ?o1 (And.intro ?o2 (And.intro ?o3 (And.intro ?o4 (And.intro ?o5 (And.intro ?o6 (And.intro ?o7 (And.intro ?o8 trivial)))))))))
        case o0 =>
          intro AA W KK QQ hB hs hd hl hk
          have sl0 := hs 0 _ (by kernel_rfl) rfl
          clear hs hd hl
          go_simp
          exact hk _ _ rfl (Below.refl _ _)
        case o1 =>
          intro AA W KK QQ hB hs hd hl hk
          obtain ⟨_, sl32, rfl⟩ := hd 0 32 (by kernel_rfl) rfl
          clear hs hd hl
          go_simp
          refine (cM.out W hB).mono ?_
          rintro e W2 ⟨A, c, rfl, hS, hb2⟩
          exact hk _ _ ⟨A, c, rfl, hS⟩ hb2
        case o2 =>
          intro AA W KK QQ hB hs hd hl hk
          have sl3 := hs 3 _ (by kernel_rfl) rfl
          clear hs hd hl
          have hx0 := hB.cell (p := ⟨w.heap.size, 0, none⟩) hwz
          have hx1 := hB.cell (p := ⟨w.heap.size, 1, none⟩) hwz
          have hx2 := hB.cell (p := ⟨w.heap.size, 2, none⟩) hwz
          have hx3 := hB.cell (p := ⟨w.heap.size, 3, none⟩) hwz
          have hx4 := hB.cell (p := ⟨w.heap.size, 4, none⟩) hwz
          rw [q0] at hx0
          rw [q1] at hx1
          rw [q2] at hx2
          rw [q3] at hx3
          rw [q4] at hx4
          go_simp
          exact hk _ _ rfl (Below.refl _ _)
        case o3 =>
          intro AA W KK QQ hB hs hd hl hk
          obtain ⟨_, sl33, ⟨A, c, rfl, hS⟩⟩ := hd 1 33 (by kernel_rfl) rfl
          obtain ⟨_, sl34, rfl⟩ := hd 2 34 (by kernel_rfl) rfl
          clear hs hd hl
          go_simp
          refine (cB.out A c W hB hS).mono ?_
          rintro e W2 ⟨A, c, rfl, hC, hS, hb2⟩
          exact hk _ _ ⟨A, c, rfl, hC, hS⟩ hb2
        case o4 =>
          intro AA W KK QQ hB hs hd hl hk
          obtain ⟨_, sl35, ⟨A, c, rfl, hC, hS⟩⟩ := hd 3 35 (by kernel_rfl) rfl
          clear hs hd hl
          go_simp
          exact hk _ _ ⟨A, c, rfl, hC, hS⟩ (Below.refl _ _)
        case o5 =>
          intro AA W KK QQ hB hs hd hl hk
          obtain ⟨_, sl31, ⟨A, c, rfl, hC, hS⟩⟩ := hd 4 31 (by kernel_rfl) rfl
          clear hs hd hl
          go_simp
          exact hk _ _ ⟨A, c, rfl, hC, hS⟩ (Below.refl _ _)
        case o6 =>
          intro AA W KK QQ hB hs hd hl hk
          obtain ⟨_, sl31, ⟨A, c, rfl, hC, hS⟩⟩ := hd 4 31 (by kernel_rfl) rfl
          clear hs hd hl
          go_simp
          exact hk _ _ rfl (Below.refl _ _)
        case o7 =>
          intro AA W KK QQ hB hs hd hl hk
          obtain ⟨_, sl36, ⟨A, c, rfl, hC, hS⟩⟩ := hd 5 36 (by kernel_rfl) rfl
          clear hs hd hl
          go_simp
          exact hk _ _ ⟨A, c, rfl, hC, hS⟩ (Below.refl _ _)
        case o8 =>
          intro AA W KK QQ hB hs hd hl hk
          obtain ⟨_, sl37, rfl⟩ := hd 6 37 (by kernel_rfl) rfl
          clear hs hd hl
          go_simp
          exact hk _ _ rfl (Below.refl _ _)
      case fin =>
        intro wf hB
        refine fin_isv 32 rfl ?_
        refine fin_fact 33 rfl ?_
        rintro _ ⟨_, _, rfl, _⟩
        refine fin_isv 34 rfl ?_
        refine fin_fact 35 rfl ?_
        rintro _ ⟨_, _, rfl, _, _⟩
        refine fin_fact 31 rfl ?_
        rintro _ ⟨_, _, rfl, _, _⟩
        refine fin_fact 36 rfl ?_
        rintro _ ⟨_, _, rfl, _, _⟩
        refine fin_isv 37 rfl ?_
        refine fin_fact 9 rfl ?_
        rintro _ ⟨A3, c3, rfl, hC3, hS3⟩
        refine fin_isv 10 rfl ?_
        refine frame63_32_33_34_35_31_36_37_9_10 _ _ _ _ _ _ _ _ _ _ _ _ _ _ _ _ _ _ _ _ _ _ _ _ _ _ _ _ _ _ _ _ _ _ _ _ _ _ _ _ _ _ _ _ _ _ _ _ _ _ _ _ _ _ _ _ _ _ _ _ _ _ _ _ _ _ _ _ _ _ _ _ ?_
        have HBf := Lib.hid (HB.out.trans (hB.mono HB.out.size))
        have HWf := Lib.hid hB
        have HS3 := Lib.hid hS3
        clear hB hS3 q0 q1 q2 q3 q4
        by_cases he : eb = 0
        · obtain ⟨D, hD, hDin⟩ := HIn.out he
          have hr : res = (D.filterMap (findR (L.map RelA.rel)), 0) := by
            rw [HRES2.out, if_neg (by simpa using he), hD]
            rfl
          have hbl : bl.length = D.length + 1 := by rw [hD]; rfl
          have HD := Lib.hid (fun k (hk : k < D.length) (hk2 : k + 1 < bl.length) => show bl[k + 1] = D[k] by simp only [hD, List.getElem_cons_succ])
          have HIN := Lib.hid hDin
          subst he hr
          clear hD hDin
          go_wp2_with fail
          go_loopw [11, 12] (fun v i wr => ∃ (k j : Nat) (Av : Option Addr) (cv : Nat) (Q : List RelA), Hid (j = k + 1) ∧ k ≤ D.length ∧ i = .int .i64 (j : Nat) ∧ v = .slice Av k cv ∧ Hid (Q.length = k) ∧ Hid (Q.map RelA.rel = (D.take k).filterMap (findR (L.map RelA.rel))) ∧ Hid (wr.ownsRow wf.heap.size 62 6 (.slice Av k cv) k (Q.flatMap encR)) ∧ Hid (∀ q ∈ Q, q ∈ L) ∧ Hid (Below wf.heap.size wf wr)) (fun _ i _ => bl.length + 1 - (intOf i).toNat)
          case atStart => exact ⟨0, 1, none, 0, [], Lib.hid rfl, Nat.zero_le _, rfl, rfl, Lib.hid rfl, Lib.hid rfl, Lib.hid (World.ownsRow_nil _ _ _ _), Lib.hid (fun q hq => by cases hq), Lib.hid (Below.refl _ _)⟩
          case round =>
            obtain ⟨wo, hwo⟩ : ∃ wo, wo = wr := ⟨_, rfl⟩
            subst hwo
            obtain ⟨k, j, Av, cv, Q, HJ, hk, rfl, rfl, HQl, HQm, HO, HR, HBk⟩ := hrel
            have HBo := Lib.hid (HBf.out.trans (HBk.out.mono HBf.out.size))
            have HWo := Lib.hid (HWf.out.trans (HBk.out.mono HWf.out.size))
            have hzk := HBk.out.size
            by_cases hlt : j < bl.length
            · have hlt' : (j : Int) < (bl.length : Int) := by omega
              have hj0 : (0 : Int) ≤ (j : Int) := by omega
              have hkD : k < D.length := by have := HJ.out; omega
              obtain ⟨b4, o4, hA4, hb4, g0, g1, g2, g3⟩ := ((HS3.out.below HBk.out).more hzk).mod hlt
              have hdk : bl[j] = D[k] := by
                have h1 := HJ.out
                have h2 : k + 1 < bl.length := by omega
                have h3 := HD.out k hkD h2
                rw [← h3]
                congr 1
              rw [hdk] at g0 g1 g2 g3
              have hin := HIN.out _ (List.getElem_mem hkD)
              have HTk := Lib.hid (List.take_succ_eq_append_getElem hkD)
              clear hdk
              generalize D[k] = m at g0 g1 g2 g3 hin HTk
              obtain ⟨kk, hkk, hix, hmk, hfr⟩ := findR_at (L := L) (m := m) (by
                have h := hin
                simp only [List.map_map] at h
                exact h)
              have HFR := Lib.hid hfr
              have cI0 := findRel_any A c L m wo ((HSo.out.below HWo.out).more HWo.out.size) (by omega)
              rw [hix] at cI0
              have cI := Lib.hid cI0
              have HA4 := Lib.hid hA4
              subst hA4
              clear hin hfr hix cI0 hmk
              go_wp2_with fail
              refine cI.out.mono ?_
              rintro e w5 ⟨rfl, hb5⟩
              have HX5 := Lib.hid hb5
              have HW5 := Lib.hid (HWo.out.trans (HX5.out.mono HWo.out.size))
              clear hb5 g0 g1 g2 g3 cI
              have hkk' : (kk : Int) < (L.length : Int) := by omega
              have hkk0 : (0 : Int) ≤ (kk : Int) := by omega
              have hkkn : ¬ (kk : Int) < 0 := by omega
              obtain ⟨b6, o6, hA6, hb6, g0, g1, g2, g3, g4, g5⟩ := ((HSo.out.below HW5.out).more HW5.out.size).rel hkk
              have HMem := Lib.hid (List.getElem_mem hkk)
              generalize L[kk] = r at g0 g1 g2 g3 g4 g5 HFR HMem
              have HA6 := Lib.hid hA6
              subst hA6
              have HWA := Lib.hid (show Below w5.heap.size w5 (w5.alloc (.cells #[.string ⟨r.m.1.toArray⟩, .int .i64 r.m.2.1, .int .i64 r.m.2.2.1, .int .i64 r.m.2.2.2, .slice r.A r.l.length r.c, .slice r.A' r.s.length r.c'] 62)) from (Below.refl _ _).alloc (Nat.le_refl _) _)
              have HXA := Lib.hid (HX5.out.trans (HWA.out.mono HX5.out.size))
              have HOA := Lib.hid (own_below2 HO.out HXA.out)
              have b0 : k + 1 ≤ maxLen := by unfold maxLen; omega
              have b1 : (k + 1) * 88 ≤ 140737488355328 := by omega
              have hbz := Nat.le_trans hzk HXA.out.size
              go_wp2_with (at_builtin; refine wpList_own rfl (.tmp 55) (.tmp 60) rfl wf.heap.size elRels (.slice Av k cv) k _ rfl HOA.out _ 1 _ _ rfl (Src.lit _ 6 _ _ 1 rfl) (by decide) (by simp [Value.oneCell']) b0 b1 hbz ?_; intro v' w7 hown7 hgrow7 hb7; obtain ⟨A8, c8, rfl⟩ := Acc.shape (.inl hown7); have HOWN := Lib.hid hown7; have HB7 := Lib.hid hb7; clear hown7 hgrow7 hb7)
              go_roundw
              case rel => exact ⟨k + 1, j + 1, A8, c8, Q ++ [r], Lib.hid (by rw [HJ.out]), by omega, by go_num, rfl, Lib.hid (by rw [List.length_append, HQl.out]; rfl), Lib.hid (by rw [List.map_append, HQm.out, HTk.out, List.filterMap_append]; simp [HFR.out]), Lib.hid (by rw [flatR_snoc]; exact HOWN.out), Lib.hid (fun q hq => by
                rcases List.mem_append.1 hq with h | h
                · exact HR.out q h
                · rw [List.mem_singleton.1 h]; exact HMem.out), Lib.hid ((HBk.out.trans (HXA.out.mono hzk)).trans HB7.out)⟩
              case measure => first | (simp [intOf]; done) | (simp [intOf]; omega)
            · obtain rfl : k = D.length := by have := HJ.out; omega
              rw [List.take_length] at HQm
              go_wp2
              refine bodyPost_ret (v := .tuple #[.slice Av D.length cv, .int .i64 0]) (by simp [results, Tryz.results15, go_sem]) rfl ?_
              exact ⟨Av, cv, Q, by rw [HQl.out], HQm.out, Acc.slAny (.inl (show wo.ownsRow wf.heap.size 62 6 (.slice Av Q.length cv) Q.length (Q.flatMap encR) by rw [HQl.out]; exact HO.out)) encR_len (by decide), fun q hq => ((HOo.out q (HR.out q hq)).ok.below HWo.out), HBo.out⟩
        · have hr : res = ([], eb) := by rw [HRES2.out, if_pos he]
          have hen : (eb == 0) = false := by simpa using he
          subst hr
          clear he
          go_wp2
          refine bodyPost_ret (v := .tuple #[.slice none 0 0, .int .i64 eb]) (by simp [results, Tryz.results15, go_sem]) rfl ⟨none, 0, [], rfl, rfl, Sl.nil_, (fun q hq => by cases hq), HBf.out⟩
end Go.Proofs.YthcgihgajdjfoaaGreatDoor
