/- What the claim needs of: IH. -/
import Derived.Test.YthcgihgajdjfoaaGreatDoorV35
import Derived.Test.YthcgihgajdjfoaaGreatDoorV31
import Derived.Test.YthcgihgajdjfoaaGreatDoorV21
namespace Go.Proofs.YthcgihgajdjfoaaGreatDoor
open Go.RowKit Go.Sort
theorem find_idx (L : List RelA) (m : Mod) : (idxR L m = -1 ∧ findR (L.map RelA.rel) m = none) ∨ ∃ k, ∃ hk : k < L.length, idxR L m = (k : Nat) ∧ findR (L.map RelA.rel) m = some L[k].rel := by
 by_cases h : m ∈ L.map RelA.m
 ·obtain ⟨k, hk, h1, _, h2⟩ := findR_at h
  exact .inr ⟨k, hk, h1, h2⟩
 ·refine .inl ⟨idxR_miss fun j hj he => h (List.mem_map.2 ⟨_, List.getElem_mem hj, he⟩), ?_⟩
  rw [findR_none, List.map_map]
  exact h
theorem isort_step {α : Type} (f : α → Option Iss) (P : List Iss) {l : List α} {k : Nat} (hk : k < l.length) : isort (P ++ (l.take (k + 1)).filterMap f) = match f l[k] with
  | none => isort (P ++ (l.take k).filterMap f)
  | some x => putI (isort (P ++ (l.take k).filterMap f)) x := by
 rw [List.take_succ_eq_append_getElem hk, List.filterMap_append, ← List.append_assoc]
 cases h : f l[k] with
 | none => simp [h]
 | some x =>
   have e : [l[k]].filterMap f = [x] := by simp [h]
   rw [e, isort_snoc]
set_option maxRecDepth 100000 in
theorem frame92_74_75_76_77_78_79_80_81_82_83_13 {Q : Exit → Act → World → Prop} {W : World} {fs : List Fact} (t0 t1 t2 t3 t4 t5 t6 t7 t8 t9 t10 t11 t12 t13 t14 t15 t16 t17 t18 t19 t20 t21 t22 t23 t24 t25 t26 t27 t28 t29 t30 t31 t32 t33 t34 t35 t36 t37 t38 t39 t40 t41 t42 t43 t44 t45 t46 t47 t48 t49 t50 t51 t52 t53 t54 t55 t56 t57 t58 t59 t60 t61 t62 t63 t64 t65 t66 t67 t68 t69 t70 t71 t72 t73 t74 t75 t76 t77 t78 t79 t80 t81 t82 t83 t84 t85 t86 t87 t88 t89 t90 t91 v0 v1 v2 v3 v4 v5 v6 v7 v8 v9 v10 : Value) (h : Q .normal (Act.mk #[t0, t1, t2, t3, t4, t5, t6, t7, t8, t9, t10, t11, t12, v10, t14, t15, t16, t17, t18, t19, t20, t21, t22, t23, t24, t25, t26, t27, t28, t29, t30, t31, t32, t33, t34, t35, t36, t37, t38, t39, t40, t41, t42, t43, t44, t45, t46, t47, t48, t49, t50, t51, t52, t53, t54, t55, t56, t57, t58, t59, t60, t61, t62, t63, t64, t65, t66, t67, t68, t69, t70, t71, t72, t73, v0, v1, v2, v3, v4, v5, v6, v7, v8, v9, t84, t85, t86, t87, t88, t89, t90, t91] []) W) : FinAll W (fun A => Q .normal A W) [] fs (Act.put (Act.put (Act.put (Act.put (Act.put (Act.put (Act.put (Act.put (Act.put (Act.put (Act.put (Act.mk #[t0, t1, t2, t3, t4, t5, t6, t7, t8, t9, t10, t11, t12, t13, t14, t15, t16, t17, t18, t19, t20, t21, t22, t23, t24, t25, t26, t27, t28, t29, t30, t31, t32, t33, t34, t35, t36, t37, t38, t39, t40, t41, t42, t43, t44, t45, t46, t47, t48, t49, t50, t51, t52, t53, t54, t55, t56, t57, t58, t59, t60, t61, t62, t63, t64, t65, t66, t67, t68, t69, t70, t71, t72, t73, t74, t75, t76, t77, t78, t79, t80, t81, t82, t83, t84, t85, t86, t87, t88, t89, t90, t91] []) (some 74) v0) (some 75) v1) (some 76) v2) (some 77) v3) (some 78) v4) (some 79) v5) (some 80) v6) (some 81) v7) (some 82) v8) (some 83) v9) (some 13) v10) :=
 fin_end (by kernel_rfl) h
set_option maxRecDepth 100000 in
set_option maxHeartbeats 8000000 in
theorem sums_any (A : Option Addr) (c : Nat) (L : List RelA) (A2 : Option Addr) (c2 : Nat) (E : List EntV) (w : World) (hA : Sl w w.heap.size 6 encR A L) (hE : Sl w w.heap.size 5 encE A2 E) (hok : ∀ r ∈ L, RelB w r) (hl : L.length ≤ 100000) (hel : E.length ≤ 100000) :
  Calls Tryz.prog 51 #[.slice A L.length c, .slice A2 E.length c2] w (RetI w (isort (rdiffP (L.map RelA.rel) E))) := by
 have HA := Lib.hid hA
 have HE := Lib.hid hE
 have HOK := Lib.hid hok
 have HFin := Lib.hid (show rdiffP (L.map RelA.rel) E = E.filterMap (rdiffE (L.map RelA.rel)) ++ L.filterMap (fun r => rdiffR E r.rel) from by unfold rdiffP; rw [List.filterMap_map]; rfl)
 generalize rdiffP (L.map RelA.rel) E = RR at HFin
 obtain ⟨F, hF⟩ : ∃ F : Nat → List Iss, F = fun k => isort ([] ++ (E.take k).filterMap (rdiffE (L.map RelA.rel))) := ⟨_, rfl⟩
 have HF0 := Lib.hid (show F 0 = [] by rw [hF]; rfl)
 have HFs := Lib.hid (fun k (hk : k < E.length) => show F (k + 1) = match rdiffE (L.map RelA.rel) E[k] with
  | none => F k
  | some x => putI (F k) x by rw [hF]; exact isort_step _ [] hk)
 have HFn := Lib.hid (show F E.length = isort (E.filterMap (rdiffE (L.map RelA.rel))) by rw [hF]; simp)
 obtain ⟨G, hG⟩ : ∃ G : Nat → List Iss, G = fun k => isort (E.filterMap (rdiffE (L.map RelA.rel)) ++ (L.take k).filterMap (fun r => rdiffR E r.rel)) := ⟨_, rfl⟩
 have HG0 := Lib.hid (show G 0 = F E.length by rw [HFn.out, hG]; simp)
 have HGs := Lib.hid (fun k (hk : k < L.length) => show G (k + 1) = match rdiffR E L[k].rel with
  | none => G k
  | some x => putI (G k) x by rw [hG]; exact isort_step (fun r : RelA => rdiffR E r.rel) _ hk)
 have HGn := Lib.hid (show G L.length = isort RR by rw [hG, HFin.out]; simp)
 have heq := eq_mod
 clear hA hE hok hF hG
 go_enter Tryz.func51, Tryz.ntmps51
 go_wp2
 go_loopw [5, 6] (fun v i wr => ∃ (k : Nat) (o : List Iss) (Av : Option Addr) (cv : Nat), k ≤ E.length ∧ i = .int .i64 (k : Nat) ∧ v = .slice Av o.length cv ∧ Hid (o = F k) ∧ o.length ≤ cv ∧ o.length ≤ k ∧ Hid (Sl wr wr.heap.size 2 encI Av o) ∧ Hid (Below w.heap.size w wr)) (fun _ i _ => E.length - (intOf i).toNat)
 case atStart => exact ⟨0, [], none, 0, Nat.zero_le _, rfl, rfl, Lib.hid HF0.out.symm, Nat.le_refl _, Nat.le_refl _, Lib.hid Sl.nil_, Lib.hid (Below.refl _ _)⟩
 case round =>
  obtain ⟨wo, hwo⟩ : ∃ wo, wo = wr := ⟨_, rfl⟩
  subst hwo
  obtain ⟨k, o, Av, cv, hk, rfl, rfl, HOF, hocv, hol, HSo, HB⟩ := hrel
  by_cases hlt : k < E.length
  ·have hlt' : (k : Int) < (E.length : Int) := by omega
   obtain ⟨b, off, hA1, hbB, g0, g1, g2, g3, g4⟩ := ((HE.out.below HB.out).more HB.out.size).ent hlt
   have HN := Lib.hid (HFs.out k hlt)
   rw [← HOF.out] at HN
   generalize E[k] = x at g0 g1 g2 g3 g4 HN
   obtain ⟨m, sm⟩ := x
   simp only at g0 g1 g2 g3 g4
   have HA1 := Lib.hid hA1
   subst hA1
   have G4 := Lib.hid (fun (W : World) (hW : Below wo.heap.size wo W) => show W.cell? ⟨b, off + k * 5 + 4, none⟩ = some (.string ⟨sm.toArray⟩) from (hW.cell (p := ⟨b, off + k * 5 + 4, none⟩) hbB).trans g4)
   have HW1 := Lib.hid (show Below wo.heap.size wo (wo.alloc (.cells #[.string ⟨m.1.toArray⟩, .int .i64 m.2.1, .int .i64 m.2.2.1, .int .i64 m.2.2.2] 26)) from (Below.refl _ _).alloc (Nat.le_refl _) _)
   have V1 := Lib.hid (Blk.new wo 26 #[.string ⟨m.1.toArray⟩, .int .i64 m.2.1, .int .i64 m.2.2.1, .int .i64 m.2.2.2])
   have HBx := Lib.hid (HB.out.trans (HW1.out.mono HB.out.size))
   have cF0 := findRel_any A c L m (wo.alloc (.cells #[.string ⟨m.1.toArray⟩, .int .i64 m.2.1, .int .i64 m.2.2.1, .int .i64 m.2.2.2] 26)) (((HA.out.below HBx.out)).more HBx.out.size) (by omega)
   have HRd := Lib.hid (show rdiffE (L.map RelA.rel) (m, sm) = match findR (L.map RelA.rel) m with
    | none => some (m.1, 7)
    | some r => if rtext r = sm then none else some (m.1, 17) from rfl)
   generalize rdiffE (L.map RelA.rel) (m, sm) = rd at HN HRd
   obtain ⟨u0, u1, u2, u3⟩ := modC (m := m) V1.out
   rcases find_idx L m with ⟨hi, hf⟩ | ⟨n, hn, hi, hf⟩
   ·rw [hi] at cF0
    have HS1 := Lib.hid (show F (k + 1) = putI o (m.1, 7) from by rw [HN.out, HRd.out, hf])
    have cF := Lib.hid cF0
    clear cF0 hi hf HN HRd
    go_wp2_with fail
    refine cF.out.mono ?_
    rintro e w2 ⟨rfl, hb2⟩
    have HX2 := Lib.hid (HW1.out.trans (hb2.mono HW1.out.size))
    have HB2 := Lib.hid (HB.out.trans (HX2.out.mono HB.out.size))
    have V2 := V1.out.keep hb2
    clear hb2 cF u0 u1 u2 u3 g0 g1 g2 g3 g4
    obtain ⟨u0, u1, u2, u3⟩ := modC (m := m) V2
    have cP := Lib.hid (put_any Av cv o (m.1, 7) w2 ((HSo.out.below HX2.out).more HX2.out.size) hocv (by omega))
    have hpl := (putI_perm o (m.1, 7)).length_eq
    rw [List.length_append, List.length_singleton] at hpl
    have hpl2 := Nat.le_of_eq hpl
    clear hpl
    generalize putI o (m.1, 7) = o2 at cP HS1 hpl2
    go_wp2_with fail
    refine cP.out.mono ?_
    rintro e w4 ⟨A4, c4, rfl, hc4, hS4, hb4⟩
    have HS4 := Lib.hid hS4
    have HB4 := Lib.hid (HB2.out.trans (hb4.mono HB2.out.size))
    clear hb4 cP hS4
    go_wp2
    go_roundw
    case rel => exact ⟨k + 1, o2, A4, c4, by omega, by go_num, rfl, Lib.hid HS1.out.symm, hc4, by omega, HS4, HB4⟩
    case measure => first | (simp [intOf]; done) | (simp [intOf]; omega)
   ·rw [hi] at cF0
    have hn0 : (0 : Int) ≤ (n : Int) := by omega
    have hnn : ¬ (n : Int) < 0 := by omega
    have hni : (n : Int) < (L.length : Int) := by omega
    have cF := Lib.hid cF0
    clear cF0 hi
    go_wp2_with fail
    refine cF.out.mono ?_
    rintro e w2 ⟨rfl, hb2⟩
    have HX2 := Lib.hid (HW1.out.trans (hb2.mono HW1.out.size))
    have HB2 := Lib.hid (HB.out.trans (HX2.out.mono HB.out.size))
    have V2 := Lib.hid (V1.out.keep hb2)
    clear hb2 cF u0 u1 u2 u3 g0 g1 g2 g3 g4
    obtain ⟨b6, o6, hA6, hb6, q0, q1, q2, q3, q4, q5⟩ := ((HA.out.below HB2.out).more HB2.out.size).rel hn
    have hrk := (HOK.out _ (List.getElem_mem hn)).below HB2.out
    have HF2 := Lib.hid hf
    generalize L[n] = q at q0 q1 q2 q3 q4 q5 hrk HF2
    have HA6 := Lib.hid hA6
    subst hA6
    have cR0 := refRel_any q w2 hrk
    have HRd2 := Lib.hid (show rd = if rtext q.rel = sm then none else some (m.1, 17) from by rw [HRd.out, HF2.out])
    generalize rtext q.rel = rt at cR0 HRd2
    generalize rerr q.rel = re at cR0
    have cR := Lib.hid cR0
    clear hf hrk cR0 HRd HF2
    go_wp2_with fail
    refine cR.out.mono ?_
    rintro e w3 ⟨rfl, hb3⟩
    have HX3 := Lib.hid (HX2.out.trans (hb3.mono HX2.out.size))
    have HB3 := Lib.hid (HB.out.trans (HX3.out.mono HB.out.size))
    have V3 := V2.out.keep hb3
    clear hb3 cR q0 q1 q2 q3 q4 q5
    have g4 := G4.out w3 HX3.out
    by_cases hs : rt = sm
    ·have HS1 := Lib.hid (show F (k + 1) = o from by rw [HN.out, HRd2.out, if_pos hs])
     subst hs
     clear HN HRd2
     go_wp2
     go_roundw
     case rel => exact ⟨k + 1, o, Av, cv, by omega, by go_num, rfl, Lib.hid HS1.out.symm, hocv, by omega, Lib.hid ((HSo.out.below HX3.out).more HX3.out.size), HB3⟩
     case measure => first | (simp [intOf]; done) | (simp [intOf]; omega)
    ·have HS1 := Lib.hid (show F (k + 1) = putI o (m.1, 17) from by rw [HN.out, HRd2.out, if_neg hs])
     have hsb : (rt == sm) = false := beq_eq_false_iff_ne.2 hs
     have hsn : (rt != sm) = true := by rw [bne, hsb]; rfl
     obtain ⟨u0, u1, u2, u3⟩ := modC (m := m) V3
     have cP := Lib.hid (put_any Av cv o (m.1, 17) w3 ((HSo.out.below HX3.out).more HX3.out.size) hocv (by omega))
     clear hs HN HRd2
     have hpl := (putI_perm o (m.1, 17)).length_eq
     rw [List.length_append, List.length_singleton] at hpl
     have hpl2 := Nat.le_of_eq hpl
     clear hpl
     generalize putI o (m.1, 17) = o2 at cP HS1 hpl2
     go_wp2_with fail
     refine cP.out.mono ?_
     rintro e w4 ⟨A4, c4, rfl, hc4, hS4, hb4⟩
     have HS4 := Lib.hid hS4
     have HB4 := Lib.hid (HB3.out.trans (hb4.mono HB3.out.size))
     clear hb4 cP hS4
     go_wp2
     go_roundw
     case rel => exact ⟨k + 1, o2, A4, c4, by omega, by go_num, rfl, Lib.hid HS1.out.symm, hc4, by omega, HS4, HB4⟩
     case measure => first | (simp [intOf]; done) | (simp [intOf]; omega)
  ·obtain rfl : k = E.length := by omega
   have HOG := Lib.hid (HOF.out.trans HG0.out.symm)
   clear HFs HFn HF0 HOF
   go_wp2
   go_loopw [5, 11] (fun v i wr => ∃ (k : Nat) (o : List Iss) (Av : Option Addr) (cv : Nat), k ≤ L.length ∧ i = .int .i64 (k : Nat) ∧ v = .slice Av o.length cv ∧ Hid (o = G k) ∧ o.length ≤ cv ∧ o.length ≤ E.length + k ∧ Hid (Sl wr wr.heap.size 2 encI Av o) ∧ Hid (Below w.heap.size w wr)) (fun _ i _ => L.length - (intOf i).toNat)
   case atStart => exact ⟨0, o, Av, cv, Nat.zero_le _, rfl, rfl, HOG, hocv, by omega, HSo, HB⟩
   case round =>
    clear HB HSo HOG hol hocv
    obtain ⟨wo, hwo⟩ : ∃ wo, wo = wr := ⟨_, rfl⟩
    subst hwo
    obtain ⟨k, o, Av, cv, hk, rfl, rfl, HOF, hocv, hol, HSo, HB⟩ := hrel
    by_cases hlt : k < L.length
    ·have hlt' : (k : Int) < (L.length : Int) := by omega
     obtain ⟨b, off, hA1, hbB, g0, g1, g2, g3, _, _⟩ := ((HA.out.below HB.out).more HB.out.size).rel hlt
     have HN := Lib.hid (HGs.out k hlt)
     rw [← HOF.out] at HN
     generalize L[k] = r at g0 g1 g2 g3 HN
     have HRd := Lib.hid (show rdiffR E r.rel = if r.m ∈ E.map (·.1) then none else some (r.m.1, 6) from rfl)
     generalize rdiffR E r.rel = rd at HN HRd
     generalize r.m = m at g0 g1 g2 g3 HRd
     have HA1 := Lib.hid hA1
     subst hA1
     have HW1 := Lib.hid (show Below wo.heap.size wo (wo.alloc (.cells #[.string ⟨m.1.toArray⟩, .int .i64 m.2.1, .int .i64 m.2.2.1, .int .i64 m.2.2.2] 26)) from (Below.refl _ _).alloc (Nat.le_refl _) _)
     have V1 := Lib.hid (Blk.new wo 26 #[.string ⟨m.1.toArray⟩, .int .i64 m.2.1, .int .i64 m.2.2.1, .int .i64 m.2.2.2])
     go_wp2_with fail
     generalize hw1 : wo.alloc (.cells #[.string ⟨m.1.toArray⟩, .int .i64 m.2.1, .int .i64 m.2.2.1, .int .i64 m.2.2.2] 26) = w1 at HW1 V1 ⊢
     have HB1 := Lib.hid (HB.out.trans (HW1.out.mono HB.out.size))
     clear hw1 g0 g1 g2 g3
     go_loopw [13, 14] (fun fv i wq => ∃ j : Nat, j ≤ E.length ∧ i = .int .i64 (j : Nat) ∧ fv = .bool (decide (m ∈ (E.take j).map (·.1))) ∧ Hid (Below w1.heap.size w1 wq)) (fun _ i _ => E.length - (intOf i).toNat)
     case atStart => exact ⟨0, Nat.zero_le _, rfl, by simp, Lib.hid (Below.refl _ _)⟩
     case round =>
      obtain ⟨wq, hwq⟩ : ∃ wq, wq = wr := ⟨_, rfl⟩
      subst hwq
      obtain ⟨j, hj, rfl, rfl, HBi⟩ := hrel
      have HBq := Lib.hid (HB1.out.trans (HBi.out.mono HB1.out.size))
      have HXq := Lib.hid (HW1.out.trans (HBi.out.mono HW1.out.size))
      have Vq := V1.out.keep HBi.out
      have hwx : wo.heap.size < wq.heap.size := Vq.lt
      obtain ⟨u0, u1, u2, u3⟩ := modC (m := m) Vq
      by_cases hje : j < E.length
      ·have hje' : (j : Int) < (E.length : Int) := by omega
       have hj0 : (0 : Int) ≤ (j : Int) := by omega
       obtain ⟨be, oe, hAe, hbe, e0, e1, e2, e3, _⟩ := ((HE.out.below HBq.out).more HBq.out.size).ent hje
       have HD := Lib.hid (show decide (m ∈ (E.take (j + 1)).map (·.1)) = (decide (m ∈ (E.take j).map (·.1)) || decide (E[j].1 = m)) by
        rw [List.take_succ_eq_append_getElem hje, List.map_append, Bool.eq_iff_iff]
        simp only [decide_eq_true_eq, List.mem_append, List.map_cons, List.map_nil, List.mem_singleton, Bool.or_eq_true]
        exact or_congr Iff.rfl eq_comm)
       generalize E[j] = x at e0 e1 e2 e3 HD
       obtain ⟨p, sp⟩ := x
       simp only at e0 e1 e2 e3 HD
       have he := fun W => heq p.1 m.1 p.2.1 p.2.2.1 p.2.2.2 m.2.1 m.2.2.1 m.2.2.2 W
       obtain ⟨d2, hd2⟩ : ∃ d2, d2 = decide (p = m) := ⟨_, rfl⟩
       rw [show decide ((p.1, p.2.1, p.2.2.1, p.2.2.2) = (m.1, m.2.1, m.2.2.1, m.2.2.2)) = d2 from hd2.symm] at he
       rw [← hd2] at HD
       have HAe := Lib.hid hAe
       subst hAe
       clear hd2 heq
       cases hd : decide (m ∈ (E.take j).map (·.1))
       ·rw [hd] at HD
        go_upto_region 20 with fail
        apply wp_region_facts (by kernel_rfl) [isv _, isv _, isv _, isv _, isv _, isv _, isv _, isv _, isv _, isv _, isv _] wq.heap.size wq (Nat.le_refl _) (Below.refl _ _).drew (by kernel_rfl) (by kernel_rfl) (by kernel_rfl) (And.intro (isv_mono _) (And.intro (isv_mono _) (And.intro (isv_mono _) (And.intro (isv_mono _) (And.intro (isv_mono _) (And.intro (isv_mono _) (And.intro (isv_mono _) (And.intro (isv_mono _) (And.intro (isv_mono _) (And.intro (isv_mono _) (And.intro (isv_mono _) trivial))))))))))) ?steps (by rfl) ?fin
        case steps =>
         refine (And.intro ?o0 (And.intro ?o1 (And.intro ?o2 (And.intro ?o3 (And.intro ?o4 (And.intro ?o5 (And.intro ?o6 (And.intro ?o7 (And.intro ?o8 (And.intro ?o9 (And.intro ?o10 trivial)))))))))))
         case o0 =>
          intro AA W KK QQ hB hs hd hl hk
          have sl13 := hl 10 13 _ (by kernel_rfl) rfl rfl
          clear hs hd hl
          go_simp
          exact hk _ _ rfl (Below.refl _ _)
         case o1 =>
          intro AA W KK QQ hB hs hd hl hk
          obtain ⟨_, sl74, rfl⟩ := hd 0 74 (by kernel_rfl) rfl
          clear hs hd hl
          go_simp
          exact hk _ _ rfl (Below.refl _ _)
         case o2 =>
          intro AA W KK QQ hB hs hd hl hk
          have sl1 := hs 1 _ (by kernel_rfl) rfl
          obtain ⟨_, sl75, rfl⟩ := hd 1 75 (by kernel_rfl) rfl
          clear hs hd hl
          refine ⟨_, _, rfl, sl75, ?_⟩
          first
           | (change Oper.wp _ _ _ _ _ _; go_simp; exact hk _ _ rfl (Below.refl _ _))
           | exact rfl
         case o3 =>
          intro AA W KK QQ hB hs hd hl hk
          have sl14 := hs 14 _ (by kernel_rfl) rfl
          obtain ⟨_, sl75, rfl⟩ := hd 1 75 (by kernel_rfl) rfl
          clear hs hd hl
          refine ⟨_, _, rfl, sl75, ?_⟩
          first
           | (change Oper.wp _ _ _ _ _ _; go_simp; exact hk _ _ rfl (Below.refl _ _))
           | exact rfl
         case o4 =>
          intro AA W KK QQ hB hs hd hl hk
          obtain ⟨_, sl75, rfl⟩ := hd 1 75 (by kernel_rfl) rfl
          obtain ⟨_, sl76, rfl⟩ := hd 2 76 (by kernel_rfl) rfl
          obtain ⟨_, sl77, rfl⟩ := hd 3 77 (by kernel_rfl) rfl
          clear hs hd hl
          refine ⟨_, _, rfl, sl75, ?_⟩
          first
           | (change Oper.wp _ _ _ _ _ _; go_simp; exact hk _ _ rfl (Below.refl _ _))
           | exact rfl
         case o5 =>
          intro AA W KK QQ hB hs hd hl hk
          obtain ⟨_, sl75, rfl⟩ := hd 1 75 (by kernel_rfl) rfl
          obtain ⟨_, sl78, rfl⟩ := hd 4 78 (by kernel_rfl) rfl
          clear hs hd hl
          refine ⟨_, _, rfl, sl75, ?_⟩
          first
           | (change Oper.wp _ _ _ _ _ _; go_simp; exact hk _ _ rfl (Below.refl _ _))
           | exact rfl
         case o6 =>
          intro AA W KK QQ hB hs hd hl hk
          obtain ⟨_, sl75, rfl⟩ := hd 1 75 (by kernel_rfl) rfl
          obtain ⟨_, sl79, rfl⟩ := hd 5 79 (by kernel_rfl) rfl
          clear hs hd hl
          have hx0 := hB.cell (p := ⟨be, oe + j * 5, none⟩) hbe
          have hx1 := hB.cell (p := ⟨be, oe + j * 5 + 1, none⟩) hbe
          have hx2 := hB.cell (p := ⟨be, oe + j * 5 + 2, none⟩) hbe
          have hx3 := hB.cell (p := ⟨be, oe + j * 5 + 3, none⟩) hbe
          rw [e0] at hx0
          rw [e1] at hx1
          rw [e2] at hx2
          rw [e3] at hx3
          refine ⟨_, _, rfl, sl75, ?_⟩
          first
           | (change Oper.wp _ _ _ _ _ _; go_simp; exact hk _ _ rfl (Below.refl _ _))
           | exact rfl
         case o7 =>
          intro AA W KK QQ hB hs hd hl hk
          have sl12 := hs 12 _ (by kernel_rfl) rfl
          obtain ⟨_, sl75, rfl⟩ := hd 1 75 (by kernel_rfl) rfl
          clear hs hd hl
          have hx0 := hB.cell (p := ⟨wo.heap.size, 0, none⟩) hwx
          have hx1 := hB.cell (p := ⟨wo.heap.size, 1, none⟩) hwx
          have hx2 := hB.cell (p := ⟨wo.heap.size, 2, none⟩) hwx
          have hx3 := hB.cell (p := ⟨wo.heap.size, 3, none⟩) hwx
          rw [u0] at hx0
          rw [u1] at hx1
          rw [u2] at hx2
          rw [u3] at hx3
          refine ⟨_, _, rfl, sl75, ?_⟩
          first
           | (change Oper.wp _ _ _ _ _ _; go_simp; exact hk _ _ rfl (Below.refl _ _))
           | exact rfl
         case o8 =>
          intro AA W KK QQ hB hs hd hl hk
          obtain ⟨_, sl75, rfl⟩ := hd 1 75 (by kernel_rfl) rfl
          obtain ⟨_, sl80, rfl⟩ := hd 6 80 (by kernel_rfl) rfl
          obtain ⟨_, sl81, rfl⟩ := hd 7 81 (by kernel_rfl) rfl
          clear hs hd hl
          refine ⟨_, _, rfl, sl75, ?_⟩
          first
           | (change Oper.wp _ _ _ _ _ _; go_simp; exact hk _ _ rfl (Below.refl _ _))
           | exact rfl
         case o9 =>
          intro AA W KK QQ hB hs hd hl hk
          obtain ⟨_, sl75, rfl⟩ := hd 1 75 (by kernel_rfl) rfl
          obtain ⟨_, sl82, rfl⟩ := hd 8 82 (by kernel_rfl) rfl
          clear hs hd hl
          go_simp
          exact hk _ _ rfl (Below.refl _ _)
         case o10 =>
          intro AA W KK QQ hB hs hd hl hk
          obtain ⟨_, sl83, rfl⟩ := hd 9 83 (by kernel_rfl) rfl
          clear hs hd hl
          go_simp
          exact hk _ _ rfl (Below.refl _ _)
        case fin =>
         intro wf hB
         refine fin_isv 74 rfl ?_
         refine fin_isv 75 rfl ?_
         refine fin_isv 76 rfl ?_
         refine fin_isv 77 rfl ?_
         refine fin_isv 78 rfl ?_
         refine fin_isv 79 rfl ?_
         refine fin_isv 80 rfl ?_
         refine fin_isv 81 rfl ?_
         refine fin_isv 82 rfl ?_
         refine fin_isv 83 rfl ?_
         refine fin_isv 13 rfl ?_
         refine frame92_74_75_76_77_78_79_80_81_82_83_13 _ _ _ _ _ _ _ _ _ _ _ _ _ _ _ _ _ _ _ _ _ _ _ _ _ _ _ _ _ _ _ _ _ _ _ _ _ _ _ _ _ _ _ _ _ _ _ _ _ _ _ _ _ _ _ _ _ _ _ _ _ _ _ _ _ _ _ _ _ _ _ _ _ _ _ _ _ _ _ _ _ _ _ _ _ _ _ _ _ _ _ _ _ _ _ _ _ _ _ _ _ _ _ ?_
         have HBf := Lib.hid (HBi.out.trans (hB.mono HBi.out.size))
         clear hB
         go_wp2
         go_roundw
         case rel => exact ⟨j + 1, by omega, by go_num, by rw [HD.out]; rfl, HBf⟩
         case measure => first | (simp [intOf]; done) | (simp [intOf]; omega)
       ·rw [hd] at HD
        go_upto_region 20 with fail
        apply wp_region_facts (by kernel_rfl) [isv _, isv _, isv _, isv _, isv _, isv _, isv _, isv _, isv _, isv _, isv _] wq.heap.size wq (Nat.le_refl _) (Below.refl _ _).drew (by kernel_rfl) (by kernel_rfl) (by kernel_rfl) (And.intro (isv_mono _) (And.intro (isv_mono _) (And.intro (isv_mono _) (And.intro (isv_mono _) (And.intro (isv_mono _) (And.intro (isv_mono _) (And.intro (isv_mono _) (And.intro (isv_mono _) (And.intro (isv_mono _) (And.intro (isv_mono _) (And.intro (isv_mono _) trivial))))))))))) ?steps (by rfl) ?fin
        case steps =>
         refine (And.intro ?o0 (And.intro ?o1 (And.intro ?o2 (And.intro ?o3 (And.intro ?o4 (And.intro ?o5 (And.intro ?o6 (And.intro ?o7 (And.intro ?o8 (And.intro ?o9 (And.intro ?o10 trivial)))))))))))
         case o0 =>
          intro AA W KK QQ hB hs hd hl hk
          have sl13 := hl 10 13 _ (by kernel_rfl) rfl rfl
          clear hs hd hl
          go_simp
          exact hk _ _ rfl (Below.refl _ _)
         case o1 =>
          intro AA W KK QQ hB hs hd hl hk
          obtain ⟨_, sl74, rfl⟩ := hd 0 74 (by kernel_rfl) rfl
          clear hs hd hl
          go_simp
          exact hk _ _ rfl (Below.refl _ _)
         case o2 =>
          intro AA W KK QQ hB hs hd hl hk
          have sl1 := hs 1 _ (by kernel_rfl) rfl
          obtain ⟨_, sl75, rfl⟩ := hd 1 75 (by kernel_rfl) rfl
          clear hs hd hl
          refine ⟨_, _, rfl, sl75, ?_⟩
          first
           | (change Oper.wp _ _ _ _ _ _; go_simp; exact hk _ _ rfl (Below.refl _ _))
           | exact rfl
         case o3 =>
          intro AA W KK QQ hB hs hd hl hk
          have sl14 := hs 14 _ (by kernel_rfl) rfl
          obtain ⟨_, sl75, rfl⟩ := hd 1 75 (by kernel_rfl) rfl
          clear hs hd hl
          refine ⟨_, _, rfl, sl75, ?_⟩
          first
           | (change Oper.wp _ _ _ _ _ _; go_simp; exact hk _ _ rfl (Below.refl _ _))
           | exact rfl
         case o4 =>
          intro AA W KK QQ hB hs hd hl hk
          obtain ⟨_, sl75, rfl⟩ := hd 1 75 (by kernel_rfl) rfl
          obtain ⟨_, sl76, rfl⟩ := hd 2 76 (by kernel_rfl) rfl
          obtain ⟨_, sl77, rfl⟩ := hd 3 77 (by kernel_rfl) rfl
          clear hs hd hl
          refine ⟨_, _, rfl, sl75, ?_⟩
          first
           | (change Oper.wp _ _ _ _ _ _; go_simp; exact hk _ _ rfl (Below.refl _ _))
           | exact rfl
         case o5 =>
          intro AA W KK QQ hB hs hd hl hk
          obtain ⟨_, sl75, rfl⟩ := hd 1 75 (by kernel_rfl) rfl
          obtain ⟨_, sl78, rfl⟩ := hd 4 78 (by kernel_rfl) rfl
          clear hs hd hl
          refine ⟨_, _, rfl, sl75, ?_⟩
          first
           | (change Oper.wp _ _ _ _ _ _; go_simp; exact hk _ _ rfl (Below.refl _ _))
           | exact rfl
         case o6 =>
          intro AA W KK QQ hB hs hd hl hk
          obtain ⟨_, sl75, rfl⟩ := hd 1 75 (by kernel_rfl) rfl
          obtain ⟨_, sl79, rfl⟩ := hd 5 79 (by kernel_rfl) rfl
          clear hs hd hl
          refine ⟨_, _, rfl, sl75, ?_⟩
          first
           | (change Oper.wp _ _ _ _ _ _; go_simp; exact hk _ _ rfl (Below.refl _ _))
           | exact rfl
         case o7 =>
          intro AA W KK QQ hB hs hd hl hk
          have sl12 := hs 12 _ (by kernel_rfl) rfl
          obtain ⟨_, sl75, rfl⟩ := hd 1 75 (by kernel_rfl) rfl
          clear hs hd hl
          refine ⟨_, _, rfl, sl75, ?_⟩
          first
           | (change Oper.wp _ _ _ _ _ _; go_simp; exact hk _ _ rfl (Below.refl _ _))
           | exact rfl
         case o8 =>
          intro AA W KK QQ hB hs hd hl hk
          obtain ⟨_, sl75, rfl⟩ := hd 1 75 (by kernel_rfl) rfl
          obtain ⟨_, sl80, rfl⟩ := hd 6 80 (by kernel_rfl) rfl
          obtain ⟨_, sl81, rfl⟩ := hd 7 81 (by kernel_rfl) rfl
          clear hs hd hl
          refine ⟨_, _, rfl, sl75, ?_⟩
          first
           | (change Oper.wp _ _ _ _ _ _; go_simp; exact hk _ _ rfl (Below.refl _ _))
           | exact rfl
         case o9 =>
          intro AA W KK QQ hB hs hd hl hk
          obtain ⟨_, sl75, rfl⟩ := hd 1 75 (by kernel_rfl) rfl
          obtain ⟨_, sl82, rfl⟩ := hd 8 82 (by kernel_rfl) rfl
          clear hs hd hl
          go_simp
          exact hk _ _ rfl (Below.refl _ _)
         case o10 =>
          intro AA W KK QQ hB hs hd hl hk
          obtain ⟨_, sl83, rfl⟩ := hd 9 83 (by kernel_rfl) rfl
          clear hs hd hl
          go_simp
          exact hk _ _ rfl (Below.refl _ _)
        case fin =>
         intro wf hB
         refine fin_isv 74 rfl ?_
         refine fin_isv 75 rfl ?_
         refine fin_isv 76 rfl ?_
         refine fin_isv 77 rfl ?_
         refine fin_isv 78 rfl ?_
         refine fin_isv 79 rfl ?_
         refine fin_isv 80 rfl ?_
         refine fin_isv 81 rfl ?_
         refine fin_isv 82 rfl ?_
         refine fin_isv 83 rfl ?_
         refine fin_isv 13 rfl ?_
         refine frame92_74_75_76_77_78_79_80_81_82_83_13 _ _ _ _ _ _ _ _ _ _ _ _ _ _ _ _ _ _ _ _ _ _ _ _ _ _ _ _ _ _ _ _ _ _ _ _ _ _ _ _ _ _ _ _ _ _ _ _ _ _ _ _ _ _ _ _ _ _ _ _ _ _ _ _ _ _ _ _ _ _ _ _ _ _ _ _ _ _ _ _ _ _ _ _ _ _ _ _ _ _ _ _ _ _ _ _ _ _ _ _ _ _ _ ?_
         have HBf := Lib.hid (HBi.out.trans (hB.mono HBi.out.size))
         clear hB
         go_wp2
         go_roundw
         case rel => exact ⟨j + 1, by omega, by go_num, by rw [HD.out]; rfl, HBf⟩
         case measure => first | (simp [intOf]; done) | (simp [intOf]; omega)
      ·obtain rfl : j = E.length := by omega
       rw [List.take_length]
       by_cases hm : m ∈ E.map (·.1)
       ·have HS1 := Lib.hid (show G (k + 1) = o from by rw [HN.out, HRd.out, if_pos hm])
        rw [decide_eq_true hm]
        clear HN HRd hm u0 u1 u2 u3
        go_wp2
        go_roundw
        case rel => exact ⟨k + 1, o, Av, cv, by omega, by go_num, rfl, Lib.hid HS1.out.symm, hocv, by omega, Lib.hid ((HSo.out.below HXq.out).more HXq.out.size), HBq⟩
        case measure => first | (simp [intOf]; done) | (simp [intOf]; omega)
       ·have HS1 := Lib.hid (show G (k + 1) = putI o (m.1, 6) from by rw [HN.out, HRd.out, if_neg hm])
        rw [decide_eq_false hm]
        have cP := Lib.hid (put_any Av cv o (m.1, 6) wq ((HSo.out.below HXq.out).more HXq.out.size) hocv (by omega))
        clear HN HRd hm
        have hpl := (putI_perm o (m.1, 6)).length_eq
        rw [List.length_append, List.length_singleton] at hpl
        have hpl2 := Nat.le_of_eq hpl
        clear hpl
        generalize putI o (m.1, 6) = o2 at cP HS1 hpl2
        go_wp2_with fail
        refine cP.out.mono ?_
        rintro e w4 ⟨A4, c4, rfl, hc4, hS4, hb4⟩
        have HS4 := Lib.hid hS4
        have HB4 := Lib.hid (HBq.out.trans (hb4.mono HBq.out.size))
        clear hb4 cP hS4
        go_wp2
        go_roundw
        case rel => exact ⟨k + 1, o2, A4, c4, by omega, by go_num, rfl, Lib.hid HS1.out.symm, hc4, by omega, HS4, HB4⟩
        case measure => first | (simp [intOf]; done) | (simp [intOf]; omega)
    ·obtain rfl : k = L.length := by omega
     have HR := Lib.hid (show o = isort RR by rw [HOF.out, HGn.out])
     go_wp2
     go_ret
     exact ⟨Av, cv, by rw [← HR.out]; rfl, by rw [← HR.out]; exact hocv, by rw [← HR.out]; exact HSo.out, HB.out⟩
end Go.Proofs.YthcgihgajdjfoaaGreatDoor
