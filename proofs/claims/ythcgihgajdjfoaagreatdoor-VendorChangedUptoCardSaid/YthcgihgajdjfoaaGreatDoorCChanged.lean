/- The law VendorChanged holds of every registry and root of bulk at most 1048576 and every number: the tied card of the second form. No condition beside the row's own. -/
import Derived.Test.YthcgihgajdjfoaaGreatDoorU47
import Derived.BigQuiet
import Derived.Laws.IdiomStrings
import Derived.Laws.BitsAllLaws
namespace Go.Proofs.YthcgihgajdjfoaaGreatDoor.lawChanged
open Go.ChangeShapes Go.WideShapes Go.ChangeAt Go.RowKit
open Go.ChangeMaps (open_string shut_string)

theorem lit0_own {W : World} {g base e size : Nat} (h : Blk W g e #[]) (hb : base ≤ g) : W.ownsRow base e size (.slice (some ⟨g, 0, none⟩) 0 0) 0 [] :=
  ⟨by simp, .inr ⟨g, 0, #[], rfl, hb, h, Nat.le_refl _, by decide, by simp, by simp⟩⟩
theorem Sl.setAt {α : Type} {w : World} {B k g off i j0 : Nat} {enc : α → List Value} {l : List α} (h : Sl w B k enc (some ⟨g, off, none⟩) l) (hi : i < l.length) (x' : α) (u v0 : Value) (hj : j0 < k) (hk : ∀ x, (enc x).length = k) (hx : enc x' = (enc l[i]).set j0 u)
    (hc : w.cell? ⟨g, off + i * k + j0, none⟩ = some v0) : Sl (w.setCell ⟨g, off + i * k + j0, none⟩ u) B k enc (some ⟨g, off, none⟩) (l.set i x') := by
  rcases h with rfl | ⟨b, o, e, hb, hcs⟩
  · simp at hi
  · injection e with e
    injection e with e1 e2
    subst e1 e2
    refine .inr ⟨_, _, rfl, hb, fun i' hi' j v hv => ?_⟩
    simp only [List.length_set] at hi'
    rw [List.getElem_set] at hv
    by_cases hii : i = i'
    · subst hii
      rw [if_pos rfl, hx] at hv
      by_cases hjj : j0 = j
      · subst hjj
        rw [List.getElem?_set_self (by rw [hk]; exact hj)] at hv
        injection hv with hv
        subst hv
        exact World.cell?_setCell_same _ _ _ hc
      · rw [List.getElem?_set_ne hjj] at hv
        rw [World.cell?_setCell_other _ _ _ _ (by first | (simp; done) | (simp; omega))]
        exact hcs i hi' j v hv
    · rw [if_neg hii] at hv
      have hjk : j < k := by
        have := (List.getElem?_eq_some_iff.1 hv).1
        rwa [hk] at this
      have hne : off + i' * k + j ≠ off + i * k + j0 := fun he => by
        rcases Nat.lt_or_gt_of_ne hii with hlt | hlt
        · have := Nat.mul_le_mul_right k (show i + 1 ≤ i' from hlt)
          rw [Nat.add_mul, Nat.one_mul] at this
          omega
        · have := Nat.mul_le_mul_right k (show i' + 1 ≤ i from hlt)
          rw [Nat.add_mul, Nat.one_mul] at this
          omega
      rw [World.cell?_setCell_other _ _ _ _ (by first | (simp; done) | (simp; exact hne))]
      exact hcs i' hi' j v hv
theorem relC {W : World} {g : Nat} {t : TypeId} {v0 v1 v2 v3 v4 v5 : Value} (h : Blk W g t #[v0, v1, v2, v3, v4, v5]) : W.cell? ⟨g, 0, none⟩ = some v0 ∧ W.cell? ⟨g, 1, none⟩ = some v1 ∧ W.cell? ⟨g, 2, none⟩ = some v2 ∧ W.cell? ⟨g, 3, none⟩ = some v3 ∧ W.cell? ⟨g, 4, none⟩ = some v4 ∧ W.cell? ⟨g, 5, none⟩ = some v5 :=
  ⟨h.cell 0, h.cell 1, h.cell 2, h.cell 3, h.cell 4, h.cell 5⟩
theorem bytes_cells (w : World) (tx : List UInt8) (cp : Nat) (e : TypeId) (j : Nat) (hj : j < tx.length) : (w.alloc (.cells (bytesRow ⟨tx.toArray⟩ cp) e ((bytesRow ⟨tx.toArray⟩ cp).size, (bytesRow ⟨tx.toArray⟩ cp).size + 1))).drew.cell? ⟨w.heap.size, j, none⟩ = some (.int .u8 (tx[j].toNat : Int)) ∧
    (w.alloc (.cells (bytesRow ⟨tx.toArray⟩ cp) e ((bytesRow ⟨tx.toArray⟩ cp).size, (bytesRow ⟨tx.toArray⟩ cp).size + 1))).drew.frozen? ⟨w.heap.size, j, none⟩ = false := by
  have hsz : tx.length ≤ (bytesRow ⟨tx.toArray⟩ cp).size := by unfold bytesRow; simp
  refine ⟨?_, ?_⟩
  · have h := World.cell?_alloc_mark w.drew (bytesRow ⟨tx.toArray⟩ cp) e ((bytesRow ⟨tx.toArray⟩ cp).size, (bytesRow ⟨tx.toArray⟩ cp).size + 1) j
    rw [bytesRow_at _ _ _ (by simpa using hj)] at h
    exact h
  · have h := World.frozen?_alloc_mark w.drew (bytesRow ⟨tx.toArray⟩ cp) e (bytesRow ⟨tx.toArray⟩ cp).size ((bytesRow ⟨tx.toArray⟩ cp).size + 1) j
    rw [show (w.alloc (.cells (bytesRow ⟨tx.toArray⟩ cp) e ((bytesRow ⟨tx.toArray⟩ cp).size, (bytesRow ⟨tx.toArray⟩ cp).size + 1))).drew.frozen? ⟨w.heap.size, j, none⟩ = _ from h]
    have : ¬ (bytesRow ⟨tx.toArray⟩ cp).size ≤ j := by omega
    simp [this]
theorem xor_one (b : UInt8) : ∃ t : UInt8, bits .xor .u8 ((b.toNat : Nat) : Int) 1 = ((t.toNat : Nat) : Int) := by
  have hlt : b.toNat ^^^ 1 < 256 := Nat.xor_lt_two_pow (n := 8) b.toNat_lt (by decide)
  refine ⟨UInt8.ofNat (b.toNat ^^^ 1), ?_⟩
  have h := u8_xor_nat b.toNat 1 b.toNat_lt (by decide)
  rw [show ((1 : Nat) : Int) = 1 from rfl] at h
  rw [h]
  congr 1
  exact (Nat.mod_eq_of_lt hlt).symm
theorem set_cells {w : World} {g : Nat} {tx : List UInt8} {j : Nat} {t1 : UInt8} (hc : ∀ k (hk : k < tx.length), w.cell? ⟨g, k, none⟩ = some (.int .u8 (tx[k].toNat : Int))) : ∀ k (hk : k < (tx.set j t1).length), (w.setCell ⟨g, j, none⟩ (.int .u8 (t1.toNat : Int))).cell? ⟨g, k, none⟩ = some (.int .u8 ((tx.set j t1)[k].toNat : Int)) := by
  intro k hk
  have hk' : k < tx.length := by simpa using hk
  rw [List.getElem_set]
  by_cases h : j = k
  · subst h
    rw [if_pos rfl]
    exact World.cell?_setCell_same _ _ _ (hc j hk')
  · rw [if_neg h, World.cell?_setCell_other _ _ _ _ (by first | (simp; done) | (simp; omega))]
    exact hc k hk'
theorem cons_of {α : Type} {l : List α} (h : 0 < l.length) : l = l[0] :: l.tail := by
  cases l with
  | nil => simp at h
  | cons a l => rfl
theorem encR_one9 (l : List RelA) : ∀ u ∈ l.flatMap encR, u.oneCell' = true := by
  intro u hu
  obtain ⟨m, _, h⟩ := List.mem_flatMap.1 hu
  simp [encR] at h
  rcases h with rfl | rfl | rfl | rfl | rfl | rfl <;> rfl
theorem flatT_set {l : List Src2} {nm tx ty : List UInt8} (h : l = (nm, tx) :: l.tail) : (l.flatMap encT).set 1 (.string ⟨ty.toArray⟩) = ((nm, ty) :: l.tail).flatMap encT := by
  generalize l.tail = z at h ⊢
  subst h
  simp [encT]
theorem split_set {α : Type} (l : List α) (i : Nat) (hi : i < l.length) (x' : α) : ∃ P Q, l = P ++ l[i] :: Q ∧ l.set i x' = P ++ x' :: Q :=
  ⟨l.take i, l.drop (i + 1), by rw [List.getElem_cons_drop, List.take_append_drop], List.set_eq_take_append_cons_drop.trans (if_pos hi)⟩
set_option maxRecDepth 100000 in
theorem frame160_09d979afc9 {Q : Exit → Act → World → Prop} {W : World} {fs : List Fact} (t0 t1 t2 t3 t4 t5 t6 t7 t8 t9 t10 t11 t12 t13 t14 t15 t16 t17 t18 t19 t20 t21 t22 t23 t24 t25 t26 t27 t28 t29 t30 t31 t32 t33 t34 t35 t36 t37 t38 t39 t40 t41 t42 t43 t44 t45 t46 t47 t48 t49 t50 t51 t52 t53 t54 t55 t56 t57 t58 t59 t60 t61 t62 t63 t64 t65 t66 t67 t68 t69 t70 t71 t72 t73 t74 t75 t76 t77 t78 t79 t80 t81 t82 t83 t84 t85 t86 t87 t88 t89 t90 t91 t92 t93 t94 t95 t96 t97 t98 t99 t100 t101 t102 t103 t104 t105 t106 t107 t108 t109 t110 t111 t112 t113 t114 t115 t116 t117 t118 t119 t120 t121 t122 t123 t124 t125 t126 t127 t128 t129 t130 t131 t132 t133 t134 t135 t136 t137 t138 t139 t140 t141 t142 t143 t144 t145 t146 t147 t148 t149 t150 t151 t152 t153 t154 t155 t156 t157 t158 t159 v0 v1 v2 v3 v4 v5 v6 v7 v8 v9 v10 v11 v12 v13 v14 v15 v16 v17 v18 v19 v20 v21 v22 v23 v24 : Value) (h : Q .normal (Act.mk #[t0, t1, t2, t3, t4, t5, v24, t7, t8, t9, t10, t11, t12, t13, t14, t15, t16, t17, t18, t19, t20, t21, t22, t23, t24, t25, t26, t27, t28, t29, t30, t31, t32, t33, t34, t35, t36, t37, t38, t39, t40, t41, t42, t43, t44, t45, t46, t47, t48, t49, t50, t51, t52, t53, t54, t55, t56, t57, t58, t59, t60, t61, t62, t63, t64, t65, t66, t67, t68, t69, t70, t71, t72, t73, t74, t75, t76, t77, t78, t79, t80, t81, t82, t83, t84, t85, t86, t87, t88, t89, t90, t91, t92, t93, t94, t95, t96, t97, t98, t99, t100, t101, t102, t103, t104, t105, t106, t107, t108, t109, t110, t111, t112, t113, t114, t115, t116, t117, t118, t119, t120, t121, t122, t123, t124, t125, t126, t127, t128, t129, t130, t131, t132, t133, t134, t135, v0, v1, v2, v3, v4, v5, v6, v7, v8, v9, v10, v11, v12, v13, v14, v15, v16, v17, v18, v19, v20, v21, v22, v23] []) W) : FinAll W (fun A => Q .normal A W) [] fs (Act.put (Act.put (Act.put (Act.put (Act.put (Act.put (Act.put (Act.put (Act.put (Act.put (Act.put (Act.put (Act.put (Act.put (Act.put (Act.put (Act.put (Act.put (Act.put (Act.put (Act.put (Act.put (Act.put (Act.put (Act.put (Act.mk #[t0, t1, t2, t3, t4, t5, t6, t7, t8, t9, t10, t11, t12, t13, t14, t15, t16, t17, t18, t19, t20, t21, t22, t23, t24, t25, t26, t27, t28, t29, t30, t31, t32, t33, t34, t35, t36, t37, t38, t39, t40, t41, t42, t43, t44, t45, t46, t47, t48, t49, t50, t51, t52, t53, t54, t55, t56, t57, t58, t59, t60, t61, t62, t63, t64, t65, t66, t67, t68, t69, t70, t71, t72, t73, t74, t75, t76, t77, t78, t79, t80, t81, t82, t83, t84, t85, t86, t87, t88, t89, t90, t91, t92, t93, t94, t95, t96, t97, t98, t99, t100, t101, t102, t103, t104, t105, t106, t107, t108, t109, t110, t111, t112, t113, t114, t115, t116, t117, t118, t119, t120, t121, t122, t123, t124, t125, t126, t127, t128, t129, t130, t131, t132, t133, t134, t135, t136, t137, t138, t139, t140, t141, t142, t143, t144, t145, t146, t147, t148, t149, t150, t151, t152, t153, t154, t155, t156, t157, t158, t159] []) (some 136) v0) (some 137) v1) (some 138) v2) (some 139) v3) (some 140) v4) (some 141) v5) (some 142) v6) (some 143) v7) (some 144) v8) (some 145) v9) (some 146) v10) (some 147) v11) (some 148) v12) (some 149) v13) (some 150) v14) (some 151) v15) (some 152) v16) (some 153) v17) (some 154) v18) (some 155) v19) (some 156) v20) (some 157) v21) (some 158) v22) (some 159) v23) (some 6) v24) :=
  fin_end (by kernel_rfl) h
set_option maxRecDepth 100000 in
set_option maxHeartbeats 8000000 in
theorem walk (A : Option Addr) (c : Nat) (L : List RelA) (y0 : ManW) (n : Int) (w : World) (hS : Sl w w.heap.size 6 encR A L) (hO : ∀ r ∈ L, inR w 1048576 r) (_hl : L.length ≤ 1099511627776) (hO1 : inW w 1048576 y0) (_hn : True) (hG : Glob w) :
    Calls Tryz.prog 9 #[.slice A L.length c, .agg (encW y0).toArray, .int .i64 n] w fun e w' => e = .returned (.bool true) ∧ Below w.heap.size w w' := by
  have HS := Lib.hid hS
  have HO := Lib.hid hO
  have H1 := Lib.hid hO1
  have HG := Lib.hid hG
  clear hS hO hG _hl hO1
  have HB0 := Lib.hid (show Below w.heap.size w (w.alloc (.cells (encW y0).toArray 29)) from (Below.refl _ _).alloc (Nat.le_refl _) _)
  have Q0 := Lib.hid (Blk.new w 29 (encW y0).toArray)
  have cS := Lib.hid (fun W (hW : Below w.heap.size w W) => smallL_any A c L W ((HS.out.below hW).more hW.size) fun r hr => (HO.out r hr).ok.below hW)
  have cM := Lib.hid (fun W (hW : Below w.heap.size w W) => smallMan_any y0.1 y0.2.1 y0.2.2.1 y0.2.2.2 W ((H1.out.2.1.below hW).more hW.size))
  have cC := Lib.hid (fun (h : smallL L) (h1 : smallM y0.1 y0.2.2.2) W (hW : Below w.heap.size w W) => Collect_any A c L y0 W ((HS.out.below hW).more hW.size) (fun r hr => (h.rels HO.out r hr).below hW) (Nat.le_trans h.1 (by decide)) (((h1.manOk H1.out).keep hW).more hW.size) (HG.out.keep hW))
  have HLen := Lib.hid (fun (h : smallL L) => show (collectP (L.map RelA.rel) y0.1 y0.2.2.2).1.length ≤ 10 from by
    have := @collected_len (L.map RelA.rel) y0.1 y0.2.2.2
    rw [List.length_map] at this
    exact Nat.le_trans this h.1)
  have HCh := Lib.hid (fun (h : smallL L) (h0 : (collectP (L.map RelA.rel) y0.1 y0.2.2.2).2 = 0) => show (lockP (collectP (L.map RelA.rel) y0.1 y0.2.2.2).1).2 = 0 ∧ (lockP (collectP (L.map RelA.rel) y0.1 y0.2.2.2).1).1.length ≤ 140737488355327 ∧ ∀ (P Q : List Rel) (r r' : Rel), (collectP (L.map RelA.rel) y0.1 y0.2.2.2).1 = P ++ r :: Q → r'.1 = r.1 → r'.2.1 = r.2.1 → r'.2.2.map (·.1) = r.2.2.map (·.1) → rtext r' ≠ rtext r → verifyP y0.1.1 y0.2.2.2 (P ++ r' :: Q) (lockP (collectP (L.map RelA.rel) y0.1 y0.2.2.2).1).1 = [(r.1.1, 17)] ∧ rdiffP (P ++ r' :: Q) (unlockP (lockP (collectP (L.map RelA.rel) y0.1 y0.2.2.2).1).1).1 = [(r.1.1, 17)] from by
    obtain ⟨D, C, hC⟩ := collected h0
    have hLL : (L.map RelA.rel).length ≤ 600 := by rw [List.length_map]; exact Nat.le_trans h.1 (by decide)
    have hCl := Nat.le_trans hC.len hLL
    rw [hC.eq]
    refine ⟨by rw [lockP_ok hC.lerr], ?_, fun P Q r r' he h1 h2 h3 h4 => changed he hC.lerr hCl h1 h2 h3 h4 _ _⟩
    show (lockP C).1.length ≤ _
    rw [lockP_ok hC.lerr]
    have h1 := nlL_len (lout C) (lout_small C)
    have h2 := lout_le C
    have h3 : 101 * (lout C).length ≤ 101 * 600 := Nat.mul_le_mul_left _ (by omega)
    show (nlL (lout C)).length ≤ _
    omega)
  have HSub := Lib.hid (fun (h : smallL L) W (Q : List RelA) (hm : Q.map RelA.rel = (collectP (L.map RelA.rel) y0.1 y0.2.2.2).1) (hk : ∀ q ∈ Q, RelOk W q) => relS_of (w' := W) (h.rels HO.out) hm (fun c hc => collected_sub hc) hk)
  have cX := Lib.hid (fun W (hW : Below w.heap.size w W) => awake_any W (HG.out.keep hW))
  have cV := Lib.hid (fun (h1 : smallM y0.1 y0.2.2.2) W (hW : Below w.heap.size w W) A2 c2 (Q : List RelA) s (hA : Sl W W.heap.size 6 encR A2 Q) (hq : ∀ q ∈ Q, RelM W q) (hl : Q.length ≤ 100) (hs : s.length ≤ 140737488355327) hc1 hc2 => Verify_any y0 A2 c2 Q s W ((((h1.manOk H1.out).keep hW).more hW.size)).manS hA hq ((h1.manOk H1.out).mods) hl hs (HG.out.keep hW) hc1 hc2)
  have HSm := Lib.hid (fun (h : smallL L) (r : Rel) (hr : r ∈ L.map RelA.rel) => show r.2.2.length ≤ 1000 ∧ ∀ x ∈ r.2.2, x.1.length ≤ 1048576 ∧ x.2.length ≤ 1048576 from by
    obtain ⟨q, hq, rfl⟩ := List.mem_map.1 hr
    exact ⟨Nat.le_trans (h.2 q hq).n (by decide), fun x hx => ⟨Nat.le_trans ((h.2 q hq).q x hx).1 (by decide), Nat.le_trans ((h.2 q hq).q x hx).2 (by decide)⟩⟩)
  have HMem := Lib.hid (fun c (hc : c ∈ (collectP (L.map RelA.rel) y0.1 y0.2.2.2).1) => collected_sub hc)
  obtain ⟨rm, A0, c0, l0⟩ := y0
  simp only at cS cM cC HLen HCh HSub cV HMem
  generalize smallL L = P at cS cC HLen HCh HSub HSm
  generalize smallM rm l0 = P1 at cM cC cV
  generalize collectP (L.map RelA.rel) rm l0 = r at cC HLen HCh HSub HMem
  unfold RetSm at cS cM
  unfold RetC at cC
  simp only [encW] at Q0 HB0 ⊢
  obtain ⟨m, e1⟩ := r
  simp only at cC HLen HCh HSub HMem
  go_enter Tryz.func9, Tryz.ntmps9
  go_wp2_with fail
  refine (cS.out _ HB0.out).mono ?_
  rintro e w1 ⟨b, rfl, hbi, hb1⟩
  have HB1 := Lib.hid (HB0.out.trans (hb1.mono HB0.out.size))
  have Q1 := Lib.hid (Q0.out.keep hb1)
  have HBI := Lib.hid hbi
  clear hb1 hbi cS
  cases b
  ·
    go_wp2_with fail
    refine (cX.out _ HB1.out).mono ?_
    rintro e wz ⟨rfl, hbz⟩
    have HBz := Lib.hid (HB1.out.trans (hbz.mono HB1.out.size))
    clear hbz cX
    go_wp2
    go_ret
    exact ⟨rfl, HBz.out⟩
  have HP := Lib.hid (show P from HBI.out rfl)
  clear HBI
  obtain ⟨y0, y1, y2, y3, y4⟩ := manC Q1.out
  go_wp2_with fail
  refine (cM.out _ HB1.out).mono ?_
  rintro e w1' ⟨b, rfl, hbi, hb1'⟩
  have HB1' := Lib.hid (HB1.out.trans (hb1'.mono HB1.out.size))
  have Q1' := Lib.hid (Q1.out.keep hb1')
  have HBI := Lib.hid hbi
  clear hb1' hbi cM y0 y1 y2 y3 y4
  cases b
  ·
    go_wp2_with fail
    refine (cX.out _ HB1'.out).mono ?_
    rintro e wz ⟨rfl, hbz⟩
    have HBz := Lib.hid (HB1'.out.trans (hbz.mono HB1'.out.size))
    clear hbz cX
    go_wp2
    go_ret
    exact ⟨rfl, HBz.out⟩
  have HP1 := Lib.hid (show P1 from HBI.out rfl)
  clear HBI
  by_cases hn0 : n < 0
  · have hnd := decide_eq_true hn0
    go_wp2_with fail
    refine (cX.out _ HB1'.out).mono ?_
    rintro e wz ⟨rfl, hbz⟩
    have HBz := Lib.hid (HB1'.out.trans (hbz.mono HB1'.out.size))
    clear hbz cX
    go_wp2
    go_ret
    exact ⟨rfl, HBz.out⟩
  have hnd := decide_eq_false hn0
  have hnn : (0 : Int) ≤ n := by omega
  obtain ⟨y0, y1, y2, y3, y4⟩ := manC Q1'.out
  go_wp2_with fail
  refine (cC.out HP.out HP1.out _ HB1'.out).mono ?_
  rintro e w2 ⟨A2, c2, K2, rfl, hm2, hS2, hk2, hb2⟩
  have HB2 := Lib.hid (HB1'.out.trans (hb2.mono HB1'.out.size))
  have Q2 := Lib.hid (Q1'.out.keep hb2)
  have HS2 := Lib.hid hS2
  have HM2 := Lib.hid hm2
  have HK2 := Lib.hid (HSub.out HP.out w2 K2 hm2 hk2)
  have HKl := Lib.hid (show K2.length ≤ 10 from by have := HLen.out HP.out; rw [← hm2, List.length_map] at this; exact this)
  have cL := Lib.hid (Lock_any A2 c2 K2 w2 HS2.out (fun q hq => (HK2.out q hq).ok) (HG.out.keep HB2.out) (Nat.le_trans HKl.out (by decide)))
  rw [HM2.out] at cL
  unfold RetLk at cL
  obtain ⟨q, hq⟩ : ∃ q, q = lockP m := ⟨_, rfl⟩
  rw [← hq] at cL HCh
  clear hb2 cC y0 y1 y2 y3 y4 hS2 hm2 hk2 HSub HLen hq
  obtain ⟨s, f1⟩ := q
  simp only at cL HCh
  go_wp2_with fail
  refine cL.out.mono ?_
  rintro e w3 ⟨rfl, hb3⟩
  have HB3 := Lib.hid (HB2.out.trans (hb3.mono HB2.out.size))
  have Q3 := Lib.hid (Q2.out.keep hb3)
  have HS3 := Lib.hid ((HS2.out.below hb3).more hb3.size)
  have HK3 := Lib.hid (fun q (hq : q ∈ K2) => (HK2.out q hq).below hb3)
  clear hb3 cL HS2 HK2
  by_cases h0 : e1 = 0
  rotate_left
  · have hd : decide (e1 = 0) = false := decide_eq_false h0
    have hbe : (e1 == 0) = false := beq_eq_false_iff_ne.2 h0
    have hbn : (e1 != 0) = true := bne_iff_ne.2 h0
    go_wp2_with fail
    refine (cX.out _ HB3.out).mono ?_
    rintro e wz ⟨rfl, hbz⟩
    have HBz := Lib.hid (HB3.out.trans (hbz.mono HB3.out.size))
    clear hbz cX
    go_wp2
    go_ret
    exact ⟨rfl, HBz.out⟩
  subst h0
  obtain ⟨hf, hsl, hch⟩ := HCh.out HP.out rfl
  subst hf
  have HSL := Lib.hid hsl
  have HCH := Lib.hid hch
  clear hsl hch HCh
  have hd0 : decide ((0 : Int) = 0) = true := by decide
  by_cases hk0 : K2.length = 0
  · have hkd : decide ((K2.length : Int) = 0) = true := decide_eq_true (by omega)
    have hkb : ((K2.length : Int) == 0) = true := by rw [beq_iff_eq]; omega
    have hki : (K2.length : Int) = 0 := by omega
    go_wp2_with fail
    refine (cX.out _ HB3.out).mono ?_
    rintro e wz ⟨rfl, hbz⟩
    have HBz := Lib.hid (HB3.out.trans (hbz.mono HB3.out.size))
    clear hbz cX
    go_wp2
    go_ret
    exact ⟨rfl, HBz.out⟩
  have hkd : decide ((K2.length : Int) = 0) = false := decide_eq_false (by omega)
  have hkb : ((K2.length : Int) == 0) = false := by rw [beq_eq_false_iff_ne]; omega
  have hki : ¬ (K2.length : Int) = 0 := by omega
  obtain ⟨i, hii, hil⟩ : ∃ i : Nat, n.tmod (K2.length : Int) = (i : Int) ∧ i < K2.length := ⟨(n.tmod (K2.length : Int)).toNat, by have := Int.tmod_nonneg (K2.length : Int) hnn; omega, by have h1 := Int.tmod_nonneg (K2.length : Int) hnn; have h2 := Int.tmod_lt_of_pos n (show (0 : Int) < K2.length by omega); omega⟩
  have hiI : (i : Int) < (K2.length : Int) := by omega
  have hi0 : (0 : Int) ≤ (i : Int) := by omega
  obtain ⟨b2, o2, rfl, hbb2, g0, g1, g2, g3, g4, g5⟩ := HS3.out.rel hil
  have HKi := Lib.hid (HK3.out K2[i] (List.getElem_mem hil))
  have HSi := Lib.hid (HSm.out HP.out K2[i].rel (HMem.out _ (by rw [← HM2.out]; exact List.mem_map.2 ⟨_, List.getElem_mem hil, rfl⟩)))
  obtain ⟨r, hr⟩ : ∃ r, r = K2[i] := ⟨_, rfl⟩
  rw [← hr] at g0 g1 g2 g3 g4 g5 HKi HSi
  have HR := Lib.hid hr
  clear hr
  have HW4 := Lib.hid (show Below w3.heap.size w3 (w3.alloc (.cells #[.string ⟨r.m.1.toArray⟩, .int .i64 r.m.2.1, .int .i64 r.m.2.2.1, .int .i64 r.m.2.2.2, .slice r.A r.l.length r.c, .slice r.A' r.s.length r.c'] 62)) from (Below.refl _ _).alloc (Nat.le_refl _) _)
  have V4 := Lib.hid (Blk.new w3 62 #[.string ⟨r.m.1.toArray⟩, .int .i64 r.m.2.1, .int .i64 r.m.2.2.1, .int .i64 r.m.2.2.2, .slice r.A r.l.length r.c, .slice r.A' r.s.length r.c'])
  have HB4 := Lib.hid (HB3.out.trans (HW4.out.mono HB3.out.size))
  have Q4 := Lib.hid (Q3.out.keep HW4.out)
  go_upto_region 8 with fail
  generalize w3.alloc (.cells #[.string ⟨r.m.1.toArray⟩, .int .i64 r.m.2.1, .int .i64 r.m.2.2.1, .int .i64 r.m.2.2.2, .slice r.A r.l.length r.c, .slice r.A' r.s.length r.c'] 62) = w4 at HW4 V4 HB4 Q4 ⊢
  clear g0 g1 g2 g3 g4 g5 hbb2
  obtain ⟨v0, v1, v2, v3, v4, v5⟩ := relC V4.out
  by_cases hs0 : r.s.length = 0
  · have hsd : decide ((r.s.length : Int) = 0) = true := decide_eq_true (by omega)
    have hsb : ((r.s.length : Int) == 0) = true := by rw [beq_iff_eq]; omega
    have hsi : (r.s.length : Int) = 0 := by omega
    go_wp2_with fail
    refine (cX.out _ HB4.out).mono ?_
    rintro e wz ⟨rfl, hbz⟩
    have HBz := Lib.hid (HB4.out.trans (hbz.mono HB4.out.size))
    clear hbz cX
    go_wp2
    go_ret
    exact ⟨rfl, HBz.out⟩
  have hsl0 : ¬ (r.s.length : Int) = 0 := by omega
  have hsd : decide ((r.s.length : Int) = 0) = false := decide_eq_false hsl0
  have hsb : ((r.s.length : Int) == 0) = false := beq_eq_false_iff_ne.2 hsl0
  have hspos : 0 < r.s.length := by omega
  have hsI : (0 : Int) < (r.s.length : Int) := by omega
  obtain ⟨b3, o3, hA3, hbb3, s0, s1⟩ := ((HKi.out.ok.hS.below HW4.out).more HW4.out.size).src2 hspos
  simp only [Nat.zero_mul, Nat.add_zero] at s0 s1
  rw [hA3] at v5
  obtain ⟨nm, hnm⟩ : ∃ nm, nm = (r.s[0]).1 := ⟨_, rfl⟩
  obtain ⟨tx, htx⟩ : ∃ tx, tx = (r.s[0]).2 := ⟨_, rfl⟩
  rw [← hnm] at s0
  rw [← htx] at s1
  have HX0 := Lib.hid (show r.s[0] = (nm, tx) from by rw [hnm, htx])
  clear hnm htx
  by_cases ht0 : tx.length = 0
  · have htd : decide ((tx.length : Int) = 0) = true := decide_eq_true (by omega)
    have htb : ((tx.length : Int) == 0) = true := by rw [beq_iff_eq]; omega
    have hti : (tx.length : Int) = 0 := by omega
    go_wp2_with fail
    refine (cX.out _ HB4.out).mono ?_
    rintro e wz ⟨rfl, hbz⟩
    have HBz := Lib.hid (HB4.out.trans (hbz.mono HB4.out.size))
    clear hbz cX
    go_wp2
    go_ret
    exact ⟨rfl, HBz.out⟩
  have htd : decide ((tx.length : Int) = 0) = false := decide_eq_false (by omega)
  have htb : ((tx.length : Int) == 0) = false := by rw [beq_eq_false_iff_ne]; omega
  have hti : ¬ (tx.length : Int) = 0 := by omega
  obtain ⟨j, hjj, hjl⟩ : ∃ j : Nat, n.tmod (tx.length : Int) = (j : Int) ∧ j < tx.length := ⟨(n.tmod (tx.length : Int)).toNat, by have := Int.tmod_nonneg (tx.length : Int) hnn; omega, by have h1 := Int.tmod_nonneg (tx.length : Int) hnn; have h2 := Int.tmod_lt_of_pos n (show (0 : Int) < tx.length by omega); omega⟩
  have hjI : (j : Int) < (tx.length : Int) := by omega
  have hj0 : (0 : Int) ≤ (j : Int) := by omega
  have kc : ∀ W, (convert 9 65 (.string ⟨tx.toArray⟩)).run Tryz.prog W = .ok (.slice (some ⟨W.heap.size, 0, none⟩) tx.length (grownCap W tx.length 0 5)) (W.drew.alloc (.cells (bytesRow ⟨tx.toArray⟩ (grownCap W tx.length 0 5)) 5 ((bytesRow ⟨tx.toArray⟩ (grownCap W tx.length 0 5)).size, (bytesRow ⟨tx.toArray⟩ (grownCap W tx.length 0 5)).size + 1))) := fun W =>
    run_bytes_of_string W 9 65 5 ⟨tx.toArray⟩ Tryz.underlying9 Tryz.underlying65 Tryz.underlying5
  go_upto_region 11 with fail
  generalize hcp : grownCap w4 tx.length 0 5 = cp
  clear hcp kc
  have C5 := Lib.hid (bytes_cells w4 tx cp 5)
  have HW5 := Lib.hid (show Below w4.heap.size w4 ((w4.alloc (.cells (bytesRow ⟨tx.toArray⟩ cp) 5 ((bytesRow ⟨tx.toArray⟩ cp).size, (bytesRow ⟨tx.toArray⟩ cp).size + 1))).drew) from ((Below.refl _ _).alloc (Nat.le_refl _) _).drew)
  have HB5 := Lib.hid (HB4.out.trans (HW5.out.mono HB4.out.size))
  have hz5 : w4.heap.size < (w4.alloc (.cells (bytesRow ⟨tx.toArray⟩ cp) 5 ((bytesRow ⟨tx.toArray⟩ cp).size, (bytesRow ⟨tx.toArray⟩ cp).size + 1))).drew.heap.size := by simp
  generalize (w4.alloc (.cells (bytesRow ⟨tx.toArray⟩ cp) 5 ((bytesRow ⟨tx.toArray⟩ cp).size, (bytesRow ⟨tx.toArray⟩ cp).size + 1))).drew = w5 at C5 HW5 HB5 hz5 ⊢
  have c5 := (C5.out j hjl).1
  have f5 := (C5.out j hjl).2
  obtain ⟨t1, ht1⟩ := xor_one tx[j]
  go_upto_region 12 with fail
  have C6 := Lib.hid (set_cells (j := j) (t1 := t1) fun k hk => (C5.out k hk).1)
  have HW6 := Lib.hid (HW5.out.setCell (p := ⟨w4.heap.size, j, none⟩) (Nat.le_refl _) (.int .u8 (t1.toNat : Int)))
  have hz6 : w4.heap.size < (w5.setCell ⟨w4.heap.size, j, none⟩ (.int .u8 (t1.toNat : Int))).heap.size := by simpa [World.setCell] using hz5
  generalize w5.setCell ⟨w4.heap.size, j, none⟩ (.int .u8 (t1.toNat : Int)) = w6 at C6 HW6 hz6 ⊢
  obtain ⟨ty, hty⟩ : ∃ ty, ty = tx.set j t1 := ⟨_, rfl⟩
  rw [← hty] at C6
  have hyl : ty.length = tx.length := by rw [hty, List.length_set]
  have HYL := Lib.hid hyl
  clear hty hyl C5 HW5 HB5 hz5 c5 f5 ht1 v0 v1 v2 v3 v4 v5 hjj hjI hj0 s0 s1
  have HB6 := Lib.hid (HB4.out.trans (HW6.out.mono HB4.out.size))
  have V6 := Lib.hid (V4.out.keep HW6.out)
  have Q6 := Lib.hid (Q4.out.keep HW6.out)
  have hz34 : w3.heap.size < w4.heap.size := V4.out.lt
  have hz36 : w3.heap.size < w6.heap.size := by omega
  have HW36 := Lib.hid (HW4.out.trans (HW6.out.mono (Nat.le_of_lt hz34)))
  obtain ⟨v0, v1, v2, v3, v4, v5⟩ := relC V6.out
  rw [hA3] at v5
  have L7 := Lib.hid (lit0_own (size := 2) (Blk.new w6 64 #[]) (Nat.le_refl w6.heap.size))
  have HS7 := Lib.hid (show Src (w6.alloc (.cells #[] 64)) 2 (some ⟨b3, o3, none⟩) r.s.length (r.s.flatMap encT) from by
    have h := (HKi.out.ok.hS.below (HW36.out.alloc (Nat.le_of_lt hz36) (.cells #[] 64))).src encT_len
    rw [hA3] at h
    exact h)
  have hsl : r.s.length ≤ 1000 := HSi.out.1
  have b0 : 0 + r.s.length ≤ maxLen := by unfold maxLen; omega
  have b1 : (0 + r.s.length) * 32 ≤ 140737488355328 := by omega
  go_upto_region 13 with (at_builtin; refine wpList_own2 rfl (.tmp 92) (.tmp 94) rfl w6.heap.size elSrc (.slice (some ⟨w6.heap.size, 0, none⟩) 0 0) 0 _ rfl L7.out _ r.s.length _ _ rfl HS7.out hspos (encT_one _) b0 b1 (by simp) ?_; intro A8 c8 w8 hown8 _ hb8 _; have HO8 := Lib.hid hown8; have HX8 := Lib.hid (((Below.refl w6.heap.size w6).alloc (Nat.le_refl _) _).trans hb8); clear hown8 hb8)
  simp only [Nat.zero_add, List.nil_append] at HO8
  obtain ⟨g8, cap8, hA8, hg8, _⟩ := HO8.out.form hspos
  obtain ⟨rfl, rfl⟩ : A8 = some ⟨g8, 0, none⟩ ∧ c8 = cap8 := by injection hA8 with h1 _ h2; exact ⟨h1, h2⟩
  have HRS := Lib.hid (show r.s = (nm, tx) :: r.s.tail from (cons_of hspos).trans (by rw [HX0.out]))
  have c81 : w8.cell? ⟨g8, 1, none⟩ = some (.string ⟨tx.toArray⟩) := by
    have h := HO8.out.cellAt 1 (by omega)
    rw [HRS.out] at h
    simpa [encT] using h
  have f81 := HO8.out.frozenAt 1
  have kb : (convert 65 9 (.slice (some ⟨w4.heap.size, 0, none⟩) tx.length cp)).run Tryz.prog w8 = .ok (.string ⟨ty.toArray⟩) w8 := by
    have h := run_convert_bytes_back (P := Tryz.prog) w8 65 9 5 ⟨w4.heap.size, 0, none⟩ cp ty Tryz.underlying65 Tryz.underlying5 Tryz.underlying9 (fun k hk => by rw [Addr.add_lit, Nat.zero_add]; exact cell_keep HX8.out (C6.out k hk))
    rw [HYL.out] at h
    exact h
  clear hA8 HS7 L7 b0 b1
  go_upto_region 14 with fail
  have HS9 := Lib.hid (show Sl (w8.setCell ⟨g8, 1, none⟩ (.string ⟨ty.toArray⟩)) (w8.setCell ⟨g8, 1, none⟩ (.string ⟨ty.toArray⟩)).heap.size 2 encT (some ⟨g8, 0, none⟩) ((nm, ty) :: r.s.tail) from by
    have h := (HO8.out.stored 1 (.string ⟨ty.toArray⟩)).1
    rw [flatT_set HRS.out] at h
    exact Acc.slAny (.inl h) encT_len (by decide))
  have HW69 := Lib.hid (HX8.out.setCell (p := ⟨g8, 1, none⟩) hg8 (.string ⟨ty.toArray⟩))
  generalize w8.setCell ⟨g8, 1, none⟩ (.string ⟨ty.toArray⟩) = w9 at HS9 HW69 ⊢
  clear c81 f81 kb v0 v1 v2 v3 v4 v5
  have HB9 := Lib.hid (HB6.out.trans (HW69.out.mono HB6.out.size))
  have V9 := Lib.hid (V6.out.keep HW69.out)
  have Q9 := Lib.hid (Q6.out.keep HW69.out)
  have HW39 := Lib.hid (HW36.out.trans (HW69.out.mono (Nat.le_of_lt hz36)))
  have hz39 : w3.heap.size ≤ w9.heap.size := HW39.out.size
  have L10 := Lib.hid (lit0_own (size := 6) (Blk.new w9 62 #[]) (Nat.le_refl w9.heap.size))
  have HS10 := Lib.hid ((HS3.out.below (HW39.out.alloc hz39 (.cells #[] 62))).src encR_len)
  have hkl : K2.length ≤ 10 := HKl.out
  have hKpos : 0 < K2.length := by omega
  have b0 : 0 + K2.length ≤ maxLen := by unfold maxLen; omega
  have b1 : (0 + K2.length) * 88 ≤ 140737488355328 := by omega
  go_upto_region 15 with (at_builtin; refine wpList_own2 rfl (.tmp 101) (.tmp 102) rfl w9.heap.size elRels (.slice (some ⟨w9.heap.size, 0, none⟩) 0 0) 0 _ rfl L10.out _ K2.length _ _ rfl HS10.out hKpos (encR_one9 _) b0 b1 (by simp) ?_; intro A10 c10 w10 hown10 _ hb10 _; have HO10 := Lib.hid hown10; have HX10 := Lib.hid (((Below.refl w9.heap.size w9).alloc (Nat.le_refl _) _).trans hb10); clear hown10 hb10)
  simp only [Nat.zero_add, List.nil_append] at HO10
  obtain ⟨g10, cap10, hA10, hg10, _⟩ := HO10.out.form hKpos
  obtain ⟨rfl, rfl⟩ : A10 = some ⟨g10, 0, none⟩ ∧ c10 = cap10 := by injection hA10 with h1 _ h2; exact ⟨h1, h2⟩
  have HSl10 := Lib.hid (show Sl w10 w10.heap.size 6 encR (some ⟨g10, 0, none⟩) K2 from Acc.slAny (.inl HO10.out) encR_len (by decide))
  obtain ⟨b4, o4, hA4, _, _, _, _, _, _, g105⟩ := HSl10.out.rel hil
  obtain ⟨rfl, rfl⟩ : g10 = b4 ∧ 0 = o4 := by injection hA4 with h; injection h with h1 h2; exact ⟨h1, h2⟩
  rw [Nat.zero_add, ← HR.out] at g105
  have f105 := HO10.out.frozenAt (i * 6 + 5)
  clear hA10 hA4 HS10 L10 b0 b1
  go_upto_region 16 with fail
  have hlen9 : ((nm, ty) :: r.s.tail).length = r.s.length := by simp; omega
  obtain ⟨r', hr'⟩ : ∃ r' : RelA, r' = ⟨r.m, r.A, r.c, r.l, some ⟨g8, 0, none⟩, c8, (nm, ty) :: r.s.tail⟩ := ⟨_, rfl⟩
  have HS11 := Lib.hid (show Sl (w10.setCell ⟨g10, i * 6 + 5, none⟩ (.slice (some ⟨g8, 0, none⟩) r.s.length c8)) (w10.setCell ⟨g10, i * 6 + 5, none⟩ (.slice (some ⟨g8, 0, none⟩) r.s.length c8)).heap.size 6 encR (some ⟨g10, 0, none⟩) (K2.set i r') from by
    have h := Sl.setAt HSl10.out hil r' (.slice (some ⟨g8, 0, none⟩) r.s.length c8) _ (j0 := 5) (by decide) encR_len (by rw [← HR.out, hr', ← hlen9]; rfl) (by rw [Nat.zero_add]; exact g105)
    rw [Nat.zero_add] at h
    exact h.more (by simp [World.setCell]))
  have HW11 := Lib.hid (HX10.out.setCell (p := ⟨g10, i * 6 + 5, none⟩) hg10 (.slice (some ⟨g8, 0, none⟩) r.s.length c8))
  generalize w10.setCell ⟨g10, i * 6 + 5, none⟩ (.slice (some ⟨g8, 0, none⟩) r.s.length c8) = w11 at HS11 HW11 ⊢
  clear g105 f105
  have HB11 := Lib.hid (HB9.out.trans (HW11.out.mono HB9.out.size))
  have V11 := Lib.hid (V9.out.keep HW11.out)
  have Q11 := Lib.hid (Q9.out.keep HW11.out)
  have HW311 := Lib.hid (HW39.out.trans (HW11.out.mono hz39))
  have HKr := Lib.hid (HKi.out.below HW311.out)
  have HSx := Lib.hid (show ∀ x ∈ (nm, ty) :: r.s.tail, x.1.length ≤ 1048576 ∧ x.2.length ≤ 1048576 from fun x hx => by
    have hall := HSi.out.2
    have h0 := hall (nm, tx) (by show (nm, tx) ∈ r.s; rw [HRS.out]; simp)
    rcases List.mem_cons.1 hx with rfl | hx
    · exact ⟨h0.1, by show ty.length ≤ _; rw [HYL.out]; exact h0.2⟩
    · exact hall x (by show x ∈ r.s; rw [HRS.out]; exact List.mem_cons_of_mem _ hx))
  have HKr' := Lib.hid (show RelS w11 r' from by
    rw [hr']
    exact ⟨⟨HKr.out.ok.hA, (HS9.out.below HW11.out).more HW11.out.size, HKr.out.ok.hl, by show ((nm, ty) :: r.s.tail).length ≤ _; rw [hlen9]; omega, HKr.out.ok.hm, fun x hx => ⟨Nat.le_trans (HSx.out x hx).1 (by decide), Nat.le_trans (HSx.out x hx).2 (by unfold maxLen; decide)⟩⟩, HKr.out.n, HKr.out.b⟩)
  have HRB := Lib.hid (show RelB w11 r from ⟨HKr.out.ok, by omega, fun x hx => (HSi.out.2 x hx).1⟩)
  have HRB' := Lib.hid (show RelB w11 r' from ⟨HKr'.out.ok, by rw [hr']; show ((nm, ty) :: r.s.tail).length ≤ _; rw [hlen9]; omega, fun x hx => (HSx.out x (by rw [hr'] at hx; exact hx)).1⟩)
  have HNM := Lib.hid (show r'.m = r.m ∧ r'.l = r.l ∧ r'.s.map (·.1) = r.s.map (·.1) from by
    rw [hr']
    refine ⟨rfl, rfl, ?_⟩
    rw [show r.s.map (·.1) = ((nm, tx) :: r.s.tail).map (·.1) from by rw [← HRS.out]]
    rfl)
  have HR' := Lib.hid hr'
  clear hr' hlen9 hA3
  obtain ⟨v0, v1, v2, v3, v4, v5⟩ := relC V11.out
  have cA := Lib.hid (refRel_any r w11 HRB.out)
  go_wp2_with fail
  refine cA.out.mono ?_
  rintro e w12 ⟨rfl, hb12⟩
  have HX12 := Lib.hid hb12
  clear hb12 v0 v1 v2 v3 v4 v5 cA
  have HS12 := Lib.hid ((HS11.out.below HX12.out).more HX12.out.size)
  have cB := Lib.hid (refRel_any r' w12 (HRB'.out.below HX12.out))
  obtain ⟨b5, o5, hA5, _, m0, m1, m2, m3, m4, m5⟩ := HS12.out.rel (i := i) (by rw [List.length_set]; exact hil)
  obtain ⟨rfl, rfl⟩ : g10 = b5 ∧ 0 = o5 := by injection hA5 with h; injection h with h1 h2; exact ⟨h1, h2⟩
  simp only [List.getElem_set_self, Nat.zero_add] at m0 m1 m2 m3 m4 m5
  clear hA5
  go_wp2_with fail
  refine cB.out.mono ?_
  rintro e w13 ⟨rfl, hb13⟩
  have HX13 := Lib.hid (HX12.out.trans (hb13.mono HX12.out.size))
  clear hb13 m0 m1 m2 m3 m4 m5 cB HS12
  have HB13 := Lib.hid (HB11.out.trans (HX13.out.mono HB11.out.size))
  have Q13 := Lib.hid (Q11.out.keep HX13.out)
  have V13 := Lib.hid (V11.out.keep HX13.out)
  have HS13 := Lib.hid ((HS11.out.below HX13.out).more HX13.out.size)
  have HDN := Lib.hid (fun (h : ¬ rtext r.rel = rtext r'.rel) => show verifyP rm.1 l0 ((K2.set i r').map RelA.rel) s = [(r.m.1, 17)] ∧ rdiffP ((K2.set i r').map RelA.rel) (unlockP s).1 = [(r.m.1, 17)] from by
    obtain ⟨P1, Q1, e1, e2⟩ := split_set K2 i hil r'
    have h3 := HCH.out (P1.map RelA.rel) (Q1.map RelA.rel) r.rel r'.rel (by rw [← HM2.out, HR.out]; exact (congrArg (List.map RelA.rel) e1).trans (by simp)) HNM.out.1 HNM.out.2.1 HNM.out.2.2 (fun h' => h h'.symm)
    rw [e2]
    simp only [List.map_append, List.map_cons]
    exact h3)
  generalize rtext r.rel = d1 at HDN ⊢
  generalize rtext r'.rel = d2 at HDN ⊢
  by_cases hdd : d1 = d2
  · have hdt : decide (d1 = d2) = true := decide_eq_true hdd
    have hdb : (d1 == d2) = true := by rw [beq_iff_eq]; exact hdd
    go_wp2_with fail
    refine (cX.out _ HB13.out).mono ?_
    rintro e wz ⟨rfl, hbz⟩
    have HBz := Lib.hid (HB13.out.trans (hbz.mono HB13.out.size))
    clear hbz cX
    go_wp2
    go_ret
    exact ⟨rfl, HBz.out⟩
  have hdt : decide (d1 = d2) = false := decide_eq_false hdd
  have hdb : (d1 == d2) = false := beq_eq_false_iff_ne.2 hdd
  obtain ⟨hv, hrd⟩ := HDN.out hdd
  have cV13 := Lib.hid (cV.out HP1.out w13 HB13.out (some ⟨g10, 0, none⟩) c10 (K2.set i r') s HS13.out (fun q hq => by
    rcases List.mem_or_eq_of_mem_set hq with hq | rfl
    · exact ((HK3.out q hq).below (HW311.out.trans (HX13.out.mono HW311.out.size))).relM
    · exact (HKr'.out.below HX13.out).relM) (by rw [List.length_set]; omega) HSL.out (by rw [hrd]; show 1 ≤ sortCap; decide) (fun h => by rw [hrd] at h; cases h))
  rw [hv, List.length_set] at cV13
  unfold RetI at cV13
  obtain ⟨y0, y1, y2, y3, y4⟩ := manC Q13.out
  clear hv hrd HDN hdd
  go_wp2_with fail
  refine cV13.out.mono ?_
  rintro e w14 ⟨A14, c14, rfl, _, hS14, hb14⟩
  have HB14 := Lib.hid (HB13.out.trans (hb14.mono HB13.out.size))
  have V14 := Lib.hid (V13.out.keep hb14)
  obtain ⟨b6, o6, rfl, hbb6, z0, z1⟩ := hS14.iss (i := 0) (by simp)
  simp only [List.getElem_cons_zero, Nat.zero_mul, Nat.add_zero] at z0 z1
  have v0 := (relC V14.out).1
  have hz3 : w3.heap.size < w14.heap.size := V14.out.lt
  clear hb14 y0 y1 y2 y3 y4 cV13 hS14
  have h1l : ([(r.m.1, (17 : Int))] : List Iss).length = 1 := rfl
  go_upto_region 21 with fail
  apply wp_region_facts (by kernel_rfl) [isv _, isv _, isv _, isv _, isv _, isv _, isv _, isv _, isv _, isv _, isv _, isv _, isv _, isv _, isv _, isv _, isv _, isv _, isv _, isv _, isv _, isv _, isv _, isv _, isv _] w14.heap.size w14 (Nat.le_refl _) (Below.refl _ _).drew (by kernel_rfl) (by kernel_rfl) (by kernel_rfl) (And.intro (isv_mono _) (And.intro (isv_mono _) (And.intro (isv_mono _) (And.intro (isv_mono _) (And.intro (isv_mono _) (And.intro (isv_mono _) (And.intro (isv_mono _) (And.intro (isv_mono _) (And.intro (isv_mono _) (And.intro (isv_mono _) (And.intro (isv_mono _) (And.intro (isv_mono _) (And.intro (isv_mono _) (And.intro (isv_mono _) (And.intro (isv_mono _) (And.intro (isv_mono _) (And.intro (isv_mono _) (And.intro (isv_mono _) (And.intro (isv_mono _) (And.intro (isv_mono _) (And.intro (isv_mono _) (And.intro (isv_mono _) (And.intro (isv_mono _) (And.intro (isv_mono _) (And.intro (isv_mono _) trivial))))))))))))))))))))))))) ?steps (by rfl) ?fin
  case steps =>
    refine (And.intro ?o0 (And.intro ?o1 (And.intro ?o2 (And.intro ?o3 (And.intro ?o4 (And.intro ?o5 (And.intro ?o6 (And.intro ?o7 (And.intro ?o8 (And.intro ?o9 (And.intro ?o10 (And.intro ?o11 (And.intro ?o12 (And.intro ?o13 (And.intro ?o14 (And.intro ?o15 (And.intro ?o16 (And.intro ?o17 (And.intro ?o18 (And.intro ?o19 (And.intro ?o20 (And.intro ?o21 (And.intro ?o22 (And.intro ?o23 (And.intro ?o24 trivial)))))))))))))))))))))))))
    case o0 =>
      intro AA W KK QQ hB hs hd hl hk
      have sl19 := hs 19 _ (by kernel_rfl) rfl
      clear hs hd hl
      go_simp
      exact hk _ _ rfl (Below.refl _ _)
    case o1 =>
      intro AA W KK QQ hB hs hd hl hk
      obtain ⟨_, sl136, rfl⟩ := hd 0 136 (by kernel_rfl) rfl
      clear hs hd hl
      go_simp
      exact hk _ _ rfl (Below.refl _ _)
    case o2 =>
      intro AA W KK QQ hB hs hd hl hk
      obtain ⟨_, sl137, rfl⟩ := hd 1 137 (by kernel_rfl) rfl
      clear hs hd hl
      go_simp
      exact hk _ _ rfl (Below.refl _ _)
    case o3 =>
      intro AA W KK QQ hB hs hd hl hk
      obtain ⟨_, sl138, rfl⟩ := hd 2 138 (by kernel_rfl) rfl
      clear hs hd hl
      go_simp
      exact hk _ _ rfl (Below.refl _ _)
    case o4 =>
      intro AA W KK QQ hB hs hd hl hk
      have sl19 := hs 19 _ (by kernel_rfl) rfl
      obtain ⟨_, sl139, rfl⟩ := hd 3 139 (by kernel_rfl) rfl
      clear hs hd hl
      refine ⟨_, _, rfl, sl139, ?_⟩
      first
        | (change Oper.wp _ _ _ _ _ _; go_simp; exact hk _ _ rfl (Below.refl _ _))
        | exact rfl
    case o5 =>
      intro AA W KK QQ hB hs hd hl hk
      obtain ⟨_, sl139, rfl⟩ := hd 3 139 (by kernel_rfl) rfl
      obtain ⟨_, sl140, rfl⟩ := hd 4 140 (by kernel_rfl) rfl
      clear hs hd hl
      refine ⟨_, _, rfl, sl139, ?_⟩
      first
        | (change Oper.wp _ _ _ _ _ _; go_simp; exact hk _ _ rfl (Below.refl _ _))
        | exact rfl
    case o6 =>
      intro AA W KK QQ hB hs hd hl hk
      obtain ⟨_, sl139, rfl⟩ := hd 3 139 (by kernel_rfl) rfl
      obtain ⟨_, sl141, rfl⟩ := hd 5 141 (by kernel_rfl) rfl
      clear hs hd hl
      refine ⟨_, _, rfl, sl139, ?_⟩
      first
        | (change Oper.wp _ _ _ _ _ _; go_simp; exact hk _ _ rfl (Below.refl _ _))
        | exact rfl
    case o7 =>
      intro AA W KK QQ hB hs hd hl hk
      obtain ⟨_, sl139, rfl⟩ := hd 3 139 (by kernel_rfl) rfl
      obtain ⟨_, sl142, rfl⟩ := hd 6 142 (by kernel_rfl) rfl
      clear hs hd hl
      have hx0 := hB.cell (p := ⟨b6, o6, none⟩) hbb6
      rw [z0] at hx0
      refine ⟨_, _, rfl, sl139, ?_⟩
      first
        | (change Oper.wp _ _ _ _ _ _; go_simp; exact hk _ _ rfl (Below.refl _ _))
        | exact rfl
    case o8 =>
      intro AA W KK QQ hB hs hd hl hk
      have sl11 := hs 11 _ (by kernel_rfl) rfl
      obtain ⟨_, sl139, rfl⟩ := hd 3 139 (by kernel_rfl) rfl
      clear hs hd hl
      refine ⟨_, _, rfl, sl139, ?_⟩
      first
        | (change Oper.wp _ _ _ _ _ _; go_simp; exact hk _ _ rfl (Below.refl _ _))
        | exact rfl
    case o9 =>
      intro AA W KK QQ hB hs hd hl hk
      obtain ⟨_, sl139, rfl⟩ := hd 3 139 (by kernel_rfl) rfl
      obtain ⟨_, sl144, rfl⟩ := hd 8 144 (by kernel_rfl) rfl
      clear hs hd hl
      refine ⟨_, _, rfl, sl139, ?_⟩
      first
        | (change Oper.wp _ _ _ _ _ _; go_simp; exact hk _ _ rfl (Below.refl _ _))
        | exact rfl
    case o10 =>
      intro AA W KK QQ hB hs hd hl hk
      obtain ⟨_, sl139, rfl⟩ := hd 3 139 (by kernel_rfl) rfl
      obtain ⟨_, sl145, rfl⟩ := hd 9 145 (by kernel_rfl) rfl
      clear hs hd hl
      refine ⟨_, _, rfl, sl139, ?_⟩
      first
        | (change Oper.wp _ _ _ _ _ _; go_simp; exact hk _ _ rfl (Below.refl _ _))
        | exact rfl
    case o11 =>
      intro AA W KK QQ hB hs hd hl hk
      obtain ⟨_, sl139, rfl⟩ := hd 3 139 (by kernel_rfl) rfl
      obtain ⟨_, sl146, rfl⟩ := hd 10 146 (by kernel_rfl) rfl
      clear hs hd hl
      have hx0 := hB.cell (p := ⟨w3.heap.size, 0, none⟩) hz3
      rw [v0] at hx0
      refine ⟨_, _, rfl, sl139, ?_⟩
      first
        | (change Oper.wp _ _ _ _ _ _; go_simp; exact hk _ _ rfl (Below.refl _ _))
        | exact rfl
    case o12 =>
      intro AA W KK QQ hB hs hd hl hk
      obtain ⟨_, sl139, rfl⟩ := hd 3 139 (by kernel_rfl) rfl
      obtain ⟨_, sl143, rfl⟩ := hd 7 143 (by kernel_rfl) rfl
      obtain ⟨_, sl147, rfl⟩ := hd 11 147 (by kernel_rfl) rfl
      clear hs hd hl
      refine ⟨_, _, rfl, sl139, ?_⟩
      first
        | (change Oper.wp _ _ _ _ _ _; go_simp; exact hk _ _ rfl (Below.refl _ _))
        | exact rfl
    case o13 =>
      intro AA W KK QQ hB hs hd hl hk
      obtain ⟨_, sl139, rfl⟩ := hd 3 139 (by kernel_rfl) rfl
      obtain ⟨_, sl148, rfl⟩ := hd 12 148 (by kernel_rfl) rfl
      clear hs hd hl
      go_simp
      exact hk _ _ rfl (Below.refl _ _)
    case o14 =>
      intro AA W KK QQ hB hs hd hl hk
      obtain ⟨_, sl149, rfl⟩ := hd 13 149 (by kernel_rfl) rfl
      clear hs hd hl
      go_simp
      exact hk _ _ rfl (Below.refl _ _)
    case o15 =>
      intro AA W KK QQ hB hs hd hl hk
      have sl19 := hs 19 _ (by kernel_rfl) rfl
      obtain ⟨_, sl150, rfl⟩ := hd 14 150 (by kernel_rfl) rfl
      clear hs hd hl
      refine ⟨_, _, rfl, sl150, ?_⟩
      first
        | (change Oper.wp _ _ _ _ _ _; go_simp; exact hk _ _ rfl (Below.refl _ _))
        | exact rfl
    case o16 =>
      intro AA W KK QQ hB hs hd hl hk
      obtain ⟨_, sl150, rfl⟩ := hd 14 150 (by kernel_rfl) rfl
      obtain ⟨_, sl151, rfl⟩ := hd 15 151 (by kernel_rfl) rfl
      clear hs hd hl
      refine ⟨_, _, rfl, sl150, ?_⟩
      first
        | (change Oper.wp _ _ _ _ _ _; go_simp; exact hk _ _ rfl (Below.refl _ _))
        | exact rfl
    case o17 =>
      intro AA W KK QQ hB hs hd hl hk
      obtain ⟨_, sl150, rfl⟩ := hd 14 150 (by kernel_rfl) rfl
      obtain ⟨_, sl152, rfl⟩ := hd 16 152 (by kernel_rfl) rfl
      clear hs hd hl
      refine ⟨_, _, rfl, sl150, ?_⟩
      first
        | (change Oper.wp _ _ _ _ _ _; go_simp; exact hk _ _ rfl (Below.refl _ _))
        | exact rfl
    case o18 =>
      intro AA W KK QQ hB hs hd hl hk
      obtain ⟨_, sl150, rfl⟩ := hd 14 150 (by kernel_rfl) rfl
      obtain ⟨_, sl153, rfl⟩ := hd 17 153 (by kernel_rfl) rfl
      clear hs hd hl
      have hx0 := hB.cell (p := ⟨b6, o6 + 1, none⟩) hbb6
      rw [z1] at hx0
      refine ⟨_, _, rfl, sl150, ?_⟩
      first
        | (change Oper.wp _ _ _ _ _ _; go_simp; exact hk _ _ rfl (Below.refl _ _))
        | exact rfl
    case o19 =>
      intro AA W KK QQ hB hs hd hl hk
      obtain ⟨_, sl150, rfl⟩ := hd 14 150 (by kernel_rfl) rfl
      obtain ⟨_, sl154, rfl⟩ := hd 18 154 (by kernel_rfl) rfl
      clear hs hd hl
      refine ⟨_, _, rfl, sl150, ?_⟩
      first
        | (change Oper.wp _ _ _ _ _ _; go_simp; exact hk _ _ rfl (Below.refl _ _))
        | exact rfl
    case o20 =>
      intro AA W KK QQ hB hs hd hl hk
      obtain ⟨_, sl150, rfl⟩ := hd 14 150 (by kernel_rfl) rfl
      obtain ⟨_, sl155, rfl⟩ := hd 19 155 (by kernel_rfl) rfl
      clear hs hd hl
      go_simp
      exact hk _ _ rfl (Below.refl _ _)
    case o21 =>
      intro AA W KK QQ hB hs hd hl hk
      obtain ⟨_, sl156, rfl⟩ := hd 20 156 (by kernel_rfl) rfl
      clear hs hd hl
      go_simp
      exact hk _ _ rfl (Below.refl _ _)
    case o22 =>
      intro AA W KK QQ hB hs hd hl hk
      obtain ⟨_, sl157, rfl⟩ := hd 21 157 (by kernel_rfl) rfl
      clear hs hd hl
      refine ⟨_, _, rfl, sl157, ?_⟩
      change Oper.wp _ _ _ _ _ _
      go_simp
      refine (cX.out W (HB14.out.trans (hB.mono HB14.out.size))).mono ?_
      rintro e W2 ⟨rfl, hb2⟩
      exact hk _ _ rfl hb2
    case o23 =>
      intro AA W KK QQ hB hs hd hl hk
      obtain ⟨_, sl157, rfl⟩ := hd 21 157 (by kernel_rfl) rfl
      obtain ⟨_, sl158, rfl⟩ := hd 22 158 (by kernel_rfl) rfl
      clear hs hd hl
      go_simp
      exact hk _ _ rfl (Below.refl _ _)
    case o24 =>
      intro AA W KK QQ hB hs hd hl hk
      obtain ⟨_, sl159, rfl⟩ := hd 23 159 (by kernel_rfl) rfl
      clear hs hd hl
      go_simp
      exact hk _ _ rfl (Below.refl _ _)
  case fin =>
    intro wf hB
    refine fin_isv 136 rfl ?_
    refine fin_isv 137 rfl ?_
    refine fin_isv 138 rfl ?_
    refine fin_isv 139 rfl ?_
    refine fin_isv 140 rfl ?_
    refine fin_isv 141 rfl ?_
    refine fin_isv 142 rfl ?_
    refine fin_isv 143 rfl ?_
    refine fin_isv 144 rfl ?_
    refine fin_isv 145 rfl ?_
    refine fin_isv 146 rfl ?_
    refine fin_isv 147 rfl ?_
    refine fin_isv 148 rfl ?_
    refine fin_isv 149 rfl ?_
    refine fin_isv 150 rfl ?_
    refine fin_isv 151 rfl ?_
    refine fin_isv 152 rfl ?_
    refine fin_isv 153 rfl ?_
    refine fin_isv 154 rfl ?_
    refine fin_isv 155 rfl ?_
    refine fin_isv 156 rfl ?_
    refine fin_isv 157 rfl ?_
    refine fin_isv 158 rfl ?_
    refine fin_isv 159 rfl ?_
    refine fin_isv 6 rfl ?_
    refine frame160_09d979afc9 _ _ _ _ _ _ _ _ _ _ _ _ _ _ _ _ _ _ _ _ _ _ _ _ _ _ _ _ _ _ _ _ _ _ _ _ _ _ _ _ _ _ _ _ _ _ _ _ _ _ _ _ _ _ _ _ _ _ _ _ _ _ _ _ _ _ _ _ _ _ _ _ _ _ _ _ _ _ _ _ _ _ _ _ _ _ _ _ _ _ _ _ _ _ _ _ _ _ _ _ _ _ _ _ _ _ _ _ _ _ _ _ _ _ _ _ _ _ _ _ _ _ _ _ _ _ _ _ _ _ _ _ _ _ _ _ _ _ _ _ _ _ _ _ _ _ _ _ _ _ _ _ _ _ _ _ _ _ _ _ _ _ _ _ _ _ _ _ _ _ _ _ _ _ _ _ _ _ _ _ _ _ _ _ _ ?_
    have HBz9 := Lib.hid (HB14.out.trans (hB.mono HB14.out.size))
    go_wp2
    go_ret
    exact ⟨rfl, HBz9.out⟩

set_option maxRecDepth 100000 in
theorem contract (H : Type) (enc : TypeId × Value → H) (W : World) (base : Nat) (args : Array Value) (ds gs : List (DataW H)) (before : List MemPlace)
    (hval : ∀ (j : Nat) t v, Tryz.f9.params[j]? = some t → args[j]? = some v → Value.okWide Tryz.prog W .any base t v)
    (hW : DataW.Whole enc Tryz.prog Tryz.f9.params.toList Rows.vendorChangedSpec.vars false W args.toList ds gs before) (hk : Rows.uptoSmall H (ds ++ gs) = true) (hG : Glob W) :
    Calls Tryz.prog 9 args W fun e W' => ∃ v, e = .returned v ∧ Rows.vendorChangedSpec.post enc Tryz.prog Tryz.f9 false true false false W args v W' := by
  have hW' := hW
  obtain ⟨p, q, hA0, hV, rfl, hfz, hnd⟩ := hW
  have hA : DataW.TrodAll enc Tryz.prog W 0 (fun _ => true) true Tryz.f9.params.toList args.toList ds p := hA0
  rw [Tryz.params9] at hA hval
  obtain ⟨v0, vs0, d0, ds0, p0, q0, hargs, rfl, rfl, h0, r0⟩ := trodAll_cons hA
  obtain ⟨v1, vs1, d1, ds1, p1, q1, rfl, rfl, rfl, h1, r1⟩ := trodAll_cons r0
  obtain ⟨v2, vs2, d2, ds2, p2, q2, rfl, rfl, rfl, h2, r2⟩ := trodAll_cons r1
  obtain ⟨rfl, rfl, rfl⟩ := trodAll_nil r2
  obtain rfl : args = #[v0, v1, v2] := by cases args; simp_all
  obtain ⟨rfl, rfl⟩ := trodVars_none hV
  obtain ⟨A0, c0, L0, rfl, hS0, hO0, _, hN0⟩ := open_sl Tryz.underlying22 (opens_releases W 1048576 (by decide)) (hval 0 22 v0 rfl rfl) h0 (by have := bulk_of hk; simp only [List.append_nil, Rows.uptoBulkAll] at this; omega)
  have hl0 : L0.length ≤ 1099511627776 := by omega
  obtain ⟨r1x, rfl, hO1⟩ := open_st Tryz.underlying29 (opens_manifest W 1048576) (hval 1 29 v1 rfl rfl) h1 (by have := bulk_of hk; simp only [List.append_nil, Rows.uptoBulkAll] at this; omega)
  obtain ⟨a2, rfl, rfl, rfl, w2⟩ := open_int Tryz.underlying3 (hval 2 3 v2 rfl rfl) h2
  have hl2 : True := trivial
  clear hA0
  have hw := walk A0 c0 L0 r1x a2 W hS0 hO0 hl0 hO1 hl2 hG
  refine hw.mono fun e W' ⟨he, hb⟩ => ?_
  subst he
  exact ⟨_, rfl, law_post hW' rfl (by kernel_rfl) (by kernel_rfl) rfl rfl rfl hb⟩

set_option maxRecDepth 100000 in
theorem reads (os : Os) {H : Type} (enc : TypeId × Value → H) : ∃ places, DataW.whole enc Tryz.prog ((laidWorld os).forCall (fun _ _ => 0) ⟨#[], #[.slice none 0 0, .agg #[.string ByteArray.empty, .int .i64 0, .int .i64 0, .int .i64 0, .slice none 0 0], .int .i64 0], []⟩).memory Tryz.f9.params.toList Rows.vendorChangedSpec.vars false (#[.slice none 0 0, .agg #[.string ByteArray.empty, .int .i64 0, .int .i64 0, .int .i64 0, .slice none 0 0], .int .i64 0] : Array Value).toList 8 = some ([.nil, .agg [.agg [.lit (.string []), .agg [.lit (.int .i64 0), .lit (.int .i64 0), .lit (.int .i64 0)]], .nil], .lit (.int .i64 0)], [], places) :=
  ⟨[], by kernel_rfl⟩

set_option maxRecDepth 100000 in
theorem lifted (os : Os) (started : os.Started) (H : Type) (enc : TypeId × Value → H) (F : Stop.Interp) :
    ReturnsInHanded {} Tryz.checked os 9 .any ((Rows.OpenSpec.upto Rows.vendorChangedSpec).preRow enc Tryz.prog Tryz.f9 Rows.vendorChangedUptoRow.domain false Rows.vendorChangedUptoRow.laid) (((Rows.OpenSpec.upto Rows.vendorChangedSpec).at F).post enc Tryz.prog Tryz.f9 false true false false) := by
  obtain ⟨places, hx⟩ := reads os enc
  refine returnsInHanded_of_row (C := Tryz.checked) (s := Rows.OpenSpec.upto Rows.vendorChangedSpec) own started (by kernel_rfl) Tryz.func9
    (witness_row_at (enc := enc) (C := Tryz.checked) false (laidWorld os) #[.slice none 0 0, .agg #[.string ByteArray.empty, .int .i64 0, .int .i64 0, .int .i64 0, .slice none 0 0], .int .i64 0] (World.laidAll_os _ _ _) (by kernel_rfl) (by kernel_rfl) (by kernel_rfl)
      (OpenSpec.preRow_of_cond 8 hx (by kernel_rfl) (fun k hk => by cases hk; kernel_rfl) (by kernel_rfl) (laid_met os _))) ?_
  intro W base args ds gs before hval hW _ hcond _ hL hsh _
  exact contract H enc W base args ds gs before hval hW (hcond _ rfl) (glob_of hL hsh)


set_option maxRecDepth 100000 in
theorem pf_inPlace : (Rows.vendorChangedUptoRow.inPlace == Tryz.pinned.checked.prog.inPlace 9) = true := by kernel_rfl
set_option maxRecDepth 100000 in
theorem pf_unf : (Rows.vendorChangedUptoRow.unfollowed == Tryz.pinned.checked.prog.unfollowed 9) = true := by kernel_rfl
set_option maxRecDepth 100000 in
theorem pf_rec : (Rows.vendorChangedUptoRow.recurses == Tryz.pinned.checked.prog.recurses 9) = true := by kernel_rfl
set_option maxRecDepth 100000 in
theorem pf_named : (Rows.vendorChangedUptoRow.named == Tryz.pinned.checked.prog.varsNamed 9) = true := by kernel_rfl
set_option maxRecDepth 100000 in
theorem pf_closed : joinedFacts Tryz.pinned.checked.prog 9 Tryz.f9 (Rows.OpenSpec.upto Rows.vendorChangedSpec).bare Rows.vendorChangedUptoRow = true := by
  unfold joinedFacts
  exact (and2 (and2 (and2 (and2 (and2 (and2 (and2 (and2 (and2 (and2 (and2 (and2 (and2 (and2 (and2 (and2 (and2 (and2 (and2 (and2 (and2 (and2 (and2 (and2 (and2 (and2 (and2 (and2 (and2 (and2 (and2 (by kernel_rfl) pf_laid) pf_rowed) (by kernel_rfl)) (by kernel_rfl)) (by kernel_rfl)) (by kernel_rfl)) (by kernel_rfl)) (by kernel_rfl)) pf_inPlace) pf_unf) pf_rec) pf_named) (by kernel_rfl)) (by kernel_rfl)) (by kernel_rfl)) (by kernel_rfl)) (by kernel_rfl)) (by kernel_rfl)) (by kernel_rfl)) (by kernel_rfl)) (by kernel_rfl)) (by kernel_rfl)) (by kernel_rfl)) pf_heard) pf_enter) (pf_lifts Rows.vendorChangedUptoRow rfl)) (pf_make Rows.vendorChangedUptoRow rfl)) (by kernel_rfl)) (by kernel_rfl)) (by kernel_rfl)) (by kernel_rfl))

set_option maxRecDepth 100000 in
theorem said : Rows.VendorChangedUptoSaid :=
  OpenClaim.holds_of_cond 9 Tryz.f9 rfl rfl rfl rfl rfl rfl rfl ⟨rfl, rfl, rfl, rfl, rfl⟩ rfl rfl rfl rfl rfl (by kernel_rfl) Tryz.func9 pf_closed
    (of_decide_eq_true (by kernel_rfl)) (by unfold Func.isWrapper; first | (rw [if_pos (by decide +kernel)]; kernel_rfl) | (rw [if_neg (by decide +kernel)]; exact ⟨rfl, rfl⟩))
    (fun os started H enc _ F => by rw [OpenClaim.pre_eq_preRow]; exact lifted os started H enc F)

set_option maxRecDepth 100000 in
theorem plain (f : FuncId) (fn : Func) (hf : Tryz.pinned.checked.prog.funcNamed "configlang/configlanglaw48.VendorChanged" = some f) (hfn : Tryz.pinned.checked.prog.funcs[f]? = some fn) :
    true = Tryz.pinned.checked.prog.looks [] ∧ ∀ (j : Nat) t, fn.params[j]? = some t → Tryz.pinned.checked.prog.wantsStandIn t = false := by
  obtain rfl : f = 9 := Option.some.inj ((show Tryz.prog.funcNamed "configlang/configlanglaw48.VendorChanged" = some 9 by kernel_rfl).symm.trans hf) |>.symm
  obtain rfl : fn = Tryz.f9 := (Option.some.inj (Tryz.func9.symm.trans hfn)).symm
  refine ⟨by kernel_rfl, fun j t ht => ?_⟩
  rw [Tryz.params9] at ht
  have hm : t = 22 ∨ t = 29 ∨ t = 3 := by simpa using Array.mem_of_getElem? ht
  rcases hm with rfl | rfl | rfl
  · exact (show Tryz.prog.wantsStandIn 22 = false by kernel_rfl)
  · exact (show Tryz.prog.wantsStandIn 29 = false by kernel_rfl)
  · exact (show Tryz.prog.wantsStandIn 3 = false by kernel_rfl)

set_option maxRecDepth 100000 in
theorem card : Rows.VendorChangedUptoCardSaid :=
  Claim7.holds_tied_plain_at .later [] _ _ _ _ said (fun _ h => by cases h) (by kernel_rfl) (fun _ h => by cases h) vendorChangedUpto_row_tie rfl ⟨rfl, rfl⟩ (by kernel_rfl) rfl plain (by kernel_rfl)
end Go.Proofs.YthcgihgajdjfoaaGreatDoor.lawChanged
