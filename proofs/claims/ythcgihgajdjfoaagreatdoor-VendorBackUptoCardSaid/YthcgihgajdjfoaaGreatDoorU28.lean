/- What the claim needs of: WR5. -/
import Derived.Test.YthcgihgajdjfoaaGreatDoorU27
namespace Go.Proofs.YthcgihgajdjfoaaGreatDoor
open Go.RowKit Go.Sort
section
variable {P : Program}
theorem wp_app1 {o : Oper} {a : Act} {w : World} {K : Act → World → Prop} {Q : Exit → Act → World → Prop} (d s : Operand) (t t' : TypeId)
    (ho : o.op = .call { callee := .builtin .append, args := #[d, s], argTypes := #[t, t'] }) (v u : Value) (hd : a.eval d = v) (hs : a.eval s = u) {v' : Value} {w' : World}
    (hr : (Builtin.append_ #[t, t'] o.type #[v, u]).run P w = .ok v' w') (h : K (a.put o.dst v') w') : o.wp P a w K Q := by
  unfold Oper.wp execOp
  simp only [ho, resolve, invoke, builtin, Sem.run_bind, Sem.run_pure, Result.andThen_ok, List.map_toArray, List.map_cons, List.map_nil, hd, hs, hr]
  exact h
end
theorem lit_own {W : World} {g base : Nat} {m : Mod} (h : Blk W g 26 (modA m)) (hb : base ≤ g) : W.ownsRow base 26 4 (.slice (some ⟨g, 0, none⟩) 1 1) 1 (encM m) :=
  ⟨rfl, .inr ⟨g, 1, modA m, rfl, hb, h, Nat.le_refl _, by decide, rfl, rfl⟩⟩
theorem lit_app {W : World} {g z n c : Nat} {m : Mod} {A : Option Addr} {l : List Mod} (h : Blk W g 26 (modA m)) (hg : z ≤ g) (hz : z ≤ W.heap.size) (hS : Sl W W.heap.size 4 encM A l) (hn : n = l.length) (hl : n ≤ 1000000) :
    ∃ A7 c7 W2, (Builtin.append_ #[27, 27] 27 #[.slice (some ⟨g, 0, none⟩) 1 1, .slice A n c]).run Tryz.prog W = .ok (.slice A7 (n + 1) c7) W2 ∧ n + 1 ≤ c7 ∧ Sl W2 W2.heap.size 4 encM A7 (m :: l) ∧ Below z W W2 := by
  subst hn
  obtain ⟨v', W2, hr, h2, h3, h4⟩ := run_own1 W elMod z 27 _ 1 _ (lit_own h hg) A l.length c (l.flatMap encM) (hS.src encM_len) (encM_one l) (by unfold maxLen; omega) (by omega) hz
  obtain ⟨A7, c7, rfl⟩ := Acc.shape (.inl h2)
  rw [Nat.add_comm 1] at h2 hr
  have hA : Acc W2 z 26 4 (.slice A7 (l.length + 1) c7) (l.length + 1) ((m :: l).flatMap encM) := .inl h2
  exact ⟨A7, c7, W2, hr, hA.cap, hA.slAny encM_len (by decide), h4⟩
theorem greatest_spec (p : List UInt8) : ∀ (l : List Mod), (greatestP l p = none ↔ ∀ x ∈ l, x.1 ≠ p) ∧ ∀ m, greatestP l p = some m → m ∈ l ∧ m.1 = p ∧ ∀ x ∈ l, x.1 = p → vcmpV x.2 m.2 ≤ 0 := by
  intro l
  induction l using snoc_ind with
  | h0 => exact ⟨by simp [greatestP], by simp [greatestP]⟩
  | h1 l x ih =>
    have e : greatestP (l ++ [x]) p = gstep p (greatestP l p) x := by unfold greatestP; rw [List.foldl_append]; rfl
    rw [e]
    unfold gstep
    by_cases hx : x.1 = p
    · rw [if_pos hx]
      cases hg : greatestP l p with
      | none =>
        have h0 := ih.1.1 hg
        refine ⟨⟨fun h => by simp at h, fun h => absurd hx (h x (by simp))⟩, fun m hm => ?_⟩
        obtain rfl := Option.some.inj hm
        refine ⟨by simp, hx, fun y hy hyp => ?_⟩
        rcases List.mem_append.1 hy with h | h
        · exact absurd hyp (h0 y h)
        · rw [List.mem_singleton.1 h, vcmpV_refl]; exact Int.le_refl _
      | some u =>
        obtain ⟨h1, h2, h3⟩ := ih.2 u hg
        refine ⟨⟨fun h => by simp at h; split at h <;> simp at h, fun h => absurd hx (h x (by simp))⟩, fun m hm => ?_⟩
        simp only at hm
        by_cases hc : vcmpV u.2 x.2 < 0
        · rw [if_pos hc] at hm
          obtain rfl := Option.some.inj hm
          refine ⟨by simp, hx, fun y hy hyp => ?_⟩
          rcases List.mem_append.1 hy with h | h
          · exact vcmpV_trans (h3 y h hyp) (by omega)
          · rw [List.mem_singleton.1 h, vcmpV_refl]; exact Int.le_refl _
        · rw [if_neg hc] at hm
          obtain rfl := Option.some.inj hm
          refine ⟨by simp [h1], h2, fun y hy hyp => ?_⟩
          rcases List.mem_append.1 hy with h | h
          · exact h3 y h hyp
          · rw [List.mem_singleton.1 h, vcmpV_anti]; omega
    · rw [if_neg hx]
      refine ⟨ih.1.trans ⟨fun h y hy => ?_, fun h y hy => h y (by simp [hy])⟩, fun m hm => ?_⟩
      · rcases List.mem_append.1 hy with h1 | h1
        · exact h y h1
        · rw [List.mem_singleton.1 h1]; exact hx
      · obtain ⟨h1, h2, h3⟩ := ih.2 m hm
        refine ⟨by simp [h1], h2, fun y hy hyp => ?_⟩
        rcases List.mem_append.1 hy with h | h
        · exact h3 y h hyp
        · rw [List.mem_singleton.1 h] at hyp; exact absurd hyp hx
theorem greatest_iff (l : List Mod) (p : List UInt8) (m : Mod) : greatestP l p = some m ↔ m ∈ l ∧ m.1 = p ∧ ∀ x ∈ l, x.1 = p → vcmpV x.2 m.2 ≤ 0 := by
  refine ⟨(greatest_spec p l).2 m, fun ⟨h1, h2, h3⟩ => ?_⟩
  cases hg : greatestP l p with
  | none => exact absurd h2 ((greatest_spec p l).1.1 hg m h1)
  | some u =>
    obtain ⟨k1, k2, k3⟩ := (greatest_spec p l).2 u hg
    have a1 := h3 u k1 k2
    have a2 := k3 m h1 h2
    rw [vcmpV_anti] at a2
    have e := vcmpV_eq (a := u.2) (b := m.2) (by omega)
    congr 1
    exact Prod.ext (k2.trans h2.symm) e
def bestR (S : List Mod) (rp : List UInt8) (x : Mod) : Bool := decide (x = (greatestP S x.1).getD zmod) && !decide (((greatestP S x.1).getD zmod).1 = rp)
theorem bestR_top (S : List Mod) (rp : List UInt8) : S.filter (bestR S rp) = topL rp S := by
  unfold topL
  refine List.filter_congr fun x hx => ?_
  obtain ⟨u, hu⟩ : ∃ u, greatestP S x.1 = some u := by
    cases hg : greatestP S x.1 with
    | none => exact absurd rfl ((greatest_spec x.1 S).1.1 hg x hx)
    | some u => exact ⟨u, rfl⟩
  have h1 := (greatest_spec x.1 S).2 u hu
  unfold bestR
  rw [hu]
  simp only [Option.getD_some]
  rw [Bool.eq_iff_iff]
  simp only [Bool.and_eq_true, decide_eq_true_eq, Bool.not_eq_true', decide_eq_false_iff_not, List.all_eq_true]
  constructor
  · rintro ⟨rfl, h⟩
    exact ⟨h, fun y hy hyp => h1.2.2 y hy hyp⟩
  · rintro ⟨h, h2⟩
    have e := (greatest_iff S x.1 x).2 ⟨hx, rfl, fun y hy hyp => h2 y hy hyp⟩
    rw [hu] at e
    obtain rfl := Option.some.inj e
    exact ⟨rfl, h⟩
theorem knownP_eq {R : Regy} {l S : List Mod} {p : List UInt8} (hr : ∀ m, m ∈ S ↔ Reach R l m) : knownP R S p = knownB R l p := by
  rw [Bool.eq_iff_iff, knownB_iff]
  unfold knownP
  simp only [List.all_eq_true, Bool.or_eq_true, decide_eq_true_eq]
  exact ⟨fun h m hm => h m ((hr m).2 hm), fun h m hm => h m ((hr m).1 hm)⟩
def RBInv (z : Nat) (w0 : World) (B : Nat) (rm : Mod) (nb : Nat) (bl : List Mod) (t0 t1 t2 t3 t6 t7 t8 t9 t10 t11 t12 t13 t14 t15 t16 t17 t18 t19 t20 t21 t22 t23 t24 t25 t26 t27 t28 t29 t30 t31 t32 t33 t34 t35 t36 t37 t38 t39 t40 t41 t42 t43 t44 t45 t46 t47 t48 t49 t50 t51 t52 t53 t54 t55 t56 t57 t58 t59 t60 t61 t62 t63 t64 t65 t66 t67 : Value) (L : Array Bool) (a : Act) (W : World) : Prop :=
  ∃ (b0 b1 b2 b3 b4 b5 b6 b7 : Bool) (s4 s5 s68 s69 s70 s71 s72 s73 : Value), L = #[b0, b1, b2, b3, b4, b5, b6, b7] ∧ a = ⟨#[t0, t1, t2, t3, s4, s5, t6, t7, t8, t9, t10, t11, t12, t13, t14, t15, t16, t17, t18, t19, t20, t21, t22, t23, t24, t25, t26, t27, t28, t29, t30, t31, t32, t33, t34, t35, t36, t37, t38, t39, t40, t41, t42, t43, t44, t45, t46, t47, t48, t49, t50, t51, t52, t53, t54, t55, t56, t57, t58, t59, t60, t61, t62, t63, t64, t65, t66, t67, s68, s69, s70, s71, s72, s73], []⟩ ∧ Below z w0 W ∧ (b0 = true → s68 = .pointer (some ⟨B, 0, none⟩)) ∧ (b1 = true → s69 = .agg #[.string ⟨rm.1.toArray⟩, .int .i64 rm.2.1, .int .i64 rm.2.2.1, .int .i64 rm.2.2.2]) ∧ (b2 = true → b5 = false → ∃ g, s70 = .slice (some ⟨g, 0, none⟩) 1 1 ∧ z ≤ g ∧ Blk W g 26 (modA rm)) ∧ (b3 = true → s71 = t9) ∧ (b4 = true → b5 = false → ∃ (A : Option Addr) (c : Nat), s72 = .slice A nb c ∧ Sl W W.heap.size 4 encM A (msort bl)) ∧ (b5 = true → ∃ (A : Option Addr) (c : Nat), s73 = .slice A (nb + 1) c ∧ nb + 1 ≤ c ∧ Sl W W.heap.size 4 encM A (rm :: msort bl)) ∧ (b6 = true → b5 = true ∧ ∃ (A : Option Addr) (c : Nat), s4 = .slice A (nb + 1) c ∧ nb + 1 ≤ c ∧ Sl W W.heap.size 4 encM A (rm :: msort bl)) ∧ (b7 = true → s5 = .int .i64 0)
set_option maxRecDepth 100000 in
set_option maxHeartbeats 4000000 in
theorem rBuildList_any (A : Option Addr) (c : Nat) (Y : List ManW) (y0 : ManW) (w : World) (hY : RegOk w w.heap.size A Y) (h0 : ManOk w w.heap.size y0) :
    Calls Tryz.prog 33 #[.slice A Y.length c, .agg #[.string ⟨y0.1.1.toArray⟩, .int .i64 y0.1.2.1, .int .i64 y0.1.2.2.1, .int .i64 y0.1.2.2.2, .slice y0.2.1 y0.2.2.2.length y0.2.2.1]] w (RetB w (buildP (regW Y) y0.1 y0.2.2.2)) := by
  obtain ⟨rm, A0, c0, l0⟩ := y0
  simp only
  have HY := Lib.hid hY
  have H0 := Lib.hid h0
  have hYl := hY.2.2
  have hl0 : l0.length ≤ 100 := h0.2.1
  have HB0 := Lib.hid (show Below w.heap.size w (w.alloc (.cells (manA rm A0 l0.length c0) 29)) from (Below.refl _ _).alloc (Nat.le_refl _) _)
  have Q0 := Lib.hid (Blk.new w 29 (manA rm A0 l0.length c0))
  unfold manA at HB0 Q0
  obtain ⟨r, hr⟩ : ∃ r, r = buildP (regW Y) rm l0 := ⟨_, rfl⟩
  rw [← hr]
  unfold buildP at hr
  have HR := Lib.hid hr
  have cC := Lib.hid (fun W (hW : Below w.heap.size w W) => rCheck_any A c Y W (HY.out.step hW))
  have cM := Lib.hid (fun W (hW : Below w.heap.size w W) => refCheck_any rm A0 c0 l0 W ((H0.out.keep hW).more hW.size).1 (by omega) (fun x hx => Nat.le_trans (H0.out.2.2 x hx).1 (by decide)))
  have cN := Lib.hid (fun W (hW : Below w.heap.size w W) => Needed_any A c Y A0 c0 l0 W (HY.out.step hW) ((H0.out.keep hW).more hW.size).1 hl0)
  have HU := Lib.hid (show (univ (regW Y) l0).length ≤ 10100 from by
    have h3 := univ_len (regW Y) l0 (by simpa [regW] using hYl) (fun x hx => by
      obtain ⟨y, hy, rfl⟩ := List.mem_map.1 hx
      exact (HY.out.2.1 y hy).2.1)
    omega)
  generalize checkR (regW Y) = e1 at cC HR
  generalize mcheck rm l0 = e2 at cM HR
  clear hY h0 hr
  generalize hQ : RetB w r = Q
  by_cases he1 : e1 = 0
  · subst he1
    have HR1 := Lib.hid (HR.out.trans (if_pos rfl))
    clear HR
    by_cases he2 : e2 = 0
    · subst he2
      have HR2 := Lib.hid (HR1.out.trans (if_pos rfl))
      clear HR1
      go_enter Tryz.func33, Tryz.ntmps33
      go_wp2_with fail
      refine (cC.out _ HB0.out).mono ?_
      rintro e w1 ⟨rfl, hb1⟩
      have HB1 := Lib.hid (HB0.out.trans (hb1.mono HB0.out.size))
      have Q1 := Lib.hid (Q0.out.keep hb1)
      obtain ⟨y0, y1, y2, y3, y4⟩ := manC Q1.out
      clear hb1 cC
      go_wp2_with fail
      refine (cM.out _ HB1.out).mono ?_
      rintro e w2 ⟨rfl, hb2⟩
      have HB2 := Lib.hid (HB1.out.trans (hb2.mono HB1.out.size))
      have Q2 := Lib.hid (Q1.out.keep hb2)
      clear hb2 cM y0 y1 y2 y3 y4
      obtain ⟨z0, z1, z2, z3, z4⟩ := manC Q2.out
      go_wp2_with fail
      refine (cN.out _ HB2.out).mono ?_
      rintro e w3 ⟨S, AS, cS, rfl, hnd, hmem, hSS, hb3⟩
      have HB3 := Lib.hid (HB2.out.trans (hb3.mono HB2.out.size))
      have Q3 := Lib.hid (Q2.out.keep hb3)
      have HSS := Lib.hid hSS
      have HND := Lib.hid hnd
      have HMEM := Lib.hid hmem
      have hSl : S.length ≤ 10100 := Nat.le_trans (nodup_len S _ hnd fun m hm => ((hmem m).1 hm).univ) HU.out
      have cK0 := known_any A c Y AS cS S rm.1 w3 (HY.out.step HB3.out) hSS (by omega)
      rw [knownP_eq hmem] at cK0
      have cK := Lib.hid cK0
      clear hnd hmem hSS hb3 cN z0 z1 z2 z3 z4 cK0
      obtain ⟨z0, z1, z2, z3, z4⟩ := manC Q3.out
      go_wp2_with fail
      refine cK.out.mono ?_
      rintro e w4 ⟨rfl, hb4⟩
      have HB4 := Lib.hid (HB3.out.trans (hb4.mono HB3.out.size))
      have Q4 := Lib.hid (Q3.out.keep hb4)
      have HSS4 := Lib.hid ((HSS.out.below hb4).more hb4.size)
      clear hb4 cK z0 z1 z2 z3 z4
      cases hk : knownB (regW Y) l0 rm.1 with
      | false =>
        have HR3 := Lib.hid (HR2.out.trans (if_neg (by rw [hk]; simp)))
        clear hk
        go_wp2
        rw [← hQ]
        exact retB_nil HR3.out HB4.out
      | true =>
        have HR3 := Lib.hid (HR2.out.trans (if_pos hk))
        have HLP := Lib.hid (listP_eq (root := rm) HND.out HMEM.out)
        have HTOP := Lib.hid (bestR_top S rm.1)
        have cG := Lib.hid (fun p W (hW : Below w4.heap.size w4 W) => greatest_any AS cS S p W ((HSS4.out.below hW).more hW.size) (by omega))
        have hzw4 : w.heap.size < w4.heap.size := Q4.out.lt
        clear hk
        go_wp2
        go_loopw [9, 10] (fun v i wr => ∃ (k n : Nat) (Av : Option Addr) (cv : Nat), i = .int .i64 (k : Nat) ∧ v = .slice Av n cv ∧ k ≤ S.length ∧ n ≤ k ∧ Hid (n = ((S.take k).filter (bestR S rm.1)).length) ∧ Hid (wr.ownsRow w4.heap.size 26 4 (.slice Av n cv) n (((S.take k).filter (bestR S rm.1)).flatMap encM)) ∧ Hid (Below w4.heap.size w4 wr)) (fun _ i _ => S.length - (intOf i).toNat)
        case atStart => exact ⟨0, 0, none, 0, rfl, rfl, Nat.zero_le _, Nat.le_refl _, Lib.hid rfl, Lib.hid (World.ownsRow_nil _ _ _ _), Lib.hid (Below.refl _ _)⟩
        case round =>
          obtain ⟨wo, hwo⟩ : ∃ wo, wo = wr := ⟨_, rfl⟩
          subst hwo
          obtain ⟨k, n, Av, cv, rfl, rfl, hk, hnk, HN, HO, HB⟩ := hrel
          by_cases hlt : k < S.length
          · have hlt' : (k : Int) < (S.length : Int) := by omega
            have HSk := Lib.hid (fun W (hW : Below w4.heap.size w4 W) => (HSS4.out.below hW).mod hlt)
            obtain ⟨bb, off, hA2, hbB, g0, g1, g2, g3⟩ := (HSS4.out.below HB.out).mod hlt
            have HT := Lib.hid (show (S.take (k + 1)).filter (bestR S rm.1) = (S.take k).filter (bestR S rm.1) ++ if bestR S rm.1 S[k] = true then [S[k]] else [] by
              rw [List.take_succ_eq_append_getElem hlt, List.filter_append]
              congr 1
              rw [List.filter_cons]
              rfl)
            generalize S[k] = x at g0 g1 g2 g3 HSk HT
            subst hA2
            have cX := Lib.hid (cG.out x.1 wo HB.out)
            rw [show bestR S rm.1 x = (decide (x = (greatestP S x.1).getD zmod) && !decide (((greatestP S x.1).getD zmod).1 = rm.1)) from rfl] at HT
            generalize hgm : greatestP S x.1 = go at cX HT
            obtain ⟨gm, hgm2⟩ : ∃ gm, gm = go.getD zmod := ⟨_, rfl⟩
            unfold RetG at cX
            rw [← hgm2] at cX HT
            clear hgm hgm2
            go_wp2_with fail
            refine cX.out.mono ?_
            rintro e w5 ⟨rfl, hb5⟩
            have HB5 := Lib.hid (HB.out.trans (hb5.mono HB.out.size))
            have HO5 := Lib.hid (own_below2 HO.out hb5)
            have HA5 := Lib.hid (show Below w5.heap.size w5 (w5.alloc (.cells #[.string ⟨gm.1.toArray⟩, .int .i64 gm.2.1, .int .i64 gm.2.2.1, .int .i64 gm.2.2.2] 26)) from (Below.refl _ _).alloc (Nat.le_refl _) _)
            have HB6 := Lib.hid (HB5.out.trans (HA5.out.mono HB5.out.size))
            have HO6 := Lib.hid (own_below2 HO5.out HA5.out)
            have BX := Lib.hid (Blk.new w5 26 (modA gm))
            obtain ⟨v0, v1, v2, v3⟩ := modC BX.out
            have Q6 := Lib.hid (Q4.out.keep HB6.out)
            obtain ⟨z0, z1, z2, z3, z4⟩ := manC Q6.out
            obtain ⟨b2, off2, hA3, hb3, e0, e1, e2, e3⟩ := HSk.out _ HB6.out
            injection hA3 with hA3
            injection hA3 with e4 e5
            subst e4 e5
            have heq := fun W => eq_mod x.1 gm.1 x.2.1 x.2.2.1 x.2.2.2 gm.2.1 gm.2.2.1 gm.2.2.2 W
            rw [mod_eta', mod_eta'] at heq
            have HDn := Lib.hid (fun n => ((Below.refl (w5.alloc (.cells #[.string ⟨gm.1.toArray⟩, .int .i64 gm.2.1, .int .i64 gm.2.2.1, .int .i64 gm.2.2.2] 26)).heap.size (w5.alloc (.cells #[.string ⟨gm.1.toArray⟩, .int .i64 gm.2.1, .int .i64 gm.2.2.1, .int .i64 gm.2.2.2] 26))).drewN n))
            unfold modA at v0 v1 v2 v3 BX
            clear hb5 cX g0 g1 g2 g3
            by_cases hx : x = gm
            · rw [decide_eq_true hx] at heq
              by_cases hp : gm.1 = rm.1
              · have hp1 : (gm.1 == rm.1) = true := by rw [hp]; exact beq_self_eq_true _
                have hp2 : (gm.1 != rm.1) = false := by rw [hp]; simp
                have HT2 := Lib.hid (show (S.take (k + 1)).filter (bestR S rm.1) = (S.take k).filter (bestR S rm.1) by
                  have h := HT.out
                  rw [decide_eq_true hx, decide_eq_true hp] at h
                  simpa using h)
                clear hx hp HT
                go_wp2
                go_quiet (fail)
                go_wp2
                go_roundw
                case rel => exact ⟨k + 1, n, Av, cv, by go_num, rfl, by omega, by omega, Lib.hid (by rw [HT2.out]; exact HN.out), Lib.hid (by rw [HT2.out]; exact own_below2 HO6.out (HDn.out nq)), Lib.hid (HB6.out.trans ((HDn.out nq).mono HB6.out.size))⟩
                case measure => simp [intOf]; omega
              · have hp1 : (gm.1 == rm.1) = false := beq_eq_false_iff_ne.2 hp
                have hp2 : (gm.1 != rm.1) = true := bne_iff_ne.2 hp
                have HT2 := Lib.hid (show (S.take (k + 1)).filter (bestR S rm.1) = (S.take k).filter (bestR S rm.1) ++ [gm] by
                  have h := HT.out
                  rw [decide_eq_true hx, decide_eq_false hp] at h
                  rw [← hx]
                  simpa [hx] using h)
                have HOX := Lib.hid (fun n => own_below2 HO6.out (HDn.out n))
                have HBX := Lib.hid (fun n => (HB6.out.trans ((HDn.out n).mono HB6.out.size)))
                have BXX := Lib.hid (fun n => BX.out.keep (HDn.out n))
                clear hx hp HT
                go_wp2
                go_quiet (fail)
                obtain ⟨X, hX⟩ : ∃ X, X = (w5.alloc (.cells #[.string ⟨gm.1.toArray⟩, .int .i64 gm.2.1, .int .i64 gm.2.2.1, .int .i64 gm.2.2.2] 26)).drewN nq := ⟨_, rfl⟩
                rw [← hX]
                have HOY := Lib.hid (HOX.out nq)
                have HBY := Lib.hid (HBX.out nq)
                have BXY := Lib.hid (BXX.out nq)
                rw [← hX] at HOY HBY BXY
                obtain ⟨A7, c7, w7, hap, hO7, hb7⟩ := row_app (m := gm) HOY.out HBY.out.size (by omega)
                have HO7 := Lib.hid hO7
                have HB7 := Lib.hid (HBY.out.trans hb7)
                clear hX HOX HBX BXX v0 v1 v2 v3 e0 e1 e2 e3 z0 z1 z2 z3 z4 hO7 hb7
                obtain ⟨v0, v1, v2, v3⟩ := modC BXY.out
                go_wp2_with (at_builtin; refine wpList_app1 rfl _ _ _ _ rfl _ _ rfl rfl hap ?_)
                go_roundw
                case rel => exact ⟨k + 1, n + 1, A7, c7, by go_num, rfl, by omega, by omega, Lib.hid (by rw [HT2.out, List.length_append, ← HN.out]; rfl), Lib.hid (by rw [HT2.out]; exact HO7.out), HB7⟩
                case measure => simp [intOf]; omega
            · rw [decide_eq_false hx] at heq
              have HT2 := Lib.hid (show (S.take (k + 1)).filter (bestR S rm.1) = (S.take k).filter (bestR S rm.1) by
                have h := HT.out
                rw [decide_eq_false hx] at h
                simpa using h)
              clear hx HT
              go_wp2
              go_quiet (fail)
              go_wp2
              go_roundw
              case rel => exact ⟨k + 1, n, Av, cv, by go_num, rfl, by omega, by omega, Lib.hid (by rw [HT2.out]; exact HN.out), Lib.hid (by rw [HT2.out]; exact own_below2 HO6.out (HDn.out nq)), Lib.hid (HB6.out.trans ((HDn.out nq).mono HB6.out.size))⟩
              case measure => simp [intOf]; omega
          · obtain rfl : k = S.length := by omega
            rw [List.take_of_length_le (Nat.le_refl _), HTOP.out] at HN HO
            obtain ⟨bl, hbl⟩ : ∃ bl, bl = topL rm.1 S := ⟨_, rfl⟩
            rw [← hbl] at HN HO HLP
            obtain ⟨w9, hw9⟩ : ∃ w9, w9 = wo := ⟨_, rfl⟩
            subst hw9
            obtain ⟨nb, hnb⟩ : ∃ nb, nb = n := ⟨_, rfl⟩
            subst hnb
            have HNB := Lib.hid (show nb = (msort bl).length by rw [msort_len]; exact HN.out)
            have hsl := (Acc.slAny (.inl HO.out) encM_len (by decide) : Sl w9 w9.heap.size 4 encM Av bl)
            have hnb2 : nb ≤ 10100 := by omega
            have cSo := Lib.hid (fun W (hW : Below w9.heap.size w9 W) => show Calls Tryz.prog 77 #[.slice Av nb cv] W fun e w' => ∃ A' c', e = .returned (.slice A' nb c') ∧ (∀ a, A' = some a → W.heap.size ≤ a.block) ∧ Sl w' w'.heap.size 4 encM A' (msort bl) ∧ Below W.heap.size W w' by
              have h := refSorted_far Av cv bl W ((hsl.below hW).more hW.size) (by rw [← HN.out]; omega)
              rw [← HN.out] at h
              exact h)
            have Q9 := Lib.hid (Q4.out.keep HB.out)
            obtain ⟨z0, z1, z2, z3, z4⟩ := manC Q9.out
            have hG3 : w.heap.size < w9.heap.size := Q9.out.lt
            have HB9 := Lib.hid (HB4.out.trans (HB.out.mono HB4.out.size))
            clear hbl hsl
            go_upto_region 17 with fail
            apply wp_region_each (by kernel_rfl) (RBInv w9.heap.size w9 w.heap.size rm nb bl _ _ _ _ _ _ _ _ _ _ _ _ _ _ _ _ _ _ _ _ _ _ _ _ _ _ _ _ _ _ _ _ _ _ _ _ _ _ _ _ _ _ _ _ _ _ _ _ _ _ _ _ _ _ _ _ _ _ _ _ _ _ _ _ _ _) ?hsz ?h0 ?step (by kernel_rfl) ?fin
            case h0 =>
              exact ⟨false, false, false, false, false, false, false, false, _, _, _, _, _, _, _, _, rfl, rfl, (Below.refl _ _).drew, fun h => absurd h (by decide), fun h => absurd h (by decide), fun h => absurd h (by decide), fun h => absurd h (by decide), fun h => absurd h (by decide), fun h => absurd h (by decide), fun h => absurd h (by decide), fun h => absurd h (by decide)⟩
            case hsz =>
              rintro L a w ⟨b0, b1, b2, b3, b4, b5, b6, b7, s4, s5, s68, s69, s70, s71, s72, s73, rfl, _⟩
              rfl
            case step =>
              rintro i o ho L a W hn hd ⟨b0, b1, b2, b3, b4, b5, b6, b7, s4, s5, s68, s69, s70, s71, s72, s73, rfl, rfl, hB, h0, h1, h2, h3, h4, h5, h6, h7⟩
              have hBz := hB.size
              match i, ho with
              | 0, ho =>
                simp at ho; subst ho
                simp only [Region.wanted, if_true]
                left
                go_simp
                exact ⟨true, b1, b2, b3, b4, b5, b6, b7, _, _, _, _, _, _, _, _, rfl, rfl, hB, fun _ => rfl, (by first | exact h1 | exact fun _ => rfl), (by first | exact h2 | exact fun _ => rfl), (by first | exact h3 | exact fun _ => rfl), (by first | exact h4 | exact fun _ => rfl), (by first | exact h5 | exact fun _ => rfl), (by first | exact h6 | exact fun _ => rfl), (by first | exact h7 | exact fun _ => rfl)⟩
              | 1, ho =>
                simp at ho; subst ho
                have e0 : b0 = true := by simp [Region.binds] at hd; simp [hd]
                subst e0
                obtain rfl := h0 rfl
                have hx0 := hB.cell (p := ⟨w.heap.size, 0, none⟩) hG3
                have hx1 := hB.cell (p := ⟨w.heap.size, 1, none⟩) hG3
                have hx2 := hB.cell (p := ⟨w.heap.size, 2, none⟩) hG3
                have hx3 := hB.cell (p := ⟨w.heap.size, 3, none⟩) hG3
                rw [z0] at hx0
                rw [z1] at hx1
                rw [z2] at hx2
                rw [z3] at hx3
                simp only [Region.wanted, if_true]
                left
                go_simp
                exact ⟨true, true, b2, b3, b4, b5, b6, b7, _, _, _, _, _, _, _, _, rfl, rfl, hB, (by first | exact h0 | exact fun _ => rfl), fun _ => rfl, (by first | exact h2 | exact fun _ => rfl), (by first | exact h3 | exact fun _ => rfl), (by first | exact h4 | exact fun _ => rfl), (by first | exact h5 | exact fun _ => rfl), (by first | exact h6 | exact fun _ => rfl), (by first | exact h7 | exact fun _ => rfl)⟩
              | 2, ho =>
                simp at ho; subst ho
                have e1 : b1 = true := by simp [Region.binds] at hd; simp [hd]
                subst e1
                obtain rfl := h1 rfl
                simp only [Region.wanted, if_true]
                left
                go_simp
                exact ⟨b0, true, true, b3, b4, b5, b6, b7, _, _, _, _, _, _, _, _, rfl, rfl, hB.trans ((((Below.refl W.heap.size W).alloc (Nat.le_refl _) (.cells #[.string ⟨rm.1.toArray⟩, .int .i64 rm.2.1, .int .i64 rm.2.2.1, .int .i64 rm.2.2.2] 26))).mono hBz), (by first | exact h0 | exact fun _ => rfl), (by first | exact h1 | exact fun _ => rfl), fun _ => fun _ => ⟨_, rfl, hBz, Blk.new W 26 #[.string ⟨rm.1.toArray⟩, .int .i64 rm.2.1, .int .i64 rm.2.2.1, .int .i64 rm.2.2.2]⟩, (by first | exact h3 | exact fun _ => rfl), (by first | exact fun hh => (fun h5 => match (h4 hh) h5 with | ⟨A, c, e, h1⟩ => ⟨A, c, e, (h1.below ((Below.refl W.heap.size W).alloc (Nat.le_refl _) (.cells #[.string ⟨rm.1.toArray⟩, .int .i64 rm.2.1, .int .i64 rm.2.2.1, .int .i64 rm.2.2.2] 26))).more (((Below.refl W.heap.size W).alloc (Nat.le_refl _) (.cells #[.string ⟨rm.1.toArray⟩, .int .i64 rm.2.1, .int .i64 rm.2.2.1, .int .i64 rm.2.2.2] 26))).size⟩) | exact fun _ => rfl), (by first | exact fun hh => (match (h5 hh) with | ⟨A, c, e, h0, h1⟩ => ⟨A, c, e, h0, (h1.below ((Below.refl W.heap.size W).alloc (Nat.le_refl _) (.cells #[.string ⟨rm.1.toArray⟩, .int .i64 rm.2.1, .int .i64 rm.2.2.1, .int .i64 rm.2.2.2] 26))).more (((Below.refl W.heap.size W).alloc (Nat.le_refl _) (.cells #[.string ⟨rm.1.toArray⟩, .int .i64 rm.2.1, .int .i64 rm.2.2.1, .int .i64 rm.2.2.2] 26))).size⟩) | exact fun _ => rfl), (by first | exact fun hh => (⟨((h6 hh)).1, match ((h6 hh)).2 with | ⟨A, c, e, h0, h1⟩ => ⟨A, c, e, h0, (h1.below ((Below.refl W.heap.size W).alloc (Nat.le_refl _) (.cells #[.string ⟨rm.1.toArray⟩, .int .i64 rm.2.1, .int .i64 rm.2.2.1, .int .i64 rm.2.2.2] 26))).more (((Below.refl W.heap.size W).alloc (Nat.le_refl _) (.cells #[.string ⟨rm.1.toArray⟩, .int .i64 rm.2.1, .int .i64 rm.2.2.1, .int .i64 rm.2.2.2] 26))).size⟩⟩) | exact fun _ => rfl), (by first | exact h7 | exact fun _ => rfl)⟩
              | 3, ho =>
                simp at ho; subst ho
                simp only [Region.wanted, if_true]
                left
                go_simp
                exact ⟨b0, b1, b2, true, b4, b5, b6, b7, _, _, _, _, _, _, _, _, rfl, rfl, hB, (by first | exact h0 | exact fun _ => rfl), (by first | exact h1 | exact fun _ => rfl), (by first | exact h2 | exact fun _ => rfl), fun _ => rfl, (by first | exact h4 | exact fun _ => rfl), (by first | exact h5 | exact fun _ => rfl), (by first | exact h6 | exact fun _ => rfl), (by first | exact h7 | exact fun _ => rfl)⟩
              | 4, ho =>
                simp at ho; subst ho
                have e3 : b3 = true := by simp [Region.binds] at hd; simp [hd]
                subst e3
                obtain rfl := h3 rfl
                simp only [Region.wanted, if_true]
                left
                go_simp
                refine (cSo.out W hB).mono ?_
                rintro e W2 ⟨A, c, rfl, _, hS, hb2⟩
                exact ⟨b0, b1, b2, true, true, b5, b6, b7, _, _, _, _, _, _, _, _, rfl, rfl, hB.trans ((hb2).mono hBz), (by first | exact h0 | exact fun _ => rfl), (by first | exact h1 | exact fun _ => rfl), (by first | exact fun hh => (fun h5 => match (h2 hh) h5 with | ⟨g, e, h1, h2⟩ => ⟨g, e, h1, h2.keep hb2⟩) | exact fun _ => rfl), (by first | exact h3 | exact fun _ => rfl), fun _ => fun _ => ⟨A, c, rfl, hS⟩, (by first | exact fun hh => (match (h5 hh) with | ⟨A, c, e, h0, h1⟩ => ⟨A, c, e, h0, (h1.below hb2).more (hb2).size⟩) | exact fun _ => rfl), (by first | exact fun hh => (⟨((h6 hh)).1, match ((h6 hh)).2 with | ⟨A, c, e, h0, h1⟩ => ⟨A, c, e, h0, (h1.below hb2).more (hb2).size⟩⟩) | exact fun _ => rfl), (by first | exact h7 | exact fun _ => rfl)⟩
              | 5, ho =>
                simp at ho; subst ho
                have e2 : b2 = true := by simp [Region.binds] at hd; simp [hd]
                have e4 : b4 = true := by simp [Region.binds] at hd; simp [hd]
                subst e2
                subst e4
                simp at hn
                subst hn
                obtain ⟨g, rfl, hzg, hbk⟩ := h2 rfl rfl
                obtain ⟨A5, c5, rfl, hS5⟩ := h4 rfl rfl
                obtain ⟨A7, c7, W2, hap, hc7, hS7, hb7⟩ := lit_app (z := w9.heap.size) (c := c5) hbk hzg hBz hS5 HNB.out (by omega)
                simp only [Region.wanted, if_true]
                left
                refine wp_app1 (.tmp 70) (.tmp 72) _ _ rfl _ _ (by simp [Act.eval]) (by simp [Act.eval]) hap ?_
                exact ⟨b0, b1, true, b3, true, true, b6, b7, _, _, _, _, _, _, _, _, rfl, rfl, hB.trans hb7, (by first | exact h0 | exact fun _ => rfl), (by first | exact h1 | exact fun _ => rfl), fun _ h5 => absurd h5 (by decide), (by first | exact h3 | exact fun _ => rfl), fun _ h5 => absurd h5 (by decide), fun _ => ⟨A7, c7, rfl, hc7, hS7⟩, fun hh => absurd (h6 hh).1 (by decide), (by first | exact h7 | exact fun _ => rfl)⟩
              | 6, ho =>
                simp at ho; subst ho
                have e5 : b5 = true := by simp [Region.binds] at hd; simp [hd]
                subst e5
                obtain ⟨A7, c7, rfl, hc7, hS7⟩ := h5 rfl
                simp only [Region.wanted, if_true]
                left
                go_simp
                exact ⟨b0, b1, b2, b3, b4, true, true, b7, _, _, _, _, _, _, _, _, rfl, rfl, hB, (by first | exact h0 | exact fun _ => rfl), (by first | exact h1 | exact fun _ => rfl), (by first | exact h2 | exact fun _ => rfl), (by first | exact h3 | exact fun _ => rfl), (by first | exact h4 | exact fun _ => rfl), (by first | exact h5 | exact fun _ => rfl), fun _ => ⟨rfl, A7, c7, rfl, hc7, hS7⟩, (by first | exact h7 | exact fun _ => rfl)⟩
              | 7, ho =>
                simp at ho; subst ho
                simp only [Region.wanted, if_true]
                left
                go_simp
                exact ⟨b0, b1, b2, b3, b4, b5, b6, true, _, _, _, _, _, _, _, _, rfl, rfl, hB, (by first | exact h0 | exact fun _ => rfl), (by first | exact h1 | exact fun _ => rfl), (by first | exact h2 | exact fun _ => rfl), (by first | exact h3 | exact fun _ => rfl), (by first | exact h4 | exact fun _ => rfl), (by first | exact h5 | exact fun _ => rfl), (by first | exact h6 | exact fun _ => rfl), fun _ => rfl⟩
              | i + 8, ho => simp at ho
            case fin =>
              rintro L a wf hr ⟨b0, b1, b2, b3, b4, b5, b6, b7, s4, s5, s68, s69, s70, s71, s72, s73, hL, rfl, hB, h0, h1, h2, h3, h4, h5, h6, h7⟩
              subst hL
              obtain rfl : b6 = true := hr 6 (by decide)
              obtain rfl : b7 = true := hr 7 (by decide)
              obtain ⟨_, A7, c7, rfl, hc7, hS7⟩ := h6 rfl
              obtain rfl := h7 rfl
              clear hr h0 h1 h2 h3 h4 h5 h6 h7
              have HF := Lib.hid (show Q (.returned (.tuple #[.slice A7 (nb + 1) c7, .int .i64 0])) wf by
                rw [← hQ]
                exact retB_some HR3.out (by rw [← HLP.out, List.length_cons, ← HNB.out]) hc7 (by rw [← HLP.out]; exact hS7) (HB9.out.trans (hB.mono HB9.out.size)))
              clear hB hS7
              go_wp2
              exact HF.out
    · have he : (e2 != 0) = true := by simpa using he2
      have HR2 := Lib.hid (HR1.out.trans (if_neg he2))
      clear HR1 he2
      go_enter Tryz.func33, Tryz.ntmps33
      go_wp2_with fail
      refine (cC.out _ HB0.out).mono ?_
      rintro e w1 ⟨rfl, hb1⟩
      have HB1 := Lib.hid (HB0.out.trans (hb1.mono HB0.out.size))
      have Q1 := Lib.hid (Q0.out.keep hb1)
      obtain ⟨y0, y1, y2, y3, y4⟩ := manC Q1.out
      clear hb1 cC
      go_wp2_with fail
      refine (cM.out _ HB1.out).mono ?_
      rintro e w2 ⟨rfl, hb2⟩
      have HB2 := Lib.hid (HB1.out.trans (hb2.mono HB1.out.size))
      clear hb2 cM y0 y1 y2 y3 y4
      go_wp2
      rw [← hQ]
      exact retB_nil HR2.out HB2.out
  · have he : (e1 != 0) = true := by simpa using he1
    have HR1 := Lib.hid (HR.out.trans (if_neg he1))
    clear HR he1
    go_enter Tryz.func33, Tryz.ntmps33
    go_wp2_with fail
    refine (cC.out _ HB0.out).mono ?_
    rintro e w1 ⟨rfl, hb1⟩
    have HB1 := Lib.hid (HB0.out.trans (hb1.mono HB0.out.size))
    clear hb1 cC
    go_wp2
    rw [← hQ]
    exact retB_nil HR1.out HB1.out
end Go.Proofs.YthcgihgajdjfoaaGreatDoor
