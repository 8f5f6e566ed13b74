/- The law SelectionTurns holds of every registry, root and module of bulk at most 1048576: the tied card of the second form. No condition beside the row's own. -/
import Derived.Test.YtfiilbdkhelhgaaDoorG2
import Derived.Test.YtfiilbdkhelhgaaDoorOpen2
import Derived.Test.YtfiilbdkhelhgaaDoorSA
import Derived.Test.YtfiilbdkhelhgaaDoorWL3
import Derived.Test.YtfiilbdkhelhgaaDoorPL9
import Derived.Test.YtfiilbdkhelhgaaDoorLA6
import Derived.Test.YtfiilbdkhelhgaaDoorLB6
namespace Go.Proofs.YtfiilbdkhelhgaaDoor.lawTurns
open Go.ChangeShapes Go.WideShapes Go.ChangeAt Go.RowKit
open Go.ChangeMaps (open_string shut_string)

theorem elMan : ElT Tryd.prog 22 29 5 64 := ElT.mk_ (z := .agg #[.string ByteArray.empty, .int .i64 0, .int .i64 0, .int .i64 0, .slice none 0 0]) Tryd.underlying22 (by kernel_rfl) rfl (by decide)
/-- a literal of one module appended to a row -/
theorem row_snoc {W : World} {z g n c : Nat} {A : Option Addr} {xs : List Value} {m : Mod} (hO : W.ownsRow z 26 4 (.slice A n c) n xs) (hk : Blk W g 26 (modA m)) (hz : z ≤ W.heap.size) (hl : n ≤ 1000000) :
    ∃ A7 c7 W2, (Builtin.append_ #[27, 27] 27 #[.slice A n c, .slice (some ⟨g, 0, none⟩) 1 1]).run Tryd.prog W = .ok (.slice A7 (n + 1) c7) W2 ∧ W2.ownsRow z 26 4 (.slice A7 (n + 1) c7) (n + 1) (xs ++ encM m) ∧ Below z W W2 := by
  have hS : Sl W W.heap.size 4 encM (some ⟨g, 0, none⟩) [m] := sl_of_blk hk encM_len (by decide) (by simp [modA, encM])
  obtain ⟨v', W2, hr, h2, _, h4⟩ := run_own1 W elMod z 27 _ n _ hO (some ⟨g, 0, none⟩) 1 1 ([m].flatMap encM) (hS.src encM_len) (encM_one [m]) (by unfold maxLen; omega) (by omega) hz
  obtain ⟨A7, c7, rfl⟩ := Acc.shape (.inl h2)
  have e : [m].flatMap encM = encM m := by simp
  rw [e] at h2
  exact ⟨A7, c7, W2, hr, h2, h4⟩
section
variable {P : Program}
theorem wp_app1 {o : Oper} {a : Act} {w : World} {K : Act → World → Prop} {Q : Exit → Act → World → Prop} (d s : Operand) (t t' : TypeId)
    (ho : o.op = .call { callee := .builtin .append, args := #[d, s], argTypes := #[t, t'] }) (v u : Value) (hd : a.eval d = v) (hs : a.eval s = u) {v' : Value} {w' : World}
    (hr : (Builtin.append_ #[t, t'] o.type #[v, u]).run P w = .ok v' w') (h : K (a.put o.dst v') w') : o.wp P a w K Q := by
  unfold Oper.wp execOp
  simp only [ho, resolve, invoke, builtin, Sem.run_bind, Sem.run_pure, Result.andThen_ok, List.map_toArray, List.map_cons, List.map_nil, hd, hs, hr]
  exact h
end
theorem encW_len5 (y : ManW) : (encW y).length = 5 := rfl
theorem rev_step {α : Type} {l : List α} {j : Nat} (hj : j < l.length) : (l.drop j).reverse = (l.drop (j + 1)).reverse ++ [l[j]] := by
  rw [List.drop_eq_getElem_cons hj, List.reverse_cons]
theorem regW_rev (L : List ManW) : regW L.reverse = (regW L).reverse := by unfold regW; rw [List.map_reverse]
def BackInv (z : Nat) (w0 : World) (bB wz : Nat) (rm x : Mod) (Av : Option Addr) (n cv : Nat) (SR PX : Value) (xs : List Value) (t0 t1 t2 t3 t4 t5 t6 t7 t8 t9 t10 t11 t12 t13 t14 t15 t16 t17 t18 t19 t20 t21 t22 t23 t24 t25 t26 t27 t28 t29 t30 t31 t32 t33 t34 t35 t36 t37 t38 t39 t40 t41 t42 t43 t44 t45 t46 t47 t48 t49 t50 t51 t52 t53 t54 t55 t56 t57 t68 t69 t70 t71 t72 t73 t74 t75 t76 t77 t78 t79 t80 t81 t82 t83 t84 t85 t86 t87 t88 t89 t90 t91 t92 t93 t94 t95 t96 t97 t98 t99 t100 t101 t102 t103 t104 t105 t106 t107 : Value) (L : Array Bool) (a : Act) (W : World) : Prop :=
  ∃ (b0 b1 b2 b3 b4 b5 b6 b7 b8 b9 b10 : Bool) (s58 s59 s60 s61 s62 s63 s64 s65 s66 s67 : Value), L = #[b0, b1, b2, b3, b4, b5, b6, b7, b8, b9, b10] ∧ a = ⟨#[t0, t1, t2, t3, t4, t5, t6, t7, t8, t9, t10, t11, t12, t13, t14, t15, t16, t17, t18, t19, t20, t21, t22, t23, t24, t25, t26, t27, t28, t29, t30, t31, t32, t33, t34, t35, t36, t37, t38, t39, t40, t41, t42, t43, t44, t45, t46, t47, t48, t49, t50, t51, t52, t53, t54, t55, t56, t57, s58, s59, s60, s61, s62, s63, s64, s65, s66, s67, t68, t69, t70, t71, t72, t73, t74, t75, t76, t77, t78, t79, t80, t81, t82, t83, t84, t85, t86, t87, t88, t89, t90, t91, t92, t93, t94, t95, t96, t97, t98, t99, t100, t101, t102, t103, t104, t105, t106, t107], []⟩ ∧ Below z w0 W ∧ (b0 = true → s58 = .pointer (some ⟨bB, 4, none⟩)) ∧ (b1 = true → s59 = .slice Av n cv) ∧ (b2 = true → s60 = .pointer (some ⟨wz, 4, none⟩)) ∧ (b3 = true → s61 = SR) ∧ (b4 = true → s62 = t12) ∧ (b5 = true → s63 = PX) ∧ (b6 = true → s64 = .agg #[.string ⟨x.1.toArray⟩, .int .i64 x.2.1, .int .i64 x.2.2.1, .int .i64 x.2.2.2]) ∧ (b7 = true → b8 = false → ∃ g, s65 = .slice (some ⟨g, 0, none⟩) 1 1 ∧ Blk W g 26 (modA x)) ∧ (b8 = true → b1 = true ∧ ∃ (A : Option Addr) (c : Nat), s66 = .slice A (n + 1) c ∧ W.ownsRow (bB + 1) 26 4 (.slice A (n + 1) c) (n + 1) (xs ++ encM x)) ∧ (b9 = true → s67 = .pointer (some ⟨bB, 4, none⟩)) ∧ (b10 = true → b1 = true ∧ b8 = true ∧ ∃ (A : Option Addr) (c : Nat), Blk W bB 29 #[.string ⟨rm.1.toArray⟩, .int .i64 rm.2.1, .int .i64 rm.2.2.1, .int .i64 rm.2.2.2, .slice A (n + 1) c] ∧ W.ownsRow (bB + 1) 26 4 (.slice A (n + 1) c) (n + 1) (xs ++ encM x)) ∧ (b10 = false → Blk W bB 29 #[.string ⟨rm.1.toArray⟩, .int .i64 rm.2.1, .int .i64 rm.2.2.1, .int .i64 rm.2.2.2, .slice Av n cv]) ∧ (b8 = false → W.ownsRow (bB + 1) 26 4 (.slice Av n cv) n xs)
set_option maxRecDepth 100000 in
set_option maxHeartbeats 4000000 in
theorem walk (A : Option Addr) (c : Nat) (L : List ManW) (y0 : ManW) (x : Mod) (w : World) (hS : Sl w w.heap.size 5 encW A L) (hO : ∀ y ∈ L, inW w 1048576 y) (hl : L.length ≤ 1048576) (hO1 : inW w 1048576 y0) (hO2 : x.1.length ≤ 1048576 ∧ okI x.2.1 ∧ okI x.2.2.1 ∧ okI x.2.2.2) (hG : Glob w) :
    Calls Tryd.prog 4 #[.slice A L.length c, .agg (encW y0).toArray, .agg (encM x).toArray] w fun e w' => e = .returned (.bool true) ∧ Below w.heap.size w w' := by
  have HL := Lib.hid (reg_in hS hO hl)
  have H1 := Lib.hid (man_in hO1)
  have HG := Lib.hid hG
  have HX := Lib.hid (show okB x from hO2)
  clear hS hO hG hl hO1 hO2
  have HB0 := Lib.hid (show Below w.heap.size w ((w.alloc (.cells (encW y0).toArray 29)).alloc (.cells (encM x).toArray 26)) from ((Below.refl _ _).alloc (Nat.le_refl _) _).alloc (by simp) _)
  have Q0 := Lib.hid ((Blk.new w 29 (encW y0).toArray).keep ((Below.refl _ _).alloc (Nat.le_refl _) (.cells (encM x).toArray 26)))
  have r0 := Blk.new (w.alloc (.cells (encW y0).toArray 29)) 26 (encM x).toArray
  rw [World.size_alloc] at r0
  have R0 := Lib.hid r0
  have cS := Lib.hid (fun W (hW : Below w.heap.size w W) => small_any A c L y0 W (HL.out.step hW) (H1.out.step hW))
  have HOK := Lib.hid (fun (h : smallP (regW L) ∧ smallP [plainW y0]) W (hW : Below w.heap.size w W) => (HL.out.ok h.1).step hW)
  have HOM := Lib.hid (fun (h : smallP (regW L) ∧ smallP [plainW y0]) => H1.out.ok h.2)
  have cX := Lib.hid (fun W (hW : Below w.heap.size w W) => example_any W (HG.out.keep hW))
  obtain ⟨rm, A0, c0, l0⟩ := y0
  simp only at cS HOM
  generalize (smallP (regW L) ∧ smallP [plainW (rm, A0, c0, l0)]) = P at cS HOK HOM
  simp only [encW, encM] at Q0 HB0 R0 ⊢
  clear r0
  go_enter Tryd.func4, Tryd.ntmps4
  go_wp2_with fail
  refine (cS.out _ HB0.out).mono ?_
  rintro e w1 ⟨b, rfl, hbi, hb1⟩
  have HB1 := Lib.hid (HB0.out.trans (hb1.mono HB0.out.size))
  have Q1 := Lib.hid (Q0.out.keep hb1)
  have R1 := Lib.hid (R0.out.keep hb1)
  have HBI := Lib.hid hbi
  clear hb1 hbi cS
  cases b
  · go_wp2_with fail
    refine (cX.out _ HB1.out).mono ?_
    rintro e w2 ⟨rfl, hb2⟩
    have HB2 := Lib.hid (HB1.out.trans (hb2.mono HB1.out.size))
    clear hb2 cX
    go_wp2
    go_ret
    exact ⟨rfl, HB2.out⟩
  · have HP := Lib.hid (show P from by have h := HBI.out; simpa using h)
    clear HBI
    have HR := Lib.hid (fun W (hW : Below w.heap.size w W) => HOK.out HP.out W hW)
    have HM0 := Lib.hid (HOM.out HP.out)
    have hLl : L.length ≤ 100 := (HR.out _ (Below.refl _ _)).2.2
    have hl0 : l0.length ≤ 100 := HM0.out.2.1
    have HDL := Lib.hid (show (downP (regW L) rm l0 x).1.2.length ≤ 1099511627776 from by
      have h : (downP (regW L) rm l0 x).1.2.length ≤ l0.length := by
        unfold downP
        split
        · show (msort (downL (regW L) rm.1 x l0)).length ≤ _
          rw [msort_len]
          exact List.length_filterMap_le _ _
        · simp
      omega)
    have HBl := Lib.hid (show (buildP (regW L) rm l0).1.length ≤ 1099511627776 from by
      have h1 := buildP_len (regW L) rm l0
      have h2 := univ_len (regW L) l0 (by simpa [regW] using hLl) (fun z hz => by
        obtain ⟨y, hy, rfl⟩ := List.mem_map.1 hz
        exact ((HR.out _ (Below.refl _ _)).2.1 y hy).2.1)
      omega)
    have cB0 := fun W (hW : Below w.heap.size w W) => BuildList_any A c L (rm, A0, c0, l0) W (HR.out W hW) ((HM0.out.keep hW).more hW.size) (HG.out.keep hW)
    have cD0 := fun W (hW : Below w.heap.size w W) => Downgrade_any A c L (rm, A0, c0, l0) x W (HR.out W hW) ((HM0.out.keep hW).more hW.size) HX.out (HG.out.keep hW)
    have HPB := Lib.hid (fun (h : (buildP (regW L) rm l0).2 = 0) => buildP_perm (R := regW L) (R' := regW L.reverse) (l' := l0.reverse) (by rw [regW_rev]; exact List.reverse_perm _) (List.reverse_perm _) h)
    have HPD := Lib.hid (fun (h : (buildP (regW L) rm l0).2 = 0) => downP_perm (R := regW L) (R' := regW L.reverse) (m := x) (l' := l0.reverse) (by rw [regW_rev]; exact List.reverse_perm _) (List.reverse_perm _) h)
    simp only at cB0 cD0
    have HRT := Lib.hid (fun (At : Option Addr) W (hW : Below w.heap.size w W) (hS : Sl W W.heap.size 5 encW At L.reverse) => show RegOk W W.heap.size At L.reverse from ⟨hS, fun y hy => (HR.out W hW).2.1 y (List.mem_reverse.1 hy), by rw [List.length_reverse]; exact hLl⟩)
    have HMT := Lib.hid (fun (Ab : Option Addr) (cb : Nat) W (hS : Sl W W.heap.size 4 encM Ab l0.reverse) => show ManOk W W.heap.size (rm, Ab, cb, l0.reverse) from ⟨hS, by show l0.reverse.length ≤ 100; rw [List.length_reverse]; exact hl0, fun y hy => by
      rcases List.mem_cons.1 hy with rfl | hy
      · exact HM0.out.2.2 _ (by simp)
      · exact HM0.out.2.2 _ (List.mem_cons_of_mem _ (List.mem_reverse.1 hy))⟩)
    generalize buildP (regW L) rm l0 = B at cB0 HPB HPD HBl
    generalize downP (regW L) rm l0 x = q at cD0 HPD HDL
    unfold RetB at cB0
    unfold RetMF at cD0
    obtain ⟨bl, e1⟩ := B
    obtain ⟨⟨m2, D2⟩, e2⟩ := q
    simp only at cB0 cD0 HBl HDL HPB HPD
    have cB := Lib.hid cB0
    have cD := Lib.hid cD0
    clear cB0 cD0 HOK HOM
    obtain ⟨y0, y1, y2, y3, y4⟩ := manC Q1.out
    go_wp2_with fail
    refine (cB.out _ HB1.out).mono ?_
    rintro e w2 ⟨A2, c2, rfl, _, hS2, hb2⟩
    have HB2 := Lib.hid (HB1.out.trans (hb2.mono HB1.out.size))
    have Q2 := Lib.hid (Q1.out.keep hb2)
    have R2 := Lib.hid (R1.out.keep hb2)
    have S2 := Lib.hid hS2
    clear hb2 y0 y1 y2 y3 y4 hS2 cB
    by_cases he1 : e1 = 0
    · have HPB2 := Lib.hid (HPB.out he1)
      have HPD2 := Lib.hid (HPD.out he1)
      subst he1
      clear HPB HPD
      have hwL : IntKind.i64.wrap ((L.length : Int) - 1) = (L.length : Int) - 1 := by simp [IntKind.wrap, IntKind.bits, IntKind.signed]; omega
      go_wp2_with fail
      go_loopw [9, 10] (fun v i wr => ∃ (k n : Nat) (z : Int) (Av : Option Addr) (cv : Nat), k ≤ L.length ∧ i = .int .i64 z ∧ Hid (z = (k : Int) - 1) ∧ v = .slice Av n cv ∧ Hid (n + k = L.length) ∧ Hid (wr.ownsRow w2.heap.size 29 5 (.slice Av n cv) n ((L.drop k).reverse.flatMap encW)) ∧ Hid (Below w2.heap.size w2 wr)) (fun _ i _ => (intOf i + 1).toNat)
      case atStart => exact ⟨L.length, 0, _, none, 0, Nat.le_refl _, rfl, Lib.hid (by first | rfl | omega | (simp; omega)), rfl, Lib.hid (by omega), Lib.hid (by rw [List.drop_eq_nil_of_le (Nat.le_refl _)]; exact World.ownsRow_nil _ _ _ _), Lib.hid (Below.refl _ _)⟩
      case round =>
        obtain ⟨wo, hwo⟩ : ∃ wo, wo = wr := ⟨_, rfl⟩
        subst hwo
        obtain ⟨k, n, z, Av, cv, hk, rfl, HZ, rfl, HN, HA, HB⟩ := hrel
        have HBN := Lib.hid (HB2.out.trans (HB.out.mono HB2.out.size))
        have hzo := HB.out.size
        rcases k with _ | j
        · obtain rfl : z = -1 := by have := HZ.out; simp at this; exact this
          have hnL : n = L.length := by have := HN.out; omega
          have HA2 := HA.out
          rw [List.drop_zero, hnL] at HA2
          rw [hnL]
          have HT := Lib.hid (show Sl wo wo.heap.size 5 encW Av L.reverse from Acc.slAny (.inl HA2) encW_len5 (by decide))
          clear HA HA2 HN HZ hnL hk
          have Q3 := Lib.hid (Q2.out.keep HB.out)
          have R3 := Lib.hid (R2.out.keep HB.out)
          have S3 := Lib.hid ((S2.out.below HB.out).more HB.out.size)
          have HAo := Lib.hid (show Below wo.heap.size wo (wo.alloc (.cells #[.string ⟨rm.1.toArray⟩, .int .i64 rm.2.1, .int .i64 rm.2.2.1, .int .i64 rm.2.2.2, .slice none 0 0] 29)) from (Below.refl _ _).alloc (Nat.le_refl _) _)
          have BK := Lib.hid (show Blk (wo.alloc (.cells #[.string ⟨rm.1.toArray⟩, .int .i64 rm.2.1, .int .i64 rm.2.2.1, .int .i64 rm.2.2.2, .slice none 0 0] 29)) wo.heap.size 29 #[.string ⟨rm.1.toArray⟩, .int .i64 rm.2.1, .int .i64 rm.2.2.1, .int .i64 rm.2.2.2, .slice none 0 0] from Blk.new _ _ _)
          have hzk : (wo.alloc (.cells #[.string ⟨rm.1.toArray⟩, .int .i64 rm.2.1, .int .i64 rm.2.2.1, .int .i64 rm.2.2.2, .slice none 0 0] 29)).heap.size = wo.heap.size + 1 := World.size_alloc _ _
          have HB3 := Lib.hid (HBN.out.trans (HAo.out.mono HBN.out.size))
          have Q4 := Lib.hid (Q3.out.keep HAo.out)
          have R4 := Lib.hid (R3.out.keep HAo.out)
          have S4 := Lib.hid (S3.out.below HAo.out)
          have HT4 := Lib.hid (HT.out.below HAo.out)
          have hR3 : w.heap.size + 1 < wo.heap.size := R3.out.lt
          obtain ⟨y0, y1, y2, y3, y4⟩ := manC (m := rm) (A := A0) (n := l0.length) (c := c0) Q3.out
          have y4' := cell_keep HAo.out y4
          have hwq : w.heap.size < wo.heap.size := Q3.out.lt
          obtain ⟨wn, hwn⟩ : ∃ wn, wn = wo := ⟨_, rfl⟩
          subst hwn
          obtain ⟨WB, hWB⟩ : ∃ W, W = wn.alloc (.cells #[.string ⟨rm.1.toArray⟩, .int .i64 rm.2.1, .int .i64 rm.2.2.1, .int .i64 rm.2.2.2, .slice none 0 0] 29) := ⟨_, rfl⟩
          rw [← hWB] at BK hzk HB3 Q4 R4 S4 HT4
          have HWB := Lib.hid hWB
          have hwl0 : IntKind.i64.wrap ((l0.length : Int) - 1) = (l0.length : Int) - 1 := by simp [IntKind.wrap, IntKind.bits, IntKind.signed]; omega
          clear hWB HT S3 HAo
          go_wp2_with fail
          go_loopw [12] (fun i wr => ∃ (k n : Nat) (z : Int) (Ab : Option Addr) (cb : Nat), k ≤ l0.length ∧ i = .int .i64 z ∧ Hid (z = (k : Int) - 1) ∧ Hid (n + k = l0.length) ∧ Hid (Blk wr wn.heap.size 29 #[.string ⟨rm.1.toArray⟩, .int .i64 rm.2.1, .int .i64 rm.2.2.1, .int .i64 rm.2.2.2, .slice Ab n cb]) ∧ Hid (wr.ownsRow (wn.heap.size + 1) 26 4 (.slice Ab n cb) n ((l0.drop k).reverse.flatMap encM)) ∧ Hid (Below wn.heap.size WB wr)) (fun i _ => (intOf i + 1).toNat)
          case atStart =>
            rw [← HWB.out]
            exact ⟨l0.length, 0, _, none, 0, Nat.le_refl _, rfl, Lib.hid (by first | rfl | omega | (simp; omega)), Lib.hid (by omega), BK, Lib.hid (by rw [List.drop_eq_nil_of_le (Nat.le_refl _)]; exact World.ownsRow_nil _ _ _ _), Lib.hid (Below.refl _ _)⟩
          case round =>
            obtain ⟨wo, hwo⟩ : ∃ wo, wo = wr := ⟨_, rfl⟩
            subst hwo
            clear HB HBN hzo
            obtain ⟨k, n, z, Ab, cb, hk, rfl, HZ, HN, HO, HA, HB⟩ := hrel
            have HBN := Lib.hid (HB3.out.trans (HB.out.mono (by omega)))
            have hzo := HB.out.size
            have Q5 := Lib.hid (blk_below Q4.out HB.out hwq)
            rcases k with _ | j
            · obtain rfl : z = -1 := by have := HZ.out; simp at this; exact this
              have hnL : n = l0.length := by have := HN.out; omega
              subst hnL
              rw [List.drop_zero] at HA
              have HSb := Lib.hid (show Sl wo wo.heap.size 4 encM Ab l0.reverse from Acc.slAny (.inl HA.out) encM_len (by decide))
              have HSt := Lib.hid ((HT4.out.below HB.out).more (show wn.heap.size ≤ wo.heap.size by omega))
              have HSl := Lib.hid ((S4.out.below HB.out).more (show wn.heap.size ≤ wo.heap.size by omega))
              have R5 := Lib.hid (blk_below R4.out HB.out hR3)
              have BK5 := HO
              have cBt0 := fun W (hW : Below wo.heap.size wo W) => BuildList_any Av cv L.reverse (rm, Ab, cb, l0.reverse) W (HRT.out Av W (HBN.out.trans (hW.mono HBN.out.size)) ((HSt.out.below hW).more hW.size)) (HMT.out Ab cb W ((HSb.out.below hW).more hW.size)) (HG.out.keep (HBN.out.trans (hW.mono HBN.out.size)))
              have cDt0 := fun W (hW : Below wo.heap.size wo W) => Downgrade_any Av cv L.reverse (rm, Ab, cb, l0.reverse) x W (HRT.out Av W (HBN.out.trans (hW.mono HBN.out.size)) ((HSt.out.below hW).more hW.size)) (HMT.out Ab cb W ((HSb.out.below hW).more hW.size)) HX.out (HG.out.keep (HBN.out.trans (hW.mono HBN.out.size)))
              simp only at cBt0 cDt0
              rw [HPB2.out] at cBt0
              rw [HPD2.out] at cDt0
              unfold RetB at cBt0
              unfold RetMF at cDt0
              simp only [List.length_reverse] at cBt0 cDt0
              have cBt := Lib.hid cBt0
              have cDt := Lib.hid cDt0
              clear HZ HN HA HO cBt0 cDt0 hk
              obtain ⟨z0, z1, z2, z3, z4⟩ := manC (m := rm) (A := Ab) (n := l0.length) (c := cb) BK5.out
              go_wp2_with fail
              refine (cBt.out _ (Below.refl _ _)).mono ?_
              rintro e w7 ⟨A7, c7, rfl, _, hS7, hb7⟩
              have HK7 := Lib.hid (show Below wo.heap.size wo w7 from hb7)
              have HB7 := Lib.hid (HBN.out.trans (hb7.mono HBN.out.size))
              have Q7 := Lib.hid (Q5.out.keep hb7)
              have R7 := Lib.hid (R5.out.keep hb7)
              have BK7 := Lib.hid (BK5.out.keep hb7)
              have SL7 := Lib.hid ((HSl.out.below hb7).more hb7.size)
              have SK7 := Lib.hid hS7
              clear hb7 hS7 cBt z0 z1 z2 z3 z4
              obtain ⟨y0, y1, y2, y3, y4⟩ := manC (m := rm) (A := A0) (n := l0.length) (c := c0) Q7.out
              obtain ⟨v0, v1, v2, v3⟩ := modC R7.out
              go_wp2_with fail
              refine (cD.out _ HB7.out).mono ?_
              rintro e w8 ⟨A8, c8, rfl, hS8, _, hb8⟩
              have HA8 := Lib.hid (show Below w8.heap.size w8 (w8.alloc (.cells #[.string ⟨m2.1.toArray⟩, .int .i64 m2.2.1, .int .i64 m2.2.2.1, .int .i64 m2.2.2.2, .slice A8 D2.length c8] 29)) from (Below.refl _ _).alloc (Nat.le_refl _) _)
              have HK8 := Lib.hid (HK7.out.trans ((hb8.trans (HA8.out.mono hb8.size)).mono HK7.out.size))
              have HB8 := Lib.hid (HBN.out.trans (HK8.out.mono HBN.out.size))
              have BK8 := Lib.hid ((BK7.out.keep hb8).keep HA8.out)
              have R8 := Lib.hid ((R7.out.keep hb8).keep HA8.out)
              have SL8 := Lib.hid ((((SL7.out.below hb8).more hb8.size).below HA8.out).more HA8.out.size)
              have SK8 := Lib.hid ((((SK7.out.below hb8).more hb8.size).below HA8.out).more HA8.out.size)
              have SD8 := Lib.hid ((hS8.below HA8.out).more HA8.out.size)
              have BD8 := Lib.hid (Blk.new w8 29 (manA m2 A8 D2.length c8))
              unfold manA at BD8
              clear hb8 hS8 cD y0 y1 y2 y3 y4 v0 v1 v2 v3
              obtain ⟨z0, z1, z2, z3, z4⟩ := manC (m := rm) (A := Ab) (n := l0.length) (c := cb) BK8.out
              obtain ⟨v0, v1, v2, v3⟩ := modC R8.out
              go_wp2_with fail
              refine (cDt.out _ HK8.out).mono ?_
              rintro e w9 ⟨A9, c9, rfl, hS9, _, hb9⟩
              have HA9 := Lib.hid (show Below w9.heap.size w9 (w9.alloc (.cells #[.string ⟨m2.1.toArray⟩, .int .i64 m2.2.1, .int .i64 m2.2.2.1, .int .i64 m2.2.2.2, .slice A9 D2.length c9] 29)) from (Below.refl _ _).alloc (Nat.le_refl _) _)
              have HBX := Lib.hid (HB8.out.trans (hb9.mono HB8.out.size))
              have HB9 := Lib.hid (HBX.out.trans (HA9.out.mono HBX.out.size))
              have SL9 := Lib.hid ((((SL8.out.below hb9).more hb9.size).below HA9.out).more HA9.out.size)
              have SK9 := Lib.hid ((((SK8.out.below hb9).more hb9.size).below HA9.out).more HA9.out.size)
              have SD9 := Lib.hid ((((SD8.out.below hb9).more hb9.size).below HA9.out).more HA9.out.size)
              have BD9 := Lib.hid ((BD8.out.keep hb9).keep HA9.out)
              have SE9 := Lib.hid ((hS9.below HA9.out).more HA9.out.size)
              have BE9 := Lib.hid (Blk.new w9 29 (manA m2 A9 D2.length c9))
              unfold manA at BE9
              clear hb9 hS9 cDt z0 z1 z2 z3 z4 v0 v1 v2 v3
              have cE := Lib.hid (rSame_any A2 c2 bl A7 c7 bl _ SL9.out SK9.out HBl.out HBl.out)
              have cF := Lib.hid (fun W (hW : Below _ _ W) => Same_any m2 A8 c8 D2 m2 A9 c9 D2 W ((SD9.out.below hW).more hW.size) ((SE9.out.below hW).more hW.size) HDL.out HDL.out)
              go_wp2_with fail
              refine cE.out.mono ?_
              rintro e w10 ⟨rfl, hb10⟩
              have HB10 := Lib.hid (HB9.out.trans (hb10.mono HB9.out.size))
              have BD10 := Lib.hid (BD9.out.keep hb10)
              have BE10 := Lib.hid (BE9.out.keep hb10)
              have cF10 := Lib.hid (cF.out _ hb10)
              clear hb10 cE cF
              obtain ⟨y0, y1, y2, y3, y4⟩ := manC BD10.out
              obtain ⟨z0, z1, z2, z3, z4⟩ := manC BE10.out
              simp only [decide_true]
              go_wp2_with fail
              refine cF10.out.mono ?_
              rintro e w11 ⟨rfl, hb11⟩
              have HB11 := Lib.hid (HB10.out.trans (hb11.mono HB10.out.size))
              clear hb11 cF10 y0 y1 y2 y3 y4 z0 z1 z2 z3 z4
              simp only [and_self, decide_true]
              go_wp2_with fail
              refine (cX.out _ HB11.out).mono ?_
              rintro e w20 ⟨rfl, hb20⟩
              have HBF := Lib.hid (HB11.out.trans (hb20.mono HB11.out.size))
              clear hb20 cX
              go_wp2
              go_ret
              exact ⟨rfl, HBF.out⟩
            · obtain rfl : z = (j : Int) := by have := HZ.out; simp at this; exact this
              have hj : j < l0.length := hk
              have hj' : (j : Int) < (l0.length : Int) := by omega
              have hj0 : (0 : Int) ≤ (j : Int) := by omega
              have hn1 : n ≤ 1000000 := by have := HN.out; omega
              have HSl : Sl wo w.heap.size 4 encM A0 l0 := HM0.out.1.below HBN.out
              obtain ⟨bb, off, hA0, hb0, g0, g1, g2, g3⟩ := HSl.mod hj
              have HRv := Lib.hid (rev_step hj)
              generalize l0[j] = x at g0 g1 g2 g3 HRv
              have HA0 := Lib.hid hA0
              obtain ⟨r0, r1, r2, r3, r4⟩ := manC (m := rm) (A := A0) (n := l0.length) (c := c0) Q5.out
              rw [hA0] at r4
              have hbb : bb < wn.heap.size := by omega
              have hwB := hwq
              clear hA0 HSl
              go_upto_region 15 with fail
              apply wp_region_each (by kernel_rfl) (BackInv wn.heap.size wo wn.heap.size w.heap.size rm x Ab n cb (.slice (some ⟨bb, off, none⟩) l0.length c0) (.pointer (some ⟨bb, off + j * 4, none⟩)) ((l0.drop (j + 1)).reverse.flatMap encM) _ _ _ _ _ _ _ _ _ _ _ _ _ _ _ _ _ _ _ _ _ _ _ _ _ _ _ _ _ _ _ _ _ _ _ _ _ _ _ _ _ _ _ _ _ _ _ _ _ _ _ _ _ _ _ _ _ _ _ _ _ _ _ _ _ _ _ _ _ _ _ _ _ _ _ _ _ _ _ _ _ _ _ _ _ _ _ _ _ _ _ _ _ _ _ _ _ _) ?hsz ?h0 ?step (by kernel_rfl) ?fin
              case h0 =>
                exact ⟨false, false, false, false, false, false, false, false, false, false, false, _, _, _, _, _, _, _, _, _, _, rfl, rfl, (Below.refl _ _).drew, fun h => absurd h (by decide), fun h => absurd h (by decide), fun h => absurd h (by decide), fun h => absurd h (by decide), fun h => absurd h (by decide), fun h => absurd h (by decide), fun h => absurd h (by decide), fun h => absurd h (by decide), fun h => absurd h (by decide), fun h => absurd h (by decide), fun h => absurd h (by decide), fun _ => HO.out, fun _ => HA.out⟩
              case hsz =>
                rintro L a w ⟨b0, b1, b2, b3, b4, b5, b6, b7, b8, b9, b10, s58, s59, s60, s61, s62, s63, s64, s65, s66, s67, rfl, _⟩
                rfl
              case step =>
                rintro i o ho L a W hn hd ⟨b0, b1, b2, b3, b4, b5, b6, b7, b8, b9, b10, s58, s59, s60, s61, s62, s63, s64, s65, s66, s67, rfl, rfl, hB, h0, h1, h2, h3, h4, h5, h6, h7, h8, h9, h10, x0, x1⟩
                have hBz := Nat.le_trans (show wn.heap.size ≤ wo.heap.size by omega) hB.size
                match i, ho with
                | 0, ho =>
                  simp at ho; subst ho
                  simp only [Region.wanted, if_true]
                  left
                  go_simp
                  exact ⟨true, b1, b2, b3, b4, b5, b6, b7, b8, b9, b10, _, _, _, _, _, _, _, _, _, _, rfl, rfl, hB, fun _ => rfl, (by first | exact h1 | exact fun _ => rfl), (by first | exact h2 | exact fun _ => rfl), (by first | exact h3 | exact fun _ => rfl), (by first | exact h4 | exact fun _ => rfl), (by first | exact h5 | exact fun _ => rfl), (by first | exact h6 | exact fun _ => rfl), (by first | exact h7 | exact fun _ => rfl), (by first | exact h8 | exact fun _ => rfl), (by first | exact h9 | exact fun _ => rfl), (by first | exact h10 | exact fun _ => rfl), x0, x1⟩
                | 1, ho =>
                  simp at ho; subst ho
                  have e0 : b0 = true := by simp [Region.binds] at hd; simp [hd]
                  subst e0
                  obtain rfl := h0 rfl
                  simp at hn
                  subst hn
                  have hb10 : b10 = false := by cases b10 with | false => rfl | true => exact absurd (h10 rfl).1 (by decide)
                  subst hb10
                  have k4 := (x0 rfl).cell 4
                  simp at k4
                  simp only [Region.wanted, if_true]
                  left
                  go_simp
                  exact ⟨true, true, b2, b3, b4, b5, b6, b7, b8, b9, false, _, _, _, _, _, _, _, _, _, _, rfl, rfl, hB, (by first | exact h0 | exact fun _ => rfl), fun _ => rfl, (by first | exact h2 | exact fun _ => rfl), (by first | exact h3 | exact fun _ => rfl), (by first | exact h4 | exact fun _ => rfl), (by first | exact h5 | exact fun _ => rfl), (by first | exact h6 | exact fun _ => rfl), (by first | exact h7 | exact fun _ => rfl), fun hh => absurd (h8 hh).1 (by decide), (by first | exact h9 | exact fun _ => rfl), fun hh => absurd hh (by decide), x0, x1⟩
                | 2, ho =>
                  simp at ho; subst ho
                  simp only [Region.wanted, if_true]
                  left
                  go_simp
                  exact ⟨b0, b1, true, b3, b4, b5, b6, b7, b8, b9, b10, _, _, _, _, _, _, _, _, _, _, rfl, rfl, hB, (by first | exact h0 | exact fun _ => rfl), (by first | exact h1 | exact fun _ => rfl), fun _ => rfl, (by first | exact h3 | exact fun _ => rfl), (by first | exact h4 | exact fun _ => rfl), (by first | exact h5 | exact fun _ => rfl), (by first | exact h6 | exact fun _ => rfl), (by first | exact h7 | exact fun _ => rfl), (by first | exact h8 | exact fun _ => rfl), (by first | exact h9 | exact fun _ => rfl), (by first | exact h10 | exact fun _ => rfl), x0, x1⟩
                | 3, ho =>
                  simp at ho; subst ho
                  have e2 : b2 = true := by simp [Region.binds] at hd; simp [hd]
                  subst e2
                  obtain rfl := h2 rfl
                  have hy4 := hB.cell (p := ⟨w.heap.size, 4, none⟩) hwB
                  rw [r4] at hy4
                  simp only [Region.wanted, if_true]
                  left
                  go_simp
                  exact ⟨b0, b1, true, true, b4, b5, b6, b7, b8, b9, b10, _, _, _, _, _, _, _, _, _, _, rfl, rfl, hB, (by first | exact h0 | exact fun _ => rfl), (by first | exact h1 | exact fun _ => rfl), (by first | exact h2 | exact fun _ => rfl), fun _ => rfl, (by first | exact h4 | exact fun _ => rfl), (by first | exact h5 | exact fun _ => rfl), (by first | exact h6 | exact fun _ => rfl), (by first | exact h7 | exact fun _ => rfl), (by first | exact h8 | exact fun _ => rfl), (by first | exact h9 | exact fun _ => rfl), (by first | exact h10 | exact fun _ => rfl), x0, x1⟩
                | 4, ho =>
                  simp at ho; subst ho
                  simp only [Region.wanted, if_true]
                  left
                  go_simp
                  exact ⟨b0, b1, b2, b3, true, b5, b6, b7, b8, b9, b10, _, _, _, _, _, _, _, _, _, _, rfl, rfl, hB, (by first | exact h0 | exact fun _ => rfl), (by first | exact h1 | exact fun _ => rfl), (by first | exact h2 | exact fun _ => rfl), (by first | exact h3 | exact fun _ => rfl), fun _ => rfl, (by first | exact h5 | exact fun _ => rfl), (by first | exact h6 | exact fun _ => rfl), (by first | exact h7 | exact fun _ => rfl), (by first | exact h8 | exact fun _ => rfl), (by first | exact h9 | exact fun _ => rfl), (by first | exact h10 | exact fun _ => rfl), x0, x1⟩
                | 5, ho =>
                  simp at ho; subst ho
                  have e3 : b3 = true := by simp [Region.binds] at hd; simp [hd]
                  have e4 : b4 = true := by simp [Region.binds] at hd; simp [hd]
                  subst e3
                  subst e4
                  obtain rfl := h3 rfl
                  obtain rfl := h4 rfl
                  simp only [Region.wanted, if_true]
                  left
                  go_simp
                  exact ⟨b0, b1, b2, true, true, true, b6, b7, b8, b9, b10, _, _, _, _, _, _, _, _, _, _, rfl, rfl, hB, (by first | exact h0 | exact fun _ => rfl), (by first | exact h1 | exact fun _ => rfl), (by first | exact h2 | exact fun _ => rfl), (by first | exact h3 | exact fun _ => rfl), (by first | exact h4 | exact fun _ => rfl), fun _ => rfl, (by first | exact h6 | exact fun _ => rfl), (by first | exact h7 | exact fun _ => rfl), (by first | exact h8 | exact fun _ => rfl), (by first | exact h9 | exact fun _ => rfl), (by first | exact h10 | exact fun _ => rfl), x0, x1⟩
                | 6, ho =>
                  simp at ho; subst ho
                  have e5 : b5 = true := by simp [Region.binds] at hd; simp [hd]
                  subst e5
                  obtain rfl := h5 rfl
                  have hx0 := hB.cell (p := ⟨bb, off + j * 4, none⟩) hbb
                  have hx1 := hB.cell (p := ⟨bb, off + j * 4 + 1, none⟩) hbb
                  have hx2 := hB.cell (p := ⟨bb, off + j * 4 + 2, none⟩) hbb
                  have hx3 := hB.cell (p := ⟨bb, off + j * 4 + 3, none⟩) hbb
                  rw [g0] at hx0
                  rw [g1] at hx1
                  rw [g2] at hx2
                  rw [g3] at hx3
                  simp only [Region.wanted, if_true]
                  left
                  go_simp
                  exact ⟨b0, b1, b2, b3, b4, true, true, b7, b8, b9, b10, _, _, _, _, _, _, _, _, _, _, rfl, rfl, hB, (by first | exact h0 | exact fun _ => rfl), (by first | exact h1 | exact fun _ => rfl), (by first | exact h2 | exact fun _ => rfl), (by first | exact h3 | exact fun _ => rfl), (by first | exact h4 | exact fun _ => rfl), (by first | exact h5 | exact fun _ => rfl), fun _ => rfl, (by first | exact h7 | exact fun _ => rfl), (by first | exact h8 | exact fun _ => rfl), (by first | exact h9 | exact fun _ => rfl), (by first | exact h10 | exact fun _ => rfl), x0, x1⟩
                | 7, ho =>
                  simp at ho; subst ho
                  have e6 : b6 = true := by simp [Region.binds] at hd; simp [hd]
                  subst e6
                  obtain rfl := h6 rfl
                  simp only [Region.wanted, if_true]
                  left
                  go_simp
                  exact ⟨b0, b1, b2, b3, b4, b5, true, true, b8, b9, b10, _, _, _, _, _, _, _, _, _, _, rfl, rfl, hB.trans ((((Below.refl W.heap.size W).alloc (Nat.le_refl _) (.cells #[.string ⟨x.1.toArray⟩, .int .i64 x.2.1, .int .i64 x.2.2.1, .int .i64 x.2.2.2] 26))).mono hBz), (by first | exact h0 | exact fun _ => rfl), (by first | exact h1 | exact fun _ => rfl), (by first | exact h2 | exact fun _ => rfl), (by first | exact h3 | exact fun _ => rfl), (by first | exact h4 | exact fun _ => rfl), (by first | exact h5 | exact fun _ => rfl), (by first | exact h6 | exact fun _ => rfl), fun _ => fun _ => ⟨_, rfl, Blk.new W 26 (modA x)⟩, (by first | exact fun hh => (match (h8 hh) with | ⟨q, A, c, e, h1⟩ => ⟨q, A, c, e, own_below2 h1 ((Below.refl W.heap.size W).alloc (Nat.le_refl _) (.cells #[.string ⟨x.1.toArray⟩, .int .i64 x.2.1, .int .i64 x.2.2.1, .int .i64 x.2.2.2] 26))⟩) | exact fun _ => rfl), (by first | exact h9 | exact fun _ => rfl), (by first | exact fun hh => (match (h10 hh) with | ⟨q1, q2, A, c, e, h1⟩ => ⟨q1, q2, A, c, e.keep ((Below.refl W.heap.size W).alloc (Nat.le_refl _) (.cells #[.string ⟨x.1.toArray⟩, .int .i64 x.2.1, .int .i64 x.2.2.1, .int .i64 x.2.2.2] 26)), own_below2 h1 ((Below.refl W.heap.size W).alloc (Nat.le_refl _) (.cells #[.string ⟨x.1.toArray⟩, .int .i64 x.2.1, .int .i64 x.2.2.1, .int .i64 x.2.2.2] 26))⟩) | exact fun _ => rfl), fun hc => (x0 hc).keep ((Below.refl W.heap.size W).alloc (Nat.le_refl _) (.cells #[.string ⟨x.1.toArray⟩, .int .i64 x.2.1, .int .i64 x.2.2.1, .int .i64 x.2.2.2] 26)), fun hc => own_below2 (x1 hc) ((Below.refl W.heap.size W).alloc (Nat.le_refl _) (.cells #[.string ⟨x.1.toArray⟩, .int .i64 x.2.1, .int .i64 x.2.2.1, .int .i64 x.2.2.2] 26))⟩
                | 8, ho =>
                  simp at ho; subst ho
                  have e1 : b1 = true := by simp [Region.binds] at hd; simp [hd]
                  have e7 : b7 = true := by simp [Region.binds] at hd; simp [hd]
                  subst e1
                  subst e7
                  obtain rfl := h1 rfl
                  simp at hn
                  subst hn
                  have hb10 : b10 = false := by cases b10 with | false => rfl | true => exact absurd (h10 rfl).2.1 (by decide)
                  subst hb10
                  obtain ⟨g9, rfl, hk9⟩ := h7 rfl rfl
                  have hO9 := x1 rfl
                  obtain ⟨A7, c7, W2, hap, hO7, hb7⟩ := row_snoc hO9 hk9 (show wn.heap.size + 1 ≤ W.heap.size from by have := hB.size; omega) (by omega)
                  simp only [Region.wanted, if_true]
                  left
                  refine wp_app1 (.tmp 59) (.tmp 65) _ _ rfl _ _ (by simp [Act.eval]) (by simp [Act.eval]) hap ?_
                  exact ⟨b0, true, b2, b3, b4, b5, b6, true, true, b9, false, _, _, _, _, _, _, _, _, _, _, rfl, rfl, hB.trans (hb7.mono (Nat.le_succ _)), (by first | exact h0 | exact fun _ => rfl), (by first | exact h1 | exact fun _ => rfl), (by first | exact h2 | exact fun _ => rfl), (by first | exact h3 | exact fun _ => rfl), (by first | exact h4 | exact fun _ => rfl), (by first | exact h5 | exact fun _ => rfl), (by first | exact h6 | exact fun _ => rfl), fun _ hc => absurd hc (by decide), fun _ => ⟨rfl, A7, c7, rfl, hO7⟩, (by first | exact h9 | exact fun _ => rfl), fun hh => absurd hh (by decide), fun _ => blk_below (x0 rfl) hb7 (Nat.lt_succ_self _), fun hc => absurd hc (by decide)⟩
                | 9, ho =>
                  simp at ho; subst ho
                  simp only [Region.wanted, if_true]
                  left
                  go_simp
                  exact ⟨b0, b1, b2, b3, b4, b5, b6, b7, b8, true, b10, _, _, _, _, _, _, _, _, _, _, rfl, rfl, hB, (by first | exact h0 | exact fun _ => rfl), (by first | exact h1 | exact fun _ => rfl), (by first | exact h2 | exact fun _ => rfl), (by first | exact h3 | exact fun _ => rfl), (by first | exact h4 | exact fun _ => rfl), (by first | exact h5 | exact fun _ => rfl), (by first | exact h6 | exact fun _ => rfl), (by first | exact h7 | exact fun _ => rfl), (by first | exact h8 | exact fun _ => rfl), fun _ => rfl, (by first | exact h10 | exact fun _ => rfl), x0, x1⟩
                | 10, ho =>
                  simp at ho; subst ho
                  have e8 : b8 = true := by simp [Region.binds] at hd; simp [hd]
                  have e9 : b9 = true := by simp [Region.binds] at hd; simp [hd]
                  subst e8
                  subst e9
                  obtain ⟨e1, A7, c7, rfl, hO7⟩ := h8 rfl
                  obtain rfl := h9 rfl
                  simp at hn
                  subst hn
                  subst e1
                  have p8 := x0 rfl
                  have k4 := p8.cell 4
                  have f4 := p8.free 4
                  simp at k4
                  simp only [Region.wanted, if_true]
                  left
                  go_simp
                  exact ⟨b0, true, b2, b3, b4, b5, b6, b7, true, true, true, _, _, _, _, _, _, _, _, _, _, rfl, rfl, hB.setCell (p := ⟨wn.heap.size, 4, none⟩) (Nat.le_refl _) _, (by first | exact h0 | exact fun _ => rfl), (by first | exact h1 | exact fun _ => rfl), (by first | exact h2 | exact fun _ => rfl), (by first | exact h3 | exact fun _ => rfl), (by first | exact h4 | exact fun _ => rfl), (by first | exact h5 | exact fun _ => rfl), (by first | exact h6 | exact fun _ => rfl), fun _ hc => absurd hc (by decide), fun _ => ⟨rfl, A7, c7, rfl, own_set hO7 (by exact Nat.lt_succ_self _) _⟩, (by first | exact h9 | exact fun _ => rfl), fun _ => ⟨rfl, rfl, A7, c7, p8.set_ 4 _, own_set hO7 (by exact Nat.lt_succ_self _) _⟩, fun hc => absurd hc (by decide), fun hc => absurd hc (by decide)⟩
                | i + 11, ho => simp at ho
              case fin =>
                rintro L a wf hr ⟨b0, b1, b2, b3, b4, b5, b6, b7, b8, b9, b10, s58, s59, s60, s61, s62, s63, s64, s65, s66, s67, hL, rfl, hB, h0, h1, h2, h3, h4, h5, h6, h7, h8, h9, h10, x0, x1⟩
                subst hL
                obtain rfl : b10 = true := hr 10 (by decide)
                obtain ⟨_, _, A7, c7, hb7, hO7⟩ := h10 rfl
                clear hr h0 h1 h2 h3 h4 h5 h6 h7 h8 h9 h10 x0 x1
                have HO7 := Lib.hid hb7
                have HA7 := Lib.hid hO7
                have HB7 := Lib.hid (HB.out.trans hB)
                clear hB hb7 hO7
                go_wp2
                go_roundw
                case rel => exact ⟨j, n + 1, _, A7, c7, by omega, rfl, Lib.hid (by go_num), Lib.hid (by have := HN.out; omega), HO7, Lib.hid (by rw [HRv.out, List.flatMap_append]; simpa using HA7.out), HB7⟩
                case measure => first | (simp [intOf]; done) | (simp [intOf]; omega)
        · obtain rfl : z = (j : Int) := by have := HZ.out; simp at this; exact this
          have hj : j < L.length := hk
          have hj' : (j : Int) < (L.length : Int) := by omega
          have hj0 : (0 : Int) ≤ (j : Int) := by omega
          obtain ⟨b1, off1, hA1, hb1, g0, g1, g2, g3, g4⟩ := (HR.out _ HBN.out).1.man hj
          have HRv := Lib.hid (rev_step hj)
          subst hA1
          generalize L[j] = yj at g0 g1 g2 g3 g4 HRv
          obtain ⟨u, Au, cu, lu⟩ := yj
          simp only at g0 g1 g2 g3 g4
          have b0 : n + 1 ≤ maxLen := by have := HN.out; unfold maxLen; omega
          have b1 : (n + 1) * 64 ≤ 140737488355328 := by have := HN.out; omega
          have HWA := Lib.hid (show Below wo.heap.size wo (wo.alloc (.cells #[.string ⟨u.1.toArray⟩, .int .i64 u.2.1, .int .i64 u.2.2.1, .int .i64 u.2.2.2, .slice Au lu.length cu] 29)) from (Below.refl _ _).alloc (Nat.le_refl _) _)
          have HAA := Lib.hid (own_below2 HA.out HWA.out)
          have hbz : w2.heap.size ≤ (wo.alloc (.cells #[.string ⟨u.1.toArray⟩, .int .i64 u.2.1, .int .i64 u.2.2.1, .int .i64 u.2.2.2, .slice Au lu.length cu] 29)).heap.size := by have := HWA.out.size; omega
          go_wp2_with (at_builtin; refine wpList_own rfl (.tmp 40) (.tmp 45) rfl w2.heap.size elMan (.slice Av n cv) n _ rfl HAA.out _ 1 _ _ rfl (Src.lit _ 5 _ _ 1 rfl) (by decide) (by simp [Value.oneCell']) b0 b1 hbz ?_; intro v' w7 hown7 hgrow7 hb7; obtain ⟨A7, c7, rfl⟩ := Acc.shape (.inl hown7); have HOWN := Lib.hid hown7; have HB7 := Lib.hid hb7; clear hown7 hgrow7 hb7)
          go_roundw
          case rel => exact ⟨j, n + 1, _, A7, c7, by omega, rfl, Lib.hid (by go_num), rfl, Lib.hid (by have := HN.out; omega), Lib.hid (by rw [HRv.out, List.flatMap_append]; simpa [encW] using HOWN.out), Lib.hid ((HB.out.trans (HWA.out.mono hzo)).trans HB7.out)⟩
          case measure => first | (simp [intOf]; done) | (simp [intOf]; omega)
    · have he : (e1 != 0) = true := by simpa using he1
      clear he1
      go_wp2_with fail
      refine (cX.out _ HB2.out).mono ?_
      rintro e w20 ⟨rfl, hb20⟩
      have HBF := Lib.hid (HB2.out.trans (hb20.mono HB2.out.size))
      clear hb20 cX
      go_wp2
      go_ret
      exact ⟨rfl, HBF.out⟩

set_option maxRecDepth 100000 in
theorem contract (H : Type) (enc : TypeId × Value → H) (W : World) (base : Nat) (args : Array Value) (ds gs : List (DataW H)) (before : List MemPlace)
    (hval : ∀ (j : Nat) t v, Tryd.f4.params[j]? = some t → args[j]? = some v → Value.okWide Tryd.prog W .any base t v)
    (hW : DataW.Whole enc Tryd.prog Tryd.f4.params.toList Rows.selectionTurnsSpec.vars false W args.toList ds gs before) (hk : Rows.uptoSmall H (ds ++ gs) = true) (hG : Glob W) :
    Calls Tryd.prog 4 args W fun e W' => ∃ v, e = .returned v ∧ Rows.selectionTurnsSpec.post enc Tryd.prog Tryd.f4 false true false false W args v W' := by
  have hW' := hW
  obtain ⟨p, q, hA0, hV, rfl, hfz, hnd⟩ := hW
  have hA : DataW.TrodAll enc Tryd.prog W 0 (fun _ => true) true Tryd.f4.params.toList args.toList ds p := hA0
  rw [Tryd.params4] at hA hval
  obtain ⟨v0, vs0, d0, ds0, p0, q0, hargs, rfl, rfl, h0, r0⟩ := trodAll_cons hA
  obtain ⟨v1, vs1, d1, ds1, p1, q1, rfl, rfl, rfl, h1, r1⟩ := trodAll_cons r0
  obtain ⟨v2, vs2, d2, ds2, p2, q2, rfl, rfl, rfl, h2, r2⟩ := trodAll_cons r1
  obtain ⟨rfl, rfl, rfl⟩ := trodAll_nil r2
  obtain rfl : args = #[v0, v1, v2] := by cases args; simp_all
  obtain ⟨rfl, rfl⟩ := trodVars_none hV
  obtain ⟨A0, c0, L0, rfl, hS0, hO0, _, hN0⟩ := open_sl Tryd.underlying22 (opens_manifests W 1048576) (hval 0 22 v0 rfl rfl) h0 (by have := bulk_of hk; simp only [List.append_nil, Rows.uptoBulkAll] at this; omega)
  have hl0 : L0.length ≤ 1048576 := by omega
  obtain ⟨r1x, rfl, hO1⟩ := open_st Tryd.underlying29 (opens_manifest W 1048576) (hval 1 29 v1 rfl rfl) h1 (by have := bulk_of hk; simp only [List.append_nil, Rows.uptoBulkAll] at this; omega)
  obtain ⟨r2x, rfl, hO2⟩ := open_st Tryd.underlying26 (opens_module W 1048576) (hval 2 26 v2 rfl rfl) h2 (by have := bulk_of hk; simp only [List.append_nil, Rows.uptoBulkAll] at this; omega)
  clear hA0
  have hw := walk A0 c0 L0 r1x r2x W hS0 hO0 hl0 hO1 hO2 hG
  refine hw.mono fun e W' ⟨he, hb⟩ => ?_
  subst he
  exact ⟨_, rfl, law_post hW' rfl (by kernel_rfl) (by kernel_rfl) rfl rfl rfl hb⟩

set_option maxRecDepth 100000 in
theorem reads (os : Os) {H : Type} (enc : TypeId × Value → H) : ∃ places, DataW.whole enc Tryd.prog ((laidWorld os).forCall (fun _ _ => 0) ⟨#[], #[.slice none 0 0, .agg #[.string ByteArray.empty, .int .i64 0, .int .i64 0, .int .i64 0, .slice none 0 0], .agg #[.string ByteArray.empty, .int .i64 0, .int .i64 0, .int .i64 0]], []⟩).memory Tryd.f4.params.toList Rows.selectionTurnsSpec.vars false (#[.slice none 0 0, .agg #[.string ByteArray.empty, .int .i64 0, .int .i64 0, .int .i64 0, .slice none 0 0], .agg #[.string ByteArray.empty, .int .i64 0, .int .i64 0, .int .i64 0]] : Array Value).toList 8 = some ([.nil, .agg [.agg [.lit (.string []), .agg [.lit (.int .i64 0), .lit (.int .i64 0), .lit (.int .i64 0)]], .nil], .agg [.lit (.string []), .agg [.lit (.int .i64 0), .lit (.int .i64 0), .lit (.int .i64 0)]]], [], places) :=
  ⟨[], by kernel_rfl⟩

set_option maxRecDepth 100000 in
theorem lifted (os : Os) (started : os.Started) (H : Type) (enc : TypeId × Value → H) (F : Stop.Interp) :
    ReturnsInHanded {} Tryd.checked os 4 .any ((Rows.OpenSpec.upto Rows.selectionTurnsSpec).preRow enc Tryd.prog Tryd.f4 Rows.selectionTurnsUptoRow.domain false Rows.selectionTurnsUptoRow.laid) (((Rows.OpenSpec.upto Rows.selectionTurnsSpec).at F).post enc Tryd.prog Tryd.f4 false true false false) := by
  obtain ⟨places, hx⟩ := reads os enc
  refine returnsInHanded_of_row (C := Tryd.checked) (s := Rows.OpenSpec.upto Rows.selectionTurnsSpec) own started (by kernel_rfl) Tryd.func4
    (witness_row_at (enc := enc) (C := Tryd.checked) false (laidWorld os) #[.slice none 0 0, .agg #[.string ByteArray.empty, .int .i64 0, .int .i64 0, .int .i64 0, .slice none 0 0], .agg #[.string ByteArray.empty, .int .i64 0, .int .i64 0, .int .i64 0]] (World.laidAll_os _ _ _) (by kernel_rfl) (by kernel_rfl) (by kernel_rfl)
      (OpenSpec.preRow_of_cond 8 hx (by kernel_rfl) (fun k hk => by cases hk; kernel_rfl) (by kernel_rfl) (laid_met os _))) ?_
  intro W base args ds gs before hval hW _ hcond _ hL hsh _
  exact contract H enc W base args ds gs before hval hW (hcond _ rfl) (glob_of hL hsh)

set_option maxRecDepth 100000 in
theorem said : Rows.SelectionTurnsUptoSaid :=
  OpenClaim.holds_of_cond 4 Tryd.f4 rfl rfl rfl rfl rfl rfl rfl ⟨rfl, rfl, rfl, rfl, rfl⟩ rfl rfl rfl rfl rfl (by kernel_rfl) Tryd.func4 (by kernel_rfl)
    (of_decide_eq_true (by kernel_rfl)) (by unfold Func.isWrapper; first | (rw [if_pos (by decide +kernel)]; kernel_rfl) | (rw [if_neg (by decide +kernel)]; exact ⟨rfl, rfl⟩))
    (fun os started H enc _ F => by rw [OpenClaim.pre_eq_preRow]; exact lifted os started H enc F)

set_option maxRecDepth 100000 in
theorem plain (f : FuncId) (fn : Func) (hf : Tryd.pinned.checked.prog.funcNamed "configlang/configlanglaw46.SelectionTurns" = some f) (hfn : Tryd.pinned.checked.prog.funcs[f]? = some fn) :
    false = Tryd.pinned.checked.prog.looks [] ∧ ∀ (j : Nat) t, fn.params[j]? = some t → Tryd.pinned.checked.prog.wantsStandIn t = false := by
  obtain rfl : f = 4 := Option.some.inj ((show Tryd.prog.funcNamed "configlang/configlanglaw46.SelectionTurns" = some 4 by kernel_rfl).symm.trans hf) |>.symm
  obtain rfl : fn = Tryd.f4 := (Option.some.inj (Tryd.func4.symm.trans hfn)).symm
  refine ⟨by kernel_rfl, fun j t ht => ?_⟩
  rw [Tryd.params4] at ht
  have hm : t = 22 ∨ t = 29 ∨ t = 26 := by simpa using Array.mem_of_getElem? ht
  rcases hm with rfl | rfl | rfl
  · exact (show Tryd.prog.wantsStandIn 22 = false by kernel_rfl)
  · exact (show Tryd.prog.wantsStandIn 29 = false by kernel_rfl)
  · exact (show Tryd.prog.wantsStandIn 26 = false by kernel_rfl)

set_option maxRecDepth 100000 in
theorem card : Rows.SelectionTurnsUptoCardSaid :=
  Claim7.holds_tied_plain_at .later [] _ _ _ _ said (fun _ h => by cases h) (by kernel_rfl) (fun _ h => by cases h) selectionTurnsUpto_row_tie rfl ⟨rfl, rfl⟩ (by kernel_rfl) rfl plain (by kernel_rfl)
end Go.Proofs.YtfiilbdkhelhgaaDoor.lawTurns
