/- Walk: a root that requires a module (selection.require). -/
import Derived.Test.YtfiilbdkhelhgaaDoorWS8
import Derived.Test.YtfiilbdkhelhgaaDoorPS7
namespace Go.Proofs.YtfiilbdkhelhgaaDoor
open Go.RowKit Go.Sort

theorem own_set_ne {W : World} {base e size n : Nat} {v : Value} {xs : List Value} (h : W.ownsRow base e size v n xs) {p : Addr} (hne : v.ownBlock ≠ some p.block) (u : Value) : (W.setCell p u).ownsRow base e size v n xs := h.kept (grown_set W p u) (.inr hne)
theorem Src.lit2 (w : World) (size e : Nat) (cs : Array Value) (m : Nat) (h : cs.size = m * size) {g : Nat} (hg : w.heap.size = g) : Src (w.alloc (.cells cs e)) size (some ⟨g, 0, none⟩) m cs.toList := by
  subst hg
  exact Src.lit w size e cs m h
theorem own_new {W : World} {base e size n : Nat} {v : Value} {xs : List Value} (h : W.ownsRow base e size v n xs) : v.ownBlock ≠ some W.heap.size := fun e => by have := (h.lt _ e).2; omega
theorem upL_ne (m : Mod) (l : List Mod) : upL m l ≠ [] := by
  unfold upL
  cases l with
  | nil => simp [hasP]
  | cons x l => simp

set_option maxRecDepth 100000 in
set_option maxHeartbeats 4000000 in
theorem require_any (A0 : Option Addr) (c0 : Nat) (l0 : List Mod) (rm m : Mod) (w : World) (hS : Sl w w.heap.size 4 encM A0 l0) (hl : l0.length ≤ 100) :
    Calls Tryd.prog 41 #[.agg #[.string ⟨rm.1.toArray⟩, .int .i64 rm.2.1, .int .i64 rm.2.2.1, .int .i64 rm.2.2.2, .slice A0 l0.length c0], .agg #[.string ⟨m.1.toArray⟩, .int .i64 m.2.1, .int .i64 m.2.2.1, .int .i64 m.2.2.2]] w fun e w' => ∃ A' c', e = .returned (.agg #[.string ⟨rm.1.toArray⟩, .int .i64 rm.2.1, .int .i64 rm.2.2.1, .int .i64 rm.2.2.2, .slice A' (upL m l0).length c']) ∧ Sl w' w'.heap.size 4 encM A' (msort (upL m l0)) ∧ (∀ a, A' = some a → w.heap.size ≤ a.block) ∧ Below w.heap.size w w' := by
  have HS := Lib.hid hS
  have e3 : (((w.alloc (.cells (manA rm A0 l0.length c0) 29)).alloc (.cells (modA m) 26)).alloc (.cells (manA zmod none 0 0) 29)).heap.size = w.heap.size + 1 + 1 + 1 := by simp
  have q0 : Blk (((w.alloc (.cells (manA rm A0 l0.length c0) 29)).alloc (.cells (modA m) 26)).alloc (.cells (manA zmod none 0 0) 29)) w.heap.size 29 (manA rm A0 l0.length c0) := ((Blk.new w 29 (manA rm A0 l0.length c0)).keep ((Below.refl _ _).alloc (Nat.le_refl _) _)).keep ((Below.refl _ _).alloc (Nat.le_refl _) _)
  have q1 : Blk (((w.alloc (.cells (manA rm A0 l0.length c0) 29)).alloc (.cells (modA m) 26)).alloc (.cells (manA zmod none 0 0) 29)) (w.heap.size + 1) 26 (modA m) := by
    have h := (Blk.new (w.alloc (.cells (manA rm A0 l0.length c0) 29)) 26 (modA m)).keep ((Below.refl _ _).alloc (Nat.le_refl _) (.cells (manA zmod none 0 0) 29))
    rw [World.size_alloc] at h
    exact h
  have q2 : Blk (((w.alloc (.cells (manA rm A0 l0.length c0) 29)).alloc (.cells (modA m) 26)).alloc (.cells (manA zmod none 0 0) 29)) (w.heap.size + 1 + 1) 29 (manA zmod none 0 0) := by
    have h := Blk.new ((w.alloc (.cells (manA rm A0 l0.length c0) 29)).alloc (.cells (modA m) 26)) 29 (manA zmod none 0 0)
    simp only [World.size_alloc] at h
    exact h
  have hb3 : Below w.heap.size w (((w.alloc (.cells (manA rm A0 l0.length c0) 29)).alloc (.cells (modA m) 26)).alloc (.cells (manA zmod none 0 0) 29)) := (((Below.refl _ _).alloc (Nat.le_refl _) _).alloc (by simp) _).alloc (by simp; omega) _
  obtain ⟨W3, hW3⟩ : ∃ W, W = (((w.alloc (.cells (manA rm A0 l0.length c0) 29)).alloc (.cells (modA m) 26)).alloc (.cells (manA zmod none 0 0) 29)) := ⟨_, rfl⟩
  rw [← hW3] at q0 q1 q2 hb3 e3
  have K4 : Below W3.heap.size W3 (W3.alloc (.cells #[.string ⟨rm.1.toArray⟩, .int .i64 rm.2.1, .int .i64 rm.2.2.1, .int .i64 rm.2.2.2, .slice none 0 0] 29)) := (Below.refl _ _).alloc (Nat.le_refl _) _
  have e4 : (W3.alloc (.cells #[.string ⟨rm.1.toArray⟩, .int .i64 rm.2.1, .int .i64 rm.2.2.1, .int .i64 rm.2.2.2, .slice none 0 0] 29)).heap.size = w.heap.size + 1 + 1 + 1 + 1 := by rw [World.size_alloc, e3]
  have Q0 := Lib.hid (q0.keep K4)
  have Q1 := Lib.hid (q1.keep K4)
  have Q2 := Lib.hid (q2.keep K4)
  have q3 := Blk.new W3 29 (manA rm none 0 0)
  rw [e3] at q3
  have Q3 := Lib.hid (show Blk (W3.alloc (.cells #[.string ⟨rm.1.toArray⟩, .int .i64 rm.2.1, .int .i64 rm.2.2.1, .int .i64 rm.2.2.2, .slice none 0 0] 29)) (w.heap.size + 1 + 1 + 1) 29 (manA rm none 0 0) from q3)
  have HB4 := Lib.hid (hb3.trans (K4.mono hb3.size))
  obtain ⟨W4, hW4⟩ : ∃ W, W = W3.alloc (.cells #[.string ⟨rm.1.toArray⟩, .int .i64 rm.2.1, .int .i64 rm.2.2.1, .int .i64 rm.2.2.2, .slice none 0 0] 29) := ⟨_, rfl⟩
  rw [← hW4] at Q0 Q1 Q2 Q3 HB4 e4
  obtain ⟨s0, s1, s2, s3, s4⟩ := manC (A := A0) (n := l0.length) (c := c0) (m := rm) q0
  obtain ⟨t0, t1, t2, t3, t4⟩ := manC (A := A0) (n := l0.length) (c := c0) (m := rm) Q0.out
  rw [hW3] at s0 s1 s2 s3 s4
  have HW4 := Lib.hid (show (((w.alloc (.cells (manA rm A0 l0.length c0) 29)).alloc (.cells (modA m) 26)).alloc (.cells (manA zmod none 0 0) 29)).alloc (.cells #[.string ⟨rm.1.toArray⟩, .int .i64 rm.2.1, .int .i64 rm.2.2.1, .int .i64 rm.2.2.2, .slice none 0 0] 29) = W4 from by rw [hW4, hW3])
  rw [hW4, hW3] at t4
  unfold manA modA zmod at HW4 s0 s1 s2 s3 s4 t4
  clear hS q0 q1 q2 q3 K4 hW3 hW4 hb3 e3 t0 t1 t2 t3
  have cSo := Lib.hid (fun (Af : Option Addr) (cf nf : Nat) (F : List Mod) (hn : nf = F.length) (hn2 : nf ≤ 1000000) W (hS : Sl W W.heap.size 4 encM Af F) => show Calls Tryd.prog 35 #[.agg #[.string ⟨rm.1.toArray⟩, .int .i64 rm.2.1, .int .i64 rm.2.2.1, .int .i64 rm.2.2.2, .slice Af nf cf]] W fun e w' =>
      ∃ A' c', e = .returned (.agg #[.string ⟨rm.1.toArray⟩, .int .i64 rm.2.1, .int .i64 rm.2.2.1, .int .i64 rm.2.2.2, .slice A' nf c']) ∧ Sl w' w'.heap.size 4 encM A' (msort F) ∧ Below W.heap.size W w' ∧ (F = [] ∨ ∀ a, A' = some a → W.heap.size ≤ a.block) by
    subst hn
    exact sorted_far rm Af cf F W hS (by omega))
  generalize hQ : (fun (e : Ending) (w' : World) => ∃ A' c', e = .returned (.agg #[.string ⟨rm.1.toArray⟩, .int .i64 rm.2.1, .int .i64 rm.2.2.1, .int .i64 rm.2.2.2, .slice A' (upL m l0).length c']) ∧ Sl w' w'.heap.size 4 encM A' (msort (upL m l0)) ∧ (∀ a, A' = some a → w.heap.size ≤ a.block) ∧ Below w.heap.size w w') = Q
  go_enter Tryd.func41, Tryd.ntmps41
  go_wp2_with fail
  go_loopw [6, 15] (fun f i wr => ∃ (k n : Nat) (Av : Option Addr) (cv : Nat), k ≤ l0.length ∧ f = .bool (hasP m (l0.take k)) ∧ i = .int .i64 (k : Nat) ∧ n ≤ k ∧ Hid (n = ((l0.take k).map (upX m)).length) ∧ Hid (Blk wr (w.heap.size + 1 + 1 + 1) 29 #[.string ⟨rm.1.toArray⟩, .int .i64 rm.2.1, .int .i64 rm.2.2.1, .int .i64 rm.2.2.2, .slice Av n cv]) ∧
    Hid (wr.ownsRow (w.heap.size + 1 + 1 + 1 + 1) 26 4 (.slice Av n cv) n (((l0.take k).map (upX m)).flatMap encM)) ∧ Hid (Below (w.heap.size + 1 + 1 + 1) W4 wr)) (fun _ i _ => l0.length - (intOf i).toNat)
  case atStart =>
    rw [HW4.out]
    exact ⟨0, 0, none, 0, Nat.zero_le _, rfl, rfl, Nat.le_refl _, Lib.hid rfl, Lib.hid Q3.out, Lib.hid (World.ownsRow_nil _ _ _ _), Lib.hid (Below.refl _ _)⟩
  case round =>
    obtain ⟨wo, hwo⟩ : ∃ wo, wo = wr := ⟨_, rfl⟩
    subst hwo
    obtain ⟨k, n, Av, cv, hk, rfl, rfl, hnk, HN, HO, HA, HB⟩ := hrel
    have HBN := Lib.hid (HB4.out.trans (HB.out.mono (by omega)))
    have hzB := HB.out.size
    by_cases hlt : k < l0.length
    · have hlt' : (k : Int) < (l0.length : Int) := by omega
      obtain ⟨b0, off0, hA0, hb0, g0, g1, g2, g3⟩ := ((HS.out.below HBN.out).mod (i := k) hlt)
      have HTk0 := Lib.hid (upX_take (m := m) hlt)
      have HPk := hasP_take (m := m) hlt
      generalize l0[k] = x at g0 g1 g2 g3 HTk0 HPk
      subst hA0
      have b0 : n + 1 ≤ maxLen := by unfold maxLen; omega
      have b1 : (n + 1) * 40 ≤ 140737488355328 := by omega
      have HX := Lib.hid (show Below wo.heap.size wo (wo.alloc (.cells #[.string ⟨x.1.toArray⟩, .int .i64 x.2.1, .int .i64 x.2.2.1, .int .i64 x.2.2.2] 26)) from (Below.refl _ _).alloc (Nat.le_refl _) _)
      have XX := Lib.hid (show Blk (wo.alloc (.cells #[.string ⟨x.1.toArray⟩, .int .i64 x.2.1, .int .i64 x.2.2.1, .int .i64 x.2.2.2] 26)) wo.heap.size 26 (modA x) from Blk.new _ _ _)
      have HOX := Lib.hid (HO.out.keep HX.out)
      have HAX := Lib.hid (own_below2 HA.out HX.out)
      have HMX := Lib.hid ((blk_below Q1.out HB.out (by omega)).keep HX.out)
      have HBX := Lib.hid (HB.out.trans (HX.out.mono (by omega)))
      obtain ⟨x0, x1, x2, x3⟩ := modC XX.out
      obtain ⟨y0, y1, y2, y3⟩ := modC HMX.out
      by_cases hp : x.1 = m.1
      · have hp1 : (x.1 == m.1) = true := by rw [hp]; exact beq_self_eq_true _
        have hpk : hasP m (l0.take (k + 1)) = true := by rw [HPk, decide_eq_true hp, Bool.or_true]
        have cC0 := fun W => Compare_any x.2.1 x.2.2.1 x.2.2.2 m.2.1 m.2.2.1 m.2.2.2 W
        have hvc : vcmp x.2.1 x.2.2.1 x.2.2.2 m.2.1 m.2.2.1 m.2.2.2 = vcmpV x.2 m.2 := rfl
        rw [hvc] at cC0
        have hup : upX m x = if vcmpV x.2 m.2 < 0 then m else x := by unfold upX; simp [hp]
        generalize vcmpV x.2 m.2 = d at cC0 hup
        have cC := Lib.hid cC0
        have HPK := Lib.hid hpk
        have HUP := Lib.hid hup
        clear HPk hp cC0 hvc hpk hup
        go_wp2_with fail
        refine (cC.out _).mono ?_
        rintro e w4 ⟨rfl, hb4⟩
        have XX4 := Lib.hid (XX.out.keep hb4.toBelow)
        have HO4 := Lib.hid (HOX.out.keep hb4.toBelow)
        have HA4 := Lib.hid (own_below2 HAX.out hb4.toBelow)
        have HM4 := Lib.hid (HMX.out.keep hb4.toBelow)
        have HB4x := Lib.hid (HBX.out.trans (hb4.toBelow.mono (by have := HBX.out.size; omega)))
        have hz4 := hb4.toBelow.size
        simp only [World.size_alloc] at hz4
        clear hb4 cC x0 x1 x2 x3 y0 y1 y2 y3 g0 g1 g2 g3 XX HOX HAX HMX HBX
        by_cases hd : d < 0
        · have HT := Lib.hid (show (l0.take (k + 1)).map (upX m) = (l0.take k).map (upX m) ++ [m] from by rw [HTk0.out, HUP.out, if_pos hd])
          obtain ⟨y0, y1, y2, y3⟩ := modC HM4.out
          have z0 := XX4.out.cell 0
          have z1 := XX4.out.cell 1
          have z2 := XX4.out.cell 2
          have z3 := XX4.out.cell 3
          have f0 := XX4.out.free 0
          have f1 := XX4.out.free 1
          have f2 := XX4.out.free 2
          have f3 := XX4.out.free 3
          unfold modA at z0 z1 z2 z3
          simp at z0 z1 z2 z3
          have hne := own_new HA.out
          have XX5 := Lib.hid (show Blk (((((w4.setCell ⟨wo.heap.size, 0, none⟩ (.string ⟨m.1.toArray⟩)).setCell ⟨wo.heap.size, 1, none⟩ (.int .i64 m.2.1)).setCell ⟨wo.heap.size, 2, none⟩ (.int .i64 m.2.2.1)).setCell ⟨wo.heap.size, 3, none⟩ (.int .i64 m.2.2.2))) wo.heap.size 26 (modA m) from (((XX4.out.set_ 0 _).set_ 1 _).set_ 2 _).set_ 3 _)
          have hb5 : Below wo.heap.size w4 (((((w4.setCell ⟨wo.heap.size, 0, none⟩ (.string ⟨m.1.toArray⟩)).setCell ⟨wo.heap.size, 1, none⟩ (.int .i64 m.2.1)).setCell ⟨wo.heap.size, 2, none⟩ (.int .i64 m.2.2.1)).setCell ⟨wo.heap.size, 3, none⟩ (.int .i64 m.2.2.2))) := ((((Below.refl _ _).setCell (p := ⟨wo.heap.size, 0, none⟩) (Nat.le_refl _) _).setCell (p := ⟨wo.heap.size, 1, none⟩) (Nat.le_refl _) _).setCell (p := ⟨wo.heap.size, 2, none⟩) (Nat.le_refl _) _).setCell (p := ⟨wo.heap.size, 3, none⟩) (Nat.le_refl _) _
          have HO5 := Lib.hid (blk_below HO4.out hb5 (by omega))
          have HA5 := Lib.hid (own_set_ne (own_set_ne (own_set_ne (own_set_ne HA4.out (p := ⟨wo.heap.size, 0, none⟩) hne (.string ⟨m.1.toArray⟩)) (p := ⟨wo.heap.size, 1, none⟩) hne (.int .i64 m.2.1)) (p := ⟨wo.heap.size, 2, none⟩) hne (.int .i64 m.2.2.1)) (p := ⟨wo.heap.size, 3, none⟩) hne (.int .i64 m.2.2.2))
          have HB5 := Lib.hid (HB4x.out.trans (hb5.mono (by omega)))
          clear hb5 hne
          have hs5 : (((((w4.setCell ⟨wo.heap.size, 0, none⟩ (.string ⟨m.1.toArray⟩)).setCell ⟨wo.heap.size, 1, none⟩ (.int .i64 m.2.1)).setCell ⟨wo.heap.size, 2, none⟩ (.int .i64 m.2.2.1)).setCell ⟨wo.heap.size, 3, none⟩ (.int .i64 m.2.2.2))).heap.size = w4.heap.size := by simp [World.setCell]
          obtain ⟨p0, p1, p2, p3, p4⟩ := manC HO5.out
          obtain ⟨k0, k1, k2, k3⟩ := modC XX5.out
          have HWA := Lib.hid (show Below ((((w4.setCell ⟨wo.heap.size, 0, none⟩ (.string ⟨m.1.toArray⟩)).setCell ⟨wo.heap.size, 1, none⟩ (.int .i64 m.2.1)).setCell ⟨wo.heap.size, 2, none⟩ (.int .i64 m.2.2.1)).setCell ⟨wo.heap.size, 3, none⟩ (.int .i64 m.2.2.2)).heap.size ((((w4.setCell ⟨wo.heap.size, 0, none⟩ (.string ⟨m.1.toArray⟩)).setCell ⟨wo.heap.size, 1, none⟩ (.int .i64 m.2.1)).setCell ⟨wo.heap.size, 2, none⟩ (.int .i64 m.2.2.1)).setCell ⟨wo.heap.size, 3, none⟩ (.int .i64 m.2.2.2)) (((((w4.setCell ⟨wo.heap.size, 0, none⟩ (.string ⟨m.1.toArray⟩)).setCell ⟨wo.heap.size, 1, none⟩ (.int .i64 m.2.1)).setCell ⟨wo.heap.size, 2, none⟩ (.int .i64 m.2.2.1)).setCell ⟨wo.heap.size, 3, none⟩ (.int .i64 m.2.2.2)).alloc (.cells #[.string ⟨m.1.toArray⟩, .int .i64 m.2.1, .int .i64 m.2.2.1, .int .i64 m.2.2.2] 26)) from (Below.refl _ _).alloc (Nat.le_refl _) _)
          have HAA := Lib.hid (own_below2 HA5.out HWA.out)
          have hbz : w.heap.size + 1 + 1 + 1 + 1 ≤ (((((w4.setCell ⟨wo.heap.size, 0, none⟩ (.string ⟨m.1.toArray⟩)).setCell ⟨wo.heap.size, 1, none⟩ (.int .i64 m.2.1)).setCell ⟨wo.heap.size, 2, none⟩ (.int .i64 m.2.2.1)).setCell ⟨wo.heap.size, 3, none⟩ (.int .i64 m.2.2.2)).alloc (.cells #[.string ⟨m.1.toArray⟩, .int .i64 m.2.1, .int .i64 m.2.2.1, .int .i64 m.2.2.2] 26)).heap.size := by have := HB5.out.size; simp; omega
          go_wp2_with (at_builtin; refine wpList_own rfl (.tmp 32) (.tmp 34) rfl (w.heap.size + 1 + 1 + 1 + 1) elMod (.slice Av n cv) n _ rfl HAA.out _ 1 _ _ rfl (Src.lit2 _ 4 _ _ 1 rfl hs5) (by decide) (by simp [Value.oneCell']) b0 b1 hbz ?_; intro v' w7 hown7 hgrow7 hb7; obtain ⟨A7, c7, rfl⟩ := Acc.shape (.inl hown7); have HO7 := Lib.hid (blk_below (HO5.out.keep HWA.out) hb7 (by omega)); have HOWN := Lib.hid hown7; have HB7 := Lib.hid hb7; have o4 := HO7.out.cell 4; have f4 := HO7.out.free 4; have hz7 := hb7.size; simp at o4; clear hown7 hgrow7 hb7)
          go_roundw
          case rel => exact ⟨k + 1, n + 1, A7, c7, by omega, by rw [HPK.out], by go_num, by omega, Lib.hid (by rw [HT.out, List.length_append, ← HN.out]; rfl), Lib.hid (HO7.out.set_ 4 _), Lib.hid (by rw [HT.out, List.flatMap_append]; exact HOWN.out.kept (grown_set w7 _ _) (.inr (own_apart HOWN.out (by show w.heap.size + 1 + 1 + 1 < _; omega)))),
            Lib.hid (((HB5.out.trans (HWA.out.mono (by have := HB5.out.size; omega))).trans (HB7.out.mono (by omega))).setCell (p := ⟨w.heap.size + 1 + 1 + 1, 4, none⟩) (by show w.heap.size + 1 + 1 + 1 ≤ w.heap.size + 1 + 1 + 1; omega) _)⟩
          case measure => simp [intOf]; omega
        · have HT := Lib.hid (show (l0.take (k + 1)).map (upX m) = (l0.take k).map (upX m) ++ [x] from by rw [HTk0.out, HUP.out, if_neg hd])
          obtain ⟨p0, p1, p2, p3, p4⟩ := manC HO4.out
          obtain ⟨k0, k1, k2, k3⟩ := modC XX4.out
          have HWA := Lib.hid (show Below w4.heap.size w4 (w4.alloc (.cells #[.string ⟨x.1.toArray⟩, .int .i64 x.2.1, .int .i64 x.2.2.1, .int .i64 x.2.2.2] 26)) from (Below.refl _ _).alloc (Nat.le_refl _) _)
          have HAA := Lib.hid (own_below2 HA4.out HWA.out)
          have hbz : w.heap.size + 1 + 1 + 1 + 1 ≤ (w4.alloc (.cells #[.string ⟨x.1.toArray⟩, .int .i64 x.2.1, .int .i64 x.2.2.1, .int .i64 x.2.2.2] 26)).heap.size := by have := HB4x.out.size; simp; omega
          go_wp2_with (at_builtin; refine wpList_own rfl (.tmp 32) (.tmp 34) rfl (w.heap.size + 1 + 1 + 1 + 1) elMod (.slice Av n cv) n _ rfl HAA.out _ 1 _ _ rfl (Src.lit _ 4 _ _ 1 rfl) (by decide) (by simp [Value.oneCell']) b0 b1 hbz ?_; intro v' w7 hown7 hgrow7 hb7; obtain ⟨A7, c7, rfl⟩ := Acc.shape (.inl hown7); have HO7 := Lib.hid (blk_below (HO4.out.keep HWA.out) hb7 (by omega)); have HOWN := Lib.hid hown7; have HB7 := Lib.hid hb7; have o4 := HO7.out.cell 4; have f4 := HO7.out.free 4; have hz7 := hb7.size; simp at o4; clear hown7 hgrow7 hb7)
          go_roundw
          case rel => exact ⟨k + 1, n + 1, A7, c7, by omega, by rw [HPK.out], by go_num, by omega, Lib.hid (by rw [HT.out, List.length_append, ← HN.out]; rfl), Lib.hid (HO7.out.set_ 4 _), Lib.hid (by rw [HT.out, List.flatMap_append]; exact HOWN.out.kept (grown_set w7 _ _) (.inr (own_apart HOWN.out (by show w.heap.size + 1 + 1 + 1 < _; omega)))),
            Lib.hid (((HB4x.out.trans (HWA.out.mono (by have := HB4x.out.size; omega))).trans (HB7.out.mono (by omega))).setCell (p := ⟨w.heap.size + 1 + 1 + 1, 4, none⟩) (by show w.heap.size + 1 + 1 + 1 ≤ w.heap.size + 1 + 1 + 1; omega) _)⟩
          case measure => simp [intOf]; omega
      · have hp1 : (x.1 == m.1) = false := beq_eq_false_iff_ne.2 hp
        have HT := Lib.hid (show (l0.take (k + 1)).map (upX m) = (l0.take k).map (upX m) ++ [x] from by rw [HTk0.out]; unfold upX; rw [if_neg (fun h => hp h.1)])
        have HPK := Lib.hid (show hasP m (l0.take (k + 1)) = hasP m (l0.take k) from by rw [HPk, decide_eq_false hp, Bool.or_false])
        clear HPk hp
        have hs5 : (wo.alloc (.cells #[.string ⟨x.1.toArray⟩, .int .i64 x.2.1, .int .i64 x.2.2.1, .int .i64 x.2.2.2] 26)).heap.size = wo.heap.size + 1 := World.size_alloc _ _
        obtain ⟨p0, p1, p2, p3, p4⟩ := manC HOX.out
        obtain ⟨k0, k1, k2, k3⟩ := modC XX.out
        have HWA := Lib.hid (show Below (wo.alloc (.cells #[.string ⟨x.1.toArray⟩, .int .i64 x.2.1, .int .i64 x.2.2.1, .int .i64 x.2.2.2] 26)).heap.size (wo.alloc (.cells #[.string ⟨x.1.toArray⟩, .int .i64 x.2.1, .int .i64 x.2.2.1, .int .i64 x.2.2.2] 26)) ((wo.alloc (.cells #[.string ⟨x.1.toArray⟩, .int .i64 x.2.1, .int .i64 x.2.2.1, .int .i64 x.2.2.2] 26)).alloc (.cells #[.string ⟨x.1.toArray⟩, .int .i64 x.2.1, .int .i64 x.2.2.1, .int .i64 x.2.2.2] 26)) from (Below.refl _ _).alloc (Nat.le_refl _) _)
        have HAA := Lib.hid (own_below2 HAX.out HWA.out)
        have hbz : w.heap.size + 1 + 1 + 1 + 1 ≤ ((wo.alloc (.cells #[.string ⟨x.1.toArray⟩, .int .i64 x.2.1, .int .i64 x.2.2.1, .int .i64 x.2.2.2] 26)).alloc (.cells #[.string ⟨x.1.toArray⟩, .int .i64 x.2.1, .int .i64 x.2.2.1, .int .i64 x.2.2.2] 26)).heap.size := by have := HBX.out.size; simp; omega
        go_wp2_with (at_builtin; refine wpList_own rfl (.tmp 32) (.tmp 34) rfl (w.heap.size + 1 + 1 + 1 + 1) elMod (.slice Av n cv) n _ rfl HAA.out _ 1 _ _ rfl (Src.lit2 _ 4 _ _ 1 rfl hs5) (by decide) (by simp [Value.oneCell']) b0 b1 hbz ?_; intro v' w7 hown7 hgrow7 hb7; obtain ⟨A7, c7, rfl⟩ := Acc.shape (.inl hown7); have HO7 := Lib.hid (blk_below (HOX.out.keep HWA.out) hb7 (by omega)); have HOWN := Lib.hid hown7; have HB7 := Lib.hid hb7; have o4 := HO7.out.cell 4; have f4 := HO7.out.free 4; have hz7 := hb7.size; simp at o4; clear hown7 hgrow7 hb7)
        go_roundw
        case rel => exact ⟨k + 1, n + 1, A7, c7, by omega, by rw [HPK.out], by go_num, by omega, Lib.hid (by rw [HT.out, List.length_append, ← HN.out]; rfl), Lib.hid (HO7.out.set_ 4 _), Lib.hid (by rw [HT.out, List.flatMap_append]; exact HOWN.out.kept (grown_set w7 _ _) (.inr (own_apart HOWN.out (by show w.heap.size + 1 + 1 + 1 < _; omega)))),
          Lib.hid (((HBX.out.trans (HWA.out.mono (by have := HBX.out.size; omega))).trans (HB7.out.mono (by omega))).setCell (p := ⟨w.heap.size + 1 + 1 + 1, 4, none⟩) (by show w.heap.size + 1 + 1 + 1 ≤ w.heap.size + 1 + 1 + 1; omega) _)⟩
        case measure => simp [intOf]; omega
    · obtain rfl : k = l0.length := by omega
      rw [List.take_of_length_le (Nat.le_refl _)] at HN HA ⊢
      have HT2 := Lib.hid (blk_below Q2.out HB.out (by omega))
      have hD : upL m l0 = l0.map (upX m) ++ if hasP m l0 = true then [] else [m] := rfl
      obtain ⟨p0, p1, p2, p3, p4⟩ := manC HO.out
      obtain ⟨y0, y1, y2, y3⟩ := modC (blk_below Q1.out HB.out (by omega))
      cases hf : hasP m l0
      · have HD := Lib.hid (show upL m l0 = l0.map (upX m) ++ [m] from by rw [hD, hf]; rfl)
        have b0 : n + 1 ≤ maxLen := by unfold maxLen; omega
        have b1 : (n + 1) * 40 ≤ 140737488355328 := by omega
        have HWA := Lib.hid (show Below wo.heap.size wo (wo.alloc (.cells #[.string ⟨m.1.toArray⟩, .int .i64 m.2.1, .int .i64 m.2.2.1, .int .i64 m.2.2.2] 26)) from (Below.refl _ _).alloc (Nat.le_refl _) _)
        have HAA := Lib.hid (own_below2 HA.out HWA.out)
        have hbz : w.heap.size + 1 + 1 + 1 + 1 ≤ (wo.alloc (.cells #[.string ⟨m.1.toArray⟩, .int .i64 m.2.1, .int .i64 m.2.2.1, .int .i64 m.2.2.2] 26)).heap.size := by have := HWA.out.size; omega
        clear hD hf
        go_wp2_with (at_builtin; refine wpList_own rfl (.tmp 41) (.tmp 43) rfl (w.heap.size + 1 + 1 + 1 + 1) elMod (.slice Av n cv) n _ rfl HAA.out _ 1 _ _ rfl (Src.lit _ 4 _ _ 1 rfl) (by decide) (by simp [Value.oneCell']) b0 b1 hbz ?_; intro v' w7 hown7 hgrow7 hb7; obtain ⟨A7, c7, rfl⟩ := Acc.shape (.inl hown7); have HO7 := Lib.hid (blk_below (HO.out.keep HWA.out) hb7 (by omega)); have HT7 := Lib.hid (blk_below (HT2.out.keep HWA.out) hb7 (by omega)); have HOWN := Lib.hid hown7; have HB7 := Lib.hid hb7; have o0 := HO7.out.cell 0; have o1 := HO7.out.cell 1; have o2 := HO7.out.cell 2; have o3 := HO7.out.cell 3; have o4 := HO7.out.cell 4; have f4 := HO7.out.free 4; have hz7 := hb7.size; simp at o0 o1 o2 o3 o4; clear hown7 hgrow7 hb7 p0 p1 p2 p3 p4)
        have hown8 : (w7.setCell ⟨w.heap.size + 1 + 1 + 1, 4, none⟩ (.slice A7 (n + 1) c7)).ownsRow (w.heap.size + 1 + 1 + 1 + 1) 26 4 (.slice A7 (n + 1) c7) (n + 1) ((upL m l0).flatMap encM) := by
          rw [HD.out, List.flatMap_append]
          exact HOWN.out.kept (grown_set w7 _ _) (.inr (own_apart HOWN.out (by show w.heap.size + 1 + 1 + 1 < _; omega)))
        have HL := Lib.hid (show n + 1 = (upL m l0).length from by rw [HD.out, List.length_append, ← HN.out]; rfl)
        have hS8 := (Acc.sl (.inl hown8) encM_len (by decide)).2
        have hb8 := ((HB.out.trans (HWA.out.mono (by omega))).trans (HB7.out.mono (by omega))).setCell (p := ⟨w.heap.size + 1 + 1 + 1, 4, none⟩) (Nat.le_refl (w.heap.size + 1 + 1 + 1)) (.slice A7 (n + 1) c7)
        have HB8 := Lib.hid (HB4.out.trans (hb8.mono (by omega)))
        have HT8 := Lib.hid (blk_below Q2.out hb8 (by omega))
        have hz8 := hb8.size
        clear hown8 hb8
        refine (cSo.out A7 c7 (n + 1) (upL m l0) HL.out (by omega) _ hS8).mono ?_
        rintro e w9 ⟨A9, c9, rfl, hS9, hb9, hfar⟩
        have HT9 := Lib.hid (HT8.out.keep hb9)
        have HB9 := Lib.hid (HB8.out.trans (hb9.mono HB8.out.size))
        have HS9 := Lib.hid hS9
        have HF9 := Lib.hid (show ∀ a, A9 = some a → w.heap.size + 1 + 1 + 1 ≤ a.block from fun a ha => by
          have h := hfar.resolve_left (upL_ne m l0) a ha
          omega)
        have k0 := HT9.out.cell 0
        have k1 := HT9.out.cell 1
        have k2 := HT9.out.cell 2
        have k3 := HT9.out.cell 3
        have k4 := HT9.out.cell 4
        have f0 := HT9.out.free 0
        have f1 := HT9.out.free 1
        have f2 := HT9.out.free 2
        have f3 := HT9.out.free 3
        have f4 := HT9.out.free 4
        unfold manA zmod at k0 k1 k2 k3 k4
        simp at k0 k1 k2 k3 k4
        clear hS9 hb9 hfar hS8
        go_wp2
        refine bodyPost_ret (v := .agg #[.string ⟨rm.1.toArray⟩, .int .i64 rm.2.1, .int .i64 rm.2.2.1, .int .i64 rm.2.2.2, .slice A9 (n + 1) c9]) (by simp [results, Tryd.results41, go_sem, k0, k1, k2, k3, k4]) rfl ?_
        rw [← hQ]
        refine ⟨A9, c9, by rw [HL.out], ?_, fun a ha => by have := HF9.out a ha; omega, ?_⟩
        · have hsz : ∀ (W : World) p u, (W.setCell p u).heap.size = W.heap.size := fun W p u => by simp [World.setCell]
          have hne : ∀ a, A9 = some a → a.block ≠ w.heap.size + 1 + 1 := fun a ha => by have := HF9.out a ha; omega
          simp only [hsz]
          exact ((((HS9.out.setCell _ _ (.inr hne)).setCell _ _ (.inr hne)).setCell _ _ (.inr hne)).setCell _ _ (.inr hne)).setCell _ _ (.inr hne)
        · have hge : w.heap.size ≤ w.heap.size + 1 + 1 := by omega
          exact ((((HB9.out.setCell hge _).setCell hge _).setCell hge _).setCell hge _).setCell hge _
      · have HD := Lib.hid (show upL m l0 = l0.map (upX m) from by rw [hD, hf]; simp)
        have hS8 := (Acc.sl (.inl HA.out) encM_len (by decide)).2
        rw [← HD.out] at hS8
        have HL := Lib.hid (show n = (upL m l0).length from by rw [HD.out, ← HN.out])
        have HB8 := HBN
        have HT8 := HT2
        have hz8 := hzB
        clear hD hf
        go_wp2_with fail
        refine (cSo.out Av cv n (upL m l0) HL.out (by omega) _ hS8).mono ?_
        rintro e w9 ⟨A9, c9, rfl, hS9, hb9, hfar⟩
        have HT9 := Lib.hid (HT8.out.keep hb9)
        have HB9 := Lib.hid (HB8.out.trans (hb9.mono HB8.out.size))
        have HS9 := Lib.hid hS9
        have HF9 := Lib.hid (show ∀ a, A9 = some a → w.heap.size + 1 + 1 + 1 ≤ a.block from fun a ha => by
          have h := hfar.resolve_left (upL_ne m l0) a ha
          omega)
        have k0 := HT9.out.cell 0
        have k1 := HT9.out.cell 1
        have k2 := HT9.out.cell 2
        have k3 := HT9.out.cell 3
        have k4 := HT9.out.cell 4
        have f0 := HT9.out.free 0
        have f1 := HT9.out.free 1
        have f2 := HT9.out.free 2
        have f3 := HT9.out.free 3
        have f4 := HT9.out.free 4
        unfold manA zmod at k0 k1 k2 k3 k4
        simp at k0 k1 k2 k3 k4
        clear hS9 hb9 hfar hS8
        go_wp2
        refine bodyPost_ret (v := .agg #[.string ⟨rm.1.toArray⟩, .int .i64 rm.2.1, .int .i64 rm.2.2.1, .int .i64 rm.2.2.2, .slice A9 n c9]) (by simp [results, Tryd.results41, go_sem, k0, k1, k2, k3, k4]) rfl ?_
        rw [← hQ]
        refine ⟨A9, c9, by rw [HL.out], ?_, fun a ha => by have := HF9.out a ha; omega, ?_⟩
        · have hsz : ∀ (W : World) p u, (W.setCell p u).heap.size = W.heap.size := fun W p u => by simp [World.setCell]
          have hne : ∀ a, A9 = some a → a.block ≠ w.heap.size + 1 + 1 := fun a ha => by have := HF9.out a ha; omega
          simp only [hsz]
          exact ((((HS9.out.setCell _ _ (.inr hne)).setCell _ _ (.inr hne)).setCell _ _ (.inr hne)).setCell _ _ (.inr hne)).setCell _ _ (.inr hne)
        · have hge : w.heap.size ≤ w.heap.size + 1 + 1 := by omega
          exact ((((HB9.out.setCell hge _).setCell hge _).setCell hge _).setCell hge _).setCell hge _
end Go.Proofs.YtfiilbdkhelhgaaDoor
