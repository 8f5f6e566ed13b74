/- What the claim needs of: VD. -/
import Derived.Test.YthcgihgajdjfoaaGreatDoorV18
import Derived.Test.YthcgihgajdjfoaaGreatDoorV16
namespace Go.Proofs.YthcgihgajdjfoaaGreatDoor
open Go.RowKit Go.Sort
def TypedAt (W : World) (t : TypeId) (A : Option Addr) : Prop := ∀ a, A = some a → ∃ cs, W.heap[a.block]? = some (.cells cs t (0, 0))
theorem TypedAt.keep {W W' : World} {t : TypeId} {A : Option Addr} (h : TypedAt W t A) (hb : Below W.heap.size W W') : TypedAt W' t A := fun a ha => by
 obtain ⟨cs, hc⟩ := h a ha
 exact ⟨cs, (hb.block a.block (Blk.lt hc)).trans hc⟩
theorem TypedAt.ne {W : World} {t t' : TypeId} {A : Option Addr} {g : Nat} {cs : Array Value} (h : TypedAt W t A) (hg : Blk W g t' cs) (hne : t ≠ t') : ∀ a, A = some a → a.block ≠ g := fun a ha e => by
 obtain ⟨cs', hc⟩ := h a ha
 rw [e, show W.heap[g]? = _ from hg] at hc
 injection hc with h1
 injection h1 with h2 h3
 exact hne h3.symm
theorem TypedAt.set {W : World} {t : TypeId} {A : Option Addr} (h : TypedAt W t A) (p : Addr) (v : Value) (hne : ∀ a, A = some a → a.block ≠ p.block) : TypedAt (W.setCell p v) t A := fun a ha => by
 obtain ⟨cs, hc⟩ := h a ha
 exact ⟨cs, (Below.heap_setCell W p v a.block (hne a ha)).trans hc⟩
theorem own_typed {w : World} {base e size n c : Nat} {A : Option Addr} {xs : List Value} (h : w.ownsRow base e size (.slice A n c) n xs) : TypedAt w e A := by
 intro a ha
 rcases h.2 with ⟨h, _⟩ | ⟨g, cap, cur, h, _, hc, _⟩
 ·injection h with h
  rw [h] at ha
  cases ha
 ·injection h with h
  rw [h] at ha
  injection ha with ha
  subst ha
  exact ⟨cur, hc⟩
theorem zeroRel (w : World) : (zeroValue 62).run Tryz.prog w = .ok (.agg #[.string ByteArray.empty, .int .i64 0, .int .i64 0, .int .i64 0, .slice none 0 0, .slice none 0 0]) w := Tryz.zeroValue62 w
theorem cloneS_far (A : Option Addr) (c : Nat) (l : List Src2) (w : World) (hA : Sl w w.heap.size 2 encT A l) (hl : l.length ≤ 1099511627776) :
  Calls Tryz.prog 70 #[.slice A l.length c] w fun e w' => ∃ A' c', e = .returned (.slice A' l.length c') ∧ Sl w' w'.heap.size 2 encT A' l ∧ (l = [] ∨ TypedAt w' 64 A') ∧ Below w.heap.size w w' := by
 refine (cloneS_any A c l w hA hl).mono ?_
 rintro e w' ⟨v, rfl, hn, hb⟩
 rcases hn with ⟨rfl, A', c', rfl⟩ | ⟨_, h⟩
 ·exact ⟨A', c', rfl, Sl.nil_, .inl rfl, hb⟩
 ·obtain ⟨A', c', rfl⟩ := Acc.shape (.inl h)
  exact ⟨A', c', rfl, Acc.slAny (.inl h) encT_len (by decide), .inr (own_typed h), hb⟩
theorem cloneM_far (A : Option Addr) (c : Nat) (l : List Mod) (w : World) (hA : Sl w w.heap.size 4 encM A l) (hl : l.length ≤ 1099511627776) :
  Calls Tryz.prog 71 #[.slice A l.length c] w fun e w' => ∃ A' c', e = .returned (.slice A' l.length c') ∧ Sl w' w'.heap.size 4 encM A' l ∧ (l = [] ∨ TypedAt w' 26 A') ∧ Below w.heap.size w w' := by
 refine (cloneM_any A c l w hA hl).mono ?_
 rintro e w' ⟨v, rfl, hn, hb⟩
 rcases hn with ⟨rfl, A', c', rfl⟩ | ⟨_, h⟩
 ·exact ⟨A', c', rfl, Sl.nil_, .inl rfl, hb⟩
 ·obtain ⟨A', c', rfl⟩ := Acc.shape (.inl h)
  exact ⟨A', c', rfl, Acc.slAny (.inl h) encM_len (by decide), .inr (own_typed h), hb⟩
def RelC (W : World) (g : Nat) (v0 v1 v2 v3 v4 v5 : Value) : Prop :=
 W.cell? ⟨g, 0, none⟩ = some v0 ∧ W.cell? ⟨g, 1, none⟩ = some v1 ∧ W.cell? ⟨g, 2, none⟩ = some v2 ∧ W.cell? ⟨g, 3, none⟩ = some v3 ∧ W.cell? ⟨g, 4, none⟩ = some v4 ∧ W.cell? ⟨g, 5, none⟩ = some v5
theorem relC {W : World} {g : Nat} {v0 v1 v2 v3 v4 v5 : Value} (h : Blk W g 62 #[v0, v1, v2, v3, v4, v5]) : RelC W g v0 v1 v2 v3 v4 v5 :=
 ⟨h.cell 0, h.cell 1, h.cell 2, h.cell 3, h.cell 4, h.cell 5⟩
theorem relF {W : World} {g : Nat} {cs : Array Value} (h : Blk W g 62 cs) : W.frozen? ⟨g, 0, none⟩ = false ∧ W.frozen? ⟨g, 1, none⟩ = false ∧ W.frozen? ⟨g, 2, none⟩ = false ∧ W.frozen? ⟨g, 3, none⟩ = false ∧ W.frozen? ⟨g, 4, none⟩ = false ∧ W.frozen? ⟨g, 5, none⟩ = false :=
 ⟨h.free 0, h.free 1, h.free 2, h.free 3, h.free 4, h.free 5⟩
set_option maxRecDepth 100000 in
theorem frame17_4_5_6_7_8_9_3L {o : Oper} {P : Program} {Q : Exit → Act → World → Prop} {K : Act → World → Prop} {W : World} {fs : List Fact} {G : Act → Prop} (t0 t1 t2 t3 t4 t5 t6 t7 t8 t9 t10 t11 t12 t13 t14 t15 t16 v0 v1 v2 v3 v4 v5 v6 : Value) (hG : ∀ A, o.wp P A W K Q → G A) (h : o.wp P (Act.mk #[t0, t1, t2, v6, v0, v1, v2, v3, v4, v5, t10, t11, t12, t13, t14, t15, t16] []) W K Q) : FinAll W G [] fs (Act.put (Act.put (Act.put (Act.put (Act.put (Act.put (Act.put (Act.mk #[t0, t1, t2, t3, t4, t5, t6, t7, t8, t9, t10, t11, t12, t13, t14, t15, t16] []) (some 4) v0) (some 5) v1) (some 6) v2) (some 7) v3) (some 8) v4) (some 9) v5) (some 3) v6) :=
 fin_last (by kernel_rfl) hG h
set_option maxRecDepth 100000 in
set_option maxHeartbeats 4000000 in
theorem copied_any (r : RelA) (w : World) (hok : RelOk w r) :
  Calls Tryz.prog 32 #[.agg #[.string ⟨r.m.1.toArray⟩, .int .i64 r.m.2.1, .int .i64 r.m.2.2.1, .int .i64 r.m.2.2.2, .slice r.A r.l.length r.c, .slice r.A' r.s.length r.c']] w fun e w' => ∃ (A : Option Addr) (c : Nat) (A' : Option Addr) (c' : Nat), e = .returned (.agg #[.string ⟨r.m.1.toArray⟩, .int .i64 r.m.2.1, .int .i64 r.m.2.2.1, .int .i64 r.m.2.2.2, .slice A r.l.length c, .slice A' r.s.length c']) ∧ Sl w' w'.heap.size 4 encM A r.l ∧ Sl w' w'.heap.size 2 encT A' r.s ∧ (r.l = [] ∨ TypedAt w' 26 A) ∧ (r.s = [] ∨ TypedAt w' 64 A') ∧ Below w.heap.size w w' := by
 obtain ⟨W2, hW2⟩ : ∃ W2, W2 = (w.alloc (.cells #[.string ⟨r.m.1.toArray⟩, .int .i64 r.m.2.1, .int .i64 r.m.2.2.1, .int .i64 r.m.2.2.2, .slice r.A r.l.length r.c, .slice r.A' r.s.length r.c'] 62)).alloc (.cells #[.string ByteArray.empty, .int .i64 0, .int .i64 0, .int .i64 0, .slice none 0 0, .slice none 0 0] 62) := ⟨_, rfl⟩
 have HB0 := Lib.hid (show Below w.heap.size w W2 from by rw [hW2]; exact ((Below.refl _ _).alloc (Nat.le_refl _) _).alloc (by simp) _)
 have q0 : Blk W2 w.heap.size 62 #[.string ⟨r.m.1.toArray⟩, .int .i64 r.m.2.1, .int .i64 r.m.2.2.1, .int .i64 r.m.2.2.2, .slice r.A r.l.length r.c, .slice r.A' r.s.length r.c'] := by rw [hW2]; exact (Blk.new w 62 #[.string ⟨r.m.1.toArray⟩, .int .i64 r.m.2.1, .int .i64 r.m.2.2.1, .int .i64 r.m.2.2.2, .slice r.A r.l.length r.c, .slice r.A' r.s.length r.c']).keep ((Below.refl _ _).alloc (Nat.le_refl _) _)
 have q2 : Blk W2 (w.heap.size + 1) 62 #[.string ByteArray.empty, .int .i64 0, .int .i64 0, .int .i64 0, .slice none 0 0, .slice none 0 0] := by
  rw [hW2]
  have h := Blk.new (w.alloc (.cells #[.string ⟨r.m.1.toArray⟩, .int .i64 r.m.2.1, .int .i64 r.m.2.2.1, .int .i64 r.m.2.2.2, .slice r.A r.l.length r.c, .slice r.A' r.s.length r.c'] 62)) 62 #[.string ByteArray.empty, .int .i64 0, .int .i64 0, .int .i64 0, .slice none 0 0, .slice none 0 0]
  rwa [World.size_alloc] at h
 have hz2 : W2.heap.size = w.heap.size + 2 := by rw [hW2]; simp
 have Q0 := Lib.hid q0
 have Q2 := Lib.hid q2
 have HOK := Lib.hid hok
 have cS := Lib.hid (fun W (hW : Below W2.heap.size W2 W) => cloneS_far r.A' r.c' r.s W (((hok.hS.below HB0.out).more HB0.out.size |>.below hW).more hW.size) hok.hsl)
 have cM := Lib.hid (fun W (hW : Below w.heap.size w W) => cloneM_far r.A r.c r.l W ((hok.hA.below hW).more hW.size) hok.hl)
 have zr := zeroRel
 obtain ⟨k0, k1, k2, k3, k4, k5⟩ := relC q0
 have hz0 : w.heap.size < W2.heap.size := q0.lt
 clear q0 q2 hok
 go_enter Tryz.func32, Tryz.ntmps32
 go_upto_region 1 with fail
 rw [← hW2]
 clear hW2
 apply wp_region_last (by kernel_rfl) [isv _, isv _, isv _, isv _, (fun v W => ∃ (A : Option Addr) (c : Nat), v = .slice A r.s.length c ∧ Sl W W.heap.size 2 encT A r.s ∧ (r.s = [] ∨ TypedAt W 64 A)), (fun v W => ∃ (A : Option Addr) (c : Nat), v = .agg #[.string ⟨r.m.1.toArray⟩, .int .i64 r.m.2.1, .int .i64 r.m.2.2.1, .int .i64 r.m.2.2.2, .slice r.A r.l.length r.c, .slice A r.s.length c] ∧ Sl W W.heap.size 2 encT A r.s ∧ (r.s = [] ∨ TypedAt W 64 A)), (fun v W => ∃ g : Nat, v = .pointer (some ⟨g, 0, none⟩) ∧ w.heap.size + 2 ≤ g ∧ Blk W g 62 #[.string ByteArray.empty, .int .i64 0, .int .i64 0, .int .i64 0, .slice none 0 0, .slice none 0 0])] W2.heap.size W2 (Nat.le_refl _) (Below.refl _ _).drew (by kernel_rfl) (by kernel_rfl) (by kernel_rfl) (by kernel_rfl) (by kernel_rfl) (And.intro (isv_mono _) (And.intro (isv_mono _) (And.intro (isv_mono _) (And.intro (isv_mono _) (And.intro (fun _ _ _ ⟨A, c, e, h1, h2⟩ hb => ⟨A, c, e, (h1.below hb).more hb.size, h2.imp id fun h => h.keep hb⟩) (And.intro (fun _ _ _ ⟨A, c, e, h1, h2⟩ hb => ⟨A, c, e, (h1.below hb).more hb.size, h2.imp id fun h => h.keep hb⟩) (And.intro (fun _ _ _ ⟨g, e, h1, h2⟩ hb => ⟨g, e, h1, h2.keep hb⟩) trivial))))))) ?steps (by rfl) _ rfl rfl ?fin
 case steps =>
  refine (And.intro ?o0 (And.intro ?o1 (And.intro ?o2 (And.intro ?o3 (And.intro ?o4 (And.intro ?o5 (And.intro ?o6 trivial)))))))
  case o0 =>
   intro AA W KK QQ hB hs hd hl hk
   have sl1 := hs 1 _ (by kernel_rfl) rfl
   clear hs hd hl
   go_simp
   exact hk _ _ rfl (Below.refl _ _)
  case o1 =>
   intro AA W KK QQ hB hs hd hl hk
   obtain ⟨_, sl4, rfl⟩ := hd 0 4 (by kernel_rfl) rfl
   clear hs hd hl
   have hx0 := hB.cell (p := ⟨w.heap.size, 0, none⟩) hz0
   have hx1 := hB.cell (p := ⟨w.heap.size, 1, none⟩) hz0
   have hx2 := hB.cell (p := ⟨w.heap.size, 2, none⟩) hz0
   have hx3 := hB.cell (p := ⟨w.heap.size, 3, none⟩) hz0
   have hx4 := hB.cell (p := ⟨w.heap.size, 4, none⟩) hz0
   rw [k0] at hx0
   rw [k1] at hx1
   rw [k2] at hx2
   rw [k3] at hx3
   rw [k4] at hx4
   go_simp
   exact hk _ _ rfl (Below.refl _ _)
  case o2 =>
   intro AA W KK QQ hB hs hd hl hk
   have sl1 := hs 1 _ (by kernel_rfl) rfl
   clear hs hd hl
   go_simp
   exact hk _ _ rfl (Below.refl _ _)
  case o3 =>
   intro AA W KK QQ hB hs hd hl hk
   obtain ⟨_, sl6, rfl⟩ := hd 2 6 (by kernel_rfl) rfl
   clear hs hd hl
   have hx5 := hB.cell (p := ⟨w.heap.size, 5, none⟩) hz0
   rw [k5] at hx5
   go_simp
   exact hk _ _ rfl (Below.refl _ _)
  case o4 =>
   intro AA W KK QQ hB hs hd hl hk
   obtain ⟨_, sl7, rfl⟩ := hd 3 7 (by kernel_rfl) rfl
   clear hs hd hl
   go_simp
   refine (cS.out W hB).mono ?_
   rintro e W2 ⟨A, c, rfl, hS, hF, hb2⟩
   exact hk _ _ ⟨A, c, rfl, hS, hF⟩ hb2
  case o5 =>
   intro AA W KK QQ hB hs hd hl hk
   obtain ⟨_, sl5, rfl⟩ := hd 1 5 (by kernel_rfl) rfl
   obtain ⟨_, sl8, ⟨A, c, rfl, hS, hF⟩⟩ := hd 4 8 (by kernel_rfl) rfl
   clear hs hd hl
   go_simp
   exact hk _ _ ⟨A, c, rfl, hS, hF⟩ (Below.refl _ _)
  case o6 =>
   intro AA W KK QQ hB hs hd hl hk
   clear hs hd hl
   go_simp
   exact hk _ _ ⟨_, rfl, by have := hB.size; omega, Blk.new _ _ _⟩ ((Below.refl _ _).alloc (Nat.le_refl _) _)
 case fin =>
  intro wf hB GG hGG
  refine fin_isv 4 rfl ?_
  refine fin_isv 5 rfl ?_
  refine fin_isv 6 rfl ?_
  refine fin_isv 7 rfl ?_
  refine fin_fact 8 rfl ?_
  rintro _ ⟨_, _, rfl, _, _⟩
  refine fin_fact 9 rfl ?_
  rintro _ ⟨A5, c5, rfl, hS5, hF5⟩
  refine fin_fact 3 rfl ?_
  rintro _ ⟨g, rfl, hg, hG⟩
  refine frame17_4_5_6_7_8_9_3L _ _ _ _ _ _ _ _ _ _ _ _ _ _ _ _ _ _ _ _ _ _ _ _ hGG ?_
  clear hGG
  obtain ⟨z0, z1, z2, z3, z4, z5⟩ := relC hG
  obtain ⟨f0, f1, f2, f3, f4, f5⟩ := relF hG
  have hBf := Lib.hid (HB0.out.trans (hB.mono HB0.out.size))
  have q1 := Q0.out.keep hB
  have hgne : w.heap.size ≠ g := by omega
  have hwg : w.heap.size ≤ g := by omega
  have hAg : r.s = [] ∨ ∀ a, A5 = some a → a.block ≠ g := hF5.imp id fun h => h.ne hG (by decide)
  have hb3 := (((((hBf.out.setCell (p := ⟨g, 0, none⟩) hwg (.string ⟨r.m.1.toArray⟩)).setCell (p := ⟨g, 1, none⟩) hwg (.int .i64 r.m.2.1)).setCell (p := ⟨g, 2, none⟩) hwg (.int .i64 r.m.2.2.1)).setCell (p := ⟨g, 3, none⟩) hwg (.int .i64 r.m.2.2.2)).setCell (p := ⟨g, 4, none⟩) hwg (.slice r.A r.l.length r.c)).setCell (p := ⟨g, 5, none⟩) hwg (.slice A5 r.s.length c5)
  have q3 := (((((hG.set_ 0 (.string ⟨r.m.1.toArray⟩)).set_ 1 (.int .i64 r.m.2.1)).set_ 2 (.int .i64 r.m.2.2.1)).set_ 3 (.int .i64 r.m.2.2.2)).set_ 4 (.slice r.A r.l.length r.c)).set_ 5 (.slice A5 r.s.length c5)
  have p3 := (((((q1.far (p := ⟨g, 0, none⟩) hgne (.string ⟨r.m.1.toArray⟩)).far (p := ⟨g, 1, none⟩) hgne (.int .i64 r.m.2.1)).far (p := ⟨g, 2, none⟩) hgne (.int .i64 r.m.2.2.1)).far (p := ⟨g, 3, none⟩) hgne (.int .i64 r.m.2.2.2)).far (p := ⟨g, 4, none⟩) hgne (.slice r.A r.l.length r.c)).far (p := ⟨g, 5, none⟩) hgne (.slice A5 r.s.length c5)
  have hgn2 : w.heap.size + 1 ≠ g := by omega
  have r3 := ((((((Q2.out.keep hB).far (p := ⟨g, 0, none⟩) hgn2 (.string ⟨r.m.1.toArray⟩)).far (p := ⟨g, 1, none⟩) hgn2 (.int .i64 r.m.2.1)).far (p := ⟨g, 2, none⟩) hgn2 (.int .i64 r.m.2.2.1)).far (p := ⟨g, 3, none⟩) hgn2 (.int .i64 r.m.2.2.2)).far (p := ⟨g, 4, none⟩) hgn2 (.slice r.A r.l.length r.c)).far (p := ⟨g, 5, none⟩) hgn2 (.slice A5 r.s.length c5)
  have s3 := (((((hS5.setCell ⟨g, 0, none⟩ (.string ⟨r.m.1.toArray⟩) hAg).setCell ⟨g, 1, none⟩ (.int .i64 r.m.2.1) hAg).setCell ⟨g, 2, none⟩ (.int .i64 r.m.2.2.1) hAg).setCell ⟨g, 3, none⟩ (.int .i64 r.m.2.2.2) hAg).setCell ⟨g, 4, none⟩ (.slice r.A r.l.length r.c) hAg).setCell ⟨g, 5, none⟩ (.slice A5 r.s.length c5) hAg
  have y3 : r.s = [] ∨ TypedAt ((((((wf.setCell ⟨g, 0, none⟩ (.string ⟨r.m.1.toArray⟩)).setCell ⟨g, 1, none⟩ (.int .i64 r.m.2.1)).setCell ⟨g, 2, none⟩ (.int .i64 r.m.2.2.1)).setCell ⟨g, 3, none⟩ (.int .i64 r.m.2.2.2)).setCell ⟨g, 4, none⟩ (.slice r.A r.l.length r.c)).setCell ⟨g, 5, none⟩ (.slice A5 r.s.length c5)) 64 A5 := by
   rcases hAg with h | h
   ·exact .inl h
   ·rcases hF5 with h' | h'
    ·exact .inl h'
    ·exact .inr ((((((h'.set ⟨g, 0, none⟩ _ h).set ⟨g, 1, none⟩ _ h).set ⟨g, 2, none⟩ _ h).set ⟨g, 3, none⟩ _ h).set ⟨g, 4, none⟩ _ h).set ⟨g, 5, none⟩ _ h)
  have e3 : ((((((wf.setCell ⟨g, 0, none⟩ (.string ⟨r.m.1.toArray⟩)).setCell ⟨g, 1, none⟩ (.int .i64 r.m.2.1)).setCell ⟨g, 2, none⟩ (.int .i64 r.m.2.2.1)).setCell ⟨g, 3, none⟩ (.int .i64 r.m.2.2.2)).setCell ⟨g, 4, none⟩ (.slice r.A r.l.length r.c)).setCell ⟨g, 5, none⟩ (.slice A5 r.s.length c5)).heap.size = wf.heap.size := by simp
  have HS5 := Lib.hid hS5
  clear hS5 hF5 hAg hB
  go_simp
  generalize ((((((wf.setCell ⟨g, 0, none⟩ (.string ⟨r.m.1.toArray⟩)).setCell ⟨g, 1, none⟩ (.int .i64 r.m.2.1)).setCell ⟨g, 2, none⟩ (.int .i64 r.m.2.2.1)).setCell ⟨g, 3, none⟩ (.int .i64 r.m.2.2.2)).setCell ⟨g, 4, none⟩ (.slice r.A r.l.length r.c)).setCell ⟨g, 5, none⟩ (.slice A5 r.s.length c5)) = w3 at hb3 q3 p3 s3 y3 e3 r3 ⊢
  clear zr z0 z1 z2 z3 z4 z5 f0 f1 f2 f3 f4 f5 k0 k1 k2 k3 k4 k5
  obtain ⟨k0, k1, k2, k3, k4, k5⟩ := relC p3
  have H3 := Lib.hid hb3
  have QG := Lib.hid (show Blk w3 g 62 #[.string ⟨r.m.1.toArray⟩, .int .i64 r.m.2.1, .int .i64 r.m.2.2.1, .int .i64 r.m.2.2.2, .slice r.A r.l.length r.c, .slice A5 r.s.length c5] from q3)
  have S3 := Lib.hid (show Sl w3 w3.heap.size 2 encT A5 r.s by rw [e3]; exact s3)
  have Y3 := Lib.hid y3
  have cM3 := Lib.hid (cM.out w3 hb3)
  have R3 := Lib.hid r3
  clear r3 hb3 q3 p3 s3 y3 e3 q1 hG
  go_wp2_with fail
  refine cM3.out.mono ?_
  rintro e w4 ⟨A6, c6, rfl, hS6, hT6, hb4⟩
  have hg4 : g < w3.heap.size := QG.out.lt
  have H4 := Lib.hid (H3.out.trans (hb4.mono H3.out.size))
  have qg := QG.out.keep hb4
  obtain ⟨z0, z1, z2, z3, z4, z5⟩ := relC qg
  obtain ⟨f0, f1, f2, f3, f4, f5⟩ := relF qg
  have hAg : r.l = [] ∨ ∀ a, A6 = some a → a.block ≠ g := hT6.imp id fun h => h.ne qg (by decide)
  have S4 := Lib.hid (hS6.setCell ⟨g, 4, none⟩ (.slice A6 r.l.length c6) hAg)
  have hAs : r.s = [] ∨ ∀ a, A5 = some a → a.block ≠ g := Y3.out.imp id fun h => (h.keep hb4).ne qg (by decide)
  have S5 := Lib.hid (((S3.out.below hb4).more hb4.size).setCell ⟨g, 4, none⟩ (.slice A6 r.l.length c6) hAs)
  have T4 := Lib.hid (show r.l = [] ∨ TypedAt (w4.setCell ⟨g, 4, none⟩ (.slice A6 r.l.length c6)) 26 A6 by
   rcases hAg with h | h
   ·exact .inl h
   ·exact hT6.imp id fun h' => h'.set ⟨g, 4, none⟩ _ h)
  have T5 := Lib.hid (show r.s = [] ∨ TypedAt (w4.setCell ⟨g, 4, none⟩ (.slice A6 r.l.length c6)) 64 A5 by
   rcases hAs with h | h
   ·exact .inl h
   ·exact Y3.out.imp id fun h' => (h'.keep hb4).set ⟨g, 4, none⟩ _ h)
  have H5 := Lib.hid (H4.out.setCell (p := ⟨g, 4, none⟩) hwg (.slice A6 r.l.length c6))
  have r4 := (R3.out.keep hb4).far (p := ⟨g, 4, none⟩) hgn2 (.slice A6 r.l.length c6)
  have q5 := qg.set_ 4 (.slice A6 r.l.length c6)
  obtain ⟨a0, a1, a2, a3, a4, a5⟩ := relC r4
  obtain ⟨e0, e1, e2, e3, e4, e5⟩ := relF r4
  clear hS6 hT6 hb4 hAg hAs qg k0 k1 k2 k3 k4 k5
  have H6 := Lib.hid ((((((H5.out.setCell (p := ⟨w.heap.size + 1, 0, none⟩) (Nat.le_succ _) (.string ⟨r.m.1.toArray⟩)).setCell (p := ⟨w.heap.size + 1, 1, none⟩) (Nat.le_succ _) (.int .i64 r.m.2.1)).setCell (p := ⟨w.heap.size + 1, 2, none⟩) (Nat.le_succ _) (.int .i64 r.m.2.2.1)).setCell (p := ⟨w.heap.size + 1, 3, none⟩) (Nat.le_succ _) (.int .i64 r.m.2.2.2)).setCell (p := ⟨w.heap.size + 1, 4, none⟩) (Nat.le_succ _) (.slice A6 r.l.length c6)).setCell (p := ⟨w.heap.size + 1, 5, none⟩) (Nat.le_succ _) (.slice A5 r.s.length c5))
  have hm6 : r.l = [] ∨ ∀ a, A6 = some a → a.block ≠ w.heap.size + 1 := T4.out.imp id fun h => h.ne r4 (by decide)
  have hm5 : r.s = [] ∨ ∀ a, A5 = some a → a.block ≠ w.heap.size + 1 := T5.out.imp id fun h => h.ne r4 (by decide)
  have U6 := Lib.hid ((((((S4.out.setCell ⟨w.heap.size + 1, 0, none⟩ (.string ⟨r.m.1.toArray⟩) hm6).setCell ⟨w.heap.size + 1, 1, none⟩ (.int .i64 r.m.2.1) hm6).setCell ⟨w.heap.size + 1, 2, none⟩ (.int .i64 r.m.2.2.1) hm6).setCell ⟨w.heap.size + 1, 3, none⟩ (.int .i64 r.m.2.2.2) hm6).setCell ⟨w.heap.size + 1, 4, none⟩ (.slice A6 r.l.length c6) hm6).setCell ⟨w.heap.size + 1, 5, none⟩ (.slice A5 r.s.length c5) hm6)
  have U5 := Lib.hid ((((((S5.out.setCell ⟨w.heap.size + 1, 0, none⟩ (.string ⟨r.m.1.toArray⟩) hm5).setCell ⟨w.heap.size + 1, 1, none⟩ (.int .i64 r.m.2.1) hm5).setCell ⟨w.heap.size + 1, 2, none⟩ (.int .i64 r.m.2.2.1) hm5).setCell ⟨w.heap.size + 1, 3, none⟩ (.int .i64 r.m.2.2.2) hm5).setCell ⟨w.heap.size + 1, 4, none⟩ (.slice A6 r.l.length c6) hm5).setCell ⟨w.heap.size + 1, 5, none⟩ (.slice A5 r.s.length c5) hm5)
  have V6 := Lib.hid (show r.l = [] ∨ TypedAt ((((((((w4.setCell ⟨g, 4, none⟩ (.slice A6 r.l.length c6)).setCell ⟨w.heap.size + 1, 0, none⟩ (.string ⟨r.m.1.toArray⟩)).setCell ⟨w.heap.size + 1, 1, none⟩ (.int .i64 r.m.2.1)).setCell ⟨w.heap.size + 1, 2, none⟩ (.int .i64 r.m.2.2.1)).setCell ⟨w.heap.size + 1, 3, none⟩ (.int .i64 r.m.2.2.2)).setCell ⟨w.heap.size + 1, 4, none⟩ (.slice A6 r.l.length c6)).setCell ⟨w.heap.size + 1, 5, none⟩ (.slice A5 r.s.length c5))) 26 A6 by
   rcases hm6 with h | h
   ·exact .inl h
   ·exact T4.out.imp id fun h' => ((((((h'.set ⟨w.heap.size + 1, 0, none⟩ _ h).set ⟨w.heap.size + 1, 1, none⟩ _ h).set ⟨w.heap.size + 1, 2, none⟩ _ h).set ⟨w.heap.size + 1, 3, none⟩ _ h).set ⟨w.heap.size + 1, 4, none⟩ _ h).set ⟨w.heap.size + 1, 5, none⟩ _ h))
  have V5 := Lib.hid (show r.s = [] ∨ TypedAt ((((((((w4.setCell ⟨g, 4, none⟩ (.slice A6 r.l.length c6)).setCell ⟨w.heap.size + 1, 0, none⟩ (.string ⟨r.m.1.toArray⟩)).setCell ⟨w.heap.size + 1, 1, none⟩ (.int .i64 r.m.2.1)).setCell ⟨w.heap.size + 1, 2, none⟩ (.int .i64 r.m.2.2.1)).setCell ⟨w.heap.size + 1, 3, none⟩ (.int .i64 r.m.2.2.2)).setCell ⟨w.heap.size + 1, 4, none⟩ (.slice A6 r.l.length c6)).setCell ⟨w.heap.size + 1, 5, none⟩ (.slice A5 r.s.length c5))) 64 A5 by
   rcases hm5 with h | h
   ·exact .inl h
   ·exact T5.out.imp id fun h' => ((((((h'.set ⟨w.heap.size + 1, 0, none⟩ _ h).set ⟨w.heap.size + 1, 1, none⟩ _ h).set ⟨w.heap.size + 1, 2, none⟩ _ h).set ⟨w.heap.size + 1, 3, none⟩ _ h).set ⟨w.heap.size + 1, 4, none⟩ _ h).set ⟨w.heap.size + 1, 5, none⟩ _ h))
  clear hm5 hm6 r4
  go_wp2_with fail
  refine bodyPost_ret (v := .agg #[.string ⟨r.m.1.toArray⟩, .int .i64 r.m.2.1, .int .i64 r.m.2.2.1, .int .i64 r.m.2.2.2, .slice A6 r.l.length c6, .slice A5 r.s.length c5]) (by simp [results, Tryz.results32, go_sem, a0, a1, a2, a3, a4, a5]) rfl ⟨A6, c6, A5, c5, rfl, ?_, ?_, V6.out, V5.out, H6.out⟩
  ·have h := U6.out
   simpa using h
  ·have h := U5.out
   simpa using h
end Go.Proofs.YthcgihgajdjfoaaGreatDoor
