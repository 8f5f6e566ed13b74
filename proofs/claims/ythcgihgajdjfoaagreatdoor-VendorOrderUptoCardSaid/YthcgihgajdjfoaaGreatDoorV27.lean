/- What the claim needs of: VF. -/
import Derived.Test.YthcgihgajdjfoaaGreatDoorV24
import Derived.Test.YthcgihgajdjfoaaGreatDoorV12
import Derived.Test.YthcgihgajdjfoaaGreatDoorV26
namespace Go.Proofs.YthcgihgajdjfoaaGreatDoor
open Go.RowKit Go.Sort
structure RelS (w : World) (r : RelA) : Prop where
 ok : RelOk w r
 n : r.l.length ≤ 100
 b : ∀ m ∈ r.m :: r.l, okB m
theorem RelS.below {w w' : World} {r : RelA} (h : RelS w r) (hb : Below w.heap.size w w') : RelS w' r := ⟨h.ok.below hb, h.n, h.b⟩
theorem regW_man (L : List RelA) : regW (L.map manW) = (L.map RelA.rel).map manR := by
 unfold regW
 rw [List.map_map, List.map_map]
 rfl
theorem regOk_of {W : World} {A : Option Addr} {L : List RelA} (hS : Sl W W.heap.size 5 encW A (L.map manW)) (h : ∀ r ∈ L, RelS W r) (hl : L.length ≤ 100) : RegOk W W.heap.size A (L.map manW) :=
 ⟨hS, fun y hy => by
  obtain ⟨r, hr, rfl⟩ := List.mem_map.1 hy
  exact ⟨(h r hr).ok.hA, (h r hr).n, (h r hr).b⟩, by rwa [List.length_map]⟩
theorem build_small {L : List RelA} {w : World} {rm : Mod} {l : List Mod} (h : ∀ r ∈ L, RelS w r) (hl : L.length ≤ 100) (h0 : l.length ≤ 100) : (buildP ((L.map RelA.rel).map manR) rm l).1.length ≤ 100000 := by
 have h1 := buildP_len ((L.map RelA.rel).map manR) rm l
 have h2 := univ_len ((L.map RelA.rel).map manR) l (by simpa using hl) (fun z hz => by
  obtain ⟨q, hq, rfl⟩ := List.mem_map.1 hz
  obtain ⟨r, hr, rfl⟩ := List.mem_map.1 hq
  exact (h r hr).n)
 omega
def RelT (W : World) (r : RelA) : Prop := (r.l = [] ∨ TypedAt W 26 r.A) ∧ (r.s = [] ∨ TypedAt W 64 r.A')
theorem RelT.keep {W W' : World} {r : RelA} (h : RelT W r) (hb : Below W.heap.size W W') : RelT W' r := ⟨h.1.imp id fun x => x.keep hb, h.2.imp id fun x => x.keep hb⟩
theorem own_ne {w : World} {base e size n : Nat} {v : Value} {xs : List Value} {t : TypeId} {A : Option Addr} (h : w.ownsRow base e size v n xs) (ht : TypedAt w t A) (hne : t ≠ e) : ∀ a, A = some a → some a.block ≠ v.ownBlock := fun a ha he => by
 obtain ⟨cs, hc⟩ := ht a ha
 rcases h.2 with ⟨rfl, _⟩ | ⟨g, cap, cur, rfl, _, hg, _⟩
 ·simp [Value.ownBlock] at he
 ·obtain rfl : a.block = g := by simpa [Value.ownBlock] using he
  rw [hc] at hg
  injection hg with h1
  injection h1 with h2 h3
  exact hne h3
theorem TypedAt.grown {w w' : World} {t : TypeId} {A : Option Addr} {row : Option Nat} (h : TypedAt w t A) (hg : w.grownBy w' row) (hne : ∀ a, A = some a → some a.block ≠ row) : TypedAt w' t A := fun a ha => by
 obtain ⟨cs, hc⟩ := h a ha
 exact ⟨cs, (hg.block a.block (Blk.lt hc) (hne a ha)).trans hc⟩
theorem Sl.grown {α : Type} {w w' : World} {k : Nat} {enc : α → List Value} {A : Option Addr} {l : List α} {row : Option Nat} (h : Sl w w.heap.size k enc A l) (hg : w.grownBy w' row) (hne : l = [] ∨ ∀ a, A = some a → some a.block ≠ row) : Sl w' w'.heap.size k enc A l := by
 rcases h with h | ⟨b, off, e, hb, hc⟩
 ·exact .inl h
 ·rcases hne with rfl | hne
  ·exact .inl rfl
  ·refine .inr ⟨b, off, e, Nat.lt_of_lt_of_le hb hg.size, fun i hi j v hv => ?_⟩
   exact (World.cell?_of_block (hg.block b hb (hne _ e))).trans (hc i hi j v hv)
theorem rel_grown {w w' : World} {base size n : Nat} {v : Value} {xs : List Value} {r : RelA} (ho : w.ownsRow base 62 size v n xs) (hg : w.grownBy w' v.ownBlock) (h : RelOk w r ∧ RelT w r) : RelOk w' r ∧ RelT w' r := by
 obtain ⟨h1, h2, h3⟩ := h
 have n1 : r.l = [] ∨ ∀ a, r.A = some a → some a.block ≠ v.ownBlock := h2.imp id fun x => own_ne ho x (by decide)
 have n2 : r.s = [] ∨ ∀ a, r.A' = some a → some a.block ≠ v.ownBlock := h3.imp id fun x => own_ne ho x (by decide)
 refine ⟨⟨h1.hA.grown hg n1, h1.hS.grown hg n2, h1.hl, h1.hsl, h1.hm, h1.hs⟩, ?_, ?_⟩
 ·rcases n1 with n1 | n1
  ·exact .inl n1
  ·exact h2.imp id fun x => x.grown hg n1
 ·rcases n2 with n2 | n2
  ·exact .inl n2
  ·exact h3.imp id fun x => x.grown hg n2
theorem elRels : ElT Tryz.prog 22 62 6 88 := ElT.mk_ (z := .agg #[.string ByteArray.empty, .int .i64 0, .int .i64 0, .int .i64 0, .slice none 0 0, .slice none 0 0]) Tryz.underlying22 (by kernel_rfl) rfl (by decide)
theorem flatR_snoc (Q : List RelA) (q : RelA) : (Q ++ [q]).flatMap encR = Q.flatMap encR ++ [.string ⟨q.m.1.toArray⟩, .int .i64 q.m.2.1, .int .i64 q.m.2.2.1, .int .i64 q.m.2.2.2, .slice q.A q.l.length q.c, .slice q.A' q.s.length q.c'] := by
 rw [List.flatMap_append, List.flatMap_singleton]
 rfl
def RetC (w : World) (r : List Rel × Int) (e : Ending) (w' : World) : Prop :=
 ∃ (A : Option Addr) (c : Nat) (Q : List RelA), e = .returned (.tuple #[.slice A Q.length c, .int .i64 r.2]) ∧ Q.map RelA.rel = r.1 ∧ Sl w' w'.heap.size 6 encR A Q ∧ (∀ q ∈ Q, RelOk w' q) ∧ Below w.heap.size w w'
theorem build_in {R : Regy} {root : Mod} {l : List Mod} (h : (buildP R root l).2 = 0) : ∃ D, (buildP R root l).1 = root :: D ∧ ∀ m ∈ D, m ∈ R.map (·.1) := by
 obtain ⟨D, hB⟩ := built h
 exact ⟨D, by rw [hB.eq], fun m hm => (hB.tail.mem m hm).1⟩
theorem findR_at {L : List RelA} {m : Mod} (h : m ∈ L.map RelA.m) : ∃ k, ∃ hk : k < L.length, idxR L m = k ∧ L[k].m = m ∧ findR (L.map RelA.rel) m = some L[k].rel := by
 have hlt : L.findIdx (fun r => decide (r.m = m)) < L.length := by
  rw [List.findIdx_lt_length]
  obtain ⟨r, hr, he⟩ := List.mem_map.1 h
  exact ⟨r, hr, decide_eq_true he⟩
 refine ⟨_, hlt, by unfold idxR; rw [if_pos hlt], of_decide_eq_true (List.findIdx_getElem (w := hlt)), ?_⟩
 unfold findR
 rw [List.find?_map]
 have h2 : L.find? ((fun r : Rel => decide (r.1 = m)) ∘ RelA.rel) = some (L[L.findIdx (fun r => decide (r.m = m))]) := by
  rw [List.find?_eq_some_iff_getElem]
  refine ⟨List.findIdx_getElem (w := hlt), _, hlt, rfl, fun j hj => ?_⟩
  have h3 := List.not_of_lt_findIdx hj
  show (!decide (L[j].m = m)) = true
  have h4 : ¬ L[j].m = m := by simpa using h3
  simp [h4]
 rw [h2]
 rfl
set_option maxRecDepth 100000 in
theorem frame61_32_33_34_35_31_36_37_10_11 {Q : Exit → Act → World → Prop} {W : World} {fs : List Fact} (t0 t1 t2 t3 t4 t5 t6 t7 t8 t9 t10 t11 t12 t13 t14 t15 t16 t17 t18 t19 t20 t21 t22 t23 t24 t25 t26 t27 t28 t29 t30 t31 t32 t33 t34 t35 t36 t37 t38 t39 t40 t41 t42 t43 t44 t45 t46 t47 t48 t49 t50 t51 t52 t53 t54 t55 t56 t57 t58 t59 t60 v0 v1 v2 v3 v4 v5 v6 v7 v8 : Value) (h : Q .normal (Act.mk #[t0, t1, t2, t3, t4, t5, t6, t7, t8, t9, v7, v8, t12, t13, t14, t15, t16, t17, t18, t19, t20, t21, t22, t23, t24, t25, t26, t27, t28, t29, t30, v4, v0, v1, v2, v3, v5, v6, t38, t39, t40, t41, t42, t43, t44, t45, t46, t47, t48, t49, t50, t51, t52, t53, t54, t55, t56, t57, t58, t59, t60] []) W) : FinAll W (fun A => Q .normal A W) [] fs (Act.put (Act.put (Act.put (Act.put (Act.put (Act.put (Act.put (Act.put (Act.put (Act.mk #[t0, t1, t2, t3, t4, t5, t6, t7, t8, t9, t10, t11, t12, t13, t14, t15, t16, t17, t18, t19, t20, t21, t22, t23, t24, t25, t26, t27, t28, t29, t30, t31, t32, t33, t34, t35, t36, t37, t38, t39, t40, t41, t42, t43, t44, t45, t46, t47, t48, t49, t50, t51, t52, t53, t54, t55, t56, t57, t58, t59, t60] []) (some 32) v0) (some 33) v1) (some 34) v2) (some 35) v3) (some 31) v4) (some 36) v5) (some 37) v6) (some 10) v7) (some 11) v8) :=
 fin_end (by kernel_rfl) h
set_option maxRecDepth 100000 in
set_option maxHeartbeats 4000000 in
theorem Collect_any (A : Option Addr) (c : Nat) (L : List RelA) (y0 : ManW) (w : World) (hA : Sl w w.heap.size 6 encR A L) (hok : ∀ r ∈ L, RelS w r) (hl : L.length ≤ 100) (h0 : ManOk w w.heap.size y0) (hG : Glob w) :
  Calls Tryz.prog 14 #[.slice A L.length c, .agg #[.string ⟨y0.1.1.toArray⟩, .int .i64 y0.1.2.1, .int .i64 y0.1.2.2.1, .int .i64 y0.1.2.2.2, .slice y0.2.1 y0.2.2.2.length y0.2.2.1]] w (RetC w (collectP (L.map RelA.rel) y0.1 y0.2.2.2)) := by
 obtain ⟨rm, A0, c0, l0⟩ := y0
 simp only
 have HA := Lib.hid hA
 have HOK := Lib.hid hok
 have H0 := Lib.hid h0
 have HG := Lib.hid hG
 have HB0 := Lib.hid (show Below w.heap.size w (w.alloc (.cells (manA rm A0 l0.length c0) 29)) from (Below.refl _ _).alloc (Nat.le_refl _) _)
 have Q0 := Lib.hid (Blk.new w 29 (manA rm A0 l0.length c0))
 unfold manA at HB0 Q0
 have HFe := Lib.hid (fun k (hk : k < L.length) (hz : ∀ j (_ : j < k) (hj : j < L.length), rerr L[j].rel = 0) (hn : rerr L[k].rel ≠ 0) => show ferr (L.map RelA.rel) = rerr L[k].rel by
  have h := ferr_at (L.map RelA.rel) k (by simpa using hk) (fun j hj => by have := hz j hj (by omega); simpa using this) (by simpa using hn)
  simpa using h)
 have HFz := Lib.hid (fun (hz : ∀ j (hj : j < L.length), rerr L[j].rel = 0) => show ferr (L.map RelA.rel) = 0 by
  have : ∀ l : List Rel, (∀ r ∈ l, rerr r = 0) → ferr l = 0 := by
   intro l
   induction l with
   | nil => intro _; rfl
   | cons x l ih => intro h; unfold ferr; rw [if_pos (h x (by simp))]; exact ih fun r hr => h r (by simp [hr])
  refine this _ fun r hr => ?_
  obtain ⟨q, hq, rfl⟩ := List.mem_map.1 hr
  obtain ⟨j, hj, rfl⟩ := List.mem_iff_getElem.1 hq
  exact hz j hj)
 obtain ⟨res, hres⟩ : ∃ res, res = collectP (L.map RelA.rel) rm l0 := ⟨_, rfl⟩
 rw [← hres]
 unfold collectP at hres
 have HRES := Lib.hid hres
 clear hA hok h0 hG hres
 go_enter Tryz.func14, Tryz.ntmps14
 go_wp2_with fail
 go_loopw [18] (fun i wr => ∃ k : Nat, k ≤ L.length ∧ i = .int .i64 (k : Nat) ∧ Hid (∀ j (_ : j < k) (hj : j < L.length), rerr L[j].rel = 0) ∧ Hid (Below w.heap.size w wr) ∧ Hid (Blk wr w.heap.size 29 #[.string ⟨rm.1.toArray⟩, .int .i64 rm.2.1, .int .i64 rm.2.2.1, .int .i64 rm.2.2.2, .slice A0 l0.length c0])) (fun i _ => L.length - (intOf i).toNat)
 case atStart => exact ⟨0, Nat.zero_le _, rfl, Lib.hid (by omega), HB0, Q0⟩
 case round =>
  obtain ⟨wo, hwo⟩ : ∃ wo, wo = wr := ⟨_, rfl⟩
  subst hwo
  obtain ⟨k, hk, rfl, HZ, HB, HQ⟩ := hrel
  by_cases hlt : k < L.length
  ·have hlt' : (k : Int) < (L.length : Int) := by omega
   obtain ⟨b, off, hA1, hbB, g0, g1, g2, g3, g4, g5⟩ := (HA.out.below HB.out).rel hlt
   have hrk := ((HOK.out L[k] (List.getElem_mem hlt)).below HB.out).ok
   have HE := Lib.hid (fun h => HFe.out k hlt HZ.out h)
   have HZ2 := Lib.hid (fun (h : rerr L[k].rel = 0) j (hj : j < k + 1) (hjl : j < L.length) => show rerr L[j].rel = 0 from by
    rcases Nat.lt_or_ge j k with h1 | h1
    ·exact HZ.out j h1 hjl
    ·obtain rfl : j = k := by omega
     exact h)
   have HA1 := Lib.hid hA1
   subst hA1
   generalize L[k] = r at g0 g1 g2 g3 g4 g5 hrk HE HZ2
   have HA2 := Lib.hid (show Below wo.heap.size wo (wo.alloc (.cells #[.string ⟨r.m.1.toArray⟩, .int .i64 r.m.2.1, .int .i64 r.m.2.2.1, .int .i64 r.m.2.2.2, .slice r.A r.l.length r.c, .slice r.A' r.s.length r.c'] 62)) from (Below.refl _ _).alloc (Nat.le_refl _) _)
   have cR0 := relA_any r (wo.alloc (.cells #[.string ⟨r.m.1.toArray⟩, .int .i64 r.m.2.1, .int .i64 r.m.2.2.1, .int .i64 r.m.2.2.2, .slice r.A r.l.length r.c, .slice r.A' r.s.length r.c'] 62)) (hrk.below HA2.out) ((HG.out.keep HB.out).keep HA2.out)
   generalize rtext r.rel = rt at cR0
   generalize rerr r.rel = re at cR0 HE HZ2
   have cR := Lib.hid cR0
   clear cR0 hrk
   go_wp2_with fail
   refine cR.out.mono ?_
   rintro e w2 ⟨rfl, hb2⟩
   have HX := Lib.hid (HA2.out.trans (hb2.mono HA2.out.size))
   have HB2 := Lib.hid (HB.out.trans (HX.out.mono HB.out.size))
   have HQ2 := Lib.hid (HQ.out.keep HX.out)
   clear hb2 cR g0 g1 g2 g3 g4 g5
   by_cases he : re = 0
   ·have HZ3 := Lib.hid (HZ2.out he)
    subst he
    clear HE HZ2
    go_wp2
    go_roundw
    case rel => exact ⟨k + 1, by omega, by go_num, HZ3, HB2, HQ2⟩
    case measure => simp [intOf]; omega
   ·have hr : res = ([], re) := by
     have h1 := HE.out he
     rw [HRES.out, h1, if_pos he]
    have hen : (re == 0) = false := by simpa using he
    subst hr
    clear HE HZ2 he
    go_wp2
    refine bodyPost_ret (v := .tuple #[.slice none 0 0, .int .i64 re]) (by simp [results, Tryz.results14, go_sem]) rfl ⟨none, 0, [], rfl, rfl, Sl.nil_, (fun q hq => by cases hq), HB2.out⟩
  ·obtain rfl : k = L.length := by omega
   have hfz := HFz.out fun j hj => HZ.out j hj hj
   have hres := HRES.out
   rw [hfz, if_neg (by simp)] at hres
   have HSo := Lib.hid (show Sl wo wo.heap.size 6 encR A L from (HA.out.below HB.out).more HB.out.size)
   have HOo := Lib.hid (fun r hr => (HOK.out r hr).below HB.out)
   have cM := Lib.hid (fun W (hW : Below wo.heap.size wo W) => manifests_any A c L W ((HSo.out.below hW).more hW.size) (by omega))
   have cB0 := fun (A1 : Option Addr) (c1 : Nat) W (hW : Below wo.heap.size wo W) (hS : Sl W W.heap.size 5 encW A1 (L.map manW)) => BuildList_any A1 c1 (L.map manW) (rm, A0, c0, l0) W (regOk_of hS (fun r hr => (HOo.out r hr).below hW) hl) ((H0.out.keep (HB.out.trans (hW.mono HB.out.size))).more (Nat.le_trans HB.out.size hW.size)) (HG.out.keep (HB.out.trans (hW.mono HB.out.size)))
   rw [regW_man] at cB0
   have HIn := Lib.hid (fun h => build_in (R := (L.map RelA.rel).map manR) (root := rm) (l := l0) h)
   simp only [List.length_map] at cB0
   have hbln := build_small HOo.out (by omega) H0.out.2.1 (rm := rm) (l := l0)
   generalize buildP ((L.map RelA.rel).map manR) rm l0 = B at cB0 hres HIn hbln
   obtain ⟨bl, eb⟩ := B
   unfold RetB at cB0
   simp only at cB0 hres HIn hbln
   have cB := Lib.hid cB0
   have HRES2 := Lib.hid hres
   obtain ⟨q0, q1, q2, q3, q4⟩ := manC (m := rm) (A := A0) (n := l0.length) (c := c0) HQ.out
   have hwz : w.heap.size < wo.heap.size := HQ.out.lt
   clear cB0 hres hfz
   go_upto_region 8 with fail
   apply wp_region_facts (by kernel_rfl) [isv _, (fun v W => ∃ (A : Option Addr) (c : Nat), v = .slice A L.length c ∧ Sl W W.heap.size 5 encW A (L.map manW)), isv _, (fun v W => ∃ (A : Option Addr) (c : Nat), v = .tuple #[.slice A bl.length c, .int .i64 eb] ∧ bl.length ≤ c ∧ Sl W W.heap.size 4 encM A bl), (fun v W => ∃ (A : Option Addr) (c : Nat), v = .tuple #[.slice A bl.length c, .int .i64 eb] ∧ bl.length ≤ c ∧ Sl W W.heap.size 4 encM A bl), (fun v W => ∃ (A : Option Addr) (c : Nat), v = .slice A bl.length c ∧ bl.length ≤ c ∧ Sl W W.heap.size 4 encM A bl), isv _, (fun v W => ∃ (A : Option Addr) (c : Nat), v = .slice A bl.length c ∧ bl.length ≤ c ∧ Sl W W.heap.size 4 encM A bl), isv _] wo.heap.size wo (Nat.le_refl _) (Below.refl _ _).drew (by kernel_rfl) (by kernel_rfl) (by kernel_rfl) (And.intro (isv_mono _) (And.intro (fun _ _ _ ⟨A, c, e, h1⟩ hb => ⟨A, c, e, (h1.below hb).more hb.size⟩) (And.intro (isv_mono _) (And.intro (fun _ _ _ ⟨A, c, e, h0, h1⟩ hb => ⟨A, c, e, h0, (h1.below hb).more hb.size⟩) (And.intro (fun _ _ _ ⟨A, c, e, h0, h1⟩ hb => ⟨A, c, e, h0, (h1.below hb).more hb.size⟩) (And.intro (fun _ _ _ ⟨A, c, e, h0, h1⟩ hb => ⟨A, c, e, h0, (h1.below hb).more hb.size⟩) (And.intro (isv_mono _) (And.intro (fun _ _ _ ⟨A, c, e, h0, h1⟩ hb => ⟨A, c, e, h0, (h1.below hb).more hb.size⟩) (And.intro (isv_mono _) trivial))))))))) ?steps (by rfl) ?fin
   case steps =>
    refine (And.intro ?o0 (And.intro ?o1 (And.intro ?o2 (And.intro ?o3 (And.intro ?o4 (And.intro ?o5 (And.intro ?o6 (And.intro ?o7 (And.intro ?o8 trivial)))))))))
    case o0 =>
     intro AA W KK QQ hB hs hd hl hk
     have sl0 := hs 0 _ (by kernel_rfl) rfl
     clear hs hd hl
     go_simp
     exact hk _ _ rfl (Below.refl _ _)
    case o1 =>
     intro AA W KK QQ hB hs hd hl hk
     obtain ⟨_, sl32, rfl⟩ := hd 0 32 (by kernel_rfl) rfl
     clear hs hd hl
     go_simp
     refine (cM.out W hB).mono ?_
     rintro e W2 ⟨A, c, rfl, hS, hb2⟩
     exact hk _ _ ⟨A, c, rfl, hS⟩ hb2
    case o2 =>
     intro AA W KK QQ hB hs hd hl hk
     have sl3 := hs 3 _ (by kernel_rfl) rfl
     clear hs hd hl
     have hx0 := hB.cell (p := ⟨w.heap.size, 0, none⟩) hwz
     have hx1 := hB.cell (p := ⟨w.heap.size, 1, none⟩) hwz
     have hx2 := hB.cell (p := ⟨w.heap.size, 2, none⟩) hwz
     have hx3 := hB.cell (p := ⟨w.heap.size, 3, none⟩) hwz
     have hx4 := hB.cell (p := ⟨w.heap.size, 4, none⟩) hwz
     rw [q0] at hx0
     rw [q1] at hx1
     rw [q2] at hx2
     rw [q3] at hx3
     rw [q4] at hx4
     go_simp
     exact hk _ _ rfl (Below.refl _ _)
    case o3 =>
     intro AA W KK QQ hB hs hd hl hk
     obtain ⟨_, sl33, ⟨A, c, rfl, hS⟩⟩ := hd 1 33 (by kernel_rfl) rfl
     obtain ⟨_, sl34, rfl⟩ := hd 2 34 (by kernel_rfl) rfl
     clear hs hd hl
     go_simp
     refine (cB.out A c W hB hS).mono ?_
     rintro e W2 ⟨A, c, rfl, hC, hS, hb2⟩
     exact hk _ _ ⟨A, c, rfl, hC, hS⟩ hb2
    case o4 =>
     intro AA W KK QQ hB hs hd hl hk
     obtain ⟨_, sl35, ⟨A, c, rfl, hC, hS⟩⟩ := hd 3 35 (by kernel_rfl) rfl
     clear hs hd hl
     go_simp
     exact hk _ _ ⟨A, c, rfl, hC, hS⟩ (Below.refl _ _)
    case o5 =>
     intro AA W KK QQ hB hs hd hl hk
     obtain ⟨_, sl31, ⟨A, c, rfl, hC, hS⟩⟩ := hd 4 31 (by kernel_rfl) rfl
     clear hs hd hl
     go_simp
     exact hk _ _ ⟨A, c, rfl, hC, hS⟩ (Below.refl _ _)
    case o6 =>
     intro AA W KK QQ hB hs hd hl hk
     obtain ⟨_, sl31, ⟨A, c, rfl, hC, hS⟩⟩ := hd 4 31 (by kernel_rfl) rfl
     clear hs hd hl
     go_simp
     exact hk _ _ rfl (Below.refl _ _)
    case o7 =>
     intro AA W KK QQ hB hs hd hl hk
     obtain ⟨_, sl36, ⟨A, c, rfl, hC, hS⟩⟩ := hd 5 36 (by kernel_rfl) rfl
     clear hs hd hl
     go_simp
     exact hk _ _ ⟨A, c, rfl, hC, hS⟩ (Below.refl _ _)
    case o8 =>
     intro AA W KK QQ hB hs hd hl hk
     obtain ⟨_, sl37, rfl⟩ := hd 6 37 (by kernel_rfl) rfl
     clear hs hd hl
     go_simp
     exact hk _ _ rfl (Below.refl _ _)
   case fin =>
    intro wf hB
    refine fin_isv 32 rfl ?_
    refine fin_fact 33 rfl ?_
    rintro _ ⟨_, _, rfl, _⟩
    refine fin_isv 34 rfl ?_
    refine fin_fact 35 rfl ?_
    rintro _ ⟨_, _, rfl, _, _⟩
    refine fin_fact 31 rfl ?_
    rintro _ ⟨_, _, rfl, _, _⟩
    refine fin_fact 36 rfl ?_
    rintro _ ⟨_, _, rfl, _, _⟩
    refine fin_isv 37 rfl ?_
    refine fin_fact 10 rfl ?_
    rintro _ ⟨A3, c3, rfl, hC3, hS3⟩
    refine fin_isv 11 rfl ?_
    refine frame61_32_33_34_35_31_36_37_10_11 _ _ _ _ _ _ _ _ _ _ _ _ _ _ _ _ _ _ _ _ _ _ _ _ _ _ _ _ _ _ _ _ _ _ _ _ _ _ _ _ _ _ _ _ _ _ _ _ _ _ _ _ _ _ _ _ _ _ _ _ _ _ _ _ _ _ _ _ _ _ ?_
    have HBf := Lib.hid (HB.out.trans (hB.mono HB.out.size))
    have HWf := Lib.hid hB
    have HS3 := Lib.hid hS3
    clear hB hS3 q0 q1 q2 q3 q4
    by_cases he : eb = 0
    ·obtain ⟨D, hD, hDin⟩ := HIn.out he
     have hr : res = (D.filterMap (findR (L.map RelA.rel)), 0) := by
      rw [HRES2.out, if_neg (by simpa using he), hD]
      rfl
     have hbl : bl.length = D.length + 1 := by rw [hD]; rfl
     have HD := Lib.hid (fun k (hk : k < D.length) (hk2 : k + 1 < bl.length) => show bl[k + 1] = D[k] by simp only [hD, List.getElem_cons_succ])
     have HIN := Lib.hid hDin
     have h1p : 0 < bl.length := by omega
     obtain ⟨b3, o3, hA3, hb3, _⟩ := HS3.out.mod h1p
     have hi1 : (1 : Int) ≤ (bl.length : Int) := by omega
     have hi2 : (bl.length : Int) ≤ (c3 : Int) := by omega
     subst he hr
     have HA3 := Lib.hid hA3
     subst hA3
     clear hD hDin
     by_cases hD0 : D = []
     ·subst hD0
      clear HD HIN
      simp only [List.length_nil, Nat.zero_add] at hbl
      go_wp2_with fail
      all_goals
       go_loopw [12, 44] (fun v i wr => v = .slice none 0 0 ∧ i = .int .i64 0 ∧ wr = wf) (fun _ _ _ => 0)
       case atStart => exact ⟨rfl, rfl, rfl⟩
       case round =>
        obtain ⟨rfl, rfl, rfl⟩ := hrel
        go_wp2
        refine bodyPost_ret (v := .tuple #[.slice none 0 0, .int .i64 0]) (by simp [results, Tryz.results14, go_sem]) rfl ⟨none, 0, [], rfl, rfl, Sl.nil_, (fun q hq => by cases hq), HBf.out⟩
     ·have hDp : 0 < D.length := List.length_pos_iff.2 hD0
      have hc31 : ¬ c3 = 1 := by omega
      clear hD0
      go_wp2_with fail
      go_loopw [12, 44] (fun v i wr => ∃ (k : Nat) (Av : Option Addr) (cv : Nat) (Q : List RelA), k ≤ D.length ∧ i = .int .i64 (k : Nat) ∧ v = .slice Av k cv ∧ Hid (Q.length = k) ∧ Hid (Q.map RelA.rel = (D.take k).filterMap (findR (L.map RelA.rel))) ∧ Hid (wr.ownsRow wf.heap.size 62 6 (.slice Av k cv) k (Q.flatMap encR)) ∧ Hid (∀ q ∈ Q, RelOk wr q ∧ RelT wr q) ∧ Hid (Below wf.heap.size wf wr)) (fun _ i _ => D.length - (intOf i).toNat)
      case atStart => exact ⟨0, none, 0, [], Nat.zero_le _, rfl, rfl, Lib.hid rfl, Lib.hid rfl, Lib.hid (World.ownsRow_nil _ _ _ _), Lib.hid (fun q hq => by cases hq), Lib.hid (Below.refl _ _)⟩
      case round =>
       obtain ⟨wo, hwo⟩ : ∃ wo, wo = wr := ⟨_, rfl⟩
       subst hwo
       obtain ⟨k, Av, cv, Q, hk, rfl, rfl, HQl, HQm, HO, HR, HBk⟩ := hrel
       have HBo := Lib.hid (HBf.out.trans (HBk.out.mono HBf.out.size))
       have HWo := Lib.hid (HWf.out.trans (HBk.out.mono HWf.out.size))
       have hzk := HBk.out.size
       by_cases hlt : k < D.length
       ·have hlt' : (k : Int) < (D.length : Int) := by omega
        have hk1 : k + 1 < bl.length := by omega
        obtain ⟨b4, o4, hA4, hb4, g0, g1, g2, g3⟩ := ((HS3.out.below HBk.out).more hzk).mod hk1
        obtain ⟨rfl, rfl⟩ : b3 = b4 ∧ o3 = o4 := by injection hA4 with h; injection h with h1 h2; exact ⟨h1, h2⟩
        rw [HD.out k hlt hk1] at g0 g1 g2 g3
        have eoff : o3 + (k + 1) * 4 = o3 + 4 + k * 4 := by omega
        rw [eoff] at g0 g1 g2 g3
        have hin := HIN.out _ (List.getElem_mem hlt)
        have HTk := Lib.hid (List.take_succ_eq_append_getElem hlt)
        generalize D[k] = m at g0 g1 g2 g3 hin HTk
        obtain ⟨kk, hkk, hix, hmk, hfr⟩ := findR_at (L := L) (m := m) (by
         have h := hin
         simp only [List.map_map] at h
         exact h)
        have HFR := Lib.hid hfr
        have HA5 := Lib.hid (show Below wo.heap.size wo (wo.alloc (.cells #[.string ⟨m.1.toArray⟩, .int .i64 m.2.1, .int .i64 m.2.2.1, .int .i64 m.2.2.2] 26)) from (Below.refl _ _).alloc (Nat.le_refl _) _)
        have cI0 := indexRel_any A c wo.heap.size L m (wo.alloc (.cells #[.string ⟨m.1.toArray⟩, .int .i64 m.2.1, .int .i64 m.2.2.1, .int .i64 m.2.2.2] 26)) (((HSo.out.below HWo.out).more HWo.out.size |>.below HA5.out).more HA5.out.size) (by omega) (modC (Blk.new wo 26 #[.string ⟨m.1.toArray⟩, .int .i64 m.2.1, .int .i64 m.2.2.1, .int .i64 m.2.2.2]))
        rw [hix] at cI0
        have cI := Lib.hid cI0
        clear hA4 hin hfr hix cI0 hmk eoff
        go_wp2_with fail
        refine cI.out.mono ?_
        rintro e w5 ⟨rfl, hb5⟩
        have HX5 := Lib.hid (HA5.out.trans (hb5.mono HA5.out.size))
        have HW5 := Lib.hid (HWo.out.trans (HX5.out.mono HWo.out.size))
        clear hb5 g0 g1 g2 g3 cI
        have hkk' : (kk : Int) < (L.length : Int) := by omega
        have hkk0 : (0 : Int) ≤ (kk : Int) := by omega
        obtain ⟨b6, o6, hA6, hb6, g0, g1, g2, g3, g4, g5⟩ := ((HSo.out.below HW5.out).more HW5.out.size).rel hkk
        have hrk := ((HOo.out _ (List.getElem_mem hkk)).below HW5.out).ok
        generalize L[kk] = r at g0 g1 g2 g3 g4 g5 hrk HFR
        have HRK := Lib.hid hrk
        have cC := Lib.hid (copied_any r w5 hrk)
        have HA6 := Lib.hid hA6
        subst hA6
        clear hrk
        go_wp2_with fail
        refine cC.out.mono ?_
        rintro e w6 ⟨A6, c6, A7, c7, rfl, hq1, hq2, hq3, hq4, hb6⟩
        have HQ6 := Lib.hid (show RelOk w6 ⟨r.m, A6, c6, r.l, A7, c7, r.s⟩ ∧ RelT w6 ⟨r.m, A6, c6, r.l, A7, c7, r.s⟩ from ⟨⟨hq1, hq2, HRK.out.hl, HRK.out.hsl, HRK.out.hm, HRK.out.hs⟩, hq3, hq4⟩)
        have HX6 := Lib.hid (HX5.out.trans (hb6.mono HX5.out.size))
        have HWA := Lib.hid (show Below w6.heap.size w6 (w6.alloc (.cells #[.string ⟨r.m.1.toArray⟩, .int .i64 r.m.2.1, .int .i64 r.m.2.2.1, .int .i64 r.m.2.2.2, .slice A6 r.l.length c6, .slice A7 r.s.length c7] 62)) from (Below.refl _ _).alloc (Nat.le_refl _) _)
        have HXA := Lib.hid (HX6.out.trans (HWA.out.mono HX6.out.size))
        have HOA := Lib.hid (own_below2 HO.out HXA.out)
        have HRA := Lib.hid (show ∀ q ∈ Q ++ [(⟨r.m, A6, c6, r.l, A7, c7, r.s⟩ : RelA)], RelOk (w6.alloc (.cells #[.string ⟨r.m.1.toArray⟩, .int .i64 r.m.2.1, .int .i64 r.m.2.2.1, .int .i64 r.m.2.2.2, .slice A6 r.l.length c6, .slice A7 r.s.length c7] 62)) q ∧ RelT (w6.alloc (.cells #[.string ⟨r.m.1.toArray⟩, .int .i64 r.m.2.1, .int .i64 r.m.2.2.1, .int .i64 r.m.2.2.2, .slice A6 r.l.length c6, .slice A7 r.s.length c7] 62)) q from fun q hq => by
         rcases List.mem_append.1 hq with h | h
         ·exact ⟨(HR.out q h).1.below HXA.out, (HR.out q h).2.keep HXA.out⟩
         ·rw [List.mem_singleton.1 h]
          exact ⟨HQ6.out.1.below HWA.out, HQ6.out.2.keep HWA.out⟩)
        have b0 : k + 1 ≤ maxLen := by unfold maxLen; omega
        have b1 : (k + 1) * 88 ≤ 140737488355328 := by omega
        have hbz := Nat.le_trans hzk HXA.out.size
        clear hq1 hq2 hq3 hq4 hb6 g0 g1 g2 g3 g4 g5 cC
        go_wp2_with (at_builtin; refine wpList_own rfl (.tmp 51) (.tmp 57) rfl wf.heap.size elRels (.slice Av k cv) k _ rfl HOA.out _ 1 _ _ rfl (Src.lit _ 6 _ _ 1 rfl) (by decide) (by simp [Value.oneCell']) b0 b1 hbz ?_; intro v' w7 hown7 hgrow7 hb7; obtain ⟨A8, c8, rfl⟩ := Acc.shape (.inl hown7); have HOWN := Lib.hid hown7; have HG7 := Lib.hid hgrow7; have HB7 := Lib.hid hb7; clear hown7 hgrow7 hb7)
        go_roundw
        case rel => exact ⟨k + 1, A8, c8, Q ++ [⟨r.m, A6, c6, r.l, A7, c7, r.s⟩], by omega, by go_num, rfl, Lib.hid (by rw [List.length_append, HQl.out]; rfl), Lib.hid (by rw [List.map_append, HQm.out, HTk.out, List.filterMap_append]; simp [HFR.out, RelA.rel]), Lib.hid (by rw [flatR_snoc]; exact HOWN.out), Lib.hid (fun q hq => rel_grown HOA.out HG7.out (HRA.out q hq)), Lib.hid ((HBk.out.trans (HXA.out.mono hzk)).trans HB7.out)⟩
        case measure => first | (simp [intOf]; done) | (simp [intOf]; omega)
       ·obtain rfl : k = D.length := by omega
        rw [List.take_length] at HQm
        go_wp2
        refine bodyPost_ret (v := .tuple #[.slice Av D.length cv, .int .i64 0]) (by simp [results, Tryz.results14, go_sem]) rfl ?_
        exact ⟨Av, cv, Q, by rw [HQl.out], HQm.out, Acc.slAny (.inl (show wo.ownsRow wf.heap.size 62 6 (.slice Av Q.length cv) Q.length (Q.flatMap encR) by rw [HQl.out]; exact HO.out)) encR_len (by decide), fun q hq => (HR.out q hq).1, HBo.out⟩
    ·have hr : res = ([], eb) := by rw [HRES2.out, if_pos he]
     have hen : (eb == 0) = false := by simpa using he
     subst hr
     clear he
     go_wp2
     refine bodyPost_ret (v := .tuple #[.slice none 0 0, .int .i64 eb]) (by simp [results, Tryz.results14, go_sem]) rfl ⟨none, 0, [], rfl, rfl, Sl.nil_, (fun q hq => by cases hq), HBf.out⟩
end Go.Proofs.YthcgihgajdjfoaaGreatDoor
