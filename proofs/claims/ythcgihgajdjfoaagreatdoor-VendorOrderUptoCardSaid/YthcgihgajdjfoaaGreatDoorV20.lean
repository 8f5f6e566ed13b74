/- What the claim needs of: IF. -/
import Derived.Test.YthcgihgajdjfoaaGreatDoorV12
import Derived.Test.YthcgihgajdjfoaaGreatDoorV16
import Derived.Test.YthcgihgajdjfoaaGreatDoorV17
import Derived.Test.YthcgihgajdjfoaaGreatDoorV19
namespace Go.Proofs.YthcgihgajdjfoaaGreatDoor
open Go.RowKit Go.Sort
theorem issC {W : World} {g : Nat} {t : TypeId} {v0 v1 : Value} (h : Blk W g t #[v0, v1]) : W.cell? ⟨g, 0, none⟩ = some v0 ∧ W.cell? ⟨g, 1, none⟩ = some v1 := ⟨h.cell 0, h.cell 1⟩
def encI (x : Iss) : List Value := [.string ⟨x.1.toArray⟩, .int .i64 x.2]
theorem encI_len (x : Iss) : (encI x).length = 2 := rfl
theorem encI_one1 (x : Iss) : ∀ v ∈ encI x, v.oneCell' = true := fun v hv => by
 simp [encI] at hv
 rcases hv with rfl | rfl <;> rfl
theorem encI_one (l : List Iss) : ∀ u ∈ l.flatMap encI, u.oneCell' = true := fun u hu => by
 obtain ⟨x, _, hx⟩ := List.mem_flatMap.1 hu
 exact encI_one1 x u hx
theorem elIss : ElT Tryz.prog 55 88 2 24 := ElT.mk_ (z := .agg #[.string ByteArray.empty, .int .i64 0]) Tryz.underlying55 (by kernel_rfl) rfl (by decide)
theorem Sl.iss {w : World} {B : Nat} {A : Option Addr} {l : List Iss} (h : Sl w B 2 encI A l) {i : Nat} (hi : i < l.length) :
  ∃ b off, A = some ⟨b, off, none⟩ ∧ b < B ∧ w.cell? ⟨b, off + i * 2, none⟩ = some (.string ⟨(l[i]).1.toArray⟩) ∧ w.cell? ⟨b, off + i * 2 + 1, none⟩ = some (.int .i64 (l[i]).2) := by
 obtain ⟨b, off, e, hb, hc⟩ := h.at_ hi
 exact ⟨b, off, e, hb, by simpa using hc 0 _ rfl, hc 1 _ rfl⟩
theorem eq_iss (p p' : List UInt8) (a b : Int) (w : World) :
  (Op.equalIn 10000 88 (.agg #[.string ⟨p.toArray⟩, .int .i64 a]) (.agg #[.string ⟨p'.toArray⟩, .int .i64 b])).run Tryz.prog w = .ok (decide ((p, a) = (p', b))) w := by
 by_cases hp : p = p' <;> by_cases hx : a = b <;> simp [go_sem, hp, hx]
set_option maxHeartbeats 1000000 in
theorem rrank_any (e : Int) (w : World) : Calls Tryz.prog 98 #[.int .i64 e] w fun r w' => r = .returned (.int .i64 (irk e)) ∧ w' = w := by
 unfold irk
 by_cases h7 : e = 7
 ·subst h7
  go_enter Tryz.func98, Tryz.ntmps98
  go_wp2
  go_ret
  exact ⟨rfl, rfl⟩
 have n7 : (e == 7) = false := by simpa using h7
 by_cases h13 : e = 13
 ·subst h13
  go_enter Tryz.func98, Tryz.ntmps98
  go_wp2
  go_ret
  exact ⟨rfl, rfl⟩
 have n13 : (e == 13) = false := by simpa using h13
 by_cases h6 : e = 6
 ·subst h6
  go_enter Tryz.func98, Tryz.ntmps98
  go_wp2
  go_ret
  exact ⟨rfl, rfl⟩
 have n6 : (e == 6) = false := by simpa using h6
 by_cases h20 : e = 20
 ·subst h20
  go_enter Tryz.func98, Tryz.ntmps98
  go_wp2
  go_ret
  exact ⟨rfl, rfl⟩
 have n20 : (e == 20) = false := by simpa using h20
 rw [if_neg (by simp [h7, h13]), if_neg (by simp [h6, h20])]
 clear h7 h13 h6 h20
 go_enter Tryz.func98, Tryz.ntmps98
 go_wp2
 go_ret
 exact ⟨rfl, rfl⟩
theorem putI_at {l : List Iss} {x : Iss} {k : Nat} (_hk : k ≤ l.length) (h1 : ∀ y ∈ l.take k, ile y x = true) (h2 : k = l.length ∨ ∃ h : k < l.length, ile l[k] x = false) : putI l x = l.take k ++ x :: l.drop k := by
 have e : l = l.take k ++ l.drop k := (List.take_append_drop k l).symm
 have hd : (l.drop k).takeWhile (ile · x) = [] ∧ (l.drop k).dropWhile (ile · x) = l.drop k := by
  rcases h2 with h2 | ⟨h, h2⟩
  ·rw [h2, List.drop_length]
   exact ⟨rfl, rfl⟩
  ·rw [List.drop_eq_getElem_cons h]
   exact ⟨List.takeWhile_cons_of_neg (by rw [h2]; decide), List.dropWhile_cons_of_neg (by rw [h2]; decide)⟩
 unfold putI
 conv => lhs; rw [e]
 rw [List.takeWhile_append_of_pos h1, List.dropWhile_append_of_pos h1, hd.1, hd.2, List.append_nil]
def RetI (w : World) (l : List Iss) (e : Ending) (w' : World) : Prop :=
 ∃ (A : Option Addr) (c : Nat), e = .returned (.slice A l.length c) ∧ l.length ≤ c ∧ Sl w' w'.heap.size 2 encI A l ∧ Below w.heap.size w w'
set_option maxRecDepth 100000 in
theorem frame59_823c1c2a6c {Q : Exit → Act → World → Prop} {W : World} {fs : List Fact} (t0 t1 t2 t3 t4 t5 t6 t7 t8 t9 t10 t11 t12 t13 t14 t15 t16 t17 t18 t19 t20 t21 t22 t23 t24 t25 t26 t27 t28 t29 t30 t31 t32 t33 t34 t35 t36 t37 t38 t39 t40 t41 t42 t43 t44 t45 t46 t47 t48 t49 t50 t51 t52 t53 t54 t55 t56 t57 t58 v0 v1 v2 v3 v4 v5 v6 v7 v8 v9 v10 v11 v12 v13 v14 v15 v16 v17 v18 v19 v20 v21 v22 v23 v24 v25 v26 v27 v28 v29 v30 v31 v32 v33 v34 v35 : Value) (h : Q .normal (Act.mk #[t0, t1, t2, t3, t4, t5, t6, v0, v1, v2, v3, v4, v5, v6, v7, v8, v9, v10, v11, v12, v13, v14, v15, v16, v17, v18, v19, v20, v21, v22, v23, v24, v25, v26, v27, v28, v29, v30, v31, v32, v33, v34, v35, t43, t44, t45, t46, t47, t48, t49, t50, t51, t52, t53, t54, t55, t56, t57, t58] []) W) : FinAll W (fun A => Q .normal A W) [] fs (Act.put (Act.put (Act.put (Act.put (Act.put (Act.put (Act.put (Act.put (Act.put (Act.put (Act.put (Act.put (Act.put (Act.put (Act.put (Act.put (Act.put (Act.put (Act.put (Act.put (Act.put (Act.put (Act.put (Act.put (Act.put (Act.put (Act.put (Act.put (Act.put (Act.put (Act.put (Act.put (Act.put (Act.put (Act.put (Act.put (Act.mk #[t0, t1, t2, t3, t4, t5, t6, t7, t8, t9, t10, t11, t12, t13, t14, t15, t16, t17, t18, t19, t20, t21, t22, t23, t24, t25, t26, t27, t28, t29, t30, t31, t32, t33, t34, t35, t36, t37, t38, t39, t40, t41, t42, t43, t44, t45, t46, t47, t48, t49, t50, t51, t52, t53, t54, t55, t56, t57, t58] []) (some 7) v0) (some 8) v1) (some 9) v2) (some 10) v3) (some 11) v4) (some 12) v5) (some 13) v6) (some 14) v7) (some 15) v8) (some 16) v9) (some 17) v10) (some 18) v11) (some 19) v12) (some 20) v13) (some 21) v14) (some 22) v15) (some 23) v16) (some 24) v17) (some 25) v18) (some 26) v19) (some 27) v20) (some 28) v21) (some 29) v22) (some 30) v23) (some 31) v24) (some 32) v25) (some 33) v26) (some 34) v27) (some 35) v28) (some 36) v29) (some 37) v30) (some 38) v31) (some 39) v32) (some 40) v33) (some 41) v34) (some 42) v35) :=
 fin_end (by kernel_rfl) h
set_option maxRecDepth 100000 in
set_option maxHeartbeats 8000000 in
theorem put_any (A : Option Addr) (c : Nat) (l : List Iss) (x : Iss) (w : World) (hA : Sl w w.heap.size 2 encI A l) (hlc : l.length ≤ c) (hl : l.length ≤ 1000000) :
  Calls Tryz.prog 54 #[.slice A l.length c, .agg #[.string ⟨x.1.toArray⟩, .int .i64 x.2]] w (RetI w (putI l x)) := by
 have HA := Lib.hid hA
 have HB0 := Lib.hid (show Below w.heap.size w (w.alloc (.cells #[.string ⟨x.1.toArray⟩, .int .i64 x.2] 88)) from (Below.refl _ _).alloc (Nat.le_refl _) _)
 have Q0 := Lib.hid (Blk.new w 88 #[.string ⟨x.1.toArray⟩, .int .i64 x.2])
 clear hA
 go_enter Tryz.func54, Tryz.ntmps54
 go_wp2
 go_loopw [5] (fun i wr => ∃ k : Nat, k ≤ l.length ∧ i = .int .i64 (k : Nat) ∧ Hid (∀ y ∈ l.take k, ile y x = true) ∧ Hid (Below w.heap.size w wr) ∧ Hid (Blk wr w.heap.size 88 #[.string ⟨x.1.toArray⟩, .int .i64 x.2])) (fun i _ => l.length - (intOf i).toNat)
 case atStart => exact ⟨0, Nat.zero_le _, rfl, Lib.hid (by simp), HB0, Q0⟩
 case round =>
  obtain ⟨wo, hwo⟩ : ∃ wo, wo = wr := ⟨_, rfl⟩
  subst hwo
  obtain ⟨k, hk, rfl, HI, HB, HQ⟩ := hrel
  have hwz : w.heap.size < wo.heap.size := HQ.out.lt
  obtain ⟨x0, x1⟩ := issC HQ.out
  by_cases hlt : k < l.length
  ·have hlt' : (k : Int) < (l.length : Int) := by omega
   have hk0 : (0 : Int) ≤ (k : Int) := by omega
   obtain ⟨b, off, hA1, hbB, g0, g1⟩ := ((HA.out.below HB.out).more HB.out.size).iss hlt
   have HTk := Lib.hid (List.take_succ_eq_append_getElem hlt)
   have HPn := Lib.hid (fun (h : ile l[k] x = false) => putI_at hk HI.out (.inr ⟨hlt, h⟩))
   have HIy := Lib.hid (fun (h : ile l[k] x = true) y (hy : y ∈ l.take (k + 1)) => show ile y x = true from by
    rw [HTk.out] at hy
    rcases List.mem_append.1 hy with hy | hy
    ·exact HI.out y hy
    ·rw [List.mem_singleton.1 hy]; exact h)
   have HE := Lib.hid (ile_iff l[k] x)
   generalize l[k] = y at g0 g1 HTk HPn HIy HE
   have HA1 := Lib.hid hA1
   subst hA1
   cases h1 : Op.bytesLess y.1 x.1 with
   | true =>
     have HI2 := Lib.hid (HIy.out (HE.out.2 (.inl h1)))
     clear HIy HE HPn HTk
     go_upto_region 2 with fail
     apply wp_region_facts (by kernel_rfl) [isv _, isv _, isv _, isv _, isv _, isv _, isv _, isv _, isv _, isv _, isv _, isv _, isv _, isv _, isv _, isv _, isv _, isv _, isv _, isv _, isv _, isv _, isv _, isv _, isv _, isv _, isv _, isv _, isv _, isv _, isv _, isv _, isv _, isv _, isv _, isv _] wo.heap.size wo (Nat.le_refl _) (Below.refl _ _).drew (by kernel_rfl) (by kernel_rfl) (by kernel_rfl) (And.intro (isv_mono _) (And.intro (isv_mono _) (And.intro (isv_mono _) (And.intro (isv_mono _) (And.intro (isv_mono _) (And.intro (isv_mono _) (And.intro (isv_mono _) (And.intro (isv_mono _) (And.intro (isv_mono _) (And.intro (isv_mono _) (And.intro (isv_mono _) (And.intro (isv_mono _) (And.intro (isv_mono _) (And.intro (isv_mono _) (And.intro (isv_mono _) (And.intro (isv_mono _) (And.intro (isv_mono _) (And.intro (isv_mono _) (And.intro (isv_mono _) (And.intro (isv_mono _) (And.intro (isv_mono _) (And.intro (isv_mono _) (And.intro (isv_mono _) (And.intro (isv_mono _) (And.intro (isv_mono _) (And.intro (isv_mono _) (And.intro (isv_mono _) (And.intro (isv_mono _) (And.intro (isv_mono _) (And.intro (isv_mono _) (And.intro (isv_mono _) (And.intro (isv_mono _) (And.intro (isv_mono _) (And.intro (isv_mono _) (And.intro (isv_mono _) (And.intro (isv_mono _) trivial)))))))))))))))))))))))))))))))))))) ?steps (by rfl) ?fin
     case steps =>
      refine (And.intro ?o0 (And.intro ?o1 (And.intro ?o2 (And.intro ?o3 (And.intro ?o4 (And.intro ?o5 (And.intro ?o6 (And.intro ?o7 (And.intro ?o8 (And.intro ?o9 (And.intro ?o10 (And.intro ?o11 (And.intro ?o12 (And.intro ?o13 (And.intro ?o14 (And.intro ?o15 (And.intro ?o16 (And.intro ?o17 (And.intro ?o18 (And.intro ?o19 (And.intro ?o20 (And.intro ?o21 (And.intro ?o22 (And.intro ?o23 (And.intro ?o24 (And.intro ?o25 (And.intro ?o26 (And.intro ?o27 (And.intro ?o28 (And.intro ?o29 (And.intro ?o30 (And.intro ?o31 (And.intro ?o32 (And.intro ?o33 (And.intro ?o34 (And.intro ?o35 trivial))))))))))))))))))))))))))))))))))))
      case o0 =>
       intro AA W KK QQ hB hs hd hl hk
       have sl5 := hs 5 _ (by kernel_rfl) rfl
       clear hs hd hl
       go_simp
       exact hk _ _ rfl (Below.refl _ _)
      case o1 =>
       intro AA W KK QQ hB hs hd hl hk
       have sl0 := hs 0 _ (by kernel_rfl) rfl
       clear hs hd hl
       go_simp
       exact hk _ _ rfl (Below.refl _ _)
      case o2 =>
       intro AA W KK QQ hB hs hd hl hk
       obtain ⟨_, sl8, rfl⟩ := hd 1 8 (by kernel_rfl) rfl
       clear hs hd hl
       go_simp
       exact hk _ _ rfl (Below.refl _ _)
      case o3 =>
       intro AA W KK QQ hB hs hd hl hk
       obtain ⟨_, sl7, rfl⟩ := hd 0 7 (by kernel_rfl) rfl
       obtain ⟨_, sl9, rfl⟩ := hd 2 9 (by kernel_rfl) rfl
       clear hs hd hl
       go_simp
       exact hk _ _ rfl (Below.refl _ _)
      case o4 =>
       intro AA W KK QQ hB hs hd hl hk
       obtain ⟨_, sl10, rfl⟩ := hd 3 10 (by kernel_rfl) rfl
       clear hs hd hl
       go_simp
       exact hk _ _ rfl (Below.refl _ _)
      case o5 =>
       intro AA W KK QQ hB hs hd hl hk
       have sl0 := hs 0 _ (by kernel_rfl) rfl
       obtain ⟨_, sl11, rfl⟩ := hd 4 11 (by kernel_rfl) rfl
       clear hs hd hl
       refine ⟨_, _, rfl, sl11, ?_⟩
       first
        | (change Oper.wp _ _ _ _ _ _; go_simp; exact hk _ _ rfl (Below.refl _ _))
        | exact rfl
      case o6 =>
       intro AA W KK QQ hB hs hd hl hk
       have sl5 := hs 5 _ (by kernel_rfl) rfl
       obtain ⟨_, sl11, rfl⟩ := hd 4 11 (by kernel_rfl) rfl
       clear hs hd hl
       refine ⟨_, _, rfl, sl11, ?_⟩
       first
        | (change Oper.wp _ _ _ _ _ _; go_simp; exact hk _ _ rfl (Below.refl _ _))
        | exact rfl
      case o7 =>
       intro AA W KK QQ hB hs hd hl hk
       obtain ⟨_, sl11, rfl⟩ := hd 4 11 (by kernel_rfl) rfl
       obtain ⟨_, sl12, rfl⟩ := hd 5 12 (by kernel_rfl) rfl
       obtain ⟨_, sl13, rfl⟩ := hd 6 13 (by kernel_rfl) rfl
       clear hs hd hl
       refine ⟨_, _, rfl, sl11, ?_⟩
       first
        | (change Oper.wp _ _ _ _ _ _; go_simp; exact hk _ _ rfl (Below.refl _ _))
        | exact rfl
      case o8 =>
       intro AA W KK QQ hB hs hd hl hk
       obtain ⟨_, sl11, rfl⟩ := hd 4 11 (by kernel_rfl) rfl
       obtain ⟨_, sl14, rfl⟩ := hd 7 14 (by kernel_rfl) rfl
       clear hs hd hl
       refine ⟨_, _, rfl, sl11, ?_⟩
       first
        | (change Oper.wp _ _ _ _ _ _; go_simp; exact hk _ _ rfl (Below.refl _ _))
        | exact rfl
      case o9 =>
       intro AA W KK QQ hB hs hd hl hk
       obtain ⟨_, sl11, rfl⟩ := hd 4 11 (by kernel_rfl) rfl
       obtain ⟨_, sl15, rfl⟩ := hd 8 15 (by kernel_rfl) rfl
       clear hs hd hl
       have hx0 := hB.cell (p := ⟨b, off + k * 2, none⟩) hbB
       rw [g0] at hx0
       refine ⟨_, _, rfl, sl11, ?_⟩
       first
        | (change Oper.wp _ _ _ _ _ _; go_simp; exact hk _ _ rfl (Below.refl _ _))
        | exact rfl
      case o10 =>
       intro AA W KK QQ hB hs hd hl hk
       have sl3 := hs 3 _ (by kernel_rfl) rfl
       obtain ⟨_, sl11, rfl⟩ := hd 4 11 (by kernel_rfl) rfl
       clear hs hd hl
       refine ⟨_, _, rfl, sl11, ?_⟩
       first
        | (change Oper.wp _ _ _ _ _ _; go_simp; exact hk _ _ rfl (Below.refl _ _))
        | exact rfl
      case o11 =>
       intro AA W KK QQ hB hs hd hl hk
       obtain ⟨_, sl11, rfl⟩ := hd 4 11 (by kernel_rfl) rfl
       obtain ⟨_, sl17, rfl⟩ := hd 10 17 (by kernel_rfl) rfl
       clear hs hd hl
       have hx0 := hB.cell (p := ⟨w.heap.size, 0, none⟩) hwz
       rw [x0] at hx0
       refine ⟨_, _, rfl, sl11, ?_⟩
       first
        | (change Oper.wp _ _ _ _ _ _; go_simp; exact hk _ _ rfl (Below.refl _ _))
        | exact rfl
      case o12 =>
       intro AA W KK QQ hB hs hd hl hk
       obtain ⟨_, sl11, rfl⟩ := hd 4 11 (by kernel_rfl) rfl
       obtain ⟨_, sl16, rfl⟩ := hd 9 16 (by kernel_rfl) rfl
       obtain ⟨_, sl18, rfl⟩ := hd 11 18 (by kernel_rfl) rfl
       clear hs hd hl
       refine ⟨_, _, rfl, sl11, ?_⟩
       first
        | (change Oper.wp _ _ _ _ _ _; go_simp; exact hk _ _ rfl (Below.refl _ _))
        | exact rfl
      case o13 =>
       intro AA W KK QQ hB hs hd hl hk
       obtain ⟨_, sl11, rfl⟩ := hd 4 11 (by kernel_rfl) rfl
       obtain ⟨_, sl19, rfl⟩ := hd 12 19 (by kernel_rfl) rfl
       clear hs hd hl
       refine ⟨_, _, rfl, sl11, ?_⟩
       first
        | (change Oper.wp _ _ _ _ _ _; go_simp; exact hk _ _ rfl (Below.refl _ _))
        | exact rfl
      case o14 =>
       intro AA W KK QQ hB hs hd hl hk
       have sl0 := hs 0 _ (by kernel_rfl) rfl
       obtain ⟨_, sl20, rfl⟩ := hd 13 20 (by kernel_rfl) rfl
       clear hs hd hl
       refine ⟨_, _, rfl, sl20, ?_⟩
       first
        | (change Oper.wp _ _ _ _ _ _; go_simp; exact hk _ _ rfl (Below.refl _ _))
        | exact rfl
      case o15 =>
       intro AA W KK QQ hB hs hd hl hk
       have sl5 := hs 5 _ (by kernel_rfl) rfl
       obtain ⟨_, sl20, rfl⟩ := hd 13 20 (by kernel_rfl) rfl
       clear hs hd hl
       refine ⟨_, _, rfl, sl20, ?_⟩
       first
        | (change Oper.wp _ _ _ _ _ _; go_simp; exact hk _ _ rfl (Below.refl _ _))
        | exact rfl
      case o16 =>
       intro AA W KK QQ hB hs hd hl hk
       obtain ⟨_, sl20, rfl⟩ := hd 13 20 (by kernel_rfl) rfl
       obtain ⟨_, sl21, rfl⟩ := hd 14 21 (by kernel_rfl) rfl
       obtain ⟨_, sl22, rfl⟩ := hd 15 22 (by kernel_rfl) rfl
       clear hs hd hl
       refine ⟨_, _, rfl, sl20, ?_⟩
       first
        | (change Oper.wp _ _ _ _ _ _; go_simp; exact hk _ _ rfl (Below.refl _ _))
        | exact rfl
      case o17 =>
       intro AA W KK QQ hB hs hd hl hk
       obtain ⟨_, sl20, rfl⟩ := hd 13 20 (by kernel_rfl) rfl
       obtain ⟨_, sl23, rfl⟩ := hd 16 23 (by kernel_rfl) rfl
       clear hs hd hl
       refine ⟨_, _, rfl, sl20, ?_⟩
       first
        | (change Oper.wp _ _ _ _ _ _; go_simp; exact hk _ _ rfl (Below.refl _ _))
        | exact rfl
      case o18 =>
       intro AA W KK QQ hB hs hd hl hk
       obtain ⟨_, sl20, rfl⟩ := hd 13 20 (by kernel_rfl) rfl
       obtain ⟨_, sl24, rfl⟩ := hd 17 24 (by kernel_rfl) rfl
       clear hs hd hl
       refine ⟨_, _, rfl, sl20, ?_⟩
       first
        | (change Oper.wp _ _ _ _ _ _; go_simp; exact hk _ _ rfl (Below.refl _ _))
        | exact rfl
      case o19 =>
       intro AA W KK QQ hB hs hd hl hk
       have sl3 := hs 3 _ (by kernel_rfl) rfl
       obtain ⟨_, sl20, rfl⟩ := hd 13 20 (by kernel_rfl) rfl
       clear hs hd hl
       refine ⟨_, _, rfl, sl20, ?_⟩
       first
        | (change Oper.wp _ _ _ _ _ _; go_simp; exact hk _ _ rfl (Below.refl _ _))
        | exact rfl
      case o20 =>
       intro AA W KK QQ hB hs hd hl hk
       obtain ⟨_, sl20, rfl⟩ := hd 13 20 (by kernel_rfl) rfl
       obtain ⟨_, sl26, rfl⟩ := hd 19 26 (by kernel_rfl) rfl
       clear hs hd hl
       refine ⟨_, _, rfl, sl20, ?_⟩
       first
        | (change Oper.wp _ _ _ _ _ _; go_simp; exact hk _ _ rfl (Below.refl _ _))
        | exact rfl
      case o21 =>
       intro AA W KK QQ hB hs hd hl hk
       obtain ⟨_, sl20, rfl⟩ := hd 13 20 (by kernel_rfl) rfl
       obtain ⟨_, sl25, rfl⟩ := hd 18 25 (by kernel_rfl) rfl
       obtain ⟨_, sl27, rfl⟩ := hd 20 27 (by kernel_rfl) rfl
       clear hs hd hl
       refine ⟨_, _, rfl, sl20, ?_⟩
       first
        | (change Oper.wp _ _ _ _ _ _; go_simp; exact hk _ _ rfl (Below.refl _ _))
        | exact rfl
      case o22 =>
       intro AA W KK QQ hB hs hd hl hk
       obtain ⟨_, sl20, rfl⟩ := hd 13 20 (by kernel_rfl) rfl
       obtain ⟨_, sl28, rfl⟩ := hd 21 28 (by kernel_rfl) rfl
       clear hs hd hl
       refine ⟨_, _, rfl, sl20, ?_⟩
       first
        | (change Oper.wp _ _ _ _ _ _; go_simp; exact hk _ _ rfl (Below.refl _ _))
        | exact rfl
      case o23 =>
       intro AA W KK QQ hB hs hd hl hk
       have sl0 := hs 0 _ (by kernel_rfl) rfl
       obtain ⟨_, sl29, rfl⟩ := hd 22 29 (by kernel_rfl) rfl
       clear hs hd hl
       refine ⟨_, _, rfl, sl29, ?_⟩
       first
        | (change Oper.wp _ _ _ _ _ _; go_simp; exact hk _ _ rfl (Below.refl _ _))
        | exact rfl
      case o24 =>
       intro AA W KK QQ hB hs hd hl hk
       have sl5 := hs 5 _ (by kernel_rfl) rfl
       obtain ⟨_, sl29, rfl⟩ := hd 22 29 (by kernel_rfl) rfl
       clear hs hd hl
       refine ⟨_, _, rfl, sl29, ?_⟩
       first
        | (change Oper.wp _ _ _ _ _ _; go_simp; exact hk _ _ rfl (Below.refl _ _))
        | exact rfl
      case o25 =>
       intro AA W KK QQ hB hs hd hl hk
       obtain ⟨_, sl29, rfl⟩ := hd 22 29 (by kernel_rfl) rfl
       obtain ⟨_, sl30, rfl⟩ := hd 23 30 (by kernel_rfl) rfl
       obtain ⟨_, sl31, rfl⟩ := hd 24 31 (by kernel_rfl) rfl
       clear hs hd hl
       refine ⟨_, _, rfl, sl29, ?_⟩
       first
        | (change Oper.wp _ _ _ _ _ _; go_simp; exact hk _ _ rfl (Below.refl _ _))
        | exact rfl
      case o26 =>
       intro AA W KK QQ hB hs hd hl hk
       obtain ⟨_, sl29, rfl⟩ := hd 22 29 (by kernel_rfl) rfl
       obtain ⟨_, sl32, rfl⟩ := hd 25 32 (by kernel_rfl) rfl
       clear hs hd hl
       refine ⟨_, _, rfl, sl29, ?_⟩
       first
        | (change Oper.wp _ _ _ _ _ _; go_simp; exact hk _ _ rfl (Below.refl _ _))
        | exact rfl
      case o27 =>
       intro AA W KK QQ hB hs hd hl hk
       obtain ⟨_, sl29, rfl⟩ := hd 22 29 (by kernel_rfl) rfl
       obtain ⟨_, sl33, rfl⟩ := hd 26 33 (by kernel_rfl) rfl
       clear hs hd hl
       refine ⟨_, _, rfl, sl29, ?_⟩
       first
        | (change Oper.wp _ _ _ _ _ _; go_simp; exact hk _ _ rfl (Below.refl _ _))
        | exact rfl
      case o28 =>
       intro AA W KK QQ hB hs hd hl hk
       obtain ⟨_, sl29, rfl⟩ := hd 22 29 (by kernel_rfl) rfl
       obtain ⟨_, sl34, rfl⟩ := hd 27 34 (by kernel_rfl) rfl
       clear hs hd hl
       refine ⟨_, _, rfl, sl29, ?_⟩
       exact rfl
      case o29 =>
       intro AA W KK QQ hB hs hd hl hk
       have sl3 := hs 3 _ (by kernel_rfl) rfl
       obtain ⟨_, sl29, rfl⟩ := hd 22 29 (by kernel_rfl) rfl
       clear hs hd hl
       refine ⟨_, _, rfl, sl29, ?_⟩
       first
        | (change Oper.wp _ _ _ _ _ _; go_simp; exact hk _ _ rfl (Below.refl _ _))
        | exact rfl
      case o30 =>
       intro AA W KK QQ hB hs hd hl hk
       obtain ⟨_, sl29, rfl⟩ := hd 22 29 (by kernel_rfl) rfl
       obtain ⟨_, sl36, rfl⟩ := hd 29 36 (by kernel_rfl) rfl
       clear hs hd hl
       refine ⟨_, _, rfl, sl29, ?_⟩
       first
        | (change Oper.wp _ _ _ _ _ _; go_simp; exact hk _ _ rfl (Below.refl _ _))
        | exact rfl
      case o31 =>
       intro AA W KK QQ hB hs hd hl hk
       obtain ⟨_, sl29, rfl⟩ := hd 22 29 (by kernel_rfl) rfl
       obtain ⟨_, sl37, rfl⟩ := hd 30 37 (by kernel_rfl) rfl
       clear hs hd hl
       refine ⟨_, _, rfl, sl29, ?_⟩
       exact rfl
      case o32 =>
       intro AA W KK QQ hB hs hd hl hk
       obtain ⟨_, sl29, rfl⟩ := hd 22 29 (by kernel_rfl) rfl
       obtain ⟨_, sl35, rfl⟩ := hd 28 35 (by kernel_rfl) rfl
       obtain ⟨_, sl38, rfl⟩ := hd 31 38 (by kernel_rfl) rfl
       clear hs hd hl
       refine ⟨_, _, rfl, sl29, ?_⟩
       first
        | (change Oper.wp _ _ _ _ _ _; go_simp; exact hk _ _ rfl (Below.refl _ _))
        | exact rfl
      case o33 =>
       intro AA W KK QQ hB hs hd hl hk
       obtain ⟨_, sl20, rfl⟩ := hd 13 20 (by kernel_rfl) rfl
       obtain ⟨_, sl29, rfl⟩ := hd 22 29 (by kernel_rfl) rfl
       obtain ⟨_, sl39, rfl⟩ := hd 32 39 (by kernel_rfl) rfl
       clear hs hd hl
       refine ⟨_, _, rfl, sl20, ?_⟩
       first
        | (change Oper.wp _ _ _ _ _ _; go_simp; exact hk _ _ rfl (Below.refl _ _))
        | exact rfl
      case o34 =>
       intro AA W KK QQ hB hs hd hl hk
       obtain ⟨_, sl11, rfl⟩ := hd 4 11 (by kernel_rfl) rfl
       obtain ⟨_, sl20, rfl⟩ := hd 13 20 (by kernel_rfl) rfl
       obtain ⟨_, sl40, rfl⟩ := hd 33 40 (by kernel_rfl) rfl
       clear hs hd hl
       refine ⟨_, _, rfl, sl11, ?_⟩
       first
        | (change Oper.wp _ _ _ _ _ _; go_simp; exact hk _ _ rfl (Below.refl _ _))
        | exact rfl
      case o35 =>
       intro AA W KK QQ hB hs hd hl hk
       obtain ⟨_, sl11, rfl⟩ := hd 4 11 (by kernel_rfl) rfl
       obtain ⟨_, sl41, rfl⟩ := hd 34 41 (by kernel_rfl) rfl
       clear hs hd hl
       go_simp
       exact hk _ _ rfl (Below.refl _ _)
     case fin =>
      intro wf hB
      refine fin_isv 7 rfl ?_
      refine fin_isv 8 rfl ?_
      refine fin_isv 9 rfl ?_
      refine fin_isv 10 rfl ?_
      refine fin_isv 11 rfl ?_
      refine fin_isv 12 rfl ?_
      refine fin_isv 13 rfl ?_
      refine fin_isv 14 rfl ?_
      refine fin_isv 15 rfl ?_
      refine fin_isv 16 rfl ?_
      refine fin_isv 17 rfl ?_
      refine fin_isv 18 rfl ?_
      refine fin_isv 19 rfl ?_
      refine fin_isv 20 rfl ?_
      refine fin_isv 21 rfl ?_
      refine fin_isv 22 rfl ?_
      refine fin_isv 23 rfl ?_
      refine fin_isv 24 rfl ?_
      refine fin_isv 25 rfl ?_
      refine fin_isv 26 rfl ?_
      refine fin_isv 27 rfl ?_
      refine fin_isv 28 rfl ?_
      refine fin_isv 29 rfl ?_
      refine fin_isv 30 rfl ?_
      refine fin_isv 31 rfl ?_
      refine fin_isv 32 rfl ?_
      refine fin_isv 33 rfl ?_
      refine fin_isv 34 rfl ?_
      refine fin_isv 35 rfl ?_
      refine fin_isv 36 rfl ?_
      refine fin_isv 37 rfl ?_
      refine fin_isv 38 rfl ?_
      refine fin_isv 39 rfl ?_
      refine fin_isv 40 rfl ?_
      refine fin_isv 41 rfl ?_
      refine fin_isv 42 rfl ?_
      refine frame59_823c1c2a6c _ _ _ _ _ _ _ _ _ _ _ _ _ _ _ _ _ _ _ _ _ _ _ _ _ _ _ _ _ _ _ _ _ _ _ _ _ _ _ _ _ _ _ _ _ _ _ _ _ _ _ _ _ _ _ _ _ _ _ _ _ _ _ _ _ _ _ _ _ _ _ _ _ _ _ _ _ _ _ _ _ _ _ _ _ _ _ _ _ _ _ _ _ _ _ ?_
      have HBf := Lib.hid (HB.out.trans (hB.mono HB.out.size))
      have HQf := Lib.hid (HQ.out.keep hB)
      clear hB
      clear x0 x1 g0 g1
      go_wp2
      go_roundw
      case rel => exact ⟨k + 1, by omega, by go_num, HI2, HBf, HQf⟩
      case measure => simp [intOf]; omega
   | false =>
     by_cases h2 : y.1 = x.1
     ·by_cases h3 : irk y.2 ≤ irk x.2
      ·have HI2 := Lib.hid (HIy.out (HE.out.2 (.inr ⟨h2, h3⟩)))
       clear HIy HE HPn HTk
       rw [h2] at h1 g0
       clear h2
       go_upto_region 2 with fail
       apply wp_region_facts (by kernel_rfl) [isv _, isv _, isv _, isv _, isv _, isv _, isv _, isv _, isv _, isv _, isv _, isv _, isv _, isv _, isv _, isv _, isv _, isv _, isv _, isv _, isv _, isv _, isv _, isv _, isv _, isv _, isv _, isv _, isv _, isv _, isv _, isv _, isv _, isv _, isv _, isv _] wo.heap.size wo (Nat.le_refl _) (Below.refl _ _).drew (by kernel_rfl) (by kernel_rfl) (by kernel_rfl) (And.intro (isv_mono _) (And.intro (isv_mono _) (And.intro (isv_mono _) (And.intro (isv_mono _) (And.intro (isv_mono _) (And.intro (isv_mono _) (And.intro (isv_mono _) (And.intro (isv_mono _) (And.intro (isv_mono _) (And.intro (isv_mono _) (And.intro (isv_mono _) (And.intro (isv_mono _) (And.intro (isv_mono _) (And.intro (isv_mono _) (And.intro (isv_mono _) (And.intro (isv_mono _) (And.intro (isv_mono _) (And.intro (isv_mono _) (And.intro (isv_mono _) (And.intro (isv_mono _) (And.intro (isv_mono _) (And.intro (isv_mono _) (And.intro (isv_mono _) (And.intro (isv_mono _) (And.intro (isv_mono _) (And.intro (isv_mono _) (And.intro (isv_mono _) (And.intro (isv_mono _) (And.intro (isv_mono _) (And.intro (isv_mono _) (And.intro (isv_mono _) (And.intro (isv_mono _) (And.intro (isv_mono _) (And.intro (isv_mono _) (And.intro (isv_mono _) (And.intro (isv_mono _) trivial)))))))))))))))))))))))))))))))))))) ?steps (by rfl) ?fin
       case steps =>
        refine (And.intro ?o0 (And.intro ?o1 (And.intro ?o2 (And.intro ?o3 (And.intro ?o4 (And.intro ?o5 (And.intro ?o6 (And.intro ?o7 (And.intro ?o8 (And.intro ?o9 (And.intro ?o10 (And.intro ?o11 (And.intro ?o12 (And.intro ?o13 (And.intro ?o14 (And.intro ?o15 (And.intro ?o16 (And.intro ?o17 (And.intro ?o18 (And.intro ?o19 (And.intro ?o20 (And.intro ?o21 (And.intro ?o22 (And.intro ?o23 (And.intro ?o24 (And.intro ?o25 (And.intro ?o26 (And.intro ?o27 (And.intro ?o28 (And.intro ?o29 (And.intro ?o30 (And.intro ?o31 (And.intro ?o32 (And.intro ?o33 (And.intro ?o34 (And.intro ?o35 trivial))))))))))))))))))))))))))))))))))))
        case o0 =>
         intro AA W KK QQ hB hs hd hl hk
         have sl5 := hs 5 _ (by kernel_rfl) rfl
         clear hs hd hl
         go_simp
         exact hk _ _ rfl (Below.refl _ _)
        case o1 =>
         intro AA W KK QQ hB hs hd hl hk
         have sl0 := hs 0 _ (by kernel_rfl) rfl
         clear hs hd hl
         go_simp
         exact hk _ _ rfl (Below.refl _ _)
        case o2 =>
         intro AA W KK QQ hB hs hd hl hk
         obtain ⟨_, sl8, rfl⟩ := hd 1 8 (by kernel_rfl) rfl
         clear hs hd hl
         go_simp
         exact hk _ _ rfl (Below.refl _ _)
        case o3 =>
         intro AA W KK QQ hB hs hd hl hk
         obtain ⟨_, sl7, rfl⟩ := hd 0 7 (by kernel_rfl) rfl
         obtain ⟨_, sl9, rfl⟩ := hd 2 9 (by kernel_rfl) rfl
         clear hs hd hl
         go_simp
         exact hk _ _ rfl (Below.refl _ _)
        case o4 =>
         intro AA W KK QQ hB hs hd hl hk
         obtain ⟨_, sl10, rfl⟩ := hd 3 10 (by kernel_rfl) rfl
         clear hs hd hl
         go_simp
         exact hk _ _ rfl (Below.refl _ _)
        case o5 =>
         intro AA W KK QQ hB hs hd hl hk
         have sl0 := hs 0 _ (by kernel_rfl) rfl
         obtain ⟨_, sl11, rfl⟩ := hd 4 11 (by kernel_rfl) rfl
         clear hs hd hl
         refine ⟨_, _, rfl, sl11, ?_⟩
         first
          | (change Oper.wp _ _ _ _ _ _; go_simp; exact hk _ _ rfl (Below.refl _ _))
          | exact rfl
        case o6 =>
         intro AA W KK QQ hB hs hd hl hk
         have sl5 := hs 5 _ (by kernel_rfl) rfl
         obtain ⟨_, sl11, rfl⟩ := hd 4 11 (by kernel_rfl) rfl
         clear hs hd hl
         refine ⟨_, _, rfl, sl11, ?_⟩
         first
          | (change Oper.wp _ _ _ _ _ _; go_simp; exact hk _ _ rfl (Below.refl _ _))
          | exact rfl
        case o7 =>
         intro AA W KK QQ hB hs hd hl hk
         obtain ⟨_, sl11, rfl⟩ := hd 4 11 (by kernel_rfl) rfl
         obtain ⟨_, sl12, rfl⟩ := hd 5 12 (by kernel_rfl) rfl
         obtain ⟨_, sl13, rfl⟩ := hd 6 13 (by kernel_rfl) rfl
         clear hs hd hl
         refine ⟨_, _, rfl, sl11, ?_⟩
         first
          | (change Oper.wp _ _ _ _ _ _; go_simp; exact hk _ _ rfl (Below.refl _ _))
          | exact rfl
        case o8 =>
         intro AA W KK QQ hB hs hd hl hk
         obtain ⟨_, sl11, rfl⟩ := hd 4 11 (by kernel_rfl) rfl
         obtain ⟨_, sl14, rfl⟩ := hd 7 14 (by kernel_rfl) rfl
         clear hs hd hl
         refine ⟨_, _, rfl, sl11, ?_⟩
         first
          | (change Oper.wp _ _ _ _ _ _; go_simp; exact hk _ _ rfl (Below.refl _ _))
          | exact rfl
        case o9 =>
         intro AA W KK QQ hB hs hd hl hk
         obtain ⟨_, sl11, rfl⟩ := hd 4 11 (by kernel_rfl) rfl
         obtain ⟨_, sl15, rfl⟩ := hd 8 15 (by kernel_rfl) rfl
         clear hs hd hl
         have hx0 := hB.cell (p := ⟨b, off + k * 2, none⟩) hbB
         rw [g0] at hx0
         refine ⟨_, _, rfl, sl11, ?_⟩
         first
          | (change Oper.wp _ _ _ _ _ _; go_simp; exact hk _ _ rfl (Below.refl _ _))
          | exact rfl
        case o10 =>
         intro AA W KK QQ hB hs hd hl hk
         have sl3 := hs 3 _ (by kernel_rfl) rfl
         obtain ⟨_, sl11, rfl⟩ := hd 4 11 (by kernel_rfl) rfl
         clear hs hd hl
         refine ⟨_, _, rfl, sl11, ?_⟩
         first
          | (change Oper.wp _ _ _ _ _ _; go_simp; exact hk _ _ rfl (Below.refl _ _))
          | exact rfl
        case o11 =>
         intro AA W KK QQ hB hs hd hl hk
         obtain ⟨_, sl11, rfl⟩ := hd 4 11 (by kernel_rfl) rfl
         obtain ⟨_, sl17, rfl⟩ := hd 10 17 (by kernel_rfl) rfl
         clear hs hd hl
         have hx0 := hB.cell (p := ⟨w.heap.size, 0, none⟩) hwz
         rw [x0] at hx0
         refine ⟨_, _, rfl, sl11, ?_⟩
         first
          | (change Oper.wp _ _ _ _ _ _; go_simp; exact hk _ _ rfl (Below.refl _ _))
          | exact rfl
        case o12 =>
         intro AA W KK QQ hB hs hd hl hk
         obtain ⟨_, sl11, rfl⟩ := hd 4 11 (by kernel_rfl) rfl
         obtain ⟨_, sl16, rfl⟩ := hd 9 16 (by kernel_rfl) rfl
         obtain ⟨_, sl18, rfl⟩ := hd 11 18 (by kernel_rfl) rfl
         clear hs hd hl
         refine ⟨_, _, rfl, sl11, ?_⟩
         first
          | (change Oper.wp _ _ _ _ _ _; go_simp; exact hk _ _ rfl (Below.refl _ _))
          | exact rfl
        case o13 =>
         intro AA W KK QQ hB hs hd hl hk
         obtain ⟨_, sl11, rfl⟩ := hd 4 11 (by kernel_rfl) rfl
         obtain ⟨_, sl19, rfl⟩ := hd 12 19 (by kernel_rfl) rfl
         clear hs hd hl
         refine ⟨_, _, rfl, sl11, ?_⟩
         first
          | (change Oper.wp _ _ _ _ _ _; go_simp; exact hk _ _ rfl (Below.refl _ _))
          | exact rfl
        case o14 =>
         intro AA W KK QQ hB hs hd hl hk
         have sl0 := hs 0 _ (by kernel_rfl) rfl
         obtain ⟨_, sl20, rfl⟩ := hd 13 20 (by kernel_rfl) rfl
         clear hs hd hl
         refine ⟨_, _, rfl, sl20, ?_⟩
         first
          | (change Oper.wp _ _ _ _ _ _; go_simp; exact hk _ _ rfl (Below.refl _ _))
          | exact rfl
        case o15 =>
         intro AA W KK QQ hB hs hd hl hk
         have sl5 := hs 5 _ (by kernel_rfl) rfl
         obtain ⟨_, sl20, rfl⟩ := hd 13 20 (by kernel_rfl) rfl
         clear hs hd hl
         refine ⟨_, _, rfl, sl20, ?_⟩
         first
          | (change Oper.wp _ _ _ _ _ _; go_simp; exact hk _ _ rfl (Below.refl _ _))
          | exact rfl
        case o16 =>
         intro AA W KK QQ hB hs hd hl hk
         obtain ⟨_, sl20, rfl⟩ := hd 13 20 (by kernel_rfl) rfl
         obtain ⟨_, sl21, rfl⟩ := hd 14 21 (by kernel_rfl) rfl
         obtain ⟨_, sl22, rfl⟩ := hd 15 22 (by kernel_rfl) rfl
         clear hs hd hl
         refine ⟨_, _, rfl, sl20, ?_⟩
         first
          | (change Oper.wp _ _ _ _ _ _; go_simp; exact hk _ _ rfl (Below.refl _ _))
          | exact rfl
        case o17 =>
         intro AA W KK QQ hB hs hd hl hk
         obtain ⟨_, sl20, rfl⟩ := hd 13 20 (by kernel_rfl) rfl
         obtain ⟨_, sl23, rfl⟩ := hd 16 23 (by kernel_rfl) rfl
         clear hs hd hl
         refine ⟨_, _, rfl, sl20, ?_⟩
         first
          | (change Oper.wp _ _ _ _ _ _; go_simp; exact hk _ _ rfl (Below.refl _ _))
          | exact rfl
        case o18 =>
         intro AA W KK QQ hB hs hd hl hk
         obtain ⟨_, sl20, rfl⟩ := hd 13 20 (by kernel_rfl) rfl
         obtain ⟨_, sl24, rfl⟩ := hd 17 24 (by kernel_rfl) rfl
         clear hs hd hl
         have hx0 := hB.cell (p := ⟨b, off + k * 2, none⟩) hbB
         rw [g0] at hx0
         refine ⟨_, _, rfl, sl20, ?_⟩
         first
          | (change Oper.wp _ _ _ _ _ _; go_simp; exact hk _ _ rfl (Below.refl _ _))
          | exact rfl
        case o19 =>
         intro AA W KK QQ hB hs hd hl hk
         have sl3 := hs 3 _ (by kernel_rfl) rfl
         obtain ⟨_, sl20, rfl⟩ := hd 13 20 (by kernel_rfl) rfl
         clear hs hd hl
         refine ⟨_, _, rfl, sl20, ?_⟩
         first
          | (change Oper.wp _ _ _ _ _ _; go_simp; exact hk _ _ rfl (Below.refl _ _))
          | exact rfl
        case o20 =>
         intro AA W KK QQ hB hs hd hl hk
         obtain ⟨_, sl20, rfl⟩ := hd 13 20 (by kernel_rfl) rfl
         obtain ⟨_, sl26, rfl⟩ := hd 19 26 (by kernel_rfl) rfl
         clear hs hd hl
         have hx0 := hB.cell (p := ⟨w.heap.size, 0, none⟩) hwz
         rw [x0] at hx0
         refine ⟨_, _, rfl, sl20, ?_⟩
         first
          | (change Oper.wp _ _ _ _ _ _; go_simp; exact hk _ _ rfl (Below.refl _ _))
          | exact rfl
        case o21 =>
         intro AA W KK QQ hB hs hd hl hk
         obtain ⟨_, sl20, rfl⟩ := hd 13 20 (by kernel_rfl) rfl
         obtain ⟨_, sl25, rfl⟩ := hd 18 25 (by kernel_rfl) rfl
         obtain ⟨_, sl27, rfl⟩ := hd 20 27 (by kernel_rfl) rfl
         clear hs hd hl
         refine ⟨_, _, rfl, sl20, ?_⟩
         first
          | (change Oper.wp _ _ _ _ _ _; go_simp; exact hk _ _ rfl (Below.refl _ _))
          | exact rfl
        case o22 =>
         intro AA W KK QQ hB hs hd hl hk
         obtain ⟨_, sl20, rfl⟩ := hd 13 20 (by kernel_rfl) rfl
         obtain ⟨_, sl28, rfl⟩ := hd 21 28 (by kernel_rfl) rfl
         clear hs hd hl
         refine ⟨_, _, rfl, sl20, ?_⟩
         first
          | (change Oper.wp _ _ _ _ _ _; go_simp; exact hk _ _ rfl (Below.refl _ _))
          | exact rfl
        case o23 =>
         intro AA W KK QQ hB hs hd hl hk
         have sl0 := hs 0 _ (by kernel_rfl) rfl
         obtain ⟨_, sl29, rfl⟩ := hd 22 29 (by kernel_rfl) rfl
         clear hs hd hl
         refine ⟨_, _, rfl, sl29, ?_⟩
         first
          | (change Oper.wp _ _ _ _ _ _; go_simp; exact hk _ _ rfl (Below.refl _ _))
          | exact rfl
        case o24 =>
         intro AA W KK QQ hB hs hd hl hk
         have sl5 := hs 5 _ (by kernel_rfl) rfl
         obtain ⟨_, sl29, rfl⟩ := hd 22 29 (by kernel_rfl) rfl
         clear hs hd hl
         refine ⟨_, _, rfl, sl29, ?_⟩
         first
          | (change Oper.wp _ _ _ _ _ _; go_simp; exact hk _ _ rfl (Below.refl _ _))
          | exact rfl
        case o25 =>
         intro AA W KK QQ hB hs hd hl hk
         obtain ⟨_, sl29, rfl⟩ := hd 22 29 (by kernel_rfl) rfl
         obtain ⟨_, sl30, rfl⟩ := hd 23 30 (by kernel_rfl) rfl
         obtain ⟨_, sl31, rfl⟩ := hd 24 31 (by kernel_rfl) rfl
         clear hs hd hl
         refine ⟨_, _, rfl, sl29, ?_⟩
         first
          | (change Oper.wp _ _ _ _ _ _; go_simp; exact hk _ _ rfl (Below.refl _ _))
          | exact rfl
        case o26 =>
         intro AA W KK QQ hB hs hd hl hk
         obtain ⟨_, sl29, rfl⟩ := hd 22 29 (by kernel_rfl) rfl
         obtain ⟨_, sl32, rfl⟩ := hd 25 32 (by kernel_rfl) rfl
         clear hs hd hl
         refine ⟨_, _, rfl, sl29, ?_⟩
         first
          | (change Oper.wp _ _ _ _ _ _; go_simp; exact hk _ _ rfl (Below.refl _ _))
          | exact rfl
        case o27 =>
         intro AA W KK QQ hB hs hd hl hk
         obtain ⟨_, sl29, rfl⟩ := hd 22 29 (by kernel_rfl) rfl
         obtain ⟨_, sl33, rfl⟩ := hd 26 33 (by kernel_rfl) rfl
         clear hs hd hl
         have hx1 := hB.cell (p := ⟨b, off + k * 2 + 1, none⟩) hbB
         rw [g1] at hx1
         refine ⟨_, _, rfl, sl29, ?_⟩
         first
          | (change Oper.wp _ _ _ _ _ _; go_simp; exact hk _ _ rfl (Below.refl _ _))
          | exact rfl
        case o28 =>
         intro AA W KK QQ hB hs hd hl hk
         obtain ⟨_, sl29, rfl⟩ := hd 22 29 (by kernel_rfl) rfl
         obtain ⟨_, sl34, rfl⟩ := hd 27 34 (by kernel_rfl) rfl
         clear hs hd hl
         refine ⟨_, _, rfl, sl29, ?_⟩
         change Oper.wp _ _ _ _ _ _
         go_simp
         refine (rrank_any _ W).mono ?_
         rintro e W2 ⟨rfl, rfl⟩
         exact hk _ _ rfl (Below.refl _ _)
        case o29 =>
         intro AA W KK QQ hB hs hd hl hk
         have sl3 := hs 3 _ (by kernel_rfl) rfl
         obtain ⟨_, sl29, rfl⟩ := hd 22 29 (by kernel_rfl) rfl
         clear hs hd hl
         refine ⟨_, _, rfl, sl29, ?_⟩
         first
          | (change Oper.wp _ _ _ _ _ _; go_simp; exact hk _ _ rfl (Below.refl _ _))
          | exact rfl
        case o30 =>
         intro AA W KK QQ hB hs hd hl hk
         obtain ⟨_, sl29, rfl⟩ := hd 22 29 (by kernel_rfl) rfl
         obtain ⟨_, sl36, rfl⟩ := hd 29 36 (by kernel_rfl) rfl
         clear hs hd hl
         have hx1 := hB.cell (p := ⟨w.heap.size, 0 + 1, none⟩) hwz
         rw [x1] at hx1
         refine ⟨_, _, rfl, sl29, ?_⟩
         first
          | (change Oper.wp _ _ _ _ _ _; go_simp; exact hk _ _ rfl (Below.refl _ _))
          | exact rfl
        case o31 =>
         intro AA W KK QQ hB hs hd hl hk
         obtain ⟨_, sl29, rfl⟩ := hd 22 29 (by kernel_rfl) rfl
         obtain ⟨_, sl37, rfl⟩ := hd 30 37 (by kernel_rfl) rfl
         clear hs hd hl
         refine ⟨_, _, rfl, sl29, ?_⟩
         change Oper.wp _ _ _ _ _ _
         go_simp
         refine (rrank_any _ W).mono ?_
         rintro e W2 ⟨rfl, rfl⟩
         exact hk _ _ rfl (Below.refl _ _)
        case o32 =>
         intro AA W KK QQ hB hs hd hl hk
         obtain ⟨_, sl29, rfl⟩ := hd 22 29 (by kernel_rfl) rfl
         obtain ⟨_, sl35, rfl⟩ := hd 28 35 (by kernel_rfl) rfl
         obtain ⟨_, sl38, rfl⟩ := hd 31 38 (by kernel_rfl) rfl
         clear hs hd hl
         refine ⟨_, _, rfl, sl29, ?_⟩
         first
          | (change Oper.wp _ _ _ _ _ _; go_simp; exact hk _ _ rfl (Below.refl _ _))
          | exact rfl
        case o33 =>
         intro AA W KK QQ hB hs hd hl hk
         obtain ⟨_, sl20, rfl⟩ := hd 13 20 (by kernel_rfl) rfl
         obtain ⟨_, sl29, rfl⟩ := hd 22 29 (by kernel_rfl) rfl
         obtain ⟨_, sl39, rfl⟩ := hd 32 39 (by kernel_rfl) rfl
         clear hs hd hl
         refine ⟨_, _, rfl, sl20, ?_⟩
         first
          | (change Oper.wp _ _ _ _ _ _; go_simp; exact hk _ _ rfl (Below.refl _ _))
          | exact rfl
        case o34 =>
         intro AA W KK QQ hB hs hd hl hk
         obtain ⟨_, sl11, rfl⟩ := hd 4 11 (by kernel_rfl) rfl
         obtain ⟨_, sl20, rfl⟩ := hd 13 20 (by kernel_rfl) rfl
         obtain ⟨_, sl40, rfl⟩ := hd 33 40 (by kernel_rfl) rfl
         clear hs hd hl
         refine ⟨_, _, rfl, sl11, ?_⟩
         first
          | (change Oper.wp _ _ _ _ _ _; go_simp; exact hk _ _ rfl (Below.refl _ _))
          | exact rfl
        case o35 =>
         intro AA W KK QQ hB hs hd hl hk
         obtain ⟨_, sl11, rfl⟩ := hd 4 11 (by kernel_rfl) rfl
         obtain ⟨_, sl41, rfl⟩ := hd 34 41 (by kernel_rfl) rfl
         clear hs hd hl
         go_simp
         exact hk _ _ rfl (Below.refl _ _)
       case fin =>
        intro wf hB
        refine fin_isv 7 rfl ?_
        refine fin_isv 8 rfl ?_
        refine fin_isv 9 rfl ?_
        refine fin_isv 10 rfl ?_
        refine fin_isv 11 rfl ?_
        refine fin_isv 12 rfl ?_
        refine fin_isv 13 rfl ?_
        refine fin_isv 14 rfl ?_
        refine fin_isv 15 rfl ?_
        refine fin_isv 16 rfl ?_
        refine fin_isv 17 rfl ?_
        refine fin_isv 18 rfl ?_
        refine fin_isv 19 rfl ?_
        refine fin_isv 20 rfl ?_
        refine fin_isv 21 rfl ?_
        refine fin_isv 22 rfl ?_
        refine fin_isv 23 rfl ?_
        refine fin_isv 24 rfl ?_
        refine fin_isv 25 rfl ?_
        refine fin_isv 26 rfl ?_
        refine fin_isv 27 rfl ?_
        refine fin_isv 28 rfl ?_
        refine fin_isv 29 rfl ?_
        refine fin_isv 30 rfl ?_
        refine fin_isv 31 rfl ?_
        refine fin_isv 32 rfl ?_
        refine fin_isv 33 rfl ?_
        refine fin_isv 34 rfl ?_
        refine fin_isv 35 rfl ?_
        refine fin_isv 36 rfl ?_
        refine fin_isv 37 rfl ?_
        refine fin_isv 38 rfl ?_
        refine fin_isv 39 rfl ?_
        refine fin_isv 40 rfl ?_
        refine fin_isv 41 rfl ?_
        refine fin_isv 42 rfl ?_
        refine frame59_823c1c2a6c _ _ _ _ _ _ _ _ _ _ _ _ _ _ _ _ _ _ _ _ _ _ _ _ _ _ _ _ _ _ _ _ _ _ _ _ _ _ _ _ _ _ _ _ _ _ _ _ _ _ _ _ _ _ _ _ _ _ _ _ _ _ _ _ _ _ _ _ _ _ _ _ _ _ _ _ _ _ _ _ _ _ _ _ _ _ _ _ _ _ _ _ _ _ _ ?_
        have HBf := Lib.hid (HB.out.trans (hB.mono HB.out.size))
        have HQf := Lib.hid (HQ.out.keep hB)
        clear hB
        clear x0 x1 g0 g1
        go_wp2
        go_roundw
        case rel => exact ⟨k + 1, by omega, by go_num, HI2, HBf, HQf⟩
        case measure => simp [intOf]; omega
      ·have HPut := Lib.hid (HPn.out (by
        cases h : ile y x with
        | false => rfl
        | true =>
          rcases HE.out.1 h with q | q
          ·rw [h1] at q; cases q
          ·exact absurd q.2 h3))
       clear HIy HE HPn HTk
       rw [h2] at h1 g0
       clear h2
       go_upto_region 2 with fail
       apply wp_region_facts (by kernel_rfl) [isv _, isv _, isv _, isv _, isv _, isv _, isv _, isv _, isv _, isv _, isv _, isv _, isv _, isv _, isv _, isv _, isv _, isv _, isv _, isv _, isv _, isv _, isv _, isv _, isv _, isv _, isv _, isv _, isv _, isv _, isv _, isv _, isv _, isv _, isv _, isv _] wo.heap.size wo (Nat.le_refl _) (Below.refl _ _).drew (by kernel_rfl) (by kernel_rfl) (by kernel_rfl) (And.intro (isv_mono _) (And.intro (isv_mono _) (And.intro (isv_mono _) (And.intro (isv_mono _) (And.intro (isv_mono _) (And.intro (isv_mono _) (And.intro (isv_mono _) (And.intro (isv_mono _) (And.intro (isv_mono _) (And.intro (isv_mono _) (And.intro (isv_mono _) (And.intro (isv_mono _) (And.intro (isv_mono _) (And.intro (isv_mono _) (And.intro (isv_mono _) (And.intro (isv_mono _) (And.intro (isv_mono _) (And.intro (isv_mono _) (And.intro (isv_mono _) (And.intro (isv_mono _) (And.intro (isv_mono _) (And.intro (isv_mono _) (And.intro (isv_mono _) (And.intro (isv_mono _) (And.intro (isv_mono _) (And.intro (isv_mono _) (And.intro (isv_mono _) (And.intro (isv_mono _) (And.intro (isv_mono _) (And.intro (isv_mono _) (And.intro (isv_mono _) (And.intro (isv_mono _) (And.intro (isv_mono _) (And.intro (isv_mono _) (And.intro (isv_mono _) (And.intro (isv_mono _) trivial)))))))))))))))))))))))))))))))))))) ?steps (by rfl) ?fin
       case steps =>
        refine (And.intro ?o0 (And.intro ?o1 (And.intro ?o2 (And.intro ?o3 (And.intro ?o4 (And.intro ?o5 (And.intro ?o6 (And.intro ?o7 (And.intro ?o8 (And.intro ?o9 (And.intro ?o10 (And.intro ?o11 (And.intro ?o12 (And.intro ?o13 (And.intro ?o14 (And.intro ?o15 (And.intro ?o16 (And.intro ?o17 (And.intro ?o18 (And.intro ?o19 (And.intro ?o20 (And.intro ?o21 (And.intro ?o22 (And.intro ?o23 (And.intro ?o24 (And.intro ?o25 (And.intro ?o26 (And.intro ?o27 (And.intro ?o28 (And.intro ?o29 (And.intro ?o30 (And.intro ?o31 (And.intro ?o32 (And.intro ?o33 (And.intro ?o34 (And.intro ?o35 trivial))))))))))))))))))))))))))))))))))))
        case o0 =>
         intro AA W KK QQ hB hs hd hl hk
         have sl5 := hs 5 _ (by kernel_rfl) rfl
         clear hs hd hl
         go_simp
         exact hk _ _ rfl (Below.refl _ _)
        case o1 =>
         intro AA W KK QQ hB hs hd hl hk
         have sl0 := hs 0 _ (by kernel_rfl) rfl
         clear hs hd hl
         go_simp
         exact hk _ _ rfl (Below.refl _ _)
        case o2 =>
         intro AA W KK QQ hB hs hd hl hk
         obtain ⟨_, sl8, rfl⟩ := hd 1 8 (by kernel_rfl) rfl
         clear hs hd hl
         go_simp
         exact hk _ _ rfl (Below.refl _ _)
        case o3 =>
         intro AA W KK QQ hB hs hd hl hk
         obtain ⟨_, sl7, rfl⟩ := hd 0 7 (by kernel_rfl) rfl
         obtain ⟨_, sl9, rfl⟩ := hd 2 9 (by kernel_rfl) rfl
         clear hs hd hl
         go_simp
         exact hk _ _ rfl (Below.refl _ _)
        case o4 =>
         intro AA W KK QQ hB hs hd hl hk
         obtain ⟨_, sl10, rfl⟩ := hd 3 10 (by kernel_rfl) rfl
         clear hs hd hl
         go_simp
         exact hk _ _ rfl (Below.refl _ _)
        case o5 =>
         intro AA W KK QQ hB hs hd hl hk
         have sl0 := hs 0 _ (by kernel_rfl) rfl
         obtain ⟨_, sl11, rfl⟩ := hd 4 11 (by kernel_rfl) rfl
         clear hs hd hl
         refine ⟨_, _, rfl, sl11, ?_⟩
         first
          | (change Oper.wp _ _ _ _ _ _; go_simp; exact hk _ _ rfl (Below.refl _ _))
          | exact rfl
        case o6 =>
         intro AA W KK QQ hB hs hd hl hk
         have sl5 := hs 5 _ (by kernel_rfl) rfl
         obtain ⟨_, sl11, rfl⟩ := hd 4 11 (by kernel_rfl) rfl
         clear hs hd hl
         refine ⟨_, _, rfl, sl11, ?_⟩
         first
          | (change Oper.wp _ _ _ _ _ _; go_simp; exact hk _ _ rfl (Below.refl _ _))
          | exact rfl
        case o7 =>
         intro AA W KK QQ hB hs hd hl hk
         obtain ⟨_, sl11, rfl⟩ := hd 4 11 (by kernel_rfl) rfl
         obtain ⟨_, sl12, rfl⟩ := hd 5 12 (by kernel_rfl) rfl
         obtain ⟨_, sl13, rfl⟩ := hd 6 13 (by kernel_rfl) rfl
         clear hs hd hl
         refine ⟨_, _, rfl, sl11, ?_⟩
         first
          | (change Oper.wp _ _ _ _ _ _; go_simp; exact hk _ _ rfl (Below.refl _ _))
          | exact rfl
        case o8 =>
         intro AA W KK QQ hB hs hd hl hk
         obtain ⟨_, sl11, rfl⟩ := hd 4 11 (by kernel_rfl) rfl
         obtain ⟨_, sl14, rfl⟩ := hd 7 14 (by kernel_rfl) rfl
         clear hs hd hl
         refine ⟨_, _, rfl, sl11, ?_⟩
         first
          | (change Oper.wp _ _ _ _ _ _; go_simp; exact hk _ _ rfl (Below.refl _ _))
          | exact rfl
        case o9 =>
         intro AA W KK QQ hB hs hd hl hk
         obtain ⟨_, sl11, rfl⟩ := hd 4 11 (by kernel_rfl) rfl
         obtain ⟨_, sl15, rfl⟩ := hd 8 15 (by kernel_rfl) rfl
         clear hs hd hl
         have hx0 := hB.cell (p := ⟨b, off + k * 2, none⟩) hbB
         rw [g0] at hx0
         refine ⟨_, _, rfl, sl11, ?_⟩
         first
          | (change Oper.wp _ _ _ _ _ _; go_simp; exact hk _ _ rfl (Below.refl _ _))
          | exact rfl
        case o10 =>
         intro AA W KK QQ hB hs hd hl hk
         have sl3 := hs 3 _ (by kernel_rfl) rfl
         obtain ⟨_, sl11, rfl⟩ := hd 4 11 (by kernel_rfl) rfl
         clear hs hd hl
         refine ⟨_, _, rfl, sl11, ?_⟩
         first
          | (change Oper.wp _ _ _ _ _ _; go_simp; exact hk _ _ rfl (Below.refl _ _))
          | exact rfl
        case o11 =>
         intro AA W KK QQ hB hs hd hl hk
         obtain ⟨_, sl11, rfl⟩ := hd 4 11 (by kernel_rfl) rfl
         obtain ⟨_, sl17, rfl⟩ := hd 10 17 (by kernel_rfl) rfl
         clear hs hd hl
         have hx0 := hB.cell (p := ⟨w.heap.size, 0, none⟩) hwz
         rw [x0] at hx0
         refine ⟨_, _, rfl, sl11, ?_⟩
         first
          | (change Oper.wp _ _ _ _ _ _; go_simp; exact hk _ _ rfl (Below.refl _ _))
          | exact rfl
        case o12 =>
         intro AA W KK QQ hB hs hd hl hk
         obtain ⟨_, sl11, rfl⟩ := hd 4 11 (by kernel_rfl) rfl
         obtain ⟨_, sl16, rfl⟩ := hd 9 16 (by kernel_rfl) rfl
         obtain ⟨_, sl18, rfl⟩ := hd 11 18 (by kernel_rfl) rfl
         clear hs hd hl
         refine ⟨_, _, rfl, sl11, ?_⟩
         first
          | (change Oper.wp _ _ _ _ _ _; go_simp; exact hk _ _ rfl (Below.refl _ _))
          | exact rfl
        case o13 =>
         intro AA W KK QQ hB hs hd hl hk
         obtain ⟨_, sl11, rfl⟩ := hd 4 11 (by kernel_rfl) rfl
         obtain ⟨_, sl19, rfl⟩ := hd 12 19 (by kernel_rfl) rfl
         clear hs hd hl
         refine ⟨_, _, rfl, sl11, ?_⟩
         first
          | (change Oper.wp _ _ _ _ _ _; go_simp; exact hk _ _ rfl (Below.refl _ _))
          | exact rfl
        case o14 =>
         intro AA W KK QQ hB hs hd hl hk
         have sl0 := hs 0 _ (by kernel_rfl) rfl
         obtain ⟨_, sl20, rfl⟩ := hd 13 20 (by kernel_rfl) rfl
         clear hs hd hl
         refine ⟨_, _, rfl, sl20, ?_⟩
         first
          | (change Oper.wp _ _ _ _ _ _; go_simp; exact hk _ _ rfl (Below.refl _ _))
          | exact rfl
        case o15 =>
         intro AA W KK QQ hB hs hd hl hk
         have sl5 := hs 5 _ (by kernel_rfl) rfl
         obtain ⟨_, sl20, rfl⟩ := hd 13 20 (by kernel_rfl) rfl
         clear hs hd hl
         refine ⟨_, _, rfl, sl20, ?_⟩
         first
          | (change Oper.wp _ _ _ _ _ _; go_simp; exact hk _ _ rfl (Below.refl _ _))
          | exact rfl
        case o16 =>
         intro AA W KK QQ hB hs hd hl hk
         obtain ⟨_, sl20, rfl⟩ := hd 13 20 (by kernel_rfl) rfl
         obtain ⟨_, sl21, rfl⟩ := hd 14 21 (by kernel_rfl) rfl
         obtain ⟨_, sl22, rfl⟩ := hd 15 22 (by kernel_rfl) rfl
         clear hs hd hl
         refine ⟨_, _, rfl, sl20, ?_⟩
         first
          | (change Oper.wp _ _ _ _ _ _; go_simp; exact hk _ _ rfl (Below.refl _ _))
          | exact rfl
        case o17 =>
         intro AA W KK QQ hB hs hd hl hk
         obtain ⟨_, sl20, rfl⟩ := hd 13 20 (by kernel_rfl) rfl
         obtain ⟨_, sl23, rfl⟩ := hd 16 23 (by kernel_rfl) rfl
         clear hs hd hl
         refine ⟨_, _, rfl, sl20, ?_⟩
         first
          | (change Oper.wp _ _ _ _ _ _; go_simp; exact hk _ _ rfl (Below.refl _ _))
          | exact rfl
        case o18 =>
         intro AA W KK QQ hB hs hd hl hk
         obtain ⟨_, sl20, rfl⟩ := hd 13 20 (by kernel_rfl) rfl
         obtain ⟨_, sl24, rfl⟩ := hd 17 24 (by kernel_rfl) rfl
         clear hs hd hl
         have hx0 := hB.cell (p := ⟨b, off + k * 2, none⟩) hbB
         rw [g0] at hx0
         refine ⟨_, _, rfl, sl20, ?_⟩
         first
          | (change Oper.wp _ _ _ _ _ _; go_simp; exact hk _ _ rfl (Below.refl _ _))
          | exact rfl
        case o19 =>
         intro AA W KK QQ hB hs hd hl hk
         have sl3 := hs 3 _ (by kernel_rfl) rfl
         obtain ⟨_, sl20, rfl⟩ := hd 13 20 (by kernel_rfl) rfl
         clear hs hd hl
         refine ⟨_, _, rfl, sl20, ?_⟩
         first
          | (change Oper.wp _ _ _ _ _ _; go_simp; exact hk _ _ rfl (Below.refl _ _))
          | exact rfl
        case o20 =>
         intro AA W KK QQ hB hs hd hl hk
         obtain ⟨_, sl20, rfl⟩ := hd 13 20 (by kernel_rfl) rfl
         obtain ⟨_, sl26, rfl⟩ := hd 19 26 (by kernel_rfl) rfl
         clear hs hd hl
         have hx0 := hB.cell (p := ⟨w.heap.size, 0, none⟩) hwz
         rw [x0] at hx0
         refine ⟨_, _, rfl, sl20, ?_⟩
         first
          | (change Oper.wp _ _ _ _ _ _; go_simp; exact hk _ _ rfl (Below.refl _ _))
          | exact rfl
        case o21 =>
         intro AA W KK QQ hB hs hd hl hk
         obtain ⟨_, sl20, rfl⟩ := hd 13 20 (by kernel_rfl) rfl
         obtain ⟨_, sl25, rfl⟩ := hd 18 25 (by kernel_rfl) rfl
         obtain ⟨_, sl27, rfl⟩ := hd 20 27 (by kernel_rfl) rfl
         clear hs hd hl
         refine ⟨_, _, rfl, sl20, ?_⟩
         first
          | (change Oper.wp _ _ _ _ _ _; go_simp; exact hk _ _ rfl (Below.refl _ _))
          | exact rfl
        case o22 =>
         intro AA W KK QQ hB hs hd hl hk
         obtain ⟨_, sl20, rfl⟩ := hd 13 20 (by kernel_rfl) rfl
         obtain ⟨_, sl28, rfl⟩ := hd 21 28 (by kernel_rfl) rfl
         clear hs hd hl
         refine ⟨_, _, rfl, sl20, ?_⟩
         first
          | (change Oper.wp _ _ _ _ _ _; go_simp; exact hk _ _ rfl (Below.refl _ _))
          | exact rfl
        case o23 =>
         intro AA W KK QQ hB hs hd hl hk
         have sl0 := hs 0 _ (by kernel_rfl) rfl
         obtain ⟨_, sl29, rfl⟩ := hd 22 29 (by kernel_rfl) rfl
         clear hs hd hl
         refine ⟨_, _, rfl, sl29, ?_⟩
         first
          | (change Oper.wp _ _ _ _ _ _; go_simp; exact hk _ _ rfl (Below.refl _ _))
          | exact rfl
        case o24 =>
         intro AA W KK QQ hB hs hd hl hk
         have sl5 := hs 5 _ (by kernel_rfl) rfl
         obtain ⟨_, sl29, rfl⟩ := hd 22 29 (by kernel_rfl) rfl
         clear hs hd hl
         refine ⟨_, _, rfl, sl29, ?_⟩
         first
          | (change Oper.wp _ _ _ _ _ _; go_simp; exact hk _ _ rfl (Below.refl _ _))
          | exact rfl
        case o25 =>
         intro AA W KK QQ hB hs hd hl hk
         obtain ⟨_, sl29, rfl⟩ := hd 22 29 (by kernel_rfl) rfl
         obtain ⟨_, sl30, rfl⟩ := hd 23 30 (by kernel_rfl) rfl
         obtain ⟨_, sl31, rfl⟩ := hd 24 31 (by kernel_rfl) rfl
         clear hs hd hl
         refine ⟨_, _, rfl, sl29, ?_⟩
         first
          | (change Oper.wp _ _ _ _ _ _; go_simp; exact hk _ _ rfl (Below.refl _ _))
          | exact rfl
        case o26 =>
         intro AA W KK QQ hB hs hd hl hk
         obtain ⟨_, sl29, rfl⟩ := hd 22 29 (by kernel_rfl) rfl
         obtain ⟨_, sl32, rfl⟩ := hd 25 32 (by kernel_rfl) rfl
         clear hs hd hl
         refine ⟨_, _, rfl, sl29, ?_⟩
         first
          | (change Oper.wp _ _ _ _ _ _; go_simp; exact hk _ _ rfl (Below.refl _ _))
          | exact rfl
        case o27 =>
         intro AA W KK QQ hB hs hd hl hk
         obtain ⟨_, sl29, rfl⟩ := hd 22 29 (by kernel_rfl) rfl
         obtain ⟨_, sl33, rfl⟩ := hd 26 33 (by kernel_rfl) rfl
         clear hs hd hl
         have hx1 := hB.cell (p := ⟨b, off + k * 2 + 1, none⟩) hbB
         rw [g1] at hx1
         refine ⟨_, _, rfl, sl29, ?_⟩
         first
          | (change Oper.wp _ _ _ _ _ _; go_simp; exact hk _ _ rfl (Below.refl _ _))
          | exact rfl
        case o28 =>
         intro AA W KK QQ hB hs hd hl hk
         obtain ⟨_, sl29, rfl⟩ := hd 22 29 (by kernel_rfl) rfl
         obtain ⟨_, sl34, rfl⟩ := hd 27 34 (by kernel_rfl) rfl
         clear hs hd hl
         refine ⟨_, _, rfl, sl29, ?_⟩
         change Oper.wp _ _ _ _ _ _
         go_simp
         refine (rrank_any _ W).mono ?_
         rintro e W2 ⟨rfl, rfl⟩
         exact hk _ _ rfl (Below.refl _ _)
        case o29 =>
         intro AA W KK QQ hB hs hd hl hk
         have sl3 := hs 3 _ (by kernel_rfl) rfl
         obtain ⟨_, sl29, rfl⟩ := hd 22 29 (by kernel_rfl) rfl
         clear hs hd hl
         refine ⟨_, _, rfl, sl29, ?_⟩
         first
          | (change Oper.wp _ _ _ _ _ _; go_simp; exact hk _ _ rfl (Below.refl _ _))
          | exact rfl
        case o30 =>
         intro AA W KK QQ hB hs hd hl hk
         obtain ⟨_, sl29, rfl⟩ := hd 22 29 (by kernel_rfl) rfl
         obtain ⟨_, sl36, rfl⟩ := hd 29 36 (by kernel_rfl) rfl
         clear hs hd hl
         have hx1 := hB.cell (p := ⟨w.heap.size, 0 + 1, none⟩) hwz
         rw [x1] at hx1
         refine ⟨_, _, rfl, sl29, ?_⟩
         first
          | (change Oper.wp _ _ _ _ _ _; go_simp; exact hk _ _ rfl (Below.refl _ _))
          | exact rfl
        case o31 =>
         intro AA W KK QQ hB hs hd hl hk
         obtain ⟨_, sl29, rfl⟩ := hd 22 29 (by kernel_rfl) rfl
         obtain ⟨_, sl37, rfl⟩ := hd 30 37 (by kernel_rfl) rfl
         clear hs hd hl
         refine ⟨_, _, rfl, sl29, ?_⟩
         change Oper.wp _ _ _ _ _ _
         go_simp
         refine (rrank_any _ W).mono ?_
         rintro e W2 ⟨rfl, rfl⟩
         exact hk _ _ rfl (Below.refl _ _)
        case o32 =>
         intro AA W KK QQ hB hs hd hl hk
         obtain ⟨_, sl29, rfl⟩ := hd 22 29 (by kernel_rfl) rfl
         obtain ⟨_, sl35, rfl⟩ := hd 28 35 (by kernel_rfl) rfl
         obtain ⟨_, sl38, rfl⟩ := hd 31 38 (by kernel_rfl) rfl
         clear hs hd hl
         refine ⟨_, _, rfl, sl29, ?_⟩
         first
          | (change Oper.wp _ _ _ _ _ _; go_simp; exact hk _ _ rfl (Below.refl _ _))
          | exact rfl
        case o33 =>
         intro AA W KK QQ hB hs hd hl hk
         obtain ⟨_, sl20, rfl⟩ := hd 13 20 (by kernel_rfl) rfl
         obtain ⟨_, sl29, rfl⟩ := hd 22 29 (by kernel_rfl) rfl
         obtain ⟨_, sl39, rfl⟩ := hd 32 39 (by kernel_rfl) rfl
         clear hs hd hl
         refine ⟨_, _, rfl, sl20, ?_⟩
         first
          | (change Oper.wp _ _ _ _ _ _; go_simp; exact hk _ _ rfl (Below.refl _ _))
          | exact rfl
        case o34 =>
         intro AA W KK QQ hB hs hd hl hk
         obtain ⟨_, sl11, rfl⟩ := hd 4 11 (by kernel_rfl) rfl
         obtain ⟨_, sl20, rfl⟩ := hd 13 20 (by kernel_rfl) rfl
         obtain ⟨_, sl40, rfl⟩ := hd 33 40 (by kernel_rfl) rfl
         clear hs hd hl
         refine ⟨_, _, rfl, sl11, ?_⟩
         first
          | (change Oper.wp _ _ _ _ _ _; go_simp; exact hk _ _ rfl (Below.refl _ _))
          | exact rfl
        case o35 =>
         intro AA W KK QQ hB hs hd hl hk
         obtain ⟨_, sl11, rfl⟩ := hd 4 11 (by kernel_rfl) rfl
         obtain ⟨_, sl41, rfl⟩ := hd 34 41 (by kernel_rfl) rfl
         clear hs hd hl
         go_simp
         exact hk _ _ rfl (Below.refl _ _)
       case fin =>
        intro wf hB
        refine fin_isv 7 rfl ?_
        refine fin_isv 8 rfl ?_
        refine fin_isv 9 rfl ?_
        refine fin_isv 10 rfl ?_
        refine fin_isv 11 rfl ?_
        refine fin_isv 12 rfl ?_
        refine fin_isv 13 rfl ?_
        refine fin_isv 14 rfl ?_
        refine fin_isv 15 rfl ?_
        refine fin_isv 16 rfl ?_
        refine fin_isv 17 rfl ?_
        refine fin_isv 18 rfl ?_
        refine fin_isv 19 rfl ?_
        refine fin_isv 20 rfl ?_
        refine fin_isv 21 rfl ?_
        refine fin_isv 22 rfl ?_
        refine fin_isv 23 rfl ?_
        refine fin_isv 24 rfl ?_
        refine fin_isv 25 rfl ?_
        refine fin_isv 26 rfl ?_
        refine fin_isv 27 rfl ?_
        refine fin_isv 28 rfl ?_
        refine fin_isv 29 rfl ?_
        refine fin_isv 30 rfl ?_
        refine fin_isv 31 rfl ?_
        refine fin_isv 32 rfl ?_
        refine fin_isv 33 rfl ?_
        refine fin_isv 34 rfl ?_
        refine fin_isv 35 rfl ?_
        refine fin_isv 36 rfl ?_
        refine fin_isv 37 rfl ?_
        refine fin_isv 38 rfl ?_
        refine fin_isv 39 rfl ?_
        refine fin_isv 40 rfl ?_
        refine fin_isv 41 rfl ?_
        refine fin_isv 42 rfl ?_
        refine frame59_823c1c2a6c _ _ _ _ _ _ _ _ _ _ _ _ _ _ _ _ _ _ _ _ _ _ _ _ _ _ _ _ _ _ _ _ _ _ _ _ _ _ _ _ _ _ _ _ _ _ _ _ _ _ _ _ _ _ _ _ _ _ _ _ _ _ _ _ _ _ _ _ _ _ _ _ _ _ _ _ _ _ _ _ _ _ _ _ _ _ _ _ _ _ _ _ _ _ _ ?_
        have HBf := Lib.hid (HB.out.trans (hB.mono HB.out.size))
        have HQf := Lib.hid (HQ.out.keep hB)
        clear hB
        clear x0 x1 g0 g1
        have HSf := Lib.hid (show Sl wf wf.heap.size 2 encI (some ⟨b, off, none⟩) l from (HA.out.below HBf.out).more HBf.out.size)
        obtain ⟨x0, x1⟩ := issC HQf.out
        have rc1 := fun W => run_cut_hi elIss (some ⟨b, off, none⟩) l.length c k (by omega) W
        have rc2 := fun W => run_cut_lo elIss (some ⟨b, off, none⟩) l.length c k hk W
        have hs1 : Src wf 2 (some ⟨b, off, none⟩) k ((l.take k).flatMap encI) := by
         have := (HSf.out.take k).src encI_len
         rwa [List.length_take, Nat.min_eq_left hk] at this
        have HS3 := Lib.hid (HSf.out.drop c k hlc)
        have hdl : (l.drop k).length = l.length - k := by simp
        have hwz2 : w.heap.size < wf.heap.size := HQf.out.lt
        go_wp2_with (first
         | (at_builtin; refine wpList_app _ rfl (.tmp 45) (.tmp 48) 55 rfl wf.heap.size 88 2 24 elIss _ 0 _ rfl (Acc.nil_ _ _ _ _) (some ⟨b, off, none⟩) k c ((l.take k).flatMap encI) rfl hs1 (encI_one _) (by simp only [maxLen]; omega) (by omega) (Nat.le_refl _) ?_; intro v1 w1 hacc1 _ hb1 _ _; (have y0 := cell_keep hb1 x0); (have y1 := cell_keep hb1 x1); (have HY1 := Lib.hid hb1); clear hb1)
         | (at_builtin; refine wpList_app _ rfl (.tmp 50) (.tmp 52) 55 rfl wf.heap.size 88 2 24 elIss _ (0 + k) _ rfl (hacc1.alloc _) _ 1 _ _ rfl (Src.lit _ 2 _ _ 1 rfl) (by simp [Value.oneCell']) (by simp only [maxLen]; omega) (by omega) (by have := HY1.out.size; simp; omega) ?_; intro v2 w2 hacc2 _ hb2 _ _; (have HY2 := Lib.hid (HY1.out.trans (((Below.refl wf.heap.size w1).alloc HY1.out.size _).trans hb2))); clear hb2; (have hs3 := (HS3.out.below HY2.out).src encI_len); rw [hdl] at hs3)
         | (at_builtin; refine wpList_app _ rfl (.tmp 54) (.tmp 57) 55 rfl wf.heap.size 88 2 24 elIss _ (0 + k + 1) _ rfl hacc2 _ (l.length - k) _ _ rfl hs3 (encI_one _) (by simp only [maxLen]; omega) (by omega) HY2.out.size ?_; intro v3 w3 hacc3 _ hb3 _ _; (have HY3 := Lib.hid (HY2.out.trans hb3)); clear hb3))
        have e3 : 0 + k + 1 + (l.length - k) = (putI l x).length := by rw [HPut.out]; simp; omega
        rw [e3] at hacc3
        have eL : [] ++ (l.take k).flatMap encI ++ [.string ⟨x.1.toArray⟩, .int .i64 x.2] ++ (l.drop k).flatMap encI = (putI l x).flatMap encI := by rw [HPut.out, List.flatMap_append, List.flatMap_cons]; simp [encI]
        rw [eL] at hacc3
        obtain ⟨A3, c3, rfl⟩ := hacc3.shape
        go_ret
        exact ⟨A3, c3, rfl, hacc3.cap, Acc.slAny hacc3 encI_len (by decide), HBf.out.trans (HY3.out.mono HBf.out.size)⟩
     ·have HPut := Lib.hid (HPn.out (by
       cases h : ile y x with
       | false => rfl
       | true =>
         rcases HE.out.1 h with q | q
         ·rw [h1] at q; cases q
         ·exact absurd q.1 h2))
      have h2' : (y.1 == x.1) = false := beq_eq_false_iff_ne.2 h2
      clear HIy HE HPn HTk h2
      go_upto_region 2 with fail
      apply wp_region_facts (by kernel_rfl) [isv _, isv _, isv _, isv _, isv _, isv _, isv _, isv _, isv _, isv _, isv _, isv _, isv _, isv _, isv _, isv _, isv _, isv _, isv _, isv _, isv _, isv _, isv _, isv _, isv _, isv _, isv _, isv _, isv _, isv _, isv _, isv _, isv _, isv _, isv _, isv _] wo.heap.size wo (Nat.le_refl _) (Below.refl _ _).drew (by kernel_rfl) (by kernel_rfl) (by kernel_rfl) (And.intro (isv_mono _) (And.intro (isv_mono _) (And.intro (isv_mono _) (And.intro (isv_mono _) (And.intro (isv_mono _) (And.intro (isv_mono _) (And.intro (isv_mono _) (And.intro (isv_mono _) (And.intro (isv_mono _) (And.intro (isv_mono _) (And.intro (isv_mono _) (And.intro (isv_mono _) (And.intro (isv_mono _) (And.intro (isv_mono _) (And.intro (isv_mono _) (And.intro (isv_mono _) (And.intro (isv_mono _) (And.intro (isv_mono _) (And.intro (isv_mono _) (And.intro (isv_mono _) (And.intro (isv_mono _) (And.intro (isv_mono _) (And.intro (isv_mono _) (And.intro (isv_mono _) (And.intro (isv_mono _) (And.intro (isv_mono _) (And.intro (isv_mono _) (And.intro (isv_mono _) (And.intro (isv_mono _) (And.intro (isv_mono _) (And.intro (isv_mono _) (And.intro (isv_mono _) (And.intro (isv_mono _) (And.intro (isv_mono _) (And.intro (isv_mono _) (And.intro (isv_mono _) trivial)))))))))))))))))))))))))))))))))))) ?steps (by rfl) ?fin
      case steps =>
       refine (And.intro ?o0 (And.intro ?o1 (And.intro ?o2 (And.intro ?o3 (And.intro ?o4 (And.intro ?o5 (And.intro ?o6 (And.intro ?o7 (And.intro ?o8 (And.intro ?o9 (And.intro ?o10 (And.intro ?o11 (And.intro ?o12 (And.intro ?o13 (And.intro ?o14 (And.intro ?o15 (And.intro ?o16 (And.intro ?o17 (And.intro ?o18 (And.intro ?o19 (And.intro ?o20 (And.intro ?o21 (And.intro ?o22 (And.intro ?o23 (And.intro ?o24 (And.intro ?o25 (And.intro ?o26 (And.intro ?o27 (And.intro ?o28 (And.intro ?o29 (And.intro ?o30 (And.intro ?o31 (And.intro ?o32 (And.intro ?o33 (And.intro ?o34 (And.intro ?o35 trivial))))))))))))))))))))))))))))))))))))
       case o0 =>
        intro AA W KK QQ hB hs hd hl hk
        have sl5 := hs 5 _ (by kernel_rfl) rfl
        clear hs hd hl
        go_simp
        exact hk _ _ rfl (Below.refl _ _)
       case o1 =>
        intro AA W KK QQ hB hs hd hl hk
        have sl0 := hs 0 _ (by kernel_rfl) rfl
        clear hs hd hl
        go_simp
        exact hk _ _ rfl (Below.refl _ _)
       case o2 =>
        intro AA W KK QQ hB hs hd hl hk
        obtain ⟨_, sl8, rfl⟩ := hd 1 8 (by kernel_rfl) rfl
        clear hs hd hl
        go_simp
        exact hk _ _ rfl (Below.refl _ _)
       case o3 =>
        intro AA W KK QQ hB hs hd hl hk
        obtain ⟨_, sl7, rfl⟩ := hd 0 7 (by kernel_rfl) rfl
        obtain ⟨_, sl9, rfl⟩ := hd 2 9 (by kernel_rfl) rfl
        clear hs hd hl
        go_simp
        exact hk _ _ rfl (Below.refl _ _)
       case o4 =>
        intro AA W KK QQ hB hs hd hl hk
        obtain ⟨_, sl10, rfl⟩ := hd 3 10 (by kernel_rfl) rfl
        clear hs hd hl
        go_simp
        exact hk _ _ rfl (Below.refl _ _)
       case o5 =>
        intro AA W KK QQ hB hs hd hl hk
        have sl0 := hs 0 _ (by kernel_rfl) rfl
        obtain ⟨_, sl11, rfl⟩ := hd 4 11 (by kernel_rfl) rfl
        clear hs hd hl
        refine ⟨_, _, rfl, sl11, ?_⟩
        first
         | (change Oper.wp _ _ _ _ _ _; go_simp; exact hk _ _ rfl (Below.refl _ _))
         | exact rfl
       case o6 =>
        intro AA W KK QQ hB hs hd hl hk
        have sl5 := hs 5 _ (by kernel_rfl) rfl
        obtain ⟨_, sl11, rfl⟩ := hd 4 11 (by kernel_rfl) rfl
        clear hs hd hl
        refine ⟨_, _, rfl, sl11, ?_⟩
        first
         | (change Oper.wp _ _ _ _ _ _; go_simp; exact hk _ _ rfl (Below.refl _ _))
         | exact rfl
       case o7 =>
        intro AA W KK QQ hB hs hd hl hk
        obtain ⟨_, sl11, rfl⟩ := hd 4 11 (by kernel_rfl) rfl
        obtain ⟨_, sl12, rfl⟩ := hd 5 12 (by kernel_rfl) rfl
        obtain ⟨_, sl13, rfl⟩ := hd 6 13 (by kernel_rfl) rfl
        clear hs hd hl
        refine ⟨_, _, rfl, sl11, ?_⟩
        first
         | (change Oper.wp _ _ _ _ _ _; go_simp; exact hk _ _ rfl (Below.refl _ _))
         | exact rfl
       case o8 =>
        intro AA W KK QQ hB hs hd hl hk
        obtain ⟨_, sl11, rfl⟩ := hd 4 11 (by kernel_rfl) rfl
        obtain ⟨_, sl14, rfl⟩ := hd 7 14 (by kernel_rfl) rfl
        clear hs hd hl
        refine ⟨_, _, rfl, sl11, ?_⟩
        first
         | (change Oper.wp _ _ _ _ _ _; go_simp; exact hk _ _ rfl (Below.refl _ _))
         | exact rfl
       case o9 =>
        intro AA W KK QQ hB hs hd hl hk
        obtain ⟨_, sl11, rfl⟩ := hd 4 11 (by kernel_rfl) rfl
        obtain ⟨_, sl15, rfl⟩ := hd 8 15 (by kernel_rfl) rfl
        clear hs hd hl
        have hx0 := hB.cell (p := ⟨b, off + k * 2, none⟩) hbB
        rw [g0] at hx0
        refine ⟨_, _, rfl, sl11, ?_⟩
        first
         | (change Oper.wp _ _ _ _ _ _; go_simp; exact hk _ _ rfl (Below.refl _ _))
         | exact rfl
       case o10 =>
        intro AA W KK QQ hB hs hd hl hk
        have sl3 := hs 3 _ (by kernel_rfl) rfl
        obtain ⟨_, sl11, rfl⟩ := hd 4 11 (by kernel_rfl) rfl
        clear hs hd hl
        refine ⟨_, _, rfl, sl11, ?_⟩
        first
         | (change Oper.wp _ _ _ _ _ _; go_simp; exact hk _ _ rfl (Below.refl _ _))
         | exact rfl
       case o11 =>
        intro AA W KK QQ hB hs hd hl hk
        obtain ⟨_, sl11, rfl⟩ := hd 4 11 (by kernel_rfl) rfl
        obtain ⟨_, sl17, rfl⟩ := hd 10 17 (by kernel_rfl) rfl
        clear hs hd hl
        have hx0 := hB.cell (p := ⟨w.heap.size, 0, none⟩) hwz
        rw [x0] at hx0
        refine ⟨_, _, rfl, sl11, ?_⟩
        first
         | (change Oper.wp _ _ _ _ _ _; go_simp; exact hk _ _ rfl (Below.refl _ _))
         | exact rfl
       case o12 =>
        intro AA W KK QQ hB hs hd hl hk
        obtain ⟨_, sl11, rfl⟩ := hd 4 11 (by kernel_rfl) rfl
        obtain ⟨_, sl16, rfl⟩ := hd 9 16 (by kernel_rfl) rfl
        obtain ⟨_, sl18, rfl⟩ := hd 11 18 (by kernel_rfl) rfl
        clear hs hd hl
        refine ⟨_, _, rfl, sl11, ?_⟩
        first
         | (change Oper.wp _ _ _ _ _ _; go_simp; exact hk _ _ rfl (Below.refl _ _))
         | exact rfl
       case o13 =>
        intro AA W KK QQ hB hs hd hl hk
        obtain ⟨_, sl11, rfl⟩ := hd 4 11 (by kernel_rfl) rfl
        obtain ⟨_, sl19, rfl⟩ := hd 12 19 (by kernel_rfl) rfl
        clear hs hd hl
        refine ⟨_, _, rfl, sl11, ?_⟩
        first
         | (change Oper.wp _ _ _ _ _ _; go_simp; exact hk _ _ rfl (Below.refl _ _))
         | exact rfl
       case o14 =>
        intro AA W KK QQ hB hs hd hl hk
        have sl0 := hs 0 _ (by kernel_rfl) rfl
        obtain ⟨_, sl20, rfl⟩ := hd 13 20 (by kernel_rfl) rfl
        clear hs hd hl
        refine ⟨_, _, rfl, sl20, ?_⟩
        first
         | (change Oper.wp _ _ _ _ _ _; go_simp; exact hk _ _ rfl (Below.refl _ _))
         | exact rfl
       case o15 =>
        intro AA W KK QQ hB hs hd hl hk
        have sl5 := hs 5 _ (by kernel_rfl) rfl
        obtain ⟨_, sl20, rfl⟩ := hd 13 20 (by kernel_rfl) rfl
        clear hs hd hl
        refine ⟨_, _, rfl, sl20, ?_⟩
        first
         | (change Oper.wp _ _ _ _ _ _; go_simp; exact hk _ _ rfl (Below.refl _ _))
         | exact rfl
       case o16 =>
        intro AA W KK QQ hB hs hd hl hk
        obtain ⟨_, sl20, rfl⟩ := hd 13 20 (by kernel_rfl) rfl
        obtain ⟨_, sl21, rfl⟩ := hd 14 21 (by kernel_rfl) rfl
        obtain ⟨_, sl22, rfl⟩ := hd 15 22 (by kernel_rfl) rfl
        clear hs hd hl
        refine ⟨_, _, rfl, sl20, ?_⟩
        first
         | (change Oper.wp _ _ _ _ _ _; go_simp; exact hk _ _ rfl (Below.refl _ _))
         | exact rfl
       case o17 =>
        intro AA W KK QQ hB hs hd hl hk
        obtain ⟨_, sl20, rfl⟩ := hd 13 20 (by kernel_rfl) rfl
        obtain ⟨_, sl23, rfl⟩ := hd 16 23 (by kernel_rfl) rfl
        clear hs hd hl
        refine ⟨_, _, rfl, sl20, ?_⟩
        first
         | (change Oper.wp _ _ _ _ _ _; go_simp; exact hk _ _ rfl (Below.refl _ _))
         | exact rfl
       case o18 =>
        intro AA W KK QQ hB hs hd hl hk
        obtain ⟨_, sl20, rfl⟩ := hd 13 20 (by kernel_rfl) rfl
        obtain ⟨_, sl24, rfl⟩ := hd 17 24 (by kernel_rfl) rfl
        clear hs hd hl
        have hx0 := hB.cell (p := ⟨b, off + k * 2, none⟩) hbB
        rw [g0] at hx0
        refine ⟨_, _, rfl, sl20, ?_⟩
        first
         | (change Oper.wp _ _ _ _ _ _; go_simp; exact hk _ _ rfl (Below.refl _ _))
         | exact rfl
       case o19 =>
        intro AA W KK QQ hB hs hd hl hk
        have sl3 := hs 3 _ (by kernel_rfl) rfl
        obtain ⟨_, sl20, rfl⟩ := hd 13 20 (by kernel_rfl) rfl
        clear hs hd hl
        refine ⟨_, _, rfl, sl20, ?_⟩
        first
         | (change Oper.wp _ _ _ _ _ _; go_simp; exact hk _ _ rfl (Below.refl _ _))
         | exact rfl
       case o20 =>
        intro AA W KK QQ hB hs hd hl hk
        obtain ⟨_, sl20, rfl⟩ := hd 13 20 (by kernel_rfl) rfl
        obtain ⟨_, sl26, rfl⟩ := hd 19 26 (by kernel_rfl) rfl
        clear hs hd hl
        have hx0 := hB.cell (p := ⟨w.heap.size, 0, none⟩) hwz
        rw [x0] at hx0
        refine ⟨_, _, rfl, sl20, ?_⟩
        first
         | (change Oper.wp _ _ _ _ _ _; go_simp; exact hk _ _ rfl (Below.refl _ _))
         | exact rfl
       case o21 =>
        intro AA W KK QQ hB hs hd hl hk
        obtain ⟨_, sl20, rfl⟩ := hd 13 20 (by kernel_rfl) rfl
        obtain ⟨_, sl25, rfl⟩ := hd 18 25 (by kernel_rfl) rfl
        obtain ⟨_, sl27, rfl⟩ := hd 20 27 (by kernel_rfl) rfl
        clear hs hd hl
        refine ⟨_, _, rfl, sl20, ?_⟩
        first
         | (change Oper.wp _ _ _ _ _ _; go_simp; exact hk _ _ rfl (Below.refl _ _))
         | exact rfl
       case o22 =>
        intro AA W KK QQ hB hs hd hl hk
        obtain ⟨_, sl20, rfl⟩ := hd 13 20 (by kernel_rfl) rfl
        obtain ⟨_, sl28, rfl⟩ := hd 21 28 (by kernel_rfl) rfl
        clear hs hd hl
        refine ⟨_, _, rfl, sl20, ?_⟩
        first
         | (change Oper.wp _ _ _ _ _ _; go_simp; exact hk _ _ rfl (Below.refl _ _))
         | exact rfl
       case o23 =>
        intro AA W KK QQ hB hs hd hl hk
        have sl0 := hs 0 _ (by kernel_rfl) rfl
        obtain ⟨_, sl29, rfl⟩ := hd 22 29 (by kernel_rfl) rfl
        clear hs hd hl
        refine ⟨_, _, rfl, sl29, ?_⟩
        first
         | (change Oper.wp _ _ _ _ _ _; go_simp; exact hk _ _ rfl (Below.refl _ _))
         | exact rfl
       case o24 =>
        intro AA W KK QQ hB hs hd hl hk
        have sl5 := hs 5 _ (by kernel_rfl) rfl
        obtain ⟨_, sl29, rfl⟩ := hd 22 29 (by kernel_rfl) rfl
        clear hs hd hl
        refine ⟨_, _, rfl, sl29, ?_⟩
        first
         | (change Oper.wp _ _ _ _ _ _; go_simp; exact hk _ _ rfl (Below.refl _ _))
         | exact rfl
       case o25 =>
        intro AA W KK QQ hB hs hd hl hk
        obtain ⟨_, sl29, rfl⟩ := hd 22 29 (by kernel_rfl) rfl
        obtain ⟨_, sl30, rfl⟩ := hd 23 30 (by kernel_rfl) rfl
        obtain ⟨_, sl31, rfl⟩ := hd 24 31 (by kernel_rfl) rfl
        clear hs hd hl
        refine ⟨_, _, rfl, sl29, ?_⟩
        first
         | (change Oper.wp _ _ _ _ _ _; go_simp; exact hk _ _ rfl (Below.refl _ _))
         | exact rfl
       case o26 =>
        intro AA W KK QQ hB hs hd hl hk
        obtain ⟨_, sl29, rfl⟩ := hd 22 29 (by kernel_rfl) rfl
        obtain ⟨_, sl32, rfl⟩ := hd 25 32 (by kernel_rfl) rfl
        clear hs hd hl
        refine ⟨_, _, rfl, sl29, ?_⟩
        first
         | (change Oper.wp _ _ _ _ _ _; go_simp; exact hk _ _ rfl (Below.refl _ _))
         | exact rfl
       case o27 =>
        intro AA W KK QQ hB hs hd hl hk
        obtain ⟨_, sl29, rfl⟩ := hd 22 29 (by kernel_rfl) rfl
        obtain ⟨_, sl33, rfl⟩ := hd 26 33 (by kernel_rfl) rfl
        clear hs hd hl
        refine ⟨_, _, rfl, sl29, ?_⟩
        first
         | (change Oper.wp _ _ _ _ _ _; go_simp; exact hk _ _ rfl (Below.refl _ _))
         | exact rfl
       case o28 =>
        intro AA W KK QQ hB hs hd hl hk
        obtain ⟨_, sl29, rfl⟩ := hd 22 29 (by kernel_rfl) rfl
        obtain ⟨_, sl34, rfl⟩ := hd 27 34 (by kernel_rfl) rfl
        clear hs hd hl
        refine ⟨_, _, rfl, sl29, ?_⟩
        exact rfl
       case o29 =>
        intro AA W KK QQ hB hs hd hl hk
        have sl3 := hs 3 _ (by kernel_rfl) rfl
        obtain ⟨_, sl29, rfl⟩ := hd 22 29 (by kernel_rfl) rfl
        clear hs hd hl
        refine ⟨_, _, rfl, sl29, ?_⟩
        first
         | (change Oper.wp _ _ _ _ _ _; go_simp; exact hk _ _ rfl (Below.refl _ _))
         | exact rfl
       case o30 =>
        intro AA W KK QQ hB hs hd hl hk
        obtain ⟨_, sl29, rfl⟩ := hd 22 29 (by kernel_rfl) rfl
        obtain ⟨_, sl36, rfl⟩ := hd 29 36 (by kernel_rfl) rfl
        clear hs hd hl
        refine ⟨_, _, rfl, sl29, ?_⟩
        first
         | (change Oper.wp _ _ _ _ _ _; go_simp; exact hk _ _ rfl (Below.refl _ _))
         | exact rfl
       case o31 =>
        intro AA W KK QQ hB hs hd hl hk
        obtain ⟨_, sl29, rfl⟩ := hd 22 29 (by kernel_rfl) rfl
        obtain ⟨_, sl37, rfl⟩ := hd 30 37 (by kernel_rfl) rfl
        clear hs hd hl
        refine ⟨_, _, rfl, sl29, ?_⟩
        exact rfl
       case o32 =>
        intro AA W KK QQ hB hs hd hl hk
        obtain ⟨_, sl29, rfl⟩ := hd 22 29 (by kernel_rfl) rfl
        obtain ⟨_, sl35, rfl⟩ := hd 28 35 (by kernel_rfl) rfl
        obtain ⟨_, sl38, rfl⟩ := hd 31 38 (by kernel_rfl) rfl
        clear hs hd hl
        refine ⟨_, _, rfl, sl29, ?_⟩
        first
         | (change Oper.wp _ _ _ _ _ _; go_simp; exact hk _ _ rfl (Below.refl _ _))
         | exact rfl
       case o33 =>
        intro AA W KK QQ hB hs hd hl hk
        obtain ⟨_, sl20, rfl⟩ := hd 13 20 (by kernel_rfl) rfl
        obtain ⟨_, sl29, rfl⟩ := hd 22 29 (by kernel_rfl) rfl
        obtain ⟨_, sl39, rfl⟩ := hd 32 39 (by kernel_rfl) rfl
        clear hs hd hl
        refine ⟨_, _, rfl, sl20, ?_⟩
        first
         | (change Oper.wp _ _ _ _ _ _; go_simp; exact hk _ _ rfl (Below.refl _ _))
         | exact rfl
       case o34 =>
        intro AA W KK QQ hB hs hd hl hk
        obtain ⟨_, sl11, rfl⟩ := hd 4 11 (by kernel_rfl) rfl
        obtain ⟨_, sl20, rfl⟩ := hd 13 20 (by kernel_rfl) rfl
        obtain ⟨_, sl40, rfl⟩ := hd 33 40 (by kernel_rfl) rfl
        clear hs hd hl
        refine ⟨_, _, rfl, sl11, ?_⟩
        first
         | (change Oper.wp _ _ _ _ _ _; go_simp; exact hk _ _ rfl (Below.refl _ _))
         | exact rfl
       case o35 =>
        intro AA W KK QQ hB hs hd hl hk
        obtain ⟨_, sl11, rfl⟩ := hd 4 11 (by kernel_rfl) rfl
        obtain ⟨_, sl41, rfl⟩ := hd 34 41 (by kernel_rfl) rfl
        clear hs hd hl
        go_simp
        exact hk _ _ rfl (Below.refl _ _)
      case fin =>
       intro wf hB
       refine fin_isv 7 rfl ?_
       refine fin_isv 8 rfl ?_
       refine fin_isv 9 rfl ?_
       refine fin_isv 10 rfl ?_
       refine fin_isv 11 rfl ?_
       refine fin_isv 12 rfl ?_
       refine fin_isv 13 rfl ?_
       refine fin_isv 14 rfl ?_
       refine fin_isv 15 rfl ?_
       refine fin_isv 16 rfl ?_
       refine fin_isv 17 rfl ?_
       refine fin_isv 18 rfl ?_
       refine fin_isv 19 rfl ?_
       refine fin_isv 20 rfl ?_
       refine fin_isv 21 rfl ?_
       refine fin_isv 22 rfl ?_
       refine fin_isv 23 rfl ?_
       refine fin_isv 24 rfl ?_
       refine fin_isv 25 rfl ?_
       refine fin_isv 26 rfl ?_
       refine fin_isv 27 rfl ?_
       refine fin_isv 28 rfl ?_
       refine fin_isv 29 rfl ?_
       refine fin_isv 30 rfl ?_
       refine fin_isv 31 rfl ?_
       refine fin_isv 32 rfl ?_
       refine fin_isv 33 rfl ?_
       refine fin_isv 34 rfl ?_
       refine fin_isv 35 rfl ?_
       refine fin_isv 36 rfl ?_
       refine fin_isv 37 rfl ?_
       refine fin_isv 38 rfl ?_
       refine fin_isv 39 rfl ?_
       refine fin_isv 40 rfl ?_
       refine fin_isv 41 rfl ?_
       refine fin_isv 42 rfl ?_
       refine frame59_823c1c2a6c _ _ _ _ _ _ _ _ _ _ _ _ _ _ _ _ _ _ _ _ _ _ _ _ _ _ _ _ _ _ _ _ _ _ _ _ _ _ _ _ _ _ _ _ _ _ _ _ _ _ _ _ _ _ _ _ _ _ _ _ _ _ _ _ _ _ _ _ _ _ _ _ _ _ _ _ _ _ _ _ _ _ _ _ _ _ _ _ _ _ _ _ _ _ _ ?_
       have HBf := Lib.hid (HB.out.trans (hB.mono HB.out.size))
       have HQf := Lib.hid (HQ.out.keep hB)
       clear hB
       clear x0 x1 g0 g1
       have HSf := Lib.hid (show Sl wf wf.heap.size 2 encI (some ⟨b, off, none⟩) l from (HA.out.below HBf.out).more HBf.out.size)
       obtain ⟨x0, x1⟩ := issC HQf.out
       have rc1 := fun W => run_cut_hi elIss (some ⟨b, off, none⟩) l.length c k (by omega) W
       have rc2 := fun W => run_cut_lo elIss (some ⟨b, off, none⟩) l.length c k hk W
       have hs1 : Src wf 2 (some ⟨b, off, none⟩) k ((l.take k).flatMap encI) := by
        have := (HSf.out.take k).src encI_len
        rwa [List.length_take, Nat.min_eq_left hk] at this
       have HS3 := Lib.hid (HSf.out.drop c k hlc)
       have hdl : (l.drop k).length = l.length - k := by simp
       have hwz2 : w.heap.size < wf.heap.size := HQf.out.lt
       go_wp2_with (first
        | (at_builtin; refine wpList_app _ rfl (.tmp 45) (.tmp 48) 55 rfl wf.heap.size 88 2 24 elIss _ 0 _ rfl (Acc.nil_ _ _ _ _) (some ⟨b, off, none⟩) k c ((l.take k).flatMap encI) rfl hs1 (encI_one _) (by simp only [maxLen]; omega) (by omega) (Nat.le_refl _) ?_; intro v1 w1 hacc1 _ hb1 _ _; (have y0 := cell_keep hb1 x0); (have y1 := cell_keep hb1 x1); (have HY1 := Lib.hid hb1); clear hb1)
        | (at_builtin; refine wpList_app _ rfl (.tmp 50) (.tmp 52) 55 rfl wf.heap.size 88 2 24 elIss _ (0 + k) _ rfl (hacc1.alloc _) _ 1 _ _ rfl (Src.lit _ 2 _ _ 1 rfl) (by simp [Value.oneCell']) (by simp only [maxLen]; omega) (by omega) (by have := HY1.out.size; simp; omega) ?_; intro v2 w2 hacc2 _ hb2 _ _; (have HY2 := Lib.hid (HY1.out.trans (((Below.refl wf.heap.size w1).alloc HY1.out.size _).trans hb2))); clear hb2; (have hs3 := (HS3.out.below HY2.out).src encI_len); rw [hdl] at hs3)
        | (at_builtin; refine wpList_app _ rfl (.tmp 54) (.tmp 57) 55 rfl wf.heap.size 88 2 24 elIss _ (0 + k + 1) _ rfl hacc2 _ (l.length - k) _ _ rfl hs3 (encI_one _) (by simp only [maxLen]; omega) (by omega) HY2.out.size ?_; intro v3 w3 hacc3 _ hb3 _ _; (have HY3 := Lib.hid (HY2.out.trans hb3)); clear hb3))
       have e3 : 0 + k + 1 + (l.length - k) = (putI l x).length := by rw [HPut.out]; simp; omega
       rw [e3] at hacc3
       have eL : [] ++ (l.take k).flatMap encI ++ [.string ⟨x.1.toArray⟩, .int .i64 x.2] ++ (l.drop k).flatMap encI = (putI l x).flatMap encI := by rw [HPut.out, List.flatMap_append, List.flatMap_cons]; simp [encI]
       rw [eL] at hacc3
       obtain ⟨A3, c3, rfl⟩ := hacc3.shape
       go_ret
       exact ⟨A3, c3, rfl, hacc3.cap, Acc.slAny hacc3 encI_len (by decide), HBf.out.trans (HY3.out.mono HBf.out.size)⟩
  ·have HPut := Lib.hid (putI_at hk HI.out (.inl (by omega)))
   have hnl : ¬ ((k : Int) < (l.length : Int)) := by omega
   clear HI
   go_upto_region 2 with fail
   apply wp_region_facts (by kernel_rfl) [isv _, isv _, isv _, isv _, isv _, isv _, isv _, isv _, isv _, isv _, isv _, isv _, isv _, isv _, isv _, isv _, isv _, isv _, isv _, isv _, isv _, isv _, isv _, isv _, isv _, isv _, isv _, isv _, isv _, isv _, isv _, isv _, isv _, isv _, isv _, isv _] wo.heap.size wo (Nat.le_refl _) (Below.refl _ _).drew (by kernel_rfl) (by kernel_rfl) (by kernel_rfl) (And.intro (isv_mono _) (And.intro (isv_mono _) (And.intro (isv_mono _) (And.intro (isv_mono _) (And.intro (isv_mono _) (And.intro (isv_mono _) (And.intro (isv_mono _) (And.intro (isv_mono _) (And.intro (isv_mono _) (And.intro (isv_mono _) (And.intro (isv_mono _) (And.intro (isv_mono _) (And.intro (isv_mono _) (And.intro (isv_mono _) (And.intro (isv_mono _) (And.intro (isv_mono _) (And.intro (isv_mono _) (And.intro (isv_mono _) (And.intro (isv_mono _) (And.intro (isv_mono _) (And.intro (isv_mono _) (And.intro (isv_mono _) (And.intro (isv_mono _) (And.intro (isv_mono _) (And.intro (isv_mono _) (And.intro (isv_mono _) (And.intro (isv_mono _) (And.intro (isv_mono _) (And.intro (isv_mono _) (And.intro (isv_mono _) (And.intro (isv_mono _) (And.intro (isv_mono _) (And.intro (isv_mono _) (And.intro (isv_mono _) (And.intro (isv_mono _) (And.intro (isv_mono _) trivial)))))))))))))))))))))))))))))))))))) ?steps (by rfl) ?fin
   case steps =>
    refine (And.intro ?o0 (And.intro ?o1 (And.intro ?o2 (And.intro ?o3 (And.intro ?o4 (And.intro ?o5 (And.intro ?o6 (And.intro ?o7 (And.intro ?o8 (And.intro ?o9 (And.intro ?o10 (And.intro ?o11 (And.intro ?o12 (And.intro ?o13 (And.intro ?o14 (And.intro ?o15 (And.intro ?o16 (And.intro ?o17 (And.intro ?o18 (And.intro ?o19 (And.intro ?o20 (And.intro ?o21 (And.intro ?o22 (And.intro ?o23 (And.intro ?o24 (And.intro ?o25 (And.intro ?o26 (And.intro ?o27 (And.intro ?o28 (And.intro ?o29 (And.intro ?o30 (And.intro ?o31 (And.intro ?o32 (And.intro ?o33 (And.intro ?o34 (And.intro ?o35 trivial))))))))))))))))))))))))))))))))))))
    case o0 =>
     intro AA W KK QQ hB hs hd hl hk
     have sl5 := hs 5 _ (by kernel_rfl) rfl
     clear hs hd hl
     go_simp
     exact hk _ _ rfl (Below.refl _ _)
    case o1 =>
     intro AA W KK QQ hB hs hd hl hk
     have sl0 := hs 0 _ (by kernel_rfl) rfl
     clear hs hd hl
     go_simp
     exact hk _ _ rfl (Below.refl _ _)
    case o2 =>
     intro AA W KK QQ hB hs hd hl hk
     obtain ⟨_, sl8, rfl⟩ := hd 1 8 (by kernel_rfl) rfl
     clear hs hd hl
     go_simp
     exact hk _ _ rfl (Below.refl _ _)
    case o3 =>
     intro AA W KK QQ hB hs hd hl hk
     obtain ⟨_, sl7, rfl⟩ := hd 0 7 (by kernel_rfl) rfl
     obtain ⟨_, sl9, rfl⟩ := hd 2 9 (by kernel_rfl) rfl
     clear hs hd hl
     go_simp
     exact hk _ _ rfl (Below.refl _ _)
    case o4 =>
     intro AA W KK QQ hB hs hd hl hk
     obtain ⟨_, sl10, rfl⟩ := hd 3 10 (by kernel_rfl) rfl
     clear hs hd hl
     go_simp
     exact hk _ _ rfl (Below.refl _ _)
    case o5 =>
     intro AA W KK QQ hB hs hd hl hk
     have sl0 := hs 0 _ (by kernel_rfl) rfl
     obtain ⟨_, sl11, rfl⟩ := hd 4 11 (by kernel_rfl) rfl
     clear hs hd hl
     refine ⟨_, _, rfl, sl11, ?_⟩
     first
      | (change Oper.wp _ _ _ _ _ _; go_simp; exact hk _ _ rfl (Below.refl _ _))
      | exact rfl
    case o6 =>
     intro AA W KK QQ hB hs hd hl hk
     have sl5 := hs 5 _ (by kernel_rfl) rfl
     obtain ⟨_, sl11, rfl⟩ := hd 4 11 (by kernel_rfl) rfl
     clear hs hd hl
     refine ⟨_, _, rfl, sl11, ?_⟩
     first
      | (change Oper.wp _ _ _ _ _ _; go_simp; exact hk _ _ rfl (Below.refl _ _))
      | exact rfl
    case o7 =>
     intro AA W KK QQ hB hs hd hl hk
     obtain ⟨_, sl11, rfl⟩ := hd 4 11 (by kernel_rfl) rfl
     obtain ⟨_, sl12, rfl⟩ := hd 5 12 (by kernel_rfl) rfl
     obtain ⟨_, sl13, rfl⟩ := hd 6 13 (by kernel_rfl) rfl
     clear hs hd hl
     refine ⟨_, _, rfl, sl11, ?_⟩
     first
      | (change Oper.wp _ _ _ _ _ _; go_simp; exact hk _ _ rfl (Below.refl _ _))
      | exact rfl
    case o8 =>
     intro AA W KK QQ hB hs hd hl hk
     obtain ⟨_, sl11, rfl⟩ := hd 4 11 (by kernel_rfl) rfl
     obtain ⟨_, sl14, rfl⟩ := hd 7 14 (by kernel_rfl) rfl
     clear hs hd hl
     refine ⟨_, _, rfl, sl11, ?_⟩
     first
      | (change Oper.wp _ _ _ _ _ _; go_simp; exact hk _ _ rfl (Below.refl _ _))
      | exact rfl
    case o9 =>
     intro AA W KK QQ hB hs hd hl hk
     obtain ⟨_, sl11, rfl⟩ := hd 4 11 (by kernel_rfl) rfl
     obtain ⟨_, sl15, rfl⟩ := hd 8 15 (by kernel_rfl) rfl
     clear hs hd hl
     refine ⟨_, _, rfl, sl11, ?_⟩
     first
      | (change Oper.wp _ _ _ _ _ _; go_simp; exact hk _ _ rfl (Below.refl _ _))
      | exact rfl
    case o10 =>
     intro AA W KK QQ hB hs hd hl hk
     have sl3 := hs 3 _ (by kernel_rfl) rfl
     obtain ⟨_, sl11, rfl⟩ := hd 4 11 (by kernel_rfl) rfl
     clear hs hd hl
     refine ⟨_, _, rfl, sl11, ?_⟩
     first
      | (change Oper.wp _ _ _ _ _ _; go_simp; exact hk _ _ rfl (Below.refl _ _))
      | exact rfl
    case o11 =>
     intro AA W KK QQ hB hs hd hl hk
     obtain ⟨_, sl11, rfl⟩ := hd 4 11 (by kernel_rfl) rfl
     obtain ⟨_, sl17, rfl⟩ := hd 10 17 (by kernel_rfl) rfl
     clear hs hd hl
     refine ⟨_, _, rfl, sl11, ?_⟩
     first
      | (change Oper.wp _ _ _ _ _ _; go_simp; exact hk _ _ rfl (Below.refl _ _))
      | exact rfl
    case o12 =>
     intro AA W KK QQ hB hs hd hl hk
     obtain ⟨_, sl11, rfl⟩ := hd 4 11 (by kernel_rfl) rfl
     obtain ⟨_, sl16, rfl⟩ := hd 9 16 (by kernel_rfl) rfl
     obtain ⟨_, sl18, rfl⟩ := hd 11 18 (by kernel_rfl) rfl
     clear hs hd hl
     refine ⟨_, _, rfl, sl11, ?_⟩
     first
      | (change Oper.wp _ _ _ _ _ _; go_simp; exact hk _ _ rfl (Below.refl _ _))
      | exact rfl
    case o13 =>
     intro AA W KK QQ hB hs hd hl hk
     obtain ⟨_, sl11, rfl⟩ := hd 4 11 (by kernel_rfl) rfl
     obtain ⟨_, sl19, rfl⟩ := hd 12 19 (by kernel_rfl) rfl
     clear hs hd hl
     refine ⟨_, _, rfl, sl11, ?_⟩
     first
      | (change Oper.wp _ _ _ _ _ _; go_simp; exact hk _ _ rfl (Below.refl _ _))
      | exact rfl
    case o14 =>
     intro AA W KK QQ hB hs hd hl hk
     have sl0 := hs 0 _ (by kernel_rfl) rfl
     obtain ⟨_, sl20, rfl⟩ := hd 13 20 (by kernel_rfl) rfl
     clear hs hd hl
     refine ⟨_, _, rfl, sl20, ?_⟩
     first
      | (change Oper.wp _ _ _ _ _ _; go_simp; exact hk _ _ rfl (Below.refl _ _))
      | exact rfl
    case o15 =>
     intro AA W KK QQ hB hs hd hl hk
     have sl5 := hs 5 _ (by kernel_rfl) rfl
     obtain ⟨_, sl20, rfl⟩ := hd 13 20 (by kernel_rfl) rfl
     clear hs hd hl
     refine ⟨_, _, rfl, sl20, ?_⟩
     first
      | (change Oper.wp _ _ _ _ _ _; go_simp; exact hk _ _ rfl (Below.refl _ _))
      | exact rfl
    case o16 =>
     intro AA W KK QQ hB hs hd hl hk
     obtain ⟨_, sl20, rfl⟩ := hd 13 20 (by kernel_rfl) rfl
     obtain ⟨_, sl21, rfl⟩ := hd 14 21 (by kernel_rfl) rfl
     obtain ⟨_, sl22, rfl⟩ := hd 15 22 (by kernel_rfl) rfl
     clear hs hd hl
     refine ⟨_, _, rfl, sl20, ?_⟩
     first
      | (change Oper.wp _ _ _ _ _ _; go_simp; exact hk _ _ rfl (Below.refl _ _))
      | exact rfl
    case o17 =>
     intro AA W KK QQ hB hs hd hl hk
     obtain ⟨_, sl20, rfl⟩ := hd 13 20 (by kernel_rfl) rfl
     obtain ⟨_, sl23, rfl⟩ := hd 16 23 (by kernel_rfl) rfl
     clear hs hd hl
     refine ⟨_, _, rfl, sl20, ?_⟩
     first
      | (change Oper.wp _ _ _ _ _ _; go_simp; exact hk _ _ rfl (Below.refl _ _))
      | exact rfl
    case o18 =>
     intro AA W KK QQ hB hs hd hl hk
     obtain ⟨_, sl20, rfl⟩ := hd 13 20 (by kernel_rfl) rfl
     obtain ⟨_, sl24, rfl⟩ := hd 17 24 (by kernel_rfl) rfl
     clear hs hd hl
     refine ⟨_, _, rfl, sl20, ?_⟩
     first
      | (change Oper.wp _ _ _ _ _ _; go_simp; exact hk _ _ rfl (Below.refl _ _))
      | exact rfl
    case o19 =>
     intro AA W KK QQ hB hs hd hl hk
     have sl3 := hs 3 _ (by kernel_rfl) rfl
     obtain ⟨_, sl20, rfl⟩ := hd 13 20 (by kernel_rfl) rfl
     clear hs hd hl
     refine ⟨_, _, rfl, sl20, ?_⟩
     first
      | (change Oper.wp _ _ _ _ _ _; go_simp; exact hk _ _ rfl (Below.refl _ _))
      | exact rfl
    case o20 =>
     intro AA W KK QQ hB hs hd hl hk
     obtain ⟨_, sl20, rfl⟩ := hd 13 20 (by kernel_rfl) rfl
     obtain ⟨_, sl26, rfl⟩ := hd 19 26 (by kernel_rfl) rfl
     clear hs hd hl
     refine ⟨_, _, rfl, sl20, ?_⟩
     first
      | (change Oper.wp _ _ _ _ _ _; go_simp; exact hk _ _ rfl (Below.refl _ _))
      | exact rfl
    case o21 =>
     intro AA W KK QQ hB hs hd hl hk
     obtain ⟨_, sl20, rfl⟩ := hd 13 20 (by kernel_rfl) rfl
     obtain ⟨_, sl25, rfl⟩ := hd 18 25 (by kernel_rfl) rfl
     obtain ⟨_, sl27, rfl⟩ := hd 20 27 (by kernel_rfl) rfl
     clear hs hd hl
     refine ⟨_, _, rfl, sl20, ?_⟩
     first
      | (change Oper.wp _ _ _ _ _ _; go_simp; exact hk _ _ rfl (Below.refl _ _))
      | exact rfl
    case o22 =>
     intro AA W KK QQ hB hs hd hl hk
     obtain ⟨_, sl20, rfl⟩ := hd 13 20 (by kernel_rfl) rfl
     obtain ⟨_, sl28, rfl⟩ := hd 21 28 (by kernel_rfl) rfl
     clear hs hd hl
     refine ⟨_, _, rfl, sl20, ?_⟩
     first
      | (change Oper.wp _ _ _ _ _ _; go_simp; exact hk _ _ rfl (Below.refl _ _))
      | exact rfl
    case o23 =>
     intro AA W KK QQ hB hs hd hl hk
     have sl0 := hs 0 _ (by kernel_rfl) rfl
     obtain ⟨_, sl29, rfl⟩ := hd 22 29 (by kernel_rfl) rfl
     clear hs hd hl
     refine ⟨_, _, rfl, sl29, ?_⟩
     first
      | (change Oper.wp _ _ _ _ _ _; go_simp; exact hk _ _ rfl (Below.refl _ _))
      | exact rfl
    case o24 =>
     intro AA W KK QQ hB hs hd hl hk
     have sl5 := hs 5 _ (by kernel_rfl) rfl
     obtain ⟨_, sl29, rfl⟩ := hd 22 29 (by kernel_rfl) rfl
     clear hs hd hl
     refine ⟨_, _, rfl, sl29, ?_⟩
     first
      | (change Oper.wp _ _ _ _ _ _; go_simp; exact hk _ _ rfl (Below.refl _ _))
      | exact rfl
    case o25 =>
     intro AA W KK QQ hB hs hd hl hk
     obtain ⟨_, sl29, rfl⟩ := hd 22 29 (by kernel_rfl) rfl
     obtain ⟨_, sl30, rfl⟩ := hd 23 30 (by kernel_rfl) rfl
     obtain ⟨_, sl31, rfl⟩ := hd 24 31 (by kernel_rfl) rfl
     clear hs hd hl
     refine ⟨_, _, rfl, sl29, ?_⟩
     first
      | (change Oper.wp _ _ _ _ _ _; go_simp; exact hk _ _ rfl (Below.refl _ _))
      | exact rfl
    case o26 =>
     intro AA W KK QQ hB hs hd hl hk
     obtain ⟨_, sl29, rfl⟩ := hd 22 29 (by kernel_rfl) rfl
     obtain ⟨_, sl32, rfl⟩ := hd 25 32 (by kernel_rfl) rfl
     clear hs hd hl
     refine ⟨_, _, rfl, sl29, ?_⟩
     first
      | (change Oper.wp _ _ _ _ _ _; go_simp; exact hk _ _ rfl (Below.refl _ _))
      | exact rfl
    case o27 =>
     intro AA W KK QQ hB hs hd hl hk
     obtain ⟨_, sl29, rfl⟩ := hd 22 29 (by kernel_rfl) rfl
     obtain ⟨_, sl33, rfl⟩ := hd 26 33 (by kernel_rfl) rfl
     clear hs hd hl
     refine ⟨_, _, rfl, sl29, ?_⟩
     first
      | (change Oper.wp _ _ _ _ _ _; go_simp; exact hk _ _ rfl (Below.refl _ _))
      | exact rfl
    case o28 =>
     intro AA W KK QQ hB hs hd hl hk
     obtain ⟨_, sl29, rfl⟩ := hd 22 29 (by kernel_rfl) rfl
     obtain ⟨_, sl34, rfl⟩ := hd 27 34 (by kernel_rfl) rfl
     clear hs hd hl
     refine ⟨_, _, rfl, sl29, ?_⟩
     exact rfl
    case o29 =>
     intro AA W KK QQ hB hs hd hl hk
     have sl3 := hs 3 _ (by kernel_rfl) rfl
     obtain ⟨_, sl29, rfl⟩ := hd 22 29 (by kernel_rfl) rfl
     clear hs hd hl
     refine ⟨_, _, rfl, sl29, ?_⟩
     first
      | (change Oper.wp _ _ _ _ _ _; go_simp; exact hk _ _ rfl (Below.refl _ _))
      | exact rfl
    case o30 =>
     intro AA W KK QQ hB hs hd hl hk
     obtain ⟨_, sl29, rfl⟩ := hd 22 29 (by kernel_rfl) rfl
     obtain ⟨_, sl36, rfl⟩ := hd 29 36 (by kernel_rfl) rfl
     clear hs hd hl
     refine ⟨_, _, rfl, sl29, ?_⟩
     first
      | (change Oper.wp _ _ _ _ _ _; go_simp; exact hk _ _ rfl (Below.refl _ _))
      | exact rfl
    case o31 =>
     intro AA W KK QQ hB hs hd hl hk
     obtain ⟨_, sl29, rfl⟩ := hd 22 29 (by kernel_rfl) rfl
     obtain ⟨_, sl37, rfl⟩ := hd 30 37 (by kernel_rfl) rfl
     clear hs hd hl
     refine ⟨_, _, rfl, sl29, ?_⟩
     exact rfl
    case o32 =>
     intro AA W KK QQ hB hs hd hl hk
     obtain ⟨_, sl29, rfl⟩ := hd 22 29 (by kernel_rfl) rfl
     obtain ⟨_, sl35, rfl⟩ := hd 28 35 (by kernel_rfl) rfl
     obtain ⟨_, sl38, rfl⟩ := hd 31 38 (by kernel_rfl) rfl
     clear hs hd hl
     refine ⟨_, _, rfl, sl29, ?_⟩
     first
      | (change Oper.wp _ _ _ _ _ _; go_simp; exact hk _ _ rfl (Below.refl _ _))
      | exact rfl
    case o33 =>
     intro AA W KK QQ hB hs hd hl hk
     obtain ⟨_, sl20, rfl⟩ := hd 13 20 (by kernel_rfl) rfl
     obtain ⟨_, sl29, rfl⟩ := hd 22 29 (by kernel_rfl) rfl
     obtain ⟨_, sl39, rfl⟩ := hd 32 39 (by kernel_rfl) rfl
     clear hs hd hl
     refine ⟨_, _, rfl, sl20, ?_⟩
     first
      | (change Oper.wp _ _ _ _ _ _; go_simp; exact hk _ _ rfl (Below.refl _ _))
      | exact rfl
    case o34 =>
     intro AA W KK QQ hB hs hd hl hk
     obtain ⟨_, sl11, rfl⟩ := hd 4 11 (by kernel_rfl) rfl
     obtain ⟨_, sl20, rfl⟩ := hd 13 20 (by kernel_rfl) rfl
     obtain ⟨_, sl40, rfl⟩ := hd 33 40 (by kernel_rfl) rfl
     clear hs hd hl
     refine ⟨_, _, rfl, sl11, ?_⟩
     first
      | (change Oper.wp _ _ _ _ _ _; go_simp; exact hk _ _ rfl (Below.refl _ _))
      | exact rfl
    case o35 =>
     intro AA W KK QQ hB hs hd hl hk
     obtain ⟨_, sl11, rfl⟩ := hd 4 11 (by kernel_rfl) rfl
     obtain ⟨_, sl41, rfl⟩ := hd 34 41 (by kernel_rfl) rfl
     clear hs hd hl
     go_simp
     exact hk _ _ rfl (Below.refl _ _)
   case fin =>
    intro wf hB
    refine fin_isv 7 rfl ?_
    refine fin_isv 8 rfl ?_
    refine fin_isv 9 rfl ?_
    refine fin_isv 10 rfl ?_
    refine fin_isv 11 rfl ?_
    refine fin_isv 12 rfl ?_
    refine fin_isv 13 rfl ?_
    refine fin_isv 14 rfl ?_
    refine fin_isv 15 rfl ?_
    refine fin_isv 16 rfl ?_
    refine fin_isv 17 rfl ?_
    refine fin_isv 18 rfl ?_
    refine fin_isv 19 rfl ?_
    refine fin_isv 20 rfl ?_
    refine fin_isv 21 rfl ?_
    refine fin_isv 22 rfl ?_
    refine fin_isv 23 rfl ?_
    refine fin_isv 24 rfl ?_
    refine fin_isv 25 rfl ?_
    refine fin_isv 26 rfl ?_
    refine fin_isv 27 rfl ?_
    refine fin_isv 28 rfl ?_
    refine fin_isv 29 rfl ?_
    refine fin_isv 30 rfl ?_
    refine fin_isv 31 rfl ?_
    refine fin_isv 32 rfl ?_
    refine fin_isv 33 rfl ?_
    refine fin_isv 34 rfl ?_
    refine fin_isv 35 rfl ?_
    refine fin_isv 36 rfl ?_
    refine fin_isv 37 rfl ?_
    refine fin_isv 38 rfl ?_
    refine fin_isv 39 rfl ?_
    refine fin_isv 40 rfl ?_
    refine fin_isv 41 rfl ?_
    refine fin_isv 42 rfl ?_
    refine frame59_823c1c2a6c _ _ _ _ _ _ _ _ _ _ _ _ _ _ _ _ _ _ _ _ _ _ _ _ _ _ _ _ _ _ _ _ _ _ _ _ _ _ _ _ _ _ _ _ _ _ _ _ _ _ _ _ _ _ _ _ _ _ _ _ _ _ _ _ _ _ _ _ _ _ _ _ _ _ _ _ _ _ _ _ _ _ _ _ _ _ _ _ _ _ _ _ _ _ _ ?_
    have HBf := Lib.hid (HB.out.trans (hB.mono HB.out.size))
    have HQf := Lib.hid (HQ.out.keep hB)
    clear hB
    clear x0 x1
    have HSf := Lib.hid (show Sl wf wf.heap.size 2 encI A l from (HA.out.below HBf.out).more HBf.out.size)
    obtain ⟨x0, x1⟩ := issC HQf.out
    have rc1 := fun W => run_cut_hi elIss A l.length c k (by omega) W
    have rc2 := fun W => run_cut_lo elIss A l.length c k hk W
    have hs1 : Src wf 2 A k ((l.take k).flatMap encI) := by
     have := (HSf.out.take k).src encI_len
     rwa [List.length_take, Nat.min_eq_left hk] at this
    have HS3 := Lib.hid (HSf.out.drop c k hlc)
    have hdl : (l.drop k).length = l.length - k := by simp
    have hwz2 : w.heap.size < wf.heap.size := HQf.out.lt
    go_wp2_with (first
     | (at_builtin; refine wpList_app _ rfl (.tmp 45) (.tmp 48) 55 rfl wf.heap.size 88 2 24 elIss _ 0 _ rfl (Acc.nil_ _ _ _ _) A k c ((l.take k).flatMap encI) rfl hs1 (encI_one _) (by simp only [maxLen]; omega) (by omega) (Nat.le_refl _) ?_; intro v1 w1 hacc1 _ hb1 _ _; (have y0 := cell_keep hb1 x0); (have y1 := cell_keep hb1 x1); (have HY1 := Lib.hid hb1); clear hb1)
     | (at_builtin; refine wpList_app _ rfl (.tmp 50) (.tmp 52) 55 rfl wf.heap.size 88 2 24 elIss _ (0 + k) _ rfl (hacc1.alloc _) _ 1 _ _ rfl (Src.lit _ 2 _ _ 1 rfl) (by simp [Value.oneCell']) (by simp only [maxLen]; omega) (by omega) (by have := HY1.out.size; simp; omega) ?_; intro v2 w2 hacc2 _ hb2 _ _; (have HY2 := Lib.hid (HY1.out.trans (((Below.refl wf.heap.size w1).alloc HY1.out.size _).trans hb2))); clear hb2; (have hs3 := (HS3.out.below HY2.out).src encI_len); rw [hdl] at hs3)
     | (at_builtin; refine wpList_app _ rfl (.tmp 54) (.tmp 57) 55 rfl wf.heap.size 88 2 24 elIss _ (0 + k + 1) _ rfl hacc2 _ (l.length - k) _ _ rfl hs3 (encI_one _) (by simp only [maxLen]; omega) (by omega) HY2.out.size ?_; intro v3 w3 hacc3 _ hb3 _ _; (have HY3 := Lib.hid (HY2.out.trans hb3)); clear hb3))
    have e3 : 0 + k + 1 + (l.length - k) = (putI l x).length := by rw [HPut.out]; simp; omega
    rw [e3] at hacc3
    have eL : [] ++ (l.take k).flatMap encI ++ [.string ⟨x.1.toArray⟩, .int .i64 x.2] ++ (l.drop k).flatMap encI = (putI l x).flatMap encI := by rw [HPut.out, List.flatMap_append, List.flatMap_cons]; simp [encI]
    rw [eL] at hacc3
    obtain ⟨A3, c3, rfl⟩ := hacc3.shape
    go_ret
    exact ⟨A3, c3, rfl, hacc3.cap, Acc.slAny hacc3 encI_len (by decide), HBf.out.trans (HY3.out.mono HBf.out.size)⟩
set_option maxRecDepth 100000 in
set_option maxHeartbeats 2000000 in
theorem has_any (A : Option Addr) (c : Nat) (l : List Iss) (x : Iss) (w : World) (hA : Sl w w.heap.size 2 encI A l) (hl : l.length ≤ 1000000) :
  Calls Tryz.prog 97 #[.slice A l.length c, .agg #[.string ⟨x.1.toArray⟩, .int .i64 x.2]] w fun e w' => e = .returned (.bool (decide (x ∈ l))) ∧ Below w.heap.size w w' := by
 have HA := Lib.hid hA
 have HB0 := Lib.hid (show Below w.heap.size w (w.alloc (.cells #[.string ⟨x.1.toArray⟩, .int .i64 x.2] 88)) from (Below.refl _ _).alloc (Nat.le_refl _) _)
 have Q0 := Lib.hid (Blk.new w 88 #[.string ⟨x.1.toArray⟩, .int .i64 x.2])
 obtain ⟨r, hr⟩ : ∃ r, r = decide (x ∈ l) := ⟨_, rfl⟩
 rw [← hr]
 have HR := Lib.hid hr
 have heq := eq_iss
 clear hA hr
 go_enter Tryz.func97, Tryz.ntmps97
 go_wp2
 go_loopw [5] (fun i wr => ∃ k : Nat, k ≤ l.length ∧ i = .int .i64 (k : Nat) ∧ Hid (x ∉ l.take k) ∧ Hid (Below w.heap.size w wr) ∧ Hid (Blk wr w.heap.size 88 #[.string ⟨x.1.toArray⟩, .int .i64 x.2])) (fun i _ => l.length - (intOf i).toNat)
 case atStart => exact ⟨0, Nat.zero_le _, rfl, Lib.hid (by simp), HB0, Q0⟩
 case round =>
  obtain ⟨wo, hwo⟩ : ∃ wo, wo = wr := ⟨_, rfl⟩
  subst hwo
  obtain ⟨k, hk, rfl, HI, HB, HQ⟩ := hrel
  obtain ⟨x0, x1⟩ := issC HQ.out
  by_cases hlt : k < l.length
  ·have hlt' : (k : Int) < (l.length : Int) := by omega
   obtain ⟨b, off, hA1, hbB, g0, g1⟩ := ((HA.out.below HB.out).more HB.out.size).iss hlt
   have HTk := Lib.hid (List.take_succ_eq_append_getElem hlt)
   have HIn := Lib.hid (List.getElem_mem hlt)
   generalize l[k] = y at g0 g1 HTk HIn
   have HA1 := Lib.hid hA1
   subst hA1
   have he := fun W => heq y.1 x.1 y.2 x.2 W
   by_cases hxy : y = x
   ·have HF := Lib.hid (show r = true from by rw [HR.out]; exact decide_eq_true (hxy ▸ HIn.out))
    rw [decide_eq_true (show (y.1, y.2) = (x.1, x.2) from hxy)] at he
    clear hxy HTk heq
    go_wp2
    go_quiet (fail)
    go_wp2
    go_ret
    exact ⟨by rw [HF.out]; rfl, HB.out.drewN _⟩
   ·have HI2 := Lib.hid (show x ∉ l.take (k + 1) from by
     rw [HTk.out, List.mem_append, List.mem_singleton]
     rintro (h | h)
     ·exact HI.out h
     ·exact hxy h.symm)
    rw [decide_eq_false (show ¬ (y.1, y.2) = (x.1, x.2) from hxy)] at he
    clear hxy HTk heq
    go_wp2
    go_quiet (fail)
    go_wp2
    go_roundw
    case rel => exact ⟨k + 1, by omega, by go_num, HI2, Lib.hid (HB.out.drewN _), Lib.hid (HQ.out.keep ((Below.refl _ _).drewN _))⟩
    case measure => simp [intOf]; omega
  ·obtain rfl : k = l.length := by omega
   have HF := Lib.hid (show r = false from by rw [HR.out]; exact decide_eq_false (by have h := HI.out; rwa [List.take_length] at h))
   clear heq
   go_wp2
   go_ret
   exact ⟨by rw [HF.out]; rfl, HB.out⟩
end Go.Proofs.YthcgihgajdjfoaaGreatDoor
