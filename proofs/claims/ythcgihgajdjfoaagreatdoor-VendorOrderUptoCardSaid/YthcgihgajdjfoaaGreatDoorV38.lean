/- What the claim needs of: IM. -/
import Derived.Test.YthcgihgajdjfoaaGreatDoorV37
namespace Go.Proofs.YthcgihgajdjfoaaGreatDoor
open Go.RowKit Go.Sort
def Apart (u v : Value) : Prop := ∀ g, u.ownBlock = some g → v.ownBlock ≠ some g
theorem Apart.ne {u v : Value} (h : Apart u v) : u.ownBlock = none ∨ u.ownBlock ≠ v.ownBlock := by
 cases hu : u.ownBlock with
 | none => exact .inl rfl
 | some g => exact .inr fun e => h g hu e.symm
theorem Apart.ne' {u v : Value} (h : Apart u v) : v.ownBlock = none ∨ v.ownBlock ≠ u.ownBlock := by
 cases hv : v.ownBlock with
 | none => exact .inl rfl
 | some g => exact .inr fun e => h g e.symm hv
theorem Apart.newR {u v v' : Value} {B : Nat} (h : Apart u v) (hf : v'.ownBlock = v.ownBlock ∨ ∃ g, v'.ownBlock = some g ∧ B ≤ g) (hu : ∀ g, u.ownBlock = some g → g < B) : Apart u v' := fun g hg e => by
 rcases hf with hf | ⟨g', hf, hb⟩
 ·exact h g hg (hf ▸ e)
 ·rw [hf] at e
  injection e with e
  have := hu g hg
  omega
theorem Apart.newL {u v u' : Value} {B : Nat} (h : Apart u v) (hf : u'.ownBlock = u.ownBlock ∨ ∃ g, u'.ownBlock = some g ∧ B ≤ g) (hv : ∀ g, v.ownBlock = some g → g < B) : Apart u' v := fun g hg e => by
 rcases hf with hf | ⟨g', hf, hb⟩
 ·exact h g (hf ▸ hg) e
 ·rw [hf] at hg
  injection hg with hg
  have := hv g e
  omega
theorem ver_lk {V : List Mod} {p : List UInt8} {v : Ver3} (h : bestA V p = some v) : bestS V p = some (verV v) := by unfold bestS; rw [h]; rfl
theorem ver_no {V : List Mod} {p : List UInt8} (h : bestA V p = none) : bestS V p = none := by unfold bestS; rw [h]; rfl
theorem updA_no {f : List UInt8 → Option Ver3} {m : Mod} (h : f m.1 = none) : updA f m = true := by unfold updA; rw [h]
theorem updA_some {f : List UInt8 → Option Ver3} {m : Mod} {v : Ver3} (h : f m.1 = some v) : updA f m = decide (0 < vcmpV m.2 v) := by unfold updA; rw [h]
theorem verC {W : World} {g : Nat} {t : TypeId} {v0 v1 v2 : Value} (h : Blk W g t #[v0, v1, v2]) : W.cell? ⟨g, 0, none⟩ = some v0 ∧ W.cell? ⟨g, 1, none⟩ = some v1 ∧ W.cell? ⟨g, 2, none⟩ = some v2 := ⟨h.cell 0, h.cell 1, h.cell 2⟩
structure RelM (w : World) (r : RelA) : Prop where
 ok : RelOk w r
 m : okMod r.m
 l : ∀ x ∈ r.l, okMod x
 n : r.l.length ≤ 1000
set_option maxRecDepth 100000 in
set_option maxHeartbeats 8000000 in
theorem outdatedC_any {cap : Nat} (hsort : SortsI cap) (y0 : ManW) (A : Option Addr) (c : Nat) (L : List RelA) (w : World) (h0 : ManS w y0) (hA : Sl w w.heap.size 6 encR A L) (hok : ∀ r ∈ L, RelM w r) (h0m : ∀ x ∈ y0.2.2.2, okMod x) (hl : L.length ≤ 100) (hcap : (outP y0.1.1 y0.2.2.2 (L.map RelA.rel)).length ≤ cap) :
  Calls Tryz.prog 50 #[.agg #[.string ⟨y0.1.1.toArray⟩, .int .i64 y0.1.2.1, .int .i64 y0.1.2.2.1, .int .i64 y0.1.2.2.2, .slice y0.2.1 y0.2.2.2.length y0.2.2.1], .slice A L.length c] w (RetI w (outR y0.1.1 y0.2.2.2 (L.map RelA.rel))) := by
 obtain ⟨rm, A0, c0, l0⟩ := y0
 simp only at hcap h0m ⊢
 have HA := Lib.hid hA
 have HOK := Lib.hid hok
 have H0 := Lib.hid h0
 have H0M := Lib.hid h0m
 have HCap := Lib.hid hcap
 have hl0 : l0.length ≤ 1000 := h0.n
 have hmm := @run_makeMap Tryz.prog
 have HVm := Lib.hid (show (L.map RelA.rel).map (·.1) = L.map RelA.m from by rw [List.map_map]; rfl)
 obtain ⟨RR, hRR⟩ : ∃ RR, RR = outR rm.1 l0 (L.map RelA.rel) := ⟨_, rfl⟩
 have HRR := Lib.hid hRR
 rw [← hRR]
 have HB0 := Lib.hid (show Below w.heap.size w ((w.alloc (.cells #[.string ⟨rm.1.toArray⟩, .int .i64 rm.2.1, .int .i64 rm.2.2.1, .int .i64 rm.2.2.2, .slice A0 l0.length c0] 29)).alloc (.map #[] 0)) from ((Below.refl _ _).alloc (Nat.le_refl _) _).alloc (by simp) _)
 have Q0 := Lib.hid ((Blk.new w 29 #[.string ⟨rm.1.toArray⟩, .int .i64 rm.2.1, .int .i64 rm.2.2.1, .int .i64 rm.2.2.2, .slice A0 l0.length c0]).keep ((Below.refl _ _).alloc (Nat.le_refl _) (.map #[] 0)))
 have hm0 : OMap KS ((w.alloc (.cells #[.string ⟨rm.1.toArray⟩, .int .i64 rm.2.1, .int .i64 rm.2.2.1, .int .i64 rm.2.2.2, .slice A0 l0.length c0] 29)).alloc (.map #[] 0)) (w.alloc (.cells #[.string ⟨rm.1.toArray⟩, .int .i64 rm.2.1, .int .i64 rm.2.2.1, .int .i64 rm.2.2.2, .slice A0 l0.length c0] 29)).heap.size 0 (bestS ((L.map RelA.m).take 0)) := (OMap.made KS _).congr fun a _ => rfl
 rw [World.size_alloc] at hm0
 have HM0 := Lib.hid hm0
 clear hA hok h0 h0m hcap hRR hm0
 go_enter Tryz.func50, Tryz.ntmps50
 go_wp2
 go_loopw [24] (fun i wr => ∃ k n : Nat, k ≤ L.length ∧ n ≤ k ∧ i = .int .i64 (k : Nat) ∧ Hid (OMap KS wr (w.heap.size + 1) n (bestS ((L.map RelA.m).take k))) ∧ Hid (Below w.heap.size w wr) ∧ Hid (Blk wr w.heap.size 29 #[.string ⟨rm.1.toArray⟩, .int .i64 rm.2.1, .int .i64 rm.2.2.1, .int .i64 rm.2.2.2, .slice A0 l0.length c0])) (fun i _ => L.length - (intOf i).toNat)
 case atStart => exact ⟨0, 0, Nat.zero_le _, Nat.le_refl _, rfl, HM0, HB0, Q0⟩
 case round =>
  obtain ⟨wo, hwo⟩ : ∃ wo, wo = wr := ⟨_, rfl⟩
  subst hwo
  obtain ⟨k, n, hk, hnk, rfl, HM, HB, HQ⟩ := hrel
  have hmz : w.heap.size + 1 < wo.heap.size := HM.out.lt
  by_cases hlt : k < L.length
  ·have hlt' : (k : Int) < (L.length : Int) := by omega
   obtain ⟨b, off, hA1, hbB, g0, g1, g2, g3, g4, g5⟩ := ((HA.out.below HB.out).more HB.out.size).rel hlt
   have HK := Lib.hid (HOK.out _ (List.getElem_mem hlt)).m
   have hkV : k < (L.map RelA.m).length := by simpa using hlt
   have HPut := Lib.hid (fun h => bestS_put hkV h)
   have HSame := Lib.hid (fun h => bestS_same hkV h)
   rw [show (L.map RelA.m)[k] = L[k].m by simp] at HPut HSame
   generalize L[k] = r at g0 g1 g2 g3 g4 g5 HK HPut HSame
   have HA1 := Lib.hid hA1
   subst hA1
   have HWr := Lib.hid (show Below wo.heap.size wo ((wo.alloc (.cells #[.string ⟨r.m.1.toArray⟩, .int .i64 r.m.2.1, .int .i64 r.m.2.2.1, .int .i64 r.m.2.2.2, .slice r.A r.l.length r.c, .slice r.A' r.s.length r.c'] 62)).alloc (.cells #[.string ⟨r.m.1.toArray⟩, .int .i64 r.m.2.1, .int .i64 r.m.2.2.1, .int .i64 r.m.2.2.2] 26)) from ((Below.refl _ _).alloc (Nat.le_refl _) _).alloc (by simp) _)
   have vm0 := Blk.new (wo.alloc (.cells #[.string ⟨r.m.1.toArray⟩, .int .i64 r.m.2.1, .int .i64 r.m.2.2.1, .int .i64 r.m.2.2.2, .slice r.A r.l.length r.c, .slice r.A' r.s.length r.c'] 62)) 26 #[.string ⟨r.m.1.toArray⟩, .int .i64 r.m.2.1, .int .i64 r.m.2.2.1, .int .i64 r.m.2.2.2]
   rw [World.size_alloc] at vm0
   have VM := Lib.hid vm0
   have VR := relC (Blk.new wo 62 #[.string ⟨r.m.1.toArray⟩, .int .i64 r.m.2.1, .int .i64 r.m.2.2.1, .int .i64 r.m.2.2.2, .slice r.A r.l.length r.c, .slice r.A' r.s.length r.c'])
   obtain ⟨r0, r1, r2, r3, r4, r5⟩ := VR
   have HM2 := Lib.hid (HM.out.below HWr.out)
   have HQ2 := Lib.hid (HQ.out.keep HWr.out)
   have HB2 := Lib.hid (HB.out.trans (HWr.out.mono HB.out.size))
   clear vm0 hkV
   go_upto_region 6 with fail
   generalize (wo.alloc (.cells #[.string ⟨r.m.1.toArray⟩, .int .i64 r.m.2.1, .int .i64 r.m.2.2.1, .int .i64 r.m.2.2.2, .slice r.A r.l.length r.c, .slice r.A' r.s.length r.c'] 62)).alloc (.cells #[.string ⟨r.m.1.toArray⟩, .int .i64 r.m.2.1, .int .i64 r.m.2.2.1, .int .i64 r.m.2.2.2] 26) = w2 at HM2 HQ2 HB2 VM HWr ⊢
   have hlook := HM2.out.look_ok Tryz.underlying143 (zeroVer w2) r.m.1 HK.out.1
   obtain ⟨u0, u1, u2, u3⟩ := modC (m := r.m) VM.out
   clear r0 r1 r2 r3 r4 r5 g0 g1 g2 g3 g4 g5
   cases hb : bestA ((L.map RelA.m).take k) r.m.1 with
   | none =>
     rw [ver_no hb] at hlook
     have hlook' : (Instr.lookup 143 (.map (some (w.heap.size + 1))) (.string ⟨r.m.1.toArray⟩) true).run Tryz.prog w2 = .ok (.tuple #[.agg #[.int .i64 0, .int .i64 0, .int .i64 0], .bool false]) w2 := hlook
     have HU := Lib.hid (HPut.out (updA_no hb))
     have HW3 := Lib.hid (show Below w2.heap.size w2 (w2.alloc (.cells #[.int .i64 0, .int .i64 0, .int .i64 0] 24)) from (Below.refl _ _).alloc (Nat.le_refl _) _)
     clear hlook hb HPut HSame
     go_upto_region 7 with fail
     clear hlook' u0 u1 u2 u3
     generalize w2.alloc (.cells #[.int .i64 0, .int .i64 0, .int .i64 0] 24) = w3 at HW3 ⊢
     have HM3 := Lib.hid (HM2.out.below HW3.out)
     have HB3 := Lib.hid (HB2.out.trans (HW3.out.mono HB2.out.size))
     have HQ3 := Lib.hid (HQ2.out.keep HW3.out)
     obtain ⟨u0, u1, u2, u3⟩ := modC (m := r.m) (VM.out.keep HW3.out)
     obtain ⟨w4, hput, hm4, hg4⟩ := HM3.out.put Tryz.underlying143 (by unfold maxLen; omega) r.m.1 HK.out.1 (verV r.m.2)
     rw [HU.out] at hm4
     have hput' : (Instr.mapUpdate 143 (.map (some (w.heap.size + 1))) (.string ⟨r.m.1.toArray⟩) (.agg #[.int .i64 r.m.2.1, .int .i64 r.m.2.2.1, .int .i64 r.m.2.2.2])).run Tryz.prog w3 = _ := hput
     have HM4 := Lib.hid hm4
     have HB4 := Lib.hid (HB3.out.grown hg4 HB3.out.size (fun k e => by cases e; omega))
     have HQ4 := Lib.hid (show Blk w4 w.heap.size 29 #[.string ⟨rm.1.toArray⟩, .int .i64 rm.2.1, .int .i64 rm.2.2.1, .int .i64 rm.2.2.2, .slice A0 l0.length c0] from (hg4.block w.heap.size HQ3.out.lt (fun e => by injection e with e; omega)).trans HQ3.out)
     clear hput hm4 hg4
     go_wp2
     go_roundw
     case rel => exact ⟨k + 1, n + 1, by omega, by omega, by go_num, HM4, HB4, HQ4⟩
     case measure => simp [intOf]; omega
   | some v =>
     rw [ver_lk hb] at hlook
     have hlook' : (Instr.lookup 143 (.map (some (w.heap.size + 1))) (.string ⟨r.m.1.toArray⟩) true).run Tryz.prog w2 = .ok (.tuple #[.agg #[.int .i64 v.1, .int .i64 v.2.1, .int .i64 v.2.2], .bool true]) w2 := hlook
     have HUd := Lib.hid (updA_some hb)
     have HW3 := Lib.hid (show Below w2.heap.size w2 (w2.alloc (.cells #[.int .i64 v.1, .int .i64 v.2.1, .int .i64 v.2.2] 24)) from (Below.refl _ _).alloc (Nat.le_refl _) _)
     have T3 := Lib.hid (Blk.new w2 24 #[.int .i64 v.1, .int .i64 v.2.1, .int .i64 v.2.2])
     clear hlook hb
     go_upto_region 7 with fail
     clear hlook' u0 u1 u2 u3
     generalize w2.alloc (.cells #[.int .i64 v.1, .int .i64 v.2.1, .int .i64 v.2.2] 24) = w3 at HW3 T3 ⊢
     have HM3 := Lib.hid (HM2.out.below HW3.out)
     have HB3 := Lib.hid (HB2.out.trans (HW3.out.mono HB2.out.size))
     have HQ3 := Lib.hid (HQ2.out.keep HW3.out)
     obtain ⟨u0, u1, u2, u3⟩ := modC (m := r.m) (VM.out.keep HW3.out)
     obtain ⟨t0, t1, t2⟩ := verC T3.out
     have cC := Lib.hid (show Calls Tryz.prog 87 #[.agg #[.int .i64 r.m.2.1, .int .i64 r.m.2.2.1, .int .i64 r.m.2.2.2], .agg #[.int .i64 v.1, .int .i64 v.2.1, .int .i64 v.2.2]] w3 (fun e w' => e = .returned (.int .i64 (vcmpV r.m.2 v)) ∧ Below w3.heap.size w3 w') from (Compare_any _ _ _ _ _ _ w3).mono fun e w' h => ⟨h.1, h.2.toBelow⟩)
     generalize vcmpV r.m.2 v = cv at cC HUd
     go_wp2_with fail
     refine cC.out.mono ?_
     rintro e w5 ⟨rfl, hb5⟩
     have HM5 := Lib.hid (HM3.out.below hb5)
     have HB5 := Lib.hid (HB3.out.trans (hb5.mono HB3.out.size))
     have HQ5 := Lib.hid (HQ3.out.keep hb5)
     have VM5 := (VM.out.keep HW3.out).keep hb5
     clear hb5 cC u0 u1 u2 u3 t0 t1 t2
     obtain ⟨u0, u1, u2, u3⟩ := modC (m := r.m) VM5
     by_cases hc : 0 < cv
     ·have HU := Lib.hid (HPut.out (by rw [HUd.out]; exact decide_eq_true hc))
      obtain ⟨w4, hput, hm4, hg4⟩ := HM5.out.put Tryz.underlying143 (by unfold maxLen; omega) r.m.1 HK.out.1 (verV r.m.2)
      rw [HU.out] at hm4
      have hput' : (Instr.mapUpdate 143 (.map (some (w.heap.size + 1))) (.string ⟨r.m.1.toArray⟩) (.agg #[.int .i64 r.m.2.1, .int .i64 r.m.2.2.1, .int .i64 r.m.2.2.2])).run Tryz.prog w5 = _ := hput
      have HM4 := Lib.hid hm4
      have HB4 := Lib.hid (HB5.out.grown hg4 HB5.out.size (fun k e => by cases e; omega))
      have HQ4 := Lib.hid (show Blk w4 w.heap.size 29 #[.string ⟨rm.1.toArray⟩, .int .i64 rm.2.1, .int .i64 rm.2.2.1, .int .i64 rm.2.2.2, .slice A0 l0.length c0] from (hg4.block w.heap.size HQ5.out.lt (fun e => by injection e with e; omega)).trans HQ5.out)
      clear hput hm4 hg4 HPut HSame HUd
      go_wp2
      go_roundw
      case rel => exact ⟨k + 1, n + 1, by omega, by omega, by go_num, HM4, HB4, HQ4⟩
      case measure => simp [intOf]; omega
     ·have HU := Lib.hid (HSame.out (by rw [HUd.out]; exact decide_eq_false hc))
      have HM6 := Lib.hid (show OMap KS w5 (w.heap.size + 1) n (bestS ((L.map RelA.m).take (k + 1))) from by rw [HU.out]; exact HM5.out)
      clear HPut HSame HUd
      go_wp2
      go_roundw
      case rel => exact ⟨k + 1, n, by omega, by omega, by go_num, HM6, HB5, HQ5⟩
      case measure => simp [intOf]; omega
  ·obtain rfl : k = L.length := by omega
   have HM1 := HM
   rw [show (L.map RelA.m).take L.length = L.map RelA.m from List.take_of_length_le (by simp)] at HM1
   have hnL : n ≤ 100 := by omega
   have cK0 := cloneM_acc A0 c0 l0 wo ((H0.out.below HB.out).hA) (by omega)
   have cK := Lib.hid cK0
   obtain ⟨y0, y1, y2, y3, y4⟩ := manC (m := rm) (A := A0) (n := l0.length) (c := c0) HQ.out
   clear HM cK0
   go_wp2_with fail
   refine cK.out.mono ?_
   rintro e wb ⟨B1, d1, rfl, hacc, hfr, hbb⟩
   have HAccb := Lib.hid (hacc.less (show w.heap.size ≤ wo.heap.size from HB.out.size))
   have HFrb := Lib.hid (fun g hg => Nat.le_trans (show w.heap.size + 2 ≤ wo.heap.size by omega) (hfr g hg))
   have HBb := Lib.hid (HB.out.trans (hbb.mono HB.out.size))
   have HMb := Lib.hid (HM1.out.below hbb)
   have HQb := Lib.hid (HQ.out.keep hbb)
   clear hacc hfr hbb cK y0 y1 y2 y3 y4 HM1 HB HQ
   have hSt := bestA_spec
   have HBest := Lib.hid (fun (r : RelA) (hr : r ∈ L) => best_in (L := L.map RelA.rel) (r := r.rel) (List.mem_map.2 ⟨r, hr, rfl⟩))
   have HStale := Lib.hid (fun (r : RelA) (hr : r ∈ L) (v : Ver3) hb => stale_best (L := L.map RelA.rel) (r := r.rel) (v := v) (List.mem_map.2 ⟨r, hr, rfl⟩) hb)
   have HMet := Lib.hid (fun m => met_best (L.map RelA.rel) m)
   rw [HVm.out] at HBest HStale HMet
   clear hSt
   generalize L.map RelA.m = VV at HMb HBest HStale HMet
   go_wp2
   go_loopw [11, 12, 58] (fun u v i wr => ∃ (k : Nat) (X : List Iss) (Av : Option Addr) (cv : Nat) (q : List Mod) (Bv : Option Addr) (dv : Nat), k ≤ L.length ∧ i = .int .i64 (k : Nat) ∧ u = .slice Av X.length cv ∧ v = .slice Bv q.length dv ∧ X.length ≤ k ∧ q.length ≤ 1000 + k * 1000 ∧ Hid (X = (L.take k).filterMap fun r => staleR (L.map RelA.rel) r.rel) ∧ Hid (q = reqsP l0 ((L.take k).map RelA.rel)) ∧ Hid (wr.ownsRow (w.heap.size + 2) 67 2 (.slice Av X.length cv) X.length (X.flatMap encI)) ∧ Hid (Acc wr w.heap.size 26 4 (.slice Bv q.length dv) q.length (q.flatMap encM)) ∧ Hid (∀ g, (Value.slice Bv q.length dv).ownBlock = some g → w.heap.size + 2 ≤ g) ∧ Hid (Apart (.slice Av X.length cv) (.slice Bv q.length dv)) ∧ Hid (OMap KS wr (w.heap.size + 1) n (bestS VV)) ∧ Hid (Blk wr w.heap.size 29 #[.string ⟨rm.1.toArray⟩, .int .i64 rm.2.1, .int .i64 rm.2.2.1, .int .i64 rm.2.2.2, .slice A0 l0.length c0]) ∧ Hid (Below w.heap.size w wr)) (fun _ _ i _ => L.length - (intOf i).toNat)
   case atStart => exact ⟨0, [], none, 0, l0, B1, d1, Nat.zero_le _, rfl, rfl, rfl, Nat.le_refl _, by omega, Lib.hid rfl, Lib.hid (by simp [reqsP]), Lib.hid (World.ownsRow_nil _ _ _ _), HAccb, HFrb, Lib.hid (fun g hg => by simp [Value.ownBlock] at hg), HMb, HQb, HBb⟩
   case round =>
    clear HAccb HFrb HMb HQb HBb
    obtain ⟨wo, hwo⟩ : ∃ wo, wo = wr := ⟨_, rfl⟩
    subst hwo
    obtain ⟨k, X, Av, cv, q, Bv, dv, hk, rfl, rfl, rfl, hXk, hqk, HX, HQe, HO, HAc, HFr, HAp, HM, HQ, HB⟩ := hrel
    have hmz : w.heap.size + 1 < wo.heap.size := HM.out.lt
    by_cases hlt : k < L.length
    ·have hlt' : (k : Int) < (L.length : Int) := by omega
     obtain ⟨b, off, hA1, hbB, g0, g1, g2, g3, g4, g5⟩ := ((HA.out.below HB.out).more HB.out.size).rel hlt
     have hrm := HOK.out _ (List.getElem_mem hlt)
     have HK := Lib.hid hrm.m
     have hrn := hrm.n
     have HRL := Lib.hid (fun (W : World) (hW : Below w.heap.size w W) => (hrm.ok.below hW).hA)
     have HT := Lib.hid (fm_take (fun r : RelA => staleR (L.map RelA.rel) r.rel) hlt)
     rw [← HX.out] at HT
     have HTq := Lib.hid (show reqsP l0 ((L.take (k + 1)).map RelA.rel) = q ++ L[k].l from by
      rw [HQe.out]
      simp only [reqsP]
      rw [List.take_succ_eq_append_getElem hlt, List.map_append, List.flatMap_append, ← List.append_assoc]
      simp [RelA.rel])
     obtain ⟨v, hbv⟩ := HBest.out _ (List.getElem_mem hlt)
     have hsv := HStale.out _ (List.getElem_mem hlt) v hbv
     have HSv := Lib.hid hsv
     have hbv' : bestA VV L[k].m.1 = some v := hbv
     clear hrm hsv hbv
     generalize L[k] = r at g0 g1 g2 g3 g4 g5 HK hrn HRL HT HTq HSv hbv'
     have HD := Lib.hid (staleR_eq (L.map RelA.rel) r.rel)
     generalize staleR (L.map RelA.rel) r.rel = dr at HT HD
     have HD2 := Lib.hid (show dr = if decide (r.m.2 = v) = true then none else some (r.m.1, 20) from by
      rw [HD.out, HSv.out]
      by_cases h : r.m.2 = v
      ·have h' : r.rel.1.2 = v := h
       simp [h, h']
      ·have h' : ¬ r.rel.1.2 = v := h
       simp [h, h']
       rfl)
     have HA1 := Lib.hid hA1
     subst hA1
     have HW1 := Lib.hid (show Below wo.heap.size wo (wo.alloc (.cells #[.string ⟨r.m.1.toArray⟩, .int .i64 r.m.2.1, .int .i64 r.m.2.2.1, .int .i64 r.m.2.2.2, .slice r.A r.l.length r.c, .slice r.A' r.s.length r.c'] 62)) from (Below.refl _ _).alloc (Nat.le_refl _) _)
     have VR1 := Lib.hid (Blk.new wo 62 #[.string ⟨r.m.1.toArray⟩, .int .i64 r.m.2.1, .int .i64 r.m.2.2.1, .int .i64 r.m.2.2.2, .slice r.A r.l.length r.c, .slice r.A' r.s.length r.c'])
     have hown_lt := fun g (hg : (Value.slice Bv q.length dv).ownBlock = some g) => Acc.own_lt HAc.out hg
     have HBl := Lib.hid hown_lt
     have hxl := fun g (hg : (Value.slice Av X.length cv).ownBlock = some g) => (HO.out.lt g hg).2
     have HXl := Lib.hid hxl
     clear HD HSv hown_lt hxl
     go_upto_region 15 with fail
     generalize wo.alloc (.cells #[.string ⟨r.m.1.toArray⟩, .int .i64 r.m.2.1, .int .i64 r.m.2.2.1, .int .i64 r.m.2.2.2, .slice r.A r.l.length r.c, .slice r.A' r.s.length r.c'] 62) = w1 at HW1 VR1 ⊢
     have HB1 := Lib.hid (HB.out.trans (HW1.out.mono HB.out.size))
     have HO1 := Lib.hid (own_below2 HO.out HW1.out)
     have HAc1 := HAc.out.kept (grown_of_below HW1.out none) (by rcases hv : (Value.slice Bv q.length dv).ownBlock with _ | _ <;> simp)
     have HM1 := Lib.hid (HM.out.below HW1.out)
     have HQ1 := Lib.hid (HQ.out.keep HW1.out)
     obtain ⟨r0, r1, r2, r3, r4, r5⟩ := relC VR1.out
     have hs1 := (HRL.out w1 HB1.out).src encM_len
     have HAc1' := Lib.hid HAc1
     have hz01 : wo.heap.size < w1.heap.size := VR1.out.lt
     clear g0 g1 g2 g3 g4 g5 HAc1
     go_upto_region 17 with (at_builtin; refine wpList_app _ rfl (.tmp 62) (.tmp 65) 27 rfl w.heap.size 26 4 40 elMod (.slice Bv q.length dv) q.length _ rfl HAc1'.out r.A r.l.length r.c (r.l.flatMap encM) rfl hs1 (encM_one _) (by simp only [maxLen]; omega) (by omega) HB1.out.size ?_; intro v2 w2 hacc2 hg2 hb2 _ ho2; obtain ⟨B2, d2, rfl⟩ := hacc2.shape; have HAc2 := Lib.hid hacc2; have HG2 := Lib.hid hg2; have HB2' := Lib.hid hb2; have HF2 := Lib.hid ho2; clear hacc2 hg2 hb2 ho2 hs1 r0 r1 r2 r3 r4 r5; (have VR2 := Lib.hid (show Blk w2 wo.heap.size 62 #[.string ⟨r.m.1.toArray⟩, .int .i64 r.m.2.1, .int .i64 r.m.2.2.1, .int .i64 r.m.2.2.2, .slice r.A r.l.length r.c, .slice r.A' r.s.length r.c'] from (HG2.out.block wo.heap.size hz01 (fun e => Nat.lt_irrefl _ (HBl.out _ e.symm))).trans VR1.out)); obtain ⟨r0, r1, r2, r3, r4, r5⟩ := relC VR2.out)
     have HW3 := Lib.hid (show Below w2.heap.size w2 (w2.alloc (.cells #[.string ⟨r.m.1.toArray⟩, .int .i64 r.m.2.1, .int .i64 r.m.2.2.1, .int .i64 r.m.2.2.2] 26)) from (Below.refl _ _).alloc (Nat.le_refl _) _)
     have VM3 := Lib.hid (Blk.new w2 26 #[.string ⟨r.m.1.toArray⟩, .int .i64 r.m.2.1, .int .i64 r.m.2.2.1, .int .i64 r.m.2.2.2])
     have hwm1 : w.heap.size + 2 ≤ wo.heap.size := by omega
     have HB2 := Lib.hid (HB1.out.trans HB2'.out)
     have HO2 := Lib.hid (HO1.out.kept HG2.out HAp.out.ne)
     have HM2 := Lib.hid (HM1.out.kept HG2.out (fun e => by have := HFr.out _ e.symm; omega))
     have HQ2 := Lib.hid (show Blk w2 w.heap.size 29 #[.string ⟨rm.1.toArray⟩, .int .i64 rm.2.1, .int .i64 rm.2.2.1, .int .i64 rm.2.2.2, .slice A0 l0.length c0] from (HG2.out.block w.heap.size HQ1.out.lt (fun e => by have := HFr.out _ e.symm; omega)).trans HQ1.out)
     have HAp2 := Lib.hid (HAp.out.newR (B := w1.heap.size) HF2.out (fun g hg => Nat.lt_trans (HXl.out g hg) hz01))
     have HFr2 := Lib.hid (show ∀ g, (Value.slice B2 (q.length + r.l.length) d2).ownBlock = some g → w.heap.size + 2 ≤ g from fun g hg => by
      rcases HF2.out with h | ⟨g', h, hg'⟩
      ·exact HFr.out g (h ▸ hg)
      ·rw [h] at hg
       injection hg with hg
       omega)
     have HB3 := Lib.hid (HB2.out.trans (HW3.out.mono HB2.out.size))
     have HO3 := Lib.hid (own_below2 HO2.out HW3.out)
     have HAc3 := Lib.hid (HAc2.out.kept (grown_of_below HW3.out none) (by rcases hv : (Value.slice B2 (q.length + r.l.length) d2).ownBlock with _ | _ <;> simp))
     have HM3 := Lib.hid (HM2.out.below HW3.out)
     have HQ3 := Lib.hid (HQ2.out.keep HW3.out)
     have hzw3 : w.heap.size + 2 ≤ (w2.alloc (.cells #[.string ⟨r.m.1.toArray⟩, .int .i64 r.m.2.1, .int .i64 r.m.2.2.1, .int .i64 r.m.2.2.2] 26)).heap.size := by have h1 := HB2'.out; have h2 := VR2.out.lt; simp; omega
     generalize w2.alloc (.cells #[.string ⟨r.m.1.toArray⟩, .int .i64 r.m.2.1, .int .i64 r.m.2.2.1, .int .i64 r.m.2.2.2] 26) = w3 at HW3 VM3 HB3 HO3 HAc3 HM3 HQ3 hzw3 ⊢
     have hlook := HM3.out.look Tryz.underlying143 (zeroVer w3) r.m.1 HK.out.1
     rw [ver_lk hbv'] at hlook
     have hlook' : (Instr.lookup 143 (.map (some (w.heap.size + 1))) (.string ⟨r.m.1.toArray⟩) false).run Tryz.prog w3 = .ok (.agg #[.int .i64 v.1, .int .i64 v.2.1, .int .i64 v.2.2]) w3 := hlook
     have heqv := fun W => eq_ver r.m.2.1 r.m.2.2.1 r.m.2.2.2 v.1 v.2.1 v.2.2 W
     obtain ⟨u0, u1, u2, u3⟩ := modC (m := r.m) VM3.out
     obtain ⟨dd, hdd⟩ : ∃ dd, dd = decide (r.m.2 = v) := ⟨_, rfl⟩
     rw [show decide ((r.m.2.1, r.m.2.2.1, r.m.2.2.2) = (v.1, v.2.1, v.2.2)) = dd from hdd.symm] at heqv
     rw [← hdd] at HD2
     clear hlook hdd r0 r1 r2 r3 r4 r5
     cases dd
     ·have HS := Lib.hid (show ((L.take (k + 1)).filterMap fun r => staleR (L.map RelA.rel) r.rel) = X ++ [(r.m.1, 20)] from by rw [HT.out, HD2.out]; rfl)
      clear HT HD2
      have HWA := Lib.hid (show Below w3.heap.size w3 (w3.alloc (.cells #[.string ⟨r.m.1.toArray⟩, .int .i64 20] 67)) from (Below.refl _ _).alloc (Nat.le_refl _) _)
      have HOA := Lib.hid (own_below2 HO3.out HWA.out)
      have b0 : X.length + 1 ≤ maxLen := by unfold maxLen; omega
      have b1 : (X.length + 1) * 24 ≤ 140737488355328 := by omega
      have hbz : w.heap.size + 2 ≤ (w3.alloc (.cells #[.string ⟨r.m.1.toArray⟩, .int .i64 20] 67)).heap.size := by simp; omega
      go_wp2_with (at_builtin; refine wpList_own2 rfl (.tmp 77) (.tmp 81) rfl (w.heap.size + 2) elIssV (.slice Av X.length cv) X.length _ rfl HOA.out _ 1 _ _ rfl (Src.lit _ 2 _ _ 1 rfl) (by decide) (by simp [Value.oneCell']) b0 b1 hbz ?_; intro A8 c8 w7 hown7 hgrow7 hb7 hfr7; have HOWN := Lib.hid hown7; have HG7 := Lib.hid hgrow7; have HB7 := Lib.hid hb7; have HFR := Lib.hid hfr7; clear hown7 hgrow7 hb7 hfr7)
      have HBn := Lib.hid ((HB3.out.trans (HWA.out.mono HB3.out.size)).trans (HB7.out.mono (by omega)))
      have HAc4 := HAc3.out.kept (grown_of_below HWA.out none) (by rcases hv : (Value.slice B2 (q.length + r.l.length) d2).ownBlock with _ | _ <;> simp)
      have HAc7 := Lib.hid (HAc4.kept HG7.out HAp2.out.ne')
      have HM7 := Lib.hid ((HM3.out.alloc _).kept HG7.out (fun e => own_ne_mapV HOA.out (HM3.out.alloc _) e.symm))
      have HQ7 := Lib.hid (show Blk w7 w.heap.size 29 #[.string ⟨rm.1.toArray⟩, .int .i64 rm.2.1, .int .i64 rm.2.2.1, .int .i64 rm.2.2.2, .slice A0 l0.length c0] from (HG7.out.block w.heap.size (by simp; omega) (fun h => own_apart HOA.out (by omega) h.symm)).trans (HQ3.out.keep HWA.out))
      have HAp7 := Lib.hid (HAp2.out.newL HFR.out (fun g hg => Acc.own_lt HAc4 hg))
      clear HAc4 u0 u1 u2 u3
      go_wp2
      go_roundw
      case rel => exact ⟨k + 1, X ++ [(r.m.1, 20)], A8, c8, q ++ r.l, B2, d2, by omega, by go_num, by rw [List.length_append]; rfl, by rw [List.length_append], by rw [List.length_append]; simp only [List.length_singleton]; omega, by rw [List.length_append]; omega, Lib.hid HS.out.symm, Lib.hid HTq.out.symm, Lib.hid (by rw [List.length_append, flatI_snoc]; exact HOWN.out), Lib.hid (by rw [List.length_append, List.flatMap_append]; exact HAc7.out), Lib.hid (by rw [List.length_append]; exact HFr2.out), Lib.hid (by rw [List.length_append, List.length_append]; exact HAp7.out), HM7, HQ7, HBn⟩
      case measure => first | (simp [intOf]; done) | (simp [intOf]; omega)
     ·have HS := Lib.hid (show ((L.take (k + 1)).filterMap fun r => staleR (L.map RelA.rel) r.rel) = X from by rw [HT.out, HD2.out]; simp)
      clear HT HD2
      go_wp2
      go_roundw
      case rel => exact ⟨k + 1, X, Av, cv, q ++ r.l, B2, d2, by omega, by go_num, rfl, by rw [List.length_append], by omega, by rw [List.length_append]; omega, Lib.hid HS.out.symm, Lib.hid HTq.out.symm, HO3, Lib.hid (by rw [List.length_append, List.flatMap_append]; exact HAc3.out), Lib.hid (by rw [List.length_append]; exact HFr2.out), Lib.hid (by rw [List.length_append]; exact HAp2.out), HM3, HQ3, HB3⟩
      case measure => first | (simp [intOf]; done) | (simp [intOf]; omega)
    ·obtain rfl : k = L.length := by omega
     have HXL := Lib.hid (show X = L.filterMap fun r => staleR (L.map RelA.rel) r.rel from by rw [HX.out, List.take_length])
     have HqL := Lib.hid (show q = reqsP l0 (L.map RelA.rel) from by rw [HQe.out, List.take_length])
     have HqM := Lib.hid (show ∀ x ∈ q, okMod x from fun x hx => by
      rw [HqL.out] at hx
      rcases List.mem_append.1 hx with h | h
      ·exact H0M.out x h
      ·obtain ⟨r, hr, hx⟩ := List.mem_flatMap.1 h
       obtain ⟨r', hr', rfl⟩ := List.mem_map.1 hr
       exact (HOK.out r' hr').l x hx)
     have hqb : q.length ≤ 101000 := by omega
     obtain ⟨wz, hwz⟩ : ∃ wz, wz = wo := ⟨_, rfl⟩
     have hzz : w.heap.size + 1 < wz.heap.size := by rw [hwz]; exact hmz
     have M1s := Lib.hid (HM.out.alloc (.map #[] 0))
     have MAs0 : OMap KS (wo.alloc (.map #[] 0)) wo.heap.size 0 (seenP []) := (OMap.made KS wo).congr fun a _ => by simp [seenP]
     have hWs : Below wo.heap.size wo (wo.alloc (.map #[] 0)) := (Below.refl _ _).alloc (Nat.le_refl _) _
     have HOs := Lib.hid (own_below2 HO.out hWs)
     have HAcs := Lib.hid (HAc.out.kept (grown_of_below hWs none) (by rcases hv : (Value.slice Bv q.length dv).ownBlock with _ | _ <;> simp))
     have HQs := Lib.hid (HQ.out.keep hWs)
     have HBs := Lib.hid (HB.out.trans (hWs.mono HB.out.size))
     have HgA := Lib.hid (show ∀ g, (Value.slice Bv q.length dv).ownBlock = some g → g < wz.heap.size from fun g hg => by rw [hwz]; exact Acc.own_lt HAc.out hg)
     have MAs := Lib.hid (show OMap KS (wo.alloc (.map #[] 0)) wz.heap.size 0 (seenP []) from by rw [hwz]; exact MAs0)
     have hAps := HAp
     obtain ⟨ST, hST⟩ : ∃ ST, ST = L.filterMap fun r => staleR (L.map RelA.rel) r.rel := ⟨_, rfl⟩
     rw [← hST] at HXL
     have HOut := Lib.hid (show outP rm.1 l0 (L.map RelA.rel) = ST ++ (q.foldl (absStep (L.map RelA.rel) rm.1) []).map fun p => (p, 13) from by
      unfold outP absP
      rw [← HqL.out, List.filterMap_map, hST]
      rfl)
     have hX100 : X.length ≤ 100 := by omega
     clear MAs0 hWs hST HM HO HAc HQ HB HAp HX HQe hXk
     rw [← hwz] at M1s HOs HAcs HQs HBs MAs ⊢
     clear hwz
     go_wp2
     go_loopw [11, 87] (fun u i wr => ∃ (k n2 : Nat) (X : List Iss) (S : List (List UInt8)) (Av : Option Addr) (cv : Nat), k ≤ q.length ∧ n2 ≤ k ∧ i = .int .i64 (k : Nat) ∧ u = .slice Av X.length cv ∧ X.length ≤ 100 + k ∧ Hid (S = (q.take k).foldl (absStep (L.map RelA.rel) rm.1) []) ∧ Hid (X = ST ++ S.map fun p => (p, 13)) ∧ Hid (wr.ownsRow (w.heap.size + 2) 67 2 (.slice Av X.length cv) X.length (X.flatMap encI)) ∧ Hid (Acc wr w.heap.size 26 4 (.slice Bv q.length dv) q.length (q.flatMap encM)) ∧ Hid (Apart (.slice Av X.length cv) (.slice Bv q.length dv)) ∧ Hid (OMap KS wr (w.heap.size + 1) n (bestS VV)) ∧ Hid (OMap KS wr wz.heap.size n2 (seenP S)) ∧ Hid (Blk wr w.heap.size 29 #[.string ⟨rm.1.toArray⟩, .int .i64 rm.2.1, .int .i64 rm.2.2.1, .int .i64 rm.2.2.2, .slice A0 l0.length c0]) ∧ Hid (Below w.heap.size w wr)) (fun _ i _ => q.length - (intOf i).toNat)
     case atStart => exact ⟨0, 0, X, [], Av, cv, Nat.zero_le _, Nat.le_refl _, rfl, rfl, by omega, Lib.hid rfl, Lib.hid (by rw [HXL.out]; simp), HOs, HAcs, hAps, M1s, MAs, HQs, HBs⟩
     case round =>
      clear HXL HOs HAcs hAps M1s MAs HQs HBs hX100
      obtain ⟨wo, hwo⟩ : ∃ wo, wo = wr := ⟨_, rfl⟩
      subst hwo
      obtain ⟨k, n2, X, S, Av, cv, hk, hn2, rfl, rfl, hXk, HS, HX, HO, HAc, HAp, HM, HMA, HQ, HB⟩ := hrel
      have hmz2 : wz.heap.size < wo.heap.size := HMA.out.lt
      by_cases hlt : k < q.length
      ·have hlt' : (k : Int) < (q.length : Int) := by omega
       obtain ⟨b2, off2, hB1, hbB2, g0, g1, g2, g3⟩ := (Acc.slAny HAc.out encM_len (by decide)).mod hlt
       have HK := Lib.hid (HqM.out _ (List.getElem_mem hlt))
       have HSt := Lib.hid (show (q.take (k + 1)).foldl (absStep (L.map RelA.rel) rm.1) [] = absStep (L.map RelA.rel) rm.1 S q[k] from by
        rw [List.take_succ_eq_append_getElem hlt, List.foldl_append, HS.out]
        rfl)
       generalize q[k] = m at g0 g1 g2 g3 HK HSt
       have HAb := Lib.hid (show absStep (L.map RelA.rel) rm.1 S m = if m.1 ≠ rm.1 ∧ m.1 ∉ S ∧ updA (bestA VV) m = true then S ++ [m.1] else S from by
        unfold absStep
        rw [HMet.out m]
        cases updA (bestA VV) m <;> simp)
       have HB1 := Lib.hid hB1
       have HW1 := Lib.hid (show Below wo.heap.size wo (wo.alloc (.cells #[.string ⟨m.1.toArray⟩, .int .i64 m.2.1, .int .i64 m.2.2.1, .int .i64 m.2.2.2] 26)) from (Below.refl _ _).alloc (Nat.le_refl _) _)
       have VM1 := Lib.hid (Blk.new wo 26 #[.string ⟨m.1.toArray⟩, .int .i64 m.2.1, .int .i64 m.2.2.1, .int .i64 m.2.2.2])
       have HM1 := Lib.hid (HM.out.below HW1.out)
       have HMA1 := Lib.hid (HMA.out.below HW1.out)
       have HBx := Lib.hid (HB.out.trans (HW1.out.mono HB.out.size))
       subst hB1
       go_upto_region 24 with fail
       generalize wo.alloc (.cells #[.string ⟨m.1.toArray⟩, .int .i64 m.2.1, .int .i64 m.2.2.1, .int .i64 m.2.2.2] 26) = w1 at HW1 VM1 HM1 HMA1 HBx ⊢
       have hlook := HM1.out.look_ok Tryz.underlying143 (zeroVer w1) m.1 HK.out.1
       obtain ⟨u0, u1, u2, u3⟩ := modC (m := m) VM1.out
       clear g0 g1 g2 g3
       cases hb : bestA VV m.1 with
       | none =>
         rw [ver_no hb] at hlook
         have hlook' : (Instr.lookup 143 (.map (some (w.heap.size + 1))) (.string ⟨m.1.toArray⟩) true).run Tryz.prog w1 = .ok (.tuple #[.agg #[.int .i64 0, .int .i64 0, .int .i64 0], .bool false]) w1 := hlook
         have HUd := Lib.hid (updA_no hb)
         have HW2 := Lib.hid (show Below w1.heap.size w1 (w1.alloc (.cells #[.int .i64 0, .int .i64 0, .int .i64 0] 24)) from (Below.refl _ _).alloc (Nat.le_refl _) _)
         clear hlook hb
         go_upto_region 25 with fail
         clear hlook' u0 u1 u2 u3
         generalize w1.alloc (.cells #[.int .i64 0, .int .i64 0, .int .i64 0] 24) = w2 at HW2 ⊢
         have HM2 := Lib.hid (HM1.out.below HW2.out)
         have HMA2 := Lib.hid (HMA1.out.below HW2.out)
         have HX2 := Lib.hid (HW1.out.trans (HW2.out.mono HW1.out.size))
         have HB2 := Lib.hid (HB.out.trans (HX2.out.mono HB.out.size))
         have HQ2 := Lib.hid (HQ.out.keep HX2.out)
         have HO2 := Lib.hid (own_below2 HO.out HX2.out)
         have HAc2 := Lib.hid (HAc.out.kept (grown_of_below HX2.out none) (by rcases hv : (Value.slice (some ⟨b2, off2, none⟩) q.length dv).ownBlock with _ | _ <;> simp))
         have VM2 := Lib.hid (VM1.out.keep HW2.out)
         have hlk2 := HMA2.out.look Tryz.underlying145 (zeroBool w2) m.1 HK.out.1
         rw [seenP_get] at hlk2
         obtain ⟨u0, u1, u2, u3⟩ := modC (m := m) VM2.out
         obtain ⟨y0, y1, y2, y3, y4⟩ := manC (m := rm) (A := A0) (n := l0.length) (c := c0) HQ2.out
         by_cases hp : m.1 = rm.1
         ·have HN := Lib.hid (show (q.take (k + 1)).foldl (absStep (L.map RelA.rel) rm.1) [] = S from by rw [HSt.out, HAb.out, if_neg (fun h => h.1 hp)])
          have hpb : (m.1 == rm.1) = true := by simpa using hp
          have hpn : (m.1 != rm.1) = false := by rw [bne, hpb]; rfl
          clear hp hlk2 HSt HAb HUd
          go_wp2
          go_roundw
          case rel => exact ⟨k + 1, n2, X, S, Av, cv, by omega, by omega, by go_num, rfl, by omega, Lib.hid HN.out.symm, HX, HO2, HAc2, HAp, HM2, HMA2, HQ2, HB2⟩
          case measure => first | (simp [intOf]; done) | (simp [intOf]; omega)
         by_cases hs : m.1 ∈ S
         ·have HN := Lib.hid (show (q.take (k + 1)).foldl (absStep (L.map RelA.rel) rm.1) [] = S from by rw [HSt.out, HAb.out, if_neg (fun h => h.2.1 hs)])
          have hpb : (m.1 == rm.1) = false := beq_eq_false_iff_ne.2 hp
          have hpn : (m.1 != rm.1) = true := by rw [bne, hpb]; rfl
          rw [decide_eq_true hs] at hlk2
          have hlk2' : (Instr.lookup 145 (.map (some wz.heap.size)) (.string ⟨m.1.toArray⟩) false).run Tryz.prog w2 = .ok (.bool true) w2 := hlk2
          clear hp hs hlk2 HSt HAb HUd
          go_wp2
          go_roundw
          case rel => exact ⟨k + 1, n2, X, S, Av, cv, by omega, by omega, by go_num, rfl, by omega, Lib.hid HN.out.symm, HX, HO2, HAc2, HAp, HM2, HMA2, HQ2, HB2⟩
          case measure => first | (simp [intOf]; done) | (simp [intOf]; omega)
         have HN := Lib.hid (show (q.take (k + 1)).foldl (absStep (L.map RelA.rel) rm.1) [] = S ++ [m.1] from by rw [HSt.out, HAb.out, if_pos ⟨hp, hs, HUd.out⟩])
         have hpb : (m.1 == rm.1) = false := beq_eq_false_iff_ne.2 hp
         have hpn : (m.1 != rm.1) = true := by rw [bne, hpb]; rfl
         rw [decide_eq_false hs] at hlk2
         have hlk2' : (Instr.lookup 145 (.map (some wz.heap.size)) (.string ⟨m.1.toArray⟩) false).run Tryz.prog w2 = .ok (.bool false) w2 := hlk2
         clear hp hs hlk2 HSt HAb
         obtain ⟨w4, hput, hm4, hg4⟩ := HMA2.out.put Tryz.underlying145 (by unfold maxLen; omega) m.1 HK.out.1 (.bool true)
         rw [seenP_put] at hm4
         have hput' : (Instr.mapUpdate 145 (.map (some wz.heap.size)) (.string ⟨m.1.toArray⟩) (.bool true)).run Tryz.prog w2 = _ := hput
         have hgz : some (w.heap.size + 1) ≠ some wz.heap.size := by intro e; injection e with e; omega
         have HMA4 := Lib.hid hm4
         have HM4 := Lib.hid (HM2.out.kept hg4 hgz)
         have HO4 := Lib.hid (HO2.out.kept hg4 (.inr (own_ne_mapV HO2.out HMA2.out)))
         have HAc4 := Lib.hid (HAc2.out.kept hg4 (by
          cases hv : (Value.slice (some ⟨b2, off2, none⟩) q.length dv).ownBlock with
          | none => exact .inl rfl
          | some g => exact .inr fun e => by injection e with e; have := HgA.out g hv; omega))
         have HQ4 := Lib.hid (show Blk w4 w.heap.size 29 #[.string ⟨rm.1.toArray⟩, .int .i64 rm.2.1, .int .i64 rm.2.2.1, .int .i64 rm.2.2.2, .slice A0 l0.length c0] from (hg4.block w.heap.size HQ2.out.lt (fun e => by injection e with e; omega)).trans HQ2.out)
         have HB4 := Lib.hid (HB2.out.grown hg4 HB2.out.size (fun k e => by cases e; omega))
         have VM4 := Lib.hid (show Blk w4 wo.heap.size 26 #[.string ⟨m.1.toArray⟩, .int .i64 m.2.1, .int .i64 m.2.2.1, .int .i64 m.2.2.2] from (hg4.block wo.heap.size VM2.out.lt (fun e => by injection e with e; omega)).trans VM2.out)
         have hz4 : w.heap.size + 2 ≤ w4.heap.size := by have := HMA4.out.lt; omega
         clear hput hm4 hg4
         go_upto_region 27 with fail
         clear hput' u0 u1 u2 u3
         obtain ⟨u0, u1, u2, u3⟩ := modC (m := m) VM4.out
         have HWA := Lib.hid (show Below w4.heap.size w4 (w4.alloc (.cells #[.string ⟨m.1.toArray⟩, .int .i64 13] 67)) from (Below.refl _ _).alloc (Nat.le_refl _) _)
         have HOA := Lib.hid (own_below2 HO4.out HWA.out)
         have b0 : X.length + 1 ≤ maxLen := by unfold maxLen; omega
         have b1 : (X.length + 1) * 24 ≤ 140737488355328 := by omega
         have hbz : w.heap.size + 2 ≤ (w4.alloc (.cells #[.string ⟨m.1.toArray⟩, .int .i64 13] 67)).heap.size := by simp; omega
         go_wp2_with (at_builtin; refine wpList_own2 rfl (.tmp 125) (.tmp 129) rfl (w.heap.size + 2) elIssV (.slice Av X.length cv) X.length _ rfl HOA.out _ 1 _ _ rfl (Src.lit _ 2 _ _ 1 rfl) (by decide) (by simp [Value.oneCell']) b0 b1 hbz ?_; intro A8 c8 w7 hown7 hgrow7 hb7 hfr7; have HOWN := Lib.hid hown7; have HG7 := Lib.hid hgrow7; have HB7 := Lib.hid hb7; have HFR := Lib.hid hfr7; clear hown7 hgrow7 hb7 hfr7)
         have HBn := Lib.hid ((HB4.out.trans (HWA.out.mono HB4.out.size)).trans (HB7.out.mono (by omega)))
         have HAc6 := HAc4.out.kept (grown_of_below HWA.out none) (by rcases hv : (Value.slice (some ⟨b2, off2, none⟩) q.length dv).ownBlock with _ | _ <;> simp)
         have HAc7 := Lib.hid (HAc6.kept HG7.out HAp.out.ne')
         have HM7 := Lib.hid ((HM4.out.alloc _).kept HG7.out (fun e => own_ne_mapV HOA.out (HM4.out.alloc _) e.symm))
         have HMA7 := Lib.hid ((HMA4.out.alloc _).kept HG7.out (fun e => own_ne_mapV HOA.out (HMA4.out.alloc _) e.symm))
         have HQ7 := Lib.hid (show Blk w7 w.heap.size 29 #[.string ⟨rm.1.toArray⟩, .int .i64 rm.2.1, .int .i64 rm.2.2.1, .int .i64 rm.2.2.2, .slice A0 l0.length c0] from (HG7.out.block w.heap.size (by simp; omega) (fun h => own_apart HOA.out (by omega) h.symm)).trans (HQ4.out.keep HWA.out))
         have HAp7 := Lib.hid (HAp.out.newL HFR.out (fun g hg => Acc.own_lt HAc6 hg))
         clear HAc6 u0 u1 u2 u3
         go_wp2
         go_roundw
         case rel => exact ⟨k + 1, n2 + 1, X ++ [(m.1, 13)], S ++ [m.1], A8, c8, by omega, by omega, by go_num, by rw [List.length_append]; rfl, by rw [List.length_append]; simp only [List.length_singleton]; omega, Lib.hid HN.out.symm, Lib.hid (by rw [HX.out, List.map_append, List.append_assoc]; rfl), Lib.hid (by rw [List.length_append, flatI_snoc]; exact HOWN.out), HAc7, Lib.hid (by rw [List.length_append]; exact HAp7.out), HM7, HMA7, HQ7, HBn⟩
         case measure => first | (simp [intOf]; done) | (simp [intOf]; omega)
       | some v =>
         rw [ver_lk hb] at hlook
         have hlook' : (Instr.lookup 143 (.map (some (w.heap.size + 1))) (.string ⟨m.1.toArray⟩) true).run Tryz.prog w1 = .ok (.tuple #[.agg #[.int .i64 v.1, .int .i64 v.2.1, .int .i64 v.2.2], .bool true]) w1 := hlook
         have HUd := Lib.hid (updA_some hb)
         have HW2 := Lib.hid (show Below w1.heap.size w1 (w1.alloc (.cells #[.int .i64 v.1, .int .i64 v.2.1, .int .i64 v.2.2] 24)) from (Below.refl _ _).alloc (Nat.le_refl _) _)
         have T2 := Lib.hid (Blk.new w1 24 #[.int .i64 v.1, .int .i64 v.2.1, .int .i64 v.2.2])
         clear hlook hb
         go_upto_region 25 with fail
         clear hlook' u0 u1 u2 u3
         generalize w1.alloc (.cells #[.int .i64 v.1, .int .i64 v.2.1, .int .i64 v.2.2] 24) = w2 at HW2 T2 ⊢
         have HM2 := Lib.hid (HM1.out.below HW2.out)
         have HMA2 := Lib.hid (HMA1.out.below HW2.out)
         have HX2 := Lib.hid (HW1.out.trans (HW2.out.mono HW1.out.size))
         have HB2 := Lib.hid (HB.out.trans (HX2.out.mono HB.out.size))
         have HQ2 := Lib.hid (HQ.out.keep HX2.out)
         have HO2 := Lib.hid (own_below2 HO.out HX2.out)
         have HAc2 := Lib.hid (HAc.out.kept (grown_of_below HX2.out none) (by rcases hv : (Value.slice (some ⟨b2, off2, none⟩) q.length dv).ownBlock with _ | _ <;> simp))
         have VM2 := Lib.hid (VM1.out.keep HW2.out)
         have hlk2 := HMA2.out.look Tryz.underlying145 (zeroBool w2) m.1 HK.out.1
         rw [seenP_get] at hlk2
         obtain ⟨u0, u1, u2, u3⟩ := modC (m := m) VM2.out
         obtain ⟨y0, y1, y2, y3, y4⟩ := manC (m := rm) (A := A0) (n := l0.length) (c := c0) HQ2.out
         by_cases hp : m.1 = rm.1
         ·have HN := Lib.hid (show (q.take (k + 1)).foldl (absStep (L.map RelA.rel) rm.1) [] = S from by rw [HSt.out, HAb.out, if_neg (fun h => h.1 hp)])
          have hpb : (m.1 == rm.1) = true := by simpa using hp
          have hpn : (m.1 != rm.1) = false := by rw [bne, hpb]; rfl
          clear hp hlk2 HSt HAb HUd
          go_wp2
          go_roundw
          case rel => exact ⟨k + 1, n2, X, S, Av, cv, by omega, by omega, by go_num, rfl, by omega, Lib.hid HN.out.symm, HX, HO2, HAc2, HAp, HM2, HMA2, HQ2, HB2⟩
          case measure => first | (simp [intOf]; done) | (simp [intOf]; omega)
         by_cases hs : m.1 ∈ S
         ·have HN := Lib.hid (show (q.take (k + 1)).foldl (absStep (L.map RelA.rel) rm.1) [] = S from by rw [HSt.out, HAb.out, if_neg (fun h => h.2.1 hs)])
          have hpb : (m.1 == rm.1) = false := beq_eq_false_iff_ne.2 hp
          have hpn : (m.1 != rm.1) = true := by rw [bne, hpb]; rfl
          rw [decide_eq_true hs] at hlk2
          have hlk2' : (Instr.lookup 145 (.map (some wz.heap.size)) (.string ⟨m.1.toArray⟩) false).run Tryz.prog w2 = .ok (.bool true) w2 := hlk2
          clear hp hs hlk2 HSt HAb HUd
          go_wp2
          go_roundw
          case rel => exact ⟨k + 1, n2, X, S, Av, cv, by omega, by omega, by go_num, rfl, by omega, Lib.hid HN.out.symm, HX, HO2, HAc2, HAp, HM2, HMA2, HQ2, HB2⟩
          case measure => first | (simp [intOf]; done) | (simp [intOf]; omega)
         obtain ⟨t0, t1, t2⟩ := verC T2.out
         have cC := Lib.hid (show Calls Tryz.prog 87 #[.agg #[.int .i64 m.2.1, .int .i64 m.2.2.1, .int .i64 m.2.2.2], .agg #[.int .i64 v.1, .int .i64 v.2.1, .int .i64 v.2.2]] w2 (fun e w' => e = .returned (.int .i64 (vcmpV m.2 v)) ∧ Below w2.heap.size w2 w') from (Compare_any _ _ _ _ _ _ w2).mono fun e w' h => ⟨h.1, h.2.toBelow⟩)
         have HNy := Lib.hid (fun (h : 0 < vcmpV m.2 v) => show (q.take (k + 1)).foldl (absStep (L.map RelA.rel) rm.1) [] = S ++ [m.1] from by rw [HSt.out, HAb.out, if_pos ⟨hp, hs, by rw [HUd.out]; exact decide_eq_true h⟩])
         have HNn := Lib.hid (fun (h : ¬ 0 < vcmpV m.2 v) => show (q.take (k + 1)).foldl (absStep (L.map RelA.rel) rm.1) [] = S from by rw [HSt.out, HAb.out, if_neg (fun hh => by have h2 := hh.2.2; rw [HUd.out] at h2; exact h (of_decide_eq_true h2))])
         generalize vcmpV m.2 v = cv2 at cC HNy HNn
         have hpb : (m.1 == rm.1) = false := beq_eq_false_iff_ne.2 hp
         have hpn : (m.1 != rm.1) = true := by rw [bne, hpb]; rfl
         rw [decide_eq_false hs] at hlk2
         have hlk2' : (Instr.lookup 145 (.map (some wz.heap.size)) (.string ⟨m.1.toArray⟩) false).run Tryz.prog w2 = .ok (.bool false) w2 := hlk2
         clear hp hs hlk2 HSt HAb
         clear HUd
         go_wp2_with fail
         refine cC.out.mono ?_
         rintro e w5 ⟨rfl, hb5⟩
         have HM5 := Lib.hid (HM2.out.below hb5)
         have HMA5 := Lib.hid (HMA2.out.below hb5)
         have HB5 := Lib.hid (HB2.out.trans (hb5.mono HB2.out.size))
         have HQ5 := Lib.hid (HQ2.out.keep hb5)
         have HO5 := Lib.hid (own_below2 HO2.out hb5)
         have HAc5 := Lib.hid (HAc2.out.kept (grown_of_below hb5 none) (by rcases hv : (Value.slice (some ⟨b2, off2, none⟩) q.length dv).ownBlock with _ | _ <;> simp))
         have VM5 := Lib.hid (VM2.out.keep hb5)
         clear hb5 cC u0 u1 u2 u3 t0 t1 t2 y0 y1 y2 y3 y4 hlk2'
         obtain ⟨u0, u1, u2, u3⟩ := modC (m := m) VM5.out
         by_cases hc : 0 < cv2
         ·have HN := Lib.hid (HNy.out hc)
          clear HNy HNn
          obtain ⟨w4, hput, hm4, hg4⟩ := HMA5.out.put Tryz.underlying145 (by unfold maxLen; omega) m.1 HK.out.1 (.bool true)
          rw [seenP_put] at hm4
          have hput' : (Instr.mapUpdate 145 (.map (some wz.heap.size)) (.string ⟨m.1.toArray⟩) (.bool true)).run Tryz.prog w5 = _ := hput
          have hgz : some (w.heap.size + 1) ≠ some wz.heap.size := by intro e; injection e with e; omega
          have HMA4 := Lib.hid hm4
          have HM4 := Lib.hid (HM5.out.kept hg4 hgz)
          have HO4 := Lib.hid (HO5.out.kept hg4 (.inr (own_ne_mapV HO5.out HMA5.out)))
          have HAc4 := Lib.hid (HAc5.out.kept hg4 (by
           cases hv : (Value.slice (some ⟨b2, off2, none⟩) q.length dv).ownBlock with
           | none => exact .inl rfl
           | some g => exact .inr fun e => by injection e with e; have := HgA.out g hv; omega))
          have HQ4 := Lib.hid (show Blk w4 w.heap.size 29 #[.string ⟨rm.1.toArray⟩, .int .i64 rm.2.1, .int .i64 rm.2.2.1, .int .i64 rm.2.2.2, .slice A0 l0.length c0] from (hg4.block w.heap.size HQ5.out.lt (fun e => by injection e with e; omega)).trans HQ5.out)
          have HB4 := Lib.hid (HB5.out.grown hg4 HB5.out.size (fun k e => by cases e; omega))
          have VM4 := Lib.hid (show Blk w4 wo.heap.size 26 #[.string ⟨m.1.toArray⟩, .int .i64 m.2.1, .int .i64 m.2.2.1, .int .i64 m.2.2.2] from (hg4.block wo.heap.size VM5.out.lt (fun e => by injection e with e; omega)).trans VM5.out)
          have hz4 : w.heap.size + 2 ≤ w4.heap.size := by have := HMA4.out.lt; omega
          clear hput hm4 hg4
          go_upto_region 27 with fail
          clear hput' u0 u1 u2 u3
          obtain ⟨u0, u1, u2, u3⟩ := modC (m := m) VM4.out
          have HWA := Lib.hid (show Below w4.heap.size w4 (w4.alloc (.cells #[.string ⟨m.1.toArray⟩, .int .i64 13] 67)) from (Below.refl _ _).alloc (Nat.le_refl _) _)
          have HOA := Lib.hid (own_below2 HO4.out HWA.out)
          have b0 : X.length + 1 ≤ maxLen := by unfold maxLen; omega
          have b1 : (X.length + 1) * 24 ≤ 140737488355328 := by omega
          have hbz : w.heap.size + 2 ≤ (w4.alloc (.cells #[.string ⟨m.1.toArray⟩, .int .i64 13] 67)).heap.size := by simp; omega
          go_wp2_with (at_builtin; refine wpList_own2 rfl (.tmp 125) (.tmp 129) rfl (w.heap.size + 2) elIssV (.slice Av X.length cv) X.length _ rfl HOA.out _ 1 _ _ rfl (Src.lit _ 2 _ _ 1 rfl) (by decide) (by simp [Value.oneCell']) b0 b1 hbz ?_; intro A8 c8 w7 hown7 hgrow7 hb7 hfr7; have HOWN := Lib.hid hown7; have HG7 := Lib.hid hgrow7; have HB7 := Lib.hid hb7; have HFR := Lib.hid hfr7; clear hown7 hgrow7 hb7 hfr7)
          have HBn := Lib.hid ((HB4.out.trans (HWA.out.mono HB4.out.size)).trans (HB7.out.mono (by omega)))
          have HAc6 := HAc4.out.kept (grown_of_below HWA.out none) (by rcases hv : (Value.slice (some ⟨b2, off2, none⟩) q.length dv).ownBlock with _ | _ <;> simp)
          have HAc7 := Lib.hid (HAc6.kept HG7.out HAp.out.ne')
          have HM7 := Lib.hid ((HM4.out.alloc _).kept HG7.out (fun e => own_ne_mapV HOA.out (HM4.out.alloc _) e.symm))
          have HMA7 := Lib.hid ((HMA4.out.alloc _).kept HG7.out (fun e => own_ne_mapV HOA.out (HMA4.out.alloc _) e.symm))
          have HQ7 := Lib.hid (show Blk w7 w.heap.size 29 #[.string ⟨rm.1.toArray⟩, .int .i64 rm.2.1, .int .i64 rm.2.2.1, .int .i64 rm.2.2.2, .slice A0 l0.length c0] from (HG7.out.block w.heap.size (by simp; omega) (fun h => own_apart HOA.out (by omega) h.symm)).trans (HQ4.out.keep HWA.out))
          have HAp7 := Lib.hid (HAp.out.newL HFR.out (fun g hg => Acc.own_lt HAc6 hg))
          clear HAc6 u0 u1 u2 u3
          go_wp2
          go_roundw
          case rel => exact ⟨k + 1, n2 + 1, X ++ [(m.1, 13)], S ++ [m.1], A8, c8, by omega, by omega, by go_num, by rw [List.length_append]; rfl, by rw [List.length_append]; simp only [List.length_singleton]; omega, Lib.hid HN.out.symm, Lib.hid (by rw [HX.out, List.map_append, List.append_assoc]; rfl), Lib.hid (by rw [List.length_append, flatI_snoc]; exact HOWN.out), HAc7, Lib.hid (by rw [List.length_append]; exact HAp7.out), HM7, HMA7, HQ7, HBn⟩
          case measure => first | (simp [intOf]; done) | (simp [intOf]; omega)
         ·have HN := Lib.hid (HNn.out (by omega))
          clear HNy HNn
          go_wp2
          go_roundw
          case rel => exact ⟨k + 1, n2, X, S, Av, cv, by omega, by omega, by go_num, rfl, by omega, Lib.hid HN.out.symm, HX, HO5, HAc5, HAp, HM5, HMA5, HQ5, HB5⟩
          case measure => first | (simp [intOf]; done) | (simp [intOf]; omega)
      ·obtain rfl : k = q.length := by omega
       have HXo := Lib.hid (show X = outP rm.1 l0 (L.map RelA.rel) from by rw [HX.out, HOut.out, HS.out, List.take_length])
       have cS := Lib.hid (hsort 96 (enters_of Tryz.func96 (by kernel_rfl) rfl) (fun x y W => icmpO_any x y W) (.slice Av X.length cv) X wo (w.heap.size + 2) (NewRowK.of_owns HO.out) (by rw [HXo.out]; exact HCap.out))
       go_wp2_with fail
       refine cS.out.mono ?_
       rintro e w9 ⟨rfl, ⟨A9, c9, l9, hv9, hc9, hp9, hs9, hsl9⟩, hb9⟩
       have HB9 := Lib.hid (HB.out.trans (hb9.mono (by omega)))
       have HV9 := Lib.hid hv9
       have HP9 := Lib.hid hp9
       have HS9 := Lib.hid hs9
       have HSl9 := Lib.hid hsl9
       clear hb9 hv9 hp9 hs9 hsl9 cS
       go_wp2
       go_ret
       have hrr : l9 = RR := by rw [HRR.out]; exact out_eq (by rw [← HXo.out]; exact HP9.out) HS9.out
       have hlen : X.length = RR.length := by rw [← hrr]; exact HP9.out.length_eq.symm
       have hv := HV9.out
       injection hv with e1 e2 e3
       subst e1 e3
       exact ⟨Av, cv, by rw [← hlen]; rfl, by rw [← hlen]; exact hc9, by rw [← hrr]; exact HSl9.out, HB9.out⟩
end Go.Proofs.YthcgihgajdjfoaaGreatDoor
