/- What the claim needs of: IJ IE. -/
import Derived.Test.YthcgihgajdjfoaaGreatDoorV21
import Derived.Test.YthcgihgajdjfoaaGreatDoorV27
import Derived.Test.YthcgihgajdjfoaaGreatDoorV31
namespace Go.Proofs.YthcgihgajdjfoaaGreatDoor
open Go.RowKit Go.Sort
theorem own_ne_mapV {α : Type} {P : Program} {k : TypeId} {T : KeyT P k α} {w : World} {base e size n b q : Nat} {v : Value} {xs : List Value} {f : α → Option Value} (h : w.ownsRow base e size v n xs) (hm : OMap T w b q f) : v.ownBlock ≠ some b := by
 obtain ⟨D, ⟨es, clock, hb, _⟩, _⟩ := hm
 rcases h.2 with ⟨rfl, _⟩ | ⟨g, cap, cur, rfl, _, hh, _⟩
 ·simp [Value.ownBlock]
 ·intro e1
  obtain rfl : g = b := by simpa [Value.ownBlock] using e1
  rw [hh] at hb
  cases hb
def lookS (E : List EntV) (m : Mod) : Option Value := (lookE E m).map fun s => .string ⟨s.toArray⟩
theorem lookE_snoc (P : List EntV) (e : EntV) (m : Mod) (h : e.1 ∉ P.map (·.1)) : lookE (P ++ [e]) m = if m = e.1 then some e.2 else lookE P m := by
 unfold lookE
 rw [List.find?_append]
 by_cases hm : m = e.1
 ·subst hm
  have h0 : P.find? (fun x => decide (x.1 = e.1)) = none := by
   rw [List.find?_eq_none]
   intro x hx hc
   exact h (List.mem_map.2 ⟨x, hx, by simpa using hc⟩)
  rw [h0]
  simp
 ·have hm' : ¬ e.1 = m := fun q => hm q.symm
  rw [if_neg hm]
  simp [hm']
theorem lookS_put {E : List EntV} (hn : (E.map (·.1)).Nodup) {k : Nat} (hk : k < E.length) : (fun x => if x = E[k].1 then some (.string ⟨E[k].2.toArray⟩) else lookS (E.take k) x) = lookS (E.take (k + 1)) := by
 have h : E[k].1 ∉ (E.take k).map (·.1) := by
  intro h
  have h2 : (E.map (·.1)).Nodup := hn
  rw [← List.take_append_drop k E, List.map_append, List.nodup_append] at h2
  refine h2.2.2 _ h _ (List.mem_map.2 ⟨E[k], ?_, rfl⟩) rfl
  rw [List.drop_eq_getElem_cons hk]
  exact List.mem_cons_self ..
 funext x
 unfold lookS
 rw [List.take_succ_eq_append_getElem hk, lookE_snoc _ _ _ h]
 by_cases hx : x = E[k].1 <;> simp [hx]
theorem fm_take {α : Type} (f : α → Option Iss) {l : List α} {k : Nat} (hk : k < l.length) : (l.take (k + 1)).filterMap f = (l.take k).filterMap f ++ (f l[k]).toList := by
 rw [List.take_succ_eq_append_getElem hk, List.filterMap_append]
 cases h : f l[k] <;> simp [h]
theorem flatI_snoc (X : List Iss) (p : List UInt8) (e : Int) : (X ++ [(p, e)]).flatMap encI = X.flatMap encI ++ [.string ⟨p.toArray⟩, .int .i64 e] := by
 rw [List.flatMap_append, List.flatMap_singleton]
 rfl
theorem zeroStr (w : World) : (zeroValue 9).run Tryz.prog w = .ok (.string ⟨#[]⟩) w := Tryz.zeroValue9 w
def RetD (w : World) (l : List Iss) (e : Ending) (w' : World) : Prop :=
 ∃ v, e = .returned v ∧ NewRowK w' w.heap.size 67 2 encI v l ∧ Below w.heap.size w w'
set_option maxRecDepth 100000 in
set_option maxHeartbeats 8000000 in
theorem differences_any (A : Option Addr) (c : Nat) (L : List RelA) (A2 : Option Addr) (c2 : Nat) (E : List EntV) (w : World) (hA : Sl w w.heap.size 6 encR A L) (hE : Sl w w.heap.size 5 encE A2 E) (hok : ∀ r ∈ L, RelOk w r ∧ okMod r.m) (hem : ∀ e ∈ E, okMod e.1) (hn : (E.map (·.1)).Nodup) (hl : L.length ≤ 100000) (hel : E.length ≤ 100000) (hG : Glob w) :
  Calls Tryz.prog 43 #[.slice A L.length c, .slice A2 E.length c2] w (RetD w (diffP (L.map RelA.rel) E)) := by
 have HA := Lib.hid hA
 have HE := Lib.hid hE
 have HOK := Lib.hid hok
 have HEM := Lib.hid hem
 have HND := Lib.hid hn
 have HG := Lib.hid hG
 have hmm := @run_makeMap Tryz.prog
 have HFin := Lib.hid (show diffP (L.map RelA.rel) E = (L.filterMap fun r => diffR E r.rel) ++ E.filterMap (diffE (L.map RelA.rel)) from by unfold diffP; rw [List.filterMap_map]; rfl)
 have HMm := Lib.hid (show (L.map RelA.rel).map (·.1) = L.map RelA.m from by rw [List.map_map]; rfl)
 generalize diffP (L.map RelA.rel) E = RR at HFin
 have hm0 : OMap KM (w.alloc (.map #[] 0)) w.heap.size 0 (lookS []) := (OMap.made KM w).congr fun a _ => rfl
 have HM0 := Lib.hid hm0
 have HB0 := Lib.hid (show Below w.heap.size w (w.alloc (.map #[] 0)) from (Below.refl _ _).alloc (Nat.le_refl _) _)
 clear hA hE hok hem hn hG hm0
 go_enter Tryz.func43, Tryz.ntmps43
 go_wp2
 go_loopw [22] (fun i wr => ∃ k : Nat, k ≤ E.length ∧ i = .int .i64 (k : Nat) ∧ Hid (OMap KM wr w.heap.size k (lookS (E.take k))) ∧ Hid (Below w.heap.size w wr)) (fun i _ => E.length - (intOf i).toNat)
 case atStart => exact ⟨0, Nat.zero_le _, rfl, HM0, HB0⟩
 case round =>
  obtain ⟨wo, hwo⟩ : ∃ wo, wo = wr := ⟨_, rfl⟩
  subst hwo
  obtain ⟨k, hk, rfl, HM, HB⟩ := hrel
  by_cases hlt : k < E.length
  ·have hlt' : (k : Int) < (E.length : Int) := by omega
   obtain ⟨b, off, hA1, hbB, g0, g1, g2, g3, g4⟩ := ((HE.out.below HB.out).more HB.out.size).ent hlt
   have HK := Lib.hid (HEM.out _ (List.getElem_mem hlt))
   have HP := Lib.hid (lookS_put HND.out hlt)
   generalize E[k] = x at g0 g1 g2 g3 g4 HK HP
   have HA1 := Lib.hid hA1
   subst hA1
   have HW1 := Lib.hid (show Below wo.heap.size wo (wo.alloc (.cells #[.string ⟨x.1.1.toArray⟩, .int .i64 x.1.2.1, .int .i64 x.1.2.2.1, .int .i64 x.1.2.2.2, .string ⟨x.2.toArray⟩] 49)) from (Below.refl _ _).alloc (Nat.le_refl _) _)
   have V1 := Blk.new wo 49 #[.string ⟨x.1.1.toArray⟩, .int .i64 x.1.2.1, .int .i64 x.1.2.2.1, .int .i64 x.1.2.2.2, .string ⟨x.2.toArray⟩]
   obtain ⟨u0, u1, u2, u3, u4⟩ := entC V1
   have HB1 := Lib.hid (HB.out.trans (HW1.out.mono HB.out.size))
   obtain ⟨w3, hput, hm3, hg3⟩ := (HM.out.alloc (.cells #[.string ⟨x.1.1.toArray⟩, .int .i64 x.1.2.1, .int .i64 x.1.2.2.1, .int .i64 x.1.2.2.2, .string ⟨x.2.toArray⟩] 49)).put Tryz.underlying135 (by unfold maxLen; omega) x.1 HK.out (.string ⟨x.2.toArray⟩)
   rw [HP.out] at hm3
   have hput' : (Instr.mapUpdate 135 (.map (some w.heap.size)) (.agg #[.string ⟨x.1.1.toArray⟩, .int .i64 x.1.2.1, .int .i64 x.1.2.2.1, .int .i64 x.1.2.2.2]) (.string ⟨x.2.toArray⟩)).run Tryz.prog _ = _ := hput
   have HM3 := Lib.hid hm3
   have HB3 := Lib.hid (HB1.out.grown hg3 HB1.out.size (by simp))
   clear hput hm3 hg3 V1
   go_wp2
   go_roundw
   case rel => exact ⟨k + 1, by omega, by go_num, HM3, HB3⟩
   case measure => simp [intOf]; omega
  ·obtain rfl : k = E.length := by omega
   have HM1 := HM
   rw [List.take_length] at HM1
   obtain ⟨wa, hwa⟩ : ∃ wa, wa = wo := ⟨_, rfl⟩
   have HBa := HB
   rw [← hwa] at HM1 HBa ⊢
   have hlt2 : w.heap.size < wa.heap.size := HM1.out.lt
   have M1s := Lib.hid (HM1.out.alloc (.map #[] 0))
   have M2s := Lib.hid (show OMap KM (wa.alloc (.map #[] 0)) wa.heap.size 0 (seenM []) from (OMap.made KM wa).congr fun a _ => by simp [seenM])
   have HBs := Lib.hid (HBa.out.alloc HBa.out.size (.map #[] 0))
   clear HM HB hwa HM1
   go_wp2
   go_loopw [8, 35] (fun v i wr => ∃ (k : Nat) (X : List Iss) (Av : Option Addr) (cv : Nat), k ≤ L.length ∧ i = .int .i64 (k : Nat) ∧ v = .slice Av X.length cv ∧ X.length ≤ k ∧ Hid (X = (L.take k).filterMap fun r => diffR E r.rel) ∧ Hid (wr.ownsRow w.heap.size 67 2 (.slice Av X.length cv) X.length (X.flatMap encI)) ∧ Hid (OMap KM wr w.heap.size E.length (lookS E)) ∧ Hid (OMap KM wr wa.heap.size k (seenM ((L.take k).map RelA.m))) ∧ Hid (Below w.heap.size w wr)) (fun _ i _ => L.length - (intOf i).toNat)
   case atStart => exact ⟨0, [], none, 0, Nat.zero_le _, rfl, rfl, Nat.le_refl _, Lib.hid rfl, Lib.hid (World.ownsRow_nil _ _ _ _), M1s, M2s, HBs⟩
   case round =>
    clear M1s M2s HBs
    obtain ⟨wo, hwo⟩ : ∃ wo, wo = wr := ⟨_, rfl⟩
    subst hwo
    obtain ⟨k, X, Av, cv, hk, rfl, rfl, hXk, HX, HO, HM1, HM2, HB⟩ := hrel
    by_cases hlt : k < L.length
    ·have hlt' : (k : Int) < (L.length : Int) := by omega
     obtain ⟨b, off, hA1, hbB, g0, g1, g2, g3, g4, g5⟩ := ((HA.out.below HB.out).more HB.out.size).rel hlt
     have hrk := HOK.out _ (List.getElem_mem hlt)
     have HRO := Lib.hid (fun (W : World) (hW : Below w.heap.size w W) => hrk.1.below hW)
     have HK := Lib.hid hrk.2
     have HT := Lib.hid (fm_take (fun r : RelA => diffR E r.rel) hlt)
     rw [← HX.out] at HT
     have HTm := Lib.hid (show (L.take (k + 1)).map RelA.m = (L.take k).map RelA.m ++ [L[k].m] by rw [List.take_succ_eq_append_getElem hlt, List.map_append]; rfl)
     generalize L[k] = r at g0 g1 g2 g3 g4 g5 HRO HK HT HTm
     have HD := Lib.hid (show diffR E r.rel = match lookE E r.m with
      | none => some (r.m.1, 6)
      | some s => if s = rtext r.rel then none else some (r.m.1, 17) from rfl)
     generalize diffR E r.rel = dr at HT HD
     have HA1 := Lib.hid hA1
     subst hA1
     have HWr := Lib.hid (show Below wo.heap.size wo ((wo.alloc (.cells #[.string ⟨r.m.1.toArray⟩, .int .i64 r.m.2.1, .int .i64 r.m.2.2.1, .int .i64 r.m.2.2.2, .slice r.A r.l.length r.c, .slice r.A' r.s.length r.c'] 62)).alloc (.cells #[.string ⟨r.m.1.toArray⟩, .int .i64 r.m.2.1, .int .i64 r.m.2.2.1, .int .i64 r.m.2.2.2] 26)) from ((Below.refl _ _).alloc (Nat.le_refl _) _).alloc (by simp) _)
     have VR := relC (Blk.new wo 62 #[.string ⟨r.m.1.toArray⟩, .int .i64 r.m.2.1, .int .i64 r.m.2.2.1, .int .i64 r.m.2.2.2, .slice r.A r.l.length r.c, .slice r.A' r.s.length r.c'])
     obtain ⟨r0, r1, r2, r3, r4, r5⟩ := VR
     have VR2 := Lib.hid ((Blk.new wo 62 #[.string ⟨r.m.1.toArray⟩, .int .i64 r.m.2.1, .int .i64 r.m.2.2.1, .int .i64 r.m.2.2.2, .slice r.A r.l.length r.c, .slice r.A' r.s.length r.c']).keep ((Below.refl _ _).alloc (Nat.le_refl _) (.cells #[.string ⟨r.m.1.toArray⟩, .int .i64 r.m.2.1, .int .i64 r.m.2.2.1, .int .i64 r.m.2.2.2] 26)))
     have vm0 := Blk.new (wo.alloc (.cells #[.string ⟨r.m.1.toArray⟩, .int .i64 r.m.2.1, .int .i64 r.m.2.2.1, .int .i64 r.m.2.2.2, .slice r.A r.l.length r.c, .slice r.A' r.s.length r.c'] 62)) 26 #[.string ⟨r.m.1.toArray⟩, .int .i64 r.m.2.1, .int .i64 r.m.2.2.1, .int .i64 r.m.2.2.2]
     rw [World.size_alloc] at vm0
     have VM := Lib.hid vm0
     have hz2 : wo.heap.size + 1 < ((wo.alloc (.cells #[.string ⟨r.m.1.toArray⟩, .int .i64 r.m.2.1, .int .i64 r.m.2.2.1, .int .i64 r.m.2.2.2, .slice r.A r.l.length r.c, .slice r.A' r.s.length r.c'] 62)).alloc (.cells #[.string ⟨r.m.1.toArray⟩, .int .i64 r.m.2.1, .int .i64 r.m.2.2.1, .int .i64 r.m.2.2.2] 26)).heap.size := by simp
     have HB2 := Lib.hid (HB.out.trans (HWr.out.mono HB.out.size))
     have HM12 := Lib.hid (HM1.out.below HWr.out)
     have HM22 := Lib.hid (HM2.out.below HWr.out)
     have HO2 := Lib.hid (own_below2 HO.out HWr.out)
     obtain ⟨u0, u1, u2, u3⟩ := modC (m := r.m) VM.out
     obtain ⟨w3, hput, hm3, hg3⟩ := HM22.out.put Tryz.underlying136 (by unfold maxLen; omega) r.m HK.out (.bool true)
     rw [seenM_put, ← HTm.out] at hm3
     have hput' : (Instr.mapUpdate 136 (.map (some wa.heap.size)) (.agg #[.string ⟨r.m.1.toArray⟩, .int .i64 r.m.2.1, .int .i64 r.m.2.2.1, .int .i64 r.m.2.2.2]) (.bool true)).run Tryz.prog _ = _ := hput
     have hab : w.heap.size ≠ wa.heap.size := by omega
     have HM13 := Lib.hid (HM12.out.kept hg3 (by simpa using hab))
     have HM23 := Lib.hid hm3
     have HB3 := Lib.hid (HB2.out.grown hg3 HB2.out.size (fun k e => by cases e; omega))
     have HO3 := Lib.hid (HO2.out.kept hg3 (.inr (own_ne_mapV HO2.out HM22.out)))
     have hwaz : wa.heap.size < wo.heap.size := HM2.out.lt
     have VR3 := Lib.hid (show Blk w3 wo.heap.size 62 #[.string ⟨r.m.1.toArray⟩, .int .i64 r.m.2.1, .int .i64 r.m.2.2.1, .int .i64 r.m.2.2.2, .slice r.A r.l.length r.c, .slice r.A' r.s.length r.c'] from (hg3.block wo.heap.size (by omega) (fun e => by injection e with e; omega)).trans VR2.out)
     have VM3 := Lib.hid (show Blk w3 (wo.heap.size + 1) 26 #[.string ⟨r.m.1.toArray⟩, .int .i64 r.m.2.1, .int .i64 r.m.2.2.1, .int .i64 r.m.2.2.2] from (hg3.block (wo.heap.size + 1) hz2 (fun e => by injection e with e; omega)).trans VM.out)
     have cR0 := relA_any r w3 (HRO.out w3 HB3.out) (HG.out.keep HB3.out)
     generalize rtext r.rel = rt at cR0 HD
     generalize rerr r.rel = re at cR0
     have cR := Lib.hid cR0
     have VR3c := relC VR3.out
     obtain ⟨s0, s1, s2, s3, s4, s5⟩ := VR3c
     clear cR0 hput hm3 hg3 vm0 VR2 VM HM12 HM22 HO2
     go_wp2_with fail
     refine cR.out.mono ?_
     rintro e w4 ⟨rfl, hb4⟩
     have HB4 := Lib.hid (HB3.out.trans (hb4.mono HB3.out.size))
     have HM14 := Lib.hid (HM13.out.below hb4)
     have HM24 := Lib.hid (HM23.out.below hb4)
     have HO4 := Lib.hid (own_below2 HO3.out hb4)
     have VM4 := VM3.out.keep hb4
     have hlook := HM14.out.look_ok Tryz.underlying135 (zeroStr w4) r.m HK.out
     clear hb4 cR s0 s1 s2 s3 s4 s5 u0 u1 u2 u3 r0 r1 r2 r3 r4 r5 g0 g1 g2 g3 g4 g5 hput'
     obtain ⟨u0, u1, u2, u3⟩ := modC (m := r.m) VM4
     have hXb : X.length ≤ 100000 := by omega
     cases hlk : lookE E r.m with
     | none =>
       rw [show lookS E r.m = none by unfold lookS; rw [hlk]; rfl] at hlook
       have hlook' : (Instr.lookup 135 (.map (some w.heap.size)) (.agg #[.string ⟨r.m.1.toArray⟩, .int .i64 r.m.2.1, .int .i64 r.m.2.2.1, .int .i64 r.m.2.2.2]) true).run Tryz.prog w4 = .ok (.tuple #[.string ⟨#[]⟩, .bool false]) w4 := hlook
       have HS := Lib.hid (show ((L.take (k + 1)).filterMap fun r => diffR E r.rel) = X ++ [(r.m.1, 6)] from by rw [HT.out, HD.out, hlk]; rfl)
       clear hlook hlk HT HD
       have HWA := Lib.hid (show Below w4.heap.size w4 (w4.alloc (.cells #[.string ⟨r.m.1.toArray⟩, .int .i64 6] 67)) from (Below.refl _ _).alloc (Nat.le_refl _) _)
       have HOA := Lib.hid (own_below2 HO4.out HWA.out)
       have b0 : X.length + 1 ≤ maxLen := by unfold maxLen; omega
       have b1 : (X.length + 1) * 24 ≤ 140737488355328 := by omega
       have hbz : w.heap.size ≤ (w4.alloc (.cells #[.string ⟨r.m.1.toArray⟩, .int .i64 6] 67)).heap.size := Nat.le_trans HB4.out.size HWA.out.size
       go_wp2_with (at_builtin; refine wpList_own rfl (.tmp 58) (.tmp 62) rfl w.heap.size elIssV (.slice Av X.length cv) X.length _ rfl HOA.out _ 1 _ _ rfl (Src.lit _ 2 _ _ 1 rfl) (by decide) (by simp [Value.oneCell']) b0 b1 hbz ?_; intro v' w7 hown7 hgrow7 hb7; obtain ⟨A8, c8, rfl⟩ := Acc.shape (.inl hown7); have HOWN := Lib.hid hown7; have HG7 := Lib.hid hgrow7; have HB7 := Lib.hid hb7; clear hown7 hgrow7 hb7)
       have HBn := Lib.hid ((HB4.out.trans (HWA.out.mono HB4.out.size)).trans HB7.out)
       have M17 := Lib.hid ((HM14.out.alloc _).kept HG7.out (fun e => own_ne_mapV HOA.out (HM14.out.alloc _) e.symm))
       have M27 := Lib.hid ((HM24.out.alloc _).kept HG7.out (fun e => own_ne_mapV HOA.out (HM24.out.alloc _) e.symm))
       go_roundw
       case rel => exact ⟨k + 1, X ++ [(r.m.1, 6)], A8, c8, by omega, by go_num, by rw [List.length_append]; rfl, by rw [List.length_append]; simp only [List.length_singleton]; omega, Lib.hid HS.out.symm, Lib.hid (by rw [List.length_append, flatI_snoc]; exact HOWN.out), M17, M27, HBn⟩
       case measure => first | (simp [intOf]; done) | (simp [intOf]; omega)
     | some so =>
       rw [show lookS E r.m = some (.string ⟨so.toArray⟩) by unfold lookS; rw [hlk]; rfl] at hlook
       have hlook' : (Instr.lookup 135 (.map (some w.heap.size)) (.agg #[.string ⟨r.m.1.toArray⟩, .int .i64 r.m.2.1, .int .i64 r.m.2.2.1, .int .i64 r.m.2.2.2]) true).run Tryz.prog w4 = .ok (.tuple #[.string ⟨so.toArray⟩, .bool true]) w4 := hlook
       by_cases hs : so = rt
       ·have HS := Lib.hid (show ((L.take (k + 1)).filterMap fun r => diffR E r.rel) = X from by rw [HT.out, HD.out, hlk]; simp [hs])
        subst hs
        clear hlook hlk HT HD
        go_wp2
        go_roundw
        case rel => exact ⟨k + 1, X, Av, cv, by omega, by go_num, rfl, by omega, Lib.hid HS.out.symm, HO4, HM14, HM24, HB4⟩
        case measure => first | (simp [intOf]; done) | (simp [intOf]; omega)
       ·have HS := Lib.hid (show ((L.take (k + 1)).filterMap fun r => diffR E r.rel) = X ++ [(r.m.1, 17)] from by rw [HT.out, HD.out, hlk]; simp [hs])
        have hsb : (so == rt) = false := beq_eq_false_iff_ne.2 hs
        clear hlook hlk HT HD hs
        have HWA := Lib.hid (show Below w4.heap.size w4 (w4.alloc (.cells #[.string ⟨r.m.1.toArray⟩, .int .i64 17] 67)) from (Below.refl _ _).alloc (Nat.le_refl _) _)
        have HOA := Lib.hid (own_below2 HO4.out HWA.out)
        have b0 : X.length + 1 ≤ maxLen := by unfold maxLen; omega
        have b1 : (X.length + 1) * 24 ≤ 140737488355328 := by omega
        have hbz : w.heap.size ≤ (w4.alloc (.cells #[.string ⟨r.m.1.toArray⟩, .int .i64 17] 67)).heap.size := Nat.le_trans HB4.out.size HWA.out.size
        go_wp2_with (at_builtin; refine wpList_own rfl (.tmp 68) (.tmp 72) rfl w.heap.size elIssV (.slice Av X.length cv) X.length _ rfl HOA.out _ 1 _ _ rfl (Src.lit _ 2 _ _ 1 rfl) (by decide) (by simp [Value.oneCell']) b0 b1 hbz ?_; intro v' w7 hown7 hgrow7 hb7; obtain ⟨A8, c8, rfl⟩ := Acc.shape (.inl hown7); have HOWN := Lib.hid hown7; have HG7 := Lib.hid hgrow7; have HB7 := Lib.hid hb7; clear hown7 hgrow7 hb7)
        have HBn := Lib.hid ((HB4.out.trans (HWA.out.mono HB4.out.size)).trans HB7.out)
        have M17 := Lib.hid ((HM14.out.alloc _).kept HG7.out (fun e => own_ne_mapV HOA.out (HM14.out.alloc _) e.symm))
        have M27 := Lib.hid ((HM24.out.alloc _).kept HG7.out (fun e => own_ne_mapV HOA.out (HM24.out.alloc _) e.symm))
        go_roundw
        case rel => exact ⟨k + 1, X ++ [(r.m.1, 17)], A8, c8, by omega, by go_num, by rw [List.length_append]; rfl, by rw [List.length_append]; simp only [List.length_singleton]; omega, Lib.hid HS.out.symm, Lib.hid (by rw [List.length_append, flatI_snoc]; exact HOWN.out), M17, M27, HBn⟩
        case measure => first | (simp [intOf]; done) | (simp [intOf]; omega)
    ·obtain rfl : k = L.length := by omega
     have HXL := Lib.hid (show X = L.filterMap fun r => diffR E r.rel from by rw [HX.out, List.take_length])
     have HM2L := HM2
     rw [List.take_length] at HM2L
     obtain ⟨XL, hXL⟩ : ∃ XL, XL = L.filterMap fun r => diffR E r.rel := ⟨_, rfl⟩
     rw [← hXL] at HXL HFin
     clear hXL HX HM1 HM2
     go_wp2
     go_loopw [8, 77] (fun v i wr => ∃ (k : Nat) (X : List Iss) (Av : Option Addr) (cv : Nat), k ≤ E.length ∧ i = .int .i64 (k : Nat) ∧ v = .slice Av X.length cv ∧ X.length ≤ 100000 + k ∧ Hid (X = XL ++ (E.take k).filterMap (diffE (L.map RelA.rel))) ∧ Hid (wr.ownsRow w.heap.size 67 2 (.slice Av X.length cv) X.length (X.flatMap encI)) ∧ Hid (OMap KM wr wa.heap.size L.length (seenM (L.map RelA.m))) ∧ Hid (Below w.heap.size w wr)) (fun _ i _ => E.length - (intOf i).toNat)
     case atStart => exact ⟨0, X, Av, cv, Nat.zero_le _, rfl, rfl, by omega, Lib.hid (by rw [HXL.out]; simp), HO, HM2L, HB⟩
     case round =>
      clear HM2L HB HO HXL hXk
      obtain ⟨wo, hwo⟩ : ∃ wo, wo = wr := ⟨_, rfl⟩
      subst hwo
      obtain ⟨k, X, Av, cv, hk, rfl, rfl, hXk, HX, HO, HM2, HB⟩ := hrel
      by_cases hlt : k < E.length
      ·have hlt' : (k : Int) < (E.length : Int) := by omega
       obtain ⟨b, off, hA1, hbB, g0, g1, g2, g3, g4⟩ := ((HE.out.below HB.out).more HB.out.size).ent hlt
       have HK := Lib.hid (HEM.out _ (List.getElem_mem hlt))
       have HT := Lib.hid (show XL ++ (E.take (k + 1)).filterMap (diffE (L.map RelA.rel)) = X ++ (diffE (L.map RelA.rel) E[k]).toList by rw [fm_take _ hlt, HX.out, List.append_assoc])
       generalize E[k] = x at g0 g1 g2 g3 g4 HK HT
       have HD := Lib.hid (show diffE (L.map RelA.rel) x = if x.1 ∈ L.map RelA.m then none else some (x.1.1, 7) from by unfold diffE; rw [HMm.out])
       generalize diffE (L.map RelA.rel) x = dx at HT HD
       have HA1 := Lib.hid hA1
       subst hA1
       have HW1 := Lib.hid (show Below wo.heap.size wo (wo.alloc (.cells #[.string ⟨x.1.1.toArray⟩, .int .i64 x.1.2.1, .int .i64 x.1.2.2.1, .int .i64 x.1.2.2.2, .string ⟨x.2.toArray⟩] 49)) from (Below.refl _ _).alloc (Nat.le_refl _) _)
       have V1 := Blk.new wo 49 #[.string ⟨x.1.1.toArray⟩, .int .i64 x.1.2.1, .int .i64 x.1.2.2.1, .int .i64 x.1.2.2.2, .string ⟨x.2.toArray⟩]
       obtain ⟨u0, u1, u2, u3, u4⟩ := entC V1
       have HB1 := Lib.hid (HB.out.trans (HW1.out.mono HB.out.size))
       have HM21 := Lib.hid (HM2.out.alloc (.cells #[.string ⟨x.1.1.toArray⟩, .int .i64 x.1.2.1, .int .i64 x.1.2.2.1, .int .i64 x.1.2.2.2, .string ⟨x.2.toArray⟩] 49))
       have HO1 := Lib.hid (own_below2 HO.out HW1.out)
       have hlook := HM21.out.look Tryz.underlying136 (zeroBool _) x.1 HK.out
       rw [seenM_get] at hlook
       have hXb : X.length ≤ 200000 := by omega
       by_cases hm : x.1 ∈ L.map RelA.m
       ·rw [decide_eq_true hm] at hlook
        have hlook' : (Instr.lookup 136 (.map (some wa.heap.size)) (.agg #[.string ⟨x.1.1.toArray⟩, .int .i64 x.1.2.1, .int .i64 x.1.2.2.1, .int .i64 x.1.2.2.2]) false).run Tryz.prog _ = _ := hlook
        have HS := Lib.hid (show XL ++ (E.take (k + 1)).filterMap (diffE (L.map RelA.rel)) = X from by rw [HT.out, HD.out, if_pos hm]; simp)
        clear hlook hm HT HD V1
        go_wp2
        go_roundw
        case rel => exact ⟨k + 1, X, Av, cv, by omega, by go_num, rfl, by omega, Lib.hid HS.out.symm, HO1, HM21, HB1⟩
        case measure => first | (simp [intOf]; done) | (simp [intOf]; omega)
       ·rw [decide_eq_false hm] at hlook
        have hlook' : (Instr.lookup 136 (.map (some wa.heap.size)) (.agg #[.string ⟨x.1.1.toArray⟩, .int .i64 x.1.2.1, .int .i64 x.1.2.2.1, .int .i64 x.1.2.2.2]) false).run Tryz.prog _ = _ := hlook
        have HS := Lib.hid (show XL ++ (E.take (k + 1)).filterMap (diffE (L.map RelA.rel)) = X ++ [(x.1.1, 7)] from by rw [HT.out, HD.out, if_neg hm]; rfl)
        clear hlook hm HT HD V1
        go_upto_region 25 with fail
        clear hlook'
        have HB1' := HB1
        have HM21' := HM21
        have HO1' := HO1
        clear HB1 HM21 HO1 HW1
        generalize wo.alloc (.cells #[.string ⟨x.1.1.toArray⟩, .int .i64 x.1.2.1, .int .i64 x.1.2.2.1, .int .i64 x.1.2.2.2, .string ⟨x.2.toArray⟩] 49) = w1 at HB1' HM21' HO1' u0 u1 u2 u3 u4 ⊢
        have HWA := Lib.hid (show Below w1.heap.size w1 (w1.alloc (.cells #[.string ⟨x.1.1.toArray⟩, .int .i64 7] 67)) from (Below.refl _ _).alloc (Nat.le_refl _) _)
        have HOA := Lib.hid (own_below2 HO1'.out HWA.out)
        have b0 : X.length + 1 ≤ maxLen := by unfold maxLen; omega
        have b1 : (X.length + 1) * 24 ≤ 140737488355328 := by omega
        have hbz : w.heap.size ≤ (w1.alloc (.cells #[.string ⟨x.1.1.toArray⟩, .int .i64 7] 67)).heap.size := Nat.le_trans HB1'.out.size HWA.out.size
        go_wp2_with (at_builtin; refine wpList_own rfl (.tmp 86) (.tmp 91) rfl w.heap.size elIssV (.slice Av X.length cv) X.length _ rfl HOA.out _ 1 _ _ rfl (Src.lit _ 2 _ _ 1 rfl) (by decide) (by simp [Value.oneCell']) b0 b1 hbz ?_; intro v' w7 hown7 hgrow7 hb7; obtain ⟨A8, c8, rfl⟩ := Acc.shape (.inl hown7); have HOWN := Lib.hid hown7; have HG7 := Lib.hid hgrow7; have HB7 := Lib.hid hb7; clear hown7 hgrow7 hb7)
        have HBn := Lib.hid ((HB1'.out.trans (HWA.out.mono HB1'.out.size)).trans HB7.out)
        have M27 := Lib.hid ((HM21'.out.alloc _).kept HG7.out (fun e => own_ne_mapV HOA.out (HM21'.out.alloc _) e.symm))
        go_roundw
        case rel => exact ⟨k + 1, X ++ [(x.1.1, 7)], A8, c8, by omega, by go_num, by rw [List.length_append]; rfl, by rw [List.length_append]; simp only [List.length_singleton]; omega, Lib.hid HS.out.symm, Lib.hid (by rw [List.length_append, flatI_snoc]; exact HOWN.out), M27, HBn⟩
        case measure => first | (simp [intOf]; done) | (simp [intOf]; omega)
      ·obtain rfl : k = E.length := by omega
       have HRes := Lib.hid (show X = RR from by rw [HX.out, HFin.out, List.take_length])
       go_wp2
       go_ret
       exact ⟨_, rfl, NewRowK.of_owns (by rw [← HRes.out]; exact HO.out), HB.out⟩
end Go.Proofs.YthcgihgajdjfoaaGreatDoor
namespace Go.Proofs.YthcgihgajdjfoaaGreatDoor
open Go.RowKit Go.Sort
def updA (f : List UInt8 → Option Ver3) (m : Mod) : Bool := match f m.1 with
 | none => true
 | some v => decide (0 < vcmpV m.2 v)
def stepA (f : List UInt8 → Option Ver3) (m : Mod) : List UInt8 → Option Ver3 := if updA f m = true then fun p => if p = m.1 then some m.2 else f p else f
def bestA (V : List Mod) : List UInt8 → Option Ver3 := V.foldl stepA fun _ => none
theorem bestA_take {V : List Mod} {k : Nat} (hk : k < V.length) : bestA (V.take (k + 1)) = stepA (bestA (V.take k)) V[k] := by
 unfold bestA
 rw [List.take_succ_eq_append_getElem hk, List.foldl_append]
 rfl
theorem bestA_spec (p : List UInt8) (V : List Mod) : (∀ v, bestA V p = some v → (p, v) ∈ V ∧ ∀ m ∈ V, m.1 = p → vcmpV m.2 v ≤ 0) ∧ (bestA V p = none → ∀ m ∈ V, m.1 ≠ p) := by
 induction V using snoc_ind with
 | h0 => exact ⟨fun v h => by simp [bestA] at h, fun _ m hm => by cases hm⟩
 | h1 V x ih =>
   obtain ⟨i1, i2⟩ := ih
   have e : bestA (V ++ [x]) = stepA (bestA V) x := by unfold bestA; rw [List.foldl_append]; rfl
   rw [e]
   unfold stepA
   by_cases hu : updA (bestA V) x = true
   ·rw [if_pos hu]
    unfold updA at hu
    by_cases hp : p = x.1
    ·subst hp
     rw [if_pos rfl]
     refine ⟨fun v hv => ?_, fun h => by cases h⟩
     injection hv with hv
     subst hv
     refine ⟨by simp, fun m hm he => ?_⟩
     rcases List.mem_append.1 hm with hm | hm
     ·cases hb : bestA V x.1 with
      | none => exact absurd he (i2 hb m hm)
      | some u =>
        rw [hb] at hu
        have h1 := (i1 u hb).2 m hm he
        have h2 : 0 < vcmpV x.2 u := by simpa using hu
        have h3 := vcmpV_anti u x.2
        exact vcmpV_trans h1 (by omega)
     ·rw [List.mem_singleton.1 hm, vcmpV_refl]
      exact Int.le_refl _
    ·rw [if_neg hp]
     refine ⟨fun v hv => ?_, fun h m hm => ?_⟩
     ·obtain ⟨h1, h2⟩ := i1 v hv
      refine ⟨List.mem_append_left _ h1, fun m hm he => ?_⟩
      rcases List.mem_append.1 hm with hm | hm
      ·exact h2 m hm he
      ·rw [List.mem_singleton.1 hm] at he
       exact absurd he.symm hp
     ·rcases List.mem_append.1 hm with hm | hm
      ·exact i2 h m hm
      ·rw [List.mem_singleton.1 hm]
       exact fun h => hp h.symm
   ·rw [if_neg hu]
    refine ⟨fun v hv => ?_, fun h m hm => ?_⟩
    ·obtain ⟨h1, h2⟩ := i1 v hv
     refine ⟨List.mem_append_left _ h1, fun m hm he => ?_⟩
     rcases List.mem_append.1 hm with hm | hm
     ·exact h2 m hm he
     ·rw [List.mem_singleton.1 hm] at he ⊢
      unfold updA at hu
      rw [he, hv] at hu
      have : ¬ 0 < vcmpV x.2 v := by simpa using hu
      omega
    ·rcases List.mem_append.1 hm with hm | hm
     ·exact i2 h m hm
     ·rw [List.mem_singleton.1 hm]
      intro he
      unfold updA at hu
      rw [he, h] at hu
      simp at hu
theorem stale_best {L : List Rel} {r : Rel} {v : Ver3} (hr : r ∈ L) (hb : bestA (L.map (·.1)) r.1.1 = some v) : metP L r.1 true = !decide (r.1.2 = v) := by
 obtain ⟨h1, h2⟩ := (bestA_spec r.1.1 (L.map (·.1))).1 v hb
 rw [Bool.eq_iff_iff]
 unfold metP
 rw [List.any_eq_true]
 simp only [Bool.and_eq_true, decide_eq_true_eq, if_true, Bool.not_eq_true', decide_eq_false_iff_not]
 constructor
 ·rintro ⟨q, hq, e, h⟩ he
  have := h2 q.1 (List.mem_map.2 ⟨q, hq, rfl⟩) e
  rw [he] at h
  omega
 ·intro he
  obtain ⟨q, hq, hq'⟩ := List.mem_map.1 h1
  have h3 := h2 r.1 (List.mem_map.2 ⟨r, hr, rfl⟩) rfl
  have h4 : vcmpV r.1.2 v ≠ 0 := fun h => he (vcmpV_eq h)
  have h5 := vcmpV_anti v r.1.2
  refine ⟨q, hq, by rw [hq'], ?_⟩
  rw [hq']
  show 0 < vcmpV v r.1.2
  omega
theorem best_in {L : List Rel} {r : Rel} (hr : r ∈ L) : ∃ v, bestA (L.map (·.1)) r.1.1 = some v := by
 cases hb : bestA (L.map (·.1)) r.1.1 with
 | some v => exact ⟨v, rfl⟩
 | none => exact absurd rfl ((bestA_spec _ _).2 hb r.1 (List.mem_map.2 ⟨r, hr, rfl⟩))
theorem met_best (L : List Rel) (m : Mod) : metP L m false = !updA (bestA (L.map (·.1))) m := by
 unfold updA
 rw [Bool.eq_iff_iff]
 unfold metP
 rw [List.any_eq_true]
 simp only [Bool.and_eq_true, decide_eq_true_eq, Bool.false_eq_true, if_false]
 cases hb : bestA (L.map (·.1)) m.1 with
 | none =>
   simp only [Bool.not_true, Bool.false_eq_true, iff_false]
   rintro ⟨q, hq, e, _⟩
   exact (bestA_spec _ _).2 hb q.1 (List.mem_map.2 ⟨q, hq, rfl⟩) e
 | some v =>
   obtain ⟨h1, h2⟩ := (bestA_spec m.1 (L.map (·.1))).1 v hb
   simp only [Bool.not_eq_true', decide_eq_false_iff_not]
   constructor
   ·rintro ⟨q, hq, e, h⟩
    have h3 := h2 q.1 (List.mem_map.2 ⟨q, hq, rfl⟩) e
    have h4 := vcmpV_anti m.2 q.1.2
    have h5 := vcmpV_trans (a := m.2) (b := q.1.2) (c := v) (by omega) h3
    omega
   ·intro h
    obtain ⟨q, hq, hq'⟩ := List.mem_map.1 h1
    refine ⟨q, hq, by rw [hq'], ?_⟩
    rw [hq']
    have := vcmpV_anti v m.2
    show 0 ≤ vcmpV v m.2
    omega
end Go.Proofs.YthcgihgajdjfoaaGreatDoor
